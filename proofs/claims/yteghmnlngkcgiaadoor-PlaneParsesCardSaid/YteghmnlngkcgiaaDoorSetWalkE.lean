/- Sets: Next, the program's. -/
import Derived.Test.YteghmnlngkcgiaaDoorSetWalkB
import Derived.Test.YteghmnlngkcgiaaDoorSetSpecC
import Derived.Test.YteghmnlngkcgiaaDoorShelf
namespace Go.Proofs.YteghmnlngkcgiaaDoor.Sets
open Go.RowKit Mem

theorem shl_high (c j : Nat) (hc : c < 256) : IntKind.u8.wrap ((c : Int) / 2 ^ j * 2 ^ j) = ((high c j : Nat) : Int) := by
  have e : ((c : Int) / 2 ^ j * 2 ^ j) = ((high c j : Nat) : Int) := by
    rw [high, Int.natCast_mul, Int.natCast_ediv, Int.natCast_pow]; rfl
  have h := high_le c j
  rw [e, IntKind.wrap_u8]
  omega

set_option maxRecDepth 100000 in
set_option maxHeartbeats 1000000 in
theorem next_any (s : ByteArray) (a : Int) (w : World) (ha : a ≤ 9223372036854775807) (hs : s.size ≤ 140737488355328) :
    Calls Tryd.prog 37 #[.string s, .int .i64 a] w fun en w' => en = .returned (toldVal (next s.data.toList a)) ∧ w' = w := by
  obtain ⟨m0, hm0⟩ := Int.eq_ofNat_of_zero_le (show 0 ≤ max 0 a by omega)
  obtain ⟨R, hR⟩ : ∃ z, z = seek (has s.data.toList) (8 * s.size - m0) m0 := ⟨_, rfl⟩
  have hg : next s.data.toList a = told R := by
    rw [next, hm0, Int.toNat_natCast, ← Lib.size_eq s, hR]
  rw [hg]
  have hm0' : max 0 a = (m0 : Int) := hm0
  obtain ⟨i0, hi0⟩ : ∃ z, z = m0 / 8 := ⟨_, rfl⟩
  obtain ⟨j0, hj0⟩ : ∃ z, z = m0 % 8 := ⟨_, rfl⟩
  have ei : (m0 : Int) / 8 = (i0 : Int) := by rw [hi0]; rfl
  have ej : (m0 : Int) % 8 = (j0 : Int) := by rw [hj0]; rfl
  have hi60 : i0 ≤ 1152921504606846976 := by omega
  have hj8 : j0 < 8 := by omega
  have hm : m0 = 8 * i0 + j0 := by omega
  rw [hm] at hR
  clear hm0 hg
  replace hR := Lib.hid hR
  replace hi0 := Lib.hid hi0
  replace hj0 := Lib.hid hj0
  replace hm := Lib.hid hm
  have hsl := Lib.hid (Lib.size_eq s)
  go_enter Tryd.func37, Tryd.ntmps37
  go_wp2_with fail
  go_loop [6] (fun y => ∃ i : Nat, i0 ≤ i ∧ y = .int .i64 (i : Int) ∧ R = seek (has s.data.toList) (8 * s.size - (8 * i + (if i = i0 then j0 else 0))) (8 * i + (if i = i0 then j0 else 0))) (fun y => s.size - (intOf y).toNat)
  case atStart => exact ⟨i0, Nat.le_refl _, rfl, by rw [if_pos rfl]; exact hR.out⟩
  case round =>
    obtain ⟨i, hii, rfl, hr⟩ := hrel
    by_cases hlt : i < s.size
    · by_cases hi : i = i0
      · subst hi
        rw [if_pos rfl] at hr
        have hsh := shl_high s[i].toNat j0 s[i].toNat_lt
        have hsk := hr
        have hb : s[i] = s.data.toList[i]'(by rw [← hsl.out]; exact hlt) := rfl
        by_cases hc : high s[i].toNat j0 = 0
        · have hn := seek_miss (l := s.data.toList) (i := i) (r := j0) (k := 8 * s.size - (8 * i + j0)) (by rw [← hsl.out]; exact hlt) (by omega) (by rw [← hsl.out]; omega) (by rw [← hb]; exact hc)
          rw [hn, ← hsl.out] at hsk
          replace hsk := Lib.hid hsk
          clear hr hn hb
          go_wp2_with fail
          go_round
          case rel => exact ⟨i + 1, by omega, by go_num, by rw [if_neg (by omega), Nat.add_zero]; exact hsk.out⟩
          case measure => simp [intOf]; omega
        · have hn := seek_hit (l := s.data.toList) (i := i) (r := j0) (k := 8 * s.size - (8 * i + j0)) (by rw [← hsl.out]; exact hlt) (by omega) (by rw [← hsl.out]; omega) (by rw [← hb]; exact hc)
          rw [hn, ← hb] at hsk
          have ht := (tz_spec (x := high s[i].toNat j0) (by have := high_le s[i].toNat j0; have := s[i].toNat_lt; omega) hc).1
          have k1 := Tryd.bits_TrailingZeros8 ((high s[i].toNat j0 : Nat) : Int) w (by omega) (by have := high_le s[i].toNat j0; have := s[i].toNat_lt; omega)
          rw [Int.toNat_natCast] at k1
          generalize Lib.trailingZeros8 (high s[i].toNat j0) = t at hsk k1 ht
          replace hsk := Lib.hid hsk
          replace k1 := Lib.hid k1
          clear hr hn hb
          go_wp2_with fail
          refine k1.out.mono ?_
          rintro en w2 ⟨rfl, rfl⟩
          go_wp2_with fail
          go_ret2
          rw [hsk.out]
          refine ⟨?_, rfl⟩
          show Ending.returned (Value.tuple #[.int .i64 ((i : Int) * 8 + (t : Int)), .bool true]) = Ending.returned (Value.tuple #[.int .i64 ((8 * i + t : Nat) : Int), .bool true])
          rw [show ((8 * i + t : Nat) : Int) = (i : Int) * 8 + (t : Int) by omega]
      · rw [if_neg hi] at hr
        have hsk := hr
        have hb : s[i] = s.data.toList[i]'(by rw [← hsl.out]; exact hlt) := rfl
        by_cases hc : s[i].toNat = 0
        · have hn := seek_miss (l := s.data.toList) (i := i) (r := 0) (k := 8 * s.size - (8 * i + 0)) (by rw [← hsl.out]; exact hlt) (by omega) (by rw [← hsl.out]; omega) (by rw [← hb]; exact (high_zero _).trans hc)
          rw [hn, ← hsl.out] at hsk
          replace hsk := Lib.hid hsk
          clear hr hn hb
          go_wp2_with fail
          go_round
          case rel => exact ⟨i + 1, by omega, by go_num, by rw [if_neg (by omega), Nat.add_zero]; exact hsk.out⟩
          case measure => simp [intOf]; omega
        · have hn := seek_hit (l := s.data.toList) (i := i) (r := 0) (k := 8 * s.size - (8 * i + 0)) (by rw [← hsl.out]; exact hlt) (by omega) (by rw [← hsl.out]; omega) (by rw [← hb]; exact fun h => hc ((high_zero _).symm.trans h))
          rw [hn, ← hb, high_zero] at hsk
          have ht := (tz_spec (x := s[i].toNat) (by have := high_le s[i].toNat 0; have := s[i].toNat_lt; omega) hc).1
          have k1 := Tryd.bits_TrailingZeros8 ((s[i].toNat : Nat) : Int) w (by omega) (by have := high_le s[i].toNat 0; have := s[i].toNat_lt; omega)
          rw [Int.toNat_natCast] at k1
          generalize Lib.trailingZeros8 (s[i].toNat) = t at hsk k1 ht
          replace hsk := Lib.hid hsk
          replace k1 := Lib.hid k1
          clear hr hn hb
          go_wp2_with fail
          refine k1.out.mono ?_
          rintro en w2 ⟨rfl, rfl⟩
          go_wp2_with fail
          go_ret2
          rw [hsk.out]
          refine ⟨?_, rfl⟩
          show Ending.returned (Value.tuple #[.int .i64 ((i : Int) * 8 + (t : Int)), .bool true]) = Ending.returned (Value.tuple #[.int .i64 ((8 * i + t : Nat) : Int), .bool true])
          rw [show ((8 * i + t : Nat) : Int) = (i : Int) * 8 + (t : Int) by omega]
    · have hn : R = none := by
        rw [hr]
        refine seek_eq_none fun x h1 h2 => ?_
        exact has_beyond (by rw [← hsl.out]; omega)
      clear hr
      replace hn := Lib.hid hn
      go_wp2_with fail
      go_ret2
      rw [hn.out]
      exact ⟨rfl, rfl⟩
end Go.Proofs.YteghmnlngkcgiaaDoor.Sets

/- Sets: Gap, the program's. -/
import Derived.Test.YthclfljmnljhdaaDoorSetWalkA
import Derived.Test.YthclfljmnljhdaaDoorSetSpecB
import Derived.Lib.MinMax
namespace Go.Proofs.YthclfljmnljhdaaDoor.Sets
open Go.RowKit Mem

/-- what is told, as a value -/
def toldVal (r : Int × Bool) : Value := .tuple #[.int .i64 r.1, .bool r.2]

set_option maxRecDepth 100000 in
set_option maxHeartbeats 1000000 in
theorem gap_any (s : ByteArray) (a e : Int) (w : World) (he : e ≤ 9223372036854775807) :
    Calls Tryd.prog 23 #[.string s, .int .i64 a, .int .i64 e] w fun en w' => en = .returned (toldVal (gap s.data.toList a e)) ∧ w' = w := by
  obtain ⟨m0, hm0⟩ := Int.eq_ofNat_of_zero_le (show 0 ≤ max 0 a by omega)
  have hg : gap s.data.toList a e = told (seek (fun m => !has s.data.toList m) (e - (m0 : Int)).toNat m0) := by
    rw [gap, hm0, Int.toNat_natCast]
  rw [hg]
  have hm0' : max 0 a = (m0 : Int) := hm0
  clear hm0 hg
  obtain ⟨R, hR⟩ : ∃ z, z = seek (fun m => !has s.data.toList m) (e - (m0 : Int)).toNat m0 := ⟨_, rfl⟩
  rw [← hR]
  replace hR := Lib.hid hR
  go_enter Tryd.func23, Tryd.ntmps23
  go_wp2_with fail
  go_loop [8] (fun y => ∃ m : Nat, R = seek (fun m => !has s.data.toList m) (e - (m : Int)).toNat m ∧ y = .int .i64 (m : Int)) (fun y => (e - intOf y).toNat)
  case atStart => exact ⟨m0, hR.out, rfl⟩
  case round =>
    obtain ⟨m, hr, rfl⟩ := hrel
    by_cases hlt : (m : Int) < e
    · obtain ⟨k, hk⟩ : ∃ k, (e - (m : Int)).toNat = k + 1 := ⟨(e - (m : Int)).toNat - 1, by omega⟩
      have hk2 : (e - ((m + 1 : Nat) : Int)).toNat = k := by omega
      rw [hk, seek] at hr
      have c1 := has_any s (m : Int) w (by omega)
      rw [hasI, decide_eq_true (by omega), Bool.true_and, Int.toNat_natCast] at c1
      by_cases hh : has s.data.toList m = true
      · rw [hh] at c1
        rw [if_neg (by simp [hh]), ← hk2] at hr
        replace hr := Lib.hid hr
        replace hk := Lib.hid hk
        replace hk2 := Lib.hid hk2
        replace c1 := Lib.hid c1
        replace hh := Lib.hid hh
        go_wp2_with fail
        refine c1.out.mono ?_
        rintro en w2 ⟨rfl, rfl⟩
        go_wp2_with fail
        go_round
        case rel => exact ⟨m + 1, hr.out, by go_num⟩
        case measure => simp [intOf]; omega
      · have hf : has s.data.toList m = false := by simpa using hh
        rw [hf] at c1
        rw [if_pos (by simp [hf])] at hr
        replace c1 := Lib.hid c1
        replace hr := Lib.hid hr
        clear hh hf hk hk2
        go_wp2_with fail
        refine c1.out.mono ?_
        rintro en w2 ⟨rfl, rfl⟩
        go_wp2_with fail
        go_ret2
        rw [hr.out]
        exact ⟨rfl, rfl⟩
    · have hn : R = none := by rw [hr, show (e - (m : Int)).toNat = 0 by omega]; rfl
      clear hr
      replace hn := Lib.hid hn
      go_wp2_with fail
      go_ret2
      rw [hn.out]
      exact ⟨rfl, rfl⟩
end Go.Proofs.YthclfljmnljhdaaDoor.Sets

/- Sets: Of, both, of any numbers. -/
import Derived.Test.YteghmnlngkcgiaaDoorSetWalkI
namespace Go.Proofs.YteghmnlngkcgiaaDoor.Sets
open Go.RowKit Mem

set_option maxRecDepth 100000 in
set_option maxHeartbeats 1000000 in
theorem rof_bad (A : Option Addr) (n c : Nat) (l : List Int) (w : World) (hr : Row w A n (l.map (Value.int .i64))) (hn : n ≤ 9223372036854775807) (hbad : l.any bad = true) :
    Calls Tryd.prog 50 #[.slice A n c] w fun e w' => e = .returned (.tuple #[.string ⟨#[]⟩, .int .i64 10]) ∧ Below w.heap.size w w' := by
  have hln : l.length = n := by have := hr.1; simpa using this
  replace hln := Lib.hid hln
  replace hr := Lib.hid hr
  replace hbad := Lib.hid hbad
  go_enter Tryd.func50, Tryd.ntmps50
  go_wp2_with fail
  have b0 : Below w.heap.size w (w.alloc (.cells #[] 5)) := (Below.refl _ w).alloc (Nat.le_refl _) _
  generalize hb : Value.slice (some ⟨w.heap.size, 0, none⟩) 0 0 = bv
  generalize w.alloc (.cells #[] 5) = w1 at b0 ⊢
  replace hb := Lib.hid hb
  have hr1 := Lib.hid (hr.out.below b0)
  go_loop [5] (fun y => ∃ k : Nat, k ≤ n ∧ y = .int .i64 (k : Int) ∧ (l.take k).any bad = false) (fun y => n - (intOf y).toNat)
  case atStart => exact ⟨0, Nat.zero_le _, rfl, rfl⟩
  case round =>
    obtain ⟨k, hk, rfl, hno⟩ := hrel
    by_cases hlt : k < n
    · obtain ⟨ad, u, rfl, hu, hc⟩ := hr1.out.at_ hlt
      obtain ⟨X, hX, rfl⟩ := getMap_int hu
      by_cases hx0 : X < 0
      · replace hX := Lib.hid hX
        replace hno := Lib.hid hno
        clear hu
        have hd1 : decide (X < 0) = true := decide_eq_true hx0
        go_wp2_with fail
        go_ret2
        exact ⟨rfl, b0⟩
      · by_cases hx1 : 65535 < X
        · replace hX := Lib.hid hX
          replace hno := Lib.hid hno
          clear hu
          have hd1 : decide (X < 0) = false := decide_eq_false hx0
          have hd2 : decide ((65535 : Int) < X) = true := decide_eq_true hx1
          go_wp2_with fail
          go_ret2
          exact ⟨rfl, b0⟩
        · have hno2 : (l.take (k + 1)).any bad = false := by
            rw [List.take_add_one, hX, List.any_append, hno]
            simp [bad, hx0, hx1]
          replace hno2 := Lib.hid hno2
          replace hX := Lib.hid hX
          replace hno := Lib.hid hno
          clear hu
          have hd1 : decide (X < 0) = false := decide_eq_false hx0
          have hd2 : decide ((65535 : Int) < X) = false := decide_eq_false hx1
          go_wp2_with fail
          go_round
          case rel => exact ⟨k + 1, by omega, by go_num, hno2.out⟩
          case measure => simp [intOf]; omega
    · exfalso
      have h := hbad.out
      rw [List.take_of_length_le (by rw [hln.out]; omega)] at hno
      rw [hno] at h
      cases h

/-- what Of answers -/
def ofOut (l : List Int) : List UInt8 × Int := if l.any bad = true then ([], 10) else (ofL (l.map Int.toNat), 0)
theorem of_out (A : Option Addr) (n c : Nat) (l : List Int) (w : World) (hr : Row w A n (l.map (Value.int .i64))) (hn : n ≤ 9223372036854775807) :
    Calls Tryd.prog 35 #[.slice A n c] w fun e w' => e = .returned (.tuple #[.string ⟨(ofOut l).1.toArray⟩, .int .i64 (ofOut l).2]) ∧ Below w.heap.size w w' := by
  by_cases hb : l.any bad = true
  · rw [ofOut, if_pos hb]
    exact (of_bad A n c l w hr hn hb).mono fun e w' ⟨h1, h2⟩ => ⟨h1, by rw [h2]; exact Below.refl _ _⟩
  · have hok : l.any bad = false := by simpa using hb
    rw [ofOut, if_neg hb]
    by_cases h0 : 0 < n
    · exact of_some A n c l w hr hn h0 hok
    · obtain rfl : n = 0 := by omega
      have hl : l = [] := by
        have := hr.1
        simpa using this
      rw [hl]
      exact (of_nil A c w).mono fun e w' ⟨h1, h2⟩ => ⟨h1, by rw [h2]; exact Below.refl _ _⟩
theorem rof_out (A : Option Addr) (n c : Nat) (l : List Int) (w : World) (hr : Row w A n (l.map (Value.int .i64))) (hn : n ≤ 9223372036854775807) :
    Calls Tryd.prog 50 #[.slice A n c] w fun e w' => e = .returned (.tuple #[.string ⟨(ofOut l).1.toArray⟩, .int .i64 (ofOut l).2]) ∧ Below w.heap.size w w' := by
  by_cases hb : l.any bad = true
  · rw [ofOut, if_pos hb]
    exact rof_bad A n c l w hr hn hb
  · rw [ofOut, if_neg hb]
    exact rof_any A n c l w hr hn (by simpa using hb)
end Go.Proofs.YteghmnlngkcgiaaDoor.Sets

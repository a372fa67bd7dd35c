/- Sets: has a text a number, the byte at a place: the program's and the document's. -/
import Derived.Test.YteghmnlngkcgiaaDoorProg
import Derived.Test.YteghmnlngkcgiaaDoorSetSpec
import Derived.Test.YteghmnlngkcgiaaDoorWords
import Derived.WalkKit
import Derived.KernelRfl
import Derived.Lib.Hide
import Derived.Lib.Strings
import Derived.Laws.Shifts
import Derived.Laws.BitsAllLaws
import Derived.Deep.QuietTactic
import Derived.BigQuiet
namespace Go.Proofs.YteghmnlngkcgiaaDoor.Sets
open Go.RowKit Mem

/-- the byte at a place, nought beyond the end -/
def byteAt (l : List UInt8) (i : Nat) : UInt8 := l[i]?.getD 0
def hasI (l : List UInt8) (n : Int) : Bool := decide (0 ≤ n) && has l n.toNat

theorem and_one (c j : Nat) (hc : c < 256) : bits .and .u8 ((c : Int) / 2 ^ j) 1 = ((c / 2 ^ j % 2 : Nat) : Int) := by
  have e : ((c : Int) / 2 ^ j) = ((c / 2 ^ j : Nat) : Int) := by rw [Int.natCast_ediv, Int.natCast_pow]; rfl
  have hl : c / 2 ^ j < 256 := Nat.lt_of_le_of_lt (Nat.div_le_self _ _) hc
  rw [e, ← nat_mask1]
  exact u8_and_nat (c / 2 ^ j) 1 hl (by decide)

set_option maxRecDepth 100000 in
set_option maxHeartbeats 1000000 in
theorem has_any (s : ByteArray) (n : Int) (w : World) (hn : n ≤ 9223372036854775807) :
    Calls Tryd.prog 39 #[.string s, .int .i64 n] w fun e w' => e = .returned (.bool (hasI s.data.toList n)) ∧ w' = w := by
  by_cases h0 : 0 ≤ n
  · obtain ⟨m, rfl⟩ := Int.eq_ofNat_of_zero_le h0
    obtain ⟨i, hi⟩ : ∃ z, z = m / 8 := ⟨_, rfl⟩
    obtain ⟨j, hj⟩ : ∃ z, z = m % 8 := ⟨_, rfl⟩
    have ei : (m : Int) / 8 = (i : Int) := by rw [hi]; rfl
    have ej : (m : Int) % 8 = (j : Int) := by rw [hj]; rfl
    have hi60 : i ≤ 1152921504606846976 := by omega
    have hj8 : j < 8 := by omega
    by_cases hlt : i < s.size
    · have hv : hasI s.data.toList m = decide ((s[i].toNat / 2 ^ j) % 2 = 1) := by
        rw [hasI, decide_eq_true h0, Bool.true_and, has, Int.toNat_natCast, ← hi, ← hj, Array.getElem?_toList, Array.getElem?_eq_getElem hlt]
        exact Nat.testBit_eq_decide_div_mod_eq
      have ea := and_one s[i].toNat j s[i].toNat_lt
      rw [hv]
      replace hi := Lib.hid hi
      replace hj := Lib.hid hj
      clear hv h0
      have h0 : (0 : Int) ≤ (m : Int) := by omega
      go_enter Tryd.func39, Tryd.ntmps39
      go_wp2_with fail
      go_ret
      refine ⟨?_, rfl⟩
      show Ending.returned (Value.bool (((s[i].toNat / 2 ^ j % 2 : Nat) : Int) == 1)) = _
      refine congrArg (fun b => Ending.returned (Value.bool b)) ?_
      rw [Bool.eq_iff_iff]
      simp only [beq_iff_eq, decide_eq_true_eq]
      omega
    · have hv : hasI s.data.toList m = false := by
        rw [hasI, has_beyond (by rw [Int.toNat_natCast, ← Lib.size_eq s]; omega), Bool.and_false]
      rw [hv]
      replace hi := Lib.hid hi
      replace hj := Lib.hid hj
      clear hv h0
      have h0 : (0 : Int) ≤ (m : Int) := by omega
      have hd : decide ((i : Int) < (s.size : Int)) = false := decide_eq_false (by omega)
      go_enter Tryd.func39, Tryd.ntmps39
      go_wp2_with fail
      go_ret
      exact ⟨rfl, rfl⟩
  · have hv : hasI s.data.toList n = false := by rw [hasI, decide_eq_false h0, Bool.false_and]
    rw [hv]
    have hd : decide ((0 : Int) ≤ n) = false := decide_eq_false h0
    go_enter Tryd.func39, Tryd.ntmps39
    go_wp2_with fail
    go_ret
    exact ⟨rfl, rfl⟩

set_option maxRecDepth 100000 in
set_option maxHeartbeats 1000000 in
theorem at_any (s : ByteArray) (i : Nat) (w : World) :
    Calls Tryd.prog 57 #[.string s, .int .i64 (i : Int)] w fun e w' => e = .returned (.int .u8 ((byteAt s.data.toList i).toNat : Int)) ∧ w' = w := by
  by_cases hlt : i < s.size
  · have hv : byteAt s.data.toList i = s[i] := by
      rw [byteAt, Array.getElem?_toList, Array.getElem?_eq_getElem hlt]; rfl
    rw [hv]
    go_enter Tryd.func57, Tryd.ntmps57
    go_wp2_with fail
    go_ret
    exact ⟨rfl, rfl⟩
  · have hv : byteAt s.data.toList i = 0 := by
      rw [byteAt, List.getElem?_eq_none (by rw [← Lib.size_eq s]; omega)]; rfl
    rw [hv]
    go_enter Tryd.func57, Tryd.ntmps57
    go_wp2_with fail
    go_ret
    exact ⟨rfl, rfl⟩

set_option maxRecDepth 100000 in
set_option maxHeartbeats 1000000 in
theorem rhas_any (s : ByteArray) (n : Int) (w : World) (hn : n ≤ 9223372036854775807) :
    Calls Tryd.prog 47 #[.string s, .int .i64 n] w fun e w' => e = .returned (.bool (hasI s.data.toList n)) ∧ w' = w := by
  by_cases h0 : 0 ≤ n
  · obtain ⟨m, rfl⟩ := Int.eq_ofNat_of_zero_le h0
    obtain ⟨i, hi⟩ : ∃ z, z = m / 8 := ⟨_, rfl⟩
    obtain ⟨j, hj⟩ : ∃ z, z = m % 8 := ⟨_, rfl⟩
    have ei : (m : Int) / 8 = (i : Int) := by rw [hi]; rfl
    have ej : (m : Int) % 8 = (j : Int) := by rw [hj]; rfl
    have hi60 : i ≤ 1152921504606846976 := by omega
    have hj8 : j < 8 := by omega
    by_cases hlt : i < s.size
    · have hv : hasI s.data.toList m = decide ((s[i].toNat / 2 ^ j) % 2 = 1) := by
        rw [hasI, decide_eq_true h0, Bool.true_and, has, Int.toNat_natCast, ← hi, ← hj, Array.getElem?_toList, Array.getElem?_eq_getElem hlt]
        exact Nat.testBit_eq_decide_div_mod_eq
      rw [hv]
      replace hi := Lib.hid hi
      replace hj := Lib.hid hj
      clear hv h0
      have h0 : (0 : Int) ≤ (m : Int) := by omega
      go_enter Tryd.func47, Tryd.ntmps47
      go_wp2_with fail
      go_ret
      refine ⟨?_, rfl⟩
      show Ending.returned (Value.bool ((wrap64 (s[i].toNat : Int) / 2 ^ j).tmod 2 == 1)) = _
      have hc := s[i].toNat_lt
      rw [IntWalk.wrap64_in _ ⟨by omega, by omega⟩, show ((s[i].toNat : Int) / 2 ^ j).tmod 2 = ((s[i].toNat / 2 ^ j % 2 : Nat) : Int) by rw [show ((s[i].toNat : Int) / 2 ^ j) = ((s[i].toNat / 2 ^ j : Nat) : Int) by rw [Int.natCast_ediv, Int.natCast_pow]; rfl]; rfl]
      refine congrArg (fun b => Ending.returned (Value.bool b)) ?_
      rw [Bool.eq_iff_iff]
      simp only [beq_iff_eq, decide_eq_true_eq]
      omega
    · have hv : hasI s.data.toList m = false := by
        rw [hasI, has_beyond (by rw [Int.toNat_natCast, ← Lib.size_eq s]; omega), Bool.and_false]
      rw [hv]
      replace hi := Lib.hid hi
      replace hj := Lib.hid hj
      clear hv h0
      have h0 : (0 : Int) ≤ (m : Int) := by omega
      have hd : decide ((i : Int) < (s.size : Int)) = false := decide_eq_false (by omega)
      go_enter Tryd.func47, Tryd.ntmps47
      go_wp2_with fail
      go_ret
      exact ⟨rfl, rfl⟩
  · have hv : hasI s.data.toList n = false := by rw [hasI, decide_eq_false h0, Bool.false_and]
    rw [hv]
    have hd : decide ((0 : Int) ≤ n) = false := decide_eq_false h0
    go_enter Tryd.func47, Tryd.ntmps47
    go_wp2_with fail
    go_ret
    exact ⟨rfl, rfl⟩
end Go.Proofs.YteghmnlngkcgiaaDoor.Sets

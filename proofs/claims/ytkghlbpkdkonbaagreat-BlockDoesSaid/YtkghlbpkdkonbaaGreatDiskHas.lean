/- Has: is a number in a set of bytes? The program's and the document's. -/
import Derived.Test.YtkghlbpkdkonbaaGreatDiskPl
import Derived.Test.YtkghlbpkdkonbaaGreatProg
import Derived.Test.YtkghlbpkdkonbaaGreatMems
import Derived.WalkKit
import Derived.KernelRfl
import Derived.Lib.Hide
import Derived.Laws.Shifts
import Derived.Laws.BitsAllLaws
import Derived.Deep.QuietTactic
import Derived.BigQuiet
namespace Go.Proofs.YtkghlbpkdkonbaaGreat.Disk
open Go Go.RowKit Mem

set_option maxRecDepth 100000 in
theorem and_one (c j : Nat) (hc : c < 256) : bits .and .u8 ((c : Int) / 2 ^ j) 1 = ((c / 2 ^ j % 2 : Nat) : Int) := by
  have e : ((c : Int) / 2 ^ j) = ((c / 2 ^ j : Nat) : Int) := by rw [Int.natCast_ediv, Int.natCast_pow]; rfl
  have hl : c / 2 ^ j < 256 := Nat.lt_of_le_of_lt (Nat.div_le_self _ _) hc
  rw [e, ← nat_mask1]
  exact u8_and_nat (c / 2 ^ j) 1 hl (by decide)

set_option maxRecDepth 100000 in
set_option maxHeartbeats 1000000 in
theorem has_any (s : ByteArray) (m : Nat) (w : World) (hn : m ≤ 9223372036854775807) :
    Calls Tryz.prog 89 #[.string s, .int .i64 (m : Int)] w fun e w' => e = .returned (.bool (hasN s m)) ∧ w' = w := by
  · obtain ⟨i, hi⟩ : ∃ z, z = m / 8 := ⟨_, rfl⟩
    obtain ⟨j, hj⟩ : ∃ z, z = m % 8 := ⟨_, rfl⟩
    have ei : (m : Int) / 8 = (i : Int) := by rw [hi]; rfl
    have ej : (m : Int) % 8 = (j : Int) := by rw [hj]; rfl
    have hi60 : i ≤ 1152921504606846976 := by omega
    have hj8 : j < 8 := by omega
    by_cases hlt : i < s.size
    · have hv : hasN s m = decide ((s[i].toNat / 2 ^ j) % 2 = 1) := by
        rw [hasN, ← hi, ← hj, Array.getElem?_toList, Array.getElem?_eq_getElem hlt]
        rfl
      have ea := and_one s[i].toNat j s[i].toNat_lt
      rw [hv]
      replace hi := Lib.hid hi
      replace hj := Lib.hid hj
      clear hv
      have h0 : (0 : Int) ≤ (m : Int) := by omega
      go_enter Tryz.func89, Tryz.ntmps89
      go_wp2_with fail
      go_ret
      refine ⟨?_, rfl⟩
      show Ending.returned (Value.bool (((s[i].toNat / 2 ^ j % 2 : Nat) : Int) == 1)) = _
      refine congrArg (fun b => Ending.returned (Value.bool b)) ?_
      rw [Bool.eq_iff_iff]
      simp only [beq_iff_eq, decide_eq_true_eq]
      omega
    · have hv : hasN s m = false := by
        rw [hasN, ← hi, List.getElem?_eq_none (by rw [← Lib.size_eq s]; omega)]
        have := Nat.zero_div (2 ^ (m % 8))
        show ((0 : Nat) / 2 ^ (m % 8) % 2 == 1) = false
        rw [this]; rfl
      rw [hv]
      replace hi := Lib.hid hi
      replace hj := Lib.hid hj
      clear hv
      have h0 : (0 : Int) ≤ (m : Int) := by omega
      have hd : decide ((i : Int) < (s.size : Int)) = false := decide_eq_false (by omega)
      go_enter Tryz.func89, Tryz.ntmps89
      go_wp2_with fail
      go_ret
      exact ⟨rfl, rfl⟩
set_option maxRecDepth 100000 in
set_option maxHeartbeats 1000000 in
theorem rhas_any (s : ByteArray) (m : Nat) (w : World) (hn : m ≤ 9223372036854775807) :
    Calls Tryz.prog 90 #[.string s, .int .i64 (m : Int)] w fun e w' => e = .returned (.bool (hasN s m)) ∧ w' = w := by
  · obtain ⟨i, hi⟩ : ∃ z, z = m / 8 := ⟨_, rfl⟩
    obtain ⟨j, hj⟩ : ∃ z, z = m % 8 := ⟨_, rfl⟩
    have ei : (m : Int) / 8 = (i : Int) := by rw [hi]; rfl
    have ej : (m : Int) % 8 = (j : Int) := by rw [hj]; rfl
    have hi60 : i ≤ 1152921504606846976 := by omega
    have hj8 : j < 8 := by omega
    by_cases hlt : i < s.size
    · have hv : hasN s m = decide ((s[i].toNat / 2 ^ j) % 2 = 1) := by
        rw [hasN, ← hi, ← hj, Array.getElem?_toList, Array.getElem?_eq_getElem hlt]
        rfl
      rw [hv]
      replace hi := Lib.hid hi
      replace hj := Lib.hid hj
      clear hv
      have h0 : (0 : Int) ≤ (m : Int) := by omega
      go_enter Tryz.func90, Tryz.ntmps90
      go_wp2_with fail
      go_ret
      refine ⟨?_, rfl⟩
      show Ending.returned (Value.bool ((wrap64 (s[i].toNat : Int) / 2 ^ j).tmod 2 == 1)) = _
      have hc := s[i].toNat_lt
      rw [IntWalk.wrap64_in _ ⟨by omega, by omega⟩, show ((s[i].toNat : Int) / 2 ^ j).tmod 2 = ((s[i].toNat / 2 ^ j % 2 : Nat) : Int) by rw [show ((s[i].toNat : Int) / 2 ^ j) = ((s[i].toNat / 2 ^ j : Nat) : Int) by rw [Int.natCast_ediv, Int.natCast_pow]; rfl]; rfl]
      refine congrArg (fun b => Ending.returned (Value.bool b)) ?_
      rw [Bool.eq_iff_iff]
      simp only [beq_iff_eq, decide_eq_true_eq]
      omega
    · have hv : hasN s m = false := by
        rw [hasN, ← hi, List.getElem?_eq_none (by rw [← Lib.size_eq s]; omega)]
        have := Nat.zero_div (2 ^ (m % 8))
        show ((0 : Nat) / 2 ^ (m % 8) % 2 == 1) = false
        rw [this]; rfl
      rw [hv]
      replace hi := Lib.hid hi
      replace hj := Lib.hid hj
      clear hv
      have h0 : (0 : Int) ≤ (m : Int) := by omega
      have hd : decide ((i : Int) < (s.size : Int)) = false := decide_eq_false (by omega)
      go_enter Tryz.func90, Tryz.ntmps90
      go_wp2_with fail
      go_ret
      exact ⟨rfl, rfl⟩
end Go.Proofs.YtkghlbpkdkonbaaGreat.Disk

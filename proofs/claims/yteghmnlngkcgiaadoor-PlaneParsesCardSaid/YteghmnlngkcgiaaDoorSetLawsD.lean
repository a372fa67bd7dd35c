/- Sets: how many places have been met. -/
import Derived.Test.YteghmnlngkcgiaaDoorSetLawsC
namespace Go.Proofs.YteghmnlngkcgiaaDoor.Sets
open Go.RowKit Mem

def cntTo (p : Nat → Bool) (n : Nat) : Nat := ((List.range n).filter p).length
theorem cntTo_succ (p : Nat → Bool) (n : Nat) : cntTo p (n + 1) = cntTo p n + one (p n) := by
  unfold cntTo
  rw [List.range_succ, List.filter_append, List.length_append]
  congr 1
  cases h : p n <;> simp [h, one]
theorem cntTo_le (p : Nat → Bool) (n : Nat) : cntTo p n ≤ n := Nat.le_trans (List.length_filter_le _ _) (by simp)
theorem cntTo_skip {p : Nat → Bool} : ∀ {d a : Nat}, (∀ x, a ≤ x → x < a + d → p x = false) → cntTo p (a + d) = cntTo p a
  | 0, a, _ => rfl
  | d + 1, a, h => by
    rw [← Nat.add_assoc, cntTo_succ, h (a + d) (by omega) (by omega)]
    exact cntTo_skip fun x h1 h2 => h x h1 (by omega)
theorem cntTo_hit {p : Nat → Bool} {a r : Nat} (h1 : a ≤ r) (h2 : p r = true) (h3 : ∀ x, a ≤ x → x < r → p x = false) : cntTo p (r + 1) = cntTo p a + 1 := by
  have h := cntTo_skip (p := p) (d := r - a) (a := a) (fun x hx1 hx2 => h3 x hx1 (by omega))
  rw [show a + (r - a) = r by omega] at h
  rw [cntTo_succ, h2, h]
  rfl
theorem cntTo_end {p : Nat → Bool} {a e : Nat} (h1 : a ≤ e) (h2 : seek p (e - a) a = none) : cntTo p e = cntTo p a := by
  have h := cntTo_skip (p := p) (d := e - a) (a := a) (fun x hx1 hx2 => seek_none h2 x hx1 (by omega))
  rwa [show a + (e - a) = e by omega] at h
theorem cntTo_not (p : Nat → Bool) : ∀ n, cntTo p n + cntTo (fun m => !p m) n = n
  | 0 => rfl
  | n + 1 => by
    have := cntTo_not p n
    rw [cntTo_succ, cntTo_succ]
    cases p n <;> simp [one] <;> omega
theorem elemsTo_cnt (l : List UInt8) (n : Nat) : (elemsTo l n).length = cntTo (has l) n := by simp [elemsTo, cntTo]
theorem cnt_to (s : ByteArray) : cnt s = cntTo (hasB s) (8 * s.size) := by
  rw [cnt, elems, elemsTo_cnt, ← Lib.size_eq s]
  rfl
theorem mask_any (a : Int) (K : Nat) (hK : K < 4611686018427387904) : ∃ m : Nat, m ≤ K ∧ bits .and .i64 a (K : Int) = (m : Int) := by
  have h : (BitVec.ofInt 64 a &&& BitVec.ofInt 64 (K : Int)).toNat ≤ K := by
    rw [BitVec.toNat_and]
    refine Nat.le_trans Nat.and_le_right ?_
    rw [BitVec.toNat_ofInt]
    omega
  refine ⟨(BitVec.ofInt 64 a &&& BitVec.ofInt 64 (K : Int)).toNat, h, ?_⟩
  show IntKind.i64.wrap ((BitVec.ofInt 64 a &&& BitVec.ofInt 64 (K : Int)).toNat : Int) = _
  rw [IntKind.wrap_i64]
  omega

section
variable (s : ByteArray) (a : Nat) (w : World)
theorem next_some {r : Nat} (hs : s.size ≤ 140737488355328) (ha : a ≤ 1125899906842624) (h : seek (hasB s) (8 * s.size - a) a = some r) :
    Calls Tryd.prog 37 #[.string s, .int .i64 (a : Int)] w fun e w' => e = .returned (.tuple #[.int .i64 (r : Int), .bool true]) ∧ w' = w := by
  have k := next_any s (a : Int) w (by omega) hs
  rw [next, show (max 0 (a : Int)).toNat = a by omega, ← Lib.size_eq s, show seek (has s.data.toList) (8 * s.size - a) a = some r from h] at k
  exact k
theorem next_none (hs : s.size ≤ 140737488355328) (ha : a ≤ 1125899906842624) (h : seek (hasB s) (8 * s.size - a) a = none) :
    Calls Tryd.prog 37 #[.string s, .int .i64 (a : Int)] w fun e w' => e = .returned (.tuple #[.int .i64 0, .bool false]) ∧ w' = w := by
  have k := next_any s (a : Int) w (by omega) hs
  rw [next, show (max 0 (a : Int)).toNat = a by omega, ← Lib.size_eq s, show seek (has s.data.toList) (8 * s.size - a) a = none from h] at k
  exact k
theorem has_b (hs : a ≤ 9223372036854775807) : Calls Tryd.prog 39 #[.string s, .int .i64 (a : Int)] w fun e w' => e = .returned (.bool (hasB s a)) ∧ w' = w := by
  have k := has_any s (a : Int) w (by omega)
  rw [hasI, decide_eq_true (by omega), Bool.true_and, Int.toNat_natCast] at k
  exact k
end
end Go.Proofs.YteghmnlngkcgiaaDoor.Sets

/- Sets: the first number of a byte, from a bit on. -/
import Derived.Test.YteghmnlngkcgiaaDoorSetSpecB
import Derived.Lib.BitFns
namespace Go.Proofs.YteghmnlngkcgiaaDoor.Sets
open Go

theorem tz_all : ∀ x : Fin 256, x.val ≠ 0 → Lib.trailingZeros8 x.val < 8 ∧ x.val.testBit (Lib.trailingZeros8 x.val) = true ∧ ∀ j : Fin 8, j.val < Lib.trailingZeros8 x.val → x.val.testBit j.val = false := by decide +kernel
theorem tz_spec {x : Nat} (h : x < 256) (h0 : x ≠ 0) : Lib.trailingZeros8 x < 8 ∧ x.testBit (Lib.trailingZeros8 x) = true ∧ ∀ j, j < Lib.trailingZeros8 x → x.testBit j = false := by
  obtain ⟨h1, h2, h3⟩ := tz_all ⟨x, h⟩ h0
  exact ⟨h1, h2, fun j hj => h3 ⟨j, Nat.lt_trans hj h1⟩ hj⟩
/-- the bits from r on alone -/
def high (c r : Nat) : Nat := c / 2 ^ r * 2 ^ r
theorem high_le (c r : Nat) : high c r ≤ c := Nat.div_mul_le_self c (2 ^ r)
theorem high_zero (c : Nat) : high c 0 = c := by simp [high]
theorem high_bit (c r k : Nat) : (high c r).testBit k = (decide (r ≤ k) && c.testBit k) := by
  rw [high, Nat.testBit_mul_two_pow, Nat.testBit_div_two_pow]
  by_cases h : r ≤ k
  · rw [decide_eq_true h, Bool.true_and, Bool.true_and, Nat.sub_add_cancel h]
  · rw [decide_eq_false h, Bool.false_and, Bool.false_and]
theorem zero_bits {x : Nat} (h : x = 0) (k : Nat) : x.testBit k = false := by rw [h]; simp
/-- in the byte at i there is a number from bit r on: it is the first one -/
theorem seek_hit {l : List UInt8} {i r k : Nat} (hi : i < l.length) (hr : r < 8) (hk : 8 * l.length = 8 * i + r + k) (h0 : high (l[i]'hi).toNat r ≠ 0) : seek (has l) k (8 * i + r) = some (8 * i + Lib.trailingZeros8 (high (l[i]'hi).toNat r)) := by
  have hc := (l[i]'hi).toNat_lt
  obtain ⟨h1, h2, h3⟩ := tz_spec (Nat.lt_of_le_of_lt (high_le _ r) hc) h0
  generalize Lib.trailingZeros8 (high (l[i]'hi).toNat r) = t at h1 h2 h3 ⊢
  have hb : ∀ j, j < 8 → has l (8 * i + j) = (l[i]'hi).toNat.testBit j := by
    intro j hj
    unfold has
    rw [show (8 * i + j) / 8 = i by omega, show (8 * i + j) % 8 = j by omega, List.getElem?_eq_getElem hi]
    rfl
  rw [high_bit] at h2
  simp only [Bool.and_eq_true, decide_eq_true_eq] at h2
  refine seek_eq (by omega) (by omega) (by rw [hb t h1]; exact h2.2) fun x hx1 hx2 => ?_
  have := h3 (x - 8 * i) (by omega)
  rw [high_bit, decide_eq_true (by omega), Bool.true_and] at this
  rw [show x = 8 * i + (x - 8 * i) by omega, hb _ (by omega)]
  exact this
theorem seek_skip {p : Nat → Bool} : ∀ {d k m : Nat}, (∀ x, m ≤ x → x < m + d → p x = false) → seek p (d + k) m = seek p k (m + d)
  | 0, k, m, _ => by rw [Nat.zero_add, Nat.add_zero]
  | d + 1, k, m, h => by
    rw [show d + 1 + k = (d + k) + 1 by omega, seek, if_neg (by rw [h m (Nat.le_refl _) (by omega)]; simp), seek_skip (d := d) (fun x h1 h2 => h x (by omega) (by omega)), show m + 1 + d = m + (d + 1) by omega]
/-- there is none in it -/
theorem seek_miss {l : List UInt8} {i r k : Nat} (hi : i < l.length) (hr : r < 8) (hk : 8 * l.length = 8 * i + r + k) (h0 : high (l[i]'hi).toNat r = 0) : seek (has l) k (8 * i + r) = seek (has l) (8 * l.length - 8 * (i + 1)) (8 * (i + 1)) := by
  have hb : ∀ x, 8 * i + r ≤ x → x < 8 * i + r + (8 - r) → has l x = false := by
    intro x h1 h2
    unfold has
    rw [show x / 8 = i by omega, List.getElem?_eq_getElem hi]
    have := zero_bits h0 (x % 8)
    rw [high_bit, decide_eq_true (by omega), Bool.true_and] at this
    exact this
  have := seek_skip (k := 8 * l.length - 8 * (i + 1)) hb
  rw [show 8 - r + (8 * l.length - 8 * (i + 1)) = k by omega, show 8 * i + r + (8 - r) = 8 * (i + 1) by omega] at this
  exact this
end Go.Proofs.YteghmnlngkcgiaaDoor.Sets

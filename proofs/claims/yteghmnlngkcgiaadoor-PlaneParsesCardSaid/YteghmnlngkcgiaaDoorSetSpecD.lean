/- Sets: a number is put into a text. -/
import Derived.Test.YteghmnlngkcgiaaDoorSetSpec
namespace Go.Proofs.YteghmnlngkcgiaaDoor.Sets

def put (l : List UInt8) (x : Nat) : List UInt8 := l.set (x / 8) (l[x / 8]?.getD 0 ||| UInt8.ofNat (2 ^ (x % 8)))
theorem bit_toNat (j : Nat) (hj : j < 8) : (UInt8.ofNat (2 ^ j)).toNat = 2 ^ j := by
  rw [UInt8.toNat_ofNat']
  exact Nat.mod_eq_of_lt (Nat.pow_lt_pow_right (by decide) hj)
theorem has_put (l : List UInt8) (x m : Nat) (h : x / 8 < l.length) : has (put l x) m = (has l m || m == x) := by
  unfold has put
  by_cases hi : m / 8 = x / 8
  · rw [hi, List.getElem?_set_self h, List.getElem?_eq_getElem h]
    simp only [Option.getD_some, UInt8.toNat_or, Nat.testBit_or, bit_toNat (x % 8) (Nat.mod_lt _ (by decide)), Nat.testBit_two_pow]
    congr 1
    rw [Bool.eq_iff_iff, decide_eq_true_eq, beq_iff_eq]
    omega
  · rw [List.getElem?_set_ne (fun e => hi e.symm)]
    rw [show (m == x) = false by rw [beq_eq_false_iff_ne]; intro e; exact hi (by rw [e]), Bool.or_false]
theorem put_length (l : List UInt8) (x : Nat) : (put l x).length = l.length := by simp [put]
theorem mk_put (n : Nat) (p : Nat → Bool) (x : Nat) (h : x / 8 < n) : put (mk n p) x = mk n fun m => p m || m == x := by
  apply text_ext (by rw [put_length, mk_length, mk_length])
  intro m
  rw [has_put _ _ _ (by rw [mk_length]; exact h), has_mk, has_mk]
  by_cases hm : m < 8 * n
  · rw [decide_eq_true hm, Bool.true_and, Bool.true_and]
  · rw [decide_eq_false hm, Bool.false_and, Bool.false_and, Bool.false_or, beq_eq_false_iff_ne]
    intro e
    omega
theorem mk_congr {n : Nat} {p p' : Nat → Bool} (h : ∀ m, m < 8 * n → p m = p' m) : mk n p = mk n p' := by
  apply text_ext (by rw [mk_length, mk_length])
  intro m
  rw [has_mk, has_mk]
  by_cases hm : m < 8 * n
  · rw [h m hm]
  · rw [decide_eq_false hm, Bool.false_and, Bool.false_and]
theorem mk_none (n : Nat) : mk n (fun _ => false) = List.replicate n 0 := by
  apply text_ext (by rw [mk_length, List.length_replicate])
  intro m
  rw [has_mk, Bool.and_false]
  unfold has
  by_cases h : m / 8 < n
  · rw [List.getElem?_replicate, if_pos h]; simp
  · rw [List.getElem?_replicate, if_neg h]; simp
/-- a text that has its last byte's number is least -/
theorem mk_least {n : Nat} {p : Nat → Bool} {m : Nat} (h1 : m / 8 + 1 = n) (h2 : p m = true) : Least (mk n p) := by
  have hlen : (least (mk n p)).length = n := by
    have hle := least_length (mk n p)
    rw [mk_length] at hle
    refine Nat.le_antisymm hle (Classical.byContradiction fun h => ?_)
    have hb := has_beyond (l := least (mk n p)) (m := m) (by omega)
    rw [has_least, has_mk, h2, decide_eq_true (by omega)] at hb
    cases hb
  exact text_ext (by rw [hlen, mk_length]) (has_least _)
end Go.Proofs.YteghmnlngkcgiaaDoor.Sets

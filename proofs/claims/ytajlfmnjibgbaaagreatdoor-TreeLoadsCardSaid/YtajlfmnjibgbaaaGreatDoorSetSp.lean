/- Sets of numbers as texts: plain functions. -/
import Derived.Lib.BitFns
namespace Go.Proofs.YtajlfmnjibgbaaaGreatDoor.Sets

/-- is a number in a text -/
def has (l : List UInt8) (n : Nat) : Bool := (l[n / 8]?.getD 0).toNat.testBit (n % 8)
/-- the byte with these bits -/
def bsum (p : Nat → Bool) : Nat → Nat
  | 0 => 0
  | k + 1 => bsum p k + (if p k then 2 ^ k else 0)
def byteOf (p : Nat → Bool) : UInt8 := UInt8.ofNat (bsum p 8)
/-- the text of so many bytes with these numbers -/
def mk (n : Nat) (p : Nat → Bool) : List UInt8 := (List.range n).map fun i => byteOf fun k => p (8 * i + k)

set_option maxRecDepth 100000 in
theorem bsum_lt (p : Nat → Bool) : ∀ k, bsum p k < 2 ^ k
  | 0 => by simp [bsum]
  | k + 1 => by
    have h := bsum_lt p k
    rw [bsum, Nat.pow_succ]
    split <;> omega
set_option maxRecDepth 100000 in
theorem bsum_bit (p : Nat → Bool) : ∀ k j, (bsum p k).testBit j = (decide (j < k) && p j)
  | 0, j => by simp [bsum]
  | k + 1, j => by
    have h := bsum_lt p k
    have ih := bsum_bit p k j
    rw [bsum]
    by_cases hp : p k
    · rw [if_pos hp, Nat.add_comm]
      by_cases hj : j = k
      · subst hj
        rw [Nat.testBit_two_pow_add_eq, ih]
        simp [hp]
      · by_cases hlt : j < k
        · rw [Nat.testBit_two_pow_add_gt hlt, ih]
          simp [hlt, Nat.lt_succ_of_lt hlt]
        · have hb : 2 ^ k + bsum p k < 2 ^ j := Nat.lt_of_lt_of_le (show 2 ^ k + bsum p k < 2 ^ (k + 1) by rw [Nat.pow_succ]; omega) (Nat.pow_le_pow_right (by omega) (by omega))
          rw [Nat.testBit_lt_two_pow hb, decide_eq_false (by omega), Bool.false_and]
    · rw [if_neg hp, Nat.add_zero, ih]
      by_cases hj : j = k
      · subst hj
        simp [hp]
      · rw [show decide (j < k + 1) = decide (j < k) by rw [decide_eq_decide]; omega]
set_option maxRecDepth 100000 in
theorem byteOf_bit (p : Nat → Bool) (j : Nat) (hj : j < 8) : (byteOf p).toNat.testBit j = p j := by
  have h := bsum_lt p 8
  rw [byteOf, UInt8.toNat_ofNat', Nat.mod_eq_of_lt (by omega), bsum_bit]
  simp [hj]
set_option maxRecDepth 100000 in
theorem byte_ext {a b : UInt8} (h : ∀ j, j < 8 → a.toNat.testBit j = b.toNat.testBit j) : a = b := by
  apply UInt8.toNat_inj.1
  apply Nat.eq_of_testBit_eq
  intro i
  by_cases hi : i < 8
  · exact h i hi
  · have ha : a.toNat < 2 ^ i := Nat.lt_of_lt_of_le a.toNat_lt (Nat.pow_le_pow_right (by omega) (by omega))
    have hb : b.toNat < 2 ^ i := Nat.lt_of_lt_of_le b.toNat_lt (Nat.pow_le_pow_right (by omega) (by omega))
    rw [Nat.testBit_lt_two_pow ha, Nat.testBit_lt_two_pow hb]
set_option maxRecDepth 100000 in
theorem mk_length (n : Nat) (p : Nat → Bool) : (mk n p).length = n := by simp [mk]
set_option maxRecDepth 100000 in
theorem has_mk (n : Nat) (p : Nat → Bool) (m : Nat) : has (mk n p) m = (decide (m < 8 * n) && p m) := by
  unfold has mk
  by_cases h : m / 8 < n
  · rw [List.getElem?_map, List.getElem?_range h]
    simp only [Option.map_some, Option.getD_some]
    rw [byteOf_bit _ _ (Nat.mod_lt _ (by decide)), Nat.div_add_mod, decide_eq_true (by omega), Bool.true_and]
  · rw [List.getElem?_eq_none (by simp; omega), decide_eq_false (by omega), Bool.false_and]
    simp
set_option maxRecDepth 100000 in
theorem text_ext {a b : List UInt8} (hl : a.length = b.length) (h : ∀ m, has a m = has b m) : a = b := by
  apply List.ext_getElem hl
  intro i h1 h2
  apply byte_ext
  intro j hj
  have := h (8 * i + j)
  unfold has at this
  rw [show (8 * i + j) / 8 = i by omega, show (8 * i + j) % 8 = j by omega, List.getElem?_eq_getElem h1, List.getElem?_eq_getElem h2] at this
  exact this
/-- without the noughts at its end -/
def least (l : List UInt8) : List UInt8 := (l.reverse.dropWhile (· == 0)).reverse
set_option maxRecDepth 100000 in
theorem least_zero (l : List UInt8) : least (l ++ [0]) = least l := by simp [least]
set_option maxRecDepth 100000 in
theorem least_snoc (l : List UInt8) (c : UInt8) (h : c ≠ 0) : least (l ++ [c]) = l ++ [c] := by simp [least, h]
set_option maxRecDepth 100000 in
theorem snoc_ind {P : List UInt8 → Prop} (h0 : P []) (h1 : ∀ l c, P l → P (l ++ [c])) (l : List UInt8) : P l := by
  have : ∀ r : List UInt8, P r.reverse := by
    intro r
    induction r with
    | nil => exact h0
    | cons c r ih => rw [List.reverse_cons]; exact h1 _ _ ih
  have h := this l.reverse
  rwa [List.reverse_reverse] at h
set_option maxRecDepth 100000 in
theorem has_snoc_zero (l : List UInt8) (m : Nat) : has (l ++ [0]) m = has l m := by
  unfold has
  by_cases h : m / 8 < l.length
  · rw [List.getElem?_append_left h]
  · rw [List.getElem?_append_right (by omega), List.getElem?_eq_none (by omega : l.length ≤ m / 8)]
    by_cases h0 : m / 8 - l.length = 0
    · rw [h0]; simp
    · rw [List.getElem?_eq_none (by simp; omega)]
set_option maxRecDepth 100000 in
theorem has_least (l : List UInt8) (m : Nat) : has (least l) m = has l m := by
  revert m
  refine snoc_ind (P := fun l => ∀ m, has (least l) m = has l m) (fun _ => rfl) (fun l c ih m => ?_) l
  by_cases h : c = 0
  · rw [h, least_zero, has_snoc_zero]; exact ih m
  · rw [least_snoc l c h]
/-- a text that ends in no nought -/
def Least (l : List UInt8) : Prop := least l = l
set_option maxRecDepth 100000 in
theorem least_length (l : List UInt8) : (least l).length ≤ l.length := by
  refine snoc_ind (P := fun l => (least l).length ≤ l.length) (Nat.le_refl _) (fun l c ih => ?_) l
  by_cases h : c = 0
  · rw [h, least_zero, List.length_append]; omega
  · rw [least_snoc l c h]; exact Nat.le_refl _
set_option maxRecDepth 100000 in
theorem least_least (l : List UInt8) : Least (least l) := by
  refine snoc_ind (P := fun l => Least (least l)) rfl (fun l c ih => ?_) l
  by_cases h : c = 0
  · rw [h, least_zero]; exact ih
  · rw [least_snoc l c h]; exact least_snoc l c h
set_option maxRecDepth 100000 in
theorem byte_zero {c : UInt8} (h : ∀ j, j < 8 → c.toNat.testBit j = false) : c = 0 := byte_ext fun j hj => by rw [h j hj]; simp
set_option maxRecDepth 100000 in
/-- a least text has a number in its last byte -/
theorem least_top {l : List UInt8} (h : Least l) (hn : l ≠ []) : ∃ m, m / 8 = l.length - 1 ∧ has l m = true := by
  revert h hn
  refine snoc_ind (P := fun l => Least l → l ≠ [] → ∃ m, m / 8 = l.length - 1 ∧ has l m = true) (fun _ h => absurd rfl h) (fun l c _ hl _ => ?_) l
  by_cases hc : c = 0
  · exfalso
    rw [hc] at hl
    have := congrArg List.length hl
    rw [least_zero, List.length_append] at this
    have h2 := least_length l
    simp at this
    omega
  · have hb : ∃ j, j < 8 ∧ c.toNat.testBit j = true := by
      refine Classical.byContradiction fun h => hc (byte_zero fun j hj => ?_)
      cases hx : c.toNat.testBit j with
      | false => rfl
      | true => exact absurd ⟨j, hj, hx⟩ h
    obtain ⟨j, hj, hx⟩ := hb
    refine ⟨8 * l.length + j, by simp; omega, ?_⟩
    unfold has
    rw [show (8 * l.length + j) / 8 = l.length by omega, show (8 * l.length + j) % 8 = j by omega, List.getElem?_append_right (Nat.le_refl _)]
    simpa using hx
set_option maxRecDepth 100000 in
theorem has_beyond {l : List UInt8} {m : Nat} (h : l.length ≤ m / 8) : has l m = false := by
  unfold has
  rw [List.getElem?_eq_none h]
  simp
set_option maxRecDepth 100000 in
theorem least_le {a b : List UInt8} (ha : Least a) (h : ∀ m, has a m = has b m) : a.length ≤ b.length := by
  by_cases hn : a = []
  · rw [hn]; simp
  · obtain ⟨m, hm, hx⟩ := least_top ha hn
    refine Classical.byContradiction fun hlt => ?_
    rw [h m, has_beyond (by omega)] at hx
    cases hx
set_option maxRecDepth 100000 in
theorem least_ext {a b : List UInt8} (ha : Least a) (hb : Least b) (h : ∀ m, has a m = has b m) : a = b :=
  text_ext (Nat.le_antisymm (least_le ha h) (least_le hb fun m => (h m).symm)) h
end Go.Proofs.YtajlfmnjibgbaaaGreatDoor.Sets
/- Sets: the first number that a text has, that it has not, from a place on. -/
namespace Go.Proofs.YtajlfmnjibgbaaaGreatDoor.Sets

/-- the first of k places from m on where p holds -/
def seek (p : Nat → Bool) : Nat → Nat → Option Nat
  | 0, _ => none
  | k + 1, m => if p m then some m else seek p k (m + 1)
set_option maxRecDepth 100000 in
theorem seek_some {p : Nat → Bool} : ∀ {k m r : Nat}, seek p k m = some r → m ≤ r ∧ r < m + k ∧ p r = true ∧ ∀ x, m ≤ x → x < r → p x = false
  | 0, _, _, h => by cases h
  | k + 1, m, r, h => by
    unfold seek at h
    by_cases hp : p m = true
    · rw [if_pos hp] at h
      injection h with h
      subst h
      exact ⟨Nat.le_refl _, by omega, hp, fun x h1 h2 => absurd h1 (by omega)⟩
    · rw [if_neg hp] at h
      obtain ⟨h1, h2, h3, h4⟩ := seek_some h
      refine ⟨by omega, by omega, h3, fun x hx1 hx2 => ?_⟩
      by_cases hxm : x = m
      · rw [hxm]; simpa using hp
      · exact h4 x (by omega) hx2
set_option maxRecDepth 100000 in
theorem seek_none {p : Nat → Bool} : ∀ {k m : Nat}, seek p k m = none → ∀ x, m ≤ x → x < m + k → p x = false
  | 0, _, _, x, h1, h2 => absurd h1 (by omega)
  | k + 1, m, h, x, h1, h2 => by
    unfold seek at h
    by_cases hp : p m = true
    · rw [if_pos hp] at h; cases h
    · rw [if_neg hp] at h
      by_cases hxm : x = m
      · rw [hxm]; simpa using hp
      · exact seek_none h x (by omega) (by omega)
/-- what is told of a search: the number, and whether there is one -/
def told : Option Nat → Int × Bool
  | some r => ((r : Int), true)
  | none => (0, false)
def gap (l : List UInt8) (a e : Int) : Int × Bool := told (seek (fun m => !has l m) (e - max 0 a).toNat (max 0 a).toNat)
def next (l : List UInt8) (a : Int) : Int × Bool := told (seek (has l) (8 * l.length - (max 0 a).toNat) (max 0 a).toNat)
set_option maxRecDepth 100000 in
/-- a search is what it finds -/
theorem seek_eq {p : Nat → Bool} {k m r : Nat} (h1 : m ≤ r) (h2 : r < m + k) (h3 : p r = true) (h4 : ∀ x, m ≤ x → x < r → p x = false) : seek p k m = some r := by
  cases h : seek p k m with
  | none => rw [seek_none h r h1 h2] at h3; cases h3
  | some q =>
    obtain ⟨q1, q2, q3, q4⟩ := seek_some h
    congr 1
    rcases Nat.lt_trichotomy q r with hlt | rfl | hlt
    · rw [h4 q q1 hlt] at q3; cases q3
    · rfl
    · rw [q4 r h1 hlt] at h3; cases h3
end Go.Proofs.YtajlfmnjibgbaaaGreatDoor.Sets
/- Sets: the first number of a byte, from a bit on. -/
namespace Go.Proofs.YtajlfmnjibgbaaaGreatDoor.Sets
open Go

set_option maxRecDepth 100000 in
theorem tz_all : ∀ x : Fin 256, x.val ≠ 0 → Lib.trailingZeros8 x.val < 8 ∧ x.val.testBit (Lib.trailingZeros8 x.val) = true ∧ ∀ j : Fin 8, j.val < Lib.trailingZeros8 x.val → x.val.testBit j.val = false := by decide +kernel
set_option maxRecDepth 100000 in
theorem tz_spec {x : Nat} (h : x < 256) (h0 : x ≠ 0) : Lib.trailingZeros8 x < 8 ∧ x.testBit (Lib.trailingZeros8 x) = true ∧ ∀ j, j < Lib.trailingZeros8 x → x.testBit j = false := by
  obtain ⟨h1, h2, h3⟩ := tz_all ⟨x, h⟩ h0
  exact ⟨h1, h2, fun j hj => h3 ⟨j, Nat.lt_trans hj h1⟩ hj⟩
/-- the bits from r on alone -/
def high (c r : Nat) : Nat := c / 2 ^ r * 2 ^ r
set_option maxRecDepth 100000 in
theorem high_le (c r : Nat) : high c r ≤ c := Nat.div_mul_le_self c (2 ^ r)
set_option maxRecDepth 100000 in
theorem high_bit (c r k : Nat) : (high c r).testBit k = (decide (r ≤ k) && c.testBit k) := by
  rw [high, Nat.testBit_mul_two_pow, Nat.testBit_div_two_pow]
  by_cases h : r ≤ k
  · rw [decide_eq_true h, Bool.true_and, Bool.true_and, Nat.sub_add_cancel h]
  · rw [decide_eq_false h, Bool.false_and, Bool.false_and]
set_option maxRecDepth 100000 in
theorem zero_bits {x : Nat} (h : x = 0) (k : Nat) : x.testBit k = false := by rw [h]; simp
set_option maxRecDepth 100000 in
/-- in the byte at i there is a number from bit r on: it is the first one -/
theorem seek_hit {l : List UInt8} {i r k : Nat} (hi : i < l.length) (hr : r < 8) (hk : 8 * l.length = 8 * i + r + k) (h0 : high (l[i]'hi).toNat r ≠ 0) : seek (has l) k (8 * i + r) = some (8 * i + Lib.trailingZeros8 (high (l[i]'hi).toNat r)) := by
  have hc := (l[i]'hi).toNat_lt
  obtain ⟨h1, h2, h3⟩ := tz_spec (Nat.lt_of_le_of_lt (high_le _ r) hc) h0
  generalize Lib.trailingZeros8 (high (l[i]'hi).toNat r) = t at h1 h2 h3 ⊢
  have hb : ∀ j, j < 8 → has l (8 * i + j) = (l[i]'hi).toNat.testBit j := by
    intro j hj
    unfold has
    rw [show (8 * i + j) / 8 = i by omega, show (8 * i + j) % 8 = j by omega, List.getElem?_eq_getElem hi]
    rfl
  rw [high_bit] at h2
  simp only [Bool.and_eq_true, decide_eq_true_eq] at h2
  refine seek_eq (by omega) (by omega) (by rw [hb t h1]; exact h2.2) fun x hx1 hx2 => ?_
  have := h3 (x - 8 * i) (by omega)
  rw [high_bit, decide_eq_true (by omega), Bool.true_and] at this
  rw [show x = 8 * i + (x - 8 * i) by omega, hb _ (by omega)]
  exact this
set_option maxRecDepth 100000 in
theorem seek_skip {p : Nat → Bool} : ∀ {d k m : Nat}, (∀ x, m ≤ x → x < m + d → p x = false) → seek p (d + k) m = seek p k (m + d)
  | 0, k, m, _ => by rw [Nat.zero_add, Nat.add_zero]
  | d + 1, k, m, h => by
    rw [show d + 1 + k = (d + k) + 1 by omega, seek, if_neg (by rw [h m (Nat.le_refl _) (by omega)]; simp), seek_skip (d := d) (fun x h1 h2 => h x (by omega) (by omega)), show m + 1 + d = m + (d + 1) by omega]
set_option maxRecDepth 100000 in
/-- there is none in it -/
theorem seek_miss {l : List UInt8} {i r k : Nat} (hi : i < l.length) (hr : r < 8) (hk : 8 * l.length = 8 * i + r + k) (h0 : high (l[i]'hi).toNat r = 0) : seek (has l) k (8 * i + r) = seek (has l) (8 * l.length - 8 * (i + 1)) (8 * (i + 1)) := by
  have hb : ∀ x, 8 * i + r ≤ x → x < 8 * i + r + (8 - r) → has l x = false := by
    intro x h1 h2
    unfold has
    rw [show x / 8 = i by omega, List.getElem?_eq_getElem hi]
    have := zero_bits h0 (x % 8)
    rw [high_bit, decide_eq_true (by omega), Bool.true_and] at this
    exact this
  have := seek_skip (k := 8 * l.length - 8 * (i + 1)) hb
  rw [show 8 - r + (8 * l.length - 8 * (i + 1)) = k by omega, show 8 * i + r + (8 - r) = 8 * (i + 1) by omega] at this
  exact this
end Go.Proofs.YtajlfmnjibgbaaaGreatDoor.Sets
/- Sets: a number is put into a text. -/
namespace Go.Proofs.YtajlfmnjibgbaaaGreatDoor.Sets

def put (l : List UInt8) (x : Nat) : List UInt8 := l.set (x / 8) (l[x / 8]?.getD 0 ||| UInt8.ofNat (2 ^ (x % 8)))
set_option maxRecDepth 100000 in
theorem bit_toNat (j : Nat) (hj : j < 8) : (UInt8.ofNat (2 ^ j)).toNat = 2 ^ j := by
  rw [UInt8.toNat_ofNat']
  exact Nat.mod_eq_of_lt (Nat.pow_lt_pow_right (by decide) hj)
set_option maxRecDepth 100000 in
theorem has_put (l : List UInt8) (x m : Nat) (h : x / 8 < l.length) : has (put l x) m = (has l m || m == x) := by
  unfold has put
  by_cases hi : m / 8 = x / 8
  · rw [hi, List.getElem?_set_self h, List.getElem?_eq_getElem h]
    simp only [Option.getD_some, UInt8.toNat_or, Nat.testBit_or, bit_toNat (x % 8) (Nat.mod_lt _ (by decide)), Nat.testBit_two_pow]
    congr 1
    rw [Bool.eq_iff_iff, decide_eq_true_eq, beq_iff_eq]
    omega
  · rw [List.getElem?_set_ne (fun e => hi e.symm)]
    rw [show (m == x) = false by rw [beq_eq_false_iff_ne]; intro e; exact hi (by rw [e]), Bool.or_false]
set_option maxRecDepth 100000 in
theorem put_length (l : List UInt8) (x : Nat) : (put l x).length = l.length := by simp [put]
set_option maxRecDepth 100000 in
theorem mk_put (n : Nat) (p : Nat → Bool) (x : Nat) (h : x / 8 < n) : put (mk n p) x = mk n fun m => p m || m == x := by
  apply text_ext (by rw [put_length, mk_length, mk_length])
  intro m
  rw [has_put _ _ _ (by rw [mk_length]; exact h), has_mk, has_mk]
  by_cases hm : m < 8 * n
  · rw [decide_eq_true hm, Bool.true_and, Bool.true_and]
  · rw [decide_eq_false hm, Bool.false_and, Bool.false_and, Bool.false_or, beq_eq_false_iff_ne]
    intro e
    omega
set_option maxRecDepth 100000 in
theorem mk_congr {n : Nat} {p p' : Nat → Bool} (h : ∀ m, m < 8 * n → p m = p' m) : mk n p = mk n p' := by
  apply text_ext (by rw [mk_length, mk_length])
  intro m
  rw [has_mk, has_mk]
  by_cases hm : m < 8 * n
  · rw [h m hm]
  · rw [decide_eq_false hm, Bool.false_and, Bool.false_and]
set_option maxRecDepth 100000 in
theorem mk_none (n : Nat) : mk n (fun _ => false) = List.replicate n 0 := by
  apply text_ext (by rw [mk_length, List.length_replicate])
  intro m
  rw [has_mk, Bool.and_false]
  unfold has
  by_cases h : m / 8 < n
  · rw [List.getElem?_replicate, if_pos h]; simp
  · rw [List.getElem?_replicate, if_neg h]; simp
set_option maxRecDepth 100000 in
/-- a text that has its last byte's number is least -/
theorem mk_least {n : Nat} {p : Nat → Bool} {m : Nat} (h1 : m / 8 + 1 = n) (h2 : p m = true) : Least (mk n p) := by
  have hlen : (least (mk n p)).length = n := by
    have hle := least_length (mk n p)
    rw [mk_length] at hle
    refine Nat.le_antisymm hle (Classical.byContradiction fun h => ?_)
    have hb := has_beyond (l := least (mk n p)) (m := m) (by omega)
    rw [has_least, has_mk, h2, decide_eq_true (by omega)] at hb
    cases hb
  exact text_ext (by rw [hlen, mk_length]) (has_least _)
end Go.Proofs.YtajlfmnjibgbaaaGreatDoor.Sets
/- Alloc: the free blocks, in the order from a place on: plain facts. -/
namespace Go.Proofs.YtajlfmnjibgbaaaGreatDoor.Alloc
open Sets

/-- the free blocks from f on, then those from 1 on -/
def order (u : Nat → Bool) (B f : Nat) : List Nat := (List.range' f (B - f) ++ List.range' 1 (f - 1)).filter fun n => !u n
set_option maxRecDepth 100000 in
theorem seek_none_filter {p : Nat → Bool} : ∀ {k m : Nat}, seek p k m = none → (List.range' m k).filter p = []
  | 0, m, _ => rfl
  | k + 1, m, h => by
    unfold seek at h
    by_cases hp : p m = true
    · rw [if_pos hp] at h; cases h
    · rw [if_neg hp] at h
      rw [List.range'_succ, List.filter_cons, if_neg hp]
      exact seek_none_filter h
set_option maxRecDepth 100000 in
theorem seek_some_filter {p : Nat → Bool} : ∀ {k m r : Nat}, seek p k m = some r → (List.range' m k).filter p = r :: (List.range' (r + 1) (m + k - (r + 1))).filter p
  | 0, _, _, h => by cases h
  | k + 1, m, r, h => by
    unfold seek at h
    by_cases hp : p m = true
    · rw [if_pos hp] at h
      injection h with h
      subst h
      rw [List.range'_succ, List.filter_cons, if_pos hp, show m + (k + 1) - (m + 1) = k by omega]
    · rw [if_neg hp] at h
      rw [List.range'_succ, List.filter_cons, if_neg hp, seek_some_filter h, show m + 1 + k - (r + 1) = m + (k + 1) - (r + 1) by omega]
set_option maxRecDepth 100000 in
theorem range_split (a k j : Nat) (h : j ≤ k) : List.range' a k = List.range' a j ++ List.range' (a + j) (k - j) := by
  have := List.range'_append (s := a) (m := j) (n := k - j) (step := 1)
  rw [Nat.one_mul, show j + (k - j) = k by omega] at this
  exact this.symm
set_option maxRecDepth 100000 in
theorem filter_none {p : Nat → Bool} {a k : Nat} (h : ∀ x, a ≤ x → x < a + k → p x = false) : (List.range' a k).filter p = [] := by
  rw [List.filter_eq_nil_iff]
  intro x hx
  rw [List.mem_range'_1] at hx
  rw [h x hx.1 hx.2]
  simp
set_option maxRecDepth 100000 in
theorem filter_same {p q : Nat → Bool} {a k : Nat} (h : ∀ x, a ≤ x → x < a + k → p x = q x) : (List.range' a k).filter p = (List.range' a k).filter q := by
  refine List.filter_congr fun x hx => ?_
  rw [List.mem_range'_1] at hx
  exact h x hx.1 hx.2
set_option maxRecDepth 100000 in
/-- the first that is free is taken: where it is found, and what is free then -/
theorem order_take {u u' : Nat → Bool} {B f n : Nat} {rest : List Nat} (h1 : 1 ≤ f) (h2 : f ≤ B) (h : order u B f = n :: rest) (hu : ∀ m, u' m = (u m || decide (m = n))) :
    1 ≤ n ∧ n < B ∧ u n = false ∧ order u' B (n + 1) = rest ∧
      (seek (fun m => !u m) (B - f) f = some n ∨ seek (fun m => !u m) (B - f) f = none ∧ seek (fun m => !u m) (B - 1) 1 = some n) := by
  unfold order at h
  rw [List.filter_append] at h
  cases hA : seek (fun m => !u m) (B - f) f with
  | some r =>
    obtain ⟨r1, r2, r3, r4⟩ := seek_some hA
    rw [seek_some_filter hA, List.cons_append] at h
    injection h with e1 e2
    subst e1
    refine ⟨by omega, by omega, by simpa using r3, ?_, Or.inl rfl⟩
    have s1 : (List.range' (r + 1) (B - (r + 1))).filter (fun m => !u' m) = (List.range' (r + 1) (f + (B - f) - (r + 1))).filter fun m => !u m := by
      rw [show f + (B - f) - (r + 1) = B - (r + 1) by omega]
      exact filter_same fun x hx1 _ => by rw [hu x, decide_eq_false (by omega), Bool.or_false]
    have s2 : (List.range' 1 (r + 1 - 1)).filter (fun m => !u' m) = (List.range' 1 (f - 1)).filter fun m => !u m := by
      rw [range_split 1 (r + 1 - 1) (f - 1) (by omega), List.filter_append]
      rw [filter_none (a := 1 + (f - 1)) (fun x hx1 hx2 => by
        by_cases hx : x = r
        · rw [hu x, decide_eq_true hx, Bool.or_true]; rfl
        · have := r4 x (by omega) (by omega)
          simp only [Bool.not_eq_false'] at this
          rw [hu x, this]; rfl), List.append_nil]
      exact filter_same fun x hx1 hx2 => by rw [hu x, decide_eq_false (by omega), Bool.or_false]
    rw [order, List.filter_append, s1, s2]
    exact e2
  | none =>
    rw [seek_none_filter hA, List.nil_append] at h
    cases hC : seek (fun m => !u m) (f - 1) 1 with
    | none => rw [seek_none_filter hC] at h; cases h
    | some r =>
      obtain ⟨r1, r2, r3, r4⟩ := seek_some hC
      rw [seek_some_filter hC] at h
      injection h with e1 e2
      subst e1
      refine ⟨by omega, by omega, by simpa using r3, ?_, Or.inr ⟨rfl, seek_eq r1 (by omega) r3 r4⟩⟩
      have s1 : (List.range' (r + 1) (B - (r + 1))).filter (fun m => !u' m) = (List.range' (r + 1) (1 + (f - 1) - (r + 1))).filter fun m => !u m := by
        rw [range_split (r + 1) (B - (r + 1)) (1 + (f - 1) - (r + 1)) (by omega), List.filter_append]
        rw [filter_none (a := r + 1 + (1 + (f - 1) - (r + 1))) (fun x hx1 hx2 => by
          have := seek_none hA x (by omega) (by omega)
          simp only [Bool.not_eq_false'] at this
          rw [hu x, this]; rfl), List.append_nil]
        exact filter_same fun x hx1 _ => by rw [hu x, decide_eq_false (by omega), Bool.or_false]
      have s2 : (List.range' 1 (r + 1 - 1)).filter (fun m => !u' m) = [] := filter_none fun x hx1 hx2 => by
        by_cases hx : x = r
        · rw [hu x, decide_eq_true hx, Bool.or_true]; rfl
        · have := r4 x (by omega) (by omega)
          simp only [Bool.not_eq_false'] at this
          rw [hu x, this]; rfl
      rw [order, List.filter_append, s1, s2, List.append_nil]
      exact e2
/-- how many are free -/
def free (u : Nat → Bool) (B : Nat) : Nat := ((List.range' 1 (B - 1)).filter fun n => !u n).length
set_option maxRecDepth 100000 in
theorem order_length {u : Nat → Bool} {B f : Nat} (h1 : 1 ≤ f) (h2 : f ≤ B) : (order u B f).length = free u B := by
  rw [order, free, range_split 1 (B - 1) (f - 1) (by omega), List.filter_append, List.filter_append, List.length_append, List.length_append, show 1 + (f - 1) = f by omega, show B - 1 - (f - 1) = B - f by omega, Nat.add_comm]
set_option maxRecDepth 100000 in
theorem free_le (u : Nat → Bool) (B : Nat) : free u B ≤ B - 1 := by
  unfold free
  exact Nat.le_trans (List.length_filter_le _ _) (by simp)
set_option maxRecDepth 100000 in
theorem mem_order {u : Nat → Bool} {B f n : Nat} (h1 : 1 ≤ f) (h2 : f ≤ B) : n ∈ order u B f ↔ 1 ≤ n ∧ n < B ∧ u n = false := by
  rw [order, List.mem_filter, List.mem_append, List.mem_range'_1, List.mem_range'_1]
  constructor
  · rintro ⟨h, hu⟩
    refine ⟨by omega, by omega, by simpa using hu⟩
  · rintro ⟨a, b, c⟩
    exact ⟨by omega, by simpa using c⟩
end Go.Proofs.YtajlfmnjibgbaaaGreatDoor.Alloc

/- Sets of numbers as texts: plain functions. -/
namespace Go.Proofs.YteghmnlngkcgiaaDoor.Sets

/-- is a number in a text -/
def has (l : List UInt8) (n : Nat) : Bool := (l[n / 8]?.getD 0).toNat.testBit (n % 8)
/-- the byte with these bits -/
def bsum (p : Nat → Bool) : Nat → Nat
  | 0 => 0
  | k + 1 => bsum p k + (if p k then 2 ^ k else 0)
def byteOf (p : Nat → Bool) : UInt8 := UInt8.ofNat (bsum p 8)
/-- the text of so many bytes with these numbers -/
def mk (n : Nat) (p : Nat → Bool) : List UInt8 := (List.range n).map fun i => byteOf fun k => p (8 * i + k)

theorem bsum_lt (p : Nat → Bool) : ∀ k, bsum p k < 2 ^ k
  | 0 => by simp [bsum]
  | k + 1 => by
    have h := bsum_lt p k
    rw [bsum, Nat.pow_succ]
    split <;> omega
theorem bsum_bit (p : Nat → Bool) : ∀ k j, (bsum p k).testBit j = (decide (j < k) && p j)
  | 0, j => by simp [bsum]
  | k + 1, j => by
    have h := bsum_lt p k
    have ih := bsum_bit p k j
    rw [bsum]
    by_cases hp : p k
    · rw [if_pos hp, Nat.add_comm]
      by_cases hj : j = k
      · subst hj
        rw [Nat.testBit_two_pow_add_eq, ih]
        simp [hp]
      · by_cases hlt : j < k
        · rw [Nat.testBit_two_pow_add_gt hlt, ih]
          simp [hlt, Nat.lt_succ_of_lt hlt]
        · have hb : 2 ^ k + bsum p k < 2 ^ j := Nat.lt_of_lt_of_le (show 2 ^ k + bsum p k < 2 ^ (k + 1) by rw [Nat.pow_succ]; omega) (Nat.pow_le_pow_right (by omega) (by omega))
          rw [Nat.testBit_lt_two_pow hb, decide_eq_false (by omega), Bool.false_and]
    · rw [if_neg hp, Nat.add_zero, ih]
      by_cases hj : j = k
      · subst hj
        simp [hp]
      · rw [show decide (j < k + 1) = decide (j < k) by rw [decide_eq_decide]; omega]
theorem byteOf_bit (p : Nat → Bool) (j : Nat) (hj : j < 8) : (byteOf p).toNat.testBit j = p j := by
  have h := bsum_lt p 8
  rw [byteOf, UInt8.toNat_ofNat', Nat.mod_eq_of_lt (by omega), bsum_bit]
  simp [hj]
theorem byte_ext {a b : UInt8} (h : ∀ j, j < 8 → a.toNat.testBit j = b.toNat.testBit j) : a = b := by
  apply UInt8.toNat_inj.1
  apply Nat.eq_of_testBit_eq
  intro i
  by_cases hi : i < 8
  · exact h i hi
  · have ha : a.toNat < 2 ^ i := Nat.lt_of_lt_of_le a.toNat_lt (Nat.pow_le_pow_right (by omega) (by omega))
    have hb : b.toNat < 2 ^ i := Nat.lt_of_lt_of_le b.toNat_lt (Nat.pow_le_pow_right (by omega) (by omega))
    rw [Nat.testBit_lt_two_pow ha, Nat.testBit_lt_two_pow hb]
theorem mk_length (n : Nat) (p : Nat → Bool) : (mk n p).length = n := by simp [mk]
theorem has_mk (n : Nat) (p : Nat → Bool) (m : Nat) : has (mk n p) m = (decide (m < 8 * n) && p m) := by
  unfold has mk
  by_cases h : m / 8 < n
  · rw [List.getElem?_map, List.getElem?_range h]
    simp only [Option.map_some, Option.getD_some]
    rw [byteOf_bit _ _ (Nat.mod_lt _ (by decide)), Nat.div_add_mod, decide_eq_true (by omega), Bool.true_and]
  · rw [List.getElem?_eq_none (by simp; omega), decide_eq_false (by omega), Bool.false_and]
    simp
theorem text_ext {a b : List UInt8} (hl : a.length = b.length) (h : ∀ m, has a m = has b m) : a = b := by
  apply List.ext_getElem hl
  intro i h1 h2
  apply byte_ext
  intro j hj
  have := h (8 * i + j)
  unfold has at this
  rw [show (8 * i + j) / 8 = i by omega, show (8 * i + j) % 8 = j by omega, List.getElem?_eq_getElem h1, List.getElem?_eq_getElem h2] at this
  exact this
theorem mk_has (l : List UInt8) : mk l.length (has l) = l := by
  apply text_ext (mk_length _ _)
  intro m
  rw [has_mk]
  by_cases h : m < 8 * l.length
  · simp [h]
  · rw [decide_eq_false h, Bool.false_and, has, List.getElem?_eq_none (by omega)]
    simp
/-- without the noughts at its end -/
def least (l : List UInt8) : List UInt8 := (l.reverse.dropWhile (· == 0)).reverse
theorem least_zero (l : List UInt8) : least (l ++ [0]) = least l := by simp [least]
theorem least_snoc (l : List UInt8) (c : UInt8) (h : c ≠ 0) : least (l ++ [c]) = l ++ [c] := by simp [least, h]
theorem least_nil : least [] = [] := rfl
theorem snoc_ind {P : List UInt8 → Prop} (h0 : P []) (h1 : ∀ l c, P l → P (l ++ [c])) (l : List UInt8) : P l := by
  have : ∀ r : List UInt8, P r.reverse := by
    intro r
    induction r with
    | nil => exact h0
    | cons c r ih => rw [List.reverse_cons]; exact h1 _ _ ih
  have h := this l.reverse
  rwa [List.reverse_reverse] at h
theorem has_snoc_zero (l : List UInt8) (m : Nat) : has (l ++ [0]) m = has l m := by
  unfold has
  by_cases h : m / 8 < l.length
  · rw [List.getElem?_append_left h]
  · rw [List.getElem?_append_right (by omega), List.getElem?_eq_none (by omega : l.length ≤ m / 8)]
    by_cases h0 : m / 8 - l.length = 0
    · rw [h0]; simp
    · rw [List.getElem?_eq_none (by simp; omega)]
theorem has_least (l : List UInt8) (m : Nat) : has (least l) m = has l m := by
  revert m
  refine snoc_ind (P := fun l => ∀ m, has (least l) m = has l m) (fun _ => rfl) (fun l c ih m => ?_) l
  by_cases h : c = 0
  · rw [h, least_zero, has_snoc_zero]; exact ih m
  · rw [least_snoc l c h]
/-- a text that ends in no nought -/
def Least (l : List UInt8) : Prop := least l = l
theorem least_length (l : List UInt8) : (least l).length ≤ l.length := by
  refine snoc_ind (P := fun l => (least l).length ≤ l.length) (Nat.le_refl _) (fun l c ih => ?_) l
  by_cases h : c = 0
  · rw [h, least_zero, List.length_append]; omega
  · rw [least_snoc l c h]; exact Nat.le_refl _
theorem least_least (l : List UInt8) : Least (least l) := by
  refine snoc_ind (P := fun l => Least (least l)) rfl (fun l c ih => ?_) l
  by_cases h : c = 0
  · rw [h, least_zero]; exact ih
  · rw [least_snoc l c h]; exact least_snoc l c h
theorem byte_zero {c : UInt8} (h : ∀ j, j < 8 → c.toNat.testBit j = false) : c = 0 := byte_ext fun j hj => by rw [h j hj]; simp
/-- a least text has a number in its last byte -/
theorem least_top {l : List UInt8} (h : Least l) (hn : l ≠ []) : ∃ m, m / 8 = l.length - 1 ∧ has l m = true := by
  revert h hn
  refine snoc_ind (P := fun l => Least l → l ≠ [] → ∃ m, m / 8 = l.length - 1 ∧ has l m = true) (fun _ h => absurd rfl h) (fun l c _ hl _ => ?_) l
  by_cases hc : c = 0
  · exfalso
    rw [hc] at hl
    have := congrArg List.length hl
    rw [least_zero, List.length_append] at this
    have h2 := least_length l
    simp at this
    omega
  · have hb : ∃ j, j < 8 ∧ c.toNat.testBit j = true := by
      refine Classical.byContradiction fun h => hc (byte_zero fun j hj => ?_)
      cases hx : c.toNat.testBit j with
      | false => rfl
      | true => exact absurd ⟨j, hj, hx⟩ h
    obtain ⟨j, hj, hx⟩ := hb
    refine ⟨8 * l.length + j, by simp; omega, ?_⟩
    unfold has
    rw [show (8 * l.length + j) / 8 = l.length by omega, show (8 * l.length + j) % 8 = j by omega, List.getElem?_append_right (Nat.le_refl _)]
    simpa using hx
theorem has_beyond {l : List UInt8} {m : Nat} (h : l.length ≤ m / 8) : has l m = false := by
  unfold has
  rw [List.getElem?_eq_none h]
  simp
theorem least_le {a b : List UInt8} (ha : Least a) (h : ∀ m, has a m = has b m) : a.length ≤ b.length := by
  by_cases hn : a = []
  · rw [hn]; simp
  · obtain ⟨m, hm, hx⟩ := least_top ha hn
    refine Classical.byContradiction fun hlt => ?_
    rw [h m, has_beyond (by omega)] at hx
    cases hx
theorem least_ext {a b : List UInt8} (ha : Least a) (hb : Least b) (h : ∀ m, has a m = has b m) : a = b :=
  text_ext (Nat.le_antisymm (least_le ha h) (least_le hb fun m => (h m).symm)) h
end Go.Proofs.YteghmnlngkcgiaaDoor.Sets

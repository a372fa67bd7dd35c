/- Alloc: the free blocks, in the order from a place on: plain facts. -/
import Derived.Test.YthclfljmnljhdaaDoorSetSpecB
namespace Go.Proofs.YthclfljmnljhdaaDoor.Alloc
open Sets

/-- the free blocks from f on, then those from 1 on -/
def order (u : Nat → Bool) (B f : Nat) : List Nat := (List.range' f (B - f) ++ List.range' 1 (f - 1)).filter fun n => !u n
theorem seek_none_filter {p : Nat → Bool} : ∀ {k m : Nat}, seek p k m = none → (List.range' m k).filter p = []
  | 0, m, _ => rfl
  | k + 1, m, h => by
    unfold seek at h
    by_cases hp : p m = true
    · rw [if_pos hp] at h; cases h
    · rw [if_neg hp] at h
      rw [List.range'_succ, List.filter_cons, if_neg hp]
      exact seek_none_filter h
theorem seek_some_filter {p : Nat → Bool} : ∀ {k m r : Nat}, seek p k m = some r → (List.range' m k).filter p = r :: (List.range' (r + 1) (m + k - (r + 1))).filter p
  | 0, _, _, h => by cases h
  | k + 1, m, r, h => by
    unfold seek at h
    by_cases hp : p m = true
    · rw [if_pos hp] at h
      injection h with h
      subst h
      rw [List.range'_succ, List.filter_cons, if_pos hp, show m + (k + 1) - (m + 1) = k by omega]
    · rw [if_neg hp] at h
      rw [List.range'_succ, List.filter_cons, if_neg hp, seek_some_filter h, show m + 1 + k - (r + 1) = m + (k + 1) - (r + 1) by omega]
theorem range_split (a k j : Nat) (h : j ≤ k) : List.range' a k = List.range' a j ++ List.range' (a + j) (k - j) := by
  have := List.range'_append (s := a) (m := j) (n := k - j) (step := 1)
  rw [Nat.one_mul, show j + (k - j) = k by omega] at this
  exact this.symm
theorem filter_none {p : Nat → Bool} {a k : Nat} (h : ∀ x, a ≤ x → x < a + k → p x = false) : (List.range' a k).filter p = [] := by
  rw [List.filter_eq_nil_iff]
  intro x hx
  rw [List.mem_range'_1] at hx
  rw [h x hx.1 hx.2]
  simp
theorem filter_same {p q : Nat → Bool} {a k : Nat} (h : ∀ x, a ≤ x → x < a + k → p x = q x) : (List.range' a k).filter p = (List.range' a k).filter q := by
  refine List.filter_congr fun x hx => ?_
  rw [List.mem_range'_1] at hx
  exact h x hx.1 hx.2
/-- the first that is free is taken: where it is found, and what is free then -/
theorem order_take {u u' : Nat → Bool} {B f n : Nat} {rest : List Nat} (h1 : 1 ≤ f) (h2 : f ≤ B) (h : order u B f = n :: rest) (hu : ∀ m, u' m = (u m || decide (m = n))) :
    1 ≤ n ∧ n < B ∧ u n = false ∧ order u' B (n + 1) = rest ∧
      (seek (fun m => !u m) (B - f) f = some n ∨ seek (fun m => !u m) (B - f) f = none ∧ seek (fun m => !u m) (B - 1) 1 = some n) := by
  unfold order at h
  rw [List.filter_append] at h
  cases hA : seek (fun m => !u m) (B - f) f with
  | some r =>
    obtain ⟨r1, r2, r3, r4⟩ := seek_some hA
    rw [seek_some_filter hA, List.cons_append] at h
    injection h with e1 e2
    subst e1
    refine ⟨by omega, by omega, by simpa using r3, ?_, Or.inl rfl⟩
    have s1 : (List.range' (r + 1) (B - (r + 1))).filter (fun m => !u' m) = (List.range' (r + 1) (f + (B - f) - (r + 1))).filter fun m => !u m := by
      rw [show f + (B - f) - (r + 1) = B - (r + 1) by omega]
      exact filter_same fun x hx1 _ => by rw [hu x, decide_eq_false (by omega), Bool.or_false]
    have s2 : (List.range' 1 (r + 1 - 1)).filter (fun m => !u' m) = (List.range' 1 (f - 1)).filter fun m => !u m := by
      rw [range_split 1 (r + 1 - 1) (f - 1) (by omega), List.filter_append]
      rw [filter_none (a := 1 + (f - 1)) (fun x hx1 hx2 => by
        by_cases hx : x = r
        · rw [hu x, decide_eq_true hx, Bool.or_true]; rfl
        · have := r4 x (by omega) (by omega)
          simp only [Bool.not_eq_false'] at this
          rw [hu x, this]; rfl), List.append_nil]
      exact filter_same fun x hx1 hx2 => by rw [hu x, decide_eq_false (by omega), Bool.or_false]
    rw [order, List.filter_append, s1, s2]
    exact e2
  | none =>
    rw [seek_none_filter hA, List.nil_append] at h
    cases hC : seek (fun m => !u m) (f - 1) 1 with
    | none => rw [seek_none_filter hC] at h; cases h
    | some r =>
      obtain ⟨r1, r2, r3, r4⟩ := seek_some hC
      rw [seek_some_filter hC] at h
      injection h with e1 e2
      subst e1
      refine ⟨by omega, by omega, by simpa using r3, ?_, Or.inr ⟨rfl, seek_eq r1 (by omega) r3 r4⟩⟩
      have s1 : (List.range' (r + 1) (B - (r + 1))).filter (fun m => !u' m) = (List.range' (r + 1) (1 + (f - 1) - (r + 1))).filter fun m => !u m := by
        rw [range_split (r + 1) (B - (r + 1)) (1 + (f - 1) - (r + 1)) (by omega), List.filter_append]
        rw [filter_none (a := r + 1 + (1 + (f - 1) - (r + 1))) (fun x hx1 hx2 => by
          have := seek_none hA x (by omega) (by omega)
          simp only [Bool.not_eq_false'] at this
          rw [hu x, this]; rfl), List.append_nil]
        exact filter_same fun x hx1 _ => by rw [hu x, decide_eq_false (by omega), Bool.or_false]
      have s2 : (List.range' 1 (r + 1 - 1)).filter (fun m => !u' m) = [] := filter_none fun x hx1 hx2 => by
        by_cases hx : x = r
        · rw [hu x, decide_eq_true hx, Bool.or_true]; rfl
        · have := r4 x (by omega) (by omega)
          simp only [Bool.not_eq_false'] at this
          rw [hu x, this]; rfl
      rw [order, List.filter_append, s1, s2, List.append_nil]
      exact e2
/-- how many are free -/
def free (u : Nat → Bool) (B : Nat) : Nat := ((List.range' 1 (B - 1)).filter fun n => !u n).length
theorem order_length {u : Nat → Bool} {B f : Nat} (h1 : 1 ≤ f) (h2 : f ≤ B) : (order u B f).length = free u B := by
  rw [order, free, range_split 1 (B - 1) (f - 1) (by omega), List.filter_append, List.filter_append, List.length_append, List.length_append, show 1 + (f - 1) = f by omega, show B - 1 - (f - 1) = B - f by omega, Nat.add_comm]
theorem free_le (u : Nat → Bool) (B : Nat) : free u B ≤ B - 1 := by
  unfold free
  exact Nat.le_trans (List.length_filter_le _ _) (by simp)
theorem mem_order {u : Nat → Bool} {B f n : Nat} (h1 : 1 ≤ f) (h2 : f ≤ B) : n ∈ order u B f ↔ 1 ≤ n ∧ n < B ∧ u n = false := by
  rw [order, List.mem_filter, List.mem_append, List.mem_range'_1, List.mem_range'_1]
  constructor
  · rintro ⟨h, hu⟩
    refine ⟨by omega, by omega, by simpa using hu⟩
  · rintro ⟨a, b, c⟩
    exact ⟨by omega, by simpa using c⟩
theorem order_nodup {u : Nat → Bool} {B f : Nat} (h1 : 1 ≤ f) : (order u B f).Nodup := by
  unfold order
  refine List.Pairwise.filter _ ?_
  show List.Nodup _
  rw [List.nodup_append]
  refine ⟨List.nodup_range', List.nodup_range', ?_⟩
  intro a ha b hb
  rw [List.mem_range'_1] at ha hb
  omega

/-- the same, place by place -/
def ordTo (u : Nat → Bool) (B f k : Nat) : List Nat := ((List.range k).map fun i => if f + i ≥ B then f + i - B else f + i).filter fun n => decide (1 ≤ n) && !u n
theorem ordTo_succ (u : Nat → Bool) (B f k : Nat) : ordTo u B f (k + 1) = ordTo u B f k ++ (if (decide (1 ≤ (if f + k ≥ B then f + k - B else f + k)) && !u (if f + k ≥ B then f + k - B else f + k)) = true then [if f + k ≥ B then f + k - B else f + k] else []) := by
  unfold ordTo
  rw [List.range_succ, List.map_append, List.filter_append]
  congr 1
  rw [List.map_cons, List.map_nil, List.filter_cons, List.filter_nil]
theorem ordTo_length (u : Nat → Bool) (B f k : Nat) : (ordTo u B f k).length ≤ k := by
  unfold ordTo
  refine Nat.le_trans (List.length_filter_le _ _) ?_
  simp
theorem ordTo_all {u : Nat → Bool} {B f : Nat} (h1 : 1 ≤ f) (h2 : f ≤ B) : ordTo u B f B = order u B f := by
  have e : (List.range B).map (fun i => if f + i ≥ B then f + i - B else f + i) = List.range' f (B - f) ++ List.range' 0 f := by
    apply List.ext_getElem
    · simp; omega
    · intro i hi1 hi2
      simp only [List.length_map, List.length_range] at hi1
      rw [List.getElem_map, List.getElem_range]
      by_cases h : i < B - f
      · rw [List.getElem_append_left (by simpa using h), List.getElem_range', if_neg (by omega)]
        omega
      · rw [List.getElem_append_right (by simp; omega), List.getElem_range', if_pos (by omega)]
        simp only [List.length_range']
        omega
  rw [ordTo, e, order, List.filter_append, List.filter_append]
  congr 1
  · exact filter_same fun x hx1 _ => by rw [decide_eq_true (by omega), Bool.true_and]
  · rw [range_split 0 f 1 h1, List.filter_append]
    have z : (List.range' 0 1).filter (fun n => decide (1 ≤ n) && !u n) = [] := filter_none fun x hx1 hx2 => by
      rw [decide_eq_false (by omega), Bool.false_and]
    rw [z, List.nil_append]
    exact filter_same fun x hx1 _ => by rw [decide_eq_true (by omega), Bool.true_and]
end Go.Proofs.YthclfljmnljhdaaDoor.Alloc

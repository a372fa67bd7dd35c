/- Planes: what the laws without the document's answer say; plain. -/
import Derived.Test.YteghmnlngkcgiaaDoorPlaneFixed
namespace Go.Proofs.YteghmnlngkcgiaaDoor.Planes
open Go.RowKit Mem Sets

theorem used_iff (P : Pl) (m : Nat) : hasB (used P) m = true ↔ ∃ i, i < 8 ∧ hasB (P i) m = true := used_has P m 8
theorem leastB_used (P : Pl) : LeastB (used P) := leastB_or _ _
/-- two planes, and no other -/
def two (i j : Nat) (x y : ByteArray) : Pl := upd (upd none8 i x) j y
theorem two_fst {i j : Nat} (h : i ≠ j) (x y : ByteArray) : two i j x y i = x := by unfold two; rw [upd_other _ _ h, upd_same]
theorem two_snd (i j : Nat) (x y : ByteArray) : two i j x y j = y := upd_same _ _ _
theorem used_two {i j : Nat} (hi : i < 8) (hj : j < 8) (hij : i ≠ j) (x y : ByteArray) (m : Nat) : hasB (used (two i j x y)) m = (hasB x m || hasB y m) := by
  rw [Bool.eq_iff_iff, used_iff, Bool.or_eq_true]
  constructor
  · rintro ⟨k, hk, h⟩
    unfold two upd at h
    by_cases e : k = j
    · rw [if_pos e] at h; exact Or.inr h
    · rw [if_neg e] at h
      by_cases e2 : k = i
      · rw [if_pos e2] at h; exact Or.inl h
      · rw [if_neg e2, none8, hasB_empty] at h; cases h
  · rintro (h | h)
    · exact ⟨i, hi, by rw [two_fst hij]; exact h⟩
    · exact ⟨j, hj, by rw [two_snd]; exact h⟩
theorem fit_two {B i j : Nat} {x y : ByteArray} (hx : Fit B x) (hy : Fit B y) : FitAll B (two i j x y) := ((fit_none8 B).upd i hx).upd j hy
theorem two_clear (i j : Nat) (x y : ByteArray) : upd (two i j x y) j emptyB = two i j x emptyB := funext fun k => by
  unfold two upd
  by_cases e : k = j
  · rw [if_pos e, if_pos e]
  · rw [if_neg e, if_neg e, if_neg e]

/-- as many become free as the plane that is cleared had alone -/
theorem frees {B i j : Nat} (hi : i < 8) (hj : j < 8) (hij : i ≠ j) (a b : ByteArray) :
    free B (two i j (leastB a) emptyB) - free B (two i j (leastB a) (leastB b)) = (cnt (minusB b a) : Int) := by
  have h := cnt_sum (a := used (two i j (leastB a) (leastB b))) (b := emptyB) (c := used (two i j (leastB a) emptyB)) (d := minusB b a) fun m => by
    rw [used_two hi hj hij, used_two hi hj hij, hasB_empty, hasB_minus, hasB_leastB, hasB_leastB]
    cases hasB a m <;> cases hasB b m <;> rfl
  have h0 : cnt emptyB = 0 := by decide
  unfold free
  omega
theorem used_left {i j : Nat} (hi : i < 8) (hj : j < 8) (hij : i ≠ j) (a : ByteArray) : used (two i j (leastB a) emptyB) = leastB a :=
  b_ext (leastB_used _) (leastB_least _) fun m => by rw [used_two hi hj hij, hasB_empty, Bool.or_false]
theorem free_bounds {B : Nat} {P : Pl} (h : FitAll B P) : -1 ≤ free B P ∧ free B P ≤ (B : Int) := by
  have := cnt_used_le h
  unfold free
  omega

/-! ### differences -/
section
variable (p q : ByteArray)
theorem diff_back (hq : LeastB q) : minusB (orB p (minusB q p)) (minusB p q) = q :=
  b_ext (leastB_minus _ _) hq fun m => by
    rw [hasB_minus, hasB_or, hasB_minus, hasB_minus]
    cases hasB p m <;> cases hasB q m <;> rfl
theorem diff_new : andB p (minusB q p) = emptyB :=
  b_ext (leastB_and _ _) leastB_empty fun m => by
    rw [hasB_and, hasB_minus, hasB_empty]
    cases hasB p m <;> cases hasB q m <;> rfl
theorem diff_old : minusB (minusB p q) p = emptyB :=
  b_ext (leastB_minus _ _) leastB_empty fun m => by
    rw [hasB_minus, hasB_minus, hasB_empty]
    cases hasB p m <;> cases hasB q m <;> rfl
theorem diff_apart : andB (minusB q p) (minusB p q) = emptyB :=
  b_ext (leastB_and _ _) leastB_empty fun m => by
    rw [hasB_and, hasB_minus, hasB_minus, hasB_empty]
    cases hasB p m <;> cases hasB q m <;> rfl
theorem used_both {i j : Nat} (hi : i < 8) (hj : j < 8) (hij : i ≠ j) : used (two i j p q) = orB p q :=
  b_ext (leastB_used _) (leastB_or _ _) fun m => by rw [used_two hi hj hij, hasB_or]
end

/-! ### all planes are one set -/
def all (k : Nat) (x : ByteArray) : Pl := fun i => if i < k then x else emptyB
theorem all_zero (x : ByteArray) : all 0 x = none8 := funext fun i => if_neg (Nat.not_lt_zero i)
theorem all_step (k : Nat) (x : ByteArray) : upd (all k x) k x = all (k + 1) x := funext fun i => by
  unfold upd all
  by_cases h : i = k
  · subst h; rw [if_pos rfl, if_pos (by omega)]
  · rw [if_neg h]
    by_cases h2 : i < k
    · rw [if_pos h2, if_pos (by omega)]
    · rw [if_neg h2, if_neg (by omega)]
theorem fit_all {B k : Nat} {x : ByteArray} (h : Fit B x) : FitAll B (all k x) := fun i _ => by
  unfold all
  split
  · exact h
  · exact fit_empty B
theorem used_all {x : ByteArray} (h : LeastB x) : used (all 8 x) = x :=
  b_ext (leastB_used _) h fun m => by
    rw [Bool.eq_iff_iff, used_iff]
    constructor
    · rintro ⟨k, hk, h⟩
      unfold all at h
      rw [if_pos hk] at h
      exact h
    · intro h
      exact ⟨0, by omega, by unfold all; rw [if_pos (by omega)]; exact h⟩
theorem used_none : used none8 = emptyB :=
  b_ext (leastB_used _) leastB_empty fun m => by
    rw [hasB_empty]
    cases h : hasB (used none8) m with
    | false => rfl
    | true =>
      obtain ⟨k, _, h⟩ := (used_iff none8 m).1 h
      rw [none8, hasB_empty] at h
      cases h
/-- what is behind: one copied, one cleared -/
def apart (x y : ByteArray) : Pl := upd (upd (upd (all 8 x) 3 y) 5 y) 3 emptyB
theorem apart_at (x y : ByteArray) {k : Nat} (hk : k < 8) : apart x y k = if k = 3 then emptyB else if k = 5 then y else x := by
  unfold apart upd all
  by_cases h3 : k = 3
  · rw [if_pos h3, if_pos h3]
  · by_cases h5 : k = 5
    · simp [h5]
    · simp [h3, h5, hk]

/-! ### calls, by whether they may be -/
section
variable (g B : Nat) (P : Pl) (w : World)
theorem put_good (k : Nat) (p : Int) (e : p = (k : Int)) (s : ByteArray) (h : PMap w g B P) (hs : s.size ≤ 140737488355328) (hB : B ≤ 4096) (hk : k < 8) (hok : okSet B s = true) :
    Calls Tryd.prog 17 #[.pointer (some ⟨g, 0, none⟩), .int .i64 p, .string s] w fun e w' => e = .returned (.int .i64 0) ∧ PMap w' g B (upd P k (leastB s)) ∧ w.grownBy w' (some g) := by
  subst e
  exact put_yes g B P w k s h hs hB hk hok
theorem put_fail (p : Int) (s : ByteArray) (h : PMap w g B P) (hs : s.size ≤ 140737488355328) (hB : B ≤ 4096) (hno : okSet B s = false) :
    Calls Tryd.prog 17 #[.pointer (some ⟨g, 0, none⟩), .int .i64 p, .string s] w fun e w' => e = .returned (.int .i64 91) ∧ PMap w' g B P ∧ w.grownBy w' (some g) := by
  refine (put_no g B P w p s h hs hB (by rw [hno, Bool.and_false])).mono ?_
  rintro e w' ⟨h1, h2⟩
  exact ⟨h1, h.below h2, Only.of_below h2 _⟩
theorem clear_good (k : Nat) (p : Int) (e : p = (k : Int)) (h : PMap w g B P) (hB : B ≤ 4096) (hk : k < 8) :
    Calls Tryd.prog 20 #[.pointer (some ⟨g, 0, none⟩), .int .i64 p] w fun e w' => e = .returned (.int .i64 0) ∧ PMap w' g B (upd P k emptyB) ∧ w.grownBy w' (some g) := by
  subst e
  have h := clear_any g B P w k h hB
  have hc : (isP (k : Int) && okSet B emptyB) = true := by rw [okSet_empty, Bool.and_true, isP_iff]; omega
  rw [putE, if_pos hc, putP, if_pos hc, leastB_empty', Int.toNat_natCast] at h
  exact h
theorem copy_good (i j : Nat) (p q : Int) (e : p = (i : Int)) (e' : q = (j : Int)) (h : PMap w g B P) (hi : i < 8) (hj : j < 8) :
    Calls Tryd.prog 19 #[.pointer (some ⟨g, 0, none⟩), .int .i64 p, .int .i64 q] w fun e w' => e = .returned (.int .i64 0) ∧ PMap w' g B (upd P j (P i)) ∧ w.grownBy w' (some g) := by
  subst e e'
  have h := copy_any g B P w i j h
  have hc : (isP (i : Int) && isP (j : Int)) = true := by rw [Bool.and_eq_true, isP_iff, isP_iff]; omega
  rw [copyE, if_pos hc, copyP, if_pos hc, Int.toNat_natCast, Int.toNat_natCast] at h
  exact h
theorem plane_good (k : Nat) (p : Int) (e : p = (k : Int)) (h : PMap w g B P) (hk : k < 8) : Calls Tryd.prog 22 #[.pointer (some ⟨g, 0, none⟩), .int .i64 p] w fun e w' => e = .returned (.tuple #[.string (P k), .int .i64 0]) ∧ Below w.heap.size w w' := by
  subst e
  have h := plane_any g B P w k h
  have hc : isP (k : Int) = true := by rw [isP_iff]; omega
  rw [planeS, if_pos hc, planeE, if_pos hc, Int.toNat_natCast] at h
  exact h
theorem diff_good (i j : Nat) (p q : Int) (e : p = (i : Int)) (e' : q = (j : Int)) (h : PMap w g B P) (hf : FitAll B P) (hB : B ≤ 4096) (hi : i < 8) (hj : j < 8) :
    Calls Tryd.prog 26 #[.pointer (some ⟨g, 0, none⟩), .int .i64 p, .int .i64 q] w fun e w' => e = .returned (.tuple #[.string (minusB (P j) (P i)), .string (minusB (P i) (P j)), .int .i64 0]) ∧ Below w.heap.size w w' := by
  subst e e'
  have h := diff_any g B P w i j h hf hB
  have hc : (isP (i : Int) && isP (j : Int)) = true := by rw [Bool.and_eq_true, isP_iff, isP_iff]; omega
  rw [copyE, if_pos hc, diffS, if_pos hc, diffT, if_pos hc, Int.toNat_natCast, Int.toNat_natCast] at h
  exact h
end
end Go.Proofs.YteghmnlngkcgiaaDoor.Planes

/- Planes: what eight texts are, and what is done to them; plain. -/
import Derived.Test.YteghmnlngkcgiaaDoorSetLawsD
namespace Go.Proofs.YteghmnlngkcgiaaDoor.Planes
open Go.RowKit Mem Sets

/-- eight texts -/
abbrev Pl := Nat → ByteArray
def Pl.vals (P : Pl) : Array Value := #[.string (P 0), .string (P 1), .string (P 2), .string (P 3), .string (P 4), .string (P 5), .string (P 6), .string (P 7)]
def Pl.cells (B : Int) (P : Pl) : Array Value := #[.int .i64 B, .string (P 0), .string (P 1), .string (P 2), .string (P 3), .string (P 4), .string (P 5), .string (P 6), .string (P 7)]
def none8 : Pl := fun _ => emptyB
def upd (P : Pl) (k : Nat) (s : ByteArray) : Pl := fun i => if i = k then s else P i
theorem upd_same (P : Pl) (k : Nat) (s : ByteArray) : upd P k s k = s := if_pos rfl
theorem upd_other (P : Pl) {k i : Nat} (s : ByteArray) (h : i ≠ k) : upd P k s i = P i := if_neg h
theorem upd_cells (B : Int) (P : Pl) {k : Nat} (hk : k < 8) (s : ByteArray) : (Pl.cells B P).setIfInBounds (1 + k) (.string s) = Pl.cells B (upd P k s) := by
  match k, hk with
  | 0, _ | 1, _ | 2, _ | 3, _ | 4, _ | 5, _ | 6, _ | 7, _ => rfl
theorem cells_get (B : Int) (P : Pl) {k : Nat} (hk : k < 8) : (Pl.cells B P)[1 + k]? = some (.string (P k)) := by
  match k, hk with
  | 0, _ | 1, _ | 2, _ | 3, _ | 4, _ | 5, _ | 6, _ | 7, _ => rfl
theorem vals_get (P : Pl) {k : Nat} (hk : k < 8) : P.vals[k]? = some (.string (P k)) := by
  match k, hk with
  | 0, _ | 1, _ | 2, _ | 3, _ | 4, _ | 5, _ | 6, _ | 7, _ => rfl

/-- the set of a plane of so many blocks -/
def Fit (B : Nat) (s : ByteArray) : Prop := LeastB s ∧ ∀ m, hasB s m = true → 1 ≤ m ∧ m < B
def FitAll (B : Nat) (P : Pl) : Prop := ∀ k, k < 8 → Fit B (P k)
theorem Fit.size {B n : Nat} {s : ByteArray} (h : Fit B s) (hB : B ≤ 8 * n) : s.size ≤ n := by
  by_cases h0 : s.data.toList = []
  · have h1 : s.size = 0 := by rw [Lib.size_eq s, h0]; rfl
    omega
  · obtain ⟨m, h1, h2⟩ := least_top h.1 h0
    have h3 := h.2 m h2
    have h4 : 0 < s.data.toList.length := List.length_pos_iff.2 h0
    rw [Lib.size_eq s]
    omega
theorem fit_empty (B : Nat) : Fit B emptyB := ⟨leastB_empty, fun m h => by rw [hasB_empty] at h; cases h⟩
theorem fit_none8 (B : Nat) : FitAll B none8 := fun _ _ => fit_empty B
theorem FitAll.upd {B : Nat} {P : Pl} (h : FitAll B P) (k : Nat) {s : ByteArray} (hs : Fit B s) : FitAll B (upd P k s) := fun i hi => by
  by_cases e : i = k
  · subst e; rw [upd_same]; exact hs
  · rw [upd_other _ _ e]; exact h i hi

/-- may a set be a plane -/
def okSet (B : Nat) (s : ByteArray) : Bool := !hasB s 0 && (seek (hasB s) (8 * s.size - B) B).isNone
theorem hasB_beyond {s : ByteArray} {m : Nat} (h : 8 * s.size ≤ m) : hasB s m = false := by
  unfold hasB
  rw [has_beyond (by rw [← Lib.size_eq s]; omega)]
theorem okSet_iff {B : Nat} {s : ByteArray} : okSet B s = true ↔ ∀ m, hasB s m = true → 1 ≤ m ∧ m < B := by
  unfold okSet
  constructor
  · intro h m hm
    rw [Bool.and_eq_true, Bool.not_eq_true', Option.isNone_iff_eq_none] at h
    refine ⟨?_, ?_⟩
    · cases m with
      | zero => rw [h.1] at hm; cases hm
      | succ m => omega
    · refine Classical.byContradiction fun hn => ?_
      by_cases hlt : m < 8 * s.size
      · rw [seek_none h.2 m (by omega) (by omega)] at hm; cases hm
      · rw [hasB_beyond (by omega)] at hm; cases hm
  · intro h
    rw [Bool.and_eq_true, Bool.not_eq_true', Option.isNone_iff_eq_none]
    refine ⟨?_, seek_eq_none fun x h1 h2 => ?_⟩
    · cases h0 : hasB s 0 with
      | false => rfl
      | true => have := (h 0 h0).1; omega
    · cases h0 : hasB s x with
      | false => rfl
      | true => have := (h x h0).2; omega
theorem okSet_empty (B : Nat) : okSet B emptyB = true := okSet_iff.2 fun m h => by rw [hasB_empty] at h; cases h
/-- the least text of a set -/
def leastB (s : ByteArray) : ByteArray := orB s emptyB
theorem hasB_leastB (s : ByteArray) (m : Nat) : hasB (leastB s) m = hasB s m := by rw [leastB, hasB_or, hasB_empty, Bool.or_false]
theorem leastB_least (s : ByteArray) : LeastB (leastB s) := leastB_or _ _
theorem okSet_fit {B : Nat} {s : ByteArray} (h : okSet B s = true) : Fit B (leastB s) := ⟨leastB_least s, fun m hm => by rw [hasB_leastB] at hm; exact okSet_iff.1 h m hm⟩
theorem leastB_eq {s : ByteArray} (h : LeastB s) : leastB s = s := b_ext (leastB_least s) h (hasB_leastB s)
theorem leastB_empty' : leastB emptyB = emptyB := leastB_eq leastB_empty

/-- is it a plane -/
def isP (p : Int) : Bool := decide (0 ≤ p) && decide (p < 8)
theorem isP_iff {p : Int} : isP p = true ↔ 0 ≤ p ∧ p < 8 := by simp [isP]
/-- what Put answers and leaves -/
def putE (B : Nat) (p : Int) (s : ByteArray) : Int := if (isP p && okSet B s) = true then 0 else 91
def putP (B : Nat) (P : Pl) (p : Int) (s : ByteArray) : Pl := if (isP p && okSet B s) = true then upd P p.toNat (leastB s) else P
def copyE (p q : Int) : Int := if (isP p && isP q) = true then 0 else 91
def copyP (P : Pl) (p q : Int) : Pl := if (isP p && isP q) = true then upd P q.toNat (P p.toNat) else P
def planeE (p : Int) : Int := if isP p = true then 0 else 91
def planeS (P : Pl) (p : Int) : ByteArray := if isP p = true then P p.toNat else emptyB
def diffS (P : Pl) (p q : Int) : ByteArray := if (isP p && isP q) = true then minusB (P q.toNat) (P p.toNat) else emptyB
def diffT (P : Pl) (p q : Int) : ByteArray := if (isP p && isP q) = true then minusB (P p.toNat) (P q.toNat) else emptyB
theorem fit_put {B : Nat} {P : Pl} (h : FitAll B P) (p : Int) (s : ByteArray) : FitAll B (putP B P p s) := by
  unfold putP
  split
  · next e => exact h.upd _ (okSet_fit (by rw [Bool.and_eq_true] at e; exact e.2))
  · exact h
theorem fit_copy {B : Nat} {P : Pl} (h : FitAll B P) (p q : Int) : FitAll B (copyP P p q) := by
  unfold copyP
  split
  · next e =>
    rw [Bool.and_eq_true, isP_iff, isP_iff] at e
    exact h.upd _ (h _ (by omega))
  · exact h

/-- what is used by the first so many planes -/
def usedTo (P : Pl) : Nat → ByteArray
  | 0 => emptyB
  | k + 1 => orB (usedTo P k) (P k)
def used (P : Pl) : ByteArray := usedTo P 8
theorem usedTo_fit {B : Nat} {P : Pl} (h : FitAll B P) : ∀ k, k ≤ 8 → Fit B (usedTo P k)
  | 0, _ => fit_empty B
  | k + 1, hk => ⟨leastB_or _ _, fun m hm => by
      rw [usedTo, hasB_or, Bool.or_eq_true] at hm
      rcases hm with hm | hm
      · exact (usedTo_fit h k (by omega)).2 m hm
      · exact (h k (by omega)).2 m hm⟩
theorem used_has (P : Pl) (m : Nat) : ∀ k, hasB (usedTo P k) m = true ↔ ∃ i, i < k ∧ hasB (P i) m = true
  | 0 => by rw [usedTo, hasB_empty]; simp
  | k + 1 => by
    rw [usedTo, hasB_or, Bool.or_eq_true, used_has P m k]
    constructor
    · rintro (⟨i, h1, h2⟩ | h)
      · exact ⟨i, by omega, h2⟩
      · exact ⟨k, by omega, h⟩
    · rintro ⟨i, h1, h2⟩
      by_cases e : i = k
      · subst e; exact Or.inr h2
      · exact Or.inl ⟨i, by omega, h2⟩

/-- the map's text -/
def textL (B : Nat) (P : Pl) : List UInt8 := mk B fun x => hasB (P (x % 8)) (x / 8)
/-- the set of the blocks of a text that have a bit -/
def planeOf (l : List UInt8) (p : Nat) : List Nat := (List.range l.length).filter fun b => has l (8 * b + p)
def setOf (l : List UInt8) (p : Nat) : ByteArray := ⟨(ofL (planeOf l p)).toArray⟩
theorem hasB_setOf (l : List UInt8) {p : Nat} (hp : p < 8) (m : Nat) : hasB (setOf l p) m = has l (8 * m + p) := by
  unfold hasB setOf
  rw [show (⟨(ofL (planeOf l p)).toArray⟩ : ByteArray).data.toList = ofL (planeOf l p) from rfl, has_ofL, planeOf, Bool.eq_iff_iff, decide_eq_true_eq, List.mem_filter, List.mem_range]
  constructor
  · exact fun h => h.2
  · intro h
    refine ⟨?_, h⟩
    refine Classical.byContradiction fun hn => ?_
    rw [has_beyond (by omega)] at h
    cases h
theorem leastB_setOf (l : List UInt8) (p : Nat) : LeastB (setOf l p) := ofL_least _
theorem has_textL {B : Nat} {P : Pl} (h : FitAll B P) {p : Nat} (hp : p < 8) (m : Nat) : has (textL B P) (8 * m + p) = hasB (P p) m := by
  rw [textL, has_mk, show (8 * m + p) % 8 = p by omega, show (8 * m + p) / 8 = m by omega]
  by_cases hm : m < B
  · rw [decide_eq_true (by omega), Bool.true_and]
  · rw [decide_eq_false (by omega), Bool.false_and]
    cases h0 : hasB (P p) m with
    | false => rfl
    | true => have := ((h p hp).2 m h0).2; omega
/-- the planes of a map's text are those of the map -/
theorem setOf_textL {B : Nat} {P : Pl} (h : FitAll B P) {p : Nat} (hp : p < 8) : setOf (textL B P) p = P p :=
  b_ext (leastB_setOf _ _) (h p hp).1 fun m => by rw [hasB_setOf _ hp, has_textL h hp]
theorem textL_setOf (l : List UInt8) : textL l.length (setOf l) = l :=
  text_ext (mk_length _ _) fun m => by
    rw [textL, has_mk, hasB_setOf _ (by omega), show 8 * (m / 8) + m % 8 = m by omega]
    by_cases hm : m < 8 * l.length
    · rw [decide_eq_true hm, Bool.true_and]
    · rw [decide_eq_false hm, Bool.false_and, has_beyond (by omega)]
theorem textL_length (B : Nat) (P : Pl) : (textL B P).length = B := mk_length _ _
/-- how many are free -/
def free (B : Nat) (P : Pl) : Int := (B : Int) - 1 - (cnt (used P) : Int)
end Go.Proofs.YteghmnlngkcgiaaDoor.Planes

/- Sets: the first number that a text has, that it has not, from a place on. -/
import Derived.Test.YteghmnlngkcgiaaDoorSetSpec
namespace Go.Proofs.YteghmnlngkcgiaaDoor.Sets

/-- the first of k places from m on where p holds -/
def seek (p : Nat → Bool) : Nat → Nat → Option Nat
  | 0, _ => none
  | k + 1, m => if p m then some m else seek p k (m + 1)
theorem seek_some {p : Nat → Bool} : ∀ {k m r : Nat}, seek p k m = some r → m ≤ r ∧ r < m + k ∧ p r = true ∧ ∀ x, m ≤ x → x < r → p x = false
  | 0, _, _, h => by cases h
  | k + 1, m, r, h => by
    unfold seek at h
    by_cases hp : p m = true
    · rw [if_pos hp] at h
      injection h with h
      subst h
      exact ⟨Nat.le_refl _, by omega, hp, fun x h1 h2 => absurd h1 (by omega)⟩
    · rw [if_neg hp] at h
      obtain ⟨h1, h2, h3, h4⟩ := seek_some h
      refine ⟨by omega, by omega, h3, fun x hx1 hx2 => ?_⟩
      by_cases hxm : x = m
      · rw [hxm]; simpa using hp
      · exact h4 x (by omega) hx2
theorem seek_none {p : Nat → Bool} : ∀ {k m : Nat}, seek p k m = none → ∀ x, m ≤ x → x < m + k → p x = false
  | 0, _, _, x, h1, h2 => absurd h1 (by omega)
  | k + 1, m, h, x, h1, h2 => by
    unfold seek at h
    by_cases hp : p m = true
    · rw [if_pos hp] at h; cases h
    · rw [if_neg hp] at h
      by_cases hxm : x = m
      · rw [hxm]; simpa using hp
      · exact seek_none h x (by omega) (by omega)
/-- what is told of a search: the number, and whether there is one -/
def told : Option Nat → Int × Bool
  | some r => ((r : Int), true)
  | none => (0, false)
def gap (l : List UInt8) (a e : Int) : Int × Bool := told (seek (fun m => !has l m) (e - max 0 a).toNat (max 0 a).toNat)
def next (l : List UInt8) (a : Int) : Int × Bool := told (seek (has l) (8 * l.length - (max 0 a).toNat) (max 0 a).toNat)
/-- a search is what it finds -/
theorem seek_eq {p : Nat → Bool} {k m r : Nat} (h1 : m ≤ r) (h2 : r < m + k) (h3 : p r = true) (h4 : ∀ x, m ≤ x → x < r → p x = false) : seek p k m = some r := by
  cases h : seek p k m with
  | none => rw [seek_none h r h1 h2] at h3; cases h3
  | some q =>
    obtain ⟨q1, q2, q3, q4⟩ := seek_some h
    congr 1
    rcases Nat.lt_trichotomy q r with hlt | rfl | hlt
    · rw [h4 q q1 hlt] at q3; cases q3
    · rfl
    · rw [q4 r h1 hlt] at h3; cases h3
theorem seek_eq_none {p : Nat → Bool} {k m : Nat} (h : ∀ x, m ≤ x → x < m + k → p x = false) : seek p k m = none := by
  cases h2 : seek p k m with
  | none => rfl
  | some q =>
    obtain ⟨q1, q2, q3, _⟩ := seek_some h2
    rw [h q q1 q2] at q3; cases q3
end Go.Proofs.YteghmnlngkcgiaaDoor.Sets

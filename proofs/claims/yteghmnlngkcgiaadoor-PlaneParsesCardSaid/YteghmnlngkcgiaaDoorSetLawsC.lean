/- Sets: the set of a set's numbers. -/
import Derived.Test.YteghmnlngkcgiaaDoorSetLawsB
namespace Go.Proofs.YteghmnlngkcgiaaDoor.Sets
open Go.RowKit Mem

theorem has_ofL (l : List Nat) (m : Nat) : has (ofL l) m = decide (m ∈ l) := by
  rw [ofL, has_mk]
  by_cases h : m ∈ l
  · have := lenOf_mem h
    rw [decide_eq_true h, decide_eq_true (by omega)]
    rfl
  · rw [decide_eq_false h, Bool.and_false]
theorem exists_max : ∀ (l : List Nat), l ≠ [] → ∃ m ∈ l, ∀ x ∈ l, x ≤ m
  | [], h => absurd rfl h
  | [a], _ => ⟨a, by simp, by simp⟩
  | a :: b :: l, _ => by
    obtain ⟨m, hm, hx⟩ := exists_max (b :: l) (by simp)
    by_cases h : a ≤ m
    · exact ⟨m, List.mem_cons_of_mem _ hm, fun x h1 => by
        rcases List.mem_cons.1 h1 with rfl | h1
        · exact h
        · exact hx x h1⟩
    · exact ⟨a, by simp, fun x h1 => by
        rcases List.mem_cons.1 h1 with rfl | h1
        · exact Nat.le_refl _
        · have := hx x h1; omega⟩
theorem ofL_least (l : List Nat) : Least (ofL l) := by
  by_cases h : l = []
  · rw [h]; rfl
  · obtain ⟨m, hm, hx⟩ := exists_max l h
    rw [ofL]
    exact mk_least (m := m) (lenOf_max hm hx).symm (decide_eq_true hm)
theorem mem_toNat {l : List UInt8} {m : Nat} : m ∈ (elems l).map Int.toNat ↔ has l m = true := by
  rw [List.mem_map]
  constructor
  · rintro ⟨y, hy, rfl⟩
    obtain ⟨k, rfl, _, h⟩ := mem_elems.1 hy
    exact h
  · intro h
    refine ⟨(m : Int), mem_elems.2 ⟨m, rfl, ?_, h⟩, Int.toNat_natCast m⟩
    refine Classical.byContradiction fun hn => ?_
    rw [has_beyond (by omega)] at h
    cases h
theorem ofL_elems (l : List UInt8) : ofL ((elems l).map Int.toNat) = least l := by
  refine least_ext (ofL_least _) (least_least _) fun m => ?_
  rw [has_ofL, has_least]
  cases h : has l m with
  | true => exact decide_eq_true (mem_toNat.2 h)
  | false => exact decide_eq_false fun hm => by rw [mem_toNat.1 hm] at h; cases h
theorem elems_ok {l : List UInt8} (h : l.length ≤ 8192) : (elems l).any bad = false := by
  rw [List.any_eq_false]
  intro y hy
  obtain ⟨m, rfl, h1, _⟩ := mem_elems.1 hy
  simp only [bad, Bool.or_eq_true, decide_eq_true_eq, not_or]
  omega
theorem or_empty (s : ByteArray) : orB s emptyB = ⟨(least s.data.toList).toArray⟩ :=
  b_ext (leastB_or _ _) (least_least _) fun m => by
    rw [hasB_or, hasB_empty, Bool.or_false]
    exact (has_least _ m).symm
theorem ofOut_elems {s : ByteArray} (h : s.size ≤ 8192) : ofOut (elems s.data.toList) = ((orB s emptyB).data.toList, 0) := by
  rw [ofOut, elems_ok (by rw [← Lib.size_eq s]; exact h), ofL_elems, or_empty]
  rfl
theorem hasI_mem (l : List UInt8) (n : Int) : hasI l n = decide (n ∈ elems l) := by
  rw [Bool.eq_iff_iff, decide_eq_true_eq, mem_elems, hasI, Bool.and_eq_true, decide_eq_true_eq]
  constructor
  · rintro ⟨h0, h⟩
    refine ⟨n.toNat, by omega, ?_, h⟩
    refine Classical.byContradiction fun hn => ?_
    rw [has_beyond (by omega)] at h
    cases h
  · rintro ⟨m, rfl, _, h⟩
    exact ⟨by omega, by rw [Int.toNat_natCast]; exact h⟩
theorem hasI_congr {a b : List UInt8} (h : ∀ m, has a m = has b m) (n : Int) : hasI a n = hasI b n := by
  rw [hasI, hasI, h]
end Go.Proofs.YteghmnlngkcgiaaDoor.Sets

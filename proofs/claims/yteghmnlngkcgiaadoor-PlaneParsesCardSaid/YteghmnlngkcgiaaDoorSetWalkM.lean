/- Sets: the document's Next. -/
import Derived.Test.YteghmnlngkcgiaaDoorSetWalkL
import Derived.Test.YteghmnlngkcgiaaDoorSetWalkF
namespace Go.Proofs.YteghmnlngkcgiaaDoor.Sets
open Go.RowKit Mem

theorem mem_elems {l : List UInt8} {y : Int} : y ∈ elems l ↔ ∃ m : Nat, y = (m : Int) ∧ m < 8 * l.length ∧ has l m = true := by
  unfold elems elemsTo
  rw [List.mem_map]
  constructor
  · rintro ⟨m, hm, rfl⟩
    rw [List.mem_filter, List.mem_range] at hm
    exact ⟨m, rfl, hm.1, hm.2⟩
  · rintro ⟨m, rfl, h1, h2⟩
    exact ⟨m, by rw [List.mem_filter, List.mem_range]; exact ⟨h1, h2⟩, rfl⟩
theorem elems_sorted (l : List UInt8) : (elems l).Pairwise (· < ·) := by
  unfold elems elemsTo
  rw [List.pairwise_map]
  refine List.Pairwise.imp ?_ (List.Pairwise.filter _ (List.pairwise_lt_range (n := 8 * l.length)))
  intro a b h
  exact Int.ofNat_lt.2 h
theorem sorted_before {l : List Int} (h : l.Pairwise (· < ·)) {k : Nat} {x y : Int} (hk : l[k]? = some x) (hy : y ∈ l) (hlt : y < x) : y ∈ l.take k := by
  obtain ⟨i, hi, he⟩ := List.getElem_of_mem hy
  obtain ⟨hkl, hkx⟩ := List.getElem?_eq_some_iff.1 hk
  have hik : i < k := by
    refine Classical.byContradiction fun hn => ?_
    by_cases e : i = k
    · subst e
      rw [hkx] at he
      omega
    · have := List.pairwise_iff_getElem.1 h k i hkl hi (by omega)
      rw [hkx, he] at this
      omega
  rw [← he]
  exact List.mem_take_iff_getElem.2 ⟨i, by omega, rfl⟩

end Go.Proofs.YteghmnlngkcgiaaDoor.Sets

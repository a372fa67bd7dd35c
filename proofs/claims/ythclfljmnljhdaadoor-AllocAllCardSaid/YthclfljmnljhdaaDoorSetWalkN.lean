/- Sets: the document's Least. -/
import Derived.Test.YthclfljmnljhdaaDoorSetWalkM
namespace Go.Proofs.YthclfljmnljhdaaDoor.Sets
open Go.RowKit Mem

theorem bytes_snoc (s : ByteArray) (n : Nat) (h : s.size = n + 1) : ∃ (h2 : n < s.size), s.data.toList = (s.extract 0 n).data.toList ++ [s[n]] ∧ (s.extract 0 n).size = n := by
  have h2 : n < s.size := by omega
  refine ⟨h2, ?_, by rw [ByteArray.size_extract]; omega⟩
  rw [Lib.extract_data]
  have hl : s.data.toList.length = n + 1 := by rw [← Lib.size_eq s]; exact h
  have e := List.take_append_drop n s.data.toList
  rw [List.drop_eq_getElem_cons (by omega), List.drop_eq_nil_of_le (by omega)] at e
  exact e.symm

end Go.Proofs.YthclfljmnljhdaaDoor.Sets

/- Sets: short, and the calls whose answers the document fixes. -/
import Derived.Test.YteghmnlngkcgiaaDoorSetWalkQ
import Derived.Test.YteghmnlngkcgiaaDoorSetWalkO
import Derived.Test.YteghmnlngkcgiaaDoorSetWalkB
import Derived.Test.YteghmnlngkcgiaaDoorSetWalkE
namespace Go.Proofs.YteghmnlngkcgiaaDoor.Sets
open Go.RowKit Mem

theorem row_blk {w : World} {g : Nat} {t : TypeId} {us : List Value} (h : Blk w g t us.toArray) : Row w (some ⟨g, 0, none⟩) us.length us :=
  ⟨rfl, fun k u hu => ⟨_, rfl, by rw [add_lit, Nat.zero_add, h.cell]; simpa using hu⟩⟩
/-- a text, within what a statement can hold -/
def cut (n : Nat) (s : ByteArray) : ByteArray := s.extract 0 (min s.size n)
theorem cut_le (n : Nat) (s : ByteArray) : (cut n s).size ≤ n := by rw [cut, ByteArray.size_extract]; omega
theorem cut_id {n : Nat} {s : ByteArray} (h : s.size ≤ n) : cut n s = s := by
  rw [cut, show min s.size n = s.size by omega]
  apply ByteArray.ext
  rw [ByteArray.data_extract]
  exact Array.extract_size

end Go.Proofs.YteghmnlngkcgiaaDoor.Sets

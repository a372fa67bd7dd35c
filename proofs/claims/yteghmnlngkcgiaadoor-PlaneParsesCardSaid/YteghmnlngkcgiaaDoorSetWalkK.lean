/- Sets: the document's Same (the text of the wire seat's), List. -/
import Derived.Test.YteghmnlngkcgiaaDoorSetWalkJ
namespace Go.Proofs.YteghmnlngkcgiaaDoor.Sets
open Go.RowKit Mem

theorem take_snoc_of {l : List Int} {k : Nat} {x : Int} (h : l[k]? = some x) : l.take (k + 1) = l.take k ++ [x] := by
  rw [List.take_add_one, h]; rfl
/-- Same: two rows of numbers -/
def SamePost (w : World) (xs ys : List Int) (e : Ending) (w' : World) : Prop := e = .returned (.bool (decide (xs = ys))) ∧ ∃ q, w' = w.drewN q

end Go.Proofs.YteghmnlngkcgiaaDoor.Sets

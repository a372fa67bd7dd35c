/- Sets: the document's List. -/
import Derived.Test.YthclfljmnljhdaaDoorSetWalkK
namespace Go.Proofs.YthclfljmnljhdaaDoor.Sets
open Go.RowKit Mem

/-- the numbers of a text below a bound, the least first -/
def elemsTo (l : List UInt8) (n : Nat) : List Int := ((List.range n).filter (has l)).map Int.ofNat
def elems (l : List UInt8) : List Int := elemsTo l (8 * l.length)
theorem elemsTo_succ (l : List UInt8) (n : Nat) : elemsTo l (n + 1) = elemsTo l n ++ (if has l n then [(n : Int)] else []) := by
  unfold elemsTo
  rw [List.range_succ, List.filter_append, List.map_append]
  congr 1
  by_cases h : has l n
  · simp [h]
  · simp [h]
theorem elemsTo_length (l : List UInt8) (n : Nat) : (elemsTo l n).length ≤ n := by
  unfold elemsTo
  rw [List.length_map]
  exact Nat.le_trans (List.length_filter_le _ _) (by simp)
theorem infoInt : (Tryd.prog.info? 3).map (fun i => (i.zero, i.size, i.bytes)) = some (some (.int .i64 0), 1, 8) := by kernel_rfl

end Go.Proofs.YthclfljmnljhdaaDoor.Sets

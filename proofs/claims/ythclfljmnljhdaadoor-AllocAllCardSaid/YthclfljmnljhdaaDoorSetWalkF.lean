/- Sets: the document's Gap. -/
import Derived.Test.YthclfljmnljhdaaDoorSetWalkE
namespace Go.Proofs.YthclfljmnljhdaaDoor.Sets
open Go.RowKit Mem

end Go.Proofs.YthclfljmnljhdaaDoor.Sets

/- Sets: the document's Gap. -/
import Derived.Test.YteghmnlngkcgiaaDoorSetWalkE
namespace Go.Proofs.YteghmnlngkcgiaaDoor.Sets
open Go.RowKit Mem

end Go.Proofs.YteghmnlngkcgiaaDoor.Sets

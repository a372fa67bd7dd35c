/- Sets: Gap, the program's. -/
import Derived.Test.YteghmnlngkcgiaaDoorSetWalkA
import Derived.Test.YteghmnlngkcgiaaDoorSetSpecB
import Derived.Lib.MinMax
namespace Go.Proofs.YteghmnlngkcgiaaDoor.Sets
open Go.RowKit Mem

/-- what is told, as a value -/
def toldVal (r : Int × Bool) : Value := .tuple #[.int .i64 r.1, .bool r.2]

end Go.Proofs.YteghmnlngkcgiaaDoor.Sets

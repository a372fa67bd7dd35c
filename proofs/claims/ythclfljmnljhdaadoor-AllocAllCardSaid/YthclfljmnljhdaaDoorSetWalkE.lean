/- Sets: Next, the program's. -/
import Derived.Test.YthclfljmnljhdaaDoorSetWalkB
import Derived.Test.YthclfljmnljhdaaDoorSetSpecC
import Derived.Test.YthclfljmnljhdaaDoorShelf
namespace Go.Proofs.YthclfljmnljhdaaDoor.Sets
open Go.RowKit Mem

theorem shl_high (c j : Nat) (hc : c < 256) : IntKind.u8.wrap ((c : Int) / 2 ^ j * 2 ^ j) = ((high c j : Nat) : Int) := by
  have e : ((c : Int) / 2 ^ j * 2 ^ j) = ((high c j : Nat) : Int) := by
    rw [high, Int.natCast_mul, Int.natCast_ediv, Int.natCast_pow]; rfl
  have h := high_le c j
  rw [e, IntKind.wrap_u8]
  omega

end Go.Proofs.YthclfljmnljhdaaDoor.Sets

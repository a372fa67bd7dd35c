/- Sets: the document's Make. Printed by genmake.py. -/
import Derived.Test.YthclfljmnljhdaaDoorSetWalkN
namespace Go.Proofs.YthclfljmnljhdaaDoor.Sets
open Go.RowKit Mem

/-- the three ways to make a set of two -/
def way : Nat → Bool → Bool → Bool
  | 0, a, b => a && b
  | 1, a, b => a || b
  | _, a, b => a && !b
theorem way_beyond (k : Nat) : way k false false = false := by
  rcases k with _ | _ | k <;> rfl
theorem bsum_step (p : Nat → Bool) (t : Nat) (ht : t < 8) (h : p t = true) : IntKind.u8.wrap ((bsum p t : Nat) + 2 ^ t) = ((bsum p (t + 1) : Nat) : Int) := by
  have e : bsum p (t + 1) = bsum p t + 2 ^ t := by rw [bsum, if_pos h]
  have hl := bsum_lt p (t + 1)
  have h8 : 2 ^ (t + 1) ≤ 2 ^ 8 := Nat.pow_le_pow_right (by decide) (by omega)
  rw [e] at hl
  rw [IntKind.wrap_u8, e, Int.natCast_add, show ((2 ^ t : Nat) : Int) = 2 ^ t by rw [Int.natCast_pow]; rfl]
  have hp : ((2 ^ t : Nat) : Int) = 2 ^ t := by rw [Int.natCast_pow]; rfl
  rw [← hp]
  generalize 2 ^ t = P at hl h8 ⊢
  omega
theorem bsum_skip (p : Nat → Bool) (t : Nat) (h : p t = false) : ((bsum p t : Nat) : Int) = ((bsum p (t + 1) : Nat) : Int) := by
  rw [bsum, h]
  rfl
theorem mk_succ (n : Nat) (p : Nat → Bool) : mk (n + 1) p = mk n p ++ [byteOf fun t => p (8 * n + t)] := by
  rw [mk, mk, List.range_succ, List.map_append]
  rfl
theorem cellsOf_append (l r : List UInt8) : cellsOf (l ++ r) = cellsOf l ++ cellsOf r := by simp [cellsOf]

end Go.Proofs.YthclfljmnljhdaaDoor.Sets

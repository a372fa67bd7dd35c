/- Sets: what is made of two texts, number by number. -/
import Derived.Test.YteghmnlngkcgiaaDoorSetFixed
namespace Go.Proofs.YteghmnlngkcgiaaDoor.Sets
open Go.RowKit Mem

theorem has_at (l : List UInt8) (m : Nat) : has l m = (byteAt l (m / 8)).toNat.testBit (m % 8) := rfl
theorem has_bin {G : UInt8 → UInt8 → UInt8} {g : Bool → Bool → Bool} (hg : ∀ x y j, j < 8 → (G x y).toNat.testBit j = g (x.toNat.testBit j) (y.toNat.testBit j)) (h0 : g false false = false) (a b : List UInt8) (m : Nat) :
    has (bin G a b) m = g (has a m) (has b m) := by
  rw [bin, has_least]
  by_cases h : m / 8 < max a.length b.length
  · have e : has ((List.range (max a.length b.length)).map fun i => G (byteAt a i) (byteAt b i)) m = (G (byteAt a (m / 8)) (byteAt b (m / 8))).toNat.testBit (m % 8) := by
      rw [has, List.getElem?_map, List.getElem?_range h]
      rfl
    rw [e, hg _ _ _ (Nat.mod_lt _ (by decide)), has_at, has_at]
  · rw [has_beyond (by simp; omega), has_beyond (l := a) (by omega), has_beyond (l := b) (by omega), h0]
theorem has_and (a b : List UInt8) (m : Nat) : has (bin (· &&& ·) a b) m = (has a m && has b m) :=
  has_bin (g := fun p q => p && q) (fun x y j _ => by rw [UInt8.toNat_and, Nat.testBit_and]) rfl a b m
theorem has_or (a b : List UInt8) (m : Nat) : has (bin (· ||| ·) a b) m = (has a m || has b m) :=
  has_bin (g := fun p q => p || q) (fun x y j _ => by rw [UInt8.toNat_or, Nat.testBit_or]) rfl a b m
theorem has_minus (a b : List UInt8) (m : Nat) : has (bin (fun x y => x &&& ~~~y) a b) m = (has a m && !has b m) :=
  has_bin (g := fun p q => p && !q) (fun x y j hj => by
    have h := Nat.testBit_two_pow_sub_succ (x := y.toNat) (n := 8) y.toNat_lt j
    rw [show 2 ^ 8 - (y.toNat + 1) = 255 - y.toNat by omega, decide_eq_true hj, Bool.true_and] at h
    rw [minus_nat, Nat.testBit_and, h]) rfl a b m
theorem bin_least (G : UInt8 → UInt8 → UInt8) (a b : List UInt8) : Least (bin G a b) := least_least _
theorem bin_length (G : UInt8 → UInt8 → UInt8) (a b : List UInt8) : (bin G a b).length ≤ max a.length b.length := by
  refine Nat.le_trans (least_length _) ?_
  simp
/-- the document's set of two is the same -/
theorem make_eq {G : UInt8 → UInt8 → UInt8} {k : Nat} (hG : ∀ a b m, has (bin G a b) m = way k (has a m) (has b m)) (a b : List UInt8) :
    least (mk (max a.length b.length) fun m => way k (has a m) (has b m)) = bin G a b := by
  refine least_ext (least_least _) (bin_least _ _ _) fun m => ?_
  rw [has_least, has_mk, hG]
  by_cases h : m < 8 * max a.length b.length
  · rw [decide_eq_true h, Bool.true_and]
  · rw [decide_eq_false h, Bool.false_and, has_beyond (l := a) (by omega), has_beyond (l := b) (by omega), way_beyond]
theorem make_and (a b : List UInt8) : least (mk (max a.length b.length) fun m => way 0 (has a m) (has b m)) = bin (· &&& ·) a b := make_eq (fun a b m => has_and a b m) a b
theorem make_or (a b : List UInt8) : least (mk (max a.length b.length) fun m => way 1 (has a m) (has b m)) = bin (· ||| ·) a b := make_eq (fun a b m => has_or a b m) a b
theorem make_minus (a b : List UInt8) : least (mk (max a.length b.length) fun m => way 2 (has a m) (has b m)) = bin (fun x y => x &&& ~~~y) a b := make_eq (fun a b m => has_minus a b m) a b
end Go.Proofs.YteghmnlngkcgiaaDoor.Sets

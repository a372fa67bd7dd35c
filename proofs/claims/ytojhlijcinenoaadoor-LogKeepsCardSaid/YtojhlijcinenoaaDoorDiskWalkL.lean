/- Clone: the walk. -/
import Derived.Test.YtojhlijcinenoaaDoorDiskWalkK
namespace Go.Proofs.YtojhlijcinenoaaDoor.Disk
open Go Go.RowKit Go.Maps Mem Go.Shelf

def ordI (d : Dk) : List Int := d.L.map fun p => (p.1 : Int)
set_option maxRecDepth 100000 in
theorem ordI_eq (d : Dk) : (d.L.map fun p => Value.int .i64 (p.1 : Int)) = (ordI d).map (Value.int .i64) := by unfold ordI; rw [List.map_map]; rfl
set_option maxRecDepth 100000 in
theorem below_blk {w w' : World} {g : Nat} {t : TypeId} {cs : Array Value} (h : Blk w g t cs) (hb : Below w.heap.size w w') : Blk w' g t cs := h.below hb h.lt
set_option maxRecDepth 100000 in
theorem own_up {w w' : World} {base n sz : Nat} {e : TypeId} {v : Value} {xs : List Value} (h : w.ownsRow base e sz v n xs) (hb : Below w.heap.size w w') : w'.ownsRow base e sz v n xs := own_keeps h (Keeps.of_below (fun _ => False) hb) (fun _ _ h => h)
set_option maxRecDepth 100000 in
theorem drewB' (w : World) : Below w.heap.size w w.drew := (Below.refl _ w).drew
set_option maxRecDepth 100000 in
/-- a store into one's own block leaves a row elsewhere -/
theorem own_far {w : World} {base n sz P i : Nat} {e : TypeId} {v u : Value} {xs : List Value} (h : w.ownsRow base e sz v n xs) (hn : ∀ j, v.ownBlock = some j → j ≠ P) : (w.setCell ⟨P, i, none⟩ u).ownsRow base e sz v n xs :=
  own_keeps h ((Keeps.refl (fun j => j = P) w).put (g := P) (Or.inl rfl) i u) hn
set_option maxRecDepth 100000 in
theorem MapS.far {w : World} {b P i : Nat} {L : List (Nat × ByteArray)} {u : Value} (h : MapS w b L) (hn : b ≠ P) : MapS (w.setCell ⟨P, i, none⟩ u) b L := h.keeps ((Keeps.refl (fun j => j = P) w).put (g := P) (Or.inl rfl) i u) hn
set_option maxRecDepth 100000 in
theorem MapB.far {w : World} {b m P i : Nat} {bad : Nat → Bool} {u : Value} (h : MapB w b m bad) (hn : b ≠ P) : MapB (w.setCell ⟨P, i, none⟩ u) b m bad := h.keeps ((Keeps.refl (fun j => j = P) w).put (g := P) (Or.inl rfl) i u) hn

section
variable {F : Nat → Prop} {w : World} {b : Nat} {d : Dk}
end
end Go.Proofs.YtojhlijcinenoaaDoor.Disk

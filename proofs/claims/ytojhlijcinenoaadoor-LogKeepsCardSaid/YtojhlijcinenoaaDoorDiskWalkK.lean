/- Clone. -/
import Derived.Test.YtojhlijcinenoaaDoorDiskHand
import Derived.Test.YtojhlijcinenoaaDoorShelf
import Derived.Shelf.SlMaps.Clone
import Derived.Deep.RegionHeld3
namespace Go.Proofs.YtojhlijcinenoaaDoor.Disk
open Go Go.RowKit Go.Maps Mem Go.Shelf

section
variable {w w' : World} {b m : Nat} {L : List (Nat × ByteArray)} {bad : Nat → Bool}
end
section
variable {w : World}
set_option maxRecDepth 100000 in
theorem own_base {base base' n sz : Nat} {e : TypeId} {v : Value} {xs : List Value} (h : w.ownsRow base e sz v n xs) (hb : base' ≤ base) : w.ownsRow base' e sz v n xs := by
  refine ⟨h.1, ?_⟩
  rcases h.2 with h1 | ⟨g, cap, cur, rfl, hg, rest⟩
  · exact Or.inl h1
  · exact Or.inr ⟨g, cap, cur, rfl, Nat.le_trans hb hg, rest⟩
set_option maxRecDepth 100000 in
theorem cells_of_own {n : Nat} {e : TypeId} {base g c : Nat} {us : List Value} (h : w.ownsRow base e 1 (.slice (some ⟨g, 0, none⟩) n c) n us) (j : Nat) (u : Value) (hu : us[j]? = some u) : w.cell? ⟨g, 0 + j, none⟩ = some u := by
  have := h.cells (g := g) rfl j u hu
  rwa [add_lit] at this
set_option maxRecDepth 100000 in
theorem clone_strs {base g n c : Nat} {l : List ByteArray} (h : w.ownsRow base 9 1 (.slice (some ⟨g, 0, none⟩) n c) n (l.map Value.string)) (h1 : 1 ≤ n) (h2 : n * 16 ≤ 140737488355328) :
    Calls Tryd.prog 38 #[.slice (some ⟨g, 0, none⟩) n c] w fun e w' => ∃ g' c', e = .returned (.slice (some ⟨g', 0, none⟩) n c') ∧ w'.ownsRow w.heap.size 9 1 (.slice (some ⟨g', 0, none⟩) n c') n (l.map Value.string) ∧ Below w.heap.size w w' := by
  have hl : l.length = n := by have := h.1; simpa using this
  refine (Tryd.slices_Clone_string g 0 n c l w (by omega) h2 (fun j hj => cells_of_own h j _ (by rw [List.getElem?_map, List.getElem?_eq_getElem hj, List.getD_eq_getElem?_getD, List.getElem?_eq_getElem hj]; rfl))).mono ?_
  rintro e w' ⟨v', rfl, ho, _, hb⟩
  rw [List.take_of_length_le (by omega)] at ho
  obtain ⟨g', c', hv, _⟩ := ho.form (by omega)
  subst hv
  exact ⟨g', c', rfl, ho, hb⟩
end
end Go.Proofs.YtojhlijcinenoaaDoor.Disk

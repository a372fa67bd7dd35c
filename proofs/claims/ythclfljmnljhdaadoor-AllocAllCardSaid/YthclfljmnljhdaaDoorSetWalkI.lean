/- Sets: Of, the document's. -/
import Derived.Test.YthclfljmnljhdaaDoorSetWalkH
import Derived.WalkSpells
namespace Go.Proofs.YthclfljmnljhdaaDoor.Sets
open Go.RowKit Mem

/-- a store into a row of one's own -/
theorem own_put {w : World} {base g n cap i : Nat} {e : TypeId} {xs : List Value} {u : Value} (h : w.ownsRow base e 1 (.slice (some ⟨g, 0, none⟩) n cap) n xs) :
    (w.setCell ⟨g, i, none⟩ u).ownsRow base e 1 (.slice (some ⟨g, 0, none⟩) n cap) n (xs.set i u) ∧ w.frozen? ⟨g, i, none⟩ = false := by
  obtain ⟨h1, ⟨h2, _⟩ | ⟨g', cap', cur, hv, hb, hg, hnc, hm, hs, ht⟩⟩ := h
  · cases h2
  · injection hv with hv1 _ hv2
    injection hv1 with hv1
    obtain rfl : g = g' := congrArg Addr.block hv1
    obtain rfl : cap = cap' := hv2
    refine ⟨⟨by rw [List.length_set]; exact h1, Or.inr ⟨g, cap, cur.setIfInBounds i u, rfl, hb, heap_setCell_same w g i cur e u hg, hnc, hm, by rw [Array.size_setIfInBounds]; exact hs, ?_⟩⟩, frozen_of_row w g i cur e hg⟩
    rw [Array.toList_setIfInBounds, ← ht, List.take_set]
theorem own_slice {w : World} {base n : Nat} {e : TypeId} {v : Value} {xs : List Value} (h : w.ownsRow base e 1 v n xs) : ∃ A c, v = .slice A n c := by
  obtain ⟨_, ⟨h2, h3⟩ | ⟨g, cap, _, hv, _⟩⟩ := h
  · subst h3; exact ⟨_, _, h2⟩
  · exact ⟨_, _, hv⟩
theorem cellsOf_snoc (l : List UInt8) : cellsOf (l ++ [0]) = cellsOf l ++ [.int .u8 0] := by simp [cellsOf]
theorem mk_snoc (j : Nat) (p : Nat → Bool) (h : ∀ m, 8 * j ≤ m → p m = false) : mk j p ++ [0] = mk (j + 1) p := by
  rw [mk, mk, List.range_succ, List.map_append]
  congr 1
  have : byteOf (fun k => p (8 * j + k)) = 0 := byte_zero fun b hb => by rw [byteOf_bit _ _ hb]; exact h _ (by omega)
  simp [this]
theorem lenOf_snoc (l : List Nat) (x : Nat) : lenOf (l ++ [x]) = max (lenOf l) (x / 8 + 1) := by
  unfold lenOf
  rw [List.foldl_append]
  rfl
theorem lenOf_mem {l : List Nat} {x : Nat} (h : x ∈ l) : x / 8 < lenOf l := by
  have low : ∀ (l : List Nat) (a : Nat), a ≤ l.foldl (fun m x => max m (x / 8 + 1)) a ∧ ∀ x ∈ l, x / 8 + 1 ≤ l.foldl (fun m x => max m (x / 8 + 1)) a := by
    intro l
    induction l with
    | nil => intro a; exact ⟨Nat.le_refl _, fun x hx => by cases hx⟩
    | cons y l ih =>
      intro a
      rw [List.foldl_cons]
      obtain ⟨h1, h2⟩ := ih (max a (y / 8 + 1))
      refine ⟨by omega, fun x hx => ?_⟩
      rcases List.mem_cons.1 hx with rfl | hx
      · omega
      · exact h2 x hx
  exact (low l 0).2 x h

end Go.Proofs.YthclfljmnljhdaaDoor.Sets

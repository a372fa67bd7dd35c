/- The document's disk: Bad. -/
import Derived.Test.YtojhlijcinenoaaDoorRdiskE
namespace Go.Proofs.YtojhlijcinenoaaDoor.Disk
open Go Go.RowKit Go.Maps Mem
/-- all others -/
def oth (n : Nat) (B : List Nat) : List Nat := B.filter fun k => k != n
set_option maxRecDepth 100000 in
theorem oth_snoc (n : Nat) (B : List Nat) (v : Nat) : oth n (B ++ [v]) = if v = n then oth n B else oth n B ++ [v] := by
  unfold oth
  rw [List.filter_append]
  by_cases h : v = n
  · simp [h]
  · simp [h]
set_option maxRecDepth 100000 in
theorem oth_length (n : Nat) (B : List Nat) : (oth n B).length ≤ B.length := List.length_filter_le _ _
set_option maxRecDepth 100000 in
theorem bads_snoc (B : List Nat) (v : Nat) : bads (B ++ [v]) = bads B ++ [.int .i64 (v : Int)] := by simp [bads]
section
variable {F : Nat → Prop} {w W w' : World} {b : Nat} {d : Dk} {sb sc : Nat} {lv bv : Value} {B : List Nat}
set_option maxRecDepth 100000 in
/-- other bad sectors, in a row of one's own -/
theorem RCore.rebad (h : RCore F W b d sb sc lv bv B) {H n m : Nat} {v : Value} {B' : List Nat} {bad' : Nat → Bool} (ho : W.ownsRow H 3 1 v n (bads B')) (hL : B'.length = n) (hH : ∀ i, F i → i < H) (hmem : ∀ k, k ∈ B' ↔ bad' k = true) (hm : B'.length ≤ m) :
    IsRk (fun i => F i ∨ v.ownBlock = some i) (W.setCell ⟨b, 2, none⟩ v) b { d with bad := bad', marks := m } ∧ Keeps F W (W.setCell ⟨b, 2, none⟩ v) := by
  have hne := h.ne
  have kk := (Keeps.refl (fun j => j = b) W).put (g := b) (Or.inl rfl) 2 v
  have hvb : ∀ j, v.ownBlock = some j → j ≠ b := fun j e => by have := (ho.lt j e).1; have := hH b h.fb; omega
  subst hL
  refine ⟨⟨sb, sc, lv, v, B', h.blk.put 2 v, own_keeps h.st kk (fun j e => by injection e with e; subst e; exact hne.1), own_keeps h.ls kk hne.2.1, own_base (own_keeps ho kk hvb) (Nat.zero_le _), hmem, hm, Or.inl h.fb, Or.inl h.fs, fun j e => Or.inl (h.fl j e), fun j e => Or.inr e, fun i hi => ?_⟩, kk.mono (fun i e => e ▸ h.fb)⟩
  rcases hi with hi | hi
  · exact Nat.lt_of_lt_of_le (h.lt i hi) kk.size
  · exact Nat.lt_of_lt_of_le (ho.lt i hi).2 kk.size
end
end Go.Proofs.YtojhlijcinenoaaDoor.Disk

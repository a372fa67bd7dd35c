/- Open. -/
import Derived.Test.YtojhlijcinenoaaDiskWalkH
import Derived.IntWalk
namespace Go.Proofs.Ytojhlijcinenoaa.Disk
open Go Go.RowKit Go.Maps Mem

def chunk (img : ByteArray) (i : Nat) : ByteArray := img.extract (i * 64) ((i + 1) * 64)
/-- a disk off an image, k sectors of it laid -/
def openS (img : ByteArray) (n k : Nat) : List ByteArray := (List.range n).map fun i => if i < k then chunk img i else zero64
def openTo (img : ByteArray) (n k : Nat) : Dk := ⟨openS img n k, [], fun _ => false, 0, 0, ⟨#[]⟩, false, 0⟩
theorem openTo_zero (img : ByteArray) (n : Nat) : openTo img n 0 = newD n := by
  have e : openS img n 0 = List.replicate n zero64 := by
    unfold openS
    apply List.ext_getElem
    · simp
    · intro i h1 h2
      simp
  unfold openTo
  rw [e]
  rfl
theorem openTo_len (img : ByteArray) (n k : Nat) : (openTo img n k).stays.length = n := by simp [openTo, openS]
theorem openTo_step (img : ByteArray) (n k : Nat) : openTo img n (k + 1) = { openTo img n k with stays := (openTo img n k).stays.set k (chunk img k) } := by
  have e : openS img n (k + 1) = (openS img n k).set k (chunk img k) := by
    unfold openS
    apply List.ext_getElem
    · simp
    · intro i h1 h2
      simp only [List.getElem_map, List.getElem_range, List.getElem_set]
      by_cases e : k = i
      · subst e; rw [if_pos (by omega), if_pos rfl]
      · rw [if_neg e]
        by_cases e2 : i < k
        · rw [if_pos (by omega), if_pos e2]
        · rw [if_neg (by omega), if_neg e2]
  unfold openTo
  rw [e]
/-- what Open answers -/
def openOk (img : ByteArray) : Bool := img.size % 64 == 0 && decide (1 ≤ img.size / 64) && decide (img.size / 64 ≤ 16384)
def openD (img : ByteArray) : Dk := openTo img (img.size / 64) (img.size / 64)

section
variable {F : Nat → Prop} {w w' : World} {b : Nat} {d d' : Dk} {sb lb bb sc : Nat} {ov : Value}
theorem Core.restay (h : Core F w b d sb lb bb sc ov) (i : Nat) (s : ByteArray) : IsDk F (w.setCell ⟨sb, i, none⟩ (.string s)) b { d with stays := d.stays.set i s } ∧ Keeps F w (w.setCell ⟨sb, i, none⟩ (.string s)) := by
  have hne := h.ne
  obtain ⟨h1, h2, h3, h4, h5, h6, h7, h8, h9⟩ := h
  have kk := (Keeps.refl (fun j => j = sb) w).put (g := sb) (Or.inl rfl) i (.string s)
  have hst := (own_put (i := i) (u := .string s) h2).1
  have hl : (d.stays.set i s).length = d.stays.length := List.length_set
  refine ⟨⟨sb, lb, bb, sc, ov, ?_, ?_, h3.keeps kk (Ne.symm hne.2.2.2.2.1), h4.keeps kk (Ne.symm hne.2.2.2.2.2.1), own_keeps h5 kk hne.2.2.2.2.2.2.2.2, h6, h7, h8, fun j hj => Nat.lt_of_lt_of_le (h9 j hj) kk.size⟩, kk.mono (fun j e => e ▸ h7.2.1)⟩
  · rw [hl]; exact h1.keeps kk (Ne.symm hne.1)
  · rw [hl, List.map_set]; exact hst
end
end Go.Proofs.Ytojhlijcinenoaa.Disk

/- Both logs side by side: Open, and what is read of both. -/
import Derived.Test.YtojhlijcinenoaaGreatDoorNvTwo
import Derived.Test.YtojhlijcinenoaaGreatDoorNvRefE
import Derived.Test.YtojhlijcinenoaaGreatDoorNvWalkH
namespace Go.Proofs.YtojhlijcinenoaaGreatDoor.Nv
open Go Go.RowKit Go.Maps Mem Disk
section
variable {X Y : Nat → Prop} {N m m' : Nat} {w w' : World} {a b k c : Nat} {l l' l2 : Lg} {d d' d2 : Dk}
set_option maxRecDepth 100000 in
theorem topen (h : TL X N m w a b k c l d l' d') : Calls Tryz.prog 17 #[.pointer (some ⟨b, 0, none⟩)] w fun e w' => Below w.heap.size w w' ∧ match (openL d).1 with
    | none => e = .returned (.tuple #[.pointer none, .int .i64 (openL d).2]) ∧ TL X N m w' a b k c l d l' d'
    | some l2 => ∃ a2, e = .returned (.tuple #[.pointer (some ⟨a2, 0, none⟩), .int .i64 0]) ∧ TL X N m w' a2 b k c l2 d l' d' := by
  have h0 := h
  obtain ⟨F, G, ⟨F1, v, h1⟩, h2, h3, h4, h5, h6, h7, h8⟩ := h
  refine (open_any h1.dk h7.fit).mono ?_
  intro e w' hp
  obtain ⟨hb, hp⟩ := hp
  refine ⟨hb, ?_⟩
  cases hr : (openL d).1 with
  | none =>
    rw [hr] at hp
    exact ⟨hp, h0.below hb⟩
  | some l2 =>
    rw [hr] at hp
    obtain ⟨a2, F', he, hpl, hF⟩ := hp
    refine ⟨a2, he, F', G, hpl, h2.below hb, fun i hi hg => ?_, fun i hi hx => ?_, h5, fun i hi => Nat.lt_of_lt_of_le (h6 i hi) hb.size, h7, h8⟩
    · rcases hF i hi with h | h
      · exact h3 i (h1.fg i h) hg
      · have := h2.lt i hg; omega
    · rcases hF i hi with h | h
      · exact h4 i (h1.fg i h) hx
      · have := h6 i hx; omega
set_option maxRecDepth 100000 in
theorem uopen (h : TL X N m w a b k c l d l' d') (hm : m ≤ 900000) : Calls Tryz.prog 18 #[.pointer (some ⟨c, 0, none⟩)] w fun e w' => Below w.heap.size w w' ∧ match (openL d').1 with
    | none => e = .returned (.tuple #[.pointer none, .int .i64 (openL d').2]) ∧ TL X N m w' a b k c l d l' d'
    | some l2 => ∃ k2, e = .returned (.tuple #[.pointer (some ⟨k2, 0, none⟩), .int .i64 0]) ∧ TL X N m w' a b k2 c l d l2 d' := by
  have h0 := h
  obtain ⟨F, G, h1, ⟨G1, v, h2⟩, h3, h4, h5, h6, h7, h8⟩ := h
  refine (ropen_any h2.dk h8.fit (by have := h8.num.marks; omega)).mono ?_
  intro e w' hp
  obtain ⟨hb, hp⟩ := hp
  refine ⟨hb, ?_⟩
  cases hr : (openL d').1 with
  | none =>
    rw [hr] at hp
    exact ⟨hp, h0.below hb⟩
  | some l2 =>
    rw [hr] at hp
    obtain ⟨k2, G', he, hpl, hG⟩ := hp
    refine ⟨k2, he, F, G', h1.below hb, hpl, fun i hf hi => ?_, h4, fun i hi hx => ?_, fun i hi => Nat.lt_of_lt_of_le (h6 i hi) hb.size, h7, h8⟩
    · rcases hG i hi with h | h
      · exact h3 i hf (h2.fg i h)
      · have := h1.lt i hf; omega
    · rcases hG i hi with h | h
      · exact h5 i (h2.fg i h) hx
      · have := h6 i hx; omega
set_option maxRecDepth 100000 in
theorem timage (h : TL X N m w a b k c l d l' d') : Calls Tryz.prog 23 #[.pointer (some ⟨b, 0, none⟩)] w fun e w' => e = .returned (.string (img d)) ∧ Below w.heap.size w w' := by
  obtain ⟨F, G, ⟨F1, v, h1⟩, h2, h3, h4, h5, h6, h7, h8⟩ := h
  exact image_any h1.dk h7.fit
set_option maxRecDepth 100000 in
theorem uimage (h : TL X N m w a b k c l d l' d') : Calls Tryz.prog 24 #[.pointer (some ⟨c, 0, none⟩)] w fun e w' => e = .returned (.string (img d')) ∧ w' = w := by
  obtain ⟨F, G, h1, ⟨G1, v, h2⟩, h3, h4, h5, h6, h7, h8⟩ := h
  exact rimage_any h2.dk h8.fit
set_option maxRecDepth 100000 in
theorem tsteps (h : TL X N m w a b k c l d l' d') : Calls Tryz.prog 25 #[.pointer (some ⟨b, 0, none⟩)] w fun e w' => e = .returned (.int .i64 (d.steps : Int)) ∧ w' = w := by
  obtain ⟨F, G, ⟨F1, v, h1⟩, h2, h3, h4, h5, h6, h7, h8⟩ := h
  exact steps_any h1.dk
set_option maxRecDepth 100000 in
theorem tgen (h : TL X N m w a b k c l d l' d') : Calls Tryz.prog 26 #[.pointer (some ⟨a, 0, none⟩)] w fun e w' => e = .returned (.int .i64 (l.gen : Int)) ∧ w' = w := by
  obtain ⟨F, G, h1, h2, h3, h4, h5, h6, h7, h8⟩ := h
  exact gen_any h1
set_option maxRecDepth 100000 in
theorem tldead (h : TL X N m w a b k c l d l' d') : Calls Tryz.prog 29 #[.pointer (some ⟨a, 0, none⟩)] w fun e w' => e = .returned (.bool l.dead) ∧ w' = w := by
  obtain ⟨F, G, h1, h2, h3, h4, h5, h6, h7, h8⟩ := h
  exact dead_any_ h1
set_option maxRecDepth 100000 in
theorem troom (h : TL X N m w a b k c l d l' d') (hz : (enc l.list).size ≤ 1048576) : Calls Tryz.prog 27 #[.pointer (some ⟨a, 0, none⟩)] w fun e w' => e = .returned (.int .i64 (roomL l d)) ∧ ∃ n, w' = w.drewN n := by
  obtain ⟨F, G, h1, h2, h3, h4, h5, h6, h7, h8⟩ := h
  exact room_any h1 h7.fit hz
set_option maxRecDepth 100000 in
theorem uroom (h : TL X N m w a b k c l d l' d') (hz : (enc l'.list).size ≤ 1048576) (hl : l'.list.length ≤ 1048576) : Calls Tryz.prog 28 #[.pointer (some ⟨k, 0, none⟩)] w fun e w' => e = .returned (.int .i64 (roomL l' d')) ∧ Below w.heap.size w w' := by
  obtain ⟨F, G, h1, h2, h3, h4, h5, h6, h7, h8⟩ := h
  exact rroom_any h2 h8.fit hz hl
set_option maxRecDepth 100000 in
theorem trecords (h : TL X N m w a b k c l d l' d') (hl : l.list.length ≤ 1048576) : Calls Tryz.prog 30 #[.pointer (some ⟨a, 0, none⟩)] w fun e w' =>
    ∃ A c, e = .returned (.slice A l.list.length c) ∧ w'.ownsRow w.heap.size 9 1 (.slice A l.list.length c) l.list.length (l.list.map Value.string) ∧ Below w.heap.size w w' := by
  obtain ⟨F, G, h1, h2, h3, h4, h5, h6, h7, h8⟩ := h
  exact records_any h1 hl
/-- the cells of the document's that the law reads -/
structure UCells (w : World) (k c : Nat) (l' : Lg) (d' : Dk) (A : Option Addr) (cc : Nat) : Prop where
  gen : w.cell? ⟨k, 1, none⟩ = some (.int .i64 (l'.gen : Int))
  list : w.cell? ⟨k, 2, none⟩ = some (.slice A l'.list.length cc)
  dead : w.cell? ⟨k, 3, none⟩ = some (.bool l'.dead)
  made : w.cell? ⟨c, 3, none⟩ = some (.int .i64 (d'.steps : Int))
  row : Row w A l'.list.length (l'.list.map Value.string)
set_option maxRecDepth 100000 in
theorem TL.ucells (h : TL X N m w a b k c l d l' d') : ∃ A cc, UCells w k c l' d' A cc := by
  obtain ⟨F, G, h1, ⟨G1, v, h2⟩, h3, h4, h5, h6, h7, h8⟩ := h
  obtain ⟨A, cc, rfl⟩ := own_slice h2.row
  obtain ⟨e0, e1, e2, e3⟩ := h2.cells
  have hm : w.cell? ⟨c, 3, none⟩ = some (.int .i64 (d'.steps : Int)) := by
    obtain ⟨sb, sc, lv, bv, B, hr⟩ := h2.dk
    exact hr.blk.cell 3
  exact ⟨A, cc, e1, e2, e3, hm, Row.of_own h2.row⟩
end
end Go.Proofs.YtojhlijcinenoaaGreatDoor.Nv

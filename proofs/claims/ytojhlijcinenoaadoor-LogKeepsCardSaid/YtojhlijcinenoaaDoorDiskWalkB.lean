/- The disk's functions that write: step, Revive, Arm, Bad. -/
import Derived.Test.YtojhlijcinenoaaDoorDiskWalkA
namespace Go.Proofs.YtojhlijcinenoaaDoor.Disk
open Go Go.RowKit Go.Maps Mem

/-- the eight cells -/
def dkc (sb lb bb sc : Nat) (ov : Value) (d : Dk) : Array Value :=
  #[.slice (some ⟨sb, 0, none⟩) d.stays.length sc, .map (some lb), ov, .map (some bb), .int .i64 (d.steps : Int), .int .i64 (d.armed : Int), .string d.keep, .bool d.dead]
/-- IsDk, its parts by name -/
def Core (F : Nat → Prop) (w : World) (b : Nat) (d : Dk) (sb lb bb sc : Nat) (ov : Value) : Prop :=
    Blk w b 72 (dkc sb lb bb sc ov d) ∧
    w.ownsRow 0 9 1 (.slice (some ⟨sb, 0, none⟩) d.stays.length sc) d.stays.length (d.stays.map Value.string) ∧
    MapS w lb d.L ∧ MapB w bb d.marks d.bad ∧ w.ownsRow 0 3 1 ov d.L.length (d.L.map fun p => Value.int .i64 (p.1 : Int)) ∧
    lb ≠ bb ∧ (F b ∧ F sb ∧ F lb ∧ F bb) ∧ (∀ j, ov.ownBlock = some j → F j) ∧ ∀ i, F i → i < w.heap.size
set_option maxRecDepth 100000 in
theorem own_ne {w : World} {base sz n b : Nat} {e t : TypeId} {v : Value} {xs : List Value} {cs : Array Value} (h : w.ownsRow base e sz v n xs) (hb : Blk w b t cs) (ht : e ≠ t) : ∀ j, v.ownBlock = some j → j ≠ b := by
  rcases h.2 with ⟨rfl, _⟩ | ⟨g, cap, cur, rfl, _, hg, _⟩
  · intro j e; cases e
  · intro j e hj
    injection e with e
    subst e
    rw [show g = b from hj, hb] at hg
    injection hg with hg
    injection hg with _ h2
    exact ht h2.symm
set_option maxRecDepth 100000 in
theorem own_map_ne {w : World} {base sz n b : Nat} {e k : TypeId} {v : Value} {xs : List Value} {R : Value → Option (DataW Unit × List MemPlace)} {m : Nat} {D : DataW Unit} (h : w.ownsRow base e sz v n xs) (hb : w.ownsMap Tryd.prog k R b m D) : ∀ j, v.ownBlock = some j → j ≠ b := by
  obtain ⟨es, clock, hb, _⟩ := hb
  rcases h.2 with ⟨rfl, _⟩ | ⟨g, cap, cur, rfl, _, hg, _⟩
  · intro j e; cases e
  · intro j e hj
    injection e with e
    subst e
    rw [show g = b from hj, hb] at hg
    injection hg with hg
    cases hg
set_option maxRecDepth 100000 in
theorem blk_map_ne {w : World} {b c : Nat} {t k : TypeId} {cs : Array Value} {R : Value → Option (DataW Unit × List MemPlace)} {m : Nat} {D : DataW Unit} (h : Blk w b t cs) (hb : w.ownsMap Tryd.prog k R c m D) : c ≠ b := by
  obtain ⟨es, clock, hb, _⟩ := hb
  intro e
  rw [e, show w.heap[b]? = _ from h] at hb
  injection hb with hb
  cases hb
section
variable {F : Nat → Prop} {w w' : World} {b : Nat} {d d' : Dk} {sb lb bb sc : Nat} {ov : Value}
set_option maxRecDepth 100000 in
/-- the blocks that a disk leads to are none of them its own -/
theorem Core.ne (h : Core F w b d sb lb bb sc ov) : sb ≠ b ∧ lb ≠ b ∧ bb ≠ b ∧ (∀ j, ov.ownBlock = some j → j ≠ b) ∧ sb ≠ lb ∧ sb ≠ bb ∧ (∀ j, ov.ownBlock = some j → j ≠ lb) ∧ (∀ j, ov.ownBlock = some j → j ≠ bb) ∧ ∀ j, ov.ownBlock = some j → j ≠ sb := by
  obtain ⟨h1, h2, ⟨D, h3, _⟩, ⟨D2, h4, _⟩, h5, _⟩ := h
  refine ⟨own_ne h2 h1 (by decide) _ rfl, blk_map_ne h1 h3, blk_map_ne h1 h4, own_ne h5 h1 (by decide), own_map_ne h2 h3 _ rfl, own_map_ne h2 h4 _ rfl, own_map_ne h5 h3, own_map_ne h5 h4, ?_⟩
  rcases h2.2 with ⟨h, _⟩ | ⟨g, cap, cur, hv, _, hg, _⟩
  · cases h
  · injection hv with hv
    injection hv with hv
    injection hv with hv
    subst hv
    exact own_ne (cs := cur) h5 hg (by decide)
set_option maxRecDepth 100000 in
/-- the block's own numbers turn, and nothing else -/
theorem Core.reput (h : Core F w b d sb lb bb sc ov) (kk : Keeps (fun j => j = b) w w') (hB : Blk w' b 72 (dkc sb lb bb sc ov d')) (e1 : d'.stays = d.stays) (e2 : d'.L = d.L) (e3 : d'.bad = d.bad) (e4 : d'.marks = d.marks) :
    IsDk F w' b d' ∧ Keeps F w w' := by
  have hne := h.ne
  obtain ⟨h1, h2, h3, h4, h5, h6, h7, h8, h9⟩ := h
  refine ⟨⟨sb, lb, bb, sc, ov, hB, ?_, ?_, ?_, ?_, h6, h7, h8, fun i hi => Nat.lt_of_lt_of_le (h9 i hi) kk.size⟩, kk.mono (fun i e => e ▸ h7.1)⟩
  · rw [e1]; exact own_keeps h2 kk (fun j e => by injection e with e; subst e; exact hne.1)
  · rw [e2]; exact h3.keeps kk hne.2.1
  · rw [e3, e4]; exact h4.keeps kk hne.2.2.1
  · rw [e2]; exact own_keeps h5 kk hne.2.2.2.1
set_option maxRecDepth 100000 in
theorem IsDk.core (h : IsDk F w b d) : ∃ sb lb bb sc ov, Core F w b d sb lb bb sc ov := h
set_option maxRecDepth 100000 in
theorem Core.dk (h : Core F w b d sb lb bb sc ov) : IsDk F w b d := ⟨_, _, _, _, _, h⟩

set_option maxRecDepth 100000 in
set_option maxHeartbeats 4000000 in
theorem step_any (h : IsDk F w b d) (hn : Num d) : Calls Tryd.prog 62 #[.pointer (some ⟨b, 0, none⟩)] w fun e w' => e = .returned (.bool (decide (d.armed = 1))) ∧ IsDk F w' b (stepD d) ∧ Keeps F w w' := by
  obtain ⟨sb, lb, bb, sc, ov, h⟩ := h.core
  have h1 := h.1
  have c4 : w.cell? ⟨b, 4, none⟩ = some (.int .i64 (d.steps : Int)) := h1.cell 4
  have c5 : w.cell? ⟨b, 5, none⟩ = some (.int .i64 (d.armed : Int)) := h1.cell 5
  have f4 := h1.free 4
  have f5 := h1.free 5
  have n4 := hn.steps
  have n5 := hn.armed
  have kk := (Keeps.refl (fun j => j = b) w).put (g := b) (Or.inl rfl) 4 (.int .i64 ((d.steps : Int) + 1))
  have hB := h1.put 4 (.int .i64 ((d.steps : Int) + 1))
  replace h := Lib.hid h
  replace hB := Lib.hid hB
  replace kk := Lib.hid kk
  clear h1
  by_cases ha : d.armed = 0
  · have e0 : (d.armed : Int) = 0 := by omega
    have hr : decide (d.armed = 1) = false := by simp [ha]
    rw [hr]
    have hB2 : Blk (w.setCell ⟨b, 4, none⟩ (.int .i64 ((d.steps : Int) + 1))) b 72 (dkc sb lb bb sc ov (stepD d)) := by
      have := hB.out
      have e : (stepD d) = { d with steps := d.steps + 1 } := by unfold stepD; rw [ha]
      rw [e]
      exact this
    have fin := Lib.hid (h.out.reput kk.out hB2 rfl rfl rfl rfl)
    clear hB2 hB kk h hr ha
    replace c5 : w.cell? ⟨b, 5, none⟩ = some (.int .i64 0) := by rw [← e0]; exact c5
    clear e0
    go_enter Tryd.func62, Tryd.ntmps62
    go_wp2_with fail
    go_ret
    exact ⟨rfl, fin.out⟩
  · have kk2 := Lib.hid (kk.out.put (g := b) (Or.inl rfl) 5 (.int .i64 ((d.armed : Int) - 1)))
    have hB2 : Blk ((w.setCell ⟨b, 4, none⟩ (.int .i64 ((d.steps : Int) + 1))).setCell ⟨b, 5, none⟩ (.int .i64 ((d.armed : Int) - 1))) b 72 (dkc sb lb bb sc ov (stepD d)) := by
      have := hB.out.put 5 (.int .i64 ((d.armed : Int) - 1))
      have e : (dkc sb lb bb sc ov (stepD d)) = ((dkc sb lb bb sc ov d).setIfInBounds 4 (.int .i64 ((d.steps : Int) + 1))).setIfInBounds 5 (.int .i64 ((d.armed : Int) - 1)) := by
        simp [dkc, stepD]
        omega
      rw [e]
      exact this
    have fin := Lib.hid (h.out.reput kk2.out hB2 rfl rfl rfl rfl)
    clear hB2 hB kk kk2 h
    have n6 : 1 ≤ d.armed := by omega
    by_cases h1 : d.armed = 1
    · rw [show decide (d.armed = 1) = true by simp [h1]]
      replace h1 := Lib.hid h1
      have c5' : w.cell? ⟨b, 5, none⟩ = some (.int .i64 1) := by rw [c5, h1.out]; rfl
      rw [show ((d.armed : Int) - 1) = 0 by have := h1.out; omega] at fin
      clear c5 ha
      go_enter Tryd.func62, Tryd.ntmps62
      go_wp2_with fail
      go_ret
      exact ⟨rfl, fin.out⟩
    · rw [show decide (d.armed = 1) = false by simp [h1]]
      have n7 : 2 ≤ d.armed := by omega
      clear h1 n6 ha
      go_enter Tryd.func62, Tryd.ntmps62
      go_wp2_with fail
      go_ret
      refine ⟨?_, fin.out⟩
      show Ending.returned (.bool ((d.armed : Int) - 1 == 0)) = _
      rw [show ((d.armed : Int) - 1 == 0) = false from by simpa using (by omega : ¬ (d.armed : Int) - 1 = 0)]

set_option maxRecDepth 100000 in
set_option maxHeartbeats 4000000 in
theorem revive_any (h : IsDk F w b d) : Calls Tryd.prog 13 #[.pointer (some ⟨b, 0, none⟩)] w fun e w' => e = .returned (.tuple #[]) ∧ IsDk F w' b (reviveD d) ∧ Keeps F w w' := by
  obtain ⟨sb, lb, bb, sc, ov, h⟩ := h.core
  have h1 := h.1
  have c7 : w.cell? ⟨b, 7, none⟩ = some (.bool d.dead) := h1.cell 7
  have c5 : w.cell? ⟨b, 5, none⟩ = some (.int .i64 (d.armed : Int)) := h1.cell 5
  have f7 := h1.free 7
  have f5 := h1.free 5
  have kk := ((Keeps.refl (fun j => j = b) w).put (g := b) (Or.inl rfl) 7 (.bool false)).put (g := b) (Or.inl rfl) 5 (.int .i64 0)
  have hB : Blk _ b 72 (dkc sb lb bb sc ov (reviveD d)) := (h1.put 7 (.bool false)).put 5 (.int .i64 0)
  have fin := Lib.hid (h.reput kk hB rfl rfl rfl rfl)
  clear hB kk h h1
  go_enter Tryd.func13, Tryd.ntmps13
  go_wp2_with fail
  go_end0
  exact ⟨rfl, fin.out⟩
set_option maxRecDepth 100000 in
set_option maxHeartbeats 4000000 in
theorem arm_any (h : IsDk F w b d) (n : Int) (keep : ByteArray) : Calls Tryd.prog 24 #[.pointer (some ⟨b, 0, none⟩), .int .i64 n, .string keep] w fun e w' => e = .returned (.int .i64 (armD d n keep).2) ∧ IsDk F w' b (armD d n keep).1 ∧ Keeps F w w' := by
  obtain ⟨sb, lb, bb, sc, ov, h⟩ := h.core
  have h1 := h.1
  have c7 : w.cell? ⟨b, 7, none⟩ = some (.bool d.dead) := h1.cell 7
  have c6 : w.cell? ⟨b, 6, none⟩ = some (.string d.keep) := h1.cell 6
  have c5 : w.cell? ⟨b, 5, none⟩ = some (.int .i64 (d.armed : Int)) := h1.cell 5
  have f6 := h1.free 6
  have f5 := h1.free 5
  unfold armD
  rcases Bool.eq_false_or_eq_true d.dead with hd | hd
  · rw [hd] at c7
    rw [if_pos hd]
    replace hd := Lib.hid hd
    have fin := Lib.hid h.dk
    clear h h1
    go_enter Tryd.func24, Tryd.ntmps24
    go_wp2_with fail
    go_ret
    exact ⟨rfl, fin.out, Keeps.refl _ _⟩
  · rw [hd] at c7
    rw [if_neg (by rw [hd]; decide)]
    replace hd := Lib.hid hd
    by_cases h0 : n < 0
    · rw [if_pos h0]
      have fin := Lib.hid h.dk
      clear h h1
      go_enter Tryd.func24, Tryd.ntmps24
      go_wp2_with fail
      go_ret
      exact ⟨rfl, fin.out, Keeps.refl _ _⟩
    · rw [if_neg h0]
      obtain ⟨k, rfl⟩ := Int.eq_ofNat_of_zero_le (show 0 ≤ n by omega)
      have kk := ((Keeps.refl (fun j => j = b) w).put (g := b) (Or.inl rfl) 5 (.int .i64 (k : Int))).put (g := b) (Or.inl rfl) 6 (.string keep)
      have hB : Blk _ b 72 (dkc sb lb bb sc ov { d with armed := (k : Int).toNat, keep := keep }) := (h1.put 5 (.int .i64 (k : Int))).put 6 (.string keep)
      have fin := Lib.hid (h.reput kk hB rfl rfl rfl rfl)
      clear hB kk h h1
      go_enter Tryd.func24, Tryd.ntmps24
      go_wp2_with fail
      go_ret
      exact ⟨rfl, fin.out⟩
end
end Go.Proofs.YtojhlijcinenoaaDoor.Disk

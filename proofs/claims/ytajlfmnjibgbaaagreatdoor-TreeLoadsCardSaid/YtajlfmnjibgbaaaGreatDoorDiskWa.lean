/- The program's disk in memory; its small functions: may, Sectors, Loose, Steps, Dead, Read, step, Revive, Arm, Bad. -/
import Derived.Test.YtajlfmnjibgbaaaGreatDoorDiskMm
import Derived.WalkKit
import Derived.WalkSpells
import Derived.Maps.OwnOps
import Derived.Test.YtajlfmnjibgbaaaGreatDoorDiskPl
import Derived.Deep.RegionHeld3
namespace Go.Proofs.YtajlfmnjibgbaaaGreatDoor.Disk
open Go Go.RowKit Go.Maps Mem

/-- block b is the disk d; F: the blocks that are its own -/
def IsDk (F : Nat → Prop) (w : World) (b : Nat) (d : Dk) : Prop :=
  ∃ (sb lb bb sc : Nat) (ov : Value),
    Blk w b 113 #[.slice (some ⟨sb, 0, none⟩) d.stays.length sc, .map (some lb), ov, .map (some bb), .int .i64 (d.steps : Int), .int .i64 (d.armed : Int), .string d.keep, .bool d.dead] ∧
    w.ownsRow 0 9 1 (.slice (some ⟨sb, 0, none⟩) d.stays.length sc) d.stays.length (d.stays.map Value.string) ∧
    MapS w lb d.L ∧ MapB w bb d.marks d.bad ∧ w.ownsRow 0 3 1 ov d.L.length (d.L.map fun p => Value.int .i64 (p.1 : Int)) ∧
    lb ≠ bb ∧ (F b ∧ F sb ∧ F lb ∧ F bb) ∧ (∀ j, ov.ownBlock = some j → F j) ∧ ∀ i, F i → i < w.heap.size
/-- the numbers are small -/
structure Num (d : Dk) : Prop where
  steps : d.steps ≤ 4611686018427387904
  armed : d.armed ≤ 9223372036854775807
  marks : d.marks ≤ 4611686018427387904
set_option maxRecDepth 100000 in
theorem IsDk.keeps {F G : Nat → Prop} {w w' : World} {b : Nat} {d : Dk} (h : IsDk F w b d) (k : Keeps G w w') (hn : ∀ i, F i → ¬ G i) : IsDk F w' b d := by
  obtain ⟨sb, lb, bb, sc, ov, h1, h2, h3, h4, h5, h6, h7, h8, h9⟩ := h
  exact ⟨sb, lb, bb, sc, ov, h1.keeps k (hn _ h7.1), own_keeps h2 k (fun j e => by injection e with e; subst e; exact hn _ h7.2.1), h3.keeps k (hn _ h7.2.2.1), h4.keeps k (hn _ h7.2.2.2), own_keeps h5 k (fun j e => hn _ (h8 j e)), h6, h7, h8, fun i hi => Nat.lt_of_lt_of_le (h9 i hi) k.size⟩
set_option maxRecDepth 100000 in
theorem IsDk.below {F : Nat → Prop} {w w' : World} {b : Nat} {d : Dk} (h : IsDk F w b d) (k : Below w.heap.size w w') : IsDk F w' b d := h.keeps (Keeps.of_below (fun _ => False) k) (fun _ _ h => h)
set_option maxRecDepth 100000 in
theorem IsDk.lt {F : Nat → Prop} {w : World} {b : Nat} {d : Dk} (h : IsDk F w b d) : b < w.heap.size := by
  obtain ⟨sb, lb, bb, sc, ov, h1, _⟩ := h
  exact h1.lt
/-- what a call leaves: the disk d', and all else as it was -/
def DkPost (F : Nat → Prop) (w : World) (b : Nat) (v : Value) (d' : Dk) (e : Ending) (w' : World) : Prop :=
  e = .returned v ∧ ∃ F' : Nat → Prop, IsDk F' w' b d' ∧ Keeps F w w' ∧ ∀ i, F' i → F i ∨ w.heap.size ≤ i

section
variable {F : Nat → Prop} {w : World} {b : Nat} {d : Dk}
set_option maxRecDepth 100000 in
set_option maxHeartbeats 2000000 in
theorem may_any (h : IsDk F w b d) (n : Int) : Calls Tryz.prog 67 #[.pointer (some ⟨b, 0, none⟩), .int .i64 n] w fun e w' => e = .returned (.int .i64 (mayE d n)) ∧ w' = w := by
  obtain ⟨sb, lb, bb, sc, ov, h1, _⟩ := h
  have c0 := h1.cell 0
  have c7 := h1.cell 7
  unfold mayE
  cases hd : d.dead with
  | true =>
    rw [hd] at c7
    replace hd := Lib.hid hd
    go_enter Tryz.func67, Tryz.ntmps67
    go_wp2_with fail
    go_ret
    exact ⟨rfl, rfl⟩
  | false =>
    rw [hd] at c7
    replace hd := Lib.hid hd
    rw [if_neg (by decide)]
    by_cases h0 : n < 0
    · rw [if_pos (Or.inl h0)]
      go_enter Tryz.func67, Tryz.ntmps67
      go_wp2_with fail
      go_ret
      exact ⟨rfl, rfl⟩
    · by_cases h2 : (d.stays.length : Int) ≤ n
      · rw [if_pos (Or.inr h2)]
        go_enter Tryz.func67, Tryz.ntmps67
        go_wp2_with fail
        go_ret
        exact ⟨rfl, rfl⟩
      · rw [if_neg (fun h => h.elim h0 h2)]
        go_enter Tryz.func67, Tryz.ntmps67
        go_wp2_with fail
        go_ret
        exact ⟨rfl, rfl⟩
set_option maxRecDepth 100000 in
theorem mayE_ok {d : Dk} {n : Int} (h : mayE d n = 0) : d.dead = false ∧ 0 ≤ n ∧ n < d.stays.length := by
  unfold mayE at h
  split at h
  · cases h
  · next h1 =>
    split at h
    · cases h
    · next h2 => exact ⟨by simpa using h1, by omega, by omega⟩

set_option maxRecDepth 100000 in
set_option maxHeartbeats 2000000 in
theorem sectors_any (h : IsDk F w b d) : Calls Tryz.prog 92 #[.pointer (some ⟨b, 0, none⟩)] w fun e w' => e = .returned (.int .i64 (d.stays.length : Int)) ∧ w' = w := by
  obtain ⟨sb, lb, bb, sc, ov, h1, _⟩ := h
  have c0 := h1.cell 0
  go_enter Tryz.func92, Tryz.ntmps92
  go_wp2_with fail
  go_ret
  exact ⟨rfl, rfl⟩
set_option maxRecDepth 100000 in
set_option maxHeartbeats 4000000 in
theorem read_any (h : IsDk F w b d) (hf : Fit d) (n : Int) : Calls Tryz.prog 162 #[.pointer (some ⟨b, 0, none⟩), .int .i64 n] w fun e w' => e = .returned (.tuple #[.string (readD d n).1, .int .i64 (readD d n).2]) ∧ w' = w := by
  have km := Lib.hid (may_any h n)
  obtain ⟨sb, lb, bb, sc, ov, h1, h2, h3, h4, _⟩ := h
  have c0 := h1.cell 0
  have c1 := h1.cell 1
  have c3 := h1.cell 3
  unfold readD
  by_cases he : mayE d n = 0
  · obtain ⟨_, h0, hlt⟩ := mayE_ok he
    rw [if_neg (by rw [he]; decide)]
    rw [he] at km
    replace km := Lib.hid km.out
    replace he := Lib.hid he
    obtain ⟨k, rfl⟩ := Int.eq_ofNat_of_zero_le h0
    have hfew := hf.few
    have lk1 := h4.look k (by omega)
    have lk2 := h3.look k (by omega) true
    obtain ⟨s, hs⟩ : ∃ s, d.stays[k]? = some s := ⟨_, List.getElem?_eq_getElem (by omega)⟩
    have hr := Mem.Row.of_own h2
    obtain ⟨ad, u, ha, hu, hc⟩ := hr.at_ (k := k) (by omega)
    injection ha with ha
    subst ha
    rw [List.getElem?_map, hs] at hu
    injection hu with hu
    subst hu
    rw [add_lit, Nat.zero_add] at hc
    rw [Int.toNat_natCast, hs]
    cases hb : d.bad k with
    | true =>
      rw [hb] at lk1
      rw [if_pos rfl]
      replace hb := Lib.hid hb
      replace hs := Lib.hid hs
      go_enter Tryz.func162, Tryz.ntmps162
      go_wp2_with fail
      refine km.out.mono ?_
      rintro e w1 ⟨rfl, hw⟩
      subst hw
      go_wp2_with fail
      go_ret2
      exact ⟨rfl, rfl⟩
    | false =>
      rw [hb] at lk1
      rw [if_neg (by decide)]
      replace hb := Lib.hid hb
      replace hs := Lib.hid hs
      cases hfi : find d.L k with
      | some t =>
        rw [hfi] at lk2
        simp only [if_true, Option.getD_some, Option.isSome_some] at lk2
        replace hfi := Lib.hid hfi
        go_enter Tryz.func162, Tryz.ntmps162
        go_wp2_with fail
        refine km.out.mono ?_
        rintro e w1 ⟨rfl, hw⟩
        subst hw
        go_wp2_with fail
        go_ret2
        exact ⟨rfl, rfl⟩
      | none =>
        rw [hfi] at lk2
        simp only [if_true, Option.getD_none, Option.isSome_none] at lk2
        replace hfi := Lib.hid hfi
        go_enter Tryz.func162, Tryz.ntmps162
        go_wp2_with fail
        refine km.out.mono ?_
        rintro e w1 ⟨rfl, hw⟩
        subst hw
        go_wp2_with fail
        go_ret2
        exact ⟨rfl, rfl⟩
  · rw [if_pos he]
    have hne : (mayE d n != 0) = true := by simpa using he
    generalize mayE d n = ee at km hne
    clear he
    go_enter Tryz.func162, Tryz.ntmps162
    go_wp2_with fail
    refine km.out.mono ?_
    rintro e w1 ⟨rfl, hw⟩
    subst hw
    go_wp2_with fail
    go_ret2
    exact ⟨rfl, rfl⟩
end
end Go.Proofs.YtajlfmnjibgbaaaGreatDoor.Disk
/- The disk's functions that write: step, Revive, Arm, Bad. -/
namespace Go.Proofs.YtajlfmnjibgbaaaGreatDoor.Disk
open Go Go.RowKit Go.Maps Mem

/-- the eight cells -/
def dkc (sb lb bb sc : Nat) (ov : Value) (d : Dk) : Array Value :=
  #[.slice (some ⟨sb, 0, none⟩) d.stays.length sc, .map (some lb), ov, .map (some bb), .int .i64 (d.steps : Int), .int .i64 (d.armed : Int), .string d.keep, .bool d.dead]
/-- IsDk, its parts by name -/
def Core (F : Nat → Prop) (w : World) (b : Nat) (d : Dk) (sb lb bb sc : Nat) (ov : Value) : Prop :=
    Blk w b 113 (dkc sb lb bb sc ov d) ∧
    w.ownsRow 0 9 1 (.slice (some ⟨sb, 0, none⟩) d.stays.length sc) d.stays.length (d.stays.map Value.string) ∧
    MapS w lb d.L ∧ MapB w bb d.marks d.bad ∧ w.ownsRow 0 3 1 ov d.L.length (d.L.map fun p => Value.int .i64 (p.1 : Int)) ∧
    lb ≠ bb ∧ (F b ∧ F sb ∧ F lb ∧ F bb) ∧ (∀ j, ov.ownBlock = some j → F j) ∧ ∀ i, F i → i < w.heap.size
set_option maxRecDepth 100000 in
theorem own_ne {w : World} {base sz n b : Nat} {e t : TypeId} {v : Value} {xs : List Value} {cs : Array Value} (h : w.ownsRow base e sz v n xs) (hb : Blk w b t cs) (ht : e ≠ t) : ∀ j, v.ownBlock = some j → j ≠ b := by
  rcases h.2 with ⟨rfl, _⟩ | ⟨g, cap, cur, rfl, _, hg, _⟩
  · intro j e; cases e
  · intro j e hj
    injection e with e
    subst e
    rw [show g = b from hj, hb] at hg
    injection hg with hg
    injection hg with _ h2
    exact ht h2.symm
set_option maxRecDepth 100000 in
theorem own_map_ne {w : World} {base sz n b : Nat} {e k : TypeId} {v : Value} {xs : List Value} {R : Value → Option (DataW Unit × List MemPlace)} {m : Nat} {D : DataW Unit} (h : w.ownsRow base e sz v n xs) (hb : w.ownsMap Tryz.prog k R b m D) : ∀ j, v.ownBlock = some j → j ≠ b := by
  obtain ⟨es, clock, hb, _⟩ := hb
  rcases h.2 with ⟨rfl, _⟩ | ⟨g, cap, cur, rfl, _, hg, _⟩
  · intro j e; cases e
  · intro j e hj
    injection e with e
    subst e
    rw [show g = b from hj, hb] at hg
    injection hg with hg
    cases hg
set_option maxRecDepth 100000 in
theorem blk_map_ne {w : World} {b c : Nat} {t k : TypeId} {cs : Array Value} {R : Value → Option (DataW Unit × List MemPlace)} {m : Nat} {D : DataW Unit} (h : Blk w b t cs) (hb : w.ownsMap Tryz.prog k R c m D) : c ≠ b := by
  obtain ⟨es, clock, hb, _⟩ := hb
  intro e
  rw [e, show w.heap[b]? = _ from h] at hb
  injection hb with hb
  cases hb
section
variable {F : Nat → Prop} {w w' : World} {b : Nat} {d d' : Dk} {sb lb bb sc : Nat} {ov : Value}
set_option maxRecDepth 100000 in
/-- the blocks that a disk leads to are none of them its own -/
theorem Core.ne (h : Core F w b d sb lb bb sc ov) : sb ≠ b ∧ lb ≠ b ∧ bb ≠ b ∧ (∀ j, ov.ownBlock = some j → j ≠ b) ∧ sb ≠ lb ∧ sb ≠ bb ∧ (∀ j, ov.ownBlock = some j → j ≠ lb) ∧ (∀ j, ov.ownBlock = some j → j ≠ bb) ∧ ∀ j, ov.ownBlock = some j → j ≠ sb := by
  obtain ⟨h1, h2, ⟨D, h3, _⟩, ⟨D2, h4, _⟩, h5, _⟩ := h
  refine ⟨own_ne h2 h1 (by decide) _ rfl, blk_map_ne h1 h3, blk_map_ne h1 h4, own_ne h5 h1 (by decide), own_map_ne h2 h3 _ rfl, own_map_ne h2 h4 _ rfl, own_map_ne h5 h3, own_map_ne h5 h4, ?_⟩
  rcases h2.2 with ⟨h, _⟩ | ⟨g, cap, cur, hv, _, hg, _⟩
  · cases h
  · injection hv with hv
    injection hv with hv
    injection hv with hv
    subst hv
    exact own_ne (cs := cur) h5 hg (by decide)
set_option maxRecDepth 100000 in
/-- the block's own numbers turn, and nothing else -/
theorem Core.reput (h : Core F w b d sb lb bb sc ov) (kk : Keeps (fun j => j = b) w w') (hB : Blk w' b 113 (dkc sb lb bb sc ov d')) (e1 : d'.stays = d.stays) (e2 : d'.L = d.L) (e3 : d'.bad = d.bad) (e4 : d'.marks = d.marks) :
    IsDk F w' b d' ∧ Keeps F w w' := by
  have hne := h.ne
  obtain ⟨h1, h2, h3, h4, h5, h6, h7, h8, h9⟩ := h
  refine ⟨⟨sb, lb, bb, sc, ov, hB, ?_, ?_, ?_, ?_, h6, h7, h8, fun i hi => Nat.lt_of_lt_of_le (h9 i hi) kk.size⟩, kk.mono (fun i e => e ▸ h7.1)⟩
  · rw [e1]; exact own_keeps h2 kk (fun j e => by injection e with e; subst e; exact hne.1)
  · rw [e2]; exact h3.keeps kk hne.2.1
  · rw [e3, e4]; exact h4.keeps kk hne.2.2.1
  · rw [e2]; exact own_keeps h5 kk hne.2.2.2.1
set_option maxRecDepth 100000 in
theorem IsDk.core (h : IsDk F w b d) : ∃ sb lb bb sc ov, Core F w b d sb lb bb sc ov := h
set_option maxRecDepth 100000 in
theorem Core.dk (h : Core F w b d sb lb bb sc ov) : IsDk F w b d := ⟨_, _, _, _, _, h⟩

set_option maxRecDepth 100000 in
set_option maxHeartbeats 4000000 in
theorem step_any (h : IsDk F w b d) (hn : Num d) : Calls Tryz.prog 68 #[.pointer (some ⟨b, 0, none⟩)] w fun e w' => e = .returned (.bool (decide (d.armed = 1))) ∧ IsDk F w' b (stepD d) ∧ Keeps F w w' := by
  obtain ⟨sb, lb, bb, sc, ov, h⟩ := h.core
  have h1 := h.1
  have c4 : w.cell? ⟨b, 4, none⟩ = some (.int .i64 (d.steps : Int)) := h1.cell 4
  have c5 : w.cell? ⟨b, 5, none⟩ = some (.int .i64 (d.armed : Int)) := h1.cell 5
  have f4 := h1.free 4
  have f5 := h1.free 5
  have n4 := hn.steps
  have n5 := hn.armed
  have kk := (Keeps.refl (fun j => j = b) w).put (g := b) (Or.inl rfl) 4 (.int .i64 ((d.steps : Int) + 1))
  have hB := h1.put 4 (.int .i64 ((d.steps : Int) + 1))
  replace h := Lib.hid h
  replace hB := Lib.hid hB
  replace kk := Lib.hid kk
  clear h1
  by_cases ha : d.armed = 0
  · have e0 : (d.armed : Int) = 0 := by omega
    have hr : decide (d.armed = 1) = false := by simp [ha]
    rw [hr]
    have hB2 : Blk (w.setCell ⟨b, 4, none⟩ (.int .i64 ((d.steps : Int) + 1))) b 113 (dkc sb lb bb sc ov (stepD d)) := by
      have := hB.out
      have e : (stepD d) = { d with steps := d.steps + 1 } := by unfold stepD; rw [ha]
      rw [e]
      exact this
    have fin := Lib.hid (h.out.reput kk.out hB2 rfl rfl rfl rfl)
    clear hB2 hB kk h hr ha
    replace c5 : w.cell? ⟨b, 5, none⟩ = some (.int .i64 0) := by rw [← e0]; exact c5
    clear e0
    go_enter Tryz.func68, Tryz.ntmps68
    go_wp2_with fail
    go_ret
    exact ⟨rfl, fin.out⟩
  · have kk2 := Lib.hid (kk.out.put (g := b) (Or.inl rfl) 5 (.int .i64 ((d.armed : Int) - 1)))
    have hB2 : Blk ((w.setCell ⟨b, 4, none⟩ (.int .i64 ((d.steps : Int) + 1))).setCell ⟨b, 5, none⟩ (.int .i64 ((d.armed : Int) - 1))) b 113 (dkc sb lb bb sc ov (stepD d)) := by
      have := hB.out.put 5 (.int .i64 ((d.armed : Int) - 1))
      have e : (dkc sb lb bb sc ov (stepD d)) = ((dkc sb lb bb sc ov d).setIfInBounds 4 (.int .i64 ((d.steps : Int) + 1))).setIfInBounds 5 (.int .i64 ((d.armed : Int) - 1)) := by
        simp [dkc, stepD]
        omega
      rw [e]
      exact this
    have fin := Lib.hid (h.out.reput kk2.out hB2 rfl rfl rfl rfl)
    clear hB2 hB kk kk2 h
    have n6 : 1 ≤ d.armed := by omega
    by_cases h1 : d.armed = 1
    · rw [show decide (d.armed = 1) = true by simp [h1]]
      replace h1 := Lib.hid h1
      have c5' : w.cell? ⟨b, 5, none⟩ = some (.int .i64 1) := by rw [c5, h1.out]; rfl
      rw [show ((d.armed : Int) - 1) = 0 by have := h1.out; omega] at fin
      clear c5 ha
      go_enter Tryz.func68, Tryz.ntmps68
      go_wp2_with fail
      go_ret
      exact ⟨rfl, fin.out⟩
    · rw [show decide (d.armed = 1) = false by simp [h1]]
      have n7 : 2 ≤ d.armed := by omega
      clear h1 n6 ha
      go_enter Tryz.func68, Tryz.ntmps68
      go_wp2_with fail
      go_ret
      refine ⟨?_, fin.out⟩
      show Ending.returned (.bool ((d.armed : Int) - 1 == 0)) = _
      rw [show ((d.armed : Int) - 1 == 0) = false from by simpa using (by omega : ¬ (d.armed : Int) - 1 = 0)]

end
end Go.Proofs.YtajlfmnjibgbaaaGreatDoor.Disk
/- The power goes: goes, Crash. -/
namespace Go.Proofs.YtajlfmnjibgbaaaGreatDoor.Disk
open Go Go.RowKit Go.Maps Mem

set_option maxRecDepth 100000 in
/-- a store into a row of one's own -/
theorem own_put {w : World} {base g n cap i : Nat} {e : TypeId} {xs : List Value} {u : Value} (h : w.ownsRow base e 1 (.slice (some ⟨g, 0, none⟩) n cap) n xs) :
    (w.setCell ⟨g, i, none⟩ u).ownsRow base e 1 (.slice (some ⟨g, 0, none⟩) n cap) n (xs.set i u) ∧ w.frozen? ⟨g, i, none⟩ = false := by
  obtain ⟨h1, ⟨h2, _⟩ | ⟨g', cap', cur, hv, hb, hg, hnc, hm, hs, ht⟩⟩ := h
  · cases h2
  · injection hv with hv1 _ hv2
    injection hv1 with hv1
    obtain rfl : g = g' := congrArg Addr.block hv1
    obtain rfl : cap = cap' := hv2
    refine ⟨⟨by rw [List.length_set]; exact h1, Or.inr ⟨g, cap, cur.setIfInBounds i u, rfl, hb, heap_setCell_same w g i cur e u hg, hnc, hm, by rw [Array.size_setIfInBounds]; exact hs, ?_⟩⟩, frozen_of_row w g i cur e hg⟩
    rw [Array.toList_setIfInBounds, ← ht, List.take_set]
set_option maxRecDepth 100000 in
theorem keeps_drew (F : Nat → Prop) (w : World) : Keeps F w w.drew := ⟨rfl, rfl, rfl, Nat.le_refl _, fun _ _ _ => rfl⟩
set_option maxRecDepth 100000 in
theorem own_slice {w : World} {base n : Nat} {e : TypeId} {v : Value} {xs : List Value} (h : w.ownsRow base e 1 v n xs) : ∃ A c, v = .slice A n c := by
  obtain ⟨_, ⟨h2, h3⟩ | ⟨g, cap, _, hv, _⟩⟩ := h
  · subst h3; exact ⟨_, _, h2⟩
  · exact ⟨_, _, hv⟩
set_option maxRecDepth 100000 in
theorem applyK_snoc (keep : ByteArray) (p : Nat × ByteArray) : ∀ (L : List (Nat × ByteArray)) (i : Nat) (st : List ByteArray), applyK keep i (L ++ [p]) st = if hasN keep (i + L.length) = true then (applyK keep i L st).set p.1 p.2 else applyK keep i L st
  | [], i, st => by simp [applyK]
  | q :: L, i, st => by
    rw [List.cons_append, applyK, applyK_snoc keep p L, applyK, List.length_cons, show i + 1 + L.length = i + (L.length + 1) by omega]
set_option maxRecDepth 100000 in
theorem take_succ_of {α : Type} {L : List α} {k : Nat} {p : α} (h : L[k]? = some p) : L.take (k + 1) = L.take k ++ [p] := by
  rw [List.take_add_one, h]; rfl

section
variable {F : Nat → Prop} {w w' : World} {b : Nat} {d d' : Dk} {sb lb bb sc : Nat} {ov : Value}
set_option maxRecDepth 100000 in
/-- nothing is loose any more -/
theorem Core.fin (h : Core F w b d sb lb bb sc ov) (kk : Keeps (fun j => j = sb ∨ j = lb ∨ j = b) w w') (hB : Blk w' b 113 (dkc sb lb bb sc (.slice none 0 0) d'))
    (hst : w'.ownsRow 0 9 1 (.slice (some ⟨sb, 0, none⟩) d.stays.length sc) d.stays.length (d'.stays.map Value.string)) (hm : MapS w' lb [])
    (e1 : d'.stays.length = d.stays.length) (e2 : d'.L = []) (e3 : d'.bad = d.bad) (e4 : d'.marks = d.marks) : IsDk F w' b d' ∧ Keeps F w w' := by
  have hne := h.ne
  obtain ⟨h1, h2, h3, h4, h5, h6, h7, h8, h9⟩ := h
  refine ⟨⟨sb, lb, bb, sc, .slice none 0 0, hB, ?_, ?_, ?_, ?_, h6, h7, (fun j e => by cases e), fun i hi => Nat.lt_of_lt_of_le (h9 i hi) kk.size⟩, kk.mono (fun i e => ?_)⟩
  · rw [e1]; exact hst
  · rw [e2]; exact hm
  · rw [e3, e4]; exact h4.keeps kk (fun e => e.elim (Ne.symm hne.2.2.2.2.2.1) (fun e => e.elim (Ne.symm h6) hne.2.2.1))
  · rw [e2]; exact ⟨rfl, Or.inl ⟨rfl, rfl⟩⟩
  · rcases e with rfl | rfl | rfl
    · exact h7.2.1
    · exact h7.2.2.1
    · exact h7.1

set_option maxRecDepth 100000 in
set_option maxHeartbeats 4000000 in
theorem goes_any (h : IsDk F w b d) (hf : Fit d) (keep : ByteArray) : Calls Tryz.prog 69 #[.pointer (some ⟨b, 0, none⟩), .string keep] w fun e w' => e = .returned (.int .i64 2) ∧ IsDk F w' b (goesD d keep) ∧ Keeps F w w' := by
  obtain ⟨sb, lb, bb, sc, ov, h⟩ := h.core
  obtain ⟨A, oc, rfl⟩ := own_slice h.2.2.2.2.1
  have h1 := h.1
  have c2 : w.cell? ⟨b, 2, none⟩ = some (.slice A d.L.length oc) := h1.cell 2
  have hst0 := h.2.1
  have hLm : d.L.length ≤ 9223372036854775807 := by
    rcases h.2.2.2.2.1.2 with ⟨_, hz⟩ | ⟨g, cap, cur, _, _, _, hle, hm, _⟩
    · omega
    · unfold maxLen at hm; omega
  have hfew := Lib.hid hf.few
  have hloose := Lib.hid hf.loose
  have hapart := Lib.hid hf.apart
  have hne := Lib.hid h.ne
  replace h := Lib.hid h
  replace hst0 := Lib.hid hst0
  clear h1 hf
  go_enter Tryz.func69, Tryz.ntmps69
  go_wp2_with fail
  clear c2
  go_loopw [12] (fun t wr => ∃ k : Nat, k ≤ d.L.length ∧ t = .int .i64 (k : Int) ∧ Keeps (fun j => j = sb) w wr ∧ wr.ownsRow 0 9 1 (.slice (some ⟨sb, 0, none⟩) d.stays.length sc) d.stays.length ((applyK keep 0 (d.L.take k) d.stays).map Value.string)) (fun t _ => d.L.length - (intOf t).toNat)
  case atStart => exact ⟨0, Nat.zero_le _, rfl, Keeps.refl _ _, hst0.out⟩
  case round =>
    obtain ⟨k, hk, rfl, kk, hst⟩ := hrel
    have hB := h.out.1.keeps kk (Ne.symm hne.out.1)
    have hmS := h.out.2.2.1.keeps kk (Ne.symm hne.out.2.2.2.2.1)
    have hov := own_keeps h.out.2.2.2.2.1 kk hne.out.2.2.2.2.2.2.2.2
    have c0 : wr.cell? ⟨b, 0, none⟩ = some (.slice (some ⟨sb, 0, none⟩) d.stays.length sc) := hB.cell 0
    have c1 : wr.cell? ⟨b, 1, none⟩ = some (.map (some lb)) := hB.cell 1
    by_cases hlt : k < d.L.length
    · obtain ⟨p, hp⟩ : ∃ p, d.L[k]? = some p := ⟨_, List.getElem?_eq_getElem hlt⟩
      have hpm := List.mem_of_getElem? hp
      obtain ⟨hp1, hp2⟩ := hloose.out p hpm
      have hfi : find d.L p.1 = some p.2 := find_mem hapart.out hpm
      obtain ⟨ad, u, ha, hu, hc⟩ := (Mem.Row.of_own hov).at_ (k := k) hlt
      subst ha
      rw [List.getElem?_map, hp] at hu
      injection hu with hu
      subst hu
      obtain ⟨g, cap, hv, _⟩ := hov.form (by omega)
      injection hv with hv1 _ hv2
      injection hv1 with hv1
      subst hv1 hv2
      rw [add_lit, Nat.zero_add] at hc
      have hfew' := hfew.out
      have lk := (hmS.keeps (keeps_drew (fun _ => False) wr) (fun h => h)).look p.1 (by omega) false
      rw [hfi] at lk
      simp only [Bool.false_eq_true, if_false, Option.getD_some] at lk
      have kh := Lib.hid (has_any keep k wr (by omega))
      have hsn : applyK keep 0 (d.L.take (k + 1)) d.stays = if hasN keep k = true then (applyK keep 0 (d.L.take k) d.stays).set p.1 p.2 else applyK keep 0 (d.L.take k) d.stays := by
        rw [take_succ_of hp, applyK_snoc, Nat.zero_add, List.length_take, Nat.min_eq_left (Nat.le_of_lt hlt)]
      replace hsn := Lib.hid hsn
      replace hp := Lib.hid hp
      replace hfi := Lib.hid hfi
      by_cases hh : hasN keep k = true
      · rw [hh] at kh
        obtain ⟨hst', fst⟩ := own_put (i := p.1) (u := .string p.2) hst.drew
        obtain ⟨old, hold⟩ : ∃ u, ((applyK keep 0 (d.L.take k) d.stays).map Value.string)[p.1]? = some u := ⟨_, List.getElem?_eq_getElem (by rw [List.length_map, applyK_length]; exact hp1)⟩
        have cst := hst.cells (g := sb) rfl p.1 old hold
        rw [add_lit, Nat.zero_add] at cst
        have fin : ∃ k' : Nat, k' ≤ d.L.length ∧ Value.int .i64 ((k : Int) + 1) = .int .i64 (k' : Int) ∧ Keeps (fun j => j = sb) w (wr.drew.setCell ⟨sb, p.1, none⟩ (.string p.2)) ∧ (wr.drew.setCell ⟨sb, p.1, none⟩ (.string p.2)).ownsRow 0 9 1 (.slice (some ⟨sb, 0, none⟩) d.stays.length sc) d.stays.length ((applyK keep 0 (d.L.take k') d.stays).map Value.string) := by
          refine ⟨k + 1, by omega, rfl, (kk.same (keeps_drew _ wr)).put (Or.inl rfl) _ _, ?_⟩
          rw [hsn.out, if_pos hh, List.map_set]
          exact hst'
        replace fin := Lib.hid fin
        clear hst' hst hov hmS hB kk hold hh hsn
        go_wp2_with fail
        refine kh.out.mono ?_
        rintro e w1 ⟨rfl, hw⟩
        subst hw
        go_wp2_with fail
        go_region
        go_wp2_with fail
        exact ⟨fin.out, by simp [intOf]; omega⟩
      · have hh' : hasN keep k = false := by simpa using hh
        rw [hh'] at kh
        have fin : ∃ k' : Nat, k' ≤ d.L.length ∧ Value.int .i64 ((k : Int) + 1) = .int .i64 (k' : Int) ∧ Keeps (fun j => j = sb) w wr ∧ wr.ownsRow 0 9 1 (.slice (some ⟨sb, 0, none⟩) d.stays.length sc) d.stays.length ((applyK keep 0 (d.L.take k') d.stays).map Value.string) := by
          refine ⟨k + 1, by omega, rfl, kk, ?_⟩
          rw [hsn.out, if_neg hh]
          exact hst
        replace fin := Lib.hid fin
        clear hst hov hmS hB kk hh hh' hsn
        go_wp2_with fail
        refine kh.out.mono ?_
        rintro e w1 ⟨rfl, hw⟩
        subst hw
        go_wp2_with fail
        exact ⟨fin.out, by simp [intOf]; omega⟩
    · obtain rfl : k = d.L.length := by omega
      rw [List.take_length] at hst
      obtain ⟨w2, hrun, hm2, hg⟩ := hmS.clear
      have kg : Keeps (fun j => j = lb) wr w2 := Keeps.of_grown hg (fun j e => by injection e with e; exact e.symm)
      have hB2 := hB.keeps kg (Ne.symm hne.out.2.1)
      have hst2 := own_keeps hst kg (fun j e => by injection e with e; subst e; exact hne.out.2.2.2.2.1)
      have k2 : Keeps (fun j => j = sb ∨ j = lb ∨ j = b) w w2 := (kk.mono (fun i e => Or.inl e)).same (kg.mono (fun i e => Or.inr (Or.inl e)))
      have f2 := hB2.free 2
      have f5 := hB2.free 5
      have f7 := hB2.free 7
      have d2 : w2.cell? ⟨b, 2, none⟩ = some (.slice A d.L.length oc) := hB2.cell 2
      have d5 : w2.cell? ⟨b, 5, none⟩ = some (.int .i64 (d.armed : Int)) := hB2.cell 5
      have d7 : w2.cell? ⟨b, 7, none⟩ = some (.bool d.dead) := hB2.cell 7
      have k3 : Keeps (fun j => j = b) w2 (((w2.setCell ⟨b, 2, none⟩ (.slice none 0 0)).setCell ⟨b, 7, none⟩ (.bool true)).setCell ⟨b, 5, none⟩ (.int .i64 0)) :=
        (((Keeps.refl (fun j => j = b) w2).put (g := b) (Or.inl rfl) 2 _).put (g := b) (Or.inl rfl) 7 _).put (g := b) (Or.inl rfl) 5 _
      have hB3 : Blk (((w2.setCell ⟨b, 2, none⟩ (.slice none 0 0)).setCell ⟨b, 7, none⟩ (.bool true)).setCell ⟨b, 5, none⟩ (.int .i64 0)) b 113 (dkc sb lb bb sc (.slice none 0 0) (goesD d keep)) := by
        have := ((hB2.put 2 (.slice none 0 0)).put 7 (.bool true)).put 5 (.int .i64 0)
        have e : (goesD d keep).stays.length = d.stays.length := applyK_length _ _ _ _
        unfold dkc
        rw [e]
        exact this
      have fin := h.out.fin (d' := goesD d keep) (k2.same (k3.mono (fun i e => Or.inr (Or.inr e)))) hB3 (own_keeps hst2 k3 (fun j e => by injection e with e; subst e; exact hne.out.1)) (hm2.keeps k3 hne.out.2.1) (applyK_length _ _ _ _) rfl rfl rfl
      replace fin := Lib.hid fin
      clear hB3 k3 k2 hst2 hB2 kg hg hm2 hst hov hmS hB kk
      go_wp2_with fail
      go_ret
      exact ⟨rfl, fin.out⟩
end
end Go.Proofs.YtajlfmnjibgbaaaGreatDoor.Disk

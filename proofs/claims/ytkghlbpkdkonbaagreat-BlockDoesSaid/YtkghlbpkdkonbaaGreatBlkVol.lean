/- The volume in memory; told, Blocks, may, Root, Dead. -/
import Derived.Test.YtkghlbpkdkonbaaGreatBlkCa
import Derived.Test.YtkghlbpkdkonbaaGreatDiskWd
import Derived.Test.YtkghlbpkdkonbaaGreatRdiskH
import Derived.Deep.QuietTactic
import Derived.BigQuiet
namespace Go.Proofs.YtkghlbpkdkonbaaGreat.Vl
open Go Go.RowKit Go.Maps Mem Disk Nv
/-- the five cells -/
def voc (b c : Nat) (v : Vo) : Array Value := #[.pointer (some ⟨b, 0, none⟩), .string v.text, .int .i64 (v.num : Int), .pointer (some ⟨c, 0, none⟩), .bool v.dead]
/-- the volume at a, over its disk at b, its cache at c: its blocks F, the disk's among them G, the cache's H -/
structure VC (F G H : Nat → Prop) (w : World) (a b c : Nat) (v : Vo) (d : Dk) : Prop where
  dk : IsDk G w b d
  blk : Blk w a 68 (voc b c v)
  ca : IsCache H w c v.L
  fa : F a
  fg : ∀ i, G i → F i
  fh : ∀ i, H i → F i
  ga : ¬ G a
  ha : ¬ H a
  gh : ∀ i, G i → ¬ H i
  lt : ∀ i, F i → i < w.heap.size
def PV (F : Nat → Prop) (w : World) (a b : Nat) (v : Vo) (d : Dk) : Prop := ∃ G H c, VC F G H w a b c v d
section
variable {F G H K : Nat → Prop} {w w' : World} {a b c m : Nat} {v v' : Vo} {d d' : Dk}
set_option maxRecDepth 100000 in
theorem VC.pv (h : VC F G H w a b c v d) : PV F w a b v d := ⟨_, _, _, h⟩
set_option maxRecDepth 100000 in
theorem VC.keeps (h : VC F G H w a b c v d) (hk : Keeps K w w') (hn : ∀ i, F i → ¬ K i) : VC F G H w' a b c v d :=
  ⟨h.dk.keeps hk (fun i hi => hn i (h.fg i hi)), h.blk.keeps hk (hn a h.fa), h.ca.keeps hk (fun i hi => hn i (h.fh i hi)), h.fa, h.fg, h.fh, h.ga, h.ha, h.gh, fun i hi => Nat.lt_of_lt_of_le (h.lt i hi) hk.size⟩
set_option maxRecDepth 100000 in
theorem VC.below (h : VC F G H w a b c v d) (hb : Below w.heap.size w w') : VC F G H w' a b c v d := h.keeps (Keeps.of_below (fun _ => False) hb) (fun _ _ h => h)
set_option maxRecDepth 100000 in
theorem PV.keeps (h : PV F w a b v d) (hk : Keeps K w w') (hn : ∀ i, F i → ¬ K i) : PV F w' a b v d := by
  obtain ⟨G, H, c, h⟩ := h
  exact (h.keeps hk hn).pv
set_option maxRecDepth 100000 in
theorem PV.below (h : PV F w a b v d) (hb : Below w.heap.size w w') : PV F w' a b v d := h.keeps (Keeps.of_below (fun _ => False) hb) (fun _ _ h => h)
set_option maxRecDepth 100000 in
theorem PV.lt (h : PV F w a b v d) : ∀ i, F i → i < w.heap.size := by
  obtain ⟨G, H, c, h⟩ := h
  exact h.lt
set_option maxRecDepth 100000 in
theorem PV.kf (h : PV F w a b v d) : Kf v.L := by
  obtain ⟨G, H, c, h⟩ := h
  exact h.ca.kf
set_option maxRecDepth 100000 in
theorem VC.cells (h : VC F G H w a b c v d) : w.cell? ⟨a, 0, none⟩ = some (.pointer (some ⟨b, 0, none⟩)) ∧ w.cell? ⟨a, 1, none⟩ = some (.string v.text) ∧ w.cell? ⟨a, 2, none⟩ = some (.int .i64 (v.num : Int)) ∧ w.cell? ⟨a, 3, none⟩ = some (.pointer (some ⟨c, 0, none⟩)) ∧ w.cell? ⟨a, 4, none⟩ = some (.bool v.dead) :=
  ⟨h.blk.cell 0, h.blk.cell 1, h.blk.cell 2, h.blk.cell 3, h.blk.cell 4⟩
set_option maxRecDepth 100000 in
/-- the volume's own cells turn -/
theorem VC.reput (h : VC F G H w a b c v d) (kk : Keeps (fun j => j = a) w w') (hB : Blk w' a 68 (voc b c v')) (e : v'.L = v.L) : VC F G H w' a b c v' d ∧ Keeps F w w' := by
  refine ⟨⟨h.dk.keeps kk (fun i hi e => h.ga (e ▸ hi)), hB, ?_, h.fa, h.fg, h.fh, h.ga, h.ha, h.gh, fun i hi => Nat.lt_of_lt_of_le (h.lt i hi) kk.size⟩, kk.mono (fun i e => e ▸ h.fa)⟩
  rw [e]
  exact h.ca.keeps kk (fun i hi e => h.ha (e ▸ hi))
set_option maxRecDepth 100000 in
/-- the disk is called -/
theorem VC.disk (h : VC F G H w a b c v d) {G' : Nat → Prop} (hd : IsDk G' w' b d') (kk : Keeps G w w') (hG : ∀ i, G' i → G i ∨ w.heap.size ≤ i) : VC (fun i => F i ∨ G' i) G' H w' a b c v d' := by
  refine ⟨hd, h.blk.keeps kk h.ga, h.ca.keeps kk (fun i hi hg => h.gh i hg hi), Or.inl h.fa, fun i hi => Or.inr hi, fun i hi => Or.inl (h.fh i hi), fun hi => ?_, h.ha, fun i hi hh => ?_, fun i hi => ?_⟩
  · rcases hG a hi with h1 | h1
    · exact h.ga h1
    · have := h.lt a h.fa; omega
  · rcases hG i hi with h1 | h1
    · exact h.gh i h1 hh
    · have := h.lt i (h.fh i hh); omega
  · rcases hi with hi | hi
    · exact Nat.lt_of_lt_of_le (h.lt i hi) kk.size
    · exact hd.blt i hi
set_option maxRecDepth 100000 in
/-- the cache is called -/
theorem VC.cache (h : VC F G H w a b c v d) {H' : Nat → Prop} {L' : List (Nat × ByteArray)} (hc : IsCache H' w' c L') (kk : Keeps H w w') (hH : ∀ i, H' i → H i ∨ w.heap.size ≤ i) : VC (fun i => F i ∨ H' i) G H' w' a b c { v with L := L' } d := by
  refine ⟨h.dk.keeps kk (fun i hi hh => h.gh i hi hh), h.blk.keeps kk h.ha, hc, Or.inl h.fa, fun i hi => Or.inl (h.fg i hi), fun i hi => Or.inr hi, h.ga, fun hi => ?_, fun i hi hh => ?_, fun i hi => ?_⟩
  · rcases hH a hi with h1 | h1
    · exact h.ha h1
    · have := h.lt a h.fa; omega
  · rcases hH i hh with h1 | h1
    · exact h.gh i hi h1
    · have := h.lt i (h.fg i hi); omega
  · rcases hi with hi | hi
    · exact Nat.lt_of_lt_of_le (h.lt i hi) kk.size
    · exact hc.lt i hi
/-- what a call of the volume's comes to -/
def VPost (F : Nat → Prop) (w : World) (a b : Nat) (r : Vo × Dk × Int) (e : Ending) (w' : World) : Prop :=
  e = .returned (.int .i64 r.2.2) ∧ ∃ F', PV F' w' a b r.1 r.2.1 ∧ Keeps F w w' ∧ ∀ i, F' i → F i ∨ w.heap.size ≤ i
set_option maxRecDepth 100000 in
theorem vpost_same (h : PV F w a b v d) (x : Int) : VPost F w a b (v, d, x) (.returned (.int .i64 x)) w := ⟨rfl, F, h, Keeps.refl _ _, fun _ hi => Or.inl hi⟩
set_option maxRecDepth 100000 in
set_option maxHeartbeats 2000000 in
theorem vtold_any (h : VC F G H w a b c v d) (x : Int) : Calls Tryz.prog 36 #[.pointer (some ⟨a, 0, none⟩), .int .i64 x] w fun e w' => e = .returned (.int .i64 x) ∧ VC F G H w' a b c (tellV v x) d ∧ Keeps F w w' := by
  obtain ⟨_, _, _, _, c4⟩ := h.cells
  have f4 := h.blk.free 4
  have fin := fun y (hy : y = (v.dead || x == 2)) => h.reput (v' := tellV v x) ((Keeps.refl (fun j => j = a) w).put (g := a) (Or.inl rfl) 4 (.bool y)) (by
    have hB := h.blk.put 4 (.bool y)
    have e : (voc b c v).setIfInBounds 4 (.bool y) = voc b c (tellV v x) := by rw [hy]; rfl
    rw [e] at hB
    exact hB) rfl
  replace fin := Lib.hid fin
  clear h
  cases hd : v.dead with
  | true =>
    rw [hd] at c4 fin
    replace hd := Lib.hid hd
    go_enter Tryz.func36, Tryz.ntmps36
    go_wp2_with fail
    go_ret
    exact ⟨rfl, fin.out true rfl⟩
  | false =>
    rw [hd] at c4 fin
    replace hd := Lib.hid hd
    go_enter Tryz.func36, Tryz.ntmps36
    go_wp2_with fail
    go_ret
    exact ⟨rfl, fin.out (x == 2) rfl⟩
set_option maxRecDepth 100000 in
set_option maxHeartbeats 2000000 in
theorem vblocks_any (h : VC F G H w a b c v d) (hf : Fit d) : Calls Tryz.prog 66 #[.pointer (some ⟨a, 0, none⟩)] w fun e w' => e = .returned (.int .i64 (blocksD d : Int)) ∧ w' = w := by
  have ks := sectors_any h.dk
  obtain ⟨c0, _⟩ := h.cells
  have hfew := hf.few
  have e1 : (blocksD d : Int) = (d.stays.length : Int) / 4 := by unfold blocksD; omega
  rw [e1]
  generalize d.stays.length = N at ks hfew ⊢
  replace ks := Lib.hid ks
  clear e1 h
  go_enter Tryz.func66, Tryz.ntmps66
  go_wp2_with fail
  refine (ks.out).mono ?_
  rintro en w' ⟨rfl, hw'⟩
  replace hw' := hw'.symm
  subst hw'
  go_wp2_with fail
  go_ret
  exact ⟨rfl, rfl⟩
set_option maxRecDepth 100000 in
set_option maxHeartbeats 2000000 in
theorem vroot_any (h : VC F G H w a b c v d) : Calls Tryz.prog 24 #[.pointer (some ⟨a, 0, none⟩)] w fun e w' => e = .returned (.tuple #[.string v.text, .int .i64 (v.num : Int)]) ∧ ∃ n, w' = w.drewN n := by
  obtain ⟨_, c1, c2, _⟩ := h.cells
  clear h
  go_enter Tryz.func24, Tryz.ntmps24
  go_wp2_with fail
  go_quiet (fail)
  go_wp2_with fail
  go_ret2
  exact ⟨rfl, _, rfl⟩
end
end Go.Proofs.YtkghlbpkdkonbaaGreat.Vl

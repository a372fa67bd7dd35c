/- The volume in memory; told, Blocks, may, Root, Dead. -/
import Derived.Test.YtajlfmnjibgbaaaGreatDoorBlkCa
import Derived.Test.YtajlfmnjibgbaaaGreatDoorDiskW2
import Derived.Test.YtajlfmnjibgbaaaGreatDoorRdG
import Derived.Deep.QuietTactic
import Derived.BigQuiet
import Derived.Test.YtajlfmnjibgbaaaGreatDoorBlkWa
import Derived.Deep.RegionHeld3
namespace Go.Proofs.YtajlfmnjibgbaaaGreatDoor.Vl
open Go Go.RowKit Go.Maps Mem Disk Nv
/-- the five cells -/
def voc (b c : Nat) (v : Vo) : Array Value := #[.pointer (some ⟨b, 0, none⟩), .string v.text, .int .i64 (v.num : Int), .pointer (some ⟨c, 0, none⟩), .bool v.dead]
/-- the volume at a, over its disk at b, its cache at c: its blocks F, the disk's among them G, the cache's H -/
structure VC (F G H : Nat → Prop) (w : World) (a b c : Nat) (v : Vo) (d : Dk) : Prop where
  dk : IsDk G w b d
  blk : Blk w a 95 (voc b c v)
  ca : IsCache H w c v.L
  fa : F a
  fg : ∀ i, G i → F i
  fh : ∀ i, H i → F i
  ga : ¬ G a
  ha : ¬ H a
  gh : ∀ i, G i → ¬ H i
  lt : ∀ i, F i → i < w.heap.size
def PV (F : Nat → Prop) (w : World) (a b : Nat) (v : Vo) (d : Dk) : Prop := ∃ G H c, VC F G H w a b c v d
section
variable {F G H K : Nat → Prop} {w w' : World} {a b c m : Nat} {v v' : Vo} {d d' : Dk}
set_option maxRecDepth 100000 in
theorem VC.pv (h : VC F G H w a b c v d) : PV F w a b v d := ⟨_, _, _, h⟩
set_option maxRecDepth 100000 in
theorem VC.keeps (h : VC F G H w a b c v d) (hk : Keeps K w w') (hn : ∀ i, F i → ¬ K i) : VC F G H w' a b c v d :=
  ⟨h.dk.keeps hk (fun i hi => hn i (h.fg i hi)), h.blk.keeps hk (hn a h.fa), h.ca.keeps hk (fun i hi => hn i (h.fh i hi)), h.fa, h.fg, h.fh, h.ga, h.ha, h.gh, fun i hi => Nat.lt_of_lt_of_le (h.lt i hi) hk.size⟩
set_option maxRecDepth 100000 in
theorem VC.below (h : VC F G H w a b c v d) (hb : Below w.heap.size w w') : VC F G H w' a b c v d := h.keeps (Keeps.of_below (fun _ => False) hb) (fun _ _ h => h)
set_option maxRecDepth 100000 in
theorem PV.keeps (h : PV F w a b v d) (hk : Keeps K w w') (hn : ∀ i, F i → ¬ K i) : PV F w' a b v d := by
  obtain ⟨G, H, c, h⟩ := h
  exact (h.keeps hk hn).pv
set_option maxRecDepth 100000 in
theorem PV.below (h : PV F w a b v d) (hb : Below w.heap.size w w') : PV F w' a b v d := h.keeps (Keeps.of_below (fun _ => False) hb) (fun _ _ h => h)
set_option maxRecDepth 100000 in
theorem PV.lt (h : PV F w a b v d) : ∀ i, F i → i < w.heap.size := by
  obtain ⟨G, H, c, h⟩ := h
  exact h.lt
set_option maxRecDepth 100000 in
theorem PV.kf (h : PV F w a b v d) : Kf v.L := by
  obtain ⟨G, H, c, h⟩ := h
  exact h.ca.kf
set_option maxRecDepth 100000 in
theorem VC.cells (h : VC F G H w a b c v d) : w.cell? ⟨a, 0, none⟩ = some (.pointer (some ⟨b, 0, none⟩)) ∧ w.cell? ⟨a, 1, none⟩ = some (.string v.text) ∧ w.cell? ⟨a, 2, none⟩ = some (.int .i64 (v.num : Int)) ∧ w.cell? ⟨a, 3, none⟩ = some (.pointer (some ⟨c, 0, none⟩)) ∧ w.cell? ⟨a, 4, none⟩ = some (.bool v.dead) :=
  ⟨h.blk.cell 0, h.blk.cell 1, h.blk.cell 2, h.blk.cell 3, h.blk.cell 4⟩
set_option maxRecDepth 100000 in
/-- the volume's own cells turn -/
theorem VC.reput (h : VC F G H w a b c v d) (kk : Keeps (fun j => j = a) w w') (hB : Blk w' a 95 (voc b c v')) (e : v'.L = v.L) : VC F G H w' a b c v' d ∧ Keeps F w w' := by
  refine ⟨⟨h.dk.keeps kk (fun i hi e => h.ga (e ▸ hi)), hB, ?_, h.fa, h.fg, h.fh, h.ga, h.ha, h.gh, fun i hi => Nat.lt_of_lt_of_le (h.lt i hi) kk.size⟩, kk.mono (fun i e => e ▸ h.fa)⟩
  rw [e]
  exact h.ca.keeps kk (fun i hi e => h.ha (e ▸ hi))
set_option maxRecDepth 100000 in
/-- the disk is called -/
theorem VC.disk (h : VC F G H w a b c v d) {G' : Nat → Prop} (hd : IsDk G' w' b d') (kk : Keeps G w w') (hG : ∀ i, G' i → G i ∨ w.heap.size ≤ i) : VC (fun i => F i ∨ G' i) G' H w' a b c v d' := by
  refine ⟨hd, h.blk.keeps kk h.ga, h.ca.keeps kk (fun i hi hg => h.gh i hg hi), Or.inl h.fa, fun i hi => Or.inr hi, fun i hi => Or.inl (h.fh i hi), fun hi => ?_, h.ha, fun i hi hh => ?_, fun i hi => ?_⟩
  · rcases hG a hi with h1 | h1
    · exact h.ga h1
    · have := h.lt a h.fa; omega
  · rcases hG i hi with h1 | h1
    · exact h.gh i h1 hh
    · have := h.lt i (h.fh i hh); omega
  · rcases hi with hi | hi
    · exact Nat.lt_of_lt_of_le (h.lt i hi) kk.size
    · exact hd.blt i hi
set_option maxRecDepth 100000 in
/-- the cache is called -/
theorem VC.cache (h : VC F G H w a b c v d) {H' : Nat → Prop} {L' : List (Nat × ByteArray)} (hc : IsCache H' w' c L') (kk : Keeps H w w') (hH : ∀ i, H' i → H i ∨ w.heap.size ≤ i) : VC (fun i => F i ∨ H' i) G H' w' a b c { v with L := L' } d := by
  refine ⟨h.dk.keeps kk (fun i hi hh => h.gh i hi hh), h.blk.keeps kk h.ha, hc, Or.inl h.fa, fun i hi => Or.inl (h.fg i hi), fun i hi => Or.inr hi, h.ga, fun hi => ?_, fun i hi hh => ?_, fun i hi => ?_⟩
  · rcases hH a hi with h1 | h1
    · exact h.ha h1
    · have := h.lt a h.fa; omega
  · rcases hH i hh with h1 | h1
    · exact h.gh i hi h1
    · have := h.lt i (h.fg i hi); omega
  · rcases hi with hi | hi
    · exact Nat.lt_of_lt_of_le (h.lt i hi) kk.size
    · exact hc.lt i hi
/-- what a call of the volume's comes to -/
def VPost (F : Nat → Prop) (w : World) (a b : Nat) (r : Vo × Dk × Int) (e : Ending) (w' : World) : Prop :=
  e = .returned (.int .i64 r.2.2) ∧ ∃ F', PV F' w' a b r.1 r.2.1 ∧ Keeps F w w' ∧ ∀ i, F' i → F i ∨ w.heap.size ≤ i
set_option maxRecDepth 100000 in
theorem vpost_same (h : PV F w a b v d) (x : Int) : VPost F w a b (v, d, x) (.returned (.int .i64 x)) w := ⟨rfl, F, h, Keeps.refl _ _, fun _ hi => Or.inl hi⟩
set_option maxRecDepth 100000 in
set_option maxHeartbeats 2000000 in
theorem vtold_any (h : VC F G H w a b c v d) (x : Int) : Calls Tryz.prog 40 #[.pointer (some ⟨a, 0, none⟩), .int .i64 x] w fun e w' => e = .returned (.int .i64 x) ∧ VC F G H w' a b c (tellV v x) d ∧ Keeps F w w' := by
  obtain ⟨_, _, _, _, c4⟩ := h.cells
  have f4 := h.blk.free 4
  have fin := fun y (hy : y = (v.dead || x == 2)) => h.reput (v' := tellV v x) ((Keeps.refl (fun j => j = a) w).put (g := a) (Or.inl rfl) 4 (.bool y)) (by
    have hB := h.blk.put 4 (.bool y)
    have e : (voc b c v).setIfInBounds 4 (.bool y) = voc b c (tellV v x) := by rw [hy]; rfl
    rw [e] at hB
    exact hB) rfl
  replace fin := Lib.hid fin
  clear h
  cases hd : v.dead with
  | true =>
    rw [hd] at c4 fin
    replace hd := Lib.hid hd
    go_enter Tryz.func40, Tryz.ntmps40
    go_wp2_with fail
    go_ret
    exact ⟨rfl, fin.out true rfl⟩
  | false =>
    rw [hd] at c4 fin
    replace hd := Lib.hid hd
    go_enter Tryz.func40, Tryz.ntmps40
    go_wp2_with fail
    go_ret
    exact ⟨rfl, fin.out (x == 2) rfl⟩
set_option maxRecDepth 100000 in
set_option maxHeartbeats 2000000 in
theorem vblocks_any (h : VC F G H w a b c v d) (hf : Fit d) : Calls Tryz.prog 65 #[.pointer (some ⟨a, 0, none⟩)] w fun e w' => e = .returned (.int .i64 (blocksD d : Int)) ∧ w' = w := by
  have ks := sectors_any h.dk
  obtain ⟨c0, _⟩ := h.cells
  have hfew := hf.few
  have e1 : (blocksD d : Int) = (d.stays.length : Int) / 4 := by unfold blocksD; omega
  rw [e1]
  generalize d.stays.length = N at ks hfew ⊢
  replace ks := Lib.hid ks
  clear e1 h
  go_enter Tryz.func65, Tryz.ntmps65
  go_wp2_with fail
  refine (ks.out).mono ?_
  rintro en w' ⟨rfl, hw'⟩
  replace hw' := hw'.symm
  subst hw'
  go_wp2_with fail
  go_ret
  exact ⟨rfl, rfl⟩
end
end Go.Proofs.YtajlfmnjibgbaaaGreatDoor.Vl
/- The volume's keeps, may, Commit, made, Format. -/
namespace Go.Proofs.YtajlfmnjibgbaaaGreatDoor.Vl
open Go Go.RowKit Go.Maps Mem Disk Nv
section
variable {F G H K : Nat → Prop} {w w' : World} {a b c m : Nat} {v v' : Vo} {d d' : Dk}
set_option maxRecDepth 100000 in
theorem _root_.Go.Proofs.YtajlfmnjibgbaaaGreatDoor.Disk.NumTo.num_ (h : NumTo m d) (hm : m ≤ 4611686018427387904) : Num d := ⟨Nat.le_trans h.steps hm, h.armed, Nat.le_trans h.marks hm⟩
set_option maxRecDepth 100000 in
/-- the world goes on: what was, and what is new -/
theorem into {F F' F'' : Nat → Prop} {w w' : World} (h1 : ∀ i, F' i → F i ∨ w.heap.size ≤ i) (hs : w.heap.size ≤ w'.heap.size) (h2 : ∀ i, F'' i → F' i ∨ w'.heap.size ≤ i) : ∀ i, F'' i → F i ∨ w.heap.size ≤ i :=
  fun i hi => (h2 i hi).elim (h1 i) (fun h => Or.inr (Nat.le_trans hs h))
set_option maxRecDepth 100000 in
theorem VPost.more {F F' : Nat → Prop} {w w1 : World} {r : Vo × Dk × Int} {e : Ending} (k : Keeps F w w1) (hF : ∀ i, F' i → F i ∨ w.heap.size ≤ i) (h : VPost F' w1 a b r e w') : VPost F w a b r e w' := by
  obtain ⟨rfl, F2, h1, h2, h3⟩ := h
  exact ⟨rfl, F2, h1, k.trans h2 hF, into hF k.size h3⟩
set_option maxRecDepth 100000 in
/-- the disk's step, and what the volume is told of it -/
theorem VC.step (h : VC F G H w a b c v d) {w1 w2 : World} {G1 : Nat → Prop} {x : Int} (kk : Keeps G w w1) (hG : ∀ i, G1 i → G i ∨ w.heap.size ≤ i)
    (h2 : VC (fun i => F i ∨ G1 i) G1 H w2 a b c (tellV v x) d') (k2 : Keeps (fun i => F i ∨ G1 i) w1 w2) : VC (fun i => F i ∨ G1 i) G1 H w2 a b c (tellV v x) d' ∧ Keeps F w w2 ∧ ∀ i, (F i ∨ G1 i) → F i ∨ w.heap.size ≤ i := by
  have hF : ∀ i, (F i ∨ G1 i) → F i ∨ w.heap.size ≤ i := fun i hi => hi.elim Or.inl (fun hg => (hG i hg).imp (h.fg i) id)
  exact ⟨h2, (kk.mono h.fg).trans k2 hF, hF⟩
set_option maxRecDepth 100000 in
set_option maxHeartbeats 8000000 in
theorem keeps_any (h : VC F G H w a b c v d) (hf : Fit d) (hn : NumTo m d) (hm : m ≤ 1000000) (text : ByteArray) (ht : text.size ≤ 40) (n : Nat) :
    Calls Tryz.prog 58 #[.pointer (some ⟨a, 0, none⟩), .agg #[.string text, .int .i64 (n : Int)]] w (VPost F w a b (keepsV v d text n)) := by
  have ksec := fun W => rootsec_any text n ht W
  have tm1 : (n : Int).tmod 2 = ((n % 2 : Nat) : Int) := rfl
  have tm2 : (n : Int) % 2 = ((n % 2 : Nat) : Int) := by omega
  obtain ⟨T, hT⟩ : ∃ T, T = rootB text n := ⟨_, rfl⟩
  obtain ⟨R, hR⟩ : ∃ R, R = writeD d ((n % 2 : Nat) : Int) T := ⟨_, rfl⟩
  have hk : keepsV v d text n = keepsW v text n R := by rw [hR, hT]; rfl
  rw [← hT] at ksec
  have hw := fun W G' (hd : IsDk G' W b d) => write_any hd (hn.num_ (by omega)) hf ((n % 2 : Nat) : Int) T
  rw [← hR] at hw
  have hfR : Fit R.1 := by rw [hR]; exact hf.write _ T
  have hnR : NumTo (m + 1) R.1 := by rw [hR]; exact hn.write _ T
  rw [hk]
  obtain ⟨Z, hZ⟩ : ∃ Z, Z = keepsW v text n R := ⟨_, rfl⟩
  rw [← hZ]
  obtain ⟨W0, hW0⟩ : ∃ W0, W0 = w.alloc (.cells #[.string text, .int .i64 (n : Int)] 92) := ⟨_, rfl⟩
  have B0 : Blk W0 w.heap.size 92 #[.string text, .int .i64 (n : Int)] := by rw [hW0]; exact Blk.new w _ _
  have b0 : Below w.heap.size w W0 := by rw [hW0]; exact (Below.refl _ w).alloc (Nat.le_refl _) _
  have hlt := h.lt
  have hnF : ∀ i, F i → i ≠ w.heap.size := fun i hi e => by have := hlt i hi; omega
  have h0 := h.below b0
  have hblt := B0.lt
  generalize n % 2 = p at hw tm1 tm2
  replace hT := Lib.hid hT
  replace hR := Lib.hid hR
  replace hk := Lib.hid hk
  replace hZ := Lib.hid hZ
  replace hw := Lib.hid hw
  replace ksec := Lib.hid ksec
  replace hnF := Lib.hid hnF
  replace hfR := Lib.hid hfR
  replace hnR := Lib.hid hnR
  replace hlt := Lib.hid hlt
  replace h := Lib.hid h
  by_cases hz : R.2 = 0
  · have e1 : Z = keepsS v text n (syncD R.1) := hZ.out.trans (if_neg (fun hh => hh hz))
    rw [hz] at hw
    obtain ⟨S, hS⟩ : ∃ S, S = syncD R.1 := ⟨_, rfl⟩
    rw [← hS] at e1
    have ks := fun W G' (hd : IsDk G' W b R.1) => sync_any hd (hnR.out.num_ (by omega)) hfR.out
    rw [← hS] at ks
    replace hS := Lib.hid hS
    replace ks := Lib.hid ks
    by_cases hz2 : S.2 = 0
    · have e2 : Z = (⟨text, n, v.L, v.dead⟩, S) := e1.trans (if_neg (fun hh => hh hz2))
      rw [hz2] at ks
      replace e2 := Lib.hid e2
      replace hz := Lib.hid hz
      replace hz2 := Lib.hid hz2
      clear e1
      go_enter Tryz.func58, Tryz.ntmps58
      go_upto_region 1 with fail
      rw [← hW0]
      generalize hB : w.heap.size = B at B0 hblt hnF ⊢
      replace hB := Lib.hid hB
      clear hW0
      have h0d := h0.below ((Below.refl _ W0).drew)
      have B0d : Blk W0.drew B 92 #[.string text, .int .i64 (n : Int)] := B0
      have b0d := b0.drew
      have hblt' : B < W0.drew.heap.size := hblt
      have s0 : W0.drew.cell? ⟨a, 0, none⟩ = some (.pointer (some ⟨b, 0, none⟩)) ∧ W0.drew.cell? ⟨B, 0, none⟩ = some (.string text) ∧ W0.drew.cell? ⟨B, 1, none⟩ = some (.int .i64 (n : Int)) := ⟨h0d.cells.1, B0d.cell 0, B0d.cell 1⟩
      replace h0d := Lib.hid h0d
      replace B0d := Lib.hid B0d
      replace b0d := Lib.hid b0d
      clear h0 B0 b0 hblt
      go_region_held3 (fun w' => w'.cell? ⟨a, 0, none⟩ = some (.pointer (some ⟨b, 0, none⟩)) ∧ w'.cell? ⟨B, 0, none⟩ = some (.string text) ∧ w'.cell? ⟨B, 1, none⟩ = some (.int .i64 (n : Int)))
        (first
          | exact s0
          | exact s3
          | exact s4
          | exact s5
          | go_keep)
        (first
          | (go_at_call 94; refine (ksec.out _).mono ?_; rintro e w3 ⟨rfl, b3⟩; have h3 := Lib.hid (h0d.out.below b3); have B3 := Lib.hid (B0d.out.below b3 hblt'); have bb3 := Lib.hid (b0d.out.trans (b3.mono b0d.out.size)); have s3 := And.intro h3.out.cells.1 (And.intro (B3.out.cell 0) (B3.out.cell 1)))
          | (go_at_call 41; refine (hw.out _ _ h3.out.dk).mono ?_; rintro e w4 ⟨rfl, G4, hd4, kk4, hG4⟩; have h4 := Lib.hid (h3.out.disk hd4 kk4 hG4); have B4 := Lib.hid (B3.out.keeps kk4 (fun hg => hnF.out _ (h.out.fg _ hg) rfl)); have s4 := And.intro h4.out.cells.1 (And.intro (B4.out.cell 0) (B4.out.cell 1)); have nG4 : ¬ G4 B := fun hg => (hG4 B hg).elim (fun q => hnF.out _ (h.out.fg _ q) rfl) (fun q => by have := B3.out.lt; omega); have f4 := Lib.hid (show Keeps F w3 w4 from kk4.mono h3.out.fg); have g4 := Lib.hid hG4)
          | (go_at_call 40; refine (vtold_any h4.out _).mono ?_; rintro e w5 ⟨rfl, h5, k5⟩; have B5 := Lib.hid (B4.out.keeps k5 (fun hg => hg.elim (fun q => hnF.out _ q rfl) nG4)); have s5 := And.intro h5.cells.1 (And.intro (B5.out.cell 0) (B5.out.cell 1))))
      have hFz : ∀ i, (F i ∨ G4 i) → F i ∨ w.heap.size ≤ i := fun i hi => hi.elim Or.inl (fun hg => (g4.out i hg).elim (fun q => Or.inl (h.out.fg i q)) (fun q => Or.inr (Nat.le_trans bb3.out.size q)))
      have kk := ((Keeps.of_below F bb3.out).same f4.out).trans k5 hFz
      clear s0 s3 s4 s5 h3 h4 B3 B4 f4 g4 k5
      replace hFz := Lib.hid hFz
      replace kk := Lib.hid kk
      rw [tellV_zero] at h5
      replace h5 := Lib.hid h5
      have c0 := h5.out.cells.1
      go_wp2_with fail
      refine (ks.out _ _ h5.out.dk).mono ?_
      rintro en w6 ⟨rfl, hd6, k6⟩
      have h6 := Lib.hid (h5.out.disk hd6 k6 (fun i hi => Or.inl hi))
      have B6 := Lib.hid (B5.out.keeps k6 nG4)
      have kk6 := Lib.hid (kk.out.trans (k6.mono h5.out.fg) hFz.out)
      have hF6 := Lib.hid (show ∀ i, ((F i ∨ G4 i) ∨ G4 i) → F i ∨ w.heap.size ≤ i from fun i hi => hi.elim (hFz.out i) (fun q => hFz.out i (Or.inr q)))
      clear k6 hd6 h5 kk c0
      go_wp2_with fail
      refine (vtold_any h6.out 0).mono ?_
      rintro en w7 ⟨rfl, h7, k7⟩
      rw [tellV_zero] at h7
      have B7 := B6.out.keeps k7 (fun hg => hg.elim (fun hg => hg.elim (fun q => hnF.out _ q rfl) nG4) nG4)
      have kk7 := kk6.out.trans k7 hF6.out
      have y0 := B7.cell 0
      have y1 := B7.cell 1
      obtain ⟨_, x1, x2, _⟩ := h7.cells
      have f1 := h7.blk.free 1
      have f2 := h7.blk.free 2
      have fin := h7.reput (v' := ⟨text, n, v.L, v.dead⟩) (((Keeps.refl (fun j => j = a) w7).put (g := a) (Or.inl rfl) 1 (.string text)).put (g := a) (Or.inl rfl) 2 (.int .i64 (n : Int))) ((h7.blk.put 1 (.string text)).put 2 (.int .i64 (n : Int))) rfl
      have hB1 : a ≠ B := fun e => hnF.out a h.out.fa (by rw [e])
      have hB2 : B ≠ a := fun e => hB1 e.symm
      have f9 := Lib.hid fin.1.pv
      have k9 := Lib.hid (kk7.trans fin.2 hF6.out)
      clear fin kk7 k7 h6 h7 B6 B7 kk6
      go_wp2_with fail
      go_ret
      exact ⟨by rw [e2.out, hz2.out]; rfl, _, by rw [e2.out]; exact f9.out, k9.out, hF6.out⟩
    · have e2 : Z = (tellV v S.2, S) := e1.trans (if_pos hz2)
      have hz2' : (S.2 != 0) = true := bne_iff_ne.2 hz2
      replace e2 := Lib.hid e2
      replace hz := Lib.hid hz
      clear e1 hz2
      go_enter Tryz.func58, Tryz.ntmps58
      go_upto_region 1 with fail
      rw [← hW0]
      generalize hB : w.heap.size = B at B0 hblt hnF ⊢
      replace hB := Lib.hid hB
      clear hW0
      have h0d := h0.below ((Below.refl _ W0).drew)
      have B0d : Blk W0.drew B 92 #[.string text, .int .i64 (n : Int)] := B0
      have b0d := b0.drew
      have hblt' : B < W0.drew.heap.size := hblt
      have s0 : W0.drew.cell? ⟨a, 0, none⟩ = some (.pointer (some ⟨b, 0, none⟩)) ∧ W0.drew.cell? ⟨B, 0, none⟩ = some (.string text) ∧ W0.drew.cell? ⟨B, 1, none⟩ = some (.int .i64 (n : Int)) := ⟨h0d.cells.1, B0d.cell 0, B0d.cell 1⟩
      replace h0d := Lib.hid h0d
      replace B0d := Lib.hid B0d
      replace b0d := Lib.hid b0d
      clear h0 B0 b0 hblt
      go_region_held3 (fun w' => w'.cell? ⟨a, 0, none⟩ = some (.pointer (some ⟨b, 0, none⟩)) ∧ w'.cell? ⟨B, 0, none⟩ = some (.string text) ∧ w'.cell? ⟨B, 1, none⟩ = some (.int .i64 (n : Int)))
        (first
          | exact s0
          | exact s3
          | exact s4
          | exact s5
          | go_keep)
        (first
          | (go_at_call 94; refine (ksec.out _).mono ?_; rintro e w3 ⟨rfl, b3⟩; have h3 := Lib.hid (h0d.out.below b3); have B3 := Lib.hid (B0d.out.below b3 hblt'); have bb3 := Lib.hid (b0d.out.trans (b3.mono b0d.out.size)); have s3 := And.intro h3.out.cells.1 (And.intro (B3.out.cell 0) (B3.out.cell 1)))
          | (go_at_call 41; refine (hw.out _ _ h3.out.dk).mono ?_; rintro e w4 ⟨rfl, G4, hd4, kk4, hG4⟩; have h4 := Lib.hid (h3.out.disk hd4 kk4 hG4); have B4 := Lib.hid (B3.out.keeps kk4 (fun hg => hnF.out _ (h.out.fg _ hg) rfl)); have s4 := And.intro h4.out.cells.1 (And.intro (B4.out.cell 0) (B4.out.cell 1)); have nG4 : ¬ G4 B := fun hg => (hG4 B hg).elim (fun q => hnF.out _ (h.out.fg _ q) rfl) (fun q => by have := B3.out.lt; omega); have f4 := Lib.hid (show Keeps F w3 w4 from kk4.mono h3.out.fg); have g4 := Lib.hid hG4)
          | (go_at_call 40; refine (vtold_any h4.out _).mono ?_; rintro e w5 ⟨rfl, h5, k5⟩; have B5 := Lib.hid (B4.out.keeps k5 (fun hg => hg.elim (fun q => hnF.out _ q rfl) nG4)); have s5 := And.intro h5.cells.1 (And.intro (B5.out.cell 0) (B5.out.cell 1))))
      have hFz : ∀ i, (F i ∨ G4 i) → F i ∨ w.heap.size ≤ i := fun i hi => hi.elim Or.inl (fun hg => (g4.out i hg).elim (fun q => Or.inl (h.out.fg i q)) (fun q => Or.inr (Nat.le_trans bb3.out.size q)))
      have kk := ((Keeps.of_below F bb3.out).same f4.out).trans k5 hFz
      clear s0 s3 s4 s5 h3 h4 B3 B4 f4 g4 k5
      replace hFz := Lib.hid hFz
      replace kk := Lib.hid kk
      rw [tellV_zero] at h5
      replace h5 := Lib.hid h5
      have c0 := h5.out.cells.1
      go_wp2_with fail
      refine (ks.out _ _ h5.out.dk).mono ?_
      rintro en w6 ⟨rfl, hd6, k6⟩
      have h6 := Lib.hid (h5.out.disk hd6 k6 (fun i hi => Or.inl hi))
      have kk6 := Lib.hid (kk.out.trans (k6.mono h5.out.fg) hFz.out)
      have hF6 := Lib.hid (show ∀ i, ((F i ∨ G4 i) ∨ G4 i) → F i ∨ w.heap.size ≤ i from fun i hi => hi.elim (hFz.out i) (fun q => hFz.out i (Or.inr q)))
      clear k6 hd6 h5 kk c0
      go_wp2_with fail
      refine (vtold_any h6.out _).mono ?_
      rintro en w7 ⟨rfl, h7, k7⟩
      have kk7 := Lib.hid (kk6.out.trans k7 hF6.out)
      replace h7 := Lib.hid h7.pv
      clear k7 h6 kk6
      go_wp2_with fail
      go_ret
      exact ⟨by rw [e2.out]; rfl, _, by rw [e2.out]; exact h7.out, kk7.out, hF6.out⟩
  · have e1 : Z = (tellV v R.2, R) := hZ.out.trans (if_pos hz)
    have hz' : (R.2 != 0) = true := bne_iff_ne.2 hz
    replace e1 := Lib.hid e1
    clear hz
    go_enter Tryz.func58, Tryz.ntmps58
    go_upto_region 1 with fail
    rw [← hW0]
    generalize hB : w.heap.size = B at B0 hblt hnF ⊢
    replace hB := Lib.hid hB
    clear hW0
    have h0d := h0.below ((Below.refl _ W0).drew)
    have B0d : Blk W0.drew B 92 #[.string text, .int .i64 (n : Int)] := B0
    have b0d := b0.drew
    have hblt' : B < W0.drew.heap.size := hblt
    have s0 : W0.drew.cell? ⟨a, 0, none⟩ = some (.pointer (some ⟨b, 0, none⟩)) ∧ W0.drew.cell? ⟨B, 0, none⟩ = some (.string text) ∧ W0.drew.cell? ⟨B, 1, none⟩ = some (.int .i64 (n : Int)) := ⟨h0d.cells.1, B0d.cell 0, B0d.cell 1⟩
    replace h0d := Lib.hid h0d
    replace B0d := Lib.hid B0d
    replace b0d := Lib.hid b0d
    clear h0 B0 b0 hblt
    go_region_held3 (fun w' => w'.cell? ⟨a, 0, none⟩ = some (.pointer (some ⟨b, 0, none⟩)) ∧ w'.cell? ⟨B, 0, none⟩ = some (.string text) ∧ w'.cell? ⟨B, 1, none⟩ = some (.int .i64 (n : Int)))
      (first
        | exact s0
        | exact s3
        | exact s4
        | exact s5
        | go_keep)
      (first
        | (go_at_call 94; refine (ksec.out _).mono ?_; rintro e w3 ⟨rfl, b3⟩; have h3 := Lib.hid (h0d.out.below b3); have B3 := Lib.hid (B0d.out.below b3 hblt'); have bb3 := Lib.hid (b0d.out.trans (b3.mono b0d.out.size)); have s3 := And.intro h3.out.cells.1 (And.intro (B3.out.cell 0) (B3.out.cell 1)))
        | (go_at_call 41; refine (hw.out _ _ h3.out.dk).mono ?_; rintro e w4 ⟨rfl, G4, hd4, kk4, hG4⟩; have h4 := Lib.hid (h3.out.disk hd4 kk4 hG4); have B4 := Lib.hid (B3.out.keeps kk4 (fun hg => hnF.out _ (h.out.fg _ hg) rfl)); have s4 := And.intro h4.out.cells.1 (And.intro (B4.out.cell 0) (B4.out.cell 1)); have nG4 : ¬ G4 B := fun hg => (hG4 B hg).elim (fun q => hnF.out _ (h.out.fg _ q) rfl) (fun q => by have := B3.out.lt; omega); have f4 := Lib.hid (show Keeps F w3 w4 from kk4.mono h3.out.fg); have g4 := Lib.hid hG4)
        | (go_at_call 40; refine (vtold_any h4.out _).mono ?_; rintro e w5 ⟨rfl, h5, k5⟩; have B5 := Lib.hid (B4.out.keeps k5 (fun hg => hg.elim (fun q => hnF.out _ q rfl) nG4)); have s5 := And.intro h5.cells.1 (And.intro (B5.out.cell 0) (B5.out.cell 1))))
    have hFz : ∀ i, (F i ∨ G4 i) → F i ∨ w.heap.size ≤ i := fun i hi => hi.elim Or.inl (fun hg => (g4.out i hg).elim (fun q => Or.inl (h.out.fg i q)) (fun q => Or.inr (Nat.le_trans bb3.out.size q)))
    have kk := ((Keeps.of_below F bb3.out).same f4.out).trans k5 hFz
    clear s0 s3 s4 s5 h3 h4 B3 B4 f4 g4 k5
    replace hFz := Lib.hid hFz
    replace kk := Lib.hid kk
    replace h5 := Lib.hid h5.pv
    go_wp2_with fail
    go_ret
    exact ⟨by rw [e1.out]; rfl, _, by rw [e1.out]; exact h5.out, kk.out, hFz.out⟩
end
end Go.Proofs.YtajlfmnjibgbaaaGreatDoor.Vl
/- The volume's may, Commit, made, Format. -/
namespace Go.Proofs.YtajlfmnjibgbaaaGreatDoor.Vl
open Go Go.RowKit Go.Maps Mem Disk Nv
section
variable {F G H K : Nat → Prop} {w w' : World} {a b c m : Nat} {v v' : Vo} {d d' : Dk}
set_option maxRecDepth 100000 in
set_option maxHeartbeats 2000000 in
theorem vmay_any (h : VC F G H w a b c v d) (hf : Fit d) (n : Int) : Calls Tryz.prog 38 #[.pointer (some ⟨a, 0, none⟩), .int .i64 n] w fun e w' => e = .returned (.bool (decide (mayV d n))) ∧ w' = w := by
  have kb := Lib.hid (vblocks_any h hf)
  obtain ⟨N, hN⟩ : ∃ N, N = blocksD d := ⟨_, rfl⟩
  rw [← hN] at kb
  obtain ⟨Y, hY⟩ : ∃ Y, Y = decide (mayV d n) := ⟨_, rfl⟩
  rw [← hY]
  by_cases h1 : 1 ≤ n
  · have q1 : decide (1 ≤ n) = true := decide_eq_true h1
    by_cases h2 : n < (N : Int)
    · have q2 : decide (n < (N : Int)) = true := decide_eq_true h2
      have e : Y = true := by rw [hY]; exact decide_eq_true ⟨h1, by rw [← hN]; exact h2⟩
      replace e := Lib.hid e
      clear hY hN h
      go_enter Tryz.func38, Tryz.ntmps38
      go_wp2_with fail
      refine (kb.out).mono ?_
      rintro en w' ⟨rfl, hw'⟩
      replace hw' := hw'.symm
      subst hw'
      go_wp2_with fail
      go_ret
      exact ⟨by rw [e.out]; rfl, rfl⟩
    · have q2 : decide (n < (N : Int)) = false := decide_eq_false h2
      have e : Y = false := by rw [hY]; exact decide_eq_false (fun hh => h2 (by rw [hN]; exact hh.2))
      replace e := Lib.hid e
      clear hY hN h
      go_enter Tryz.func38, Tryz.ntmps38
      go_wp2_with fail
      refine (kb.out).mono ?_
      rintro en w' ⟨rfl, hw'⟩
      replace hw' := hw'.symm
      subst hw'
      go_wp2_with fail
      go_ret
      exact ⟨by rw [e.out]; rfl, rfl⟩
  · have q1 : decide (1 ≤ n) = false := decide_eq_false h1
    have e : Y = false := by rw [hY]; exact decide_eq_false (fun hh => h1 hh.1)
    replace e := Lib.hid e
    clear hY hN h
    go_enter Tryz.func38, Tryz.ntmps38
    go_wp2_with fail
    go_ret
    exact ⟨by rw [e.out]; rfl, rfl⟩
end
end Go.Proofs.YtajlfmnjibgbaaaGreatDoor.Vl
/- The volume's made, Format. -/
namespace Go.Proofs.YtajlfmnjibgbaaaGreatDoor.Vl
open Go Go.RowKit Go.Maps Mem Disk Nv
section
variable {F G H K : Nat → Prop} {w w' : World} {a b c m : Nat} {v v' : Vo} {d d' : Dk}
set_option maxRecDepth 100000 in
set_option maxHeartbeats 4000000 in
theorem made_yes (h : IsDk G w b d) (hf : Fit d) (hg : goodD d) : Calls Tryz.prog 57 #[.pointer (some ⟨b, 0, none⟩)] w fun e w' => ∃ (a c : Nat) (F H : Nat → Prop), e = .returned (.tuple #[.pointer (some ⟨a, 0, none⟩), .int .i64 0]) ∧ w.heap.size ≤ a ∧ VC F G H w' a b c newV d ∧ Below w.heap.size w w' ∧ ∀ i, F i → G i ∨ w.heap.size ≤ i := by
  have ks := sectors_any h
  have kn := Lib.hid (cnew_any w)
  have hfew := hf.few
  have e1 : (d.stays.length : Int) / 4 = (blocksD d : Int) := by unfold blocksD; omega
  have hB : 8 ≤ blocksD d ∧ blocksD d ≤ 4096 := hg
  generalize blocksD d = B at e1 hB
  have q1 : decide ((B : Int) < 8) = false := decide_eq_false (by omega)
  have q2 : decide (4096 < (B : Int)) = false := decide_eq_false (by omega)
  generalize d.stays.length = N at ks e1
  replace ks := Lib.hid ks
  replace h := Lib.hid h
  have bd : ∀ W c, (Instr.build 95 #[(0, .pointer (some ⟨b, 0, none⟩)), (2, .pointer (some ⟨c, 0, none⟩))]).run Tryz.prog W = .ok (.agg #[.pointer (some ⟨b, 0, none⟩), .string ⟨#[]⟩, .int .i64 0, .pointer (some ⟨c, 0, none⟩), .bool false]) W := fun W c => run_build W _ _ _ (by kernel_rfl)
  clear hf hg hfew
  go_enter Tryz.func57, Tryz.ntmps57
  go_wp2_with fail
  refine (ks.out).mono ?_
  rintro en w' ⟨rfl, hw'⟩
  replace hw' := hw'.symm
  subst hw'
  go_wp2_with fail
  refine kn.out.mono ?_
  rintro e w1 ⟨c, H, rfl, hc, hH, hb⟩
  have hd1 := h.out.below hb
  have B2 := Blk.new w1 95 #[.pointer (some ⟨b, 0, none⟩), .string ⟨#[]⟩, .int .i64 0, .pointer (some ⟨c, 0, none⟩), .bool false]
  have b2 : Below w1.heap.size w1 (w1.alloc (.cells #[.pointer (some ⟨b, 0, none⟩), .string ⟨#[]⟩, .int .i64 0, .pointer (some ⟨c, 0, none⟩), .bool false] 95)) := (Below.refl _ w1).alloc (Nat.le_refl _) _
  have hG := h.out.blt
  have fin : VC (fun i => G i ∨ H i ∨ i = w1.heap.size) G H (w1.alloc (.cells #[.pointer (some ⟨b, 0, none⟩), .string ⟨#[]⟩, .int .i64 0, .pointer (some ⟨c, 0, none⟩), .bool false] 95)) w1.heap.size b c newV d := by
    refine ⟨hd1.below b2, B2, hc.below b2, Or.inr (Or.inr rfl), fun i hi => Or.inl hi, fun i hi => Or.inr (Or.inl hi), fun hi => ?_, fun hi => ?_, fun i hi hh => ?_, fun i hi => ?_⟩
    · have := hG _ hi
      have := hb.size
      omega
    · have := hc.lt _ hi
      omega
    · have := hG _ hi
      have := hH _ hh
      omega
    · refine Nat.lt_of_lt_of_le ?_ (Nat.le_refl _)
      rcases hi with hi | hi | hi
      · exact Nat.lt_of_lt_of_le (hG i hi) (Nat.le_trans hb.size b2.size)
      · exact Nat.lt_of_lt_of_le (hc.lt i hi) b2.size
      · rw [hi]; exact B2.lt
  have hF : ∀ i, (G i ∨ H i ∨ i = w1.heap.size) → G i ∨ w.heap.size ≤ i := fun i hi => by
    rcases hi with hi | hi | hi
    · exact Or.inl hi
    · exact Or.inr (hH i hi)
    · rw [hi]; exact Or.inr hb.size
  have bb := Lib.hid (hb.trans (b2.mono hb.size))
  have hle := Lib.hid hb.size
  replace fin := Lib.hid fin
  replace hF := Lib.hid hF
  clear hd1 B2 b2 hG hc hH hb
  go_wp2_with fail
  go_ret2
  exact ⟨_, c, _, H, rfl, hle.out, fin.out, bb.out, hF.out⟩
set_option maxRecDepth 100000 in
set_option maxHeartbeats 4000000 in
/-- Format of a disk that takes all: the volume -/
theorem format_yes (h : IsDk G w b d) (hf : Fit d) (hn : NumTo m d) (hm : m ≤ 900000) (text : ByteArray) (hg : goodD d) (ht : text.size ≤ 40) (h0 : (writeD d 0 (noughts 64)).2 = 0) (h1 : (formatV d text).2.2 = 0) :
    Calls Tryz.prog 27 #[.pointer (some ⟨b, 0, none⟩), .string text] w fun e w' => ∃ (a : Nat) (F : Nat → Prop), e = .returned (.tuple #[.pointer (some ⟨a, 0, none⟩), .int .i64 0]) ∧ PV F w' a b (formatV d text).1 (formatV d text).2.1 ∧ Keeps G w w' ∧ ∀ i, F i → G i ∨ w.heap.size ≤ i := by
  have km := Lib.hid (made_yes h hf hg)
  have hG := Lib.hid h.blt
  have kz := Lib.hid (fun W => noughts_any 64 (by decide) W)
  have hw := fun W G' (hd : IsDk G' W b d) => write_any hd (hn.num_ (by omega)) hf 0 (noughts 64)
  have q1 : decide (40 < (text.size : Int)) = false := decide_eq_false (by omega)
  have hfR := hf.write 0 (noughts 64)
  have hnR := hn.write 0 (noughts 64)
  have e1 : formatV d text = keepsV newV (writeD d 0 (noughts 64)).1 text 1 := by unfold formatV; rw [if_neg (fun hh => hh hg), if_neg (by omega)]; exact if_neg (fun hh => hh h0)
  rw [h0] at hw
  generalize noughts 64 = Z64 at kz hw hfR hnR e1
  generalize (writeD d 0 Z64).1 = d1 at hw hfR hnR e1
  obtain ⟨Z, hZ⟩ : ∃ Z, Z = formatV d text := ⟨_, rfl⟩
  rw [← hZ] at h1 e1 ⊢
  have bd : ∀ W, (Instr.build 92 #[(0, .string text), (1, .int .i64 1)]).run Tryz.prog W = .ok (.agg #[.string text, .int .i64 1]) W := fun W => run_build W _ _ _ (by kernel_rfl)
  replace hw := Lib.hid hw
  replace hfR := Lib.hid hfR
  replace hnR := Lib.hid hnR
  replace e1 := Lib.hid e1
  replace h1 := Lib.hid h1
  clear hZ h hf hn hg h0
  go_enter Tryz.func27, Tryz.ntmps27
  go_wp2_with fail
  refine km.out.mono ?_
  rintro e w1 ⟨a, c, F, H, rfl, _, hv, hb, hF⟩
  have kk1 := Lib.hid (Keeps.of_below G hb)
  replace hv := Lib.hid hv
  replace hF := Lib.hid hF
  clear hb
  go_wp2_with fail
  refine (kz.out _).mono ?_
  rintro e w2 ⟨rfl, b2⟩
  have hv2 := Lib.hid (hv.out.below b2)
  have kk2 := Lib.hid (kk1.out.same (Keeps.of_below G (b2.mono (Nat.le_refl _) |> fun h => (show Below w1.heap.size w1 w2 from h))))
  clear b2 hv
  go_wp2_with fail
  refine (hw.out _ _ hv2.out.dk).mono ?_
  rintro e w3 ⟨rfl, G3, hd3, k3, hG3⟩
  have hv3 := Lib.hid (hv2.out.disk hd3 k3 hG3)
  have kk3 := Lib.hid (kk2.out.same k3)
  have s2 := kk2.out.size
  have hF3 := Lib.hid (show ∀ i, (F i ∨ G3 i) → G i ∨ w.heap.size ≤ i from fun i hi => hi.elim (hF.out i) (fun hg => (hG3 i hg).imp id (fun q => Nat.le_trans s2 q)))
  have kp := Lib.hid (keeps_any hv3.out hfR.out hnR.out (by omega) text ht 1)
  clear hd3 k3 hG3 hv2
  go_wp2_with fail
  refine kp.out.mono ?_
  intro en w4 hp
  rw [← e1.out] at hp
  obtain ⟨rfl, F4, h4, k4, q4⟩ := hp
  have kk4 := Lib.hid (kk3.out.trans k4 hF3.out)
  have hF4 := Lib.hid (into hF3.out kk3.out.size q4)
  replace h4 := Lib.hid h4
  clear k4 q4 kk3
  rw [h1.out]
  go_wp2_with fail
  go_ret2
  exact ⟨a, F4, rfl, h4.out, kk4.out, hF4.out⟩
end
end Go.Proofs.YtajlfmnjibgbaaaGreatDoor.Vl

/- The volume's keeps, may, Commit, made, Format. -/
import Derived.Test.YtkghlbpkdkonbaaGreatBlkWalkC
import Derived.Test.YtkghlbpkdkonbaaGreatBlkVol
import Derived.Deep.RegionHeld3
namespace Go.Proofs.YtkghlbpkdkonbaaGreat.Vl
open Go Go.RowKit Go.Maps Mem Disk Nv
section
variable {F G H K : Nat → Prop} {w w' : World} {a b c m : Nat} {v v' : Vo} {d d' : Dk}
set_option maxRecDepth 100000 in
theorem _root_.Go.Proofs.YtkghlbpkdkonbaaGreat.Disk.NumTo.num_ (h : NumTo m d) (hm : m ≤ 4611686018427387904) : Num d := ⟨Nat.le_trans h.steps hm, h.armed, Nat.le_trans h.marks hm⟩
set_option maxRecDepth 100000 in
/-- the world goes on: what was, and what is new -/
theorem into {F F' F'' : Nat → Prop} {w w' : World} (h1 : ∀ i, F' i → F i ∨ w.heap.size ≤ i) (hs : w.heap.size ≤ w'.heap.size) (h2 : ∀ i, F'' i → F' i ∨ w'.heap.size ≤ i) : ∀ i, F'' i → F i ∨ w.heap.size ≤ i :=
  fun i hi => (h2 i hi).elim (h1 i) (fun h => Or.inr (Nat.le_trans hs h))
set_option maxRecDepth 100000 in
theorem VPost.more {F F' : Nat → Prop} {w w1 : World} {r : Vo × Dk × Int} {e : Ending} (k : Keeps F w w1) (hF : ∀ i, F' i → F i ∨ w.heap.size ≤ i) (h : VPost F' w1 a b r e w') : VPost F w a b r e w' := by
  obtain ⟨rfl, F2, h1, h2, h3⟩ := h
  exact ⟨rfl, F2, h1, k.trans h2 hF, into hF k.size h3⟩
set_option maxRecDepth 100000 in
/-- the disk's step, and what the volume is told of it -/
theorem VC.step (h : VC F G H w a b c v d) {w1 w2 : World} {G1 : Nat → Prop} {x : Int} (kk : Keeps G w w1) (hG : ∀ i, G1 i → G i ∨ w.heap.size ≤ i)
    (h2 : VC (fun i => F i ∨ G1 i) G1 H w2 a b c (tellV v x) d') (k2 : Keeps (fun i => F i ∨ G1 i) w1 w2) : VC (fun i => F i ∨ G1 i) G1 H w2 a b c (tellV v x) d' ∧ Keeps F w w2 ∧ ∀ i, (F i ∨ G1 i) → F i ∨ w.heap.size ≤ i := by
  have hF : ∀ i, (F i ∨ G1 i) → F i ∨ w.heap.size ≤ i := fun i hi => hi.elim Or.inl (fun hg => (hG i hg).imp (h.fg i) id)
  exact ⟨h2, (kk.mono h.fg).trans k2 hF, hF⟩
set_option maxRecDepth 100000 in
set_option maxHeartbeats 8000000 in
theorem keeps_any (h : VC F G H w a b c v d) (hf : Fit d) (hn : NumTo m d) (hm : m ≤ 1000000) (text : ByteArray) (ht : text.size ≤ 40) (n : Nat) :
    Calls Tryz.prog 54 #[.pointer (some ⟨a, 0, none⟩), .agg #[.string text, .int .i64 (n : Int)]] w (VPost F w a b (keepsV v d text n)) := by
  have ksec := fun W => rootsec_any text n ht W
  have tm1 : (n : Int).tmod 2 = ((n % 2 : Nat) : Int) := rfl
  have tm2 : (n : Int) % 2 = ((n % 2 : Nat) : Int) := by omega
  obtain ⟨T, hT⟩ : ∃ T, T = rootB text n := ⟨_, rfl⟩
  obtain ⟨R, hR⟩ : ∃ R, R = writeD d ((n % 2 : Nat) : Int) T := ⟨_, rfl⟩
  have hk : keepsV v d text n = keepsW v text n R := by rw [hR, hT]; rfl
  rw [← hT] at ksec
  have hw := fun W G' (hd : IsDk G' W b d) => write_any hd (hn.num_ (by omega)) hf ((n % 2 : Nat) : Int) T
  rw [← hR] at hw
  have hfR : Fit R.1 := by rw [hR]; exact hf.write _ T
  have hnR : NumTo (m + 1) R.1 := by rw [hR]; exact hn.write _ T
  rw [hk]
  obtain ⟨Z, hZ⟩ : ∃ Z, Z = keepsW v text n R := ⟨_, rfl⟩
  rw [← hZ]
  obtain ⟨W0, hW0⟩ : ∃ W0, W0 = w.alloc (.cells #[.string text, .int .i64 (n : Int)] 65) := ⟨_, rfl⟩
  have B0 : Blk W0 w.heap.size 65 #[.string text, .int .i64 (n : Int)] := by rw [hW0]; exact Blk.new w _ _
  have b0 : Below w.heap.size w W0 := by rw [hW0]; exact (Below.refl _ w).alloc (Nat.le_refl _) _
  have hlt := h.lt
  have hnF : ∀ i, F i → i ≠ w.heap.size := fun i hi e => by have := hlt i hi; omega
  have h0 := h.below b0
  have hblt := B0.lt
  generalize n % 2 = p at hw tm1 tm2
  replace hT := Lib.hid hT
  replace hR := Lib.hid hR
  replace hk := Lib.hid hk
  replace hZ := Lib.hid hZ
  replace hw := Lib.hid hw
  replace ksec := Lib.hid ksec
  replace hnF := Lib.hid hnF
  replace hfR := Lib.hid hfR
  replace hnR := Lib.hid hnR
  replace hlt := Lib.hid hlt
  replace h := Lib.hid h
  by_cases hz : R.2 = 0
  · have e1 : Z = keepsS v text n (syncD R.1) := hZ.out.trans (if_neg (fun hh => hh hz))
    rw [hz] at hw
    obtain ⟨S, hS⟩ : ∃ S, S = syncD R.1 := ⟨_, rfl⟩
    rw [← hS] at e1
    have ks := fun W G' (hd : IsDk G' W b R.1) => sync_any hd (hnR.out.num_ (by omega)) hfR.out
    rw [← hS] at ks
    replace hS := Lib.hid hS
    replace ks := Lib.hid ks
    by_cases hz2 : S.2 = 0
    · have e2 : Z = (⟨text, n, v.L, v.dead⟩, S) := e1.trans (if_neg (fun hh => hh hz2))
      rw [hz2] at ks
      replace e2 := Lib.hid e2
      replace hz := Lib.hid hz
      replace hz2 := Lib.hid hz2
      clear e1
      go_enter Tryz.func54, Tryz.ntmps54
      go_upto_region 1 with fail
      rw [← hW0]
      generalize hB : w.heap.size = B at B0 hblt hnF ⊢
      replace hB := Lib.hid hB
      clear hW0
      have h0d := h0.below ((Below.refl _ W0).drew)
      have B0d : Blk W0.drew B 65 #[.string text, .int .i64 (n : Int)] := B0
      have b0d := b0.drew
      have hblt' : B < W0.drew.heap.size := hblt
      have s0 : W0.drew.cell? ⟨a, 0, none⟩ = some (.pointer (some ⟨b, 0, none⟩)) ∧ W0.drew.cell? ⟨B, 0, none⟩ = some (.string text) ∧ W0.drew.cell? ⟨B, 1, none⟩ = some (.int .i64 (n : Int)) := ⟨h0d.cells.1, B0d.cell 0, B0d.cell 1⟩
      replace h0d := Lib.hid h0d
      replace B0d := Lib.hid B0d
      replace b0d := Lib.hid b0d
      clear h0 B0 b0 hblt
      go_region_held3 (fun w' => w'.cell? ⟨a, 0, none⟩ = some (.pointer (some ⟨b, 0, none⟩)) ∧ w'.cell? ⟨B, 0, none⟩ = some (.string text) ∧ w'.cell? ⟨B, 1, none⟩ = some (.int .i64 (n : Int)))
        (first
          | exact s0
          | exact s3
          | exact s4
          | exact s5
          | go_keep)
        (first
          | (go_at_call 88; refine (ksec.out _).mono ?_; rintro e w3 ⟨rfl, b3⟩; have h3 := Lib.hid (h0d.out.below b3); have B3 := Lib.hid (B0d.out.below b3 hblt'); have bb3 := Lib.hid (b0d.out.trans (b3.mono b0d.out.size)); have s3 := And.intro h3.out.cells.1 (And.intro (B3.out.cell 0) (B3.out.cell 1)))
          | (go_at_call 48; refine (hw.out _ _ h3.out.dk).mono ?_; rintro e w4 ⟨rfl, G4, hd4, kk4, hG4⟩; have h4 := Lib.hid (h3.out.disk hd4 kk4 hG4); have B4 := Lib.hid (B3.out.keeps kk4 (fun hg => hnF.out _ (h.out.fg _ hg) rfl)); have s4 := And.intro h4.out.cells.1 (And.intro (B4.out.cell 0) (B4.out.cell 1)); have nG4 : ¬ G4 B := fun hg => (hG4 B hg).elim (fun q => hnF.out _ (h.out.fg _ q) rfl) (fun q => by have := B3.out.lt; omega); have f4 := Lib.hid (show Keeps F w3 w4 from kk4.mono h3.out.fg); have g4 := Lib.hid hG4)
          | (go_at_call 36; refine (vtold_any h4.out _).mono ?_; rintro e w5 ⟨rfl, h5, k5⟩; have B5 := Lib.hid (B4.out.keeps k5 (fun hg => hg.elim (fun q => hnF.out _ q rfl) nG4)); have s5 := And.intro h5.cells.1 (And.intro (B5.out.cell 0) (B5.out.cell 1))))
      have hFz : ∀ i, (F i ∨ G4 i) → F i ∨ w.heap.size ≤ i := fun i hi => hi.elim Or.inl (fun hg => (g4.out i hg).elim (fun q => Or.inl (h.out.fg i q)) (fun q => Or.inr (Nat.le_trans bb3.out.size q)))
      have kk := ((Keeps.of_below F bb3.out).same f4.out).trans k5 hFz
      clear s0 s3 s4 s5 h3 h4 B3 B4 f4 g4 k5
      replace hFz := Lib.hid hFz
      replace kk := Lib.hid kk
      rw [tellV_zero] at h5
      replace h5 := Lib.hid h5
      have c0 := h5.out.cells.1
      go_wp2_with fail
      refine (ks.out _ _ h5.out.dk).mono ?_
      rintro en w6 ⟨rfl, hd6, k6⟩
      have h6 := Lib.hid (h5.out.disk hd6 k6 (fun i hi => Or.inl hi))
      have B6 := Lib.hid (B5.out.keeps k6 nG4)
      have kk6 := Lib.hid (kk.out.trans (k6.mono h5.out.fg) hFz.out)
      have hF6 := Lib.hid (show ∀ i, ((F i ∨ G4 i) ∨ G4 i) → F i ∨ w.heap.size ≤ i from fun i hi => hi.elim (hFz.out i) (fun q => hFz.out i (Or.inr q)))
      clear k6 hd6 h5 kk c0
      go_wp2_with fail
      refine (vtold_any h6.out 0).mono ?_
      rintro en w7 ⟨rfl, h7, k7⟩
      rw [tellV_zero] at h7
      have B7 := B6.out.keeps k7 (fun hg => hg.elim (fun hg => hg.elim (fun q => hnF.out _ q rfl) nG4) nG4)
      have kk7 := kk6.out.trans k7 hF6.out
      have y0 := B7.cell 0
      have y1 := B7.cell 1
      obtain ⟨_, x1, x2, _⟩ := h7.cells
      have f1 := h7.blk.free 1
      have f2 := h7.blk.free 2
      have fin := h7.reput (v' := ⟨text, n, v.L, v.dead⟩) (((Keeps.refl (fun j => j = a) w7).put (g := a) (Or.inl rfl) 1 (.string text)).put (g := a) (Or.inl rfl) 2 (.int .i64 (n : Int))) ((h7.blk.put 1 (.string text)).put 2 (.int .i64 (n : Int))) rfl
      have hB1 : a ≠ B := fun e => hnF.out a h.out.fa (by rw [e])
      have hB2 : B ≠ a := fun e => hB1 e.symm
      have f9 := Lib.hid fin.1.pv
      have k9 := Lib.hid (kk7.trans fin.2 hF6.out)
      clear fin kk7 k7 h6 h7 B6 B7 kk6
      go_wp2_with fail
      go_ret
      exact ⟨by rw [e2.out, hz2.out]; rfl, _, by rw [e2.out]; exact f9.out, k9.out, hF6.out⟩
    · have e2 : Z = (tellV v S.2, S) := e1.trans (if_pos hz2)
      have hz2' : (S.2 != 0) = true := bne_iff_ne.2 hz2
      replace e2 := Lib.hid e2
      replace hz := Lib.hid hz
      clear e1 hz2
      go_enter Tryz.func54, Tryz.ntmps54
      go_upto_region 1 with fail
      rw [← hW0]
      generalize hB : w.heap.size = B at B0 hblt hnF ⊢
      replace hB := Lib.hid hB
      clear hW0
      have h0d := h0.below ((Below.refl _ W0).drew)
      have B0d : Blk W0.drew B 65 #[.string text, .int .i64 (n : Int)] := B0
      have b0d := b0.drew
      have hblt' : B < W0.drew.heap.size := hblt
      have s0 : W0.drew.cell? ⟨a, 0, none⟩ = some (.pointer (some ⟨b, 0, none⟩)) ∧ W0.drew.cell? ⟨B, 0, none⟩ = some (.string text) ∧ W0.drew.cell? ⟨B, 1, none⟩ = some (.int .i64 (n : Int)) := ⟨h0d.cells.1, B0d.cell 0, B0d.cell 1⟩
      replace h0d := Lib.hid h0d
      replace B0d := Lib.hid B0d
      replace b0d := Lib.hid b0d
      clear h0 B0 b0 hblt
      go_region_held3 (fun w' => w'.cell? ⟨a, 0, none⟩ = some (.pointer (some ⟨b, 0, none⟩)) ∧ w'.cell? ⟨B, 0, none⟩ = some (.string text) ∧ w'.cell? ⟨B, 1, none⟩ = some (.int .i64 (n : Int)))
        (first
          | exact s0
          | exact s3
          | exact s4
          | exact s5
          | go_keep)
        (first
          | (go_at_call 88; refine (ksec.out _).mono ?_; rintro e w3 ⟨rfl, b3⟩; have h3 := Lib.hid (h0d.out.below b3); have B3 := Lib.hid (B0d.out.below b3 hblt'); have bb3 := Lib.hid (b0d.out.trans (b3.mono b0d.out.size)); have s3 := And.intro h3.out.cells.1 (And.intro (B3.out.cell 0) (B3.out.cell 1)))
          | (go_at_call 48; refine (hw.out _ _ h3.out.dk).mono ?_; rintro e w4 ⟨rfl, G4, hd4, kk4, hG4⟩; have h4 := Lib.hid (h3.out.disk hd4 kk4 hG4); have B4 := Lib.hid (B3.out.keeps kk4 (fun hg => hnF.out _ (h.out.fg _ hg) rfl)); have s4 := And.intro h4.out.cells.1 (And.intro (B4.out.cell 0) (B4.out.cell 1)); have nG4 : ¬ G4 B := fun hg => (hG4 B hg).elim (fun q => hnF.out _ (h.out.fg _ q) rfl) (fun q => by have := B3.out.lt; omega); have f4 := Lib.hid (show Keeps F w3 w4 from kk4.mono h3.out.fg); have g4 := Lib.hid hG4)
          | (go_at_call 36; refine (vtold_any h4.out _).mono ?_; rintro e w5 ⟨rfl, h5, k5⟩; have B5 := Lib.hid (B4.out.keeps k5 (fun hg => hg.elim (fun q => hnF.out _ q rfl) nG4)); have s5 := And.intro h5.cells.1 (And.intro (B5.out.cell 0) (B5.out.cell 1))))
      have hFz : ∀ i, (F i ∨ G4 i) → F i ∨ w.heap.size ≤ i := fun i hi => hi.elim Or.inl (fun hg => (g4.out i hg).elim (fun q => Or.inl (h.out.fg i q)) (fun q => Or.inr (Nat.le_trans bb3.out.size q)))
      have kk := ((Keeps.of_below F bb3.out).same f4.out).trans k5 hFz
      clear s0 s3 s4 s5 h3 h4 B3 B4 f4 g4 k5
      replace hFz := Lib.hid hFz
      replace kk := Lib.hid kk
      rw [tellV_zero] at h5
      replace h5 := Lib.hid h5
      have c0 := h5.out.cells.1
      go_wp2_with fail
      refine (ks.out _ _ h5.out.dk).mono ?_
      rintro en w6 ⟨rfl, hd6, k6⟩
      have h6 := Lib.hid (h5.out.disk hd6 k6 (fun i hi => Or.inl hi))
      have kk6 := Lib.hid (kk.out.trans (k6.mono h5.out.fg) hFz.out)
      have hF6 := Lib.hid (show ∀ i, ((F i ∨ G4 i) ∨ G4 i) → F i ∨ w.heap.size ≤ i from fun i hi => hi.elim (hFz.out i) (fun q => hFz.out i (Or.inr q)))
      clear k6 hd6 h5 kk c0
      go_wp2_with fail
      refine (vtold_any h6.out _).mono ?_
      rintro en w7 ⟨rfl, h7, k7⟩
      have kk7 := Lib.hid (kk6.out.trans k7 hF6.out)
      replace h7 := Lib.hid h7.pv
      clear k7 h6 kk6
      go_wp2_with fail
      go_ret
      exact ⟨by rw [e2.out]; rfl, _, by rw [e2.out]; exact h7.out, kk7.out, hF6.out⟩
  · have e1 : Z = (tellV v R.2, R) := hZ.out.trans (if_pos hz)
    have hz' : (R.2 != 0) = true := bne_iff_ne.2 hz
    replace e1 := Lib.hid e1
    clear hz
    go_enter Tryz.func54, Tryz.ntmps54
    go_upto_region 1 with fail
    rw [← hW0]
    generalize hB : w.heap.size = B at B0 hblt hnF ⊢
    replace hB := Lib.hid hB
    clear hW0
    have h0d := h0.below ((Below.refl _ W0).drew)
    have B0d : Blk W0.drew B 65 #[.string text, .int .i64 (n : Int)] := B0
    have b0d := b0.drew
    have hblt' : B < W0.drew.heap.size := hblt
    have s0 : W0.drew.cell? ⟨a, 0, none⟩ = some (.pointer (some ⟨b, 0, none⟩)) ∧ W0.drew.cell? ⟨B, 0, none⟩ = some (.string text) ∧ W0.drew.cell? ⟨B, 1, none⟩ = some (.int .i64 (n : Int)) := ⟨h0d.cells.1, B0d.cell 0, B0d.cell 1⟩
    replace h0d := Lib.hid h0d
    replace B0d := Lib.hid B0d
    replace b0d := Lib.hid b0d
    clear h0 B0 b0 hblt
    go_region_held3 (fun w' => w'.cell? ⟨a, 0, none⟩ = some (.pointer (some ⟨b, 0, none⟩)) ∧ w'.cell? ⟨B, 0, none⟩ = some (.string text) ∧ w'.cell? ⟨B, 1, none⟩ = some (.int .i64 (n : Int)))
      (first
        | exact s0
        | exact s3
        | exact s4
        | exact s5
        | go_keep)
      (first
        | (go_at_call 88; refine (ksec.out _).mono ?_; rintro e w3 ⟨rfl, b3⟩; have h3 := Lib.hid (h0d.out.below b3); have B3 := Lib.hid (B0d.out.below b3 hblt'); have bb3 := Lib.hid (b0d.out.trans (b3.mono b0d.out.size)); have s3 := And.intro h3.out.cells.1 (And.intro (B3.out.cell 0) (B3.out.cell 1)))
        | (go_at_call 48; refine (hw.out _ _ h3.out.dk).mono ?_; rintro e w4 ⟨rfl, G4, hd4, kk4, hG4⟩; have h4 := Lib.hid (h3.out.disk hd4 kk4 hG4); have B4 := Lib.hid (B3.out.keeps kk4 (fun hg => hnF.out _ (h.out.fg _ hg) rfl)); have s4 := And.intro h4.out.cells.1 (And.intro (B4.out.cell 0) (B4.out.cell 1)); have nG4 : ¬ G4 B := fun hg => (hG4 B hg).elim (fun q => hnF.out _ (h.out.fg _ q) rfl) (fun q => by have := B3.out.lt; omega); have f4 := Lib.hid (show Keeps F w3 w4 from kk4.mono h3.out.fg); have g4 := Lib.hid hG4)
        | (go_at_call 36; refine (vtold_any h4.out _).mono ?_; rintro e w5 ⟨rfl, h5, k5⟩; have B5 := Lib.hid (B4.out.keeps k5 (fun hg => hg.elim (fun q => hnF.out _ q rfl) nG4)); have s5 := And.intro h5.cells.1 (And.intro (B5.out.cell 0) (B5.out.cell 1))))
    have hFz : ∀ i, (F i ∨ G4 i) → F i ∨ w.heap.size ≤ i := fun i hi => hi.elim Or.inl (fun hg => (g4.out i hg).elim (fun q => Or.inl (h.out.fg i q)) (fun q => Or.inr (Nat.le_trans bb3.out.size q)))
    have kk := ((Keeps.of_below F bb3.out).same f4.out).trans k5 hFz
    clear s0 s3 s4 s5 h3 h4 B3 B4 f4 g4 k5
    replace hFz := Lib.hid hFz
    replace kk := Lib.hid kk
    replace h5 := Lib.hid h5.pv
    go_wp2_with fail
    go_ret
    exact ⟨by rw [e1.out]; rfl, _, by rw [e1.out]; exact h5.out, kk.out, hFz.out⟩
end
end Go.Proofs.YtkghlbpkdkonbaaGreat.Vl

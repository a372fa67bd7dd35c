/- The document's volume in memory; told, keeps. -/
import Derived.Test.YtajlfmnjibgbaaaGreatDoorBlkRa
import Derived.Test.YtajlfmnjibgbaaaGreatDoorBlkWg
import Derived.Test.YtajlfmnjibgbaaaGreatDoorRdG
namespace Go.Proofs.YtajlfmnjibgbaaaGreatDoor.Vl
open Go Go.RowKit Go.Maps Mem Disk Nv
/-- the five cells -/
def rvoc (b k : Nat) (v : Vo) : Array Value := #[.pointer (some ⟨b, 0, none⟩), .string v.text, .int .i64 (v.num : Int), .pointer (some ⟨k, 0, none⟩), .bool v.dead]
/-- the document's volume at a, over its disk at b, what is kept at k -/
structure RVC (F G : Nat → Prop) (w : World) (a b k : Nat) (lv : Value) (v : Vo) (d : Dk) : Prop where
  dk : IsRk G w b d
  blk : Blk w a 100 (rvoc b k v)
  ck : Blk w k 145 #[.int .i64 32, lv]
  row : w.ownsRow 0 147 2 lv v.L.length (pairs v.L)
  fa : F a
  fk : F k
  fl : ∀ j, lv.ownBlock = some j → F j
  fg : ∀ i, G i → F i
  ga : ¬ G a
  gk : ¬ G k
  gl : ∀ j, lv.ownBlock = some j → ¬ G j
  lt : ∀ i, F i → i < w.heap.size
def RV (F : Nat → Prop) (w : World) (a b : Nat) (v : Vo) (d : Dk) : Prop := ∃ G k lv, RVC F G w a b k lv v d
section
variable {F G K : Nat → Prop} {w w' : World} {a b k m : Nat} {lv : Value} {v v' : Vo} {d d' : Dk}
set_option maxRecDepth 100000 in
theorem RVC.rv (h : RVC F G w a b k lv v d) : RV F w a b v d := ⟨_, _, _, h⟩
set_option maxRecDepth 100000 in
theorem RVC.keeps (h : RVC F G w a b k lv v d) (hk : Keeps K w w') (hn : ∀ i, F i → ¬ K i) : RVC F G w' a b k lv v d :=
  ⟨h.dk.keeps hk (fun i hi => hn i (h.fg i hi)), h.blk.keeps hk (hn a h.fa), h.ck.keeps hk (hn k h.fk), own_keeps h.row hk (fun j e => hn j (h.fl j e)), h.fa, h.fk, h.fl, h.fg, h.ga, h.gk, h.gl, fun i hi => Nat.lt_of_lt_of_le (h.lt i hi) hk.size⟩
set_option maxRecDepth 100000 in
theorem RVC.below (h : RVC F G w a b k lv v d) (hb : Below w.heap.size w w') : RVC F G w' a b k lv v d := h.keeps (Keeps.of_below (fun _ => False) hb) (fun _ _ h => h)
set_option maxRecDepth 100000 in
theorem RV.keeps (h : RV F w a b v d) (hk : Keeps K w w') (hn : ∀ i, F i → ¬ K i) : RV F w' a b v d := by
  obtain ⟨G, k, lv, h⟩ := h
  exact (h.keeps hk hn).rv
set_option maxRecDepth 100000 in
theorem RV.below (h : RV F w a b v d) (hb : Below w.heap.size w w') : RV F w' a b v d := h.keeps (Keeps.of_below (fun _ => False) hb) (fun _ _ h => h)
set_option maxRecDepth 100000 in
theorem RV.lt (h : RV F w a b v d) : ∀ i, F i → i < w.heap.size := by
  obtain ⟨G, k, lv, h⟩ := h
  exact h.lt
set_option maxRecDepth 100000 in
theorem RVC.ak (h : RVC F G w a b k lv v d) : a ≠ k := fun e => by
  have h1 := h.blk
  rw [e] at h1
  have h2 := h1.symm.trans h.ck
  injection h2 with h2
  injection h2 with _ h2
  exact absurd h2 (by decide)
set_option maxRecDepth 100000 in
theorem RVC.cells (h : RVC F G w a b k lv v d) : w.cell? ⟨a, 0, none⟩ = some (.pointer (some ⟨b, 0, none⟩)) ∧ w.cell? ⟨a, 1, none⟩ = some (.string v.text) ∧ w.cell? ⟨a, 2, none⟩ = some (.int .i64 (v.num : Int)) ∧ w.cell? ⟨a, 3, none⟩ = some (.pointer (some ⟨k, 0, none⟩)) ∧ w.cell? ⟨a, 4, none⟩ = some (.bool v.dead) :=
  ⟨h.blk.cell 0, h.blk.cell 1, h.blk.cell 2, h.blk.cell 3, h.blk.cell 4⟩
set_option maxRecDepth 100000 in
theorem RVC.reput (h : RVC F G w a b k lv v d) (kk : Keeps (fun j => j = a) w w') (hB : Blk w' a 100 (rvoc b k v')) (e : v'.L = v.L) : RVC F G w' a b k lv v' d ∧ Keeps F w w' := by
  refine ⟨⟨h.dk.keeps kk (fun i hi e => h.ga (e ▸ hi)), hB, h.ck.keeps kk (fun e => h.ak e.symm), ?_, h.fa, h.fk, h.fl, h.fg, h.ga, h.gk, h.gl, fun i hi => Nat.lt_of_lt_of_le (h.lt i hi) kk.size⟩, kk.mono (fun i e => e ▸ h.fa)⟩
  rw [e]
  exact own_keeps h.row kk (own_ne h.row h.blk (by decide))
set_option maxRecDepth 100000 in
theorem RVC.disk (h : RVC F G w a b k lv v d) {G' : Nat → Prop} (hd : IsRk G' w' b d') (kk : Keeps G w w') (hG : ∀ i, G' i → G i ∨ w.heap.size ≤ i) : RVC (fun i => F i ∨ G' i) G' w' a b k lv v d' := by
  refine ⟨hd, h.blk.keeps kk h.ga, h.ck.keeps kk h.gk, own_keeps h.row kk h.gl, Or.inl h.fa, Or.inl h.fk, fun j e => Or.inl (h.fl j e), fun i hi => Or.inr hi, fun hi => ?_, fun hi => ?_, fun j e hi => ?_, fun i hi => ?_⟩
  · rcases hG a hi with h1 | h1
    · exact h.ga h1
    · have := h.lt a h.fa; omega
  · rcases hG k hi with h1 | h1
    · exact h.gk h1
    · have := h.lt k h.fk; omega
  · rcases hG j hi with h1 | h1
    · exact h.gl j e h1
    · have := h.lt j (h.fl j e); omega
  · rcases hi with hi | hi
    · exact Nat.lt_of_lt_of_le (h.lt i hi) kk.size
    · exact hd.lt i hi
def RPost (F : Nat → Prop) (w : World) (a b : Nat) (r : Vo × Dk × Int) (e : Ending) (w' : World) : Prop :=
  e = .returned (.int .i64 r.2.2) ∧ ∃ F', RV F' w' a b r.1 r.2.1 ∧ Keeps F w w' ∧ ∀ i, F' i → F i ∨ w.heap.size ≤ i
set_option maxRecDepth 100000 in
theorem rpost_same (h : RV F w a b v d) (x : Int) : RPost F w a b (v, d, x) (.returned (.int .i64 x)) w := ⟨rfl, F, h, Keeps.refl _ _, fun _ hi => Or.inl hi⟩
set_option maxRecDepth 100000 in
theorem RPost.more {F F' : Nat → Prop} {w w1 : World} {r : Vo × Dk × Int} {e : Ending} (k : Keeps F w w1) (hF : ∀ i, F' i → F i ∨ w.heap.size ≤ i) (h : RPost F' w1 a b r e w') : RPost F w a b r e w' := by
  obtain ⟨rfl, F2, h1, h2, h3⟩ := h
  exact ⟨rfl, F2, h1, k.trans h2 hF, into hF k.size h3⟩
set_option maxRecDepth 100000 in
set_option maxHeartbeats 2000000 in
theorem rvtold_any (h : RVC F G w a b k lv v d) (x : Int) : Calls Tryz.prog 46 #[.pointer (some ⟨a, 0, none⟩), .int .i64 x] w fun e w' => e = .returned (.int .i64 x) ∧ RVC F G w' a b k lv (tellV v x) d ∧ Keeps F w w' := by
  obtain ⟨_, _, _, _, c4⟩ := h.cells
  have f4 := h.blk.free 4
  have fin := fun y (hy : y = (v.dead || x == 2)) => h.reput (v' := tellV v x) ((Keeps.refl (fun j => j = a) w).put (g := a) (Or.inl rfl) 4 (.bool y)) (by
    have hB := h.blk.put 4 (.bool y)
    have e : (rvoc b k v).setIfInBounds 4 (.bool y) = rvoc b k (tellV v x) := by rw [hy]; rfl
    rw [e] at hB
    exact hB) rfl
  replace fin := Lib.hid fin
  clear h
  cases hd : v.dead with
  | true =>
    rw [hd] at c4 fin
    replace hd := Lib.hid hd
    go_enter Tryz.func46, Tryz.ntmps46
    go_wp2_with fail
    go_ret
    exact ⟨rfl, fin.out true rfl⟩
  | false =>
    rw [hd] at c4 fin
    replace hd := Lib.hid hd
    go_enter Tryz.func46, Tryz.ntmps46
    go_wp2_with fail
    go_ret
    exact ⟨rfl, fin.out (x == 2) rfl⟩
set_option maxRecDepth 100000 in
set_option maxHeartbeats 8000000 in
theorem rvkeeps_any (h : RVC F G w a b k lv v d) (hf : Fit d) (hn : NumTo m d) (hm : m ≤ 1000000) (text : ByteArray) (ht : text.size ≤ 40) (n : Nat) (hn9 : n ≤ 9223372036854775807) :
    Calls Tryz.prog 60 #[.pointer (some ⟨a, 0, none⟩), .string text, .int .i64 (n : Int)] w (RPost F w a b (keepsV v d text n)) := by
  have ksec := fun W => rroot_any text n ht hn9 W
  have tm1 : (n : Int).tmod 2 = ((n % 2 : Nat) : Int) := rfl
  have tm2 : (n : Int) % 2 = ((n % 2 : Nat) : Int) := by omega
  obtain ⟨T, hT⟩ : ∃ T, T = rootB text n := ⟨_, rfl⟩
  obtain ⟨R, hR⟩ : ∃ R, R = writeD d ((n % 2 : Nat) : Int) T := ⟨_, rfl⟩
  have hk : keepsV v d text n = keepsW v text n R := by rw [hR, hT]; rfl
  rw [← hT] at ksec
  have hw := fun W G' (hd : IsRk G' W b d) => rwrite_any hd (hn.num_ (by omega)) hf ((n % 2 : Nat) : Int) T
  rw [← hR] at hw
  have hfR : Fit R.1 := by rw [hR]; exact hf.write _ T
  have hnR : NumTo (m + 1) R.1 := by rw [hR]; exact hn.write _ T
  rw [hk]
  obtain ⟨Z, hZ⟩ : ∃ Z, Z = keepsW v text n R := ⟨_, rfl⟩
  rw [← hZ]
  generalize n % 2 = p at hw tm1 tm2
  have h0d := h.below ((Below.refl _ w).drew)
  have s0 : w.drew.cell? ⟨a, 0, none⟩ = some (.pointer (some ⟨b, 0, none⟩)) := h0d.cells.1
  have b0d : Below w.heap.size w w.drew := (Below.refl _ w).drew
  replace h0d := Lib.hid h0d
  replace b0d := Lib.hid b0d
  replace hT := Lib.hid hT
  replace hR := Lib.hid hR
  replace hk := Lib.hid hk
  replace hZ := Lib.hid hZ
  replace hw := Lib.hid hw
  replace ksec := Lib.hid ksec
  replace hfR := Lib.hid hfR
  replace hnR := Lib.hid hnR
  replace h := Lib.hid h
  by_cases hz : R.2 = 0
  · have e1 : Z = keepsS v text n (syncD R.1) := hZ.out.trans (if_neg (fun hh => hh hz))
    rw [hz] at hw
    obtain ⟨S, hS⟩ : ∃ S, S = syncD R.1 := ⟨_, rfl⟩
    rw [← hS] at e1
    have ks := fun W G' (hd : IsRk G' W b R.1) => rsync_any hd (hnR.out.num_ (by omega)) hfR.out
    rw [← hS] at ks
    replace hS := Lib.hid hS
    replace ks := Lib.hid ks
    by_cases hz2 : S.2 = 0
    · have e2 : Z = (⟨text, n, v.L, v.dead⟩, S) := e1.trans (if_neg (fun hh => hh hz2))
      rw [hz2] at ks
      replace e2 := Lib.hid e2
      replace hz := Lib.hid hz
      replace hz2 := Lib.hid hz2
      clear e1
      go_enter Tryz.func60, Tryz.ntmps60
      go_upto_region 1 with fail
      go_region_held3 (fun w' => w'.cell? ⟨a, 0, none⟩ = some (.pointer (some ⟨b, 0, none⟩)))
        (first
          | exact s0
          | exact s3
          | exact s4
          | exact s5
          | go_keep)
        (first
          | (go_at_call 96; refine (ksec.out _).mono ?_; rintro e w3 ⟨rfl, b3⟩; have h3 := Lib.hid (h0d.out.below b3); have bb3 := Lib.hid (b0d.out.trans (b3.mono b0d.out.size)); have s3 := h3.out.cells.1)
          | (go_at_call 47; refine (hw.out _ _ h3.out.dk).mono ?_; rintro e w4 ⟨rfl, G4, hd4, kk4, hG4⟩; have h4 := Lib.hid (h3.out.disk hd4 kk4 hG4); have s4 := h4.out.cells.1; have f4 := Lib.hid (show Keeps F w3 w4 from kk4.mono h3.out.fg); have g4 := Lib.hid hG4)
          | (go_at_call 46; refine (rvtold_any h4.out _).mono ?_; rintro e w5 ⟨rfl, h5, k5⟩; have s5 := h5.cells.1))
      have hFz : ∀ i, (F i ∨ G4 i) → F i ∨ w.heap.size ≤ i := fun i hi => hi.elim Or.inl (fun hg => (g4.out i hg).elim (fun q => Or.inl (h.out.fg i q)) (fun q => Or.inr (Nat.le_trans bb3.out.size q)))
      have kk := ((Keeps.of_below F bb3.out).same f4.out).trans k5 hFz
      clear s0 s3 s4 s5 h3 h4 f4 g4 k5
      replace hFz := Lib.hid hFz
      replace kk := Lib.hid kk
      rw [tellV_zero] at h5
      replace h5 := Lib.hid h5
      have c0 := h5.out.cells.1
      go_wp2_with fail
      refine (ks.out _ _ h5.out.dk).mono ?_
      rintro en w6 ⟨rfl, hd6, k6⟩
      have h6 := Lib.hid (h5.out.disk hd6 k6 (fun i hi => Or.inl hi))
      have kk6 := Lib.hid (kk.out.trans (k6.mono h5.out.fg) hFz.out)
      have hF6 := Lib.hid (show ∀ i, ((F i ∨ G4 i) ∨ G4 i) → F i ∨ w.heap.size ≤ i from fun i hi => hi.elim (hFz.out i) (fun q => hFz.out i (Or.inr q)))
      clear k6 hd6 h5 kk c0
      go_wp2_with fail
      refine (rvtold_any h6.out 0).mono ?_
      rintro en w7 ⟨rfl, h7, k7⟩
      rw [tellV_zero] at h7
      have kk7 := kk6.out.trans k7 hF6.out
      obtain ⟨_, x1, x2, _⟩ := h7.cells
      have f1 := h7.blk.free 1
      have f2 := h7.blk.free 2
      have fin := h7.reput (v' := ⟨text, n, v.L, v.dead⟩) (((Keeps.refl (fun j => j = a) w7).put (g := a) (Or.inl rfl) 1 (.string text)).put (g := a) (Or.inl rfl) 2 (.int .i64 (n : Int))) ((h7.blk.put 1 (.string text)).put 2 (.int .i64 (n : Int))) rfl
      have f9 := Lib.hid fin.1.rv
      have k9 := Lib.hid (kk7.trans fin.2 hF6.out)
      clear fin kk7 k7 h6 h7 kk6
      go_wp2_with fail
      go_ret
      exact ⟨by rw [e2.out, hz2.out]; rfl, _, by rw [e2.out]; exact f9.out, k9.out, hF6.out⟩
    · have e2 : Z = (tellV v S.2, S) := e1.trans (if_pos hz2)
      have hz2' : (S.2 == 0) = false := beq_eq_false_iff_ne.2 hz2
      replace e2 := Lib.hid e2
      replace hz := Lib.hid hz
      clear e1 hz2
      go_enter Tryz.func60, Tryz.ntmps60
      go_upto_region 1 with fail
      go_region_held3 (fun w' => w'.cell? ⟨a, 0, none⟩ = some (.pointer (some ⟨b, 0, none⟩)))
        (first
          | exact s0
          | exact s3
          | exact s4
          | exact s5
          | go_keep)
        (first
          | (go_at_call 96; refine (ksec.out _).mono ?_; rintro e w3 ⟨rfl, b3⟩; have h3 := Lib.hid (h0d.out.below b3); have bb3 := Lib.hid (b0d.out.trans (b3.mono b0d.out.size)); have s3 := h3.out.cells.1)
          | (go_at_call 47; refine (hw.out _ _ h3.out.dk).mono ?_; rintro e w4 ⟨rfl, G4, hd4, kk4, hG4⟩; have h4 := Lib.hid (h3.out.disk hd4 kk4 hG4); have s4 := h4.out.cells.1; have f4 := Lib.hid (show Keeps F w3 w4 from kk4.mono h3.out.fg); have g4 := Lib.hid hG4)
          | (go_at_call 46; refine (rvtold_any h4.out _).mono ?_; rintro e w5 ⟨rfl, h5, k5⟩; have s5 := h5.cells.1))
      have hFz : ∀ i, (F i ∨ G4 i) → F i ∨ w.heap.size ≤ i := fun i hi => hi.elim Or.inl (fun hg => (g4.out i hg).elim (fun q => Or.inl (h.out.fg i q)) (fun q => Or.inr (Nat.le_trans bb3.out.size q)))
      have kk := ((Keeps.of_below F bb3.out).same f4.out).trans k5 hFz
      clear s0 s3 s4 s5 h3 h4 f4 g4 k5
      replace hFz := Lib.hid hFz
      replace kk := Lib.hid kk
      rw [tellV_zero] at h5
      replace h5 := Lib.hid h5
      have c0 := h5.out.cells.1
      go_wp2_with fail
      refine (ks.out _ _ h5.out.dk).mono ?_
      rintro en w6 ⟨rfl, hd6, k6⟩
      have h6 := Lib.hid (h5.out.disk hd6 k6 (fun i hi => Or.inl hi))
      have kk6 := Lib.hid (kk.out.trans (k6.mono h5.out.fg) hFz.out)
      have hF6 := Lib.hid (show ∀ i, ((F i ∨ G4 i) ∨ G4 i) → F i ∨ w.heap.size ≤ i from fun i hi => hi.elim (hFz.out i) (fun q => hFz.out i (Or.inr q)))
      clear k6 hd6 h5 kk c0
      go_wp2_with fail
      refine (rvtold_any h6.out _).mono ?_
      rintro en w7 ⟨rfl, h7, k7⟩
      have kk7 := Lib.hid (kk6.out.trans k7 hF6.out)
      replace h7 := Lib.hid h7.rv
      clear k7 h6 kk6
      go_wp2_with fail
      go_ret
      exact ⟨by rw [e2.out]; rfl, _, by rw [e2.out]; exact h7.out, kk7.out, hF6.out⟩
  · have e1 : Z = (tellV v R.2, R) := hZ.out.trans (if_pos hz)
    have hz' : (R.2 == 0) = false := beq_eq_false_iff_ne.2 hz
    replace e1 := Lib.hid e1
    clear hz
    go_enter Tryz.func60, Tryz.ntmps60
    go_upto_region 1 with fail
    go_region_held3 (fun w' => w'.cell? ⟨a, 0, none⟩ = some (.pointer (some ⟨b, 0, none⟩)))
      (first
        | exact s0
        | exact s3
        | exact s4
        | exact s5
        | go_keep)
      (first
        | (go_at_call 96; refine (ksec.out _).mono ?_; rintro e w3 ⟨rfl, b3⟩; have h3 := Lib.hid (h0d.out.below b3); have bb3 := Lib.hid (b0d.out.trans (b3.mono b0d.out.size)); have s3 := h3.out.cells.1)
        | (go_at_call 47; refine (hw.out _ _ h3.out.dk).mono ?_; rintro e w4 ⟨rfl, G4, hd4, kk4, hG4⟩; have h4 := Lib.hid (h3.out.disk hd4 kk4 hG4); have s4 := h4.out.cells.1; have f4 := Lib.hid (show Keeps F w3 w4 from kk4.mono h3.out.fg); have g4 := Lib.hid hG4)
        | (go_at_call 46; refine (rvtold_any h4.out _).mono ?_; rintro e w5 ⟨rfl, h5, k5⟩; have s5 := h5.cells.1))
    have hFz : ∀ i, (F i ∨ G4 i) → F i ∨ w.heap.size ≤ i := fun i hi => hi.elim Or.inl (fun hg => (g4.out i hg).elim (fun q => Or.inl (h.out.fg i q)) (fun q => Or.inr (Nat.le_trans bb3.out.size q)))
    have kk := ((Keeps.of_below F bb3.out).same f4.out).trans k5 hFz
    clear s0 s3 s4 s5 h3 h4 f4 g4 k5
    replace hFz := Lib.hid hFz
    replace kk := Lib.hid kk
    replace h5 := Lib.hid h5.rv
    go_wp2_with fail
    go_ret
    exact ⟨by rw [e1.out]; rfl, _, by rw [e1.out]; exact h5.out, kk.out, hFz.out⟩
end
end Go.Proofs.YtajlfmnjibgbaaaGreatDoor.Vl
/- The document's of, Format. -/
namespace Go.Proofs.YtajlfmnjibgbaaaGreatDoor.Vl
open Go Go.RowKit Go.Maps Mem Disk Nv
section
variable {F G K : Nat → Prop} {w w' : World} {a b k m : Nat} {lv : Value} {v v' : Vo} {d d' : Dk}
set_option maxRecDepth 100000 in
theorem rk_cell0 (h : IsRk G w b d) : ∃ sb sc, w.cell? ⟨b, 0, none⟩ = some (.slice (some ⟨sb, 0, none⟩) d.stays.length sc) := by
  obtain ⟨sb, sc, lv, bv, B, h⟩ := h
  exact ⟨sb, sc, h.blk.cell 0⟩
set_option maxRecDepth 100000 in
set_option maxHeartbeats 4000000 in
theorem rof_yes (h : IsRk G w b d) (hf : Fit d) (hg : goodD d) : Calls Tryz.prog 59 #[.pointer (some ⟨b, 0, none⟩)] w fun e w' => ∃ (a k : Nat) (F : Nat → Prop), e = .returned (.tuple #[.pointer (some ⟨a, 0, none⟩), .int .i64 0]) ∧ w.heap.size ≤ a ∧ RVC F G w' a b k (.slice none 0 0) newV d ∧ Below w.heap.size w w' ∧ ∀ i, F i → G i ∨ w.heap.size ≤ i := by
  obtain ⟨sb, sc, c0⟩ := rk_cell0 h
  have hfew := hf.few
  have e1 : (d.stays.length : Int) / 4 = (blocksD d : Int) := by unfold blocksD; omega
  have hB : 8 ≤ blocksD d ∧ blocksD d ≤ 4096 := hg
  generalize blocksD d = B at e1 hB
  have q1 : decide ((B : Int) < 8) = false := decide_eq_false (by omega)
  have q2 : decide (4096 < (B : Int)) = false := decide_eq_false (by omega)
  generalize d.stays.length = N at c0 e1
  have bd1 : ∀ W, (Instr.build 145 #[(0, .int .i64 32)]).run Tryz.prog W = .ok (.agg #[.int .i64 32, .slice none 0 0]) W := fun W => run_build W _ _ _ (by kernel_rfl)
  have bd : ∀ W k, (Instr.build 100 #[(0, .pointer (some ⟨b, 0, none⟩)), (3, .pointer (some ⟨k, 0, none⟩))]).run Tryz.prog W = .ok (.agg #[.pointer (some ⟨b, 0, none⟩), .string ⟨#[]⟩, .int .i64 0, .pointer (some ⟨k, 0, none⟩), .bool false]) W := fun W k => run_build W _ _ _ (by kernel_rfl)
  obtain ⟨w1, hw1⟩ : ∃ w1, w1 = w.alloc (.cells #[.int .i64 32, .slice none 0 0] 145) := ⟨_, rfl⟩
  obtain ⟨w2, hw2⟩ : ∃ w2, w2 = w1.alloc (.cells #[.pointer (some ⟨b, 0, none⟩), .string ⟨#[]⟩, .int .i64 0, .pointer (some ⟨w.heap.size, 0, none⟩), .bool false] 100) := ⟨_, rfl⟩
  have b1 : Below w.heap.size w w1 := by rw [hw1]; exact (Below.refl _ w).alloc (Nat.le_refl _) _
  have b2 : Below w1.heap.size w1 w2 := by rw [hw2]; exact (Below.refl _ w1).alloc (Nat.le_refl _) _
  have s1 : w1.heap.size = w.heap.size + 1 := by rw [hw1]; simp
  have s2 : w2.heap.size = w.heap.size + 2 := by rw [hw2]; simp; omega
  have B1 : Blk w1 w.heap.size 145 #[.int .i64 32, .slice none 0 0] := by rw [hw1]; exact Blk.new w _ _
  have B2 : Blk w2 (w.heap.size + 1) 100 (rvoc b w.heap.size newV) := by rw [← s1, hw2]; exact Blk.new w1 _ _
  have hG := h.lt
  have bb := b1.trans (b2.mono b1.size)
  have fin : RVC (fun i => G i ∨ i = w.heap.size ∨ i = w.heap.size + 1) G w2 (w.heap.size + 1) b w.heap.size (.slice none 0 0) newV d := by
    refine ⟨(h.below b1).below b2, B2, B1.below b2 (by omega), ⟨rfl, Or.inl ⟨rfl, rfl⟩⟩, Or.inr (Or.inr rfl), Or.inr (Or.inl rfl), (fun j e => by cases e), fun i hi => Or.inl hi, fun hi => ?_, fun hi => ?_, (fun j e => by cases e), fun i hi => ?_⟩
    · have := hG _ hi; omega
    · have := hG _ hi; omega
    · rcases hi with hi | hi | hi
      · have := hG i hi; omega
      · omega
      · omega
  have fin2 : ∃ (a k : Nat) (F : Nat → Prop), Ending.returned (.tuple #[.pointer (some ⟨w.heap.size + 1, 0, none⟩), .int .i64 0]) = .returned (.tuple #[.pointer (some ⟨a, 0, none⟩), .int .i64 0]) ∧ w.heap.size ≤ a ∧ RVC F G w2 a b k (.slice none 0 0) newV d ∧ Below w.heap.size w w2 ∧ ∀ i, F i → G i ∨ w.heap.size ≤ i :=
    ⟨w.heap.size + 1, w.heap.size, _, rfl, by omega, fin, bb, fun i hi => hi.elim Or.inl (fun hi => Or.inr (by omega))⟩
  rw [hw2, hw1] at fin2
  replace fin2 := Lib.hid fin2
  clear fin bb hG B1 B2 s1 s2 b1 b2 hw2 hw1 h hf hg hfew w1 w2
  go_enter Tryz.func59, Tryz.ntmps59
  go_wp2_with fail
  go_ret2
  exact fin2.out
set_option maxRecDepth 100000 in
set_option maxHeartbeats 4000000 in
theorem rformat_yes (h : IsRk G w b d) (hf : Fit d) (hn : NumTo m d) (hm : m ≤ 900000) (text : ByteArray) (hg : goodD d) (ht : text.size ≤ 40) (h0 : (writeD d 0 (noughts 64)).2 = 0) (h1 : (formatV d text).2.2 = 0) :
    Calls Tryz.prog 28 #[.pointer (some ⟨b, 0, none⟩), .string text] w fun e w' => ∃ (a : Nat) (F : Nat → Prop), e = .returned (.tuple #[.pointer (some ⟨a, 0, none⟩), .int .i64 0]) ∧ RV F w' a b (formatV d text).1 (formatV d text).2.1 ∧ Keeps G w w' ∧ ∀ i, F i → G i ∨ w.heap.size ≤ i := by
  obtain ⟨i0, hinf, hz0, hz1, hz2⟩ := info_parts infoU8x
  have km := Lib.hid (rof_yes h hf hg)
  have hw := fun W G' (hd : IsRk G' W b d) => rwrite_any hd (hn.num_ (by omega)) hf 0 (noughts 64)
  have q1 : decide (40 < (text.size : Int)) = false := decide_eq_false (by omega)
  have hfR := hf.write 0 (noughts 64)
  have hnR := hn.write 0 (noughts 64)
  have e1 : formatV d text = keepsV newV (writeD d 0 (noughts 64)).1 text 1 := by unfold formatV; rw [if_neg (fun hh => hh hg), if_neg (by omega)]; exact if_neg (fun hh => hh h0)
  rw [h0] at hw
  generalize (writeD d 0 (noughts 64)).1 = d1 at hw hfR hnR e1
  have hz64 : zeroB_ 64 = noughts 64 := rfl
  obtain ⟨Z, hZ⟩ : ∃ Z, Z = formatV d text := ⟨_, rfl⟩
  rw [← hZ] at h1 e1 ⊢
  replace hw := Lib.hid hw
  replace hfR := Lib.hid hfR
  replace hnR := Lib.hid hnR
  replace e1 := Lib.hid e1
  replace h1 := Lib.hid h1
  replace hz64 := Lib.hid hz64
  clear hZ h hf hn hg h0
  go_enter Tryz.func28, Tryz.ntmps28
  go_wp2_with fail
  refine km.out.mono ?_
  rintro e w1 ⟨a, k, F, rfl, _, hv, hb, hF⟩
  have hs1 := hb.size
  have kk1 := Lib.hid (Keeps.of_below G hb)
  replace hv := Lib.hid hv
  replace hF := Lib.hid hF
  clear hb
  go_wp2_with (first | (at_make; refine wpList_make_full _ rfl _ _ _ rfl 0 5 i0 (.int .u8 0) 1 Tryz.underlying36 hinf hz0 hz1 .i64 .i64 _ _ 64 rfl rfl rfl rfl (by rw [hz2]; omega) (by unfold maxLen; omega) (Nat.zero_le _) ?_; intro w2 ho2 hg2; have hcv := zero_row ho2; have b2 : Below w1.heap.size w1 w2 := ⟨hg2.os, hg2.tape, hg2.output, hg2.size, fun k hk => hg2.block k hk (by simp)⟩; have hv2 := Lib.hid (hv.out.below b2); have kk2 := Lib.hid (kk1.out.same (Keeps.of_below G b2)); clear ho2 hg2 b2))
  rw [hz64.out]
  refine (hw.out _ _ hv2.out.dk).mono ?_
  rintro e w3 ⟨rfl, G3, hd3, k3, hG3⟩
  have hv3 := Lib.hid (hv2.out.disk hd3 k3 hG3)
  have kk3 := Lib.hid (kk2.out.same k3)
  have s2 := kk2.out.size
  have hF3 := Lib.hid (show ∀ i, (F i ∨ G3 i) → G i ∨ w.heap.size ≤ i from fun i hi => hi.elim (hF.out i) (fun hg => (hG3 i hg).imp id (fun q => Nat.le_trans s2 q)))
  have kp := Lib.hid (rvkeeps_any hv3.out hfR.out hnR.out (by omega) text ht 1 (by decide))
  clear hd3 k3 hG3 hv2 hcv
  go_wp2_with fail
  refine kp.out.mono ?_
  intro en w4 hp
  rw [← e1.out] at hp
  obtain ⟨rfl, F4, h4, k4, q4⟩ := hp
  have kk4 := Lib.hid (kk3.out.trans k4 hF3.out)
  have hF4 := Lib.hid (into hF3.out kk3.out.size q4)
  replace h4 := Lib.hid h4
  clear k4 q4 kk3
  rw [h1.out]
  go_wp2_with fail
  go_ret2
  exact ⟨a, F4, rfl, h4.out, kk4.out, hF4.out⟩
end
end Go.Proofs.YtajlfmnjibgbaaaGreatDoor.Vl
/- The document's Open. -/
namespace Go.Proofs.YtajlfmnjibgbaaaGreatDoor.Vl
open Go Go.RowKit Go.Maps Mem Disk Nv
def ROpen (G : Nat → Prop) (w : World) (b : Nat) (d : Dk) (r : Option Vo × Int) (e : Ending) (w' : World) : Prop :=
  Below w.heap.size w w' ∧ match r.1 with
    | none => e = .returned (.tuple #[.pointer none, .int .i64 r.2])
    | some v => ∃ (a : Nat) (F : Nat → Prop), e = .returned (.tuple #[.pointer (some ⟨a, 0, none⟩), .int .i64 r.2]) ∧ RV F w' a b v d ∧ ∀ i, F i → G i ∨ w.heap.size ≤ i
section
variable {F G K : Nat → Prop} {w w' : World} {a b k m : Nat} {lv : Value} {v v' : Vo} {d d' : Dk}
set_option maxRecDepth 100000 in
theorem ROpen.none (w : World) {w' : World} (hb : Below w.heap.size w w') {r : Option Vo × Int} {x : Int} (h : r = (.none, x)) : ROpen G w b d r (.returned (.tuple #[.pointer .none, .int .i64 x])) w' := by
  subst h
  exact ⟨hb, rfl⟩
end
end Go.Proofs.YtajlfmnjibgbaaaGreatDoor.Vl

/- The document's log: told, heads, Format. -/
import Derived.Test.YtojhlijcinenoaaGreatDoorNvRefA
namespace Go.Proofs.YtojhlijcinenoaaGreatDoor.Nv
open Go Go.RowKit Go.Maps Mem Disk
/-- the four cells -/
def rlc (b : Nat) (v : Value) (l : Lg) : Array Value := #[.pointer (some ⟨b, 0, none⟩), .int .i64 (l.gen : Int), v, .bool l.dead]
/-- the document's log at a, over its disk at b -/
structure RC (F G : Nat → Prop) (w : World) (a b : Nat) (v : Value) (l : Lg) (d : Dk) : Prop where
  dk : IsRk G w b d
  blk : Blk w a 51 (rlc b v l)
  row : w.ownsRow 0 9 1 v l.list.length (l.list.map Value.string)
  fa : F a
  fv : ∀ j, v.ownBlock = some j → F j
  fg : ∀ i, G i → F i
  ga : ¬ G a
  gv : ∀ j, v.ownBlock = some j → ¬ G j
  lt : ∀ i, F i → i < w.heap.size
def RL (F : Nat → Prop) (w : World) (a b : Nat) (l : Lg) (d : Dk) : Prop := ∃ G v, RC F G w a b v l d
section
variable {F G K : Nat → Prop} {w w' : World} {a b m : Nat} {v : Value} {l l' : Lg} {d d' : Dk}
set_option maxRecDepth 100000 in
theorem RC.rl (h : RC F G w a b v l d) : RL F w a b l d := ⟨_, _, h⟩
set_option maxRecDepth 100000 in
theorem RC.keeps (h : RC F G w a b v l d) (hk : Keeps K w w') (hn : ∀ i, F i → ¬ K i) : RC F G w' a b v l d :=
  ⟨h.dk.keeps hk (fun i hi => hn i (h.fg i hi)), h.blk.keeps hk (hn a h.fa), own_keeps h.row hk (fun j e => hn j (h.fv j e)), h.fa, h.fv, h.fg, h.ga, h.gv, fun i hi => Nat.lt_of_lt_of_le (h.lt i hi) hk.size⟩
set_option maxRecDepth 100000 in
theorem RC.below (h : RC F G w a b v l d) (hb : Below w.heap.size w w') : RC F G w' a b v l d := h.keeps (Keeps.of_below (fun _ => False) hb) (fun _ _ h => h)
set_option maxRecDepth 100000 in
theorem RL.keeps (h : RL F w a b l d) (hk : Keeps K w w') (hn : ∀ i, F i → ¬ K i) : RL F w' a b l d := by
  obtain ⟨G, v, h⟩ := h
  exact (h.keeps hk hn).rl
set_option maxRecDepth 100000 in
theorem RL.below (h : RL F w a b l d) (hb : Below w.heap.size w w') : RL F w' a b l d := h.keeps (Keeps.of_below (fun _ => False) hb) (fun _ _ h => h)
set_option maxRecDepth 100000 in
theorem RL.lt (h : RL F w a b l d) : ∀ i, F i → i < w.heap.size := by
  obtain ⟨G, v, h⟩ := h
  exact h.lt
set_option maxRecDepth 100000 in
theorem RC.va (h : RC F G w a b v l d) : ∀ j, v.ownBlock = some j → j ≠ a := own_ne h.row h.blk (by decide)
set_option maxRecDepth 100000 in
theorem RC.cells (h : RC F G w a b v l d) : w.cell? ⟨a, 0, none⟩ = some (.pointer (some ⟨b, 0, none⟩)) ∧ w.cell? ⟨a, 1, none⟩ = some (.int .i64 (l.gen : Int)) ∧ w.cell? ⟨a, 2, none⟩ = some v ∧ w.cell? ⟨a, 3, none⟩ = some (.bool l.dead) :=
  ⟨h.blk.cell 0, h.blk.cell 1, h.blk.cell 2, h.blk.cell 3⟩
set_option maxRecDepth 100000 in
theorem RC.reput (h : RC F G w a b v l d) (kk : Keeps (fun j => j = a) w w') (hB : Blk w' a 51 (rlc b v l')) (e : l'.list = l.list) : RL F w' a b l' d ∧ Keeps F w w' := by
  refine ⟨⟨G, v, h.dk.keeps kk (fun i hi e => h.ga (e ▸ hi)), hB, ?_, h.fa, h.fv, h.fg, h.ga, h.gv, fun i hi => Nat.lt_of_lt_of_le (h.lt i hi) kk.size⟩, kk.mono (fun i e => e ▸ h.fa)⟩
  rw [e]
  exact own_keeps h.row kk h.va
set_option maxRecDepth 100000 in
theorem RC.disk (h : RC F G w a b v l d) {G' : Nat → Prop} (hd : IsRk G' w' b d') (kk : Keeps G w w') (hG : ∀ i, G' i → G i ∨ w.heap.size ≤ i) : RC (fun i => F i ∨ G' i) G' w' a b v l d' := by
  refine ⟨hd, h.blk.keeps kk h.ga, own_keeps h.row kk h.gv, Or.inl h.fa, fun j e => Or.inl (h.fv j e), fun i hi => Or.inr hi, fun hi => ?_, fun j e hi => ?_, fun i hi => ?_⟩
  · rcases hG a hi with h1 | h1
    · exact h.ga h1
    · have := h.lt a h.fa; omega
  · rcases hG j hi with h1 | h1
    · exact h.gv j e h1
    · have := h.lt j (h.fv j e); omega
  · rcases hi with hi | hi
    · exact Nat.lt_of_lt_of_le (h.lt i hi) kk.size
    · exact hd.lt i hi
set_option maxRecDepth 100000 in
set_option maxHeartbeats 2000000 in
theorem rtold_any (h : RL F w a b l d) (x : Int) : Calls Tryz.prog 44 #[.pointer (some ⟨a, 0, none⟩), .int .i64 x] w fun e w' => e = .returned (.int .i64 x) ∧ RL F w' a b (tell l x) d ∧ Keeps F w w' := by
  obtain ⟨G, v, h⟩ := h
  obtain ⟨_, _, _, c3⟩ := h.cells
  have f3 := h.blk.free 3
  have fin := fun y (hy : y = (l.dead || x == 2)) => h.reput (l' := tell l x) ((Keeps.refl (fun j => j = a) w).put (g := a) (Or.inl rfl) 3 (.bool y)) (by
    have hB := h.blk.put 3 (.bool y)
    have e : (rlc b v l).setIfInBounds 3 (.bool y) = rlc b v (tell l x) := by rw [hy]; rfl
    rw [e] at hB
    exact hB) rfl
  replace fin := Lib.hid fin
  clear h
  cases hd : l.dead with
  | true =>
    rw [hd] at c3 fin
    replace hd := Lib.hid hd
    go_enter Tryz.func44, Tryz.ntmps44
    go_wp2_with fail
    go_ret
    exact ⟨rfl, fin.out true rfl⟩
  | false =>
    rw [hd] at c3 fin
    replace hd := Lib.hid hd
    go_enter Tryz.func44, Tryz.ntmps44
    go_wp2_with fail
    go_ret
    exact ⟨rfl, fin.out (x == 2) rfl⟩
/-- what a call of the document's log comes to -/
def QPost (F : Nat → Prop) (w : World) (a b : Nat) (r : Lg × Dk × Int) (e : Ending) (w' : World) : Prop :=
  e = .returned (.int .i64 r.2.2) ∧ ∃ F', RL F' w' a b r.1 r.2.1 ∧ Keeps F w w' ∧ ∀ i, F' i → F i ∨ w.heap.size ≤ i
set_option maxRecDepth 100000 in
set_option maxHeartbeats 8000000 in
theorem rheads_any (h : RL F w a b l d) (hf : Fit d) (hn : NumTo m d) (hm : m ≤ 1000000) (gen used : Nat) (hg : gen ≤ 1099511627776) (hu : used ≤ 1099511627776) :
    Calls Tryz.prog 48 #[.pointer (some ⟨a, 0, none⟩), .int .i64 (gen : Int), .int .i64 (used : Int)] w (QPost F w a b (headsL l d gen used)) := by
  have kH := Lib.hid (fun W => rhead_any gen used (by omega) (by omega) W)
  obtain ⟨HB, hHB⟩ : ∃ HB, HB = headB gen used := ⟨_, rfl⟩
  obtain ⟨R, hR⟩ : ∃ R, R = writeD d 0 HB := ⟨_, rfl⟩
  have hfR : Fit R.1 := by rw [hR]; exact hf.write 0 HB
  have hnR : NumTo (m + 1) R.1 := by rw [hR]; exact hn.write 0 HB
  have hw := fun W G' (hd : IsRk G' W b d) => rwrite_any hd (hn.num (by omega)) hf 0 HB
  rw [← hR] at hw
  unfold headsL
  rw [← hHB] at kH ⊢
  rw [← hR]
  obtain ⟨G, v, h⟩ := h
  replace hHB := Lib.hid hHB
  replace hR := Lib.hid hR
  have hb := (Below.refl w.heap.size w).drew
  have hs := hb.size
  by_cases hz : R.2 = 0
  · rw [if_neg (fun hh => hh hz)]
    rw [hz] at hw
    replace hz := Lib.hid hz
    replace hw := Lib.hid hw
    go_enter Tryz.func48, Tryz.ntmps48
    go_upto_region 1 with fail
    have h2 := h.below hb
    have c0 : w.drew.cell? ⟨a, 0, none⟩ = some (.pointer (some ⟨b, 0, none⟩)) := h2.cells.1
    replace h2 := Lib.hid h2
    replace h := Lib.hid h
    go_region_held3 (fun w' => w'.cell? ⟨a, 0, none⟩ = some (.pointer (some ⟨b, 0, none⟩)))
      (first
        | exact c0
        | exact n0
        | exact m0
        | exact o0
        | go_keep)
      (first
        | (go_at_call 64; refine (kH.out _).mono ?_; rintro e w3 ⟨rfl, b3⟩; have h3 := Lib.hid (h2.out.below b3); have n0 := h3.out.cells.1)
        | (go_at_call 45; refine (hw.out _ _ h3.out.dk).mono ?_; rintro e w4 ⟨rfl, G4, hd4, kk4, hG4⟩; have h4 := Lib.hid (h3.out.disk hd4 kk4 hG4); have m0 := h4.out.cells.1; have f4 := Lib.hid (show Keeps F w3 w4 from kk4.mono h3.out.fg); have g4 := Lib.hid hG4)
        | (go_at_call 44; refine (rtold_any h4.out.rl _).mono ?_; rintro e w5 ⟨rfl, h5, k5⟩; have o0 : w5.cell? ⟨a, 0, none⟩ = some (.pointer (some ⟨b, 0, none⟩)) := (by obtain ⟨_, _, hc⟩ := h5; exact hc.cells.1)))
    have hb4 := hb.trans (b3.mono hs)
    have kk : Keeps F w w5 := ((Keeps.of_below F hb4).same f4.out).trans k5 (fun i hi => hi.elim Or.inl (fun hi => (g4.out i hi).elim (fun hg => Or.inl (h.out.fg i hg)) (fun hle => Or.inr (Nat.le_trans hb4.size hle))))
    have hF : ∀ i, (F i ∨ G4 i) → F i ∨ w.heap.size ≤ i := fun i hi => hi.elim Or.inl (fun hi => (g4.out i hi).elim (fun hg => Or.inl (h.out.fg i hg)) (fun hle => Or.inr (Nat.le_trans hb4.size hle)))
    clear c0 n0 m0 h2 h3 h4 hb4 b3
    replace kk := Lib.hid kk
    replace hF := Lib.hid hF
    rw [tell_zero] at h5
    obtain ⟨G5, v5, h5⟩ := h5
    have ks := rsync_any h5.dk (hnR.num (by omega)) hfR
    replace h5 := Lib.hid h5
    replace ks := Lib.hid ks
    go_wp2_with fail
    refine ks.out.mono ?_
    rintro en w6 ⟨rfl, hd6, k6⟩
    have h6 := h5.out.disk hd6 k6 (fun i hi => Or.inl hi)
    have kk6 := kk.out.trans (k6.mono h5.out.fg) hF.out
    have hF6 : ∀ i, ((F i ∨ G4 i) ∨ G5 i) → F i ∨ w.heap.size ≤ i := fun i hi => hi.elim (hF.out i) (fun hi => hF.out i (h5.out.fg i hi))
    clear o0 hd6 k6
    replace kk6 := Lib.hid kk6
    replace hF6 := Lib.hid hF6
    replace h6 := Lib.hid h6
    go_wp2_with fail
    refine (rtold_any h6.out.rl _).mono ?_
    rintro en w7 ⟨rfl, h7, k7⟩
    have kk7 := kk6.out.trans k7 hF6.out
    replace kk7 := Lib.hid kk7
    replace h7 := Lib.hid h7
    clear k7
    go_wp2_with fail
    go_ret
    exact ⟨rfl, _, h7.out, kk7.out, hF6.out⟩
  · rw [if_pos hz]
    have hz' : (R.2 != 0) = true := by simpa using hz
    have hz2 : (R.2 == 0) = false := by simpa using hz
    clear hz
    replace hw := Lib.hid hw
    go_enter Tryz.func48, Tryz.ntmps48
    go_upto_region 1 with fail
    have h2 := h.below hb
    have c0 : w.drew.cell? ⟨a, 0, none⟩ = some (.pointer (some ⟨b, 0, none⟩)) := h2.cells.1
    replace h2 := Lib.hid h2
    replace h := Lib.hid h
    go_region_held3 (fun w' => w'.cell? ⟨a, 0, none⟩ = some (.pointer (some ⟨b, 0, none⟩)))
      (first
        | exact c0
        | exact n0
        | exact m0
        | exact o0
        | go_keep)
      (first
        | (go_at_call 64; refine (kH.out _).mono ?_; rintro e w3 ⟨rfl, b3⟩; have h3 := Lib.hid (h2.out.below b3); have n0 := h3.out.cells.1)
        | (go_at_call 45; refine (hw.out _ _ h3.out.dk).mono ?_; rintro e w4 ⟨rfl, G4, hd4, kk4, hG4⟩; have h4 := Lib.hid (h3.out.disk hd4 kk4 hG4); have m0 := h4.out.cells.1; have f4 := Lib.hid (show Keeps F w3 w4 from kk4.mono h3.out.fg); have g4 := Lib.hid hG4)
        | (go_at_call 44; refine (rtold_any h4.out.rl _).mono ?_; rintro e w5 ⟨rfl, h5, k5⟩; have o0 : w5.cell? ⟨a, 0, none⟩ = some (.pointer (some ⟨b, 0, none⟩)) := (by obtain ⟨_, _, hc⟩ := h5; exact hc.cells.1)))
    have hb4 := hb.trans (b3.mono hs)
    have kk : Keeps F w w5 := ((Keeps.of_below F hb4).same f4.out).trans k5 (fun i hi => hi.elim Or.inl (fun hi => (g4.out i hi).elim (fun hg => Or.inl (h.out.fg i hg)) (fun hle => Or.inr (Nat.le_trans hb4.size hle))))
    have hF : ∀ i, (F i ∨ G4 i) → F i ∨ w.heap.size ≤ i := fun i hi => hi.elim Or.inl (fun hi => (g4.out i hi).elim (fun hg => Or.inl (h.out.fg i hg)) (fun hle => Or.inr (Nat.le_trans hb4.size hle)))
    clear c0 n0 m0 h2 h3 h4 hb4 b3
    replace kk := Lib.hid kk
    replace hF := Lib.hid hF
    replace h5 := Lib.hid h5
    clear o0
    go_wp2_with fail
    go_ret
    exact ⟨rfl, _, h5.out, kk.out, hF.out⟩
end
end Go.Proofs.YtojhlijcinenoaaGreatDoor.Nv

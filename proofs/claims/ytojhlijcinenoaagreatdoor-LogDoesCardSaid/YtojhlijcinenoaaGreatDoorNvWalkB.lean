/- The log's heads, Format. -/
import Derived.Test.YtojhlijcinenoaaGreatDoorNvWalkA
import Derived.Lib.Repeat
namespace Go.Proofs.YtojhlijcinenoaaGreatDoor.Nv
open Go Go.RowKit Go.Maps Mem Disk

set_option maxRecDepth 100000 in
theorem repeat_zero : ∀ c, Lib.repeatL [0] c = List.replicate c 0
  | 0 => rfl
  | c + 1 => by rw [Lib.repeatL, repeat_zero c, List.replicate_succ]; rfl
set_option maxRecDepth 100000 in
theorem noughts_any (c : Nat) (hc : c ≤ 1048576) (w : World) : Calls Tryz.prog 37 #[.string ⟨#[0]⟩, .int .i64 (c : Int)] w fun e w' => e = .returned (.string (noughts c)) ∧ Below w.heap.size w w' := by
  have k := Tryz.strings_Repeat ⟨#[0]⟩ c w (by omega) (by show 1 * c ≤ _; omega)
  rw [show (⟨(Lib.repeatL (ByteArray.mk #[0]).data.toList c).toArray⟩ : ByteArray) = noughts c from congrArg (fun l : List UInt8 => ByteArray.mk l.toArray) (repeat_zero c)] at k
  exact k
/-- what a call of the log's comes to -/
def NPost (F : Nat → Prop) (w : World) (a b : Nat) (r : Lg × Dk × Int) (e : Ending) (w' : World) : Prop :=
  e = .returned (.int .i64 r.2.2) ∧ ∃ F', PL F' w' a b r.1 r.2.1 ∧ Keeps F w w' ∧ ∀ i, F' i → F i ∨ w.heap.size ≤ i
section
variable {F G K : Nat → Prop} {w w' : World} {a b m : Nat} {v : Value} {l l' : Lg} {d d' : Dk}
set_option maxRecDepth 100000 in
set_option maxHeartbeats 8000000 in
theorem heads_any (h : PL F w a b l d) (hf : Fit d) (hn : NumTo m d) (hm : m ≤ 1000000) (gen used : Nat) :
    Calls Tryz.prog 41 #[.pointer (some ⟨a, 0, none⟩), .int .i64 (gen : Int), .int .i64 (used : Int)] w (NPost F w a b (headsL l d gen used)) := by
  have k6 := Lib.hid (fun W => put_any gen 6 (by decide) W)
  have k4 := Lib.hid (fun W => put_any used 4 (by decide) W)
  have kz := Lib.hid (fun W => noughts_any 52 (by decide) W)
  have z6 : (num gen 6).size ≤ 6 := Nat.le_of_eq (num_size _ _)
  have z4 : (num used 4).size ≤ 4 := Nat.le_of_eq (num_size _ _)
  obtain ⟨HB, hHB⟩ : ∃ HB, HB = headB gen used := ⟨_, rfl⟩
  obtain ⟨R, hR⟩ : ∃ R, R = writeD d 0 HB := ⟨_, rfl⟩
  have hS7 : ((⟨#[78, 86]⟩ ++ num gen 6) ++ num used 4 : ByteArray).size = 12 := by
    rw [ByteArray.size_append, ByteArray.size_append, num_size, num_size]; rfl
  have hS8 : ((⟨#[78, 86]⟩ ++ num gen 6) ++ num used 4 : ByteArray) ++ noughts 52 = HB := by rw [hHB]; rfl
  have hN64 : (noughts 52).size ≤ 52 := Nat.le_of_eq (noughts_size _)
  have hfR : Fit R.1 := by rw [hR]; exact hf.write 0 HB
  have hnR : NumTo (m + 1) R.1 := by rw [hR]; exact hn.write 0 HB
  have hw := fun W G' (hd : IsDk G' W b d) => write_any hd (hn.num (by omega)) hf 0 HB
  rw [← hR] at hw
  unfold headsL
  rw [← hHB, ← hR]
  obtain ⟨G, v, h⟩ := h
  have hlt := h.lt
  generalize num gen 6 = P6 at k6 z6 hS7 hS8
  generalize num used 4 = P4 at k4 z4 hS7 hS8
  generalize noughts 52 = Z at kz hS8 hN64
  replace hS7 := Lib.hid hS7
  replace hS8 := Lib.hid hS8
  replace hHB := Lib.hid hHB
  replace hR := Lib.hid hR
  replace hw := Lib.hid hw
  replace h := Lib.hid h
  replace hlt := Lib.hid hlt
  have hb := Below.refl w.heap.size w
  have hs := hb.size
  by_cases hz : R.2 = 0
  · rw [if_neg (fun hh => hh hz)]
    rw [hz] at hw
    replace hz := Lib.hid hz
    go_enter Tryz.func41, Tryz.ntmps41
    go_wp2_with fail
    refine (k6.out _).mono ?_
    rintro en w1 ⟨rfl, bx⟩
    replace hb := hb.trans (bx.mono hs)
    replace hs := hb.size
    clear bx
    go_wp2_with fail
    refine (k4.out _).mono ?_
    rintro en w2 ⟨rfl, bx⟩
    replace hb := hb.trans (bx.mono hs)
    replace hs := hb.size
    clear bx
    go_upto_region 2 with fail
    generalize hS : ((⟨#[78, 86]⟩ ++ P6) ++ P4 : ByteArray) = S7 at *
    have e52 : 64 - (S7.size : Int) = 52 := by rw [hS7.out]; rfl
    have z7 : S7.size ≤ 12 := Nat.le_of_eq hS7.out
    have hno : ¬ 9223372036854775807 < S7.size + Z.size := by omega
    replace hb := hb.drew
    replace hs := hb.size
    have h2 := h.out.below hb
    have c0 : w2.drew.cell? ⟨a, 0, none⟩ = some (.pointer (some ⟨b, 0, none⟩)) := h2.cells.1
    replace h2 := Lib.hid h2
    replace hS := Lib.hid hS
    go_region_held3 (fun w' => w'.cell? ⟨a, 0, none⟩ = some (.pointer (some ⟨b, 0, none⟩)))
      (first
        | exact c0
        | exact n0
        | exact m0
        | exact o0
        | go_keep)
      (first
        | (go_at_call 37; refine (kz.out _).mono ?_; rintro e w3 ⟨rfl, b3⟩; have h3 := Lib.hid (h2.out.below b3); have n0 := h3.out.cells.1)
        | (go_at_call 22; rw [hS8.out]; refine (hw.out _ _ h3.out.dk).mono ?_; rintro e w4 ⟨rfl, G4, hd4, kk4, hG4⟩; have h4 := Lib.hid (h3.out.disk hd4 kk4 hG4); have m0 := h4.out.cells.1; have f4 := Lib.hid (show Keeps F w3 w4 from kk4.mono h3.out.fg); have g4 := Lib.hid hG4)
        | (go_at_call 38; refine (told_any h4.out.pl _).mono ?_; rintro e w5 ⟨rfl, h5, k5⟩; have o0 : w5.cell? ⟨a, 0, none⟩ = some (.pointer (some ⟨b, 0, none⟩)) := (by obtain ⟨_, _, hc⟩ := h5; exact hc.cells.1)))
    have hb4 := hb.trans (b3.mono hs)
    have kk : Keeps F w w5 := ((Keeps.of_below F hb4).same f4.out).trans k5 (fun i hi => hi.elim Or.inl (fun hi => (g4.out i hi).elim (fun hg => Or.inl (h.out.fg i hg)) (fun hle => Or.inr (Nat.le_trans hb4.size hle))))
    have hF : ∀ i, (F i ∨ G4 i) → F i ∨ w.heap.size ≤ i := fun i hi => hi.elim Or.inl (fun hi => (g4.out i hi).elim (fun hg => Or.inl (h.out.fg i hg)) (fun hle => Or.inr (Nat.le_trans hb4.size hle)))
    rw [tell_zero] at h5
    obtain ⟨G5, v5, h5⟩ := h5
    have ks := sync_any h5.dk (hnR.num (by omega)) hfR
    clear c0 n0 m0 h2 h3 h4 hb4 b3 e52 z7 hno
    replace kk := Lib.hid kk
    replace hF := Lib.hid hF
    replace h5 := Lib.hid h5
    replace ks := Lib.hid ks
    go_wp2_with fail
    refine ks.out.mono ?_
    rintro en w6 ⟨rfl, hd6, k6⟩
    have h6 := h5.out.disk hd6 k6 (fun i hi => Or.inl hi)
    have kk6 := kk.out.trans (k6.mono h5.out.fg) hF.out
    have hF6 : ∀ i, ((F i ∨ G4 i) ∨ G5 i) → F i ∨ w.heap.size ≤ i := fun i hi => hi.elim (hF.out i) (fun hi => hF.out i (h5.out.fg i hi))
    clear o0 hd6 k6
    replace kk6 := Lib.hid kk6
    replace hF6 := Lib.hid hF6
    replace h6 := Lib.hid h6
    go_wp2_with fail
    refine (told_any h6.out.pl _).mono ?_
    rintro en w7 ⟨rfl, h7, k7⟩
    have kk7 := kk6.out.trans k7 hF6.out
    replace kk7 := Lib.hid kk7
    replace h7 := Lib.hid h7
    clear k7
    go_wp2_with fail
    go_ret
    exact ⟨rfl, _, h7.out, kk7.out, hF6.out⟩
  · rw [if_pos hz]
    have hz' : (R.2 != 0) = true := by simpa using hz
    clear hz
    go_enter Tryz.func41, Tryz.ntmps41
    go_wp2_with fail
    refine (k6.out _).mono ?_
    rintro en w1 ⟨rfl, bx⟩
    replace hb := hb.trans (bx.mono hs)
    replace hs := hb.size
    clear bx
    go_wp2_with fail
    refine (k4.out _).mono ?_
    rintro en w2 ⟨rfl, bx⟩
    replace hb := hb.trans (bx.mono hs)
    replace hs := hb.size
    clear bx
    go_upto_region 2 with fail
    generalize hS : ((⟨#[78, 86]⟩ ++ P6) ++ P4 : ByteArray) = S7 at *
    have e52 : 64 - (S7.size : Int) = 52 := by rw [hS7.out]; rfl
    have z7 : S7.size ≤ 12 := Nat.le_of_eq hS7.out
    have hno : ¬ 9223372036854775807 < S7.size + Z.size := by omega
    replace hb := hb.drew
    replace hs := hb.size
    have h2 := h.out.below hb
    have c0 : w2.drew.cell? ⟨a, 0, none⟩ = some (.pointer (some ⟨b, 0, none⟩)) := h2.cells.1
    replace h2 := Lib.hid h2
    replace hS := Lib.hid hS
    go_region_held3 (fun w' => w'.cell? ⟨a, 0, none⟩ = some (.pointer (some ⟨b, 0, none⟩)))
      (first
        | exact c0
        | exact n0
        | exact m0
        | exact o0
        | go_keep)
      (first
        | (go_at_call 37; refine (kz.out _).mono ?_; rintro e w3 ⟨rfl, b3⟩; have h3 := Lib.hid (h2.out.below b3); have n0 := h3.out.cells.1)
        | (go_at_call 22; rw [hS8.out]; refine (hw.out _ _ h3.out.dk).mono ?_; rintro e w4 ⟨rfl, G4, hd4, kk4, hG4⟩; have h4 := Lib.hid (h3.out.disk hd4 kk4 hG4); have m0 := h4.out.cells.1; have f4 := Lib.hid (show Keeps F w3 w4 from kk4.mono h3.out.fg); have g4 := Lib.hid hG4)
        | (go_at_call 38; refine (told_any h4.out.pl _).mono ?_; rintro e w5 ⟨rfl, h5, k5⟩; have o0 : w5.cell? ⟨a, 0, none⟩ = some (.pointer (some ⟨b, 0, none⟩)) := (by obtain ⟨_, _, hc⟩ := h5; exact hc.cells.1)))
    have hb4 := hb.trans (b3.mono hs)
    have kk : Keeps F w w5 := ((Keeps.of_below F hb4).same f4.out).trans k5 (fun i hi => hi.elim Or.inl (fun hi => (g4.out i hi).elim (fun hg => Or.inl (h.out.fg i hg)) (fun hle => Or.inr (Nat.le_trans hb4.size hle))))
    have hF : ∀ i, (F i ∨ G4 i) → F i ∨ w.heap.size ≤ i := fun i hi => hi.elim Or.inl (fun hi => (g4.out i hi).elim (fun hg => Or.inl (h.out.fg i hg)) (fun hle => Or.inr (Nat.le_trans hb4.size hle)))
    clear c0 n0 m0 o0 h2 h3 h4 hb4 b3 e52 z7 hno
    replace kk := Lib.hid kk
    replace hF := Lib.hid hF
    replace h5 := Lib.hid h5
    go_wp2_with fail
    go_ret
    exact ⟨rfl, _, h5.out, kk.out, hF.out⟩
end
end Go.Proofs.YtojhlijcinenoaaGreatDoor.Nv

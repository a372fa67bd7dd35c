/- The document's disk: Sync, Bad. -/
import Derived.Test.YtkghlbpkdkonbaaGreatRdiskD
namespace Go.Proofs.YtkghlbpkdkonbaaGreat.Disk
open Go Go.RowKit Go.Maps Mem
set_option maxRecDepth 100000 in
theorem applyAll_snoc (L : List (Nat × ByteArray)) (p : Nat × ByteArray) (st : List ByteArray) : applyAll (L ++ [p]) st = (applyAll L st).set p.1 p.2 := by
  unfold applyAll
  rw [List.foldl_append]
  rfl
section
variable {F : Nat → Prop} {w W w' : World} {b : Nat} {d : Dk} {sb sc : Nat} {lv bv : Value} {B : List Nat}
set_option maxRecDepth 100000 in
set_option maxHeartbeats 8000000 in
theorem rsync_any (h : IsRk F w b d) (hn : Num d) (hf : Fit d) : Calls Tryz.prog 55 #[.pointer (some ⟨b, 0, none⟩)] w fun e w' =>
    e = .returned (.int .i64 (syncD d).2) ∧ IsRk F w' b (syncD d).1 ∧ Keeps F w w' := by
  have kr := rstep_any h hn
  have fin := Lib.hid h
  have c6 : w.cell? ⟨b, 6, none⟩ = some (.bool d.dead) := by
    obtain ⟨_, _, _, _, _, hc⟩ := h
    exact hc.cells.2.2.2.2.2.2
  have hf2 := Lib.hid hf.step
  have hfe := Lib.hid hf
  clear h hn
  unfold syncD
  rcases Bool.eq_false_or_eq_true d.dead with hd | hd
  · rw [hd] at c6
    rw [if_pos hd]
    replace hd := Lib.hid hd
    replace kr := Lib.hid kr
    clear hf
    go_enter Tryz.func55, Tryz.ntmps55
    go_wp2_with fail
    go_ret
    exact ⟨rfl, fin.out, Keeps.refl _ _⟩
  · rw [hd] at c6
    rw [if_neg (by rw [hd]; decide)]
    replace hd := Lib.hid hd
    unfold stepped
    by_cases ha : d.armed = 1
    · rw [if_pos ha]
      rw [show decide (d.armed = 1) = true from decide_eq_true ha] at kr
      replace kr := Lib.hid kr
      clear ha hf
      go_enter Tryz.func55, Tryz.ntmps55
      go_wp2_with fail
      refine kr.out.mono ?_
      rintro en w3 ⟨rfl, h3, k3⟩
      have ck : w3.cell? ⟨b, 5, none⟩ = some (.string d.keep) := by
        obtain ⟨_, _, _, _, _, hc⟩ := h3
        exact hc.cells.2.2.2.2.2.1
      have kg := Lib.hid (rgoes_any h3 hf2.out d.keep)
      replace k3 := Lib.hid k3
      clear h3 kr
      go_wp2_with fail
      refine kg.out.mono ?_
      rintro en w4 ⟨rfl, h4, k4⟩
      replace k4 := Lib.hid (k3.out.same k4)
      replace h4 := Lib.hid h4
      go_wp2_with fail
      go_ret
      exact ⟨rfl, h4.out, k4.out⟩
    · rw [if_neg ha]
      rw [show decide (d.armed = 1) = false from decide_eq_false ha] at kr
      replace kr := Lib.hid kr
      clear ha
      have hlen := hf.len
      have hfew := hf.few
      have hloose := Lib.hid hf.loose
      clear hf
      obtain ⟨M, hM⟩ : ∃ M, M = d.L.length := ⟨_, rfl⟩
      obtain ⟨N, hN⟩ : ∃ N, N = d.stays.length := ⟨_, rfl⟩
      rw [← hM] at hlen
      rw [← hN] at hfew
      replace hM := Lib.hid hM
      replace hN := Lib.hid hN
      go_enter Tryz.func55, Tryz.ntmps55
      go_wp2_with fail
      refine kr.out.mono ?_
      rintro en w3 ⟨rfl, ⟨sb, sc, lv, bv, B, h⟩, k3⟩
      obtain ⟨A1, k1, rfl⟩ := pair_slice h.ls
      have hne := Lib.hid h.ne
      have hst0 := Lib.hid (show w3.ownsRow 0 9 1 (.slice (some ⟨sb, 0, none⟩) d.stays.length sc) d.stays.length (d.stays.map Value.string) from h.st)
      replace h := Lib.hid h
      replace k3 := Lib.hid k3
      clear kr
      go_wp2_with fail
      go_loopw [3] (fun t wr => ∃ k : Nat, k ≤ M ∧ t = .int .i64 (k : Int) ∧ Keeps (fun j => j = sb) w3 wr ∧ wr.ownsRow 0 9 1 (.slice (some ⟨sb, 0, none⟩) d.stays.length sc) d.stays.length ((applyAll (d.L.take k) d.stays).map Value.string)) (fun t _ => M - (intOf t).toNat)
      case atStart => exact ⟨0, Nat.zero_le _, rfl, Keeps.refl _ _, hst0.out⟩
      case round =>
        clear hst0
        obtain ⟨k, hk, rfl, kk, hst⟩ := hrel
        have hB := h.out.blk.keeps kk (Ne.symm hne.out.1)
        have hls := own_keeps h.out.ls kk (fun j e => hne.out.2.2.2.1 j e)
        have c0 : wr.cell? ⟨b, 0, none⟩ = some (.slice (some ⟨sb, 0, none⟩) N sc) := by rw [hN.out]; exact hB.cell 0
        have c1 : wr.cell? ⟨b, 1, none⟩ = some (.slice A1 M k1) := by rw [hM.out]; exact hB.cell 1
        by_cases hlt : k < M
        · obtain ⟨p, hp⟩ : ∃ p, d.L[k]? = some p := ⟨_, List.getElem?_eq_getElem (by have := hM.out; omega)⟩
          obtain ⟨hp1, hp2⟩ := hloose.out p (List.mem_of_getElem? hp)
          rw [← hN.out] at hp1
          obtain ⟨g, cap, hv, _⟩ := hls.form (by have := hM.out; show 0 < d.L.length; omega)
          injection hv with hv _ _
          subst hv
          have l1 := hls.cells (g := g) rfl _ _ (pairs_at (show (stepD d).L[k]? = some p from hp)).1
          have l2 := hls.cells (g := g) rfl _ _ (pairs_at (show (stepD d).L[k]? = some p from hp)).2
          rw [add_lit, Nat.zero_add] at l1 l2
          have z1 : (k : Int) < (M : Int) := by omega
          have z0 : (0 : Int) ≤ (k : Int) := by omega
          have z2 : (p.1 : Int) < (N : Int) := by omega
          have z3 : (0 : Int) ≤ (p.1 : Int) := by omega
          have hsn := applyAll_snoc (d.L.take k) p d.stays
          rw [← take_succ_of hp] at hsn
          replace hsn := Lib.hid hsn
          clear hp
          obtain ⟨hst', fst⟩ := own_put (i := p.1) (u := .string p.2) hst
          obtain ⟨old, hold⟩ : ∃ u, ((applyAll (d.L.take k) d.stays).map Value.string)[p.1]? = some u := ⟨_, List.getElem?_eq_getElem (by rw [List.length_map, applyAll_length, ← hN.out]; exact hp1)⟩
          have cst := hst.cells (g := sb) rfl p.1 old hold
          rw [add_lit, Nat.zero_add] at cst
          have fin : ∃ k' : Nat, k' ≤ M ∧ Value.int .i64 ((k : Int) + 1) = .int .i64 (k' : Int) ∧ Keeps (fun j => j = sb) w3 (wr.drew.setCell ⟨sb, p.1, none⟩ (.string p.2)) ∧ (wr.drew.setCell ⟨sb, p.1, none⟩ (.string p.2)).ownsRow 0 9 1 (.slice (some ⟨sb, 0, none⟩) d.stays.length sc) d.stays.length ((applyAll (d.L.take k') d.stays).map Value.string) := by
            refine ⟨k + 1, by omega, rfl, (kk.same (keeps_drew _ wr)).put (Or.inl rfl) _ _, ?_⟩
            rw [hsn.out, List.map_set]
            exact hst'
          replace fin := Lib.hid fin
          clear hst' hst hls hB kk hold hsn hp2 hk
          go_wp2_with fail
          go_region
          go_wp2_with fail
          exact ⟨fin.out, by simp [intOf]; omega⟩
        · obtain rfl : k = M := by omega
          rw [hM.out, List.take_length] at hst
          have f1 := hB.free 1
          have k4 := (Keeps.refl (fun j => j = b) wr).put (g := b) (Or.inl rfl) 1 (.slice none 0 0)
          have hl : (applyAll d.L d.stays).length = d.stays.length := applyAll_length _ _
          have hB3 : Blk (wr.setCell ⟨b, 1, none⟩ (.slice none 0 0)) b 52 (rkc sb sc (.slice none 0 0) bv { stepD d with stays := applyAll d.L d.stays, L := [] }) := by
            have e : rkc sb sc (.slice none 0 0) bv { stepD d with stays := applyAll d.L d.stays, L := [] } = (rkc sb sc (.slice A1 d.L.length k1) bv (stepD d)).setIfInBounds 1 (.slice none 0 0) := by
              simp [rkc, stepD, applyAll_length]
            rw [e]
            exact hB.put 1 (.slice none 0 0)
          have k5 := (kk.mono (G := fun j => j = sb ∨ j = b) (fun i e => Or.inl e)).same (k4.mono (G := fun j => j = sb ∨ j = b) (fun i e => Or.inr e))
          have hF5 : ∀ i, (i = sb ∨ i = b) → F i := fun i e => by
            rcases e with rfl | rfl
            · exact h.out.fs
            · exact h.out.fb
          have fin : IsRk F (wr.setCell ⟨b, 1, none⟩ (.slice none 0 0)) b { stepD d with stays := applyAll d.L d.stays, L := [] } ∧ Keeps F w (wr.setCell ⟨b, 1, none⟩ (.slice none 0 0)) := by
            refine ⟨⟨sb, sc, .slice none 0 0, bv, B, hB3, ?_, ⟨rfl, Or.inl ⟨rfl, rfl⟩⟩, own_keeps h.out.bd k5 (fun j e hj => hj.elim (hne.out.2.2.2.2 j e) (hne.out.2.2.1 j e)), h.out.mem, h.out.few, h.out.fb, h.out.fs, (fun j e => by cases e), h.out.fd, fun i hi => Nat.lt_of_lt_of_le (h.out.lt i hi) k5.size⟩, k3.out.same (k5.mono hF5)⟩
            show (wr.setCell ⟨b, 1, none⟩ (.slice none 0 0)).ownsRow 0 9 1 (.slice (some ⟨sb, 0, none⟩) (applyAll d.L d.stays).length sc) (applyAll d.L d.stays).length _
            rw [hl]
            exact own_keeps hst k4 (fun j e => by injection e with e; subst e; exact hne.out.1)
          replace fin := Lib.hid fin
          clear hB hB3 k4 k5 kk hst hls hl hk hF5
          go_wp2_with fail
          go_ret
          exact ⟨rfl, fin.out⟩
end
end Go.Proofs.YtkghlbpkdkonbaaGreat.Disk

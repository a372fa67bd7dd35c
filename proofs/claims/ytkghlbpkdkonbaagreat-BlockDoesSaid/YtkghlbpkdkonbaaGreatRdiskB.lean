/- The document's disk: step, Arm, Revive, goes, Crash, Image. -/
import Derived.Test.YtkghlbpkdkonbaaGreatRdiskA
import Derived.Deep.RegionHeld3
import Derived.Test.YtkghlbpkdkonbaaGreatDiskPl
namespace Go.Proofs.YtkghlbpkdkonbaaGreat.Disk
open Go Go.RowKit Go.Maps Mem
section
variable {F G : Nat → Prop} {w w' : World} {b : Nat} {d d' : Dk}
set_option maxRecDepth 100000 in
theorem pair_slice {v : Value} {n : Nat} {e : TypeId} {base sz : Nat} {xs : List Value} {w : World} (h : w.ownsRow base e sz v n xs) : ∃ A c, v = .slice A n c := by
  obtain ⟨_, ⟨h2, h3⟩ | ⟨g, cap, _, hv, _⟩⟩ := h
  · subst h3; exact ⟨_, _, h2⟩
  · exact ⟨_, _, hv⟩

set_option maxRecDepth 100000 in
set_option maxHeartbeats 4000000 in
theorem rstep_any (h : IsRk F w b d) (hn : Num d) : Calls Tryz.prog 87 #[.pointer (some ⟨b, 0, none⟩)] w fun e w' => e = .returned (.bool (decide (d.armed = 1))) ∧ IsRk F w' b (stepD d) ∧ Keeps F w w' := by
  obtain ⟨sb, sc, lv, bv, B, h⟩ := h
  obtain ⟨A1, k1, rfl⟩ := pair_slice h.ls
  obtain ⟨A2, k2, rfl⟩ := pair_slice h.bd
  have h1 := h.blk
  have c3 : w.cell? ⟨b, 3, none⟩ = some (.int .i64 (d.steps : Int)) := h1.cell 3
  have c4 : w.cell? ⟨b, 4, none⟩ = some (.int .i64 (d.armed : Int)) := h1.cell 4
  have f3 := h1.free 3
  have f4 := h1.free 4
  have n4 := hn.steps
  have n5 := hn.armed
  have kk := (Keeps.refl (fun j => j = b) w).put (g := b) (Or.inl rfl) 3 (.int .i64 ((d.steps : Int) + 1))
  have hB := h1.put 3 (.int .i64 ((d.steps : Int) + 1))
  replace h := Lib.hid h
  replace hB := Lib.hid hB
  replace kk := Lib.hid kk
  clear h1
  by_cases ha : d.armed = 0
  · have e0 : (d.armed : Int) = 0 := by omega
    have hr : decide (d.armed = 1) = false := by simp [ha]
    rw [hr]
    have hB2 : Blk (w.setCell ⟨b, 3, none⟩ (.int .i64 ((d.steps : Int) + 1))) b 52 (rkc sb sc (.slice A1 d.L.length k1) (.slice A2 B.length k2) (stepD d)) := by
      have := hB.out
      have e : (stepD d) = { d with steps := d.steps + 1 } := by unfold stepD; rw [ha]
      rw [e]
      exact this
    have fin := Lib.hid (h.out.reput kk.out hB2 rfl rfl rfl rfl)
    clear hB2 hB kk h hr ha
    replace c4 : w.cell? ⟨b, 4, none⟩ = some (.int .i64 0) := by rw [← e0]; exact c4
    clear e0
    go_enter Tryz.func87, Tryz.ntmps87
    go_wp2_with fail
    go_ret
    exact ⟨rfl, fin.out⟩
  · have kk2 := Lib.hid (kk.out.put (g := b) (Or.inl rfl) 4 (.int .i64 ((d.armed : Int) - 1)))
    have hB2 : Blk ((w.setCell ⟨b, 3, none⟩ (.int .i64 ((d.steps : Int) + 1))).setCell ⟨b, 4, none⟩ (.int .i64 ((d.armed : Int) - 1))) b 52 (rkc sb sc (.slice A1 d.L.length k1) (.slice A2 B.length k2) (stepD d)) := by
      have := hB.out.put 4 (.int .i64 ((d.armed : Int) - 1))
      have e : (rkc sb sc (.slice A1 d.L.length k1) (.slice A2 B.length k2) (stepD d)) = ((rkc sb sc (.slice A1 d.L.length k1) (.slice A2 B.length k2) d).setIfInBounds 3 (.int .i64 ((d.steps : Int) + 1))).setIfInBounds 4 (.int .i64 ((d.armed : Int) - 1)) := by
        simp [rkc, stepD]
        omega
      rw [e]
      exact this
    have fin := Lib.hid (h.out.reput kk2.out hB2 rfl rfl rfl rfl)
    clear hB2 hB kk kk2 h
    have n6 : 1 ≤ d.armed := by omega
    by_cases h1 : d.armed = 1
    · rw [show decide (d.armed = 1) = true by simp [h1]]
      replace h1 := Lib.hid h1
      have c5' : w.cell? ⟨b, 4, none⟩ = some (.int .i64 1) := by rw [c4, h1.out]; rfl
      rw [show ((d.armed : Int) - 1) = 0 by have := h1.out; omega] at fin
      clear c4 ha
      go_enter Tryz.func87, Tryz.ntmps87
      go_wp2_with fail
      go_ret
      exact ⟨rfl, fin.out⟩
    · rw [show decide (d.armed = 1) = false by simp [h1]]
      have n7 : 2 ≤ d.armed := by omega
      clear h1 n6 ha
      go_enter Tryz.func87, Tryz.ntmps87
      go_wp2_with fail
      go_ret
      refine ⟨?_, fin.out⟩
      show Ending.returned (.bool ((d.armed : Int) - 1 == 0)) = _
      rw [show ((d.armed : Int) - 1 == 0) = false from by simpa using (by omega : ¬ (d.armed : Int) - 1 = 0)]
set_option maxRecDepth 100000 in
set_option maxHeartbeats 4000000 in
theorem rrevive_any (h : IsRk F w b d) : Calls Tryz.prog 18 #[.pointer (some ⟨b, 0, none⟩)] w fun e w' => e = .returned (.tuple #[]) ∧ IsRk F w' b (reviveD d) ∧ Keeps F w w' := by
  obtain ⟨sb, sc, lv, bv, B, h⟩ := h
  have h1 := h.blk
  have c6 : w.cell? ⟨b, 6, none⟩ = some (.bool d.dead) := h1.cell 6
  have c4 : w.cell? ⟨b, 4, none⟩ = some (.int .i64 (d.armed : Int)) := h1.cell 4
  have f6 := h1.free 6
  have f4 := h1.free 4
  have kk := ((Keeps.refl (fun j => j = b) w).put (g := b) (Or.inl rfl) 6 (.bool false)).put (g := b) (Or.inl rfl) 4 (.int .i64 0)
  have hB : Blk _ b 52 (rkc sb sc lv bv (reviveD d)) := (h1.put 6 (.bool false)).put 4 (.int .i64 0)
  have fin := Lib.hid (h.reput kk hB rfl rfl rfl rfl)
  clear hB kk h h1
  go_enter Tryz.func18, Tryz.ntmps18
  go_wp2_with fail
  go_end0
  exact ⟨rfl, fin.out⟩
set_option maxRecDepth 100000 in
set_option maxHeartbeats 4000000 in
theorem rarm_any (h : IsRk F w b d) (n : Int) (keep : ByteArray) : Calls Tryz.prog 12 #[.pointer (some ⟨b, 0, none⟩), .int .i64 n, .string keep] w fun e w' => e = .returned (.int .i64 (armD d n keep).2) ∧ IsRk F w' b (armD d n keep).1 ∧ Keeps F w w' := by
  obtain ⟨sb, sc, lv, bv, B, h⟩ := h
  have h1 := h.blk
  have c6 : w.cell? ⟨b, 6, none⟩ = some (.bool d.dead) := h1.cell 6
  have c5 : w.cell? ⟨b, 5, none⟩ = some (.string d.keep) := h1.cell 5
  have c4 : w.cell? ⟨b, 4, none⟩ = some (.int .i64 (d.armed : Int)) := h1.cell 4
  have f5 := h1.free 5
  have f4 := h1.free 4
  unfold armD
  rcases Bool.eq_false_or_eq_true d.dead with hd | hd
  · rw [hd] at c6
    rw [if_pos hd]
    replace hd := Lib.hid hd
    have fin := Lib.hid h.rk
    clear h h1
    go_enter Tryz.func12, Tryz.ntmps12
    go_wp2_with fail
    go_ret
    exact ⟨rfl, fin.out, Keeps.refl _ _⟩
  · rw [hd] at c6
    rw [if_neg (by rw [hd]; decide)]
    replace hd := Lib.hid hd
    by_cases h0 : n < 0
    · rw [if_pos h0]
      have fin := Lib.hid h.rk
      clear h h1
      go_enter Tryz.func12, Tryz.ntmps12
      go_wp2_with fail
      go_ret
      exact ⟨rfl, fin.out, Keeps.refl _ _⟩
    · rw [if_neg h0]
      obtain ⟨k, rfl⟩ := Int.eq_ofNat_of_zero_le (show 0 ≤ n by omega)
      have kk := ((Keeps.refl (fun j => j = b) w).put (g := b) (Or.inl rfl) 4 (.int .i64 (k : Int))).put (g := b) (Or.inl rfl) 5 (.string keep)
      have hB : Blk _ b 52 (rkc sb sc lv bv { d with armed := (k : Int).toNat, keep := keep }) := (h1.put 4 (.int .i64 (k : Int))).put 5 (.string keep)
      have fin := Lib.hid (h.reput kk hB rfl rfl rfl rfl)
      clear hB kk h h1
      go_enter Tryz.func12, Tryz.ntmps12
      go_wp2_with fail
      go_ret
      exact ⟨rfl, fin.out⟩
set_option maxRecDepth 100000 in
set_option maxHeartbeats 4000000 in
theorem rgoes_any (h : IsRk F w b d) (hf : Fit d) (keep : ByteArray) : Calls Tryz.prog 60 #[.pointer (some ⟨b, 0, none⟩), .string keep] w fun e w' => e = .returned (.tuple #[]) ∧ IsRk F w' b (goesD d keep) ∧ Keeps F w w' := by
  obtain ⟨sb, sc, lv, bv, B, h⟩ := h
  obtain ⟨A1, k1, rfl⟩ := pair_slice h.ls
  have hlen := hf.len
  have hfew := hf.few
  have hloose := Lib.hid hf.loose
  have hne := Lib.hid h.ne
  have hst0 := Lib.hid h.st
  obtain ⟨M, hM⟩ : ∃ M, M = d.L.length := ⟨_, rfl⟩
  obtain ⟨N, hN⟩ : ∃ N, N = d.stays.length := ⟨_, rfl⟩
  rw [← hM] at hlen
  rw [← hN] at hfew
  replace hM := Lib.hid hM
  replace hN := Lib.hid hN
  replace h := Lib.hid h
  clear hf
  go_enter Tryz.func60, Tryz.ntmps60
  go_wp2_with fail
  go_loopw [4] (fun t wr => ∃ k : Nat, k ≤ M ∧ t = .int .i64 (k : Int) ∧ Keeps (fun j => j = sb) w wr ∧ wr.ownsRow 0 9 1 (.slice (some ⟨sb, 0, none⟩) d.stays.length sc) d.stays.length ((applyK keep 0 (d.L.take k) d.stays).map Value.string)) (fun t _ => M - (intOf t).toNat)
  case atStart => exact ⟨0, Nat.zero_le _, rfl, Keeps.refl _ _, hst0.out⟩
  case round =>
    clear hst0
    obtain ⟨k, hk, rfl, kk, hst⟩ := hrel
    have hB := h.out.blk.keeps kk (Ne.symm hne.out.1)
    have hls := own_keeps h.out.ls kk (fun j e => hne.out.2.2.2.1 j e)
    have c0 : wr.cell? ⟨b, 0, none⟩ = some (.slice (some ⟨sb, 0, none⟩) N sc) := by rw [hN.out]; exact hB.cell 0
    have c1 : wr.cell? ⟨b, 1, none⟩ = some (.slice A1 M k1) := by rw [hM.out]; exact hB.cell 1
    by_cases hlt : k < M
    · obtain ⟨p, hp⟩ : ∃ p, d.L[k]? = some p := ⟨_, List.getElem?_eq_getElem (by have := hM.out; omega)⟩
      obtain ⟨hp1, hp2⟩ := hloose.out p (List.mem_of_getElem? hp)
      rw [← hN.out] at hp1
      obtain ⟨g, cap, hv, _⟩ := hls.form (by have := hM.out; omega)
      injection hv with hv _ _
      subst hv
      have l1 := hls.cells (g := g) rfl _ _ (pairs_at hp).1
      have l2 := hls.cells (g := g) rfl _ _ (pairs_at hp).2
      rw [add_lit, Nat.zero_add] at l1 l2
      have z1 : (k : Int) < (M : Int) := by omega
      have z0 : (0 : Int) ≤ (k : Int) := by omega
      have z2 : (p.1 : Int) < (N : Int) := by omega
      have z3 : (0 : Int) ≤ (p.1 : Int) := by omega
      have kh := rhas_any keep k wr (by omega)
      have hsn := applyK_snoc keep p (d.L.take k) 0 d.stays
      rw [← take_succ_of hp, List.length_take_of_le (by have := hM.out; omega), Nat.zero_add] at hsn
      replace hsn := Lib.hid hsn
      clear hp
      by_cases hh : hasN keep k = true
      · rw [hh] at kh
        obtain ⟨hst', fst⟩ := own_put (i := p.1) (u := .string p.2) hst
        obtain ⟨old, hold⟩ : ∃ u, ((applyK keep 0 (d.L.take k) d.stays).map Value.string)[p.1]? = some u := ⟨_, List.getElem?_eq_getElem (by rw [List.length_map, applyK_length, ← hN.out]; exact hp1)⟩
        have cst := hst.cells (g := sb) rfl p.1 old hold
        rw [add_lit, Nat.zero_add] at cst
        have fin : ∃ k' : Nat, k' ≤ M ∧ Value.int .i64 ((k : Int) + 1) = .int .i64 (k' : Int) ∧ Keeps (fun j => j = sb) w (wr.drew.setCell ⟨sb, p.1, none⟩ (.string p.2)) ∧ (wr.drew.setCell ⟨sb, p.1, none⟩ (.string p.2)).ownsRow 0 9 1 (.slice (some ⟨sb, 0, none⟩) d.stays.length sc) d.stays.length ((applyK keep 0 (d.L.take k') d.stays).map Value.string) := by
          refine ⟨k + 1, by omega, rfl, (kk.same (keeps_drew _ wr)).put (Or.inl rfl) _ _, ?_⟩
          rw [hsn.out, if_pos hh, List.map_set]
          exact hst'
        replace fin := Lib.hid fin
        replace kh := Lib.hid kh
        clear hst' hst hls hB kk hold hh hsn hp2 hk
        go_wp2_with fail
        refine (kh.out).mono ?_
        rintro en w' ⟨rfl, hw'⟩
        replace hw' := hw'.symm
        subst hw'
        go_wp2_with fail
        go_region
        go_wp2_with fail
        exact ⟨fin.out, by simp [intOf]; omega⟩
      · have hh' : hasN keep k = false := by simpa using hh
        rw [hh'] at kh
        have fin : ∃ k' : Nat, k' ≤ M ∧ Value.int .i64 ((k : Int) + 1) = .int .i64 (k' : Int) ∧ Keeps (fun j => j = sb) w wr ∧ wr.ownsRow 0 9 1 (.slice (some ⟨sb, 0, none⟩) d.stays.length sc) d.stays.length ((applyK keep 0 (d.L.take k') d.stays).map Value.string) := by
          refine ⟨k + 1, by omega, rfl, kk, ?_⟩
          rw [hsn.out, if_neg hh]
          exact hst
        replace fin := Lib.hid fin
        replace kh := Lib.hid kh
        clear hst hls hB kk hh hh' hsn hp2 hk
        go_wp2_with fail
        refine (kh.out).mono ?_
        rintro en w' ⟨rfl, hw'⟩
        replace hw' := hw'.symm
        subst hw'
        go_wp2_with fail
        exact ⟨fin.out, by simp [intOf]; omega⟩
    · obtain rfl : k = M := by omega
      rw [hM.out, List.take_length] at hst
      have f1 := hB.free 1
      have f6 := hB.free 6
      have f4 := hB.free 4
      have c6 : wr.cell? ⟨b, 6, none⟩ = some (.bool d.dead) := hB.cell 6
      have c4 : wr.cell? ⟨b, 4, none⟩ = some (.int .i64 (d.armed : Int)) := hB.cell 4
      have k3 := (((Keeps.refl (fun j => j = b) wr).put (g := b) (Or.inl rfl) 1 (.slice none 0 0)).put (g := b) (Or.inl rfl) 6 (.bool true)).put (g := b) (Or.inl rfl) 4 (.int .i64 0)
      have hB3 : Blk (((wr.setCell ⟨b, 1, none⟩ (.slice none 0 0)).setCell ⟨b, 6, none⟩ (.bool true)).setCell ⟨b, 4, none⟩ (.int .i64 0)) b 52 (rkc sb sc (.slice none 0 0) bv (goesD d keep)) := by
        have e : rkc sb sc (.slice none 0 0) bv (goesD d keep) = (((rkc sb sc (.slice A1 d.L.length k1) bv d).setIfInBounds 1 (.slice none 0 0)).setIfInBounds 6 (.bool true)).setIfInBounds 4 (.int .i64 0) := by
          simp [rkc, goesD, applyK_length]
        rw [e]
        exact ((hB.put 1 (.slice none 0 0)).put 6 (.bool true)).put 4 (.int .i64 0)
      have k4 := (kk.mono (G := fun j => j = sb ∨ j = b) (fun i e => Or.inl e)).same (k3.mono (G := fun j => j = sb ∨ j = b) (fun i e => Or.inr e))
      have hl : (goesD d keep).stays.length = d.stays.length := applyK_length _ _ _ _
      have fin : IsRk F (((wr.setCell ⟨b, 1, none⟩ (.slice none 0 0)).setCell ⟨b, 6, none⟩ (.bool true)).setCell ⟨b, 4, none⟩ (.int .i64 0)) b (goesD d keep) ∧ Keeps F w (((wr.setCell ⟨b, 1, none⟩ (.slice none 0 0)).setCell ⟨b, 6, none⟩ (.bool true)).setCell ⟨b, 4, none⟩ (.int .i64 0)) := by
        refine ⟨⟨sb, sc, .slice none 0 0, bv, B, hB3, ?_, ⟨rfl, Or.inl ⟨rfl, rfl⟩⟩, own_keeps h.out.bd k4 (fun j e hj => hj.elim (hne.out.2.2.2.2 j e) (hne.out.2.2.1 j e)), h.out.mem, h.out.few, h.out.fb, h.out.fs, (fun j e => by cases e), h.out.fd, fun i hi => Nat.lt_of_lt_of_le (h.out.lt i hi) k4.size⟩, k4.mono (fun i e => ?_)⟩
        · rw [hl]
          exact own_keeps hst k3 (fun j e => by injection e with e; subst e; exact hne.out.1)
        · rcases e with rfl | rfl
          · exact h.out.fs
          · exact h.out.fb
      replace fin := Lib.hid fin
      clear hB hB3 k3 k4 kk hst hls hl hk
      go_wp2_with fail
      go_end0
      exact ⟨rfl, fin.out⟩
set_option maxRecDepth 100000 in
set_option maxHeartbeats 4000000 in
theorem rcrash_any (h : IsRk F w b d) (hf : Fit d) (keep : ByteArray) : Calls Tryz.prog 16 #[.pointer (some ⟨b, 0, none⟩), .string keep] w fun e w' => e = .returned (.int .i64 (crashD d keep).2) ∧ IsRk F w' b (crashD d keep).1 ∧ Keeps F w w' := by
  have kg := Lib.hid (rgoes_any h hf keep)
  have fin := Lib.hid h
  obtain ⟨sb, sc, lv, bv, B, h⟩ := h
  have c6 : w.cell? ⟨b, 6, none⟩ = some (.bool d.dead) := h.blk.cell 6
  clear h hf
  unfold crashD
  rcases Bool.eq_false_or_eq_true d.dead with hd | hd
  · rw [hd] at c6
    rw [if_pos hd]
    replace hd := Lib.hid hd
    go_enter Tryz.func16, Tryz.ntmps16
    go_wp2_with fail
    go_ret
    exact ⟨rfl, fin.out, Keeps.refl _ _⟩
  · rw [hd] at c6
    rw [if_neg (by rw [hd]; decide)]
    replace hd := Lib.hid hd
    go_enter Tryz.func16, Tryz.ntmps16
    go_wp2_with fail
    refine kg.out.mono ?_
    rintro e w1 ⟨rfl, hw⟩
    replace hw := Lib.hid hw
    go_wp2_with fail
    go_ret
    exact ⟨rfl, hw.out⟩
set_option maxRecDepth 100000 in
set_option maxHeartbeats 4000000 in
theorem rimage_any (h : IsRk F w b d) (hf : Fit d) : Calls Tryz.prog 26 #[.pointer (some ⟨b, 0, none⟩)] w fun e w' => e = .returned (.string (img d)) ∧ w' = w := by
  obtain ⟨sb, sc, lv, bv, B, h⟩ := h
  obtain ⟨c0, _⟩ := h.cells
  have hst := Lib.hid h.st
  have hfew := hf.few
  have heach := Lib.hid hf.each
  clear h hf
  rw [img_cat]
  obtain ⟨N, hN⟩ : ∃ N, N = d.stays.length := ⟨_, rfl⟩
  rw [← hN] at c0 hfew
  replace hN := Lib.hid hN
  go_enter Tryz.func26, Tryz.ntmps26
  go_wp2_with fail
  go_loop [3, 4] (fun v t => ∃ k : Nat, k ≤ N ∧ t = .int .i64 (k : Int) ∧ v = .string (cat (d.stays.take k))) (fun _ t => N - (intOf t).toNat)
  case atStart => exact ⟨0, Nat.zero_le _, rfl, rfl⟩
  case round =>
    obtain ⟨k, hk, rfl, rfl⟩ := hrel
    by_cases hlt : k < N
    · obtain ⟨s, hs⟩ : ∃ s, d.stays[k]? = some s := ⟨_, List.getElem?_eq_getElem (by have := hN.out; omega)⟩
      have hsz : s.size ≤ 64 := Nat.le_of_eq (heach.out s (List.mem_of_getElem? hs))
      have cst := cells_of_own hst.out k (.string s) (by rw [List.getElem?_map, hs]; rfl)
      rw [Nat.zero_add] at cst
      have hcs : cat (d.stays.take (k + 1)) = cat (d.stays.take k) ++ s := by rw [take_succ_of hs, cat_snoc]
      have hTz : (cat (d.stays.take k)).size ≤ 1048576 := by
        rw [cat_size (fun s hs => heach.out s (List.mem_of_mem_take hs)), List.length_take]
        omega
      have z1 : (k : Int) < (N : Int) := by omega
      generalize cat (d.stays.take k) = T at hcs hTz ⊢
      replace hcs := Lib.hid hcs
      clear hs
      go_wp2_with fail
      exact ⟨⟨k + 1, hlt, rfl, by rw [hcs.out]⟩, by simp [intOf]; omega⟩
    · obtain rfl : k = N := by omega
      have e : d.stays.take k = d.stays := by rw [hN.out, List.take_length]
      rw [e]
      replace e := Lib.hid e
      go_wp2_with fail
      go_ret
      exact ⟨rfl, rfl⟩
end
end Go.Proofs.YtkghlbpkdkonbaaGreat.Disk

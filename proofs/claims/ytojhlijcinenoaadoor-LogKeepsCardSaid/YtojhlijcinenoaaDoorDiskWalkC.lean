/- The power goes: goes, Crash. -/
import Derived.Test.YtojhlijcinenoaaDoorDiskWalkB
import Derived.Test.YtojhlijcinenoaaDoorDiskHas
import Derived.Test.YtojhlijcinenoaaDoorDiskPl
import Derived.Deep.RegionHeld3
namespace Go.Proofs.YtojhlijcinenoaaDoor.Disk
open Go Go.RowKit Go.Maps Mem

set_option maxRecDepth 100000 in
/-- a store into a row of one's own -/
theorem own_put {w : World} {base g n cap i : Nat} {e : TypeId} {xs : List Value} {u : Value} (h : w.ownsRow base e 1 (.slice (some ⟨g, 0, none⟩) n cap) n xs) :
    (w.setCell ⟨g, i, none⟩ u).ownsRow base e 1 (.slice (some ⟨g, 0, none⟩) n cap) n (xs.set i u) ∧ w.frozen? ⟨g, i, none⟩ = false := by
  obtain ⟨h1, ⟨h2, _⟩ | ⟨g', cap', cur, hv, hb, hg, hnc, hm, hs, ht⟩⟩ := h
  · cases h2
  · injection hv with hv1 _ hv2
    injection hv1 with hv1
    obtain rfl : g = g' := congrArg Addr.block hv1
    obtain rfl : cap = cap' := hv2
    refine ⟨⟨by rw [List.length_set]; exact h1, Or.inr ⟨g, cap, cur.setIfInBounds i u, rfl, hb, heap_setCell_same w g i cur e u hg, hnc, hm, by rw [Array.size_setIfInBounds]; exact hs, ?_⟩⟩, frozen_of_row w g i cur e hg⟩
    rw [Array.toList_setIfInBounds, ← ht, List.take_set]
set_option maxRecDepth 100000 in
theorem keeps_drew (F : Nat → Prop) (w : World) : Keeps F w w.drew := ⟨rfl, rfl, rfl, Nat.le_refl _, fun _ _ _ => rfl⟩
set_option maxRecDepth 100000 in
theorem own_slice {w : World} {base n : Nat} {e : TypeId} {v : Value} {xs : List Value} (h : w.ownsRow base e 1 v n xs) : ∃ A c, v = .slice A n c := by
  obtain ⟨_, ⟨h2, h3⟩ | ⟨g, cap, _, hv, _⟩⟩ := h
  · subst h3; exact ⟨_, _, h2⟩
  · exact ⟨_, _, hv⟩
set_option maxRecDepth 100000 in
theorem applyK_snoc (keep : ByteArray) (p : Nat × ByteArray) : ∀ (L : List (Nat × ByteArray)) (i : Nat) (st : List ByteArray), applyK keep i (L ++ [p]) st = if hasN keep (i + L.length) = true then (applyK keep i L st).set p.1 p.2 else applyK keep i L st
  | [], i, st => by simp [applyK]
  | q :: L, i, st => by
    rw [List.cons_append, applyK, applyK_snoc keep p L, applyK, List.length_cons, show i + 1 + L.length = i + (L.length + 1) by omega]
set_option maxRecDepth 100000 in
theorem take_succ_of {α : Type} {L : List α} {k : Nat} {p : α} (h : L[k]? = some p) : L.take (k + 1) = L.take k ++ [p] := by
  rw [List.take_add_one, h]; rfl

section
variable {F : Nat → Prop} {w w' : World} {b : Nat} {d d' : Dk} {sb lb bb sc : Nat} {ov : Value}
set_option maxRecDepth 100000 in
/-- nothing is loose any more -/
theorem Core.fin (h : Core F w b d sb lb bb sc ov) (kk : Keeps (fun j => j = sb ∨ j = lb ∨ j = b) w w') (hB : Blk w' b 72 (dkc sb lb bb sc (.slice none 0 0) d'))
    (hst : w'.ownsRow 0 9 1 (.slice (some ⟨sb, 0, none⟩) d.stays.length sc) d.stays.length (d'.stays.map Value.string)) (hm : MapS w' lb [])
    (e1 : d'.stays.length = d.stays.length) (e2 : d'.L = []) (e3 : d'.bad = d.bad) (e4 : d'.marks = d.marks) : IsDk F w' b d' ∧ Keeps F w w' := by
  have hne := h.ne
  obtain ⟨h1, h2, h3, h4, h5, h6, h7, h8, h9⟩ := h
  refine ⟨⟨sb, lb, bb, sc, .slice none 0 0, hB, ?_, ?_, ?_, ?_, h6, h7, (fun j e => by cases e), fun i hi => Nat.lt_of_lt_of_le (h9 i hi) kk.size⟩, kk.mono (fun i e => ?_)⟩
  · rw [e1]; exact hst
  · rw [e2]; exact hm
  · rw [e3, e4]; exact h4.keeps kk (fun e => e.elim (Ne.symm hne.2.2.2.2.2.1) (fun e => e.elim (Ne.symm h6) hne.2.2.1))
  · rw [e2]; exact ⟨rfl, Or.inl ⟨rfl, rfl⟩⟩
  · rcases e with rfl | rfl | rfl
    · exact h7.2.1
    · exact h7.2.2.1
    · exact h7.1

set_option maxRecDepth 100000 in
set_option maxHeartbeats 4000000 in
theorem goes_any (h : IsDk F w b d) (hf : Fit d) (keep : ByteArray) : Calls Tryd.prog 39 #[.pointer (some ⟨b, 0, none⟩), .string keep] w fun e w' => e = .returned (.int .i64 2) ∧ IsDk F w' b (goesD d keep) ∧ Keeps F w w' := by
  obtain ⟨sb, lb, bb, sc, ov, h⟩ := h.core
  obtain ⟨A, oc, rfl⟩ := own_slice h.2.2.2.2.1
  have h1 := h.1
  have c2 : w.cell? ⟨b, 2, none⟩ = some (.slice A d.L.length oc) := h1.cell 2
  have hst0 := h.2.1
  have hLm : d.L.length ≤ 9223372036854775807 := by
    rcases h.2.2.2.2.1.2 with ⟨_, hz⟩ | ⟨g, cap, cur, _, _, _, hle, hm, _⟩
    · omega
    · unfold maxLen at hm; omega
  have hfew := Lib.hid hf.few
  have hloose := Lib.hid hf.loose
  have hapart := Lib.hid hf.apart
  have hne := Lib.hid h.ne
  replace h := Lib.hid h
  replace hst0 := Lib.hid hst0
  clear h1 hf
  go_enter Tryd.func39, Tryd.ntmps39
  go_wp2_with fail
  clear c2
  go_loopw [12] (fun t wr => ∃ k : Nat, k ≤ d.L.length ∧ t = .int .i64 (k : Int) ∧ Keeps (fun j => j = sb) w wr ∧ wr.ownsRow 0 9 1 (.slice (some ⟨sb, 0, none⟩) d.stays.length sc) d.stays.length ((applyK keep 0 (d.L.take k) d.stays).map Value.string)) (fun t _ => d.L.length - (intOf t).toNat)
  case atStart => exact ⟨0, Nat.zero_le _, rfl, Keeps.refl _ _, hst0.out⟩
  case round =>
    obtain ⟨k, hk, rfl, kk, hst⟩ := hrel
    have hB := h.out.1.keeps kk (Ne.symm hne.out.1)
    have hmS := h.out.2.2.1.keeps kk (Ne.symm hne.out.2.2.2.2.1)
    have hov := own_keeps h.out.2.2.2.2.1 kk hne.out.2.2.2.2.2.2.2.2
    have c0 : wr.cell? ⟨b, 0, none⟩ = some (.slice (some ⟨sb, 0, none⟩) d.stays.length sc) := hB.cell 0
    have c1 : wr.cell? ⟨b, 1, none⟩ = some (.map (some lb)) := hB.cell 1
    by_cases hlt : k < d.L.length
    · obtain ⟨p, hp⟩ : ∃ p, d.L[k]? = some p := ⟨_, List.getElem?_eq_getElem hlt⟩
      have hpm := List.mem_of_getElem? hp
      obtain ⟨hp1, hp2⟩ := hloose.out p hpm
      have hfi : find d.L p.1 = some p.2 := find_mem hapart.out hpm
      obtain ⟨ad, u, ha, hu, hc⟩ := (Mem.Row.of_own hov).at_ (k := k) hlt
      subst ha
      rw [List.getElem?_map, hp] at hu
      injection hu with hu
      subst hu
      obtain ⟨g, cap, hv, _⟩ := hov.form (by omega)
      injection hv with hv1 _ hv2
      injection hv1 with hv1
      subst hv1 hv2
      rw [add_lit, Nat.zero_add] at hc
      have hfew' := hfew.out
      have lk := (hmS.keeps (keeps_drew (fun _ => False) wr) (fun h => h)).look p.1 (by omega) false
      rw [hfi] at lk
      simp only [Bool.false_eq_true, if_false, Option.getD_some] at lk
      have kh := Lib.hid (has_any keep k wr (by omega))
      have hsn : applyK keep 0 (d.L.take (k + 1)) d.stays = if hasN keep k = true then (applyK keep 0 (d.L.take k) d.stays).set p.1 p.2 else applyK keep 0 (d.L.take k) d.stays := by
        rw [take_succ_of hp, applyK_snoc, Nat.zero_add, List.length_take, Nat.min_eq_left (Nat.le_of_lt hlt)]
      replace hsn := Lib.hid hsn
      replace hp := Lib.hid hp
      replace hfi := Lib.hid hfi
      by_cases hh : hasN keep k = true
      · rw [hh] at kh
        obtain ⟨hst', fst⟩ := own_put (i := p.1) (u := .string p.2) hst.drew
        obtain ⟨old, hold⟩ : ∃ u, ((applyK keep 0 (d.L.take k) d.stays).map Value.string)[p.1]? = some u := ⟨_, List.getElem?_eq_getElem (by rw [List.length_map, applyK_length]; exact hp1)⟩
        have cst := hst.cells (g := sb) rfl p.1 old hold
        rw [add_lit, Nat.zero_add] at cst
        have fin : ∃ k' : Nat, k' ≤ d.L.length ∧ Value.int .i64 ((k : Int) + 1) = .int .i64 (k' : Int) ∧ Keeps (fun j => j = sb) w (wr.drew.setCell ⟨sb, p.1, none⟩ (.string p.2)) ∧ (wr.drew.setCell ⟨sb, p.1, none⟩ (.string p.2)).ownsRow 0 9 1 (.slice (some ⟨sb, 0, none⟩) d.stays.length sc) d.stays.length ((applyK keep 0 (d.L.take k') d.stays).map Value.string) := by
          refine ⟨k + 1, by omega, rfl, (kk.same (keeps_drew _ wr)).put (Or.inl rfl) _ _, ?_⟩
          rw [hsn.out, if_pos hh, List.map_set]
          exact hst'
        replace fin := Lib.hid fin
        clear hst' hst hov hmS hB kk hold hh hsn
        go_wp2_with fail
        refine kh.out.mono ?_
        rintro e w1 ⟨rfl, hw⟩
        subst hw
        go_wp2_with fail
        go_region
        go_wp2_with fail
        exact ⟨fin.out, by simp [intOf]; omega⟩
      · have hh' : hasN keep k = false := by simpa using hh
        rw [hh'] at kh
        have fin : ∃ k' : Nat, k' ≤ d.L.length ∧ Value.int .i64 ((k : Int) + 1) = .int .i64 (k' : Int) ∧ Keeps (fun j => j = sb) w wr ∧ wr.ownsRow 0 9 1 (.slice (some ⟨sb, 0, none⟩) d.stays.length sc) d.stays.length ((applyK keep 0 (d.L.take k') d.stays).map Value.string) := by
          refine ⟨k + 1, by omega, rfl, kk, ?_⟩
          rw [hsn.out, if_neg hh]
          exact hst
        replace fin := Lib.hid fin
        clear hst hov hmS hB kk hh hh' hsn
        go_wp2_with fail
        refine kh.out.mono ?_
        rintro e w1 ⟨rfl, hw⟩
        subst hw
        go_wp2_with fail
        exact ⟨fin.out, by simp [intOf]; omega⟩
    · obtain rfl : k = d.L.length := by omega
      rw [List.take_length] at hst
      obtain ⟨w2, hrun, hm2, hg⟩ := hmS.clear
      have kg : Keeps (fun j => j = lb) wr w2 := Keeps.of_grown hg (fun j e => by injection e with e; exact e.symm)
      have hB2 := hB.keeps kg (Ne.symm hne.out.2.1)
      have hst2 := own_keeps hst kg (fun j e => by injection e with e; subst e; exact hne.out.2.2.2.2.1)
      have k2 : Keeps (fun j => j = sb ∨ j = lb ∨ j = b) w w2 := (kk.mono (fun i e => Or.inl e)).same (kg.mono (fun i e => Or.inr (Or.inl e)))
      have f2 := hB2.free 2
      have f5 := hB2.free 5
      have f7 := hB2.free 7
      have d2 : w2.cell? ⟨b, 2, none⟩ = some (.slice A d.L.length oc) := hB2.cell 2
      have d5 : w2.cell? ⟨b, 5, none⟩ = some (.int .i64 (d.armed : Int)) := hB2.cell 5
      have d7 : w2.cell? ⟨b, 7, none⟩ = some (.bool d.dead) := hB2.cell 7
      have k3 : Keeps (fun j => j = b) w2 (((w2.setCell ⟨b, 2, none⟩ (.slice none 0 0)).setCell ⟨b, 7, none⟩ (.bool true)).setCell ⟨b, 5, none⟩ (.int .i64 0)) :=
        (((Keeps.refl (fun j => j = b) w2).put (g := b) (Or.inl rfl) 2 _).put (g := b) (Or.inl rfl) 7 _).put (g := b) (Or.inl rfl) 5 _
      have hB3 : Blk (((w2.setCell ⟨b, 2, none⟩ (.slice none 0 0)).setCell ⟨b, 7, none⟩ (.bool true)).setCell ⟨b, 5, none⟩ (.int .i64 0)) b 72 (dkc sb lb bb sc (.slice none 0 0) (goesD d keep)) := by
        have := ((hB2.put 2 (.slice none 0 0)).put 7 (.bool true)).put 5 (.int .i64 0)
        have e : (goesD d keep).stays.length = d.stays.length := applyK_length _ _ _ _
        unfold dkc
        rw [e]
        exact this
      have fin := h.out.fin (d' := goesD d keep) (k2.same (k3.mono (fun i e => Or.inr (Or.inr e)))) hB3 (own_keeps hst2 k3 (fun j e => by injection e with e; subst e; exact hne.out.1)) (hm2.keeps k3 hne.out.2.1) (applyK_length _ _ _ _) rfl rfl rfl
      replace fin := Lib.hid fin
      clear hB3 k3 k2 hst2 hB2 kg hg hm2 hst hov hmS hB kk
      go_wp2_with fail
      go_ret
      exact ⟨rfl, fin.out⟩
set_option maxRecDepth 100000 in
set_option maxHeartbeats 4000000 in
theorem crash_any (h : IsDk F w b d) (hf : Fit d) (keep : ByteArray) : Calls Tryd.prog 10 #[.pointer (some ⟨b, 0, none⟩), .string keep] w fun e w' => e = .returned (.int .i64 (crashD d keep).2) ∧ IsDk F w' b (crashD d keep).1 ∧ Keeps F w w' := by
  have kg := Lib.hid (goes_any h hf keep)
  have fin := Lib.hid h
  obtain ⟨sb, lb, bb, sc, ov, h⟩ := h.core
  have c7 : w.cell? ⟨b, 7, none⟩ = some (.bool d.dead) := h.1.cell 7
  clear h hf
  unfold crashD
  rcases Bool.eq_false_or_eq_true d.dead with hd | hd
  · rw [hd] at c7
    rw [if_pos hd]
    replace hd := Lib.hid hd
    go_enter Tryd.func10, Tryd.ntmps10
    go_wp2_with fail
    go_ret
    exact ⟨rfl, fin.out, Keeps.refl _ _⟩
  · rw [hd] at c7
    rw [if_neg (by rw [hd]; decide)]
    replace hd := Lib.hid hd
    go_enter Tryd.func10, Tryd.ntmps10
    go_wp2_with fail
    refine kg.out.mono ?_
    rintro e w1 ⟨rfl, hw⟩
    replace hw := Lib.hid hw
    go_wp2_with fail
    go_ret
    exact ⟨rfl, hw.out⟩
end
end Go.Proofs.YtojhlijcinenoaaDoor.Disk

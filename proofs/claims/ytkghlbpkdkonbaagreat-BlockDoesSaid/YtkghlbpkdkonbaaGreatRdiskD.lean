/- The document's disk: Write, the walk. -/
import Derived.Test.YtkghlbpkdkonbaaGreatRdiskC
namespace Go.Proofs.YtkghlbpkdkonbaaGreat.Disk
open Go Go.RowKit Go.Maps Mem

set_option maxRecDepth 100000 in
theorem own_putN {w : World} {base g n cap i sz : Nat} {e : TypeId} {xs : List Value} {u : Value} (h : w.ownsRow base e sz (.slice (some ⟨g, 0, none⟩) n cap) n xs) :
    (w.setCell ⟨g, i, none⟩ u).ownsRow base e sz (.slice (some ⟨g, 0, none⟩) n cap) n (xs.set i u) ∧ w.frozen? ⟨g, i, none⟩ = false := by
  obtain ⟨h1, ⟨h2, _⟩ | ⟨g', cap', cur, hv, hb, hg, hnc, hm, hs, ht⟩⟩ := h
  · cases h2
  · injection hv with hv1 _ hv2
    injection hv1 with hv1
    obtain rfl : g = g' := congrArg Addr.block hv1
    obtain rfl : cap = cap' := hv2
    refine ⟨⟨by rw [List.length_set]; exact h1, Or.inr ⟨g, cap, cur.setIfInBounds i u, rfl, hb, heap_setCell_same w g i cur e u hg, hnc, hm, by rw [Array.size_setIfInBounds]; exact hs, ?_⟩⟩, frozen_of_row w g i cur e hg⟩
    rw [Array.toList_setIfInBounds, ← ht, List.take_set]
section
variable {F : Nat → Prop} {w W w' : World} {b : Nat} {d : Dk} {sb sc : Nat} {lv bv : Value} {B : List Nat}
set_option maxRecDepth 100000 in
/-- other loose sectors, in a row of one's own -/
theorem RCore.relist (h : RCore F W b d sb sc lv bv B) {H n : Nat} {v : Value} {L' : List (Nat × ByteArray)} (ho : W.ownsRow H 123 2 v n (pairs L')) (hL : L'.length = n) (hH : ∀ i, F i → i < H) :
    IsRk (fun i => F i ∨ v.ownBlock = some i) (W.setCell ⟨b, 1, none⟩ v) b { d with L := L' } ∧ Keeps F W (W.setCell ⟨b, 1, none⟩ v) := by
  have hne := h.ne
  have kk := (Keeps.refl (fun j => j = b) W).put (g := b) (Or.inl rfl) 1 v
  have hvb : ∀ j, v.ownBlock = some j → j ≠ b := fun j e => by have := (ho.lt j e).1; have := hH b h.fb; omega
  subst hL
  refine ⟨⟨sb, sc, v, bv, B, h.blk.put 1 v, own_keeps h.st kk (fun j e => by injection e with e; subst e; exact hne.1), own_base (own_keeps ho kk hvb) (Nat.zero_le _), own_keeps h.bd kk hne.2.2.1, h.mem, h.few, Or.inl h.fb, Or.inl h.fs, fun j e => Or.inr e, fun j e => Or.inl (h.fd j e), fun i hi => ?_⟩, kk.mono (fun i e => e ▸ h.fb)⟩
  rcases hi with hi | hi
  · exact Nat.lt_of_lt_of_le (h.lt i hi) kk.size
  · exact Nat.lt_of_lt_of_le (ho.lt i hi).2 kk.size
set_option maxRecDepth 100000 in
set_option maxHeartbeats 16000000 in
theorem rwrite_any (h : IsRk F w b d) (hn : Num d) (hf : Fit d) (n : Int) (s : ByteArray) : Calls Tryz.prog 51 #[.pointer (some ⟨b, 0, none⟩), .int .i64 n, .string s] w fun e w' =>
    e = .returned (.int .i64 (writeD d n s).2) ∧ ∃ F', IsRk F' w' b (writeD d n s).1 ∧ Keeps F w w' ∧ ∀ i, F' i → F i ∨ w.heap.size ≤ i := by
  have km := Lib.hid (rmay_any h n)
  have kb := Lib.hid (fun k => rbad_any_ h k hn.marks)
  have fin0 := Lib.hid (show ∃ F', IsRk F' w b d ∧ Keeps F w w ∧ ∀ i, F' i → F i ∨ w.heap.size ≤ i from ⟨F, h, Keeps.refl _ _, fun i hi => Or.inl hi⟩)
  unfold writeD
  by_cases he : mayE d n = 0
  · obtain ⟨_, h0, hlt⟩ := mayE_ok he
    rw [if_neg (by rw [he]; decide)]
    rw [he] at km
    replace km := Lib.hid km.out
    obtain ⟨k, rfl⟩ := Int.eq_ofNat_of_zero_le h0
    rw [Int.toNat_natCast]
    replace he := Lib.hid he
    have kb' := kb.out k
    clear kb
    by_cases hs : s.size = 64
    · rw [if_neg (by omega)]
      cases hb : d.bad k with
      | true =>
        rw [hb] at kb'
        rw [if_pos rfl]
        replace hb := Lib.hid hb
        replace kb' := Lib.hid kb'
        clear h hn hf
        have e0 : ((s.size : Int) != 64) = false := by rw [hs]; rfl
        clear hs
        go_enter Tryz.func51, Tryz.ntmps51
        go_wp2_with fail
        refine (km.out).mono ?_
        rintro en w' ⟨rfl, hw'⟩
        replace hw' := hw'.symm
        subst hw'
        go_wp2_with fail
        refine (kb'.out).mono ?_
        rintro en w' ⟨rfl, hw'⟩
        replace hw' := hw'.symm
        subst hw'
        go_wp2_with fail
        go_ret
        exact ⟨rfl, fin0.out⟩
      | false =>
        rw [hb] at kb'
        rw [if_neg (by decide)]
        replace hb := Lib.hid hb
        replace kb' := Lib.hid kb'
        obtain ⟨sb, sc, lv, bv, B, h⟩ := h
        obtain ⟨A0, c0, rfl⟩ := pair_slice h.ls
        have c1 : w.cell? ⟨b, 1, none⟩ = some (.slice A0 d.L.length c0) := h.blk.cell 1
        have c1a : (w.alloc (.cells #[] 123)).cell? ⟨b, 1, none⟩ = some (.slice A0 d.L.length c0) := (h.blk.alloc _).cell 1
        have hlen := hf.len
        have hfit1 := Lib.hid (hf.putL (k := k) (s := s) (by omega) hs)
        have hnum1 := Lib.hid (show Num { d with L := putL d.L k s } from ⟨hn.steps, hn.armed, hn.marks⟩)
        have hap := Lib.hid hf.apart
        have e0 : ((s.size : Int) != 64) = false := by rw [hs]; rfl
        clear hs hf hn
        obtain ⟨dr, hdr⟩ : ∃ dr, dr = stepped { d with L := putL d.L k s } id := ⟨_, rfl⟩
        rw [← hdr]
        replace hdr := Lib.hid hdr
        obtain ⟨H, hH⟩ : ∃ H, H = w.heap.size := ⟨_, rfl⟩
        obtain ⟨M, hM⟩ : ∃ M, M = d.L.length := ⟨_, rfl⟩
        have hFH : ∀ i, F i → i < H := fun i hi => by rw [hH]; exact h.lt i hi
        have own0 : (w.alloc (.cells #[] 123)).ownsRow H 123 2 (.slice (some ⟨w.heap.size, 0, none⟩) 0 0) 0 [] := World.ownsRow_made w #[] 0 (Nat.le_of_eq hH) (by decide) rfl
        have own1 := h.ls.alloc (.cells #[] 123)
        have hb0 : Below H w (w.alloc (.cells #[] 123)) := (Below.refl _ w).alloc (Nat.le_of_eq hH) _
        have hs0 : H ≤ (w.alloc (.cells #[] 123)).heap.size := by simp; omega
        rw [← hM] at c1 c1a own1 hlen
        replace own0 := Lib.hid own0
        replace own1 := Lib.hid own1
        replace hb0 := Lib.hid hb0
        replace hs0 := Lib.hid hs0
        replace hH := Lib.hid hH
        replace hM := Lib.hid hM
        replace hFH := Lib.hid hFH
        replace h := Lib.hid h
        obtain ⟨i0, hinf, hz0, hz1, hz2⟩ := info_parts infoL
        go_enter Tryz.func51, Tryz.ntmps51
        go_wp2_with fail
        refine (km.out).mono ?_
        rintro en w' ⟨rfl, hw'⟩
        replace hw' := hw'.symm
        subst hw'
        go_wp2_with fail
        refine (kb'.out).mono ?_
        rintro en w' ⟨rfl, hw'⟩
        replace hw' := hw'.symm
        subst hw'
        go_wp2_with (first
          | (refine wpList_append_ownrow _ (.tmp 23) (.tmp 27) 49 rfl H 123 i0 (.agg #[.int .i64 0, .string ⟨#[]⟩]) 2 24 Tryz.underlying49 hinf hz0 hz1 hz2 rfl (by decide) _ _ _ rfl own0.out 0 (.slice A0 M c0) M (pairs d.L) rfl own1.out (pairs_one _) (by unfold maxLen; omega) (by omega) hs0.out rfl ?_; intro v1 w1 o1 g1 n1))
        have hb1 : Below w.heap.size w w1 := by
          have e := hH.out
          have b0 := hb0.out
          rw [e] at b0
          exact b0.trans (Only.toBelow g1 (Nat.le_refl _) b0.size)
        clear n1 g1 c1 c1a own0 own1 hb0 hs0
        rw [Nat.zero_add, List.nil_append] at o1
        obtain ⟨A, c, rfl⟩ := pair_slice o1
        replace o1 := Lib.hid o1
        replace hb1 := Lib.hid hb1
        go_wp2_with fail
        go_loopw [9, 10] (fun v t wr => ∃ i : Nat, i ≤ M ∧ t = .int .i64 (i : Int) ∧ v = .bool (seen k i d.L) ∧ wr.ownsRow H 123 2 (.slice A M c) M (pairs (upd k s i d.L)) ∧ Below w.heap.size w wr) (fun _ t _ => M - (intOf t).toNat)
        case atStart => exact ⟨0, Nat.zero_le _, rfl, rfl, by rw [upd_zero]; exact o1.out, hb1.out⟩
        case round =>
          clear o1 hb1
          obtain ⟨i, hi, rfl, rfl, o, hb⟩ := hrel
          by_cases hlti : i < M
          · obtain ⟨p, hp⟩ : ∃ p, d.L[i]? = some p := ⟨_, List.getElem?_eq_getElem (by have := hM.out; omega)⟩
            obtain ⟨g, cap, hv, _⟩ := o.form (by omega)
            injection hv with hv _ hv2
            subst hv
            have l1 := o.cells (g := g) rfl _ _ (pairs_at (upd_at (n := k) (s := s) hp)).1
            have l2 := o.cells (g := g) rfl _ _ (pairs_at (upd_at (n := k) (s := s) hp)).2
            rw [add_lit, Nat.zero_add] at l1 l2
            have z0 : (0 : Int) ≤ (i : Int) := by omega
            have z1 : (i : Int) < (M : Int) := by omega
            have us := upd_succ (n := k) (s := s) hp
            have ss := seen_succ (n := k) hp
            have hgH := (o.lt g rfl).1
            by_cases hpk : p.1 = k
            · rw [if_pos hpk] at us
              have hpp : (upd k s i d.L)[i]? = some (k, p.2) := by rw [← hpk]; exact upd_at hp
              obtain ⟨o2, fz⟩ := own_putN (i := i * 2 + 1) (u := .string s) o
              rw [pairs_set _ _ _ _ s hpp, ← us] at o2
              have hb2 := hb.setCell (p := ⟨g, i * 2 + 1, none⟩) (by rw [← hH.out]; exact hgH) (.string s)
              have q1 : ((k : Int) == (k : Int)) = true := by simp
              rw [hpk] at l1
              have sst : seen k (i + 1) d.L = true := by rw [ss, hpk]; simp
              clear hp us ss hpp o hb hpk
              replace o2 := Lib.hid o2
              replace hb2 := Lib.hid hb2
              replace sst := Lib.hid sst
              go_wp2_with fail
              exact ⟨⟨i + 1, hlti, rfl, by rw [sst.out], o2.out, hb2.out⟩, by simp [intOf]; omega⟩
            · rw [if_neg hpk, set_same (upd_at hp)] at us
              have sst : seen k (i + 1) d.L = seen k i d.L := by rw [ss]; simp [hpk]
              have q1 : ((p.1 : Int) == (k : Int)) = false := by simp; omega
              rw [← us] at o
              clear hp us ss hpk l2
              replace o := Lib.hid o
              replace hb := Lib.hid hb
              replace sst := Lib.hid sst
              go_wp2_with fail
              exact ⟨⟨i + 1, hlti, rfl, by rw [sst.out], o.out, hb.out⟩, by simp [intOf]; omega⟩
          · obtain rfl : i = M := by omega
            have hpl := putL_seen k s d.L
            rw [← hM.out] at hpl
            obtain ⟨sn, hsn⟩ : ∃ sn, sn = seen k i d.L := ⟨_, rfl⟩
            rw [← hsn] at hpl ⊢
            replace hsn := Lib.hid hsn
            cases sn with
            | true =>
              rw [if_pos rfl] at hpl
              rw [← hpl] at o
              obtain ⟨A2, rfl⟩ : ∃ A2, A2 = A := ⟨_, rfl⟩
              obtain ⟨M2, rfl⟩ : ∃ M2, M2 = i := ⟨_, rfl⟩
              obtain ⟨c2, rfl⟩ : ∃ c2, c2 = c := ⟨_, rfl⟩
              obtain ⟨W, rfl⟩ : ∃ W, W = wr := ⟨_, rfl⟩
              have hW := h.out.below hb
              have o2 := o
              have hl2 : (putL d.L k s).length = M2 := by rw [hpl, upd_length]; exact hM.out.symm
              have hbW := hb
              clear o hb hpl
              obtain ⟨h2, kk2⟩ := hW.relist o2 hl2 hFH.out
              have hk2 : Keeps F w (W.setCell ⟨b, 1, none⟩ (.slice A2 M2 c2)) := (Keeps.of_below F hbW).same kk2
              have hF2 : ∀ j, (F j ∨ (Value.slice A2 M2 c2).ownBlock = some j) → F j ∨ w.heap.size ≤ j := fun j hj => hj.elim Or.inl (fun e => Or.inr (by rw [← hH.out]; exact (o2.lt j e).1))
              have cw : W.cell? ⟨b, 1, none⟩ = some (.slice A0 d.L.length c0) := hW.blk.cell 1
              have fw := hW.blk.free 1
              clear hW o2 hl2 hbW kk2
              replace h2 := Lib.hid h2
              replace hk2 := Lib.hid hk2
              replace hF2 := Lib.hid hF2
              by_cases ha : d.armed = 1
              · have kr := rstep_any h2.out hnum1.out
                rw [show decide (({ d with L := putL d.L k s } : Dk).armed = 1) = true from decide_eq_true ha] at kr
                have e1 : dr = (goesD (stepD { d with L := putL d.L k s }) d.keep, 2) := by rw [hdr.out]; unfold stepped; rw [if_pos ha]
                replace kr := Lib.hid kr
                replace e1 := Lib.hid e1
                clear ha
                go_wp2_with fail
                refine kr.out.mono ?_
                rintro en w3 ⟨rfl, h3, k3⟩
                have hk3 := hk2.out.trans k3 hF2.out
                have hs2 := hk2.out.size
                have ck : w3.cell? ⟨b, 5, none⟩ = some (.string d.keep) := by
                  obtain ⟨_, _, _, _, _, hc⟩ := h3
                  exact hc.cells.2.2.2.2.2.1
                have kg := Lib.hid (rgoes_any h3 hfit1.out.step d.keep)
                replace hk3 := Lib.hid hk3
                clear h2 hk2 k3 cw fw h3 kr
                go_wp2_with fail
                refine kg.out.mono ?_
                rintro en w4 ⟨rfl, h4, k4⟩
                have hk4 := hk3.out.trans k4 hF2.out
                replace h4 := Lib.hid h4
                replace hk4 := Lib.hid hk4
                go_wp2_with fail
                go_ret
                rw [e1.out]
                exact ⟨rfl, _, h4.out, hk4.out, hF2.out⟩
              · have kr := rstep_any h2.out hnum1.out
                rw [show decide (({ d with L := putL d.L k s } : Dk).armed = 1) = false from decide_eq_false ha] at kr
                have e1 : dr = (stepD { d with L := putL d.L k s }, 0) := by rw [hdr.out]; unfold stepped; rw [if_neg ha]; rfl
                replace kr := Lib.hid kr
                replace e1 := Lib.hid e1
                clear ha
                go_wp2_with fail
                refine kr.out.mono ?_
                rintro en w3 ⟨rfl, h3, k3⟩
                have hk3 := hk2.out.trans k3 hF2.out
                replace hk3 := Lib.hid hk3
                replace h3 := Lib.hid h3
                clear h2 hk2 k3 cw fw kr
                go_wp2_with fail
                go_ret
                rw [e1.out]
                exact ⟨rfl, _, h3.out, hk3.out, hF2.out⟩
            | false =>
              rw [if_neg (by decide)] at hpl
              have oa := o.alloc (.cells #[.int .i64 (k : Int), .string s] 123)
              have hba := hb.alloc hb.size (.cells #[.int .i64 (k : Int), .string s] 123)
              have hnew := World.news_of_block (Blk.new wr 123 #[.int .i64 (k : Int), .string s])
              have hHs : H ≤ (wr.alloc (.cells #[.int .i64 (k : Int), .string s] 123)).heap.size := by rw [hH.out]; exact hba.size
              replace oa := Lib.hid oa
              replace hba := Lib.hid hba
              replace hHs := Lib.hid hHs
              replace hnew := Lib.hid hnew
              replace hpl := Lib.hid hpl
              clear o hb
              go_upto_region 18 with (first
                | (at_builtin; refine wpList_append_own _ rfl (.tmp 49) (.tmp 53) _ rfl H 123 i0 (.agg #[.int .i64 0, .string ⟨#[]⟩]) 2 24 Tryz.underlying49 hinf hz0 hz1 hz2 rfl (by decide) (.slice A i c) i _ rfl oa.out ⟨wr.heap.size, 0, none⟩ 1 1 [.int .i64 (k : Int), .string s] rfl rfl hnew.out (by intro u hu; simp only [List.mem_cons, List.not_mem_nil, or_false] at hu; rcases hu with rfl | rfl <;> rfl) (by unfold maxLen; omega) (by omega) hHs.out ?_; intro v1 W o2 hg1 hn1))
              have hl2 : (putL d.L k s).length = i + 1 := by rw [hpl.out, List.length_append, upd_length, ← hM.out]; rfl
              have e2 : pairs (upd k s i d.L) ++ [.int .i64 (k : Int), .string s] = pairs (putL d.L k s) := by rw [hpl.out, pairs_snoc]
              rw [e2] at o2
              have hbW : Below w.heap.size w W := hba.out.grown hg1 (by have := hHs.out; rw [hH.out] at this; exact this) (fun j hj => by rw [← hH.out]; exact (oa.out.lt j hj).1)
              have hW := h.out.below hbW
              obtain ⟨A2, c2, rfl⟩ := pair_slice o2
              obtain ⟨M2, hM2⟩ : ∃ M2, M2 = i + 1 := ⟨_, rfl⟩
              rw [← hM2] at o2 hl2
              have hM3 : i + 1 = M2 := hM2.symm
              clear e2 hg1 hn1 oa hba hnew hHs hM2
              rw [hM3]
              clear hM3
              obtain ⟨h2, kk2⟩ := hW.relist o2 hl2 hFH.out
              have hk2 : Keeps F w (W.setCell ⟨b, 1, none⟩ (.slice A2 M2 c2)) := (Keeps.of_below F hbW).same kk2
              have hF2 : ∀ j, (F j ∨ (Value.slice A2 M2 c2).ownBlock = some j) → F j ∨ w.heap.size ≤ j := fun j hj => hj.elim Or.inl (fun e => Or.inr (by rw [← hH.out]; exact (o2.lt j e).1))
              have cw : W.cell? ⟨b, 1, none⟩ = some (.slice A0 d.L.length c0) := hW.blk.cell 1
              have fw := hW.blk.free 1
              clear hW o2 hl2 hbW kk2
              replace h2 := Lib.hid h2
              replace hk2 := Lib.hid hk2
              replace hF2 := Lib.hid hF2
              by_cases ha : d.armed = 1
              · have kr := rstep_any h2.out hnum1.out
                rw [show decide (({ d with L := putL d.L k s } : Dk).armed = 1) = true from decide_eq_true ha] at kr
                have e1 : dr = (goesD (stepD { d with L := putL d.L k s }) d.keep, 2) := by rw [hdr.out]; unfold stepped; rw [if_pos ha]
                replace kr := Lib.hid kr
                replace e1 := Lib.hid e1
                clear ha
                go_wp2_with fail
                refine kr.out.mono ?_
                rintro en w3 ⟨rfl, h3, k3⟩
                have hk3 := hk2.out.trans k3 hF2.out
                have hs2 := hk2.out.size
                have ck : w3.cell? ⟨b, 5, none⟩ = some (.string d.keep) := by
                  obtain ⟨_, _, _, _, _, hc⟩ := h3
                  exact hc.cells.2.2.2.2.2.1
                have kg := Lib.hid (rgoes_any h3 hfit1.out.step d.keep)
                replace hk3 := Lib.hid hk3
                clear h2 hk2 k3 cw fw h3 kr
                go_wp2_with fail
                refine kg.out.mono ?_
                rintro en w4 ⟨rfl, h4, k4⟩
                have hk4 := hk3.out.trans k4 hF2.out
                replace h4 := Lib.hid h4
                replace hk4 := Lib.hid hk4
                go_wp2_with fail
                go_ret
                rw [e1.out]
                exact ⟨rfl, _, h4.out, hk4.out, hF2.out⟩
              · have kr := rstep_any h2.out hnum1.out
                rw [show decide (({ d with L := putL d.L k s } : Dk).armed = 1) = false from decide_eq_false ha] at kr
                have e1 : dr = (stepD { d with L := putL d.L k s }, 0) := by rw [hdr.out]; unfold stepped; rw [if_neg ha]; rfl
                replace kr := Lib.hid kr
                replace e1 := Lib.hid e1
                clear ha
                go_wp2_with fail
                refine kr.out.mono ?_
                rintro en w3 ⟨rfl, h3, k3⟩
                have hk3 := hk2.out.trans k3 hF2.out
                replace hk3 := Lib.hid hk3
                replace h3 := Lib.hid h3
                clear h2 hk2 k3 cw fw kr
                go_wp2_with fail
                go_ret
                rw [e1.out]
                exact ⟨rfl, _, h3.out, hk3.out, hF2.out⟩
    · have e0 : ((s.size : Int) != 64) = true := by simp; omega
      rw [if_pos hs]
      clear hs h hn hf kb'
      go_enter Tryz.func51, Tryz.ntmps51
      go_wp2_with fail
      refine (km.out).mono ?_
      rintro en w' ⟨rfl, hw'⟩
      replace hw' := hw'.symm
      subst hw'
      go_wp2_with fail
      go_ret
      exact ⟨rfl, fin0.out⟩
  · rw [if_pos he]
    have hne : (mayE d n != 0) = true := by simpa using he
    generalize mayE d n = ee at km hne
    clear he h hn hf kb
    go_enter Tryz.func51, Tryz.ntmps51
    go_wp2_with fail
    refine (km.out).mono ?_
    rintro en w' ⟨rfl, hw'⟩
    replace hw' := hw'.symm
    subst hw'
    go_wp2_with fail
    go_ret
    exact ⟨rfl, fin0.out⟩
end
end Go.Proofs.YtkghlbpkdkonbaaGreat.Disk

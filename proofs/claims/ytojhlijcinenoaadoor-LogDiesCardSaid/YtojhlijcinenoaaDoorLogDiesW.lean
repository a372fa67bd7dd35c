/- LogDies: the walk. -/
import Derived.Test.YtojhlijcinenoaaDoorNvFixed
import Derived.Test.YtojhlijcinenoaaDoorNvHandB
import Derived.Test.YtojhlijcinenoaaDoorNvPl
import Derived.BigQuiet
namespace Go.Proofs.YtojhlijcinenoaaDoor.Nv
open Go Go.RowKit Go.Maps Mem Disk
/-- where the law's loop stands -/
structure DiesAt (w : World) (N k : Nat) (wr : World) (a b : Nat) (L : List ByteArray) (d : Dk) : Prop where
  h : Hl (fun i => i < w.heap.size) N (2 + 30 * k) wr a b ⟨0, L, false⟩ d
  live : Live N d 0 L
  few : L.length ≤ k
  hb : Below w.heap.size w wr
set_option maxRecDepth 100000 in
set_option maxHeartbeats 8000000 in
theorem logdies_any (A : Option Addr) (n c : Nat) (recs : List ByteArray) (keep : ByteArray) (w : World) (hr : Row w A n (recs.map Value.string)) (hn : n ≤ 9223372036854775807) :
    Calls Tryd.prog 3 #[.slice A n c, .string keep] w fun e w' => e = .returned (.bool true) ∧ Below w.heap.size w w' := by
  have kf := Lib.hid (fun W => fixed_any W)
  have k0 := Lib.hid (laid_yes 60 0 w (by decide) (by decide))
  have q1 := Lib.hid (Live.laid (N := 60) (g := 0) (by decide) (by decide) (by decide))
  have q2 := Lib.hid (laidD_ok (N := 60) (by decide) (by decide) 0).2.2
  replace hr := Lib.hid hr
  go_enter Tryd.func3, Tryd.ntmps3
  go_wp2_with fail
  refine k0.out.mono ?_
  rintro e w1 ⟨a, b, k, cc, rfl, h, hb⟩
  have st : DiesAt w 60 0 w1 a b [] (laidD 60 0) := ⟨(show Bothl w w1 a b k cc ⟨0, [], false⟩ _ from h).hand q2.out hb, q1.out, Nat.le_refl _, hb⟩
  clear k0 q1 q2 h hb
  generalize laidD 60 0 = d0 at st
  go_wp2_with fail
  go_loopw [10] (fun iv wr => ∃ (j : Nat) (L : List ByteArray) (d : Dk), j ≤ n ∧ j ≤ 60 ∧ iv = .int .i64 (j : Int) ∧ DiesAt w 60 j wr a b L d) (fun iv _ => n - (intOf iv).toNat)
  case atStart => exact ⟨0, [], _, Nat.zero_le _, Nat.zero_le _, rfl, st⟩
  case round =>
    clear st
    obtain ⟨j, L, d, hjn, hj1, rfl, st⟩ := hrel
    by_cases hlt : j < n ∧ j < 60
    · have hltI : (j : Int) < (n : Int) := by omega
      have hj0 : (0 : Int) ≤ (j : Int) := by omega
      have hj100 : (j : Int) < 60 := by omega
      obtain ⟨ad, u, rfl, hu, hc⟩ := (hr.out.below st.hb).at_ hlt.1
      obtain ⟨r, hr1, rfl⟩ := getStr_some hu
      clear hu hr1
      have kapp := hlappend st.h (by omega) st.live.lgs.fits (by show L.length ≤ _; have := st.few; omega) r
      obtain ⟨L2, a1, a2, a3⟩ := st.live.append st.h.fn (by decide) r
      generalize appendL ⟨0, L, false⟩ d r = R at kapp a1 a2
      obtain ⟨l2, d2, e2⟩ := R
      have a1' : l2 = ⟨0, L2, false⟩ := a1
      subst a1'
      replace kapp := Lib.hid kapp
      replace a2 := Lib.hid a2
      replace st := Lib.hid st
      clear a1
      go_wp2_with fail
      refine kapp.out.mono ?_
      rintro e w3 ⟨rfl, h3, k3⟩
      have st4 := Lib.hid (show DiesAt w 60 (j + 1) w3 a b L2 d2 from ⟨h3.more (by omega), a2.out, by have := st.out.few; omega, st.out.hb.trans (k3.toBelow (fun i hi => hi) st.out.hb.size)⟩)
      clear h3 k3 kapp st
      go_wp2_with fail
      exact ⟨⟨j + 1, L2, d2, by omega, by omega, rfl, st4.out⟩, by simp [intOf]; omega⟩
    · have hfew := st.few
      have krec := Lib.hid (hlrecords st.h (by show L.length ≤ _; omega))
      have hq : ¬ ((j : Int) < (n : Int) ∧ (j : Int) < 60) := by omega
      replace st := Lib.hid st
      by_cases hjn2 : j < n
      · have q1 : (j : Int) < (n : Int) := by omega
        obtain rfl : j = 60 := by omega
        clear hlt hq
        go_wp2_with fail
        refine krec.out.mono ?_
        rintro e w2 ⟨A2, c2, rfl, o2, b2⟩
        have hX : ∀ i, (i < w.heap.size ∨ (Value.slice A2 L.length c2).ownBlock = some i) → i < w.heap.size ∨ (wr.heap.size ≤ i ∧ i < w2.heap.size) := fun i hi => hi.imp id (fun e => o2.lt i e)
        have h2 : Hl (fun i => i < w.heap.size ∨ (Value.slice A2 L.length c2).ownBlock = some i) 60 2000 w2 a b ⟨0, L, false⟩ d := (st.out.h.more (by omega)).also b2 hX
        have hb2 := st.out.hb.trans (b2.mono st.out.hb.size)
        have kcr := hlcrash h2 keep
        obtain ⟨t1, t2⟩ := st.out.live.lgs.crash h2.fn.fit keep
        generalize crashD d keep = R at kcr t1 t2
        obtain ⟨d1, e1⟩ := R
        have t1' : e1 = 0 := t1
        subst t1'
        replace kcr := Lib.hid kcr
        replace t2 := Lib.hid t2
        replace hb2 := Lib.hid hb2
        replace o2 := Lib.hid o2
        replace st := Lib.hid st
        clear krec b2 h2 hX t1
        go_wp2_with fail
        refine kcr.out.mono ?_
        rintro e w3 ⟨rfl, h3, k3⟩
        have o3 := k3.row o2.out (fun j e => Or.inr e)
        have hb3 := hb2.out.trans (k3.toBelow (fun i hi => Or.inl hi) hb2.out.size)
        have ks3 := hlstart h3 (by decide) 9
        obtain ⟨Q, g1, _⟩ := t2.out
        rw [show startL ⟨0, L, false⟩ d1 9 = (⟨0, L, true⟩, d1, 2) from start_gone (g := 0) g1 (by decide) (by decide)] at ks3
        replace o3 := Lib.hid o3
        replace hb3 := Lib.hid hb3
        replace ks3 := Lib.hid ks3
        clear kcr h3 k3 o2 hb2 g1
        go_wp2_with fail
        refine ks3.out.mono ?_
        rintro e w4 ⟨rfl, h4, k4⟩
        have o4 := Lib.hid (k4.row o3.out (fun j e => Or.inr e))
        have hb4 := Lib.hid (hb3.out.trans (k4.toBelow (fun i hi => Or.inl hi) hb3.out.size))
        have kd4 := Lib.hid (hldead h4)
        replace h4 := Lib.hid h4
        clear ks3 k4 o3 hb3
        go_wp2_with fail
        refine kd4.out.mono ?_
        rintro e w4' ⟨rfl, hw'⟩
        replace hw' := hw'.symm
        subst hw'
        have krv := Lib.hid (hlrevive h4.out)
        clear kd4
        go_wp2_with fail
        refine krv.out.mono ?_
        rintro e w5 ⟨rfl, h5, k5⟩
        have o5 := Lib.hid (k5.row o4.out (fun j e => Or.inr e))
        have hb5 := Lib.hid (hb4.out.trans (k5.toBelow (fun i hi => Or.inl hi) hb4.out.size))
        obtain ⟨g', L', ⟨rfl, rfl⟩, t3⟩ := t2.out.revive
        have kap := hlappend h5 (by decide) t3.fits (by show L'.length ≤ _; omega) ⟨#[120]⟩
        rw [show appendL ⟨0, L', true⟩ (reviveD d1) ⟨#[120]⟩ = (⟨0, L', true⟩, reviveD d1, 2) from append_dead _ rfl (by decide)] at kap
        have lv : Live 60 (reviveD d1) 0 L' := ⟨t3.al rfl, t3⟩
        have hop := t3.opened (by decide) (by decide)
        replace lv := Lib.hid lv
        replace hop := Lib.hid hop
        replace kap := Lib.hid kap
        clear krv h4 k5 o4 hb4 t2 h5 t3
        generalize reviveD d1 = d2 at kap lv hop
        go_wp2_with fail
        refine kap.out.mono ?_
        rintro e w6 ⟨rfl, h6, k6⟩
        have o6 := Lib.hid (k6.row o5.out (fun j e => Or.inr e))
        have hb6 := Lib.hid (hb5.out.trans (k6.toBelow (fun i hi => Or.inl hi) hb5.out.size))
        have ks6 := hlstart h6 (by decide) 9
        rw [show startL ⟨0, L', true⟩ d2 9 = (⟨0, L', true⟩, d2, 2) from start_dead _ rfl (show ((0 : Nat) : Int) < 9 by decide) (by decide)] at ks6
        replace ks6 := Lib.hid ks6
        clear kap h6 k6 o5 hb5
        go_wp2_with fail
        refine ks6.out.mono ?_
        rintro e w7 ⟨rfl, h7, k7⟩
        have o7 := Lib.hid (k7.row o6.out (fun j e => Or.inr e))
        have hb7 := Lib.hid (hb6.out.trans (k7.toBelow (fun i hi => Or.inl hi) hb6.out.size))
        have kop := hlopen h7.hd h7.fn.len
        rw [hop.out] at kop
        replace kop := Lib.hid kop
        clear ks6 h7 k7 o6 hb6
        go_wp2_with fail
        refine kop.out.mono ?_
        rintro e w8 ⟨b8, a8, rfl, h8⟩
        have o8 := Lib.hid (own_keeps o7.out (Keeps.of_below (fun _ => False) (b8)) (fun _ _ hh => hh))
        have hb8 := Lib.hid (hb7.out.trans (b8.mono hb7.out.size))
        have kre := Lib.hid (hlrecords h8 (by show L'.length ≤ _; omega))
        replace h8 := Lib.hid h8
        clear kop b8 o7 hb7
        go_wp2_with fail
        refine kre.out.mono ?_
        rintro e w9 ⟨A9, c9, rfl, o9, b9⟩
        have ksm := rsame_any A9 A2 L'.length L'.length c9 c2 L' L' w9 (Row.of_own o9) (Row.of_own (own_keeps o8.out (Keeps.of_below (fun _ => False) b9) (fun _ _ hh => hh))) (by omega)
        rw [decide_eq_true rfl] at ksm
        have h9 := Lib.hid (h8.out.below b9)
        have hb9 := Lib.hid (hb8.out.trans (b9.mono hb8.out.size))
        replace ksm := Lib.hid ksm
        clear kre o9 b9 o8 hb8 h8
        go_wp2_with fail
        refine ksm.out.mono ?_
        rintro e wA ⟨rfl, q, rfl⟩
        have hA := h9.out.below (below_drewN (Below.refl _ w9) q)
        have hbA := below_drewN hb9.out q
        have krm := hlroom hA (by have := lv.out.lgs.fits; have h1 : 64 * halfD d2 ≤ 64 * 30 := (by unfold halfD; rw [hA.fn.len]; decide); show (enc L').size ≤ _; omega)
        generalize w9.drewN q = wA at hA hbA krm ⊢
        replace hA := Lib.hid hA
        replace hbA := Lib.hid hbA
        replace krm := Lib.hid krm
        clear ksm h9 hb9
        have htk := lv.out.taken hA.out.fn (by decide) (r := ⟨#[120]⟩) (by decide)
        have kaz := fun W (h : Hl (fun i => i < w.heap.size ∨ (Value.slice A2 L'.length c2).ownBlock = some i) 60 2064 W a8 b ⟨0, L', false⟩ d2) => hlappend h (by decide) lv.out.lgs.fits (by show L'.length ≤ _; omega) ⟨#[120]⟩
        generalize appendL ⟨0, L', false⟩ d2 ⟨#[120]⟩ = R at htk kaz
        generalize roomL ⟨0, L', false⟩ d2 = RM at htk krm
        have htk' : R.2.2 = 0 ↔ 3 ≤ RM := htk
        have e9 : (R.2.2 == 0) = decide (3 ≤ RM) := by rw [Bool.eq_iff_iff]; simp [htk']
        replace kaz := Lib.hid kaz
        clear htk htk' lv hop
        go_wp2_with fail
        refine krm.out.mono ?_
        rintro e wB ⟨rfl, q, rfl⟩
        have kay := Lib.hid (kaz.out _ ((hA.out.below (below_drewN (Below.refl _ wA) q)).more (by omega)))
        have hbB := Lib.hid (below_drewN hbA.out q)
        clear krm kaz hA hbA
        go_wp2_with fail
        refine kay.out.mono ?_
        rintro e wC ⟨rfl, hC, kC⟩
        have hbC := Lib.hid (hbB.out.trans (kC.toBelow (fun i hi => Or.inl hi) hbB.out.size))
        clear kay hC kC hbB
        go_wp2_with fail
        refine (kf.out _).mono ?_
        rintro e wD ⟨rfl, bD⟩
        have hbD := Lib.hid (hbC.out.trans (bD.mono hbC.out.size))
        clear bD hbC
        go_wp2_with fail
        go_ret
        exact ⟨rfl, hbD.out⟩
      · obtain rfl : j = n := by omega
        clear hlt hq
        go_wp2_with fail
        refine krec.out.mono ?_
        rintro e w2 ⟨A2, c2, rfl, o2, b2⟩
        have hX : ∀ i, (i < w.heap.size ∨ (Value.slice A2 L.length c2).ownBlock = some i) → i < w.heap.size ∨ (wr.heap.size ≤ i ∧ i < w2.heap.size) := fun i hi => hi.imp id (fun e => o2.lt i e)
        have h2 : Hl (fun i => i < w.heap.size ∨ (Value.slice A2 L.length c2).ownBlock = some i) 60 2000 w2 a b ⟨0, L, false⟩ d := (st.out.h.more (by omega)).also b2 hX
        have hb2 := st.out.hb.trans (b2.mono st.out.hb.size)
        have kcr := hlcrash h2 keep
        obtain ⟨t1, t2⟩ := st.out.live.lgs.crash h2.fn.fit keep
        generalize crashD d keep = R at kcr t1 t2
        obtain ⟨d1, e1⟩ := R
        have t1' : e1 = 0 := t1
        subst t1'
        replace kcr := Lib.hid kcr
        replace t2 := Lib.hid t2
        replace hb2 := Lib.hid hb2
        replace o2 := Lib.hid o2
        replace st := Lib.hid st
        clear krec b2 h2 hX t1
        go_wp2_with fail
        refine kcr.out.mono ?_
        rintro e w3 ⟨rfl, h3, k3⟩
        have o3 := k3.row o2.out (fun j e => Or.inr e)
        have hb3 := hb2.out.trans (k3.toBelow (fun i hi => Or.inl hi) hb2.out.size)
        have ks3 := hlstart h3 (by decide) 9
        obtain ⟨Q, g1, _⟩ := t2.out
        rw [show startL ⟨0, L, false⟩ d1 9 = (⟨0, L, true⟩, d1, 2) from start_gone (g := 0) g1 (by decide) (by decide)] at ks3
        replace o3 := Lib.hid o3
        replace hb3 := Lib.hid hb3
        replace ks3 := Lib.hid ks3
        clear kcr h3 k3 o2 hb2 g1
        go_wp2_with fail
        refine ks3.out.mono ?_
        rintro e w4 ⟨rfl, h4, k4⟩
        have o4 := Lib.hid (k4.row o3.out (fun j e => Or.inr e))
        have hb4 := Lib.hid (hb3.out.trans (k4.toBelow (fun i hi => Or.inl hi) hb3.out.size))
        have kd4 := Lib.hid (hldead h4)
        replace h4 := Lib.hid h4
        clear ks3 k4 o3 hb3
        go_wp2_with fail
        refine kd4.out.mono ?_
        rintro e w4' ⟨rfl, hw'⟩
        replace hw' := hw'.symm
        subst hw'
        have krv := Lib.hid (hlrevive h4.out)
        clear kd4
        go_wp2_with fail
        refine krv.out.mono ?_
        rintro e w5 ⟨rfl, h5, k5⟩
        have o5 := Lib.hid (k5.row o4.out (fun j e => Or.inr e))
        have hb5 := Lib.hid (hb4.out.trans (k5.toBelow (fun i hi => Or.inl hi) hb4.out.size))
        obtain ⟨g', L', ⟨rfl, rfl⟩, t3⟩ := t2.out.revive
        have kap := hlappend h5 (by decide) t3.fits (by show L'.length ≤ _; omega) ⟨#[120]⟩
        rw [show appendL ⟨0, L', true⟩ (reviveD d1) ⟨#[120]⟩ = (⟨0, L', true⟩, reviveD d1, 2) from append_dead _ rfl (by decide)] at kap
        have lv : Live 60 (reviveD d1) 0 L' := ⟨t3.al rfl, t3⟩
        have hop := t3.opened (by decide) (by decide)
        replace lv := Lib.hid lv
        replace hop := Lib.hid hop
        replace kap := Lib.hid kap
        clear krv h4 k5 o4 hb4 t2 h5 t3
        generalize reviveD d1 = d2 at kap lv hop
        go_wp2_with fail
        refine kap.out.mono ?_
        rintro e w6 ⟨rfl, h6, k6⟩
        have o6 := Lib.hid (k6.row o5.out (fun j e => Or.inr e))
        have hb6 := Lib.hid (hb5.out.trans (k6.toBelow (fun i hi => Or.inl hi) hb5.out.size))
        have ks6 := hlstart h6 (by decide) 9
        rw [show startL ⟨0, L', true⟩ d2 9 = (⟨0, L', true⟩, d2, 2) from start_dead _ rfl (show ((0 : Nat) : Int) < 9 by decide) (by decide)] at ks6
        replace ks6 := Lib.hid ks6
        clear kap h6 k6 o5 hb5
        go_wp2_with fail
        refine ks6.out.mono ?_
        rintro e w7 ⟨rfl, h7, k7⟩
        have o7 := Lib.hid (k7.row o6.out (fun j e => Or.inr e))
        have hb7 := Lib.hid (hb6.out.trans (k7.toBelow (fun i hi => Or.inl hi) hb6.out.size))
        have kop := hlopen h7.hd h7.fn.len
        rw [hop.out] at kop
        replace kop := Lib.hid kop
        clear ks6 h7 k7 o6 hb6
        go_wp2_with fail
        refine kop.out.mono ?_
        rintro e w8 ⟨b8, a8, rfl, h8⟩
        have o8 := Lib.hid (own_keeps o7.out (Keeps.of_below (fun _ => False) (b8)) (fun _ _ hh => hh))
        have hb8 := Lib.hid (hb7.out.trans (b8.mono hb7.out.size))
        have kre := Lib.hid (hlrecords h8 (by show L'.length ≤ _; omega))
        replace h8 := Lib.hid h8
        clear kop b8 o7 hb7
        go_wp2_with fail
        refine kre.out.mono ?_
        rintro e w9 ⟨A9, c9, rfl, o9, b9⟩
        have ksm := rsame_any A9 A2 L'.length L'.length c9 c2 L' L' w9 (Row.of_own o9) (Row.of_own (own_keeps o8.out (Keeps.of_below (fun _ => False) b9) (fun _ _ hh => hh))) (by omega)
        rw [decide_eq_true rfl] at ksm
        have h9 := Lib.hid (h8.out.below b9)
        have hb9 := Lib.hid (hb8.out.trans (b9.mono hb8.out.size))
        replace ksm := Lib.hid ksm
        clear kre o9 b9 o8 hb8 h8
        go_wp2_with fail
        refine ksm.out.mono ?_
        rintro e wA ⟨rfl, q, rfl⟩
        have hA := h9.out.below (below_drewN (Below.refl _ w9) q)
        have hbA := below_drewN hb9.out q
        have krm := hlroom hA (by have := lv.out.lgs.fits; have h1 : 64 * halfD d2 ≤ 64 * 30 := (by unfold halfD; rw [hA.fn.len]; decide); show (enc L').size ≤ _; omega)
        generalize w9.drewN q = wA at hA hbA krm ⊢
        replace hA := Lib.hid hA
        replace hbA := Lib.hid hbA
        replace krm := Lib.hid krm
        clear ksm h9 hb9
        have htk := lv.out.taken hA.out.fn (by decide) (r := ⟨#[120]⟩) (by decide)
        have kaz := fun W (h : Hl (fun i => i < w.heap.size ∨ (Value.slice A2 L'.length c2).ownBlock = some i) 60 2064 W a8 b ⟨0, L', false⟩ d2) => hlappend h (by decide) lv.out.lgs.fits (by show L'.length ≤ _; omega) ⟨#[120]⟩
        generalize appendL ⟨0, L', false⟩ d2 ⟨#[120]⟩ = R at htk kaz
        generalize roomL ⟨0, L', false⟩ d2 = RM at htk krm
        have htk' : R.2.2 = 0 ↔ 3 ≤ RM := htk
        have e9 : (R.2.2 == 0) = decide (3 ≤ RM) := by rw [Bool.eq_iff_iff]; simp [htk']
        replace kaz := Lib.hid kaz
        clear htk htk' lv hop
        go_wp2_with fail
        refine krm.out.mono ?_
        rintro e wB ⟨rfl, q, rfl⟩
        have kay := Lib.hid (kaz.out _ ((hA.out.below (below_drewN (Below.refl _ wA) q)).more (by omega)))
        have hbB := Lib.hid (below_drewN hbA.out q)
        clear krm kaz hA hbA
        go_wp2_with fail
        refine kay.out.mono ?_
        rintro e wC ⟨rfl, hC, kC⟩
        have hbC := Lib.hid (hbB.out.trans (kC.toBelow (fun i hi => Or.inl hi) hbB.out.size))
        clear kay hC kC hbB
        go_wp2_with fail
        refine (kf.out _).mono ?_
        rintro e wD ⟨rfl, bD⟩
        have hbD := Lib.hid (hbC.out.trans (bD.mono hbC.out.size))
        clear bD hbC
        go_wp2_with fail
        go_ret
        exact ⟨rfl, hbD.out⟩
end Go.Proofs.YtojhlijcinenoaaDoor.Nv

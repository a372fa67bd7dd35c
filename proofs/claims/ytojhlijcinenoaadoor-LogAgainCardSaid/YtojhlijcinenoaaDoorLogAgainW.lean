/- LogAgain: the walk. -/
import Derived.Test.YtojhlijcinenoaaDoorNvFixed
import Derived.Test.YtojhlijcinenoaaDoorNvHandB
import Derived.Test.YtojhlijcinenoaaDoorNvPl
import Derived.Test.YtojhlijcinenoaaDoorDoorO
import Derived.BigQuiet
namespace Go.Proofs.YtojhlijcinenoaaDoor.Nv
open Go Go.RowKit Go.Maps Mem Disk Door
/-- where the law's loop stands -/
structure AgainAt (w : World) (N k : Nat) (wr : World) (a b g : Nat) (L : List ByteArray) (d : Dk) : Prop where
  h : Hl (fun i => i < w.heap.size) N (2 + 30 * k) wr a b ⟨g, L, false⟩ d
  live : Live N d g L
  few : L.length ≤ k
  hb : Below w.heap.size w wr
set_option maxRecDepth 100000 in
set_option maxHeartbeats 16000000 in
theorem logagain_any (sec : Int) (A : Option Addr) (n c : Nat) (w : World) (hops : Ops5 (fun _ => True) (fun _ => True) w A n) (hn : n ≤ 9223372036854775807) :
    Calls Tryd.prog 6 #[.int .i64 sec, .slice A n c] w fun e w' => e = .returned (.bool true) ∧ Below w.heap.size w w' := by
  have kf := Lib.hid (fun W => fixed_any W)
  by_cases h5 : clamp100 sec < 5
  · have k0 := Lib.hid (laid_no sec 0 w (Or.inl h5))
    clear h5 hops
    go_enter Tryd.func6, Tryd.ntmps6
    go_wp2_with fail
    refine k0.out.mono ?_
    rintro e w1 ⟨b, c, rfl, hb⟩
    replace hb := Lib.hid hb
    clear k0
    go_wp2_with fail
    refine (kf.out _).mono ?_
    rintro e w2 ⟨rfl, hb2⟩
    have hb3 := Lib.hid (hb.out.trans (hb2.mono hb.out.size))
    clear hb2
    go_wp2_with fail
    go_ret
    exact ⟨rfl, hb3.out⟩
  · have k0 := Lib.hid (laid_yes sec 0 w (by omega) (by decide))
    obtain ⟨hN1, hN2⟩ := clamp100_le sec
    have q1 := Lib.hid (Live.laid (N := clamp100 sec) (g := 0) hN1 (by omega) (by decide))
    have q2 := Lib.hid (laidD_ok (N := clamp100 sec) hN1 (by omega) 0).2.2
    have hN5 : 5 ≤ clamp100 sec := by omega
    replace hops := Lib.hid hops
    clear h5
    go_enter Tryd.func6, Tryd.ntmps6
    go_wp2_with fail
    refine k0.out.mono ?_
    rintro e w1 ⟨a, b, k, cc, rfl, h, hb⟩
    have st : AgainAt w (clamp100 sec) 0 w1 a b 0 [] (laidD (clamp100 sec) 0) := ⟨(show Bothl w w1 a b k cc ⟨0, [], false⟩ _ from h).hand q2.out hb, q1.out, Nat.le_refl _, hb⟩
    clear k0 q1 q2 h hb
    generalize laidD (clamp100 sec) 0 = d0 at st
    generalize clamp100 sec = N at hN1 hN2 hN5 st
    go_wp2_with fail
    go_loopw [10] (fun iv wr => ∃ (j g : Nat) (L : List ByteArray) (d : Dk), j ≤ n ∧ j ≤ 60 ∧ iv = .int .i64 (j : Int) ∧ AgainAt w N j wr a b g L d) (fun iv _ => n - (intOf iv).toNat)
    case atStart => exact ⟨0, 0, [], _, Nat.zero_le _, Nat.zero_le _, rfl, st⟩
    case round =>
      clear st
      obtain ⟨j, g, L, d, hjn, hj1, rfl, st⟩ := hrel
      by_cases hlt : j < n ∧ j < 60
      · have hltI : (j : Int) < (n : Int) := by omega
        have hj0 : (0 : Int) ≤ (j : Int) := by omega
        have hj100 : (j : Int) < 60 := by omega
        obtain ⟨ad, x, y, s, t, bb, rfl, hy, _, _, hop⟩ := hops.out.at_ hlt.1
        have hyy := hy.2
        obtain ⟨m0, m1, m2, _, _⟩ := hop wr st.hb
        clear hop
        by_cases hx : x = 1
        · subst hx
          have kst := hlstart st.h (by omega) y
          obtain ⟨g2, L2, a1, a2, a3⟩ := st.live.start st.h.fn hN5 y
          generalize startL ⟨g, L, false⟩ d y = R at kst a1 a2
          obtain ⟨l2, d2, e2⟩ := R
          have a1' : l2 = ⟨g2, L2, false⟩ := a1
          subst a1'
          replace kst := Lib.hid kst
          replace a2 := Lib.hid a2
          replace st := Lib.hid st
          clear a1 hy hyy
          go_wp2_with fail
          refine kst.out.mono ?_
          rintro e w3 ⟨rfl, h3, k3⟩
          have st4 := Lib.hid (show AgainAt w N (j + 1) w3 a b g2 L2 d2 from ⟨h3.more (by omega), a2.out, by have := st.out.few; omega, st.out.hb.trans (k3.toBelow (fun i hi => hi) st.out.hb.size)⟩)
          clear h3 k3 kst st m0 m1 m2
          go_wp2_with fail
          exact ⟨⟨j + 1, g2, L2, d2, by omega, by omega, rfl, st4.out⟩, by simp [intOf]; omega⟩
        · have q5 : (x == 1) = false := beq_false_of_ne hx
          have kapp := hlappend st.h (by omega) st.live.lgs.fits (by show L.length ≤ _; have := st.few; omega) s
          obtain ⟨L2, a1, a2, a3⟩ := st.live.append st.h.fn hN5 s
          generalize appendL ⟨g, L, false⟩ d s = R at kapp a1 a2
          obtain ⟨l2, d2, e2⟩ := R
          have a1' : l2 = ⟨g, L2, false⟩ := a1
          subst a1'
          replace kapp := Lib.hid kapp
          replace a2 := Lib.hid a2
          replace st := Lib.hid st
          clear a1 hy hyy hx
          go_wp2_with fail
          refine kapp.out.mono ?_
          rintro e w3 ⟨rfl, h3, k3⟩
          have st4 := Lib.hid (show AgainAt w N (j + 1) w3 a b g L2 d2 from ⟨h3.more (by omega), a2.out, by have := st.out.few; omega, st.out.hb.trans (k3.toBelow (fun i hi => hi) st.out.hb.size)⟩)
          clear h3 k3 kapp st m0 m1 m2
          go_wp2_with fail
          exact ⟨⟨j + 1, g, L2, d2, by omega, by omega, rfl, st4.out⟩, by simp [intOf]; omega⟩
      · have hfew := st.few
        have hLs : L.length ≤ 60 := by omega
        have him := hlimage st.h
        obtain ⟨I, hI⟩ : ∃ I : ByteArray, I = ⟨(imageD d).toArray⟩ := ⟨_, rfl⟩
        rw [← hI] at him
        have hgen := st.live.lgs.gen
        have hop := st.live.lgs.opened hN5 (by omega)
        have hRM : (64 * halfD d : Nat) ≤ 6400 := by unfold halfD; rw [st.h.fn.len]; omega
        have henc := st.live.lgs.fits
        replace him := Lib.hid him
        replace hI := Lib.hid hI
        replace hop := Lib.hid hop
        have hh := Lib.hid (st.h.more (k := 4000) (by omega))
        have hbw := Lib.hid st.hb
        clear st hfew
        by_cases hjn2 : j < n
        · have q1 : (j : Int) < (n : Int) := by omega
          obtain rfl : j = 60 := by omega
          clear hlt
          go_wp2_with fail
          refine him.out.mono ?_
          rintro e w2 ⟨rfl, b2⟩
          have h2 := hh.out.below b2
          have hb2 := hbw.out.trans (b2.mono hbw.out.size)
          clear hh hbw him b2
          go_wp2_with fail
          go_loopw [12] (fun iv wq => ∃ i : Nat, i ≤ 3 ∧ iv = .int .i64 (i : Int) ∧ Hl (fun i => i < w.heap.size) N 4000 wq a b ⟨g, L, false⟩ d ∧ Below w.heap.size w wq) (fun iv _ => 3 - (intOf iv).toNat)
          case atStart => exact ⟨0, Nat.zero_le _, rfl, h2, hb2⟩
          case round =>
            clear h2 hb2
            obtain ⟨i, hi3, rfl, h2, hb2⟩ := hrel
            by_cases hi : i < 3
            · have hiI : (i : Int) < 3 := by omega
              have kop := hlopen h2.hd h2.fn.len
              rw [hop.out] at kop
              replace kop := Lib.hid kop
              replace h2 := Lib.hid h2
              replace hb2 := Lib.hid hb2
              go_wp2_with fail
              refine kop.out.mono ?_
              rintro e w8 ⟨b8, a8, rfl, h8⟩
              have hb8 := Lib.hid (hb2.out.trans (b8.mono hb2.out.size))
              have h3 := Lib.hid (h2.out.below b8)
              have kre := Lib.hid (hlrecords h8 (by show L.length ≤ _; omega))
              replace h8 := Lib.hid h8
              clear kop b8 h2 hb2
              go_wp2_with fail
              refine kre.out.mono ?_
              rintro e w9 ⟨A9, c9, rfl, o9, b9⟩
              have hb9 := Lib.hid (hb8.out.trans (b9.mono hb8.out.size))
              have h9 := Lib.hid (h8.out.below b9)
              have h4 := Lib.hid (h3.out.below b9)
              have kre2 := Lib.hid (hlrecords h4.out (by show L.length ≤ _; omega))
              replace o9 := Lib.hid o9
              clear kre h8 h3 hb8 b9
              go_wp2_with fail
              refine kre2.out.mono ?_
              rintro e w10 ⟨A10, c10, rfl, o10, b10⟩
              have hb10 := Lib.hid (hb9.out.trans (b10.mono hb9.out.size))
              have h10 := Lib.hid (h9.out.below b10)
              have h5 := Lib.hid (h4.out.below b10)
              have ksm := rsame_any A9 A10 L.length L.length c9 c10 L L w10 ((Row.of_own o9.out).below b10) (Row.of_own o10) (by omega)
              rw [decide_eq_true rfl] at ksm
              replace ksm := Lib.hid ksm
              clear kre2 h9 h4 hb9 b10 o10 o9
              go_wp2_with fail
              refine ksm.out.mono ?_
              rintro e wA ⟨rfl, q, rfl⟩
              have hA := h10.out.below (below_drewN (Below.refl _ w10) q)
              have hA2 := h5.out.below (below_drewN (Below.refl _ w10) q)
              have hbA := below_drewN hb10.out q
              generalize w10.drewN q = wA at hA hA2 hbA ⊢
              have kg1 := Lib.hid (hlgen hA)
              have kg2 := Lib.hid (hlgen hA2)
              have kr1 := Lib.hid (hlroom hA (by show (enc L).size ≤ _; omega))
              replace hA := Lib.hid hA
              replace hA2 := Lib.hid hA2
              replace hbA := Lib.hid hbA
              have qg : ((g : Int) != (g : Int)) = false := bne_self_eq_false _
              clear ksm h10 h5 hb10
              go_wp2_with fail
              refine kg1.out.mono ?_
              rintro e wx ⟨rfl, hw'⟩
              replace hw' := hw'.symm
              subst hw'
              go_wp2_with fail
              refine kg2.out.mono ?_
              rintro e wx ⟨rfl, hw'⟩
              replace hw' := hw'.symm
              subst hw'
              clear kg1 kg2
              go_wp2_with fail
              refine kr1.out.mono ?_
              rintro e wB ⟨rfl, q, rfl⟩
              have kr2 := hlroom (hA2.out.below (below_drewN (Below.refl _ wA) q)) (by show (enc L).size ≤ _; omega)
              generalize roomL ⟨g, L, false⟩ d = RM at kr2 ⊢
              have qr : (RM != RM) = false := bne_self_eq_false _
              replace kr2 := Lib.hid kr2
              clear kr1
              go_wp2_with fail
              refine kr2.out.mono ?_
              rintro e wC ⟨rfl, q2, rfl⟩
              have hC := hA2.out.below (below_drewN (below_drewN (Below.refl _ wA) q) q2)
              have hbC := below_drewN (below_drewN hbA.out q) q2
              generalize (wA.drewN q).drewN q2 = wC at hC hbC ⊢
              have kim := hlimage hC
              rw [← hI.out] at kim
              replace kim := Lib.hid kim
              replace hC := Lib.hid hC
              replace hbC := Lib.hid hbC
              clear kr2 hA hA2 hbA qr qg
              go_wp2_with fail
              refine kim.out.mono ?_
              rintro e wD ⟨rfl, bD⟩
              have hD := Lib.hid (hC.out.below bD)
              have hbD := Lib.hid (hbC.out.trans (bD.mono hbC.out.size))
              have qi : (I.toList == I.toList) = true := beq_self_eq_true _
              clear kim hC hbC bD
              go_wp2_with fail
              exact ⟨⟨i + 1, by omega, rfl, hD.out, hbD.out⟩, by simp [intOf]; omega⟩
            · obtain rfl : i = 3 := by omega
              replace hb2 := Lib.hid hb2
              clear h2
              go_wp2_with fail
              refine (kf.out _).mono ?_
              rintro e w6 ⟨rfl, b6⟩
              have hb6 := Lib.hid (hb2.out.trans (b6.mono hb2.out.size))
              clear b6 hb2
              go_wp2_with fail
              go_ret
              exact ⟨rfl, hb6.out⟩
        · obtain rfl : j = n := by omega
          clear hlt
          go_wp2_with fail
          refine him.out.mono ?_
          rintro e w2 ⟨rfl, b2⟩
          have h2 := hh.out.below b2
          have hb2 := hbw.out.trans (b2.mono hbw.out.size)
          clear hh hbw him b2
          go_wp2_with fail
          go_loopw [12] (fun iv wq => ∃ i : Nat, i ≤ 3 ∧ iv = .int .i64 (i : Int) ∧ Hl (fun i => i < w.heap.size) N 4000 wq a b ⟨g, L, false⟩ d ∧ Below w.heap.size w wq) (fun iv _ => 3 - (intOf iv).toNat)
          case atStart => exact ⟨0, Nat.zero_le _, rfl, h2, hb2⟩
          case round =>
            clear h2 hb2
            obtain ⟨i, hi3, rfl, h2, hb2⟩ := hrel
            by_cases hi : i < 3
            · have hiI : (i : Int) < 3 := by omega
              have kop := hlopen h2.hd h2.fn.len
              rw [hop.out] at kop
              replace kop := Lib.hid kop
              replace h2 := Lib.hid h2
              replace hb2 := Lib.hid hb2
              go_wp2_with fail
              refine kop.out.mono ?_
              rintro e w8 ⟨b8, a8, rfl, h8⟩
              have hb8 := Lib.hid (hb2.out.trans (b8.mono hb2.out.size))
              have h3 := Lib.hid (h2.out.below b8)
              have kre := Lib.hid (hlrecords h8 (by show L.length ≤ _; omega))
              replace h8 := Lib.hid h8
              clear kop b8 h2 hb2
              go_wp2_with fail
              refine kre.out.mono ?_
              rintro e w9 ⟨A9, c9, rfl, o9, b9⟩
              have hb9 := Lib.hid (hb8.out.trans (b9.mono hb8.out.size))
              have h9 := Lib.hid (h8.out.below b9)
              have h4 := Lib.hid (h3.out.below b9)
              have kre2 := Lib.hid (hlrecords h4.out (by show L.length ≤ _; omega))
              replace o9 := Lib.hid o9
              clear kre h8 h3 hb8 b9
              go_wp2_with fail
              refine kre2.out.mono ?_
              rintro e w10 ⟨A10, c10, rfl, o10, b10⟩
              have hb10 := Lib.hid (hb9.out.trans (b10.mono hb9.out.size))
              have h10 := Lib.hid (h9.out.below b10)
              have h5 := Lib.hid (h4.out.below b10)
              have ksm := rsame_any A9 A10 L.length L.length c9 c10 L L w10 ((Row.of_own o9.out).below b10) (Row.of_own o10) (by omega)
              rw [decide_eq_true rfl] at ksm
              replace ksm := Lib.hid ksm
              clear kre2 h9 h4 hb9 b10 o10 o9
              go_wp2_with fail
              refine ksm.out.mono ?_
              rintro e wA ⟨rfl, q, rfl⟩
              have hA := h10.out.below (below_drewN (Below.refl _ w10) q)
              have hA2 := h5.out.below (below_drewN (Below.refl _ w10) q)
              have hbA := below_drewN hb10.out q
              generalize w10.drewN q = wA at hA hA2 hbA ⊢
              have kg1 := Lib.hid (hlgen hA)
              have kg2 := Lib.hid (hlgen hA2)
              have kr1 := Lib.hid (hlroom hA (by show (enc L).size ≤ _; omega))
              replace hA := Lib.hid hA
              replace hA2 := Lib.hid hA2
              replace hbA := Lib.hid hbA
              have qg : ((g : Int) != (g : Int)) = false := bne_self_eq_false _
              clear ksm h10 h5 hb10
              go_wp2_with fail
              refine kg1.out.mono ?_
              rintro e wx ⟨rfl, hw'⟩
              replace hw' := hw'.symm
              subst hw'
              go_wp2_with fail
              refine kg2.out.mono ?_
              rintro e wx ⟨rfl, hw'⟩
              replace hw' := hw'.symm
              subst hw'
              clear kg1 kg2
              go_wp2_with fail
              refine kr1.out.mono ?_
              rintro e wB ⟨rfl, q, rfl⟩
              have kr2 := hlroom (hA2.out.below (below_drewN (Below.refl _ wA) q)) (by show (enc L).size ≤ _; omega)
              generalize roomL ⟨g, L, false⟩ d = RM at kr2 ⊢
              have qr : (RM != RM) = false := bne_self_eq_false _
              replace kr2 := Lib.hid kr2
              clear kr1
              go_wp2_with fail
              refine kr2.out.mono ?_
              rintro e wC ⟨rfl, q2, rfl⟩
              have hC := hA2.out.below (below_drewN (below_drewN (Below.refl _ wA) q) q2)
              have hbC := below_drewN (below_drewN hbA.out q) q2
              generalize (wA.drewN q).drewN q2 = wC at hC hbC ⊢
              have kim := hlimage hC
              rw [← hI.out] at kim
              replace kim := Lib.hid kim
              replace hC := Lib.hid hC
              replace hbC := Lib.hid hbC
              clear kr2 hA hA2 hbA qr qg
              go_wp2_with fail
              refine kim.out.mono ?_
              rintro e wD ⟨rfl, bD⟩
              have hD := Lib.hid (hC.out.below bD)
              have hbD := Lib.hid (hbC.out.trans (bD.mono hbC.out.size))
              have qi : (I.toList == I.toList) = true := beq_self_eq_true _
              clear kim hC hbC bD
              go_wp2_with fail
              exact ⟨⟨i + 1, by omega, rfl, hD.out, hbD.out⟩, by simp [intOf]; omega⟩
            · obtain rfl : i = 3 := by omega
              replace hb2 := Lib.hid hb2
              clear h2
              go_wp2_with fail
              refine (kf.out _).mono ?_
              rintro e w6 ⟨rfl, b6⟩
              have hb6 := Lib.hid (hb2.out.trans (b6.mono hb2.out.size))
              clear b6 hb2
              go_wp2_with fail
              go_ret
              exact ⟨rfl, hb6.out⟩
end Go.Proofs.YtojhlijcinenoaaDoor.Nv

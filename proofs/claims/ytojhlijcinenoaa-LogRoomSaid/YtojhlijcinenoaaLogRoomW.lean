/- LogRoom: the walk. -/
import Derived.Test.YtojhlijcinenoaaNvFixed
import Derived.BigQuiet
namespace Go.Proofs.Ytojhlijcinenoaa.Nv
open Go Go.RowKit Go.Maps Mem Disk
/-- where the law's loop stands -/
structure RoomAt (w : World) (N k : Nat) (wr : World) (a b : Nat) (L : List ByteArray) (d : Dk) : Prop where
  h : Hl (fun i => i < w.heap.size) N (2 + 30 * k) wr a b ⟨0, L, false⟩ d
  al : Al N d
  few : L.length ≤ k
  fits : (enc L).size ≤ 64 * halfD d
  hb : Below w.heap.size w wr
theorem RoomAt.half {w wr : World} {N k a b : Nat} {L : List ByteArray} {d : Dk} (h : RoomAt w N k wr a b L d) (hN : N ≤ 100) : 64 * halfD d ≤ 6400 := by
  unfold halfD
  rw [h.h.fn.len]
  omega
set_option maxRecDepth 100000 in
set_option maxHeartbeats 8000000 in
theorem logroom_any (sec : Int) (A : Option Addr) (n c : Nat) (recs : List ByteArray) (w : World) (hr : Row w A n (recs.map Value.string)) (hn : n ≤ 9223372036854775807) :
    Calls Try.prog 3 #[.int .i64 sec, .slice A n c] w fun e w' => e = .returned (.bool true) ∧ Below w.heap.size w w' := by
  have kf := Lib.hid (fun W => fixed_any W)
  by_cases h5 : clamp100 sec < 5
  · have k0 := Lib.hid (laid_no sec 0 w (Or.inl h5))
    clear h5 hr
    go_enter Try.func3, Try.ntmps3
    go_wp2_with fail
    refine k0.out.mono ?_
    rintro e w1 ⟨b, c, rfl, hb⟩
    replace hb := Lib.hid hb
    clear k0
    go_wp2_with fail
    refine (kf.out _).mono ?_
    rintro e w2 ⟨rfl, hb2⟩
    have hb3 := Lib.hid (hb.out.trans (hb2.mono hb.out.size))
    clear hb2
    go_wp2_with fail
    go_ret
    exact ⟨rfl, hb3.out⟩
  · have k0 := Lib.hid (laid_yes sec 0 w (by omega) (by decide))
    obtain ⟨hN1, hN2⟩ := clamp100_le sec
    obtain ⟨q0, q1, q2⟩ := laidD_ok (N := clamp100 sec) hN1 (by omega) 0
    clear q0
    replace q1 := Lib.hid q1
    replace q2 := Lib.hid q2
    replace hr := Lib.hid hr
    clear h5
    go_enter Try.func3, Try.ntmps3
    go_wp2_with fail
    refine k0.out.mono ?_
    rintro e w1 ⟨a, b, k, cc, rfl, h, hb⟩
    have st : RoomAt w (clamp100 sec) 0 w1 a b [] (laidD (clamp100 sec) 0) := ⟨(show Bothl w w1 a b k cc ⟨0, [], false⟩ _ from h).hand q2.out hb, q1.out, Nat.le_refl _, Nat.zero_le _, hb⟩
    clear k0 q1 q2 h hb
    generalize laidD (clamp100 sec) 0 = d0 at st
    generalize clamp100 sec = N at hN1 hN2 st
    go_wp2_with fail
    go_loopw [10, 11] (fun mv iv wr => ∃ (j : Nat) (L : List ByteArray) (d : Dk), j ≤ n ∧ j ≤ 100 ∧ mv = .int .i64 (L.length : Int) ∧ iv = .int .i64 (j : Int) ∧ RoomAt w N j wr a b L d) (fun _ iv _ => n - (intOf iv).toNat)
    case atStart => exact ⟨0, [], _, Nat.zero_le _, Nat.zero_le _, rfl, rfl, st⟩
    case round =>
      clear st
      obtain ⟨j, L, d, hjn, hj1, rfl, rfl, st⟩ := hrel
      have hs64 := st.half hN2
      have hLl : (L.length : Int) ≤ 100 := by have := st.few; omega
      by_cases hlt : j < n ∧ j < 100
      · have hltI : (j : Int) < (n : Int) := by omega
        have hj0 : (0 : Int) ≤ (j : Int) := by omega
        have hj100 : (j : Int) < 100 := by omega
        obtain ⟨ad, u, rfl, hu, hc⟩ := (hr.out.below st.hb).at_ hlt.1
        obtain ⟨r, hr1, rfl⟩ := getStr_some hu
        clear hu hr1
        have kroom := Lib.hid (fun q => hlroom (st.h.below (below_drewN (Below.refl _ wr) q)) (by have := st.fits; show (enc L).size ≤ _; omega))
        have ksteps := Lib.hid (fun q => hlsteps (st.h.below (below_drewN (Below.refl _ wr) q)))
        have kapp := Lib.hid (fun q => hlappend (st.h.below (below_drewN (Below.refl _ wr) q)) (by omega) st.fits (by show L.length ≤ _; have := st.few; omega) r)
        clear hs64
        by_cases hfit : r.size ≤ 1300 ∧ 2 + (r.size : Int) ≤ roomL ⟨0, L, false⟩ d
        · obtain ⟨a1, a2, a3⟩ := st.al.append st.h.fn hN1 rfl hfit.1 hfit.2
          have hfn := st.h.fn.append ⟨0, L, false⟩ r
          generalize appendL ⟨0, L, false⟩ d r = R at kapp a1 a2 a3 hfn
          obtain ⟨l2, d2, e2⟩ := R
          have a2' : l2 = ⟨0, L ++ [r], false⟩ := a2
          have a1' : e2 = 0 := a1
          subst a2' a1'
          have hR2 : roomL ⟨0, L ++ [r], false⟩ d2 = roomL ⟨0, L, false⟩ d - (r.size : Int) - 2 := by
            have e1 := hfn.len
            have e2 := st.h.fn.len
            have e3 : (enc (L ++ [r])).size = (enc L).size + r.size + 2 := by rw [enc_snoc, ByteArray.size_append, enc1_size]; omega
            unfold roomL halfD
            rw [show (Lg.mk 0 (L ++ [r]) false).list = L ++ [r] from rfl, e3]
            have e1' : d2.stays.length = N := e1
            rw [e1', e2]
            show _ = ((N - 1) / 2 : Nat) * 64 - ((enc L).size : Int) - _ - 2
            omega
          have hz2 : (enc (L ++ [r])).size ≤ 64 * halfD d2 := by
            have h1 := hfit.2
            have h2 : (0 : Int) ≤ roomL ⟨0, L ++ [r], false⟩ d2 := by rw [hR2]; omega
            unfold roomL at h2
            have h3 : (0 : Int) ≤ (halfD d2 : Int) * 64 - ((enc (L ++ [r])).size : Int) := h2
            omega
          obtain ⟨RM, hRM⟩ : ∃ RM, RM = roomL ⟨0, L, false⟩ d := ⟨_, rfl⟩
          rw [← hRM] at kroom hfit hR2
          have q1 : (r.size : Int) ≤ 1300 := by omega
          have q2 : (r.size : Int) + 2 ≤ RM := by omega
          have q3 : RM ≤ 6400 := by have := st.half hN2; unfold roomL at hRM; omega
          replace hR2 := Lib.hid hR2
          replace hz2 := Lib.hid hz2
          replace st := Lib.hid st
          replace a3 := Lib.hid a3
          clear hRM a1 a2 hfn hfit
          go_wp2_with fail
          go_quiet ((first | (go_at_call 6; exact Calls.quiet_of (kroom.out _)) | (go_at_call 7; exact Calls.quiet_of_same (ksteps.out _))))
          go_wp2_with fail
          refine (kapp.out _).mono ?_
          rintro e w3 ⟨rfl, h3, k3⟩
          have hb0 := below_drewN st.out.hb nq
          have hb3 := Lib.hid (hb0.trans (k3.toBelow (fun i hi => hi) hb0.size))
          have kr2 := hlroom h3 (by have h1 := hz2.out; have h2 : 64 * halfD d2 ≤ 6400 := (by unfold halfD; rw [h3.fn.len]; omega); show (enc (L ++ [r])).size ≤ _; omega)
          rw [hR2.out] at kr2
          replace kr2 := Lib.hid kr2
          replace h3 := Lib.hid h3
          clear hb0 k3 kapp kroom ksteps
          go_wp2_with fail
          refine kr2.out.mono ?_
          rintro e w4 ⟨rfl, n4, rfl⟩
          have st4 := Lib.hid (show RoomAt w N (j + 1) (w3.drewN n4) a b (L ++ [r]) d2 from ⟨(h3.out.below (below_drewN (Below.refl _ w3) n4)).more (by omega), a3.out, by have := st.out.few; rw [List.length_append]; exact Nat.succ_le_succ this, hz2.out, below_drewN hb3.out n4⟩)
          generalize w3.drewN n4 = w4 at st4
          clear kr2 h3 hb3
          go_wp2_with fail
          exact ⟨⟨j + 1, L ++ [r], d2, by omega, by omega, by rw [List.length_append]; rfl, rfl, st4.out⟩, by simp [intOf]; omega⟩
        · obtain ⟨a1, a2, a3⟩ := append_no (l := ⟨0, L, false⟩) (d := d) rfl hfit
          generalize appendL ⟨0, L, false⟩ d r = R at kapp a1 a2 a3
          obtain ⟨l2, d2, e2⟩ := R
          have a2' : ⟨0, L, false⟩ = l2 := a2.symm
          have a3' : d = d2 := a3.symm
          subst a2' a3'
          have a1' : (e2 == 0) = false := beq_false_of_ne a1
          have q9 : ((d.steps : Int) != (d.steps : Int)) = false := bne_self_eq_false _
          obtain ⟨RM, hRM⟩ : ∃ RM, RM = roomL ⟨0, L, false⟩ d := ⟨_, rfl⟩
          have q8 : (RM != RM) = false := bne_self_eq_false _
          rw [← hRM] at kroom hfit
          have hfits := Lib.hid (show (enc L).size ≤ 1048576 by have h1 := st.fits; have h2 := st.half hN2; omega)
          replace st := Lib.hid st
          have hRM2 := Lib.hid hRM
          clear hRM a1 a2 a3
          by_cases hsz : r.size ≤ 1300
          · have q1 : (r.size : Int) ≤ 1300 := by omega
            have q2 : decide ((r.size : Int) + 2 ≤ RM) = false := decide_eq_false (by omega)
            clear hfit
            go_wp2_with fail
            go_quiet ((first | (go_at_call 6; exact Calls.quiet_of (kroom.out _)) | (go_at_call 7; exact Calls.quiet_of_same (ksteps.out _))))
            go_wp2_with fail
            refine (kapp.out _).mono ?_
            rintro e w3 ⟨rfl, h3, k3⟩
            have hb0 := below_drewN st.out.hb nq
            have hb3 := Lib.hid (hb0.trans (k3.toBelow (fun i hi => hi) hb0.size))
            have h3' : Hl (fun i => i < w.heap.size) N (2 + 30 * j + 30) w3 a b ⟨0, L, false⟩ d := h3
            have kr2 := hlroom h3' hfits.out
            rw [← hRM2.out] at kr2
            replace kr2 := Lib.hid kr2
            have ks2 := Lib.hid (hlsteps h3')
            replace h3 := Lib.hid h3'
            clear hb0 k3 kapp kroom ksteps h3'
            go_wp2_with fail
            refine ks2.out.mono ?_
            rintro e w4 ⟨rfl, rfl⟩
            go_wp2_with fail
            refine kr2.out.mono ?_
            rintro e w5 ⟨rfl, n4, rfl⟩
            have st4 := Lib.hid (show RoomAt w N (j + 1) (w4.drewN n4) a b L d from ⟨(h3.out.below (below_drewN (Below.refl _ w4) n4)).more (by omega), st.out.al, Nat.le_succ_of_le st.out.few, st.out.fits, below_drewN hb3.out n4⟩)
            generalize w4.drewN n4 = w5 at st4
            clear kr2 h3 hb3 ks2
            go_wp2_with fail
            exact ⟨⟨j + 1, L, d, by omega, by omega, rfl, rfl, st4.out⟩, by simp [intOf]; omega⟩
          · have q1 : decide ((r.size : Int) ≤ 1300) = false := decide_eq_false (by omega)
            clear hfit
            go_wp2_with fail
            go_quiet ((first | (go_at_call 6; exact Calls.quiet_of (kroom.out _)) | (go_at_call 7; exact Calls.quiet_of_same (ksteps.out _))))
            go_wp2_with fail
            refine (kapp.out _).mono ?_
            rintro e w3 ⟨rfl, h3, k3⟩
            have hb0 := below_drewN st.out.hb nq
            have hb3 := Lib.hid (hb0.trans (k3.toBelow (fun i hi => hi) hb0.size))
            have h3' : Hl (fun i => i < w.heap.size) N (2 + 30 * j + 30) w3 a b ⟨0, L, false⟩ d := h3
            have kr2 := hlroom h3' hfits.out
            rw [← hRM2.out] at kr2
            replace kr2 := Lib.hid kr2
            have ks2 := Lib.hid (hlsteps h3')
            replace h3 := Lib.hid h3'
            clear hb0 k3 kapp kroom ksteps h3'
            go_wp2_with fail
            refine ks2.out.mono ?_
            rintro e w4 ⟨rfl, rfl⟩
            go_wp2_with fail
            refine kr2.out.mono ?_
            rintro e w5 ⟨rfl, n4, rfl⟩
            have st4 := Lib.hid (show RoomAt w N (j + 1) (w4.drewN n4) a b L d from ⟨(h3.out.below (below_drewN (Below.refl _ w4) n4)).more (by omega), st.out.al, Nat.le_succ_of_le st.out.few, st.out.fits, below_drewN hb3.out n4⟩)
            generalize w4.drewN n4 = w5 at st4
            clear kr2 h3 hb3 ks2
            go_wp2_with fail
            exact ⟨⟨j + 1, L, d, by omega, by omega, rfl, rfl, st4.out⟩, by simp [intOf]; omega⟩
      · have krec := Lib.hid (hlrecords st.h (by show L.length ≤ _; omega))
        have hbs := Lib.hid st.hb
        clear st
        by_cases hjn2 : j < n
        · have q1 : (j : Int) < (n : Int) := by omega
          obtain rfl : j = 100 := by omega
          clear hlt
          go_wp2_with fail
          refine krec.out.mono ?_
          rintro e w5 ⟨A5, c5, rfl, o5, b5⟩
          have hb5 := Lib.hid (hbs.out.trans (b5.mono hbs.out.size))
          clear o5 b5 hbs krec
          go_wp2_with fail
          refine (kf.out _).mono ?_
          rintro e w6 ⟨rfl, b6⟩
          have hb6 := Lib.hid (hb5.out.trans (b6.mono hb5.out.size))
          clear b6 hb5
          go_wp2_with fail
          go_ret
          exact ⟨rfl, hb6.out⟩
        · obtain rfl : j = n := by omega
          clear hlt
          go_wp2_with fail
          refine krec.out.mono ?_
          rintro e w5 ⟨A5, c5, rfl, o5, b5⟩
          have hb5 := Lib.hid (hbs.out.trans (b5.mono hbs.out.size))
          clear o5 b5 hbs krec
          go_wp2_with fail
          refine (kf.out _).mono ?_
          rintro e w6 ⟨rfl, b6⟩
          have hb6 := Lib.hid (hb5.out.trans (b6.mono hb5.out.size))
          clear b6 hb5
          go_wp2_with fail
          go_ret
          exact ⟨rfl, hb6.out⟩
end Go.Proofs.Ytojhlijcinenoaa.Nv

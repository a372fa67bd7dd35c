/- BlockReads: the walk. -/
import Derived.Test.YtkghlbpkdkonbaaBlkFixed
import Derived.Test.YtkghlbpkdkonbaaCopyText
namespace Go.Proofs.Ytkghlbpkdkonbaa.Vl
open Go Go.RowKit Go.Maps Mem Disk Nv
set_option maxRecDepth 100000 in
theorem openD_fits {img : ByteArray} (h1 : 1 ≤ img.size / 64) (h2 : img.size / 64 ≤ 16384) : Fit (openD img) := by
  refine ⟨by rw [openD_len]; exact ⟨h1, h2⟩, fun s hs => ?_, (fun p hp => by cases hp), List.Pairwise.nil⟩
  obtain ⟨i, hi, rfl⟩ := List.mem_map.1 hs
  have := List.mem_range.1 hi
  rw [if_pos this]
  unfold chunk
  rw [ByteArray.size_extract]
  omega
set_option maxRecDepth 100000 in
theorem badD_len (d : Dk) (n : Int) (b : Bool) : (badD d n b).1.stays.length = d.stays.length ∧ (badD d n b).1.steps = d.steps := by
  unfold badD
  split
  · exact ⟨rfl, rfl⟩
  · exact ⟨rfl, rfl⟩
/-- both disks, q sectors told bad or not -/
structure BadAt (w0 : World) (W : World) (q b c : Nat) (d : Dk) : Prop where
  two : Two (fun i => i < w0.heap.size) (2 * q) W b c d d
  len : 32 ≤ d.stays.length ∧ d.stays.length ≤ 100
  steps : d.steps = 0
  hb : Below w0.heap.size w0 W
set_option maxRecDepth 100000 in
set_option maxHeartbeats 8000000 in
theorem blockreads_any (s : ByteArray) (bad : Int) (hs : s.size ≤ 140737488355328) (w : World) :
    Calls Try.prog 7 #[.string s, .int .i64 bad] w fun e w' => e = .returned (.bool true) ∧ Below w.heap.size w w' := by
  have kf := Lib.hid (fun W => fixed_any W)
  obtain ⟨i0, hinf, hz0, hz1, hz2⟩ := info_parts infoU8
  obtain ⟨K, hK⟩ : ∃ K : Nat, K = max 32 (min ((s.size + 63) / 64) 100) := ⟨_, rfl⟩
  have hmm : max 32 (min (((s.size : Int) + 63) / 64) 100) = (K : Int) := by omega
  have hK1 : 32 ≤ K ∧ K ≤ 100 := by omega
  obtain ⟨M, hM⟩ : ∃ M, M = 64 * K := ⟨_, rfl⟩
  have hMI := Lib.hid (show 64 * (K : Int) = (M : Int) by omega)
  have hIs := padB_size s M
  obtain ⟨I, hI⟩ : ∃ I, I = padB s M := ⟨_, rfl⟩
  rw [← hI] at hIs
  have hI64 : I.size / 64 = K := by omega
  have hfit := openD_fits (img := I) (by omega) (by omega)
  have kd := fun W => open_yes I W (by omega) (by omega) (by omega)
  have kr := fun W => ropen_yes I W (by omega) (by omega) (by omega)
  have hlen : 32 ≤ (openD I).stays.length ∧ (openD I).stays.length ≤ 100 := by rw [openD_len, hI64]; exact hK1
  have hst : (openD I).steps = 0 := rfl
  have hnum : NumTo 0 (openD I) := ⟨Nat.le_refl _, Nat.le_refl _, Nat.zero_le _⟩
  generalize openD I = D at hfit kd kr hlen hst hnum
  replace kd := Lib.hid kd
  replace kr := Lib.hid kr
  have hMb : M ≤ 6400 := by omega
  replace hI := Lib.hid hI
  replace hIs := Lib.hid hIs
  replace hM := Lib.hid hM
  replace hK := Lib.hid hK
  replace hlen := Lib.hid hlen
  replace hst := Lib.hid hst
  replace hI64 := Lib.hid hI64
  go_enter Try.func7, Try.ntmps7
  go_wp2_with (first | (at_make; refine wpList_make_full _ rfl _ _ _ rfl w.heap.size 5 i0 (.int .u8 0) 1 Try.underlying55 hinf hz0 hz1 .i64 .i64 _ _ M rfl rfl (by first | rfl | exact hMI.out) (by first | rfl | exact hMI.out) (by rw [hz2]; omega) (by unfold maxLen; omega) (Nat.le_refl _) ?_; intro w2 ho2 hg2; obtain ⟨w3, hcp, hg3, hcv, _⟩ := copy_text s ho2; have hb3 : Below w.heap.size w w3 := (show Below w.heap.size w w2 from ⟨hg2.os, hg2.tape, hg2.output, hg2.size, fun k hk => hg2.block k hk (by simp)⟩).trans (Only.toBelow hg3 (Nat.le_refl _) hg2.size); rw [← hI.out] at hcv; have hcv3 := hcv w3 (Below.refl _ _); replace hcv := Lib.hid hcv; replace hb3 := Lib.hid hb3; clear ho2 hg2 hg3))
  refine (kd.out _).mono ?_
  rintro e w4 ⟨F, b, rfl, hd, hF, hb4⟩
  have hcv4 := hcv.out w4 hb4
  have hb4' := Lib.hid (hb3.out.trans (hb4.mono hb3.out.size))
  have hb4k := Lib.hid hb4
  replace hd := Lib.hid hd
  replace hF := Lib.hid hF
  clear hb4 hcv3 hcp
  go_wp2_with fail
  refine (kr.out _).mono ?_
  rintro e w5 ⟨G, c, rfl, hr, hG, hb5⟩
  have hb5' := Lib.hid (hb4'.out.trans (hb5.mono hb4'.out.size))
  have st : BadAt w w5 0 b c D := ⟨⟨F, G, hd.out.below hb5, hr, fun i hi hg => by have h1 := hG i hg; have h2 := hd.out.blt i hi; omega, fun i hi hx => by have h1 := hF.out i hi; have h2 := hb3.out.size; omega, fun i hi hx => by have h1 := hG i hi; have h2 := hb4'.out.size; omega, fun i hi => Nat.lt_of_lt_of_le hi hb5'.out.size, ⟨hfit, hnum⟩, ⟨hfit, hnum⟩⟩, hlen.out, hst.out, hb5'.out⟩
  clear hF hG hb5 hcv4 hcv hb4k hd hb3 hb4' hr hb5' hst hlen hfit hnum kd kr
  go_wp2_with fail
  go_loopw [11] (fun iv wr => ∃ (q : Nat) (d : Dk), q ≤ 2 ∧ iv = .int .i64 (q : Int) ∧ BadAt w wr q b c d) (fun iv _ => 2 - (intOf iv).toNat)
  case atStart => exact ⟨0, _, Nat.zero_le _, rfl, st⟩
  case round =>
    clear st
    obtain ⟨q, d, hq, rfl, st⟩ := hrel
    by_cases hlt : q < 2
    · have z1 : (0 : Int) ≤ (q : Int) := by omega
      have z2 : (q : Int) < 2 := by omega
      go_wp2_with fail
      refine (tbad st.two (by omega) _ _).mono ?_
      rintro e w2 ⟨rfl, h2, k2⟩
      have hb2 := st.hb.trans (k2.toBelow (fun i hi => hi) st.hb.size)
      go_wp2_with fail
      refine (ubad h2 (by omega) _ _).mono ?_
      rintro e w3 ⟨rfl, h3, k3⟩
      have hb3 := hb2.trans (k3.toBelow (fun i hi => hi) hb2.size)
      go_wp2_with fail
      obtain ⟨e1, e2⟩ := badD_len d (q : Int) (decide (bad / 2 ^ q % 2 = 1))
      exact ⟨⟨q + 1, _, by omega, rfl, ⟨h3.more (by omega), by rw [(badD_len _ _ _).1]; exact st.len, by rw [(badD_len _ _ _).2]; exact st.steps, hb3⟩⟩, by simp [intOf]; omega⟩
    · obtain rfl : q = 2 := by omega
      obtain ⟨F, G, hd, hr, _, _, _, _, ⟨hfit, _⟩, ⟨_, hnum⟩⟩ := st.two
      have hb := Lib.hid st.hb
      have hst := Lib.hid st.steps
      have hmk := Lib.hid (Nat.le_trans hnum.marks (show 2 * 2 ≤ 4611686018427387904 by decide))
      have ko := Lib.hid (vopen_any hd hfit)
      replace hr := Lib.hid hr
      replace hd := Lib.hid hd
      clear st
      go_wp2_with fail
      refine ko.out.mono ?_
      intro e w6 hp6
      obtain ⟨b6, hp6⟩ := hp6
      have hr6 := hr.out.below b6
      have hd6 := Lib.hid (hd.out.below b6)
      have hb6 := Lib.hid (hb.out.trans (b6.mono hb.out.size))
      have kq := Lib.hid (ropen_any hr6 hfit hmk.out)
      clear ko hr b6 hd hb
      obtain ⟨r, hr⟩ : ∃ r, r = openV d := ⟨_, rfl⟩
      rw [← hr] at hp6 kq
      clear hr
      obtain ⟨o, x⟩ := r
      have qx : (x != x) = false := bne_self_eq_false _
      cases o with
      | none =>
        obtain rfl := hp6
        go_wp2_with fail
        refine kq.out.mono ?_
        intro e w7 hp7
        obtain ⟨b7, hp7⟩ := hp7
        obtain rfl := hp7
        have ks := steps_any (hd6.out.below b7)
        rw [hst.out] at ks
        have hb7 := Lib.hid (hb6.out.trans (b7.mono hb6.out.size))
        replace ks := Lib.hid ks
        clear b7 hb6 kq hd6
        go_wp2_with fail
        refine ks.out.mono ?_
        rintro e w8 ⟨rfl, hw'⟩
        replace hw' := hw'.symm
        subst hw'
        clear ks
        go_wp2_with fail
        refine (kf.out _).mono ?_
        rintro e w9 ⟨rfl, b9⟩
        have hb9 := Lib.hid (hb7.out.trans (b9.mono hb7.out.size))
        clear b9 hb7
        go_wp2_with fail
        go_ret
        exact ⟨rfl, hb9.out⟩
      | some v =>
        obtain ⟨a, F2, rfl, hp, _⟩ := hp6
        replace hp := Lib.hid hp
        go_wp2_with fail
        refine kq.out.mono ?_
        intro e w7 hp7
        obtain ⟨b7, hp7⟩ := hp7
        obtain ⟨k, G2, rfl, hq, _⟩ := hp7
        have ks := steps_any (hd6.out.below b7)
        rw [hst.out] at ks
        have hb7 := Lib.hid (hb6.out.trans (b7.mono hb6.out.size))
        have hp7 := Lib.hid (hp.out.below b7)
        replace hq := Lib.hid hq
        replace ks := Lib.hid ks
        clear b7 hb6 kq hd6 hp
        go_wp2_with fail
        refine ks.out.mono ?_
        rintro e w8 ⟨rfl, hw'⟩
        replace hw' := hw'.symm
        subst hw'
        clear ks
        obtain ⟨_, _, _, hv⟩ := hp7.out
        have kr := Lib.hid (vroot_any hv)
        clear hv hp7
        go_wp2_with fail
        refine kr.out.mono ?_
        rintro e w8 ⟨rfl, n8, rfl⟩
        have hq8 := Lib.hid (hq.out.below (below_N w7 n8))
        have hb8 := Lib.hid (below_drewN hb7.out n8)
        obtain ⟨_, _, _, hv⟩ := hq8.out
        obtain ⟨_, c1, c2, _⟩ := hv.cells
        have tb : (v.text.toList == v.text.toList) = true := beq_self_eq_true _
        have nb : ((v.num : Int) == (v.num : Int)) = true := beq_self_eq_true _
        clear kr hb7 hq hv hq8
        generalize w7.drewN n8 = w8 at c1 c2 hb8 ⊢
        go_wp2_with fail
        refine (kf.out _).mono ?_
        rintro e w9 ⟨rfl, b9⟩
        have hb9 := Lib.hid (hb8.out.trans (b9.mono hb8.out.size))
        clear b9 hb8
        go_wp2_with fail
        go_ret
        exact ⟨rfl, hb9.out⟩
end Go.Proofs.Ytkghlbpkdkonbaa.Vl

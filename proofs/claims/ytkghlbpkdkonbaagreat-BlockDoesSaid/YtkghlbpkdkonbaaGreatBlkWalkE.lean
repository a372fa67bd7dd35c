/- The volume's may, Commit, made, Format. -/
import Derived.Test.YtkghlbpkdkonbaaGreatBlkWalkD
namespace Go.Proofs.YtkghlbpkdkonbaaGreat.Vl
open Go Go.RowKit Go.Maps Mem Disk Nv
section
variable {F G H K : Nat → Prop} {w w' : World} {a b c m : Nat} {v v' : Vo} {d d' : Dk}
set_option maxRecDepth 100000 in
set_option maxHeartbeats 2000000 in
theorem vmay_any (h : VC F G H w a b c v d) (hf : Fit d) (n : Int) : Calls Tryz.prog 33 #[.pointer (some ⟨a, 0, none⟩), .int .i64 n] w fun e w' => e = .returned (.bool (decide (mayV d n))) ∧ w' = w := by
  have kb := Lib.hid (vblocks_any h hf)
  obtain ⟨N, hN⟩ : ∃ N, N = blocksD d := ⟨_, rfl⟩
  rw [← hN] at kb
  obtain ⟨Y, hY⟩ : ∃ Y, Y = decide (mayV d n) := ⟨_, rfl⟩
  rw [← hY]
  by_cases h1 : 1 ≤ n
  · have q1 : decide (1 ≤ n) = true := decide_eq_true h1
    by_cases h2 : n < (N : Int)
    · have q2 : decide (n < (N : Int)) = true := decide_eq_true h2
      have e : Y = true := by rw [hY]; exact decide_eq_true ⟨h1, by rw [← hN]; exact h2⟩
      replace e := Lib.hid e
      clear hY hN h
      go_enter Tryz.func33, Tryz.ntmps33
      go_wp2_with fail
      refine (kb.out).mono ?_
      rintro en w' ⟨rfl, hw'⟩
      replace hw' := hw'.symm
      subst hw'
      go_wp2_with fail
      go_ret
      exact ⟨by rw [e.out]; rfl, rfl⟩
    · have q2 : decide (n < (N : Int)) = false := decide_eq_false h2
      have e : Y = false := by rw [hY]; exact decide_eq_false (fun hh => h2 (by rw [hN]; exact hh.2))
      replace e := Lib.hid e
      clear hY hN h
      go_enter Tryz.func33, Tryz.ntmps33
      go_wp2_with fail
      refine (kb.out).mono ?_
      rintro en w' ⟨rfl, hw'⟩
      replace hw' := hw'.symm
      subst hw'
      go_wp2_with fail
      go_ret
      exact ⟨by rw [e.out]; rfl, rfl⟩
  · have q1 : decide (1 ≤ n) = false := decide_eq_false h1
    have e : Y = false := by rw [hY]; exact decide_eq_false (fun hh => h1 hh.1)
    replace e := Lib.hid e
    clear hY hN h
    go_enter Tryz.func33, Tryz.ntmps33
    go_wp2_with fail
    go_ret
    exact ⟨by rw [e.out]; rfl, rfl⟩
set_option maxRecDepth 100000 in
set_option maxHeartbeats 8000000 in
theorem commit_any (h : VC F G H w a b c v d) (hf : Fit d) (hn : NumTo m d) (hm : m ≤ 900000) (text : ByteArray) :
    Calls Tryz.prog 9 #[.pointer (some ⟨a, 0, none⟩), .string text] w (VPost F w a b (commitV v d text)) := by
  obtain ⟨Z, hZ⟩ : ∃ Z, Z = commitV v d text := ⟨_, rfl⟩
  rw [← hZ]
  obtain ⟨c0, _, c2, _, c4⟩ := h.cells
  by_cases h40 : 40 < text.size
  · have e1 := Lib.hid (hZ.trans (if_pos h40))
    have q1 : decide (40 < (text.size : Int)) = true := decide_eq_true (by omega)
    have fin := Lib.hid (vpost_same h.pv 83)
    clear h hf hn h40 hZ
    go_enter Tryz.func9, Tryz.ntmps9
    go_wp2_with fail
    go_ret
    rw [e1.out]
    exact fin.out
  · have q1 : decide (40 < (text.size : Int)) = false := decide_eq_false (by omega)
    rcases Bool.eq_false_or_eq_true v.dead with hd | hd
    · have e1 := Lib.hid (hZ.trans ((if_neg h40).trans (if_pos hd)))
      rw [hd] at c4
      have fin := Lib.hid (vpost_same h.pv 2)
      clear h hf hn h40 hZ hd
      go_enter Tryz.func9, Tryz.ntmps9
      go_wp2_with fail
      go_ret
      rw [e1.out]
      exact fin.out
    · rw [hd] at c4
      have hd' : ¬ v.dead = true := by rw [hd]; decide
      by_cases hnum : 1099511627776 ≤ v.num
      · have e1 := Lib.hid (hZ.trans ((if_neg h40).trans ((if_neg hd').trans (if_pos hnum))))
        have q2 : decide (1099511627776 ≤ (v.num : Int)) = true := decide_eq_true (by omega)
        have fin := Lib.hid (vpost_same h.pv 80)
        clear h hf hn h40 hZ hd hd' hnum
        go_enter Tryz.func9, Tryz.ntmps9
        go_wp2_with fail
        go_ret
        rw [e1.out]
        exact fin.out
      · have q2 : decide (1099511627776 ≤ (v.num : Int)) = false := decide_eq_false (by omega)
        have e1 : Z = commitS v text (syncD d) := hZ.trans ((if_neg h40).trans ((if_neg hd').trans (if_neg hnum)))
        have ks := sync_any h.dk (hn.num_ (by omega)) hf
        have hfS := hf.sync
        have hnS := hn.sync
        obtain ⟨S, hS⟩ : ∃ S, S = syncD d := ⟨_, rfl⟩
        rw [← hS] at ks e1 hfS hnS
        have hF : ∀ i, (F i ∨ G i) → F i ∨ w.heap.size ≤ i := fun i hi => Or.inl (hi.elim id (h.fg i))
        have hfg := Lib.hid h.fg
        replace hF := Lib.hid hF
        by_cases hz : S.2 = 0
        · have e2 : Z = keepsV v S.1 text (v.num + 1) := e1.trans (if_neg (fun hh => hh hz))
          have hlet : v.num + 1 ≤ 1099511627776 := by omega
          rw [hz] at ks
          replace e2 := Lib.hid e2
          replace ks := Lib.hid ks
          replace hS := Lib.hid hS
          replace hz := Lib.hid hz
          replace h := Lib.hid h
          have bd : ∀ W, (Instr.build 65 #[(0, .string text), (1, .int .i64 ((v.num : Int) + 1))]).run Tryz.prog W = .ok (.agg #[.string text, .int .i64 ((v.num : Int) + 1)]) W := fun W => run_build W _ _ _ (by kernel_rfl)
          clear hf hn hZ e1 hd hd' hnum
          go_enter Tryz.func9, Tryz.ntmps9
          go_wp2_with fail
          refine ks.out.mono ?_
          rintro en w6 ⟨rfl, hd6, k6⟩
          have h6 := Lib.hid (h.out.disk hd6 k6 (fun i hi => Or.inl hi))
          have kk6 := Lib.hid (k6.mono hfg.out)
          clear k6 hd6
          go_wp2_with fail
          refine (vtold_any h6.out 0).mono ?_
          rintro en w7 ⟨rfl, h7, k7⟩
          rw [tellV_zero] at h7
          have kk7 := Lib.hid (kk6.out.trans k7 hF.out)
          obtain ⟨_, _, d2, _⟩ := h7.cells
          have kp := Lib.hid (keeps_any h7 hfS hnS (by omega) text (by omega) (v.num + 1))
          clear k7 h7 h6 kk6 c2
          go_wp2_with fail
          refine kp.out.mono ?_
          intro en w8 hp
          replace hp := hp.more kk7.out hF.out
          rw [← e2.out] at hp
          obtain ⟨rfl, hp⟩ := hp
          replace hp := Lib.hid hp
          go_wp2_with fail
          go_ret
          exact ⟨rfl, hp.out⟩
        · have e2 : Z = (tellV v S.2, S) := e1.trans (if_pos hz)
          have hz' : (S.2 != 0) = true := bne_iff_ne.2 hz
          replace e2 := Lib.hid e2
          replace ks := Lib.hid ks
          replace hS := Lib.hid hS
          replace h := Lib.hid h
          clear hf hn hZ e1 hd hd' hnum hz
          go_enter Tryz.func9, Tryz.ntmps9
          go_wp2_with fail
          refine ks.out.mono ?_
          rintro en w6 ⟨rfl, hd6, k6⟩
          have h6 := Lib.hid (h.out.disk hd6 k6 (fun i hi => Or.inl hi))
          have kk6 := Lib.hid (k6.mono hfg.out)
          clear k6 hd6
          go_wp2_with fail
          refine (vtold_any h6.out _).mono ?_
          rintro en w7 ⟨rfl, h7, k7⟩
          have kk7 := Lib.hid (kk6.out.trans k7 hF.out)
          replace h7 := Lib.hid h7.pv
          clear k7 h6 kk6
          go_wp2_with fail
          go_ret
          exact ⟨by rw [e2.out]; rfl, _, by rw [e2.out]; exact h7.out, kk7.out, hF.out⟩
end
end Go.Proofs.YtkghlbpkdkonbaaGreat.Vl

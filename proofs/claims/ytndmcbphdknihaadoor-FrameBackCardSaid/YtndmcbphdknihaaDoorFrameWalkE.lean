/- The document's Open. -/
import Derived.Test.YtndmcbphdknihaaDoorFrameWalkD
import Derived.Test.YtndmcbphdknihaaDoorFrameSpecB
namespace Go.Proofs.YtndmcbphdknihaaDoor.Frame
open Go.RowKit Mem Wire

/-- how it stands between the document's reads: the result's block, the reader -/
def MidF (w W : World) (g r : Nat) (st : Rd) : Prop :=
  Blk W g 23 #[.int .i64 0, .int .i64 0, .int .i64 0, .string ⟨#[]⟩] ∧ IsRf W r st ∧ Below g w W ∧ g < r
theorem MidF.read {w W W' : World} {g r : Nat} {st st' : Rd} (h : MidF w W g r st) (hg : W.grownBy W' (some r)) (hr : IsRf W' r st') : MidF w W' g r st' := by
  obtain ⟨h1, _, h4, h6⟩ := h
  exact ⟨h1.grown hg (fun e => by injection e; omega), hr, h4.grown hg (Nat.le_of_lt h1.lt) (fun k hk => by injection hk; omega), h6⟩
theorem MidF.alloc {w W : World} {g r : Nat} {st : Rd} (h : MidF w W g r st) (o : Obj) : MidF w (W.alloc o) g r st := by
  obtain ⟨h1, h2, h4, h6⟩ := h
  exact ⟨h1.alloc o, h2.below ((Below.refl _ W).alloc (Nat.le_refl _) o) h2.lt, h4.alloc (Nat.le_of_lt h1.lt) o, h6⟩
theorem MidF.below {w W W' : World} {g r : Nat} {st : Rd} (h : MidF w W g r st) (hb : Below W.heap.size W W') : MidF w W' g r st := by
  obtain ⟨h1, h2, h4, h6⟩ := h
  exact ⟨h1.below hb h1.lt, h2.below hb h2.lt, h4.trans (hb.mono (Nat.le_of_lt h1.lt)), h6⟩

set_option maxRecDepth 100000 in
set_option maxHeartbeats 1000000 in
theorem ropen_any (s : ByteArray) (w : World) (hs : s.size ≤ 4611686018427387904) :
    Calls Tryd.prog 11 #[.string s] w fun e w' => e = .returned (openVal s.data.toList) ∧ Below w.heap.size w w' := by
  have hz : Blk (w.alloc (.cells #[.int .i64 0, .int .i64 0, .int .i64 0, .string ⟨#[]⟩] 23)) w.heap.size 23 #[.int .i64 0, .int .i64 0, .int .i64 0, .string ⟨#[]⟩] := Blk.new w _ _
  have hbz : Below w.heap.size w (w.alloc (.cells #[.int .i64 0, .int .i64 0, .int .i64 0, .string ⟨#[]⟩] 23)) := (Below.refl _ w).alloc (Nat.le_refl _) _
  by_cases h8 : s.size < 8
  · have hv : openVal s.data.toList = .tuple #[fVal 0 0 0 ⟨#[]⟩, .int .i64 171] := openVal_bad (fun h => by have := h.1; rw [← Lib.size_eq s] at this; omega)
    rw [hv]
    unfold fVal
    go_enter Tryd.func11, Tryd.ntmps11
    go_wp2_with fail
    refine bodyPost_ret (v := .tuple #[.agg #[.int .i64 0, .int .i64 0, .int .i64 0, .string ⟨#[]⟩], .int .i64 171]) ?_ rfl ⟨rfl, hbz⟩
    exact results_row_tmp (p := 2) (u := 3) (ty := 23) (by rfl) _ _ w.heap.size 23 #[.int .i64 0, .int .i64 0, .int .i64 0, .string ⟨#[]⟩] (0, 0) _ (by rfl) hz Tryd.underlying23 rfl (by kernel_rfl)
  · obtain ⟨m, hm⟩ : ∃ m, s.size = m + 8 := ⟨s.size - 8, by omega⟩
    have hg := good_iff hm
    have hleft := left_of s m hm
    have sB : (s.extract 0 m).size = m := by rw [ByteArray.size_extract]; omega
    have c1 := fun W => rsealed_any (s.extract 0 m) W (by omega)
    have hm63 : m + 8 ≤ 4611686018427387904 := by rw [← hm]; exact hs
    have hgS : good s.data.toList ↔ (⟨(sealed_ (s.extract 0 m).data.toList).toArray⟩ : ByteArray) = s := by
      rw [hleft]
      constructor
      · intro h; rw [h.2, Lib.mk_data]
      · intro h
        refine ⟨by rw [← Lib.size_eq s]; omega, ?_⟩
        have := congrArg (fun b : ByteArray => b.data.toList) h
        exact this
    obtain ⟨S, hS⟩ : ∃ z, z = (⟨(sealed_ (s.extract 0 m).data.toList).toArray⟩ : ByteArray) := ⟨_, rfl⟩
    rw [← hS] at c1 hgS
    replace c1 := Lib.hid c1
    replace hgS := Lib.hid hgS
    replace hleft := Lib.hid hleft
    clear hS h8 hs hg
    by_cases hST : S = s
    · have hgd := hgS.out.2 hST
      obtain ⟨⟨⟨a, e1⟩, st1⟩, hr1⟩ : ∃ x, rdNum 1152921504606846976 ((s.extract 0 m).data.toList, 0) = x := ⟨_, rfl⟩
      obtain ⟨⟨⟨b, e2⟩, st2⟩, hr2⟩ : ∃ x, rdNum 1152921504606846976 st1 = x := ⟨_, rfl⟩
      obtain ⟨⟨⟨c, e3⟩, st3⟩, hr3⟩ : ∃ x, rdNum 1152921504606846976 st2 = x := ⟨_, rfl⟩
      obtain ⟨⟨⟨d, e4⟩, st4⟩, hr4⟩ : ∃ x, rdText 65536 st3 = x := ⟨_, rfl⟩
      have hsv : sealVal a b c ⟨d.toArray⟩ = .tuple #[.string ⟨(sealOut a b c d).1.toArray⟩, .int .i64 (sealOut a b c d).2] := rfl
      have c5 := fun W => rseal_any a b c ⟨d.toArray⟩ W
      rw [hsv] at c5
      have hv : openVal s.data.toList = if rdEnd st4 = 0 ∧ (sealOut a b c d).2 = 0 ∧ (sealOut a b c d).1 = s.data.toList then .tuple #[fVal a b c ⟨d.toArray⟩, .int .i64 0] else .tuple #[fVal 0 0 0 ⟨#[]⟩, .int .i64 170] := by
        have hrd : reads 1152921504606846976 1152921504606846976 1152921504606846976 65536 (s.data.toList.take (s.data.toList.length - 8)) = ((a, b, c, d), rdEnd st4) := by
          rw [← hleft.out]
          simp only [reads, hr1, hr2, hr3, hr4]
        rw [openVal, openOut_wide hgd hrd]
        split <;> rfl
      obtain ⟨V, hV⟩ : ∃ z, z = openVal s.data.toList := ⟨_, rfl⟩
      rw [← hV] at hv ⊢
      have hTs : (sealOut a b c d).1 = s.data.toList ↔ (⟨(sealOut a b c d).1.toArray⟩ : ByteArray).toList = s.toList := by
        rw [Lib.toList_data, Lib.toList_data]
      have hv1 : rdEnd st4 = 0 ∧ (sealOut a b c d).2 = 0 ∧ (⟨(sealOut a b c d).1.toArray⟩ : ByteArray).toList = s.toList → V = .tuple #[fVal a b c ⟨d.toArray⟩, .int .i64 0] := fun h => by rw [hv, if_pos ⟨h.1, h.2.1, hTs.2 h.2.2⟩]
      have hv2 : ¬ (rdEnd st4 = 0 ∧ (sealOut a b c d).2 = 0 ∧ (⟨(sealOut a b c d).1.toArray⟩ : ByteArray).toList = s.toList) → V = .tuple #[fVal 0 0 0 ⟨#[]⟩, .int .i64 170] := fun h => by rw [hv, if_neg (fun h2 => h ⟨h2.1, h2.2.1, hTs.1 h2.2.2⟩)]
      clear hv hTs
      generalize (⟨(sealOut a b c d).1.toArray⟩ : ByteArray) = T at c5 hv1 hv2
      generalize (sealOut a b c d).2 = te at c5 hv1 hv2
      replace hv1 := Lib.hid hv1
      replace hv2 := Lib.hid hv2
      replace hV := Lib.hid hV
      have hSb : (S.toList == s.toList) = true := by rw [hST]; exact beq_self_eq_true _
      have k1 := fun B W h => hr1 ▸ rf_any B ((s.extract 0 m).data.toList, 0) 1152921504606846976 W h
      have k2 := fun B W h => hr2 ▸ rf_any B st1 1152921504606846976 W h
      have k3 := fun B W h => hr3 ▸ rf_any B st2 1152921504606846976 W h
      have k4 := fun B W h => hr4 ▸ rtext_any B st3 65536 W h
      have sBl : (s.extract 0 m).size ≤ 4611686018427387904 := by omega
      clear hr1 hr2 hr3 hr4 hgd hST hsv
      replace k1 := Lib.hid k1
      replace k2 := Lib.hid k2
      replace k3 := Lib.hid k3
      replace k4 := Lib.hid k4
      replace c5 := Lib.hid c5
      unfold fVal at c5
      go_enter Tryd.func11, Tryd.ntmps11
      go_wp2_with fail
      refine (c1.out _).mono ?_
      rintro en w1 ⟨rfl, b1⟩
      have hz1 := hz.below b1 hz.lt
      replace hbz := hbz.trans (b1.mono hbz.size)
      clear b1 hz
      go_wp2_with fail
      have M2 : MidF w (w1.alloc (.cells #[.string (s.extract 0 m), .int .i64 0, .int .i64 0] 47)) w.heap.size w1.heap.size ((s.extract 0 m).data.toList, 0) :=
        ⟨hz1.alloc _, IsRf.new w1 _ sBl, hbz.alloc hbz.size _, hz1.lt⟩
      clear hz1 hbz
      generalize w1.heap.size = rb at M2 ⊢
      refine (k1.out _ _ M2.2.1).mono ?_
      rintro en w3 ⟨rfl, hrd, hg3⟩
      have M3 := M2.read hg3 hrd
      clear M2 hrd hg3
      go_wp2_with fail
      refine (k2.out _ _ M3.2.1).mono ?_
      rintro en w4 ⟨rfl, hrd, hg3⟩
      have M4 := M3.read hg3 hrd
      clear M3 hrd hg3
      go_wp2_with fail
      refine (k3.out _ _ M4.2.1).mono ?_
      rintro en w5 ⟨rfl, hrd, hg3⟩
      have M5 := M4.read hg3 hrd
      clear M4 hrd hg3
      go_wp2_with fail
      refine (k4.out _ _ M5.2.1).mono ?_
      rintro en w6 ⟨rfl, hrd, hg3⟩
      have M6 := M5.read hg3 hrd
      clear M5 hrd hg3
      go_wp2_with fail
      have M7 := M6.alloc (.cells #[.int .i64 a, .int .i64 b, .int .i64 c, .string ⟨d.toArray⟩] 23)
      have hfB : Blk (w6.alloc (.cells #[.int .i64 a, .int .i64 b, .int .i64 c, .string ⟨d.toArray⟩] 23)) w6.heap.size 23 #[.int .i64 a, .int .i64 b, .int .i64 c, .string ⟨d.toArray⟩] := Blk.new w6 _ _
      have hrf : rb < w6.heap.size := M6.2.1.lt
      clear M6
      refine (c5.out _).mono ?_
      rintro en w8 ⟨rfl, b8⟩
      have M8 := M7.below b8
      have hf8 := hfB.below b8 hfB.lt
      clear M7 hfB b8
      generalize w6.heap.size = fb at hf8 hrf ⊢
      go_wp2_with fail
      refine (rend_any rb st4 _ M8.2.1).mono ?_
      rintro en w9 ⟨rfl, hrd, b9⟩
      have M9 := M8.read (Only.of_below b9 _) hrd
      have hf9 := hf8.below b9 hf8.lt
      clear M8 hrd b9 hf8
      have m0 : w9.cell? ⟨fb, 0, none⟩ = some (.int .i64 a) := hf9.cell 0
      have m1 : w9.cell? ⟨fb, 1, none⟩ = some (.int .i64 b) := hf9.cell 1
      have m2 : w9.cell? ⟨fb, 2, none⟩ = some (.int .i64 c) := hf9.cell 2
      have m3 : w9.cell? ⟨fb, 3, none⟩ = some (.string ⟨d.toArray⟩) := hf9.cell 3
      have hz := M9.1
      have hb := M9.2.2.1
      have hgf : w.heap.size < fb := by have := M9.2.2.2; omega
      clear M9 hf9
      have z0 : w9.cell? ⟨w.heap.size, 0, none⟩ = some (.int .i64 0) := hz.cell 0
      have z1 : w9.cell? ⟨w.heap.size, 1, none⟩ = some (.int .i64 0) := hz.cell 1
      have z2 : w9.cell? ⟨w.heap.size, 2, none⟩ = some (.int .i64 0) := hz.cell 2
      have z3 : w9.cell? ⟨w.heap.size, 3, none⟩ = some (.string ⟨#[]⟩) := hz.cell 3
      have f0 := hz.free 0
      have f1 := hz.free 1
      have f2 := hz.free 2
      have f3 := hz.free 3
      by_cases hend : rdEnd st4 = 0
      · by_cases hte : te = 0
        · by_cases hTs : T.toList = s.toList
          · have hTb : (T.toList == s.toList) = true := by rw [hTs]; exact beq_self_eq_true _
            replace hTs := Lib.hid hTs
            go_wp2_with fail
            have hz2 := (((hz.put 0 (.int .i64 a)).put 1 (.int .i64 b)).put 2 (.int .i64 c)).put 3 (.string ⟨d.toArray⟩)
            have hb2 := Below.setCell (Below.setCell (Below.setCell (Below.setCell hb (p := ⟨w.heap.size, 0, none⟩) (Nat.le_refl _) (.int .i64 a)) (p := ⟨w.heap.size, 1, none⟩) (Nat.le_refl _) (.int .i64 b)) (p := ⟨w.heap.size, 2, none⟩) (Nat.le_refl _) (.int .i64 c)) (p := ⟨w.heap.size, 3, none⟩) (Nat.le_refl _) (.string ⟨d.toArray⟩)
            refine bodyPost_ret (v := .tuple #[.agg #[.int .i64 a, .int .i64 b, .int .i64 c, .string ⟨d.toArray⟩], .int .i64 0]) ?_ rfl ⟨by rw [hv1.out ⟨hend, hte, hTs.out⟩]; rfl, hb2⟩
            exact results_row_tmp (p := 2) (u := 3) (ty := 23) (by rfl) _ _ w.heap.size 23 #[.int .i64 a, .int .i64 b, .int .i64 c, .string ⟨d.toArray⟩] (0, 0) _ (by rfl) hz2 Tryd.underlying23 rfl (by kernel_rfl)
          · have hTb : (T.toList == s.toList) = false := beq_false_of_ne hTs
            replace hTs := Lib.hid hTs
            go_wp2_with fail
            have hz2 := (((hz.put 0 (.int .i64 0)).put 1 (.int .i64 0)).put 2 (.int .i64 0)).put 3 (.string ⟨#[]⟩)
            have hb2 := Below.setCell (Below.setCell (Below.setCell (Below.setCell hb (p := ⟨w.heap.size, 0, none⟩) (Nat.le_refl _) (.int .i64 0)) (p := ⟨w.heap.size, 1, none⟩) (Nat.le_refl _) (.int .i64 0)) (p := ⟨w.heap.size, 2, none⟩) (Nat.le_refl _) (.int .i64 0)) (p := ⟨w.heap.size, 3, none⟩) (Nat.le_refl _) (.string ⟨#[]⟩)
            refine bodyPost_ret (v := .tuple #[.agg #[.int .i64 0, .int .i64 0, .int .i64 0, .string ⟨#[]⟩], .int .i64 170]) ?_ rfl ⟨by rw [hv2.out (fun h => hTs.out h.2.2)]; rfl, hb2⟩
            exact results_row_tmp (p := 2) (u := 3) (ty := 23) (by rfl) _ _ w.heap.size 23 #[.int .i64 0, .int .i64 0, .int .i64 0, .string ⟨#[]⟩] (0, 0) _ (by rfl) hz2 Tryd.underlying23 rfl (by kernel_rfl)
        · go_wp2_with fail
          have hz2 := (((hz.put 0 (.int .i64 0)).put 1 (.int .i64 0)).put 2 (.int .i64 0)).put 3 (.string ⟨#[]⟩)
          have hb2 := Below.setCell (Below.setCell (Below.setCell (Below.setCell hb (p := ⟨w.heap.size, 0, none⟩) (Nat.le_refl _) (.int .i64 0)) (p := ⟨w.heap.size, 1, none⟩) (Nat.le_refl _) (.int .i64 0)) (p := ⟨w.heap.size, 2, none⟩) (Nat.le_refl _) (.int .i64 0)) (p := ⟨w.heap.size, 3, none⟩) (Nat.le_refl _) (.string ⟨#[]⟩)
          refine bodyPost_ret (v := .tuple #[.agg #[.int .i64 0, .int .i64 0, .int .i64 0, .string ⟨#[]⟩], .int .i64 170]) ?_ rfl ⟨by rw [hv2.out (fun h => hte h.2.1)]; rfl, hb2⟩
          exact results_row_tmp (p := 2) (u := 3) (ty := 23) (by rfl) _ _ w.heap.size 23 #[.int .i64 0, .int .i64 0, .int .i64 0, .string ⟨#[]⟩] (0, 0) _ (by rfl) hz2 Tryd.underlying23 rfl (by kernel_rfl)
      · go_wp2_with fail
        have hz2 := (((hz.put 0 (.int .i64 0)).put 1 (.int .i64 0)).put 2 (.int .i64 0)).put 3 (.string ⟨#[]⟩)
        have hb2 := Below.setCell (Below.setCell (Below.setCell (Below.setCell hb (p := ⟨w.heap.size, 0, none⟩) (Nat.le_refl _) (.int .i64 0)) (p := ⟨w.heap.size, 1, none⟩) (Nat.le_refl _) (.int .i64 0)) (p := ⟨w.heap.size, 2, none⟩) (Nat.le_refl _) (.int .i64 0)) (p := ⟨w.heap.size, 3, none⟩) (Nat.le_refl _) (.string ⟨#[]⟩)
        refine bodyPost_ret (v := .tuple #[.agg #[.int .i64 0, .int .i64 0, .int .i64 0, .string ⟨#[]⟩], .int .i64 170]) ?_ rfl ⟨by rw [hv2.out (fun h => hend h.1)]; rfl, hb2⟩
        exact results_row_tmp (p := 2) (u := 3) (ty := 23) (by rfl) _ _ w.heap.size 23 #[.int .i64 0, .int .i64 0, .int .i64 0, .string ⟨#[]⟩] (0, 0) _ (by rfl) hz2 Tryd.underlying23 rfl (by kernel_rfl)
    · rw [openVal_bad (fun h => hST (hgS.out.1 h))]
      have hSb : (S.toList == s.toList) = false := beq_false_of_ne (fun h => hST (bytes_inj h))
      clear hST
      unfold fVal
      go_enter Tryd.func11, Tryd.ntmps11
      go_wp2_with fail
      refine (c1.out _).mono ?_
      rintro en w1 ⟨rfl, b1⟩
      have hz1 := hz.below b1 hz.lt
      replace hbz := hbz.trans (b1.mono hbz.size)
      clear b1
      have m0 : w1.cell? ⟨w.heap.size, 0, none⟩ = some (.int .i64 0) := hz1.cell 0
      have m1 : w1.cell? ⟨w.heap.size, 1, none⟩ = some (.int .i64 0) := hz1.cell 1
      have m2 : w1.cell? ⟨w.heap.size, 2, none⟩ = some (.int .i64 0) := hz1.cell 2
      have m3 : w1.cell? ⟨w.heap.size, 3, none⟩ = some (.string ⟨#[]⟩) := hz1.cell 3
      have f0 := hz1.free 0
      have f1 := hz1.free 1
      have f2 := hz1.free 2
      have f3 := hz1.free 3
      go_wp2_with fail
      have hz2 := (((hz1.put 0 (.int .i64 0)).put 1 (.int .i64 0)).put 2 (.int .i64 0)).put 3 (.string ⟨#[]⟩)
      have hb2 := Below.setCell (Below.setCell (Below.setCell (Below.setCell hbz (p := ⟨w.heap.size, 0, none⟩) (Nat.le_refl _) (.int .i64 0)) (p := ⟨w.heap.size, 1, none⟩) (Nat.le_refl _) (.int .i64 0)) (p := ⟨w.heap.size, 2, none⟩) (Nat.le_refl _) (.int .i64 0)) (p := ⟨w.heap.size, 3, none⟩) (Nat.le_refl _) (.string ⟨#[]⟩)
      refine bodyPost_ret (v := .tuple #[.agg #[.int .i64 0, .int .i64 0, .int .i64 0, .string ⟨#[]⟩], .int .i64 171]) ?_ rfl ⟨rfl, hb2⟩
      exact results_row_tmp (p := 2) (u := 3) (ty := 23) (by rfl) _ _ w.heap.size 23 #[.int .i64 0, .int .i64 0, .int .i64 0, .string ⟨#[]⟩] (0, 0) _ (by rfl) hz2 Tryd.underlying23 rfl (by kernel_rfl)
end Go.Proofs.YtndmcbphdknihaaDoor.Frame

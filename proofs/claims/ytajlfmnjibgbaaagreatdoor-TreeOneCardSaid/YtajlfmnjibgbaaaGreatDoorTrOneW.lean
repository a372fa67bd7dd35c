/- The walk of the law TreeOne. -/
import Derived.Test.YtajlfmnjibgbaaaGreatDoorTrOneA
namespace Go.Proofs.YtajlfmnjibgbaaaGreatDoor.Tr
open Go Go.RowKit Go.Maps Mem Disk Nv Vl
set_option maxRecDepth 100000 in
set_option maxHeartbeats 16000000 in
theorem treeone_any (s : ByteArray) (at_ : Int) (hs : s.size ≤ 140737488355328) (w : World) :
    Calls Tryz.prog 3 #[.string s, .int .i64 at_] w fun e w' => e = .returned (.bool true) ∧ Below w.heap.size w w' := by
  have kf := Lib.hid (fun W => treefix_any W)
  have kb := Lib.hid (bytes_any s w hs)
  have hS := cut17_le s
  obtain ⟨S, hSe⟩ : ∃ S, S = cut17 s := ⟨_, rfl⟩
  rw [← hSe] at hS kb
  have k0 : Calls Tryz.prog 10 #[.int .i64 300] w _ := laid_both 300 (by decide) w
  replace k0 := Lib.hid k0
  clear hSe hs
  go_enter Tryz.func3, Tryz.ntmps3
  go_wp2_with fail
  refine kb.out.mono ?_
  rintro e w1 ⟨rfl, hw1⟩
  replace hw1 := hw1.symm
  subst hw1
  clear kb
  go_wp2_with fail
  refine k0.out.mono ?_
  rintro e w1 ⟨a, b, k, c, rfl, h, hb⟩
  replace h := Lib.hid h
  replace hb := Lib.hid hb
  have kp : Calls Tryz.prog 11 #[.string ⟨#[]⟩, .int .i64 300, .int .i64 1] w1 _ := new_pool 300 (by decide) w1
  replace kp := Lib.hid kp
  clear k0
  go_wp2_with fail
  refine kp.out.mono ?_
  rintro e w2 ⟨g, rfl, hg, hp, b2⟩
  have l := Lib.hid (lv_laid (by decide) h.out hb.out hg hp b2)
  clear h hb kp hg hp b2
  by_cases hz0 : S.size = 0
  · as_aux_lemma =>
      have hS0 : S = ⟨#[]⟩ := by
        apply ByteArray.ext
        exact Array.eq_empty_of_size_eq_zero hz0
      subst hS0
      go_wp2_with fail
      refine (kf.out _).mono ?_
      rintro e w6 ⟨rfl, b6⟩
      have fin := Lib.hid (l.out.bl.trans (b6.mono l.out.bl.size))
      clear b6
      go_wp2_with fail
      go_ret
      exact ⟨rfl, fin.out⟩
  have hSe : (S.toList == []) = false := by
    rw [beq_eq_false_iff_ne]
    intro h
    rw [Lib.toList_data] at h
    apply hz0
    show S.data.size = 0
    rw [← Array.length_toList, h]
    rfl
  have hSe2 : (S.toList == (⟨#[]⟩ : ByteArray).toList) = false := by rw [Lib.toList_data (⟨#[]⟩ : ByteArray)]; exact hSe
  by_cases hd : S.size ≤ 16384
  · as_aux_lemma =>
      have ks := lv_first l.out (by decide) hd
      unfold srcV at ks
      replace ks := Lib.hid ks
      go_wp2_with fail
      refine ks.out.mono ?_
      rintro e w3 ⟨f1, nums, T, j1, rfl, hst, l3, _⟩
      clear ks l
      obtain ⟨root, hroot⟩ : ∃ root, root = rootOf nums := ⟨_, rfl⟩
      rw [← hroot]
      replace hroot := Lib.hid hroot
      have hx := Lib.hid (LV.box l3 (root : Int) (S.size : Int) rfl)
      have hxb : w.heap.size ≤ w3.heap.size := l3.bl.size
      clear l3
      obtain ⟨K, hK⟩ : ∃ K, K = (lev S.size).length := ⟨_, rfl⟩
      have hKv := lev_levels (n := S.size) (by omega) hd
      rw [← hK] at hKv
      have hK3 : K ≤ 3 := by rw [hK]; exact lev_len _
      replace hK := Lib.hid hK
      replace hst := Lib.hid hst
      go_upto_region 9 with fail
      generalize hW : w3.alloc (.cells #[.int .i64 (root : Int), .int .i64 (S.size : Int)] 33) = W at hx ⊢
      clear hW
      generalize w3.heap.size = x at hx hxb ⊢
      have hl := Lib.hid (show LV w (fun i => i = x) 2003 W a g f1 300 j1 from hx.out.1.sub fun i hi => Or.inr hi)
      have hxB := Lib.hid hx.out.2.1
      replace hxb := Lib.hid hxb
      clear hx
      obtain ⟨V1, hV1, hV2⟩ : ∃ V1 : Int, (V1 = if 240 < S.size then 2 else 1) ∧ (K : Int) = if 14400 < S.size then 3 else V1 := ⟨_, rfl, hKv⟩
      replace hV1 := Lib.hid hV1
      clear hKv
      go_upto_if 69 with fail
      go_cut [10] (fun v wx => v = .int .i64 V1 ∧ wx = W)
      case first =>
        by_cases h2 : 240 < S.size
        · have d1 : 240 < (S.size : Int) := by omega
          go_wp2_with fail
          go_meet
          exact ⟨by rw [hV1.out, if_pos h2], rfl⟩
        · have d1 : decide (240 < (S.size : Int)) = false := decide_eq_false (by omega)
          go_wp2_with fail
          go_meet
          exact ⟨by rw [hV1.out, if_neg h2], rfl⟩
      case rest =>
      obtain ⟨rfl, hwc⟩ := hcut
      replace hwc := hwc.symm
      subst hwc
      go_upto_if 72 with fail
      go_cut [10] (fun v wx => v = .int .i64 (K : Int) ∧ wx = W)
      case first =>
        by_cases h1 : 14400 < S.size
        · have d2 : 14400 < (S.size : Int) := by omega
          go_wp2_with fail
          go_meet
          exact ⟨by rw [hV2, if_pos h1], rfl⟩
        · have d2 : decide (14400 < (S.size : Int)) = false := decide_eq_false (by omega)
          go_wp2_with fail
          go_meet
          exact ⟨by rw [hV2, if_neg h1], rfl⟩
      case rest =>
        obtain ⟨rfl, hwc⟩ := hcut
        replace hwc := hwc.symm
        subst hwc
        clear hV1 hV2
        obtain ⟨m, hm, hmask⟩ := maskT at_
        obtain ⟨kk, hkk⟩ : ∃ kk, kk = m % S.size := ⟨_, rfl⟩
        have hkS : kk < S.size := by rw [hkk]; exact Nat.mod_lt _ (by omega)
        have hmod : ((m : Int).tmod (S.size : Int)) = (kk : Int) := by
          rw [Int.tmod_eq_emod_of_nonneg (show (0 : Int) ≤ (m : Int) from Int.natCast_nonneg m), hkk]
          simp
        have hmodw : IntKind.i64.wrap ((m : Int).tmod (S.size : Int)) = (kk : Int) := by rw [hmod]; exact IntWalk.i64_in _ (by omega)
        have hSz : ((S.size : Int) == 0) = false := beq_eq_false_iff_ne.2 (by omega)
        replace hkk := Lib.hid hkk
        obtain ⟨cap, W1, hmk, hcells, hfr, b1⟩ := grown_bytes S W
        obtain ⟨ck, hck⟩ : ∃ c, S.data[kk]? = some c := ⟨_, Array.getElem?_eq_getElem hkS⟩
        obtain ⟨y, hy1, hy2⟩ := turn_byte ck
        have mk := hcells kk ck hck
        have mf := hfr kk hkS
        have hbk := turned_back S W1 W.heap.size cap kk y hcells hkS
        have b2 : Below W.heap.size W (W1.setCell ⟨W.heap.size, kk, none⟩ (.int .u8 (y.toNat : Int))) := b1.setCell (p := ⟨W.heap.size, kk, none⟩) (Nat.le_refl _) _
        have l2 := hl.out.below b2
        have x2 := hxB.out.below b2 hxB.out.lt
        have hUs := flip_size S kk y
        have hne : S.data[kk]? ≠ some y := by rw [hck]; intro h; exact hy2 (Option.some.inj h).symm
        have p1 := Lib.hid (flip_other S kk y hkS hne)
        have p2 := Lib.hid (fun i (hi : i ≠ kk / 240) => flip_same S kk y hi)
        obtain ⟨U, hU⟩ : ∃ U, U = flip S kk y := ⟨_, rfl⟩
        rw [← hU] at hbk hUs p1 p2
        have hU16 : U.size ≤ 16384 := by omega
        replace hUs := Lib.hid hUs
        have z0 : (0 : Int) ≤ (kk : Int) := by omega
        have z1 : (kk : Int) < (S.size : Int) := by omega
        obtain ⟨F1, hF1⟩ : ∃ F1, F1 = (freeL E0 300 j1).length := ⟨_, rfl⟩
        have h299 : F1 + 72 ≥ 299 := by
          have q1 := hst.out.left
          have q2 := hst.out.few hd
          rw [len300, ← hF1] at q1
          omega
        replace hF1 := Lib.hid hF1
        replace l2 := Lib.hid l2
        replace x2 := Lib.hid x2
        replace hbk := Lib.hid hbk
        clear hl hxB hcells hfr b1 b2 hck hy2 hne hU
        go_wp2_with fail
        clear mk mf hmk
        generalize W1.setCell ⟨W.heap.size, kk, none⟩ (.int .u8 (y.toNat : Int)) = W2 at l2 x2 hbk ⊢
        have kl := lv_left l2.out
        rw [← hF1.out] at kl
        have ks := lv_later l2.out (by decide) (data := U) hU16 hd hst.out.ok hst.out.apart (by rw [← hF1.out]; omega)
        rw [← hroot.out] at ks
        unfold srcV at ks
        replace ks := Lib.hid ks
        refine kl.mono ?_
        rintro e w' ⟨rfl, hw'⟩
        replace hw' := hw'.symm
        subst hw'
        have c0 := x2.out.cell 0
        have c1 := x2.out.cell 1
        have hcv := hbk.out
        clear kl hbk
        go_wp2_with fail
        refine ks.out.mono ?_
        rintro e w6 ⟨f2, nums2, T2, j2, rfl, hst2, l6, k6⟩
        have x6 := x2.out.keeps k6 (fun hn => hn rfl)
        clear ks l2 x2 c0 c1 hcv k6
        have hT2 : T2.length = K := by
          rw [hK.out]
          exact store_one hst2.r hst.out.ok hUs.out hd hkS p1.out p2.out hst2.out (fun n hn => by have := hst2.small (by decide) n hn; omega)
        have ht3 : TreeOk f2 S nums := hst.out.ok.chg hst2.r.chg hst2.out
        have hdis3 : ∀ n ∈ nums.flatten, n ∉ freeL E0 300 j2 := fun n hn hf => hst.out.apart n hn (hst2.sub hf)
        obtain ⟨F2, hF2⟩ : ∃ F2, F2 = (freeL E0 300 j2).length := ⟨_, rfl⟩
        have hF12 : F1 = K + F2 := by
          have := hst2.left
          rw [← hF1.out, ← hF2, hT2] at this
          exact this
        obtain ⟨root2, hroot2⟩ : ∃ root2, root2 = rootOf nums2 := ⟨_, rfl⟩
        rw [← hroot2]
        obtain ⟨l7, _, b7⟩ := LV.box l6 (root2 : Int) (U.size : Int) rfl
        have x7 := x6.below b7 x6.lt
        have h7 := Lib.hid (show LV w (fun i => i = x) 4003 (w6.alloc (.cells #[.int .i64 (root2 : Int), .int .i64 (U.size : Int)] 33)) a g f2 300 j2 from l7.sub fun i hi => Or.inl hi)
        replace x7 := Lib.hid x7
        replace hroot2 := Lib.hid hroot2
        replace hF2 := Lib.hid hF2
        replace ht3 := Lib.hid ht3
        replace hdis3 := Lib.hid hdis3
        have hF12h := Lib.hid hF12
        clear l6 l7 b7 x6 hst2 hT2 p1 p2 hF12
        go_upto_region 19 with fail
        have hF12 := hF12h.out
        generalize w6.alloc (.cells #[.int .i64 (root2 : Int), .int .i64 (U.size : Int)] 33) = W7 at h7 x7 ⊢
        have kl := lv_left h7.out
        rw [← hF2.out] at kl
        replace kl := Lib.hid kl
        have e1 : (F1 : Int) - (F2 : Int) = (K : Int) := by omega
        have h224 : F2 + 75 ≥ 299 := by omega
        replace hF12 := Lib.hid hF12
        have e1w : IntKind.i64.wrap ((F1 : Int) - (F2 : Int)) = (K : Int) := by rw [e1]; exact IntWalk.i64_in _ (by omega)
        go_wp2_with fail
        refine kl.out.mono ?_
        rintro e w' ⟨rfl, hw'⟩
        replace hw' := hw'.symm
        subst hw'
        go_wp2_with fail
        refine kl.out.mono ?_
        rintro e w' ⟨rfl, hw'⟩
        replace hw' := hw'.symm
        subst hw'
        clear kl e1 e1w
        have hEs : (S.extract 0 kk).size = kk := by rw [ByteArray.size_extract]; omega
        have ks := fun V (hV : LV w (fun i => i = x) 4003 V a g f2 300 j2) => lv_later hV (by decide) (data := S.extract 0 kk) (by omega) hd ht3.out hdis3.out (by rw [← hF2.out]; omega)
        have ksB := fun V y (hV : LV w (fun i => i = x ∨ i = y) 4003 V a g f2 300 j2) => lv_later hV (by decide) (data := S.extract 0 kk) (by omega) hd ht3.out hdis3.out (by rw [← hF2.out]; omega)
        rw [← hroot.out, hEs] at ks ksB
        unfold srcV at ks ksB
        replace ks := Lib.hid ks
        replace ksB := Lib.hid ksB
        go_upto_region 21 with fail
        go_cut [17, 18] (fun yv ev wx => ∃ (z : Nat) (f3 : Rd) (nums3 : List (List Nat)) (T3 : List Nat) (j3 : Nat), yv = .pointer (some ⟨z, 0, none⟩) ∧ ev = .int .i64 0 ∧ LV w (fun i => i = z) 6003 wx a g f3 300 j3 ∧ Stored f2 f3 S nums (S.extract 0 kk) 300 j2 j3 nums3 T3 ∧ Blk wx z 33 #[.int .i64 (rootOf nums3 : Nat), .int .i64 (kk : Int)])
        case first =>
          have l0 := h7.out.below (Below.refl _ W7).drew
          have x0 := x7.out.below (Below.refl _ W7).drew x7.out.lt
          clear h7 x7
          refine Late.start (S := fun W' => W'.cell? ⟨x, 0, none⟩ = some (.int .i64 (root : Int)) ∧ W'.cell? ⟨x, 1, none⟩ = some (.int .i64 (S.size : Int))) (T := fun _ => True) (late := []) (by kernel_rfl) ?_
          have hT : True := trivial
          generalize W7.drew = V0 at l0 x0 ⊢
          have hS : (V0).cell? ⟨x, 0, none⟩ = some (.int .i64 (root : Int)) ∧ (V0).cell? ⟨x, 1, none⟩ = some (.int .i64 (S.size : Int)) := ⟨x0.cell 0, x0.cell 1⟩
          have hxv : x ≠ V0.heap.size := Nat.ne_of_lt x0.lt
          have hyw : w.heap.size ≤ V0.heap.size := l0.bl.size
          obtain ⟨lB, yB, bB⟩ := LV.box l0 0 0 rfl
          have xB := x0.below bB x0.lt
          have hSB : (V0.alloc (.cells #[.int .i64 0, .int .i64 0] 33)).cell? ⟨x, 0, none⟩ = some (.int .i64 (root : Int)) ∧ (V0.alloc (.cells #[.int .i64 0, .int .i64 0] 33)).cell? ⟨x, 1, none⟩ = some (.int .i64 (S.size : Int)) := ⟨xB.cell 0, xB.cell 1⟩
          have hkle : (kk : Int) ≤ (S.size : Int) := by omega
          replace l0 := Lib.hid l0
          replace x0 := Lib.hid x0
          replace lB := Lib.hid lB
          replace xB := Lib.hid xB
          replace yB := Lib.hid yB
          clear bB
          refine Late.take (i := 2) (oi := ?_) (v := ?_) ?_ (by kernel_rfl) (by kernel_rfl) (by kernel_rfl) (by kernel_rfl) ?_ ?_ (by assumption) (by assumption) ?_
          rotate_left 2
          focus (simp only [List.getElem?_toArray, List.getElem?_cons_succ, List.getElem?_cons_zero]; rfl)
          focus exact fun _ _ _ h => h
          focus (refine Or.inl ⟨by rfl, ?_⟩; intro w hSw; (try dsimp only at hSw); go_split_ands; go_simp; try with_reducible rfl)
          try simp only [Act.put, List.setIfInBounds_toArray, List.set_cons_zero, List.set_cons_succ]
          refine Late.take (i := 0) (oi := ?_) (v := ?_) ?_ (by kernel_rfl) (by kernel_rfl) (by kernel_rfl) (by kernel_rfl) ?_ ?_ (by assumption) (by assumption) ?_
          rotate_left 2
          focus (simp only [List.getElem?_toArray, List.getElem?_cons_zero]; rfl)
          focus exact fun _ _ _ h => h
          focus (refine Or.inl ⟨by kernel_rfl, ?_⟩; intro w hSw; clear hSw; go_simp; try with_reducible rfl)
          try simp only [Act.put, List.setIfInBounds_toArray, List.set_cons_zero, List.set_cons_succ]
          refine Late.take (i := 1) (oi := ?_) (v := ?_) ?_ (by kernel_rfl) (by kernel_rfl) (by kernel_rfl) (by kernel_rfl) ?_ ?_ (by assumption) (by assumption) ?_
          rotate_left 2
          focus (simp only [List.getElem?_toArray, List.getElem?_cons_succ, List.getElem?_cons_zero]; rfl)
          focus exact fun _ _ _ h => h
          focus (refine Or.inl ⟨by kernel_rfl, ?_⟩; intro w hSw; clear hSw; go_simp; try with_reducible rfl)
          try simp only [Act.put, List.setIfInBounds_toArray, List.set_cons_zero, List.set_cons_succ]
          refine Late.take (i := 3) (oi := ?_) (v := ?_) ?_ (by kernel_rfl) (by kernel_rfl) (by kernel_rfl) (by kernel_rfl) ?_ ?_ (by assumption) (by assumption) ?_
          rotate_left 2
          focus (simp only [List.getElem?_toArray, List.getElem?_cons_succ, List.getElem?_cons_zero]; rfl)
          focus exact fun _ _ _ h => h
          focus (refine Or.inl ⟨by kernel_rfl, ?_⟩; intro w hSw; clear hSw; go_simp; try with_reducible rfl)
          try simp only [Act.put, List.setIfInBounds_toArray, List.set_cons_zero, List.set_cons_succ]
          refine Late.take (i := 4) (oi := ?_) (v := ?_) ?_ (by kernel_rfl) (by kernel_rfl) (by kernel_rfl) (by kernel_rfl) ?_ ?_ (by assumption) (by assumption) ?_
          rotate_left 2
          focus (simp only [List.getElem?_toArray, List.getElem?_cons_succ, List.getElem?_cons_zero]; rfl)
          focus exact fun _ _ _ h => h
          focus (refine Or.inl ⟨by kernel_rfl, ?_⟩; intro w hSw; clear hSw; go_simp; try with_reducible rfl)
          try simp only [Act.put, List.setIfInBounds_toArray, List.set_cons_zero, List.set_cons_succ]
          refine Late.take (i := 5) (oi := ?_) (v := ?_) ?_ (by kernel_rfl) (by kernel_rfl) (by kernel_rfl) (by kernel_rfl) ?_ ?_ (by assumption) (by assumption) ?_
          rotate_left 2
          focus (simp only [List.getElem?_toArray, List.getElem?_cons_succ, List.getElem?_cons_zero]; rfl)
          focus exact fun _ _ _ h => h
          focus (refine Or.inl ⟨by kernel_rfl, ?_⟩; intro w hSw; clear hSw; go_simp; try with_reducible rfl)
          try simp only [Act.put, List.setIfInBounds_toArray, List.set_cons_zero, List.set_cons_succ]
          refine Late.take (i := 6) (oi := ?_) (v := ?_) ?_ (by kernel_rfl) (by kernel_rfl) (by kernel_rfl) (by kernel_rfl) ?_ ?_ (by assumption) (by assumption) ?_
          rotate_left 2
          focus (simp only [List.getElem?_toArray, List.getElem?_cons_succ, List.getElem?_cons_zero]; rfl)
          focus exact fun _ _ _ h => h
          focus (refine Or.inl ⟨by kernel_rfl, ?_⟩; intro w hSw; clear hSw; go_simp; try with_reducible rfl)
          try simp only [Act.put, List.setIfInBounds_toArray, List.set_cons_zero, List.set_cons_succ]
          refine Late.ready (rs := [7, 11]) (by kernel_rfl) (by simp) (Late.AllReady.cons (o := ?o1x7x11) ?e1x7x11 (fun K hK => ?m1x7x11) (Late.AllReady.cons (o := ?o2x7x11) ?e2x7x11 (fun K hK => ?m2x7x11) Late.AllReady.nil))
          case e1x7x11 => (simp only [List.getElem?_toArray, List.getElem?_cons_succ, List.getElem?_cons_zero]; rfl)
          case e2x7x11 => (simp only [List.getElem?_toArray, List.getElem?_cons_succ, List.getElem?_cons_zero]; rfl)
          case m1x7x11 =>
            rw [if_pos (by kernel_rfl)]
            go_simp
            refine (ks.out _ l0.out).mono ?_
            rintro e w9 ⟨f3, nums3, T3, j3, rfl, hst3, l9, k9⟩
            have x9 := x0.out.keeps k9 (fun hn => hn rfl)
            have hS9 : (w9).cell? ⟨x, 0, none⟩ = some (.int .i64 (root : Int)) ∧ (w9).cell? ⟨x, 1, none⟩ = some (.int .i64 (S.size : Int)) := ⟨x9.cell 0, x9.cell 1⟩
            obtain ⟨lC, yC, bC⟩ := LV.box l9 (rootOf nums3 : Nat) (kk : Int) rfl
            have xC := x9.below (w' := w9.alloc (.cells #[.int .i64 0, .int .i64 0] 33)) ((Below.refl _ w9).alloc (Nat.le_refl _) _) x9.lt
            have xD := x9.below bC x9.lt
            have hSC : (w9.alloc (.cells #[.int .i64 0, .int .i64 0] 33)).cell? ⟨x, 0, none⟩ = some (.int .i64 (root : Int)) ∧ (w9.alloc (.cells #[.int .i64 0, .int .i64 0] 33)).cell? ⟨x, 1, none⟩ = some (.int .i64 (S.size : Int)) := ⟨xC.cell 0, xC.cell 1⟩
            have hSD : (w9.alloc (.cells #[.int .i64 (rootOf nums3 : Nat), .int .i64 (kk : Int)] 33)).cell? ⟨x, 0, none⟩ = some (.int .i64 (root : Int)) ∧ (w9.alloc (.cells #[.int .i64 (rootOf nums3 : Nat), .int .i64 (kk : Int)] 33)).cell? ⟨x, 1, none⟩ = some (.int .i64 (S.size : Int)) := ⟨xD.cell 0, xD.cell 1⟩
            replace lC := Lib.hid lC
            replace yC := Lib.hid yC
            replace hst3 := Lib.hid hst3
            clear l9 k9 x9 xC xD bC
            refine hK.out _ _ hS9 (fun _ => trivial) ?_
            clear hK K
            try simp only [Act.put, List.setIfInBounds_toArray, List.set_cons_zero, List.set_cons_succ]
            have hS := hS9
            refine Late.take (i := 8) (oi := ?_) (v := ?_) ?_ (by kernel_rfl) (by kernel_rfl) (by kernel_rfl) (by kernel_rfl) ?_ ?_ (by assumption) (by assumption) ?_
            rotate_left 2
            focus (simp only [List.getElem?_toArray, List.getElem?_cons_succ, List.getElem?_cons_zero]; rfl)
            focus exact fun _ _ _ h => h
            focus (refine Or.inl ⟨by kernel_rfl, ?_⟩; intro w hSw; clear hSw; go_simp; try with_reducible rfl)
            try simp only [Act.put, List.setIfInBounds_toArray, List.set_cons_zero, List.set_cons_succ]
            refine Late.take (i := 9) (oi := ?_) (v := ?_) ?_ (by kernel_rfl) (by kernel_rfl) (by kernel_rfl) (by kernel_rfl) ?_ ?_ (by assumption) (by assumption) ?_
            rotate_left 2
            focus (simp only [List.getElem?_toArray, List.getElem?_cons_succ, List.getElem?_cons_zero]; rfl)
            focus exact fun _ _ _ h => h
            focus (refine Or.inl ⟨by kernel_rfl, ?_⟩; intro w hSw; clear hSw; go_simp; try with_reducible rfl)
            try simp only [Act.put, List.setIfInBounds_toArray, List.set_cons_zero, List.set_cons_succ]
            refine Late.take (i := 10) (oi := ?_) (v := ?_) ?_ (by kernel_rfl) (by kernel_rfl) (by kernel_rfl) (by kernel_rfl) ?_ ?_ (by assumption) (by assumption) ?_
            rotate_left 2
            focus (simp only [List.getElem?_toArray, List.getElem?_cons_succ, List.getElem?_cons_zero]; rfl)
            focus exact fun _ _ _ h => h
            focus (refine Or.inl ⟨by kernel_rfl, ?_⟩; intro w hSw; clear hSw; go_simp; try with_reducible rfl)
            try simp only [Act.put, List.setIfInBounds_toArray, List.set_cons_zero, List.set_cons_succ]
            refine Late.only (i := 11) (o := ?_) (by kernel_rfl) ?_ (fun K hK => ?_)
            rotate_left 1
            focus (simp only [List.getElem?_toArray, List.getElem?_cons_succ, List.getElem?_cons_zero]; rfl)
            go_simp
            refine hK.out _ _ hSC (fun _ => trivial) ?_
            clear hK K
            try simp only [Act.put, List.setIfInBounds_toArray, List.set_cons_zero, List.set_cons_succ]
            have hS := hSC
            refine Late.only (i := 12) (o := ?_) (by kernel_rfl) ?_ (fun K hK => ?_)
            rotate_left 1
            focus (simp only [List.getElem?_toArray, List.getElem?_cons_succ, List.getElem?_cons_zero]; rfl)
            go_simp
            refine hK.out _ _ hSD (fun _ => trivial) ?_
            clear hK K
            try simp only [Act.put, List.setIfInBounds_toArray, List.set_cons_zero, List.set_cons_succ]
            have hS := hSD
            refine Late.take (i := 13) (oi := ?_) (v := ?_) ?_ (by kernel_rfl) (by kernel_rfl) (by kernel_rfl) (by kernel_rfl) ?_ ?_ (by assumption) (by assumption) ?_
            rotate_left 2
            focus (simp only [List.getElem?_toArray, List.getElem?_cons_succ, List.getElem?_cons_zero]; rfl)
            focus exact fun _ _ _ h => h
            focus (refine Or.inl ⟨by kernel_rfl, ?_⟩; intro w hSw; clear hSw; go_simp; try with_reducible rfl)
            try simp only [Act.put, List.setIfInBounds_toArray, List.set_cons_zero, List.set_cons_succ]
            refine Late.done (by kernel_rfl) ?_ _
            go_wp2_with fail
            go_meet
            exact ⟨_, f3, nums3, T3, j3, rfl, rfl, lC.out.sub (fun i e => Or.inr e), hst3.out, yC.out⟩
          case m2x7x11 =>
            rw [if_pos (by kernel_rfl)]
            go_simp
            refine hK.out _ _ hSB (fun _ => trivial) ?_
            clear hK K
            try simp only [Act.put, List.setIfInBounds_toArray, List.set_cons_zero, List.set_cons_succ]
            have hS := hSB
            refine Late.only (i := 7) (o := ?_) (by kernel_rfl) ?_ (fun K hK => ?_)
            rotate_left 1
            focus (simp only [List.getElem?_toArray, List.getElem?_cons_succ, List.getElem?_cons_zero]; rfl)
            rw [if_pos (by kernel_rfl)]
            go_simp
            refine (ksB.out _ _ lB.out).mono ?_
            rintro e w9 ⟨f3, nums3, T3, j3, rfl, hst3, l9, k9⟩
            have x9 := xB.out.keeps k9 (fun hn => hn (Or.inl rfl))
            have y9 := yB.out.keeps k9 (fun hn => hn (Or.inr rfl))
            have q0 : w9.cell? ⟨V0.heap.size, 0, none⟩ = some (.int .i64 0) := y9.cell 0
            have q1 : w9.cell? ⟨V0.heap.size, 1, none⟩ = some (.int .i64 0) := y9.cell 1
            have g0 := y9.free 0
            have g1 := y9.free 1
            have hS9 : (w9).cell? ⟨x, 0, none⟩ = some (.int .i64 (root : Int)) ∧ (w9).cell? ⟨x, 1, none⟩ = some (.int .i64 (S.size : Int)) := ⟨x9.cell 0, x9.cell 1⟩
            obtain ⟨lC, yC, kC⟩ := LV.lay l9 y9 (Or.inr rfl) hyw (rootOf nums3 : Nat) (kk : Int) rfl
            have xC := x9.keeps kC hxv
            have hSC : ((w9.setCell ⟨V0.heap.size, 0, none⟩ (.int .i64 (rootOf nums3 : Nat))).setCell ⟨V0.heap.size, 1, none⟩ (.int .i64 (kk : Int))).cell? ⟨x, 0, none⟩ = some (.int .i64 (root : Int)) ∧ ((w9.setCell ⟨V0.heap.size, 0, none⟩ (.int .i64 (rootOf nums3 : Nat))).setCell ⟨V0.heap.size, 1, none⟩ (.int .i64 (kk : Int))).cell? ⟨x, 1, none⟩ = some (.int .i64 (S.size : Int)) := ⟨xC.cell 0, xC.cell 1⟩
            replace lC := Lib.hid lC
            replace yC := Lib.hid yC
            replace hst3 := Lib.hid hst3
            clear l9 k9 x9 y9 xC kC
            refine hK.out _ _ hS9 (fun _ => trivial) ?_
            clear hK K
            try simp only [Act.put, List.setIfInBounds_toArray, List.set_cons_zero, List.set_cons_succ]
            have hS := hS9
            refine Late.take (i := 8) (oi := ?_) (v := ?_) ?_ (by kernel_rfl) (by kernel_rfl) (by kernel_rfl) (by kernel_rfl) ?_ ?_ (by assumption) (by assumption) ?_
            rotate_left 2
            focus (simp only [List.getElem?_toArray, List.getElem?_cons_succ, List.getElem?_cons_zero]; rfl)
            focus exact fun _ _ _ h => h
            focus (refine Or.inl ⟨by kernel_rfl, ?_⟩; intro w hSw; clear hSw; go_simp; try with_reducible rfl)
            try simp only [Act.put, List.setIfInBounds_toArray, List.set_cons_zero, List.set_cons_succ]
            refine Late.take (i := 9) (oi := ?_) (v := ?_) ?_ (by kernel_rfl) (by kernel_rfl) (by kernel_rfl) (by kernel_rfl) ?_ ?_ (by assumption) (by assumption) ?_
            rotate_left 2
            focus (simp only [List.getElem?_toArray, List.getElem?_cons_succ, List.getElem?_cons_zero]; rfl)
            focus exact fun _ _ _ h => h
            focus (refine Or.inl ⟨by kernel_rfl, ?_⟩; intro w hSw; clear hSw; go_simp; try with_reducible rfl)
            try simp only [Act.put, List.setIfInBounds_toArray, List.set_cons_zero, List.set_cons_succ]
            refine Late.take (i := 10) (oi := ?_) (v := ?_) ?_ (by kernel_rfl) (by kernel_rfl) (by kernel_rfl) (by kernel_rfl) ?_ ?_ (by assumption) (by assumption) ?_
            rotate_left 2
            focus (simp only [List.getElem?_toArray, List.getElem?_cons_succ, List.getElem?_cons_zero]; rfl)
            focus exact fun _ _ _ h => h
            focus (refine Or.inl ⟨by kernel_rfl, ?_⟩; intro w hSw; clear hSw; go_simp; try with_reducible rfl)
            try simp only [Act.put, List.setIfInBounds_toArray, List.set_cons_zero, List.set_cons_succ]
            refine Late.only (i := 12) (o := ?_) (by kernel_rfl) ?_ (fun K hK => ?_)
            rotate_left 1
            focus (simp only [List.getElem?_toArray, List.getElem?_cons_succ, List.getElem?_cons_zero]; rfl)
            go_simp
            refine hK.out _ _ hSC (fun _ => trivial) ?_
            clear hK K
            try simp only [Act.put, List.setIfInBounds_toArray, List.set_cons_zero, List.set_cons_succ]
            have hS := hSC
            refine Late.take (i := 13) (oi := ?_) (v := ?_) ?_ (by kernel_rfl) (by kernel_rfl) (by kernel_rfl) (by kernel_rfl) ?_ ?_ (by assumption) (by assumption) ?_
            rotate_left 2
            focus (simp only [List.getElem?_toArray, List.getElem?_cons_succ, List.getElem?_cons_zero]; rfl)
            focus exact fun _ _ _ h => h
            focus (refine Or.inl ⟨by kernel_rfl, ?_⟩; intro w hSw; clear hSw; go_simp; try with_reducible rfl)
            try simp only [Act.put, List.setIfInBounds_toArray, List.set_cons_zero, List.set_cons_succ]
            refine Late.done (by kernel_rfl) ?_ _
            go_wp2_with fail
            go_meet
            exact ⟨_, f3, nums3, T3, j3, rfl, rfl, lC.out.sub (fun i e => Or.inr e), hst3.out, yC.out⟩
        case rest =>
          obtain ⟨z, f3, nums3, T3, j3, rfl, rfl, l9, hst3, z9⟩ := hcut
          have hT4 := store_cut hst3.r hd (Nat.le_of_lt hkS)
          obtain ⟨F3, hF3⟩ : ∃ F3, F3 = (freeL E0 300 j3).length := ⟨_, rfl⟩
          obtain ⟨N3, hN3⟩ : ∃ N3, N3 = T3.length := ⟨_, rfl⟩
          rw [← hN3] at hT4
          have hF23 : F2 = N3 + F3 := by
            have := hst3.left
            rw [← hF2.out, ← hF3, ← hN3] at this
            exact this
          have klo := load_ok hst3.ok (by omega)
          rw [hEs] at klo
          have kl := lv_load l9 (rootOf nums3 : Nat) (kk : Int)
          rw [klo] at kl
          have c0 := z9.cell 0
          have c1 := z9.cell 1
          unfold srcV at kl
          replace kl := Lib.hid kl
          have e2 : (F2 : Int) - (F3 : Int) = (N3 : Int) := by omega
          have e2w : IntKind.i64.wrap ((F2 : Int) - (F3 : Int)) = (N3 : Int) := by rw [e2]; exact IntWalk.i64_in _ (by omega)
          have d4 : (N3 : Int) ≤ 4 := by omega
          replace hF3 := Lib.hid hF3
          replace hF23 := Lib.hid hF23
          clear klo hst3 z9 ks ksB h7 x7 hN3 hF12 hdis3 ht3
          go_wp2_with fail
          refine kl.out.mono ?_
          rintro e wA ⟨rfl, lA, _⟩
          have kleft := lv_left lA
          rw [← hF3.out] at kleft
          have hbl := Lib.hid lA.bl
          clear kl c0 c1 l9 lA
          go_wp2_with fail
          refine kleft.mono ?_
          rintro e w' ⟨rfl, hw'⟩
          replace hw' := hw'.symm
          subst hw'
          clear kleft
          go_wp2_with fail
          refine (kf.out _).mono ?_
          rintro e wB ⟨rfl, bB⟩
          go_wp2_with fail
          go_ret
          exact ⟨rfl, hbl.out.trans (bB.mono hbl.out.size)⟩
  · as_aux_lemma =>
      have ks := store_long 0 0 S (srcV a) (.pointer (some ⟨g, 0, none⟩)) w2 (by omega) (by omega)
      unfold srcV at ks
      replace ks := Lib.hid ks
      have d1 : 16384 < (S.size : Int) := by omega
      go_wp2_with fail
      refine ks.out.mono ?_
      rintro e w3 ⟨rfl, b3⟩
      have hx := Lib.hid (LV.box (l.out.below b3) 0 0 rfl).1.bl
      clear ks l b3
      go_wp2_with fail
      refine (kf.out _).mono ?_
      rintro e w6 ⟨rfl, b6⟩
      go_wp2_with fail
      go_ret
      exact ⟨rfl, hx.out.trans (b6.mono hx.out.size)⟩
end Go.Proofs.YtajlfmnjibgbaaaGreatDoor.Tr

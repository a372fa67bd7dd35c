/- The walk of the law TreeBack. -/
import Derived.Test.YtajlfmnjibgbaaaGreatDoorTrOneA
import Derived.Deep.QuietTactic
import Derived.BigQuiet
namespace Go.Proofs.YtajlfmnjibgbaaaGreatDoor.Tr
open Go Go.RowKit Go.Maps Mem Disk Nv Vl
set_option maxRecDepth 100000 in
theorem count_snoc (l : List Int) {d : Nat} {y x : Int} (h : l[d]? = some y) : (l.take (d + 1)).count x = (l.take d).count x + if y = x then 1 else 0 := by
  rw [List.take_add_one, h, List.count_append]
  show _ + List.count x [y] = _
  rw [List.count_singleton]
  congr 1
  by_cases e : y = x
  · rw [if_pos e, e]; simp
  · rw [if_neg e]
    simp [e]
set_option maxRecDepth 100000 in
theorem hits_take (old l : List Int) {c : Nat} {x : Int} (h : l[c]? = some x) : hits old (l.take (c + 1)) = hits old (l.take c) + old.count x := by
  rw [List.take_add_one, h]
  exact hits_snoc old _ x
set_option maxRecDepth 100000 in
theorem hits_take_le (old l : List Int) : ∀ c, hits old (l.take c) ≤ hits old l := fun c => by
  have e : hits old l = hits old (l.take c) + hits old (l.drop c) := by
    unfold hits
    rw [← List.sum_append, ← List.map_append, List.take_append_drop]
  omega
set_option maxRecDepth 100000 in
theorem take_count_le (l : List Int) (d : Nat) (x : Int) : (l.take d).count x ≤ l.count x := List.Sublist.count_le x (List.take_sublist d l)
set_option maxRecDepth 100000 in
set_option maxHeartbeats 16000000 in
theorem treeback_any (s t : ByteArray) (hs : s.size ≤ 140737488355328) (ht : t.size ≤ 140737488355328) (w : World) :
    Calls Tryz.prog 7 #[.string s, .string t] w fun e w' => e = .returned (.bool true) ∧ Below w.heap.size w w' := by
  have kf := Lib.hid (fun W => treefix_any W)
  have kb := Lib.hid (bytes_any s w hs)
  have kb2 := Lib.hid (bytes_any t w ht)
  have hS := cut17_le s
  have hT := cut17_le t
  obtain ⟨S, hSe⟩ : ∃ S, S = cut17 s := ⟨_, rfl⟩
  obtain ⟨T, hTe⟩ : ∃ T, T = cut17 t := ⟨_, rfl⟩
  rw [← hSe] at hS kb
  rw [← hTe] at hT kb2
  have k0 : Calls Tryz.prog 10 #[.int .i64 300] w _ := laid_both 300 (by decide) w
  replace k0 := Lib.hid k0
  clear hSe hs hTe ht
  go_enter Tryz.func7, Tryz.ntmps7
  go_wp2_with fail
  refine kb.out.mono ?_
  rintro e w1 ⟨rfl, hw1⟩
  replace hw1 := hw1.symm
  subst hw1
  go_wp2_with fail
  refine kb2.out.mono ?_
  rintro e w1 ⟨rfl, hw1⟩
  replace hw1 := hw1.symm
  subst hw1
  clear kb kb2
  go_wp2_with fail
  refine k0.out.mono ?_
  rintro e w1 ⟨a, b, k, c, rfl, h, hb⟩
  replace h := Lib.hid h
  replace hb := Lib.hid hb
  have kp : Calls Tryz.prog 11 #[.string ⟨#[]⟩, .int .i64 300, .int .i64 1] w1 _ := new_pool 300 (by decide) w1
  replace kp := Lib.hid kp
  clear k0
  go_wp2_with fail
  refine kp.out.mono ?_
  rintro e w2 ⟨g, rfl, hg, hp, b2⟩
  have l := Lib.hid (lv_laid (by decide) h.out hb.out hg hp b2)
  clear h hb kp hg hp b2
  by_cases hd : S.size ≤ 16384
  · as_aux_lemma =>
      have ks := lv_first l.out (by decide) hd
      unfold srcV at ks
      replace ks := Lib.hid ks
      go_wp2_with fail
      refine ks.out.mono ?_
      rintro e w3 ⟨f1, nums, T1, j1, rfl, hst, l3, _⟩
      clear ks l
      obtain ⟨root, hroot⟩ : ∃ root, root = rootOf nums := ⟨_, rfl⟩
      rw [← hroot]
      replace hroot := Lib.hid hroot
      have hx := Lib.hid (LV.box l3 (root : Int) (S.size : Int) rfl)
      clear l3
      replace hst := Lib.hid hst
      go_upto_region 12 with fail
      generalize hW : w3.alloc (.cells #[.int .i64 (root : Int), .int .i64 (S.size : Int)] 33) = W at hx ⊢
      clear hW
      generalize w3.heap.size = x at hx ⊢
      have hl := hx.out.1.sub (Z := fun i => i = x) fun i hi => Or.inr hi
      have hxB := Lib.hid hx.out.2.1
      clear hx
      obtain ⟨old, ho, hperm, _⟩ := reach_ok hst.out.ok hd
      rw [← hroot.out] at ho
      have kr := lv_reach hl (root : Int) (S.size : Int)
      rw [ho] at kr
      unfold srcV at kr
      obtain ⟨LO, hLO⟩ : ∃ LO, LO = old.length := ⟨_, rfl⟩
      rw [← hLO] at kr
      have hLO72 : LO ≤ 72 := by rw [hLO, reach_len hst.out.ok hperm]; exact shape_le hd
      replace kr := Lib.hid kr
      replace hperm := Lib.hid hperm
      replace hLO := Lib.hid hLO
      have c0 := hxB.out.cell 0
      have c1 := hxB.out.cell 1
      clear ho hl
      go_wp2_with fail
      refine kr.out.mono ?_
      rintro e w4 ⟨vo, rfl, l4, ho4, hv4, k4⟩
      obtain ⟨AO, co, rfl⟩ := own_slice ho4
      have x4 := hxB.out.keeps k4 (fun hn => hn rfl)
      obtain ⟨F1, hF1⟩ : ∃ F1, F1 = (freeL E0 300 j1).length := ⟨_, rfl⟩
      have h299 : F1 + 72 ≥ 299 := by
        have q1 := hst.out.left
        have q2 := hst.out.few hd
        rw [len300, ← hF1] at q1
        omega
      have kl := lv_left l4
      rw [← hF1] at kl
      replace kl := Lib.hid kl
      replace hF1 := Lib.hid hF1
      replace l4 := Lib.hid l4
      replace ho4 := Lib.hid ho4
      replace hv4 := Lib.hid hv4
      replace x4 := Lib.hid x4
      clear kr k4 hxB c0 c1
      go_wp2_with fail
      refine kl.out.mono ?_
      rintro e w' ⟨rfl, hw'⟩
      replace hw' := hw'.symm
      subst hw'
      have c0 := x4.out.cell 0
      have c1 := x4.out.cell 1
      clear kl
      by_cases hd2 : T.size ≤ 16384
      · as_aux_lemma =>
          have ks := lv_later (data := T) l4.out (by decide) hd2 hd hst.out.ok hst.out.apart (by rw [← hF1.out]; omega)
          rw [← hroot.out] at ks
          unfold srcV at ks
          replace ks := Lib.hid ks
          go_wp2_with fail
          refine ks.out.mono ?_
          rintro e w5 ⟨f2, nums2, T2, j2, rfl, hst2, l5, k5⟩
          have x5 := x4.out.keeps k5 (fun hn => hn (Or.inl rfl))
          have ho5 := own_keeps ho4.out k5 (fun i e hn => hn (Or.inr e))
          obtain ⟨root2, hroot2⟩ : ∃ root2, root2 = rootOf nums2 := ⟨_, rfl⟩
          rw [← hroot2]
          obtain ⟨l6, y6, b6⟩ := LV.box l5 (root2 : Int) (T.size : Int) rfl
          have x6 := x5.below b6 x5.lt
          have ho6 := own_keeps ho5 (Keeps.of_below (fun _ => False) b6) (fun _ _ h => h)
          obtain ⟨l, hol, hpl, _⟩ := reach_ok hst2.ok hd2
          have hcount := back_count hst2.ok hst.out.ok.nodup hst2.nd hst2.out hst2.r.all hst2.mem hpl hperm.out
          have hLs := reach_len hst2.ok hpl
          have hnd := Lib.hid (reach_nodup hst2.ok hpl)
          have hlo := load_ok hst2.ok hd2
          have hlo1 := load_ok (hst.out.ok.chg hst2.r.chg hst2.out) hd
          have hleft := hst2.left
          rw [← hroot2] at hol hlo
          rw [← hroot.out] at hlo1
          obtain ⟨L, hL⟩ : ∃ L, L = l.length := ⟨_, rfl⟩
          rw [← hL] at hLs
          have hL72 : L ≤ 72 := by rw [hLs]; exact shape_le hd2
          rw [← hLs] at hcount
          have hsame : Hid (S = T → T2 = []) := Lib.hid (fun e => by
            subst e
            exact store_same hst2.r hst.out.ok)
          obtain ⟨N2, hN2⟩ : ∃ N2, N2 = T2.length := ⟨_, rfl⟩
          obtain ⟨H, hH⟩ : ∃ H, H = hits old l := ⟨_, rfl⟩
          rw [← hN2, ← hH] at hcount
          obtain ⟨F2, hF2⟩ : ∃ F2, F2 = (freeL E0 300 j2).length := ⟨_, rfl⟩
          rw [← hF1.out, ← hF2, ← hN2] at hleft
          have hF1b : F1 ≤ 299 := by
            have h1 := hF1.out
            have h2 := len300
            unfold freeL at h1 h2
            rw [List.length_drop] at h1 h2
            omega
          have ksh := Lib.hid (fun W => shape_ok T.size W hd2)
          rw [← hLs] at ksh
          replace hF2 := Lib.hid hF2
          replace hN2 := Lib.hid hN2
          replace hcount := Lib.hid hcount
          replace hleft := Lib.hid hleft
          replace hH := Lib.hid hH
          replace hroot2 := Lib.hid hroot2
          clear ks k5 l5 x5 ho5 hst2 hpl b6 c0 c1 hLs
          have h6 : LV w (fun i => (i = x ∨ Value.ownBlock (.slice AO LO co) = some i) ∨ i = w5.heap.size) 4003 (w5.alloc (.cells #[.int .i64 (root2 : Int), .int .i64 (T.size : Int)] 33)) a g f2 300 j2 := l6
          clear l6
          go_upto_region 17 with fail
          generalize hW6 : w5.alloc (.cells #[.int .i64 (root2 : Int), .int .i64 (T.size : Int)] 33) = W6 at h6 y6 x6 ho6 ⊢
          clear hW6
          generalize w5.heap.size = y at h6 y6 ⊢
          have kr := lv_reach h6 (root2 : Int) (T.size : Int)
          rw [hol] at kr
          unfold srcV at kr
          rw [← hL] at kr
          have c0 := y6.cell 0
          have c1 := y6.cell 1
          replace kr := Lib.hid kr
          replace y6 := Lib.hid y6
          replace x6 := Lib.hid x6
          replace ho6 := Lib.hid ho6
          replace hL := Lib.hid hL
          clear h6 hol
          go_wp2_with fail
          refine kr.out.mono ?_
          rintro e w7 ⟨vl, rfl, l7, ho7, _, k7⟩
          obtain ⟨AL, cl, rfl⟩ := own_slice ho7
          have x7 := x6.out.keeps k7 (fun hn => hn (Or.inl (Or.inl rfl)))
          have y7 := y6.out.keeps k7 (fun hn => hn (Or.inr rfl))
          have hoo7 := own_keeps ho6.out k7 (fun i e hn => hn (Or.inl (Or.inr e)))
          replace l7 := Lib.hid l7
          replace ho7 := Lib.hid ho7
          replace hoo7 := Lib.hid hoo7
          replace x7 := Lib.hid x7
          replace y7 := Lib.hid y7
          clear kr k7 c0 c1 x6 y6 ho6
          go_wp2_with fail
          refine (ksh.out _).mono ?_
          rintro e w8 ⟨rfl, b8⟩
          have l8 := l7.out.below b8
          have x8 := x7.out.below b8 x7.out.lt
          have y8 := y7.out.below b8 y7.out.lt
          have ho8 := own_keeps ho7.out (Keeps.of_below (fun _ => False) b8) (fun _ _ h => h)
          have hoo8 := own_keeps hoo7.out (Keeps.of_below (fun _ => False) b8) (fun _ _ h => h)
          have kld := lv_load l8 (root2 : Int) (T.size : Int)
          rw [hlo] at kld
          unfold srcV at kld
          have c0 := y8.cell 0
          have c1 := y8.cell 1
          replace kld := Lib.hid kld
          replace x8 := Lib.hid x8
          replace ho8 := Lib.hid ho8
          replace hoo8 := Lib.hid hoo8
          clear ksh b8 l7 x7 y7 ho7 hoo7 l8 y8 hlo
          go_wp2_with fail
          refine kld.out.mono ?_
          rintro e w9 ⟨rfl, l9, k9⟩
          have x9 := x8.out.keeps k9 (fun hn => hn (Or.inl (Or.inl (Or.inl rfl))))
          have ho9 := own_keeps ho8.out k9 (fun i e hn => hn (Or.inr e))
          have hoo9 := own_keeps hoo8.out k9 (fun i e hn => hn (Or.inl (Or.inl (Or.inr e))))
          have kld := lv_load l9 (root : Int) (S.size : Int)
          rw [hlo1] at kld
          unfold srcV at kld
          clear c0 c1
          have c0 := x9.cell 0
          have c1 := x9.cell 1
          replace kld := Lib.hid kld
          replace ho9 := Lib.hid ho9
          replace hoo9 := Lib.hid hoo9
          clear k9 x8 ho8 hoo8 l9 x9 hlo1
          go_wp2_with fail
          refine kld.out.mono ?_
          rintro e wA ⟨rfl, lA, kA⟩
          have rl := Row.of_own (own_keeps ho9.out kA (fun i e hn => hn (Or.inr e)))
          have ro := Row.of_own (own_keeps hoo9.out kA (fun i e hn => hn (Or.inl (Or.inl (Or.inr e)))))
          replace lA := Lib.hid lA
          clear c0 c1 kld kA ho9 hoo9
          have hbeS : (S.toList != S.toList) = false := by simp
          have hbeT : (T.toList != T.toList) = false := by simp
          go_wp2_with fail
          have hHb : N2 + H = L := hcount.out
          clear hbeS hbeT
          go_loopw [23, 24] (fun sv cv wr => ∃ (i q : Nat), i ≤ L ∧ cv = .int .i64 (i : Int) ∧ sv = .int .i64 ((hits old (l.take i) : Nat) : Int) ∧ wr = wA.drewN q) (fun _ cv _ => L - (intOf cv).toNat)
          case atStart => exact ⟨0, 0, Nat.zero_le _, rfl, rfl, rfl⟩
          case round =>
            obtain ⟨i, q, hi, rfl, rfl, rfl⟩ := hrel
            by_cases hlt : i < L
            · as_aux_lemma =>
                obtain ⟨ad, u, rfl, hu, hc⟩ := rl.at_ hlt
                unfold intV at hu
                obtain ⟨xi, hx1, rfl⟩ := Sets.getMap_int hu
                have hle1 := hits_take_le old l (i + 1)
                have hst1 := hits_take old l hx1
                have hxi := Lib.hid hx1
                obtain ⟨H0, hH0⟩ : ∃ H0, H0 = hits old (l.take i) := ⟨_, rfl⟩
                rw [← hH0] at hst1 ⊢
                have hH1 : H0 + old.count xi ≤ 72 := by have := hH.out; omega
                have z0 : (0 : Int) ≤ (i : Int) := by omega
                have z1 : (i : Int) < (L : Int) := by omega
                replace hst1 := Lib.hid hst1
                replace hH0 := Lib.hid hH0
                clear hle1 hx1 hu
                go_wp2_with fail
                go_loopw [23, 25] (fun sv dv wr => ∃ (d q2 : Nat), d ≤ LO ∧ dv = .int .i64 (d : Int) ∧ sv = .int .i64 ((H0 + (old.take d).count xi : Nat) : Int) ∧ wr = wA.drewN q2) (fun _ dv _ => LO - (intOf dv).toNat)
                case atStart => exact ⟨0, q, Nat.zero_le _, rfl, by simp, rfl⟩
                case round =>
                  obtain ⟨d, q2, hdl, rfl, rfl, rfl⟩ := hrel
                  have hcb := take_count_le old d xi
                  obtain ⟨C0, hC0⟩ : ∃ C0, C0 = H0 + (old.take d).count xi := ⟨_, rfl⟩
                  rw [← hC0]
                  have hC072 : C0 ≤ 72 := by omega
                  by_cases hdlt : d < LO
                  · obtain ⟨bd, v, rfl, hv, hcd⟩ := ro.at_ (k := d) hdlt
                    unfold intV at hv
                    obtain ⟨yd, hy1, rfl⟩ := Sets.getMap_int hv
                    have hcs := count_snoc old (x := xi) hy1
                    have zd0 : (0 : Int) ≤ (d : Int) := by omega
                    have zd1 : (d : Int) < (LO : Int) := by omega
                    replace hC0 := Lib.hid hC0
                    clear hv hy1 hcb
                    by_cases hxy : yd = xi
                    · subst hxy
                      rw [if_pos rfl] at hcs
                      have hee : (yd == yd) = true := beq_self_eq_true yd
                      replace hcs := Lib.hid hcs
                      go_wp2_with fail
                      go_quiet (fail)
                      go_wp2_with fail
                      go_roundw
                      case rel => exact ⟨d + 1, _, by omega, by go_num, by rw [hcs.out, ← Nat.add_assoc, ← hC0.out]; go_num, rfl⟩
                      case measure => simp [intOf]; omega
                    · rw [if_neg hxy] at hcs
                      have hee : (xi == yd) = false := beq_eq_false_iff_ne.2 (fun e => hxy e.symm)
                      replace hcs := Lib.hid hcs
                      go_wp2_with fail
                      go_quiet (fail)
                      go_wp2_with fail
                      go_roundw
                      case rel => exact ⟨d + 1, _, by omega, by go_num, by rw [hcs.out, Nat.add_zero, ← hC0.out], rfl⟩
                      case measure => simp [intOf]; omega
                  · obtain rfl : d = LO := by omega
                    have hCe : Hid (C0 = hits old (l.take (i + 1))) := Lib.hid (by
                      rw [hC0, hst1.out, List.take_of_length_le (by rw [hLO.out]; exact Nat.le_refl _)])
                    have zd1 : decide ((d : Int) < (d : Int)) = false := decide_eq_false (by omega)
                    clear hC0 hcb
                    go_wp2_with fail
                    go_loopw [26] (fun kv wr => ∃ (j q3 : Nat), j ≤ i ∧ kv = .int .i64 (j : Int) ∧ wr = wA.drewN q3) (fun kv _ => i - (intOf kv).toNat)
                    case atStart => exact ⟨0, _, Nat.zero_le _, rfl, rfl⟩
                    case round =>
                      obtain ⟨j, q3, hj, rfl, rfl⟩ := hrel
                      by_cases hlj : j < i
                      · obtain ⟨bd, v, hbd, hv, hcj⟩ := rl.at_ (k := j) (by omega)
                        obtain rfl : ad = bd := by injection hbd
                        unfold intV at hv
                        obtain ⟨y, hy1, rfl⟩ := Sets.getMap_int hv
                        have hne : (xi == y) = false := beq_eq_false_iff_ne.2 (fun e => nodup_ne hnd.out hxi.out hy1 hlj e)
                        have zj0 : (0 : Int) ≤ (j : Int) := by omega
                        have zj1 : (j : Int) < (L : Int) := by omega
                        have zj2 : (j : Int) < (i : Int) := by omega
                        clear hbd hv hy1
                        go_wp2_with fail
                        go_quiet (fail)
                        go_wp2_with fail
                        go_roundw
                        case rel => exact ⟨j + 1, _, by omega, by go_num, rfl⟩
                        case measure => simp [intOf]; omega
                      · obtain rfl : j = i := by omega
                        have zj2 : decide ((j : Int) < (j : Int)) = false := decide_eq_false (by omega)
                        go_wp2_with fail
                        go_roundw
                        case rel => exact ⟨j + 1, _, by omega, by go_num, by rw [hCe.out], rfl⟩
                        case measure => simp [intOf]; omega
            · as_aux_lemma =>
                obtain rfl : i = L := by omega
                rw [show hits old (l.take i) = H by rw [hH.out, List.take_of_length_le (by rw [hL.out]; exact Nat.le_refl _)]]
                have kleft := lv_left (lA.out.below (below_N wA q))
                rw [← hF2.out] at kleft
                have hbl := Lib.hid (lA.out.below (below_N wA q)).bl
                have e0 := hleft.out
                have e1 : (F1 : Int) - (F2 : Int) = (N2 : Int) := by omega
                have e1w : IntKind.i64.wrap ((F1 : Int) - (F2 : Int)) = (N2 : Int) := by rw [e1]; exact IntWalk.i64_in _ (by omega)
                have e2 : (i : Int) - (H : Int) = (N2 : Int) := by omega
                have e2w : IntKind.i64.wrap ((i : Int) - (H : Int)) = (N2 : Int) := by rw [e2]; exact IntWalk.i64_in _ (by omega)
                have hzl : decide ((i : Int) < (i : Int)) = false := decide_eq_false (by omega)
                replace kleft := Lib.hid kleft
                by_cases hST : S = T
                · have hN0 : N2 = 0 := by rw [hN2.out, hsame.out hST]; rfl
                  have hne : S.toList = T.toList := by rw [hST]
                  have hLH : (i : Int) = (H : Int) := by omega
                  replace hST := Lib.hid hST
                  replace hN0 := Lib.hid hN0
                  replace hHb := Lib.hid hHb
                  replace e0 := Lib.hid e0
                  go_wp2_with fail
                  refine kleft.out.mono ?_
                  rintro e w' ⟨rfl, hw'⟩
                  replace hw' := hw'.symm
                  subst hw'
                  go_wp2_with fail
                  refine (kf.out _).mono ?_
                  rintro e wB ⟨rfl, bB⟩
                  go_wp2_with fail
                  go_ret
                  exact ⟨rfl, hbl.out.trans (bB.mono hbl.out.size)⟩
                · have hne : ¬ S.toList = T.toList := by
                    intro h
                    apply hST
                    apply ByteArray.ext
                    rw [Lib.toList_data, Lib.toList_data] at h
                    exact Array.toList_inj.1 h
                  replace hST := Lib.hid hST
                  replace hHb := Lib.hid hHb
                  replace e0 := Lib.hid e0
                  go_wp2_with fail
                  refine kleft.out.mono ?_
                  rintro e w' ⟨rfl, hw'⟩
                  replace hw' := hw'.symm
                  subst hw'
                  go_wp2_with fail
                  refine (kf.out _).mono ?_
                  rintro e wB ⟨rfl, bB⟩
                  go_wp2_with fail
                  go_ret
                  exact ⟨rfl, hbl.out.trans (bB.mono hbl.out.size)⟩
      · as_aux_lemma =>
          have ks := store_long (root : Int) (S.size : Int) T (srcV a) (.pointer (some ⟨g, 0, none⟩)) w4 (by omega) (by omega)
          unfold srcV at ks
          replace ks := Lib.hid ks
          have d1 : 16384 < (T.size : Int) := by omega
          go_wp2_with fail
          refine ks.out.mono ?_
          rintro e w5 ⟨rfl, b5⟩
          have hbl := Lib.hid (LV.box (l4.out.below b5) 0 0 rfl).1.bl
          clear ks b5 c0 c1
          go_wp2_with fail
          refine (kf.out _).mono ?_
          rintro e w6 ⟨rfl, b6⟩
          go_wp2_with fail
          go_ret
          exact ⟨rfl, hbl.out.trans (b6.mono hbl.out.size)⟩
  · as_aux_lemma =>
      have ks := store_long 0 0 S (srcV a) (.pointer (some ⟨g, 0, none⟩)) w2 (by omega) (by omega)
      unfold srcV at ks
      replace ks := Lib.hid ks
      have d1 : 16384 < (S.size : Int) := by omega
      go_wp2_with fail
      refine ks.out.mono ?_
      rintro e w3 ⟨rfl, b3⟩
      have hx := Lib.hid (LV.box (l.out.below b3) 0 0 rfl).1.bl
      clear ks l b3
      go_wp2_with fail
      refine (kf.out _).mono ?_
      rintro e w6 ⟨rfl, b6⟩
      go_wp2_with fail
      go_ret
      exact ⟨rfl, hx.out.trans (b6.mono hx.out.size)⟩
end Go.Proofs.YtajlfmnjibgbaaaGreatDoor.Tr

/- The walk of the law TreeReach. -/
import Derived.Test.YtajlfmnjibgbaaaGreatDoorTrFixed
import Derived.Test.YtajlfmnjibgbaaaGreatDoorTrPl
import Derived.Deep.QuietTactic
import Derived.BigQuiet
namespace Go.Proofs.YtajlfmnjibgbaaaGreatDoor.Tr
open Go Go.RowKit Go.Maps Mem Disk Nv Vl
section
variable {w0 w w' : World} {Y : Nat → Prop} {m a g B j : Nat} {f : Rd}
set_option maxRecDepth 100000 in
theorem len300 : (freeL E0 300 0).length = 299 := by decide +kernel
set_option maxRecDepth 100000 in
/-- the first bytes of a law -/
theorem lv_first (h : LV w0 Y m w a g f 300 0) (hm : m ≤ 700000) {data : ByteArray} (hd : data.size ≤ 16384) :
    Calls Tryz.prog 13 #[srcV a, .agg #[.int .i64 0, .int .i64 0], .string data, .pointer (some ⟨g, 0, none⟩)] w fun e w' =>
      ∃ f' nums T j', e = .returned (.tuple #[.agg #[.int .i64 (rootOf nums : Nat), .int .i64 (data.size : Int)], .int .i64 0]) ∧ Stored f f' E0 [] data 300 0 j' nums T ∧ LV w0 Y (m + 2000) w' a g f' 300 j' ∧ Keeps (fun i => ¬ Y i) w w' := by
  refine (lv_store0 h (by decide) hm hd).mono ?_
  rintro e w' ⟨f', j', h1, h2, h3⟩
  rcases h1 with ⟨nums, T, h4, h5⟩ | ⟨_, _, h6⟩
  · exact ⟨f', nums, T, j', h4, h5, h2, h3⟩
  · rw [len300] at h6
    have := shape_le hd
    omega
end
set_option maxRecDepth 100000 in
theorem le_sum : ∀ {l : List Nat} {n : Nat}, n ∈ l → n ≤ l.sum
  | a :: l, n, h => by
    rw [List.sum_cons]
    rcases List.mem_cons.1 h with rfl | h
    · omega
    · have := le_sum h
      omega
set_option maxRecDepth 100000 in
theorem shape_zero {n : Nat} (hn : n ≤ 16384) : shapeN n = 0 ↔ n = 0 := by
  constructor
  · intro h
    rcases Nat.eq_zero_or_pos n with h0 | h0
    · exact h0
    · have h1 := lev_zeroth h0
      have h2 := (lev_mem hn h1).1
      have h3 : upN n 240 ∈ lev n := List.mem_of_getElem? h1
      have h4 := le_sum h3
      unfold shapeN at h
      omega
  · rintro rfl
    rfl
set_option maxRecDepth 100000 in
set_option maxHeartbeats 16000000 in
theorem treereach_any (s : ByteArray) (hs : s.size ≤ 140737488355328) (w : World) :
    Calls Tryz.prog 4 #[.string s] w fun e w' => e = .returned (.bool true) ∧ Below w.heap.size w w' := by
  have kf := Lib.hid (fun W => treefix_any W)
  have kb := Lib.hid (bytes_any s w hs)
  have hS := cut17_le s
  obtain ⟨S, hSe⟩ : ∃ S, S = cut17 s := ⟨_, rfl⟩
  rw [← hSe] at hS kb
  have k0 : Calls Tryz.prog 10 #[.int .i64 300] w _ := laid_both 300 (by decide) w
  replace k0 := Lib.hid k0
  clear hSe hs
  go_enter Tryz.func4, Tryz.ntmps4
  go_wp2_with fail
  refine kb.out.mono ?_
  rintro e w1 ⟨rfl, hw1⟩
  replace hw1 := hw1.symm
  subst hw1
  clear kb
  go_wp2_with fail
  refine k0.out.mono ?_
  rintro e w1 ⟨a, b, k, c, rfl, h, hb⟩
  replace h := Lib.hid h
  replace hb := Lib.hid hb
  have kp : Calls Tryz.prog 11 #[.string ⟨#[]⟩, .int .i64 300, .int .i64 1] w1 _ := new_pool 300 (by decide) w1
  replace kp := Lib.hid kp
  clear k0
  go_wp2_with fail
  refine kp.out.mono ?_
  rintro e w2 ⟨g, rfl, hg, hp, b2⟩
  have l := Lib.hid (lv_laid (by decide) h.out hb.out hg hp b2)
  clear h hb kp hg hp b2
  by_cases hd : S.size ≤ 16384
  · as_aux_lemma =>
      have ks := lv_first l.out (by decide) hd
      unfold srcV at ks
      replace ks := Lib.hid ks
      go_wp2_with fail
      refine ks.out.mono ?_
      rintro e w3 ⟨f1, nums, T, j1, rfl, hst, l3, _⟩
      clear ks l
      obtain ⟨ord, ho, hperm, hhead⟩ := reach_ok hst.ok hd
      obtain ⟨root, hroot⟩ : ∃ root, root = rootOf nums := ⟨_, rfl⟩
      rw [← hroot] at ho hhead ⊢
      have hx := Lib.hid (LV.box l3 (root : Int) (S.size : Int) rfl)
      obtain ⟨q0, q1, f0, f1⟩ := new_blob w3
      have c0 := hx.out.2.1.cell 0
      have c1 := hx.out.2.1.cell 1
      have kr := lv_reach hx.out.1 (root : Int) (S.size : Int)
      rw [ho] at kr
      unfold srcV at kr
      replace kr := Lib.hid kr
      have hlen := reach_len hst.ok hperm
      have hnd := Lib.hid (reach_nodup hst.ok hperm)
      have hmem := Lib.hid (fun (x : Int) (hx : x ∈ ord) => show ∃ n : Nat, x = (n : Int) ∧ 1 ≤ n ∧ n ≤ 299 by
        obtain ⟨n, h1, h2⟩ := reach_mem hperm hx
        rcases hst.mem n h2 with q | q
        · have := hst.small (by decide) n q
          exact ⟨n, h1, by omega⟩
        · cases q)
      have hz := shape_zero hd
      have hs72 := shape_le hd
      replace hhead := Lib.hid hhead
      have ksh := Lib.hid (fun W => shape_ok S.size W hd)
      obtain ⟨L, hL⟩ : ∃ L, L = ord.length := ⟨_, rfl⟩
      rw [← hL] at kr hlen
      rw [← hlen] at hz hs72 ksh
      replace hL := Lib.hid hL
      clear ho hperm hst l3 hroot hlen
      go_wp2_with fail
      refine kr.out.mono ?_
      rintro e w4 ⟨v, rfl, l4, ho4, hv4, k4⟩
      obtain ⟨A, cc, rfl⟩ := own_slice ho4
      have x4 := hx.out.2.1.keeps k4 (fun hn => hn (Or.inr rfl))
      replace l4 := Lib.hid l4
      replace ho4 := Lib.hid ho4
      replace x4 := Lib.hid x4
      clear kr c0 c1 hv4 k4 hx
      go_wp2_with fail
      refine (ksh.out _).mono ?_
      rintro e w5 ⟨rfl, b5⟩
      have hb := Lib.hid (l4.out.below b5).bl
      have x5 := x4.out.below b5 x4.out.lt
      have r5 := Row.of_own (own_keeps ho4.out (Keeps.of_below (fun _ => False) b5) (fun _ _ h => h))
      have c0 := x5.cell 0
      have c1 := x5.cell 1
      clear ksh l4 ho4 x4 b5 x5
      by_cases hz0 : S.size = 0
      · as_aux_lemma =>
          have hS0 : S = ⟨#[]⟩ := by
            apply ByteArray.ext
            exact Array.eq_empty_of_size_eq_zero hz0
          obtain rfl : L = 0 := hz.2 hz0
          subst hS0
          clear hz hz0 hL hhead hnd hmem r5
          go_wp2_with fail
          go_loopw [12] (fun iv wr => iv = .int .i64 0 ∧ wr = w5) (fun _ _ => 0)
          case atStart => exact ⟨rfl, rfl⟩
          case round =>
            obtain ⟨rfl, rfl⟩ := hrel
            go_wp2_with fail
            refine (kf.out _).mono ?_
            rintro e w6 ⟨rfl, b6⟩
            go_wp2_with fail
            go_ret
            exact ⟨rfl, hb.out.trans (b6.mono hb.out.size)⟩
      · as_aux_lemma =>
          have hL0 : 0 < L := by
            rcases Nat.eq_zero_or_pos L with q | q
            · exact absurd (hz.1 q) hz0
            · exact q
          have hSe : (S.toList == []) = false := by
            rw [beq_eq_false_iff_ne]
            intro h
            rw [Lib.toList_data] at h
            apply hz0
            show S.data.size = 0
            rw [← Array.length_toList, h]
            rfl
          have hSe2 : (S.toList == (⟨#[]⟩ : ByteArray).toList) = false := by rw [Lib.toList_data (⟨#[]⟩ : ByteArray)]; exact hSe
          have hLe : ((L : Int) == 0) = false := by simp; omega
          have hS1 : 0 < S.size := by omega
          clear hz hz0
          go_wp2_with fail
          go_loopw [12] (fun iv wr => ∃ i q : Nat, i ≤ L ∧ iv = .int .i64 (i : Int) ∧ wr = w5.drewN q) (fun iv _ => L - (intOf iv).toNat)
          case atStart => exact ⟨0, 0, Nat.zero_le _, rfl, rfl⟩
          case round =>
            obtain ⟨i, q, hi, rfl, rfl⟩ := hrel
            by_cases hlt : i < L
            · obtain ⟨ad, u, rfl, hu, hc⟩ := r5.at_ hlt
              unfold intV at hu
              obtain ⟨x, hx1, rfl⟩ := Sets.getMap_int hu
              obtain ⟨n, rfl, hn1, hn2⟩ := hmem.out x (List.mem_of_getElem? hx1)
              have hx2 := Lib.hid hx1
              have z0 : (0 : Int) ≤ (i : Int) := by omega
              have z1 : (i : Int) < (L : Int) := by omega
              have y1 : decide ((n : Int) < 1) = false := decide_eq_false (by omega)
              have y2 : decide (299 < (n : Int)) = false := decide_eq_false (by omega)
              by_cases hi0 : i = 0
              · as_aux_lemma =>
                  have hnr : n = root := by
                    obtain ⟨t, ht⟩ := hhead.out (by omega)
                    have h2 := hx2.out
                    rw [hi0, ht] at h2
                    have : (root : Int) = (n : Int) := by simpa using h2
                    omega
                  subst hnr
                  have hii : ((i : Int) == 0) = true := by simp; omega
                  replace hi0 := Lib.hid hi0
                  have hnn : ((n : Int) != (n : Int)) = false := by simp
                  go_wp2_with fail
                  go_quiet (fail)
                  go_wp2_with fail
                  go_loopw [13] (fun kv wr => ∃ (j q2 : Nat), j ≤ i ∧ kv = .int .i64 (j : Int) ∧ wr = w5.drewN q2) (fun kv _ => i - (intOf kv).toNat)
                  case atStart => exact ⟨0, _, Nat.zero_le _, rfl, World.drewN_drewN _ _ _⟩
                  case round =>
                    clear hc
                    obtain ⟨j, q2, hj, rfl, rfl⟩ := hrel
                    by_cases hlj : j < i
                    · obtain ⟨bd, v, hbd, hv, hcj⟩ := r5.at_ (k := j) (by omega)
                      obtain ⟨bd2, v2, hbd2, hv2, hci⟩ := r5.at_ (k := i) (by omega)
                      obtain rfl : ad = bd := by injection hbd
                      obtain rfl : ad = bd2 := by injection hbd2
                      unfold intV at hv hv2
                      obtain ⟨y, hy1, rfl⟩ := Sets.getMap_int hv
                      obtain ⟨y2, hy2, rfl⟩ := Sets.getMap_int hv2
                      obtain rfl : y2 = (n : Int) := by
                        have := hx2.out
                        rw [hy2] at this
                        exact Option.some.inj this
                      have hne : (y == (n : Int)) = false := beq_eq_false_iff_ne.2 (fun e => nodup_ne hnd.out hy2 hy1 hlj e.symm)
                      have zj0 : (0 : Int) ≤ (j : Int) := by omega
                      have zj1 : (j : Int) < (L : Int) := by omega
                      have zj2 : (j : Int) < (i : Int) := by omega
                      clear hbd hbd2 hv hv2 hy1 hy2
                      go_wp2_with fail
                      go_quiet (fail)
                      go_wp2_with fail
                      go_roundw
                      case rel => exact ⟨j + 1, _, by omega, by go_num, rfl⟩
                      case measure => simp [intOf]; omega
                    · obtain rfl : j = i := by omega
                      have zj2 : decide ((j : Int) < (j : Int)) = false := decide_eq_false (by omega)
                      go_wp2_with fail
                      go_roundw
                      case rel => exact ⟨j + 1, _, by omega, by go_num, rfl⟩
                      case measure => simp [intOf]; omega
              · as_aux_lemma =>
                  have hii : ((i : Int) == 0) = false := by simp; omega
                  go_wp2_with fail
                  go_quiet (fail)
                  go_wp2_with fail
                  go_loopw [13] (fun kv wr => ∃ (j q2 : Nat), j ≤ i ∧ kv = .int .i64 (j : Int) ∧ wr = w5.drewN q2) (fun kv _ => i - (intOf kv).toNat)
                  case atStart => exact ⟨0, _, Nat.zero_le _, rfl, World.drewN_drewN _ _ _⟩
                  case round =>
                    clear hc
                    obtain ⟨j, q2, hj, rfl, rfl⟩ := hrel
                    by_cases hlj : j < i
                    · obtain ⟨bd, v, hbd, hv, hcj⟩ := r5.at_ (k := j) (by omega)
                      obtain ⟨bd2, v2, hbd2, hv2, hci⟩ := r5.at_ (k := i) (by omega)
                      obtain rfl : ad = bd := by injection hbd
                      obtain rfl : ad = bd2 := by injection hbd2
                      unfold intV at hv hv2
                      obtain ⟨y, hy1, rfl⟩ := Sets.getMap_int hv
                      obtain ⟨y2, hy2, rfl⟩ := Sets.getMap_int hv2
                      obtain rfl : y2 = (n : Int) := by
                        have := hx2.out
                        rw [hy2] at this
                        exact Option.some.inj this
                      have hne : (y == (n : Int)) = false := beq_eq_false_iff_ne.2 (fun e => nodup_ne hnd.out hy2 hy1 hlj e.symm)
                      have zj0 : (0 : Int) ≤ (j : Int) := by omega
                      have zj1 : (j : Int) < (L : Int) := by omega
                      have zj2 : (j : Int) < (i : Int) := by omega
                      clear hbd hbd2 hv hv2 hy1 hy2
                      go_wp2_with fail
                      go_quiet (fail)
                      go_wp2_with fail
                      go_roundw
                      case rel => exact ⟨j + 1, _, by omega, by go_num, rfl⟩
                      case measure => simp [intOf]; omega
                    · obtain rfl : j = i := by omega
                      have zj2 : decide ((j : Int) < (j : Int)) = false := decide_eq_false (by omega)
                      go_wp2_with fail
                      go_roundw
                      case rel => exact ⟨j + 1, _, by omega, by go_num, rfl⟩
                      case measure => simp [intOf]; omega
            · obtain rfl : i = L := by omega
              go_wp2_with fail
              refine (kf.out _).mono ?_
              rintro e w6 ⟨rfl, b6⟩
              go_wp2_with fail
              go_ret
              exact ⟨rfl, (below_drewN hb.out q).trans (b6.mono hb.out.size)⟩
  · as_aux_lemma =>
      have ks := store_long 0 0 S (srcV a) (.pointer (some ⟨g, 0, none⟩)) w2 (by omega) (by omega)
      unfold srcV at ks
      replace ks := Lib.hid ks
      have d1 : 16384 < (S.size : Int) := by omega
      go_wp2_with fail
      refine ks.out.mono ?_
      rintro e w3 ⟨rfl, b3⟩
      have hx := Lib.hid (LV.box (l.out.below b3) 0 0 rfl).1.bl
      clear ks l b3
      go_wp2_with fail
      refine (kf.out _).mono ?_
      rintro e w6 ⟨rfl, b6⟩
      go_wp2_with fail
      go_ret
      exact ⟨rfl, hx.out.trans (b6.mono hx.out.size)⟩
end Go.Proofs.YtajlfmnjibgbaaaGreatDoor.Tr

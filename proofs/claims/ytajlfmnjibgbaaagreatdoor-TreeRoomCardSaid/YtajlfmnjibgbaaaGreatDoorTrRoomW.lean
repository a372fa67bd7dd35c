/- The walk of the law TreeRoom. -/
import Derived.Test.YtajlfmnjibgbaaaGreatDoorTrOneA
namespace Go.Proofs.YtajlfmnjibgbaaaGreatDoor.Tr
open Go Go.RowKit Go.Maps Mem Disk Nv Vl
/-- how many a pool has left, by its cell -/
def leftAt (g : Nat) (w : World) : Nat := match w.cell? ⟨g, 4, none⟩ with
  | some (.int _ n) => n.toNat
  | _ => 0
set_option maxRecDepth 100000 in
theorem mask7 (a : Int) : ∃ m : Nat, m ≤ 127 ∧ bits .and .i64 a 127 = (m : Int) := by
  have h : (BitVec.ofInt 64 a &&& BitVec.ofInt 64 127).toNat ≤ 127 := by
    rw [BitVec.toNat_and]
    exact Nat.le_trans Nat.and_le_right (by decide)
  refine ⟨(BitVec.ofInt 64 a &&& BitVec.ofInt 64 127).toNat, h, ?_⟩
  show IntKind.i64.wrap ((BitVec.ofInt 64 a &&& BitVec.ofInt 64 127).toNat : Int) = _
  rw [IntKind.wrap_i64]
  omega
section
variable {w0 w w' : World} {Y : Nat → Prop} {m a g j : Nat} {f : Rd}
set_option maxRecDepth 100000 in
theorem LV.left (h : LV w0 Y m w a g f 300 j) : leftAt g w = (freeL E0 300 j).length := by
  obtain ⟨U', q1, _⟩ := h.vp.p
  unfold leftAt
  rw [show w.cell? ⟨g, 4, none⟩ = some (.int .i64 (((Alloc.ord E0 300 1).length - j : Nat) : Int)) from Blk.cell q1 4]
  show Int.toNat _ = _
  unfold freeL
  rw [List.length_drop, Int.toNat_natCast]
set_option maxRecDepth 100000 in
/-- a block is taken, and left -/
theorem lv_take (h : LV w0 Y m w a g f 300 j) (h0 : 0 < (freeL E0 300 j).length) : Calls Tryz.prog 24 #[.pointer (some ⟨g, 0, none⟩)] w fun e w' =>
    ∃ n : Int, e = .returned (.tuple #[.int .i64 n, .int .i64 0]) ∧ LV w0 Y m w' a g f 300 (j + 1) ∧ Keeps (fun i => ¬ Y i) w w' := by
  have hj : j < (Alloc.ord E0 300 1).length := by
    unfold freeL at h0
    rw [List.length_drop] at h0
    omega
  refine (Alloc.take_next E0 300 1 j g w h.vp.p ⟨by decide, by decide, Nat.le_refl _, by decide⟩ hj).mono ?_
  rintro e w' ⟨rfl, p1, g1⟩
  have kg : Keeps (fun i => i = g) w w' := Keeps.of_grown g1 (fun i e => by injection e with e; exact e.symm)
  exact ⟨_, rfl, ⟨⟨h.vp.v.turn (kg.mono fun i e => Or.inr (Or.inr e)), p1, h.vp.xg⟩, h.gb, h.yg, h.bl.trans (kg.toBelow (fun i e => e ▸ h.gb) h.bl.size), hj⟩, kg.mono fun i e hy => h.yg (e ▸ hy)⟩
end
set_option maxRecDepth 100000 in
theorem free_sub {j1 j n : Nat} (hj : j1 ≤ j) (h : n ∈ freeL E0 300 j) : n ∈ freeL E0 300 j1 := by
  unfold freeL at h ⊢
  rw [show j = j1 + (j - j1) by omega, ← List.drop_drop] at h
  exact List.mem_of_mem_drop h
set_option maxRecDepth 100000 in
set_option maxHeartbeats 16000000 in
theorem treeroom_any (s t : ByteArray) (room : Int) (hs : s.size ≤ 140737488355328) (ht : t.size ≤ 140737488355328) (w : World) :
    Calls Tryz.prog 8 #[.string s, .string t, .int .i64 room] w fun e w' => e = .returned (.bool true) ∧ Below w.heap.size w w' := by
  have kf := Lib.hid (fun W => treefix_any W)
  have kb := Lib.hid (bytes_any s w hs)
  have kb2 := Lib.hid (bytes_any t w ht)
  have hS := cut17_le s
  have hT := cut17_le t
  obtain ⟨S, hSe⟩ : ∃ S, S = cut17 s := ⟨_, rfl⟩
  obtain ⟨T, hTe⟩ : ∃ T, T = cut17 t := ⟨_, rfl⟩
  rw [← hSe] at hS kb
  rw [← hTe] at hT kb2
  have k0 : Calls Tryz.prog 10 #[.int .i64 300] w _ := laid_both 300 (by decide) w
  replace k0 := Lib.hid k0
  clear hSe hs hTe ht
  go_enter Tryz.func8, Tryz.ntmps8
  go_wp2_with fail
  refine kb.out.mono ?_
  rintro e w1 ⟨rfl, hw1⟩
  replace hw1 := hw1.symm
  subst hw1
  go_wp2_with fail
  refine kb2.out.mono ?_
  rintro e w1 ⟨rfl, hw1⟩
  replace hw1 := hw1.symm
  subst hw1
  clear kb kb2
  go_wp2_with fail
  refine k0.out.mono ?_
  rintro e w1 ⟨a, b, k, c, rfl, h, hb⟩
  replace h := Lib.hid h
  replace hb := Lib.hid hb
  have kp : Calls Tryz.prog 11 #[.string ⟨#[]⟩, .int .i64 300, .int .i64 1] w1 _ := new_pool 300 (by decide) w1
  replace kp := Lib.hid kp
  clear k0
  go_wp2_with fail
  refine kp.out.mono ?_
  rintro e w2 ⟨g, rfl, hg, hp, b2⟩
  have l := Lib.hid (lv_laid (by decide) h.out hb.out hg hp b2)
  clear h hb kp hg hp b2
  by_cases hd : S.size ≤ 16384
  · as_aux_lemma =>
      have ks := lv_first l.out (by decide) hd
      unfold srcV at ks
      replace ks := Lib.hid ks
      go_wp2_with fail
      refine ks.out.mono ?_
      rintro e w3 ⟨f1, nums, T1, j1, rfl, hst, l3, _⟩
      clear ks l
      obtain ⟨root, hroot⟩ : ∃ root, root = rootOf nums := ⟨_, rfl⟩
      rw [← hroot]
      replace hroot := Lib.hid hroot
      have hx := Lib.hid (LV.box l3 (root : Int) (S.size : Int) rfl)
      clear l3
      replace hst := Lib.hid hst
      go_upto_region 8 with fail
      generalize hW : w3.alloc (.cells #[.int .i64 (root : Int), .int .i64 (S.size : Int)] 33) = W at hx ⊢
      clear hW
      generalize w3.heap.size = x at hx ⊢
      have hl := Lib.hid (show LV w (fun i => i = x) 2003 W a g f1 300 j1 from hx.out.1.sub fun i hi => Or.inr hi)
      have hxB := Lib.hid hx.out.2.1
      clear hx
      by_cases hd2 : T.size ≤ 16384
      · as_aux_lemma =>
          have d2 : decide (16384 < (T.size : Int)) = false := decide_eq_false (by omega)
          have ksh := Lib.hid (shape_ok T.size W hd2)
          obtain ⟨n, hn⟩ : ∃ n, n = shapeN T.size := ⟨_, rfl⟩
          rw [← hn] at ksh
          have hn72 : n ≤ 72 := by rw [hn]; exact shape_le hd2
          obtain ⟨m, hm, hmask⟩ := mask7 room
          replace hn := Lib.hid hn
          go_wp2_with fail
          refine ksh.out.mono ?_
          rintro e w5 ⟨rfl, b5⟩
          have l5 := Lib.hid (hl.out.below b5)
          have x5 := Lib.hid (hxB.out.below b5 hxB.out.lt)
          have hm5 : m ≤ (freeL E0 300 j1).length := by
            have q1 := hst.out.left
            have q2 := hst.out.few hd
            rw [len300] at q1
            omega
          replace hm5 := Lib.hid hm5
          clear ksh b5 hl hxB d2
          go_wp2_with fail
          go_loopw [71] (fun _ wr => ∃ j, j1 ≤ j ∧ m ≤ (freeL E0 300 j).length ∧ LV w (fun i => i = x) 2003 wr a g f1 300 j ∧ Blk wr x 33 #[.int .i64 (root : Int), .int .i64 (S.size : Int)]) (fun _ wr => leftAt g wr)
          case atStart => exact ⟨j1, Nat.le_refl _, hm5.out, l5.out, x5.out⟩
          case round =>
            clear hm5 l5 x5
            obtain ⟨j, hj1, hmF, l6, x6⟩ := hrel
            obtain ⟨F, hF⟩ : ∃ F, F = (freeL E0 300 j).length := ⟨_, rfl⟩
            have kl := lv_left l6
            have hlf := l6.left
            rw [← hF] at kl hmF hlf
            by_cases hlt : m < F
            · as_aux_lemma =>
                have kt := Lib.hid (lv_take l6 (by omega))
                have d1 : (m : Int) < (F : Int) := by omega
                replace hF := Lib.hid hF
                replace hlf := Lib.hid hlf
                replace x6 := Lib.hid x6
                replace kl := Lib.hid kl
                clear l6
                go_wp2_with fail
                refine kl.out.mono ?_
                rintro e w' ⟨rfl, hw'⟩
                replace hw' := hw'.symm
                subst hw'
                clear kl
                go_wp2_with fail
                refine kt.out.mono ?_
                rintro e w7 ⟨q, rfl, l7, k7⟩
                have x7 := x6.out.keeps k7 (fun hn => hn rfl)
                have hl7 := l7.left
                have hF2 : (freeL E0 300 (j + 1)).length + 1 = F := by
                  have h1 := hF.out
                  unfold freeL at h1 ⊢
                  rw [List.length_drop] at h1 ⊢
                  omega
                replace l7 := Lib.hid l7
                replace x7 := Lib.hid x7
                replace hl7 := Lib.hid hl7
                replace hF2 := Lib.hid hF2
                clear kt k7 x6
                go_wp2_with fail
                exact ⟨⟨j + 1, by omega, by have := hF2.out; omega, l7.out, x7.out⟩, by rw [hl7.out, hlf.out]; have := hF2.out; omega⟩
            · as_aux_lemma =>
                obtain rfl : F = m := by omega
                have d1 : decide ((F : Int) < (F : Int)) = false := decide_eq_false (by omega)
                have hdis : ∀ n ∈ nums.flatten, n ∉ freeL E0 300 j := fun n hn hf => hst.out.apart n hn (free_sub hj1 hf)
                have ks := lv_store (data := T) l6 (by decide) (by decide) hd2 hd hst.out.ok hdis
                rw [← hroot.out] at ks
                unfold srcV at ks
                replace ks := Lib.hid ks
                have c0 := x6.cell 0
                have c1 := x6.cell 1
                replace hF := Lib.hid hF
                replace hdis := Lib.hid hdis
                replace x6 := Lib.hid x6
                replace kl := Lib.hid kl
                clear l6 hlf
                go_wp2_with fail
                refine kl.out.mono ?_
                rintro e w' ⟨rfl, hw'⟩
                replace hw' := hw'.symm
                subst hw'
                clear kl
                go_wp2_with fail
                refine ks.out.mono ?_
                rintro e w7 ⟨f2, j2, hans, l7, k7⟩
                have x7 := Lib.hid (x6.out.keeps k7 (fun hn => hn rfl))
                clear ks k7 x6 c0 c1
                have hans2 : ∃ (p q er : Int), e = .returned (.tuple #[.agg #[.int .i64 p, .int .i64 q], .int .i64 er]) ∧ TreeOk f2 S nums ∧ (er = 0 ∨ (er = 112 ∧ F < n)) := by
                  rcases hans with ⟨nums2, T2, rfl, hst2⟩ | ⟨rfl, hc, hlt2⟩
                  · exact ⟨_, _, _, rfl, hst.out.ok.chg hst2.r.chg hst2.out, Or.inl rfl⟩
                  · exact ⟨_, _, _, rfl, hst.out.ok.chg hc (fun n hn hm => hdis.out n hm hn), Or.inr ⟨rfl, by rw [hn.out, hF.out]; exact hlt2⟩⟩
                obtain ⟨p, q, er, rfl, ht2, her⟩ := hans2
                have klo := load_ok ht2 hd
                rw [← hroot.out] at klo
                have l8 := (LV.box l7 p q rfl)
                have x8 := x7.out.below l8.2.2 x7.out.lt
                have kl := lv_load l8.1 (root : Int) (S.size : Int)
                rw [klo] at kl
                have c0 := x8.cell 0
                have c1 := x8.cell 1
                unfold srcV at kl
                replace kl := Lib.hid kl
                clear l7 hans x7 l8 x8 klo ht2 hdis
                go_wp2_with fail
                refine kl.out.mono ?_
                rintro e w9 ⟨rfl, l9, _⟩
                have hbl := Lib.hid l9.bl
                clear kl l9 c0 c1
                go_wp2_with fail
                refine (kf.out _).mono ?_
                rintro e wA ⟨rfl, bA⟩
                have fin := Lib.hid (hbl.out.trans (bA.mono hbl.out.size))
                clear bA hbl
                rcases her with rfl | ⟨rfl, hFn⟩
                · go_wp2_with fail
                  go_ret
                  exact ⟨rfl, fin.out⟩
                · have d3 : (F : Int) < (n : Int) := by omega
                  go_wp2_with fail
                  go_ret
                  exact ⟨rfl, fin.out⟩
      · as_aux_lemma =>
          have d2 : 16384 < (T.size : Int) := by omega
          have hbl := Lib.hid hl.out.bl
          clear hl hxB
          go_wp2_with fail
          refine (kf.out _).mono ?_
          rintro e w6 ⟨rfl, b6⟩
          go_wp2_with fail
          go_ret
          exact ⟨rfl, hbl.out.trans (b6.mono hbl.out.size)⟩
  · as_aux_lemma =>
      have ks := store_long 0 0 S (srcV a) (.pointer (some ⟨g, 0, none⟩)) w2 (by omega) (by omega)
      unfold srcV at ks
      replace ks := Lib.hid ks
      have d1 : 16384 < (S.size : Int) := by omega
      go_wp2_with fail
      refine ks.out.mono ?_
      rintro e w3 ⟨rfl, b3⟩
      have hx := Lib.hid (LV.box (l.out.below b3) 0 0 rfl).1.bl
      clear ks l b3
      go_wp2_with fail
      refine (kf.out _).mono ?_
      rintro e w6 ⟨rfl, b6⟩
      go_wp2_with fail
      go_ret
      exact ⟨rfl, hx.out.trans (b6.mono hx.out.size)⟩
end Go.Proofs.YtajlfmnjibgbaaaGreatDoor.Tr

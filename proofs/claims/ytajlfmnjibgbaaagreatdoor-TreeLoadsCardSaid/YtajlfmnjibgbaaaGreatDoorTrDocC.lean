/- The document's read of a tree: a chunk (printed by gen_docc.py). -/
import Derived.Test.YtajlfmnjibgbaaaGreatDoorTrDocM
import Derived.Test.YtajlfmnjibgbaaaGreatDoorTrDocA
import Derived.Test.YtajlfmnjibgbaaaGreatDoorRowz
import Derived.BigRegion
namespace Go.Proofs.YtajlfmnjibgbaaaGreatDoor.Tr
open Go Go.RowKit Go.Maps Mem Disk Nv Vl
set_option maxRecDepth 100000 in
set_option maxHeartbeats 16000000 in
theorem read0_any {X : Nat → Prop} {N m : Nat} {w : World} {k t : Nat} {f : Rd} {T : Tx} {b : Nat} (hw : RW X N m w k t f T) (hm : m ≤ 900000) (hg : TGood b T) (hb : b ≤ 100000) {size : Nat} (hs : size ≤ 16384) (ch : Bool) (num : Int) {at_ : Nat} (hat : at_ < (lev size).getD 0 0) :
    Calls Tryz.prog 80 #[.pointer (some ⟨t, 0, none⟩), .pointer (some ⟨k, 0, none⟩), .int .i64 num, .int .i64 0, .int .i64 (at_ : Int), .int .i64 (size : Int), .bool ch] w fun e w' =>
      e = .returned (.tuple #[]) ∧ RW X N m w' k t f (readR f size ch 0 at_ T num) ∧ KeepX X w w' := by
  obtain ⟨G, ov, v0, v1, v2, h⟩ := hw
  obtain ⟨i0, hinf, hz0, hz1, hz2⟩ := info_parts infoInt
  have c5 : w.cell? ⟨t, 5, none⟩ = some (.int .i64 T.e) := h.blk.cell 5
  by_cases he : T.e = 0
  rotate_left 1
  · have hen : (T.e != 0) = true := by simpa using he
    rw [readR_stuck f size ch 0 at_ T num he]
    replace h := Lib.hid h
    clear he hg hat
    generalize T.e = te at c5 hen
    go_enter Tryz.func80, Tryz.ntmps80
    go_wp2_with fail
    (try simp only [Exit.inBlock, Exit.then])
    refine bodyPost_ret (results_none rfl _ _ _) rfl ?_
    exact ⟨rfl, ⟨_, _, _, _, _, h.out⟩, Keeps.refl _ w⟩
  rw [he] at c5
  have c0 : w.cell? ⟨t, 0, none⟩ = some ov := h.blk.cell 0
  have hn0b := hg.ord
  obtain ⟨n0, hn0⟩ : ∃ n0, n0 = T.order.length := ⟨_, rfl⟩
  obtain ⟨Y0, hY0⟩ : ∃ Y0, Y0 = intV T.order := ⟨_, rfl⟩
  have hrow := h.ord
  rw [← hn0, ← hY0] at hrow
  have hy0 : Y0.length = n0 := by rw [hY0, hn0]; exact intV_length _
  rw [← hn0] at hn0b
  obtain ⟨R, hR⟩ : ∃ R, R = readR f size ch 0 at_ T num := ⟨_, rfl⟩
  rw [← hR]
  unfold readR at hR
  rw [if_neg (fun q => q he)] at hR
  have hg2 := hg.enter (l := 0) (by decide) num
  replace h := Lib.hid h
  replace hrow := Lib.hid hrow
  replace hn0 := Lib.hid hn0
  replace hY0 := Lib.hid hY0
  replace hR := Lib.hid hR
  replace he := Lib.hid he
  replace hat := Lib.hid hat
  go_enter Tryz.func80, Tryz.ntmps80
  go_upto_region 2 with (first
    | (at_builtin; refine wpList_append_own_at _ rfl (.tmp 27) (.tmp 29) _ rfl 0 3 i0 (.int .i64 0) 1 8 Tryz.underlying41 hinf hz0 hz1 hz2 rfl (by decide) _ n0 Y0 rfl (hrow.out.alloc _) ⟨w.heap.size, 0, none⟩ 1 1 [.int .i64 num] rfl rfl (cell_one_new _ _ _) (by simp [Value.oneCell']) (by unfold maxLen; omega) (by omega) (Nat.zero_le _) ?_; intro v9 w11 hown1 hg1 hn1 ha1; obtain ⟨A9, c9, rfl⟩ := own_slice hown1; have hB9 := h.out.blk.keeps (alloc_keeps hg1 (fun i (e : ov.ownBlock = some i) => e)) (fun e => (h.out.oF t e).2.2 rfl); have hcx : w11.cell? ⟨t, 0, none⟩ = some ov := hB9.cell 0; have hfx := hB9.free 0; clear hB9))
  obtain ⟨h1, k1⟩ := h.out.order (num := num) hg1 (by rw [← hn0.out, ← hY0.out]; exact hown1) ha1
  generalize w11.setCell ⟨t, 0, none⟩ (.slice A9 (n0 + 1) c9) = W1 at h1 k1 ⊢
  clear hown1 hg1 hn1 ha1 hcx hfx hrow
  go_cut [45] (fun _ wx => RW X N m wx k t f (T.enter num 0) ∧ KeepX X w wx)
  case first =>
    have h2 := h1.below (Below.refl _ W1).drew
    have k2 := Lib.hid (k1.same (Keeps.of_below (fun i => ¬ X i) (Below.refl _ W1).drew))
    have hl3 : ({ T with order := T.order ++ [num] } : Tx).levels.length = 3 := hg.len3
    obtain ⟨A0, c0, e0⟩ := own_slice h2.r0
    subst e0
    have hMb : (lvT T 0).length ≤ b := hg.lev 0
    obtain ⟨M, hM⟩ : ∃ M, M = (lvT T 0).length := ⟨_, rfl⟩
    obtain ⟨Y, hY⟩ : ∃ Y, Y = intV (lvT T 0) := ⟨_, rfl⟩
    have hY1 : ∀ u ∈ Y, u.oneCell' = true := by rw [hY]; exact ints_one _
    clear h1 k1
    refine Late.start (S := fun _ => True) (T := fun W => W.cell? ⟨t, 2, none⟩ = some (.slice A0 M c0)) (late := [16]) (by kernel_rfl) ?_
    generalize W1.drew = V at h2 k2 ⊢
    have hBV := h2.blk
    have rV : Row V A0 M Y := by rw [hY, hM]; exact Row.of_own h2.r0
    rw [show (lvT { T with order := T.order ++ [num] } 0).length = M from hM.symm] at hBV
    have hlt := hBV.lt
    have bbV := Below.refl V.heap.size V
    have hT : V.cell? ⟨t, 2, none⟩ = some (.slice A0 M c0) := hBV.cell 2
    have hS : True := trivial
    rw [← hM] at hMb
    replace h2 := Lib.hid h2
    replace hM := Lib.hid hM
    replace hY := Lib.hid hY
    refine Late.take (i := 0) (oi := ?_) (v := ?_) ?_ (by kernel_rfl) (by kernel_rfl) (by kernel_rfl) (by kernel_rfl) ?_ ?_ (by assumption) (by assumption) ?_
    rotate_left 2
    focus (simp only [List.getElem?_toArray, List.getElem?_cons_zero]; rfl)
    focus exact fun _ _ _ h => h
    focus (refine Or.inl ⟨by kernel_rfl, ?_⟩; intro w hSw; clear hSw; go_simp; try with_reducible rfl)
    try simp only [Act.put, List.setIfInBounds_toArray, List.set_cons_zero, List.set_cons_succ]
    refine Late.take (i := 1) (oi := ?_) (v := ?_) ?_ (by kernel_rfl) (by kernel_rfl) (by kernel_rfl) (by kernel_rfl) ?_ ?_ (by assumption) (by assumption) ?_
    rotate_left 2
    focus (simp only [List.getElem?_toArray, List.getElem?_cons_succ, List.getElem?_cons_zero]; rfl)
    focus exact fun _ _ _ h => h
    focus (refine Or.inl ⟨by kernel_rfl, ?_⟩; intro w hSw; clear hSw; go_simp; try with_reducible rfl)
    try simp only [Act.put, List.setIfInBounds_toArray, List.set_cons_zero, List.set_cons_succ]
    refine Late.take (i := 3) (oi := ?_) (v := ?_) ?_ (by kernel_rfl) (by kernel_rfl) (by kernel_rfl) (by kernel_rfl) ?_ ?_ (by assumption) (by assumption) ?_
    rotate_left 2
    focus (simp only [List.getElem?_toArray, List.getElem?_cons_succ, List.getElem?_cons_zero]; rfl)
    focus exact fun _ _ _ h => h
    focus (refine Or.inl ⟨by kernel_rfl, ?_⟩; intro w hSw; clear hSw; go_simp; try with_reducible rfl)
    try simp only [Act.put, List.setIfInBounds_toArray, List.set_cons_zero, List.set_cons_succ]
    refine Late.take (i := 4) (oi := ?_) (v := ?_) ?_ (by kernel_rfl) (by kernel_rfl) (by kernel_rfl) (by kernel_rfl) ?_ ?_ (by assumption) (by assumption) ?_
    rotate_left 2
    focus (simp only [List.getElem?_toArray, List.getElem?_cons_succ, List.getElem?_cons_zero]; rfl)
    focus exact fun _ _ _ h => h
    focus (refine Or.inl ⟨by kernel_rfl, ?_⟩; intro w hSw; clear hSw; go_simp; try with_reducible rfl)
    try simp only [Act.put, List.setIfInBounds_toArray, List.set_cons_zero, List.set_cons_succ]
    refine Late.take (i := 5) (oi := ?_) (v := ?_) ?_ (by kernel_rfl) (by kernel_rfl) (by kernel_rfl) (by kernel_rfl) ?_ ?_ (by assumption) (by assumption) ?_
    rotate_left 2
    focus (simp only [List.getElem?_toArray, List.getElem?_cons_succ, List.getElem?_cons_zero]; rfl)
    focus exact fun _ _ _ h => h
    focus (refine Or.inl ⟨by kernel_rfl, ?_⟩; intro w hSw; clear hSw; go_simp; try with_reducible rfl)
    try simp only [Act.put, List.setIfInBounds_toArray, List.set_cons_zero, List.set_cons_succ]
    refine Late.take (i := 6) (oi := ?_) (v := ?_) ?_ (by kernel_rfl) (by kernel_rfl) (by kernel_rfl) (by kernel_rfl) ?_ ?_ (by assumption) (by assumption) ?_
    rotate_left 2
    focus (simp only [List.getElem?_toArray, List.getElem?_cons_succ, List.getElem?_cons_zero]; rfl)
    focus exact fun _ _ _ h => h
    focus (refine Or.inl ⟨by kernel_rfl, ?_⟩; intro w hSw; clear hSw; go_simp; try with_reducible rfl)
    try simp only [Act.put, List.setIfInBounds_toArray, List.set_cons_zero, List.set_cons_succ]
    refine Late.take (i := 7) (oi := ?_) (v := ?_) ?_ (by kernel_rfl) (by kernel_rfl) (by kernel_rfl) (by kernel_rfl) ?_ ?_ (by assumption) (by assumption) ?_
    rotate_left 2
    focus (simp only [List.getElem?_toArray, List.getElem?_cons_succ, List.getElem?_cons_zero]; rfl)
    focus exact fun _ _ _ h => h
    focus (refine Or.inl ⟨by kernel_rfl, ?_⟩; intro w hSw; clear hSw; go_simp; try with_reducible rfl)
    try simp only [Act.put, List.setIfInBounds_toArray, List.set_cons_zero, List.set_cons_succ]
    refine Late.takeT (i := 8) (oi := ?_) (v := ?_) ?_ (by kernel_rfl) (by kernel_rfl) (by kernel_rfl) (by kernel_rfl) (by kernel_rfl) (by kernel_rfl) ?_ ?_ (by assumption) (by assumption) ?_
    rotate_left 2
    focus (simp only [List.getElem?_toArray, List.getElem?_cons_succ, List.getElem?_cons_zero]; rfl)
    focus exact fun _ _ _ h => h
    focus (refine Or.inl ⟨by rfl, ?_⟩; intro w hSw; (try dsimp only at hSw); go_split_ands; go_simp; try with_reducible rfl)
    try simp only [Act.put, List.setIfInBounds_toArray, List.set_cons_zero, List.set_cons_succ]
    refine Late.take (i := 10) (oi := ?_) (v := ?_) ?_ (by kernel_rfl) (by kernel_rfl) (by kernel_rfl) (by kernel_rfl) ?_ ?_ (by assumption) (by assumption) ?_
    rotate_left 2
    focus (simp only [List.getElem?_toArray, List.getElem?_cons_succ, List.getElem?_cons_zero]; rfl)
    focus exact fun _ _ _ h => h
    focus (refine Or.inl ⟨by kernel_rfl, ?_⟩; intro w hSw; clear hSw; go_simp; try with_reducible rfl)
    try simp only [Act.put, List.setIfInBounds_toArray, List.set_cons_zero, List.set_cons_succ]
    refine Late.take (i := 13) (oi := ?_) (v := ?_) ?_ (by kernel_rfl) (by kernel_rfl) (by kernel_rfl) (by kernel_rfl) ?_ ?_ (by assumption) (by assumption) ?_
    rotate_left 2
    focus (simp only [List.getElem?_toArray, List.getElem?_cons_succ, List.getElem?_cons_zero]; rfl)
    focus exact fun _ _ _ h => h
    focus (refine Or.inl ⟨by kernel_rfl, ?_⟩; intro w hSw; clear hSw; go_simp; try with_reducible rfl)
    try simp only [Act.put, List.setIfInBounds_toArray, List.set_cons_zero, List.set_cons_succ]
    refine Late.take (i := 14) (oi := ?_) (v := ?_) ?_ (by kernel_rfl) (by kernel_rfl) (by kernel_rfl) (by kernel_rfl) ?_ ?_ (by assumption) (by assumption) ?_
    rotate_left 2
    focus (simp only [List.getElem?_toArray, List.getElem?_cons_succ, List.getElem?_cons_zero]; rfl)
    focus exact fun _ _ _ h => h
    focus (refine Or.inl ⟨by kernel_rfl, ?_⟩; intro w hSw; clear hSw; go_simp; try with_reducible rfl)
    try simp only [Act.put, List.setIfInBounds_toArray, List.set_cons_zero, List.set_cons_succ]
    refine Late.ready (rs := [2, 11]) (by kernel_rfl) (by simp) (Late.AllReady.cons (o := ?o1x2x11) ?e1x2x11 (fun K hK => ?m1x2x11) (Late.AllReady.cons (o := ?o2x2x11) ?e2x2x11 (fun K hK => ?m2x2x11) Late.AllReady.nil))
    case e1x2x11 => (simp only [List.getElem?_toArray, List.getElem?_cons_succ, List.getElem?_cons_zero]; rfl)
    case e2x2x11 => (simp only [List.getElem?_toArray, List.getElem?_cons_succ, List.getElem?_cons_zero]; rfl)
    case m1x2x11 =>
      rw [if_pos (by kernel_rfl)]
      go_simp
      have bd := (Below.refl _ V).alloc (Nat.le_refl _) (.cells #[] 3)
      have hBVa : Blk (V.alloc (.cells #[] 3)) t 105 _ := hBV.below bd hBV.lt
      have bbVa : Below V.heap.size V (V.alloc (.cells #[] 3)) := bbV.trans (bd.mono bbV.size)
      have rVa := rV.below bd
      have oeVa : (V.alloc (.cells #[] 3)).ownsRow V.heap.size 3 1 (.slice (some ⟨V.heap.size, 0, none⟩) 0 0) 0 [] := World.ownsRow_made V #[] 0 bbV.size (by decide) rfl
      have hT : (V.alloc (.cells #[] 3)).cell? ⟨t, 2, none⟩ = some (.slice A0 M c0) := hBVa.cell 2
      clear bd
      refine hK.out _ _ trivial (fun _ => hT) ?_
      clear hK K
      try simp only [Act.put, List.setIfInBounds_toArray, List.set_cons_zero, List.set_cons_succ]
      generalize V.alloc (.cells #[] 3) = Va at hBVa bbVa rVa oeVa hT ⊢
      refine Late.ready (rs := [9, 11]) (by kernel_rfl) (by simp) (Late.AllReady.cons (o := ?o1x9x11) ?e1x9x11 (fun K hK => ?m1x9x11) (Late.AllReady.cons (o := ?o2x9x11) ?e2x9x11 (fun K hK => ?m2x9x11) Late.AllReady.nil))
      case e1x9x11 => (simp only [List.getElem?_toArray, List.getElem?_cons_succ, List.getElem?_cons_zero]; rfl)
      case e2x9x11 => (simp only [List.getElem?_toArray, List.getElem?_cons_succ, List.getElem?_cons_zero]; rfl)
      case m1x9x11 =>
        rw [if_pos (by kernel_rfl)]
        refine wp_append_row (P := Tryz.prog) (w := Va) (.tmp 35) (.tmp 41) 41 rfl V.heap.size 3 i0 (.int .i64 0) 8 Tryz.underlying41 hinf hz0 hz1 hz2 rfl (.slice (some ⟨V.heap.size, 0, none⟩) 0 0) 0 [] rfl oeVa A0 M c0 Y rfl rVa hY1 (by unfold maxLen; omega) (by omega) bbVa.size ?_
        intro v2 Vb o2Vb g2 _
        rw [Nat.zero_add, List.nil_append] at o2Vb
        have bbVb := bbVa.grown g2 bbVa.size (fun j e => (oeVa.lt j e).1)
        have hBVb := hBVa.grown g2 (fun e => by have := (oeVa.lt t e.symm).1; omega)
        have hT : Vb.cell? ⟨t, 2, none⟩ = some (.slice A0 M c0) := hBVb.cell 2
        refine hK.out _ _ trivial (fun _ => hT) ?_
        clear hK K
        try simp only [Act.put, List.setIfInBounds_toArray, List.set_cons_zero, List.set_cons_succ]
        (try simp only [Nat.zero_add] at ⊢)

        refine Late.only (i := 11) (o := ?_) (by kernel_rfl) ?_ (fun K hK => ?_)
        rotate_left 1
        focus (simp only [List.getElem?_toArray, List.getElem?_cons_succ, List.getElem?_cons_zero]; rfl)
        rw [if_pos (by kernel_rfl)]
        go_simp
        have bd := (Below.refl _ Vb).alloc (Nat.le_refl _) (.cells #[.int .i64 num] 3)
        have hBVc : Blk (Vb.alloc (.cells #[.int .i64 num] 3)) t 105 _ := hBVb.below bd hBVb.lt
        have bbVc : Below V.heap.size V (Vb.alloc (.cells #[.int .i64 num] 3)) := bbVb.trans (bd.mono bbVb.size)
        have noVc : Blk (Vb.alloc (.cells #[.int .i64 num] 3)) Vb.heap.size 3 #[.int .i64 num] := Blk.new Vb _ _
        have o2Vc := own_keeps o2Vb (Keeps.of_below (fun _ => False) bd) (fun _ _ h => h)
        have hT : (Vb.alloc (.cells #[.int .i64 num] 3)).cell? ⟨t, 2, none⟩ = some (.slice A0 M c0) := hBVc.cell 2
        clear bd
        refine hK.out _ _ trivial (fun _ => hT) ?_
        clear hK K
        try simp only [Act.put, List.setIfInBounds_toArray, List.set_cons_zero, List.set_cons_succ]
        generalize Vb.alloc (.cells #[.int .i64 num] 3) = Vc at hBVc bbVc noVc o2Vc hT ⊢
        refine Late.only (i := 12) (o := ?_) (by kernel_rfl) ?_ (fun K hK => ?_)
        rotate_left 1
        focus (simp only [List.getElem?_toArray, List.getElem?_cons_succ, List.getElem?_cons_zero]; rfl)
        rw [if_pos (by kernel_rfl)]
        have n1 : Row Vc (some ⟨Vb.heap.size, 0, none⟩) 1 [.int .i64 num] := ⟨rfl, fun j u hj => by
          match j, hj with
          | 0, hj =>
            injection hj with hj
            subst hj
            exact ⟨_, rfl, noVc.cell 0⟩
          | j + 1, hj => cases hj⟩
        refine wp_append_row (P := Tryz.prog) (w := Vc) (.tmp 42) (.tmp 44) 41 rfl V.heap.size 3 i0 (.int .i64 0) 8 Tryz.underlying41 hinf hz0 hz1 hz2 rfl v2 M Y rfl o2Vc (some ⟨Vb.heap.size, 0, none⟩) 1 1 [.int .i64 num] rfl n1 (by simp [Value.oneCell']) (by unfold maxLen; omega) (by omega) bbVc.size ?_
        intro v3 Vd o3 g3 _
        obtain ⟨A3, c3, rfl⟩ := own_slice o3
        have bbVd := bbVc.grown g3 bbVc.size (fun j e => (o2Vc.lt j e).1)
        have hBVd := hBVc.grown g3 (fun e => by have := (o2Vc.lt t e.symm).1; omega)
        have hT : Vd.cell? ⟨t, 2, none⟩ = some (.slice A0 M c0) := hBVd.cell 2
        have fr := hBVd.free 2
        refine hK.out _ _ trivial (fun _ => hT) ?_
        clear hK K
        try simp only [Act.put, List.setIfInBounds_toArray, List.set_cons_zero, List.set_cons_succ]
        refine Late.take (i := 15) (oi := ?_) (v := ?_) ?_ (by kernel_rfl) (by kernel_rfl) (by kernel_rfl) (by kernel_rfl) ?_ ?_ (by assumption) (by assumption) ?_
        rotate_left 2
        focus (simp only [List.getElem?_toArray, List.getElem?_cons_succ, List.getElem?_cons_zero]; rfl)
        focus exact fun _ _ _ h => h
        focus (refine Or.inl ⟨by kernel_rfl, ?_⟩; intro w hSw; clear hSw; go_simp; try with_reducible rfl)
        try simp only [Act.put, List.setIfInBounds_toArray, List.set_cons_zero, List.set_cons_succ]
        refine Late.only (i := 16) (o := ?_) (by kernel_rfl) ?_ (fun K hK => ?_)
        rotate_left 1
        focus (simp only [List.getElem?_toArray, List.getElem?_cons_succ, List.getElem?_cons_zero]; rfl)
        go_simp
        refine hK.out _ _ trivial (Late.gone (by kernel_rfl)) ?_
        clear hK K
        try simp only [Act.put, List.setIfInBounds_toArray, List.set_cons_zero, List.set_cons_succ]
        refine Late.done (by kernel_rfl) ?_ _
        rw [hY.out] at o3
        have fin := h2.out.level0 (W := Vd) (num := num) hl3 bbVd (by rw [← hM.out]; exact o3)
        replace fin := Lib.hid fin
        clear hT fr o3 g3 n1
        go_wp2_with fail
        go_meet
        exact ⟨⟨_, _, _, _, _, fin.out.1⟩, k2.out.same fin.out.2⟩
      case m2x9x11 =>
        rw [if_pos (by kernel_rfl)]
        go_simp
        have bd := (Below.refl _ Va).alloc (Nat.le_refl _) (.cells #[.int .i64 num] 3)
        have hBVb : Blk (Va.alloc (.cells #[.int .i64 num] 3)) t 105 _ := hBVa.below bd hBVa.lt
        have bbVb : Below V.heap.size V (Va.alloc (.cells #[.int .i64 num] 3)) := bbVa.trans (bd.mono bbVa.size)
        have rVb := rVa.below bd
        have noVb : Blk (Va.alloc (.cells #[.int .i64 num] 3)) Va.heap.size 3 #[.int .i64 num] := Blk.new Va _ _
        have oeVb := own_keeps oeVa (Keeps.of_below (fun _ => False) bd) (fun _ _ h => h)
        have hT : (Va.alloc (.cells #[.int .i64 num] 3)).cell? ⟨t, 2, none⟩ = some (.slice A0 M c0) := hBVb.cell 2
        clear bd
        refine hK.out _ _ trivial (fun _ => hT) ?_
        clear hK K
        try simp only [Act.put, List.setIfInBounds_toArray, List.set_cons_zero, List.set_cons_succ]
        generalize Va.alloc (.cells #[.int .i64 num] 3) = Vb at hBVb bbVb rVb noVb oeVb hT ⊢
        have hne : Va.heap.size ≠ V.heap.size := fun e => by have := oeVa.lt V.heap.size rfl; omega
        refine Late.only (i := 9) (o := ?_) (by kernel_rfl) ?_ (fun K hK => ?_)
        rotate_left 1
        focus (simp only [List.getElem?_toArray, List.getElem?_cons_succ, List.getElem?_cons_zero]; rfl)
        rw [if_pos (by kernel_rfl)]
        refine wp_append_row (P := Tryz.prog) (w := Vb) (.tmp 35) (.tmp 41) 41 rfl V.heap.size 3 i0 (.int .i64 0) 8 Tryz.underlying41 hinf hz0 hz1 hz2 rfl (.slice (some ⟨V.heap.size, 0, none⟩) 0 0) 0 [] rfl oeVb A0 M c0 Y rfl rVb hY1 (by unfold maxLen; omega) (by omega) bbVb.size ?_
        intro v2 Vc o2Vc g2 _
        rw [Nat.zero_add, List.nil_append] at o2Vc
        have bbVc := bbVb.grown g2 bbVb.size (fun j e => (oeVb.lt j e).1)
        have hBVc := hBVb.grown g2 (fun e => by have := (oeVb.lt t e.symm).1; omega)
        have noVc := noVb.grown g2 (fun e => hne (by injection e))
        have hT : Vc.cell? ⟨t, 2, none⟩ = some (.slice A0 M c0) := hBVc.cell 2
        refine hK.out _ _ trivial (fun _ => hT) ?_
        clear hK K
        try simp only [Act.put, List.setIfInBounds_toArray, List.set_cons_zero, List.set_cons_succ]
        (try simp only [Nat.zero_add] at ⊢)
        refine Late.only (i := 12) (o := ?_) (by kernel_rfl) ?_ (fun K hK => ?_)
        rotate_left 1
        focus (simp only [List.getElem?_toArray, List.getElem?_cons_succ, List.getElem?_cons_zero]; rfl)
        rw [if_pos (by kernel_rfl)]
        have n1 : Row Vc (some ⟨Va.heap.size, 0, none⟩) 1 [.int .i64 num] := ⟨rfl, fun j u hj => by
          match j, hj with
          | 0, hj =>
            injection hj with hj
            subst hj
            exact ⟨_, rfl, noVc.cell 0⟩
          | j + 1, hj => cases hj⟩
        refine wp_append_row (P := Tryz.prog) (w := Vc) (.tmp 42) (.tmp 44) 41 rfl V.heap.size 3 i0 (.int .i64 0) 8 Tryz.underlying41 hinf hz0 hz1 hz2 rfl v2 M Y rfl o2Vc (some ⟨Va.heap.size, 0, none⟩) 1 1 [.int .i64 num] rfl n1 (by simp [Value.oneCell']) (by unfold maxLen; omega) (by omega) bbVc.size ?_
        intro v3 Vd o3 g3 _
        obtain ⟨A3, c3, rfl⟩ := own_slice o3
        have bbVd := bbVc.grown g3 bbVc.size (fun j e => (o2Vc.lt j e).1)
        have hBVd := hBVc.grown g3 (fun e => by have := (o2Vc.lt t e.symm).1; omega)
        have hT : Vd.cell? ⟨t, 2, none⟩ = some (.slice A0 M c0) := hBVd.cell 2
        have fr := hBVd.free 2
        refine hK.out _ _ trivial (fun _ => hT) ?_
        clear hK K
        try simp only [Act.put, List.setIfInBounds_toArray, List.set_cons_zero, List.set_cons_succ]
        refine Late.take (i := 15) (oi := ?_) (v := ?_) ?_ (by kernel_rfl) (by kernel_rfl) (by kernel_rfl) (by kernel_rfl) ?_ ?_ (by assumption) (by assumption) ?_
        rotate_left 2
        focus (simp only [List.getElem?_toArray, List.getElem?_cons_succ, List.getElem?_cons_zero]; rfl)
        focus exact fun _ _ _ h => h
        focus (refine Or.inl ⟨by kernel_rfl, ?_⟩; intro w hSw; clear hSw; go_simp; try with_reducible rfl)
        try simp only [Act.put, List.setIfInBounds_toArray, List.set_cons_zero, List.set_cons_succ]
        refine Late.only (i := 16) (o := ?_) (by kernel_rfl) ?_ (fun K hK => ?_)
        rotate_left 1
        focus (simp only [List.getElem?_toArray, List.getElem?_cons_succ, List.getElem?_cons_zero]; rfl)
        go_simp
        refine hK.out _ _ trivial (Late.gone (by kernel_rfl)) ?_
        clear hK K
        try simp only [Act.put, List.setIfInBounds_toArray, List.set_cons_zero, List.set_cons_succ]
        refine Late.done (by kernel_rfl) ?_ _
        rw [hY.out] at o3
        have fin := h2.out.level0 (W := Vd) (num := num) hl3 bbVd (by rw [← hM.out]; exact o3)
        replace fin := Lib.hid fin
        clear hT fr o3 g3 n1
        go_wp2_with fail
        go_meet
        exact ⟨⟨_, _, _, _, _, fin.out.1⟩, k2.out.same fin.out.2⟩
    case m2x2x11 =>
      rw [if_pos (by kernel_rfl)]
      go_simp
      have bd := (Below.refl _ V).alloc (Nat.le_refl _) (.cells #[.int .i64 num] 3)
      have hBVa : Blk (V.alloc (.cells #[.int .i64 num] 3)) t 105 _ := hBV.below bd hBV.lt
      have bbVa : Below V.heap.size V (V.alloc (.cells #[.int .i64 num] 3)) := bbV.trans (bd.mono bbV.size)
      have rVa := rV.below bd
      have noVa : Blk (V.alloc (.cells #[.int .i64 num] 3)) V.heap.size 3 #[.int .i64 num] := Blk.new V _ _
      have hT : (V.alloc (.cells #[.int .i64 num] 3)).cell? ⟨t, 2, none⟩ = some (.slice A0 M c0) := hBVa.cell 2
      clear bd
      refine hK.out _ _ trivial (fun _ => hT) ?_
      clear hK K
      try simp only [Act.put, List.setIfInBounds_toArray, List.set_cons_zero, List.set_cons_succ]
      generalize V.alloc (.cells #[.int .i64 num] 3) = Va at hBVa bbVa rVa noVa hT ⊢
      refine Late.only (i := 2) (o := ?_) (by kernel_rfl) ?_ (fun K hK => ?_)
      rotate_left 1
      focus (simp only [List.getElem?_toArray, List.getElem?_cons_succ, List.getElem?_cons_zero]; rfl)
      rw [if_pos (by kernel_rfl)]
      go_simp
      have bd := (Below.refl _ Va).alloc (Nat.le_refl _) (.cells #[] 3)
      have hBVb : Blk (Va.alloc (.cells #[] 3)) t 105 _ := hBVa.below bd hBVa.lt
      have bbVb : Below V.heap.size V (Va.alloc (.cells #[] 3)) := bbVa.trans (bd.mono bbVa.size)
      have rVb := rVa.below bd
      have oeVb : (Va.alloc (.cells #[] 3)).ownsRow V.heap.size 3 1 (.slice (some ⟨Va.heap.size, 0, none⟩) 0 0) 0 [] := World.ownsRow_made Va #[] 0 bbVa.size (by decide) rfl
      have noVb := noVa.below bd noVa.lt
      have hT : (Va.alloc (.cells #[] 3)).cell? ⟨t, 2, none⟩ = some (.slice A0 M c0) := hBVb.cell 2
      clear bd
      refine hK.out _ _ trivial (fun _ => hT) ?_
      clear hK K
      try simp only [Act.put, List.setIfInBounds_toArray, List.set_cons_zero, List.set_cons_succ]
      generalize Va.alloc (.cells #[] 3) = Vb at hBVb bbVb rVb oeVb noVb hT ⊢
      have hne : V.heap.size ≠ Va.heap.size := fun e => by have := noVa.lt; omega
      refine Late.only (i := 9) (o := ?_) (by kernel_rfl) ?_ (fun K hK => ?_)
      rotate_left 1
      focus (simp only [List.getElem?_toArray, List.getElem?_cons_succ, List.getElem?_cons_zero]; rfl)
      rw [if_pos (by kernel_rfl)]
      refine wp_append_row (P := Tryz.prog) (w := Vb) (.tmp 35) (.tmp 41) 41 rfl V.heap.size 3 i0 (.int .i64 0) 8 Tryz.underlying41 hinf hz0 hz1 hz2 rfl (.slice (some ⟨Va.heap.size, 0, none⟩) 0 0) 0 [] rfl oeVb A0 M c0 Y rfl rVb hY1 (by unfold maxLen; omega) (by omega) bbVb.size ?_
      intro v2 Vc o2Vc g2 _
      rw [Nat.zero_add, List.nil_append] at o2Vc
      have bbVc := bbVb.grown g2 bbVb.size (fun j e => (oeVb.lt j e).1)
      have hBVc := hBVb.grown g2 (fun e => by have := (oeVb.lt t e.symm).1; omega)
      have noVc := noVb.grown g2 (fun e => hne (by injection e))
      have hT : Vc.cell? ⟨t, 2, none⟩ = some (.slice A0 M c0) := hBVc.cell 2
      refine hK.out _ _ trivial (fun _ => hT) ?_
      clear hK K
      try simp only [Act.put, List.setIfInBounds_toArray, List.set_cons_zero, List.set_cons_succ]
      (try simp only [Nat.zero_add] at ⊢)
      refine Late.only (i := 12) (o := ?_) (by kernel_rfl) ?_ (fun K hK => ?_)
      rotate_left 1
      focus (simp only [List.getElem?_toArray, List.getElem?_cons_succ, List.getElem?_cons_zero]; rfl)
      rw [if_pos (by kernel_rfl)]
      have n1 : Row Vc (some ⟨V.heap.size, 0, none⟩) 1 [.int .i64 num] := ⟨rfl, fun j u hj => by
        match j, hj with
        | 0, hj =>
          injection hj with hj
          subst hj
          exact ⟨_, rfl, noVc.cell 0⟩
        | j + 1, hj => cases hj⟩
      refine wp_append_row (P := Tryz.prog) (w := Vc) (.tmp 42) (.tmp 44) 41 rfl V.heap.size 3 i0 (.int .i64 0) 8 Tryz.underlying41 hinf hz0 hz1 hz2 rfl v2 M Y rfl o2Vc (some ⟨V.heap.size, 0, none⟩) 1 1 [.int .i64 num] rfl n1 (by simp [Value.oneCell']) (by unfold maxLen; omega) (by omega) bbVc.size ?_
      intro v3 Vd o3 g3 _
      obtain ⟨A3, c3, rfl⟩ := own_slice o3
      have bbVd := bbVc.grown g3 bbVc.size (fun j e => (o2Vc.lt j e).1)
      have hBVd := hBVc.grown g3 (fun e => by have := (o2Vc.lt t e.symm).1; omega)
      have hT : Vd.cell? ⟨t, 2, none⟩ = some (.slice A0 M c0) := hBVd.cell 2
      have fr := hBVd.free 2
      refine hK.out _ _ trivial (fun _ => hT) ?_
      clear hK K
      try simp only [Act.put, List.setIfInBounds_toArray, List.set_cons_zero, List.set_cons_succ]
      refine Late.take (i := 15) (oi := ?_) (v := ?_) ?_ (by kernel_rfl) (by kernel_rfl) (by kernel_rfl) (by kernel_rfl) ?_ ?_ (by assumption) (by assumption) ?_
      rotate_left 2
      focus (simp only [List.getElem?_toArray, List.getElem?_cons_succ, List.getElem?_cons_zero]; rfl)
      focus exact fun _ _ _ h => h
      focus (refine Or.inl ⟨by kernel_rfl, ?_⟩; intro w hSw; clear hSw; go_simp; try with_reducible rfl)
      try simp only [Act.put, List.setIfInBounds_toArray, List.set_cons_zero, List.set_cons_succ]
      refine Late.only (i := 16) (o := ?_) (by kernel_rfl) ?_ (fun K hK => ?_)
      rotate_left 1
      focus (simp only [List.getElem?_toArray, List.getElem?_cons_succ, List.getElem?_cons_zero]; rfl)
      go_simp
      refine hK.out _ _ trivial (Late.gone (by kernel_rfl)) ?_
      clear hK K
      try simp only [Act.put, List.setIfInBounds_toArray, List.set_cons_zero, List.set_cons_succ]
      refine Late.done (by kernel_rfl) ?_ _
      rw [hY.out] at o3
      have fin := h2.out.level0 (W := Vd) (num := num) hl3 bbVd (by rw [← hM.out]; exact o3)
      replace fin := Lib.hid fin
      clear hT fr o3 g3 n1
      go_wp2_with fail
      go_meet
      exact ⟨⟨_, _, _, _, _, fin.out.1⟩, k2.out.same fin.out.2⟩
  case rest =>
  obtain ⟨⟨G2, ov2, u0, u1, u2, h2⟩, k2⟩ := hcut
  obtain ⟨T2, hT2⟩ : ∃ T2, T2 = T.enter num 0 := ⟨_, rfl⟩
  have hR1 := hR.out
  rw [← hT2] at h2 hg2 hR1
  replace hT2 := Lib.hid hT2
  obtain ⟨p, er, hp⟩ : ∃ p er, f num = (p, er) := ⟨_, _, rfl⟩
  by_cases hch : ch = false
  · subst hch
    rw [if_pos rfl] at hR1
    have fin := Lib.hid (show RW X N m _ k t f R ∧ KeepX X w _ from ⟨⟨_, _, _, _, _, by rw [hR1]; exact h2⟩, k2⟩)
    clear h2 k2 hR1 hR hg hg2
    go_wp2_with fail
    (try simp only [Exit.inBlock, Exit.then])
    refine bodyPost_ret (results_none rfl _ _ _) rfl ?_
    exact ⟨rfl, fin.out⟩
  · obtain rfl : ch = true := by simpa using hch
    rw [if_neg (by decide)] at hR1
    have hR2 : R = if er ≠ 0 then { T2 with e := er } else if p.size ≠ min 240 (size - 240 * at_) then { T2 with e := 110 } else { T2 with data := T2.data ++ p } := by rw [hR1, hp]; rfl
    have kr := rw_read h2 hm num
    rw [hp] at kr
    replace kr := Lib.hid kr
    replace k2 := Lib.hid k2
    replace hR2 := Lib.hid hR2
    replace hp := Lib.hid hp
    clear h2 hR1 hR hch
    go_wp2_with fail
    refine kr.out.mono ?_
    rintro e w3 ⟨rfl, ⟨G3, h3⟩, k3⟩
    replace k3 := k2.out.same k3
    clear kr k2
    by_cases he2 : er = 0
    · subst he2
      have hR4 := hR2.out.trans (if_neg (by simp))
      have hat2 : 240 * at_ < size := by
        have h1 := hat.out
        rcases Nat.eq_zero_or_pos size with q | q
        · subst q
          exact absurd h1 (by simp [lev])
        · rw [rows0 q] at h1
          exact up_lt rfl (by decide) h1
      obtain ⟨M, hM⟩ : ∃ M, M = min 240 (size - 240 * at_) := ⟨_, rfl⟩
      rw [← hM] at hR4
      obtain ⟨Q, hQ⟩ : ∃ Q, Q = 240 * at_ := ⟨_, rfl⟩
      obtain ⟨R0, hR0⟩ : ∃ R0, R0 = size - Q := ⟨_, rfl⟩
      have e1 : 240 * (at_ : Int) = (Q : Int) := by omega
      have e2 : (size : Int) - (Q : Int) = (R0 : Int) := by omega
      have hmin : min 240 (R0 : Int) = (M : Int) := by omega
      have hM240 : M ≤ 240 := by omega
      have hQb : Q ≤ 16384 := by omega
      have hatb : at_ ≤ 16384 := by omega
      replace hM := Lib.hid hM
      replace hQ := Lib.hid hQ
      replace hR0 := Lib.hid hR0
      clear hR2
      by_cases hpm : p.size = M
      · have hR3 := hR4.trans (if_neg (fun q => q hpm))
        have hne : ((p.size : Int) != (M : Int)) = false := by simp; omega
        have c1 : w3.cell? ⟨t, 1, none⟩ = some (.string T2.data) := h3.blk.cell 1
        have f1 := h3.blk.free 1
        have hdb := hg2.data
        have hlim : ¬ 9223372036854775807 < T2.data.size + p.size := by omega
        obtain ⟨h9, k9⟩ := h3.add p
        have fin := Lib.hid (show RW X N m (w3.setCell ⟨t, 1, none⟩ (.string (T2.data ++ p))) k t f R ∧ KeepX X w (w3.setCell ⟨t, 1, none⟩ (.string (T2.data ++ p))) from ⟨⟨_, _, _, _, _, by rw [hR3]; exact h9⟩, k3.same k9⟩)
        replace hpm := Lib.hid hpm
        clear h9 k9 h3 k3 hR3 hR4 hdb
        go_wp2_with fail
        (try simp only [Exit.inBlock, Exit.then])
        refine bodyPost_ret (results_none rfl _ _ _) rfl ?_
        exact ⟨rfl, fin.out⟩
      · have hR3 := hR4.trans (if_pos hpm)
        have hne : ((p.size : Int) != (M : Int)) = true := by simp; omega
        replace hpm := Lib.hid hpm
        clear hR4
        have c5' : w3.cell? ⟨t, 5, none⟩ = some (.int .i64 T2.e) := h3.blk.cell 5
        have f5 := h3.blk.free 5
        obtain ⟨h9, k9⟩ := h3.err 110
        have fin := Lib.hid (show RW X N m (w3.setCell ⟨t, 5, none⟩ (.int .i64 110)) k t f R ∧ KeepX X w (w3.setCell ⟨t, 5, none⟩ (.int .i64 110)) from ⟨⟨_, _, _, _, _, by rw [hR3]; exact h9⟩, k3.same k9⟩)
        clear h9 k9 h3 k3 hR3
        go_wp2_with fail
        (try simp only [Exit.inBlock, Exit.then])
        refine bodyPost_ret (results_none rfl _ _ _) rfl ?_
        exact ⟨rfl, fin.out⟩
    · have hR3 := hR2.out.trans (if_pos he2)
      have hen : (er != 0) = true := by simpa using he2
      replace he2 := Lib.hid he2
      clear hR2
      have c5' : w3.cell? ⟨t, 5, none⟩ = some (.int .i64 T2.e) := h3.blk.cell 5
      have f5 := h3.blk.free 5
      obtain ⟨h9, k9⟩ := h3.err er
      have fin := Lib.hid (show RW X N m (w3.setCell ⟨t, 5, none⟩ (.int .i64 er)) k t f R ∧ KeepX X w (w3.setCell ⟨t, 5, none⟩ (.int .i64 er)) from ⟨⟨_, _, _, _, _, by rw [hR3]; exact h9⟩, k3.same k9⟩)
      clear h9 k9 h3 k3 hR3
      go_wp2_with fail
      (try simp only [Exit.inBlock, Exit.then])
      refine bodyPost_ret (results_none rfl _ _ _) rfl ?_
      exact ⟨rfl, fin.out⟩
end Go.Proofs.YtajlfmnjibgbaaaGreatDoor.Tr

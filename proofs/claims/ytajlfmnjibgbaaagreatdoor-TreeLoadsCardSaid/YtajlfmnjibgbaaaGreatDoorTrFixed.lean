/- The tree's fixed calls, plain. -/
import Derived.Test.YtajlfmnjibgbaaaGreatDoorTrPl
import Derived.KernelRfl
import Derived.Test.YtajlfmnjibgbaaaGreatDoorTrLw
import Derived.Test.YtajlfmnjibgbaaaGreatDoorSetWa
import Derived.Test.YtajlfmnjibgbaaaGreatDoorRowz
import Derived.Test.YtajlfmnjibgbaaaGreatDoorRdG
import Derived.BigRegion
namespace Go.Proofs.YtajlfmnjibgbaaaGreatDoor.Tr
open Go
def z480 : ByteArray := ⟨(List.replicate 480 0).toArray⟩
def z300 : ByteArray := ⟨(List.replicate 300 0).toArray⟩
/-- behind the first one: blocks 1, 2 and 3 -/
def fixR1 (f : Rd) : Rd := upd (upd (upd f 1 (piece z480 0)) 2 (piece z480 1)) 3 (enc4 (grp [1, 2] 0))
/-- behind the second one: blocks 4 and 5 -/
def fixR2 (f : Rd) : Rd := upd (upd (fixR1 f) 4 (piece z300 1)) 5 (enc4 (grp [1, 4] 0))
set_option maxRecDepth 100000 in
theorem z480_size : z480.size = 480 := List.size_toArray.trans List.length_replicate
set_option maxRecDepth 100000 in
theorem z300_size : z300.size = 300 := List.size_toArray.trans List.length_replicate
set_option maxRecDepth 100000 in
theorem lev480 : lev z480.size = [2, 1] := by rw [z480_size]; rfl
set_option maxRecDepth 100000 in
theorem lev300 : lev z300.size = [2, 1] := by rw [z300_size]; rfl
set_option maxRecDepth 100000 in
theorem fix1 (f : Rd) (q : List Nat) : storeW f (1 :: 2 :: 3 :: q) ⟨#[]⟩ [] z480 = (⟨fixR1 f, q, [3]⟩, true) := by kernel_rfl
set_option maxRecDepth 100000 in
theorem fix2 (f : Rd) (q : List Nat) : storeW (fixR1 f) (4 :: 5 :: q) z480 [[1, 2], [3]] z300 = (⟨fixR2 f, q, [5]⟩, true) := by kernel_rfl
set_option maxRecDepth 100000 in
theorem fix_tree1 (f : Rd) : TreeOk (fixR1 f) z480 [[1, 2], [3]] := by
  refine ⟨by rw [lev480]; rfl, fun i n hi => ?_, fun l i n hi => ?_, by decide, fun n hn => ?_⟩
  · rcases i with _ | _ | i
    · obtain rfl : 1 = n := by simpa using hi
      rfl
    · obtain rfl : 2 = n := by simpa using hi
      rfl
    · simp at hi
  · rcases l with _ | l
    · rcases i with _ | i
      · obtain rfl : 3 = n := by simpa using hi
        rfl
      · simp at hi
    · simp at hi
  · have : n ∈ [1, 2, 3] := hn
    simp at this
    omega
set_option maxRecDepth 100000 in
theorem fix_tree2 (f : Rd) : TreeOk (fixR2 f) z300 [[1, 4], [5]] := by
  refine ⟨by rw [lev300]; rfl, fun i n hi => ?_, fun l i n hi => ?_, by decide, fun n hn => ?_⟩
  · rcases i with _ | _ | i
    · obtain rfl : 1 = n := by simpa using hi
      show (piece z480 0, (0 : Int)) = (piece z300 0, 0)
      rw [show piece z480 0 = piece z300 0 by decide +kernel]
    · obtain rfl : 4 = n := by simpa using hi
      rfl
    · simp at hi
  · rcases l with _ | l
    · rcases i with _ | i
      · obtain rfl : 5 = n := by simpa using hi
        rfl
      · simp at hi
    · simp at hi
  · have : n ∈ [1, 4, 5] := hn
    simp at this
    omega
set_option maxRecDepth 100000 in
theorem fix_load (f : Rd) : loadV (fixR2 f) 5 300 = (z300, 0) := by
  have := load_ok (fix_tree2 f) (by rw [z300_size]; decide)
  rw [z300_size] at this
  exact this
set_option maxRecDepth 100000 in
theorem fix_reach (f : Rd) : reachV (fixR2 f) 5 300 = ([5, 1, 4], 0) := by kernel_rfl
set_option maxRecDepth 100000 in
theorem fix_bad (f : Rd) : loadV f 1 0 = (⟨#[]⟩, 110) := if_pos (by unfold blobOk; omega)
end Go.Proofs.YtajlfmnjibgbaaaGreatDoor.Tr
/- The tree's laws: fixed. -/
namespace Go.Proofs.YtajlfmnjibgbaaaGreatDoor.Tr
open Go Go.RowKit Go.Maps Mem Disk Nv Vl
set_option maxRecDepth 100000 in
theorem infoU8v : (Tryz.prog.info? 5).map (fun i => (i.zero, i.size, i.bytes)) = some (some (.int .u8 0), 1, 1) := by kernel_rfl
section
variable {w0 w w' : World} {Y : Nat → Prop} {m a g B j : Nat} {f : Rd}
set_option maxRecDepth 100000 in
/-- a blob is laid in a block of its own -/
theorem LV.box (h : LV w0 Y m w a g f B j) (x y : Int) {W : World} (hW : W = w.alloc (.cells #[.int .i64 x, .int .i64 y] 33)) :
    LV w0 (fun i => Y i ∨ i = w.heap.size) m W a g f B j ∧ Blk W w.heap.size 33 #[.int .i64 x, .int .i64 y] ∧ Below w.heap.size w W := by
  have hb : Below w.heap.size w W := by
    rw [hW]
    exact (Below.refl _ w).alloc (Nat.le_refl _) _
  have hB : Blk W w.heap.size 33 #[.int .i64 x, .int .i64 y] := by
    rw [hW]
    exact Blk.new w _ _
  exact ⟨h.also hb fun i hi => hi.imp id fun e => by subst e; exact ⟨Nat.le_refl _, hB.lt⟩, hB, hb⟩
set_option maxRecDepth 100000 in
/-- a block of the law's own turns -/
theorem LV.turn (h : LV w0 Y m w a g f B j) {K : Nat → Prop} (k : Keeps K w w') (hK : ∀ i, K i → Y i) (hb : ∀ i, K i → w0.heap.size ≤ i) : LV w0 Y m w' a g f B j := by
  obtain ⟨U', q1, q2⟩ := h.vp.p
  exact ⟨⟨h.vp.v.turn (k.mono fun i hi => Or.inr (Or.inl (hK i hi))), ⟨U', Blk.keeps q1 k (fun hk => h.yg (hK g hk)), q2⟩, h.vp.xg⟩, h.gb, h.yg, h.bl.trans (k.toBelow hb h.bl.size), h.jl⟩
set_option maxRecDepth 100000 in
/-- a blob is laid over another one -/
theorem LV.lay (h : LV w0 Y m w a g f B j) {y : Nat} {u v : Int} (hy : Blk w y 33 #[.int .i64 u, .int .i64 v]) (hY : Y y) (hb : w0.heap.size ≤ y) (p q : Int) {W : World} (hW : W = (w.setCell ⟨y, 0, none⟩ (.int .i64 p)).setCell ⟨y, 1, none⟩ (.int .i64 q)) :
    LV w0 Y m W a g f B j ∧ Blk W y 33 #[.int .i64 p, .int .i64 q] ∧ Keeps (fun i => i = y) w W := by
  have k : Keeps (fun i => i = y) w W := by
    rw [hW]
    exact ((Keeps.refl (fun i => i = y) w).put (g := y) (Or.inl rfl) 0 _).put (g := y) (Or.inl rfl) 1 _
  exact ⟨h.turn k (fun i e => e ▸ hY) (fun i e => e ▸ hb), by rw [hW]; exact (hy.put 0 _).put 1 _, k⟩
set_option maxRecDepth 100000 in
theorem new_blob (w : World) : (w.alloc (.cells #[.int .i64 0, .int .i64 0] 33)).cell? ⟨w.heap.size, 0, none⟩ = some (.int .i64 0) ∧ (w.alloc (.cells #[.int .i64 0, .int .i64 0] 33)).cell? ⟨w.heap.size, 1, none⟩ = some (.int .i64 0) ∧
    (w.alloc (.cells #[.int .i64 0, .int .i64 0] 33)).frozen? ⟨w.heap.size, 0, none⟩ = false ∧ (w.alloc (.cells #[.int .i64 0, .int .i64 0] 33)).frozen? ⟨w.heap.size, 1, none⟩ = false :=
  have h := Blk.new w 33 #[.int .i64 0, .int .i64 0]
  ⟨h.cell 0, h.cell 1, h.free 0, h.free 1⟩
set_option maxRecDepth 100000 in
theorem fix_free0 : freeL E0 20 0 = 1 :: 2 :: 3 :: freeL E0 20 3 := by decide +kernel
set_option maxRecDepth 100000 in
theorem fix_free3 : freeL E0 20 3 = 4 :: 5 :: freeL E0 20 5 := by decide +kernel
set_option maxRecDepth 100000 in
theorem fix_ord : (Alloc.ord E0 20 1).length = 19 := by decide +kernel
set_option maxRecDepth 100000 in
/-- a store whose outcome is known -/
theorem lv_known (h : LV w0 Y m w a g f B j) (hB : 8 ≤ B ∧ B ≤ 300) (hm : m ≤ 700000) {had data : ByteArray} {was : List (List Nat)} (hd : data.size ≤ 16384) (hh : had.size ≤ 16384) (ht : TreeOk f had was) {f' : Rd} {k j1 : Nat}
    (hr : storeW f (freeL E0 B j) had was data = (⟨f', freeL E0 B j1, [k]⟩, true)) (hj1 : j1 ≤ (Alloc.ord E0 B 1).length) :
    Calls Tryz.prog 13 #[srcV a, .agg #[.int .i64 (rootOf was : Nat), .int .i64 (had.size : Int)], .string data, .pointer (some ⟨g, 0, none⟩)] w fun e w' =>
      e = .returned (.tuple #[.agg #[.int .i64 (k : Int), .int .i64 (data.size : Int)], .int .i64 0]) ∧ LV w0 Y (m + 2000) w' a g f' B j1 ∧ Keeps (fun i => ¬ Y i) w w' := by
  have hl300 := Alloc.ord_length (U := E0) (B := B) (f := 1) ⟨Nat.le_refl _, by omega⟩
  have hfl := Alloc.free_le (Sets.hasB E0) B
  refine (store_any h.vp ⟨hB.1, by omega⟩ (by omega) (by omega) h.jl hd hh ht).mono ?_
  rw [hr]
  rintro e w' ⟨j', h1, h2, h3, h4, h5, rfl⟩
  have hjj : j' = j1 := by
    have := congrArg List.length (show freeL E0 B j1 = freeL E0 B j' from h3)
    unfold freeL at this
    rw [List.length_drop, List.length_drop] at this
    omega
  subst hjj
  have kY : Keeps (fun i => ¬ Y i) w w' := h5.mono fun i hi hy => hi.elim (fun q => q (Or.inr (Or.inl hy))) (fun q => h.yg (q ▸ hy))
  have kb : Below w0.heap.size w0 w' := h.bl.trans (h5.toBelow (fun i hi => hi.elim (fun q => Nat.le_of_not_lt fun hlt => q (Or.inl hlt)) (fun q => q ▸ h.gb)) h.bl.size)
  exact ⟨rfl, ⟨h4.more (by omega), h.gb, h.yg, kb, h2⟩, kY⟩
set_option maxRecDepth 100000 in
theorem fix_store1 (h : LV w0 Y m w a g f 20 0) (hm : m ≤ 700000) : Calls Tryz.prog 13 #[srcV a, .agg #[.int .i64 0, .int .i64 0], .string (zeroB_ 480), .pointer (some ⟨g, 0, none⟩)] w fun e w' =>
    e = .returned (.tuple #[.agg #[.int .i64 3, .int .i64 480], .int .i64 0]) ∧ LV w0 Y (m + 2000) w' a g (fixR1 f) 20 3 ∧ Keeps (fun i => ¬ Y i) w w' := by
  have k := lv_known (had := E0) (was := []) (data := z480) (k := 3) (j1 := 3) h (by decide) hm (by rw [z480_size]; decide) (Nat.zero_le _) (TreeOk.nil f) (by rw [fix_free0]; exact fix1 f _) (by rw [fix_ord]; decide)
  rw [z480_size] at k
  exact k
set_option maxRecDepth 100000 in
theorem fix_store2 (h : LV w0 Y m w a g (fixR1 f) 20 3) (hm : m ≤ 700000) : Calls Tryz.prog 13 #[srcV a, .agg #[.int .i64 3, .int .i64 480], .string (zeroB_ 300), .pointer (some ⟨g, 0, none⟩)] w fun e w' =>
    e = .returned (.tuple #[.agg #[.int .i64 5, .int .i64 300], .int .i64 0]) ∧ LV w0 Y (m + 2000) w' a g (fixR2 f) 20 5 ∧ Keeps (fun i => ¬ Y i) w w' := by
  have k := lv_known (had := z480) (was := [[1, 2], [3]]) (data := z300) (k := 5) (j1 := 5) h (by decide) hm (by rw [z300_size]; decide) (by rw [z480_size]; decide) (fix_tree1 f) (by rw [fix_free3]; exact fix2 f _) (by rw [fix_ord]; decide)
  rw [z480_size, z300_size] at k
  exact k
set_option maxRecDepth 100000 in
theorem fix_left3 (h : LV w0 Y m w a g f 20 3) : Calls Tryz.prog 14 #[.pointer (some ⟨g, 0, none⟩)] w fun e w' => e = .returned (.int .i64 16) ∧ w' = w := by
  have k := lv_left h
  rw [show (freeL E0 20 3).length = 16 by decide +kernel] at k
  exact k
set_option maxRecDepth 100000 in
theorem fix_left5 (h : LV w0 Y m w a g f 20 5) : Calls Tryz.prog 14 #[.pointer (some ⟨g, 0, none⟩)] w fun e w' => e = .returned (.int .i64 14) ∧ w' = w := by
  have k := lv_left h
  rw [show (freeL E0 20 5).length = 14 by decide +kernel] at k
  exact k
end
set_option maxRecDepth 100000 in
set_option maxHeartbeats 16000000 in
theorem treefix_any (w : World) : Calls Tryz.prog 12 #[] w fun e w' => e = .returned (.bool true) ∧ Below w.heap.size w w' := by
  obtain ⟨i0, hinf, hz0, hz1, hz2⟩ := info_parts infoU8v
  have k0 : Calls Tryz.prog 10 #[.int .i64 20] w _ := laid_both 20 (by decide) w
  replace k0 := Lib.hid k0
  go_enter Tryz.func12, Tryz.ntmps12
  go_wp2_with fail
  refine k0.out.mono ?_
  rintro e w1 ⟨a, b, k, c, rfl, h, hb⟩
  replace h := Lib.hid h
  replace hb := Lib.hid hb
  have kp : Calls Tryz.prog 11 #[.string ⟨#[]⟩, .int .i64 20, .int .i64 1] w1 _ := new_pool 20 (by decide) w1
  replace kp := Lib.hid kp
  clear k0
  go_wp2_with fail
  refine kp.out.mono ?_
  rintro e w2 ⟨g, rfl, hg, hp, b2⟩
  have l := Lib.hid (lv_laid (by decide) h.out hb.out hg hp b2)
  clear h hb kp hg hp b2
  go_wp2_with (first
    | (at_make; refine wpList_make_full _ rfl _ _ _ rfl 0 5 i0 (.int .u8 0) 1 Tryz.underlying36 hinf hz0 hz1 .i64 .i64 _ _ 480 rfl rfl rfl rfl (by rw [hz2]; omega) (by unfold maxLen; omega) (Nat.zero_le _) ?_; intro w3 ho2 hg2; have hcv := zero_row ho2; have b3 : Below w2.heap.size w2 w3 := ⟨hg2.os, hg2.tape, hg2.output, hg2.size, fun k hk => hg2.block k hk (by simp)⟩; have l3 := Lib.hid (l.out.below b3); clear ho2 hg2 b3 l))
  refine (fix_store1 l3.out (by decide)).mono ?_
  rintro e w4 ⟨rfl, l4, _⟩
  have hx := Lib.hid (LV.box l4 3 480 rfl)
  obtain ⟨q0, q1, f0, f1⟩ := new_blob w4
  clear l3 hcv
  go_upto_region 6 with fail
  clear q0 q1 f0 f1
  generalize hW : w4.alloc (.cells #[.int .i64 3, .int .i64 480] 33) = W at hx ⊢
  clear hW
  have hxb : w.heap.size ≤ w4.heap.size := l4.bl.size
  generalize w4.heap.size = x at hx hxb ⊢
  replace hxb := Lib.hid hxb
  have hl := Lib.hid (show LV w (fun i => i = x) 2003 W a g (fixR1 (rd0 20)) 20 3 from hx.out.1.sub fun i hi => Or.inr hi)
  have hxB := Lib.hid hx.out.2.1
  clear hx l4
  go_wp2_with fail
  refine (fix_left3 hl.out).mono ?_
  rintro e w' ⟨rfl, hw'⟩
  replace hw' := hw'.symm
  subst hw'
  go_upto_region 7 with fail
  go_cut [8, 9] (fun yv ev wx => ∃ y, yv = .pointer (some ⟨y, 0, none⟩) ∧ ev = .int .i64 0 ∧ LV w (fun i => i = x ∨ i = y) 4003 wx a g (fixR2 (rd0 20)) 20 5 ∧ Blk wx x 33 #[.int .i64 3, .int .i64 480] ∧ Blk wx y 33 #[.int .i64 5, .int .i64 300])
  case first =>
    have l0 := hl.out.below (Below.refl _ W).drew
    have x0 := hxB.out.below (Below.refl _ W).drew hxB.out.lt
    clear hl hxB
    refine Late.start (S := fun W' => W'.cell? ⟨x, 0, none⟩ = some (.int .i64 3) ∧ W'.cell? ⟨x, 1, none⟩ = some (.int .i64 480)) (T := fun _ => True) (late := []) (by kernel_rfl) ?_
    have hT : True := trivial
    generalize W.drew = V0 at l0 x0 ⊢
    have hS : V0.cell? ⟨x, 0, none⟩ = some (.int .i64 3) ∧ V0.cell? ⟨x, 1, none⟩ = some (.int .i64 480) := ⟨x0.cell 0, x0.cell 1⟩
    refine Late.take (i := 2) (oi := ?_) (v := ?_) ?_ (by kernel_rfl) (by kernel_rfl) (by kernel_rfl) (by kernel_rfl) ?_ ?_ (by assumption) (by assumption) ?_
    rotate_left 2
    focus (simp only [List.getElem?_toArray, List.getElem?_cons_succ, List.getElem?_cons_zero]; rfl)
    focus exact fun _ _ _ h => h
    focus (refine Or.inl ⟨by rfl, ?_⟩; intro w hSw; (try dsimp only at hSw); go_split_ands; go_simp; try with_reducible rfl)
    try simp only [Act.put, List.setIfInBounds_toArray, List.set_cons_zero, List.set_cons_succ]
    refine Late.take (i := 0) (oi := ?_) (v := ?_) ?_ (by kernel_rfl) (by kernel_rfl) (by kernel_rfl) (by kernel_rfl) ?_ ?_ (by assumption) (by assumption) ?_
    rotate_left 2
    focus (simp only [List.getElem?_toArray, List.getElem?_cons_zero]; rfl)
    focus exact fun _ _ _ h => h
    focus (refine Or.inl ⟨by kernel_rfl, ?_⟩; intro w hSw; clear hSw; go_simp; try with_reducible rfl)
    try simp only [Act.put, List.setIfInBounds_toArray, List.set_cons_zero, List.set_cons_succ]
    refine Late.take (i := 1) (oi := ?_) (v := ?_) ?_ (by kernel_rfl) (by kernel_rfl) (by kernel_rfl) (by kernel_rfl) ?_ ?_ (by assumption) (by assumption) ?_
    rotate_left 2
    focus (simp only [List.getElem?_toArray, List.getElem?_cons_succ, List.getElem?_cons_zero]; rfl)
    focus exact fun _ _ _ h => h
    focus (refine Or.inl ⟨by kernel_rfl, ?_⟩; intro w hSw; clear hSw; go_simp; try with_reducible rfl)
    try simp only [Act.put, List.setIfInBounds_toArray, List.set_cons_zero, List.set_cons_succ]
    refine Late.take (i := 5) (oi := ?_) (v := ?_) ?_ (by kernel_rfl) (by kernel_rfl) (by kernel_rfl) (by kernel_rfl) ?_ ?_ (by assumption) (by assumption) ?_
    rotate_left 2
    focus (simp only [List.getElem?_toArray, List.getElem?_cons_succ, List.getElem?_cons_zero]; rfl)
    focus exact fun _ _ _ h => h
    focus (refine Or.inl ⟨by kernel_rfl, ?_⟩; intro w hSw; clear hSw; go_simp; try with_reducible rfl)
    try simp only [Act.put, List.setIfInBounds_toArray, List.set_cons_zero, List.set_cons_succ]
    obtain ⟨W1, hmk, hom, hgm⟩ := run_make_full (P := Tryz.prog) (w := V0) 0 36 5 i0 (.int .u8 0) 1 Tryz.underlying36 hinf hz0 hz1 .i64 .i64 300 (by rw [hz2]; omega) (by unfold maxLen; omega) (Nat.zero_le _)
    replace hmk : (Instr.makeSlice 36 (.int .i64 300) (.int .i64 300)).run Tryz.prog V0 = .ok (.slice (some ⟨V0.heap.size, 0, none⟩) 300 300) W1 := hmk
    have hcv := zero_row hom
    have b1 : Below V0.heap.size V0 W1 := ⟨hgm.os, hgm.tape, hgm.output, hgm.size, fun k hk => hgm.block k hk (by simp)⟩
    have l1 := l0.below b1
    have x1 := x0.below b1 x0.lt
    have hS1 : W1.cell? ⟨x, 0, none⟩ = some (.int .i64 3) ∧ W1.cell? ⟨x, 1, none⟩ = some (.int .i64 480) := ⟨x1.cell 0, x1.cell 1⟩
    have bB : Below W1.heap.size W1 (W1.alloc (.cells #[.int .i64 0, .int .i64 0] 33)) := (Below.refl _ W1).alloc (Nat.le_refl _) _
    have hcvB := zero_row (own_keeps hom (Keeps.of_below (fun _ => False) bB) (fun _ _ h => h))
    obtain ⟨lB, yB, _⟩ := LV.box l1 0 0 rfl
    have xB := x1.below bB x1.lt
    have hSB : (W1.alloc (.cells #[.int .i64 0, .int .i64 0] 33)).cell? ⟨x, 0, none⟩ = some (.int .i64 3) ∧ (W1.alloc (.cells #[.int .i64 0, .int .i64 0] 33)).cell? ⟨x, 1, none⟩ = some (.int .i64 480) := ⟨xB.cell 0, xB.cell 1⟩
    have hxW : w.heap.size ≤ x := hxb.out
    have hyW : w.heap.size ≤ W1.heap.size := l1.bl.size
    have hyV : w.heap.size ≤ V0.heap.size := l0.bl.size
    have hxv : x ≠ V0.heap.size := Nat.ne_of_lt x0.lt
    have hxy : x ≠ W1.heap.size := Nat.ne_of_lt x1.lt
    have bA : Below V0.heap.size V0 (V0.alloc (.cells #[.int .i64 0, .int .i64 0] 33)) := (Below.refl _ V0).alloc (Nat.le_refl _) _
    obtain ⟨lA, yA, _⟩ := LV.box l0 0 0 rfl
    have xA := x0.below bA x0.lt
    have hSA : (V0.alloc (.cells #[.int .i64 0, .int .i64 0] 33)).cell? ⟨x, 0, none⟩ = some (.int .i64 3) ∧ (V0.alloc (.cells #[.int .i64 0, .int .i64 0] 33)).cell? ⟨x, 1, none⟩ = some (.int .i64 480) := ⟨xA.cell 0, xA.cell 1⟩
    obtain ⟨W2, hmkC, homC, hgmC⟩ := run_make_full (P := Tryz.prog) (w := V0.alloc (.cells #[.int .i64 0, .int .i64 0] 33)) 0 36 5 i0 (.int .u8 0) 1 Tryz.underlying36 hinf hz0 hz1 .i64 .i64 300 (by rw [hz2]; omega) (by unfold maxLen; omega) (Nat.zero_le _)
    have bC : Below (V0.alloc (.cells #[.int .i64 0, .int .i64 0] 33)).heap.size (V0.alloc (.cells #[.int .i64 0, .int .i64 0] 33)) W2 := ⟨hgmC.os, hgmC.tape, hgmC.output, hgmC.size, fun k hk => hgmC.block k hk (by simp)⟩
    have lC := lA.below bC
    have xC := xA.below bC xA.lt
    have yC := yA.below bC yA.lt
    have hSC : W2.cell? ⟨x, 0, none⟩ = some (.int .i64 3) ∧ W2.cell? ⟨x, 1, none⟩ = some (.int .i64 480) := ⟨xC.cell 0, xC.cell 1⟩
    rw [show (V0.alloc (.cells #[.int .i64 0, .int .i64 0] 33)).heap.size = V0.heap.size + 1 by simp] at hmkC homC
    replace hmkC : (Instr.makeSlice 36 (.int .i64 300) (.int .i64 300)).run Tryz.prog (V0.alloc (.cells #[.int .i64 0, .int .i64 0] 33)) = .ok (.slice (some ⟨V0.heap.size + 1, 0, none⟩) 300 300) W2 := hmkC
    have hcvC := zero_row homC
    replace lC := Lib.hid lC
    replace xC := Lib.hid xC
    replace yC := Lib.hid yC
    clear lA yA xA bA bC homC hgmC
    replace l0 := Lib.hid l0
    replace x0 := Lib.hid x0
    replace l1 := Lib.hid l1
    replace x1 := Lib.hid x1
    replace lB := Lib.hid lB
    replace xB := Lib.hid xB
    replace yB := Lib.hid yB
    clear hom hgm b1 bB
    refine Late.ready (rs := [3, 10]) (by kernel_rfl) (by simp) (Late.AllReady.cons (o := ?o1x3x10) ?e1x3x10 (fun K hK => ?m1x3x10) (Late.AllReady.cons (o := ?o2x3x10) ?e2x3x10 (fun K hK => ?m2x3x10) Late.AllReady.nil))
    case e1x3x10 => (simp only [List.getElem?_toArray, List.getElem?_cons_succ, List.getElem?_cons_zero]; rfl)
    case e2x3x10 => (simp only [List.getElem?_toArray, List.getElem?_cons_succ, List.getElem?_cons_zero]; rfl)
    case m1x3x10 =>
      rw [if_pos (by kernel_rfl)]
      go_simp
      refine hK.out _ _ hS1 (fun _ => trivial) ?_
      clear hK K
      try simp only [Act.put, List.setIfInBounds_toArray, List.set_cons_zero, List.set_cons_succ]
      have hS := hS1
      refine Late.ready (rs := [4, 10]) (by kernel_rfl) (by simp) (Late.AllReady.cons (o := ?o1x4x10) ?e1x4x10 (fun K hK => ?m1x4x10) (Late.AllReady.cons (o := ?o2x4x10) ?e2x4x10 (fun K hK => ?m2x4x10) Late.AllReady.nil))
      case e1x4x10 => (simp only [List.getElem?_toArray, List.getElem?_cons_succ, List.getElem?_cons_zero]; rfl)
      case e2x4x10 => (simp only [List.getElem?_toArray, List.getElem?_cons_succ, List.getElem?_cons_zero]; rfl)
      case m1x4x10 =>
        rw [if_pos (by kernel_rfl)]
        go_simp
        refine hK.out _ _ hS1 (fun _ => trivial) ?_
        clear hK K
        try simp only [Act.put, List.setIfInBounds_toArray, List.set_cons_zero, List.set_cons_succ]
        have hS := hS1
        refine Late.ready (rs := [6, 10]) (by kernel_rfl) (by simp) (Late.AllReady.cons (o := ?o1x6x10) ?e1x6x10 (fun K hK => ?m1x6x10) (Late.AllReady.cons (o := ?o2x6x10) ?e2x6x10 (fun K hK => ?m2x6x10) Late.AllReady.nil))
        case e1x6x10 => (simp only [List.getElem?_toArray, List.getElem?_cons_succ, List.getElem?_cons_zero]; rfl)
        case e2x6x10 => (simp only [List.getElem?_toArray, List.getElem?_cons_succ, List.getElem?_cons_zero]; rfl)
        case m1x6x10 =>
          rw [if_pos (by kernel_rfl)]
          go_simp
          refine (fix_store2 l1.out (by decide)).mono ?_
          rintro e w5 ⟨rfl, l5, k5⟩
          have x5 := x1.out.keeps k5 (fun hn => hn rfl)
          have hS5 : w5.cell? ⟨x, 0, none⟩ = some (.int .i64 3) ∧ w5.cell? ⟨x, 1, none⟩ = some (.int .i64 480) := ⟨x5.cell 0, x5.cell 1⟩
          obtain ⟨l6, y6, b6⟩ := LV.box l5 5 300 rfl
          have x6 := x5.below b6 x5.lt
          have x6' := x5.below (w' := w5.alloc (.cells #[.int .i64 0, .int .i64 0] 33)) ((Below.refl _ w5).alloc (Nat.le_refl _) _) x5.lt
          have hS6 : (w5.alloc (.cells #[.int .i64 0, .int .i64 0] 33)).cell? ⟨x, 0, none⟩ = some (.int .i64 3) ∧ (w5.alloc (.cells #[.int .i64 0, .int .i64 0] 33)).cell? ⟨x, 1, none⟩ = some (.int .i64 480) := ⟨x6'.cell 0, x6'.cell 1⟩
          have hS7 : (w5.alloc (.cells #[.int .i64 5, .int .i64 300] 33)).cell? ⟨x, 0, none⟩ = some (.int .i64 3) ∧ (w5.alloc (.cells #[.int .i64 5, .int .i64 300] 33)).cell? ⟨x, 1, none⟩ = some (.int .i64 480) := ⟨x6.cell 0, x6.cell 1⟩
          replace x6 := Lib.hid x6
          replace l6 := Lib.hid l6
          replace y6 := Lib.hid y6
          clear l5 k5 x5 x6' b6
          refine hK.out _ _ hS5 (fun _ => trivial) ?_
          clear hK K
          try simp only [Act.put, List.setIfInBounds_toArray, List.set_cons_zero, List.set_cons_succ]
          have hS := hS5
          refine Late.take (i := 7) (oi := ?_) (v := ?_) ?_ (by kernel_rfl) (by kernel_rfl) (by kernel_rfl) (by kernel_rfl) ?_ ?_ (by assumption) (by assumption) ?_
          rotate_left 2
          focus (simp only [List.getElem?_toArray, List.getElem?_cons_succ, List.getElem?_cons_zero]; rfl)
          focus exact fun _ _ _ h => h
          focus (refine Or.inl ⟨by kernel_rfl, ?_⟩; intro w hSw; clear hSw; go_simp; try with_reducible rfl)
          try simp only [Act.put, List.setIfInBounds_toArray, List.set_cons_zero, List.set_cons_succ]
          refine Late.take (i := 8) (oi := ?_) (v := ?_) ?_ (by kernel_rfl) (by kernel_rfl) (by kernel_rfl) (by kernel_rfl) ?_ ?_ (by assumption) (by assumption) ?_
          rotate_left 2
          focus (simp only [List.getElem?_toArray, List.getElem?_cons_succ, List.getElem?_cons_zero]; rfl)
          focus exact fun _ _ _ h => h
          focus (refine Or.inl ⟨by kernel_rfl, ?_⟩; intro w hSw; clear hSw; go_simp; try with_reducible rfl)
          try simp only [Act.put, List.setIfInBounds_toArray, List.set_cons_zero, List.set_cons_succ]
          refine Late.take (i := 9) (oi := ?_) (v := ?_) ?_ (by kernel_rfl) (by kernel_rfl) (by kernel_rfl) (by kernel_rfl) ?_ ?_ (by assumption) (by assumption) ?_
          rotate_left 2
          focus (simp only [List.getElem?_toArray, List.getElem?_cons_succ, List.getElem?_cons_zero]; rfl)
          focus exact fun _ _ _ h => h
          focus (refine Or.inl ⟨by kernel_rfl, ?_⟩; intro w hSw; clear hSw; go_simp; try with_reducible rfl)
          try simp only [Act.put, List.setIfInBounds_toArray, List.set_cons_zero, List.set_cons_succ]
          refine Late.only (i := 10) (o := ?_) (by kernel_rfl) ?_ (fun K hK => ?_)
          rotate_left 1
          focus (simp only [List.getElem?_toArray, List.getElem?_cons_succ, List.getElem?_cons_zero]; rfl)
          go_simp
          refine hK.out _ _ hS6 (fun _ => trivial) ?_
          clear hK K
          try simp only [Act.put, List.setIfInBounds_toArray, List.set_cons_zero, List.set_cons_succ]
          have hS := hS6
          refine Late.only (i := 11) (o := ?_) (by kernel_rfl) ?_ (fun K hK => ?_)
          rotate_left 1
          focus (simp only [List.getElem?_toArray, List.getElem?_cons_succ, List.getElem?_cons_zero]; rfl)
          go_simp
          refine hK.out _ _ hS7 (fun _ => trivial) ?_
          clear hK K
          try simp only [Act.put, List.setIfInBounds_toArray, List.set_cons_zero, List.set_cons_succ]
          have hS := hS7
          refine Late.take (i := 12) (oi := ?_) (v := ?_) ?_ (by kernel_rfl) (by kernel_rfl) (by kernel_rfl) (by kernel_rfl) ?_ ?_ (by assumption) (by assumption) ?_
          rotate_left 2
          focus (simp only [List.getElem?_toArray, List.getElem?_cons_succ, List.getElem?_cons_zero]; rfl)
          focus exact fun _ _ _ h => h
          focus (refine Or.inl ⟨by kernel_rfl, ?_⟩; intro w hSw; clear hSw; go_simp; try with_reducible rfl)
          try simp only [Act.put, List.setIfInBounds_toArray, List.set_cons_zero, List.set_cons_succ]
          refine Late.done (by kernel_rfl) ?_ _
          go_wp2_with fail
          go_meet
          exact ⟨_, rfl, rfl, l6.out, x6.out, y6.out⟩
        case m2x6x10 =>
          rw [if_pos (by kernel_rfl)]
          go_simp
          refine hK.out _ _ hSB (fun _ => trivial) ?_
          clear hK K
          try simp only [Act.put, List.setIfInBounds_toArray, List.set_cons_zero, List.set_cons_succ]
          have hS := hSB
          refine Late.only (i := 6) (o := ?_) (by kernel_rfl) ?_ (fun K hK => ?_)
          rotate_left 1
          focus (simp only [List.getElem?_toArray, List.getElem?_cons_succ, List.getElem?_cons_zero]; rfl)
          rw [if_pos (by kernel_rfl)]
          go_simp
          refine (fix_store2 lB.out (by decide)).mono ?_
          rintro e w5 ⟨rfl, l5, k5⟩
          have x5 := xB.out.keeps k5 (fun hn => hn (Or.inl rfl))
          have y5 := yB.out.keeps k5 (fun hn => hn (Or.inr rfl))
          have q0 : w5.cell? ⟨W1.heap.size, 0, none⟩ = some (.int .i64 0) := y5.cell 0
          have q1 : w5.cell? ⟨W1.heap.size, 1, none⟩ = some (.int .i64 0) := y5.cell 1
          have f0 := y5.free 0
          have f1 := y5.free 1
          have hS5 : w5.cell? ⟨x, 0, none⟩ = some (.int .i64 3) ∧ w5.cell? ⟨x, 1, none⟩ = some (.int .i64 480) := ⟨x5.cell 0, x5.cell 1⟩
          obtain ⟨l6, y6, k6⟩ := LV.lay l5 y5 (Or.inr rfl) hyW 5 300 rfl
          have x6 := x5.keeps k6 hxy
          have hS6 : ((w5.setCell ⟨W1.heap.size, 0, none⟩ (.int .i64 5)).setCell ⟨W1.heap.size, 1, none⟩ (.int .i64 300)).cell? ⟨x, 0, none⟩ = some (.int .i64 3) ∧ ((w5.setCell ⟨W1.heap.size, 0, none⟩ (.int .i64 5)).setCell ⟨W1.heap.size, 1, none⟩ (.int .i64 300)).cell? ⟨x, 1, none⟩ = some (.int .i64 480) := ⟨x6.cell 0, x6.cell 1⟩
          replace x6 := Lib.hid x6
          replace l6 := Lib.hid l6
          replace y6 := Lib.hid y6
          clear l5 k5 x5 y5 k6
          refine hK.out _ _ hS5 (fun _ => trivial) ?_
          clear hK K
          try simp only [Act.put, List.setIfInBounds_toArray, List.set_cons_zero, List.set_cons_succ]
          have hS := hS5
          refine Late.take (i := 7) (oi := ?_) (v := ?_) ?_ (by kernel_rfl) (by kernel_rfl) (by kernel_rfl) (by kernel_rfl) ?_ ?_ (by assumption) (by assumption) ?_
          rotate_left 2
          focus (simp only [List.getElem?_toArray, List.getElem?_cons_succ, List.getElem?_cons_zero]; rfl)
          focus exact fun _ _ _ h => h
          focus (refine Or.inl ⟨by kernel_rfl, ?_⟩; intro w hSw; clear hSw; go_simp; try with_reducible rfl)
          try simp only [Act.put, List.setIfInBounds_toArray, List.set_cons_zero, List.set_cons_succ]
          refine Late.take (i := 8) (oi := ?_) (v := ?_) ?_ (by kernel_rfl) (by kernel_rfl) (by kernel_rfl) (by kernel_rfl) ?_ ?_ (by assumption) (by assumption) ?_
          rotate_left 2
          focus (simp only [List.getElem?_toArray, List.getElem?_cons_succ, List.getElem?_cons_zero]; rfl)
          focus exact fun _ _ _ h => h
          focus (refine Or.inl ⟨by kernel_rfl, ?_⟩; intro w hSw; clear hSw; go_simp; try with_reducible rfl)
          try simp only [Act.put, List.setIfInBounds_toArray, List.set_cons_zero, List.set_cons_succ]
          refine Late.take (i := 9) (oi := ?_) (v := ?_) ?_ (by kernel_rfl) (by kernel_rfl) (by kernel_rfl) (by kernel_rfl) ?_ ?_ (by assumption) (by assumption) ?_
          rotate_left 2
          focus (simp only [List.getElem?_toArray, List.getElem?_cons_succ, List.getElem?_cons_zero]; rfl)
          focus exact fun _ _ _ h => h
          focus (refine Or.inl ⟨by kernel_rfl, ?_⟩; intro w hSw; clear hSw; go_simp; try with_reducible rfl)
          try simp only [Act.put, List.setIfInBounds_toArray, List.set_cons_zero, List.set_cons_succ]
          refine Late.only (i := 11) (o := ?_) (by kernel_rfl) ?_ (fun K hK => ?_)
          rotate_left 1
          focus (simp only [List.getElem?_toArray, List.getElem?_cons_succ, List.getElem?_cons_zero]; rfl)
          go_simp
          refine hK.out _ _ hS6 (fun _ => trivial) ?_
          clear hK K
          try simp only [Act.put, List.setIfInBounds_toArray, List.set_cons_zero, List.set_cons_succ]
          have hS := hS6
          refine Late.take (i := 12) (oi := ?_) (v := ?_) ?_ (by kernel_rfl) (by kernel_rfl) (by kernel_rfl) (by kernel_rfl) ?_ ?_ (by assumption) (by assumption) ?_
          rotate_left 2
          focus (simp only [List.getElem?_toArray, List.getElem?_cons_succ, List.getElem?_cons_zero]; rfl)
          focus exact fun _ _ _ h => h
          focus (refine Or.inl ⟨by kernel_rfl, ?_⟩; intro w hSw; clear hSw; go_simp; try with_reducible rfl)
          try simp only [Act.put, List.setIfInBounds_toArray, List.set_cons_zero, List.set_cons_succ]
          refine Late.done (by kernel_rfl) ?_ _
          go_wp2_with fail
          go_meet
          exact ⟨_, rfl, rfl, l6.out, x6.out, y6.out⟩
      case m2x4x10 =>
        rw [if_pos (by kernel_rfl)]
        go_simp
        refine hK.out _ _ hSB (fun _ => trivial) ?_
        clear hK K
        try simp only [Act.put, List.setIfInBounds_toArray, List.set_cons_zero, List.set_cons_succ]
        have hS := hSB
        refine Late.only (i := 4) (o := ?_) (by kernel_rfl) ?_ (fun K hK => ?_)
        rotate_left 1
        focus (simp only [List.getElem?_toArray, List.getElem?_cons_succ, List.getElem?_cons_zero]; rfl)
        go_simp
        refine hK.out _ _ hSB (fun _ => trivial) ?_
        clear hK K
        try simp only [Act.put, List.setIfInBounds_toArray, List.set_cons_zero, List.set_cons_succ]
        have hS := hSB
        refine Late.only (i := 6) (o := ?_) (by kernel_rfl) ?_ (fun K hK => ?_)
        rotate_left 1
        focus (simp only [List.getElem?_toArray, List.getElem?_cons_succ, List.getElem?_cons_zero]; rfl)
        rw [if_pos (by kernel_rfl)]
        go_simp
        refine (fix_store2 lB.out (by decide)).mono ?_
        rintro e w5 ⟨rfl, l5, k5⟩
        have x5 := xB.out.keeps k5 (fun hn => hn (Or.inl rfl))
        have y5 := yB.out.keeps k5 (fun hn => hn (Or.inr rfl))
        have q0 : w5.cell? ⟨W1.heap.size, 0, none⟩ = some (.int .i64 0) := y5.cell 0
        have q1 : w5.cell? ⟨W1.heap.size, 1, none⟩ = some (.int .i64 0) := y5.cell 1
        have f0 := y5.free 0
        have f1 := y5.free 1
        have hS5 : w5.cell? ⟨x, 0, none⟩ = some (.int .i64 3) ∧ w5.cell? ⟨x, 1, none⟩ = some (.int .i64 480) := ⟨x5.cell 0, x5.cell 1⟩
        obtain ⟨l6, y6, k6⟩ := LV.lay l5 y5 (Or.inr rfl) hyW 5 300 rfl
        have x6 := x5.keeps k6 hxy
        have hS6 : ((w5.setCell ⟨W1.heap.size, 0, none⟩ (.int .i64 5)).setCell ⟨W1.heap.size, 1, none⟩ (.int .i64 300)).cell? ⟨x, 0, none⟩ = some (.int .i64 3) ∧ ((w5.setCell ⟨W1.heap.size, 0, none⟩ (.int .i64 5)).setCell ⟨W1.heap.size, 1, none⟩ (.int .i64 300)).cell? ⟨x, 1, none⟩ = some (.int .i64 480) := ⟨x6.cell 0, x6.cell 1⟩
        replace x6 := Lib.hid x6
        replace l6 := Lib.hid l6
        replace y6 := Lib.hid y6
        clear l5 k5 x5 y5 k6
        refine hK.out _ _ hS5 (fun _ => trivial) ?_
        clear hK K
        try simp only [Act.put, List.setIfInBounds_toArray, List.set_cons_zero, List.set_cons_succ]
        have hS := hS5
        refine Late.take (i := 7) (oi := ?_) (v := ?_) ?_ (by kernel_rfl) (by kernel_rfl) (by kernel_rfl) (by kernel_rfl) ?_ ?_ (by assumption) (by assumption) ?_
        rotate_left 2
        focus (simp only [List.getElem?_toArray, List.getElem?_cons_succ, List.getElem?_cons_zero]; rfl)
        focus exact fun _ _ _ h => h
        focus (refine Or.inl ⟨by kernel_rfl, ?_⟩; intro w hSw; clear hSw; go_simp; try with_reducible rfl)
        try simp only [Act.put, List.setIfInBounds_toArray, List.set_cons_zero, List.set_cons_succ]
        refine Late.take (i := 8) (oi := ?_) (v := ?_) ?_ (by kernel_rfl) (by kernel_rfl) (by kernel_rfl) (by kernel_rfl) ?_ ?_ (by assumption) (by assumption) ?_
        rotate_left 2
        focus (simp only [List.getElem?_toArray, List.getElem?_cons_succ, List.getElem?_cons_zero]; rfl)
        focus exact fun _ _ _ h => h
        focus (refine Or.inl ⟨by kernel_rfl, ?_⟩; intro w hSw; clear hSw; go_simp; try with_reducible rfl)
        try simp only [Act.put, List.setIfInBounds_toArray, List.set_cons_zero, List.set_cons_succ]
        refine Late.take (i := 9) (oi := ?_) (v := ?_) ?_ (by kernel_rfl) (by kernel_rfl) (by kernel_rfl) (by kernel_rfl) ?_ ?_ (by assumption) (by assumption) ?_
        rotate_left 2
        focus (simp only [List.getElem?_toArray, List.getElem?_cons_succ, List.getElem?_cons_zero]; rfl)
        focus exact fun _ _ _ h => h
        focus (refine Or.inl ⟨by kernel_rfl, ?_⟩; intro w hSw; clear hSw; go_simp; try with_reducible rfl)
        try simp only [Act.put, List.setIfInBounds_toArray, List.set_cons_zero, List.set_cons_succ]
        refine Late.only (i := 11) (o := ?_) (by kernel_rfl) ?_ (fun K hK => ?_)
        rotate_left 1
        focus (simp only [List.getElem?_toArray, List.getElem?_cons_succ, List.getElem?_cons_zero]; rfl)
        go_simp
        refine hK.out _ _ hS6 (fun _ => trivial) ?_
        clear hK K
        try simp only [Act.put, List.setIfInBounds_toArray, List.set_cons_zero, List.set_cons_succ]
        have hS := hS6
        refine Late.take (i := 12) (oi := ?_) (v := ?_) ?_ (by kernel_rfl) (by kernel_rfl) (by kernel_rfl) (by kernel_rfl) ?_ ?_ (by assumption) (by assumption) ?_
        rotate_left 2
        focus (simp only [List.getElem?_toArray, List.getElem?_cons_succ, List.getElem?_cons_zero]; rfl)
        focus exact fun _ _ _ h => h
        focus (refine Or.inl ⟨by kernel_rfl, ?_⟩; intro w hSw; clear hSw; go_simp; try with_reducible rfl)
        try simp only [Act.put, List.setIfInBounds_toArray, List.set_cons_zero, List.set_cons_succ]
        refine Late.done (by kernel_rfl) ?_ _
        go_wp2_with fail
        go_meet
        exact ⟨_, rfl, rfl, l6.out, x6.out, y6.out⟩
    case m2x3x10 =>
      rw [if_pos (by kernel_rfl)]
      go_simp
      refine hK.out _ _ hSA (fun _ => trivial) ?_
      clear hK K
      try simp only [Act.put, List.setIfInBounds_toArray, List.set_cons_zero, List.set_cons_succ]
      have hS := hSA
      refine Late.only (i := 3) (o := ?_) (by kernel_rfl) ?_ (fun K hK => ?_)
      rotate_left 1
      focus (simp only [List.getElem?_toArray, List.getElem?_cons_succ, List.getElem?_cons_zero]; rfl)
      go_simp
      refine hK.out _ _ hSC (fun _ => trivial) ?_
      clear hK K
      try simp only [Act.put, List.setIfInBounds_toArray, List.set_cons_zero, List.set_cons_succ]
      have hS := hSC
      refine Late.only (i := 4) (o := ?_) (by kernel_rfl) ?_ (fun K hK => ?_)
      rotate_left 1
      focus (simp only [List.getElem?_toArray, List.getElem?_cons_succ, List.getElem?_cons_zero]; rfl)
      go_simp
      refine hK.out _ _ hSC (fun _ => trivial) ?_
      clear hK K
      try simp only [Act.put, List.setIfInBounds_toArray, List.set_cons_zero, List.set_cons_succ]
      have hS := hSC
      refine Late.only (i := 6) (o := ?_) (by kernel_rfl) ?_ (fun K hK => ?_)
      rotate_left 1
      focus (simp only [List.getElem?_toArray, List.getElem?_cons_succ, List.getElem?_cons_zero]; rfl)
      rw [if_pos (by kernel_rfl)]
      go_simp
      refine (fix_store2 lC.out (by decide)).mono ?_
      rintro e w5 ⟨rfl, l5, k5⟩
      have x5 := xC.out.keeps k5 (fun hn => hn (Or.inl rfl))
      have y5 := yC.out.keeps k5 (fun hn => hn (Or.inr rfl))
      have q0 : w5.cell? ⟨V0.heap.size, 0, none⟩ = some (.int .i64 0) := y5.cell 0
      have q1 : w5.cell? ⟨V0.heap.size, 1, none⟩ = some (.int .i64 0) := y5.cell 1
      have f0 := y5.free 0
      have f1 := y5.free 1
      have hS5 : w5.cell? ⟨x, 0, none⟩ = some (.int .i64 3) ∧ w5.cell? ⟨x, 1, none⟩ = some (.int .i64 480) := ⟨x5.cell 0, x5.cell 1⟩
      obtain ⟨l6, y6, k6⟩ := LV.lay l5 y5 (Or.inr rfl) hyV 5 300 rfl
      have x6 := x5.keeps k6 hxv
      have hS6 : ((w5.setCell ⟨V0.heap.size, 0, none⟩ (.int .i64 5)).setCell ⟨V0.heap.size, 1, none⟩ (.int .i64 300)).cell? ⟨x, 0, none⟩ = some (.int .i64 3) ∧ ((w5.setCell ⟨V0.heap.size, 0, none⟩ (.int .i64 5)).setCell ⟨V0.heap.size, 1, none⟩ (.int .i64 300)).cell? ⟨x, 1, none⟩ = some (.int .i64 480) := ⟨x6.cell 0, x6.cell 1⟩
      replace x6 := Lib.hid x6
      replace l6 := Lib.hid l6
      replace y6 := Lib.hid y6
      clear l5 k5 x5 y5 k6
      refine hK.out _ _ hS5 (fun _ => trivial) ?_
      clear hK K
      try simp only [Act.put, List.setIfInBounds_toArray, List.set_cons_zero, List.set_cons_succ]
      have hS := hS5
      refine Late.take (i := 7) (oi := ?_) (v := ?_) ?_ (by kernel_rfl) (by kernel_rfl) (by kernel_rfl) (by kernel_rfl) ?_ ?_ (by assumption) (by assumption) ?_
      rotate_left 2
      focus (simp only [List.getElem?_toArray, List.getElem?_cons_succ, List.getElem?_cons_zero]; rfl)
      focus exact fun _ _ _ h => h
      focus (refine Or.inl ⟨by kernel_rfl, ?_⟩; intro w hSw; clear hSw; go_simp; try with_reducible rfl)
      try simp only [Act.put, List.setIfInBounds_toArray, List.set_cons_zero, List.set_cons_succ]
      refine Late.take (i := 8) (oi := ?_) (v := ?_) ?_ (by kernel_rfl) (by kernel_rfl) (by kernel_rfl) (by kernel_rfl) ?_ ?_ (by assumption) (by assumption) ?_
      rotate_left 2
      focus (simp only [List.getElem?_toArray, List.getElem?_cons_succ, List.getElem?_cons_zero]; rfl)
      focus exact fun _ _ _ h => h
      focus (refine Or.inl ⟨by kernel_rfl, ?_⟩; intro w hSw; clear hSw; go_simp; try with_reducible rfl)
      try simp only [Act.put, List.setIfInBounds_toArray, List.set_cons_zero, List.set_cons_succ]
      refine Late.take (i := 9) (oi := ?_) (v := ?_) ?_ (by kernel_rfl) (by kernel_rfl) (by kernel_rfl) (by kernel_rfl) ?_ ?_ (by assumption) (by assumption) ?_
      rotate_left 2
      focus (simp only [List.getElem?_toArray, List.getElem?_cons_succ, List.getElem?_cons_zero]; rfl)
      focus exact fun _ _ _ h => h
      focus (refine Or.inl ⟨by kernel_rfl, ?_⟩; intro w hSw; clear hSw; go_simp; try with_reducible rfl)
      try simp only [Act.put, List.setIfInBounds_toArray, List.set_cons_zero, List.set_cons_succ]
      refine Late.only (i := 11) (o := ?_) (by kernel_rfl) ?_ (fun K hK => ?_)
      rotate_left 1
      focus (simp only [List.getElem?_toArray, List.getElem?_cons_succ, List.getElem?_cons_zero]; rfl)
      go_simp
      refine hK.out _ _ hS6 (fun _ => trivial) ?_
      clear hK K
      try simp only [Act.put, List.setIfInBounds_toArray, List.set_cons_zero, List.set_cons_succ]
      have hS := hS6
      refine Late.take (i := 12) (oi := ?_) (v := ?_) ?_ (by kernel_rfl) (by kernel_rfl) (by kernel_rfl) (by kernel_rfl) ?_ ?_ (by assumption) (by assumption) ?_
      rotate_left 2
      focus (simp only [List.getElem?_toArray, List.getElem?_cons_succ, List.getElem?_cons_zero]; rfl)
      focus exact fun _ _ _ h => h
      focus (refine Or.inl ⟨by kernel_rfl, ?_⟩; intro w hSw; clear hSw; go_simp; try with_reducible rfl)
      try simp only [Act.put, List.setIfInBounds_toArray, List.set_cons_zero, List.set_cons_succ]
      refine Late.done (by kernel_rfl) ?_ _
      go_wp2_with fail
      go_meet
      exact ⟨_, rfl, rfl, l6.out, x6.out, y6.out⟩
  case rest =>
    clear hl hxB
    obtain ⟨y, rfl, rfl, l7, x7, y7⟩ := hcut
    obtain ⟨Z, hZ⟩ : ∃ Z, Z = zeroB_ 300 := ⟨_, rfl⟩
    have kl := lv_load l7 5 300
    rw [fix_load, show z300 = Z from hZ.symm] at kl
    have c0 := y7.cell 0
    have c1 := y7.cell 1
    unfold srcV at kl
    replace kl := Lib.hid kl
    replace l7 := Lib.hid l7
    replace x7 := Lib.hid x7
    replace y7 := Lib.hid y7
    replace hZ := Lib.hid hZ
    go_wp2_with fail
    refine kl.out.mono ?_
    rintro e w8 ⟨rfl, l8, k8⟩
    have x8 := Lib.hid (x7.out.keeps k8 (fun hn => hn (Or.inl rfl)))
    have y8 := Lib.hid (y7.out.keeps k8 (fun hn => hn (Or.inr rfl)))
    clear kl c0 c1 k8 l7 x7 y7
    have c0 := y8.out.cell 0
    have c1 := y8.out.cell 1
    have kr := lv_reach l8 5 300
    rw [fix_reach] at kr
    unfold srcV at kr
    replace kr := Lib.hid kr
    clear l8
    go_wp2_with fail
    refine kr.out.mono ?_
    rintro e w9 ⟨v, rfl, l9, ho9, _, k9⟩
    obtain ⟨A, cc, rfl⟩ := own_slice ho9
    have x9 := Lib.hid (x8.out.keeps k9 (fun hn => hn (Or.inl rfl)))
    have y9 := Lib.hid (y8.out.keeps k9 (fun hn => hn (Or.inr rfl)))
    have kb := lv_load l9 1 0
    rw [fix_bad] at kb
    unfold srcV at kb
    replace kb := Lib.hid kb
    replace ho9 := Lib.hid ho9
    clear kr c0 c1 k9 l9 x8 y8
    go_wp2_with fail
    refine kb.out.mono ?_
    rintro e wA ⟨rfl, lA, kA⟩
    have xA := Lib.hid (x9.out.keeps kA (fun hn => hn (Or.inl (Or.inl rfl))))
    have yA := Lib.hid (y9.out.keeps kA (fun hn => hn (Or.inl (Or.inr rfl))))
    have hoA := Lib.hid (own_keeps ho9.out kA (fun j hj hn => hn (Or.inr hj)))
    have ksh : Calls Tryz.prog 17 #[.int .i64 14401] wA fun e w' => e = .returned (.tuple #[.int .i64 64, .int .i64 0]) ∧ Below wA.heap.size wA w' := shape_ok 14401 wA (by decide)
    replace ksh := Lib.hid ksh
    replace lA := Lib.hid lA
    clear kb kA x9 y9 ho9
    go_wp2_with fail
    refine ksh.out.mono ?_
    rintro e wB ⟨rfl, bB⟩
    have lB := Lib.hid (lA.out.below bB)
    have xB := Lib.hid (xA.out.below bB xA.out.lt)
    have yB := Lib.hid (yA.out.below bB yA.out.lt)
    have hoB := Lib.hid (own_keeps hoA.out (Keeps.of_below (fun _ => False) bB) (fun _ _ h => h))
    have ksb := Lib.hid (shape_bad (-1) wB (by decide))
    clear ksh bB lA xA yA hoA
    go_wp2_with fail
    refine ksb.out.mono ?_
    rintro e w' ⟨rfl, hw'⟩
    replace hw' := hw'.symm
    subst hw'
    have c0 := xB.out.cell 0
    have c1 := xB.out.cell 1
    have c2 := yB.out.cell 0
    have c3 := yB.out.cell 1
    have hbe : (Z.toList == Z.toList) = true := beq_self_eq_true _
    clear ksb
    go_wp2_with fail
    refine (fix_left5 lB.out).mono ?_
    rintro e w' ⟨rfl, hw'⟩
    replace hw' := hw'.symm
    subst hw'
    obtain ⟨wC, hmk, ho2, hg2⟩ := run_make_full (P := Tryz.prog) (w := wB) 0 36 5 i0 (.int .u8 0) 1 Tryz.underlying36 hinf hz0 hz1 .i64 .i64 300 (by rw [hz2]; omega) (by unfold maxLen; omega) (Nat.zero_le _)
    replace hmk : (Instr.makeSlice 36 (.int .i64 300) (.int .i64 300)).run Tryz.prog wB = .ok (.slice (some ⟨wB.heap.size, 0, none⟩) 300 300) wC := hmk
    have hcv := zero_row ho2
    rw [← hZ.out] at hcv
    have bC : Below wB.heap.size wB wC := ⟨hg2.os, hg2.tape, hg2.output, hg2.size, fun k hk => hg2.block k hk (by simp)⟩
    have lC := Lib.hid (lB.out.below bC)
    have hoC := Lib.hid (own_keeps hoB.out (Keeps.of_below (fun _ => False) bC) (fun _ _ h => h))
    clear ho2 hg2 bC lB hoB
    go_wp2_with fail
    have hy : Row (wC.alloc (.cells #[.int .i64 5, .int .i64 1, .int .i64 4] 3)) (some ⟨wC.heap.size, 0, none⟩) 3 ([5, 1, 4].map (Value.int .i64)) := Row.of_own (own_all wC 3 #[.int .i64 5, .int .i64 1, .int .i64 4] 3 1 (Nat.zero_le _) (by decide) rfl)
    have bD : Below wC.heap.size wC (wC.alloc (.cells #[.int .i64 5, .int .i64 1, .int .i64 4] 3)) := (Below.refl _ wC).alloc (Nat.le_refl _) _
    have hx : Row (wC.alloc (.cells #[.int .i64 5, .int .i64 1, .int .i64 4] 3)) A 3 ([5, 1, 4].map (Value.int .i64)) := Row.of_own (own_keeps hoC.out (Keeps.of_below (fun _ => False) bD) (fun _ _ h => h))
    have fin := Lib.hid (lC.out.bl.trans (bD.mono lC.out.bl.size))
    refine (Sets.same_any A (some ⟨wC.heap.size, 0, none⟩) 3 3 cc 3 [5, 1, 4] [5, 1, 4] _ hx hy (by decide)).mono ?_
    rintro e w' ⟨rfl, q, rfl⟩
    clear hx hy bD lC hoC
    go_wp2_with fail
    go_ret
    exact ⟨rfl, below_drewN fin.out q⟩
end Go.Proofs.YtajlfmnjibgbaaaGreatDoor.Tr

/- visit: a block of a level, and what is below it, is read. -/
import Derived.Test.YtajlfmnjibgbaaaGreatDoorTrWy
import Derived.Test.YtajlfmnjibgbaaaGreatDoorRowz
import Derived.BigQuiet
import Derived.Deep.DeepCutAuto
namespace Go.Proofs.YtajlfmnjibgbaaaGreatDoor.Tr
open Go Go.RowKit Go.Maps Mem Disk Nv Vl
set_option maxRecDepth 100000 in
theorem invRead (x n : Value) (w : World) : (invoke (.fn (.method "Read") #[]) #[.iface 23 x, n]).run Tryz.prog w = .ok (.enter 160 #[x, n]) w := by kernel_rfl
set_option maxRecDepth 100000 in
theorem infoRow : (Tryz.prog.info? 41).map (fun i => (i.zero, i.size, i.bytes)) = some (some (.slice none 0 0), 1, 24) := by kernel_rfl
section
variable {X : Nat → Prop} {N m : Nat} {w : World} {p a : Nat} {ch : Bool} {wk : Wk} {f : Rd}
/-- what a call of visit's comes to -/
def VisitPost (X : Nat → Prop) (N m : Nat) (w : World) (p a : Nat) (ch : Bool) (f : Rd) (r : Wk × Int) (e : Ending) (w' : World) : Prop := e = .returned (.int .i64 r.2) ∧ TW X N m w' p a ch r.1 f ∧ KeepX X w w'
set_option maxRecDepth 100000 in
theorem wk_enter (wk : Wk) (num : Int) {l : Nat} {L : List Int} (hL : wk.nums[l]? = some L) : wk.enter num l = { { wk with order := wk.order ++ [num] } with nums := wk.nums.set l (L ++ [num]) } := by
  unfold Wk.enter
  rw [List.getD_eq_getElem?_getD, hL]
  rfl
set_option maxRecDepth 100000 in
theorem alloc_keeps {w W : World} {F : Nat → Prop} {o : Obj} {row : Option Nat} (hg : (w.alloc o).grownBy W row) (hF : ∀ j, row = some j → F j) : Keeps F w W := ((Keeps.refl F w).alloc o).same (Keeps.of_grown hg hF)
set_option maxRecDepth 100000 in
set_option maxHeartbeats 32000000 in
theorem visit_any (f : Rd) (ch : Bool) : ∀ (l : Nat) (X : Nat → Prop) (N m : Nat) (w : World) (p a : Nat) (wk : Wk) (B : Nat), TW X N m w p a ch wk f → Good B wk → B + most l ≤ 100000 → l < wk.nums.length → wk.below.length = wk.nums.length → l ≤ 2 → ∀ num : Int,
    Calls Tryz.prog 62 #[.pointer (some ⟨p, 0, none⟩), .int .i64 num, .int .i64 (l : Int)] w (VisitPost X N m w p a ch f (visit f ch l wk num)) := by
  intro l
  refine Nat.strongRecOn l ?_
  intro l IH X N m w p a wk B h hg hB hln hlow hl2 num
  obtain ⟨i0, hinf, hz0, hz1, hz2⟩ := info_parts infoInt
  have inv := invRead
  obtain ⟨gn, cn, rs, ov, pv, bv, lv, h1, h2, h3⟩ := h
  have c3 : w.cell? ⟨p, 3, none⟩ = some ov := h1.blk.cell 3
  have hol := hg.order
  have hol2 : wk.order.length ≤ 100000 := by omega
  have oa := h1.ord
  have fa := h1.far h1.ord
  obtain ⟨n0, hn0⟩ : ∃ n, n = wk.order.length := ⟨_, rfl⟩
  obtain ⟨X0, hX0⟩ : ∃ X0, X0 = intV wk.order := ⟨_, rfl⟩
  rw [← hn0, ← hX0] at oa
  rw [← hn0] at hol2
  have hblk := Lib.hid h1.blk
  obtain ⟨R, hR⟩ : ∃ R, R = visit f ch l wk num := ⟨_, rfl⟩
  rw [← hR]
  replace hR := Lib.hid hR
  replace hn0 := Lib.hid hn0
  replace hX0 := Lib.hid hX0
  replace fa := Lib.hid fa
  replace h1 := Lib.hid h1
  replace h2 := Lib.hid h2
  replace h3 := Lib.hid h3
  replace IH := Lib.hid IH
  replace hg := Lib.hid hg
  replace hB := Lib.hid hB
  replace hln := Lib.hid hln
  replace hlow := Lib.hid hlow
  clear hol
  go_enter Tryz.func62, Tryz.ntmps62
  go_upto_region 2 with (at_builtin; refine wpList_append_own_at _ rfl (.tmp 20) (.tmp 22) _ rfl 0 3 i0 (.int .i64 0) 1 8 Tryz.underlying41 hinf hz0 hz1 hz2 rfl (by decide) ov n0 X0 rfl (oa.alloc _) ⟨w.heap.size, 0, none⟩ 1 1 [.int .i64 num] rfl rfl (cell_one_new _ _ _) (by simp [Value.oneCell']) (by unfold maxLen; omega) (by omega) (Nat.zero_le _) ?_; intro v1 w1 o1 g1 hn1 ha1; obtain ⟨A1, c1, rfl⟩ := own_slice o1; have k1 : Keeps (fun i => ov.ownBlock = some i) w w1 := alloc_keeps g1 (fun j e => e); have hb1 := hblk.out.keeps k1 (fun e => fa.out.1 p e rfl); have d3 : w1.cell? ⟨p, 3, none⟩ = some ov := hb1.cell 3; have f3 := hb1.free 3)
  have hstep : ∃ W2, W2 = w1.setCell ⟨p, 3, none⟩ (.slice A1 (n0 + 1) c1) ∧ TW X N m W2 p a ch { wk with order := wk.order ++ [num] } f ∧ KeepX X w W2 := by
    have o1' : w1.ownsRow 0 3 1 (.slice A1 (n0 + 1) c1) (wk.order.length + 1) (intV (wk.order ++ [num])) := by
      rw [intV_append, ← hX0.out, ← hn0.out]
      exact o1
    obtain ⟨q1, q2, q3⟩ := h1.out.reord k1 o1' (ha1.imp id fun e i hi => by
      rw [e] at hi
      injection hi with hi
      simp at hi
      omega)
    exact ⟨_, rfl, tw_step h2.out h3.out q1 q2 q3⟩
  obtain ⟨W2, hW2, tw2, kx2⟩ := hstep
  rw [← hW2]
  clear hW2 h1 h2 h3 k1 hb1 d3 f3 ha1 hn1 g1 o1 hblk fa hX0 hn0 oa c3
  obtain ⟨gn, cn, rs, ov, pv, bv, lv, h1, h2, h3⟩ := tw2
  have hlr : l < rs.length := by rw [h1.rlen]; exact hln.out
  obtain ⟨v, hl⟩ : ∃ v, rs[l]? = some v := ⟨_, List.getElem?_eq_getElem hlr⟩
  obtain ⟨L, hL, hv⟩ := h1.num hl
  have hLl : L.length ≤ 100000 := by
    have := hg.out.nums L (List.mem_of_getElem? hL)
    have := hB.out
    omega
  have fv := h1.far hv
  have hB0 : Blk W2.drew p 83 _ := h1.blk
  have hR0 : W2.drew.ownsRow 0 41 1 (.slice (some ⟨gn, 0, none⟩) rs.length cn) rs.length rs := h1.rows
  have hv0 : W2.drew.ownsRow 0 3 1 v L.length (intV L) := hv
  have hS : W2.drew.cell? ⟨p, 2, none⟩ = some (.slice (some ⟨gn, 0, none⟩) rs.length cn) := hB0.cell 2
  have rowc : ∀ W : World, W.ownsRow 0 41 1 (.slice (some ⟨gn, 0, none⟩) rs.length cn) rs.length rs → W.cell? ⟨gn, l, none⟩ = some v := fun W hr => by
    have := hr.cells (g := gn) rfl l v hl
    rwa [add_lit, Nat.zero_add] at this
  have hT : W2.drew.cell? ⟨gn, l, none⟩ = some v := rowc _ hR0
  obtain ⟨RN, hRN⟩ : ∃ RN, RN = rs.length := ⟨_, rfl⟩
  rw [← hRN] at hS hlr
  have z1 : (0 : Int) ≤ (l : Int) := by omega
  have z2 : (l : Int) < (RN : Int) := by omega
  obtain ⟨Y, hY⟩ : ∃ Y, Y = intV L := ⟨_, rfl⟩
  rw [← hY] at hv0
  replace hRN := Lib.hid hRN
  replace hY := Lib.hid hY
  replace h1 := Lib.hid h1
  replace h2 := Lib.hid h2
  replace h3 := Lib.hid h3
  replace hB0 := Lib.hid hB0
  replace hR0 := Lib.hid hR0
  replace rowc := Lib.hid rowc
  replace hL := Lib.hid hL
  replace hl := Lib.hid hl
  replace fv := Lib.hid fv
  replace kx2 := Lib.hid kx2
  clear hv
  refine Late.start (S := fun W => W.cell? ⟨p, 2, none⟩ = some (.slice (some ⟨gn, 0, none⟩) RN cn)) (T := fun W => W.cell? ⟨gn, l, none⟩ = some v) (late := [16]) (by kernel_rfl) ?_
  refine Late.take (i := 0) (oi := ?_) (v := ?_) ?_ (by kernel_rfl) (by kernel_rfl) (by kernel_rfl) (by kernel_rfl) ?_ ?_ (by assumption) (by assumption) ?_
  rotate_left 2
  focus (simp only [List.getElem?_toArray, List.getElem?_cons_zero]; rfl)
  focus exact fun _ _ _ h => h
  focus (refine Or.inl ⟨by kernel_rfl, ?_⟩; intro w hSw; clear hSw; go_simp; try with_reducible rfl)
  try simp only [Act.put, List.setIfInBounds_toArray, List.set_cons_zero, List.set_cons_succ]
  refine Late.take (i := 1) (oi := ?_) (v := ?_) ?_ (by kernel_rfl) (by kernel_rfl) (by kernel_rfl) (by kernel_rfl) ?_ ?_ (by assumption) (by assumption) ?_
  rotate_left 2
  focus (simp only [List.getElem?_toArray, List.getElem?_cons_succ, List.getElem?_cons_zero]; rfl)
  focus exact fun _ _ _ h => h
  focus (refine Or.inl ⟨by kernel_rfl, ?_⟩; intro w hSw; clear hSw; go_simp; try with_reducible rfl)
  try simp only [Act.put, List.setIfInBounds_toArray, List.set_cons_zero, List.set_cons_succ]
  refine Late.take (i := 2) (oi := ?_) (v := ?_) ?_ (by kernel_rfl) (by kernel_rfl) (by kernel_rfl) (by kernel_rfl) ?_ ?_ (by assumption) (by assumption) ?_
  rotate_left 2
  focus (simp only [List.getElem?_toArray, List.getElem?_cons_succ, List.getElem?_cons_zero]; rfl)
  focus exact fun _ _ _ h => h
  focus (refine Or.inl ⟨by kernel_rfl, ?_⟩; intro w hSw; clear hSw; go_simp; try with_reducible rfl)
  try simp only [Act.put, List.setIfInBounds_toArray, List.set_cons_zero, List.set_cons_succ]
  refine Late.take (i := 3) (oi := ?_) (v := ?_) ?_ (by kernel_rfl) (by kernel_rfl) (by kernel_rfl) (by kernel_rfl) ?_ ?_ (by assumption) (by assumption) ?_
  rotate_left 2
  focus (simp only [List.getElem?_toArray, List.getElem?_cons_succ, List.getElem?_cons_zero]; rfl)
  focus exact fun _ _ _ h => h
  focus (refine Or.inl ⟨by rfl, ?_⟩; intro w hSw; (try dsimp only at hSw); go_split_ands; go_simp; try with_reducible rfl)
  try simp only [Act.put, List.setIfInBounds_toArray, List.set_cons_zero, List.set_cons_succ]
  refine Late.take (i := 4) (oi := ?_) (v := ?_) ?_ (by kernel_rfl) (by kernel_rfl) (by kernel_rfl) (by kernel_rfl) ?_ ?_ (by assumption) (by assumption) ?_
  rotate_left 2
  focus (simp only [List.getElem?_toArray, List.getElem?_cons_succ, List.getElem?_cons_zero]; rfl)
  focus exact fun _ _ _ h => h
  focus (refine Or.inl ⟨by kernel_rfl, ?_⟩; intro w hSw; clear hSw; go_simp; try with_reducible rfl)
  try simp only [Act.put, List.setIfInBounds_toArray, List.set_cons_zero, List.set_cons_succ]
  refine Late.take (i := 5) (oi := ?_) (v := ?_) ?_ (by kernel_rfl) (by kernel_rfl) (by kernel_rfl) (by kernel_rfl) ?_ ?_ (by assumption) (by assumption) ?_
  rotate_left 2
  focus (simp only [List.getElem?_toArray, List.getElem?_cons_succ, List.getElem?_cons_zero]; rfl)
  focus exact fun _ _ _ h => h
  focus (refine Or.inl ⟨by kernel_rfl, ?_⟩; intro w hSw; clear hSw; go_simp; try with_reducible rfl)
  try simp only [Act.put, List.setIfInBounds_toArray, List.set_cons_zero, List.set_cons_succ]
  refine Late.take (i := 6) (oi := ?_) (v := ?_) ?_ (by kernel_rfl) (by kernel_rfl) (by kernel_rfl) (by kernel_rfl) ?_ ?_ (by assumption) (by assumption) ?_
  rotate_left 2
  focus (simp only [List.getElem?_toArray, List.getElem?_cons_succ, List.getElem?_cons_zero]; rfl)
  focus exact fun _ _ _ h => h
  focus (refine Or.inl ⟨by kernel_rfl, ?_⟩; intro w hSw; clear hSw; go_simp; try with_reducible rfl)
  try simp only [Act.put, List.setIfInBounds_toArray, List.set_cons_zero, List.set_cons_succ]
  refine Late.take (i := 7) (oi := ?_) (v := ?_) ?_ (by kernel_rfl) (by kernel_rfl) (by kernel_rfl) (by kernel_rfl) ?_ ?_ (by assumption) (by assumption) ?_
  rotate_left 2
  focus (simp only [List.getElem?_toArray, List.getElem?_cons_succ, List.getElem?_cons_zero]; rfl)
  focus exact fun _ _ _ h => h
  focus (refine Or.inl ⟨by kernel_rfl, ?_⟩; intro w hSw; clear hSw; go_simp; try with_reducible rfl)
  try simp only [Act.put, List.setIfInBounds_toArray, List.set_cons_zero, List.set_cons_succ]
  refine Late.take (i := 8) (oi := ?_) (v := ?_) ?_ (by kernel_rfl) (by kernel_rfl) (by kernel_rfl) (by kernel_rfl) ?_ ?_ (by assumption) (by assumption) ?_
  rotate_left 2
  focus (simp only [List.getElem?_toArray, List.getElem?_cons_succ, List.getElem?_cons_zero]; rfl)
  focus exact fun _ _ _ h => h
  focus (refine Or.inl ⟨by rfl, ?_⟩; intro w hSw; (try dsimp only at hSw); go_split_ands; go_simp; try with_reducible rfl)
  try simp only [Act.put, List.setIfInBounds_toArray, List.set_cons_zero, List.set_cons_succ]
  refine Late.take (i := 9) (oi := ?_) (v := ?_) ?_ (by kernel_rfl) (by kernel_rfl) (by kernel_rfl) (by kernel_rfl) ?_ ?_ (by assumption) (by assumption) ?_
  rotate_left 2
  focus (simp only [List.getElem?_toArray, List.getElem?_cons_succ, List.getElem?_cons_zero]; rfl)
  focus exact fun _ _ _ h => h
  focus (refine Or.inl ⟨by kernel_rfl, ?_⟩; intro w hSw; clear hSw; go_simp; try with_reducible rfl)
  try simp only [Act.put, List.setIfInBounds_toArray, List.set_cons_zero, List.set_cons_succ]
  refine Late.take (i := 10) (oi := ?_) (v := ?_) ?_ (by kernel_rfl) (by kernel_rfl) (by kernel_rfl) (by kernel_rfl) ?_ ?_ (by assumption) (by assumption) ?_
  rotate_left 2
  focus (simp only [List.getElem?_toArray, List.getElem?_cons_succ, List.getElem?_cons_zero]; rfl)
  focus exact fun _ _ _ h => h
  focus (refine Or.inl ⟨by kernel_rfl, ?_⟩; intro w hSw; clear hSw; go_simp; try with_reducible rfl)
  try simp only [Act.put, List.setIfInBounds_toArray, List.set_cons_zero, List.set_cons_succ]
  refine Late.takeT (i := 11) (oi := ?_) (v := ?_) ?_ (by kernel_rfl) (by kernel_rfl) (by kernel_rfl) (by kernel_rfl) (by kernel_rfl) (by kernel_rfl) ?_ ?_ (by assumption) (by assumption) ?_
  rotate_left 2
  focus (simp only [List.getElem?_toArray, List.getElem?_cons_succ, List.getElem?_cons_zero]; rfl)
  focus exact fun _ _ _ h => h
  focus (refine Or.inl ⟨by rfl, ?_⟩; intro w hSw; (try dsimp only at hSw); go_split_ands; go_simp; try with_reducible rfl)
  try simp only [Act.put, List.setIfInBounds_toArray, List.set_cons_zero, List.set_cons_succ]
  refine Late.take (i := 12) (oi := ?_) (v := ?_) ?_ (by kernel_rfl) (by kernel_rfl) (by kernel_rfl) (by kernel_rfl) ?_ ?_ (by assumption) (by assumption) ?_
  rotate_left 2
  focus (simp only [List.getElem?_toArray, List.getElem?_cons_succ, List.getElem?_cons_zero]; rfl)
  focus exact fun _ _ _ h => h
  focus (refine Or.inl ⟨by kernel_rfl, ?_⟩; intro w hSw; clear hSw; go_simp; try with_reducible rfl)
  try simp only [Act.put, List.setIfInBounds_toArray, List.set_cons_zero, List.set_cons_succ]
  refine Late.only (i := 13) (o := ?_) (by kernel_rfl) ?_ (fun K hK => ?_)
  rotate_left 1
  focus (simp only [List.getElem?_toArray, List.getElem?_cons_succ, List.getElem?_cons_zero]; rfl)
  go_simp
  have bd : Below W2.drew.heap.size W2.drew (W2.drew.alloc (.cells #[.int .i64 num] 3)) := (Below.refl _ _).alloc (Nat.le_refl _) _
  have hB1 : Blk (W2.drew.alloc (.cells #[.int .i64 num] 3)) p 83 _ := hB0.out.below bd hB0.out.lt
  have hR1 := own_keeps hR0.out (Keeps.of_below (fun _ => False) bd) (fun _ _ h => h)
  have hv1 := own_keeps hv0 (Keeps.of_below (fun _ => False) bd) (fun _ _ h => h)
  have hS1 : (W2.drew.alloc (.cells #[.int .i64 num] 3)).cell? ⟨p, 2, none⟩ = some (.slice (some ⟨gn, 0, none⟩) RN cn) := by have := hB1.cell 2; rw [hRN.out]; exact this
  have hT1 := rowc.out _ hR1
  have n1 : Row (W2.drew.alloc (.cells #[.int .i64 num] 3)) (some ⟨W2.drew.heap.size, 0, none⟩) 1 [.int .i64 num] := ⟨rfl, fun j u hj => by
    match j, hj with
    | 0, hj =>
      injection hj with hj
      subst hj
      exact ⟨_, rfl, (Blk.new W2.drew 3 #[.int .i64 num]).cell 0⟩
    | j + 1, hj => cases hj⟩
  refine hK.out _ _ hS1 (fun _ => hT1) ?_
  clear hK K
  try simp only [Act.put, List.setIfInBounds_toArray, List.set_cons_zero, List.set_cons_succ]
  refine Late.only (i := 14) (o := ?_) (by kernel_rfl) ?_ (fun K hK => ?_)
  rotate_left 1
  focus (simp only [List.getElem?_toArray, List.getElem?_cons_succ, List.getElem?_cons_zero]; rfl)
  rw [if_pos (by kernel_rfl)]
  refine wp_append_row (P := Tryz.prog) (w := W2.drew.alloc (.cells #[.int .i64 num] 3)) (.tmp 37) (.tmp 39) 41 rfl 0 3 i0 (.int .i64 0) 8 Tryz.underlying41 hinf hz0 hz1 hz2 rfl v L.length Y rfl hv1 (some ⟨W2.drew.heap.size, 0, none⟩) 1 1 [.int .i64 num] rfl n1 (by simp [Value.oneCell']) (by unfold maxLen; omega) (by omega) (Nat.zero_le _) ?_
  intro v2 V2 o2 g2 ha2
  obtain ⟨A2, c2, rfl⟩ := own_slice o2
  have k2 : Keeps (fun i => v.ownBlock = some i) W2.drew V2 := alloc_keeps g2 (fun j e => e)
  have hB2 := hB0.out.keeps k2 (fun e => fv.out.1 p e rfl)
  have hR2 := own_keeps hR0.out k2 (fun j e he => fv.out.2.1 j he (by injection e with e; exact e.symm))
  have hS2 : V2.cell? ⟨p, 2, none⟩ = some (.slice (some ⟨gn, 0, none⟩) RN cn) := by have := hB2.cell 2; rw [hRN.out]; exact this
  have hT2 := rowc.out _ hR2
  refine hK.out _ _ hS2 (fun _ => hT2) ?_
  clear hK K
  try simp only [Act.put, List.setIfInBounds_toArray, List.set_cons_zero, List.set_cons_succ]
  refine Late.take (i := 15) (oi := ?_) (v := ?_) ?_ (by kernel_rfl) (by kernel_rfl) (by kernel_rfl) (by kernel_rfl) ?_ ?_ (by assumption) (by assumption) ?_
  rotate_left 2
  focus (simp only [List.getElem?_toArray, List.getElem?_cons_succ, List.getElem?_cons_zero]; rfl)
  focus exact fun _ _ _ h => h
  focus (refine Or.inl ⟨by kernel_rfl, ?_⟩; intro w hSw; clear hSw; go_simp; try with_reducible rfl)
  try simp only [Act.put, List.setIfInBounds_toArray, List.set_cons_zero, List.set_cons_succ]
  have f2 : V2.frozen? ⟨gn, l, none⟩ = false := (own_put (i := l) (u := .int .i64 0) hR2).2
  refine Late.only (i := 16) (o := ?_) (by kernel_rfl) ?_ (fun K hK => ?_)
  rotate_left 1
  focus (simp only [List.getElem?_toArray, List.getElem?_cons_succ, List.getElem?_cons_zero]; rfl)
  go_simp
  have hpg : gn ≠ p := h1.out.pgn
  have hS3 : (V2.setCell ⟨gn, l, none⟩ (.slice A2 (L.length + 1) c2)).cell? ⟨p, 2, none⟩ = some (.slice (some ⟨gn, 0, none⟩) RN cn) := by
    rw [← hS2]
    exact World.cell?_of_block (Below.heap_setCell V2 ⟨gn, l, none⟩ _ p (fun e => hpg e.symm))
  refine hK.out _ _ hS3 (Late.gone (by kernel_rfl)) ?_
  clear hK K
  try simp only [Act.put, List.setIfInBounds_toArray, List.set_cons_zero, List.set_cons_succ]
  refine Late.done (by kernel_rfl) ?_ _
  have hstep : ∃ W3, W3 = V2.setCell ⟨gn, l, none⟩ (.slice A2 (L.length + 1) c2) ∧ TW X N m W3 p a ch (wk.enter num l) f ∧ KeepX X w W3 := by
    have k3 : Keeps (fun i => v.ownBlock = some i) W2 V2 := (Keeps.of_below _ ((Below.refl _ W2).drew)).same k2
    rw [hY.out] at o2
    have o3 : V2.ownsRow 0 3 1 (.slice A2 (L.length + 1) c2) (L.length + 1) (intV (L ++ [num])) := by
      rw [intV_append]
      exact o2
    obtain ⟨q1, q2, q3⟩ := h1.out.renum hl.out hL.out k3 o3 (ha2.imp id fun e i hi => by
      rw [e] at hi
      injection hi with hi
      have hi : W2.heap.size + 1 = i := by simpa using hi
      omega)
    rw [wk_enter wk num hL.out]
    obtain ⟨r1, r2⟩ := tw_step h2.out h3.out q1 q2 q3
    exact ⟨_, rfl, r1, kx2.out.same r2⟩
  obtain ⟨W3, hW3, tw3, kx3⟩ := hstep
  rw [← hW3]
  replace kx3 := Lib.hid kx3
  clear hW3 hS3 hpg f2 hT2 hS2 hR2 hB2 k2 ha2 g2 o2 n1 hT1 hS1 hv1 hR1 hB1 bd hS hT kx2 fv hl hL rowc hR0 hB0 h1 h2 h3 hY hRN hv0
  rcases Nat.eq_zero_or_pos l with hl0 | hl0
  · subst hl0
    have hR2 : R = chunkW f ch (wk.enter num 0) num := hR.out
    have hg3 := hg.out.enter num 0
    clear hR IH hg hB hln hlow hLl z1 z2 hlr
    generalize wk.enter num 0 = wk3 at tw3 hR2 hg3
    obtain ⟨gn3, cn3, rs3, ov3, pv3, bv3, lv3, h1, h2, h3⟩ := tw3
    have hd := hg3.data
    obtain ⟨lf, hlf⟩ : ∃ lf, lf = wk3.left := ⟨_, rfl⟩
    have c6 : W3.cell? ⟨p, 6, none⟩ = some (.int .i64 (lf : Int)) := by rw [hlf]; exact h1.blk.cell 6
    have f6 := h1.blk.free 6
    obtain ⟨n, hn⟩ : ∃ n, n = min lf 240 := ⟨_, rfl⟩
    have hlf2 : lf ≤ 16384 := by omega
    have hn1 : n ≤ lf := by omega
    have hn2 : n ≤ 240 := by omega
    obtain ⟨hst1, hst2⟩ := h1.releft (lf - n)
    have t4 := Lib.hid (tw_step h2 h3 hst1 hst2 (fun i hi => Or.inl hi))
    obtain ⟨x, hx⟩ : ∃ x, x = lf - n := ⟨_, rfl⟩
    rw [← hx] at t4
    have hx2 : (lf : Int) - (n : Int) = (x : Int) := by omega
    have hdat := Lib.hid hd
    have hn' := Lib.hid hn
    have hlf' := Lib.hid hlf
    have hx' := Lib.hid hx
    replace hR2 := Lib.hid hR2
    clear hlf hd hn hx h1 h2 h3 hst1 hst2 hg3
    go_upto_region 4 with fail
    go_cut [7] (fun nv wx => nv = .int .i64 (n : Int) ∧ wx = W3)
    case first =>
      go_wp2_with fail
      all_goals (go_meet; have := hn'.out; exact ⟨by congr 1; omega, rfl⟩)
    case rest =>
      obtain ⟨rfl, hwc⟩ := hcut
      replace hwc := hwc.symm
      subst hwc
      go_upto_region 6 with fail
      obtain ⟨W4, hW4⟩ : ∃ W4, W4 = W3.setCell ⟨p, 6, none⟩ (.int .i64 (x : Int)) := ⟨_, rfl⟩
      rw [← hW4]
      have t4 := t4.out
      rw [← hW4] at t4
      obtain ⟨t4, k4⟩ := t4
      have kx4 := Lib.hid (kx3.out.same k4)
      have hxe : x = wk3.left - min wk3.left 240 := by rw [hx'.out, hn'.out, hlf'.out]
      have hne : n = min wk3.left 240 := by rw [hn'.out, hlf'.out]
      have hR3 : R = if ch = false then ({ wk3 with left := x }, 0) else gotW { wk3 with left := x } n (f num) := by rw [hR2.out, hxe, hne]; rfl
      have hds : ({ wk3 with left := x } : Wk).data.size + 240 ≤ 140737488355328 := by have := hdat.out; show wk3.data.size + 240 ≤ _; omega
      clear hW4 k4 hxe hne hR2 c6 f6 hx2 hx' hlf' hdat hlf2 hn1
      generalize ({ wk3 with left := x } : Wk) = wk4 at t4 hR3 hds
      have t4c := t4
      obtain ⟨gn4, cn4, rs4, ov4, pv4, bv4, lv4, q1, _, _⟩ := t4c
      have c0 : W4.cell? ⟨p, 0, none⟩ = some (.iface 23 (.pointer (some ⟨a, 0, none⟩))) := q1.blk.cell 0
      have c1 : W4.cell? ⟨p, 1, none⟩ = some (.bool ch) := q1.blk.cell 1
      clear q1
      cases ch with
      | false =>
        have hR4 : R = (wk4, 0) := hR3
        replace t4 := Lib.hid t4
        clear hR3
        replace hR4 := Lib.hid hR4
        go_wp2_with fail
        go_ret
        rw [hR4.out]
        exact ⟨rfl, t4.out, kx4.out⟩
      | true =>
        have hR4 : R = gotW wk4 n (f num) := hR3
        have kr := tw_read t4 num
        clear hR3 t4
        generalize f num = r at hR4 kr
        obtain ⟨s, er⟩ := r
        replace kr := Lib.hid kr
        replace hR4 := Lib.hid hR4
        go_wp2_with fail
        refine kr.out.mono ?_
        rintro e W5 ⟨rfl, t5, k5⟩
        have kx5 := Lib.hid (kx4.out.same k5)
        clear k5 kr c0 c1 kx4
        by_cases he : er = 0
        · subst he
          by_cases hs : s.size = n
          · have hR5 := Lib.hid (show R = ({ wk4 with data := wk4.data ++ s }, 0) by rw [hR4.out]; unfold gotW; rw [if_neg (by simp), if_neg (by simpa using hs)])
            have kw := Lib.hid (tw_write (s := s) t5 (by omega))
            have hsn : (s.size : Int) = (n : Int) := by omega
            clear t5 hR4
            replace hs := Lib.hid hs
            go_wp2_with fail
            refine kw.out.mono ?_
            rintro e W6 ⟨rfl, t6, k6⟩
            have kx6 := Lib.hid (kx5.out.same k6)
            replace t6 := Lib.hid t6
            clear k6 kw
            go_wp2_with fail
            go_ret
            rw [hR5.out]
            exact ⟨rfl, t6.out, kx6.out⟩
          · have hR5 := Lib.hid (show R = (wk4, 110) by rw [hR4.out]; unfold gotW; rw [if_neg (by simp), if_pos (by simpa using hs)])
            have hsn : ((s.size : Int) == (n : Int)) = false := by simp; omega
            replace t5 := Lib.hid t5
            clear hR4
            go_wp2_with fail
            go_ret
            rw [hR5.out]
            exact ⟨rfl, t5.out, kx5.out⟩
        · have hR5 := Lib.hid (show R = (wk4, er) by rw [hR4.out]; unfold gotW; rw [if_pos (by simpa using he)])
          have hen : (er != 0) = true := by simpa using he
          replace t5 := Lib.hid t5
          clear hR4 he
          go_wp2_with fail
          go_ret
          rw [hR5.out]
          exact ⟨rfl, t5.out, kx5.out⟩
  · obtain ⟨l1, hll⟩ : ∃ l1, l = l1 + 1 := ⟨l - 1, by omega⟩
    have hR2 : R = nodeW (visit f ch l1) l1 (wk.enter num l) (f num) := by rw [hR.out, hll]; rfl
    have hg3 := hg.out.enter num l
    have hln3 : l1 < (wk.enter num l).nums.length := by
      show l1 < (wk.nums.set _ _).length
      rw [List.length_set]
      have := hln.out
      omega
    have hlow3 : (wk.enter num l).below.length = (wk.enter num l).nums.length := by
      show wk.below.length = (wk.nums.set _ _).length
      rw [List.length_set]
      exact hlow.out
    have hB3 : (B + 1) + 60 * most l1 ≤ 100000 := by
      have := hB.out
      rw [hll, show most (l1 + 1) = 1 + 60 * most l1 from rfl] at this
      omega
    have IH1 := IH.out l1 (by omega)
    clear hR IH hg hB hln hlow hLl z1 z2 hlr
    generalize wk.enter num l = wk3 at tw3 hR2 hg3 hln3 hlow3
    have hlz : ((l : Int) == 0) = false := by simp; omega
    have hl1 : (l : Int) - 1 = (l1 : Int) := by omega
    have hl12 : l1 ≤ 1 := by omega
    have t3c := tw3
    obtain ⟨gn3, cn3, rs3, ov3, pv3, bv3, lv3, q1, _, _⟩ := t3c
    have c0 : W3.cell? ⟨p, 0, none⟩ = some (.iface 23 (.pointer (some ⟨a, 0, none⟩))) := q1.blk.cell 0
    clear q1
    have kr := tw_read tw3 num
    clear tw3
    generalize f num = r at hR2 kr
    obtain ⟨s, er⟩ := r
    replace kr := Lib.hid kr
    replace hR2 := Lib.hid hR2
    replace IH1 := Lib.hid IH1
    replace hB3 := Lib.hid hB3
    replace hg3 := Lib.hid hg3
    replace hln3 := Lib.hid hln3
    replace hlow3 := Lib.hid hlow3
    replace hll := Lib.hid hll
    go_upto_region 16 with (refine kr.out.mono ?_; rintro e W4 ⟨rfl, t4, k4⟩)
    have kx4 := Lib.hid (kx3.out.same k4)
    clear k4 kr c0 kx3
    by_cases he : er = 0
    · subst he
      have t4c := t4
      obtain ⟨gn4, cn4, rs4, ov4, pv4, bv4, lv4, h1, h2, h3⟩ := t4c
      have hlb : l1 < wk3.below.length := by rw [hlow3.out]; exact hln3.out
      obtain ⟨gl, cl, hlv, _, _⟩ := h1.low.form (by omega)
      subst hlv
      obtain ⟨b, hb⟩ : ∃ b, wk3.below[l1]? = some b := ⟨_, List.getElem?_eq_getElem hlb⟩
      have hbg : wk3.below.getD l1 0 = b := by rw [List.getD_eq_getElem?_getD, hb]; rfl
      have hb16 : b ≤ 16384 := hg3.out.below b (List.mem_of_getElem? hb)
      have c7 : W4.cell? ⟨p, 7, none⟩ = some (.slice (some ⟨gl, 0, none⟩) wk3.below.length cl) := h1.blk.cell 7
      have cb : W4.cell? ⟨gl, l1, none⟩ = some (.int .i64 (b : Int)) := by
        have := h1.low.cells (g := gl) rfl l1 (.int .i64 (b : Int)) (by unfold natsV; rw [List.getElem?_map, hb]; rfl)
        rwa [add_lit, Nat.zero_add] at this
      have fb : W4.frozen? ⟨gl, l1, none⟩ = false := (own_put (i := l1) (u := .int .i64 0) h1.low).2
      obtain ⟨n, hn⟩ : ∃ n, n = min b 60 := ⟨_, rfl⟩
      have hn1 : n ≤ b := by omega
      have hn2 : n ≤ 60 := by omega
      obtain ⟨y, hy⟩ : ∃ y, y = b - n := ⟨_, rfl⟩
      have hyi : (b : Int) - (n : Int) = (y : Int) := by omega
      obtain ⟨hst1, hst2⟩ := h1.relow (l := l1) y
      have t5 := Lib.hid (tw_step h2 h3 hst1 hst2 (fun i hi => Or.inl hi))
      have hR3 : R = if s.size ≠ 4 * n then (wk3, 110) else visits (visit f ch l1) (ptrs s) { wk3 with below := wk3.below.set l1 y } := by
        rw [hR2.out]
        unfold nodeW
        rw [if_neg (by simp), hbg, ← hn, ← hy]
      have hg4 := Lib.hid (hg3.out.set l1 y (by omega))
      obtain ⟨M, hM⟩ : ∃ M, M = wk3.below.length := ⟨_, rfl⟩
      rw [← hM] at c7 hlb
      have z1 : (0 : Int) ≤ (l1 : Int) := by omega
      have z2 : (l1 : Int) < (M : Int) := by omega
      replace hM := Lib.hid hM
      replace hR3 := Lib.hid hR3
      replace hn := Lib.hid hn
      replace hy := Lib.hid hy
      replace t4 := Lib.hid t4
      clear h1 h2 h3 hst1 hst2 hb hbg hR2 hlb
      go_upto_region 18 with fail
      go_cut [12] (fun nv wx => nv = .int .i64 (n : Int) ∧ wx = W4)
      case first =>
        go_wp2_with fail
        all_goals (go_meet; have := hn.out; exact ⟨by congr 1; omega, rfl⟩)
      case rest =>
        obtain ⟨rfl, hwc⟩ := hcut
        replace hwc := hwc.symm
        subst hwc
        by_cases hs : s.size = 4 * n
        · have hR5 : R = visits (visit f ch l1) (ptrs s) { wk3 with below := wk3.below.set l1 y } := by rw [hR3.out, if_neg (fun h => h hs)]
          have hsn : (s.size : Int) = 4 * (n : Int) := by omega
          have kp := Lib.hid (fun W => pointers_any s n W hs (by omega))
          have hPl := ptrs_length hs
          obtain ⟨W5, hW5⟩ : ∃ W5, W5 = W4.setCell ⟨gl, l1, none⟩ (.int .i64 (y : Int)) := ⟨_, rfl⟩
          have t5 := t5.out
          rw [← hW5] at t5
          obtain ⟨t5, k5⟩ := t5
          have kx5 := Lib.hid (kx4.out.same k5)
          have hln4 : l1 < ({ wk3 with below := wk3.below.set l1 y } : Wk).nums.length := hln3.out
          have hlow4 : ({ wk3 with below := wk3.below.set l1 y } : Wk).below.length = ({ wk3 with below := wk3.below.set l1 y } : Wk).nums.length := by
            show (wk3.below.set l1 y).length = _
            rw [List.length_set]
            exact hlow3.out
          have hg5 := hg4.out
          generalize ({ wk3 with below := wk3.below.set l1 y } : Wk) = wk5 at t5 hR5 hln4 hlow4 hg5
          generalize ptrs s = P at hR5 hPl kp
          replace hR5 := Lib.hid hR5
          replace t5 := Lib.hid t5
          replace hPl := Lib.hid hPl
          replace hln4 := Lib.hid hln4
          replace hlow4 := Lib.hid hlow4
          replace hg5 := Lib.hid hg5
          replace hs := Lib.hid hs
          clear hR3 hg4 t4 kx4 k5
          go_upto_region 22 with fail
          rw [← hW5]
          clear hW5 c7 cb fb hyi
          go_wp2_with fail
          refine (kp.out _).mono ?_
          rintro e W6 ⟨v, rfl, o6, b6⟩
          obtain ⟨A6, c6, rfl⟩ := own_slice o6
          have o6' : W6.ownsRow 0 3 1 (.slice A6 n c6) n (intV P) := own_base o6 (Nat.zero_le _)
          have t6 : TW (fun i => X i ∨ (Value.slice A6 n c6).ownBlock = some i) N m W6 p a ch wk5 f := t5.out.also b6 (fun i hi => hi.imp id fun e => o6.lt i e)
          have kx6 : KeepX X w W6 := kx5.out.same (Keeps.of_below _ b6)
          clear o6 b6 kp t5 kx5
          replace t6 := Lib.hid t6
          replace kx6 := Lib.hid kx6
          replace o6' := Lib.hid o6'
          go_wp2_with fail
          go_loopw [123] (fun iv wr => ∃ (j C : Nat) (wkj : Wk), j ≤ n ∧ iv = .int .i64 (j : Int) ∧ TW (fun i => X i ∨ (Value.slice A6 n c6).ownBlock = some i) N m wr p a ch wkj f ∧ Good C wkj ∧ C = B + 1 + j * most l1 ∧ l1 < wkj.nums.length ∧ wkj.below.length = wkj.nums.length ∧ visits (visit f ch l1) (P.drop j) wkj = R ∧ KeepX X w wr ∧ wr.ownsRow 0 3 1 (.slice A6 n c6) n (intV P)) (fun iv _ => n - (intOf iv).toNat)
          case atStart => exact ⟨0, B + 1, wk5, Nat.zero_le _, rfl, t6.out, hg5.out, by rw [Nat.zero_mul, Nat.add_zero], hln4.out, hlow4.out, by rw [List.drop_zero]; exact hR5.out.symm, kx6.out, o6'.out⟩
          case round =>
            clear t6 kx6 o6' hR5 hg5 hln4 hlow4
            obtain ⟨j, C, wkj, hj, rfl, tj, gj, hC, lj, bj, hvj, kj, oj⟩ := hrel
            by_cases hlt : j < n
            · obtain ⟨ad, u, rfl, hu, hcell⟩ := (Row.of_own oj).at_ hlt
              unfold intV at hu
              rw [List.getElem?_map] at hu
              cases hx : P[j]? with
              | none => rw [hx] at hu; cases hu
              | some x =>
                rw [hx] at hu
                injection hu with hu
                subst hu
                have hdr : P.drop j = x :: P.drop (j + 1) := by
                  obtain ⟨e1, e2⟩ := List.getElem?_eq_some_iff.1 hx
                  rw [List.drop_eq_getElem_cons e1, e2]
                have hjm : j * most l1 + most l1 ≤ 60 * most l1 := by
                  have := Nat.mul_le_mul_right (most l1) (show j + 1 ≤ 60 by omega)
                  rw [Nat.add_mul, Nat.one_mul] at this
                  exact this
                have kc := Lib.hid (IH1.out _ N m _ p a wkj C (tj.below ((Below.refl _ wr))) gj (by have := hB3.out; omega) lj bj (by omega) x)
                have hgn := Lib.hid (visit_good f ch l1 C wkj x gj)
                have hlnn := Lib.hid ((visit_lens f ch l1 wkj x lj).symm ▸ lj)
                have hlon := Lib.hid (show (visit f ch l1 wkj x).1.below.length = (visit f ch l1 wkj x).1.nums.length by rw [visit_low, visit_lens f ch l1 wkj x lj]; exact bj)
                rw [hdr] at hvj
                unfold visits at hvj
                have z3 : (0 : Int) ≤ (j : Int) := by omega
                have z4 : (j : Int) < (n : Int) := by omega
                generalize hVV : visit f ch l1 wkj x = V at hvj kc hgn hlnn hlon
                obtain ⟨wkn, ev⟩ := V
                replace hVV := Lib.hid hVV
                replace hvj := Lib.hid hvj
                replace kj := Lib.hid kj
                replace oj := Lib.hid oj
                replace hC := Lib.hid hC
                replace hjm := Lib.hid hjm
                clear tj gj lj bj hx hdr
                go_wp2_with fail
                refine kc.out.mono ?_
                rintro e W7 ⟨rfl, t7, k7⟩
                have kx7 : KeepX X w W7 := kj.out.same (k7.mono fun i hi hx => hi (Or.inl hx))
                have o7 := own_keeps oj.out k7 (fun i e hn => hn (Or.inr e))
                by_cases hev : ev = 0
                · subst hev
                  have hv2 : visits (visit f ch l1) (P.drop (j + 1)) wkn = R := by
                    have := hvj.out
                    rwa [if_neg (by simp)] at this
                  replace hv2 := Lib.hid hv2
                  replace t7 := Lib.hid t7
                  replace kx7 := Lib.hid kx7
                  replace o7 := Lib.hid o7
                  clear k7 kc hvj
                  go_wp2_with fail
                  exact ⟨⟨j + 1, C + most l1, wkn, by omega, rfl, t7.out, hgn.out, by rw [hC.out, Nat.add_mul]; omega, hlnn.out, hlon.out, hv2.out, kx7.out, o7.out⟩, by simp [intOf]; omega⟩
                · have hv2 : (wkn, ev) = R := by
                    have := hvj.out
                    rwa [if_pos (by simpa using hev)] at this
                  have hen : (ev != 0) = true := by simpa using hev
                  replace hv2 := Lib.hid hv2
                  replace t7 := Lib.hid (t7.sub (Y := X) fun i hi => Or.inl hi)
                  replace kx7 := Lib.hid kx7
                  clear k7 kc hvj hev o7
                  go_wp2_with fail
                  go_ret
                  rw [← hv2.out]
                  exact ⟨rfl, t7.out, kx7.out⟩
            · obtain rfl : j = n := by omega
              have hv2 : (wkj, 0) = R := by
                rw [List.drop_of_length_le (by rw [hPl.out]; exact Nat.le_refl _)] at hvj
                exact hvj
              have q : decide (j < j) = false := decide_eq_false (by omega)
              replace hv2 := Lib.hid hv2
              replace tj := Lib.hid (tj.sub (Y := X) fun i hi => Or.inl hi)
              replace kj := Lib.hid kj
              clear gj hC lj bj hvj oj
              go_wp2_with fail
              go_ret
              rw [← hv2.out]
              exact ⟨rfl, tj.out, kj.out⟩
        · have hR5 := Lib.hid (show R = (wk3, 110) by rw [hR3.out, if_pos hs])
          have hsn : ((s.size : Int) == 4 * (n : Int)) = false := by simp; omega
          clear hR3 t5
          go_wp2_with fail
          go_ret
          rw [hR5.out]
          exact ⟨rfl, t4.out, kx4.out⟩
    · have hR5 := Lib.hid (show R = (wk3, er) by rw [hR2.out]; unfold nodeW; rw [if_pos (by simpa using he)])
      have hen : (er != 0) = true := by simpa using he
      replace t4 := Lib.hid t4
      clear hR2 he
      go_wp2_with fail
      go_ret
      rw [hR5.out]
      exact ⟨rfl, t4.out, kx4.out⟩
end
end Go.Proofs.YtajlfmnjibgbaaaGreatDoor.Tr

/- The document's Read, Load, Reach. -/
import Derived.Test.YtajlfmnjibgbaaaGreatDoorTrDocD
import Derived.Test.YtajlfmnjibgbaaaGreatDoorTrTr
import Derived.Deep.QuietTactic
import Derived.BigQuiet
namespace Go.Proofs.YtajlfmnjibgbaaaGreatDoor.Tr
open Go Go.RowKit Go.Maps Mem Disk Nv Vl
/-- the document's volume at a law; X: blocks that stay -/
def DV (X : Nat → Prop) (N m : Nat) (w : World) (k : Nat) (f : Rd) : Prop := ∃ G, IsD G N m w k f ∧ (∀ i, G i → ¬ X i) ∧ ∀ i, X i → i < w.heap.size
section
variable {X Y G : Nat → Prop} {N m : Nat} {w w' : World} {k t : Nat} {f : Rd} {T : Tx}
set_option maxRecDepth 100000 in
theorem DV.also (h : DV X N m w k f) (hb : Below w.heap.size w w') (hY : ∀ i, Y i → X i ∨ (w.heap.size ≤ i ∧ i < w'.heap.size)) : DV Y N m w' k f := by
  obtain ⟨G, h1, h2, h3⟩ := h
  refine ⟨G, h1.below hb, fun i hg hy => ?_, fun i hy => ?_⟩
  · rcases hY i hy with q | q
    · exact h2 i hg q
    · have := h1.lt i hg
      omega
  · rcases hY i hy with q | q
    · exact Nat.lt_of_lt_of_le (h3 i q) hb.size
    · exact q.2
set_option maxRecDepth 100000 in
theorem DV.below (h : DV X N m w k f) (hb : Below w.heap.size w w') : DV X N m w' k f := h.also hb fun _ hi => Or.inl hi
set_option maxRecDepth 100000 in
theorem DV.sub (h : DV X N m w k f) (hY : ∀ i, Y i → X i) : DV Y N m w k f := by
  obtain ⟨G, h1, h2, h3⟩ := h
  exact ⟨G, h1, fun i hg hy => h2 i hg (hY i hy), fun i hy => h3 i (hY i hy)⟩
set_option maxRecDepth 100000 in
theorem DV.turn (h : DV X N m w k f) (hk : Keeps X w w') : DV X N m w' k f := by
  obtain ⟨G, h1, h2, h3⟩ := h
  exact ⟨G, h1.keeps hk h2, h2, fun i hi => Nat.lt_of_lt_of_le (h3 i hi) hk.size⟩
set_option maxRecDepth 100000 in
theorem RW.sub (h : RW X N m w k t f T) (hY : ∀ i, Y i → X i) : RW Y N m w k t f T := by
  obtain ⟨G, ov, v0, v1, v2, h⟩ := h
  exact ⟨G, ov, v0, v1, v2, h.vol, h.blk, h.ord, h.r0, h.r1, h.r2, fun i hg hy => h.gX i hg (hY i hy), fun hy => h.tX (hY t hy), h.tG, fun i e => ⟨fun hy => (h.oF i e).1 (hY i hy), (h.oF i e).2⟩, fun v hv i e => ⟨fun hy => (h.vF v hv i e).1 (hY i hy), (h.vF v hv i e).2⟩, fun i hy => h.xlt i (hY i hy)⟩
set_option maxRecDepth 100000 in
theorem RW.dv (h : RW X N m w k t f T) : DV X N m w k f := by
  obtain ⟨G, ov, v0, v1, v2, h⟩ := h
  exact ⟨G, h.vol, h.gX, h.xlt⟩
set_option maxRecDepth 100000 in
/-- a tree that was just made -/
theorem RW.new (h : DV X N m w k f) {W : World} (hW : W = w.alloc (.cells #[.slice none 0 0, .string ⟨#[]⟩, .slice none 0 0, .slice none 0 0, .slice none 0 0, .int .i64 0] 105)) : RW X N m W k w.heap.size f tx0 := by
  obtain ⟨G, h1, h2, h3⟩ := h
  have hb : Below w.heap.size w W := by rw [hW]; exact (Below.refl _ w).alloc (Nat.le_refl _) _
  refine ⟨G, .slice none 0 0, .slice none 0 0, .slice none 0 0, .slice none 0 0, h1.below hb, by rw [hW]; exact Blk.new w _ _, World.ownsRow_nil _ _ _ _, World.ownsRow_nil _ _ _ _, World.ownsRow_nil _ _ _ _, World.ownsRow_nil _ _ _ _, h2, fun hx => by have := h3 _ hx; omega, fun hg => by have := h1.lt _ hg; omega, fun i e => (by cases e), fun v hv i e => ?_, fun i hi => Nat.lt_of_lt_of_le (h3 i hi) hb.size⟩
  rcases hv with rfl | rfl | rfl <;> cases e
set_option maxRecDepth 100000 in
/-- a read of any level at the root -/
theorem read_top (hw : RW X N m w k t f tx0) (hm : m ≤ 900000) {n : Nat} (h0 : 0 < n) (hn : n ≤ 16384) (ch : Bool) (root : Int) {q : Nat} (hq : q = (lev n).length - 1) :
    Calls Tryz.prog 80 #[.pointer (some ⟨t, 0, none⟩), .pointer (some ⟨k, 0, none⟩), .int .i64 root, .int .i64 (q : Int), .int .i64 0, .int .i64 (n : Int), .bool ch] w fun e w' =>
      e = .returned (.tuple #[]) ∧ RW X N m w' k t f (readR f n ch q 0 tx0 root) ∧ KeepX X w w' := by
  have hl := lev_len n
  have hp : 0 < (lev n).length := by rw [lev_pos h0]; split <;> (try split) <;> decide
  have hat : 0 < (lev n).getD q 0 := by
    have hql : q < (lev n).length := by omega
    have := (lev_mem hn (List.getElem?_eq_getElem hql)).1
    rw [List.getD_eq_getElem?_getD, List.getElem?_eq_getElem hql]
    exact this
  have hqq : q = 0 ∨ q = 1 ∨ q = 2 := by omega
  clear hq hp hl
  rcases hqq with rfl | rfl | rfl
  · exact read0_any hw hm TGood.zero (by decide) hn ch root hat
  · exact read1_any hw hm TGood.zero (by decide) hn ch root hat
  · exact read2_any hw hm TGood.zero (by decide) hn ch root hat
end
set_option maxRecDepth 100000 in
set_option maxHeartbeats 16000000 in
theorem rread_any {X : Nat → Prop} {N m : Nat} {w : World} {k : Nat} {f : Rd} (h : DV X N m w k f) (hm : m ≤ 900000) (ch : Bool) (root size : Int) :
    Calls Tryz.prog 50 #[.pointer (some ⟨k, 0, none⟩), .agg #[.int .i64 root, .int .i64 size], .bool ch] w fun e w' => ∃ t, e = .returned (.pointer (some ⟨t, 0, none⟩)) ∧ RW X N m w' k t f (readT f ch root size) ∧ KeepX X w w' := by
  obtain ⟨V, P, hV, hP, hB, b0⟩ := boxed w root size
  have hV1 := h.also (Y := fun i => X i ∨ i = P) b0 fun i hi => hi.imp id fun e => by subst e; exact ⟨by omega, hB.lt⟩
  have hr0 := RW.new hV1 rfl
  obtain ⟨W, hW⟩ : ∃ W, W = V.alloc (.cells #[.slice none 0 0, .string ⟨#[]⟩, .slice none 0 0, .slice none 0 0, .slice none 0 0, .int .i64 0] 105) := ⟨_, rfl⟩
  obtain ⟨t, ht⟩ : ∃ t, t = V.heap.size := ⟨_, rfl⟩
  rw [← hW, ← ht] at hr0
  have b1 : Below V.heap.size V W := by rw [hW]; exact (Below.refl _ V).alloc (Nat.le_refl _) _
  have hBW := hB.below b1 hB.lt
  have c0 : W.cell? ⟨P, 0, none⟩ = some (.int .i64 root) := hBW.cell 0
  have c1 : W.cell? ⟨P, 1, none⟩ = some (.int .i64 size) := hBW.cell 1
  have kb := Lib.hid (Keeps.of_below (fun i => ¬ X i) (b0.trans (b1.mono b0.size)))
  obtain ⟨R, hR⟩ : ∃ R, R = readT f ch root size := ⟨_, rfl⟩
  rw [← hR]
  replace hr0 := Lib.hid hr0
  replace hBW := Lib.hid hBW
  clear hV1 h hB b0 b1
  by_cases hok : blobOk root size
  · obtain ⟨n, rfl⟩ := Int.eq_ofNat_of_zero_le hok.1
    have hn : n ≤ 16384 := by have := hok.2.1; omega
    have d0 : decide ((n : Int) < 0) = false := decide_eq_false (by omega)
    have d1 : decide (16384 < (n : Int)) = false := decide_eq_false (by omega)
    have hiff := hok.2.2
    rcases Nat.eq_zero_or_pos n with h0 | h0
    · as_aux_lemma =>
        have hr0' : root = 0 := hiff.2 (by omega)
        have hR2 : R = tx0 := by rw [hR]; exact readT_zero hok (by omega)
        have r0 : (root == 0) = true := beq_iff_eq.2 hr0'
        have n0 : ((n : Int) == 0) = true := beq_iff_eq.2 (by omega)
        have d2 : decide (0 < (n : Int)) = false := decide_eq_false (by omega)
        have hnp : ¬ 0 < n := by omega
        have fin := Lib.hid (show RW X N m W k t f R ∧ KeepX X w W from ⟨RW.sub (X := fun i => X i ∨ i = P) (by rw [hR2]; exact hr0.out) (fun i hi => Or.inl hi), kb.out⟩)
        clear hR hR2 hok hiff hr0 kb hBW hr0' h0
        go_enter Tryz.func50, Tryz.ntmps50
        go_upto_region 1 with fail
        rw [← hV, ← hP]
        replace hV := Lib.hid hV
        replace hP := Lib.hid hP
        go_upto_region 2 with fail
        rw [← hW, ← ht]
        clear hW ht hV hP
        go_wp2_with fail
        go_ret
        exact ⟨t, rfl, fin.out⟩
    · as_aux_lemma =>
        have hR2 : R = readR f n ch ((lev n).length - 1) 0 tx0 root := by rw [hR]; exact readT_pos hok h0
        have hrn : ¬ root = 0 := fun e => by have := hiff.1 e; omega
        have r0 : (root == 0) = false := beq_eq_false_iff_ne.2 hrn
        have n0 : ((n : Int) == 0) = false := beq_eq_false_iff_ne.2 (by omega)
        have d2 : 0 < (n : Int) := by omega
        have krw := fun W => rows_any n W hn
        obtain ⟨LN, hLN⟩ : ∃ LN, LN = (lev n).length := ⟨_, rfl⟩
        have hLN3 : LN ≤ 3 := by rw [hLN]; exact lev_len _
        have hLN1 : 1 ≤ LN := by rw [hLN, lev_pos h0]; split <;> (try split) <;> decide
        rw [← hLN] at krw hR2
        obtain ⟨q, hq⟩ : ∃ q, q = LN - 1 := ⟨_, rfl⟩
        rw [← hq] at hR2
        have eq1 : (LN : Int) - 1 = (q : Int) := by omega
        have eq1w : IntKind.i64.wrap (q : Int) = (q : Int) := IntWalk.i64_in _ (by omega)
        have kt := fun W' (hw : RW (fun i => X i ∨ i = P) N m W' k t f tx0) => read_top hw hm h0 hn ch root (q := q) (by rw [hq, hLN])
        rw [← hR2] at kt
        replace krw := Lib.hid krw
        replace kt := Lib.hid kt
        replace hLN := Lib.hid hLN
        replace hq := Lib.hid hq
        clear hR hR2 hok hiff
        go_enter Tryz.func50, Tryz.ntmps50
        go_upto_region 1 with fail
        rw [← hV, ← hP]
        replace hV := Lib.hid hV
        replace hP := Lib.hid hP
        go_upto_region 2 with fail
        rw [← hW, ← ht]
        clear hW ht hV hP
        go_upto_region 6 with fail
        go_cut [46] (fun _ wx => RW X N m wx k t f R ∧ KeepX X w wx)
        case first =>
          have r1 := hr0.out.below (Below.refl _ W).drew
          have x1 := hBW.out.below (Below.refl _ W).drew hBW.out.lt
          have k1 := kb.out.same (Keeps.of_below (fun i => ¬ X i) (Below.refl _ W).drew)
          clear hr0 hBW kb c0 c1
          refine Late.start (S := fun W' => W'.cell? ⟨P, 0, none⟩ = some (.int .i64 root) ∧ W'.cell? ⟨P, 1, none⟩ = some (.int .i64 (n : Int))) (T := fun _ => True) (late := []) (by kernel_rfl) ?_
          have hT : True := trivial
          generalize W.drew = V0 at r1 x1 k1 ⊢
          have hS : V0.cell? ⟨P, 0, none⟩ = some (.int .i64 root) ∧ V0.cell? ⟨P, 1, none⟩ = some (.int .i64 (n : Int)) := ⟨x1.cell 0, x1.cell 1⟩
          replace r1 := Lib.hid r1
          replace x1 := Lib.hid x1
          replace k1 := Lib.hid k1
          refine Late.take (i := 0) (oi := ?_) (v := ?_) ?_ (by kernel_rfl) (by kernel_rfl) (by kernel_rfl) (by kernel_rfl) ?_ ?_ (by assumption) (by assumption) ?_
          rotate_left 2
          focus (simp only [List.getElem?_toArray, List.getElem?_cons_zero]; rfl)
          focus exact fun _ _ _ h => h
          focus (refine Or.inl ⟨by kernel_rfl, ?_⟩; intro w hSw; clear hSw; go_simp; try with_reducible rfl)
          try simp only [Act.put, List.setIfInBounds_toArray, List.set_cons_zero, List.set_cons_succ]
          refine Late.take (i := 1) (oi := ?_) (v := ?_) ?_ (by kernel_rfl) (by kernel_rfl) (by kernel_rfl) (by kernel_rfl) ?_ ?_ (by assumption) (by assumption) ?_
          rotate_left 2
          focus (simp only [List.getElem?_toArray, List.getElem?_cons_succ, List.getElem?_cons_zero]; rfl)
          focus exact fun _ _ _ h => h
          focus (refine Or.inl ⟨by kernel_rfl, ?_⟩; intro w hSw; clear hSw; go_simp; try with_reducible rfl)
          try simp only [Act.put, List.setIfInBounds_toArray, List.set_cons_zero, List.set_cons_succ]
          refine Late.take (i := 2) (oi := ?_) (v := ?_) ?_ (by kernel_rfl) (by kernel_rfl) (by kernel_rfl) (by kernel_rfl) ?_ ?_ (by assumption) (by assumption) ?_
          rotate_left 2
          focus (simp only [List.getElem?_toArray, List.getElem?_cons_succ, List.getElem?_cons_zero]; rfl)
          focus exact fun _ _ _ h => h
          focus (refine Or.inl ⟨by kernel_rfl, ?_⟩; intro w hSw; clear hSw; go_simp; try with_reducible rfl)
          try simp only [Act.put, List.setIfInBounds_toArray, List.set_cons_zero, List.set_cons_succ]
          refine Late.take (i := 3) (oi := ?_) (v := ?_) ?_ (by kernel_rfl) (by kernel_rfl) (by kernel_rfl) (by kernel_rfl) ?_ ?_ (by assumption) (by assumption) ?_
          rotate_left 2
          focus (simp only [List.getElem?_toArray, List.getElem?_cons_succ, List.getElem?_cons_zero]; rfl)
          focus exact fun _ _ _ h => h
          focus (refine Or.inl ⟨by rfl, ?_⟩; intro w hSw; (try dsimp only at hSw); go_split_ands; go_simp; try with_reducible rfl)
          try simp only [Act.put, List.setIfInBounds_toArray, List.set_cons_zero, List.set_cons_succ]
          refine Late.take (i := 4) (oi := ?_) (v := ?_) ?_ (by kernel_rfl) (by kernel_rfl) (by kernel_rfl) (by kernel_rfl) ?_ ?_ (by assumption) (by assumption) ?_
          rotate_left 2
          focus (simp only [List.getElem?_toArray, List.getElem?_cons_succ, List.getElem?_cons_zero]; rfl)
          focus exact fun _ _ _ h => h
          focus (refine Or.inl ⟨by kernel_rfl, ?_⟩; intro w hSw; clear hSw; go_simp; try with_reducible rfl)
          try simp only [Act.put, List.setIfInBounds_toArray, List.set_cons_zero, List.set_cons_succ]
          refine Late.take (i := 5) (oi := ?_) (v := ?_) ?_ (by kernel_rfl) (by kernel_rfl) (by kernel_rfl) (by kernel_rfl) ?_ ?_ (by assumption) (by assumption) ?_
          rotate_left 2
          focus (simp only [List.getElem?_toArray, List.getElem?_cons_succ, List.getElem?_cons_zero]; rfl)
          focus exact fun _ _ _ h => h
          focus (refine Or.inl ⟨by rfl, ?_⟩; intro w hSw; (try dsimp only at hSw); go_split_ands; go_simp; try with_reducible rfl)
          try simp only [Act.put, List.setIfInBounds_toArray, List.set_cons_zero, List.set_cons_succ]
          refine Late.take (i := 9) (oi := ?_) (v := ?_) ?_ (by kernel_rfl) (by kernel_rfl) (by kernel_rfl) (by kernel_rfl) ?_ ?_ (by assumption) (by assumption) ?_
          rotate_left 2
          focus (simp only [List.getElem?_toArray, List.getElem?_cons_succ, List.getElem?_cons_zero]; rfl)
          focus exact fun _ _ _ h => h
          focus (refine Or.inl ⟨by kernel_rfl, ?_⟩; intro w hSw; clear hSw; go_simp; try with_reducible rfl)
          try simp only [Act.put, List.setIfInBounds_toArray, List.set_cons_zero, List.set_cons_succ]
          refine Late.take (i := 10) (oi := ?_) (v := ?_) ?_ (by kernel_rfl) (by kernel_rfl) (by kernel_rfl) (by kernel_rfl) ?_ ?_ (by assumption) (by assumption) ?_
          rotate_left 2
          focus (simp only [List.getElem?_toArray, List.getElem?_cons_succ, List.getElem?_cons_zero]; rfl)
          focus exact fun _ _ _ h => h
          focus (refine Or.inl ⟨by rfl, ?_⟩; intro w hSw; (try dsimp only at hSw); go_split_ands; go_simp; try with_reducible rfl)
          try simp only [Act.put, List.setIfInBounds_toArray, List.set_cons_zero, List.set_cons_succ]
          refine Late.take (i := 11) (oi := ?_) (v := ?_) ?_ (by kernel_rfl) (by kernel_rfl) (by kernel_rfl) (by kernel_rfl) ?_ ?_ (by assumption) (by assumption) ?_
          rotate_left 2
          focus (simp only [List.getElem?_toArray, List.getElem?_cons_succ, List.getElem?_cons_zero]; rfl)
          focus exact fun _ _ _ h => h
          focus (refine Or.inl ⟨by kernel_rfl, ?_⟩; intro w hSw; clear hSw; go_simp; try with_reducible rfl)
          try simp only [Act.put, List.setIfInBounds_toArray, List.set_cons_zero, List.set_cons_succ]
          refine Late.only (i := 6) (o := ?_) (by kernel_rfl) ?_ (fun K hK => ?_)
          rotate_left 1
          focus (simp only [List.getElem?_toArray, List.getElem?_cons_succ, List.getElem?_cons_zero]; rfl)
          rw [if_pos (by kernel_rfl)]
          go_simp
          refine (krw.out _).mono ?_
          rintro e w4 ⟨vr, rfl, hor, b4⟩
          obtain ⟨AR, cR, rfl⟩ := own_slice hor
          have x4 := x1.out.below b4 x1.out.lt
          have hS4 : w4.cell? ⟨P, 0, none⟩ = some (.int .i64 root) ∧ w4.cell? ⟨P, 1, none⟩ = some (.int .i64 (n : Int)) := ⟨x4.cell 0, x4.cell 1⟩
          have r4 := Lib.hid (r1.out.below b4)
          have k4 := Lib.hid (k1.out.same (Keeps.of_below _ b4))
          replace x4 := Lib.hid x4
          clear krw b4 hor r1 x1 k1
          refine hK.out _ _ hS4 (fun _ => trivial) ?_
          clear hK K
          try simp only [Act.put, List.setIfInBounds_toArray, List.set_cons_zero, List.set_cons_succ]
          have hS := hS4
          refine Late.take (i := 7) (oi := ?_) (v := ?_) ?_ (by kernel_rfl) (by kernel_rfl) (by kernel_rfl) (by kernel_rfl) ?_ ?_ (by assumption) (by assumption) ?_
          rotate_left 2
          focus (simp only [List.getElem?_toArray, List.getElem?_cons_succ, List.getElem?_cons_zero]; rfl)
          focus exact fun _ _ _ h => h
          focus (refine Or.inl ⟨by kernel_rfl, ?_⟩; intro w hSw; clear hSw; go_simp; try with_reducible rfl)
          try simp only [Act.put, List.setIfInBounds_toArray, List.set_cons_zero, List.set_cons_succ]
          refine Late.take (i := 8) (oi := ?_) (v := ?_) ?_ (by kernel_rfl) (by kernel_rfl) (by kernel_rfl) (by kernel_rfl) ?_ ?_ (by assumption) (by assumption) ?_
          rotate_left 2
          focus (simp only [List.getElem?_toArray, List.getElem?_cons_succ, List.getElem?_cons_zero]; rfl)
          focus exact fun _ _ _ h => h
          focus (refine Or.inl ⟨by kernel_rfl, ?_⟩; intro w hSw; clear hSw; go_simp; try with_reducible rfl)
          try simp only [Act.put, List.setIfInBounds_toArray, List.set_cons_zero, List.set_cons_succ]
          refine Late.only (i := 12) (o := ?_) (by kernel_rfl) ?_ (fun K hK => ?_)
          rotate_left 1
          focus (simp only [List.getElem?_toArray, List.getElem?_cons_succ, List.getElem?_cons_zero]; rfl)
          rw [if_pos (by kernel_rfl)]
          go_simp
          refine (kt.out _ r4.out).mono ?_
          rintro e w5 ⟨rfl, r5, k5⟩
          have x5 := x4.out.keeps k5 (fun hn => hn (Or.inr rfl))
          have hS5 : w5.cell? ⟨P, 0, none⟩ = some (.int .i64 root) ∧ w5.cell? ⟨P, 1, none⟩ = some (.int .i64 (n : Int)) := ⟨x5.cell 0, x5.cell 1⟩
          have fin := Lib.hid (And.intro (r5.sub (Y := X) fun i hi => Or.inl hi) (k4.out.same (k5.mono fun i hn hx => hn (Or.inl hx))))
          clear kt r4 k4 x4 r5 k5 x5
          refine hK.out _ _ hS5 (fun _ => trivial) ?_
          clear hK K
          try simp only [Act.put, List.setIfInBounds_toArray, List.set_cons_zero, List.set_cons_succ]
          refine Late.done (by kernel_rfl) ?_ _
          go_wp2_with fail
          go_meet
          exact fin.out
        case rest =>
          go_wp2_with fail
          go_ret
          exact ⟨t, rfl, hcut⟩
  · have hR1 : R = { tx0 with e := 110 } := by rw [hR]; exact readT_no hok
    clear hR
    have hR := Lib.hid hR1
    clear hR1
    by_cases h1 : size < 0
    · as_aux_lemma =>
        have d1 : decide (size < 0) = true := decide_eq_true h1
        clear hok
        have hR2 : R = { tx0 with e := 110 } := hR.out
        obtain ⟨G9, o9, v90, v91, v92, h9⟩ := hr0.out
        have c5 : W.cell? ⟨t, 5, none⟩ = some (.int .i64 0) := h9.blk.cell 5
        have f5 := h9.blk.free 5
        obtain ⟨hA, kA⟩ := h9.err 110
        have fin := Lib.hid (show RW X N m (W.setCell ⟨t, 5, none⟩ (.int .i64 110)) k t f R ∧ KeepX X w (W.setCell ⟨t, 5, none⟩ (.int .i64 110)) from ⟨RW.sub (X := fun i => X i ∨ i = P) ⟨_, _, _, _, _, by rw [hR2]; exact hA⟩ (fun i hi => Or.inl hi), kb.out.same (kA.mono fun i hn hx => hn (Or.inl hx))⟩)
        clear hA kA h9 hR2
        go_enter Tryz.func50, Tryz.ntmps50
        go_upto_region 1 with fail
        rw [← hV, ← hP]
        replace hV := Lib.hid hV
        replace hP := Lib.hid hP
        go_upto_region 2 with fail
        rw [← hW, ← ht]
        clear hW ht hV hP
        go_wp2_with fail
        go_ret
        exact ⟨t, rfl, fin.out⟩
    · have d1 : decide (size < 0) = false := decide_eq_false h1
      by_cases h2 : 16384 < size
      · as_aux_lemma =>
          have d2 : decide (16384 < size) = true := decide_eq_true h2
          clear hok
          have hR2 : R = { tx0 with e := 110 } := hR.out
          obtain ⟨G9, o9, v90, v91, v92, h9⟩ := hr0.out
          have c5 : W.cell? ⟨t, 5, none⟩ = some (.int .i64 0) := h9.blk.cell 5
          have f5 := h9.blk.free 5
          obtain ⟨hA, kA⟩ := h9.err 110
          have fin := Lib.hid (show RW X N m (W.setCell ⟨t, 5, none⟩ (.int .i64 110)) k t f R ∧ KeepX X w (W.setCell ⟨t, 5, none⟩ (.int .i64 110)) from ⟨RW.sub (X := fun i => X i ∨ i = P) ⟨_, _, _, _, _, by rw [hR2]; exact hA⟩ (fun i hi => Or.inl hi), kb.out.same (kA.mono fun i hn hx => hn (Or.inl hx))⟩)
          clear hA kA h9 hR2
          go_enter Tryz.func50, Tryz.ntmps50
          go_upto_region 1 with fail
          rw [← hV, ← hP]
          replace hV := Lib.hid hV
          replace hP := Lib.hid hP
          go_upto_region 2 with fail
          rw [← hW, ← ht]
          clear hW ht hV hP
          go_wp2_with fail
          go_ret
          exact ⟨t, rfl, fin.out⟩
      · as_aux_lemma =>
          have d2 : decide (16384 < size) = false := decide_eq_false h2
          have d3 : ((root == 0) == (size == 0)) = false := by
            have hne : ¬ (root = 0 ↔ size = 0) := fun h => hok ⟨by omega, by omega, h⟩
            by_cases q1 : root = 0
            · have q2 : ¬ size = 0 := fun h => hne ⟨fun _ => h, fun _ => q1⟩
              simp [q1, q2]
            · have q2 : size = 0 := Classical.byContradiction fun h => hne ⟨fun h' => absurd h' q1, fun h' => absurd h' h⟩
              simp [q1, q2]
          have d4 : ((root == 0) != (size == 0)) = true := by rw [bne, d3]; rfl
          clear hok
          have hR2 : R = { tx0 with e := 110 } := hR.out
          obtain ⟨G9, o9, v90, v91, v92, h9⟩ := hr0.out
          have c5 : W.cell? ⟨t, 5, none⟩ = some (.int .i64 0) := h9.blk.cell 5
          have f5 := h9.blk.free 5
          obtain ⟨hA, kA⟩ := h9.err 110
          have fin := Lib.hid (show RW X N m (W.setCell ⟨t, 5, none⟩ (.int .i64 110)) k t f R ∧ KeepX X w (W.setCell ⟨t, 5, none⟩ (.int .i64 110)) from ⟨RW.sub (X := fun i => X i ∨ i = P) ⟨_, _, _, _, _, by rw [hR2]; exact hA⟩ (fun i hi => Or.inl hi), kb.out.same (kA.mono fun i hn hx => hn (Or.inl hx))⟩)
          clear hA kA h9 hR2
          go_enter Tryz.func50, Tryz.ntmps50
          go_upto_region 1 with fail
          rw [← hV, ← hP]
          replace hV := Lib.hid hV
          replace hP := Lib.hid hP
          go_upto_region 2 with fail
          rw [← hW, ← ht]
          clear hW ht hV hP
          go_wp2_with fail
          go_ret
          exact ⟨t, rfl, fin.out⟩
end Go.Proofs.YtajlfmnjibgbaaaGreatDoor.Tr

/- Alloc: Take. -/
import Derived.Test.YthclfljmnljhdaaDoorAllocWalkB
import Derived.Test.YthclfljmnljhdaaDoorLate
namespace Go.Proofs.YthclfljmnljhdaaDoor.Alloc
open Go.RowKit Mem Sets

theorem of_one (n : Nat) (hn : n ≤ 65535) (W : World) (g : Nat) (hr : Row W (some ⟨g, 0, none⟩) 1 [.int .i64 (n : Int)]) :
    Calls Tryd.prog 14 #[.slice (some ⟨g, 0, none⟩) 1 1] W fun e w' => e = .returned (.tuple #[.string (setB [n]), .int .i64 0]) ∧ Below W.heap.size W w' := by
  have h := of_out (some ⟨g, 0, none⟩) 1 1 [(n : Int)] W hr (by decide)
  have e := ofOut_nat (l := [n]) (by simpa using hn)
  rw [show ofOut [(n : Int)] = (ofL [n], 0) from e] at h
  exact h

theorem pool_next {w : World} {g B N L : Nat} {U T : ByteArray} (h : Pool w g U T B N L) (n : Nat) : Pool (w.setCell ⟨g, 3, none⟩ (.int .i64 ((n : Int) + 1))) g U T B (n + 1) L := Blk.put h 3 _

theorem held {w W : World} {b g B N L : Nat} {U T : ByteArray} {v : Value} (h : Pool w g U T B N L) (hb : w.cell? ⟨b, 0, none⟩ = some v) (c : Below w.heap.size w W) : Pool W g U T B N L ∧ W.cell? ⟨b, 0, none⟩ = some v :=
  ⟨Blk.below h c h.lt, (c.cell (p := ⟨b, 0, none⟩) (World.block_lt_of_cell? w _ hb)).trans hb⟩

set_option maxRecDepth 100000 in
set_option maxHeartbeats 2000000 in
theorem take_some (U T : ByteArray) (B N L g n : Nat) (rest : List Nat) (w : World) (h : Pool w g U T B N (L + 1)) (hB : B ≤ 4096) (hN1 : 1 ≤ N) (hN2 : N ≤ B) (hL : L ≤ 4096)
    (hU : U.size ≤ 140737488355328) (hT : T.size ≤ 140737488355328) (ho : order (hasB U) B N = n :: rest) :
    Calls Tryd.prog 18 #[.pointer (some ⟨g, 0, none⟩)] w fun e w' => e = .returned (.tuple #[.int .i64 (n : Int), .int .i64 0]) ∧ Pool w' g (orB U (setB [n])) (orB T (setB [n])) B (n + 1) L ∧ w.grownBy w' (some g) := by
  obtain ⟨hn1, hn2, _, _, hseek⟩ := order_take (u' := fun m => hasB U m || decide (m = n)) hN1 hN2 ho (fun m => rfl)
  have h1 := h.alloc (.cells #[.pointer (some ⟨g, 0, none⟩)] 31)
  have hbx := Boxed.new w 31 (.pointer (some ⟨g, 0, none⟩))
  have hg1 : w.grownBy (w.alloc (.cells #[.pointer (some ⟨g, 0, none⟩)] 31)) (some g) := Only.alloc (Only.refl w _) _
  have m2 := h1.cell 2
  have m3 := h1.cell 3
  have m4 := h1.cell 4
  have mb := hbx.cell
  have hgl := h.lt
  clear h
  replace h1 := Lib.hid h1
  replace hg1 := Lib.hid hg1
  replace hbx := Lib.hid hbx
  replace ho := Lib.hid ho
  go_enter Tryd.func18, Tryd.ntmps18
  go_wp2_with fail
  generalize hw1 : w.alloc (.cells #[.pointer (some ⟨g, 0, none⟩)] 31) = w1 at *
  replace hw1 := Lib.hid hw1
  go_still_tail 9, (by kernel_rfl)
  change wpList _ _ _ _ _ w1.drew
  generalize hw2 : w1.drew = w2
  have h2 : Pool w2 g U T B N (L + 1) := by rw [← hw2]; exact h1.out
  have mb2 : w2.cell? ⟨w.heap.size, 0, none⟩ = some (.pointer (some ⟨g, 0, none⟩)) := by rw [← hw2]; exact mb
  have hg2 : w.grownBy w2 (some g) := by rw [← hw2]; exact Only.drew hg1.out
  have m22 := h2.cell 2
  clear m2 m3 m4 mb h1 hg1 hw2 hw1
  replace hg2 := Lib.hid hg2
  have hne : w.heap.size ≠ g := by omega
  have hstep : ∀ w3, w3 = w2.setCell ⟨g, 3, none⟩ (.int .i64 ((n : Int) + 1)) → Pool w3 g U T B (n + 1) (L + 1) ∧ w3.cell? ⟨w.heap.size, 0, none⟩ = some (.pointer (some ⟨g, 0, none⟩)) ∧ w.grownBy w3 (some g) := by
    intro w3 e
    subst e
    refine ⟨pool_next h2 n, ?_, Only.put hg2.out 3 _⟩
    rw [World.cell?_setCell_other _ _ _ _ (by intro e; injection e with e1; exact hne e1.symm)]
    exact mb2
  replace hstep := Lib.hid hstep
  rcases hseek with hs | ⟨hs1, hs2⟩
  focus
    have k := Lib.hid (seek_hit U T B N (L + 1) g w2 w.heap.size N B n h2 mb2 hB hs)
    clear hs h2
    go_wp2_with fail
    refine k.out.mono ?_
    rintro en w3 ⟨rfl, hw3⟩
    obtain ⟨h3, mb3, hg3⟩ := hstep.out w3 hw3
    clear hw3 hstep k mb2 m22 hg2
  rotate_left
  focus
    have k := Lib.hid (seek_miss U T B N (L + 1) g w2 w.heap.size N B h2 mb2 hB hs1)
    have k2 := Lib.hid (seek_hit U T B N (L + 1) g w2 w.heap.size 1 B n h2 mb2 hB hs2)
    clear hs1 hs2 h2
    go_wp2_with fail
    refine k.out.mono ?_
    rintro en w' ⟨rfl, hw'⟩
    replace hw' := hw'.symm
    subst hw'
    go_wp2_with fail
    refine k2.out.mono ?_
    rintro en w3 ⟨rfl, hw3⟩
    obtain ⟨h3, mb3, hg3⟩ := hstep.out w3 hw3
    clear hw3 hstep k k2 mb2 m22 hg2
  all_goals
    have m33 := h3.cell 3
    have hs3 := hg3.size
    replace hg3 := Lib.hid hg3
    replace h3 := Lib.hid h3
    go_wp2_with fail
    refine (of_one n (by omega) _ _ (row_blk (Blk.new w3 3 _))).mono ?_
    rintro en w4 ⟨rfl, b4⟩
    obtain ⟨one, hone⟩ : ∃ z, z = setB [n] := ⟨_, rfl⟩
    rw [← hone]
    have h4 : Pool w4 g U T B (n + 1) (L + 1) := (h3.out.alloc _).below b4 (by simp; have := h3.out.lt; omega)
    have mb4 : w4.cell? ⟨w.heap.size, 0, none⟩ = some (.pointer (some ⟨g, 0, none⟩)) := by
      have hlt := World.block_lt_of_cell? w3 _ mb3
      rw [b4.cell (p := ⟨w.heap.size, 0, none⟩) (by simp; simp at hlt; omega), ((Below.refl w3.heap.size w3).alloc (Nat.le_refl _) _).cell (p := ⟨w.heap.size, 0, none⟩) hlt]
      exact mb3
    have hg4 : w.grownBy w4 (some g) := Only.below (Only.alloc hg3.out _) b4 (by have := hg3.out.size; simp; omega)
    have so : one.size ≤ 140737488355328 := by rw [hone]; exact Nat.le_trans (setB_size (K := 8192) (by intro x hx; rw [List.mem_singleton] at hx; omega)) (by decide)
    clear h3 hg3 b4 mb3 m33 hs3
    have m40 : w4.cell? ⟨g, 0, none⟩ = some (.string U) := h4.cell 0
    have m41 : w4.cell? ⟨g, 1, none⟩ = some (.string T) := h4.cell 1
    have hlt4 := h4.lt
    replace h4 := Lib.hid h4
    replace hg4 := Lib.hid hg4
    replace hone := Lib.hid hone
    go_wp2_with fail
    refine Late.start (S := fun w' => w'.cell? ⟨w.heap.size, 0, none⟩ = some (.pointer (some ⟨g, 0, none⟩))) (T := fun w' => w'.cell? ⟨g, 0, none⟩ = some (.string U) ∧ w'.cell? ⟨g, 1, none⟩ = some (.string T)) (late := [16, 19]) (by kernel_rfl) ?_
    have hH : w4.drew.cell? ⟨w.heap.size, 0, none⟩ = some (.pointer (some ⟨g, 0, none⟩)) := mb4
    have hHT : w4.drew.cell? ⟨g, 0, none⟩ = some (.string U) ∧ w4.drew.cell? ⟨g, 1, none⟩ = some (.string T) := ⟨m40, m41⟩
    refine Late.take (i := 0) (oi := ?_) (v := ?_) ?_ (by kernel_rfl) (by kernel_rfl) (by kernel_rfl) (by kernel_rfl) ?_ ?_ (by assumption) (by assumption) ?_
    rotate_left 2
    focus (simp only [List.getElem?_toArray, List.getElem?_cons_zero]; rfl)
    focus exact fun _ _ _ h => h
    focus (refine Or.inl ⟨by rfl, ?_⟩; intro w hSw; (try dsimp only at hSw); go_split_ands; go_simp; try with_reducible rfl)
    try simp only [Act.put, List.setIfInBounds_toArray, List.set_cons_zero, List.set_cons_succ]
    refine Late.take (i := 1) (oi := ?_) (v := ?_) ?_ (by kernel_rfl) (by kernel_rfl) (by kernel_rfl) (by kernel_rfl) ?_ ?_ (by assumption) (by assumption) ?_
    rotate_left 2
    focus (simp only [List.getElem?_toArray, List.getElem?_cons_succ, List.getElem?_cons_zero]; rfl)
    focus exact fun _ _ _ h => h
    focus (refine Or.inl ⟨by rfl, ?_⟩; intro w hSw; (try dsimp only at hSw); go_split_ands; go_simp; try with_reducible rfl)
    try simp only [Act.put, List.setIfInBounds_toArray, List.set_cons_zero, List.set_cons_succ]
    refine Late.take (i := 2) (oi := ?_) (v := ?_) ?_ (by kernel_rfl) (by kernel_rfl) (by kernel_rfl) (by kernel_rfl) ?_ ?_ (by assumption) (by assumption) ?_
    rotate_left 2
    focus (simp only [List.getElem?_toArray, List.getElem?_cons_succ, List.getElem?_cons_zero]; rfl)
    focus exact fun _ _ _ h => h
    focus (refine Or.inl ⟨by rfl, ?_⟩; intro w hSw; (try dsimp only at hSw); go_split_ands; go_simp; try with_reducible rfl)
    try simp only [Act.put, List.setIfInBounds_toArray, List.set_cons_zero, List.set_cons_succ]
    refine Late.take (i := 3) (oi := ?_) (v := ?_) ?_ (by kernel_rfl) (by kernel_rfl) (by kernel_rfl) (by kernel_rfl) ?_ ?_ (by assumption) (by assumption) ?_
    rotate_left 2
    focus (simp only [List.getElem?_toArray, List.getElem?_cons_succ, List.getElem?_cons_zero]; rfl)
    focus exact fun _ _ _ h => h
    focus (refine Or.inl ⟨by rfl, ?_⟩; intro w hSw; (try dsimp only at hSw); go_split_ands; go_simp; try with_reducible rfl)
    try simp only [Act.put, List.setIfInBounds_toArray, List.set_cons_zero, List.set_cons_succ]
    refine Late.take (i := 4) (oi := ?_) (v := ?_) ?_ (by kernel_rfl) (by kernel_rfl) (by kernel_rfl) (by kernel_rfl) ?_ ?_ (by assumption) (by assumption) ?_
    rotate_left 2
    focus (simp only [List.getElem?_toArray, List.getElem?_cons_succ, List.getElem?_cons_zero]; rfl)
    focus exact fun _ _ _ h => h
    focus (refine Or.inl ⟨by rfl, ?_⟩; intro w hSw; (try dsimp only at hSw); go_split_ands; go_simp; try with_reducible rfl)
    try simp only [Act.put, List.setIfInBounds_toArray, List.set_cons_zero, List.set_cons_succ]
    refine Late.takeT (i := 5) (oi := ?_) (v := ?_) ?_ (by kernel_rfl) (by kernel_rfl) (by kernel_rfl) (by kernel_rfl) (by kernel_rfl) (by kernel_rfl) ?_ ?_ (by assumption) (by assumption) ?_
    rotate_left 2
    focus (simp only [List.getElem?_toArray, List.getElem?_cons_succ, List.getElem?_cons_zero]; rfl)
    focus exact fun _ _ _ h => h
    focus (refine Or.inl ⟨by rfl, ?_⟩; intro w hSw; (try dsimp only at hSw); go_split_ands; go_simp; try with_reducible rfl)
    try simp only [Act.put, List.setIfInBounds_toArray, List.set_cons_zero, List.set_cons_succ]
    refine Late.take (i := 6) (oi := ?_) (v := ?_) ?_ (by kernel_rfl) (by kernel_rfl) (by kernel_rfl) (by kernel_rfl) ?_ ?_ (by assumption) (by assumption) ?_
    rotate_left 2
    focus (simp only [List.getElem?_toArray, List.getElem?_cons_succ, List.getElem?_cons_zero]; rfl)
    focus exact fun _ _ _ h => h
    focus (refine Or.inl ⟨by rfl, ?_⟩; intro w hSw; (try dsimp only at hSw); go_split_ands; go_simp; try with_reducible rfl)
    try simp only [Act.put, List.setIfInBounds_toArray, List.set_cons_zero, List.set_cons_succ]
    refine Late.take (i := 8) (oi := ?_) (v := ?_) ?_ (by kernel_rfl) (by kernel_rfl) (by kernel_rfl) (by kernel_rfl) ?_ ?_ (by assumption) (by assumption) ?_
    rotate_left 2
    focus (simp only [List.getElem?_toArray, List.getElem?_cons_succ, List.getElem?_cons_zero]; rfl)
    focus exact fun _ _ _ h => h
    focus (refine Or.inl ⟨by rfl, ?_⟩; intro w hSw; (try dsimp only at hSw); go_split_ands; go_simp; try with_reducible rfl)
    try simp only [Act.put, List.setIfInBounds_toArray, List.set_cons_zero, List.set_cons_succ]
    refine Late.take (i := 9) (oi := ?_) (v := ?_) ?_ (by kernel_rfl) (by kernel_rfl) (by kernel_rfl) (by kernel_rfl) ?_ ?_ (by assumption) (by assumption) ?_
    rotate_left 2
    focus (simp only [List.getElem?_toArray, List.getElem?_cons_succ, List.getElem?_cons_zero]; rfl)
    focus exact fun _ _ _ h => h
    focus (refine Or.inl ⟨by rfl, ?_⟩; intro w hSw; (try dsimp only at hSw); go_split_ands; go_simp; try with_reducible rfl)
    try simp only [Act.put, List.setIfInBounds_toArray, List.set_cons_zero, List.set_cons_succ]
    refine Late.take (i := 10) (oi := ?_) (v := ?_) ?_ (by kernel_rfl) (by kernel_rfl) (by kernel_rfl) (by kernel_rfl) ?_ ?_ (by assumption) (by assumption) ?_
    rotate_left 2
    focus (simp only [List.getElem?_toArray, List.getElem?_cons_succ, List.getElem?_cons_zero]; rfl)
    focus exact fun _ _ _ h => h
    focus (refine Or.inl ⟨by rfl, ?_⟩; intro w hSw; (try dsimp only at hSw); go_split_ands; go_simp; try with_reducible rfl)
    try simp only [Act.put, List.setIfInBounds_toArray, List.set_cons_zero, List.set_cons_succ]
    refine Late.takeT (i := 11) (oi := ?_) (v := ?_) ?_ (by kernel_rfl) (by kernel_rfl) (by kernel_rfl) (by kernel_rfl) (by kernel_rfl) (by kernel_rfl) ?_ ?_ (by assumption) (by assumption) ?_
    rotate_left 2
    focus (simp only [List.getElem?_toArray, List.getElem?_cons_succ, List.getElem?_cons_zero]; rfl)
    focus exact fun _ _ _ h => h
    focus (refine Or.inl ⟨by rfl, ?_⟩; intro w hSw; (try dsimp only at hSw); go_split_ands; go_simp; try with_reducible rfl)
    try simp only [Act.put, List.setIfInBounds_toArray, List.set_cons_zero, List.set_cons_succ]
    refine Late.take (i := 12) (oi := ?_) (v := ?_) ?_ (by kernel_rfl) (by kernel_rfl) (by kernel_rfl) (by kernel_rfl) ?_ ?_ (by assumption) (by assumption) ?_
    rotate_left 2
    focus (simp only [List.getElem?_toArray, List.getElem?_cons_succ, List.getElem?_cons_zero]; rfl)
    focus exact fun _ _ _ h => h
    focus (refine Or.inl ⟨by rfl, ?_⟩; intro w hSw; (try dsimp only at hSw); go_split_ands; go_simp; try with_reducible rfl)
    try simp only [Act.put, List.setIfInBounds_toArray, List.set_cons_zero, List.set_cons_succ]
    refine Late.only (i := 7) (o := ?_) (by kernel_rfl) ?_ (fun K hK => ?_)
    rotate_left 1
    focus (simp only [List.getElem?_toArray, List.getElem?_cons_succ, List.getElem?_cons_zero]; rfl)
    go_simp
    refine (or_b U one _ hU so).mono ?_
    rintro e W5 ⟨rfl, c5⟩
    obtain ⟨p5, q5⟩ := held (w := w4.drew) h4.out mb4 c5
    have r50 : W5.cell? ⟨g, 0, none⟩ = some (.string U) := p5.cell 0
    have r51 : W5.cell? ⟨g, 1, none⟩ = some (.string T) := p5.cell 1
    refine hK.out _ _ q5 (fun _ => ⟨r50, r51⟩) ?_
    clear hK K
    try simp only [Act.put, List.setIfInBounds_toArray, List.set_cons_zero, List.set_cons_succ]
    refine Late.only (i := 13) (o := ?_) (by kernel_rfl) ?_ (fun K hK => ?_)
    rotate_left 1
    focus (simp only [List.getElem?_toArray, List.getElem?_cons_succ, List.getElem?_cons_zero]; rfl)
    go_simp
    refine (or_b T one _ hT so).mono ?_
    rintro e W6 ⟨rfl, c6⟩
    obtain ⟨p6, q6⟩ := held p5 q5 c6
    have r60 : W6.cell? ⟨g, 0, none⟩ = some (.string U) := p6.cell 0
    have r61 : W6.cell? ⟨g, 1, none⟩ = some (.string T) := p6.cell 1
    have f60 := p6.free 0
    have f61 := p6.free 1
    refine hK.out _ _ q6 (fun _ => ⟨r60, r61⟩) ?_
    clear hK K
    try simp only [Act.put, List.setIfInBounds_toArray, List.set_cons_zero, List.set_cons_succ]
    refine Late.only (i := 14) (o := ?_) (by kernel_rfl) ?_ (fun K hK => ?_)
    rotate_left 1
    focus (simp only [List.getElem?_toArray, List.getElem?_cons_succ, List.getElem?_cons_zero]; rfl)
    go_simp
    refine hK.out _ _ q6 (fun _ => ⟨r60, r61⟩) ?_
    clear hK K
    try simp only [Act.put, List.setIfInBounds_toArray, List.set_cons_zero, List.set_cons_succ]
    refine Late.only (i := 15) (o := ?_) (by kernel_rfl) ?_ (fun K hK => ?_)
    rotate_left 1
    focus (simp only [List.getElem?_toArray, List.getElem?_cons_succ, List.getElem?_cons_zero]; rfl)
    go_simp
    refine hK.out _ _ q6 (fun _ => ⟨r60, r61⟩) ?_
    clear hK K
    try simp only [Act.put, List.setIfInBounds_toArray, List.set_cons_zero, List.set_cons_succ]
    refine Late.only (i := 16) (o := ?_) (by kernel_rfl) ?_ (fun K hK => ?_)
    rotate_left 1
    focus (simp only [List.getElem?_toArray, List.getElem?_cons_succ, List.getElem?_cons_zero]; rfl)
    go_simp
    have hW7 : Pool (W6.setCell ⟨g, 0, none⟩ (.string (orB U one))) g (orB U one) T B (n + 1) (L + 1) ∧ (W6.setCell ⟨g, 0, none⟩ (.string (orB U one))).cell? ⟨w.heap.size, 0, none⟩ = some (.pointer (some ⟨g, 0, none⟩)) ∧ w.grownBy (W6.setCell ⟨g, 0, none⟩ (.string (orB U one))) (some g) :=
      ⟨Blk.put p6 0 _, by rw [World.cell?_setCell_other _ _ _ _ (by intro e; injection e with e1; exact hne e1.symm)]; exact q6, Only.put (Only.below (Only.below (Only.drew hg4.out) c5 hg4.out.size) c6 (Nat.le_trans hg4.out.size c5.size)) 0 _⟩
    generalize W6.setCell ⟨g, 0, none⟩ (.string (orB U one)) = W7 at hW7 ⊢
    obtain ⟨p7, q7, g7⟩ := hW7
    refine hK.out _ _ q7 (Late.gone (by kernel_rfl)) ?_
    clear hK K
    try simp only [Act.put, List.setIfInBounds_toArray, List.set_cons_zero, List.set_cons_succ]
    have r71 : W7.cell? ⟨g, 1, none⟩ = some (.string T) := p7.cell 1
    have f71 := p7.free 1
    clear f60 f61 r60 r61 c6 q6 r50 r51 c5 q5 p5 hH hHT m40 m41
    refine Late.only (i := 17) (o := ?_) (by kernel_rfl) ?_ (fun K hK => ?_)
    rotate_left 1
    focus (simp only [List.getElem?_toArray, List.getElem?_cons_succ, List.getElem?_cons_zero]; rfl)
    go_simp
    refine hK.out _ _ q7 (Late.gone (by kernel_rfl)) ?_
    clear hK K
    try simp only [Act.put, List.setIfInBounds_toArray, List.set_cons_zero, List.set_cons_succ]
    refine Late.only (i := 18) (o := ?_) (by kernel_rfl) ?_ (fun K hK => ?_)
    rotate_left 1
    focus (simp only [List.getElem?_toArray, List.getElem?_cons_succ, List.getElem?_cons_zero]; rfl)
    go_simp
    refine hK.out _ _ q7 (Late.gone (by kernel_rfl)) ?_
    clear hK K
    try simp only [Act.put, List.setIfInBounds_toArray, List.set_cons_zero, List.set_cons_succ]
    refine Late.only (i := 19) (o := ?_) (by kernel_rfl) ?_ (fun K hK => ?_)
    rotate_left 1
    focus (simp only [List.getElem?_toArray, List.getElem?_cons_succ, List.getElem?_cons_zero]; rfl)
    go_simp
    have hW8 : Pool (W7.setCell ⟨g, 1, none⟩ (.string (orB T one))) g (orB U one) (orB T one) B (n + 1) (L + 1) ∧ (W7.setCell ⟨g, 1, none⟩ (.string (orB T one))).cell? ⟨w.heap.size, 0, none⟩ = some (.pointer (some ⟨g, 0, none⟩)) ∧ w.grownBy (W7.setCell ⟨g, 1, none⟩ (.string (orB T one))) (some g) :=
      ⟨Blk.put p7 1 _, by rw [World.cell?_setCell_other _ _ _ _ (by intro e; injection e with e1; exact hne e1.symm)]; exact q7, Only.put g7 1 _⟩
    generalize W7.setCell ⟨g, 1, none⟩ (.string (orB T one)) = W8 at hW8 ⊢
    obtain ⟨p8, q8, g8⟩ := hW8
    refine hK.out _ _ q8 (Late.gone (by kernel_rfl)) ?_
    clear hK K
    try simp only [Act.put, List.setIfInBounds_toArray, List.set_cons_zero, List.set_cons_succ]
    refine Late.done (by kernel_rfl) ?_ _
    have r84 := p8.cell 4
    have f84 := p8.free 4
    clear f71 r71 p7 q7
    replace g8 := Lib.hid g8
    replace p8 := Lib.hid p8
    go_wp2_with fail
    go_ret2
    refine ⟨rfl, ?_, Only.put g8.out 4 _⟩
    rw [← hone.out]
    exact Blk.put p8.out 4 _
end Go.Proofs.YthclfljmnljhdaaDoor.Alloc

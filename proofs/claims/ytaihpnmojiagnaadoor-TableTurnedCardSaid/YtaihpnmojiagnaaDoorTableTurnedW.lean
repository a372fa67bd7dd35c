/- TableTurned: two that stand the other way round are refused; so is one that stands twice. (Printed by gentlaws.py.) -/
import Derived.Test.YtaihpnmojiagnaaDoorTableTurned
namespace Go.Proofs.YtaihpnmojiagnaaDoor.Table
open Go.RowKit Mem Wire

set_option maxRecDepth 100000 in
set_option maxHeartbeats 16000000 in
theorem turned_any (A1 A2 A3 : Option Addr) (n1 n2 n3 c1 c2 c3 : Nat) (l1 : List Ino) (l2 : List Ent) (l3 : List Snp) (x : Int) (w : World) (hL : Laid w)
    (hr1 : Row w A1 (n1 * 5) (l1.flatMap inoC)) (hn1 : l1.length = n1) (hm1 : n1 ≤ 9223372036854775807)
    (hr2 : Row w A2 (n2 * 2) (l2.flatMap entC)) (hn2 : l2.length = n2) (hm2 : n2 ≤ 9223372036854775807) 
    (_hr3 : Row w A3 (n3 * 5) (l3.flatMap snpC)) (_hn3 : l3.length = n3) (_hm3 : n3 ≤ 9223372036854775807) :
    Calls Tryd.prog 4 #[.agg #[.slice A1 n1 c1, .slice A2 n2 c2, .slice A3 n3 c3], .int .i64 x] w fun e w' => e = .returned (.bool true) ∧ Below w.heap.size w w' := by
  have hp := hL.pos
  have hg1 : ∀ x ∈ l1, inoBig x := fun _ _ => trivial
  have hg2 : ∀ x ∈ l2, entBig x := fun _ _ => trivial
  have q0 := Blk.new w 28 #[.slice A1 n1 c1, .slice A2 n2 c2, .slice A3 n3 c3]
  have hb0 : Below w.heap.size w (w.alloc (.cells #[.slice A1 n1 c1, .slice A2 n2 c2, .slice A3 n3 c3] 28)) := (Below.refl _ _).alloc (Nat.le_refl _) _
  have hz : w.heap.size + 1 ≤ (w.alloc (.cells #[.slice A1 n1 c1, .slice A2 n2 c2, .slice A3 n3 c3] 28)).heap.size := by simp
  have hL0 := hL.below hb0 hp
  have hze := Lib.hid (show (w.alloc (.cells #[.slice A1 n1 c1, .slice A2 n2 c2, .slice A3 n3 c3] 28)).heap.size = w.heap.size + 1 by simp)
  replace hr1 := Lib.hid (hr1.below hb0)
  replace hr2 := Lib.hid (hr2.below hb0)
  replace hn1 := Lib.hid hn1
  replace hn2 := Lib.hid hn2
  replace hg1 := Lib.hid hg1
  replace hg2 := Lib.hid hg2
  replace hb0 := Lib.hid hb0
  have e2 : lays entK l2 = none ∨ (∃ T : ByteArray, lays entK l2 = some T.data.toList) := by
    cases h : lays entK l2 with
    | none => exact Or.inl rfl
    | some bs => exact Or.inr ⟨⟨bs.toArray⟩, rfl⟩
  have e1 : lays inoK l1 = none ∨ (∃ T : ByteArray, lays inoK l1 = some T.data.toList) := by
    cases h : lays inoK l1 with
    | none => exact Or.inl rfl
    | some bs => exact Or.inr ⟨⟨bs.toArray⟩, rfl⟩
  have f2 : (n2 : Int) ≤ 1 ∨ 1 < (n2 : Int) := by omega
  have f1 : (n1 : Int) ≤ 1 ∨ 1 < (n1 : Int) := by omega
  obtain ⟨mm, hmm, hm16⟩ := mask16 x
  obtain ⟨ie, hie, ze0, ze1, ze2⟩ := info_parts info_Entry
  obtain ⟨ii, hii, zi0, zi1, zi2⟩ := info_parts info_Inode
  replace f1 := Lib.hid f1
  replace f2 := Lib.hid f2
  go_enter Tryd.func4, Tryd.ntmps4
  go_wp2_with fail
  generalize w.alloc (.cells #[.slice A1 n1 c1, .slice A2 n2 c2, .slice A3 n3 c3] 28) = w0 at q0 hb0 hz hL0 hze hr1 hr2 ⊢
  have hb := Lib.hid (Below.refl (w.heap.size + 1) w0)
  have z1 := hr1
  have z2 := hr2
  clear hr1 hr2
  have k0 := q0.cell 0
  have k1 := q0.cell 1
  have k2 := q0.cell 2
  have x0 := k0
  have x1 := k1
  have x2 := k2
  replace k0 := Lib.hid k0
  replace k1 := Lib.hid k1
  replace k2 := Lib.hid k2
  replace q0 := Lib.hid q0
  rcases e2 with e2 | ⟨T2, e2⟩
  · replace e2 := Lib.hid e2
    have hr2 := Lib.hid (z2.out.below (by rw [hze.out]; exact hb.out))
    go_wp2_with fail
    first
      | (refine (oE_none hr2.out hn2.out hg2.out hm2 e2.out).mono ?_; rintro e v2 ⟨rfl, d2⟩)
      | (refine (oE_some hr2.out hn2.out hg2.out hm2 e2.out).mono ?_; rintro e v2 ⟨rfl, d2⟩)
    replace hb := Lib.hid (hb.out.trans (d2.mono hz))
    replace hz := Nat.le_trans hz d2.size
    replace x0 := (hb.out.cell (p := ⟨w.heap.size, 0, none⟩) (Nat.lt_succ_self _)).trans k0.out
    replace x1 := (hb.out.cell (p := ⟨w.heap.size, 1, none⟩) (Nat.lt_succ_self _)).trans k1.out
    replace x2 := (hb.out.cell (p := ⟨w.heap.size, 2, none⟩) (Nat.lt_succ_self _)).trans k2.out
    clear d2
    clear hr2
    rcases e1 with e1 | ⟨T1, e1⟩
    · replace e1 := Lib.hid e1
      have hr1 := Lib.hid (z1.out.below (by rw [hze.out]; exact hb.out))
      go_wp2_with fail
      first
        | (refine (oI_none hr1.out hn1.out hg1.out hm1 e1.out).mono ?_; rintro e v1 ⟨rfl, d1⟩)
        | (refine (oI_some hr1.out hn1.out hg1.out hm1 e1.out).mono ?_; rintro e v1 ⟨rfl, d1⟩)
      replace hb := Lib.hid (hb.out.trans (d1.mono hz))
      replace hz := Nat.le_trans hz d1.size
      replace x0 := (hb.out.cell (p := ⟨w.heap.size, 0, none⟩) (Nat.lt_succ_self _)).trans k0.out
      replace x1 := (hb.out.cell (p := ⟨w.heap.size, 1, none⟩) (Nat.lt_succ_self _)).trans k1.out
      replace x2 := (hb.out.cell (p := ⟨w.heap.size, 2, none⟩) (Nat.lt_succ_self _)).trans k2.out
      clear d1
      clear hr1
      go_wp2_with fail
      refine (fixed_any _ (hL0.below hb.out (by omega))).mono ?_
      rintro e wf ⟨rfl, bf⟩
      replace hb := Lib.hid (hb.out.trans (bf.mono hz))
      clear bf
      go_wp2_with fail
      go_ret
      exact ⟨rfl, hb0.out.trans (hb.out.mono (Nat.le_succ _))⟩
    · replace e1 := Lib.hid e1
      have hr1 := Lib.hid (z1.out.below (by rw [hze.out]; exact hb.out))
      go_wp2_with fail
      first
        | (refine (oI_none hr1.out hn1.out hg1.out hm1 e1.out).mono ?_; rintro e v1 ⟨rfl, d1⟩)
        | (refine (oI_some hr1.out hn1.out hg1.out hm1 e1.out).mono ?_; rintro e v1 ⟨rfl, d1⟩)
      replace hb := Lib.hid (hb.out.trans (d1.mono hz))
      replace hz := Nat.le_trans hz d1.size
      replace x0 := (hb.out.cell (p := ⟨w.heap.size, 0, none⟩) (Nat.lt_succ_self _)).trans k0.out
      replace x1 := (hb.out.cell (p := ⟨w.heap.size, 1, none⟩) (Nat.lt_succ_self _)).trans k1.out
      replace x2 := (hb.out.cell (p := ⟨w.heap.size, 2, none⟩) (Nat.lt_succ_self _)).trans k2.out
      clear d1
      have g1 := f1.out
      rcases g1 with g1 | g1
      · clear hr1
        go_wp2_with fail
        refine (fixed_any _ (hL0.below hb.out (by omega))).mono ?_
        rintro e wf ⟨rfl, bf⟩
        replace hb := Lib.hid (hb.out.trans (bf.mono hz))
        clear bf
        go_wp2_with fail
        go_ret
        exact ⟨rfl, hb0.out.trans (hb.out.mono (Nat.le_succ _))⟩
      · clear hr1
        have hr1 := Lib.hid (z1.out.below (by rw [hze.out]; exact hb.out))
        have hln := (lays_len_I e1.out).2
        have hnn : 1 < n1 := by omega
        have hn4 : n1 ≤ 4096 := by rw [← hn1.out]; exact hln
        obtain ⟨k, hk⟩ : ∃ k, k = mm % (n1 - 1) := ⟨_, rfl⟩
        have hkl : k < n1 - 1 := by rw [hk]; exact Nat.mod_lt _ (by omega)
        have hkm : ((mm : Int) % ((n1 : Int) - 1)) = (k : Int) := by
          rw [hk, show ((n1 : Int) - 1) = ((n1 - 1 : Nat) : Int) by omega]
          rfl
        have hkm2 : ((mm : Int).tmod ((n1 : Int) - 1)) = (k : Int) := by
          rw [Int.tmod_eq_emod_of_nonneg (by omega)]
          exact hkm
        have hd0 : ¬ ((n1 : Int) - 1 = 0) := by omega
        have hd2 : ¬ ((n1 : Int) = 1) := by omega
        replace hk := Lib.hid hk
        obtain ⟨a, ha⟩ : ∃ a, l1[k]? = some a := ⟨_, List.getElem?_eq_getElem (by rw [hn1.out]; omega)⟩
        obtain ⟨b, hbb⟩ : ∃ b, l1[k + 1]? = some b := ⟨_, List.getElem?_eq_getElem (by rw [hn1.out]; omega)⟩
        obtain ⟨had, hta⟩ := ino_turn (okAll_pair (ok_iff.mp (lays_some e1.out).1).2 ha hbb)
        obtain ⟨ad, haa, _⟩ := row_elem (sz := 5) (fun _ => rfl) (by decide) hr1.out ha
        subst haa
        replace hln := Lib.hid hln
        replace ha := Lib.hid ha
        replace hbb := Lib.hid hbb
        replace had := Lib.hid had
        replace hta := Lib.hid hta
        have y1 := (World.cell?_alloc_lt v1 (.cells #[] 38) ⟨w.heap.size, 0, none⟩ (show w.heap.size < _ by omega)).trans x0
        go_wp2_with (at_builtin; refine wpList_append_own _ rfl (.tmp 106) (.tmp 108) _ rfl v1.heap.size 38 ii (inoV inoK.zero) 5 40 Tryd.underlying24 hii zi0 zi1 zi2 rfl (by decide) (.slice (some ⟨v1.heap.size, 0, none⟩) 0 0) 0 [] rfl (own_empty _ _ _) ad n1 c1 (l1.flatMap inoC) rfl (hr1.out.1) (row_cells (hr1.out.below ((Below.refl _ _).alloc (Nat.le_refl _) _))) (one_all one_ino) (by unfold maxLen; omega) (by omega) (by simp) ?_)
        intro vv W1 hown hgr _
        have bW1 : Below v1.heap.size v1 W1 := ((Below.refl _ _).alloc (Nat.le_refl _) _).trans (Only.toBelow hgr (Nat.le_refl _) (by simp))
        obtain ⟨g, cc, rfl, hgb, hC⟩ := Cells.of_own (cs := inoC) (l := l1) (fun _ => rfl) (by decide) hown (by omega)
        have hgB : w.heap.size + 1 ≤ g := Nat.le_trans hz hgb
        clear hown hgr y1
        replace hb := Lib.hid (hb.out.trans (bW1.mono hz))
        replace hz := Nat.le_trans hz bW1.size
        replace x0 := (hb.out.cell (p := ⟨w.heap.size, 0, none⟩) (Nat.lt_succ_self _)).trans k0.out
        replace x1 := (hb.out.cell (p := ⟨w.heap.size, 1, none⟩) (Nat.lt_succ_self _)).trans k1.out
        replace x2 := (hb.out.cell (p := ⟨w.heap.size, 2, none⟩) (Nat.lt_succ_self _)).trans k2.out
        clear bW1
        have p0 : W1.cell? ⟨g, k * 5, none⟩ = some (.int .i64 a.num) := hC.2 k a ha.out 0 _ rfl
        have p1 : W1.cell? ⟨g, k * 5 + 1, none⟩ = some (.bool a.dir) := hC.2 k a ha.out 1 _ rfl
        have p2 : W1.cell? ⟨g, k * 5 + 2, none⟩ = some (.int .i64 a.links) := hC.2 k a ha.out 2 _ rfl
        have p3 : W1.cell? ⟨g, k * 5 + 3, none⟩ = some (.int .i64 a.root) := hC.2 k a ha.out 3 _ rfl
        have p4 : W1.cell? ⟨g, k * 5 + 4, none⟩ = some (.int .i64 a.size) := hC.2 k a ha.out 4 _ rfl
        have bx : W1.heap.size ≠ g := by have := hC.lt; omega
        have hX : Blk (W1.alloc (.cells #[.int .i64 a.num, .bool a.dir, .int .i64 a.links, .int .i64 a.root, .int .i64 a.size] 38)) W1.heap.size 38 #[.int .i64 a.num, .bool a.dir, .int .i64 a.links, .int .i64 a.root, .int .i64 a.size] := Blk.new _ _ _
        have bA : Below W1.heap.size W1 (W1.alloc (.cells #[.int .i64 a.num, .bool a.dir, .int .i64 a.links, .int .i64 a.root, .int .i64 a.size] 38)) := (Below.refl _ _).alloc (Nat.le_refl _) _
        have hC1 := hC.below bA
        replace hb := Lib.hid (hb.out.trans (bA.mono hz))
        replace hz := Nat.le_trans hz bA.size
        replace x0 := (hb.out.cell (p := ⟨w.heap.size, 0, none⟩) (Nat.lt_succ_self _)).trans k0.out
        replace x1 := (hb.out.cell (p := ⟨w.heap.size, 1, none⟩) (Nat.lt_succ_self _)).trans k1.out
        replace x2 := (hb.out.cell (p := ⟨w.heap.size, 2, none⟩) (Nat.lt_succ_self _)).trans k2.out
        clear bA hC
        replace hb := Lib.hid hb.out
        go_upto_region 18 with fail
        clear p0 p1 p2 p3 p4
        generalize W1.heap.size = bq at hX bx ⊢
        generalize (W1.alloc (.cells #[.int .i64 a.num, .bool a.dir, .int .i64 a.links, .int .i64 a.root, .int .i64 a.size] 38)) = U1 at hX hC1 hb hz x0 x1 x2 ⊢
        have p0 : U1.cell? ⟨g, (k + 1) * 5, none⟩ = some (.int .i64 b.num) := hC1.2 (k + 1) b hbb.out 0 _ rfl
        have p1 : U1.cell? ⟨g, (k + 1) * 5 + 1, none⟩ = some (.bool b.dir) := hC1.2 (k + 1) b hbb.out 1 _ rfl
        have p2 : U1.cell? ⟨g, (k + 1) * 5 + 2, none⟩ = some (.int .i64 b.links) := hC1.2 (k + 1) b hbb.out 2 _ rfl
        have p3 : U1.cell? ⟨g, (k + 1) * 5 + 3, none⟩ = some (.int .i64 b.root) := hC1.2 (k + 1) b hbb.out 3 _ rfl
        have p4 : U1.cell? ⟨g, (k + 1) * 5 + 4, none⟩ = some (.int .i64 b.size) := hC1.2 (k + 1) b hbb.out 4 _ rfl
        have t0 : U1.cell? ⟨g, k * 5, none⟩ = some (.int .i64 a.num) := hC1.2 k a ha.out 0 _ rfl
        have t1 : U1.cell? ⟨g, k * 5 + 1, none⟩ = some (.bool a.dir) := hC1.2 k a ha.out 1 _ rfl
        have t2 : U1.cell? ⟨g, k * 5 + 2, none⟩ = some (.int .i64 a.links) := hC1.2 k a ha.out 2 _ rfl
        have t3 : U1.cell? ⟨g, k * 5 + 3, none⟩ = some (.int .i64 a.root) := hC1.2 k a ha.out 3 _ rfl
        have t4 : U1.cell? ⟨g, k * 5 + 4, none⟩ = some (.int .i64 a.size) := hC1.2 k a ha.out 4 _ rfl
        have q0 : U1.frozen? ⟨g, k * 5, none⟩ = false := hC1.free _
        have q1 : U1.frozen? ⟨g, k * 5 + 1, none⟩ = false := hC1.free _
        have q2 : U1.frozen? ⟨g, k * 5 + 2, none⟩ = false := hC1.free _
        have q3 : U1.frozen? ⟨g, k * 5 + 3, none⟩ = false := hC1.free _
        have q4 : U1.frozen? ⟨g, k * 5 + 4, none⟩ = false := hC1.free _
        replace hC1 := Lib.hid hC1
        replace hX := Lib.hid hX
        go_upto_region 19 with fail
        clear p0 p1 p2 p3 p4 q0 q1 q2 q3 q4 t0 t1 t2 t3 t4
        have hC2 : Cells inoC 5 38 (((((U1.setCell ⟨g, k * 5, none⟩ (.int .i64 b.num)).setCell ⟨g, k * 5 + 1, none⟩ (.bool b.dir)).setCell ⟨g, k * 5 + 2, none⟩ (.int .i64 b.links)).setCell ⟨g, k * 5 + 3, none⟩ (.int .i64 b.root)).setCell ⟨g, k * 5 + 4, none⟩ (.int .i64 b.size)) g (l1.set k b) := hC1.out.put5 (x := b) rfl (by rw [hn1.out]; omega) (fun _ => rfl)
        have hbN : Below (w.heap.size + 1) w0 (((((U1.setCell ⟨g, k * 5, none⟩ (.int .i64 b.num)).setCell ⟨g, k * 5 + 1, none⟩ (.bool b.dir)).setCell ⟨g, k * 5 + 2, none⟩ (.int .i64 b.links)).setCell ⟨g, k * 5 + 3, none⟩ (.int .i64 b.root)).setCell ⟨g, k * 5 + 4, none⟩ (.int .i64 b.size)) := (((((hb.out.setCell (p := ⟨g, _, none⟩) hgB _).setCell (p := ⟨g, _, none⟩) hgB _).setCell (p := ⟨g, _, none⟩) hgB _).setCell (p := ⟨g, _, none⟩) hgB _).setCell (p := ⟨g, _, none⟩) hgB _)
        have hzN : w.heap.size + 1 ≤ (((((U1.setCell ⟨g, k * 5, none⟩ (.int .i64 b.num)).setCell ⟨g, k * 5 + 1, none⟩ (.bool b.dir)).setCell ⟨g, k * 5 + 2, none⟩ (.int .i64 b.links)).setCell ⟨g, k * 5 + 3, none⟩ (.int .i64 b.root)).setCell ⟨g, k * 5 + 4, none⟩ (.int .i64 b.size)).heap.size := by simpa [World.setCell] using hz
        have hXN : Blk (((((U1.setCell ⟨g, k * 5, none⟩ (.int .i64 b.num)).setCell ⟨g, k * 5 + 1, none⟩ (.bool b.dir)).setCell ⟨g, k * 5 + 2, none⟩ (.int .i64 b.links)).setCell ⟨g, k * 5 + 3, none⟩ (.int .i64 b.root)).setCell ⟨g, k * 5 + 4, none⟩ (.int .i64 b.size)) bq 38 #[.int .i64 a.num, .bool a.dir, .int .i64 a.links, .int .i64 a.root, .int .i64 a.size] := (((((hX.out.far (p := ⟨g, _, none⟩) bx _).far (p := ⟨g, _, none⟩) bx _).far (p := ⟨g, _, none⟩) bx _).far (p := ⟨g, _, none⟩) bx _).far (p := ⟨g, _, none⟩) bx _)
        clear hb hz hX hC1
        generalize (((((U1.setCell ⟨g, k * 5, none⟩ (.int .i64 b.num)).setCell ⟨g, k * 5 + 1, none⟩ (.bool b.dir)).setCell ⟨g, k * 5 + 2, none⟩ (.int .i64 b.links)).setCell ⟨g, k * 5 + 3, none⟩ (.int .i64 b.root)).setCell ⟨g, k * 5 + 4, none⟩ (.int .i64 b.size)) = U2 at hC2 hbN hzN hXN ⊢
        have hb := Lib.hid hbN
        have hz := hzN
        have hX := hXN
        clear hbN hzN hXN
        replace x0 := (hb.out.cell (p := ⟨w.heap.size, 0, none⟩) (Nat.lt_succ_self _)).trans k0.out
        replace x1 := (hb.out.cell (p := ⟨w.heap.size, 1, none⟩) (Nat.lt_succ_self _)).trans k1.out
        replace x2 := (hb.out.cell (p := ⟨w.heap.size, 2, none⟩) (Nat.lt_succ_self _)).trans k2.out
        have xw0 := hX.cell 0
        have xw1 := hX.cell 1
        have xw2 := hX.cell 2
        have xw3 := hX.cell 3
        have xw4 := hX.cell 4
        have t0 : U2.cell? ⟨g, (k + 1) * 5, none⟩ = some (.int .i64 b.num) := hC2.2 (k + 1) b (by rw [List.getElem?_set_ne (by omega)]; exact hbb.out) 0 _ rfl
        have t1 : U2.cell? ⟨g, (k + 1) * 5 + 1, none⟩ = some (.bool b.dir) := hC2.2 (k + 1) b (by rw [List.getElem?_set_ne (by omega)]; exact hbb.out) 1 _ rfl
        have t2 : U2.cell? ⟨g, (k + 1) * 5 + 2, none⟩ = some (.int .i64 b.links) := hC2.2 (k + 1) b (by rw [List.getElem?_set_ne (by omega)]; exact hbb.out) 2 _ rfl
        have t3 : U2.cell? ⟨g, (k + 1) * 5 + 3, none⟩ = some (.int .i64 b.root) := hC2.2 (k + 1) b (by rw [List.getElem?_set_ne (by omega)]; exact hbb.out) 3 _ rfl
        have t4 : U2.cell? ⟨g, (k + 1) * 5 + 4, none⟩ = some (.int .i64 b.size) := hC2.2 (k + 1) b (by rw [List.getElem?_set_ne (by omega)]; exact hbb.out) 4 _ rfl
        have q0 : U2.frozen? ⟨g, (k + 1) * 5, none⟩ = false := hC2.free _
        have q1 : U2.frozen? ⟨g, (k + 1) * 5 + 1, none⟩ = false := hC2.free _
        have q2 : U2.frozen? ⟨g, (k + 1) * 5 + 2, none⟩ = false := hC2.free _
        have q3 : U2.frozen? ⟨g, (k + 1) * 5 + 3, none⟩ = false := hC2.free _
        have q4 : U2.frozen? ⟨g, (k + 1) * 5 + 4, none⟩ = false := hC2.free _
        have p0 := trivial
        have p1 := trivial
        have p2 := trivial
        have p3 := trivial
        have p4 := trivial
        replace hC2 := Lib.hid hC2
        replace hX := Lib.hid hX
        go_upto_region 20 with fail
        clear p0 p1 p2 p3 p4 q0 q1 q2 q3 q4 t0 t1 t2 t3 t4
        have hC3 : Cells inoC 5 38 (((((U2.setCell ⟨g, (k + 1) * 5, none⟩ (.int .i64 a.num)).setCell ⟨g, (k + 1) * 5 + 1, none⟩ (.bool a.dir)).setCell ⟨g, (k + 1) * 5 + 2, none⟩ (.int .i64 a.links)).setCell ⟨g, (k + 1) * 5 + 3, none⟩ (.int .i64 a.root)).setCell ⟨g, (k + 1) * 5 + 4, none⟩ (.int .i64 a.size)) g ((l1.set k b).set (k + 1) a) := hC2.out.put5 (x := a) rfl (by rw [List.length_set, hn1.out]; omega) (fun _ => rfl)
        have hbN : Below (w.heap.size + 1) w0 (((((U2.setCell ⟨g, (k + 1) * 5, none⟩ (.int .i64 a.num)).setCell ⟨g, (k + 1) * 5 + 1, none⟩ (.bool a.dir)).setCell ⟨g, (k + 1) * 5 + 2, none⟩ (.int .i64 a.links)).setCell ⟨g, (k + 1) * 5 + 3, none⟩ (.int .i64 a.root)).setCell ⟨g, (k + 1) * 5 + 4, none⟩ (.int .i64 a.size)) := (((((hb.out.setCell (p := ⟨g, _, none⟩) hgB _).setCell (p := ⟨g, _, none⟩) hgB _).setCell (p := ⟨g, _, none⟩) hgB _).setCell (p := ⟨g, _, none⟩) hgB _).setCell (p := ⟨g, _, none⟩) hgB _)
        have hzN : w.heap.size + 1 ≤ (((((U2.setCell ⟨g, (k + 1) * 5, none⟩ (.int .i64 a.num)).setCell ⟨g, (k + 1) * 5 + 1, none⟩ (.bool a.dir)).setCell ⟨g, (k + 1) * 5 + 2, none⟩ (.int .i64 a.links)).setCell ⟨g, (k + 1) * 5 + 3, none⟩ (.int .i64 a.root)).setCell ⟨g, (k + 1) * 5 + 4, none⟩ (.int .i64 a.size)).heap.size := by simpa [World.setCell] using hz
        have hXN : Blk (((((U2.setCell ⟨g, (k + 1) * 5, none⟩ (.int .i64 a.num)).setCell ⟨g, (k + 1) * 5 + 1, none⟩ (.bool a.dir)).setCell ⟨g, (k + 1) * 5 + 2, none⟩ (.int .i64 a.links)).setCell ⟨g, (k + 1) * 5 + 3, none⟩ (.int .i64 a.root)).setCell ⟨g, (k + 1) * 5 + 4, none⟩ (.int .i64 a.size)) bq 38 #[.int .i64 a.num, .bool a.dir, .int .i64 a.links, .int .i64 a.root, .int .i64 a.size] := (((((hX.out.far (p := ⟨g, _, none⟩) bx _).far (p := ⟨g, _, none⟩) bx _).far (p := ⟨g, _, none⟩) bx _).far (p := ⟨g, _, none⟩) bx _).far (p := ⟨g, _, none⟩) bx _)
        clear hb hz hX hC2
        generalize (((((U2.setCell ⟨g, (k + 1) * 5, none⟩ (.int .i64 a.num)).setCell ⟨g, (k + 1) * 5 + 1, none⟩ (.bool a.dir)).setCell ⟨g, (k + 1) * 5 + 2, none⟩ (.int .i64 a.links)).setCell ⟨g, (k + 1) * 5 + 3, none⟩ (.int .i64 a.root)).setCell ⟨g, (k + 1) * 5 + 4, none⟩ (.int .i64 a.size)) = U3 at hC3 hbN hzN hXN ⊢
        have hb := Lib.hid hbN
        have hz := hzN
        have hX := hXN
        clear hbN hzN hXN
        replace x0 := (hb.out.cell (p := ⟨w.heap.size, 0, none⟩) (Nat.lt_succ_self _)).trans k0.out
        replace x1 := (hb.out.cell (p := ⟨w.heap.size, 1, none⟩) (Nat.lt_succ_self _)).trans k1.out
        replace x2 := (hb.out.cell (p := ⟨w.heap.size, 2, none⟩) (Nat.lt_succ_self _)).trans k2.out
        clear xw0 xw1 xw2 xw3 xw4
        have hl3 : ((l1.set k b).set (k + 1) a).length = n1 := by rw [List.length_set, List.length_set, hn1.out]
        have hb3 : lays inoK ((l1.set k b).set (k + 1) a) = none := pair_bad (k := k) (a := b) (b := a) (by rw [List.getElem?_set_ne (by omega), List.getElem?_set_self (by rw [hn1.out]; omega)]) (by rw [List.getElem?_set_self (by rw [List.length_set, hn1.out]; omega)]) had.out
        have r3 := Cells.row (cs := inoC) (sz := 5) (fun _ => rfl) (by decide) hC3
        rw [hl3] at r3
        replace hb3 := Lib.hid hb3
        replace r3 := Lib.hid r3
        replace hl3 := Lib.hid hl3
        replace hC3 := Lib.hid hC3
        go_wp2_with fail
        refine (oI_none r3.out hl3.out (fun _ _ => trivial) (by omega) hb3.out).mono ?_
        rintro e y1 ⟨rfl, d9⟩
        have hC4 := hC3.out.below d9
        clear hX
        replace hb := Lib.hid (hb.out.trans (d9.mono hz))
        replace hz := Nat.le_trans hz d9.size
        replace x0 := (hb.out.cell (p := ⟨w.heap.size, 0, none⟩) (Nat.lt_succ_self _)).trans k0.out
        replace x1 := (hb.out.cell (p := ⟨w.heap.size, 1, none⟩) (Nat.lt_succ_self _)).trans k1.out
        replace x2 := (hb.out.cell (p := ⟨w.heap.size, 2, none⟩) (Nat.lt_succ_self _)).trans k2.out
        clear d9
        clear hC4
        clear hk hkm hkm2 hd0 hd2 hkl
        clear hnn
        go_wp2_with fail
        refine (fixed_any _ (hL0.below hb.out (by omega))).mono ?_
        rintro e wf ⟨rfl, bf⟩
        replace hb := Lib.hid (hb.out.trans (bf.mono hz))
        clear bf
        go_wp2_with fail
        go_ret
        exact ⟨rfl, hb0.out.trans (hb.out.mono (Nat.le_succ _))⟩
  · replace e2 := Lib.hid e2
    have hr2 := Lib.hid (z2.out.below (by rw [hze.out]; exact hb.out))
    go_wp2_with fail
    first
      | (refine (oE_none hr2.out hn2.out hg2.out hm2 e2.out).mono ?_; rintro e v2 ⟨rfl, d2⟩)
      | (refine (oE_some hr2.out hn2.out hg2.out hm2 e2.out).mono ?_; rintro e v2 ⟨rfl, d2⟩)
    replace hb := Lib.hid (hb.out.trans (d2.mono hz))
    replace hz := Nat.le_trans hz d2.size
    replace x0 := (hb.out.cell (p := ⟨w.heap.size, 0, none⟩) (Nat.lt_succ_self _)).trans k0.out
    replace x1 := (hb.out.cell (p := ⟨w.heap.size, 1, none⟩) (Nat.lt_succ_self _)).trans k1.out
    replace x2 := (hb.out.cell (p := ⟨w.heap.size, 2, none⟩) (Nat.lt_succ_self _)).trans k2.out
    clear d2
    have g2 := f2.out
    rcases g2 with g2 | g2
    · clear hr2
      rcases e1 with e1 | ⟨T1, e1⟩
      · replace e1 := Lib.hid e1
        have hr1 := Lib.hid (z1.out.below (by rw [hze.out]; exact hb.out))
        go_wp2_with fail
        first
          | (refine (oI_none hr1.out hn1.out hg1.out hm1 e1.out).mono ?_; rintro e v1 ⟨rfl, d1⟩)
          | (refine (oI_some hr1.out hn1.out hg1.out hm1 e1.out).mono ?_; rintro e v1 ⟨rfl, d1⟩)
        replace hb := Lib.hid (hb.out.trans (d1.mono hz))
        replace hz := Nat.le_trans hz d1.size
        replace x0 := (hb.out.cell (p := ⟨w.heap.size, 0, none⟩) (Nat.lt_succ_self _)).trans k0.out
        replace x1 := (hb.out.cell (p := ⟨w.heap.size, 1, none⟩) (Nat.lt_succ_self _)).trans k1.out
        replace x2 := (hb.out.cell (p := ⟨w.heap.size, 2, none⟩) (Nat.lt_succ_self _)).trans k2.out
        clear d1
        clear hr1
        go_wp2_with fail
        refine (fixed_any _ (hL0.below hb.out (by omega))).mono ?_
        rintro e wf ⟨rfl, bf⟩
        replace hb := Lib.hid (hb.out.trans (bf.mono hz))
        clear bf
        go_wp2_with fail
        go_ret
        exact ⟨rfl, hb0.out.trans (hb.out.mono (Nat.le_succ _))⟩
      · replace e1 := Lib.hid e1
        have hr1 := Lib.hid (z1.out.below (by rw [hze.out]; exact hb.out))
        go_wp2_with fail
        first
          | (refine (oI_none hr1.out hn1.out hg1.out hm1 e1.out).mono ?_; rintro e v1 ⟨rfl, d1⟩)
          | (refine (oI_some hr1.out hn1.out hg1.out hm1 e1.out).mono ?_; rintro e v1 ⟨rfl, d1⟩)
        replace hb := Lib.hid (hb.out.trans (d1.mono hz))
        replace hz := Nat.le_trans hz d1.size
        replace x0 := (hb.out.cell (p := ⟨w.heap.size, 0, none⟩) (Nat.lt_succ_self _)).trans k0.out
        replace x1 := (hb.out.cell (p := ⟨w.heap.size, 1, none⟩) (Nat.lt_succ_self _)).trans k1.out
        replace x2 := (hb.out.cell (p := ⟨w.heap.size, 2, none⟩) (Nat.lt_succ_self _)).trans k2.out
        clear d1
        have g1 := f1.out
        rcases g1 with g1 | g1
        · clear hr1
          go_wp2_with fail
          refine (fixed_any _ (hL0.below hb.out (by omega))).mono ?_
          rintro e wf ⟨rfl, bf⟩
          replace hb := Lib.hid (hb.out.trans (bf.mono hz))
          clear bf
          go_wp2_with fail
          go_ret
          exact ⟨rfl, hb0.out.trans (hb.out.mono (Nat.le_succ _))⟩
        · clear hr1
          have hr1 := Lib.hid (z1.out.below (by rw [hze.out]; exact hb.out))
          have hln := (lays_len_I e1.out).2
          have hnn : 1 < n1 := by omega
          have hn4 : n1 ≤ 4096 := by rw [← hn1.out]; exact hln
          obtain ⟨k, hk⟩ : ∃ k, k = mm % (n1 - 1) := ⟨_, rfl⟩
          have hkl : k < n1 - 1 := by rw [hk]; exact Nat.mod_lt _ (by omega)
          have hkm : ((mm : Int) % ((n1 : Int) - 1)) = (k : Int) := by
            rw [hk, show ((n1 : Int) - 1) = ((n1 - 1 : Nat) : Int) by omega]
            rfl
          have hkm2 : ((mm : Int).tmod ((n1 : Int) - 1)) = (k : Int) := by
            rw [Int.tmod_eq_emod_of_nonneg (by omega)]
            exact hkm
          have hd0 : ¬ ((n1 : Int) - 1 = 0) := by omega
          have hd2 : ¬ ((n1 : Int) = 1) := by omega
          replace hk := Lib.hid hk
          obtain ⟨a, ha⟩ : ∃ a, l1[k]? = some a := ⟨_, List.getElem?_eq_getElem (by rw [hn1.out]; omega)⟩
          obtain ⟨b, hbb⟩ : ∃ b, l1[k + 1]? = some b := ⟨_, List.getElem?_eq_getElem (by rw [hn1.out]; omega)⟩
          obtain ⟨had, hta⟩ := ino_turn (okAll_pair (ok_iff.mp (lays_some e1.out).1).2 ha hbb)
          obtain ⟨ad, haa, _⟩ := row_elem (sz := 5) (fun _ => rfl) (by decide) hr1.out ha
          subst haa
          replace hln := Lib.hid hln
          replace ha := Lib.hid ha
          replace hbb := Lib.hid hbb
          replace had := Lib.hid had
          replace hta := Lib.hid hta
          have y1 := (World.cell?_alloc_lt v1 (.cells #[] 38) ⟨w.heap.size, 0, none⟩ (show w.heap.size < _ by omega)).trans x0
          go_wp2_with (at_builtin; refine wpList_append_own _ rfl (.tmp 106) (.tmp 108) _ rfl v1.heap.size 38 ii (inoV inoK.zero) 5 40 Tryd.underlying24 hii zi0 zi1 zi2 rfl (by decide) (.slice (some ⟨v1.heap.size, 0, none⟩) 0 0) 0 [] rfl (own_empty _ _ _) ad n1 c1 (l1.flatMap inoC) rfl (hr1.out.1) (row_cells (hr1.out.below ((Below.refl _ _).alloc (Nat.le_refl _) _))) (one_all one_ino) (by unfold maxLen; omega) (by omega) (by simp) ?_)
          intro vv W1 hown hgr _
          have bW1 : Below v1.heap.size v1 W1 := ((Below.refl _ _).alloc (Nat.le_refl _) _).trans (Only.toBelow hgr (Nat.le_refl _) (by simp))
          obtain ⟨g, cc, rfl, hgb, hC⟩ := Cells.of_own (cs := inoC) (l := l1) (fun _ => rfl) (by decide) hown (by omega)
          have hgB : w.heap.size + 1 ≤ g := Nat.le_trans hz hgb
          clear hown hgr y1
          replace hb := Lib.hid (hb.out.trans (bW1.mono hz))
          replace hz := Nat.le_trans hz bW1.size
          replace x0 := (hb.out.cell (p := ⟨w.heap.size, 0, none⟩) (Nat.lt_succ_self _)).trans k0.out
          replace x1 := (hb.out.cell (p := ⟨w.heap.size, 1, none⟩) (Nat.lt_succ_self _)).trans k1.out
          replace x2 := (hb.out.cell (p := ⟨w.heap.size, 2, none⟩) (Nat.lt_succ_self _)).trans k2.out
          clear bW1
          have p0 : W1.cell? ⟨g, k * 5, none⟩ = some (.int .i64 a.num) := hC.2 k a ha.out 0 _ rfl
          have p1 : W1.cell? ⟨g, k * 5 + 1, none⟩ = some (.bool a.dir) := hC.2 k a ha.out 1 _ rfl
          have p2 : W1.cell? ⟨g, k * 5 + 2, none⟩ = some (.int .i64 a.links) := hC.2 k a ha.out 2 _ rfl
          have p3 : W1.cell? ⟨g, k * 5 + 3, none⟩ = some (.int .i64 a.root) := hC.2 k a ha.out 3 _ rfl
          have p4 : W1.cell? ⟨g, k * 5 + 4, none⟩ = some (.int .i64 a.size) := hC.2 k a ha.out 4 _ rfl
          have bx : W1.heap.size ≠ g := by have := hC.lt; omega
          have hX : Blk (W1.alloc (.cells #[.int .i64 a.num, .bool a.dir, .int .i64 a.links, .int .i64 a.root, .int .i64 a.size] 38)) W1.heap.size 38 #[.int .i64 a.num, .bool a.dir, .int .i64 a.links, .int .i64 a.root, .int .i64 a.size] := Blk.new _ _ _
          have bA : Below W1.heap.size W1 (W1.alloc (.cells #[.int .i64 a.num, .bool a.dir, .int .i64 a.links, .int .i64 a.root, .int .i64 a.size] 38)) := (Below.refl _ _).alloc (Nat.le_refl _) _
          have hC1 := hC.below bA
          replace hb := Lib.hid (hb.out.trans (bA.mono hz))
          replace hz := Nat.le_trans hz bA.size
          replace x0 := (hb.out.cell (p := ⟨w.heap.size, 0, none⟩) (Nat.lt_succ_self _)).trans k0.out
          replace x1 := (hb.out.cell (p := ⟨w.heap.size, 1, none⟩) (Nat.lt_succ_self _)).trans k1.out
          replace x2 := (hb.out.cell (p := ⟨w.heap.size, 2, none⟩) (Nat.lt_succ_self _)).trans k2.out
          clear bA hC
          replace hb := Lib.hid hb.out
          go_upto_region 18 with fail
          clear p0 p1 p2 p3 p4
          generalize W1.heap.size = bq at hX bx ⊢
          generalize (W1.alloc (.cells #[.int .i64 a.num, .bool a.dir, .int .i64 a.links, .int .i64 a.root, .int .i64 a.size] 38)) = U1 at hX hC1 hb hz x0 x1 x2 ⊢
          have p0 : U1.cell? ⟨g, (k + 1) * 5, none⟩ = some (.int .i64 b.num) := hC1.2 (k + 1) b hbb.out 0 _ rfl
          have p1 : U1.cell? ⟨g, (k + 1) * 5 + 1, none⟩ = some (.bool b.dir) := hC1.2 (k + 1) b hbb.out 1 _ rfl
          have p2 : U1.cell? ⟨g, (k + 1) * 5 + 2, none⟩ = some (.int .i64 b.links) := hC1.2 (k + 1) b hbb.out 2 _ rfl
          have p3 : U1.cell? ⟨g, (k + 1) * 5 + 3, none⟩ = some (.int .i64 b.root) := hC1.2 (k + 1) b hbb.out 3 _ rfl
          have p4 : U1.cell? ⟨g, (k + 1) * 5 + 4, none⟩ = some (.int .i64 b.size) := hC1.2 (k + 1) b hbb.out 4 _ rfl
          have t0 : U1.cell? ⟨g, k * 5, none⟩ = some (.int .i64 a.num) := hC1.2 k a ha.out 0 _ rfl
          have t1 : U1.cell? ⟨g, k * 5 + 1, none⟩ = some (.bool a.dir) := hC1.2 k a ha.out 1 _ rfl
          have t2 : U1.cell? ⟨g, k * 5 + 2, none⟩ = some (.int .i64 a.links) := hC1.2 k a ha.out 2 _ rfl
          have t3 : U1.cell? ⟨g, k * 5 + 3, none⟩ = some (.int .i64 a.root) := hC1.2 k a ha.out 3 _ rfl
          have t4 : U1.cell? ⟨g, k * 5 + 4, none⟩ = some (.int .i64 a.size) := hC1.2 k a ha.out 4 _ rfl
          have q0 : U1.frozen? ⟨g, k * 5, none⟩ = false := hC1.free _
          have q1 : U1.frozen? ⟨g, k * 5 + 1, none⟩ = false := hC1.free _
          have q2 : U1.frozen? ⟨g, k * 5 + 2, none⟩ = false := hC1.free _
          have q3 : U1.frozen? ⟨g, k * 5 + 3, none⟩ = false := hC1.free _
          have q4 : U1.frozen? ⟨g, k * 5 + 4, none⟩ = false := hC1.free _
          replace hC1 := Lib.hid hC1
          replace hX := Lib.hid hX
          go_upto_region 19 with fail
          clear p0 p1 p2 p3 p4 q0 q1 q2 q3 q4 t0 t1 t2 t3 t4
          have hC2 : Cells inoC 5 38 (((((U1.setCell ⟨g, k * 5, none⟩ (.int .i64 b.num)).setCell ⟨g, k * 5 + 1, none⟩ (.bool b.dir)).setCell ⟨g, k * 5 + 2, none⟩ (.int .i64 b.links)).setCell ⟨g, k * 5 + 3, none⟩ (.int .i64 b.root)).setCell ⟨g, k * 5 + 4, none⟩ (.int .i64 b.size)) g (l1.set k b) := hC1.out.put5 (x := b) rfl (by rw [hn1.out]; omega) (fun _ => rfl)
          have hbN : Below (w.heap.size + 1) w0 (((((U1.setCell ⟨g, k * 5, none⟩ (.int .i64 b.num)).setCell ⟨g, k * 5 + 1, none⟩ (.bool b.dir)).setCell ⟨g, k * 5 + 2, none⟩ (.int .i64 b.links)).setCell ⟨g, k * 5 + 3, none⟩ (.int .i64 b.root)).setCell ⟨g, k * 5 + 4, none⟩ (.int .i64 b.size)) := (((((hb.out.setCell (p := ⟨g, _, none⟩) hgB _).setCell (p := ⟨g, _, none⟩) hgB _).setCell (p := ⟨g, _, none⟩) hgB _).setCell (p := ⟨g, _, none⟩) hgB _).setCell (p := ⟨g, _, none⟩) hgB _)
          have hzN : w.heap.size + 1 ≤ (((((U1.setCell ⟨g, k * 5, none⟩ (.int .i64 b.num)).setCell ⟨g, k * 5 + 1, none⟩ (.bool b.dir)).setCell ⟨g, k * 5 + 2, none⟩ (.int .i64 b.links)).setCell ⟨g, k * 5 + 3, none⟩ (.int .i64 b.root)).setCell ⟨g, k * 5 + 4, none⟩ (.int .i64 b.size)).heap.size := by simpa [World.setCell] using hz
          have hXN : Blk (((((U1.setCell ⟨g, k * 5, none⟩ (.int .i64 b.num)).setCell ⟨g, k * 5 + 1, none⟩ (.bool b.dir)).setCell ⟨g, k * 5 + 2, none⟩ (.int .i64 b.links)).setCell ⟨g, k * 5 + 3, none⟩ (.int .i64 b.root)).setCell ⟨g, k * 5 + 4, none⟩ (.int .i64 b.size)) bq 38 #[.int .i64 a.num, .bool a.dir, .int .i64 a.links, .int .i64 a.root, .int .i64 a.size] := (((((hX.out.far (p := ⟨g, _, none⟩) bx _).far (p := ⟨g, _, none⟩) bx _).far (p := ⟨g, _, none⟩) bx _).far (p := ⟨g, _, none⟩) bx _).far (p := ⟨g, _, none⟩) bx _)
          clear hb hz hX hC1
          generalize (((((U1.setCell ⟨g, k * 5, none⟩ (.int .i64 b.num)).setCell ⟨g, k * 5 + 1, none⟩ (.bool b.dir)).setCell ⟨g, k * 5 + 2, none⟩ (.int .i64 b.links)).setCell ⟨g, k * 5 + 3, none⟩ (.int .i64 b.root)).setCell ⟨g, k * 5 + 4, none⟩ (.int .i64 b.size)) = U2 at hC2 hbN hzN hXN ⊢
          have hb := Lib.hid hbN
          have hz := hzN
          have hX := hXN
          clear hbN hzN hXN
          replace x0 := (hb.out.cell (p := ⟨w.heap.size, 0, none⟩) (Nat.lt_succ_self _)).trans k0.out
          replace x1 := (hb.out.cell (p := ⟨w.heap.size, 1, none⟩) (Nat.lt_succ_self _)).trans k1.out
          replace x2 := (hb.out.cell (p := ⟨w.heap.size, 2, none⟩) (Nat.lt_succ_self _)).trans k2.out
          have xw0 := hX.cell 0
          have xw1 := hX.cell 1
          have xw2 := hX.cell 2
          have xw3 := hX.cell 3
          have xw4 := hX.cell 4
          have t0 : U2.cell? ⟨g, (k + 1) * 5, none⟩ = some (.int .i64 b.num) := hC2.2 (k + 1) b (by rw [List.getElem?_set_ne (by omega)]; exact hbb.out) 0 _ rfl
          have t1 : U2.cell? ⟨g, (k + 1) * 5 + 1, none⟩ = some (.bool b.dir) := hC2.2 (k + 1) b (by rw [List.getElem?_set_ne (by omega)]; exact hbb.out) 1 _ rfl
          have t2 : U2.cell? ⟨g, (k + 1) * 5 + 2, none⟩ = some (.int .i64 b.links) := hC2.2 (k + 1) b (by rw [List.getElem?_set_ne (by omega)]; exact hbb.out) 2 _ rfl
          have t3 : U2.cell? ⟨g, (k + 1) * 5 + 3, none⟩ = some (.int .i64 b.root) := hC2.2 (k + 1) b (by rw [List.getElem?_set_ne (by omega)]; exact hbb.out) 3 _ rfl
          have t4 : U2.cell? ⟨g, (k + 1) * 5 + 4, none⟩ = some (.int .i64 b.size) := hC2.2 (k + 1) b (by rw [List.getElem?_set_ne (by omega)]; exact hbb.out) 4 _ rfl
          have q0 : U2.frozen? ⟨g, (k + 1) * 5, none⟩ = false := hC2.free _
          have q1 : U2.frozen? ⟨g, (k + 1) * 5 + 1, none⟩ = false := hC2.free _
          have q2 : U2.frozen? ⟨g, (k + 1) * 5 + 2, none⟩ = false := hC2.free _
          have q3 : U2.frozen? ⟨g, (k + 1) * 5 + 3, none⟩ = false := hC2.free _
          have q4 : U2.frozen? ⟨g, (k + 1) * 5 + 4, none⟩ = false := hC2.free _
          have p0 := trivial
          have p1 := trivial
          have p2 := trivial
          have p3 := trivial
          have p4 := trivial
          replace hC2 := Lib.hid hC2
          replace hX := Lib.hid hX
          go_upto_region 20 with fail
          clear p0 p1 p2 p3 p4 q0 q1 q2 q3 q4 t0 t1 t2 t3 t4
          have hC3 : Cells inoC 5 38 (((((U2.setCell ⟨g, (k + 1) * 5, none⟩ (.int .i64 a.num)).setCell ⟨g, (k + 1) * 5 + 1, none⟩ (.bool a.dir)).setCell ⟨g, (k + 1) * 5 + 2, none⟩ (.int .i64 a.links)).setCell ⟨g, (k + 1) * 5 + 3, none⟩ (.int .i64 a.root)).setCell ⟨g, (k + 1) * 5 + 4, none⟩ (.int .i64 a.size)) g ((l1.set k b).set (k + 1) a) := hC2.out.put5 (x := a) rfl (by rw [List.length_set, hn1.out]; omega) (fun _ => rfl)
          have hbN : Below (w.heap.size + 1) w0 (((((U2.setCell ⟨g, (k + 1) * 5, none⟩ (.int .i64 a.num)).setCell ⟨g, (k + 1) * 5 + 1, none⟩ (.bool a.dir)).setCell ⟨g, (k + 1) * 5 + 2, none⟩ (.int .i64 a.links)).setCell ⟨g, (k + 1) * 5 + 3, none⟩ (.int .i64 a.root)).setCell ⟨g, (k + 1) * 5 + 4, none⟩ (.int .i64 a.size)) := (((((hb.out.setCell (p := ⟨g, _, none⟩) hgB _).setCell (p := ⟨g, _, none⟩) hgB _).setCell (p := ⟨g, _, none⟩) hgB _).setCell (p := ⟨g, _, none⟩) hgB _).setCell (p := ⟨g, _, none⟩) hgB _)
          have hzN : w.heap.size + 1 ≤ (((((U2.setCell ⟨g, (k + 1) * 5, none⟩ (.int .i64 a.num)).setCell ⟨g, (k + 1) * 5 + 1, none⟩ (.bool a.dir)).setCell ⟨g, (k + 1) * 5 + 2, none⟩ (.int .i64 a.links)).setCell ⟨g, (k + 1) * 5 + 3, none⟩ (.int .i64 a.root)).setCell ⟨g, (k + 1) * 5 + 4, none⟩ (.int .i64 a.size)).heap.size := by simpa [World.setCell] using hz
          have hXN : Blk (((((U2.setCell ⟨g, (k + 1) * 5, none⟩ (.int .i64 a.num)).setCell ⟨g, (k + 1) * 5 + 1, none⟩ (.bool a.dir)).setCell ⟨g, (k + 1) * 5 + 2, none⟩ (.int .i64 a.links)).setCell ⟨g, (k + 1) * 5 + 3, none⟩ (.int .i64 a.root)).setCell ⟨g, (k + 1) * 5 + 4, none⟩ (.int .i64 a.size)) bq 38 #[.int .i64 a.num, .bool a.dir, .int .i64 a.links, .int .i64 a.root, .int .i64 a.size] := (((((hX.out.far (p := ⟨g, _, none⟩) bx _).far (p := ⟨g, _, none⟩) bx _).far (p := ⟨g, _, none⟩) bx _).far (p := ⟨g, _, none⟩) bx _).far (p := ⟨g, _, none⟩) bx _)
          clear hb hz hX hC2
          generalize (((((U2.setCell ⟨g, (k + 1) * 5, none⟩ (.int .i64 a.num)).setCell ⟨g, (k + 1) * 5 + 1, none⟩ (.bool a.dir)).setCell ⟨g, (k + 1) * 5 + 2, none⟩ (.int .i64 a.links)).setCell ⟨g, (k + 1) * 5 + 3, none⟩ (.int .i64 a.root)).setCell ⟨g, (k + 1) * 5 + 4, none⟩ (.int .i64 a.size)) = U3 at hC3 hbN hzN hXN ⊢
          have hb := Lib.hid hbN
          have hz := hzN
          have hX := hXN
          clear hbN hzN hXN
          replace x0 := (hb.out.cell (p := ⟨w.heap.size, 0, none⟩) (Nat.lt_succ_self _)).trans k0.out
          replace x1 := (hb.out.cell (p := ⟨w.heap.size, 1, none⟩) (Nat.lt_succ_self _)).trans k1.out
          replace x2 := (hb.out.cell (p := ⟨w.heap.size, 2, none⟩) (Nat.lt_succ_self _)).trans k2.out
          clear xw0 xw1 xw2 xw3 xw4
          have hl3 : ((l1.set k b).set (k + 1) a).length = n1 := by rw [List.length_set, List.length_set, hn1.out]
          have hb3 : lays inoK ((l1.set k b).set (k + 1) a) = none := pair_bad (k := k) (a := b) (b := a) (by rw [List.getElem?_set_ne (by omega), List.getElem?_set_self (by rw [hn1.out]; omega)]) (by rw [List.getElem?_set_self (by rw [List.length_set, hn1.out]; omega)]) had.out
          have r3 := Cells.row (cs := inoC) (sz := 5) (fun _ => rfl) (by decide) hC3
          rw [hl3] at r3
          replace hb3 := Lib.hid hb3
          replace r3 := Lib.hid r3
          replace hl3 := Lib.hid hl3
          replace hC3 := Lib.hid hC3
          go_wp2_with fail
          refine (oI_none r3.out hl3.out (fun _ _ => trivial) (by omega) hb3.out).mono ?_
          rintro e y1 ⟨rfl, d9⟩
          have hC4 := hC3.out.below d9
          clear hX
          replace hb := Lib.hid (hb.out.trans (d9.mono hz))
          replace hz := Nat.le_trans hz d9.size
          replace x0 := (hb.out.cell (p := ⟨w.heap.size, 0, none⟩) (Nat.lt_succ_self _)).trans k0.out
          replace x1 := (hb.out.cell (p := ⟨w.heap.size, 1, none⟩) (Nat.lt_succ_self _)).trans k1.out
          replace x2 := (hb.out.cell (p := ⟨w.heap.size, 2, none⟩) (Nat.lt_succ_self _)).trans k2.out
          clear d9
          clear hC4
          clear hk hkm hkm2 hd0 hd2 hkl
          clear hnn
          go_wp2_with fail
          refine (fixed_any _ (hL0.below hb.out (by omega))).mono ?_
          rintro e wf ⟨rfl, bf⟩
          replace hb := Lib.hid (hb.out.trans (bf.mono hz))
          clear bf
          go_wp2_with fail
          go_ret
          exact ⟨rfl, hb0.out.trans (hb.out.mono (Nat.le_succ _))⟩
    · clear hr2
      have hr2 := Lib.hid (z2.out.below (by rw [hze.out]; exact hb.out))
      have hln := (lays_len_E e2.out).2
      have hnn : 1 < n2 := by omega
      have hn4 : n2 ≤ 4096 := by rw [← hn2.out]; exact hln
      obtain ⟨k, hk⟩ : ∃ k, k = mm % (n2 - 1) := ⟨_, rfl⟩
      have hkl : k < n2 - 1 := by rw [hk]; exact Nat.mod_lt _ (by omega)
      have hkm : ((mm : Int) % ((n2 : Int) - 1)) = (k : Int) := by
        rw [hk, show ((n2 : Int) - 1) = ((n2 - 1 : Nat) : Int) by omega]
        rfl
      have hkm2 : ((mm : Int).tmod ((n2 : Int) - 1)) = (k : Int) := by
        rw [Int.tmod_eq_emod_of_nonneg (by omega)]
        exact hkm
      have hd0 : ¬ ((n2 : Int) - 1 = 0) := by omega
      have hd2 : ¬ ((n2 : Int) = 1) := by omega
      replace hk := Lib.hid hk
      obtain ⟨a, ha⟩ : ∃ a, l2[k]? = some a := ⟨_, List.getElem?_eq_getElem (by rw [hn2.out]; omega)⟩
      obtain ⟨b, hbb⟩ : ∃ b, l2[k + 1]? = some b := ⟨_, List.getElem?_eq_getElem (by rw [hn2.out]; omega)⟩
      obtain ⟨had, hta⟩ := ent_turn (okAll_pair (ok_iff.mp (lays_some e2.out).1).2 ha hbb)
      obtain ⟨ad, haa, _⟩ := row_elem (sz := 2) (fun _ => rfl) (by decide) hr2.out ha
      subst haa
      replace hln := Lib.hid hln
      replace ha := Lib.hid ha
      replace hbb := Lib.hid hbb
      replace had := Lib.hid had
      replace hta := Lib.hid hta
      have y1 := (World.cell?_alloc_lt v2 (.cells #[] 33) ⟨w.heap.size, 1, none⟩ (show w.heap.size < _ by omega)).trans x1
      go_wp2_with (at_builtin; refine wpList_append_own _ rfl (.tmp 40) (.tmp 42) _ rfl v2.heap.size 33 ie (entV entK.zero) 2 24 Tryd.underlying25 hie ze0 ze1 ze2 rfl (by decide) (.slice (some ⟨v2.heap.size, 0, none⟩) 0 0) 0 [] rfl (own_empty _ _ _) ad n2 c2 (l2.flatMap entC) rfl (hr2.out.1) (row_cells (hr2.out.below ((Below.refl _ _).alloc (Nat.le_refl _) _))) (one_all one_ent) (by unfold maxLen; omega) (by omega) (by simp) ?_)
      intro vv W1 hown hgr _
      have bW1 : Below v2.heap.size v2 W1 := ((Below.refl _ _).alloc (Nat.le_refl _) _).trans (Only.toBelow hgr (Nat.le_refl _) (by simp))
      obtain ⟨g, cc, rfl, hgb, hC⟩ := Cells.of_own (cs := entC) (l := l2) (fun _ => rfl) (by decide) hown (by omega)
      have hgB : w.heap.size + 1 ≤ g := Nat.le_trans hz hgb
      clear hown hgr y1
      replace hb := Lib.hid (hb.out.trans (bW1.mono hz))
      replace hz := Nat.le_trans hz bW1.size
      replace x0 := (hb.out.cell (p := ⟨w.heap.size, 0, none⟩) (Nat.lt_succ_self _)).trans k0.out
      replace x1 := (hb.out.cell (p := ⟨w.heap.size, 1, none⟩) (Nat.lt_succ_self _)).trans k1.out
      replace x2 := (hb.out.cell (p := ⟨w.heap.size, 2, none⟩) (Nat.lt_succ_self _)).trans k2.out
      clear bW1
      have p0 : W1.cell? ⟨g, k * 2, none⟩ = some (.string a.name) := hC.2 k a ha.out 0 _ rfl
      have p1 : W1.cell? ⟨g, k * 2 + 1, none⟩ = some (.int .i64 a.num) := hC.2 k a ha.out 1 _ rfl
      have bx : W1.heap.size ≠ g := by have := hC.lt; omega
      have hX : Blk (W1.alloc (.cells #[.string a.name, .int .i64 a.num] 33)) W1.heap.size 33 #[.string a.name, .int .i64 a.num] := Blk.new _ _ _
      have bA : Below W1.heap.size W1 (W1.alloc (.cells #[.string a.name, .int .i64 a.num] 33)) := (Below.refl _ _).alloc (Nat.le_refl _) _
      have hC1 := hC.below bA
      replace hb := Lib.hid (hb.out.trans (bA.mono hz))
      replace hz := Nat.le_trans hz bA.size
      replace x0 := (hb.out.cell (p := ⟨w.heap.size, 0, none⟩) (Nat.lt_succ_self _)).trans k0.out
      replace x1 := (hb.out.cell (p := ⟨w.heap.size, 1, none⟩) (Nat.lt_succ_self _)).trans k1.out
      replace x2 := (hb.out.cell (p := ⟨w.heap.size, 2, none⟩) (Nat.lt_succ_self _)).trans k2.out
      clear bA hC
      replace hb := Lib.hid hb.out
      go_upto_region 6 with fail
      clear p0 p1
      generalize W1.heap.size = bq at hX bx ⊢
      generalize (W1.alloc (.cells #[.string a.name, .int .i64 a.num] 33)) = U1 at hX hC1 hb hz x0 x1 x2 ⊢
      have p0 : U1.cell? ⟨g, (k + 1) * 2, none⟩ = some (.string b.name) := hC1.2 (k + 1) b hbb.out 0 _ rfl
      have p1 : U1.cell? ⟨g, (k + 1) * 2 + 1, none⟩ = some (.int .i64 b.num) := hC1.2 (k + 1) b hbb.out 1 _ rfl
      have t0 : U1.cell? ⟨g, k * 2, none⟩ = some (.string a.name) := hC1.2 k a ha.out 0 _ rfl
      have t1 : U1.cell? ⟨g, k * 2 + 1, none⟩ = some (.int .i64 a.num) := hC1.2 k a ha.out 1 _ rfl
      have q0 : U1.frozen? ⟨g, k * 2, none⟩ = false := hC1.free _
      have q1 : U1.frozen? ⟨g, k * 2 + 1, none⟩ = false := hC1.free _
      replace hC1 := Lib.hid hC1
      replace hX := Lib.hid hX
      go_upto_region 7 with fail
      clear p0 p1 q0 q1 t0 t1
      have hC2 : Cells entC 2 33 ((U1.setCell ⟨g, k * 2, none⟩ (.string b.name)).setCell ⟨g, k * 2 + 1, none⟩ (.int .i64 b.num)) g (l2.set k b) := hC1.out.put2 (x := b) rfl (by rw [hn2.out]; omega) (fun _ => rfl)
      have hbN : Below (w.heap.size + 1) w0 ((U1.setCell ⟨g, k * 2, none⟩ (.string b.name)).setCell ⟨g, k * 2 + 1, none⟩ (.int .i64 b.num)) := ((hb.out.setCell (p := ⟨g, _, none⟩) hgB _).setCell (p := ⟨g, _, none⟩) hgB _)
      have hzN : w.heap.size + 1 ≤ ((U1.setCell ⟨g, k * 2, none⟩ (.string b.name)).setCell ⟨g, k * 2 + 1, none⟩ (.int .i64 b.num)).heap.size := by simpa [World.setCell] using hz
      have hXN : Blk ((U1.setCell ⟨g, k * 2, none⟩ (.string b.name)).setCell ⟨g, k * 2 + 1, none⟩ (.int .i64 b.num)) bq 33 #[.string a.name, .int .i64 a.num] := ((hX.out.far (p := ⟨g, _, none⟩) bx _).far (p := ⟨g, _, none⟩) bx _)
      clear hb hz hX hC1
      generalize ((U1.setCell ⟨g, k * 2, none⟩ (.string b.name)).setCell ⟨g, k * 2 + 1, none⟩ (.int .i64 b.num)) = U2 at hC2 hbN hzN hXN ⊢
      have hb := Lib.hid hbN
      have hz := hzN
      have hX := hXN
      clear hbN hzN hXN
      replace x0 := (hb.out.cell (p := ⟨w.heap.size, 0, none⟩) (Nat.lt_succ_self _)).trans k0.out
      replace x1 := (hb.out.cell (p := ⟨w.heap.size, 1, none⟩) (Nat.lt_succ_self _)).trans k1.out
      replace x2 := (hb.out.cell (p := ⟨w.heap.size, 2, none⟩) (Nat.lt_succ_self _)).trans k2.out
      have xw0 := hX.cell 0
      have xw1 := hX.cell 1
      have t0 : U2.cell? ⟨g, (k + 1) * 2, none⟩ = some (.string b.name) := hC2.2 (k + 1) b (by rw [List.getElem?_set_ne (by omega)]; exact hbb.out) 0 _ rfl
      have t1 : U2.cell? ⟨g, (k + 1) * 2 + 1, none⟩ = some (.int .i64 b.num) := hC2.2 (k + 1) b (by rw [List.getElem?_set_ne (by omega)]; exact hbb.out) 1 _ rfl
      have q0 : U2.frozen? ⟨g, (k + 1) * 2, none⟩ = false := hC2.free _
      have q1 : U2.frozen? ⟨g, (k + 1) * 2 + 1, none⟩ = false := hC2.free _
      have p0 := trivial
      have p1 := trivial
      replace hC2 := Lib.hid hC2
      replace hX := Lib.hid hX
      go_upto_region 8 with fail
      clear p0 p1 q0 q1 t0 t1
      have hC3 : Cells entC 2 33 ((U2.setCell ⟨g, (k + 1) * 2, none⟩ (.string a.name)).setCell ⟨g, (k + 1) * 2 + 1, none⟩ (.int .i64 a.num)) g ((l2.set k b).set (k + 1) a) := hC2.out.put2 (x := a) rfl (by rw [List.length_set, hn2.out]; omega) (fun _ => rfl)
      have hbN : Below (w.heap.size + 1) w0 ((U2.setCell ⟨g, (k + 1) * 2, none⟩ (.string a.name)).setCell ⟨g, (k + 1) * 2 + 1, none⟩ (.int .i64 a.num)) := ((hb.out.setCell (p := ⟨g, _, none⟩) hgB _).setCell (p := ⟨g, _, none⟩) hgB _)
      have hzN : w.heap.size + 1 ≤ ((U2.setCell ⟨g, (k + 1) * 2, none⟩ (.string a.name)).setCell ⟨g, (k + 1) * 2 + 1, none⟩ (.int .i64 a.num)).heap.size := by simpa [World.setCell] using hz
      have hXN : Blk ((U2.setCell ⟨g, (k + 1) * 2, none⟩ (.string a.name)).setCell ⟨g, (k + 1) * 2 + 1, none⟩ (.int .i64 a.num)) bq 33 #[.string a.name, .int .i64 a.num] := ((hX.out.far (p := ⟨g, _, none⟩) bx _).far (p := ⟨g, _, none⟩) bx _)
      clear hb hz hX hC2
      generalize ((U2.setCell ⟨g, (k + 1) * 2, none⟩ (.string a.name)).setCell ⟨g, (k + 1) * 2 + 1, none⟩ (.int .i64 a.num)) = U3 at hC3 hbN hzN hXN ⊢
      have hb := Lib.hid hbN
      have hz := hzN
      have hX := hXN
      clear hbN hzN hXN
      replace x0 := (hb.out.cell (p := ⟨w.heap.size, 0, none⟩) (Nat.lt_succ_self _)).trans k0.out
      replace x1 := (hb.out.cell (p := ⟨w.heap.size, 1, none⟩) (Nat.lt_succ_self _)).trans k1.out
      replace x2 := (hb.out.cell (p := ⟨w.heap.size, 2, none⟩) (Nat.lt_succ_self _)).trans k2.out
      clear xw0 xw1
      have hl3 : ((l2.set k b).set (k + 1) a).length = n2 := by rw [List.length_set, List.length_set, hn2.out]
      have hb3 : lays entK ((l2.set k b).set (k + 1) a) = none := pair_bad (k := k) (a := b) (b := a) (by rw [List.getElem?_set_ne (by omega), List.getElem?_set_self (by rw [hn2.out]; omega)]) (by rw [List.getElem?_set_self (by rw [List.length_set, hn2.out]; omega)]) had.out
      have r3 := Cells.row (cs := entC) (sz := 2) (fun _ => rfl) (by decide) hC3
      rw [hl3] at r3
      replace hb3 := Lib.hid hb3
      replace r3 := Lib.hid r3
      replace hl3 := Lib.hid hl3
      replace hC3 := Lib.hid hC3
      go_wp2_with fail
      refine (oE_none r3.out hl3.out (fun _ _ => trivial) (by omega) hb3.out).mono ?_
      rintro e y1 ⟨rfl, d9⟩
      have hC4 := hC3.out.below d9
      clear hX
      replace hb := Lib.hid (hb.out.trans (d9.mono hz))
      replace hz := Nat.le_trans hz d9.size
      replace x0 := (hb.out.cell (p := ⟨w.heap.size, 0, none⟩) (Nat.lt_succ_self _)).trans k0.out
      replace x1 := (hb.out.cell (p := ⟨w.heap.size, 1, none⟩) (Nat.lt_succ_self _)).trans k1.out
      replace x2 := (hb.out.cell (p := ⟨w.heap.size, 2, none⟩) (Nat.lt_succ_self _)).trans k2.out
      clear d9
      have p0 : y1.cell? ⟨g, (k + 1) * 2, none⟩ = some (.string a.name) := hC4.2 (k + 1) a (by rw [List.getElem?_set_self (by rw [List.length_set, hn2.out]; omega)]) 0 _ rfl
      have p1 : y1.cell? ⟨g, (k + 1) * 2 + 1, none⟩ = some (.int .i64 a.num) := hC4.2 (k + 1) a (by rw [List.getElem?_set_self (by rw [List.length_set, hn2.out]; omega)]) 1 _ rfl
      have t0 : y1.cell? ⟨g, k * 2, none⟩ = some (.string b.name) := hC4.2 k b (by rw [List.getElem?_set_ne (by omega), List.getElem?_set_self (by rw [hn2.out]; omega)]) 0 _ rfl
      have t1 : y1.cell? ⟨g, k * 2 + 1, none⟩ = some (.int .i64 b.num) := hC4.2 k b (by rw [List.getElem?_set_ne (by omega), List.getElem?_set_self (by rw [hn2.out]; omega)]) 1 _ rfl
      have q0 : y1.frozen? ⟨g, k * 2, none⟩ = false := hC4.free _
      have q1 : y1.frozen? ⟨g, k * 2 + 1, none⟩ = false := hC4.free _
      replace hC4 := Lib.hid hC4
      have hX : True := trivial
      go_upto_region 10 with fail
      clear p0 p1 q0 q1 t0 t1
      have hC5 : Cells entC 2 33 ((y1.setCell ⟨g, k * 2, none⟩ (.string a.name)).setCell ⟨g, k * 2 + 1, none⟩ (.int .i64 a.num)) g (((l2.set k b).set (k + 1) a).set k a) := hC4.out.put2 (x := a) rfl (by rw [List.length_set, List.length_set, hn2.out]; omega) (fun _ => rfl)
      have hbN : Below (w.heap.size + 1) w0 ((y1.setCell ⟨g, k * 2, none⟩ (.string a.name)).setCell ⟨g, k * 2 + 1, none⟩ (.int .i64 a.num)) := ((hb.out.setCell (p := ⟨g, _, none⟩) hgB _).setCell (p := ⟨g, _, none⟩) hgB _)
      have hzN : w.heap.size + 1 ≤ ((y1.setCell ⟨g, k * 2, none⟩ (.string a.name)).setCell ⟨g, k * 2 + 1, none⟩ (.int .i64 a.num)).heap.size := by simpa [World.setCell] using hz
      clear hb hz hX hC4
      generalize ((y1.setCell ⟨g, k * 2, none⟩ (.string a.name)).setCell ⟨g, k * 2 + 1, none⟩ (.int .i64 a.num)) = U4 at hC5 hbN hzN ⊢
      have hb := Lib.hid hbN
      have hz := hzN
      clear hbN hzN
      replace x0 := (hb.out.cell (p := ⟨w.heap.size, 0, none⟩) (Nat.lt_succ_self _)).trans k0.out
      replace x1 := (hb.out.cell (p := ⟨w.heap.size, 1, none⟩) (Nat.lt_succ_self _)).trans k1.out
      replace x2 := (hb.out.cell (p := ⟨w.heap.size, 2, none⟩) (Nat.lt_succ_self _)).trans k2.out
      have hl5 : (((l2.set k b).set (k + 1) a).set k a).length = n2 := by rw [List.length_set, List.length_set, List.length_set, hn2.out]
      have hb5 : lays entK (((l2.set k b).set (k + 1) a).set k a) = none := pair_bad (k := k) (a := a) (b := a) (by rw [List.getElem?_set_self (by rw [List.length_set, List.length_set, hn2.out]; omega)]) (by rw [List.getElem?_set_ne (by omega), List.getElem?_set_self (by rw [List.length_set, hn2.out]; omega)]) hta.out
      have r5 := Cells.row (cs := entC) (sz := 2) (fun _ => rfl) (by decide) hC5
      rw [hl5] at r5
      clear hC5
      replace hb5 := Lib.hid hb5
      replace r5 := Lib.hid r5
      replace hl5 := Lib.hid hl5
      go_wp2_with fail
      refine (oE_none r5.out hl5.out (fun _ _ => trivial) (by omega) hb5.out).mono ?_
      rintro e y2 ⟨rfl, d9⟩
      replace hb := Lib.hid (hb.out.trans (d9.mono hz))
      replace hz := Nat.le_trans hz d9.size
      replace x0 := (hb.out.cell (p := ⟨w.heap.size, 0, none⟩) (Nat.lt_succ_self _)).trans k0.out
      replace x1 := (hb.out.cell (p := ⟨w.heap.size, 1, none⟩) (Nat.lt_succ_self _)).trans k1.out
      replace x2 := (hb.out.cell (p := ⟨w.heap.size, 2, none⟩) (Nat.lt_succ_self _)).trans k2.out
      clear d9
      clear hk hkm hkm2 hd0 hd2 hkl
      clear hnn
      rcases e1 with e1 | ⟨T1, e1⟩
      · replace e1 := Lib.hid e1
        have hr1 := Lib.hid (z1.out.below (by rw [hze.out]; exact hb.out))
        go_wp2_with fail
        first
          | (refine (oI_none hr1.out hn1.out hg1.out hm1 e1.out).mono ?_; rintro e v1 ⟨rfl, d1⟩)
          | (refine (oI_some hr1.out hn1.out hg1.out hm1 e1.out).mono ?_; rintro e v1 ⟨rfl, d1⟩)
        replace hb := Lib.hid (hb.out.trans (d1.mono hz))
        replace hz := Nat.le_trans hz d1.size
        replace x0 := (hb.out.cell (p := ⟨w.heap.size, 0, none⟩) (Nat.lt_succ_self _)).trans k0.out
        replace x1 := (hb.out.cell (p := ⟨w.heap.size, 1, none⟩) (Nat.lt_succ_self _)).trans k1.out
        replace x2 := (hb.out.cell (p := ⟨w.heap.size, 2, none⟩) (Nat.lt_succ_self _)).trans k2.out
        clear d1
        clear hr1
        go_wp2_with fail
        refine (fixed_any _ (hL0.below hb.out (by omega))).mono ?_
        rintro e wf ⟨rfl, bf⟩
        replace hb := Lib.hid (hb.out.trans (bf.mono hz))
        clear bf
        go_wp2_with fail
        go_ret
        exact ⟨rfl, hb0.out.trans (hb.out.mono (Nat.le_succ _))⟩
      · replace e1 := Lib.hid e1
        have hr1 := Lib.hid (z1.out.below (by rw [hze.out]; exact hb.out))
        go_wp2_with fail
        first
          | (refine (oI_none hr1.out hn1.out hg1.out hm1 e1.out).mono ?_; rintro e v1 ⟨rfl, d1⟩)
          | (refine (oI_some hr1.out hn1.out hg1.out hm1 e1.out).mono ?_; rintro e v1 ⟨rfl, d1⟩)
        replace hb := Lib.hid (hb.out.trans (d1.mono hz))
        replace hz := Nat.le_trans hz d1.size
        replace x0 := (hb.out.cell (p := ⟨w.heap.size, 0, none⟩) (Nat.lt_succ_self _)).trans k0.out
        replace x1 := (hb.out.cell (p := ⟨w.heap.size, 1, none⟩) (Nat.lt_succ_self _)).trans k1.out
        replace x2 := (hb.out.cell (p := ⟨w.heap.size, 2, none⟩) (Nat.lt_succ_self _)).trans k2.out
        clear d1
        have g1 := f1.out
        rcases g1 with g1 | g1
        · clear hr1
          go_wp2_with fail
          refine (fixed_any _ (hL0.below hb.out (by omega))).mono ?_
          rintro e wf ⟨rfl, bf⟩
          replace hb := Lib.hid (hb.out.trans (bf.mono hz))
          clear bf
          go_wp2_with fail
          go_ret
          exact ⟨rfl, hb0.out.trans (hb.out.mono (Nat.le_succ _))⟩
        · clear hr1
          have hr1 := Lib.hid (z1.out.below (by rw [hze.out]; exact hb.out))
          have hln := (lays_len_I e1.out).2
          have hnn : 1 < n1 := by omega
          have hn4 : n1 ≤ 4096 := by rw [← hn1.out]; exact hln
          obtain ⟨k, hk⟩ : ∃ k, k = mm % (n1 - 1) := ⟨_, rfl⟩
          have hkl : k < n1 - 1 := by rw [hk]; exact Nat.mod_lt _ (by omega)
          have hkm : ((mm : Int) % ((n1 : Int) - 1)) = (k : Int) := by
            rw [hk, show ((n1 : Int) - 1) = ((n1 - 1 : Nat) : Int) by omega]
            rfl
          have hkm2 : ((mm : Int).tmod ((n1 : Int) - 1)) = (k : Int) := by
            rw [Int.tmod_eq_emod_of_nonneg (by omega)]
            exact hkm
          have hd0 : ¬ ((n1 : Int) - 1 = 0) := by omega
          have hd2 : ¬ ((n1 : Int) = 1) := by omega
          replace hk := Lib.hid hk
          obtain ⟨a, ha⟩ : ∃ a, l1[k]? = some a := ⟨_, List.getElem?_eq_getElem (by rw [hn1.out]; omega)⟩
          obtain ⟨b, hbb⟩ : ∃ b, l1[k + 1]? = some b := ⟨_, List.getElem?_eq_getElem (by rw [hn1.out]; omega)⟩
          obtain ⟨had, hta⟩ := ino_turn (okAll_pair (ok_iff.mp (lays_some e1.out).1).2 ha hbb)
          obtain ⟨ad, haa, _⟩ := row_elem (sz := 5) (fun _ => rfl) (by decide) hr1.out ha
          subst haa
          replace hln := Lib.hid hln
          replace ha := Lib.hid ha
          replace hbb := Lib.hid hbb
          replace had := Lib.hid had
          replace hta := Lib.hid hta
          have y1 := (World.cell?_alloc_lt v1 (.cells #[] 38) ⟨w.heap.size, 0, none⟩ (show w.heap.size < _ by omega)).trans x0
          go_wp2_with (at_builtin; refine wpList_append_own _ rfl (.tmp 106) (.tmp 108) _ rfl v1.heap.size 38 ii (inoV inoK.zero) 5 40 Tryd.underlying24 hii zi0 zi1 zi2 rfl (by decide) (.slice (some ⟨v1.heap.size, 0, none⟩) 0 0) 0 [] rfl (own_empty _ _ _) ad n1 c1 (l1.flatMap inoC) rfl (hr1.out.1) (row_cells (hr1.out.below ((Below.refl _ _).alloc (Nat.le_refl _) _))) (one_all one_ino) (by unfold maxLen; omega) (by omega) (by simp) ?_)
          intro vv W1 hown hgr _
          have bW1 : Below v1.heap.size v1 W1 := ((Below.refl _ _).alloc (Nat.le_refl _) _).trans (Only.toBelow hgr (Nat.le_refl _) (by simp))
          obtain ⟨g, cc, rfl, hgb, hC⟩ := Cells.of_own (cs := inoC) (l := l1) (fun _ => rfl) (by decide) hown (by omega)
          have hgB : w.heap.size + 1 ≤ g := Nat.le_trans hz hgb
          clear hown hgr y1
          replace hb := Lib.hid (hb.out.trans (bW1.mono hz))
          replace hz := Nat.le_trans hz bW1.size
          replace x0 := (hb.out.cell (p := ⟨w.heap.size, 0, none⟩) (Nat.lt_succ_self _)).trans k0.out
          replace x1 := (hb.out.cell (p := ⟨w.heap.size, 1, none⟩) (Nat.lt_succ_self _)).trans k1.out
          replace x2 := (hb.out.cell (p := ⟨w.heap.size, 2, none⟩) (Nat.lt_succ_self _)).trans k2.out
          clear bW1
          have p0 : W1.cell? ⟨g, k * 5, none⟩ = some (.int .i64 a.num) := hC.2 k a ha.out 0 _ rfl
          have p1 : W1.cell? ⟨g, k * 5 + 1, none⟩ = some (.bool a.dir) := hC.2 k a ha.out 1 _ rfl
          have p2 : W1.cell? ⟨g, k * 5 + 2, none⟩ = some (.int .i64 a.links) := hC.2 k a ha.out 2 _ rfl
          have p3 : W1.cell? ⟨g, k * 5 + 3, none⟩ = some (.int .i64 a.root) := hC.2 k a ha.out 3 _ rfl
          have p4 : W1.cell? ⟨g, k * 5 + 4, none⟩ = some (.int .i64 a.size) := hC.2 k a ha.out 4 _ rfl
          have bx : W1.heap.size ≠ g := by have := hC.lt; omega
          have hX : Blk (W1.alloc (.cells #[.int .i64 a.num, .bool a.dir, .int .i64 a.links, .int .i64 a.root, .int .i64 a.size] 38)) W1.heap.size 38 #[.int .i64 a.num, .bool a.dir, .int .i64 a.links, .int .i64 a.root, .int .i64 a.size] := Blk.new _ _ _
          have bA : Below W1.heap.size W1 (W1.alloc (.cells #[.int .i64 a.num, .bool a.dir, .int .i64 a.links, .int .i64 a.root, .int .i64 a.size] 38)) := (Below.refl _ _).alloc (Nat.le_refl _) _
          have hC1 := hC.below bA
          replace hb := Lib.hid (hb.out.trans (bA.mono hz))
          replace hz := Nat.le_trans hz bA.size
          replace x0 := (hb.out.cell (p := ⟨w.heap.size, 0, none⟩) (Nat.lt_succ_self _)).trans k0.out
          replace x1 := (hb.out.cell (p := ⟨w.heap.size, 1, none⟩) (Nat.lt_succ_self _)).trans k1.out
          replace x2 := (hb.out.cell (p := ⟨w.heap.size, 2, none⟩) (Nat.lt_succ_self _)).trans k2.out
          clear bA hC
          replace hb := Lib.hid hb.out
          go_upto_region 18 with fail
          clear p0 p1 p2 p3 p4
          generalize W1.heap.size = bq at hX bx ⊢
          generalize (W1.alloc (.cells #[.int .i64 a.num, .bool a.dir, .int .i64 a.links, .int .i64 a.root, .int .i64 a.size] 38)) = U1 at hX hC1 hb hz x0 x1 x2 ⊢
          have p0 : U1.cell? ⟨g, (k + 1) * 5, none⟩ = some (.int .i64 b.num) := hC1.2 (k + 1) b hbb.out 0 _ rfl
          have p1 : U1.cell? ⟨g, (k + 1) * 5 + 1, none⟩ = some (.bool b.dir) := hC1.2 (k + 1) b hbb.out 1 _ rfl
          have p2 : U1.cell? ⟨g, (k + 1) * 5 + 2, none⟩ = some (.int .i64 b.links) := hC1.2 (k + 1) b hbb.out 2 _ rfl
          have p3 : U1.cell? ⟨g, (k + 1) * 5 + 3, none⟩ = some (.int .i64 b.root) := hC1.2 (k + 1) b hbb.out 3 _ rfl
          have p4 : U1.cell? ⟨g, (k + 1) * 5 + 4, none⟩ = some (.int .i64 b.size) := hC1.2 (k + 1) b hbb.out 4 _ rfl
          have t0 : U1.cell? ⟨g, k * 5, none⟩ = some (.int .i64 a.num) := hC1.2 k a ha.out 0 _ rfl
          have t1 : U1.cell? ⟨g, k * 5 + 1, none⟩ = some (.bool a.dir) := hC1.2 k a ha.out 1 _ rfl
          have t2 : U1.cell? ⟨g, k * 5 + 2, none⟩ = some (.int .i64 a.links) := hC1.2 k a ha.out 2 _ rfl
          have t3 : U1.cell? ⟨g, k * 5 + 3, none⟩ = some (.int .i64 a.root) := hC1.2 k a ha.out 3 _ rfl
          have t4 : U1.cell? ⟨g, k * 5 + 4, none⟩ = some (.int .i64 a.size) := hC1.2 k a ha.out 4 _ rfl
          have q0 : U1.frozen? ⟨g, k * 5, none⟩ = false := hC1.free _
          have q1 : U1.frozen? ⟨g, k * 5 + 1, none⟩ = false := hC1.free _
          have q2 : U1.frozen? ⟨g, k * 5 + 2, none⟩ = false := hC1.free _
          have q3 : U1.frozen? ⟨g, k * 5 + 3, none⟩ = false := hC1.free _
          have q4 : U1.frozen? ⟨g, k * 5 + 4, none⟩ = false := hC1.free _
          replace hC1 := Lib.hid hC1
          replace hX := Lib.hid hX
          go_upto_region 19 with fail
          clear p0 p1 p2 p3 p4 q0 q1 q2 q3 q4 t0 t1 t2 t3 t4
          have hC2 : Cells inoC 5 38 (((((U1.setCell ⟨g, k * 5, none⟩ (.int .i64 b.num)).setCell ⟨g, k * 5 + 1, none⟩ (.bool b.dir)).setCell ⟨g, k * 5 + 2, none⟩ (.int .i64 b.links)).setCell ⟨g, k * 5 + 3, none⟩ (.int .i64 b.root)).setCell ⟨g, k * 5 + 4, none⟩ (.int .i64 b.size)) g (l1.set k b) := hC1.out.put5 (x := b) rfl (by rw [hn1.out]; omega) (fun _ => rfl)
          have hbN : Below (w.heap.size + 1) w0 (((((U1.setCell ⟨g, k * 5, none⟩ (.int .i64 b.num)).setCell ⟨g, k * 5 + 1, none⟩ (.bool b.dir)).setCell ⟨g, k * 5 + 2, none⟩ (.int .i64 b.links)).setCell ⟨g, k * 5 + 3, none⟩ (.int .i64 b.root)).setCell ⟨g, k * 5 + 4, none⟩ (.int .i64 b.size)) := (((((hb.out.setCell (p := ⟨g, _, none⟩) hgB _).setCell (p := ⟨g, _, none⟩) hgB _).setCell (p := ⟨g, _, none⟩) hgB _).setCell (p := ⟨g, _, none⟩) hgB _).setCell (p := ⟨g, _, none⟩) hgB _)
          have hzN : w.heap.size + 1 ≤ (((((U1.setCell ⟨g, k * 5, none⟩ (.int .i64 b.num)).setCell ⟨g, k * 5 + 1, none⟩ (.bool b.dir)).setCell ⟨g, k * 5 + 2, none⟩ (.int .i64 b.links)).setCell ⟨g, k * 5 + 3, none⟩ (.int .i64 b.root)).setCell ⟨g, k * 5 + 4, none⟩ (.int .i64 b.size)).heap.size := by simpa [World.setCell] using hz
          have hXN : Blk (((((U1.setCell ⟨g, k * 5, none⟩ (.int .i64 b.num)).setCell ⟨g, k * 5 + 1, none⟩ (.bool b.dir)).setCell ⟨g, k * 5 + 2, none⟩ (.int .i64 b.links)).setCell ⟨g, k * 5 + 3, none⟩ (.int .i64 b.root)).setCell ⟨g, k * 5 + 4, none⟩ (.int .i64 b.size)) bq 38 #[.int .i64 a.num, .bool a.dir, .int .i64 a.links, .int .i64 a.root, .int .i64 a.size] := (((((hX.out.far (p := ⟨g, _, none⟩) bx _).far (p := ⟨g, _, none⟩) bx _).far (p := ⟨g, _, none⟩) bx _).far (p := ⟨g, _, none⟩) bx _).far (p := ⟨g, _, none⟩) bx _)
          clear hb hz hX hC1
          generalize (((((U1.setCell ⟨g, k * 5, none⟩ (.int .i64 b.num)).setCell ⟨g, k * 5 + 1, none⟩ (.bool b.dir)).setCell ⟨g, k * 5 + 2, none⟩ (.int .i64 b.links)).setCell ⟨g, k * 5 + 3, none⟩ (.int .i64 b.root)).setCell ⟨g, k * 5 + 4, none⟩ (.int .i64 b.size)) = U2 at hC2 hbN hzN hXN ⊢
          have hb := Lib.hid hbN
          have hz := hzN
          have hX := hXN
          clear hbN hzN hXN
          replace x0 := (hb.out.cell (p := ⟨w.heap.size, 0, none⟩) (Nat.lt_succ_self _)).trans k0.out
          replace x1 := (hb.out.cell (p := ⟨w.heap.size, 1, none⟩) (Nat.lt_succ_self _)).trans k1.out
          replace x2 := (hb.out.cell (p := ⟨w.heap.size, 2, none⟩) (Nat.lt_succ_self _)).trans k2.out
          have xw0 := hX.cell 0
          have xw1 := hX.cell 1
          have xw2 := hX.cell 2
          have xw3 := hX.cell 3
          have xw4 := hX.cell 4
          have t0 : U2.cell? ⟨g, (k + 1) * 5, none⟩ = some (.int .i64 b.num) := hC2.2 (k + 1) b (by rw [List.getElem?_set_ne (by omega)]; exact hbb.out) 0 _ rfl
          have t1 : U2.cell? ⟨g, (k + 1) * 5 + 1, none⟩ = some (.bool b.dir) := hC2.2 (k + 1) b (by rw [List.getElem?_set_ne (by omega)]; exact hbb.out) 1 _ rfl
          have t2 : U2.cell? ⟨g, (k + 1) * 5 + 2, none⟩ = some (.int .i64 b.links) := hC2.2 (k + 1) b (by rw [List.getElem?_set_ne (by omega)]; exact hbb.out) 2 _ rfl
          have t3 : U2.cell? ⟨g, (k + 1) * 5 + 3, none⟩ = some (.int .i64 b.root) := hC2.2 (k + 1) b (by rw [List.getElem?_set_ne (by omega)]; exact hbb.out) 3 _ rfl
          have t4 : U2.cell? ⟨g, (k + 1) * 5 + 4, none⟩ = some (.int .i64 b.size) := hC2.2 (k + 1) b (by rw [List.getElem?_set_ne (by omega)]; exact hbb.out) 4 _ rfl
          have q0 : U2.frozen? ⟨g, (k + 1) * 5, none⟩ = false := hC2.free _
          have q1 : U2.frozen? ⟨g, (k + 1) * 5 + 1, none⟩ = false := hC2.free _
          have q2 : U2.frozen? ⟨g, (k + 1) * 5 + 2, none⟩ = false := hC2.free _
          have q3 : U2.frozen? ⟨g, (k + 1) * 5 + 3, none⟩ = false := hC2.free _
          have q4 : U2.frozen? ⟨g, (k + 1) * 5 + 4, none⟩ = false := hC2.free _
          have p0 := trivial
          have p1 := trivial
          have p2 := trivial
          have p3 := trivial
          have p4 := trivial
          replace hC2 := Lib.hid hC2
          replace hX := Lib.hid hX
          go_upto_region 20 with fail
          clear p0 p1 p2 p3 p4 q0 q1 q2 q3 q4 t0 t1 t2 t3 t4
          have hC3 : Cells inoC 5 38 (((((U2.setCell ⟨g, (k + 1) * 5, none⟩ (.int .i64 a.num)).setCell ⟨g, (k + 1) * 5 + 1, none⟩ (.bool a.dir)).setCell ⟨g, (k + 1) * 5 + 2, none⟩ (.int .i64 a.links)).setCell ⟨g, (k + 1) * 5 + 3, none⟩ (.int .i64 a.root)).setCell ⟨g, (k + 1) * 5 + 4, none⟩ (.int .i64 a.size)) g ((l1.set k b).set (k + 1) a) := hC2.out.put5 (x := a) rfl (by rw [List.length_set, hn1.out]; omega) (fun _ => rfl)
          have hbN : Below (w.heap.size + 1) w0 (((((U2.setCell ⟨g, (k + 1) * 5, none⟩ (.int .i64 a.num)).setCell ⟨g, (k + 1) * 5 + 1, none⟩ (.bool a.dir)).setCell ⟨g, (k + 1) * 5 + 2, none⟩ (.int .i64 a.links)).setCell ⟨g, (k + 1) * 5 + 3, none⟩ (.int .i64 a.root)).setCell ⟨g, (k + 1) * 5 + 4, none⟩ (.int .i64 a.size)) := (((((hb.out.setCell (p := ⟨g, _, none⟩) hgB _).setCell (p := ⟨g, _, none⟩) hgB _).setCell (p := ⟨g, _, none⟩) hgB _).setCell (p := ⟨g, _, none⟩) hgB _).setCell (p := ⟨g, _, none⟩) hgB _)
          have hzN : w.heap.size + 1 ≤ (((((U2.setCell ⟨g, (k + 1) * 5, none⟩ (.int .i64 a.num)).setCell ⟨g, (k + 1) * 5 + 1, none⟩ (.bool a.dir)).setCell ⟨g, (k + 1) * 5 + 2, none⟩ (.int .i64 a.links)).setCell ⟨g, (k + 1) * 5 + 3, none⟩ (.int .i64 a.root)).setCell ⟨g, (k + 1) * 5 + 4, none⟩ (.int .i64 a.size)).heap.size := by simpa [World.setCell] using hz
          have hXN : Blk (((((U2.setCell ⟨g, (k + 1) * 5, none⟩ (.int .i64 a.num)).setCell ⟨g, (k + 1) * 5 + 1, none⟩ (.bool a.dir)).setCell ⟨g, (k + 1) * 5 + 2, none⟩ (.int .i64 a.links)).setCell ⟨g, (k + 1) * 5 + 3, none⟩ (.int .i64 a.root)).setCell ⟨g, (k + 1) * 5 + 4, none⟩ (.int .i64 a.size)) bq 38 #[.int .i64 a.num, .bool a.dir, .int .i64 a.links, .int .i64 a.root, .int .i64 a.size] := (((((hX.out.far (p := ⟨g, _, none⟩) bx _).far (p := ⟨g, _, none⟩) bx _).far (p := ⟨g, _, none⟩) bx _).far (p := ⟨g, _, none⟩) bx _).far (p := ⟨g, _, none⟩) bx _)
          clear hb hz hX hC2
          generalize (((((U2.setCell ⟨g, (k + 1) * 5, none⟩ (.int .i64 a.num)).setCell ⟨g, (k + 1) * 5 + 1, none⟩ (.bool a.dir)).setCell ⟨g, (k + 1) * 5 + 2, none⟩ (.int .i64 a.links)).setCell ⟨g, (k + 1) * 5 + 3, none⟩ (.int .i64 a.root)).setCell ⟨g, (k + 1) * 5 + 4, none⟩ (.int .i64 a.size)) = U3 at hC3 hbN hzN hXN ⊢
          have hb := Lib.hid hbN
          have hz := hzN
          have hX := hXN
          clear hbN hzN hXN
          replace x0 := (hb.out.cell (p := ⟨w.heap.size, 0, none⟩) (Nat.lt_succ_self _)).trans k0.out
          replace x1 := (hb.out.cell (p := ⟨w.heap.size, 1, none⟩) (Nat.lt_succ_self _)).trans k1.out
          replace x2 := (hb.out.cell (p := ⟨w.heap.size, 2, none⟩) (Nat.lt_succ_self _)).trans k2.out
          clear xw0 xw1 xw2 xw3 xw4
          have hl3 : ((l1.set k b).set (k + 1) a).length = n1 := by rw [List.length_set, List.length_set, hn1.out]
          have hb3 : lays inoK ((l1.set k b).set (k + 1) a) = none := pair_bad (k := k) (a := b) (b := a) (by rw [List.getElem?_set_ne (by omega), List.getElem?_set_self (by rw [hn1.out]; omega)]) (by rw [List.getElem?_set_self (by rw [List.length_set, hn1.out]; omega)]) had.out
          have r3 := Cells.row (cs := inoC) (sz := 5) (fun _ => rfl) (by decide) hC3
          rw [hl3] at r3
          replace hb3 := Lib.hid hb3
          replace r3 := Lib.hid r3
          replace hl3 := Lib.hid hl3
          replace hC3 := Lib.hid hC3
          go_wp2_with fail
          refine (oI_none r3.out hl3.out (fun _ _ => trivial) (by omega) hb3.out).mono ?_
          rintro e y1 ⟨rfl, d9⟩
          have hC4 := hC3.out.below d9
          clear hX
          replace hb := Lib.hid (hb.out.trans (d9.mono hz))
          replace hz := Nat.le_trans hz d9.size
          replace x0 := (hb.out.cell (p := ⟨w.heap.size, 0, none⟩) (Nat.lt_succ_self _)).trans k0.out
          replace x1 := (hb.out.cell (p := ⟨w.heap.size, 1, none⟩) (Nat.lt_succ_self _)).trans k1.out
          replace x2 := (hb.out.cell (p := ⟨w.heap.size, 2, none⟩) (Nat.lt_succ_self _)).trans k2.out
          clear d9
          clear hC4
          clear hk hkm hkm2 hd0 hd2 hkl
          clear hnn
          go_wp2_with fail
          refine (fixed_any _ (hL0.below hb.out (by omega))).mono ?_
          rintro e wf ⟨rfl, bf⟩
          replace hb := Lib.hid (hb.out.trans (bf.mono hz))
          clear bf
          go_wp2_with fail
          go_ret
          exact ⟨rfl, hb0.out.trans (hb.out.mono (Nat.le_succ _))⟩
end Go.Proofs.YtaihpnmojiagnaaDoor.Table

/- The walk of the law AllocTakes. -/
import Derived.Test.YthclfljmnljhdaaDoorAllocPartsW
import Derived.Deep.QuietTactic
import Derived.BigQuiet
namespace Go.Proofs.YthclfljmnljhdaaDoor.Alloc
open Go.RowKit Mem Sets

theorem own_below {w w' : World} {base n size : Nat} {e : TypeId} {v : Value} {xs : List Value} (h : w.ownsRow base e size v n xs) (hb : Below w.heap.size w w') : w'.ownsRow base e size v n xs :=
  h.kept (row := none) ⟨hb.os, hb.tape, hb.output, hb.size, fun j hj _ => hb.block j hj⟩ (by cases hv : v.ownBlock <;> simp)
theorem PoolAt.heap {w w' : World} {g B f j : Nat} {U : ByteArray} (h : PoolAt w g U B f j) (e : w'.heap = w.heap) : PoolAt w' g U B f j := by
  obtain ⟨U', h1, h2⟩ := h
  exact ⟨U', by unfold Pool Blk at h1 ⊢; rw [e]; exact h1, h2⟩
theorem not_mem_take {l : List Nat} (h : l.Nodup) {k : Nat} (hk : k < l.length) : l[k] ∉ l.take k := fun hx => by
  rw [← List.take_append_drop k l, List.nodup_append] at h
  exact h.2.2 _ hx _ (by rw [List.drop_eq_getElem_cons hk]; exact List.mem_cons_self) rfl
theorem AskBox.grown {w w' : World} {g : Nat} {U : ByteArray} {B f m : Int} (h : AskBox w g U B f m) {row : Option Nat} (b : w.grownBy w' row) (hr : some g ≠ row) : AskBox w' g U B f m := Blk.grown h b hr

set_option maxRecDepth 100000 in
set_option maxHeartbeats 800000 in
theorem lawtakes_any (U : ByteArray) (B f m : Int) (w : World) (hU : U.size ≤ 140737488355328) :
    Calls Tryd.prog 4 #[askVal U B f m] w fun e w' => e = .returned (.bool true) ∧ Below w.heap.size w w' := by
  have hf := AskBox.new w U B f m
  have hb : Below w.heap.size w (w.alloc (.cells #[.string U, .int .i64 B, .int .i64 f, .int .i64 m] 23)) := (Below.refl _ w).alloc (Nat.le_refl _) _
  have hs := hb.size
  unfold askVal
  by_cases hok : okAt B f = true
  case neg =>
    have hok' : okAt B f = false := by simpa using hok
    have k1 := Lib.hid (fun W => new_bad U B f W hok')
    have k2 := fun W => rpick_any U B f 0 W
    rw [pickOut_bad (fun h => hok h.1)] at k2
    replace k2 := Lib.hid k2
    obtain ⟨m0, m1, m2, m3⟩ := hf.all
    clear hok hok'
    go_enter Tryd.func4, Tryd.ntmps4
    go_wp2_with fail
    refine (k1.out _).mono ?_
    rintro en w1 ⟨rfl, hw1⟩
    subst hw1
    go_wp2_with fail
    refine (k2.out _).mono ?_
    rintro en w2 ⟨A, c, rfl, _, b2⟩
    replace hb := hb.trans (b2.mono hs)
    replace hs := hb.size
    clear b2 m0 m1 m2 m3
    go_wp2_with fail
    refine (fixed_any _).mono ?_
    rintro en w' ⟨rfl, b'⟩
    replace hb := hb.trans (b'.mono hs)
    clear b'
    replace hs := hb.size
    go_wp2_with fail
    go_ret
    exact ⟨rfl, hb⟩
  obtain ⟨h1, h2, h3, h4⟩ := okAt_iff.1 hok
  obtain ⟨b, rfl⟩ := Int.eq_ofNat_of_zero_le (show 0 ≤ B by omega)
  obtain ⟨a, rfl⟩ := Int.eq_ofNat_of_zero_le (show 0 ≤ f by omega)
  have hk : 8 ≤ b ∧ b ≤ 4096 ∧ 1 ≤ a ∧ a ≤ b := by omega
  have k1 := Lib.hid (fun W => new_ok U b a W hk)
  clear hok h1 h2 h3 h4
  by_cases h300 : 300 < b
  · have d1 : decide (300 < b) = true := decide_eq_true h300
    obtain ⟨m0, m1, m2, m3⟩ := hf.all
    go_enter Tryd.func4, Tryd.ntmps4
    go_wp2_with fail
    refine (k1.out _).mono ?_
    rintro en w1 ⟨g, rfl, hg, hp, b1⟩
    replace hf := hf.below b1
    replace hb := hb.trans (b1.mono hs)
    replace hs := hb.size
    clear b1 m0 m1 m2 m3 hp
    obtain ⟨m0, m1, m2, m3⟩ := hf.all
    go_wp2_with fail
    refine (fixed_any _).mono ?_
    rintro en w' ⟨rfl, b'⟩
    replace hb := hb.trans (b'.mono hs)
    clear b'
    replace hs := hb.size
    go_wp2_with fail
    go_ret
    exact ⟨rfl, hb⟩
  have d1 : decide (300 < b) = false := decide_eq_false h300
  have hlen := ord_le (U := U) hk
  have hmem : ∀ x ∈ ord U b a, 1 ≤ x ∧ x < b ∧ hasB U x = false := fun x hx => (ord_mem ⟨hk.2.2.1, hk.2.2.2⟩).1 hx
  have hnd : (ord U b a).Nodup := order_nodup hk.2.2.1
  have k2 := fun W => rorder_any U b a W hk
  obtain ⟨N, hN⟩ : ∃ N, N = (ord U b a).length := ⟨_, rfl⟩
  rw [← hN] at hlen
  simp only [← hN] at k2
  replace hN := Lib.hid hN
  replace k2 := Lib.hid k2
  replace hmem := Lib.hid hmem
  replace hnd := Lib.hid hnd
  obtain ⟨m0, m1, m2, m3⟩ := hf.all
  go_enter Tryd.func4, Tryd.ntmps4
  go_wp2_with fail
  refine (k1.out _).mono ?_
  rintro en w1 ⟨g, rfl, hg, hp, b1⟩
  have hgw : w.heap.size < g := by have := hf.lt; omega
  replace hf := hf.below b1
  have hp0 := poolAt_new hk hU hp
  replace hb := hb.trans (b1.mono hs)
  replace hs := hb.size
  clear b1 m0 m1 m2 m3 hp
  obtain ⟨m0, m1, m2, m3⟩ := hf.all
  replace hp0 := Lib.hid hp0
  go_wp2_with fail
  refine (k2.out _).mono ?_
  rintro en w2 ⟨v, rfl, ho, b2⟩
  obtain ⟨A, c, rfl⟩ := own_slice ho
  have hAg : ∀ ad, A = some ad → some ad.block ≠ some g := fun ad e => by
    subst e
    have h1 := (ho.lt _ rfl).1
    have h2 := hp0.out.lt
    intro e
    injection e with e
    omega
  have hr := Row.of_own ho
  replace hp0 := hp0.out.below b2
  replace hf := hf.below b2
  replace hb := hb.trans (b2.mono hs)
  replace hs := hb.size
  clear b2 m0 m1 m2 m3 ho
  go_wp2_with fail
  obtain ⟨i0, hinf, hz0, hz1, hz2⟩ := info_parts infoInt
  have o0 : (w2.alloc (.cells #[] 3)).ownsRow w2.heap.size 3 1 (.slice (some ⟨w2.heap.size, 0, none⟩) 0 0) ((ord U b a).take 0).length (ints ((ord U b a).take 0)) := World.ownsRow_made w2 #[] 0 (Nat.le_refl _) (by decide) rfl
  have g0 : w2.grownBy (w2.alloc (.cells #[] 3)) (some g) := Only.alloc (Only.refl w2 _) _
  have hlt2 := hp0.lt
  have hgw' : w.heap.size ≤ g := Nat.le_of_lt hgw
  replace hp0 : PoolAt (w2.alloc (.cells #[] 3)) g U b a 0 := hp0.below ((Below.refl _ _).alloc (Nat.le_refl _) _)
  generalize Value.slice (some ⟨w2.heap.size, 0, none⟩) 0 0 = v0 at o0 ⊢
  generalize w2.alloc (.cells #[] 3) = w3 at o0 g0 hp0 ⊢
  replace hf := Lib.hid hf
  replace hr := Lib.hid hr
  replace hAg := Lib.hid hAg
  replace o0 := Lib.hid o0
  replace hp0 := Lib.hid hp0
  replace g0 := Lib.hid g0
  go_loopw [9, 10] (fun v y wr => ∃ k : Nat, k ≤ N ∧ y = .int .i64 (k : Int) ∧ wr.ownsRow w2.heap.size 3 1 v ((ord U b a).take k).length (ints ((ord U b a).take k)) ∧ PoolAt wr g U b a k ∧ w2.grownBy wr (some g)) (fun _ y _ => N + 1 - (intOf y).toNat)
  case atStart => exact ⟨0, Nat.zero_le _, rfl, o0.out, hp0.out, g0.out⟩
  case round =>
    clear o0 hp0 g0
    obtain ⟨k, hkN, rfl, hown, hp, hgb⟩ := hrel
    have hxl : ((ord U b a).take k).length = k := by rw [List.length_take, ← hN.out]; omega
    have hxm : ∀ y ∈ (ord U b a).take k, y ≤ 65535 := fun y hy => by have := (hmem.out y (List.mem_of_mem_take hy)).2.1; omega
    simp only [hxl] at hown
    obtain ⟨A1, c1, rfl⟩ := own_slice hown
    have r1 := Row.of_own hown
    have hne1 : (Value.slice A1 k c1).ownBlock ≠ some g := fun e => by
      have := (hown.lt g e).1
      omega
    have k5 := Lib.hid (of_nats ((ord U b a).take k) hxm A1 k c1 wr r1 (by omega))
    have hsx : ∀ n, n ∉ (ord U b a).take k → hasB (setB ((ord U b a).take k)) n = false := fun n hn => by rw [hasB_set]; exact decide_eq_false hn
    have hs512 : (setB ((ord U b a).take k)).size ≤ 512 := setB_size (take_mem hk)
    have kt := taken_at U b a k g
    obtain ⟨sx, hsx0⟩ : ∃ sx, sx = setB ((ord U b a).take k) := ⟨_, rfl⟩
    rw [← hsx0] at k5 hsx kt hs512
    have kl := left_at U b a k g
    rw [← hN.out] at kl
    have kn := next_at U b a k g
    have hw1 : IntKind.i64.wrap ((N : Int) - (k : Int)) = ((N - k : Nat) : Int) := by rw [show (N : Int) - (k : Int) = ((N - k : Nat) : Int) by omega]; exact IntWalk.i64_in _ (by omega)
    clear hxl hxm hsx0
    replace hown := Lib.hid hown
    replace hp := Lib.hid hp
    replace hgb := Lib.hid hgb
    replace r1 := Lib.hid r1
    replace hsx := Lib.hid hsx
    replace kt := Lib.hid kt
    replace kl := Lib.hid kl
    replace kn := Lib.hid kn
    replace hw1 := Lib.hid hw1
    go_wp2_with fail
    with_reducible refine k5.out.mono ?_
    rintro en w4 ⟨rfl, b4⟩
    have hp4 := hp.out.below b4
    have own4 : w4.ownsRow w2.heap.size 3 1 (.slice A1 k c1) k (ints ((ord U b a).take k)) := own_below hown.out b4
    have g4 : w2.grownBy w4 (some g) := Only.below hgb.out b4 hgb.out.size
    clear b4 hown hp hgb k5 r1
    go_wp2_with fail
    replace own4 := Lib.hid own4
    replace hp4 := Lib.hid hp4
    replace g4 := Lib.hid g4
    have hq4 : AskBox w4 w.heap.size U b a m := (hf.out.grown g4.out (by intro e; injection e; omega))
    have r4 := hr.out.grown g4.out hAg.out
    obtain ⟨m0, m1, m2, m3⟩ := hq4.all
    have kl' := Lib.hid (fun n => kl.out (w4.drewN n) (hp4.out.heap rfl))
    have kt' := Lib.hid (fun n => kt.out (w4.drewN n) (hp4.out.heap rfl))
    have kn' := fun n => kn.out (w4.drewN n) (hp4.out.heap rfl)
    have hcase : (k = 0 ∧ lastOf ((ord U b a).take k) a = a) ∨ ∃ j, k = j + 1 ∧ ∃ y, y ≤ 4096 ∧ lastOf ((ord U b a).take k) a = y + 1 ∧ (ints (ord U b a))[j]? = some (.int .i64 (y : Int)) := by
      cases k with
      | zero => exact Or.inl ⟨rfl, by rw [List.take_zero, lastOf_nil]⟩
      | succ j =>
        have hj : j < (ord U b a).length := by rw [← hN.out]; omega
        refine Or.inr ⟨j, rfl, (ord U b a)[j], ?_, lastOf_take hj, by rw [List.getElem?_map, List.getElem?_eq_getElem hj]; rfl⟩
        have := (hmem.out _ (List.getElem_mem hj)).2.1
        omega
    rcases hcase with ⟨hk0, hl⟩ | ⟨j, hj, y, hy, hl, hcell⟩
    focus
      rw [hl] at kn'
      replace kn' := Lib.hid kn'
      have d0 : ((k : Int) == 0) = true := by simp [hk0]
      have d2 : decide ((0 : Int) < (k : Int)) = false := decide_eq_false (by omega)
      have d3 : decide (0 < k) = false := decide_eq_false (by omega)
      have hw2 := hw1.out
      clear hk0 hl
      go_quiet ((first
        | (go_at_call 15; with_reducible exact Calls.quiet_of_same (kl'.out _))
        | (go_at_call 16; with_reducible exact Calls.quiet_of_same (kt'.out _))
        | (go_at_call 17; with_reducible exact Calls.quiet_of_same (kn'.out _))))
      clear d0 d2 d3 hw2
    rotate_left
    focus
      rw [hl] at kn'
      replace kn' := Lib.hid kn'
      obtain ⟨ad, u, rfl, hu, hc4⟩ := r4.at_ (show j < N by omega)
      rw [hcell] at hu
      injection hu with hu
      subst hu
      have d0 : ((k : Int) == 0) = false := by simp; omega
      have d2 : decide ((0 : Int) < (k : Int)) = true := decide_eq_true (by omega)
      have d3 : decide (0 < k) = true := decide_eq_true (by omega)
      have hj1 : j < N := by omega
      have hw3 : IntKind.i64.wrap ((k : Int) - 1) = (j : Int) := by rw [show (k : Int) - 1 = (j : Int) by omega]; exact IntWalk.i64_in _ (by omega)
      have hw4 : IntKind.i64.wrap ((y : Int) + 1) = (y : Int) + 1 := IntWalk.i64_in _ (by omega)
      have hw2 := hw1.out
      clear hl hcell
      replace hj := Lib.hid hj
      go_quiet ((first
        | (go_at_call 15; with_reducible exact Calls.quiet_of_same (kl'.out _))
        | (go_at_call 16; with_reducible exact Calls.quiet_of_same (kt'.out _))
        | (go_at_call 17; with_reducible exact Calls.quiet_of_same (kn'.out _))))
      clear d0 d2 d3 hw2 hw3 hw4
    all_goals
      go_wp2_with fail
      have hp5 : PoolAt (w4.drewN nq) g U b a k := hp4.out
      have own5 : (w4.drewN nq).ownsRow w2.heap.size 3 1 (.slice A1 k c1) k (ints ((ord U b a).take k)) := own4.out
      have g5 : w2.grownBy (w4.drewN nq) (some g) := Only.drewN g4.out _
      clear hp4 own4 g4 kl' kt' kn' hq4 m0 m1 m2 m3 r4 kl kt kn hw1
      try clear hc4
      generalize w4.drewN nq = w5 at hp5 own5 g5 ⊢
      by_cases hlt : k < N
      · have hkl : k < (ord U b a).length := by rw [← hN.out]; exact hlt
        have c5 := Lib.hid (take_next U b a k g w5 hp5 hk hkl)
        have t : Hid ((ord U b a).take (k + 1) = (ord U b a).take k ++ [(ord U b a)[k]]) := Lib.hid (List.take_succ_eq_append_getElem hkl)
        obtain ⟨x1, x2, x3⟩ := hmem.out _ (List.getElem_mem hkl)
        have x4 := not_mem_take hnd.out hkl
        have x5 := hsx.out _ x4
        have hcu : (ints (ord U b a))[k]? = some (.int .i64 (((ord U b a)[k] : Nat) : Int)) := by rw [List.getElem?_map, List.getElem?_eq_getElem hkl]; rfl
        generalize (ord U b a)[k] = x at c5 t x1 x2 x3 x5 hcu
        have hh1 := fun W => has_b U x W (by omega)
        have hh2 := fun W => has_b sx x W (by omega)
        rw [x3] at hh1
        rw [x5] at hh2
        replace hh1 := Lib.hid hh1
        replace hh2 := Lib.hid hh2
        clear x3 x4 x5 hkl hp5
        replace hcu := Lib.hid hcu
        replace own5 := Lib.hid own5
        refine c5.out.mono ?_
        rintro en w6 ⟨rfl, hp6, hg6⟩
        have own6 := World.ownsRow.kept own5.out hg6 (Or.inr hne1)
        have g6 := Only.trans g5 hg6
        have r6 := hr.out.grown g6 hAg.out
        have q6 : AskBox w6 w.heap.size U b a m := hf.out.grown g6 (by intro e; injection e; omega)
        obtain ⟨m0, m1, m2, m3⟩ := q6.all
        obtain ⟨ad', u, e', hu, hc6⟩ := r6.at_ hlt
        first | subst e' | (injection e' with e'; subst e')
        rw [hcu.out] at hu
        injection hu with hu
        subst hu
        clear c5 hg6 g5 own5 r6 hcu
        have hs6 := g6.size
        replace hp6 := Lib.hid hp6
        replace g6 := Lib.hid g6
        go_wp2_with fail
        refine (hh1.out _).mono ?_
        rintro en w7 ⟨rfl, hw7⟩
        replace hw7 := hw7.symm
        subst hw7
        go_wp2_with fail
        refine (hh2.out _).mono ?_
        rintro en w7 ⟨rfl, hw7⟩
        replace hw7 := hw7.symm
        subst hw7
        have hes : k ≤ 4095 := by omega
        have hs7 : w2.heap.size ≤ w6.heap.size := hs6
        clear hc6 m0 m1 m2 m3 q6
        go_wp2_with (first
          | (at_builtin; refine wpList_append_own_at _ rfl (.tmp 178) (.tmp 180) _ rfl w2.heap.size 3 i0 (.int .i64 0) 1 8 Tryd.underlying24 hinf hz0 hz1 hz2 rfl (by decide) (.slice A1 k c1) k _ rfl (own6.alloc _) ⟨w6.heap.size, 0, none⟩ 1 1 [.int .i64 (x : Int)] rfl rfl (cell_one_new _ _ _) (by simp [Value.oneCell']) (by unfold maxLen; omega) (by omega) (by simp; omega) ?_; intro v1 w11 hown1 hg1 hn1 ha1))
        have hl1 : ((ord U b a).take (k + 1)).length = k + 1 := by rw [List.length_take, ← hN.out]; omega
        have hres : w11.ownsRow w2.heap.size 3 1 v1 ((ord U b a).take (k + 1)).length (ints ((ord U b a).take (k + 1))) := by
          rw [hl1, t.out, ints, List.map_append]
          exact hown1
        have hp11 : PoolAt w11 g U b a (k + 1) := (hp6.out.below ((Below.refl _ w6).alloc (Nat.le_refl _) _)).grown hg1 (fun e => hne1 e.symm)
        have g11 : w2.grownBy w11 (some g) := Only.own (Only.alloc g6.out _) hg1 (fun i hi => (own6.lt i hi).1)
        exact ⟨⟨k + 1, by omega, rfl, hres, hp11, g11⟩, by simp [intOf]; omega⟩
      · have hkN2 : k = N := by omega
        have c5 := Lib.hid (take_over U b a k g w5 hp5 (by rw [← hN.out]; exact hkN2))
        have d5 : ((k : Int) == (N : Int)) = true := by simp [hkN2]
        have d6 : (k == N) = true := by simp [hkN2]
        clear hkN2 hp5 own5
        refine c5.out.mono ?_
        rintro en w6 ⟨rfl, b6⟩
        replace hb := (hb.trans (Only.toBelow g5 hgw' hs)).trans (b6.mono (Nat.le_trans hs g5.size))
        replace hs := hb.size
        clear c5 b6 g5
        go_wp2_with fail
        refine (fixed_any _).mono ?_
        rintro en w' ⟨rfl, b'⟩
        replace hb := hb.trans (b'.mono hs)
        clear b'
        replace hs := hb.size
        go_wp2_with fail
        go_ret
        exact ⟨rfl, hb⟩
end Go.Proofs.YthclfljmnljhdaaDoor.Alloc

/- Alloc: New. -/
import Derived.Test.YtajlfmnjibgbaaaGreatDoorSetSp
import Derived.Test.YtajlfmnjibgbaaaGreatDoorSetWa
import Derived.Deep.RegionHeld3
import Derived.Deep.DeepCutAuto
import Derived.Test.YtajlfmnjibgbaaaGreatDoorRowz
namespace Go.Proofs.YtajlfmnjibgbaaaGreatDoor.Alloc
open Go.RowKit Mem Sets

/-- a pool's block -/
def Pool (w : World) (g : Nat) (U T : ByteArray) (B N L : Nat) : Prop := Blk w g 70 #[.string U, .string T, .int .i64 (B : Int), .int .i64 (N : Int), .int .i64 (L : Int)]
/-- how many are free below a place -/
def freeTo (u : Nat → Bool) (a : Nat) : Nat := cntTo (fun m => decide (1 ≤ m) && !u m) a
set_option maxRecDepth 100000 in
theorem freeTo_one (u : Nat → Bool) : freeTo u 1 = 0 := by
  rw [freeTo, cntTo_succ]
  rfl
set_option maxRecDepth 100000 in
theorem freeTo_le (u : Nat → Bool) (a : Nat) : freeTo u a ≤ a := cntTo_le _ _
set_option maxRecDepth 100000 in
theorem freeTo_hit {u : Nat → Bool} {a k r : Nat} (ha : 1 ≤ a) (h : seek (fun m => !u m) k a = some r) : freeTo u (r + 1) = freeTo u a + 1 := by
  obtain ⟨h1, h2, h3, h4⟩ := seek_some h
  refine cntTo_hit h1 ?_ fun x hx1 hx2 => ?_
  · rw [decide_eq_true (by omega), Bool.true_and]; exact h3
  · rw [decide_eq_true (by omega), Bool.true_and]; exact h4 x hx1 hx2
set_option maxRecDepth 100000 in
theorem freeTo_end {u : Nat → Bool} {a e : Nat} (ha : 1 ≤ a) (hae : a ≤ e) (h : seek (fun m => !u m) (e - a) a = none) : freeTo u e = freeTo u a := by
  have h2 := cntTo_skip (p := fun m => decide (1 ≤ m) && !u m) (d := e - a) (a := a) fun x hx1 hx2 => by
    rw [decide_eq_true (by omega), Bool.true_and]; exact seek_none h x hx1 (by omega)
  rw [show a + (e - a) = e by omega] at h2
  exact h2
set_option maxRecDepth 100000 in
theorem freeTo_all {u : Nat → Bool} {B : Nat} (h : 1 ≤ B) : freeTo u B = free u B := by
  unfold freeTo cntTo free
  rw [List.range_eq_range', range_split 0 B 1 h, List.filter_append]
  have z : (List.range' 0 1).filter (fun n => decide (1 ≤ n) && !u n) = [] := filter_none fun x hx1 hx2 => by
    rw [decide_eq_false (by omega), Bool.false_and]
  rw [z, List.nil_append, Nat.zero_add]
  congr 1
  exact filter_same fun x hx1 _ => by rw [decide_eq_true (by omega), Bool.true_and]

/-- what is told of a search -/
def oNum (o : Option Nat) : Int := ((o.getD 0 : Nat) : Int)
set_option maxRecDepth 100000 in
theorem gap_o (s : ByteArray) (a e : Nat) (w : World) (he : e ≤ 9223372036854775807) :
    Calls Tryz.prog 29 #[.string s, .int .i64 (a : Int), .int .i64 (e : Int)] w fun en w' => en = .returned (.tuple #[.int .i64 (oNum (seek (fun m => !hasB s m) (e - a) a)), .bool (seek (fun m => !hasB s m) (e - a) a).isSome]) ∧ w' = w := by
  cases h : seek (fun m => !hasB s m) (e - a) a with
  | some r => exact gap_some s a w he h
  | none => exact gap_none s a w he h

set_option maxRecDepth 100000 in
set_option maxHeartbeats 1000000 in
theorem new_ok (U : ByteArray) (B f : Nat) (w : World) (h : 8 ≤ B ∧ B ≤ 4096 ∧ 1 ≤ f ∧ f ≤ B) :
    Calls Tryz.prog 11 #[.string U, .int .i64 (B : Int), .int .i64 (f : Int)] w fun e w' => ∃ g, e = .returned (.tuple #[.pointer (some ⟨g, 0, none⟩), .int .i64 0]) ∧ w.heap.size ≤ g ∧ Pool w' g U ⟨#[]⟩ B f (free (hasB U) B) ∧ Below w.heap.size w w' := by
  obtain ⟨h1, h2, h3, h4⟩ := h
  have a1 : 8 ≤ (B : Int) := by omega
  have a2 : (B : Int) ≤ 4096 := by omega
  have a3 : 1 ≤ (f : Int) := by omega
  have a4 : (f : Int) ≤ (B : Int) := by omega
  go_enter Tryz.func11, Tryz.ntmps11
  go_wp2_with fail
  refine (gap_o U 1 B w (by omega)).mono ?_
  rintro en w' ⟨rfl, hw'⟩
  replace hw' := hw'.symm
  subst hw'
  obtain ⟨o0, ho0⟩ : ∃ o, o = seek (fun m => !hasB U m) (B - 1) 1 := ⟨_, rfl⟩
  rw [← ho0]
  replace ho0 := Lib.hid ho0
  go_wp2_with fail
  go_loop [8, 9, 10] (fun l t k => ∃ (a : Nat) (o : Option Nat), 1 ≤ a ∧ a ≤ B ∧ o = seek (fun m => !hasB U m) (B - a) a ∧ l = .int .i64 (freeTo (hasB U) a : Nat) ∧ t = .int .i64 (oNum o) ∧ k = .bool o.isSome) (fun _ t k => match k with | .bool true => B - (intOf t).toNat | _ => 0)
  case atStart => exact ⟨1, o0, by omega, by omega, ho0.out, by rw [freeTo_one]; rfl, rfl, rfl⟩
  case round =>
    clear ho0
    obtain ⟨a, o, ha1, haB, ho, rfl, rfl, rfl⟩ := hrel
    have hfa := freeTo_le (hasB U) a
    cases o with
    | some r =>
      obtain ⟨s1, s2, _, _⟩ := seek_some ho.symm
      have hrB : r < B := by omega
      have hc := freeTo_hit ha1 ho.symm
      have k2 := gap_o U (r + 1) B w (by omega)
      obtain ⟨o2, ho2⟩ : ∃ o, o = seek (fun m => !hasB U m) (B - (r + 1)) (r + 1) := ⟨_, rfl⟩
      rw [← ho2] at k2
      have hm : ∀ y, o2 = some y → r < y ∧ y < B := fun y hy => by
        obtain ⟨s3, s4, _, _⟩ := seek_some (ho2.symm.trans hy)
        omega
      rw [show ((r + 1 : Nat) : Int) = (r : Int) + 1 by omega] at k2
      show Code.wp _ _ _ { tmps := #[_, _, _, _, _, _, _, _, Value.int .i64 (freeTo (hasB U) a : Nat), Value.int .i64 (r : Int), Value.bool true, _, _, _, _, _, _, _, _, _, _, _, _, _, _, _, _, _, _, _, _, _, _, _, _, _, _, _, _, _, _, _, _, _, _, _, _, _, _], defers := _ } _
      generalize freeTo (hasB U) a = c at hfa hc
      replace k2 := Lib.hid k2
      replace hc := Lib.hid hc
      replace ho2 := Lib.hid ho2
      replace hm := Lib.hid hm
      clear ho
      go_wp2_with fail
      refine k2.out.mono ?_
      rintro en w' ⟨rfl, hw'⟩
      replace hw' := hw'.symm
      subst hw'
      go_wp2_with fail
      refine ⟨⟨r + 1, o2, by omega, by omega, ho2.out, by rw [hc.out]; rfl, rfl, rfl⟩, ?_⟩
      cases o2 with
      | none => show 0 < B - r; omega
      | some y =>
        have := hm.out y rfl
        show B - y < B - r
        omega
    | none =>
      have hfr : freeTo (hasB U) a = free (hasB U) B := by rw [← freeTo_all (show 1 ≤ B by omega)]; exact (freeTo_end ha1 haB ho.symm).symm
      rw [hfr]
      rw [hfr] at hfa
      generalize hF : free (hasB U) B = c at hfa
      replace hF := Lib.hid hF
      show Code.wp _ _ _ { tmps := #[_, _, _, _, _, _, _, _, Value.int .i64 (c : Int), Value.int .i64 0, Value.bool false, _, _, _, _, _, _, _, _, _, _, _, _, _, _, _, _, _, _, _, _, _, _, _, _, _, _, _, _, _, _, _, _, _, _, _, _, _, _], defers := _ } _
      clear ho hfr
      go_wp2_with fail
      go_ret2
      rw [hF.out]
      exact ⟨_, rfl, Nat.le_refl _, Blk.new w _ _, (Below.refl _ w).alloc (Nat.le_refl _) _⟩
end Go.Proofs.YtajlfmnjibgbaaaGreatDoor.Alloc
/- Alloc: blocks that are taken one by one: plain facts. -/
namespace Go.Proofs.YtajlfmnjibgbaaaGreatDoor.Alloc
open Go.RowKit Mem Sets

/-- where the next one is sought behind these -/
def lastOf (l : List Nat) (f : Nat) : Nat := match l.getLast? with
  | some x => x + 1
  | none => f
set_option maxRecDepth 100000 in
theorem lastOf_nil (f : Nat) : lastOf [] f = f := rfl
set_option maxRecDepth 100000 in
theorem lastOf_snoc (l : List Nat) (x f : Nat) : lastOf (l ++ [x]) f = x + 1 := by simp [lastOf]
where
  snocN {P : List Nat → Prop} (h0 : P []) (h1 : ∀ l c, P l → P (l ++ [c])) (l : List Nat) : P l := by
    have : ∀ r : List Nat, P r.reverse := by
      intro r
      induction r with
      | nil => exact h0
      | cons c r ih => rw [List.reverse_cons]; exact h1 _ _ ih
    have h := this l.reverse
    rwa [List.reverse_reverse] at h
/-- what is used, with these -/
def withL (u : Nat → Bool) (l : List Nat) (m : Nat) : Bool := u m || decide (m ∈ l)
set_option maxRecDepth 100000 in
theorem withL_nil (u : Nat → Bool) : withL u [] = u := by
  funext m
  simp [withL]
set_option maxRecDepth 100000 in
theorem withL_snoc (u : Nat → Bool) (l : List Nat) (x m : Nat) : withL u (l ++ [x]) m = (withL u l m || decide (m = x)) := by
  unfold withL
  rw [Bool.eq_iff_iff]
  simp [or_assoc]
set_option maxRecDepth 100000 in
/-- behind k that were taken the others are free, in their order -/
theorem order_takes {u : Nat → Bool} {B f : Nat} (h1 : 1 ≤ f) (h2 : f ≤ B) : ∀ k, k ≤ (order u B f).length →
    1 ≤ lastOf ((order u B f).take k) f ∧ lastOf ((order u B f).take k) f ≤ B ∧ order (withL u ((order u B f).take k)) B (lastOf ((order u B f).take k) f) = (order u B f).drop k
  | 0, _ => by
    rw [List.take_zero, lastOf_nil, withL_nil, List.drop_zero]
    exact ⟨h1, h2, rfl⟩
  | k + 1, hk => by
    obtain ⟨i1, i2, i3⟩ := order_takes (u := u) h1 h2 k (by omega)
    have e : (order u B f).drop k = (order u B f)[k]'(by omega) :: (order u B f).drop (k + 1) := List.drop_eq_getElem_cons (by omega)
    rw [e] at i3
    have t : (order u B f).take (k + 1) = (order u B f).take k ++ [(order u B f)[k]'(by omega)] := by
      rw [List.take_succ_eq_append_getElem (by omega)]
    rw [t, lastOf_snoc]
    obtain ⟨a1, a2, _, a4, _⟩ := order_take i1 i2 i3 (withL_snoc u ((order u B f).take k) ((order u B f)[k]'(by omega)))
    exact ⟨by omega, by omega, a4⟩

/-! ### the set of numbers, as a text -/
def setB (l : List Nat) : ByteArray := ⟨(ofL l).toArray⟩
set_option maxRecDepth 100000 in
theorem hasB_set (l : List Nat) (m : Nat) : hasB (setB l) m = decide (m ∈ l) := has_ofL l m
set_option maxRecDepth 100000 in
theorem leastB_set (l : List Nat) : LeastB (setB l) := ofL_least l
set_option maxRecDepth 100000 in
theorem setB_snoc (l : List Nat) (n : Nat) : orB (setB l) (setB [n]) = setB (l ++ [n]) :=
  b_ext (leastB_or _ _) (leastB_set _) fun m => by
    rw [hasB_or, hasB_set, hasB_set, hasB_set, Bool.eq_iff_iff]
    simp
set_option maxRecDepth 100000 in
theorem lenOf_le {l : List Nat} {K : Nat} (h : ∀ x ∈ l, x < 8 * K) : lenOf l ≤ K := by
  by_cases he : l = []
  · rw [he]; exact Nat.zero_le _
  · obtain ⟨m, hm, hx⟩ := exists_max l he
    rw [lenOf_max hm hx]
    have := h m hm
    omega
set_option maxRecDepth 100000 in
theorem setB_size {l : List Nat} {K : Nat} (h : ∀ x ∈ l, x < 8 * K) : (setB l).size ≤ K := by
  have := lenOf_le h
  show (ofL l).toArray.size ≤ K
  rw [List.size_toArray, ofL, mk_length]
  exact this
set_option maxRecDepth 100000 in
theorem toNat_map (l : List Nat) : (l.map Int.ofNat).map Int.toNat = l := by
  rw [List.map_map]
  exact List.map_id'' (fun x => rfl) l
set_option maxRecDepth 100000 in
theorem ofOut_nat {l : List Nat} (h : ∀ x ∈ l, x ≤ 65535) : ofOut (l.map Int.ofNat) = (ofL l, 0) := by
  rw [ofOut, if_neg, toNat_map]
  rw [Bool.not_eq_true, List.any_eq_false]
  intro y hy
  obtain ⟨x, hx, rfl⟩ := List.mem_map.1 hy
  have := h x hx
  simp only [bad, Bool.or_eq_true, decide_eq_true_eq, not_or]
  show ¬ ((x : Int) < 0) ∧ ¬ ((65535 : Int) < (x : Int))
  omega
end Go.Proofs.YtajlfmnjibgbaaaGreatDoor.Alloc
/- Alloc: Take, and what a pool tells. -/
namespace Go.Proofs.YtajlfmnjibgbaaaGreatDoor.Alloc
open Go.RowKit Mem Sets

section
variable (U T : ByteArray) (B N L g : Nat) (w : World)
set_option maxRecDepth 100000 in
set_option maxHeartbeats 1000000 in
theorem left_any (h : Pool w g U T B N L) : Calls Tryz.prog 14 #[.pointer (some ⟨g, 0, none⟩)] w fun e w' => e = .returned (.int .i64 (L : Int)) ∧ w' = w := by
  have m := h.cell 4
  clear h
  go_enter Tryz.func14, Tryz.ntmps14
  go_wp2_with fail
  go_ret
  exact ⟨rfl, rfl⟩
set_option maxRecDepth 100000 in
set_option maxHeartbeats 1000000 in
theorem seek_hit (b a e r : Nat) (h : Pool w g U T B N L) (hbox : w.cell? ⟨b, 0, none⟩ = some (.pointer (some ⟨g, 0, none⟩))) (he : e ≤ 4096) (hs : seek (fun m => !hasB U m) (e - a) a = some r) :
    Calls Tryz.prog 51 #[.int .i64 (a : Int), .int .i64 (e : Int), .pointer (some ⟨b, 0, none⟩)] w fun en w' => en = .returned (.bool true) ∧ w' = w.setCell ⟨g, 3, none⟩ (.int .i64 ((r : Int) + 1)) := by
  have k := Lib.hid (fun W => gap_some (r := r) (e := e) U a W (by omega) hs)
  have hr := (seek_some hs).2.1
  have hr2 := (seek_some hs).1
  have m0 := h.cell 0
  have m3 := h.cell 3
  have f3 := h.free 3
  clear h hs
  go_enter Tryz.func51, Tryz.ntmps51
  go_wp2_with fail
  refine (k.out _).mono ?_
  rintro en w' ⟨rfl, hw'⟩
  replace hw' := hw'.symm
  subst hw'
  go_wp2_with fail
  go_ret
  exact ⟨rfl, rfl⟩
set_option maxRecDepth 100000 in
set_option maxHeartbeats 1000000 in
theorem seek_miss (b a e : Nat) (h : Pool w g U T B N L) (hbox : w.cell? ⟨b, 0, none⟩ = some (.pointer (some ⟨g, 0, none⟩))) (he : e ≤ 4096) (hs : seek (fun m => !hasB U m) (e - a) a = none) :
    Calls Tryz.prog 51 #[.int .i64 (a : Int), .int .i64 (e : Int), .pointer (some ⟨b, 0, none⟩)] w fun en w' => en = .returned (.bool false) ∧ w' = w := by
  have k := Lib.hid (fun W => gap_none (e := e) U a W (by omega) hs)
  have m0 := h.cell 0
  clear h hs
  go_enter Tryz.func51, Tryz.ntmps51
  go_wp2_with fail
  refine (k.out _).mono ?_
  rintro en w' ⟨rfl, hw'⟩
  replace hw' := hw'.symm
  subst hw'
  go_wp2_with fail
  go_ret
  exact ⟨rfl, rfl⟩
set_option maxRecDepth 100000 in
set_option maxHeartbeats 1000000 in
theorem take_full (h : Pool w g U T B N 0) : Calls Tryz.prog 24 #[.pointer (some ⟨g, 0, none⟩)] w fun e w' => e = .returned (.tuple #[.int .i64 0, .int .i64 101]) ∧ w' = w.alloc (.cells #[.pointer (some ⟨g, 0, none⟩)] 27) := by
  have h1 := h.alloc (.cells #[.pointer (some ⟨g, 0, none⟩)] 27)
  have m4 := h1.cell 4
  have mb := (Boxed.new w 27 (.pointer (some ⟨g, 0, none⟩))).cell
  clear h h1
  go_enter Tryz.func24, Tryz.ntmps24
  go_wp2_with fail
  go_ret2
  exact ⟨rfl, rfl⟩
end
end Go.Proofs.YtajlfmnjibgbaaaGreatDoor.Alloc
/- Alloc: Take. -/
namespace Go.Proofs.YtajlfmnjibgbaaaGreatDoor.Alloc
open Go.RowKit Mem Sets

set_option maxRecDepth 100000 in
theorem of_one (n : Nat) (hn : n ≤ 65535) (W : World) (g : Nat) (hr : Row W (some ⟨g, 0, none⟩) 1 [.int .i64 (n : Int)]) :
    Calls Tryz.prog 52 #[.slice (some ⟨g, 0, none⟩) 1 1] W fun e w' => e = .returned (.tuple #[.string (setB [n]), .int .i64 0]) ∧ Below W.heap.size W w' := by
  have h := of_out (some ⟨g, 0, none⟩) 1 1 [(n : Int)] W hr (by decide)
  have e := ofOut_nat (l := [n]) (by simpa using hn)
  rw [show ofOut [(n : Int)] = (ofL [n], 0) from e] at h
  exact h

set_option maxRecDepth 100000 in
theorem pool_next {w : World} {g B N L : Nat} {U T : ByteArray} (h : Pool w g U T B N L) (n : Nat) : Pool (w.setCell ⟨g, 3, none⟩ (.int .i64 ((n : Int) + 1))) g U T B (n + 1) L := Blk.put h 3 _

set_option maxRecDepth 100000 in
theorem held {w W : World} {b g B N L : Nat} {U T : ByteArray} {v : Value} (h : Pool w g U T B N L) (hb : w.cell? ⟨b, 0, none⟩ = some v) (c : Below w.heap.size w W) : Pool W g U T B N L ∧ W.cell? ⟨b, 0, none⟩ = some v :=
  ⟨Blk.below h c h.lt, (c.cell (p := ⟨b, 0, none⟩) (World.block_lt_of_cell? w _ hb)).trans hb⟩

set_option maxRecDepth 100000 in
set_option maxHeartbeats 2000000 in
theorem take_some (U T : ByteArray) (B N L g n : Nat) (rest : List Nat) (w : World) (h : Pool w g U T B N (L + 1)) (hB : B ≤ 4096) (hN1 : 1 ≤ N) (hN2 : N ≤ B) (hL : L ≤ 4096)
    (hU : U.size ≤ 140737488355328) (hT : T.size ≤ 140737488355328) (ho : order (hasB U) B N = n :: rest) :
    Calls Tryz.prog 24 #[.pointer (some ⟨g, 0, none⟩)] w fun e w' => e = .returned (.tuple #[.int .i64 (n : Int), .int .i64 0]) ∧ Pool w' g (orB U (setB [n])) (orB T (setB [n])) B (n + 1) L ∧ w.grownBy w' (some g) := by
  obtain ⟨hn1, hn2, _, _, hseek⟩ := order_take (u' := fun m => hasB U m || decide (m = n)) hN1 hN2 ho (fun m => rfl)
  have h1 := h.alloc (.cells #[.pointer (some ⟨g, 0, none⟩)] 27)
  have hbx := Boxed.new w 27 (.pointer (some ⟨g, 0, none⟩))
  have hg1 : w.grownBy (w.alloc (.cells #[.pointer (some ⟨g, 0, none⟩)] 27)) (some g) := Only.alloc (Only.refl w _) _
  have m2 := h1.cell 2
  have m3 := h1.cell 3
  have m4 := h1.cell 4
  have mb := hbx.cell
  have hgl := h.lt
  clear h
  replace h1 := Lib.hid h1
  replace hg1 := Lib.hid hg1
  replace hbx := Lib.hid hbx
  replace ho := Lib.hid ho
  go_enter Tryz.func24, Tryz.ntmps24
  go_wp2_with fail
  generalize hw1 : w.alloc (.cells #[.pointer (some ⟨g, 0, none⟩)] 27) = w1 at *
  replace hw1 := Lib.hid hw1
  go_still_tail 9, (by kernel_rfl)
  change wpList _ _ _ _ _ w1.drew
  generalize hw2 : w1.drew = w2
  have h2 : Pool w2 g U T B N (L + 1) := by rw [← hw2]; exact h1.out
  have mb2 : w2.cell? ⟨w.heap.size, 0, none⟩ = some (.pointer (some ⟨g, 0, none⟩)) := by rw [← hw2]; exact mb
  have hg2 : w.grownBy w2 (some g) := by rw [← hw2]; exact Only.drew hg1.out
  have m22 := h2.cell 2
  clear m2 m3 m4 mb h1 hg1 hw2 hw1
  replace hg2 := Lib.hid hg2
  have hne : w.heap.size ≠ g := by omega
  have hstep : ∀ w3, w3 = w2.setCell ⟨g, 3, none⟩ (.int .i64 ((n : Int) + 1)) → Pool w3 g U T B (n + 1) (L + 1) ∧ w3.cell? ⟨w.heap.size, 0, none⟩ = some (.pointer (some ⟨g, 0, none⟩)) ∧ w.grownBy w3 (some g) := by
    intro w3 e
    subst e
    refine ⟨pool_next h2 n, ?_, Only.put hg2.out 3 _⟩
    rw [World.cell?_setCell_other _ _ _ _ (by intro e; injection e with e1; exact hne e1.symm)]
    exact mb2
  replace hstep := Lib.hid hstep
  rcases hseek with hs | ⟨hs1, hs2⟩
  focus
    have k := Lib.hid (seek_hit U T B N (L + 1) g w2 w.heap.size N B n h2 mb2 hB hs)
    clear hs h2
    go_wp2_with fail
    refine k.out.mono ?_
    rintro en w3 ⟨rfl, hw3⟩
    obtain ⟨h3, mb3, hg3⟩ := hstep.out w3 hw3
    clear hw3 hstep k mb2 m22 hg2
  rotate_left
  focus
    have k := Lib.hid (seek_miss U T B N (L + 1) g w2 w.heap.size N B h2 mb2 hB hs1)
    have k2 := Lib.hid (seek_hit U T B N (L + 1) g w2 w.heap.size 1 B n h2 mb2 hB hs2)
    clear hs1 hs2 h2
    go_wp2_with fail
    refine k.out.mono ?_
    rintro en w' ⟨rfl, hw'⟩
    replace hw' := hw'.symm
    subst hw'
    go_wp2_with fail
    refine k2.out.mono ?_
    rintro en w3 ⟨rfl, hw3⟩
    obtain ⟨h3, mb3, hg3⟩ := hstep.out w3 hw3
    clear hw3 hstep k k2 mb2 m22 hg2
  all_goals
    have m33 := h3.cell 3
    have hs3 := hg3.size
    replace hg3 := Lib.hid hg3
    replace h3 := Lib.hid h3
    go_wp2_with fail
    refine (of_one n (by omega) _ _ (row_blk (Blk.new w3 3 _))).mono ?_
    rintro en w4 ⟨rfl, b4⟩
    obtain ⟨one, hone⟩ : ∃ z, z = setB [n] := ⟨_, rfl⟩
    rw [← hone]
    have h4 : Pool w4 g U T B (n + 1) (L + 1) := (h3.out.alloc _).below b4 (by simp; have := h3.out.lt; omega)
    have mb4 : w4.cell? ⟨w.heap.size, 0, none⟩ = some (.pointer (some ⟨g, 0, none⟩)) := by
      have hlt := World.block_lt_of_cell? w3 _ mb3
      rw [b4.cell (p := ⟨w.heap.size, 0, none⟩) (by simp; simp at hlt; omega), ((Below.refl w3.heap.size w3).alloc (Nat.le_refl _) _).cell (p := ⟨w.heap.size, 0, none⟩) hlt]
      exact mb3
    have hg4 : w.grownBy w4 (some g) := Only.below (Only.alloc hg3.out _) b4 (by have := hg3.out.size; simp; omega)
    have so : one.size ≤ 140737488355328 := by rw [hone]; exact Nat.le_trans (setB_size (K := 8192) (by intro x hx; rw [List.mem_singleton] at hx; omega)) (by decide)
    clear h3 hg3 b4 mb3 m33 hs3
    have m40 : w4.cell? ⟨g, 0, none⟩ = some (.string U) := h4.cell 0
    have m41 : w4.cell? ⟨g, 1, none⟩ = some (.string T) := h4.cell 1
    have hlt4 := h4.lt
    replace h4 := Lib.hid h4
    replace hg4 := Lib.hid hg4
    replace hone := Lib.hid hone
    go_wp2_with fail
    refine Late.start (S := fun w' => w'.cell? ⟨w.heap.size, 0, none⟩ = some (.pointer (some ⟨g, 0, none⟩))) (T := fun w' => w'.cell? ⟨g, 0, none⟩ = some (.string U) ∧ w'.cell? ⟨g, 1, none⟩ = some (.string T)) (late := [16, 19]) (by kernel_rfl) ?_
    have hH : w4.drew.cell? ⟨w.heap.size, 0, none⟩ = some (.pointer (some ⟨g, 0, none⟩)) := mb4
    have hHT : w4.drew.cell? ⟨g, 0, none⟩ = some (.string U) ∧ w4.drew.cell? ⟨g, 1, none⟩ = some (.string T) := ⟨m40, m41⟩
    refine Late.take (i := 0) (oi := ?_) (v := ?_) ?_ (by kernel_rfl) (by kernel_rfl) (by kernel_rfl) (by kernel_rfl) ?_ ?_ (by assumption) (by assumption) ?_
    rotate_left 2
    focus (simp only [List.getElem?_toArray, List.getElem?_cons_zero]; rfl)
    focus exact fun _ _ _ h => h
    focus (refine Or.inl ⟨by rfl, ?_⟩; intro w hSw; (try dsimp only at hSw); go_split_ands; go_simp; try with_reducible rfl)
    try simp only [Act.put, List.setIfInBounds_toArray, List.set_cons_zero, List.set_cons_succ]
    refine Late.take (i := 1) (oi := ?_) (v := ?_) ?_ (by kernel_rfl) (by kernel_rfl) (by kernel_rfl) (by kernel_rfl) ?_ ?_ (by assumption) (by assumption) ?_
    rotate_left 2
    focus (simp only [List.getElem?_toArray, List.getElem?_cons_succ, List.getElem?_cons_zero]; rfl)
    focus exact fun _ _ _ h => h
    focus (refine Or.inl ⟨by rfl, ?_⟩; intro w hSw; (try dsimp only at hSw); go_split_ands; go_simp; try with_reducible rfl)
    try simp only [Act.put, List.setIfInBounds_toArray, List.set_cons_zero, List.set_cons_succ]
    refine Late.take (i := 2) (oi := ?_) (v := ?_) ?_ (by kernel_rfl) (by kernel_rfl) (by kernel_rfl) (by kernel_rfl) ?_ ?_ (by assumption) (by assumption) ?_
    rotate_left 2
    focus (simp only [List.getElem?_toArray, List.getElem?_cons_succ, List.getElem?_cons_zero]; rfl)
    focus exact fun _ _ _ h => h
    focus (refine Or.inl ⟨by rfl, ?_⟩; intro w hSw; (try dsimp only at hSw); go_split_ands; go_simp; try with_reducible rfl)
    try simp only [Act.put, List.setIfInBounds_toArray, List.set_cons_zero, List.set_cons_succ]
    refine Late.take (i := 3) (oi := ?_) (v := ?_) ?_ (by kernel_rfl) (by kernel_rfl) (by kernel_rfl) (by kernel_rfl) ?_ ?_ (by assumption) (by assumption) ?_
    rotate_left 2
    focus (simp only [List.getElem?_toArray, List.getElem?_cons_succ, List.getElem?_cons_zero]; rfl)
    focus exact fun _ _ _ h => h
    focus (refine Or.inl ⟨by rfl, ?_⟩; intro w hSw; (try dsimp only at hSw); go_split_ands; go_simp; try with_reducible rfl)
    try simp only [Act.put, List.setIfInBounds_toArray, List.set_cons_zero, List.set_cons_succ]
    refine Late.take (i := 4) (oi := ?_) (v := ?_) ?_ (by kernel_rfl) (by kernel_rfl) (by kernel_rfl) (by kernel_rfl) ?_ ?_ (by assumption) (by assumption) ?_
    rotate_left 2
    focus (simp only [List.getElem?_toArray, List.getElem?_cons_succ, List.getElem?_cons_zero]; rfl)
    focus exact fun _ _ _ h => h
    focus (refine Or.inl ⟨by rfl, ?_⟩; intro w hSw; (try dsimp only at hSw); go_split_ands; go_simp; try with_reducible rfl)
    try simp only [Act.put, List.setIfInBounds_toArray, List.set_cons_zero, List.set_cons_succ]
    refine Late.takeT (i := 5) (oi := ?_) (v := ?_) ?_ (by kernel_rfl) (by kernel_rfl) (by kernel_rfl) (by kernel_rfl) (by kernel_rfl) (by kernel_rfl) ?_ ?_ (by assumption) (by assumption) ?_
    rotate_left 2
    focus (simp only [List.getElem?_toArray, List.getElem?_cons_succ, List.getElem?_cons_zero]; rfl)
    focus exact fun _ _ _ h => h
    focus (refine Or.inl ⟨by rfl, ?_⟩; intro w hSw; (try dsimp only at hSw); go_split_ands; go_simp; try with_reducible rfl)
    try simp only [Act.put, List.setIfInBounds_toArray, List.set_cons_zero, List.set_cons_succ]
    refine Late.take (i := 6) (oi := ?_) (v := ?_) ?_ (by kernel_rfl) (by kernel_rfl) (by kernel_rfl) (by kernel_rfl) ?_ ?_ (by assumption) (by assumption) ?_
    rotate_left 2
    focus (simp only [List.getElem?_toArray, List.getElem?_cons_succ, List.getElem?_cons_zero]; rfl)
    focus exact fun _ _ _ h => h
    focus (refine Or.inl ⟨by rfl, ?_⟩; intro w hSw; (try dsimp only at hSw); go_split_ands; go_simp; try with_reducible rfl)
    try simp only [Act.put, List.setIfInBounds_toArray, List.set_cons_zero, List.set_cons_succ]
    refine Late.take (i := 8) (oi := ?_) (v := ?_) ?_ (by kernel_rfl) (by kernel_rfl) (by kernel_rfl) (by kernel_rfl) ?_ ?_ (by assumption) (by assumption) ?_
    rotate_left 2
    focus (simp only [List.getElem?_toArray, List.getElem?_cons_succ, List.getElem?_cons_zero]; rfl)
    focus exact fun _ _ _ h => h
    focus (refine Or.inl ⟨by rfl, ?_⟩; intro w hSw; (try dsimp only at hSw); go_split_ands; go_simp; try with_reducible rfl)
    try simp only [Act.put, List.setIfInBounds_toArray, List.set_cons_zero, List.set_cons_succ]
    refine Late.take (i := 9) (oi := ?_) (v := ?_) ?_ (by kernel_rfl) (by kernel_rfl) (by kernel_rfl) (by kernel_rfl) ?_ ?_ (by assumption) (by assumption) ?_
    rotate_left 2
    focus (simp only [List.getElem?_toArray, List.getElem?_cons_succ, List.getElem?_cons_zero]; rfl)
    focus exact fun _ _ _ h => h
    focus (refine Or.inl ⟨by rfl, ?_⟩; intro w hSw; (try dsimp only at hSw); go_split_ands; go_simp; try with_reducible rfl)
    try simp only [Act.put, List.setIfInBounds_toArray, List.set_cons_zero, List.set_cons_succ]
    refine Late.take (i := 10) (oi := ?_) (v := ?_) ?_ (by kernel_rfl) (by kernel_rfl) (by kernel_rfl) (by kernel_rfl) ?_ ?_ (by assumption) (by assumption) ?_
    rotate_left 2
    focus (simp only [List.getElem?_toArray, List.getElem?_cons_succ, List.getElem?_cons_zero]; rfl)
    focus exact fun _ _ _ h => h
    focus (refine Or.inl ⟨by rfl, ?_⟩; intro w hSw; (try dsimp only at hSw); go_split_ands; go_simp; try with_reducible rfl)
    try simp only [Act.put, List.setIfInBounds_toArray, List.set_cons_zero, List.set_cons_succ]
    refine Late.takeT (i := 11) (oi := ?_) (v := ?_) ?_ (by kernel_rfl) (by kernel_rfl) (by kernel_rfl) (by kernel_rfl) (by kernel_rfl) (by kernel_rfl) ?_ ?_ (by assumption) (by assumption) ?_
    rotate_left 2
    focus (simp only [List.getElem?_toArray, List.getElem?_cons_succ, List.getElem?_cons_zero]; rfl)
    focus exact fun _ _ _ h => h
    focus (refine Or.inl ⟨by rfl, ?_⟩; intro w hSw; (try dsimp only at hSw); go_split_ands; go_simp; try with_reducible rfl)
    try simp only [Act.put, List.setIfInBounds_toArray, List.set_cons_zero, List.set_cons_succ]
    refine Late.take (i := 12) (oi := ?_) (v := ?_) ?_ (by kernel_rfl) (by kernel_rfl) (by kernel_rfl) (by kernel_rfl) ?_ ?_ (by assumption) (by assumption) ?_
    rotate_left 2
    focus (simp only [List.getElem?_toArray, List.getElem?_cons_succ, List.getElem?_cons_zero]; rfl)
    focus exact fun _ _ _ h => h
    focus (refine Or.inl ⟨by rfl, ?_⟩; intro w hSw; (try dsimp only at hSw); go_split_ands; go_simp; try with_reducible rfl)
    try simp only [Act.put, List.setIfInBounds_toArray, List.set_cons_zero, List.set_cons_succ]
    refine Late.only (i := 7) (o := ?_) (by kernel_rfl) ?_ (fun K hK => ?_)
    rotate_left 1
    focus (simp only [List.getElem?_toArray, List.getElem?_cons_succ, List.getElem?_cons_zero]; rfl)
    go_simp
    refine (or_b U one _ hU so).mono ?_
    rintro e W5 ⟨rfl, c5⟩
    obtain ⟨p5, q5⟩ := held (w := w4.drew) h4.out mb4 c5
    have r50 : W5.cell? ⟨g, 0, none⟩ = some (.string U) := p5.cell 0
    have r51 : W5.cell? ⟨g, 1, none⟩ = some (.string T) := p5.cell 1
    refine hK.out _ _ q5 (fun _ => ⟨r50, r51⟩) ?_
    clear hK K
    try simp only [Act.put, List.setIfInBounds_toArray, List.set_cons_zero, List.set_cons_succ]
    refine Late.only (i := 13) (o := ?_) (by kernel_rfl) ?_ (fun K hK => ?_)
    rotate_left 1
    focus (simp only [List.getElem?_toArray, List.getElem?_cons_succ, List.getElem?_cons_zero]; rfl)
    go_simp
    refine (or_b T one _ hT so).mono ?_
    rintro e W6 ⟨rfl, c6⟩
    obtain ⟨p6, q6⟩ := held p5 q5 c6
    have r60 : W6.cell? ⟨g, 0, none⟩ = some (.string U) := p6.cell 0
    have r61 : W6.cell? ⟨g, 1, none⟩ = some (.string T) := p6.cell 1
    have f60 := p6.free 0
    have f61 := p6.free 1
    refine hK.out _ _ q6 (fun _ => ⟨r60, r61⟩) ?_
    clear hK K
    try simp only [Act.put, List.setIfInBounds_toArray, List.set_cons_zero, List.set_cons_succ]
    refine Late.only (i := 14) (o := ?_) (by kernel_rfl) ?_ (fun K hK => ?_)
    rotate_left 1
    focus (simp only [List.getElem?_toArray, List.getElem?_cons_succ, List.getElem?_cons_zero]; rfl)
    go_simp
    refine hK.out _ _ q6 (fun _ => ⟨r60, r61⟩) ?_
    clear hK K
    try simp only [Act.put, List.setIfInBounds_toArray, List.set_cons_zero, List.set_cons_succ]
    refine Late.only (i := 15) (o := ?_) (by kernel_rfl) ?_ (fun K hK => ?_)
    rotate_left 1
    focus (simp only [List.getElem?_toArray, List.getElem?_cons_succ, List.getElem?_cons_zero]; rfl)
    go_simp
    refine hK.out _ _ q6 (fun _ => ⟨r60, r61⟩) ?_
    clear hK K
    try simp only [Act.put, List.setIfInBounds_toArray, List.set_cons_zero, List.set_cons_succ]
    refine Late.only (i := 16) (o := ?_) (by kernel_rfl) ?_ (fun K hK => ?_)
    rotate_left 1
    focus (simp only [List.getElem?_toArray, List.getElem?_cons_succ, List.getElem?_cons_zero]; rfl)
    go_simp
    have hW7 : Pool (W6.setCell ⟨g, 0, none⟩ (.string (orB U one))) g (orB U one) T B (n + 1) (L + 1) ∧ (W6.setCell ⟨g, 0, none⟩ (.string (orB U one))).cell? ⟨w.heap.size, 0, none⟩ = some (.pointer (some ⟨g, 0, none⟩)) ∧ w.grownBy (W6.setCell ⟨g, 0, none⟩ (.string (orB U one))) (some g) :=
      ⟨Blk.put p6 0 _, by rw [World.cell?_setCell_other _ _ _ _ (by intro e; injection e with e1; exact hne e1.symm)]; exact q6, Only.put (Only.below (Only.below (Only.drew hg4.out) c5 hg4.out.size) c6 (Nat.le_trans hg4.out.size c5.size)) 0 _⟩
    generalize W6.setCell ⟨g, 0, none⟩ (.string (orB U one)) = W7 at hW7 ⊢
    obtain ⟨p7, q7, g7⟩ := hW7
    refine hK.out _ _ q7 (Late.gone (by kernel_rfl)) ?_
    clear hK K
    try simp only [Act.put, List.setIfInBounds_toArray, List.set_cons_zero, List.set_cons_succ]
    have r71 : W7.cell? ⟨g, 1, none⟩ = some (.string T) := p7.cell 1
    have f71 := p7.free 1
    clear f60 f61 r60 r61 c6 q6 r50 r51 c5 q5 p5 hH hHT m40 m41
    refine Late.only (i := 17) (o := ?_) (by kernel_rfl) ?_ (fun K hK => ?_)
    rotate_left 1
    focus (simp only [List.getElem?_toArray, List.getElem?_cons_succ, List.getElem?_cons_zero]; rfl)
    go_simp
    refine hK.out _ _ q7 (Late.gone (by kernel_rfl)) ?_
    clear hK K
    try simp only [Act.put, List.setIfInBounds_toArray, List.set_cons_zero, List.set_cons_succ]
    refine Late.only (i := 18) (o := ?_) (by kernel_rfl) ?_ (fun K hK => ?_)
    rotate_left 1
    focus (simp only [List.getElem?_toArray, List.getElem?_cons_succ, List.getElem?_cons_zero]; rfl)
    go_simp
    refine hK.out _ _ q7 (Late.gone (by kernel_rfl)) ?_
    clear hK K
    try simp only [Act.put, List.setIfInBounds_toArray, List.set_cons_zero, List.set_cons_succ]
    refine Late.only (i := 19) (o := ?_) (by kernel_rfl) ?_ (fun K hK => ?_)
    rotate_left 1
    focus (simp only [List.getElem?_toArray, List.getElem?_cons_succ, List.getElem?_cons_zero]; rfl)
    go_simp
    have hW8 : Pool (W7.setCell ⟨g, 1, none⟩ (.string (orB T one))) g (orB U one) (orB T one) B (n + 1) (L + 1) ∧ (W7.setCell ⟨g, 1, none⟩ (.string (orB T one))).cell? ⟨w.heap.size, 0, none⟩ = some (.pointer (some ⟨g, 0, none⟩)) ∧ w.grownBy (W7.setCell ⟨g, 1, none⟩ (.string (orB T one))) (some g) :=
      ⟨Blk.put p7 1 _, by rw [World.cell?_setCell_other _ _ _ _ (by intro e; injection e with e1; exact hne e1.symm)]; exact q7, Only.put g7 1 _⟩
    generalize W7.setCell ⟨g, 1, none⟩ (.string (orB T one)) = W8 at hW8 ⊢
    obtain ⟨p8, q8, g8⟩ := hW8
    refine hK.out _ _ q8 (Late.gone (by kernel_rfl)) ?_
    clear hK K
    try simp only [Act.put, List.setIfInBounds_toArray, List.set_cons_zero, List.set_cons_succ]
    refine Late.done (by kernel_rfl) ?_ _
    have r84 := p8.cell 4
    have f84 := p8.free 4
    clear f71 r71 p7 q7
    replace g8 := Lib.hid g8
    replace p8 := Lib.hid p8
    go_wp2_with fail
    go_ret2
    refine ⟨rfl, ?_, Only.put g8.out 4 _⟩
    rw [← hone.out]
    exact Blk.put p8.out 4 _
end Go.Proofs.YtajlfmnjibgbaaaGreatDoor.Alloc
/- Alloc: a pool of which so many have been taken; the document's Order. -/
namespace Go.Proofs.YtajlfmnjibgbaaaGreatDoor.Alloc
open Go.RowKit Mem Sets

/-- the list of what is free -/
def ord (U : ByteArray) (B f : Nat) : List Nat := order (hasB U) B f
/-- a pool behind j that were taken -/
def PoolAt (w : World) (g : Nat) (U : ByteArray) (B f j : Nat) : Prop :=
  ∃ U', Pool w g U' (setB ((ord U B f).take j)) B (lastOf ((ord U B f).take j) f) ((ord U B f).length - j) ∧ (∀ m, hasB U' m = withL (hasB U) ((ord U B f).take j) m) ∧ U'.size ≤ 140737488355328
set_option maxRecDepth 100000 in
theorem PoolAt.lt {w : World} {g B f j : Nat} {U : ByteArray} (h : PoolAt w g U B f j) : g < w.heap.size := by
  obtain ⟨_, h, _⟩ := h
  exact Blk.lt h
set_option maxRecDepth 100000 in
theorem PoolAt.below {w w' : World} {g B f j : Nat} {U : ByteArray} (h : PoolAt w g U B f j) (b : Below w.heap.size w w') : PoolAt w' g U B f j := by
  obtain ⟨U', h1, h2⟩ := h
  exact ⟨U', Blk.below h1 b h1.lt, h2⟩
set_option maxRecDepth 100000 in
theorem ord_length {U : ByteArray} {B f : Nat} (h : 1 ≤ f ∧ f ≤ B) : (ord U B f).length = free (hasB U) B := order_length h.1 h.2
set_option maxRecDepth 100000 in
theorem ord_mem {U : ByteArray} {B f n : Nat} (h : 1 ≤ f ∧ f ≤ B) : n ∈ ord U B f ↔ 1 ≤ n ∧ n < B ∧ hasB U n = false := mem_order h.1 h.2
set_option maxRecDepth 100000 in
theorem ord_le {U : ByteArray} {B f : Nat} (h : 8 ≤ B ∧ B ≤ 4096 ∧ 1 ≤ f ∧ f ≤ B) : (ord U B f).length ≤ 4095 := by
  rw [ord_length ⟨h.2.2.1, h.2.2.2⟩]
  have := free_le (hasB U) B
  omega
set_option maxRecDepth 100000 in
theorem take_mem {U : ByteArray} {B f j : Nat} (h : 8 ≤ B ∧ B ≤ 4096 ∧ 1 ≤ f ∧ f ≤ B) : ∀ x ∈ (ord U B f).take j, x < 8 * 512 := fun x hx => by
  have := (ord_mem (U := U) ⟨h.2.2.1, h.2.2.2⟩).1 (List.mem_of_mem_take hx)
  omega
set_option maxRecDepth 100000 in
theorem poolAt_new {w : World} {g B f : Nat} {U : ByteArray} (h : 8 ≤ B ∧ B ≤ 4096 ∧ 1 ≤ f ∧ f ≤ B) (hU : U.size ≤ 140737488355328) (hp : Pool w g U ⟨#[]⟩ B f (free (hasB U) B)) : PoolAt w g U B f 0 :=
  ⟨U, by rw [List.take_zero, lastOf_nil, ord_length ⟨h.2.2.1, h.2.2.2⟩]; exact hp, fun m => by rw [List.take_zero, withL_nil], hU⟩

section
variable (U : ByteArray) (B f j g : Nat) (w : World) (hp : PoolAt w g U B f j)
include hp
set_option maxRecDepth 100000 in
theorem take_next (hk : 8 ≤ B ∧ B ≤ 4096 ∧ 1 ≤ f ∧ f ≤ B) (hj : j < (ord U B f).length) :
    Calls Tryz.prog 24 #[.pointer (some ⟨g, 0, none⟩)] w fun e w' => e = .returned (.tuple #[.int .i64 (((ord U B f)[j] : Nat) : Int), .int .i64 0]) ∧ PoolAt w' g U B f (j + 1) ∧ w.grownBy w' (some g) := by
  obtain ⟨U', h1, h2, h3⟩ := hp
  obtain ⟨o1, o2, o3⟩ := order_takes (u := hasB U) hk.2.2.1 hk.2.2.2 j (Nat.le_of_lt hj)
  have hu : hasB U' = withL (hasB U) ((ord U B f).take j) := funext h2
  have e : order (hasB U') B (lastOf ((ord U B f).take j) f) = (ord U B f)[j] :: (ord U B f).drop (j + 1) := by
    rw [hu, show order (withL (hasB U) ((ord U B f).take j)) B (lastOf ((ord U B f).take j) f) = (ord U B f).drop j from o3]
    exact List.drop_eq_getElem_cons hj
  have hl := ord_le (U := U) hk
  have t : (ord U B f).take (j + 1) = (ord U B f).take j ++ [(ord U B f)[j]] := List.take_succ_eq_append_getElem hj
  have hL : (ord U B f).length - j = ((ord U B f).length - (j + 1)) + 1 := by omega
  rw [hL] at h1
  have hsz : ∀ i, (setB ((ord U B f).take i)).size ≤ 512 := fun i => setB_size (take_mem hk)
  have h512 : (setB [(ord U B f)[j]]).size ≤ 512 := setB_size fun x hx => by
    rw [List.mem_singleton] at hx
    subst hx
    have := (ord_mem (U := U) ⟨hk.2.2.1, hk.2.2.2⟩).1 (List.getElem_mem hj)
    omega
  refine (take_some U' _ B _ _ g _ _ w h1 hk.2.1 o1 o2 (by omega) h3 (Nat.le_trans (hsz j) (by decide)) e).mono ?_
  rintro e w' ⟨rfl, hp', hg⟩
  refine ⟨rfl, ⟨orB U' (setB [(ord U B f)[j]]), ?_, fun m => ?_, or_size h3 (Nat.le_trans h512 (by decide))⟩, hg⟩
  · rw [setB_snoc, ← t] at hp'
    rw [show lastOf ((ord U B f).take (j + 1)) f = (ord U B f)[j] + 1 by rw [t, lastOf_snoc]]
    exact hp'
  · rw [hasB_or, h2, hasB_set, t, withL_snoc]
    simp
set_option maxRecDepth 100000 in
theorem take_over (hj : j = (ord U B f).length) :
    Calls Tryz.prog 24 #[.pointer (some ⟨g, 0, none⟩)] w fun e w' => e = .returned (.tuple #[.int .i64 0, .int .i64 101]) ∧ Below w.heap.size w w' := by
  obtain ⟨U', h1, _, _⟩ := hp
  rw [hj, Nat.sub_self] at h1
  refine (take_full _ _ _ _ g w h1).mono ?_
  rintro e w' ⟨rfl, rfl⟩
  exact ⟨rfl, (Below.refl _ _).alloc (Nat.le_refl _) _⟩
set_option maxRecDepth 100000 in
theorem left_at : Calls Tryz.prog 14 #[.pointer (some ⟨g, 0, none⟩)] w fun e w' => e = .returned (.int .i64 (((ord U B f).length - j : Nat) : Int)) ∧ w' = w := by
  obtain ⟨U', h1, _, _⟩ := hp
  exact left_any _ _ _ _ _ g w h1
end

end Go.Proofs.YtajlfmnjibgbaaaGreatDoor.Alloc

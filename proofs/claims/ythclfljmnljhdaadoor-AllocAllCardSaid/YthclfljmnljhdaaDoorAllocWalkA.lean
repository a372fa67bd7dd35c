/- Alloc: New. -/
import Derived.Test.YthclfljmnljhdaaDoorAllocSpec
import Derived.Test.YthclfljmnljhdaaDoorSetLawsD
namespace Go.Proofs.YthclfljmnljhdaaDoor.Alloc
open Go.RowKit Mem Sets

/-- a pool's block -/
def Pool (w : World) (g : Nat) (U T : ByteArray) (B N L : Nat) : Prop := Blk w g 46 #[.string U, .string T, .int .i64 (B : Int), .int .i64 (N : Int), .int .i64 (L : Int)]
/-- may so many blocks, and a place, be -/
def okAt (B f : Int) : Bool := decide (8 ≤ B) && decide (B ≤ 4096) && decide (1 ≤ f) && decide (f ≤ B)
theorem okAt_iff {B f : Int} : okAt B f = true ↔ 8 ≤ B ∧ B ≤ 4096 ∧ 1 ≤ f ∧ f ≤ B := by
  simp [okAt, and_assoc]
/-- how many are free below a place -/
def freeTo (u : Nat → Bool) (a : Nat) : Nat := cntTo (fun m => decide (1 ≤ m) && !u m) a
theorem freeTo_one (u : Nat → Bool) : freeTo u 1 = 0 := by
  rw [freeTo, cntTo_succ]
  rfl
theorem freeTo_le (u : Nat → Bool) (a : Nat) : freeTo u a ≤ a := cntTo_le _ _
theorem freeTo_hit {u : Nat → Bool} {a k r : Nat} (ha : 1 ≤ a) (h : seek (fun m => !u m) k a = some r) : freeTo u (r + 1) = freeTo u a + 1 := by
  obtain ⟨h1, h2, h3, h4⟩ := seek_some h
  refine cntTo_hit h1 ?_ fun x hx1 hx2 => ?_
  · rw [decide_eq_true (by omega), Bool.true_and]; exact h3
  · rw [decide_eq_true (by omega), Bool.true_and]; exact h4 x hx1 hx2
theorem freeTo_end {u : Nat → Bool} {a e : Nat} (ha : 1 ≤ a) (hae : a ≤ e) (h : seek (fun m => !u m) (e - a) a = none) : freeTo u e = freeTo u a := by
  have h2 := cntTo_skip (p := fun m => decide (1 ≤ m) && !u m) (d := e - a) (a := a) fun x hx1 hx2 => by
    rw [decide_eq_true (by omega), Bool.true_and]; exact seek_none h x hx1 (by omega)
  rw [show a + (e - a) = e by omega] at h2
  exact h2
theorem freeTo_all {u : Nat → Bool} {B : Nat} (h : 1 ≤ B) : freeTo u B = free u B := by
  unfold freeTo cntTo free
  rw [List.range_eq_range', range_split 0 B 1 h, List.filter_append]
  have z : (List.range' 0 1).filter (fun n => decide (1 ≤ n) && !u n) = [] := filter_none fun x hx1 hx2 => by
    rw [decide_eq_false (by omega), Bool.false_and]
  rw [z, List.nil_append, Nat.zero_add]
  congr 1
  exact filter_same fun x hx1 _ => by rw [decide_eq_true (by omega), Bool.true_and]

set_option maxRecDepth 100000 in
set_option maxHeartbeats 1000000 in
theorem new_bad (U : ByteArray) (B f : Int) (w : World) (h : okAt B f = false) :
    Calls Tryd.prog 12 #[.string U, .int .i64 B, .int .i64 f] w fun e w' => e = .returned (.tuple #[.pointer none, .int .i64 100]) ∧ w' = w := by
  by_cases h1 : B < 8
  · have d1 : decide (B < 8) = true := decide_eq_true h1
    clear h h1
    go_enter Tryd.func12, Tryd.ntmps12
    go_wp2_with fail
    go_ret2
    exact ⟨rfl, rfl⟩
  · have d1 : decide (B < 8) = false := decide_eq_false h1
    by_cases h2 : 4096 < B
    · have d2 : decide (4096 < B) = true := decide_eq_true h2
      clear h
      go_enter Tryd.func12, Tryd.ntmps12
      go_wp2_with fail
      go_ret2
      exact ⟨rfl, rfl⟩
    · have d2 : decide (4096 < B) = false := decide_eq_false h2
      by_cases h3 : f < 1
      · have d3 : decide (f < 1) = true := decide_eq_true h3
        clear h
        go_enter Tryd.func12, Tryd.ntmps12
        go_wp2_with fail
        go_ret2
        exact ⟨rfl, rfl⟩
      · have d3 : decide (f < 1) = false := decide_eq_false h3
        have h4 : B < f := Classical.byContradiction fun h4 => by
          have : okAt B f = true := okAt_iff.2 ⟨by omega, by omega, by omega, by omega⟩
          rw [this] at h
          cases h
        have d4 : decide (B < f) = true := decide_eq_true h4
        clear h
        go_enter Tryd.func12, Tryd.ntmps12
        go_wp2_with fail
        go_ret2
        exact ⟨rfl, rfl⟩

/-- what is told of a search -/
def oNum (o : Option Nat) : Int := ((o.getD 0 : Nat) : Int)
theorem gap_o (s : ByteArray) (a e : Nat) (w : World) (he : e ≤ 9223372036854775807) :
    Calls Tryd.prog 23 #[.string s, .int .i64 (a : Int), .int .i64 (e : Int)] w fun en w' => en = .returned (.tuple #[.int .i64 (oNum (seek (fun m => !hasB s m) (e - a) a)), .bool (seek (fun m => !hasB s m) (e - a) a).isSome]) ∧ w' = w := by
  cases h : seek (fun m => !hasB s m) (e - a) a with
  | some r => exact gap_some s a w he h
  | none => exact gap_none s a w he h

set_option maxRecDepth 100000 in
set_option maxHeartbeats 1000000 in
theorem new_ok (U : ByteArray) (B f : Nat) (w : World) (h : 8 ≤ B ∧ B ≤ 4096 ∧ 1 ≤ f ∧ f ≤ B) :
    Calls Tryd.prog 12 #[.string U, .int .i64 (B : Int), .int .i64 (f : Int)] w fun e w' => ∃ g, e = .returned (.tuple #[.pointer (some ⟨g, 0, none⟩), .int .i64 0]) ∧ w.heap.size ≤ g ∧ Pool w' g U ⟨#[]⟩ B f (free (hasB U) B) ∧ Below w.heap.size w w' := by
  obtain ⟨h1, h2, h3, h4⟩ := h
  have a1 : 8 ≤ (B : Int) := by omega
  have a2 : (B : Int) ≤ 4096 := by omega
  have a3 : 1 ≤ (f : Int) := by omega
  have a4 : (f : Int) ≤ (B : Int) := by omega
  go_enter Tryd.func12, Tryd.ntmps12
  go_wp2_with fail
  refine (gap_o U 1 B w (by omega)).mono ?_
  rintro en w' ⟨rfl, hw'⟩
  replace hw' := hw'.symm
  subst hw'
  obtain ⟨o0, ho0⟩ : ∃ o, o = seek (fun m => !hasB U m) (B - 1) 1 := ⟨_, rfl⟩
  rw [← ho0]
  replace ho0 := Lib.hid ho0
  go_wp2_with fail
  go_loop [8, 9, 10] (fun l t k => ∃ (a : Nat) (o : Option Nat), 1 ≤ a ∧ a ≤ B ∧ o = seek (fun m => !hasB U m) (B - a) a ∧ l = .int .i64 (freeTo (hasB U) a : Nat) ∧ t = .int .i64 (oNum o) ∧ k = .bool o.isSome) (fun _ t k => match k with | .bool true => B - (intOf t).toNat | _ => 0)
  case atStart => exact ⟨1, o0, by omega, by omega, ho0.out, by rw [freeTo_one]; rfl, rfl, rfl⟩
  case round =>
    clear ho0
    obtain ⟨a, o, ha1, haB, ho, rfl, rfl, rfl⟩ := hrel
    have hfa := freeTo_le (hasB U) a
    cases o with
    | some r =>
      obtain ⟨s1, s2, _, _⟩ := seek_some ho.symm
      have hrB : r < B := by omega
      have hc := freeTo_hit ha1 ho.symm
      have k2 := gap_o U (r + 1) B w (by omega)
      obtain ⟨o2, ho2⟩ : ∃ o, o = seek (fun m => !hasB U m) (B - (r + 1)) (r + 1) := ⟨_, rfl⟩
      rw [← ho2] at k2
      have hm : ∀ y, o2 = some y → r < y ∧ y < B := fun y hy => by
        obtain ⟨s3, s4, _, _⟩ := seek_some (ho2.symm.trans hy)
        omega
      rw [show ((r + 1 : Nat) : Int) = (r : Int) + 1 by omega] at k2
      show Code.wp _ _ _ { tmps := #[_, _, _, _, _, _, _, _, Value.int .i64 (freeTo (hasB U) a : Nat), Value.int .i64 (r : Int), Value.bool true, _, _, _, _, _, _, _, _, _, _, _, _, _, _, _, _, _, _, _, _, _, _, _, _, _, _, _, _, _, _, _, _, _, _, _, _, _, _], defers := _ } _
      generalize freeTo (hasB U) a = c at hfa hc
      replace k2 := Lib.hid k2
      replace hc := Lib.hid hc
      replace ho2 := Lib.hid ho2
      replace hm := Lib.hid hm
      clear ho
      go_wp2_with fail
      refine k2.out.mono ?_
      rintro en w' ⟨rfl, hw'⟩
      replace hw' := hw'.symm
      subst hw'
      go_wp2_with fail
      refine ⟨⟨r + 1, o2, by omega, by omega, ho2.out, by rw [hc.out]; rfl, rfl, rfl⟩, ?_⟩
      cases o2 with
      | none => show 0 < B - r; omega
      | some y =>
        have := hm.out y rfl
        show B - y < B - r
        omega
    | none =>
      have hfr : freeTo (hasB U) a = free (hasB U) B := by rw [← freeTo_all (show 1 ≤ B by omega)]; exact (freeTo_end ha1 haB ho.symm).symm
      rw [hfr]
      rw [hfr] at hfa
      generalize hF : free (hasB U) B = c at hfa
      replace hF := Lib.hid hF
      show Code.wp _ _ _ { tmps := #[_, _, _, _, _, _, _, _, Value.int .i64 (c : Int), Value.int .i64 0, Value.bool false, _, _, _, _, _, _, _, _, _, _, _, _, _, _, _, _, _, _, _, _, _, _, _, _, _, _, _, _, _, _, _, _, _, _, _, _, _, _], defers := _ } _
      clear ho hfr
      go_wp2_with fail
      go_ret2
      rw [hF.out]
      exact ⟨_, rfl, Nat.le_refl _, Blk.new w _ _, (Below.refl _ w).alloc (Nat.le_refl _) _⟩
end Go.Proofs.YthclfljmnljhdaaDoor.Alloc

/- The walk of the law AllocParts. -/
import Derived.Test.YthclfljmnljhdaaDoorAllocLaws
import Derived.IntWalk
import Derived.Deep.RegionHeld3
namespace Go.Proofs.YthclfljmnljhdaaDoor.Alloc
open Go.RowKit Mem Sets

/-- what is free behind a first pick, when that is used -/
theorem ord_rest {U : ByteArray} {b a k : Nat} (hk : 8 ≤ b ∧ b ≤ 4096 ∧ 1 ≤ a ∧ a ≤ b) (hl : k ≤ (ord U b a).length) :
    ord (orB U (setB ((ord U b a).take k))) b (lastOf ((ord U b a).take k) a) = (ord U b a).drop k ∧ 1 ≤ lastOf ((ord U b a).take k) a ∧ lastOf ((ord U b a).take k) a ≤ b := by
  obtain ⟨o1, o2, o3⟩ := order_takes (u := hasB U) hk.2.2.1 hk.2.2.2 k hl
  refine ⟨?_, o1, o2⟩
  have hu : hasB (orB U (setB ((ord U b a).take k))) = withL (hasB U) ((ord U b a).take k) := funext fun m => by
    rw [hasB_or, hasB_set]
    rfl
  unfold ord at hu ⊢
  rw [hu]
  exact o3
theorem of_nats (l : List Nat) (h : ∀ x ∈ l, x ≤ 65535) (A : Option Addr) (n c : Nat) (W : World) (hr : Row W A n (ints l)) (hn : n ≤ 1000000) :
    Calls Tryd.prog 14 #[.slice A n c] W fun e w' => e = .returned (.tuple #[.string (setB l), .int .i64 0]) ∧ Below W.heap.size W w' := by
  rw [ints_int] at hr
  have hk := of_out A n c (l.map fun (n : Nat) => (n : Int)) W hr (by omega)
  have e := ofOut_nat (l := l) h
  rw [show ofOut (l.map fun (n : Nat) => (n : Int)) = (ofL l, 0) from e] at hk
  exact hk

set_option maxRecDepth 100000 in
set_option maxHeartbeats 400000 in
theorem lawparts_any (U : ByteArray) (B f m x : Int) (w : World) (hU : U.size ≤ 140737488355328) :
    Calls Tryd.prog 5 #[askVal U B f m, .int .i64 x] w fun e w' => e = .returned (.bool true) ∧ Below w.heap.size w w' := by
  have hf := AskBox.new w U B f m
  have hb : Below w.heap.size w (w.alloc (.cells #[.string U, .int .i64 B, .int .i64 f, .int .i64 m] 23)) := (Below.refl _ w).alloc (Nat.le_refl _) _
  have hs := hb.size
  unfold askVal
  by_cases h2 : m < 0
  · have d2 : decide (m < 0) = true := decide_eq_true h2
    obtain ⟨m0, m1, m2, m3⟩ := hf.all
    clear hf h2
    go_enter Tryd.func5, Tryd.ntmps5
    go_wp2_with fail
    refine (fixed_any _).mono ?_
    rintro en w' ⟨rfl, b'⟩
    replace hb := hb.trans (b'.mono hs)
    clear b'
    replace hs := hb.size
    go_wp2_with fail
    go_ret
    exact ⟨rfl, hb⟩
  have d2 : decide (m < 0) = false := decide_eq_false h2
  by_cases h3 : 4096 < m
  · have d3 : decide (4096 < m) = true := decide_eq_true h3
    obtain ⟨m0, m1, m2, m3⟩ := hf.all
    clear hf h2 h3
    go_enter Tryd.func5, Tryd.ntmps5
    go_wp2_with fail
    refine (fixed_any _).mono ?_
    rintro en w' ⟨rfl, b'⟩
    replace hb := hb.trans (b'.mono hs)
    clear b'
    replace hs := hb.size
    go_wp2_with fail
    go_ret
    exact ⟨rfl, hb⟩
  have d3 : decide (4096 < m) = false := decide_eq_false h3
  by_cases h1 : 300 < B
  · have d1 : decide (300 < B) = true := decide_eq_true h1
    obtain ⟨m0, m1, m2, m3⟩ := hf.all
    clear hf h1 h2 h3
    go_enter Tryd.func5, Tryd.ntmps5
    go_wp2_with fail
    refine (fixed_any _).mono ?_
    rintro en w' ⟨rfl, b'⟩
    replace hb := hb.trans (b'.mono hs)
    clear b'
    replace hs := hb.size
    go_wp2_with fail
    go_ret
    exact ⟨rfl, hb⟩
  have d1 : decide (300 < B) = false := decide_eq_false h1
  rcases pick_cases U B f m with ⟨b, a, n, rfl, rfl, rfl, hk, hn⟩ | ⟨er, he, hp⟩
  · obtain ⟨q, hq, hmask⟩ : ∃ q : Nat, q ≤ 4095 ∧ bits .and .i64 x 4095 = (q : Int) := mask_any x 4095 (by decide)
    have hlen := ord_le (U := U) hk
    obtain ⟨k, hkq⟩ : ∃ k, k = min q n := ⟨_, rfl⟩
    have hkn : k ≤ n := by omega
    obtain ⟨hrest, z1, z2⟩ := ord_rest (U := U) (k := k) hk (by omega)
    have hk' : 8 ≤ b ∧ b ≤ 4096 ∧ 1 ≤ lastOf ((ord U b a).take k) a ∧ lastOf ((ord U b a).take k) a ≤ b := ⟨hk.1, hk.2.1, z1, z2⟩
    have k1 := Lib.hid (pick_ok hk hU hn)
    have k2 := pick_ok (U := U) (k := k) hk hU (by omega)
    have hs512 : (setB ((ord U b a).take k)).size ≤ 512 := setB_size (take_mem hk)
    have hU2 : (orB U (setB ((ord U b a).take k))).size ≤ 140737488355328 := or_size hU (by omega)
    have hxm : ∀ y ∈ (ord U b a).take k, y ≤ 65535 := fun y hy => by have := (ord_mem ⟨hk.2.2.1, hk.2.2.2⟩).1 (List.mem_of_mem_take hy); omega
    have k3 := pick_ok (k := n - k) hk' hU2 (by rw [hrest, List.length_drop]; omega)
    have k4 := fun W => or_b U (setB ((ord U b a).take k)) W hU (by omega)
    have k5 := of_nats ((ord U b a).take k) hxm
    rw [hrest] at k3
    have hsum : (ord U b a).take k ++ ((ord U b a).drop k).take (n - k) = (ord U b a).take n := by
      have h := List.take_add (l := ord U b a) (i := k) (j := n - k)
      rw [show k + (n - k) = n by omega] at h
      exact h.symm
    rw [lastOf_append, hsum] at k3
    have hxl : ((ord U b a).take k).length = k := by rw [List.length_take]; omega
    have hyl : (((ord U b a).drop k).take (n - k)).length = n - k := by rw [List.length_take, List.length_drop]; omega
    rw [← hsum] at k1 k3
    have hn3 : n ≤ 4095 := by omega
    clear hrest hU2 hxm hn hlen z1 z2 hk'
    generalize ((ord U b a).drop k).take (n - k) = ys at k1 k3 hyl
    generalize (ord U b a).take k = xs at k1 k2 k3 k4 k5 hxl hs512
    generalize orB U (setB xs) = V at k3 k4
    generalize setB xs = sx at k4 k5
    generalize lastOf (xs ++ ys) a = z at k1 k3
    generalize lastOf xs a = z1 at k2 k3
    obtain ⟨d, hd⟩ : ∃ d, d = n - k := ⟨_, rfl⟩
    rw [← hd] at k3 hyl
    have hnk : IntKind.i64.wrap ((n : Int) - (k : Int)) = (d : Int) := by rw [show (n : Int) - (k : Int) = (d : Int) by omega]; exact IntWalk.i64_in _ (by omega)
    have hd4 : d ≤ 4095 := by omega
    replace k2 := Lib.hid k2
    replace k3 := Lib.hid k3
    replace k4 := Lib.hid k4
    replace k5 := Lib.hid k5
    obtain ⟨m0, m1, m2, m3⟩ := hf.all
    have d4 : decide (300 < b) = false := decide_eq_false (by omega)
    have d5 : decide (4096 < n) = false := decide_eq_false (by omega)
    have hcase : (q ≤ n ∧ k = q) ∨ (n < q ∧ n = k) := by omega
    clear hkq h1 h2 h3 hsum hs512
    have hxy : (xs ++ ys).length = n := by rw [List.length_append]; omega
    replace hxl := Lib.hid hxl
    replace hyl := Lib.hid hyl
    rcases hcase with ⟨hq1, hkq⟩ | ⟨hq1, hkq⟩
    rotate_left
    focus
      have hd0 : d = 0 := by omega
      subst hd0
      clear hnk
    all_goals
      subst hkq
      clear hd
      go_enter Tryd.func5, Tryd.ntmps5
      go_wp2_with fail
      refine (k1.out _).mono ?_
      rintro en w1 ⟨A, c, rfl, r1, hc, b1⟩
      replace hf := hf.below b1
      replace hb := hb.trans (b1.mono hs)
      replace hs := hb.size
      clear b1 m0 m1 m2 m3
      obtain ⟨m0, m1, m2, m3⟩ := hf.all
      go_wp2_with fail
      refine (k2.out _).mono ?_
      rintro en w2 ⟨A2, c2, rfl, r2, hc2, b2⟩
      replace hf := hf.below b2
      replace r1 := r1.below b2
      replace hb := hb.trans (b2.mono hs)
      replace hs := hb.size
      clear b2 m0 m1 m2 m3
      go_wp2_with fail
      refine (k5.out _ _ _ _ r2 (by omega)).mono ?_
      rintro en w3 ⟨rfl, b3⟩
      replace hf := hf.below b3
      replace r1 := r1.below b3
      replace r2 := r2.below b3
      replace hb := hb.trans (b3.mono hs)
      replace hs := hb.size
      clear b3
      obtain ⟨m0, m1, m2, m3⟩ := hf.all
      go_wp2_with fail
      replace hf : AskBox w3.drew w.heap.size U b a n := hf
      replace hf := Lib.hid hf
      replace r1 := Lib.hid r1
      replace r2 := Lib.hid r2
      go_region_held3 (fun w' => w'.cell? ⟨w.heap.size, 0, none⟩ = some (.string U) ∧ w'.cell? ⟨w.heap.size, 1, none⟩ = some (.int .i64 (b : Int)) ∧ w'.cell? ⟨w.heap.size, 3, none⟩ = some (.int .i64 (n : Int)))
        (first
          | exact ⟨m0, m1, m3⟩
          | exact ⟨n0, n1, n3⟩
          | exact ⟨o0, o1, o3⟩
          | go_keep)
        (first
          | (go_at_call_of 20 (Value.string U); refine (k4.out _).mono ?_; rintro e w4 ⟨rfl, b4⟩; obtain ⟨n0, n1, n2, n3⟩ := (hf.out.below b4).all)
          | (go_at_call_of 9 (Value.string V); refine (k3.out _).mono ?_; rintro e w5 ⟨A3, c3, rfl, r3, hc3, b5⟩; have hf5 := (hf.out.below b4).below b5; obtain ⟨o0, o1, o2, o3⟩ := hf5.all))
      try clear hnk
      replace hb := (below_drewN hb 1).trans (b4.mono hs)
      replace hs := hb.size
      replace hb := hb.trans (b5.mono hs)
      replace hs := hb.size
      replace r1 := (show Row w3.drew _ _ _ from r1.out).below b4
      replace r2 := (show Row w3.drew _ _ _ from r2.out).below b4
      replace r1 := r1.below b5
      replace r2 := r2.below b5
      clear hf hf5 o0 o1 o2 o3 n0 n1 n2 n3 m0 m1 m2 m3 b4 b5
      replace r1 := Lib.hid r1
      replace r2 := Lib.hid r2
      replace r3 := Lib.hid r3
      go_wp2_with fail
      refine (fixed_any _).mono ?_
      rintro en w6 ⟨rfl, b6⟩
      replace r1 := r1.out.below b6
      replace r2 := r2.out.below b6
      replace r3 := r3.out.below b6
      replace hb := hb.trans (b6.mono hs)
      replace hs := hb.size
      clear b6
      rw [ints_int] at r1 r2 r3
      replace r1 := Lib.hid r1
      replace r2 := Lib.hid r2
      replace r3 := Lib.hid r3
      obtain ⟨i0, hinf, hz0, hz1, hz2⟩ := info_parts infoInt
      have own0 : (w6.alloc (.cells #[] 3)).ownsRow w6.heap.size 3 1 (.slice (some ⟨w6.heap.size, 0, none⟩) 0 0) 0 [] := World.ownsRow_made w6 #[] 0 (Nat.le_refl _) (by decide) rfl
      have rows2 := r2.out.below ((Below.refl w6.heap.size w6).alloc (Nat.le_refl _) (.cells #[] 3))
      go_wp2_with (first
        | (at_builtin; refine wpList_append_row _ (.tmp 109) (.tmp 110) _ rfl w6.heap.size 3 i0 (.int .i64 0) 8 Tryd.underlying24 hinf hz0 hz1 hz2 rfl (.slice (some ⟨w6.heap.size, 0, none⟩) 0 0) 0 [] rfl own0 A2 _ c2 _ rfl rows2 (ints_one _) (by unfold maxLen; omega) (by omega) (by simp) (by rfl) ?_; intro v8 w8 o8 g8 a8; have hb8 := ((Below.refl w6.heap.size w6).alloc (Nat.le_refl _) (.cells #[] 3)).grown g8 (by simp) (fun k hk => (own0.lt k hk).1); have rows3 := r3.out.below hb8)
        | (at_builtin; refine wpList_append_row _ (.tmp 111) (.tmp 112) _ rfl w6.heap.size 3 i0 (.int .i64 0) 8 Tryd.underlying24 hinf hz0 hz1 hz2 rfl v8 _ _ rfl o8 A3 _ c3 _ rfl rows3 (ints_one _) (by unfold maxLen; omega) (by omega) hb8.size (by rfl) ?_; intro v9 w9 o9 g9 a9; have hb9 := hb8.grown g9 hb8.size (fun k hk => (o8.lt k hk).1)))
      obtain ⟨A9, c9, rfl⟩ := own_slice o9
      have hr9 := Row.of_own o9
      rw [List.nil_append, ← List.map_append, ← List.map_append] at hr9
      replace hb := hb.trans (hb9.mono hs)
      have r19 := r1.out.below hb9
      clear o8 o9 g8 g9 a8 a9 own0 hb8 hb9 rows2 rows3
      refine (same_any A9 A _ n c9 c _ _ _ hr9 r19 (by omega)).mono ?_
      rintro en w10 ⟨rfl, q4, hw10⟩
      rw [decide_eq_true rfl]
      replace hb : Below w.heap.size w w10 := by rw [hw10]; exact below_drewN hb _
      clear hw10 r19 hr9
      go_wp2_with fail
      go_ret
      exact ⟨rfl, hb⟩
  · have k1 := Lib.hid (pick_no hp hU)
    have he2 : ((er : Int) != 0) = true := by simp; omega
    obtain ⟨m0, m1, m2, m3⟩ := hf.all
    clear hp hf h1 h2 h3
    go_enter Tryd.func5, Tryd.ntmps5
    go_wp2_with fail
    refine (k1.out _).mono ?_
    rintro en w1 ⟨A, c, rfl, b1⟩
    replace hb := hb.trans (b1.mono hs)
    replace hs := hb.size
    clear b1 m0 m1 m2 m3
    go_wp2_with fail
    refine (fixed_any _).mono ?_
    rintro en w' ⟨rfl, b'⟩
    replace hb := hb.trans (b'.mono hs)
    clear b'
    replace hs := hb.size
    go_wp2_with fail
    go_ret
    exact ⟨rfl, hb⟩
end Go.Proofs.YthclfljmnljhdaaDoor.Alloc

/- The walk of the law AllocLess. -/
import Derived.Test.YthclfljmnljhdaaDoorAllocLaws
namespace Go.Proofs.YthclfljmnljhdaaDoor.Alloc
open Go.RowKit Mem Sets

set_option maxRecDepth 100000 in
set_option maxHeartbeats 2000000 in
theorem lawless_any (U : ByteArray) (B f m x : Int) (w : World) (hU : U.size ≤ 140737488355328) :
    Calls Tryd.prog 6 #[askVal U B f m, .int .i64 x] w fun e w' => e = .returned (.bool true) ∧ Below w.heap.size w w' := by
  have hf := AskBox.new w U B f m
  have hb : Below w.heap.size w (w.alloc (.cells #[.string U, .int .i64 B, .int .i64 f, .int .i64 m] 23)) := (Below.refl _ w).alloc (Nat.le_refl _) _
  have hs := hb.size
  unfold askVal
  by_cases h1 : 300 < B
  · have d1 : decide (300 < B) = true := decide_eq_true h1
    obtain ⟨m0, m1, m2, m3⟩ := hf.all
    clear hf h1
    go_enter Tryd.func6, Tryd.ntmps6
    go_wp2_with fail
    refine (fixed_any _).mono ?_
    rintro en w' ⟨rfl, b'⟩
    replace hb := hb.trans (b'.mono hs)
    clear b'
    replace hs := hb.size
    go_wp2_with fail
    go_ret
    exact ⟨rfl, hb⟩
  have d1 : decide (300 < B) = false := decide_eq_false h1
  by_cases h2 : m < 0
  · have d2 : decide (m < 0) = true := decide_eq_true h2
    obtain ⟨m0, m1, m2, m3⟩ := hf.all
    clear hf h1 h2
    go_enter Tryd.func6, Tryd.ntmps6
    go_wp2_with fail
    refine (fixed_any _).mono ?_
    rintro en w' ⟨rfl, b'⟩
    replace hb := hb.trans (b'.mono hs)
    clear b'
    replace hs := hb.size
    go_wp2_with fail
    go_ret
    exact ⟨rfl, hb⟩
  have d2 : decide (m < 0) = false := decide_eq_false h2
  rcases pick_cases U B f m with ⟨b, a, n, rfl, rfl, rfl, hk, hn⟩ | ⟨er, he, hp⟩
  · obtain ⟨q, hq, hmask⟩ : ∃ q : Nat, q ≤ 65535 ∧ bits .and .i64 x 65535 = (q : Int) := mask_any x 65535 (by decide)
    have hlen := ord_le (U := U) hk
    have hkn : q % (n + 1) ≤ n := by have := Nat.mod_lt q (show 0 < n + 1 by omega); omega
    have k1 := Lib.hid (pick_ok hk hU hn)
    obtain ⟨k, hkq⟩ : ∃ k, k = q % (n + 1) := ⟨_, rfl⟩
    have hmod : ((q : Int) % ((n : Int) + 1)) = (k : Int) := by rw [hkq]; simp
    rw [← hkq] at hkn
    replace hkq := Lib.hid hkq
    have k2 := pick_ok (k := k) hk hU (by omega)
    have hxs : ((ord U b a).take n).take k = (ord U b a).take k := by rw [List.take_take, Nat.min_eq_left hkn]
    have hxl : ((ord U b a).take n).length = n := by rw [List.length_take]; omega
    have hxm : ∀ y ∈ (ord U b a).take n, y ≤ 4096 := fun y hy => by have := (ord_mem ⟨hk.2.2.1, hk.2.2.2⟩).1 (List.mem_of_mem_take hy); omega
    rw [← hxs] at k2
    generalize (ord U b a).take n = xs at k1 k2 hxs hxl hxm
    clear hxs
    have hn3 : n ≤ 4095 := by omega
    clear hn hlen hq
    replace k2 := Lib.hid k2
    obtain ⟨m0, m1, m2, m3⟩ := hf.all
    have d3 : decide (300 < b) = false := decide_eq_false (by omega)
    go_enter Tryd.func6, Tryd.ntmps6
    go_wp2_with fail
    refine (k1.out _).mono ?_
    rintro en w1 ⟨A, c, rfl, r1, hc, b1⟩
    replace hf := hf.below b1
    replace hb := hb.trans (b1.mono hs)
    replace hs := hb.size
    clear b1 m0 m1 m2 m3
    obtain ⟨m0, m1, m2, m3⟩ := hf.all
    generalize lastOf xs a = z1
    go_wp2_with fail
    refine (k2.out _).mono ?_
    rintro en w2 ⟨A2, c2, rfl, r2, hc2, b2⟩
    replace hf := hf.below b2
    replace r1 := r1.below b2
    replace hb := hb.trans (b2.mono hs)
    replace hs := hb.size
    clear b2 m0 m1 m2 m3
    go_wp2_with fail
    refine (fixed_any _).mono ?_
    rintro en w3 ⟨rfl, b3⟩
    replace hf := hf.below b3
    replace r1 := r1.below b3
    replace r2 := r2.below b3
    replace hb := hb.trans (b3.mono hs)
    replace hs := hb.size
    clear b3
    have hcut := run_cut A n c k (by omega)
    have r1k := row_take r1 hkn
    rw [ints_int, ← List.map_take, ← List.map_take] at r1k
    rw [ints_int] at r2
    go_wp2_with fail
    refine (same_any A2 A k k c2 c _ _ _ r2 r1k (by omega)).mono ?_
    rintro en w4 ⟨rfl, q4, hw4⟩
    rw [decide_eq_true rfl]
    have i4 : Below w3.heap.size w3 w4 := by rw [hw4]; exact below_drewN (Below.refl _ _) _
    replace hf := hf.below i4
    replace r1 := r1.below i4
    replace hb := hb.trans (i4.mono hs)
    obtain ⟨m0, m1, m2, m3⟩ := hf.all
    clear i4 hw4 hcut r2 r1k hs
    cases k with
    | zero =>
      rw [List.take_zero, lastOf_nil]
      clear r1
      go_wp2_with fail
      go_ret
      exact ⟨rfl, hb⟩
    | succ k =>
      rw [lastOf_take (show k < xs.length by omega)]
      obtain ⟨ad, u, rfl, hu, hcell⟩ := r1.at_ (show k < n by omega)
      rw [List.getElem?_map, List.getElem?_eq_getElem (show k < xs.length by omega)] at hu
      injection hu with hu
      subst hu
      have hx : xs[k] ≤ 4096 := hxm _ (List.getElem_mem _)
      generalize xs[k] = y at hcell hx ⊢
      have hi2 : k < n := by omega
      clear r1 hxm hxl
      go_wp2_with fail
      go_ret
      exact ⟨rfl, hb⟩
  · have k1 := Lib.hid (pick_no hp hU)
    have he2 : ((er : Int) != 0) = true := by simp; omega
    obtain ⟨m0, m1, m2, m3⟩ := hf.all
    clear hp hf h1 h2
    go_enter Tryd.func6, Tryd.ntmps6
    go_wp2_with fail
    refine (k1.out _).mono ?_
    rintro en w1 ⟨A, c, rfl, b1⟩
    replace hb := hb.trans (b1.mono hs)
    replace hs := hb.size
    clear b1 m0 m1 m2 m3
    go_wp2_with fail
    refine (fixed_any _).mono ?_
    rintro en w' ⟨rfl, b'⟩
    replace hb := hb.trans (b'.mono hs)
    clear b'
    replace hs := hb.size
    go_wp2_with fail
    go_ret
    exact ⟨rfl, hb⟩
end Go.Proofs.YthclfljmnljhdaaDoor.Alloc

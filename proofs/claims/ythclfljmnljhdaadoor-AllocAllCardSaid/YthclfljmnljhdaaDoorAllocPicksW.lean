/- The walk of the law AllocPicks. -/
import Derived.Test.YthclfljmnljhdaaDoorAllocWalkG
namespace Go.Proofs.YthclfljmnljhdaaDoor.Alloc
open Go.RowKit Mem Sets

theorem pickOut_len (U : ByteArray) (B f m : Int) : (pickOut U B f m).1.length ≤ 4095 := by
  unfold pickOut
  split
  · next h =>
    obtain ⟨h1, h2, h3, h4⟩ := okAt_iff.1 h.1
    have hl := ord_le (U := U) (B := B.toNat) (f := f.toNat) (by omega)
    split
    · show ((ord U B.toNat f.toNat).take m.toNat).length ≤ 4095
      rw [List.length_take]
      omega
    · exact Nat.zero_le _
  · exact Nat.zero_le _
/-- what was asked, as a value -/
def askVal (U : ByteArray) (B f m : Int) : Value := .agg #[.string U, .int .i64 B, .int .i64 f, .int .i64 m]

set_option maxRecDepth 100000 in
set_option maxHeartbeats 2000000 in
theorem lawpicks_any (U : ByteArray) (B f m : Int) (w : World) (hU : U.size ≤ 140737488355328) :
    Calls Tryd.prog 3 #[askVal U B f m] w fun e w' => e = .returned (.bool true) ∧ Below w.heap.size w w' := by
  have k1 := fun W => rpick_any U B f m W
  have k2 := fun W => pick_any U B f m W hU
  have hN0 := pickOut_len U B f m
  generalize pickOut U B f m = o at k1 k2 hN0
  obtain ⟨ln, nx, er⟩ := o
  have hlen : (ints ln).length = ln.length := List.length_map ..
  obtain ⟨N, hN⟩ : ∃ N, N = ln.length := ⟨_, rfl⟩
  obtain ⟨ls, hls⟩ : ∃ ls : List Int, ls = ln.map fun (n : Nat) => (n : Int) := ⟨_, rfl⟩
  have hi : ints ln = ls.map (Value.int .i64) := by rw [hls, List.map_map]; rfl
  have k1' : ∀ W, Calls Tryd.prog 8 #[.string U, .int .i64 B, .int .i64 f, .int .i64 m] W fun e w' => ∃ A c, e = .returned (.tuple #[.slice A N c, .int .i64 (nx : Int), .int .i64 (er : Int)]) ∧ Row w' A N (ls.map (Value.int .i64)) ∧ Below W.heap.size W w' := by
    intro W
    refine (k1 W).mono ?_
    rintro e w' ⟨A, c, he, hr, hb⟩
    simp only [← hN, hi] at he hr
    exact ⟨A, c, he, hr, hb⟩
  have k2' : ∀ W, Calls Tryd.prog 9 #[.string U, .int .i64 B, .int .i64 f, .int .i64 m] W fun e w' => ∃ v, e = .returned (.tuple #[v, .int .i64 (nx : Int), .int .i64 (er : Int)]) ∧ w'.ownsRow W.heap.size 3 1 v N (ls.map (Value.int .i64)) ∧ Below W.heap.size W w' := by
    intro W
    refine (k2 W).mono ?_
    rintro e w' ⟨v, he, ho, hb⟩
    simp only [← hN, hi] at he ho
    exact ⟨v, he, ho, hb⟩
  have hN2 : N ≤ 4095 := by rw [hN]; exact hN0
  clear k1 k2 hls hi hlen hN hN0
  replace k1' := Lib.hid k1'
  replace k2' := Lib.hid k2'
  have hf : Blk (w.alloc (.cells #[.string U, .int .i64 B, .int .i64 f, .int .i64 m] 23)) w.heap.size 23 #[.string U, .int .i64 B, .int .i64 f, .int .i64 m] := Blk.new w _ _
  have hb : Below w.heap.size w (w.alloc (.cells #[.string U, .int .i64 B, .int .i64 f, .int .i64 m] 23)) := (Below.refl _ w).alloc (Nat.le_refl _) _
  have hs := hb.size
  unfold askVal
  go_enter Tryd.func3, Tryd.ntmps3
  go_wp2_with fail
  generalize w.alloc (.cells #[.string U, .int .i64 B, .int .i64 f, .int .i64 m] 23) = w0 at hf hb hs ⊢
  refine (k1'.out _).mono ?_
  rintro en w1 ⟨Al, cl, rfl, hl, b1⟩
  have hf1 := hf.below b1 hf.lt
  replace hb := hb.trans (b1.mono hs)
  replace hs := hb.size
  have hlt0 := hf1.lt
  clear b1 hf
  go_wp2_with fail
  go_loopw [6] (fun t wr => ∃ j : Nat, j ≤ 2 ∧ t = .int .i64 (j : Int) ∧ Below w.heap.size w wr ∧ Row wr Al N (ls.map (Value.int .i64)) ∧ Blk wr w.heap.size 23 #[.string U, .int .i64 B, .int .i64 f, .int .i64 m]) (fun t _ => 2 - (intOf t).toNat)
  case atStart => exact ⟨0, by omega, rfl, hb, hl, hf1⟩
  case round =>
    clear hb hs hl hf1 hlt0
    obtain ⟨j, hj, rfl, hb, hl, hf⟩ := hrel
    have hs := hb.size
    by_cases hlt : j < 2
    · have m0 : wr.cell? ⟨w.heap.size, 0, none⟩ = some (.string U) := hf.cell 0
      have m1 : wr.cell? ⟨w.heap.size, 1, none⟩ = some (.int .i64 B) := hf.cell 1
      have m2 : wr.cell? ⟨w.heap.size, 2, none⟩ = some (.int .i64 f) := hf.cell 2
      have m3 : wr.cell? ⟨w.heap.size, 3, none⟩ = some (.int .i64 m) := hf.cell 3
      go_wp2_with fail
      refine (k2'.out _).mono ?_
      rintro en w1 ⟨kv, rfl, ko, b1⟩
      obtain ⟨Ak, ck, rfl⟩ := own_slice ko
      have hl1 := hl.below b1
      have hk1 := Row.of_own ko
      clear m0 m1 m2 m3
      replace hl := Lib.hid hl
      replace ko := Lib.hid ko
      go_wp2_with fail
      refine (same_any Ak Al N N ck cl ls ls _ hk1 hl1 (by omega)).mono ?_
      rintro en w2 ⟨rfl, q, rfl⟩
      have hd : decide (ls = ls) = true := decide_eq_true rfl
      rw [hd]
      clear hd hk1 hl1
      have b2 := below_drewN b1 q
      have ko2 : (w1.drewN q).ownsRow wr.heap.size 3 1 (.slice Ak N ck) N (ls.map (Value.int .i64)) := ko.out
      clear ko b1
      generalize w1.drewN q = w2 at b2 ko2
      replace ko2 := Lib.hid ko2
      go_wp2_with fail
      go_loopw [10] (fun t wq => ∃ m : Nat, m ≤ N ∧ t = .int .i64 (m : Int) ∧ Below wr.heap.size wr wq ∧ ∃ us, wq.ownsRow wr.heap.size 3 1 (.slice Ak N ck) N us) (fun t _ => N - (intOf t).toNat)
      case atStart => exact ⟨0, Nat.zero_le _, rfl, b2, _, ko2.out⟩
      case round =>
        clear b2 ko2
        obtain ⟨m, hm, rfl, b2, us, ko⟩ := hrel
        by_cases hlm : m < N
        · obtain ⟨g, cap, hv, hgB, _⟩ := ko.form (by omega)
          injection hv with hv1 _ hv2
          subst hv1 hv2
          obtain ⟨u, hu⟩ : ∃ u, us[m]? = some u := ⟨_, List.getElem?_eq_getElem (by have := ko.1; omega)⟩
          have mB := ko.cells (g := g) rfl m u hu
          rw [add_lit, Nat.zero_add] at mB
          obtain ⟨ko', fB⟩ := own_put (i := m) (u := .int .i64 0) ko
          have hgB2 := (ko.lt g rfl).1
          have b3 := b2.setCell (p := ⟨g, m, none⟩) hgB2 (.int .i64 0)
          replace ko' := Lib.hid ko'
          replace b3 := Lib.hid b3
          clear ko hu
          go_wp2_with fail
          exact ⟨⟨m + 1, by omega, rfl, b3.out, _, ko'.out⟩, by simp [intOf]; omega⟩
        · obtain rfl : m = N := by omega
          have hl2 := hl.out.below b2
          have hb2 := hb.trans (b2.mono hs)
          have hf2 := hf.below b2 hf.lt
          clear ko
          go_wp2_with fail
          exact ⟨⟨j + 1, by omega, rfl, hb2, hl2, hf2⟩, by simp [intOf]; omega⟩
    · obtain rfl : j = 2 := by omega
      clear hl hf
      go_wp2_with fail
      refine (fixed_any _).mono ?_
      rintro en w' ⟨rfl, b'⟩
      replace hb := hb.trans (b'.mono hs)
      clear b'
      replace hs := hb.size
      go_wp2_with fail
      go_ret
      exact ⟨rfl, hb⟩
end Go.Proofs.YthclfljmnljhdaaDoor.Alloc

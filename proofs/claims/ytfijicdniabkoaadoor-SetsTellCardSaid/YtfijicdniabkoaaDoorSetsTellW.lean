/- The walk of the law SetsTell. -/
import Derived.Test.YtfijicdniabkoaaDoorSetLawsB
namespace Go.Proofs.YtfijicdniabkoaaDoor.Sets
open Go.RowKit Mem

set_option maxRecDepth 100000 in
set_option maxHeartbeats 2000000 in
theorem lawtell_any (s : ByteArray) (n : Int) (w : World) (hs' : s.size ≤ 140737488355328) (hn : n ≤ 9223372036854775807) :
    Calls Tryd.prog 4 #[.string s, .int .i64 n] w fun e w' => e = .returned (.bool true) ∧ Below w.heap.size w w' := by
  have hx := cut_le 3000 s
  have k0 := Lib.hid (fun W => short_any s W hs')
  clear hs'
  generalize cut 3000 s = x at hx k0
  have k1 := fun W => rlist_any x W (by omega)
  have k2 := fun W => list_any x W (by omega)
  have k3 := fun W => count_any x (by omega) W
  have k4 := fun W => has_any x n W hn
  have k5 := fun W => rhas_any x n W hn
  have hN := elems_length_le x.data.toList
  rw [← Lib.size_eq x] at hN
  generalize elems x.data.toList = ls at k1 k2 k3 hN
  generalize hasI x.data.toList n = B at k4 k5
  obtain ⟨N, hNN⟩ : ∃ N, N = ls.length := ⟨_, rfl⟩
  rw [← hNN] at hN k1 k2 k3
  have hN2 : N ≤ 24000 := by omega
  clear hN
  replace hNN := Lib.hid hNN
  replace k1 := Lib.hid k1
  replace k2 := Lib.hid k2
  replace k3 := Lib.hid k3
  replace k4 := Lib.hid k4
  replace k5 := Lib.hid k5
  have hb := Below.refl w.heap.size w
  have hs := hb.size
  go_enter Tryd.func4, Tryd.ntmps4
  go_wp2_with fail
  refine (k0.out _).mono ?_
  rintro en w' ⟨rfl, hw'⟩
  replace hw' := hw'.symm
  subst hw'
  go_wp2_with fail
  refine (k1.out _).mono ?_
  rintro en w' ⟨lv, rfl, lo, b'⟩
  replace hb := hb.trans (b'.mono hs)
  clear b'
  replace hs := hb.size
  obtain ⟨Al, cl, rfl⟩ := own_slice lo
  have hl := Row.of_own lo
  clear lo
  go_wp2_with fail
  go_loopw [6] (fun t wr => ∃ j : Nat, j ≤ 2 ∧ t = .int .i64 (j : Int) ∧ Below w.heap.size w wr ∧ Row wr Al N (ls.map (Value.int .i64))) (fun t _ => 2 - (intOf t).toNat)
  case atStart => exact ⟨0, by omega, rfl, hb, hl⟩
  case round =>
    clear hb hs hl
    obtain ⟨j, hj, rfl, hb, hl⟩ := hrel
    have hs := hb.size
    by_cases hlt : j < 2
    · go_wp2_with fail
      refine (k2.out _).mono ?_
      rintro en w1 ⟨kv, rfl, ko, b1⟩
      obtain ⟨Ak, ck, rfl⟩ := own_slice ko
      have hl1 := hl.below b1
      have hk1 := Row.of_own ko
      replace hl := Lib.hid hl
      replace ko := Lib.hid ko
      go_wp2_with fail
      refine (same_any Ak Al N N ck cl ls ls _ hk1 hl1 (by omega)).mono ?_
      rintro en w2 ⟨rfl, q, rfl⟩
      have hd : decide (ls = ls) = true := decide_eq_true rfl
      rw [hd]
      clear hd hk1 hl1
      have b2 := below_drewN b1 q
      have ko2 : (w1.drewN q).ownsRow wr.heap.size 3 1 (.slice Ak N ck) N (ls.map (Value.int .i64)) := ko.out
      clear ko b1
      generalize w1.drewN q = w2 at b2 ko2
      replace ko2 := Lib.hid ko2
      go_wp2_with fail
      go_loopw [8] (fun t wq => ∃ m : Nat, m ≤ N ∧ t = .int .i64 (m : Int) ∧ Below wr.heap.size wr wq ∧ ∃ us, wq.ownsRow wr.heap.size 3 1 (.slice Ak N ck) N us) (fun t _ => N - (intOf t).toNat)
      case atStart => exact ⟨0, Nat.zero_le _, rfl, b2, _, ko2.out⟩
      case round =>
        clear b2 ko2
        obtain ⟨m, hm, rfl, b2, us, ko⟩ := hrel
        by_cases hlm : m < N
        · obtain ⟨g, cap, hv, hgB, _⟩ := ko.form (by omega)
          injection hv with hv1 _ hv2
          subst hv1 hv2
          obtain ⟨u, hu⟩ : ∃ u, us[m]? = some u := ⟨_, List.getElem?_eq_getElem (by have := ko.1; omega)⟩
          have mB := ko.cells (g := g) rfl m u hu
          rw [add_lit, Nat.zero_add] at mB
          obtain ⟨ko', fB⟩ := own_put (i := m) (u := .int .i64 (-1)) ko
          have hgB2 := (ko.lt g rfl).1
          have b3 := b2.setCell (p := ⟨g, m, none⟩) hgB2 (.int .i64 (-1))
          replace ko' := Lib.hid ko'
          replace b3 := Lib.hid b3
          clear ko hu
          go_wp2_with fail
          exact ⟨⟨m + 1, by omega, rfl, b3.out, _, ko'.out⟩, by simp [intOf]; omega⟩
        · obtain rfl : m = N := by omega
          have hl2 := hl.out.below b2
          have hb2 := hb.trans (b2.mono hs)
          clear ko
          go_wp2_with fail
          exact ⟨⟨j + 1, by omega, rfl, hb2, hl2⟩, by simp [intOf]; omega⟩
    · obtain rfl : j = 2 := by omega
      clear hl
      go_wp2_with fail
      refine (fixed_any _).mono ?_
      rintro en w' ⟨rfl, b'⟩
      replace hb := hb.trans (b'.mono hs)
      clear b'
      replace hs := hb.size
      go_wp2_with fail
      refine (k3.out _).mono ?_
      rintro en w' ⟨rfl, b'⟩
      replace hb := hb.trans (b'.mono hs)
      clear b'
      replace hs := hb.size
      go_wp2_with fail
      refine (k4.out _).mono ?_
      rintro en w' ⟨rfl, hw'⟩
      replace hw' := hw'.symm
      subst hw'
      go_wp2_with fail
      refine (k5.out _).mono ?_
      rintro en w' ⟨rfl, hw'⟩
      replace hw' := hw'.symm
      subst hw'
      go_wp2_with fail
      go_ret
      exact ⟨rfl, hb⟩
end Go.Proofs.YtfijicdniabkoaaDoor.Sets

/- The program's Seal: which message may be, its bytes. -/
import Derived.Test.YtndmcbphdknihaaDoorWireOut
import Derived.Test.YtndmcbphdknihaaDoorSipWalkF
import Derived.Test.YtndmcbphdknihaaDoorFrameSpec
import Derived.Lib.MinMax
import Derived.Deep.RegionHeld3
namespace Go.Proofs.YtndmcbphdknihaaDoor.Frame
open Go.RowKit Mem Wire

theorem ok_iff (k e q : Int) (n : Nat) : Ok k e q n ↔ k = max 0 (min k 7) ∧ e = max 0 (min e 1073741824) ∧ q = max 0 (min q 1073741824) ∧ n ≤ 2000 := by unfold Ok; omega
/-- a message as a value -/
def fVal (k e q : Int) (b : ByteArray) : Value := .agg #[.int .i64 k, .int .i64 e, .int .i64 q, .string b]

set_option maxRecDepth 100000 in
set_option maxHeartbeats 1000000 in
theorem near_any (n most : Int) (w : World) :
    Calls Tryd.prog 26 #[.int .i64 n, .int .i64 most] w fun e w' => e = .returned (.int .i64 (max 0 (min n most))) ∧ w' = w := by
  go_enter Tryd.func26, Tryd.ntmps26
  go_wp2_with fail
  go_ret
  exact ⟨rfl, rfl⟩

set_option maxRecDepth 100000 in
set_option maxHeartbeats 1000000 in
theorem may_any (k e q : Int) (b : ByteArray) (w : World) :
    Calls Tryd.prog 13 #[fVal k e q b] w fun en w' => en = .returned (.bool (decide (Ok k e q b.size))) ∧ Below w.heap.size w w' := by
  have k1 := Lib.hid (fun W => near_any k 7 W)
  have k2 := Lib.hid (fun W => near_any e 1073741824 W)
  have k3 := Lib.hid (fun W => near_any q 1073741824 W)
  obtain ⟨k', hk⟩ : ∃ z, z = max 0 (min k 7) := ⟨_, rfl⟩
  obtain ⟨e', he⟩ : ∃ z, z = max 0 (min e 1073741824) := ⟨_, rfl⟩
  obtain ⟨q', hq⟩ : ∃ z, z = max 0 (min q 1073741824) := ⟨_, rfl⟩
  rw [← hk] at k1
  rw [← he] at k2
  rw [← hq] at k3
  replace hk := Lib.hid hk
  replace he := Lib.hid he
  replace hq := Lib.hid hq
  unfold fVal
  go_enter Tryd.func13, Tryd.ntmps13
  go_wp2_with fail
  obtain ⟨w1, hw⟩ : ∃ z, z = w.alloc (.cells #[.int .i64 k, .int .i64 e, .int .i64 q, .string b] 23) := ⟨_, rfl⟩
  rw [← hw]
  have h1 : Blk w1 w.heap.size 23 #[.int .i64 k, .int .i64 e, .int .i64 q, .string b] := by rw [hw]; exact Blk.new w _ _
  have b1 : Below w.heap.size w w1 := by rw [hw]; exact (Below.refl _ w).alloc (Nat.le_refl _) _
  have m0 : w1.cell? ⟨w.heap.size, 0, none⟩ = some (.int .i64 k) := h1.cell 0
  have m1 : w1.cell? ⟨w.heap.size, 1, none⟩ = some (.int .i64 e) := h1.cell 1
  have m2 : w1.cell? ⟨w.heap.size, 2, none⟩ = some (.int .i64 q) := h1.cell 2
  have m3 : w1.cell? ⟨w.heap.size, 3, none⟩ = some (.string b) := h1.cell 3
  have hlt := h1.lt
  clear hw
  apply Sip.wp_meet
  case h =>
    go_region_held3 (fun w' => w'.cell? ⟨w.heap.size, 0, none⟩ = some (.int .i64 k) ∧ w'.cell? ⟨w.heap.size, 1, none⟩ = some (.int .i64 e) ∧ w'.cell? ⟨w.heap.size, 2, none⟩ = some (.int .i64 q)) (go_keep)
      (first
        | (go_at_call_of 26 (Value.int IntKind.i64 k); refine (k1.out _).mono ?_; rintro e W ⟨rfl, rfl⟩)
        | (go_at_call_of 26 (Value.int IntKind.i64 e); refine (k2.out _).mono ?_; rintro e W ⟨rfl, rfl⟩)
        | (go_at_call_of 26 (Value.int IntKind.i64 q); refine (k3.out _).mono ?_; rintro e W ⟨rfl, rfl⟩))
    all_goals exact ⟨rfl, rfl⟩
  case hk =>
  obtain ⟨w2, hw⟩ : ∃ z, z = (w1.alloc (.cells #[.int .i64 k', .int .i64 e', .int .i64 q'] 50)).drew := ⟨_, rfl⟩
  rw [← hw]
  have h2 : Blk w2 w.heap.size 23 #[.int .i64 k, .int .i64 e, .int .i64 q, .string b] := by rw [hw]; exact h1.alloc _
  have b2 : Below w.heap.size w w2 := by rw [hw]; exact (b1.alloc b1.size _).drew
  have m4 : w2.cell? ⟨w1.heap.size, 0, none⟩ = some (.int .i64 k') := by rw [hw]; exact (Blk.new w1 _ _).cell 0
  have m5 : w2.cell? ⟨w1.heap.size, 1, none⟩ = some (.int .i64 e') := by rw [hw]; exact (Blk.new w1 _ _).cell 1
  have m6 : w2.cell? ⟨w1.heap.size, 2, none⟩ = some (.int .i64 q') := by rw [hw]; exact (Blk.new w1 _ _).cell 2
  have m0 : w2.cell? ⟨w.heap.size, 0, none⟩ = some (.int .i64 k) := h2.cell 0
  have m1 : w2.cell? ⟨w.heap.size, 1, none⟩ = some (.int .i64 e) := h2.cell 1
  have m2 : w2.cell? ⟨w.heap.size, 2, none⟩ = some (.int .i64 q) := h2.cell 2
  have m3 : w2.cell? ⟨w.heap.size, 3, none⟩ = some (.string b) := h2.cell 3
  clear hw h1 b1
  have hok : Ok k e q b.size ↔ k = k' ∧ e = e' ∧ q = q' ∧ b.size ≤ 2000 := by rw [hk.out, he.out, hq.out]; exact ok_iff k e q b.size
  replace hok := Lib.hid hok
  replace b2 := Lib.hid b2
  clear k1 k2 k3 hk he hq h2
  have no : ¬ (k = k' ∧ e = e' ∧ q = q' ∧ b.size ≤ 2000) → decide (Ok k e q b.size) = false := fun h => decide_eq_false (fun h2 => h (hok.out.1 h2))
  replace no := Lib.hid no
  by_cases h0 : k = k'
  · by_cases h1 : e = e'
    · by_cases h2 : q = q'
      · by_cases h3 : b.size ≤ 2000
        · have yes := Lib.hid (decide_eq_true (hok.out.2 ⟨h0, h1, h2, h3⟩))
          go_wp2_with fail
          go_ret
          rw [yes.out]
          refine ⟨?_, b2.out⟩
          show Ending.returned (Value.bool (decide ((b.size : Int) ≤ 2000))) = _
          rw [decide_eq_true (show (b.size : Int) ≤ 2000 by omega)]
        · go_wp2_with fail
          go_ret
          rw [no.out (fun h => h3 h.2.2.2)]
          refine ⟨?_, b2.out⟩
          show Ending.returned (Value.bool (decide ((b.size : Int) ≤ 2000))) = _
          rw [decide_eq_false (show ¬ (b.size : Int) ≤ 2000 by omega)]
      · go_wp2_with fail
        go_ret
        rw [no.out (fun h => h2 h.2.2.1)]
        exact ⟨rfl, b2.out⟩
    · go_wp2_with fail
      go_ret
      rw [no.out (fun h => h1 h.2.1)]
      exact ⟨rfl, b2.out⟩
  · go_wp2_with fail
    go_ret
    rw [no.out (fun h => h0 h.1)]
    exact ⟨rfl, b2.out⟩

end Go.Proofs.YtndmcbphdknihaaDoor.Frame

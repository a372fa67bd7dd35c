/- Sets: the document's Same (the text of the wire seat's), List. -/
import Derived.Test.YthclfljmnljhdaaDoorSetWalkJ
namespace Go.Proofs.YthclfljmnljhdaaDoor.Sets
open Go.RowKit Mem

theorem take_snoc_of {l : List Int} {k : Nat} {x : Int} (h : l[k]? = some x) : l.take (k + 1) = l.take k ++ [x] := by
  rw [List.take_add_one, h]; rfl
/-- Same: two rows of numbers -/
def SamePost (w : World) (xs ys : List Int) (e : Ending) (w' : World) : Prop := e = .returned (.bool (decide (xs = ys))) ∧ ∃ q, w' = w.drewN q

set_option maxRecDepth 100000 in
set_option maxHeartbeats 2000000 in
theorem same_any (A B : Option Addr) (n m c d : Nat) (xs ys : List Int) (w : World) (hx : Row w A n (xs.map (Value.int .i64))) (hy : Row w B m (ys.map (Value.int .i64))) (hn : n ≤ 9223372036854775807) :
    Calls Tryd.prog 10 #[.slice A n c, .slice B m d] w (SamePost w xs ys) := by
  have hxl := Lib.hid (show xs.length = n by simpa using hx.1)
  have hyl := Lib.hid (show ys.length = m by simpa using hy.1)
  by_cases hnm : n = m
  · subst hnm
    have hne : ((n : Int) != (n : Int)) = false := by simp
    go_enter Tryd.func10, Tryd.ntmps10
    go_wp2_with fail
    go_loopw [5] (fun i wr => ∃ k q : Nat, k ≤ n ∧ i = .int .i64 (k : Int) ∧ xs.take k = ys.take k ∧ wr = w.drewN q) (fun i _ => n - (intOf i).toNat)
    case atStart => exact ⟨0, 0, Nat.zero_le _, rfl, by simp, rfl⟩
    case round =>
      obtain ⟨k, q, hk, rfl, hpre, rfl⟩ := hrel
      have hpre' := Lib.hid hpre
      clear hpre
      by_cases hlt : k < n
      · obtain ⟨ad, u, rfl, hu, hc⟩ := hx.at_ hlt
        obtain ⟨bd, v, rfl, hv, hd⟩ := hy.at_ hlt
        obtain ⟨x, hx1, rfl⟩ := getMap_int hu
        obtain ⟨y, hy1, rfl⟩ := getMap_int hv
        have hx2 := Lib.hid hx1
        have hy2 := Lib.hid hy1
        have hk0 : (0 : Int) ≤ (k : Int) := by omega
        have hkI : (k : Int) < (n : Int) := by omega
        clear hx1 hy1 hu hv
        by_cases hxy : x = y
        · subst hxy
          have hbne : (x != x) = false := by simp
          go_wp2_with fail
          go_quiet (fail)
          go_wp2_with fail
          go_roundw
          case rel => exact ⟨k + 1, _, by omega, by go_num, by rw [take_snoc_of hx2.out, take_snoc_of hy2.out, hpre'.out], rfl⟩
          case measure => simp [intOf]; omega
        · have hbne : (x != y) = true := by simpa using hxy
          have hxy' := Lib.hid hxy
          clear hxy
          go_wp2_with fail
          go_quiet (fail)
          go_wp2_with fail
          go_ret
          refine ⟨?_, _, World.drewN_drewN _ _ _⟩
          have : ¬ xs = ys := fun h => hxy'.out (by have h1 := hx2.out; rw [h, hy2.out] at h1; exact (Option.some.inj h1).symm)
          simp only [this, decide_false]
          rfl
      · obtain rfl : k = n := by omega
        go_wp2_with fail
        go_ret
        refine ⟨?_, _, rfl⟩
        have h1 := hpre'.out
        rw [List.take_of_length_le (by rw [hxl.out]; exact Nat.le_refl _), List.take_of_length_le (by rw [hyl.out]; exact Nat.le_refl _)] at h1
        simp only [h1, decide_true]
        rfl
  · have hne : ((n : Int) != (m : Int)) = true := by simp; omega
    have hnm' := Lib.hid hnm
    clear hnm
    go_enter Tryd.func10, Tryd.ntmps10
    go_wp2_with fail
    go_ret
    refine ⟨?_, 0, rfl⟩
    have : ¬ xs = ys := fun h => hnm'.out (by rw [← hxl.out, ← hyl.out, h])
    simp only [this, decide_false]
    rfl
end Go.Proofs.YthclfljmnljhdaaDoor.Sets

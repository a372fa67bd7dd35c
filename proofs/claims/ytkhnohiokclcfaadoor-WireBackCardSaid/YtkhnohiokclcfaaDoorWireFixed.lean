/- The calls whose answers the document fixes (stillagelaw03.fixed): all are as it says. -/
import Derived.Test.YtkhnohiokclcfaaDoorWireWalkH
namespace Go.Proofs.YtkhnohiokclcfaaDoor.Wire
open Go.RowKit Mem

theorem digits300 : digits 300 = [172, 2] := by rw [digits_big 300 (by omega), digits_small _ (by omega)]; rfl
theorem digits2 : digits 2 = [2] := by rw [digits_small _ (by omega)]; rfl
theorem digits1 : digits 1 = [1] := by rw [digits_small _ (by omega)]; rfl

theorem fix_num (w : World) : Calls Tryd.prog 11 #[.int .i64 300] w fun e w' => e = .returned (.tuple #[.string ⟨#[172, 2]⟩, .int .i64 0]) ∧ Below w.heap.size w w' := by
  have h := num_ok 300 w (by omega)
  rw [digits300] at h
  exact h
theorem fix_text (w : World) : Calls Tryd.prog 13 #[.string ⟨#[97, 98]⟩] w fun e w' => e = .returned (.tuple #[.string ⟨#[2, 97, 98]⟩, .int .i64 0]) ∧ Below w.heap.size w w' := by
  have h := text_ok ⟨#[97, 98]⟩ w (by simp [ByteArray.size])
  have e : (⟨#[97, 98]⟩ : ByteArray).size = 2 := rfl
  rw [e, digits2] at h
  exact h
theorem fix_nums (g : Nat) (w : World) (h : w.heap[g]? = some (.cells #[.int .i64 1, .int .i64 2] 3 (0, 0))) :
    Calls Tryd.prog 15 #[.slice (some ⟨g, 0, none⟩) 2 2] w fun e w' => e = .returned (.tuple #[.string ⟨#[2, 1, 2]⟩, .int .i64 0]) ∧ Below w.heap.size w w' := by
  have hr : Row w (some ⟨g, 0, none⟩) 2 ([1, 2].map (Value.int .i64)) := ⟨rfl, fun k u hu => ⟨_, rfl, by
    rw [add_lit, Nat.zero_add, cell_of_row w g k _ _ _ h]
    rw [← Array.getElem?_toList]; exact hu⟩⟩
  refine (nums_any (some ⟨g, 0, none⟩) 2 2 [1, 2] w hr (by omega)).mono ?_
  rintro e w' ⟨⟨_, rfl⟩ | ⟨hn, _⟩, hb⟩
  · refine ⟨?_, hb⟩
    have : row [1, 2] = [2, 1, 2] := by
      have h1 : digits (([1, 2] : List Int).length) = [2] := digits2
      have h2 : enc [1, 2] = digits 1 ++ (digits 2 ++ []) := rfl
      rw [row, h1, h2, digits1, digits2]; rfl
    rw [this]
  · exact absurd (by intro x hx; simp at hx; rcases hx with rfl | rfl <;> rfl) hn

theorem fix_r (b : Nat) (w : World) (h : IsRd w b ([172, 2], 0)) (hL : Laid w) : Calls Tryd.prog 19 #[.pointer (some ⟨b, 0, none⟩), .int .i64 1000] w fun e w' =>
    e = .returned (.tuple #[.int .i64 300, .int .i64 0]) ∧ IsRd w' b ([], 0) ∧ w.grownBy w' (some b) := by
  refine (rd_any b _ 1000 w h hL).mono ?_
  have hs : scan 0 0 [172, 2] = (0, 300, []) := by decide
  rw [rdNum_ok 1000 hs (by decide) (by decide)]
  exact fun e w' h => h
theorem fix_q (b : Nat) (w : World) (h : IsRd w b ([128, 0], 0)) (hL : Laid w) : Calls Tryd.prog 19 #[.pointer (some ⟨b, 0, none⟩), .int .i64 1000] w fun e w' =>
    e = .returned (.tuple #[.int .i64 0, .int .i64 30]) ∧ IsRd w' b ([128, 0], 30) ∧ w.grownBy w' (some b) := by
  refine (rd_any b _ 1000 w h hL).mono ?_
  rw [rdNum_bad 1000 (l := [128, 0]) (e := 30) (by decide) (by decide)]
  exact fun e w' h => h
theorem fix_end0 (b : Nat) (w : World) (h : IsRd w b ([], 0)) (hL : Laid w) : Calls Tryd.prog 21 #[.pointer (some ⟨b, 0, none⟩)] w fun e w' =>
    e = .returned (.int .i64 0) ∧ Below w.heap.size w w' :=
  (end_any b _ w h hL).mono fun _ _ h => ⟨h.1, h.2.2⟩
theorem fix_end30 (b : Nat) (l : List UInt8) (w : World) (h : IsRd w b (l, 30)) (hL : Laid w) : Calls Tryd.prog 21 #[.pointer (some ⟨b, 0, none⟩)] w fun e w' =>
    e = .returned (.int .i64 30) ∧ Below w.heap.size w w' :=
  (end_any b _ w h hL).mono fun _ _ h => ⟨h.1, h.2.2⟩

set_option maxRecDepth 100000 in
set_option maxHeartbeats 4000000 in
theorem fixed_any (w : World) (hL : Laid w) : Calls Tryd.prog 17 #[] w fun e w' => e = .returned (.bool true) ∧ Below w.heap.size w w' := by
  have hp := hL.pos
  go_enter Tryd.func17, Tryd.ntmps17
  go_wp2_with fail
  refine (fix_num _).mono ?_
  rintro e w1 ⟨rfl, hb1⟩
  go_wp2_with fail
  refine (fix_text _).mono ?_
  rintro e w2 ⟨rfl, hb2⟩
  go_wp2_with fail
  refine (num_neg (-1) _ (by omega)).mono ?_
  rintro e w3 ⟨rfl, rfl⟩
  go_wp2_with fail
  refine (fix_nums _ _ (heap_alloc_new _ _)).mono ?_
  rintro e w4 ⟨rfl, hb4⟩
  have hw4 : Below w.heap.size w w4 := ((hb1.trans (hb2.mono hb1.size)).alloc (by have := hb1.size; have := hb2.size; omega) _).trans (hb4.mono (by have := hb1.size; have := hb2.size; simp; omega))
  clear hb1 hb2 hb4
  have hL4 := hL.below hw4 hp
  have hs4 := hw4.size
  go_wp2_with fail
  refine (new_any _ _).mono ?_
  rintro e w5 ⟨rfl, rfl⟩
  go_wp2_with fail
  refine (new_any _ _).mono ?_
  rintro e w6 ⟨rfl, hw6⟩
  have hr6 : IsRd w6 w4.heap.size ([172, 2], 0) := by
    rw [← hw6]
    exact (IsRd.new w4 ⟨#[172, 2]⟩ (by simp [ByteArray.size])).below ((Below.refl _ _).alloc (Nat.le_refl _) _) (by simp)
  have hq6 : IsRd w6 (w4.heap.size + 1) ([128, 0], 0) := by
    rw [← hw6]
    have h := IsRd.new (w4.alloc (.cells #[.string ⟨#[172, 2]⟩, .nilIface] 65)) ⟨#[128, 0]⟩ (by simp [ByteArray.size])
    simpa using h
  have hb6 : Below w4.heap.size w4 w6 := by
    rw [← hw6]
    exact ((Below.refl _ _).alloc (Nat.le_refl _) _).alloc (by simp) _
  have hw6' : Below w.heap.size w w6 := hw4.trans (hb6.mono hs4)
  have hL6 := hL.below hw6' hp
  have hs6 : w4.heap.size + 2 ≤ w6.heap.size := by have := hq6.lt; omega
  clear hw6 hb6
  simp only [World.size_alloc]
  go_wp2_with fail
  refine (fix_r _ _ hr6 hL6).mono ?_
  rintro e w7 ⟨rfl, hr7, hg7⟩
  have hq7 := hq6.grown hg7 (by simp)
  have hL7 := hL6.grown hg7 (by simp; omega)
  have hw7 : Below w.heap.size w w7 := hw6'.trans (Only.toBelow hg7 hs4 (by omega))
  go_wp2_with fail
  refine (fix_q _ _ hq7 hL7).mono ?_
  rintro e w8 ⟨rfl, hq8, hg8⟩
  have hr8 := hr7.grown hg8 (by simp)
  have hL8 := hL7.grown hg8 (by simp)
  have hw8 : Below w.heap.size w w8 := hw7.trans (Only.toBelow hg8 (by omega) (by have := hg7.size; omega))
  go_wp2_with fail
  refine (fix_end0 _ _ hr8 hL8).mono ?_
  rintro e w9 ⟨rfl, hb9⟩
  have hq9 := hq8.below hb9 hq8.lt
  have hL9 := hL8.below hb9 hL8.pos
  go_wp2_with fail
  refine (fix_end30 _ _ _ hq9 hL9).mono ?_
  rintro e w10 ⟨rfl, hb10⟩
  go_wp2_with fail
  go_ret
  exact ⟨rfl, (hw8.trans (hb9.mono hw8.size)).trans (hb10.mono (Nat.le_trans hw8.size hb9.size))⟩
end Go.Proofs.YtkhnohiokclcfaaDoor.Wire

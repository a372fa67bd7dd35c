/- Sets: short, and the calls whose answers the document fixes. -/
import Derived.Test.YtfijicdniabkoaaDoorSetWalkQ
import Derived.Test.YtfijicdniabkoaaDoorSetWalkO
import Derived.Test.YtfijicdniabkoaaDoorSetWalkB
import Derived.Test.YtfijicdniabkoaaDoorSetWalkE
namespace Go.Proofs.YtfijicdniabkoaaDoor.Sets
open Go.RowKit Mem

theorem row_blk {w : World} {g : Nat} {t : TypeId} {us : List Value} (h : Blk w g t us.toArray) : Row w (some ⟨g, 0, none⟩) us.length us :=
  ⟨rfl, fun k u hu => ⟨_, rfl, by rw [add_lit, Nat.zero_add, h.cell]; simpa using hu⟩⟩
/-- a text, within what a statement can hold -/
def cut (n : Nat) (s : ByteArray) : ByteArray := s.extract 0 (min s.size n)
theorem cut_le (n : Nat) (s : ByteArray) : (cut n s).size ≤ n := by rw [cut, ByteArray.size_extract]; omega
theorem cut_id {n : Nat} {s : ByteArray} (h : s.size ≤ n) : cut n s = s := by
  rw [cut, show min s.size n = s.size by omega]
  apply ByteArray.ext
  rw [ByteArray.data_extract]
  exact Array.extract_size

set_option maxRecDepth 100000 in
set_option maxHeartbeats 1000000 in
theorem short_any (s : ByteArray) (w : World) (hs : s.size ≤ 140737488355328) :
    Calls Tryd.prog 15 #[.string s] w fun e w' => e = .returned (.string (cut 3000 s)) ∧ w' = w := by
  have hm : min (s.size : Int) 3000 = ((min s.size 3000 : Nat) : Int) := by omega
  obtain ⟨n, hn⟩ : ∃ n, n = min s.size 3000 := ⟨_, rfl⟩
  have h1 : n ≤ s.size := by omega
  have h2 : n ≤ 3000 := by omega
  rw [cut, ← hn]
  rw [← hn] at hm
  replace hn := Lib.hid hn
  go_enter Tryd.func15, Tryd.ntmps15
  go_wp2_with fail
  go_ret
  exact ⟨rfl, rfl⟩

set_option maxRecDepth 100000 in
set_option maxHeartbeats 2000000 in
theorem fixed_any (w : World) :
    Calls Tryd.prog 14 #[] w fun e w' => e = .returned (.bool true) ∧ Below w.heap.size w w' := by
  have k1 : ∀ (W : World) g, Row W (some ⟨g, 0, none⟩) 2 [.int .i64 0, .int .i64 9] → Calls Tryd.prog 12 #[.slice (some ⟨g, 0, none⟩) 2 2] W fun e w' => e = .returned (.tuple #[.string ⟨#[1, 2]⟩, .int .i64 0]) ∧ Below W.heap.size W w' := by
    intro W g hr
    have h := of_out (some ⟨g, 0, none⟩) 2 2 [0, 9] W hr (by decide)
    rwa [show ofOut [0, 9] = ([1, 2], 0) by decide] at h
  have k2 : ∀ (W : World) g, Row W (some ⟨g, 0, none⟩) 1 [.int .i64 (-1)] → Calls Tryd.prog 12 #[.slice (some ⟨g, 0, none⟩) 1 1] W fun e w' => e = .returned (.tuple #[.string ⟨#[]⟩, .int .i64 10]) ∧ Below W.heap.size W w' := by
    intro W g hr
    have h := of_out (some ⟨g, 0, none⟩) 1 1 [-1] W hr (by decide)
    rwa [show ofOut [-1] = ([], 10) by decide] at h
  have k3 : ∀ (W : World), Calls Tryd.prog 26 #[.string ⟨#[1, 2]⟩, .int .i64 1] W fun e w' => e = .returned (.tuple #[.int .i64 9, .bool true]) ∧ w' = W := by
    intro W
    have h := next_any ⟨#[1, 2]⟩ 1 W (by decide) (by decide)
    rwa [show next (⟨#[1, 2]⟩ : ByteArray).data.toList 1 = (9, true) by decide] at h
  have k4 : ∀ (W : World), Calls Tryd.prog 28 #[.string ⟨#[1, 2]⟩, .int .i64 9, .int .i64 12] W fun e w' => e = .returned (.tuple #[.int .i64 10, .bool true]) ∧ w' = W := by
    intro W
    have h := gap_any ⟨#[1, 2]⟩ 9 12 W (by decide)
    rwa [show gap (⟨#[1, 2]⟩ : ByteArray).data.toList 9 12 = (10, true) by decide] at h
  have k5 : ∀ (W : World), Calls Tryd.prog 17 #[.string ⟨#[1, 2, 0]⟩] W fun e w' => ∃ A c, e = .returned (.slice A 2 c) ∧ Row w' A 2 [.int .i64 0, .int .i64 9] ∧ Below W.heap.size W w' := by
    intro W
    have h := list_any ⟨#[1, 2, 0]⟩ W (by decide)
    rw [show elems (⟨#[1, 2, 0]⟩ : ByteArray).data.toList = [0, 9] by decide] at h
    refine h.mono ?_
    rintro e w' ⟨v, rfl, ho, hb⟩
    obtain ⟨A, c, rfl⟩ := own_slice ho
    exact ⟨A, c, rfl, Row.of_own ho, hb⟩
  have k6 : ∀ (W : World), Calls Tryd.prog 19 #[.string ⟨#[255]⟩] W fun e w' => e = .returned (.int .i64 8) ∧ Below W.heap.size W w' := by
    intro W
    have h := count_any ⟨#[255]⟩ (by decide) W
    rwa [show (elems (⟨#[255]⟩ : ByteArray).data.toList).length = 8 by decide] at h
  have k7 : ∀ (W : World), Calls Tryd.prog 22 #[.string ⟨#[3]⟩, .string ⟨#[6]⟩] W fun e w' => e = .returned (.string ⟨#[2]⟩) ∧ Below W.heap.size W w' := by
    intro W
    have h := and_any ⟨#[3]⟩ ⟨#[6]⟩ W (by decide) (by decide)
    rwa [show bin (· &&& ·) (⟨#[3]⟩ : ByteArray).data.toList (⟨#[6]⟩ : ByteArray).data.toList = [2] by decide] at h
  have k8 : ∀ (W : World), Calls Tryd.prog 25 #[.string ⟨#[3]⟩, .string ⟨#[3]⟩] W fun e w' => e = .returned (.string ⟨#[]⟩) ∧ Below W.heap.size W w' := by
    intro W
    have h := minus_any ⟨#[3]⟩ ⟨#[3]⟩ W (by decide) (by decide)
    rwa [show bin (fun x y => x &&& ~~~y) (⟨#[3]⟩ : ByteArray).data.toList (⟨#[3]⟩ : ByteArray).data.toList = [] by decide] at h
  have k9 : ∀ (W : World), Calls Tryd.prog 24 #[.string ⟨#[]⟩, .string ⟨#[1]⟩] W fun e w' => e = .returned (.string ⟨#[1]⟩) ∧ Below W.heap.size W w' := by
    intro W
    have h := or_any ⟨#[]⟩ ⟨#[1]⟩ W (by decide) (by decide)
    rwa [show bin (· ||| ·) (⟨#[]⟩ : ByteArray).data.toList (⟨#[1]⟩ : ByteArray).data.toList = [1] by decide] at h
  replace k1 := Lib.hid k1
  replace k2 := Lib.hid k2
  replace k3 := Lib.hid k3
  replace k4 := Lib.hid k4
  replace k5 := Lib.hid k5
  replace k6 := Lib.hid k6
  replace k7 := Lib.hid k7
  replace k8 := Lib.hid k8
  replace k9 := Lib.hid k9
  go_enter Tryd.func14, Tryd.ntmps14
  go_wp2_with fail
  have hb1 : Below w.heap.size w (w.alloc (.cells #[.int .i64 0, .int .i64 9] 3)) := (Below.refl _ w).alloc (Nat.le_refl _) _
  refine (k1.out _ _ (row_blk (Blk.new w 3 _))).mono ?_
  rintro en w1 ⟨rfl, b1⟩
  replace hb1 := hb1.trans (b1.mono (by simp))
  have hs1 := hb1.size
  clear b1
  go_wp2_with fail
  have hb2 := hb1.alloc hs1 (.cells #[.int .i64 (-1)] 3)
  refine (k2.out _ _ (row_blk (Blk.new w1 3 _))).mono ?_
  rintro en w2 ⟨rfl, b2⟩
  replace hb2 := hb2.trans (b2.mono hb2.size)
  have hs2 := hb2.size
  clear b2
  go_wp2_with fail
  refine (k3.out _).mono ?_
  rintro en w3 ⟨rfl, rfl⟩
  go_wp2_with fail
  refine (k4.out _).mono ?_
  rintro en w4 ⟨rfl, rfl⟩
  go_wp2_with fail
  refine (k5.out _).mono ?_
  rintro en w5 ⟨A, c, rfl, hr5, b5⟩
  have hb5 := hb2.trans (b5.mono hs2)
  have hs5 := hb5.size
  clear b5
  go_wp2_with fail
  have hr6 : Row (w5.alloc (.cells #[.int .i64 0, .int .i64 9] 3)) A 2 ([0, 9].map (Value.int .i64)) := hr5.below ((Below.refl _ w5).alloc (Nat.le_refl _) _)
  have hb6 := hb5.alloc hs5 (.cells #[.int .i64 0, .int .i64 9] 3)
  refine (same_any A (some ⟨w5.heap.size, 0, none⟩) 2 2 c 2 [0, 9] [0, 9] _ hr6 (row_blk (Blk.new w5 3 _)) (by decide)).mono ?_
  rintro en w6 ⟨rfl, q, rfl⟩
  replace hb6 := below_drewN hb6 q
  have hs6 := hb6.size
  replace hr6 := Lib.hid hr6
  replace hr5 := Lib.hid hr5
  have hd : decide (([0, 9] : List Int) = [0, 9]) = true := by decide
  rw [hd]
  clear hd
  go_wp2_with fail
  refine (k6.out _).mono ?_
  rintro en w7 ⟨rfl, b7⟩
  have hb7 := hb6.trans (b7.mono hs6)
  have hs7 := hb7.size
  clear b7
  go_wp2_with fail
  refine (k7.out _).mono ?_
  rintro en w8 ⟨rfl, b8⟩
  have hb8 := hb7.trans (b8.mono hs7)
  have hs8 := hb8.size
  clear b8
  go_wp2_with fail
  refine (k8.out _).mono ?_
  rintro en w9 ⟨rfl, b9⟩
  have hb9 := hb8.trans (b9.mono hs8)
  have hs9 := hb9.size
  clear b9
  go_wp2_with fail
  refine (k9.out _).mono ?_
  rintro en w10 ⟨rfl, b10⟩
  have hb10 := hb9.trans (b10.mono hs9)
  go_wp2_with fail
  go_ret
  exact ⟨rfl, hb10⟩
end Go.Proofs.YtfijicdniabkoaaDoor.Sets

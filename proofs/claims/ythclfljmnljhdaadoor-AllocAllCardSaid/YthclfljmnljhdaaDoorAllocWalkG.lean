/- Alloc: the calls whose answers the document fixes. -/
import Derived.Test.YthclfljmnljhdaaDoorAllocWalkF
namespace Go.Proofs.YthclfljmnljhdaaDoor.Alloc
open Go.RowKit Mem Sets

/-- a pick, and what it tells as a row -/
theorem pick_row {w : World} {o : List Nat × Nat × Nat} {e : Ending} {w' : World} (h : PickPost w o e w') :
    ∃ A c, e = .returned (.tuple #[.slice A o.1.length c, .int .i64 (o.2.1 : Int), .int .i64 (o.2.2 : Int)]) ∧ Row w' A o.1.length (ints o.1) ∧ Below w.heap.size w w' := by
  obtain ⟨v, rfl, ho, hb⟩ := h
  obtain ⟨A, c, rfl⟩ := own_slice ho
  exact ⟨A, c, rfl, Row.of_own ho, hb⟩

section
variable (W : World)
theorem x1 : Calls Tryd.prog 9 #[.string ⟨#[10]⟩, .int .i64 8, .int .i64 3, .int .i64 4] W (PickPost W ([4, 5, 6, 7], 8, 0)) := by
  have h := pick_any ⟨#[10]⟩ 8 3 4 W (by decide)
  rw [p1] at h
  exact h
theorem x2 : Calls Tryd.prog 9 #[.string ⟨#[10]⟩, .int .i64 8, .int .i64 3, .int .i64 5] W (PickPost W ([4, 5, 6, 7, 2], 3, 0)) := by
  have h := pick_any ⟨#[10]⟩ 8 3 5 W (by decide)
  rw [p2] at h
  exact h
theorem x3 : Calls Tryd.prog 9 #[.string ⟨#[10]⟩, .int .i64 8, .int .i64 3, .int .i64 6] W (PickPost W ([], 0, 101)) := by
  have h := pick_any ⟨#[10]⟩ 8 3 6 W (by decide)
  rw [p3] at h
  exact h
theorem x4 : Calls Tryd.prog 9 #[.string ⟨#[]⟩, .int .i64 7, .int .i64 1, .int .i64 1] W (PickPost W ([], 0, 100)) := by
  have h := pick_any ⟨#[]⟩ 7 1 1 W (by decide)
  rw [p4] at h
  exact h
theorem x5 : Calls Tryd.prog 12 #[.string ⟨#[10]⟩, .int .i64 8, .int .i64 7] W fun e w' => ∃ g, e = .returned (.tuple #[.pointer (some ⟨g, 0, none⟩), .int .i64 0]) ∧ W.heap.size ≤ g ∧ PoolAt w' g ⟨#[10]⟩ 8 7 0 ∧ Below W.heap.size W w' := by
  refine (new_ok ⟨#[10]⟩ 8 7 W (by decide)).mono ?_
  rintro e w' ⟨g, h1, h2, h3, h4⟩
  exact ⟨g, h1, h2, poolAt_new (by decide) (by decide) h3, h4⟩
variable (g : Nat)
theorem len5 : (ord ⟨#[10]⟩ 8 7).length = 5 := by rw [fx2]; rfl
theorem x6 (hp : PoolAt W g ⟨#[10]⟩ 8 7 0) : Calls Tryd.prog 18 #[.pointer (some ⟨g, 0, none⟩)] W fun e w' => e = .returned (.tuple #[.int .i64 7, .int .i64 0]) ∧ PoolAt w' g ⟨#[10]⟩ 8 7 1 ∧ W.grownBy w' (some g) := by
  have h := take_next ⟨#[10]⟩ 8 7 0 g W hp (by decide) (by rw [len5]; decide)
  have e : (ord ⟨#[10]⟩ 8 7)[0]'(by rw [len5]; decide) = 7 := by simp only [fx2]; rfl
  rw [e] at h
  exact h
theorem x7 (hp : PoolAt W g ⟨#[10]⟩ 8 7 1) : Calls Tryd.prog 18 #[.pointer (some ⟨g, 0, none⟩)] W fun e w' => e = .returned (.tuple #[.int .i64 2, .int .i64 0]) ∧ PoolAt w' g ⟨#[10]⟩ 8 7 2 ∧ W.grownBy w' (some g) := by
  have h := take_next ⟨#[10]⟩ 8 7 1 g W hp (by decide) (by rw [len5]; decide)
  have e : (ord ⟨#[10]⟩ 8 7)[1]'(by rw [len5]; decide) = 2 := by simp only [fx2]; rfl
  rw [e] at h
  exact h
theorem x8 (hp : PoolAt W g ⟨#[10]⟩ 8 7 2) : Calls Tryd.prog 15 #[.pointer (some ⟨g, 0, none⟩)] W fun e w' => e = .returned (.int .i64 3) ∧ w' = W := by
  have h := left_at ⟨#[10]⟩ 8 7 2 g W hp
  have e : (ord ⟨#[10]⟩ 8 7).length - 2 = 3 := by rw [len5]
  rw [e] at h
  exact h
theorem x9 (hp : PoolAt W g ⟨#[10]⟩ 8 7 2) : Calls Tryd.prog 17 #[.pointer (some ⟨g, 0, none⟩)] W fun e w' => e = .returned (.int .i64 3) ∧ w' = W := by
  have h := next_at ⟨#[10]⟩ 8 7 2 g W hp
  have e : lastOf ((ord ⟨#[10]⟩ 8 7).take 2) 7 = 3 := by rw [fx2]; rfl
  rw [e] at h
  exact h
theorem x10 (hp : PoolAt W g ⟨#[10]⟩ 8 7 2) : Calls Tryd.prog 16 #[.pointer (some ⟨g, 0, none⟩)] W fun e w' => e = .returned (.string ⟨#[132]⟩) ∧ w' = W := by
  have h := taken_at ⟨#[10]⟩ 8 7 2 g W hp
  have e : setB ((ord ⟨#[10]⟩ 8 7).take 2) = ⟨#[132]⟩ := by rw [fx2]; exact fxT
  rw [e] at h
  exact h
end

set_option maxRecDepth 100000 in
set_option maxHeartbeats 1000000 in
theorem fixed_any (w : World) :
    Calls Tryd.prog 11 #[] w fun e w' => e = .returned (.bool true) ∧ Below w.heap.size w w' := by
  have k1 := Lib.hid x1
  have k2 := Lib.hid x2
  have k3 := Lib.hid x3
  have k4 := Lib.hid x4
  have k5 := Lib.hid x5
  have k6 := Lib.hid x6
  have k7 := Lib.hid x7
  have k8 := Lib.hid x8
  have k9 := Lib.hid x9
  have k10 := Lib.hid x10
  go_enter Tryd.func11, Tryd.ntmps11
  go_wp2_with fail
  refine (k1.out _).mono ?_
  rintro en w1 h
  obtain ⟨A, c1, rfl, r1, b1⟩ := pick_row h
  clear h
  go_wp2_with fail
  refine (k2.out _).mono ?_
  rintro en w2 h
  obtain ⟨B, c2, rfl, r2, b2⟩ := pick_row h
  clear h
  replace r1 := r1.below b2
  replace b2 := b1.trans (b2.mono b1.size)
  clear b1
  go_wp2_with fail
  refine (k3.out _).mono ?_
  rintro en w3 h
  obtain ⟨_, c3, rfl, _, b3⟩ := pick_row h
  clear h
  replace r1 := r1.below b3
  replace r2 := r2.below b3
  replace b3 := b2.trans (b3.mono b2.size)
  clear b2
  go_wp2_with fail
  refine (k4.out _).mono ?_
  rintro en w4 h
  obtain ⟨_, c4, rfl, _, b4⟩ := pick_row h
  clear h
  replace r1 := r1.below b4
  replace r2 := r2.below b4
  replace b4 := b3.trans (b4.mono b3.size)
  clear b3
  go_wp2_with fail
  refine (k5.out _).mono ?_
  rintro en w5 ⟨g, rfl, hg, hp, b5⟩
  have s5 := b5.size
  go_wp2_with fail
  refine (k6.out _ g hp).mono ?_
  rintro en w6 ⟨rfl, hp6, g6⟩
  have b6 := b5.trans (Only.toBelow g6 hg s5)
  have s6 := b6.size
  clear g6 hp b5
  go_wp2_with fail
  refine (k7.out _ g hp6).mono ?_
  rintro en w7 ⟨rfl, hp7, g7⟩
  have b7 := b6.trans (Only.toBelow g7 hg s6)
  have s7 := b7.size
  clear g7 hp6 b6
  replace r1 := r1.below b7
  replace r2 := r2.below b7
  replace b7 := b4.trans (b7.mono b4.size)
  clear b4
  go_wp2_with fail
  refine (same_any A (some ⟨w7.heap.size, 0, none⟩) 4 4 c1 4 [4, 5, 6, 7] [4, 5, 6, 7] _ (r1.below ((Below.refl _ _).alloc (Nat.le_refl _) _)) (row_blk (Blk.new w7 3 _)) (by decide)).mono ?_
  rintro en w8 ⟨rfl, q, hw8⟩
  have hd : decide (([4, 5, 6, 7] : List Int) = [4, 5, 6, 7]) = true := by decide
  rw [hd]
  have b8 : Below w.heap.size w w8 := by rw [hw8]; exact below_drewN (b7.alloc b7.size _) q
  have i8 : Below w7.heap.size w7 w8 := by rw [hw8]; exact below_drewN ((Below.refl w7.heap.size w7).alloc (Nat.le_refl _) _) q
  replace hp7 := hp7.below i8
  replace r2 := r2.below i8
  clear i8 r1 hw8 hd b7
  go_wp2_with fail
  refine (same_any B (some ⟨w8.heap.size, 0, none⟩) 5 5 c2 5 [4, 5, 6, 7, 2] [4, 5, 6, 7, 2] _ (r2.below ((Below.refl _ _).alloc (Nat.le_refl _) _)) (row_blk (Blk.new w8 3 _)) (by decide)).mono ?_
  rintro en w9 ⟨rfl, q, hw9⟩
  have hd : decide (([4, 5, 6, 7, 2] : List Int) = [4, 5, 6, 7, 2]) = true := by decide
  rw [hd]
  have b9 : Below w.heap.size w w9 := by rw [hw9]; exact below_drewN (b8.alloc b8.size _) q
  have i9 : Below w8.heap.size w8 w9 := by rw [hw9]; exact below_drewN ((Below.refl w8.heap.size w8).alloc (Nat.le_refl _) _) q
  replace hp7 := hp7.below i9
  clear i9 r2 hw9 hd b8
  go_wp2_with fail
  refine (k8.out _ g hp7).mono ?_
  rintro en w' ⟨rfl, hw'⟩
  replace hw' := hw'.symm
  subst hw'
  go_wp2_with fail
  refine (k9.out _ g hp7).mono ?_
  rintro en w' ⟨rfl, hw'⟩
  replace hw' := hw'.symm
  subst hw'
  go_wp2_with fail
  refine (k10.out _ g hp7).mono ?_
  rintro en w' ⟨rfl, hw'⟩
  replace hw' := hw'.symm
  subst hw'
  go_wp2_with fail
  go_ret
  exact ⟨rfl, b9⟩
end Go.Proofs.YthclfljmnljhdaaDoor.Alloc

/- Alloc: a pool of which so many have been taken; the document's Order. -/
import Derived.Test.YthclfljmnljhdaaDoorAllocWalkC
import Derived.Test.YthclfljmnljhdaaDoorSetWalkL
namespace Go.Proofs.YthclfljmnljhdaaDoor.Alloc
open Go.RowKit Mem Sets

/-- the list of what is free -/
def ord (U : ByteArray) (B f : Nat) : List Nat := order (hasB U) B f
/-- a pool behind j that were taken -/
def PoolAt (w : World) (g : Nat) (U : ByteArray) (B f j : Nat) : Prop :=
  ∃ U', Pool w g U' (setB ((ord U B f).take j)) B (lastOf ((ord U B f).take j) f) ((ord U B f).length - j) ∧ (∀ m, hasB U' m = withL (hasB U) ((ord U B f).take j) m) ∧ U'.size ≤ 140737488355328
theorem PoolAt.lt {w : World} {g B f j : Nat} {U : ByteArray} (h : PoolAt w g U B f j) : g < w.heap.size := by
  obtain ⟨_, h, _⟩ := h
  exact Blk.lt h
theorem PoolAt.below {w w' : World} {g B f j : Nat} {U : ByteArray} (h : PoolAt w g U B f j) (b : Below w.heap.size w w') : PoolAt w' g U B f j := by
  obtain ⟨U', h1, h2⟩ := h
  exact ⟨U', Blk.below h1 b h1.lt, h2⟩
theorem ord_length {U : ByteArray} {B f : Nat} (h : 1 ≤ f ∧ f ≤ B) : (ord U B f).length = free (hasB U) B := order_length h.1 h.2
theorem ord_mem {U : ByteArray} {B f n : Nat} (h : 1 ≤ f ∧ f ≤ B) : n ∈ ord U B f ↔ 1 ≤ n ∧ n < B ∧ hasB U n = false := mem_order h.1 h.2
theorem ord_le {U : ByteArray} {B f : Nat} (h : 8 ≤ B ∧ B ≤ 4096 ∧ 1 ≤ f ∧ f ≤ B) : (ord U B f).length ≤ 4095 := by
  rw [ord_length ⟨h.2.2.1, h.2.2.2⟩]
  have := free_le (hasB U) B
  omega
theorem take_mem {U : ByteArray} {B f j : Nat} (h : 8 ≤ B ∧ B ≤ 4096 ∧ 1 ≤ f ∧ f ≤ B) : ∀ x ∈ (ord U B f).take j, x < 8 * 512 := fun x hx => by
  have := (ord_mem (U := U) ⟨h.2.2.1, h.2.2.2⟩).1 (List.mem_of_mem_take hx)
  omega
theorem poolAt_new {w : World} {g B f : Nat} {U : ByteArray} (h : 8 ≤ B ∧ B ≤ 4096 ∧ 1 ≤ f ∧ f ≤ B) (hU : U.size ≤ 140737488355328) (hp : Pool w g U ⟨#[]⟩ B f (free (hasB U) B)) : PoolAt w g U B f 0 :=
  ⟨U, by rw [List.take_zero, lastOf_nil, ord_length ⟨h.2.2.1, h.2.2.2⟩]; exact hp, fun m => by rw [List.take_zero, withL_nil], hU⟩

section
variable (U : ByteArray) (B f j g : Nat) (w : World) (hp : PoolAt w g U B f j)
include hp
theorem take_next (hk : 8 ≤ B ∧ B ≤ 4096 ∧ 1 ≤ f ∧ f ≤ B) (hj : j < (ord U B f).length) :
    Calls Tryd.prog 18 #[.pointer (some ⟨g, 0, none⟩)] w fun e w' => e = .returned (.tuple #[.int .i64 (((ord U B f)[j] : Nat) : Int), .int .i64 0]) ∧ PoolAt w' g U B f (j + 1) ∧ w.grownBy w' (some g) := by
  obtain ⟨U', h1, h2, h3⟩ := hp
  obtain ⟨o1, o2, o3⟩ := order_takes (u := hasB U) hk.2.2.1 hk.2.2.2 j (Nat.le_of_lt hj)
  have hu : hasB U' = withL (hasB U) ((ord U B f).take j) := funext h2
  have e : order (hasB U') B (lastOf ((ord U B f).take j) f) = (ord U B f)[j] :: (ord U B f).drop (j + 1) := by
    rw [hu, show order (withL (hasB U) ((ord U B f).take j)) B (lastOf ((ord U B f).take j) f) = (ord U B f).drop j from o3]
    exact List.drop_eq_getElem_cons hj
  have hl := ord_le (U := U) hk
  have t : (ord U B f).take (j + 1) = (ord U B f).take j ++ [(ord U B f)[j]] := List.take_succ_eq_append_getElem hj
  have hL : (ord U B f).length - j = ((ord U B f).length - (j + 1)) + 1 := by omega
  rw [hL] at h1
  have hsz : ∀ i, (setB ((ord U B f).take i)).size ≤ 512 := fun i => setB_size (take_mem hk)
  have h512 : (setB [(ord U B f)[j]]).size ≤ 512 := setB_size fun x hx => by
    rw [List.mem_singleton] at hx
    subst hx
    have := (ord_mem (U := U) ⟨hk.2.2.1, hk.2.2.2⟩).1 (List.getElem_mem hj)
    omega
  refine (take_some U' _ B _ _ g _ _ w h1 hk.2.1 o1 o2 (by omega) h3 (Nat.le_trans (hsz j) (by decide)) e).mono ?_
  rintro e w' ⟨rfl, hp', hg⟩
  refine ⟨rfl, ⟨orB U' (setB [(ord U B f)[j]]), ?_, fun m => ?_, or_size h3 (Nat.le_trans h512 (by decide))⟩, hg⟩
  · rw [setB_snoc, ← t] at hp'
    rw [show lastOf ((ord U B f).take (j + 1)) f = (ord U B f)[j] + 1 by rw [t, lastOf_snoc]]
    exact hp'
  · rw [hasB_or, h2, hasB_set, t, withL_snoc]
    simp
theorem take_over (hj : j = (ord U B f).length) :
    Calls Tryd.prog 18 #[.pointer (some ⟨g, 0, none⟩)] w fun e w' => e = .returned (.tuple #[.int .i64 0, .int .i64 101]) ∧ Below w.heap.size w w' := by
  obtain ⟨U', h1, _, _⟩ := hp
  rw [hj, Nat.sub_self] at h1
  refine (take_full _ _ _ _ g w h1).mono ?_
  rintro e w' ⟨rfl, rfl⟩
  exact ⟨rfl, (Below.refl _ _).alloc (Nat.le_refl _) _⟩
theorem left_at : Calls Tryd.prog 15 #[.pointer (some ⟨g, 0, none⟩)] w fun e w' => e = .returned (.int .i64 (((ord U B f).length - j : Nat) : Int)) ∧ w' = w := by
  obtain ⟨U', h1, _, _⟩ := hp
  exact left_any _ _ _ _ _ g w h1
theorem taken_at : Calls Tryd.prog 16 #[.pointer (some ⟨g, 0, none⟩)] w fun e w' => e = .returned (.string (setB ((ord U B f).take j))) ∧ w' = w := by
  obtain ⟨U', h1, _, _⟩ := hp
  exact taken_any _ _ _ _ _ g w h1
theorem next_at : Calls Tryd.prog 17 #[.pointer (some ⟨g, 0, none⟩)] w fun e w' => e = .returned (.int .i64 ((lastOf ((ord U B f).take j) f : Nat) : Int)) ∧ w' = w := by
  obtain ⟨U', h1, _, _⟩ := hp
  exact nexts_any _ _ _ _ _ g w h1
end

/-- the place number k behind f -/
def pl (B f k : Nat) : Nat := if f + k ≥ B then f + k - B else f + k
set_option maxRecDepth 100000 in
set_option maxHeartbeats 2000000 in
theorem rorder_any (U : ByteArray) (B f : Nat) (w : World) (h : 8 ≤ B ∧ B ≤ 4096 ∧ 1 ≤ f ∧ f ≤ B) :
    Calls Tryd.prog 13 #[.string U, .int .i64 (B : Int), .int .i64 (f : Int)] w fun e w' => ∃ v, e = .returned v ∧ w'.ownsRow w.heap.size 3 1 v (ord U B f).length ((ord U B f).map fun (n : Nat) => Value.int .i64 (n : Int)) ∧ Below w.heap.size w w' := by
  obtain ⟨h1, h2, h3, h4⟩ := h
  have hall := Lib.hid (ordTo_all (u := hasB U) h3 h4)
  go_enter Tryd.func13, Tryd.ntmps13
  go_wp2_with fail
  obtain ⟨i0, hinf, hz0, hz1, hz2⟩ := info_parts infoInt
  have o0 : (w.alloc (.cells #[] 3)).ownsRow w.heap.size 3 1 (.slice (some ⟨w.heap.size, 0, none⟩) 0 0) (ordTo (hasB U) B f 0).length ((ordTo (hasB U) B f 0).map fun (n : Nat) => Value.int .i64 (n : Int)) := World.ownsRow_made w #[] 0 (Nat.le_refl _) (by decide) rfl
  have b0 : Below w.heap.size w (w.alloc (.cells #[] 3)) := (Below.refl _ w).alloc (Nat.le_refl _) _
  generalize Value.slice (some ⟨w.heap.size, 0, none⟩) 0 0 = bv at o0 ⊢
  generalize w.alloc (.cells #[] 3) = w1 at o0 b0 ⊢
  replace o0 := Lib.hid o0
  go_loopw [7, 8] (fun v y wr => ∃ k : Nat, k ≤ B ∧ y = .int .i64 (k : Int) ∧ wr.ownsRow w.heap.size 3 1 v (ordTo (hasB U) B f k).length ((ordTo (hasB U) B f k).map fun (n : Nat) => Value.int .i64 (n : Int)) ∧ Below w.heap.size w wr) (fun _ y _ => B - (intOf y).toNat)
  case atStart => exact ⟨0, Nat.zero_le _, rfl, o0.out, b0⟩
  case round =>
    obtain ⟨k, hk, rfl, hown, hbel⟩ := hrel
    clear o0 b0
    have hle := ordTo_length (hasB U) B f k
    have hw0 := hbel.size
    by_cases hlt : k < B
    · have hsucc : ordTo (hasB U) B f (k + 1) = ordTo (hasB U) B f k ++ (if (decide (1 ≤ pl B f k) && !hasB U (pl B f k)) = true then [pl B f k] else []) := ordTo_succ (hasB U) B f k
      obtain ⟨p, hp⟩ : ∃ p, p = pl B f k := ⟨_, rfl⟩
      rw [← hp] at hsucc
      have hpB : p < B := by rw [hp, pl]; split <;> omega
      have c1 := rhas_any U (p : Int) wr (by omega)
      rw [hasI, decide_eq_true (by omega), Bool.true_and, Int.toNat_natCast] at c1
      generalize ordTo (hasB U) B f k = es at hown hsucc hle
      have hcase : (k + f < B ∧ p = f + k) ∨ (B ≤ f + k ∧ f + k = p + B) := by
        rw [hp, pl]; split <;> omega
      clear hp
      rcases hcase with ⟨q1, q2⟩ | ⟨q1, q2⟩
      · have hpe : (p : Int) = (f : Int) + (k : Int) := by omega
        rw [hpe] at c1
        have hp1 : 1 ≤ p := by omega
        clear q2
        have key : hasB U p = hasB U p := rfl
        replace hpe := Lib.hid hpe
        cases hh : hasB U p with
        | true =>
          rw [show has U.data.toList p = true from hh] at c1
          rw [hh, Bool.not_true, Bool.and_false, if_neg (by decide), List.append_nil] at hsucc
          rw [← hsucc] at hown
          replace c1 := Lib.hid c1
          replace hown := Lib.hid hown
          replace hh := Lib.hid hh
          clear hsucc hle key
          go_wp2_with fail
          refine c1.out.mono ?_
          rintro en w2 ⟨rfl, rfl⟩
          go_wp2_with fail
          exact ⟨⟨k + 1, by omega, rfl, hown.out, hbel⟩, by simp [intOf]; omega⟩
        | false =>
          rw [show has U.data.toList p = false from hh] at c1
          rw [hh, decide_eq_true (by omega), Bool.not_false, Bool.and_true, if_pos rfl] at hsucc
          replace c1 := Lib.hid c1
          replace hsucc := Lib.hid hsucc
          replace hh := Lib.hid hh
          clear key
          go_wp2_with fail
          refine c1.out.mono ?_
          rintro en w2 ⟨rfl, rfl⟩
          go_wp2_with (first
            | (at_builtin; refine wpList_append_own _ rfl (.tmp 33) (.tmp 35) _ rfl w.heap.size 3 i0 (.int .i64 0) 1 8 Tryd.underlying24 hinf hz0 hz1 hz2 rfl (by decide) u7 es.length _ rfl (hown.alloc _) ⟨w2.heap.size, 0, none⟩ 1 1 [.int .i64 ((f : Int) + (k : Int))] rfl rfl (cell_one_new _ _ _) (by simp [Value.oneCell']) (by unfold maxLen; omega) (by omega) (by simp; omega) ?_; intro v1 w11 hown1 hg1 hn1))
          have hb11 := (hbel.alloc hw0 _).grown hg1 (by simp; omega) (fun k hk => (hown.lt k hk).1)
          have hres : w11.ownsRow w.heap.size 3 1 v1 (ordTo (hasB U) B f (k + 1)).length ((ordTo (hasB U) B f (k + 1)).map fun (n : Nat) => Value.int .i64 (n : Int)) := by
            rw [hsucc.out, List.length_append, List.map_append, List.map_cons, hpe.out]
            exact hown1
          exact ⟨⟨k + 1, by omega, rfl, hres, hb11⟩, by simp [intOf]; omega⟩
      · have hpe : (p : Int) = (f : Int) + (k : Int) - (B : Int) := by omega
        have hq : (B : Int) ≤ (f : Int) + (k : Int) := by omega
        rw [hpe] at c1
        by_cases hp1 : 1 ≤ p
        · have hq1 : (B : Int) + 1 ≤ (f : Int) + (k : Int) := by omega
          clear q2
          have key : hasB U p = hasB U p := rfl
          replace hpe := Lib.hid hpe
          cases hh : hasB U p with
          | true =>
            rw [show has U.data.toList p = true from hh] at c1
            rw [hh, Bool.not_true, Bool.and_false, if_neg (by decide), List.append_nil] at hsucc
            rw [← hsucc] at hown
            replace c1 := Lib.hid c1
            replace hown := Lib.hid hown
            replace hh := Lib.hid hh
            clear hsucc hle key
            go_wp2_with fail
            refine c1.out.mono ?_
            rintro en w2 ⟨rfl, rfl⟩
            go_wp2_with fail
            exact ⟨⟨k + 1, by omega, rfl, hown.out, hbel⟩, by simp [intOf]; omega⟩
          | false =>
            rw [show has U.data.toList p = false from hh] at c1
            rw [hh, decide_eq_true (by omega), Bool.not_false, Bool.and_true, if_pos rfl] at hsucc
            replace c1 := Lib.hid c1
            replace hsucc := Lib.hid hsucc
            replace hh := Lib.hid hh
            clear key
            go_wp2_with fail
            refine c1.out.mono ?_
            rintro en w2 ⟨rfl, rfl⟩
            go_wp2_with (first
              | (at_builtin; refine wpList_append_own _ rfl (.tmp 33) (.tmp 35) _ rfl w.heap.size 3 i0 (.int .i64 0) 1 8 Tryd.underlying24 hinf hz0 hz1 hz2 rfl (by decide) u7 es.length _ rfl (hown.alloc _) ⟨w2.heap.size, 0, none⟩ 1 1 [.int .i64 ((f : Int) + (k : Int) - (B : Int))] rfl rfl (cell_one_new _ _ _) (by simp [Value.oneCell']) (by unfold maxLen; omega) (by omega) (by simp; omega) ?_; intro v1 w11 hown1 hg1 hn1))
            have hb11 := (hbel.alloc hw0 _).grown hg1 (by simp; omega) (fun k hk => (hown.lt k hk).1)
            have hres : w11.ownsRow w.heap.size 3 1 v1 (ordTo (hasB U) B f (k + 1)).length ((ordTo (hasB U) B f (k + 1)).map fun (n : Nat) => Value.int .i64 (n : Int)) := by
              rw [hsucc.out, List.length_append, List.map_append, List.map_cons, hpe.out]
              exact hown1
            exact ⟨⟨k + 1, by omega, rfl, hres, hb11⟩, by simp [intOf]; omega⟩
        · rw [decide_eq_false hp1, Bool.false_and, if_neg (by decide), List.append_nil] at hsucc
          rw [← hsucc] at hown
          have hq1 : (f : Int) + (k : Int) = (B : Int) := by omega
          have hq2 : (f : Int) + (k : Int) - (B : Int) < 1 := by omega
          have hq3 := Lib.hid hq1
          replace hown := Lib.hid hown
          clear hsucc hle hpe q2 c1 hq1
          go_wp2_with fail
          exact ⟨⟨k + 1, by omega, rfl, hown.out, hbel⟩, by simp [intOf]; omega⟩
    · obtain rfl : k = B := by omega
      rw [hall.out] at hown
      replace hown := Lib.hid hown
      clear hle
      go_wp2_with fail
      go_ret
      exact ⟨_, rfl, hown.out, hbel⟩
end Go.Proofs.YthclfljmnljhdaaDoor.Alloc

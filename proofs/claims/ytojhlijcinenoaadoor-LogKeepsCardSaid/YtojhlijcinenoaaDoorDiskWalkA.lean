/- The program's disk in memory; its small functions: may, Sectors, Loose, Steps, Dead, Read, step, Revive, Arm, Bad. -/
import Derived.Test.YtojhlijcinenoaaDoorDiskMem
import Derived.WalkKit
import Derived.WalkSpells
import Derived.Maps.OwnOps
namespace Go.Proofs.YtojhlijcinenoaaDoor.Disk
open Go Go.RowKit Go.Maps Mem

/-- block b is the disk d; F: the blocks that are its own -/
def IsDk (F : Nat → Prop) (w : World) (b : Nat) (d : Dk) : Prop :=
  ∃ (sb lb bb sc : Nat) (ov : Value),
    Blk w b 72 #[.slice (some ⟨sb, 0, none⟩) d.stays.length sc, .map (some lb), ov, .map (some bb), .int .i64 (d.steps : Int), .int .i64 (d.armed : Int), .string d.keep, .bool d.dead] ∧
    w.ownsRow 0 9 1 (.slice (some ⟨sb, 0, none⟩) d.stays.length sc) d.stays.length (d.stays.map Value.string) ∧
    MapS w lb d.L ∧ MapB w bb d.marks d.bad ∧ w.ownsRow 0 3 1 ov d.L.length (d.L.map fun p => Value.int .i64 (p.1 : Int)) ∧
    lb ≠ bb ∧ (F b ∧ F sb ∧ F lb ∧ F bb) ∧ (∀ j, ov.ownBlock = some j → F j) ∧ ∀ i, F i → i < w.heap.size
/-- the numbers are small -/
structure Num (d : Dk) : Prop where
  steps : d.steps ≤ 4611686018427387904
  armed : d.armed ≤ 9223372036854775807
  marks : d.marks ≤ 4611686018427387904
set_option maxRecDepth 100000 in
theorem IsDk.keeps {F G : Nat → Prop} {w w' : World} {b : Nat} {d : Dk} (h : IsDk F w b d) (k : Keeps G w w') (hn : ∀ i, F i → ¬ G i) : IsDk F w' b d := by
  obtain ⟨sb, lb, bb, sc, ov, h1, h2, h3, h4, h5, h6, h7, h8, h9⟩ := h
  exact ⟨sb, lb, bb, sc, ov, h1.keeps k (hn _ h7.1), own_keeps h2 k (fun j e => by injection e with e; subst e; exact hn _ h7.2.1), h3.keeps k (hn _ h7.2.2.1), h4.keeps k (hn _ h7.2.2.2), own_keeps h5 k (fun j e => hn _ (h8 j e)), h6, h7, h8, fun i hi => Nat.lt_of_lt_of_le (h9 i hi) k.size⟩
set_option maxRecDepth 100000 in
theorem IsDk.below {F : Nat → Prop} {w w' : World} {b : Nat} {d : Dk} (h : IsDk F w b d) (k : Below w.heap.size w w') : IsDk F w' b d := h.keeps (Keeps.of_below (fun _ => False) k) (fun _ _ h => h)
set_option maxRecDepth 100000 in
theorem IsDk.lt {F : Nat → Prop} {w : World} {b : Nat} {d : Dk} (h : IsDk F w b d) : b < w.heap.size := by
  obtain ⟨sb, lb, bb, sc, ov, h1, _⟩ := h
  exact h1.lt
/-- what a call leaves: the disk d', and all else as it was -/
def DkPost (F : Nat → Prop) (w : World) (b : Nat) (v : Value) (d' : Dk) (e : Ending) (w' : World) : Prop :=
  e = .returned v ∧ ∃ F' : Nat → Prop, IsDk F' w' b d' ∧ Keeps F w w' ∧ ∀ i, F' i → F i ∨ w.heap.size ≤ i

section
variable {F : Nat → Prop} {w : World} {b : Nat} {d : Dk}
set_option maxRecDepth 100000 in
set_option maxHeartbeats 2000000 in
theorem may_any (h : IsDk F w b d) (n : Int) : Calls Tryd.prog 61 #[.pointer (some ⟨b, 0, none⟩), .int .i64 n] w fun e w' => e = .returned (.int .i64 (mayE d n)) ∧ w' = w := by
  obtain ⟨sb, lb, bb, sc, ov, h1, _⟩ := h
  have c0 := h1.cell 0
  have c7 := h1.cell 7
  unfold mayE
  cases hd : d.dead with
  | true =>
    rw [hd] at c7
    replace hd := Lib.hid hd
    go_enter Tryd.func61, Tryd.ntmps61
    go_wp2_with fail
    go_ret
    exact ⟨rfl, rfl⟩
  | false =>
    rw [hd] at c7
    replace hd := Lib.hid hd
    rw [if_neg (by decide)]
    by_cases h0 : n < 0
    · rw [if_pos (Or.inl h0)]
      go_enter Tryd.func61, Tryd.ntmps61
      go_wp2_with fail
      go_ret
      exact ⟨rfl, rfl⟩
    · by_cases h2 : (d.stays.length : Int) ≤ n
      · rw [if_pos (Or.inr h2)]
        go_enter Tryd.func61, Tryd.ntmps61
        go_wp2_with fail
        go_ret
        exact ⟨rfl, rfl⟩
      · rw [if_neg (fun h => h.elim h0 h2)]
        go_enter Tryd.func61, Tryd.ntmps61
        go_wp2_with fail
        go_ret
        exact ⟨rfl, rfl⟩
set_option maxRecDepth 100000 in
theorem mayE_ok {d : Dk} {n : Int} (h : mayE d n = 0) : d.dead = false ∧ 0 ≤ n ∧ n < d.stays.length := by
  unfold mayE at h
  split at h
  · cases h
  · next h1 =>
    split at h
    · cases h
    · next h2 => exact ⟨by simpa using h1, by omega, by omega⟩

set_option maxRecDepth 100000 in
set_option maxHeartbeats 2000000 in
theorem sectors_any (h : IsDk F w b d) : Calls Tryd.prog 40 #[.pointer (some ⟨b, 0, none⟩)] w fun e w' => e = .returned (.int .i64 (d.stays.length : Int)) ∧ w' = w := by
  obtain ⟨sb, lb, bb, sc, ov, h1, _⟩ := h
  have c0 := h1.cell 0
  go_enter Tryd.func40, Tryd.ntmps40
  go_wp2_with fail
  go_ret
  exact ⟨rfl, rfl⟩
set_option maxRecDepth 100000 in
set_option maxHeartbeats 2000000 in
theorem steps_any (h : IsDk F w b d) : Calls Tryd.prog 21 #[.pointer (some ⟨b, 0, none⟩)] w fun e w' => e = .returned (.int .i64 (d.steps : Int)) ∧ w' = w := by
  obtain ⟨sb, lb, bb, sc, ov, h1, _⟩ := h
  have c4 := h1.cell 4
  go_enter Tryd.func21, Tryd.ntmps21
  go_wp2_with fail
  go_ret
  exact ⟨rfl, rfl⟩
set_option maxRecDepth 100000 in
set_option maxHeartbeats 2000000 in
theorem dead_any (h : IsDk F w b d) : Calls Tryd.prog 25 #[.pointer (some ⟨b, 0, none⟩)] w fun e w' => e = .returned (.bool d.dead) ∧ w' = w := by
  obtain ⟨sb, lb, bb, sc, ov, h1, _⟩ := h
  have c7 := h1.cell 7
  go_enter Tryd.func25, Tryd.ntmps25
  go_wp2_with fail
  go_ret
  exact ⟨rfl, rfl⟩

set_option maxRecDepth 100000 in
set_option maxHeartbeats 4000000 in
theorem read_any (h : IsDk F w b d) (hf : Fit d) (n : Int) : Calls Tryd.prog 41 #[.pointer (some ⟨b, 0, none⟩), .int .i64 n] w fun e w' => e = .returned (.tuple #[.string (readD d n).1, .int .i64 (readD d n).2]) ∧ w' = w := by
  have km := Lib.hid (may_any h n)
  obtain ⟨sb, lb, bb, sc, ov, h1, h2, h3, h4, _⟩ := h
  have c0 := h1.cell 0
  have c1 := h1.cell 1
  have c3 := h1.cell 3
  unfold readD
  by_cases he : mayE d n = 0
  · obtain ⟨_, h0, hlt⟩ := mayE_ok he
    rw [if_neg (by rw [he]; decide)]
    rw [he] at km
    replace km := Lib.hid km.out
    replace he := Lib.hid he
    obtain ⟨k, rfl⟩ := Int.eq_ofNat_of_zero_le h0
    have hfew := hf.few
    have lk1 := h4.look k (by omega)
    have lk2 := h3.look k (by omega) true
    obtain ⟨s, hs⟩ : ∃ s, d.stays[k]? = some s := ⟨_, List.getElem?_eq_getElem (by omega)⟩
    have hr := Mem.Row.of_own h2
    obtain ⟨ad, u, ha, hu, hc⟩ := hr.at_ (k := k) (by omega)
    injection ha with ha
    subst ha
    rw [List.getElem?_map, hs] at hu
    injection hu with hu
    subst hu
    rw [add_lit, Nat.zero_add] at hc
    rw [Int.toNat_natCast, hs]
    cases hb : d.bad k with
    | true =>
      rw [hb] at lk1
      rw [if_pos rfl]
      replace hb := Lib.hid hb
      replace hs := Lib.hid hs
      go_enter Tryd.func41, Tryd.ntmps41
      go_wp2_with fail
      refine km.out.mono ?_
      rintro e w1 ⟨rfl, hw⟩
      subst hw
      go_wp2_with fail
      go_ret2
      exact ⟨rfl, rfl⟩
    | false =>
      rw [hb] at lk1
      rw [if_neg (by decide)]
      replace hb := Lib.hid hb
      replace hs := Lib.hid hs
      cases hfi : find d.L k with
      | some t =>
        rw [hfi] at lk2
        simp only [if_true, Option.getD_some, Option.isSome_some] at lk2
        replace hfi := Lib.hid hfi
        go_enter Tryd.func41, Tryd.ntmps41
        go_wp2_with fail
        refine km.out.mono ?_
        rintro e w1 ⟨rfl, hw⟩
        subst hw
        go_wp2_with fail
        go_ret2
        exact ⟨rfl, rfl⟩
      | none =>
        rw [hfi] at lk2
        simp only [if_true, Option.getD_none, Option.isSome_none] at lk2
        replace hfi := Lib.hid hfi
        go_enter Tryd.func41, Tryd.ntmps41
        go_wp2_with fail
        refine km.out.mono ?_
        rintro e w1 ⟨rfl, hw⟩
        subst hw
        go_wp2_with fail
        go_ret2
        exact ⟨rfl, rfl⟩
  · rw [if_pos he]
    have hne : (mayE d n != 0) = true := by simpa using he
    generalize mayE d n = ee at km hne
    clear he
    go_enter Tryd.func41, Tryd.ntmps41
    go_wp2_with fail
    refine km.out.mono ?_
    rintro e w1 ⟨rfl, hw⟩
    subst hw
    go_wp2_with fail
    go_ret2
    exact ⟨rfl, rfl⟩
end
end Go.Proofs.YtojhlijcinenoaaDoor.Disk

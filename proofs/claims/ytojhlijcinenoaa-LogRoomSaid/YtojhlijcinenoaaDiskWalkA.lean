/- The program's disk in memory; its small functions: may, Sectors, Loose, Steps, Dead, Read, step, Revive, Arm, Bad. -/
import Derived.Test.YtojhlijcinenoaaDiskMem
import Derived.WalkKit
import Derived.WalkSpells
import Derived.Maps.OwnOps
namespace Go.Proofs.Ytojhlijcinenoaa.Disk
open Go Go.RowKit Go.Maps Mem

/-- block b is the disk d; F: the blocks that are its own -/
def IsDk (F : Nat → Prop) (w : World) (b : Nat) (d : Dk) : Prop :=
  ∃ (sb lb bb sc : Nat) (ov : Value),
    Blk w b 52 #[.slice (some ⟨sb, 0, none⟩) d.stays.length sc, .map (some lb), ov, .map (some bb), .int .i64 (d.steps : Int), .int .i64 (d.armed : Int), .string d.keep, .bool d.dead] ∧
    w.ownsRow 0 9 1 (.slice (some ⟨sb, 0, none⟩) d.stays.length sc) d.stays.length (d.stays.map Value.string) ∧
    MapS w lb d.L ∧ MapB w bb d.marks d.bad ∧ w.ownsRow 0 3 1 ov d.L.length (d.L.map fun p => Value.int .i64 (p.1 : Int)) ∧
    lb ≠ bb ∧ (F b ∧ F sb ∧ F lb ∧ F bb) ∧ (∀ j, ov.ownBlock = some j → F j) ∧ ∀ i, F i → i < w.heap.size
/-- the numbers are small -/
structure Num (d : Dk) : Prop where
  steps : d.steps ≤ 4611686018427387904
  armed : d.armed ≤ 9223372036854775807
  marks : d.marks ≤ 4611686018427387904
theorem IsDk.keeps {F G : Nat → Prop} {w w' : World} {b : Nat} {d : Dk} (h : IsDk F w b d) (k : Keeps G w w') (hn : ∀ i, F i → ¬ G i) : IsDk F w' b d := by
  obtain ⟨sb, lb, bb, sc, ov, h1, h2, h3, h4, h5, h6, h7, h8, h9⟩ := h
  exact ⟨sb, lb, bb, sc, ov, h1.keeps k (hn _ h7.1), own_keeps h2 k (fun j e => by injection e with e; subst e; exact hn _ h7.2.1), h3.keeps k (hn _ h7.2.2.1), h4.keeps k (hn _ h7.2.2.2), own_keeps h5 k (fun j e => hn _ (h8 j e)), h6, h7, h8, fun i hi => Nat.lt_of_lt_of_le (h9 i hi) k.size⟩
theorem IsDk.below {F : Nat → Prop} {w w' : World} {b : Nat} {d : Dk} (h : IsDk F w b d) (k : Below w.heap.size w w') : IsDk F w' b d := h.keeps (Keeps.of_below (fun _ => False) k) (fun _ _ h => h)
theorem IsDk.lt {F : Nat → Prop} {w : World} {b : Nat} {d : Dk} (h : IsDk F w b d) : b < w.heap.size := by
  obtain ⟨sb, lb, bb, sc, ov, h1, _⟩ := h
  exact h1.lt
/-- what a call leaves: the disk d', and all else as it was -/
def DkPost (F : Nat → Prop) (w : World) (b : Nat) (v : Value) (d' : Dk) (e : Ending) (w' : World) : Prop :=
  e = .returned v ∧ ∃ F' : Nat → Prop, IsDk F' w' b d' ∧ Keeps F w w' ∧ ∀ i, F' i → F i ∨ w.heap.size ≤ i

section
variable {F : Nat → Prop} {w : World} {b : Nat} {d : Dk}
set_option maxRecDepth 100000 in
set_option maxHeartbeats 2000000 in
theorem may_any (h : IsDk F w b d) (n : Int) : Calls Try.prog 37 #[.pointer (some ⟨b, 0, none⟩), .int .i64 n] w fun e w' => e = .returned (.int .i64 (mayE d n)) ∧ w' = w := by
  obtain ⟨sb, lb, bb, sc, ov, h1, _⟩ := h
  have c0 := h1.cell 0
  have c7 := h1.cell 7
  unfold mayE
  cases hd : d.dead with
  | true =>
    rw [hd] at c7
    replace hd := Lib.hid hd
    go_enter Try.func37, Try.ntmps37
    go_wp2_with fail
    go_ret
    exact ⟨rfl, rfl⟩
  | false =>
    rw [hd] at c7
    replace hd := Lib.hid hd
    rw [if_neg (by decide)]
    by_cases h0 : n < 0
    · rw [if_pos (Or.inl h0)]
      go_enter Try.func37, Try.ntmps37
      go_wp2_with fail
      go_ret
      exact ⟨rfl, rfl⟩
    · by_cases h2 : (d.stays.length : Int) ≤ n
      · rw [if_pos (Or.inr h2)]
        go_enter Try.func37, Try.ntmps37
        go_wp2_with fail
        go_ret
        exact ⟨rfl, rfl⟩
      · rw [if_neg (fun h => h.elim h0 h2)]
        go_enter Try.func37, Try.ntmps37
        go_wp2_with fail
        go_ret
        exact ⟨rfl, rfl⟩
theorem mayE_ok {d : Dk} {n : Int} (h : mayE d n = 0) : d.dead = false ∧ 0 ≤ n ∧ n < d.stays.length := by
  unfold mayE at h
  split at h
  · cases h
  · next h1 =>
    split at h
    · cases h
    · next h2 => exact ⟨by simpa using h1, by omega, by omega⟩

set_option maxRecDepth 100000 in
set_option maxHeartbeats 2000000 in
theorem sectors_any (h : IsDk F w b d) : Calls Try.prog 29 #[.pointer (some ⟨b, 0, none⟩)] w fun e w' => e = .returned (.int .i64 (d.stays.length : Int)) ∧ w' = w := by
  obtain ⟨sb, lb, bb, sc, ov, h1, _⟩ := h
  have c0 := h1.cell 0
  go_enter Try.func29, Try.ntmps29
  go_wp2_with fail
  go_ret
  exact ⟨rfl, rfl⟩
set_option maxRecDepth 100000 in
set_option maxHeartbeats 2000000 in
theorem steps_any (h : IsDk F w b d) : Calls Try.prog 7 #[.pointer (some ⟨b, 0, none⟩)] w fun e w' => e = .returned (.int .i64 (d.steps : Int)) ∧ w' = w := by
  obtain ⟨sb, lb, bb, sc, ov, h1, _⟩ := h
  have c4 := h1.cell 4
  go_enter Try.func7, Try.ntmps7
  go_wp2_with fail
  go_ret
  exact ⟨rfl, rfl⟩
end
end Go.Proofs.Ytojhlijcinenoaa.Disk

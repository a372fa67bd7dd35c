/- The disk in plain Lean: what stays, what is loose, bad sectors, steps. No condition. -/
import Derived.Lib.Strings
namespace Go.Proofs.Ytojhlijcinenoaa.Disk
open Go

/-- is a number in a set of bytes? -/
def hasN (s : ByteArray) (m : Nat) : Bool := ((s.data.toList[m / 8]?).getD 0).toNat / 2 ^ (m % 8) % 2 == 1
/-- a disk: what stays; loose sectors in order, and what was written; bad ones; steps; in which step from here the power goes (0: in none), with what kept; is it gone?; how many marks were set -/
structure Dk where
  stays : List ByteArray
  L : List (Nat × ByteArray)
  bad : Nat → Bool
  steps : Nat
  armed : Nat
  keep : ByteArray
  dead : Bool
  marks : Nat

def find (L : List (Nat × ByteArray)) (n : Nat) : Option ByteArray := (L.find? fun p => p.1 == n).map (·.2)
def mayE (d : Dk) (n : Int) : Int := if d.dead = true then 2 else if n < 0 ∨ (d.stays.length : Int) ≤ n then 61 else 0
def readD (d : Dk) (n : Int) : ByteArray × Int :=
  if mayE d n ≠ 0 then (⟨#[]⟩, mayE d n) else if d.bad n.toNat = true then (⟨#[]⟩, 3) else ((find d.L n.toNat).getD ((d.stays[n.toNat]?).getD ⟨#[]⟩), 0)
/-- those of a list that are kept are written for good -/
def applyK (keep : ByteArray) : Nat → List (Nat × ByteArray) → List ByteArray → List ByteArray
  | _, [], st => st
  | i, p :: L, st => applyK keep (i + 1) L (if hasN keep i = true then st.set p.1 p.2 else st)
def applyAll (L : List (Nat × ByteArray)) (st : List ByteArray) : List ByteArray := L.foldl (fun st p => st.set p.1 p.2) st
def goesD (d : Dk) (keep : ByteArray) : Dk := { d with stays := applyK keep 0 d.L d.stays, L := [], dead := true, armed := 0 }
def stepD (d : Dk) : Dk := { d with steps := d.steps + 1, armed := d.armed - 1 }
def putL (L : List (Nat × ByteArray)) (n : Nat) (s : ByteArray) : List (Nat × ByteArray) :=
  if (find L n).isSome = true then L.map (fun p => if p.1 = n then (n, s) else p) else L ++ [(n, s)]
/-- a step: the power goes in it, or what was to be done is done -/
def stepped (d : Dk) (f : Dk → Dk) : Dk × Int := if d.armed = 1 then (goesD (stepD d) d.keep, 2) else (f (stepD d), 0)
def writeD (d : Dk) (n : Int) (s : ByteArray) : Dk × Int :=
  if mayE d n ≠ 0 then (d, mayE d n) else if s.size ≠ 64 then (d, 1) else if d.bad n.toNat = true then (d, 3) else stepped { d with L := putL d.L n.toNat s } id
def syncD (d : Dk) : Dk × Int := if d.dead = true then (d, 2) else stepped d (fun d => { d with stays := applyAll d.L d.stays, L := [] })
def badD (d : Dk) (n : Int) (b : Bool) : Dk × Int := if mayE d n ≠ 0 then (d, mayE d n) else ({ d with bad := fun k => if k = n.toNat then b else d.bad k, marks := d.marks + 1 }, 0)
def armD (d : Dk) (n : Int) (keep : ByteArray) : Dk × Int := if d.dead = true then (d, 2) else if n < 0 then (d, 1) else ({ d with armed := n.toNat, keep := keep }, 0)
def crashD (d : Dk) (keep : ByteArray) : Dk × Int := if d.dead = true then (d, 2) else (goesD d keep, 0)
def reviveD (d : Dk) : Dk := { d with dead := false, armed := 0 }
def imageD (d : Dk) : List UInt8 := d.stays.flatMap fun s => s.data.toList
def newD (n : Nat) : Dk := ⟨List.replicate n ⟨(List.replicate 64 0).toArray⟩, [], fun _ => false, 0, 0, ⟨#[]⟩, false, 0⟩

/-- what holds of every disk -/
structure Fit (d : Dk) : Prop where
  few : 1 ≤ d.stays.length ∧ d.stays.length ≤ 16384
  each : ∀ s ∈ d.stays, s.size = 64
  loose : ∀ p ∈ d.L, p.1 < d.stays.length ∧ p.2.size = 64
  apart : d.L.Pairwise fun p q => p.1 ≠ q.1

theorem find_cons (p : Nat × ByteArray) (L : List (Nat × ByteArray)) (m : Nat) : find (p :: L) m = if p.1 = m then some p.2 else find L m := by
  unfold find
  rw [List.find?_cons]
  by_cases h : p.1 = m
  · rw [if_pos h, show (p.1 == m) = true by simpa using h]
    rfl
  · rw [if_neg h, show (p.1 == m) = false by simpa using h]
theorem find_nil (n : Nat) : find [] n = none := rfl
theorem find_some {n : Nat} {s : ByteArray} : ∀ {L : List (Nat × ByteArray)}, find L n = some s → (n, s) ∈ L
  | [], h => by cases h
  | p :: L, h => by
    rw [find_cons] at h
    split at h
    · next h1 =>
      injection h with h
      obtain ⟨a, b⟩ := p
      simp only at h1 h
      subst h1 h
      exact List.mem_cons_self
    · exact List.mem_cons_of_mem _ (find_some h)
theorem find_none {n : Nat} : ∀ {L : List (Nat × ByteArray)}, find L n = none → ∀ p ∈ L, p.1 ≠ n
  | p :: L, h, q, hq => by
    rw [find_cons] at h
    split at h
    · cases h
    · next h1 =>
      rcases List.mem_cons.1 hq with rfl | hq
      · exact h1
      · exact find_none h q hq
theorem find_mem {n : Nat} {s : ByteArray} : ∀ {L : List (Nat × ByteArray)}, L.Pairwise (fun p q => p.1 ≠ q.1) → (n, s) ∈ L → find L n = some s
  | p :: L, ha, h => by
    obtain ⟨h1, h2⟩ := List.pairwise_cons.1 ha
    rw [find_cons]
    rcases List.mem_cons.1 h with rfl | h'
    · rw [if_pos rfl]
    · rw [if_neg (h1 _ h'), find_mem h2 h']
theorem find_snoc {n : Nat} {s : ByteArray} : ∀ {L : List (Nat × ByteArray)}, find L n = none → ∀ m, find (L ++ [(n, s)]) m = if m = n then some s else find L m
  | [], _, m => by
    rw [List.nil_append, find_cons]
    by_cases e : m = n
    · rw [if_pos e.symm, if_pos e]
    · rw [if_neg (Ne.symm e), if_neg e]
  | p :: L, h, m => by
    rw [find_cons] at h
    split at h
    · cases h
    · next h1 =>
      rw [List.cons_append, find_cons, find_snoc h m, find_cons]
      by_cases e : p.1 = m
      · rw [if_pos e, if_pos e, if_neg (fun e2 => h1 (e.trans e2))]
      · rw [if_neg e, if_neg e]
theorem find_map {n : Nat} {s : ByteArray} (m : Nat) : ∀ L : List (Nat × ByteArray), find (L.map fun p => if p.1 = n then (n, s) else p) m = if m = n then (if (find L n).isSome = true then some s else none) else find L m
  | [] => by simp [find]
  | p :: L => by
    have ih := find_map (n := n) (s := s) m L
    rw [List.map_cons, find_cons, find_cons, find_cons, ih]
    by_cases hp : p.1 = n
    · rw [if_pos hp]
      by_cases e : m = n
      · simp [e, hp]
      · simp [e, hp, Ne.symm e]
    · rw [if_neg hp, if_neg hp]
      by_cases e : p.1 = m
      · have : ¬ m = n := fun e2 => hp (e.trans e2)
        simp [e, this]
      · simp [e]
theorem find_putL (L : List (Nat × ByteArray)) (n m : Nat) (s : ByteArray) : find (putL L n s) m = if m = n then some s else find L m := by
  unfold putL
  cases h : (find L n).isSome with
  | true => rw [if_pos rfl, find_map, h, if_pos rfl]
  | false =>
    rw [if_neg (by decide)]
    exact find_snoc (by cases hf : find L n with | none => rfl | some _ => rw [hf] at h; cases h) m
theorem putL_keys (L : List (Nat × ByteArray)) (n : Nat) (s : ByteArray) : (putL L n s).map (·.1) = if (find L n).isSome = true then L.map (·.1) else L.map (·.1) ++ [n] := by
  unfold putL
  split
  · rw [List.map_map]
    refine List.map_congr_left fun p _ => ?_
    simp only [Function.comp_apply]
    split
    · next h => exact h.symm
    · rfl
  · simp
end Go.Proofs.Ytojhlijcinenoaa.Disk

/- The disk in plain Lean: what stays, what is loose, bad sectors, steps. No condition. -/
import Derived.Lib.Strings
namespace Go.Proofs.YtajlfmnjibgbaaaGreatDoor.Disk
open Go

/-- is a number in a set of bytes? -/
def hasN (s : ByteArray) (m : Nat) : Bool := ((s.data.toList[m / 8]?).getD 0).toNat / 2 ^ (m % 8) % 2 == 1
/-- a disk: what stays; loose sectors in order, and what was written; bad ones; steps; in which step from here the power goes (0: in none), with what kept; is it gone?; how many marks were set -/
structure Dk where
  stays : List ByteArray
  L : List (Nat × ByteArray)
  bad : Nat → Bool
  steps : Nat
  armed : Nat
  keep : ByteArray
  dead : Bool
  marks : Nat

def find (L : List (Nat × ByteArray)) (n : Nat) : Option ByteArray := (L.find? fun p => p.1 == n).map (·.2)
def mayE (d : Dk) (n : Int) : Int := if d.dead = true then 2 else if n < 0 ∨ (d.stays.length : Int) ≤ n then 61 else 0
def readD (d : Dk) (n : Int) : ByteArray × Int :=
  if mayE d n ≠ 0 then (⟨#[]⟩, mayE d n) else if d.bad n.toNat = true then (⟨#[]⟩, 3) else ((find d.L n.toNat).getD ((d.stays[n.toNat]?).getD ⟨#[]⟩), 0)
/-- those of a list that are kept are written for good -/
def applyK (keep : ByteArray) : Nat → List (Nat × ByteArray) → List ByteArray → List ByteArray
  | _, [], st => st
  | i, p :: L, st => applyK keep (i + 1) L (if hasN keep i = true then st.set p.1 p.2 else st)
def applyAll (L : List (Nat × ByteArray)) (st : List ByteArray) : List ByteArray := L.foldl (fun st p => st.set p.1 p.2) st
def goesD (d : Dk) (keep : ByteArray) : Dk := { d with stays := applyK keep 0 d.L d.stays, L := [], dead := true, armed := 0 }
def stepD (d : Dk) : Dk := { d with steps := d.steps + 1, armed := d.armed - 1 }
def putL (L : List (Nat × ByteArray)) (n : Nat) (s : ByteArray) : List (Nat × ByteArray) :=
  if (find L n).isSome = true then L.map (fun p => if p.1 = n then (n, s) else p) else L ++ [(n, s)]
/-- a step: the power goes in it, or what was to be done is done -/
def stepped (d : Dk) (f : Dk → Dk) : Dk × Int := if d.armed = 1 then (goesD (stepD d) d.keep, 2) else (f (stepD d), 0)
def writeD (d : Dk) (n : Int) (s : ByteArray) : Dk × Int :=
  if mayE d n ≠ 0 then (d, mayE d n) else if s.size ≠ 64 then (d, 1) else if d.bad n.toNat = true then (d, 3) else stepped { d with L := putL d.L n.toNat s } id
def syncD (d : Dk) : Dk × Int := if d.dead = true then (d, 2) else stepped d (fun d => { d with stays := applyAll d.L d.stays, L := [] })
def badD (d : Dk) (n : Int) (b : Bool) : Dk × Int := if mayE d n ≠ 0 then (d, mayE d n) else ({ d with bad := fun k => if k = n.toNat then b else d.bad k, marks := d.marks + 1 }, 0)
def crashD (d : Dk) (keep : ByteArray) : Dk × Int := if d.dead = true then (d, 2) else (goesD d keep, 0)
def imageD (d : Dk) : List UInt8 := d.stays.flatMap fun s => s.data.toList
def newD (n : Nat) : Dk := ⟨List.replicate n ⟨(List.replicate 64 0).toArray⟩, [], fun _ => false, 0, 0, ⟨#[]⟩, false, 0⟩

/-- what holds of every disk -/
structure Fit (d : Dk) : Prop where
  few : 1 ≤ d.stays.length ∧ d.stays.length ≤ 16384
  each : ∀ s ∈ d.stays, s.size = 64
  loose : ∀ p ∈ d.L, p.1 < d.stays.length ∧ p.2.size = 64
  apart : d.L.Pairwise fun p q => p.1 ≠ q.1

set_option maxRecDepth 100000 in
theorem find_cons (p : Nat × ByteArray) (L : List (Nat × ByteArray)) (m : Nat) : find (p :: L) m = if p.1 = m then some p.2 else find L m := by
  unfold find
  rw [List.find?_cons]
  by_cases h : p.1 = m
  · rw [if_pos h, show (p.1 == m) = true by simpa using h]
    rfl
  · rw [if_neg h, show (p.1 == m) = false by simpa using h]
set_option maxRecDepth 100000 in
theorem find_nil (n : Nat) : find [] n = none := rfl
set_option maxRecDepth 100000 in
theorem find_some {n : Nat} {s : ByteArray} : ∀ {L : List (Nat × ByteArray)}, find L n = some s → (n, s) ∈ L
  | [], h => by cases h
  | p :: L, h => by
    rw [find_cons] at h
    split at h
    · next h1 =>
      injection h with h
      obtain ⟨a, b⟩ := p
      simp only at h1 h
      subst h1 h
      exact List.mem_cons_self
    · exact List.mem_cons_of_mem _ (find_some h)
set_option maxRecDepth 100000 in
theorem find_none {n : Nat} : ∀ {L : List (Nat × ByteArray)}, find L n = none → ∀ p ∈ L, p.1 ≠ n
  | p :: L, h, q, hq => by
    rw [find_cons] at h
    split at h
    · cases h
    · next h1 =>
      rcases List.mem_cons.1 hq with rfl | hq
      · exact h1
      · exact find_none h q hq
set_option maxRecDepth 100000 in
theorem find_mem {n : Nat} {s : ByteArray} : ∀ {L : List (Nat × ByteArray)}, L.Pairwise (fun p q => p.1 ≠ q.1) → (n, s) ∈ L → find L n = some s
  | p :: L, ha, h => by
    obtain ⟨h1, h2⟩ := List.pairwise_cons.1 ha
    rw [find_cons]
    rcases List.mem_cons.1 h with rfl | h'
    · rw [if_pos rfl]
    · rw [if_neg (h1 _ h'), find_mem h2 h']
set_option maxRecDepth 100000 in
theorem find_snoc {n : Nat} {s : ByteArray} : ∀ {L : List (Nat × ByteArray)}, find L n = none → ∀ m, find (L ++ [(n, s)]) m = if m = n then some s else find L m
  | [], _, m => by
    rw [List.nil_append, find_cons]
    by_cases e : m = n
    · rw [if_pos e.symm, if_pos e]
    · rw [if_neg (Ne.symm e), if_neg e]
  | p :: L, h, m => by
    rw [find_cons] at h
    split at h
    · cases h
    · next h1 =>
      rw [List.cons_append, find_cons, find_snoc h m, find_cons]
      by_cases e : p.1 = m
      · rw [if_pos e, if_pos e, if_neg (fun e2 => h1 (e.trans e2))]
      · rw [if_neg e, if_neg e]
set_option maxRecDepth 100000 in
theorem find_map {n : Nat} {s : ByteArray} (m : Nat) : ∀ L : List (Nat × ByteArray), find (L.map fun p => if p.1 = n then (n, s) else p) m = if m = n then (if (find L n).isSome = true then some s else none) else find L m
  | [] => by simp [find]
  | p :: L => by
    have ih := find_map (n := n) (s := s) m L
    rw [List.map_cons, find_cons, find_cons, find_cons, ih]
    by_cases hp : p.1 = n
    · rw [if_pos hp]
      by_cases e : m = n
      · simp [e, hp]
      · simp [e, hp, Ne.symm e]
    · rw [if_neg hp, if_neg hp]
      by_cases e : p.1 = m
      · have : ¬ m = n := fun e2 => hp (e.trans e2)
        simp [e, this]
      · simp [e]
set_option maxRecDepth 100000 in
theorem find_putL (L : List (Nat × ByteArray)) (n m : Nat) (s : ByteArray) : find (putL L n s) m = if m = n then some s else find L m := by
  unfold putL
  cases h : (find L n).isSome with
  | true => rw [if_pos rfl, find_map, h, if_pos rfl]
  | false =>
    rw [if_neg (by decide)]
    exact find_snoc (by cases hf : find L n with | none => rfl | some _ => rw [hf] at h; cases h) m
set_option maxRecDepth 100000 in
theorem putL_keys (L : List (Nat × ByteArray)) (n : Nat) (s : ByteArray) : (putL L n s).map (·.1) = if (find L n).isSome = true then L.map (·.1) else L.map (·.1) ++ [n] := by
  unfold putL
  split
  · rw [List.map_map]
    refine List.map_congr_left fun p _ => ?_
    simp only [Function.comp_apply]
    split
    · next h => exact h.symm
    · rfl
  · simp
end Go.Proofs.YtajlfmnjibgbaaaGreatDoor.Disk
/- What holds of every disk, kept by what is done to it. Plain. -/
namespace Go.Proofs.YtajlfmnjibgbaaaGreatDoor.Disk
set_option maxRecDepth 100000 in
theorem nodup_le : ∀ (N : Nat) (l : List Nat), l.Nodup → (∀ x ∈ l, x < N) → l.length ≤ N
  | 0, l, _, h => by
    cases l with
    | nil => exact Nat.le_refl _
    | cons a l => exact absurd (h a List.mem_cons_self) (by omega)
  | N + 1, l, hn, h => by
    by_cases hm : N ∈ l
    · have h1 := nodup_le N (l.erase N) (hn.erase N) (fun x hx => by
        have h2 := (hn.mem_erase_iff).1 hx
        have h3 := h x h2.2
        have h4 := h2.1
        omega)
      rw [List.length_erase_of_mem hm] at h1
      omega
    · have h1 := nodup_le N l hn (fun x hx => by
        have h3 := h x hx
        have h4 : x ≠ N := fun e => hm (e ▸ hx)
        omega)
      omega
set_option maxRecDepth 100000 in
theorem Fit.len {d : Dk} (h : Fit d) : d.L.length ≤ 16384 := by
  have h1 := nodup_le d.stays.length (d.L.map (·.1)) (List.pairwise_map.2 h.apart) (fun x hx => by
    obtain ⟨p, hp, rfl⟩ := List.mem_map.1 hx
    exact (h.loose p hp).1)
  rw [List.length_map] at h1
  exact Nat.le_trans h1 h.few.2
set_option maxRecDepth 100000 in
theorem putL_mem {L : List (Nat × ByteArray)} {n : Nat} {s : ByteArray} {p : Nat × ByteArray} (h : p ∈ putL L n s) : p = (n, s) ∨ p ∈ L := by
  unfold putL at h
  split at h
  · obtain ⟨q, hq, e⟩ := List.mem_map.1 h
    split at e
    · exact Or.inl e.symm
    · exact Or.inr (e ▸ hq)
  · rcases List.mem_append.1 h with h | h
    · exact Or.inr h
    · exact Or.inl (List.mem_singleton.1 h)
set_option maxRecDepth 100000 in
theorem Fit.putL {d : Dk} (h : Fit d) {k : Nat} {s : ByteArray} (hk : k < d.stays.length) (hs : s.size = 64) : Fit { d with L := putL d.L k s } := by
  refine ⟨h.few, h.each, fun p hp => ?_, ?_⟩
  · rcases putL_mem hp with rfl | hp
    · exact ⟨hk, hs⟩
    · exact h.loose p hp
  · have hl : (d.L.map (·.1)).Pairwise (· ≠ ·) := List.pairwise_map.2 h.apart
    refine List.pairwise_map.1 (?_ : ((Disk.putL d.L k s).map (·.1)).Pairwise (· ≠ ·))
    rw [putL_keys]
    split
    · exact hl
    · next hn =>
      refine List.pairwise_append.2 ⟨hl, List.pairwise_singleton _ _, fun x hx y hy => ?_⟩
      obtain ⟨p, hp, rfl⟩ := List.mem_map.1 hx
      rw [List.mem_singleton.1 hy]
      exact find_none (by cases hf : find d.L k with | none => rfl | some _ => rw [hf] at hn; exact absurd rfl hn) p hp
set_option maxRecDepth 100000 in
theorem Fit.step {d : Dk} (h : Fit d) : Fit (stepD d) := ⟨h.few, h.each, h.loose, h.apart⟩
set_option maxRecDepth 100000 in
theorem applyK_each (keep : ByteArray) : ∀ (L : List (Nat × ByteArray)) (i : Nat) (st : List ByteArray), (∀ s ∈ st, s.size = 64) → (∀ p ∈ L, p.2.size = 64) → ∀ s ∈ applyK keep i L st, s.size = 64
  | [], _, _, h, _ => h
  | p :: L, i, st, h, hL => by
    refine applyK_each keep L (i + 1) _ ?_ (fun q hq => hL q (List.mem_cons_of_mem _ hq))
    split
    · intro s hs
      rcases List.mem_or_eq_of_mem_set hs with h1 | rfl
      · exact h s h1
      · exact hL p List.mem_cons_self
    · exact h
set_option maxRecDepth 100000 in
theorem applyK_length (keep : ByteArray) : ∀ (L : List (Nat × ByteArray)) (i : Nat) (st : List ByteArray), (applyK keep i L st).length = st.length
  | [], _, _ => rfl
  | q :: L, i, st => by
    rw [applyK, applyK_length keep L]
    split
    · rw [List.length_set]
    · rfl
set_option maxRecDepth 100000 in
theorem applyAll_each : ∀ (L : List (Nat × ByteArray)) (st : List ByteArray), (∀ s ∈ st, s.size = 64) → (∀ p ∈ L, p.2.size = 64) → ∀ s ∈ applyAll L st, s.size = 64
  | [], _, h, _ => h
  | p :: L, st, h, hL => by
    refine applyAll_each L (st.set p.1 p.2) ?_ (fun q hq => hL q (List.mem_cons_of_mem _ hq))
    intro s hs
    rcases List.mem_or_eq_of_mem_set hs with h1 | rfl
    · exact h s h1
    · exact hL p List.mem_cons_self
set_option maxRecDepth 100000 in
theorem applyAll_length : ∀ (L : List (Nat × ByteArray)) (st : List ByteArray), (applyAll L st).length = st.length
  | [], _ => rfl
  | p :: L, st => by
    show (applyAll L (st.set p.1 p.2)).length = _
    rw [applyAll_length L, List.length_set]
set_option maxRecDepth 100000 in
theorem Fit.goes {d : Dk} (h : Fit d) (keep : ByteArray) : Fit (goesD d keep) :=
  ⟨by rw [goesD, applyK_length]; exact h.few, applyK_each keep _ _ _ h.each (fun p hp => (h.loose p hp).2), (fun p hp => by cases hp), List.Pairwise.nil⟩
set_option maxRecDepth 100000 in
theorem Fit.synced {d : Dk} (h : Fit d) : Fit { d with stays := applyAll d.L d.stays, L := [] } :=
  ⟨by rw [applyAll_length]; exact h.few, applyAll_each _ _ h.each (fun p hp => (h.loose p hp).2), (fun p hp => by cases hp), List.Pairwise.nil⟩
set_option maxRecDepth 100000 in
theorem newD_fit {n : Nat} (h : 1 ≤ n ∧ n ≤ 16384) : Fit (newD n) :=
  ⟨by rw [newD, List.length_replicate]; exact h, (fun s hs => by rw [(List.mem_replicate.1 hs).2]; rfl), (fun p hp => by cases hp), List.Pairwise.nil⟩
end Go.Proofs.YtajlfmnjibgbaaaGreatDoor.Disk
/- Whatever is called: what holds of every disk holds behind it; the numbers grow by one at most. Plain. -/
namespace Go.Proofs.YtajlfmnjibgbaaaGreatDoor.Disk
variable {d : Dk}
/-- steps and marks up to m -/
structure NumTo (m : Nat) (d : Dk) : Prop where
  steps : d.steps ≤ m
  marks : d.marks ≤ m
  armed : d.armed ≤ 9223372036854775807
set_option maxRecDepth 100000 in
theorem mayE_zero {d : Dk} {n : Int} (h : mayE d n = 0) : d.dead = false ∧ 0 ≤ n ∧ n < d.stays.length := by
  unfold mayE at h
  split at h
  · cases h
  · next h1 =>
    split at h
    · cases h
    · next h2 => exact ⟨by simpa using h1, by omega, by omega⟩
set_option maxRecDepth 100000 in
theorem Fit.stepped (h : Fit d) (f : Dk → Dk) (hf : ∀ d, Fit d → Fit (f d)) : Fit (stepped d f).1 := by
  unfold Disk.stepped
  split
  · exact h.step.goes _
  · exact hf _ h.step
set_option maxRecDepth 100000 in
theorem Fit.write (h : Fit d) (n : Int) (s : ByteArray) : Fit (writeD d n s).1 := by
  unfold writeD
  split
  · exact h
  · next h1 =>
    split
    · exact h
    · next h2 =>
      split
      · exact h
      · have := mayE_zero (Decidable.of_not_not h1)
        exact Fit.stepped (d := { d with L := Disk.putL d.L n.toNat s }) (h.putL (by omega) (Decidable.of_not_not h2)) id (fun d h => h)
set_option maxRecDepth 100000 in
theorem Fit.sync (h : Fit d) : Fit (syncD d).1 := by
  unfold syncD
  split
  · exact h
  · exact h.stepped _ (fun d h => h.synced)
set_option maxRecDepth 100000 in
theorem Fit.bad (h : Fit d) (n : Int) (b : Bool) : Fit (badD d n b).1 := by
  unfold badD
  split
  · exact h
  · exact ⟨h.few, h.each, h.loose, h.apart⟩
set_option maxRecDepth 100000 in
theorem Fit.crash (h : Fit d) (keep : ByteArray) : Fit (crashD d keep).1 := by
  unfold crashD
  split
  · exact h
  · exact h.goes keep
set_option maxRecDepth 100000 in
theorem NumTo.new (n : Nat) : NumTo 0 (newD n) := ⟨Nat.le_refl _, Nat.le_refl _, Nat.zero_le _⟩
set_option maxRecDepth 100000 in
theorem NumTo.mono {m k : Nat} (h : NumTo m d) (hk : m ≤ k) : NumTo k d := ⟨Nat.le_trans h.steps hk, Nat.le_trans h.marks hk, h.armed⟩
set_option maxRecDepth 100000 in
theorem NumTo.stepped {m : Nat} (h : NumTo m d) (f : Dk → Dk) (hf : ∀ d, (f d).steps = d.steps ∧ (f d).marks = d.marks ∧ (f d).armed = d.armed) : NumTo (m + 1) (stepped d f).1 := by
  have h1 := h.steps
  have h2 := h.marks
  have h3 := h.armed
  unfold Disk.stepped
  split
  · exact ⟨by show d.steps + 1 ≤ m + 1; omega, by show d.marks ≤ m + 1; omega, Nat.zero_le _⟩
  · obtain ⟨e1, e2, e3⟩ := hf (stepD d)
    exact ⟨by rw [e1]; show d.steps + 1 ≤ m + 1; omega, by rw [e2]; show d.marks ≤ m + 1; omega, by rw [e3]; show d.armed - 1 ≤ _; omega⟩
set_option maxRecDepth 100000 in
theorem NumTo.write {m : Nat} (h : NumTo m d) (n : Int) (s : ByteArray) : NumTo (m + 1) (writeD d n s).1 := by
  unfold writeD
  split
  · exact h.mono (by omega)
  · split
    · exact h.mono (by omega)
    · split
      · exact h.mono (by omega)
      · exact NumTo.stepped (d := { d with L := Disk.putL d.L n.toNat s }) ⟨h.steps, h.marks, h.armed⟩ id (fun d => ⟨rfl, rfl, rfl⟩)
set_option maxRecDepth 100000 in
theorem NumTo.sync {m : Nat} (h : NumTo m d) : NumTo (m + 1) (syncD d).1 := by
  unfold syncD
  split
  · exact h.mono (by omega)
  · exact h.stepped _ (fun d => ⟨rfl, rfl, rfl⟩)
set_option maxRecDepth 100000 in
theorem NumTo.bad {m : Nat} (h : NumTo m d) (n : Int) (b : Bool) : NumTo (m + 1) (badD d n b).1 := by
  unfold badD
  split
  · exact h.mono (by omega)
  · exact ⟨Nat.le_succ_of_le h.steps, Nat.succ_le_succ h.marks, h.armed⟩
set_option maxRecDepth 100000 in
theorem NumTo.crash {m : Nat} (h : NumTo m d) (keep : ByteArray) : NumTo m (crashD d keep).1 := by
  unfold crashD
  split
  · exact h
  · exact ⟨h.steps, h.marks, Nat.zero_le _⟩
end Go.Proofs.YtajlfmnjibgbaaaGreatDoor.Disk
/- What a living disk tells: what each sector is now, which are bad. Plain. -/
namespace Go.Proofs.YtajlfmnjibgbaaaGreatDoor.Disk

/-- what a sector is now, synced or not -/
def curD (d : Dk) (i : Nat) : ByteArray := (find d.L i).getD ((d.stays[i]?).getD ⟨#[]⟩)
/-- a living disk of N sectors, the power of which goes in no step -/
structure St (d : Dk) (N : Nat) (cur : Nat → ByteArray) (bad : Nat → Bool) : Prop where
  dead : d.dead = false
  armed : d.armed = 0
  len : d.stays.length = N
  cur : ∀ i, i < N → curD d i = cur i
  bad : ∀ i, i < N → d.bad i = bad i
set_option maxRecDepth 100000 in
theorem applyAll_at : ∀ (L : List (Nat × ByteArray)) (st : List ByteArray), L.Pairwise (fun p q => p.1 ≠ q.1) → ∀ i, i < st.length → (applyAll L st)[i]? = some ((find L i).getD ((st[i]?).getD ⟨#[]⟩))
  | [], st, _, i, hi => by
    show st[i]? = some ((st[i]?).getD _)
    rw [List.getElem?_eq_getElem hi]; rfl
  | p :: L, st, ha, i, hi => by
    obtain ⟨h1, h2⟩ := List.pairwise_cons.1 ha
    show (applyAll L (st.set p.1 p.2))[i]? = _
    rw [applyAll_at L _ h2 i (by rw [List.length_set]; exact hi), find_cons]
    by_cases e : p.1 = i
    · subst e
      rw [if_pos rfl]
      have hf : find L p.1 = none := by
        cases hf : find L p.1 with
        | none => rfl
        | some t => exact absurd rfl (h1 (p.1, t) (find_some hf))
      rw [hf, List.getElem?_set_self (by omega)]
      rfl
    · rw [if_neg e, List.getElem?_set_ne e]
section
variable {d : Dk} {N : Nat} {cur : Nat → ByteArray} {bad : Nat → Bool}
set_option maxRecDepth 100000 in
theorem St.new (n : Nat) : St (newD n) n (fun _ => ⟨(List.replicate 64 0).toArray⟩) (fun _ => false) :=
  ⟨rfl, rfl, List.length_replicate, fun i hi => by
    show ((List.replicate n _)[i]?).getD _ = _
    rw [List.getElem?_replicate, if_pos hi]; rfl, fun _ _ => rfl⟩
set_option maxRecDepth 100000 in
theorem St.mono (h : St d N cur bad) {cur' : Nat → ByteArray} {bad' : Nat → Bool} (hc : ∀ i, i < N → cur i = cur' i) (hb : ∀ i, i < N → bad i = bad' i) : St d N cur' bad' :=
  ⟨h.dead, h.armed, h.len, fun i hi => (h.cur i hi).trans (hc i hi), fun i hi => (h.bad i hi).trans (hb i hi)⟩
set_option maxRecDepth 100000 in
theorem St.may (h : St d N cur bad) {n : Int} (h0 : 0 ≤ n) (h1 : n < N) : mayE d n = 0 := by
  unfold mayE
  rw [if_neg (by rw [h.dead]; decide), if_neg (by rw [h.len]; omega)]
set_option maxRecDepth 100000 in
theorem St.stepped (h : St d N cur bad) (f : Dk → Dk) : stepped d f = (f (stepD d), 0) := by
  unfold Disk.stepped
  rw [if_neg (by rw [h.armed]; decide)]
set_option maxRecDepth 100000 in
theorem St.step (h : St d N cur bad) : St (stepD d) N cur bad := ⟨h.dead, by show d.armed - 1 = 0; rw [h.armed], h.len, h.cur, h.bad⟩
set_option maxRecDepth 100000 in
theorem St.read (h : St d N cur bad) {n : Nat} (hn : n < N) (hb : bad n = false) : readD d (n : Int) = (cur n, 0) := by
  unfold readD
  rw [h.may (by omega) (by omega), if_neg (by decide), Int.toNat_natCast, h.bad n hn, hb, if_neg (by decide)]
  exact congrArg (fun s => (s, (0 : Int))) (h.cur n hn)
set_option maxRecDepth 100000 in
theorem St.write (h : St d N cur bad) {n : Nat} (hn : n < N) (hb : bad n = false) {s : ByteArray} (hs : s.size = 64) :
    (writeD d (n : Int) s).2 = 0 ∧ St (writeD d (n : Int) s).1 N (fun i => if i = n then s else cur i) bad := by
  have e : writeD d (n : Int) s = (stepD { d with L := putL d.L n s }, 0) := by
    unfold writeD
    rw [h.may (by omega) (by omega), if_neg (by decide), if_neg (by omega), Int.toNat_natCast, h.bad n hn, hb, if_neg (by decide)]
    unfold Disk.stepped
    rw [if_neg (by show ¬ d.armed = 1; rw [h.armed]; decide)]
    rfl
  rw [e]
  refine ⟨rfl, h.dead, by show d.armed - 1 = 0; rw [h.armed], h.len, fun i hi => ?_, h.bad⟩
  show (find (putL d.L n s) i).getD ((d.stays[i]?).getD _) = _
  rw [find_putL]
  by_cases e : i = n
  · rw [if_pos e, if_pos e]; rfl
  · rw [if_neg e, if_neg e]; exact h.cur i hi
set_option maxRecDepth 100000 in
theorem St.sync (h : St d N cur bad) (hf : Fit d) : (syncD d).2 = 0 ∧ St (syncD d).1 N cur bad ∧ (syncD d).1.L = [] ∧ (syncD d).1.stays = (List.range N).map cur := by
  have e : syncD d = ({ stepD d with stays := applyAll d.L d.stays, L := [] }, 0) := by
    unfold syncD
    rw [if_neg (by rw [h.dead]; decide), h.stepped]
    rfl
  have hg : ∀ i, i < N → (applyAll d.L d.stays)[i]? = some (cur i) := fun i hi => by
    rw [applyAll_at _ _ hf.apart i (by rw [h.len]; exact hi)]
    exact congrArg some (h.cur i hi)
  rw [e]
  refine ⟨rfl, ⟨h.dead, by show d.armed - 1 = 0; rw [h.armed], by show (applyAll d.L d.stays).length = N; rw [applyAll_length, h.len], fun i hi => ?_, h.bad⟩, rfl, ?_⟩
  · show ((applyAll d.L d.stays)[i]?).getD _ = _
    rw [hg i hi]; rfl
  · show applyAll d.L d.stays = _
    apply List.ext_getElem?
    intro i
    by_cases hi : i < N
    · rw [hg i hi]
      simp [hi]
    · rw [List.getElem?_eq_none (by rw [applyAll_length, h.len]; omega), List.getElem?_eq_none (by simp; omega)]
end
end Go.Proofs.YtajlfmnjibgbaaaGreatDoor.Disk
/- Images, crashes with nothing loose. Plain. -/
namespace Go.Proofs.YtajlfmnjibgbaaaGreatDoor.Disk

def img (d : Dk) : ByteArray := ⟨(imageD d).toArray⟩
section
variable {d : Dk} {N : Nat} {cur : Nat → ByteArray} {bad : Nat → Bool}
set_option maxRecDepth 100000 in
theorem St.stay (h : St d N cur bad) (hL : d.L = []) {k : Nat} (hk : k < N) : d.stays[k]? = some (cur k) := by
  have h1 := h.cur k hk
  unfold curD at h1
  rw [hL, find_nil, Option.getD_none] at h1
  rw [← h1, List.getElem?_eq_getElem (by rw [h.len]; exact hk)]
  rfl
set_option maxRecDepth 100000 in
theorem St.crash (h : St d N cur bad) (keep : ByteArray) : crashD d keep = (goesD d keep, 0) := by
  unfold crashD
  rw [if_neg (by rw [h.dead]; decide)]
end
end Go.Proofs.YtajlfmnjibgbaaaGreatDoor.Disk
/- Crashes, whatever is kept: each sector is what it was, or what it was last. Plain. -/
namespace Go.Proofs.YtajlfmnjibgbaaaGreatDoor.Disk

set_option maxRecDepth 100000 in
theorem applyK_pick {keep : ByteArray} : ∀ (L : List (Nat × ByteArray)) (i : Nat) (st : List ByteArray), L.Pairwise (fun p q => p.1 ≠ q.1) → ∀ (k : Nat) (s : ByteArray), st[k]? = some s →
    ∃ t, (applyK keep i L st)[k]? = some t ∧ (t = s ∨ find L k = some t)
  | [], _, st, _, k, s, hs => ⟨s, hs, Or.inl rfl⟩
  | p :: L, i, st, ha, k, s, hs => by
    obtain ⟨h1, h2⟩ := List.pairwise_cons.1 ha
    rw [applyK]
    by_cases e : p.1 = k
    · have hf : find L k = none := by
        cases hf : find L k with
        | none => rfl
        | some t => exact absurd e (h1 (k, t) (find_some hf))
      split
      · have hlt : k < st.length := (List.getElem?_eq_some_iff.1 hs).1
        obtain ⟨t, ht, hor⟩ := applyK_pick (keep := keep) L (i + 1) (st.set p.1 p.2) h2 k p.2 (by rw [← e, List.getElem?_set_self (by omega)])
        refine ⟨t, ht, Or.inr ?_⟩
        rw [find_cons, if_pos e]
        rcases hor with h | h
        · rw [h]
        · rw [hf] at h; cases h
      · obtain ⟨t, ht, hor⟩ := applyK_pick (keep := keep) L (i + 1) st h2 k s hs
        refine ⟨t, ht, ?_⟩
        rcases hor with h | h
        · exact Or.inl h
        · rw [hf] at h; cases h
    · have hs' : (if hasN keep i = true then st.set p.1 p.2 else st)[k]? = some s := by
        split
        · rw [List.getElem?_set_ne e]; exact hs
        · exact hs
      obtain ⟨t, ht, hor⟩ := applyK_pick (keep := keep) L (i + 1) _ h2 k s hs'
      refine ⟨t, ht, ?_⟩
      rw [find_cons, if_neg e]
      exact hor
def curL (N : Nat) (cur : Nat → ByteArray) : List ByteArray := (List.range N).map cur
set_option maxRecDepth 100000 in
theorem curL_at {N k : Nat} {cur : Nat → ByteArray} (h : k < N) : (curL N cur)[k]? = some (cur k) := by simp [curL, h]
section
variable {d : Dk} {N : Nat} {cur : Nat → ByteArray} {bad : Nat → Bool}
set_option maxRecDepth 100000 in
theorem St.all (h : St d N cur bad) (hf : Fit d) : applyAll d.L d.stays = curL N cur := by
  apply List.ext_getElem?
  intro i
  by_cases hi : i < N
  · rw [applyAll_at _ _ hf.apart i (by rw [h.len]; exact hi), curL_at hi]
    exact congrArg some (h.cur i hi)
  · rw [List.getElem?_eq_none (by rw [applyAll_length, h.len]; omega), List.getElem?_eq_none (by simp [curL]; omega)]
end
end Go.Proofs.YtajlfmnjibgbaaaGreatDoor.Disk
/- A disk with no bad sector, whose power may go in any step: of each sector what it is now, and what it may be behind a crash. Plain. -/
namespace Go.Proofs.YtajlfmnjibgbaaaGreatDoor.Disk

/-- living: what each sector is, what it may be when the power has gone -/
structure Lv (N : Nat) (cur : Nat → ByteArray) (Q : Nat → ByteArray → Prop) (d : Dk) : Prop where
  dead : d.dead = false
  len : d.stays.length = N
  good : ∀ i, i < N → d.bad i = false
  cur : ∀ i, i < N → curD d i = cur i
  stay : ∀ i s, i < N → d.stays[i]? = some s → Q i s
  loose : ∀ i s, i < N → find d.L i = some s → Q i s
/-- the power is gone -/
structure Gone (N : Nat) (Q : Nat → ByteArray → Prop) (d : Dk) : Prop where
  dead : d.dead = true
  len : d.stays.length = N
  good : ∀ i, i < N → d.bad i = false
  none : d.L = []
  stay : ∀ i s, i < N → d.stays[i]? = some s → Q i s
/-- what a step comes to: done, or the power went in it -/
def Went (N : Nat) (cur : Nat → ByteArray) (Q Q' : Nat → ByteArray → Prop) (r : Dk × Int) : Prop :=
  (r.2 = 0 ∧ Lv N cur Q r.1) ∨ (r.2 = 2 ∧ Gone N Q' r.1)
section
variable {d : Dk} {N : Nat} {cur : Nat → ByteArray} {Q Q' : Nat → ByteArray → Prop}
set_option maxRecDepth 100000 in
theorem Lv.mono (h : Lv N cur Q d) (hQ : ∀ i s, i < N → Q i s → Q' i s) : Lv N cur Q' d := ⟨h.dead, h.len, h.good, h.cur, fun i s hi hs => hQ i s hi (h.stay i s hi hs), fun i s hi hs => hQ i s hi (h.loose i s hi hs)⟩
set_option maxRecDepth 100000 in
theorem Lv.eq {cur' : Nat → ByteArray} (h : Lv N cur Q d) (hc : ∀ i, i < N → cur i = cur' i) : Lv N cur' Q d := ⟨h.dead, h.len, h.good, fun i hi => (h.cur i hi).trans (hc i hi), h.stay, h.loose⟩
set_option maxRecDepth 100000 in
theorem Gone.mono (h : Gone N Q d) (hQ : ∀ i s, i < N → Q i s → Q' i s) : Gone N Q' d := ⟨h.dead, h.len, h.good, h.none, fun i s hi hs => hQ i s hi (h.stay i s hi hs)⟩
set_option maxRecDepth 100000 in
theorem Lv.new (n : Nat) : Lv n (fun _ => ⟨(List.replicate 64 0).toArray⟩) (fun _ s => s = ⟨(List.replicate 64 0).toArray⟩) (newD n) :=
  ⟨rfl, List.length_replicate, fun _ _ => rfl, (St.new n).cur, fun i s _ hs => by
    have : (List.replicate n (⟨(List.replicate 64 0).toArray⟩ : ByteArray))[i]? = some s := hs
    exact (List.mem_replicate.1 (List.mem_of_getElem? this)).2, fun i s _ hs => by cases hs⟩
set_option maxRecDepth 100000 in
theorem Lv.step (h : Lv N cur Q d) : Lv N cur Q (stepD d) := ⟨h.dead, h.len, h.good, h.cur, h.stay, h.loose⟩
set_option maxRecDepth 100000 in
theorem Lv.goes (h : Lv N cur Q d) (hf : Fit d) (keep : ByteArray) : Gone N Q (goesD d keep) := by
  refine ⟨rfl, by show (applyK _ _ _ _).length = _; rw [applyK_length]; exact h.len, h.good, rfl, fun i s hi hs => ?_⟩
  have hlt : i < d.stays.length := by rw [h.len]; exact hi
  obtain ⟨t, ht, hor⟩ := applyK_pick (keep := keep) d.L 0 d.stays hf.apart i _ (List.getElem?_eq_getElem hlt)
  have hs' : (applyK keep 0 d.L d.stays)[i]? = some s := hs
  rw [ht] at hs'
  injection hs' with hs'
  subst hs'
  rcases hor with e | e
  · rw [e]; exact h.stay i _ hi (List.getElem?_eq_getElem hlt)
  · exact h.loose i _ hi e
set_option maxRecDepth 100000 in
theorem Lv.may (h : Lv N cur Q d) {n : Nat} (hn : n < N) : mayE d (n : Int) = 0 := by
  unfold mayE
  rw [if_neg (by rw [h.dead]; decide), if_neg (by rw [h.len]; omega)]
set_option maxRecDepth 100000 in
theorem Lv.read (h : Lv N cur Q d) {n : Nat} (hn : n < N) : readD d (n : Int) = (cur n, 0) := by
  unfold readD
  rw [h.may hn, if_neg (by decide), Int.toNat_natCast, h.good n hn, if_neg (by decide)]
  exact congrArg (fun s => (s, (0 : Int))) (h.cur n hn)
set_option maxRecDepth 100000 in
theorem Lv.put (h : Lv N cur Q d) (n : Nat) (s : ByteArray) : Lv N (fun i => if i = n then s else cur i) (fun i t => Q i t ∨ (i = n ∧ t = s)) { d with L := putL d.L n s } := by
  refine ⟨h.dead, h.len, h.good, fun i hi => ?_, fun i t hi ht => Or.inl (h.stay i t hi ht), fun i t hi ht => ?_⟩
  · show (find (putL d.L n s) i).getD ((d.stays[i]?).getD _) = _
    rw [find_putL]
    by_cases e : i = n
    · rw [if_pos e, if_pos e]; rfl
    · rw [if_neg e, if_neg e]; exact h.cur i hi
  · have ht' : find (putL d.L n s) i = some t := ht
    rw [find_putL] at ht'
    by_cases e : i = n
    · rw [if_pos e] at ht'
      injection ht' with ht'
      exact Or.inr ⟨e, ht'.symm⟩
    · rw [if_neg e] at ht'
      exact Or.inl (h.loose i t hi ht')
set_option maxRecDepth 100000 in
theorem Lv.write (h : Lv N cur Q d) (hf : Fit d) {n : Nat} (hn : n < N) {s : ByteArray} (hs : s.size = 64) :
    Went N (fun i => if i = n then s else cur i) (fun i t => Q i t ∨ (i = n ∧ t = s)) (fun i t => Q i t ∨ (i = n ∧ t = s)) (writeD d (n : Int) s) := by
  have e : writeD d (n : Int) s = stepped { d with L := putL d.L n s } id := by
    unfold writeD
    rw [h.may hn, if_neg (by decide), if_neg (by omega), Int.toNat_natCast, h.good n hn, if_neg (by decide)]
  rw [e]
  have h1 := (h.put n s).step
  have hf1 : Fit (stepD { d with L := putL d.L n s }) := (hf.putL (by rw [h.len]; exact hn) hs).step
  unfold stepped
  split
  · exact Or.inr ⟨rfl, h1.goes hf1 _⟩
  · exact Or.inl ⟨rfl, h1⟩
set_option maxRecDepth 100000 in
theorem Lv.sync (h : Lv N cur Q d) (hf : Fit d) : Went N cur (fun i t => t = cur i) Q (syncD d) ∧ ((syncD d).2 = 0 → (syncD d).1.L = []) := by
  have e : syncD d = stepped d (fun d => { d with stays := applyAll d.L d.stays, L := [] }) := by
    unfold syncD
    rw [if_neg (by rw [h.dead]; decide)]
  rw [e]
  unfold stepped
  have hg : ∀ i, i < N → (applyAll d.L d.stays)[i]? = some (cur i) := fun i hi => by
    rw [applyAll_at _ _ hf.apart i (by rw [h.len]; exact hi)]
    exact congrArg some (h.cur i hi)
  split
  · exact ⟨Or.inr ⟨rfl, h.step.goes hf.step _⟩, fun h => absurd (show (2 : Int) = 0 from h) (by decide)⟩
  · refine ⟨Or.inl ⟨rfl, h.dead, by show (applyAll d.L d.stays).length = N; rw [applyAll_length, h.len], h.good, fun i hi => ?_, fun i s hi hs => ?_, fun i s hi hs => by cases hs⟩, fun _ => rfl⟩
    · show ((applyAll d.L d.stays)[i]?).getD _ = _
      rw [hg i hi]; rfl
    · have hs' : (applyAll d.L d.stays)[i]? = some s := hs
      rw [hg i hi] at hs'
      exact (Option.some.inj hs').symm
set_option maxRecDepth 100000 in
theorem Lv.crash (h : Lv N cur Q d) (hf : Fit d) (keep : ByteArray) : (crashD d keep).2 = 0 ∧ Gone N Q (crashD d keep).1 := by
  unfold crashD
  rw [if_neg (by rw [h.dead]; decide)]
  exact ⟨rfl, h.goes hf keep⟩
set_option maxRecDepth 100000 in
theorem Gone.write (h : Gone N Q d) (n : Int) (s : ByteArray) : writeD d n s = (d, 2) := by
  have e : mayE d n = 2 := by unfold mayE; rw [if_pos h.dead]
  unfold writeD
  rw [e, if_pos (by decide)]
set_option maxRecDepth 100000 in
theorem Gone.sync (h : Gone N Q d) : syncD d = (d, 2) := by
  unfold syncD
  rw [if_pos h.dead]
end
set_option maxRecDepth 100000 in
/-- a living disk tells a sector of 64 bytes -/
theorem readD_size {d : Dk} (h : Fit d) {n : Int} (h0 : (readD d n).2 = 0) : (readD d n).1.size = 64 ∧ mayE d n = 0 := by
  unfold readD at h0 ⊢
  split at h0
  · next h1 => exact absurd h0 h1
  · next h1 =>
    split at h0
    · cases h0
    · next h2 =>
      have hm := mayE_zero (Decidable.of_not_not h1)
      rw [if_neg h1, if_neg h2]
      refine ⟨?_, Decidable.of_not_not h1⟩
      cases hf : find d.L n.toNat with
      | some t => exact (h.loose _ (find_some hf)).2
      | none =>
        have hlt : n.toNat < d.stays.length := by omega
        rw [Option.getD_none, List.getElem?_eq_getElem hlt]
        exact h.each _ (List.getElem_mem hlt)
end Go.Proofs.YtajlfmnjibgbaaaGreatDoor.Disk

/- What holds of every disk, kept by what is done to it. Plain. -/
import Derived.Test.YtojhlijcinenoaaDiskSpec
namespace Go.Proofs.Ytojhlijcinenoaa.Disk
theorem nodup_le : ∀ (N : Nat) (l : List Nat), l.Nodup → (∀ x ∈ l, x < N) → l.length ≤ N
  | 0, l, _, h => by
    cases l with
    | nil => exact Nat.le_refl _
    | cons a l => exact absurd (h a List.mem_cons_self) (by omega)
  | N + 1, l, hn, h => by
    by_cases hm : N ∈ l
    · have h1 := nodup_le N (l.erase N) (hn.erase N) (fun x hx => by
        have h2 := (hn.mem_erase_iff).1 hx
        have h3 := h x h2.2
        have h4 := h2.1
        omega)
      rw [List.length_erase_of_mem hm] at h1
      omega
    · have h1 := nodup_le N l hn (fun x hx => by
        have h3 := h x hx
        have h4 : x ≠ N := fun e => hm (e ▸ hx)
        omega)
      omega
theorem Fit.len {d : Dk} (h : Fit d) : d.L.length ≤ 16384 := by
  have h1 := nodup_le d.stays.length (d.L.map (·.1)) (List.pairwise_map.2 h.apart) (fun x hx => by
    obtain ⟨p, hp, rfl⟩ := List.mem_map.1 hx
    exact (h.loose p hp).1)
  rw [List.length_map] at h1
  exact Nat.le_trans h1 h.few.2
theorem putL_mem {L : List (Nat × ByteArray)} {n : Nat} {s : ByteArray} {p : Nat × ByteArray} (h : p ∈ putL L n s) : p = (n, s) ∨ p ∈ L := by
  unfold putL at h
  split at h
  · obtain ⟨q, hq, e⟩ := List.mem_map.1 h
    split at e
    · exact Or.inl e.symm
    · exact Or.inr (e ▸ hq)
  · rcases List.mem_append.1 h with h | h
    · exact Or.inr h
    · exact Or.inl (List.mem_singleton.1 h)
theorem Fit.putL {d : Dk} (h : Fit d) {k : Nat} {s : ByteArray} (hk : k < d.stays.length) (hs : s.size = 64) : Fit { d with L := putL d.L k s } := by
  refine ⟨h.few, h.each, fun p hp => ?_, ?_⟩
  · rcases putL_mem hp with rfl | hp
    · exact ⟨hk, hs⟩
    · exact h.loose p hp
  · have hl : (d.L.map (·.1)).Pairwise (· ≠ ·) := List.pairwise_map.2 h.apart
    refine List.pairwise_map.1 (?_ : ((Disk.putL d.L k s).map (·.1)).Pairwise (· ≠ ·))
    rw [putL_keys]
    split
    · exact hl
    · next hn =>
      refine List.pairwise_append.2 ⟨hl, List.pairwise_singleton _ _, fun x hx y hy => ?_⟩
      obtain ⟨p, hp, rfl⟩ := List.mem_map.1 hx
      rw [List.mem_singleton.1 hy]
      exact find_none (by cases hf : find d.L k with | none => rfl | some _ => rw [hf] at hn; exact absurd rfl hn) p hp
theorem Fit.step {d : Dk} (h : Fit d) : Fit (stepD d) := ⟨h.few, h.each, h.loose, h.apart⟩
theorem applyK_each (keep : ByteArray) : ∀ (L : List (Nat × ByteArray)) (i : Nat) (st : List ByteArray), (∀ s ∈ st, s.size = 64) → (∀ p ∈ L, p.2.size = 64) → ∀ s ∈ applyK keep i L st, s.size = 64
  | [], _, _, h, _ => h
  | p :: L, i, st, h, hL => by
    refine applyK_each keep L (i + 1) _ ?_ (fun q hq => hL q (List.mem_cons_of_mem _ hq))
    split
    · intro s hs
      rcases List.mem_or_eq_of_mem_set hs with h1 | rfl
      · exact h s h1
      · exact hL p List.mem_cons_self
    · exact h
theorem applyK_length (keep : ByteArray) : ∀ (L : List (Nat × ByteArray)) (i : Nat) (st : List ByteArray), (applyK keep i L st).length = st.length
  | [], _, _ => rfl
  | q :: L, i, st => by
    rw [applyK, applyK_length keep L]
    split
    · rw [List.length_set]
    · rfl
theorem applyAll_each : ∀ (L : List (Nat × ByteArray)) (st : List ByteArray), (∀ s ∈ st, s.size = 64) → (∀ p ∈ L, p.2.size = 64) → ∀ s ∈ applyAll L st, s.size = 64
  | [], _, h, _ => h
  | p :: L, st, h, hL => by
    refine applyAll_each L (st.set p.1 p.2) ?_ (fun q hq => hL q (List.mem_cons_of_mem _ hq))
    intro s hs
    rcases List.mem_or_eq_of_mem_set hs with h1 | rfl
    · exact h s h1
    · exact hL p List.mem_cons_self
theorem applyAll_length : ∀ (L : List (Nat × ByteArray)) (st : List ByteArray), (applyAll L st).length = st.length
  | [], _ => rfl
  | p :: L, st => by
    show (applyAll L (st.set p.1 p.2)).length = _
    rw [applyAll_length L, List.length_set]
theorem Fit.goes {d : Dk} (h : Fit d) (keep : ByteArray) : Fit (goesD d keep) :=
  ⟨by rw [goesD, applyK_length]; exact h.few, applyK_each keep _ _ _ h.each (fun p hp => (h.loose p hp).2), (fun p hp => by cases hp), List.Pairwise.nil⟩
theorem Fit.synced {d : Dk} (h : Fit d) : Fit { d with stays := applyAll d.L d.stays, L := [] } :=
  ⟨by rw [applyAll_length]; exact h.few, applyAll_each _ _ h.each (fun p hp => (h.loose p hp).2), (fun p hp => by cases hp), List.Pairwise.nil⟩
theorem newD_fit {n : Nat} (h : 1 ≤ n ∧ n ≤ 16384) : Fit (newD n) :=
  ⟨by rw [newD, List.length_replicate]; exact h, (fun s hs => by rw [(List.mem_replicate.1 hs).2]; rfl), (fun p hp => by cases hp), List.Pairwise.nil⟩
end Go.Proofs.Ytojhlijcinenoaa.Disk

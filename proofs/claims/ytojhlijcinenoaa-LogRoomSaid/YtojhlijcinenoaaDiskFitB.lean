/- Whatever is called: what holds of every disk holds behind it; the numbers grow by one at most. Plain. -/
import Derived.Test.YtojhlijcinenoaaDiskFit
namespace Go.Proofs.Ytojhlijcinenoaa.Disk
variable {d : Dk}
/-- steps and marks up to m -/
structure NumTo (m : Nat) (d : Dk) : Prop where
  steps : d.steps ≤ m
  marks : d.marks ≤ m
  armed : d.armed ≤ 9223372036854775807
theorem mayE_zero {d : Dk} {n : Int} (h : mayE d n = 0) : d.dead = false ∧ 0 ≤ n ∧ n < d.stays.length := by
  unfold mayE at h
  split at h
  · cases h
  · next h1 =>
    split at h
    · cases h
    · next h2 => exact ⟨by simpa using h1, by omega, by omega⟩
theorem Fit.stepped (h : Fit d) (f : Dk → Dk) (hf : ∀ d, Fit d → Fit (f d)) : Fit (stepped d f).1 := by
  unfold Disk.stepped
  split
  · exact h.step.goes _
  · exact hf _ h.step
theorem Fit.write (h : Fit d) (n : Int) (s : ByteArray) : Fit (writeD d n s).1 := by
  unfold writeD
  split
  · exact h
  · next h1 =>
    split
    · exact h
    · next h2 =>
      split
      · exact h
      · have := mayE_zero (Decidable.of_not_not h1)
        exact Fit.stepped (d := { d with L := Disk.putL d.L n.toNat s }) (h.putL (by omega) (Decidable.of_not_not h2)) id (fun d h => h)
theorem Fit.sync (h : Fit d) : Fit (syncD d).1 := by
  unfold syncD
  split
  · exact h
  · exact h.stepped _ (fun d h => h.synced)
theorem Fit.bad (h : Fit d) (n : Int) (b : Bool) : Fit (badD d n b).1 := by
  unfold badD
  split
  · exact h
  · exact ⟨h.few, h.each, h.loose, h.apart⟩
theorem Fit.arm (h : Fit d) (n : Int) (keep : ByteArray) : Fit (armD d n keep).1 := by
  unfold armD
  split
  · exact h
  · split
    · exact h
    · exact ⟨h.few, h.each, h.loose, h.apart⟩
theorem Fit.crash (h : Fit d) (keep : ByteArray) : Fit (crashD d keep).1 := by
  unfold crashD
  split
  · exact h
  · exact h.goes keep
theorem Fit.revive (h : Fit d) : Fit (reviveD d) := ⟨h.few, h.each, h.loose, h.apart⟩
theorem NumTo.new (n : Nat) : NumTo 0 (newD n) := ⟨Nat.le_refl _, Nat.le_refl _, Nat.zero_le _⟩
theorem NumTo.mono {m k : Nat} (h : NumTo m d) (hk : m ≤ k) : NumTo k d := ⟨Nat.le_trans h.steps hk, Nat.le_trans h.marks hk, h.armed⟩
theorem NumTo.stepped {m : Nat} (h : NumTo m d) (f : Dk → Dk) (hf : ∀ d, (f d).steps = d.steps ∧ (f d).marks = d.marks ∧ (f d).armed = d.armed) : NumTo (m + 1) (stepped d f).1 := by
  have h1 := h.steps
  have h2 := h.marks
  have h3 := h.armed
  unfold Disk.stepped
  split
  · exact ⟨by show d.steps + 1 ≤ m + 1; omega, by show d.marks ≤ m + 1; omega, Nat.zero_le _⟩
  · obtain ⟨e1, e2, e3⟩ := hf (stepD d)
    exact ⟨by rw [e1]; show d.steps + 1 ≤ m + 1; omega, by rw [e2]; show d.marks ≤ m + 1; omega, by rw [e3]; show d.armed - 1 ≤ _; omega⟩
theorem NumTo.write {m : Nat} (h : NumTo m d) (n : Int) (s : ByteArray) : NumTo (m + 1) (writeD d n s).1 := by
  unfold writeD
  split
  · exact h.mono (by omega)
  · split
    · exact h.mono (by omega)
    · split
      · exact h.mono (by omega)
      · exact NumTo.stepped (d := { d with L := Disk.putL d.L n.toNat s }) ⟨h.steps, h.marks, h.armed⟩ id (fun d => ⟨rfl, rfl, rfl⟩)
theorem NumTo.sync {m : Nat} (h : NumTo m d) : NumTo (m + 1) (syncD d).1 := by
  unfold syncD
  split
  · exact h.mono (by omega)
  · exact h.stepped _ (fun d => ⟨rfl, rfl, rfl⟩)
theorem NumTo.bad {m : Nat} (h : NumTo m d) (n : Int) (b : Bool) : NumTo (m + 1) (badD d n b).1 := by
  unfold badD
  split
  · exact h.mono (by omega)
  · exact ⟨Nat.le_succ_of_le h.steps, Nat.succ_le_succ h.marks, h.armed⟩
theorem NumTo.arm {m : Nat} (h : NumTo m d) (n : Int) (hn : n ≤ 9223372036854775807) (keep : ByteArray) : NumTo m (armD d n keep).1 := by
  unfold armD
  split
  · exact h
  · split
    · exact h
    · exact ⟨h.steps, h.marks, by show n.toNat ≤ _; omega⟩
theorem NumTo.crash {m : Nat} (h : NumTo m d) (keep : ByteArray) : NumTo m (crashD d keep).1 := by
  unfold crashD
  split
  · exact h
  · exact ⟨h.steps, h.marks, Nat.zero_le _⟩
theorem NumTo.revive {m : Nat} (h : NumTo m d) : NumTo m (reviveD d) := ⟨h.steps, h.marks, Nat.zero_le _⟩
end Go.Proofs.Ytojhlijcinenoaa.Disk

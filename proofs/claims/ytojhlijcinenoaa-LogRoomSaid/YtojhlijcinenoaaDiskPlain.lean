/- What a living disk tells: what each sector is now, which are bad. Plain. -/
import Derived.Test.YtojhlijcinenoaaDiskFitB
namespace Go.Proofs.Ytojhlijcinenoaa.Disk

/-- what a sector is now, synced or not -/
def curD (d : Dk) (i : Nat) : ByteArray := (find d.L i).getD ((d.stays[i]?).getD ⟨#[]⟩)
/-- a living disk of N sectors, the power of which goes in no step -/
structure St (d : Dk) (N : Nat) (cur : Nat → ByteArray) (bad : Nat → Bool) : Prop where
  dead : d.dead = false
  armed : d.armed = 0
  len : d.stays.length = N
  cur : ∀ i, i < N → curD d i = cur i
  bad : ∀ i, i < N → d.bad i = bad i
theorem applyAll_at : ∀ (L : List (Nat × ByteArray)) (st : List ByteArray), L.Pairwise (fun p q => p.1 ≠ q.1) → ∀ i, i < st.length → (applyAll L st)[i]? = some ((find L i).getD ((st[i]?).getD ⟨#[]⟩))
  | [], st, _, i, hi => by
    show st[i]? = some ((st[i]?).getD _)
    rw [List.getElem?_eq_getElem hi]; rfl
  | p :: L, st, ha, i, hi => by
    obtain ⟨h1, h2⟩ := List.pairwise_cons.1 ha
    show (applyAll L (st.set p.1 p.2))[i]? = _
    rw [applyAll_at L _ h2 i (by rw [List.length_set]; exact hi), find_cons]
    by_cases e : p.1 = i
    · subst e
      rw [if_pos rfl]
      have hf : find L p.1 = none := by
        cases hf : find L p.1 with
        | none => rfl
        | some t => exact absurd rfl (h1 (p.1, t) (find_some hf))
      rw [hf, List.getElem?_set_self (by omega)]
      rfl
    · rw [if_neg e, List.getElem?_set_ne e]
section
variable {d : Dk} {N : Nat} {cur : Nat → ByteArray} {bad : Nat → Bool}
theorem St.new (n : Nat) : St (newD n) n (fun _ => ⟨(List.replicate 64 0).toArray⟩) (fun _ => false) :=
  ⟨rfl, rfl, List.length_replicate, fun i hi => by
    show ((List.replicate n _)[i]?).getD _ = _
    rw [List.getElem?_replicate, if_pos hi]; rfl, fun _ _ => rfl⟩
theorem St.mono (h : St d N cur bad) {cur' : Nat → ByteArray} {bad' : Nat → Bool} (hc : ∀ i, i < N → cur i = cur' i) (hb : ∀ i, i < N → bad i = bad' i) : St d N cur' bad' :=
  ⟨h.dead, h.armed, h.len, fun i hi => (h.cur i hi).trans (hc i hi), fun i hi => (h.bad i hi).trans (hb i hi)⟩
theorem St.may (h : St d N cur bad) {n : Int} (h0 : 0 ≤ n) (h1 : n < N) : mayE d n = 0 := by
  unfold mayE
  rw [if_neg (by rw [h.dead]; decide), if_neg (by rw [h.len]; omega)]
theorem St.may_no (h : St d N cur bad) {n : Int} (h0 : n < 0 ∨ (N : Int) ≤ n) : mayE d n = 61 := by
  unfold mayE
  rw [if_neg (by rw [h.dead]; decide), if_pos (by rw [h.len]; exact h0)]
theorem St.stepped (h : St d N cur bad) (f : Dk → Dk) : stepped d f = (f (stepD d), 0) := by
  unfold Disk.stepped
  rw [if_neg (by rw [h.armed]; decide)]
theorem St.step (h : St d N cur bad) : St (stepD d) N cur bad := ⟨h.dead, by show d.armed - 1 = 0; rw [h.armed], h.len, h.cur, h.bad⟩
theorem St.read (h : St d N cur bad) {n : Nat} (hn : n < N) (hb : bad n = false) : readD d (n : Int) = (cur n, 0) := by
  unfold readD
  rw [h.may (by omega) (by omega), if_neg (by decide), Int.toNat_natCast, h.bad n hn, hb, if_neg (by decide)]
  exact congrArg (fun s => (s, (0 : Int))) (h.cur n hn)
theorem St.read_bad (h : St d N cur bad) {n : Nat} (hn : n < N) (hb : bad n = true) : readD d (n : Int) = (⟨#[]⟩, 3) := by
  unfold readD
  rw [h.may (by omega) (by omega), if_neg (by decide), Int.toNat_natCast, h.bad n hn, hb, if_pos rfl]
theorem St.write (h : St d N cur bad) {n : Nat} (hn : n < N) (hb : bad n = false) {s : ByteArray} (hs : s.size = 64) :
    (writeD d (n : Int) s).2 = 0 ∧ St (writeD d (n : Int) s).1 N (fun i => if i = n then s else cur i) bad := by
  have e : writeD d (n : Int) s = (stepD { d with L := putL d.L n s }, 0) := by
    unfold writeD
    rw [h.may (by omega) (by omega), if_neg (by decide), if_neg (by omega), Int.toNat_natCast, h.bad n hn, hb, if_neg (by decide)]
    unfold Disk.stepped
    rw [if_neg (by show ¬ d.armed = 1; rw [h.armed]; decide)]
    rfl
  rw [e]
  refine ⟨rfl, h.dead, by show d.armed - 1 = 0; rw [h.armed], h.len, fun i hi => ?_, h.bad⟩
  show (find (putL d.L n s) i).getD ((d.stays[i]?).getD _) = _
  rw [find_putL]
  by_cases e : i = n
  · rw [if_pos e, if_pos e]; rfl
  · rw [if_neg e, if_neg e]; exact h.cur i hi
theorem St.write_bad (h : St d N cur bad) {n : Nat} (hn : n < N) (hb : bad n = true) {s : ByteArray} (hs : s.size = 64) : writeD d (n : Int) s = (d, 3) := by
  unfold writeD
  rw [h.may (by omega) (by omega), if_neg (by decide), if_neg (by omega), Int.toNat_natCast, h.bad n hn, hb, if_pos rfl]
theorem St.write_no (h : St d N cur bad) {n : Int} (h0 : n < 0 ∨ (N : Int) ≤ n) (s : ByteArray) : writeD d n s = (d, 61) := by
  unfold writeD
  rw [h.may_no h0, if_pos (by decide)]
theorem St.bad_ok (h : St d N cur bad) {n : Nat} (hn : n < N) (x : Bool) : (badD d (n : Int) x).2 = 0 ∧ St (badD d (n : Int) x).1 N cur (fun i => if i = n then x else bad i) := by
  unfold badD
  rw [h.may (by omega) (by omega), if_neg (by decide), Int.toNat_natCast]
  refine ⟨rfl, h.dead, h.armed, h.len, h.cur, fun i hi => ?_⟩
  show (if i = n then x else d.bad i) = _
  rw [h.bad i hi]
theorem St.sync (h : St d N cur bad) (hf : Fit d) : (syncD d).2 = 0 ∧ St (syncD d).1 N cur bad ∧ (syncD d).1.L = [] ∧ (syncD d).1.stays = (List.range N).map cur := by
  have e : syncD d = ({ stepD d with stays := applyAll d.L d.stays, L := [] }, 0) := by
    unfold syncD
    rw [if_neg (by rw [h.dead]; decide), h.stepped]
    rfl
  have hg : ∀ i, i < N → (applyAll d.L d.stays)[i]? = some (cur i) := fun i hi => by
    rw [applyAll_at _ _ hf.apart i (by rw [h.len]; exact hi)]
    exact congrArg some (h.cur i hi)
  rw [e]
  refine ⟨rfl, ⟨h.dead, by show d.armed - 1 = 0; rw [h.armed], by show (applyAll d.L d.stays).length = N; rw [applyAll_length, h.len], fun i hi => ?_, h.bad⟩, rfl, ?_⟩
  · show ((applyAll d.L d.stays)[i]?).getD _ = _
    rw [hg i hi]; rfl
  · show applyAll d.L d.stays = _
    apply List.ext_getElem?
    intro i
    by_cases hi : i < N
    · rw [hg i hi]
      simp [hi]
    · rw [List.getElem?_eq_none (by rw [applyAll_length, h.len]; omega), List.getElem?_eq_none (by simp; omega)]
end
end Go.Proofs.Ytojhlijcinenoaa.Disk

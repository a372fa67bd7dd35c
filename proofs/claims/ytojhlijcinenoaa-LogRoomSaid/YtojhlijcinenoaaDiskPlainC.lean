/- Crashes, whatever is kept: each sector is what it was, or what it was last. Plain. -/
import Derived.Test.YtojhlijcinenoaaDiskPlainB
namespace Go.Proofs.Ytojhlijcinenoaa.Disk

theorem applyK_none {keep : ByteArray} (hk : ∀ i, hasN keep i = false) : ∀ (L : List (Nat × ByteArray)) (i : Nat) (st : List ByteArray), applyK keep i L st = st
  | [], _, _ => rfl
  | p :: L, i, st => by
    rw [applyK, hk i, if_neg (by decide)]
    exact applyK_none hk L (i + 1) st
theorem applyK_all {keep : ByteArray} {B : Nat} (hk : ∀ i, i < B → hasN keep i = true) : ∀ (L : List (Nat × ByteArray)) (i : Nat) (st : List ByteArray), i + L.length ≤ B → applyK keep i L st = applyAll L st
  | [], _, _, _ => rfl
  | p :: L, i, st, h => by
    rw [List.length_cons] at h
    rw [applyK, hk i (by omega), if_pos rfl]
    exact applyK_all hk L (i + 1) _ (by omega)
theorem applyK_pick {keep : ByteArray} : ∀ (L : List (Nat × ByteArray)) (i : Nat) (st : List ByteArray), L.Pairwise (fun p q => p.1 ≠ q.1) → ∀ (k : Nat) (s : ByteArray), st[k]? = some s →
    ∃ t, (applyK keep i L st)[k]? = some t ∧ (t = s ∨ find L k = some t)
  | [], _, st, _, k, s, hs => ⟨s, hs, Or.inl rfl⟩
  | p :: L, i, st, ha, k, s, hs => by
    obtain ⟨h1, h2⟩ := List.pairwise_cons.1 ha
    rw [applyK]
    by_cases e : p.1 = k
    · have hf : find L k = none := by
        cases hf : find L k with
        | none => rfl
        | some t => exact absurd e (h1 (k, t) (find_some hf))
      split
      · have hlt : k < st.length := (List.getElem?_eq_some_iff.1 hs).1
        obtain ⟨t, ht, hor⟩ := applyK_pick (keep := keep) L (i + 1) (st.set p.1 p.2) h2 k p.2 (by rw [← e, List.getElem?_set_self (by omega)])
        refine ⟨t, ht, Or.inr ?_⟩
        rw [find_cons, if_pos e]
        rcases hor with h | h
        · rw [h]
        · rw [hf] at h; cases h
      · obtain ⟨t, ht, hor⟩ := applyK_pick (keep := keep) L (i + 1) st h2 k s hs
        refine ⟨t, ht, ?_⟩
        rcases hor with h | h
        · exact Or.inl h
        · rw [hf] at h; cases h
    · have hs' : (if hasN keep i = true then st.set p.1 p.2 else st)[k]? = some s := by
        split
        · rw [List.getElem?_set_ne e]; exact hs
        · exact hs
      obtain ⟨t, ht, hor⟩ := applyK_pick (keep := keep) L (i + 1) _ h2 k s hs'
      refine ⟨t, ht, ?_⟩
      rw [find_cons, if_neg e]
      exact hor
/-- the texts of a list, one behind the other -/
def cat (l : List ByteArray) : ByteArray := ⟨(l.flatMap fun s => s.data.toList).toArray⟩
theorem cat_snoc (l : List ByteArray) (s : ByteArray) : cat (l ++ [s]) = cat l ++ s := by
  apply ByteArray.ext
  rw [ByteArray.data_append]
  apply Array.toList_inj.1
  rw [Array.toList_append]
  simp [cat]
theorem cat_size {l : List ByteArray} (h : ∀ s ∈ l, s.size = 64) : (cat l).size = 64 * l.length := by
  show ((l.flatMap fun s => s.data.toList).toArray).size = _
  rw [List.size_toArray]
  exact flat_length l h
theorem cat_part {l : List ByteArray} (h : ∀ s ∈ l, s.size = 64) {k : Nat} {s : ByteArray} (hk : l[k]? = some s) : (cat l).extract (64 * k) (64 * k + 64) = s := by
  apply ByteArray.ext
  rw [ByteArray.data_extract]
  apply Array.toList_inj.1
  show ((l.flatMap fun s => s.data.toList).toArray.extract (64 * k) (64 * k + 64)).toList = _
  rw [Array.toList_extract, List.extract_eq_take_drop, show 64 * k + 64 - 64 * k = 64 by omega]
  exact flat_part l h k s hk
theorem img_cat (d : Dk) : img d = cat d.stays := rfl
def curL (N : Nat) (cur : Nat → ByteArray) : List ByteArray := (List.range N).map cur
theorem curL_snoc (k : Nat) (cur : Nat → ByteArray) : curL (k + 1) cur = curL k cur ++ [cur k] := by
  unfold curL
  rw [List.range_succ, List.map_append]
  rfl
theorem curL_at {N k : Nat} {cur : Nat → ByteArray} (h : k < N) : (curL N cur)[k]? = some (cur k) := by simp [curL, h]
def all5 : ByteArray := ⟨#[255, 255, 255, 255, 255]⟩
theorem all5_has : ∀ i, i < 40 → hasN all5 i = true := by decide +kernel
theorem none_has (i : Nat) : hasN ⟨#[]⟩ i = false := by
  unfold hasN
  simp
section
variable {d : Dk} {N : Nat} {cur : Nat → ByteArray} {bad : Nat → Bool}
theorem St.all (h : St d N cur bad) (hf : Fit d) : applyAll d.L d.stays = curL N cur := by
  apply List.ext_getElem?
  intro i
  by_cases hi : i < N
  · rw [applyAll_at _ _ hf.apart i (by rw [h.len]; exact hi), curL_at hi]
    exact congrArg some (h.cur i hi)
  · rw [List.getElem?_eq_none (by rw [applyAll_length, h.len]; omega), List.getElem?_eq_none (by simp [curL]; omega)]
theorem St.cur_size (h : St d N cur bad) (hf : Fit d) {k : Nat} (hk : k < N) : (cur k).size = 64 := by
  rw [← h.cur k hk]
  unfold curD
  cases hfi : find d.L k with
  | some t => exact (hf.loose _ (find_some hfi)).2
  | none =>
    have hlt : k < d.stays.length := by rw [h.len]; exact hk
    rw [Option.getD_none, List.getElem?_eq_getElem hlt]
    exact hf.each _ (List.getElem_mem hlt)
theorem St.curL_each (h : St d N cur bad) (hf : Fit d) : ∀ s ∈ curL N cur, s.size = 64 := fun s hs => by
  obtain ⟨k, hk, rfl⟩ := List.mem_map.1 hs
  exact h.cur_size hf (List.mem_range.1 hk)
theorem crash_noneI : img (goesD d ⟨#[]⟩) = img d := by
  show cat (applyK ⟨#[]⟩ 0 d.L d.stays) = cat d.stays
  rw [applyK_none none_has]
theorem St.crash_allI (h : St d N cur bad) (hf : Fit d) (hN : N ≤ 40) : img (goesD d all5) = cat (curL N cur) := by
  show cat (applyK all5 0 d.L d.stays) = _
  have h1 := nodup_le d.stays.length (d.L.map (·.1)) (List.pairwise_map.2 hf.apart) (fun x hx => by
    obtain ⟨p, hp, rfl⟩ := List.mem_map.1 hx
    exact (hf.loose p hp).1)
  rw [List.length_map, h.len] at h1
  rw [applyK_all all5_has d.L 0 _ (by omega), h.all hf]
/-- behind a crash each sector is what it was, or what it was last -/
theorem St.crash_part (h : St d N cur bad) (hf : Fit d) (keep : ByteArray) {k : Nat} (hk : k < N) :
    ∃ t s, (img (goesD d keep)).extract (64 * k) (64 * k + 64) = t ∧ (img d).extract (64 * k) (64 * k + 64) = s ∧ (t = s ∨ t = cur k) := by
  have hlt : k < d.stays.length := by rw [h.len]; exact hk
  obtain ⟨s, hs⟩ : ∃ s, d.stays[k]? = some s := ⟨_, List.getElem?_eq_getElem hlt⟩
  obtain ⟨t, ht, hor⟩ := applyK_pick (keep := keep) d.L 0 d.stays hf.apart k s hs
  refine ⟨t, s, img_part (hf.goes keep) ht, img_part hf hs, ?_⟩
  rcases hor with e | e
  · exact Or.inl e
  · refine Or.inr ?_
    rw [← h.cur k hk]
    unfold curD
    rw [e]
    rfl
theorem St.write_all (h : St d N cur (fun _ => false)) (n : Int) (s : ByteArray) : ∃ cur', St (writeD d n s).1 N cur' (fun _ => false) := by
  by_cases hn : n < 0 ∨ (N : Int) ≤ n
  · rw [h.write_no hn]; exact ⟨_, h⟩
  · obtain ⟨k, rfl⟩ := Int.eq_ofNat_of_zero_le (show 0 ≤ n by omega)
    by_cases hs : s.size = 64
    · exact ⟨_, (h.write (n := k) (by omega) rfl hs).2⟩
    · have e : writeD d (k : Int) s = (d, 1) := by
        unfold writeD
        rw [h.may (by omega) (by omega), if_neg (by decide), if_pos hs]
      rw [e]; exact ⟨_, h⟩
end
end Go.Proofs.Ytojhlijcinenoaa.Disk

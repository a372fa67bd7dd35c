/- Images, crashes with nothing loose. Plain. -/
import Derived.Test.YtojhlijcinenoaaDiskPlain
namespace Go.Proofs.Ytojhlijcinenoaa.Disk

def img (d : Dk) : ByteArray := ⟨(imageD d).toArray⟩
theorem flat_length : ∀ (l : List ByteArray), (∀ s ∈ l, s.size = 64) → (l.flatMap fun s => s.data.toList).length = 64 * l.length
  | [], _ => rfl
  | s :: l, h => by
    rw [List.flatMap_cons, List.length_append, flat_length l (fun t ht => h t (List.mem_cons_of_mem _ ht)), List.length_cons]
    have h1 : s.data.toList.length = 64 := h s List.mem_cons_self
    omega
theorem flat_part : ∀ (l : List ByteArray), (∀ s ∈ l, s.size = 64) → ∀ (k : Nat) (s : ByteArray), l[k]? = some s → ((l.flatMap fun s => s.data.toList).drop (64 * k)).take 64 = s.data.toList
  | [], _, k, s, hk => by simp at hk
  | t :: l, h, k, s, hk => by
    have h1 : t.data.toList.length = 64 := h t List.mem_cons_self
    rw [List.flatMap_cons]
    cases k with
    | zero =>
      injection hk with hk
      subst hk
      rw [show 64 * 0 = 0 from rfl, List.drop_zero, List.take_append_of_le_length (by omega), List.take_of_length_le (by omega)]
    | succ k =>
      rw [show 64 * (k + 1) = 64 + 64 * k by omega, ← List.drop_drop, List.drop_append_of_le_length (by omega), List.drop_of_length_le (l := t.data.toList) (by omega), List.nil_append]
      exact flat_part l (fun t ht => h t (List.mem_cons_of_mem _ ht)) k s hk
theorem img_size {d : Dk} (h : Fit d) : (img d).size = 64 * d.stays.length := by
  show (imageD d).toArray.size = _
  rw [List.size_toArray]
  exact flat_length _ h.each
theorem img_part {d : Dk} (h : Fit d) {k : Nat} {s : ByteArray} (hk : d.stays[k]? = some s) : (img d).extract (64 * k) (64 * k + 64) = s := by
  apply ByteArray.ext
  rw [ByteArray.data_extract]
  apply Array.toList_inj.1
  show ((imageD d).toArray.extract (64 * k) (64 * k + 64)).toList = _
  rw [Array.toList_extract, List.extract_eq_take_drop, show 64 * k + 64 - 64 * k = 64 by omega]
  exact flat_part d.stays h.each k s hk
section
variable {d : Dk} {N : Nat} {cur : Nat → ByteArray} {bad : Nat → Bool}
theorem St.stay (h : St d N cur bad) (hL : d.L = []) {k : Nat} (hk : k < N) : d.stays[k]? = some (cur k) := by
  have h1 := h.cur k hk
  unfold curD at h1
  rw [hL, find_nil, Option.getD_none] at h1
  rw [← h1, List.getElem?_eq_getElem (by rw [h.len]; exact hk)]
  rfl
theorem St.crash (h : St d N cur bad) (keep : ByteArray) : crashD d keep = (goesD d keep, 0) := by
  unfold crashD
  rw [if_neg (by rw [h.dead]; decide)]
theorem goes_none {keep : ByteArray} (hL : d.L = []) : goesD d keep = { d with dead := true, armed := 0 } := by
  obtain ⟨a, b, c, e, f, g, i, j⟩ := d
  simp only at hL
  subst hL
  rfl
theorem St.revive (h : St d N cur bad) : St (reviveD { d with dead := true, armed := 0 }) N cur bad := ⟨rfl, rfl, h.len, h.cur, h.bad⟩
end
end Go.Proofs.Ytojhlijcinenoaa.Disk

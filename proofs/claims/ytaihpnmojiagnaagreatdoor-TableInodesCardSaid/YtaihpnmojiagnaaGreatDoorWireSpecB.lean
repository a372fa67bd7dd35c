/- More of the plain law of the wire: a reader that has stopped stays so; bytes that are cut are refused for their end; what was read is the one text of it. -/
import Derived.Test.YtaihpnmojiagnaaGreatDoorWireSpec
namespace Go.Proofs.YtaihpnmojiagnaaGreatDoor.Wire

theorem rdText_dead (most : Int) {st : Rd} (h : st.2 ≠ 0) : rdText most st = (([], st.2), st) := by
  unfold rdText
  rw [rdNum_dead _ h]
  simp only [ne_eq]
  rw [if_pos h]
theorem rdNums_dead (many most : Int) {st : Rd} (h : st.2 ≠ 0) : rdNums many most st = (([], st.2), st) := by
  unfold rdNums
  rw [rdNum_dead _ h]
  simp only [ne_eq]
  rw [if_pos h]
theorem rdEnd_dead {st : Rd} (h : st.2 ≠ 0) : rdEnd st = st.2 := by unfold rdEnd; rw [if_pos h]

theorem byte_of (m : Nat) (h : m < 256) : (UInt8.ofNat m).toNat = m := by rw [UInt8.toNat_ofNat']; exact Nat.mod_eq_of_lt (by omega)

/-- a number's bytes, cut short, are refused for their end -/
theorem scan_cut (k : Nat) : ∀ (m i acc j : Nat), i + k = 8 → m < 128 ^ (k + 1) → (m = 0 → i = 0) → j < (digits m).length → scan i acc ((digits m).take j) = (32, 0, []) := by
  induction k with
  | zero =>
    intro m i acc j hi hm h0 hj
    rw [digits_small m (by simpa using hm)] at hj ⊢
    have : j = 0 := by simpa using hj
    subst this
    rfl
  | succ k ih =>
    intro m i acc j hi hm h0 hj
    by_cases h : m < 128
    · rw [digits_small m h] at hj ⊢
      have : j = 0 := by simpa using hj
      subst this
      rfl
    · rw [digits_big m (by omega)] at hj ⊢
      cases j with
      | zero => rfl
      | succ j =>
        have hc := byte_of (128 + m % 128) (by omega)
        simp only [List.take_succ_cons]
        rw [scan_step _ _ _ _ (by omega) (by rw [hc]; omega)]
        have hlt : m / 128 < 128 ^ (k + 1) := by rw [Nat.div_lt_iff_lt_mul (by omega), ← Nat.pow_succ]; exact hm
        exact ih (m / 128) (i + 1) _ j (by omega) hlt (by omega) (by simpa using hj)
theorem scan_cut0 (n j : Nat) (h : n ≤ 9223372036854775807) (hj : j < (digits n).length) : scan 0 0 ((digits n).take j) = (32, 0, []) :=
  scan_cut 8 n 0 0 j rfl (by omega) (by simp) hj

/-- what is found is the one text of it -/
theorem scan_inv : ∀ (l : List UInt8) (i acc n : Nat) (r : List UInt8), scan i acc l = (0, n, r) → ∃ m, n = acc + m * 128 ^ i ∧ l = digits m ++ r ∧ (0 < i → m ≠ 0)
  | [], i, acc, n, r, h => by simp [scan] at h
  | c :: t, i, acc, n, r, h => by
    simp only [scan] at h
    split at h
    · simp at h
    · next hf =>
      split at h
      · next hc =>
        simp only [Prod.mk.injEq, true_and] at h
        refine ⟨c.toNat, h.1.symm, ?_, fun hi he => hf (Or.inr ⟨he, hi⟩)⟩
        rw [digits_small _ hc, h.2]
        simp
      · next hc =>
        obtain ⟨m, hn, hl, hm⟩ := scan_inv t (i + 1) _ n r h
        have hm0 := hm (by omega)
        have hc256 := c.toNat_lt
        refine ⟨c.toNat % 128 + m * 128, ?_, ?_, fun _ => by omega⟩
        · rw [hn, Nat.pow_succ, Nat.add_mul, Nat.add_assoc, Nat.mul_assoc m 128, Nat.mul_comm 128 (128 ^ i)]
        · rw [digits_big _ (by omega), show (c.toNat % 128 + m * 128) / 128 = m by omega, show 128 + (c.toNat % 128 + m * 128) % 128 = c.toNat by omega, hl]
          simp

/-- a text of l, read within a limit that it keeps -/
theorem rdText_ok {l r b : List UInt8} {most : Int} (h : l = digits b.length ++ (b ++ r)) (hb : b.length ≤ 65536) (hm : (b.length : Int) ≤ most) : rdText most (l, 0) = ((b, 0), (r, 0)) := by
  have hs : scan 0 0 l = (0, b.length, b ++ r) := by rw [h]; exact scan_digits0 _ (by omega) _
  unfold rdText
  rw [rdNum_ok (min most 65536) hs (by omega) (by omega)]
  simp only [ne_eq, not_true_eq_false, if_false]
  rw [if_neg (by rw [List.length_append]; omega)]
  simp
/-- .. within one that it passes -/
theorem rdText_high {l r b : List UInt8} {most : Int} (h : l = digits b.length ++ r) (hb : b.length ≤ 65536) (hm : most < (b.length : Int)) : rdText most (l, 0) = (([], 31), (l, 31)) := by
  have hs : scan 0 0 l = (0, b.length, r) := by rw [h]; exact scan_digits0 _ (by omega) _
  unfold rdText
  rw [rdNum_high (min most 65536) hs (by right; omega)]
  simp
/-- .. cut short -/
theorem rdText_cut {b : List UInt8} {most : Int} {k : Nat} (hb : b.length ≤ 65536) (hm : 65536 ≤ most) (hk : k < (digits b.length ++ b).length) : ∃ st, rdText most ((digits b.length ++ b).take k, 0) = (([], 32), st) ∧ st.2 = 32 := by
  by_cases h : k < (digits b.length).length
  · have hs : scan 0 0 ((digits b.length ++ b).take k) = (32, 0, []) := by
      rw [List.take_append_of_le_length (by omega)]
      exact scan_cut0 _ _ (by omega) h
    refine ⟨((digits b.length ++ b).take k, 32), ?_, rfl⟩
    unfold rdText
    rw [rdNum_bad (min most 65536) (e := 32) (by rw [hs]) (by decide)]
    simp
  · have e : (digits b.length ++ b).take k = digits b.length ++ b.take (k - (digits b.length).length) := by
      rw [List.take_append, List.take_of_length_le (by omega)]
    have hs : scan 0 0 ((digits b.length ++ b).take k) = (0, b.length, b.take (k - (digits b.length).length)) := by rw [e]; exact scan_digits0 _ (by omega) _
    refine ⟨(b.take (k - (digits b.length).length), 32), ?_, rfl⟩
    unfold rdText
    rw [rdNum_ok (min most 65536) hs (by omega) (by omega)]
    simp only [ne_eq, not_true_eq_false, if_false]
    rw [if_pos (by rw [List.length_append] at hk; simp; omega)]

theorem text_bytes (s : ByteArray) : (⟨(digits s.size).toArray⟩ ++ s : ByteArray).data.toList = digits s.data.toList.length ++ s.data.toList := by
  rw [← Lib.size_eq]; simp [ByteArray.data_append]

/-- what a number was read of -/
theorem rdNum_inv {l : List UInt8} {most n : Int} {st : Rd} (h : rdNum most (l, 0) = ((n, 0), st)) : ∃ (m : Nat) (r : List UInt8), n = (m : Int) ∧ m ≤ 4611686018427387903 ∧ l = digits m ++ r ∧ st = (r, 0) := by
  unfold rdNum at h
  rw [if_neg (by simp)] at h
  split at h
  · next h1 =>
    simp only [Prod.mk.injEq] at h
    exact absurd h.1.2 h1
  · next h1 =>
    split at h
    · simp at h
    · next h2 =>
      simp only [Prod.mk.injEq] at h
      obtain ⟨⟨hn, _⟩, hst⟩ := h
      have hs : scan 0 0 l = (0, (scan 0 0 l).2.1, (scan 0 0 l).2.2) := by
        have h1' : (scan 0 0 l).1 = 0 := by simpa using h1
        rw [← h1']
      obtain ⟨m, hm, hl, _⟩ := scan_inv l 0 0 _ _ hs
      have hm' : (scan 0 0 l).2.1 = m := by rw [hm]; simp
      rw [hm'] at hn h2
      exact ⟨m, _, hn.symm, by omega, hl, hst.symm⟩
/-- what a text was read of -/
theorem rdText_inv {l t : List UInt8} {most : Int} {st : Rd} (h : rdText most (l, 0) = ((t, 0), st)) : ∃ r : List UInt8, l = digits t.length ++ (t ++ r) ∧ t.length ≤ 65536 ∧ st = (r, 0) := by
  have hla := rdNum_latch (min most 65536) (l, 0)
  unfold rdText at h
  obtain ⟨⟨⟨n, e⟩, st1⟩, hr⟩ : ∃ x, rdNum (min most 65536) (l, 0) = x := ⟨_, rfl⟩
  rw [hr] at h hla
  simp only at h hla
  split at h
  · next h1 =>
    simp only [Prod.mk.injEq] at h
    exact absurd h.1.2 h1
  · next h1 =>
    have he : e = 0 := by simpa using h1
    subst he
    obtain ⟨m, r, rfl, hm, hl, rfl⟩ := rdNum_inv hr
    have hmm := (hla.2.1 rfl).2.1
    simp only at h
    split at h
    · simp at h
    · next h2 =>
      simp only [Prod.mk.injEq, Int.toNat_natCast] at h
      obtain ⟨⟨ht, _⟩, hst⟩ := h
      have htl : t.length = m := by rw [← ht, List.length_take]; omega
      refine ⟨r.drop m, ?_, by omega, hst.symm⟩
      rw [htl, ← ht, List.take_append_drop]
      exact hl
theorem rdText_bad {l t : List UInt8} {most e : Int} {st st' : Rd} (h : rdText most st' = ((t, e), st)) (he : e ≠ 0) (_hl : st'.1 = l) : t = [] := by
  unfold rdText at h
  simp only at h
  split at h
  · simp only [Prod.mk.injEq] at h; exact h.1.1.symm
  · split at h
    · simp only [Prod.mk.injEq] at h; exact h.1.1.symm
    · simp only [Prod.mk.injEq] at h; exact absurd h.1.2.symm he

theorem rdRow_len (most : Int) : ∀ (k : Nat) (acc : List Int) (st : Rd), (rdRow most k acc st).1.1.length ≤ acc.length + k
  | 0, acc, st => by simp [rdRow]
  | k + 1, acc, st => by
    simp only [rdRow]
    split
    · simp
    · have := rdRow_len most k (acc ++ [(rdNum most st).1.1]) (rdNum most st).2
      rw [List.length_append] at this
      simp only [List.length_cons, List.length_nil] at this
      omega
theorem rdNums_len (many most : Int) (st : Rd) : (rdNums many most st).1.1.length ≤ 65536 := by
  unfold rdNums
  simp only
  split
  · simp
  · have h1 := rdRow_len most (rdNum (min many 65536) st).1.1.toNat [] (rdNum (min many 65536) st).2
    have h2 := rdNum_latch (min many 65536) st
    next h =>
      have h3 := h2.2.1 (by simpa using h)
      simp only [List.length_nil] at h1
      omega
end Go.Proofs.YtaihpnmojiagnaaGreatDoor.Wire

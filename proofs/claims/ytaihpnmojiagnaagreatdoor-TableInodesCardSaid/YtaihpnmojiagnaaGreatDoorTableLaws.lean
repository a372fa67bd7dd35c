/- What the laws call, by what is read and laid. (Printed by gentlaws.py.) -/
import Derived.Test.YtaihpnmojiagnaaGreatDoorTableFixed
namespace Go.Proofs.YtaihpnmojiagnaaGreatDoor.Table
open Go.RowKit Mem Wire

theorem pI_none {s : ByteArray} {W : World} (hL : Laid W) (hs : s.size ≤ 9223372036854775807) (h : parseS inoK s.data.toList = none) : Calls Tryz.prog 9 #[.string s] W fun e w' => ∃ A n c, e = .returned (.tuple #[.slice A n c, .int .i64 120]) ∧ Below W.heap.size W w' := by
  have k := parseInodes_any s W hL hs
  rw [h] at k
  exact k.mono fun e w' ⟨A, n, c, h1, _, _, h4⟩ => ⟨A, n, c, h1, h4⟩
theorem pI_some {s : ByteArray} {W : World} {l : List Ino} (hL : Laid W) (hs : s.size ≤ 9223372036854775807) (h : parseS inoK s.data.toList = some l) : Calls Tryz.prog 9 #[.string s] W fun e w' => ∃ A c, e = .returned (.tuple #[.slice A l.length c, .int .i64 0]) ∧ Row w' A (l.length * 5) (l.flatMap inoC) ∧ Below W.heap.size W w' := by
  have k := parseInodes_any s W hL hs
  rw [h] at k
  refine k.mono fun e w' ⟨A, n, c, h1, h2, h3, h4⟩ => ?_
  obtain rfl : l.length = n := h3
  exact ⟨A, c, h1, row_of_own h2, h4⟩
theorem oI_none {A : Option Addr} {n c : Nat} {W : World} {l : List Ino} (hr : Row W A (n * 5) (l.flatMap inoC)) (hln : l.length = n) (hbig : ∀ x ∈ l, inoBig x) (hn : n ≤ 9223372036854775807) (h : lays inoK l = none) : Calls Tryz.prog 6 #[.slice A n c] W fun e w' => e = .returned (.tuple #[.string ⟨#[]⟩, .int .i64 120]) ∧ Below W.heap.size W w' := by
  have k := inodes_out A n c l W hr hln hbig hn
  rw [h] at k
  exact k
theorem oI_some {A : Option Addr} {n c : Nat} {W : World} {l : List Ino} {s : ByteArray} (hr : Row W A (n * 5) (l.flatMap inoC)) (hln : l.length = n) (hbig : ∀ x ∈ l, inoBig x) (hn : n ≤ 9223372036854775807) (h : lays inoK l = some s.data.toList) : Calls Tryz.prog 6 #[.slice A n c] W fun e w' => e = .returned (.tuple #[.string s, .int .i64 0]) ∧ Below W.heap.size W w' := by
  have k := inodes_out A n c l W hr hln hbig hn
  rw [h] at k
  exact k
theorem sI_same {A B : Option Addr} {n m c d : Nat} {W : World} {l : List Ino} (hr : Row W A (n * 5) (l.flatMap inoC)) (hln : l.length = n) (hs : Row W B (m * 5) (l.flatMap inoC)) (hlm : l.length = m) (hn : n ≤ 9223372036854775807) : Calls Tryz.prog 10 #[.slice A n c, .slice B m d] W fun e w' => e = .returned (.bool true) ∧ Below W.heap.size W w' := by
  have k := ino_same A B n m c d l l W hr hln hs hlm hn
  rw [decide_eq_true rfl] at k
  exact k.mono fun e w' ⟨h1, q, h2⟩ => ⟨h1, by rw [h2]; exact below_drewN (Below.refl _ _) q⟩
theorem okAll_I : ∀ (l : List Ino) (was : Ino) (f : Bool), okAll inoK was f l = true → ∀ x ∈ l, inoBig x
  | [], _, _, _, x, h => by cases h
  | y :: l, was, f, h, x, hx => by
    simp only [okAll, Bool.and_eq_true] at h
    rcases List.mem_cons.1 hx with rfl | hx
    · exact trivial
    · exact okAll_I l y false h.2 x hx
theorem lays_I_big {l : List Ino} {s : List UInt8} (h : lays inoK l = some s) : ∀ x ∈ l, inoBig x := okAll_I l _ _ (ok_iff.mp (lays_some h).1).2
/-- bytes with others behind -/
theorem mI_more {s more : ByteArray} {l : List Ino} (h : parseS inoK s.data.toList = some l) (hm : ¬ more.data.toList = []) : parseS inoK (s ++ more).data.toList = none := by
  cases h2 : parseS inoK (s ++ more).data.toList with
  | none => rfl
  | some m =>
    have h3 := parse_inv h2
    rw [ByteArray.data_append, Array.toList_append] at h3
    exact absurd (lays_ext good_ino (parse_inv h) h3) hm
theorem mI_same {s more : ByteArray} {l : List Ino} (h : parseS inoK s.data.toList = some l) (hm : more.data.toList = []) : parseS inoK (s ++ more).data.toList = some l := by
  rw [ByteArray.data_append, Array.toList_append, hm, List.append_nil, h]

theorem pE_none {s : ByteArray} {W : World} (hL : Laid W) (hs : s.size ≤ 9223372036854775807) (h : parseS entK s.data.toList = none) : Calls Tryz.prog 14 #[.string s] W fun e w' => ∃ A n c, e = .returned (.tuple #[.slice A n c, .int .i64 120]) ∧ Below W.heap.size W w' := by
  have k := parseEntries_any s W hL hs
  rw [h] at k
  exact k.mono fun e w' ⟨A, n, c, h1, _, _, h4⟩ => ⟨A, n, c, h1, h4⟩
theorem pE_some {s : ByteArray} {W : World} {l : List Ent} (hL : Laid W) (hs : s.size ≤ 9223372036854775807) (h : parseS entK s.data.toList = some l) : Calls Tryz.prog 14 #[.string s] W fun e w' => ∃ A c, e = .returned (.tuple #[.slice A l.length c, .int .i64 0]) ∧ Row w' A (l.length * 2) (l.flatMap entC) ∧ Below W.heap.size W w' := by
  have k := parseEntries_any s W hL hs
  rw [h] at k
  refine k.mono fun e w' ⟨A, n, c, h1, h2, h3, h4⟩ => ?_
  obtain rfl : l.length = n := h3
  exact ⟨A, c, h1, row_of_own h2, h4⟩
theorem oE_none {A : Option Addr} {n c : Nat} {W : World} {l : List Ent} (hr : Row W A (n * 2) (l.flatMap entC)) (hln : l.length = n) (hbig : ∀ x ∈ l, entBig x) (hn : n ≤ 9223372036854775807) (h : lays entK l = none) : Calls Tryz.prog 12 #[.slice A n c] W fun e w' => e = .returned (.tuple #[.string ⟨#[]⟩, .int .i64 120]) ∧ Below W.heap.size W w' := by
  have k := entries_out A n c l W hr hln hbig hn
  rw [h] at k
  exact k
theorem oE_some {A : Option Addr} {n c : Nat} {W : World} {l : List Ent} {s : ByteArray} (hr : Row W A (n * 2) (l.flatMap entC)) (hln : l.length = n) (hbig : ∀ x ∈ l, entBig x) (hn : n ≤ 9223372036854775807) (h : lays entK l = some s.data.toList) : Calls Tryz.prog 12 #[.slice A n c] W fun e w' => e = .returned (.tuple #[.string s, .int .i64 0]) ∧ Below W.heap.size W w' := by
  have k := entries_out A n c l W hr hln hbig hn
  rw [h] at k
  exact k
theorem sE_same {A B : Option Addr} {n m c d : Nat} {W : World} {l : List Ent} (hr : Row W A (n * 2) (l.flatMap entC)) (hln : l.length = n) (hs : Row W B (m * 2) (l.flatMap entC)) (hlm : l.length = m) (hn : n ≤ 9223372036854775807) : Calls Tryz.prog 16 #[.slice A n c, .slice B m d] W fun e w' => e = .returned (.bool true) ∧ Below W.heap.size W w' := by
  have k := ent_same A B n m c d l l W hr hln hs hlm hn
  rw [decide_eq_true rfl] at k
  exact k.mono fun e w' ⟨h1, q, h2⟩ => ⟨h1, by rw [h2]; exact below_drewN (Below.refl _ _) q⟩
theorem okAll_E : ∀ (l : List Ent) (was : Ent) (f : Bool), okAll entK was f l = true → ∀ x ∈ l, entBig x
  | [], _, _, _, x, h => by cases h
  | y :: l, was, f, h, x, hx => by
    simp only [okAll, Bool.and_eq_true] at h
    rcases List.mem_cons.1 hx with rfl | hx
    · exact trivial
    · exact okAll_E l y false h.2 x hx
theorem lays_E_big {l : List Ent} {s : List UInt8} (h : lays entK l = some s) : ∀ x ∈ l, entBig x := okAll_E l _ _ (ok_iff.mp (lays_some h).1).2
/-- bytes with others behind -/
theorem mE_more {s more : ByteArray} {l : List Ent} (h : parseS entK s.data.toList = some l) (hm : ¬ more.data.toList = []) : parseS entK (s ++ more).data.toList = none := by
  cases h2 : parseS entK (s ++ more).data.toList with
  | none => rfl
  | some m =>
    have h3 := parse_inv h2
    rw [ByteArray.data_append, Array.toList_append] at h3
    exact absurd (lays_ext good_ent (parse_inv h) h3) hm
theorem mE_same {s more : ByteArray} {l : List Ent} (h : parseS entK s.data.toList = some l) (hm : more.data.toList = []) : parseS entK (s ++ more).data.toList = some l := by
  rw [ByteArray.data_append, Array.toList_append, hm, List.append_nil, h]

theorem pS_none {s : ByteArray} {W : World} (hL : Laid W) (hs : s.size ≤ 9223372036854775807) (h : parseS snpK s.data.toList = none) : Calls Tryz.prog 19 #[.string s] W fun e w' => ∃ A n c, e = .returned (.tuple #[.slice A n c, .int .i64 120]) ∧ Below W.heap.size W w' := by
  have k := parseSnaps_any s W hL hs
  rw [h] at k
  exact k.mono fun e w' ⟨A, n, c, h1, _, _, h4⟩ => ⟨A, n, c, h1, h4⟩
theorem pS_some {s : ByteArray} {W : World} {l : List Snp} (hL : Laid W) (hs : s.size ≤ 9223372036854775807) (h : parseS snpK s.data.toList = some l) : Calls Tryz.prog 19 #[.string s] W fun e w' => ∃ A c, e = .returned (.tuple #[.slice A l.length c, .int .i64 0]) ∧ Row w' A (l.length * 5) (l.flatMap snpC) ∧ Below W.heap.size W w' := by
  have k := parseSnaps_any s W hL hs
  rw [h] at k
  refine k.mono fun e w' ⟨A, n, c, h1, h2, h3, h4⟩ => ?_
  obtain rfl : l.length = n := h3
  exact ⟨A, c, h1, row_of_own h2, h4⟩
theorem oS_none {A : Option Addr} {n c : Nat} {W : World} {l : List Snp} (hr : Row W A (n * 5) (l.flatMap snpC)) (hln : l.length = n) (hbig : ∀ x ∈ l, snpBig x) (hn : n ≤ 9223372036854775807) (h : lays snpK l = none) : Calls Tryz.prog 17 #[.slice A n c] W fun e w' => e = .returned (.tuple #[.string ⟨#[]⟩, .int .i64 120]) ∧ Below W.heap.size W w' := by
  have k := snaps_out A n c l W hr hln hbig hn
  rw [h] at k
  exact k
theorem oS_some {A : Option Addr} {n c : Nat} {W : World} {l : List Snp} {s : ByteArray} (hr : Row W A (n * 5) (l.flatMap snpC)) (hln : l.length = n) (hbig : ∀ x ∈ l, snpBig x) (hn : n ≤ 9223372036854775807) (h : lays snpK l = some s.data.toList) : Calls Tryz.prog 17 #[.slice A n c] W fun e w' => e = .returned (.tuple #[.string s, .int .i64 0]) ∧ Below W.heap.size W w' := by
  have k := snaps_out A n c l W hr hln hbig hn
  rw [h] at k
  exact k
theorem sS_same {A B : Option Addr} {n m c d : Nat} {W : World} {l : List Snp} (hr : Row W A (n * 5) (l.flatMap snpC)) (hln : l.length = n) (hs : Row W B (m * 5) (l.flatMap snpC)) (hlm : l.length = m) (hn : n ≤ 9223372036854775807) : Calls Tryz.prog 21 #[.slice A n c, .slice B m d] W fun e w' => e = .returned (.bool true) ∧ Below W.heap.size W w' := by
  have k := snp_same A B n m c d l l W hr hln hs hlm hn
  rw [decide_eq_true rfl] at k
  exact k.mono fun e w' ⟨h1, q, h2⟩ => ⟨h1, by rw [h2]; exact below_drewN (Below.refl _ _) q⟩
theorem okAll_S : ∀ (l : List Snp) (was : Snp) (f : Bool), okAll snpK was f l = true → ∀ x ∈ l, snpBig x
  | [], _, _, _, x, h => by cases h
  | y :: l, was, f, h, x, hx => by
    simp only [okAll, Bool.and_eq_true] at h
    rcases List.mem_cons.1 hx with rfl | hx
    · exact trivial
    · exact okAll_S l y false h.2 x hx
theorem lays_S_big {l : List Snp} {s : List UInt8} (h : lays snpK l = some s) : ∀ x ∈ l, snpBig x := okAll_S l _ _ (ok_iff.mp (lays_some h).1).2
/-- bytes with others behind -/
theorem mS_more {s more : ByteArray} {l : List Snp} (h : parseS snpK s.data.toList = some l) (hm : ¬ more.data.toList = []) : parseS snpK (s ++ more).data.toList = none := by
  cases h2 : parseS snpK (s ++ more).data.toList with
  | none => rfl
  | some m =>
    have h3 := parse_inv h2
    rw [ByteArray.data_append, Array.toList_append] at h3
    exact absurd (lays_ext good_snp (parse_inv h) h3) hm
theorem mS_same {s more : ByteArray} {l : List Snp} (h : parseS snpK s.data.toList = some l) (hm : more.data.toList = []) : parseS snpK (s ++ more).data.toList = some l := by
  rw [ByteArray.data_append, Array.toList_append, hm, List.append_nil, h]

theorem flat_len_I : ∀ (l : List Ino) (was : Ino) (f : Bool), inoK.inv was → okAll inoK was f l = true → (flat inoK l).length ≤ 350000 * l.length
  | [], _, _, _, _ => by simp [flat]
  | x :: l, was, f, hi, h => by
    simp only [okAll, Bool.and_eq_true] at h
    have h1 := flds_len (ino_ok hi h.1)
    rw [inoF_put] at h1
    have h2 := flat_len_I l x false (good_ino.step was x f hi h.1) h.2
    have h3 : (inoF x).length ≤ 5 := of_decide_eq_true rfl
    have e : flat inoK (x :: l) = inoK.put x ++ flat inoK l := by simp [flat]
    rw [e, List.length_append, List.length_cons]
    omega
theorem lays_len_I {l : List Ino} {s : List UInt8} (h : lays inoK l = some s) : s.length ≤ 1433600010 ∧ l.length ≤ 4096 := by
  obtain ⟨h1, h2⟩ := lays_some h
  obtain ⟨h3, h4⟩ := ok_iff.mp h1
  have h5 := flat_len_I l _ _ good_ino.zero h4
  have h6 := digits_length9 l.length (by omega)
  rw [← h2, bytes, List.length_append]
  omega

theorem flat_len_E : ∀ (l : List Ent) (was : Ent) (f : Bool), entK.inv was → okAll entK was f l = true → (flat entK l).length ≤ 350000 * l.length
  | [], _, _, _, _ => by simp [flat]
  | x :: l, was, f, hi, h => by
    simp only [okAll, Bool.and_eq_true] at h
    have h1 := flds_len (ent_ok hi h.1)
    rw [entF_put] at h1
    have h2 := flat_len_E l x false (good_ent.step was x f hi h.1) h.2
    have h3 : (entF x).length ≤ 5 := of_decide_eq_true rfl
    have e : flat entK (x :: l) = entK.put x ++ flat entK l := by simp [flat]
    rw [e, List.length_append, List.length_cons]
    omega
theorem lays_len_E {l : List Ent} {s : List UInt8} (h : lays entK l = some s) : s.length ≤ 1433600010 ∧ l.length ≤ 4096 := by
  obtain ⟨h1, h2⟩ := lays_some h
  obtain ⟨h3, h4⟩ := ok_iff.mp h1
  have h5 := flat_len_E l _ _ good_ent.zero h4
  have h6 := digits_length9 l.length (by omega)
  rw [← h2, bytes, List.length_append]
  omega

theorem flat_len_S : ∀ (l : List Snp) (was : Snp) (f : Bool), snpK.inv was → okAll snpK was f l = true → (flat snpK l).length ≤ 350000 * l.length
  | [], _, _, _, _ => by simp [flat]
  | x :: l, was, f, hi, h => by
    simp only [okAll, Bool.and_eq_true] at h
    have h1 := flds_len (snp_ok hi h.1)
    rw [snpF_put] at h1
    have h2 := flat_len_S l x false (good_snp.step was x f hi h.1) h.2
    have h3 : (snpF x).length ≤ 5 := of_decide_eq_true rfl
    have e : flat snpK (x :: l) = snpK.put x ++ flat snpK l := by simp [flat]
    rw [e, List.length_append, List.length_cons]
    omega
theorem lays_len_S {l : List Snp} {s : List UInt8} (h : lays snpK l = some s) : s.length ≤ 1433600010 ∧ l.length ≤ 4096 := by
  obtain ⟨h1, h2⟩ := lays_some h
  obtain ⟨h3, h4⟩ := ok_iff.mp h1
  have h5 := flat_len_S l _ _ good_snp.zero h4
  have h6 := digits_length9 l.length (by omega)
  rw [← h2, bytes, List.length_append]
  omega
end Go.Proofs.YtaihpnmojiagnaaGreatDoor.Table

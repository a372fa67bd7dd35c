/- The exported functions: lists' bytes, lists of bytes; the document's Name. -/
import Derived.Test.YtaihpnmojiagnaaGreatDoorTableWalkH
import Derived.Deep.Light
namespace Go.Proofs.YtaihpnmojiagnaaGreatDoor.Table
open Go.RowKit Mem Wire

set_option maxRecDepth 100000 in
set_option maxHeartbeats 4000000 in
theorem inodes_out (A : Option Addr) (n c : Nat) (l : List Ino) (w : World) (hr : Row w A (n * 5) (l.flatMap inoC)) (hln : l.length = n) (hbig : ∀ x ∈ l, inoBig x) (hnm : n ≤ 9223372036854775807) :
    Calls Tryz.prog 6 #[.slice A n c] w fun e w' => e = .returned (laysV (lays inoK l)) ∧ Below w.heap.size w w' := by
  have hl := Lib.hid hln
  have hb := Lib.hid hbig
  clear hln hbig
  go_enter Tryz.func6, Tryz.ntmps6
  go_wp2_with fail
  refine (ino_form w).mono ?_
  rintro e w1 ⟨rfl, b1⟩
  have hr1 := hr.below b1
  have hs1 := b1.size
  go_wp2_with fail
  refine (ino_lays A n c l w1 hr1 hl.out hb.out hnm).mono ?_
  rintro e w2 ⟨rfl, b2⟩
  generalize hlv : lays inoK l = lv
  replace hlv := Lib.hid hlv
  cases lv with
  | none =>
    unfold laysV
    go_wp2_with fail
    go_ret2
    refine ⟨?_, b1.trans (b2.mono hs1)⟩
    rw [hlv.out]
    rfl
  | some bs =>
    unfold laysV
    go_wp2_with fail
    go_ret2
    refine ⟨?_, b1.trans (b2.mono hs1)⟩
    rw [hlv.out]
    rfl

set_option maxRecDepth 100000 in
set_option maxHeartbeats 4000000 in
theorem entries_out (A : Option Addr) (n c : Nat) (l : List Ent) (w : World) (hr : Row w A (n * 2) (l.flatMap entC)) (hln : l.length = n) (hbig : ∀ x ∈ l, entBig x) (hnm : n ≤ 9223372036854775807) :
    Calls Tryz.prog 12 #[.slice A n c] w fun e w' => e = .returned (laysV (lays entK l)) ∧ Below w.heap.size w w' := by
  have hl := Lib.hid hln
  have hb := Lib.hid hbig
  clear hln hbig
  go_enter Tryz.func12, Tryz.ntmps12
  go_wp2_with fail
  refine (ent_form w).mono ?_
  rintro e w1 ⟨rfl, b1⟩
  have hr1 := hr.below b1
  have hs1 := b1.size
  go_wp2_with fail
  refine (ent_lays A n c l w1 hr1 hl.out hb.out hnm).mono ?_
  rintro e w2 ⟨rfl, b2⟩
  generalize hlv : lays entK l = lv
  replace hlv := Lib.hid hlv
  cases lv with
  | none =>
    unfold laysV
    go_wp2_with fail
    go_ret2
    refine ⟨?_, b1.trans (b2.mono hs1)⟩
    rw [hlv.out]
    rfl
  | some bs =>
    unfold laysV
    go_wp2_with fail
    go_ret2
    refine ⟨?_, b1.trans (b2.mono hs1)⟩
    rw [hlv.out]
    rfl

set_option maxRecDepth 100000 in
set_option maxHeartbeats 4000000 in
theorem snaps_out (A : Option Addr) (n c : Nat) (l : List Snp) (w : World) (hr : Row w A (n * 5) (l.flatMap snpC)) (hln : l.length = n) (hbig : ∀ x ∈ l, snpBig x) (hnm : n ≤ 9223372036854775807) :
    Calls Tryz.prog 17 #[.slice A n c] w fun e w' => e = .returned (laysV (lays snpK l)) ∧ Below w.heap.size w w' := by
  have hl := Lib.hid hln
  have hb := Lib.hid hbig
  clear hln hbig
  go_enter Tryz.func17, Tryz.ntmps17
  go_wp2_with fail
  refine (snp_form w).mono ?_
  rintro e w1 ⟨rfl, b1⟩
  have hr1 := hr.below b1
  have hs1 := b1.size
  go_wp2_with fail
  refine (snp_lays A n c l w1 hr1 hl.out hb.out hnm).mono ?_
  rintro e w2 ⟨rfl, b2⟩
  generalize hlv : lays snpK l = lv
  replace hlv := Lib.hid hlv
  cases lv with
  | none =>
    unfold laysV
    go_wp2_with fail
    go_ret2
    refine ⟨?_, b1.trans (b2.mono hs1)⟩
    rw [hlv.out]
    rfl
  | some bs =>
    unfold laysV
    go_wp2_with fail
    go_ret2
    refine ⟨?_, b1.trans (b2.mono hs1)⟩
    rw [hlv.out]
    rfl

theorem ParsePost.from {α : Type} {w w1 w' : World} {t : TypeId} {sz : Nat} {cs : α → List Value} {r : Option (List α)} {e : Ending} (h : ParsePost w1 t sz cs r e w') (hb : Below w.heap.size w w1) : ParsePost w t sz cs r e w' := by
  obtain ⟨A, n, c, h1, h2, h3, h4⟩ := h
  exact ⟨A, n, c, h1, own_less h2 hb.size, h3, hb.trans (h4.mono hb.size)⟩

set_option maxRecDepth 100000 in
set_option maxHeartbeats 4000000 in
theorem parseInodes_any (s : ByteArray) (w : World) (hL : Laid w) (hs : s.size ≤ 9223372036854775807) :
    Calls Tryz.prog 9 #[.string s] w (ParsePost w 32 5 inoC (parseS inoK s.data.toList)) := by
  have hk := fun W hL => ino_parse s W hL hs
  generalize parseS inoK s.data.toList = r at hk ⊢
  replace hk := Lib.hid hk
  go_enter Tryz.func9, Tryz.ntmps9
  go_wp2_with fail
  refine (ino_form w).mono ?_
  rintro e w1 ⟨rfl, b1⟩
  have hL1 := hL.below b1 hL.pos
  go_wp2_with fail
  refine (hk.out w1 hL1).mono ?_
  rintro e w2 ⟨A, n, c, rfl, h2, h3, h4⟩
  replace h2 := Lib.hid h2
  replace h3 := Lib.hid h3
  cases r
  all_goals go_wp2_with fail
  all_goals go_ret2
  all_goals exact ParsePost.from ⟨A, n, c, rfl, h2.out, h3.out, h4⟩ b1

set_option maxRecDepth 100000 in
set_option maxHeartbeats 4000000 in
theorem parseEntries_any (s : ByteArray) (w : World) (hL : Laid w) (hs : s.size ≤ 9223372036854775807) :
    Calls Tryz.prog 14 #[.string s] w (ParsePost w 65 2 entC (parseS entK s.data.toList)) := by
  have hk := fun W hL => ent_parse s W hL hs
  generalize parseS entK s.data.toList = r at hk ⊢
  replace hk := Lib.hid hk
  go_enter Tryz.func14, Tryz.ntmps14
  go_wp2_with fail
  refine (ent_form w).mono ?_
  rintro e w1 ⟨rfl, b1⟩
  have hL1 := hL.below b1 hL.pos
  go_wp2_with fail
  refine (hk.out w1 hL1).mono ?_
  rintro e w2 ⟨A, n, c, rfl, h2, h3, h4⟩
  replace h2 := Lib.hid h2
  replace h3 := Lib.hid h3
  cases r
  all_goals go_wp2_with fail
  all_goals go_ret2
  all_goals exact ParsePost.from ⟨A, n, c, rfl, h2.out, h3.out, h4⟩ b1

set_option maxRecDepth 100000 in
set_option maxHeartbeats 4000000 in
theorem parseSnaps_any (s : ByteArray) (w : World) (hL : Laid w) (hs : s.size ≤ 9223372036854775807) :
    Calls Tryz.prog 19 #[.string s] w (ParsePost w 67 5 snpC (parseS snpK s.data.toList)) := by
  have hk := fun W hL => snp_parse s W hL hs
  generalize parseS snpK s.data.toList = r at hk ⊢
  replace hk := Lib.hid hk
  go_enter Tryz.func19, Tryz.ntmps19
  go_wp2_with fail
  refine (snp_form w).mono ?_
  rintro e w1 ⟨rfl, b1⟩
  have hL1 := hL.below b1 hL.pos
  go_wp2_with fail
  refine (hk.out w1 hL1).mono ?_
  rintro e w2 ⟨A, n, c, rfl, h2, h3, h4⟩
  replace h2 := Lib.hid h2
  replace h3 := Lib.hid h3
  cases r
  all_goals go_wp2_with fail
  all_goals go_ret2
  all_goals exact ParsePost.from ⟨A, n, c, rfl, h2.out, h3.out, h4⟩ b1

theorem nameByte_iff (c : UInt8) : nameByte c = true ↔ ((97 ≤ (c.toNat : Int) ∧ (c.toNat : Int) ≤ 122) ∨ (48 ≤ (c.toNat : Int) ∧ (c.toNat : Int) ≤ 57) ∨ (c.toNat : Int) = 46 ∨ (c.toNat : Int) = 45 ∨ (c.toNat : Int) = 95) := by
  simp only [nameByte, Bool.or_eq_true, decide_eq_true_eq]
  omega
theorem nameOk_bad {s : ByteArray} {k : Nat} {c : UInt8} (hc : s.data.toList[k]? = some c) (h : ¬ nameByte c = true) : nameOk s = false := by
  refine Bool.eq_false_iff.mpr (fun hh => h ?_)
  simp only [nameOk, Bool.and_eq_true] at hh
  exact List.all_eq_true.1 hh.2 c (List.mem_of_getElem? hc)
theorem nameOk_all {s : ByteArray} (h : s.data.toList.all nameByte = true) : nameOk s = decide (1 ≤ (s.size : Int) ∧ (s.size : Int) ≤ 16 ∧ ¬ s.toList = [46] ∧ ¬ s.toList = [46, 46]) := by
  rw [nameOk_eq, h, decide_eq_decide]
  have h3 : s.toList = [] ↔ s.size = 0 := by rw [Lib.toList_data, Lib.size_eq, List.length_eq_zero_iff]
  rw [h3]
  constructor
  · rintro ⟨a, b, c, d, _⟩
    exact ⟨by omega, b, c, d⟩
  · rintro ⟨a, b, c, d⟩
    exact ⟨by omega, b, c, d, rfl⟩

set_option maxRecDepth 100000 in
set_option maxHeartbeats 8000000 in
theorem rname_any (s : ByteArray) (w : World) (hs : s.size ≤ 9223372036854775807) : Calls Tryz.prog 32 #[.string s] w fun e w' => e = .returned (.bool (nameOk s)) ∧ w' = w := by
  have hsl := Lib.hid (Lib.size_eq s)
  go_enter Tryz.func32, Tryz.ntmps32
  go_wp2_with fail
  go_loop [3] (fun i => ∃ k : Nat, k ≤ s.size ∧ i = .int .i64 (k : Int) ∧ (s.data.toList.take k).all nameByte = true) (fun i => s.size - (intOf i).toNat)
  case atStart => exact ⟨0, Nat.zero_le _, rfl, rfl⟩
  case round =>
    obtain ⟨k, hk, rfl, hall⟩ := hrel
    replace hall := Lib.hid hall
    by_cases hlt : k < s.size
    · obtain ⟨c, hc⟩ : ∃ c, s.data.toList[k]? = some c := ⟨_, List.getElem?_eq_getElem (by rw [← hsl.out]; exact hlt)⟩
      have hcg : s[k] = c := by
        have h1 := List.getElem?_eq_some_iff.1 hc
        exact h1.2
      have hnb := Lib.hid (nameByte_iff c)
      replace hc := Lib.hid hc
      go_wp2_with fail
      all_goals first
        | (go_ret
           refine ⟨congrArg (fun b => Ending.returned (.bool b)) (nameOk_bad hc.out (fun hh => ?_)).symm, rfl⟩
           replace hh := hnb.out.mp hh
           go_light
           simp at *
           omega)
        | (refine ⟨⟨k + 1, by omega, by go_num, ?_⟩, by simp [intOf]; omega⟩
           rw [take_snoc' hc.out, List.all_append, hall.out, Bool.true_and, List.all_cons, List.all_nil, Bool.and_true]
           refine hnb.out.mpr ?_
           go_light
           simp at *
           omega)
    · obtain rfl : k = s.size := by omega
      have hok := Lib.hid (nameOk_all (s := s) (by have := hall.out; rwa [List.take_of_length_le (by rw [← hsl.out]; exact Nat.le_refl _)] at this))
      go_wp2_with fail
      all_goals go_ret
      all_goals refine ⟨congrArg (fun b => Ending.returned (.bool b)) ?_, rfl⟩
      all_goals
        rw [hok.out]
        go_light
        first
          | (refine (decide_eq_false ?_).symm; rintro ⟨a1, a2, a3, a4⟩; first | omega | contradiction)
          | (rw [Bool.eq_iff_iff]; simp [*])
end Go.Proofs.YtaihpnmojiagnaaGreatDoor.Table

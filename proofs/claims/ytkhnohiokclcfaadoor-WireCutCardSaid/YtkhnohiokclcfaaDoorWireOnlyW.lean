/- The walk of the law WireOnly: it answers true, whatever the bytes; nothing that was there turns. -/
import Derived.Test.YtkhnohiokclcfaaDoorWireLaysW
import Derived.Test.YtkhnohiokclcfaaDoorWireSpecB
namespace Go.Proofs.YtkhnohiokclcfaaDoor.Wire
open Go.RowKit Mem

theorem prefix_of (s a : ByteArray) (r : List UInt8) (h : s.data.toList = a.data.toList ++ r) : s.extract 0 a.size = a := by
  rw [Lib.extract_eq, h, Lib.size_eq]
  simp only [List.drop_zero, Nat.sub_zero, List.take_left]

set_option maxRecDepth 100000 in
set_option maxHeartbeats 4000000 in
theorem only_any (s : ByteArray) (w : World) (hs : s.size ≤ 140737488355328) (hL : Laid w) :
    Calls Tryd.prog 5 #[.string s] w fun e w' => e = .returned (.bool true) ∧ Below w.heap.size w w' := by
  have hp := hL.pos
  have h1 : Below w.heap.size w (w.alloc (.cells #[.string s, .nilIface] 65)) := (Below.refl _ _).alloc (Nat.le_refl _) _
  have hL1 := hL.below h1 hp
  have hr1 := IsRd.new w s (by omega)
  obtain ⟨hla, hz, hnz⟩ := rdNum_latch 4611686018427387903 (s.data.toList, 0)
  have hcall := rd_any w.heap.size (s.data.toList, 0) 4611686018427387903 _ hr1 hL1
  obtain ⟨⟨⟨n, e⟩, st1⟩, hr⟩ : ∃ r, rdNum 4611686018427387903 (s.data.toList, 0) = r := ⟨_, rfl⟩
  rw [hr] at hla hz hnz hcall
  simp only at hla hz hnz
  have hcall' := Lib.hid hcall
  clear hcall hr1
  by_cases he : e = 0
  · subst he
    obtain ⟨m, r, rfl, hm, hsl, rfl⟩ := rdNum_inv hr
    clear hr hla hz hnz
    obtain ⟨a, ha⟩ : ∃ a : ByteArray, a = ⟨(digits m).toArray⟩ := ⟨_, rfl⟩
    have had : a.data.toList = digits m := by rw [ha]
    have hss : s.data.toList.length = s.size := (Lib.size_eq s).symm
    have has : a.size ≤ 9 := by rw [Lib.size_eq, had]; exact digits_length9 m (by omega)
    have hass : a.size ≤ s.size := by rw [Lib.size_eq a, had, ← hss, hsl, List.length_append]; omega
    have hx : s.extract 0 a.size = a := prefix_of s a r (by rw [had]; exact hsl)
    have c1 := Lib.hid (fun W => ha ▸ num_ok m W (by omega))
    obtain ⟨⟨⟨t, f⟩, st2⟩, ht⟩ : ∃ x, rdText 1048576 (r, 0) = x := ⟨_, rfl⟩
    have tcall := fun W hW hLW => text_any w.heap.size (r, 0) 1048576 W hW hLW
    rw [ht] at tcall
    have tcall := Lib.hid tcall
    by_cases hf : f = 0
    · subst hf
      obtain ⟨r2, hrr, htl, rfl⟩ := rdText_inv ht
      obtain ⟨T, hT⟩ : ∃ T : ByteArray, T = ⟨t.toArray⟩ := ⟨_, rfl⟩
      have hTd : T.data.toList = t := by rw [hT]
      have hTs : T.size = t.length := by rw [Lib.size_eq, hTd]
      obtain ⟨b, hb⟩ : ∃ b : ByteArray, b = ⟨(digits T.size).toArray⟩ ++ T := ⟨_, rfl⟩
      have hbd : b.data.toList = digits t.length ++ t := by rw [hb, text_bytes, hTd]
      have c2 := Lib.hid (fun W => hb ▸ text_ok T W (by omega))
      have hbl : b.size ≤ 65545 := by
        have := digits_length9 t.length (by omega)
        rw [Lib.size_eq, hbd, List.length_append]; omega
      have habs : a.size + b.size + r2.length = s.size := by
        rw [← hss, hsl, hrr, Lib.size_eq a, had, Lib.size_eq b, hbd]
        simp only [List.length_append]
        omega
      have hx2 : s.extract 0 (a.size + b.size) = a ++ b := by
        have := prefix_of s (a ++ b) r2 (by rw [ByteArray.data_append, Array.toList_append, had, hbd, hsl, hrr]; simp)
        rwa [ByteArray.size_append] at this
      have hle2 : a.size + b.size ≤ s.size := by omega
      have tcall2 := Lib.hid (fun W hW hLW => (tcall.out W hW hLW).mono (R' := fun e w' => e = .returned (.tuple #[.string T, .int .i64 0]) ∧ IsRd w' w.heap.size (r2, 0) ∧ W.grownBy w' (some w.heap.size)) (fun e w' h => by rw [hT]; exact h))
      clear tcall
      have hend : (rdEnd (r2, 0) = 0 ∧ ((a.size : Int) + (b.size : Int) == (s.size : Int)) = true) ∨ (rdEnd (r2, 0) = 32 ∧ ((a.size : Int) + (b.size : Int) == (s.size : Int)) = false) := by
        by_cases h0 : r2 = []
        · left
          subst h0
          refine ⟨rfl, ?_⟩
          simp only [List.length_nil] at habs
          simp; omega
        · right
          refine ⟨?_, ?_⟩
          · unfold rdEnd; rw [if_neg (by simp), if_neg h0]
          · have : 0 < r2.length := List.length_pos_iff.2 h0
            simp; omega
      have hend := Lib.hid hend
      have hss' := Lib.hid hss
      clear ha had hss hsl ht hrr htl hT hTd hTs hb hbd habs
      go_enter Tryd.func5, Tryd.ntmps5
      go_wp2_with fail
      refine (new_any _ _).mono ?_
      rintro e w1 ⟨rfl, rfl⟩
      go_wp2_with fail
      refine hcall'.out.mono ?_
      rintro e w2 ⟨rfl, hr2, hg2⟩
      have h2 := h1.trans (Only.toBelow hg2 (Nat.le_refl _) (by simp))
      have hL2 := hL.below h2 hp
      go_wp2_with fail
      refine (tcall2.out _ hr2 hL2).mono ?_
      rintro e w3 ⟨rfl, hr3, hg3⟩
      have h3 := h2.trans (Only.toBelow hg3 (Nat.le_refl _) h2.size)
      go_wp2_with fail
      refine (c1.out _).mono ?_
      rintro e w4 ⟨rfl, hb4⟩
      have h4 := h3.trans (hb4.mono h3.size)
      have hr4 := hr3.below hb4 hr3.lt
      go_wp2_with fail
      refine (c2.out _).mono ?_
      rintro e w5 ⟨rfl, hb5⟩
      have h5 := h4.trans (hb5.mono h4.size)
      have hr5 := hr4.below hb5 hr4.lt
      have hL5 := hL.below h5 hp
      go_wp2_with fail
      refine (fixed_any _ hL5).mono ?_
      rintro e w6 ⟨rfl, hb6⟩
      have h6 := h5.trans (hb6.mono h5.size)
      have hr6 := hr5.below hb6 hr5.lt
      have hL6 := hL.below h6 hp
      go_wp2_with fail
      refine (end_any _ _ _ hr6 hL6).mono ?_
      rcases hend.out with ⟨hE, hB⟩ | ⟨hE, hB⟩
      all_goals
        unfold EndPost
        rw [hE]
        rintro e w7 ⟨rfl, _, hb7⟩
        go_wp2_with fail
        go_ret
        exact ⟨rfl, h6.trans (hb7.mono h6.size)⟩
    · have ht0 : t = [] := rdText_bad ht hf rfl
      subst ht0
      have hne : (f != 0) = true := by simpa using hf
      clear ha had hss hsl ht hf
      go_enter Tryd.func5, Tryd.ntmps5
      go_wp2_with fail
      refine (new_any _ _).mono ?_
      rintro e w1 ⟨rfl, rfl⟩
      go_wp2_with fail
      refine hcall'.out.mono ?_
      rintro e w2 ⟨rfl, hr2, hg2⟩
      have h2 := h1.trans (Only.toBelow hg2 (Nat.le_refl _) (by simp))
      have hL2 := hL.below h2 hp
      go_wp2_with fail
      refine (tcall.out _ hr2 hL2).mono ?_
      rintro e w3 ⟨rfl, hr3, hg3⟩
      have h3 := h2.trans (Only.toBelow hg3 (Nat.le_refl _) h2.size)
      go_wp2_with fail
      refine (c1.out _).mono ?_
      rintro e w4 ⟨rfl, hb4⟩
      have h4 := h3.trans (hb4.mono h3.size)
      have hL4 := hL.below h4 hp
      go_wp2_with fail
      refine (fixed_any _ hL4).mono ?_
      rintro e w5 ⟨rfl, hb5⟩
      go_wp2_with fail
      go_ret
      exact ⟨rfl, h4.trans (hb5.mono h4.size)⟩
  · have hn0 := hnz he
    subst hn0
    have hne : (e != 0) = true := by simpa using he
    clear hr hla hz hnz he
    go_enter Tryd.func5, Tryd.ntmps5
    go_wp2_with fail
    refine (new_any _ _).mono ?_
    rintro e' w1 ⟨rfl, rfl⟩
    go_wp2_with fail
    refine hcall'.out.mono ?_
    rintro e' w2 ⟨rfl, hr2, hg2⟩
    have h2 := h1.trans (Only.toBelow hg2 (Nat.le_refl _) (by simp))
    have hL2 := hL.below h2 hp
    go_wp2_with fail
    refine (fixed_any _ hL2).mono ?_
    rintro e' w3 ⟨rfl, hb3⟩
    go_wp2_with fail
    go_ret
    exact ⟨rfl, h2.trans (hb3.mono h2.size)⟩
end Go.Proofs.YtkhnohiokclcfaaDoor.Wire

/- The walk of the law WireLimits: it answers true, whatever the number and the text; nothing that was there turns. -/
import Derived.Test.YtkhnohiokclcfaaDoorWireLaysW
import Derived.Test.YtkhnohiokclcfaaDoorWireSpecB
namespace Go.Proofs.YtkhnohiokclcfaaDoor.Wire
open Go.RowKit Mem

set_option maxRecDepth 100000 in
set_option maxHeartbeats 4000000 in
theorem limits_any (n : Int) (s : ByteArray) (w : World) (hs : s.size ≤ 140737488355328) (hL : Laid w) :
    Calls Tryd.prog 6 #[.int .i64 n, .string s] w fun e w' => e = .returned (.bool true) ∧ Below w.heap.size w w' := by
  have hp := hL.pos
  by_cases hn : okNum n = true
  · obtain ⟨h0, h1⟩ := okNum_le hn
    obtain ⟨m, rfl⟩ := Int.eq_ofNat_of_zero_le h0
    by_cases hz : s.size ≤ 65536
    · obtain ⟨a, ha⟩ : ∃ a : ByteArray, a = ⟨(digits m).toArray⟩ := ⟨_, rfl⟩
      obtain ⟨b, hb⟩ : ∃ b : ByteArray, b = ⟨(digits s.size).toArray⟩ ++ s := ⟨_, rfl⟩
      have c1 := num_ok m w (by omega)
      rw [← ha] at c1
      have c2 := fun W => text_ok s W hz
      rw [← hb] at c2
      have had : a.data.toList = digits m := by rw [ha]
      have hbd : b.data.toList = digits s.data.toList.length ++ s.data.toList := by rw [hb, text_bytes]
      have hss : s.data.toList.length = s.size := (Lib.size_eq s).symm
      have has : a.size ≤ 9 := by rw [Lib.size_eq, had]; exact digits_length9 m (by omega)
      have hbs : b.size ≤ 65545 := by
        have := digits_length9 s.size (by omega)
        rw [Lib.size_eq, hbd, List.length_append, hss]; omega
      have hsc : scan 0 0 a.data.toList = (0, m, []) := by rw [had]; have := scan_digits0 m (by omega) []; rwa [List.append_nil] at this
      have r1 := Lib.hid (rdNum_ok (m : Int) hsc (by omega) (by omega))
      have r2 := Lib.hid (rdNum_high ((m : Int) - 1) hsc (Or.inr (by omega)))
      have r3 := Lib.hid (rdText_ok (l := b.data.toList) (r := []) (b := s.data.toList) (most := (s.size : Int)) (by rw [hbd, List.append_nil]) (by omega) (by omega))
      have r4 := Lib.hid (rdText_high (l := b.data.toList) (r := s.data.toList) (b := s.data.toList) (most := (s.size : Int) - 1) hbd (by omega) (by omega))
      have c1 := Lib.hid c1
      have c2 := Lib.hid c2
      have hmk : (⟨s.data.toList.toArray⟩ : ByteArray) = s := Lib.mk_data s
      clear ha hb had hbd hsc hss
      go_enter Tryd.func6, Tryd.ntmps6
      go_wp2_with fail
      refine c1.out.mono ?_
      rintro e w1 ⟨rfl, hb1⟩
      go_wp2_with fail
      refine (c2.out _).mono ?_
      rintro e w2 ⟨rfl, hb2⟩
      have h2 := hb1.trans (hb2.mono hb1.size)
      clear hb1 hb2
      have hs2 := h2.size
      go_wp2_with fail
      refine (new_any _ _).mono ?_
      rintro e w3 ⟨rfl, hw3⟩
      go_wp2_with fail
      refine (new_any _ _).mono ?_
      rintro e w4 ⟨rfl, hw4⟩
      go_wp2_with fail
      refine (new_any _ _).mono ?_
      rintro e w5 ⟨rfl, hw5⟩
      go_wp2_with fail
      refine (new_any _ _).mono ?_
      rintro e w6 ⟨rfl, hw6⟩
      have z3 : w3.heap.size = w2.heap.size + 1 := by rw [← hw3]; simp
      have z4 : w4.heap.size = w2.heap.size + 2 := by rw [← hw4]; simp [z3]
      have z5 : w5.heap.size = w2.heap.size + 3 := by rw [← hw5]; simp [z4]
      have z6 : w6.heap.size = w2.heap.size + 4 := by rw [← hw6]; simp [z5]
      have b3 : Below w2.heap.size w2 w3 := by rw [← hw3]; exact (Below.refl _ _).alloc (Nat.le_refl _) _
      have b4 : Below w3.heap.size w3 w4 := by rw [← hw4]; exact (Below.refl _ _).alloc (Nat.le_refl _) _
      have b5 : Below w4.heap.size w4 w5 := by rw [← hw5]; exact (Below.refl _ _).alloc (Nat.le_refl _) _
      have b6 : Below w5.heap.size w5 w6 := by rw [← hw6]; exact (Below.refl _ _).alloc (Nat.le_refl _) _
      have i3 : IsRd w3 w2.heap.size (a.data.toList, 0) := by rw [← hw3]; exact IsRd.new w2 a (by omega)
      have i4 : IsRd w4 w3.heap.size (a.data.toList, 0) := by rw [← hw4]; exact IsRd.new w3 a (by omega)
      have i5 : IsRd w5 w4.heap.size (b.data.toList, 0) := by rw [← hw5]; exact IsRd.new w4 b (by omega)
      have i6 : IsRd w6 w5.heap.size (b.data.toList, 0) := by rw [← hw6]; exact IsRd.new w5 b (by omega)
      have i3 := ((i3.below b4 (by omega)).below b5 (by omega)).below b6 (by omega)
      have i4 := (i4.below b5 (by omega)).below b6 (by omega)
      have i5 := i5.below b6 (by omega)
      have h6 : Below w.heap.size w w6 := (((h2.trans (b3.mono hs2)).trans (b4.mono (by omega))).trans (b5.mono (by omega))).trans (b6.mono (by omega))
      clear hw3 hw4 hw5 hw6 b3 b4 b5 b6 h2
      rw [z3] at i4
      rw [z4] at i5
      rw [z5] at i6
      have hL6 := hL.below h6 hp
      go_wp2_with fail
      refine (rd_any _ _ (m : Int) _ i3 hL6).mono ?_
      rw [r1.out]
      rintro e w7 ⟨rfl, _, g7⟩
      have h7 := h6.trans (Only.toBelow g7 hs2 (by omega))
      have hL7 := hL.below h7 hp
      have i4 := i4.grown g7 (by simp)
      have i5 := i5.grown g7 (by simp)
      have i6 := i6.grown g7 (by simp)
      go_wp2_with fail
      refine (rd_any _ _ ((m : Int) - 1) _ i4 hL7).mono ?_
      rw [r2.out]
      rintro e w8 ⟨rfl, _, g8⟩
      have h8 := h7.trans (Only.toBelow g8 (by omega) h7.size)
      have hL8 := hL.below h8 hp
      have i5 := i5.grown g8 (by simp)
      have i6 := i6.grown g8 (by simp)
      go_wp2_with fail
      refine (text_any _ _ (s.size : Int) _ i5 hL8).mono ?_
      rw [r3.out]
      rintro e w9 ⟨rfl, _, g9⟩
      have h9 := h8.trans (Only.toBelow g9 (by omega) h8.size)
      have hL9 := hL.below h9 hp
      have i6 := i6.grown g9 (by simp)
      go_wp2_with fail
      refine (text_any _ _ ((s.size : Int) - 1) _ i6 hL9).mono ?_
      rw [r4.out]
      rintro e w10 ⟨rfl, _, g10⟩
      have h10 := h9.trans (Only.toBelow g10 (by omega) h9.size)
      have hL10 := hL.below h10 hp
      go_wp2_with fail
      refine (fixed_any _ hL10).mono ?_
      rintro e w11 ⟨rfl, hb11⟩
      go_wp2_with fail
      go_ret
      exact ⟨rfl, h10.trans (hb11.mono h10.size)⟩
    · have c1 := Lib.hid (num_ok m w (by omega))
      have c2 := Lib.hid (fun W => text_long s W (by omega))
      go_enter Tryd.func6, Tryd.ntmps6
      go_wp2_with fail
      refine c1.out.mono ?_
      rintro e w1 ⟨rfl, hb1⟩
      go_wp2_with fail
      refine (c2.out _).mono ?_
      rintro e w2 ⟨rfl, rfl⟩
      go_wp2_with fail
      refine (fixed_any _ (hL.below hb1 hp)).mono ?_
      rintro e w3 ⟨rfl, hb3⟩
      go_wp2_with fail
      go_ret
      exact ⟨rfl, hb1.trans (hb3.mono hb1.size)⟩
  · have c1 : Calls Tryd.prog 11 #[.int .i64 n] w fun e w' => e = .returned (.tuple #[.string ⟨#[]⟩, .int .i64 31]) ∧ w = w' := by
      rcases okNum_not hn with h0 | h0
      · exact num_neg n w h0
      · exact num_high n w h0
    have c1 := Lib.hid c1
    obtain ⟨⟨b, eb⟩, hnb⟩ : ∃ x, textOut s = x := ⟨_, rfl⟩
    have c3 := Lib.hid (fun w => hnb ▸ text_out s w)
    clear hnb
    go_enter Tryd.func6, Tryd.ntmps6
    go_wp2_with fail
    refine c1.out.mono ?_
    rintro e w1 ⟨rfl, rfl⟩
    go_wp2_with fail
    refine (c3.out _).mono ?_
    rintro e w2 ⟨rfl, hb2⟩
    go_wp2_with fail
    refine (fixed_any _ (hL.below hb2 hp)).mono ?_
    rintro e w3 ⟨rfl, hb3⟩
    go_wp2_with fail
    go_ret
    exact ⟨rfl, hb2.trans (hb3.mono hb2.size)⟩
end Go.Proofs.YtkhnohiokclcfaaDoor.Wire

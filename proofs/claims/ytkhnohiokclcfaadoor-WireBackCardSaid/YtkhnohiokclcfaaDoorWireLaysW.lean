/- The walk of the law WireLays: it answers true, whatever the number, the text and the row; nothing that was there turns. -/
import Derived.Test.YtkhnohiokclcfaaDoorWireFixed
namespace Go.Proofs.YtkhnohiokclcfaaDoor.Wire
open Go.RowKit Mem

/-- what Num answers of any number: the program's, the document's -/
def numOut (n : Int) : ByteArray × Int := if okNum n = true then (⟨(digits n.toNat).toArray⟩, 0) else (⟨#[]⟩, 31)
def textOut (s : ByteArray) : ByteArray × Int := if s.size ≤ 65536 then (⟨(digits s.size).toArray⟩ ++ s, 0) else (⟨#[]⟩, 31)
def numsOut (l : List Int) : ByteArray × Int := if l.length ≤ 65536 ∧ ∀ x ∈ l, okNum x = true then (⟨(row l).toArray⟩, 0) else (⟨#[]⟩, 31)

theorem num_out (n : Int) (w : World) : Calls Tryd.prog 11 #[.int .i64 n] w fun e w' => e = .returned (.tuple #[.string (numOut n).1, .int .i64 (numOut n).2]) ∧ Below w.heap.size w w' := by
  by_cases h : okNum n = true
  · obtain ⟨h0, h1⟩ := okNum_le h
    obtain ⟨m, rfl⟩ := Int.eq_ofNat_of_zero_le h0
    rw [numOut, if_pos h]
    exact num_ok m w (by omega)
  · rw [numOut, if_neg h]
    rcases okNum_not h with h0 | h0
    · exact (num_neg n w h0).mono fun e w' ⟨h1, h2⟩ => ⟨h1, by subst h2; exact Below.refl _ _⟩
    · exact (num_high n w h0).mono fun e w' ⟨h1, h2⟩ => ⟨h1, by subst h2; exact Below.refl _ _⟩
theorem rnum_out (n : Int) (w : World) : Calls Tryd.prog 12 #[.int .i64 n] w fun e w' => e = .returned (.tuple #[.string (numOut n).1, .int .i64 (numOut n).2]) ∧ Below w.heap.size w w' := by
  by_cases h : okNum n = true
  · obtain ⟨h0, h1⟩ := okNum_le h
    obtain ⟨m, rfl⟩ := Int.eq_ofNat_of_zero_le h0
    rw [numOut, if_pos h]
    exact rnum_ok m w (by omega)
  · rw [numOut, if_neg h]
    rcases okNum_not h with h0 | h0
    · exact (rnum_neg n w h0).mono fun e w' ⟨h1, h2⟩ => ⟨h1, by subst h2; exact Below.refl _ _⟩
    · exact (rnum_high n w h0).mono fun e w' ⟨h1, h2⟩ => ⟨h1, by subst h2; exact Below.refl _ _⟩
theorem text_out (s : ByteArray) (w : World) : Calls Tryd.prog 13 #[.string s] w fun e w' => e = .returned (.tuple #[.string (textOut s).1, .int .i64 (textOut s).2]) ∧ Below w.heap.size w w' := by
  by_cases h : s.size ≤ 65536
  · rw [textOut, if_pos h]
    exact text_ok s w h
  · rw [textOut, if_neg h]
    exact (text_long s w (by omega)).mono fun e w' ⟨h1, h2⟩ => ⟨h1, by subst h2; exact Below.refl _ _⟩
theorem rtext_out (s : ByteArray) (w : World) : Calls Tryd.prog 14 #[.string s] w fun e w' => e = .returned (.tuple #[.string (textOut s).1, .int .i64 (textOut s).2]) ∧ Below w.heap.size w w' := by
  by_cases h : s.size ≤ 65536
  · rw [textOut, if_pos h]
    exact rtext_ok s w h
  · rw [textOut, if_neg h]
    exact (rtext_long s w (by omega)).mono fun e w' ⟨h1, h2⟩ => ⟨h1, by subst h2; exact Below.refl _ _⟩
theorem nums_out (A : Option Addr) (n c : Nat) (l : List Int) (w : World) (hr : Row w A n (l.map (Value.int .i64))) :
    Calls Tryd.prog 15 #[.slice A n c] w fun e w' => e = .returned (.tuple #[.string (numsOut l).1, .int .i64 (numsOut l).2]) ∧ Below w.heap.size w w' := by
  have hl : l.length = n := by simpa using hr.1
  by_cases h : n ≤ 65536
  · refine (nums_any A n c l w hr h).mono ?_
    rintro e w' ⟨⟨h1, rfl⟩ | ⟨h1, rfl⟩, hb⟩
    · rw [numsOut, if_pos ⟨by omega, h1⟩]; exact ⟨rfl, hb⟩
    · rw [numsOut, if_neg (fun h => h1 h.2)]; exact ⟨rfl, hb⟩
  · rw [numsOut, if_neg (fun h' => h (by omega))]
    exact (nums_long A n c w (by omega)).mono fun e w' ⟨h1, h2⟩ => ⟨h1, by subst h2; exact Below.refl _ _⟩
theorem rnums_out (A : Option Addr) (n c : Nat) (l : List Int) (w : World) (hr : Row w A n (l.map (Value.int .i64))) :
    Calls Tryd.prog 16 #[.slice A n c] w fun e w' => e = .returned (.tuple #[.string (numsOut l).1, .int .i64 (numsOut l).2]) ∧ Below w.heap.size w w' := by
  have hl : l.length = n := by simpa using hr.1
  by_cases h : n ≤ 65536
  · refine (rnums_any A n c l w hr h).mono ?_
    rintro e w' ⟨⟨h1, rfl⟩ | ⟨h1, rfl⟩, hb⟩
    · rw [numsOut, if_pos ⟨by omega, h1⟩]; exact ⟨rfl, hb⟩
    · rw [numsOut, if_neg (fun h => h1 h.2)]; exact ⟨rfl, hb⟩
  · rw [numsOut, if_neg (fun h' => h (by omega))]
    exact (rnums_long A n c w (by omega)).mono fun e w' ⟨h1, h2⟩ => ⟨h1, by subst h2; exact Below.refl _ _⟩

set_option maxRecDepth 100000 in
set_option maxHeartbeats 4000000 in
theorem lays_any (n : Int) (s : ByteArray) (A : Option Addr) (k c : Nat) (l : List Int) (w : World) (hr : Row w A k (l.map (Value.int .i64))) (hL : Laid w) :
    Calls Tryd.prog 3 #[.int .i64 n, .string s, .slice A k c] w fun e w' => e = .returned (.bool true) ∧ Below w.heap.size w w' := by
  have hp := hL.pos
  obtain ⟨⟨a, ea⟩, hna⟩ : ∃ x, numOut n = x := ⟨_, rfl⟩
  obtain ⟨⟨b, eb⟩, hnb⟩ : ∃ x, textOut s = x := ⟨_, rfl⟩
  obtain ⟨⟨d, ed⟩, hnd⟩ : ∃ x, numsOut l = x := ⟨_, rfl⟩
  have c1 := Lib.hid (fun w => hna ▸ num_out n w)
  have c2 := Lib.hid (fun w => hna ▸ rnum_out n w)
  have c3 := Lib.hid (fun w => hnb ▸ text_out s w)
  have c4 := Lib.hid (fun w => hnb ▸ rtext_out s w)
  have c5 := Lib.hid (fun w hr => hnd ▸ nums_out A k c l w hr)
  have c6 := Lib.hid (fun w hr => hnd ▸ rnums_out A k c l w hr)
  clear hna hnb hnd
  go_enter Tryd.func3, Tryd.ntmps3
  go_wp2_with fail
  refine (c1.out _).mono ?_
  rintro e w1 ⟨rfl, hb1⟩
  go_wp2_with fail
  refine (c2.out _).mono ?_
  rintro e w2 ⟨rfl, hb2⟩
  go_wp2_with fail
  refine (c3.out _).mono ?_
  rintro e w3 ⟨rfl, hb3⟩
  go_wp2_with fail
  refine (c4.out _).mono ?_
  rintro e w4 ⟨rfl, hb4⟩
  have h4 : Below w.heap.size w w4 := (hb1.trans (hb2.mono hb1.size)).trans ((hb3.trans (hb4.mono hb3.size)).mono (Nat.le_trans hb1.size hb2.size))
  clear hb1 hb2 hb3 hb4
  go_wp2_with fail
  refine (c5.out _ (hr.below h4)).mono ?_
  rintro e w5 ⟨rfl, hb5⟩
  have h5 := h4.trans (hb5.mono h4.size)
  go_wp2_with fail
  refine (c6.out _ (hr.below h5)).mono ?_
  rintro e w6 ⟨rfl, hb6⟩
  have h6 := h5.trans (hb6.mono h5.size)
  have hL6 := hL.below h6 hp
  go_wp2_with fail
  refine (fixed_any _ hL6).mono ?_
  rintro e w7 ⟨rfl, hb7⟩
  have h7 := h6.trans (hb7.mono h6.size)
  go_wp2_with fail
  go_ret
  exact ⟨rfl, h7⟩
end Go.Proofs.YtkhnohiokclcfaaDoor.Wire

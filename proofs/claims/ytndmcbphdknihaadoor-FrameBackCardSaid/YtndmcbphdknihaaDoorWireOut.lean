/- What wire's Num, Text and the document's answer of anything (lines of the wire texts, without the rows). -/
import Derived.Test.YtndmcbphdknihaaDoorWireWalkG
import Derived.Test.YtndmcbphdknihaaDoorWireSpecB
namespace Go.Proofs.YtndmcbphdknihaaDoor.Wire
open Go.RowKit Mem

/-- what Num answers of any number: the program's, the document's -/
def numOut (n : Int) : ByteArray × Int := if okNum n = true then (⟨(digits n.toNat).toArray⟩, 0) else (⟨#[]⟩, 31)
def textOut (s : ByteArray) : ByteArray × Int := if s.size ≤ 65536 then (⟨(digits s.size).toArray⟩ ++ s, 0) else (⟨#[]⟩, 31)

theorem num_out (n : Int) (w : World) : Calls Tryd.prog 27 #[.int .i64 n] w fun e w' => e = .returned (.tuple #[.string (numOut n).1, .int .i64 (numOut n).2]) ∧ Below w.heap.size w w' := by
  by_cases h : okNum n = true
  · obtain ⟨h0, h1⟩ := okNum_le h
    obtain ⟨m, rfl⟩ := Int.eq_ofNat_of_zero_le h0
    rw [numOut, if_pos h]
    exact num_ok m w (by omega)
  · rw [numOut, if_neg h]
    rcases okNum_not h with h0 | h0
    · exact (num_neg n w h0).mono fun e w' ⟨h1, h2⟩ => ⟨h1, by subst h2; exact Below.refl _ _⟩
    · exact (num_high n w h0).mono fun e w' ⟨h1, h2⟩ => ⟨h1, by subst h2; exact Below.refl _ _⟩
theorem rnum_out (n : Int) (w : World) : Calls Tryd.prog 16 #[.int .i64 n] w fun e w' => e = .returned (.tuple #[.string (numOut n).1, .int .i64 (numOut n).2]) ∧ Below w.heap.size w w' := by
  by_cases h : okNum n = true
  · obtain ⟨h0, h1⟩ := okNum_le h
    obtain ⟨m, rfl⟩ := Int.eq_ofNat_of_zero_le h0
    rw [numOut, if_pos h]
    exact rnum_ok m w (by omega)
  · rw [numOut, if_neg h]
    rcases okNum_not h with h0 | h0
    · exact (rnum_neg n w h0).mono fun e w' ⟨h1, h2⟩ => ⟨h1, by subst h2; exact Below.refl _ _⟩
    · exact (rnum_high n w h0).mono fun e w' ⟨h1, h2⟩ => ⟨h1, by subst h2; exact Below.refl _ _⟩
theorem text_out (s : ByteArray) (w : World) : Calls Tryd.prog 28 #[.string s] w fun e w' => e = .returned (.tuple #[.string (textOut s).1, .int .i64 (textOut s).2]) ∧ Below w.heap.size w w' := by
  by_cases h : s.size ≤ 65536
  · rw [textOut, if_pos h]
    exact text_ok s w h
  · rw [textOut, if_neg h]
    exact (text_long s w (by omega)).mono fun e w' ⟨h1, h2⟩ => ⟨h1, by subst h2; exact Below.refl _ _⟩
theorem rtext_out (s : ByteArray) (w : World) : Calls Tryd.prog 17 #[.string s] w fun e w' => e = .returned (.tuple #[.string (textOut s).1, .int .i64 (textOut s).2]) ∧ Below w.heap.size w w' := by
  by_cases h : s.size ≤ 65536
  · rw [textOut, if_pos h]
    exact rtext_ok s w h
  · rw [textOut, if_neg h]
    exact (rtext_long s w (by omega)).mono fun e w' ⟨h1, h2⟩ => ⟨h1, by subst h2; exact Below.refl _ _⟩
end Go.Proofs.YtndmcbphdknihaaDoor.Wire

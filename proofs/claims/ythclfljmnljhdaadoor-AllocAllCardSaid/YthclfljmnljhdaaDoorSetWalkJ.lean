/- Sets: Of, both, of any numbers. -/
import Derived.Test.YthclfljmnljhdaaDoorSetWalkI
namespace Go.Proofs.YthclfljmnljhdaaDoor.Sets
open Go.RowKit Mem

/-- what Of answers -/
def ofOut (l : List Int) : List UInt8 × Int := if l.any bad = true then ([], 10) else (ofL (l.map Int.toNat), 0)
theorem of_out (A : Option Addr) (n c : Nat) (l : List Int) (w : World) (hr : Row w A n (l.map (Value.int .i64))) (hn : n ≤ 9223372036854775807) :
    Calls Tryd.prog 14 #[.slice A n c] w fun e w' => e = .returned (.tuple #[.string ⟨(ofOut l).1.toArray⟩, .int .i64 (ofOut l).2]) ∧ Below w.heap.size w w' := by
  by_cases hb : l.any bad = true
  · rw [ofOut, if_pos hb]
    exact (of_bad A n c l w hr hn hb).mono fun e w' ⟨h1, h2⟩ => ⟨h1, by rw [h2]; exact Below.refl _ _⟩
  · have hok : l.any bad = false := by simpa using hb
    rw [ofOut, if_neg hb]
    by_cases h0 : 0 < n
    · exact of_some A n c l w hr hn h0 hok
    · obtain rfl : n = 0 := by omega
      have hl : l = [] := by
        have := hr.1
        simpa using this
      rw [hl]
      exact (of_nil A c w).mono fun e w' ⟨h1, h2⟩ => ⟨h1, by rw [h2]; exact Below.refl _ _⟩
end Go.Proofs.YthclfljmnljhdaaDoor.Sets

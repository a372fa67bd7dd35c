/- Alloc: picks, as the laws take them. -/
import Derived.Test.YthclfljmnljhdaaDoorAllocPicksW
import Derived.Test.YthclfljmnljhdaaDoorAppendRow
namespace Go.Proofs.YthclfljmnljhdaaDoor.Alloc
open Go.RowKit Mem Sets

theorem ints_int (l : List Nat) : ints l = (l.map fun (n : Nat) => (n : Int)).map (Value.int .i64) := by rw [ints, List.map_map]; rfl
theorem pick_ok {U : ByteArray} {b a k : Nat} (hk : 8 ≤ b ∧ b ≤ 4096 ∧ 1 ≤ a ∧ a ≤ b) (hU : U.size ≤ 140737488355328) (hl : k ≤ (ord U b a).length) (W : World) :
    Calls Tryd.prog 9 #[.string U, .int .i64 (b : Int), .int .i64 (a : Int), .int .i64 (k : Int)] W fun e w' => ∃ A c, e = .returned (.tuple #[.slice A k c, .int .i64 ((lastOf ((ord U b a).take k) a : Nat) : Int), .int .i64 0]) ∧
      Row w' A k (ints ((ord U b a).take k)) ∧ k ≤ c ∧ Below W.heap.size W w' := by
  refine (pick_any U b a k W hU).mono ?_
  rw [pickOut_ok hk hl]
  rintro e w' ⟨v, rfl, ho, hb⟩
  obtain ⟨A, c, rfl⟩ := own_slice ho
  have h1 := own_cap ho
  have h2 := Row.of_own ho
  have hn : ((ord U b a).take k).length = k := by rw [List.length_take]; omega
  simp only [hn] at h1 h2 ⊢
  exact ⟨A, c, rfl, h2, h1, hb⟩
/-- may it be picked? -/
theorem pick_cases (U : ByteArray) (B f m : Int) :
    (∃ b a k : Nat, B = b ∧ f = a ∧ m = k ∧ (8 ≤ b ∧ b ≤ 4096 ∧ 1 ≤ a ∧ a ≤ b) ∧ k ≤ (ord U b a).length) ∨ ∃ er : Nat, er ≠ 0 ∧ pickOut U B f m = ([], 0, er) := by
  by_cases h : okAt B f = true ∧ 0 ≤ m
  · obtain ⟨h1, h2, h3, h4⟩ := okAt_iff.1 h.1
    obtain ⟨b, rfl⟩ := Int.eq_ofNat_of_zero_le (show 0 ≤ B by omega)
    obtain ⟨a, rfl⟩ := Int.eq_ofNat_of_zero_le (show 0 ≤ f by omega)
    obtain ⟨k, rfl⟩ := Int.eq_ofNat_of_zero_le h.2
    by_cases hk : k ≤ (ord U b a).length
    · exact Or.inl ⟨b, a, k, rfl, rfl, rfl, by omega, hk⟩
    · exact Or.inr ⟨101, by decide, pickOut_full (by omega) (by omega)⟩
  · exact Or.inr ⟨100, by decide, pickOut_bad h⟩
theorem pick_no {U : ByteArray} {B f m : Int} {er : Nat} (h : pickOut U B f m = ([], 0, er)) (hU : U.size ≤ 140737488355328) (W : World) :
    Calls Tryd.prog 9 #[.string U, .int .i64 B, .int .i64 f, .int .i64 m] W fun e w' => ∃ A c, e = .returned (.tuple #[.slice A 0 c, .int .i64 0, .int .i64 (er : Int)]) ∧ Below W.heap.size W w' := by
  refine (pick_any U B f m W hU).mono ?_
  rw [h]
  rintro e w' ⟨v, rfl, ho, hb⟩
  obtain ⟨A, c, rfl⟩ := own_slice ho
  exact ⟨A, c, rfl, hb⟩
/-- where a pick ended, one behind another -/
theorem lastOf_pos {l : List Nat} {f : Nat} (h : 0 < l.length) : lastOf l f = l[l.length - 1] + 1 := by
  rw [lastOf, List.getLast?_eq_getElem?, List.getElem?_eq_getElem (by omega)]
/-- the box of what was asked -/
def AskBox (w : World) (g : Nat) (U : ByteArray) (B f m : Int) : Prop := Blk w g 23 #[.string U, .int .i64 B, .int .i64 f, .int .i64 m]
theorem AskBox.below {w w' : World} {g : Nat} {U : ByteArray} {B f m : Int} (h : AskBox w g U B f m) (b : Below w.heap.size w w') : AskBox w' g U B f m := Blk.below h b h.lt
theorem AskBox.below2 {w w' : World} {g : Nat} {U : ByteArray} {B f m : Int} (h : AskBox w g U B f m) {s : Nat} (b : Below s w w') (hs : g < s) : AskBox w' g U B f m := Blk.below h b hs
theorem AskBox.all {w : World} {g : Nat} {U : ByteArray} {B f m : Int} (h : AskBox w g U B f m) :
    w.cell? ⟨g, 0, none⟩ = some (.string U) ∧ w.cell? ⟨g, 1, none⟩ = some (.int .i64 B) ∧ w.cell? ⟨g, 2, none⟩ = some (.int .i64 f) ∧ w.cell? ⟨g, 3, none⟩ = some (.int .i64 m) := ⟨Blk.cell h 0, Blk.cell h 1, Blk.cell h 2, Blk.cell h 3⟩
theorem AskBox.new (w : World) (U : ByteArray) (B f m : Int) : AskBox (w.alloc (.cells #[.string U, .int .i64 B, .int .i64 f, .int .i64 m] 23)) w.heap.size U B f m := Blk.new w _ _
end Go.Proofs.YthclfljmnljhdaaDoor.Alloc

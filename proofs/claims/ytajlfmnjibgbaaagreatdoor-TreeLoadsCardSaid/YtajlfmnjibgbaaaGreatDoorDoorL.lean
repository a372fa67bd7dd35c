/- A row of texts with their bounds, and a blob, that came in. -/
import Derived.Test.YtajlfmnjibgbaaaGreatDoorDoor
import Derived.SliceStrings
import Derived.Deep.Slices
import Derived.Deep.Fields
import Derived.Lib.SmallJoins
namespace Go.Proofs.YtajlfmnjibgbaaaGreatDoor.Door
open Go.RowKit Go.ChangeShapes Go.WideShapes Go.Deep
set_option maxRecDepth 100000 in
theorem cellsStrZ : Tryz.prog.cellsOf 9 = 1 := by kernel_rfl
set_option maxRecDepth 100000 in
theorem open_strz {H : Type} {enc : TypeId × Value → H} {W : World} {base : Nat} {v : Value} {d : DataW H} {p : List MemPlace} (hv : Value.okWide Tryz.prog W .any base 48 v) (h : DataW.Trod enc Tryz.prog W 0 (fun _ => true) true 48 v d p) :
    ∃ (A : Option Addr) (n c : Nat) (l : List ByteArray), v = .slice A n c ∧ Mem.Row W A n (l.map Value.string) ∧ ∀ s ∈ l, s.size ≤ 9223372036854775807 := by
  obtain ⟨a0, len, cap, rfl⟩ := okWide_slice Tryz.underlying48 hv
  obtain ⟨fuel, hf⟩ := h
  rcases open_strings Tryz.underlying48 Tryz.underlying9 cellsStrZ hf with ⟨hcs, _⟩ | ⟨a, len', cap', zs, hcs, _, hl, _, hz, _, hcell, hsz⟩
  · simp only [Value.cells] at hcs
    obtain ⟨rfl, rfl, rfl⟩ : a0 = none ∧ len = 0 ∧ cap = 0 := by simpa using hcs
    exact ⟨none, 0, 0, [], rfl, Mem.Row.nil_ _, fun s hs => by cases hs⟩
  · simp only [Value.cells] at hcs
    obtain ⟨rfl, rfl, rfl⟩ : a0 = some a ∧ len = len' ∧ cap = cap' := by simpa using hcs
    have hlz : len ≤ zs.length := by rw [hz]; split <;> omega
    refine ⟨some a, len, cap, zs.take len, rfl, ⟨by simp; omega, fun k u hu => ⟨a, rfl, ?_⟩⟩, fun s hs => ?_⟩
    · have hk : k < len := by
        have := (List.getElem?_eq_some_iff.1 hu).1
        simp at this
        omega
      rw [List.getElem?_map, List.getElem?_take, if_pos hk, List.getElem?_eq_getElem (by omega)] at hu
      rw [hcell k (by omega), List.getD_eq_getElem?_getD, List.getElem?_eq_getElem (by omega)]
      exact hu
    · have := hsz s (List.mem_of_mem_take hs)
      unfold maxLen at this
      omega
set_option maxRecDepth 100000 in
theorem open_blob {H : Type} {enc : TypeId × Value → H} {W : World} {base : Nat} {v : Value} {d : DataW H} {p : List MemPlace} (hv : Value.okWide Tryz.prog W .any base 33 v) (h : DataW.Trod enc Tryz.prog W 0 (fun _ => true) true 33 v d p) :
    ∃ (x y : Int), v = .agg #[.int .i64 x, .int .i64 y] := by
  obtain ⟨v0, v1, y0, y1, n, rfl, _, _, h0, h1⟩ := Go.Joins.open_agg2 Tryz.underlying33 (by kernel_rfl) (by kernel_rfl) hv h
  obtain ⟨x, hx, _⟩ := DataW.trod_int Tryz.underlying3 h0
  obtain ⟨y, hy, _⟩ := DataW.trod_int Tryz.underlying3 h1
  injection hx with hx _
  injection hy with hy _
  subst hx hy
  exact ⟨x, y, rfl⟩
end Go.Proofs.YtajlfmnjibgbaaaGreatDoor.Door

/- More of what came in: rows of int with their capacity, rows of strings, a script of reads. -/
import Derived.Test.YtkhnohiokclcfaaDoorDoor
import Derived.Test.YtkhnohiokclcfaaDoorWireReadsW
import Derived.SliceStrings
import Derived.Deep.Slices
import Derived.Deep.Fields
namespace Go.Proofs.YtkhnohiokclcfaaDoor.Door
open Go.RowKit Go.ChangeShapes Go.WideShapes Go.Deep

set_option maxRecDepth 100000 in
theorem open_rowc {H : Type} {enc : TypeId × Value → H} {W : World} {base : Nat} {v : Value} {d : DataW H} {p : List MemPlace} (hv : Value.okWide Tryd.prog W .any base 22 v) (h : DataW.Trod enc Tryd.prog W 0 (fun _ => true) true 22 v d p) :
    ∃ (A : Option Addr) (n c : Nat) (l : List Int), v = .slice A n c ∧ (n ≤ maxLen ∧ n ≤ c) ∧ Mem.Row W A n (l.map (Value.int .i64)) := by
  obtain ⟨A, n, c, l, rfl, hn, hr⟩ := open_row hv h
  refine ⟨A, n, c, l, rfl, ⟨hn, ?_⟩, hr⟩
  obtain ⟨fuel, hf⟩ := h
  rcases open_ints Tryd.underlying22 Tryd.underlying3 cellsInt hf with ⟨hcs, _⟩ | ⟨a, len', cap', zs, hcs, _, hl, _⟩
  · simp only [Value.cells] at hcs
    obtain ⟨rfl, rfl, rfl⟩ : A = none ∧ n = 0 ∧ c = 0 := by simpa using hcs
    omega
  · simp only [Value.cells] at hcs
    obtain ⟨rfl, rfl, rfl⟩ : A = some a ∧ n = len' ∧ c = cap' := by simpa using hcs
    exact hl

theorem cellsStr : Tryd.prog.cellsOf 9 = 1 := by kernel_rfl
set_option maxRecDepth 100000 in
theorem open_strs {H : Type} {enc : TypeId × Value → H} {W : World} {base : Nat} {v : Value} {d : DataW H} {p : List MemPlace} (hv : Value.okWide Tryd.prog W .any base 49 v) (h : DataW.Trod enc Tryd.prog W 0 (fun _ => true) true 49 v d p) :
    ∃ (A : Option Addr) (n c : Nat) (l : List ByteArray), v = .slice A n c ∧ n ≤ maxLen ∧ Mem.Row W A n (l.map Value.string) := by
  obtain ⟨a0, len, cap, rfl⟩ := okWide_slice Tryd.underlying49 hv
  obtain ⟨fuel, hf⟩ := h
  rcases open_strings Tryd.underlying49 Tryd.underlying9 cellsStr hf with ⟨hcs, _⟩ | ⟨a, len', cap', zs, hcs, _, hl, hm, hz, _, hcell, _⟩
  · simp only [Value.cells] at hcs
    obtain ⟨rfl, rfl, rfl⟩ : a0 = none ∧ len = 0 ∧ cap = 0 := by simpa using hcs
    exact ⟨none, 0, 0, [], rfl, Nat.zero_le _, Mem.Row.nil_ _⟩
  · simp only [Value.cells] at hcs
    obtain ⟨rfl, rfl, rfl⟩ : a0 = some a ∧ len = len' ∧ cap = cap' := by simpa using hcs
    have hlz : len ≤ zs.length := by rw [hz]; split <;> omega
    refine ⟨some a, len, cap, zs.take len, rfl, by omega, by simp; omega, fun k u hu => ⟨a, rfl, ?_⟩⟩
    have hk : k < len := by
      have := (List.getElem?_eq_some_iff.1 hu).1
      simp at this
      omega
    rw [List.getElem?_map, List.getElem?_take, if_pos hk, List.getElem?_eq_getElem (by omega)] at hu
    rw [hcell k (by omega), List.getD_eq_getElem?_getD, List.getElem?_eq_getElem (by omega)]
    exact hu

theorem cellsOp : Tryd.prog.cellsOf 44 = 3 := by kernel_rfl
theorem opFields : ∃ fs : Array Field, Tryd.prog.underlying 44 = some (.struct fs) ∧ oneCellFields Tryd.prog fs = true ∧ (fs[0]?.map (·.type)) = some 3 ∧ (fs[1]?.map (·.type)) = some 3 ∧ (fs[2]?.map (·.type)) = some 3 :=
  ⟨_, Tryd.underlying44, by kernel_rfl, by kernel_rfl, by kernel_rfl, by kernel_rfl⟩

set_option maxRecDepth 100000 in
theorem open_ops3 {H : Type} {enc : TypeId × Value → H} {W : World} {base : Nat} {v : Value} {d : DataW H} {p : List MemPlace} (hv : Value.okWide Tryd.prog W .any base 39 v) (h : DataW.Trod enc Tryd.prog W 0 (fun _ => true) true 39 v d p) :
    ∃ (A : Option Addr) (n c : Nat) (_l : Unit), v = .slice A n c ∧ n ≤ maxLen ∧ Wire.Ops W A n := by
  obtain ⟨a0, len, cap, rfl⟩ := okWide_slice Tryd.underlying39 hv
  obtain ⟨fuel, hf⟩ := h
  obtain ⟨fs, hs, hone, f0, f1, f2⟩ := opFields
  rcases open_slice Tryd.underlying39 hf with ⟨hcs, _⟩ | ⟨a, len', cap', m, n, D, Pl, hcs, hb, hl, hm, hmm, _, hi⟩
  · simp only [Value.cells] at hcs
    obtain ⟨rfl, rfl, rfl⟩ : a0 = none ∧ len = 0 ∧ cap = 0 := by simpa using hcs
    exact ⟨none, 0, 0, (), rfl, Nat.zero_le _, fun k hk => absurd hk (by omega)⟩
  · simp only [Value.cells] at hcs
    obtain ⟨rfl, rfl, rfl⟩ : a0 = some a ∧ len = len' ∧ cap = cap' := by simpa using hcs
    refine ⟨some a, len, cap, (), rfl, by omega, fun k hk => ?_⟩
    have hkm : k < m := by rw [hmm]; split <;> omega
    obtain ⟨cs', hc, ht⟩ := hi k hkm
    rw [cellsOp] at hc
    obtain ⟨ys, n', _, _, hlen, hyl, hfld⟩ := DataW.trod_struct hs ht
    rw [cellsOp] at hlen
    obtain ⟨_, hcl, hat⟩ := World.cells?_some hc
    have fld : ∀ j, j < 3 → (fs[j]?.map (·.type)) = some 3 → ∃ x : Int, W.cell? ((a.add (k * 3)).add j) = some (.int .i64 x) := by
      intro j hj hft
      obtain ⟨f, hf1, hf2⟩ := Option.map_eq_some_iff.1 hft
      obtain ⟨ho, hk1⟩ := hone_of hone j f hf1
      have h1 := hfld j f hf1
      rw [ho, hk1, hf2] at h1
      have hjl : j < fs.size := (Array.getElem?_eq_some_iff.1 hf1).1
      have hys : ys[j]? = some (ys[j]'(by omega)) := List.getElem?_eq_getElem (by omega)
      rw [hys] at h1
      obtain ⟨x, hx, _, _⟩ := DataW.trod_int Tryd.underlying3 h1
      refine ⟨x, ?_⟩
      rw [hat j (by omega)]
      have hdr : (cs'.drop j).take 1 = [cs'[j]'(by omega)] := by
        rw [List.drop_eq_getElem_cons (by omega)]
        rfl
      rw [hdr] at hx
      rw [List.getElem?_eq_getElem (by omega)]
      simpa using hx
    obtain ⟨x, hx⟩ := fld 0 (by omega) f0
    obtain ⟨y, hy⟩ := fld 1 (by omega) f1
    obtain ⟨z, hz⟩ := fld 2 (by omega) f2
    have e0 : (a.add (k * 3)).add 0 = a.add (k * 3) := by simp [Addr.add]
    rw [e0] at hx
    have hlt := World.block_lt_of_cell? W _ hx
    rw [Mem.add_block] at hlt
    exact ⟨a, x, y, z, rfl, hlt, hx, hy, hz⟩
end Go.Proofs.YtkhnohiokclcfaaDoor.Door

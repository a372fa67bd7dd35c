/- copy(b, text) into a row of bytes of the call's own, just made: the text's first bytes, noughts behind them; the text of it. -/
import Derived.Test.YtkghlbpkdkonbaaMems
import Derived.Test.YtkghlbpkdkonbaaProg
import Derived.Lib.BufferWrite
import Derived.KernelRfl
namespace Go.Proofs.Ytkghlbpkdkonbaa.Mem
open Go Go.RowKit

/-- a text's first M bytes, noughts behind them -/
def padB (s : ByteArray) (M : Nat) : ByteArray := ⟨(s.data.toList.take M ++ List.replicate (M - s.size) 0).toArray⟩
set_option maxRecDepth 100000 in
theorem padB_size (s : ByteArray) (M : Nat) : (padB s M).size = M := by
  show (s.data.toList.take M ++ List.replicate (M - s.size) 0).toArray.size = M
  rw [List.size_toArray, List.length_append, List.length_take, List.length_replicate, ← Lib.size_eq]
  omega
set_option maxRecDepth 100000 in
theorem run_copy_text {P : Program} (w : World) (dT sT ty elem : TypeId) (g dLen dCap : Nat) (s : ByteArray) (cur : Array Value) (t : TypeId)
    (hu : P.underlying dT = some (.slice elem)) (hs : (P.info? elem).map (·.size) = some 1) (hg : w.heap[g]? = some (.cells cur t (0, 0))) (hfit : dLen ≤ cur.size) :
    (Builtin.copy_ #[dT, sT] ty #[.slice (some ⟨g, 0, none⟩) dLen dCap, .string s]).run P w =
      .ok (goInt (Nat.min s.size dLen)) (w.setRow g (Lib.byteCells (s.data.toList.take dLen) ++ cur.toList.drop (Nat.min s.size dLen)).toArray) := by
  have hmn : Nat.min s.size dLen = min s.size dLen := rfl
  have hlen : (Lib.byteCells (s.data.toList.take dLen)).length = Nat.min s.size dLen := by rw [Lib.byteCells_length, List.length_take, ← Lib.size_eq, Nat.min_comm]
  have hst := run_storeCells_at P g 0 t (Lib.byteCells (s.data.toList.take dLen)) 0 cur w hg (by rw [hlen, hmn]; omega) (Lib.byteCells_one _)
  have htk : List.take (Nat.min s.size dLen) (List.map (fun b : UInt8 => Value.int IntKind.u8 (b.toNat : Int)) s.data.toList) = Lib.byteCells (s.data.toList.take dLen) := by
    unfold Lib.byteCells
    rw [← List.map_take]
    congr 1
    by_cases h : s.size ≤ dLen
    · rw [show Nat.min s.size dLen = s.size by rw [hmn]; omega, List.take_of_length_le (by rw [← Lib.size_eq]; exact Nat.le_refl _), List.take_of_length_le (by rw [← Lib.size_eq]; exact h)]
    · rw [show Nat.min s.size dLen = dLen by rw [hmn]; omega]
  rw [hlen] at hst
  simp only [Nat.add_zero, List.take_zero, List.nil_append, Nat.zero_add] at hst
  cases hq : P.info? elem with
  | none => simp [hq] at hs
  | some i =>
    simp [Builtin.copy_, run_underlying hu, Builtin.lenOf, Builtin.firstCells, sizeOf, typeInfo, hq]
    rw [htk, hst]
    simp [Result.andThen]
set_option maxRecDepth 100000 in
theorem grown_row (w : World) (g : Nat) (cs : Array Value) : w.grownBy (w.setRow g cs) (some g) :=
  ⟨rfl, rfl, rfl, by simp [World.setRow], fun k hk hn => setRow_other w g k cs (fun e => hn (by rw [e]))⟩
set_option maxRecDepth 100000 in
theorem copy_text {w : World} {B g M : Nat} (s : ByteArray) (h : w.ownsRow B 5 1 (.slice (some ⟨g, 0, none⟩) M M) M (madeCells (Value.int .u8 0).cells (M * 1)).toList) :
    ∃ w3, (∀ ty, (Builtin.copy_ #[55, 9] ty #[.slice (some ⟨g, 0, none⟩) M M, .string s]).run Try.prog w = .ok (.int .i64 ((Nat.min s.size M : Nat) : Int)) w3) ∧
      w.grownBy w3 (some g) ∧ (∀ W, Below w3.heap.size w3 W → (convert 55 9 (.slice (some ⟨g, 0, none⟩) M M)).run Try.prog W = .ok (.string (padB s M)) W) ∧ B ≤ g := by
  rcases h.2 with ⟨h1, _⟩ | ⟨g', cap, cur, hv, hb, hg, hnc, hcm, hcs, htk⟩
  · cases h1
  · injection hv with hv1 hv2 hv3
    injection hv1 with hv1
    injection hv1 with hv1
    subst hv1
    subst hv3
    have hmn : Nat.min s.size M = min s.size M := rfl
    have hcur : cur.toList = List.replicate M (Value.int .u8 0) := by
      have e1 : cur.toList.take (M * 1) = (madeCells (Value.int .u8 0).cells (M * 1)).toList := htk
      have e2 : cur.toList.length = M := by
        have : cur.size = M * 1 := hcs
        simp only [Array.length_toList]
        omega
      rw [List.take_of_length_le (by omega)] at e1
      rw [e1]
      apply List.ext_getElem
      · simp [madeCells]
      · intro j h1 h2
        simp [madeCells, Value.cells, Nat.mod_one]
    have hcz : M ≤ cur.size := by
      have e3 : cur.toList.length = M := by rw [hcur, List.length_replicate]
      have e4 : cur.toList.length = cur.size := Array.length_toList
      omega
    have hr := fun ty => run_copy_text (P := Try.prog) w 55 9 ty 5 g M M s cur _ Try.underlying55 (by kernel_rfl) hg hcz
    rw [hcur, List.drop_replicate] at hr
    have hrow := setRow_heap w g _ (Lib.byteCells (s.data.toList.take M) ++ List.replicate (M - Nat.min s.size M) (Value.int .u8 0)).toArray _ _ hg
    have hcells : (Lib.byteCells (s.data.toList.take M) ++ List.replicate (M - Nat.min s.size M) (Value.int .u8 0)) = Lib.byteCells (padB s M).data.toList := by
      show _ = Lib.byteCells (s.data.toList.take M ++ List.replicate (M - s.size) 0)
      unfold Lib.byteCells
      rw [List.map_append, List.map_replicate]
      congr 1
      rw [show M - Nat.min s.size M = M - s.size by rw [hmn]; omega]
      rfl
    rw [hcells] at hrow hr
    refine ⟨_, hr, grown_row w g _, fun W hW => ?_, hb⟩
    have hrow2 := (hW.block g (Array.getElem?_eq_some_iff.1 hrow).1).trans hrow
    have hcv := run_convert_bytes_back (P := Try.prog) W 55 9 5 ⟨g, 0, none⟩ M (padB s M).data.toList Try.underlying55 Try.underlying5 Try.underlying9 (fun j hj => by
      rw [add_lit, Nat.zero_add, cell_of_row _ g j _ _ _ hrow2]
      unfold Lib.byteCells
      simp
      exact ⟨_, Array.getElem?_eq_getElem (by simpa using hj), rfl⟩)
    have hl : (padB s M).data.toList.length = M := padB_size s M
    rw [hl] at hcv
    exact hcv
end Go.Proofs.Ytkghlbpkdkonbaa.Mem

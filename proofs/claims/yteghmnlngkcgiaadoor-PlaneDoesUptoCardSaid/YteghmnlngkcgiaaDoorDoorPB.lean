/- A script's texts are small where what is read is. -/
import Derived.Test.YteghmnlngkcgiaaDoorDoorP
namespace Go.Proofs.YteghmnlngkcgiaaDoor.Door
open Go.RowKit

theorem bulk_all {H : Type} : ∀ {l : List (DataW H)} {d : DataW H}, d ∈ l → Rows.uptoBulk d ≤ Rows.uptoBulkAll l
  | a :: l, d, hd => by
    rw [Rows.uptoBulkAll]
    rcases List.mem_cons.1 hd with rfl | hd
    · omega
    · have := bulk_all hd; omega
theorem ops_bulk {H : Type} {d : DataW H} {s : ByteArray} (h : Holds d s) : s.size ≤ Rows.uptoBulk d := by
  obtain ⟨elems, spare, parts, rfl, hm, hp⟩ := h
  have h1 := bulk_all hm
  have h2 := bulk_all (List.mem_of_getElem? hp)
  simp only [Rows.uptoBulk] at h1 h2 ⊢
  have h3 := Lib.size_eq s
  omega
theorem ops_small {H : Type} {d : DataW H} {s : ByteArray} {n : Nat} (hk : 1 + (Rows.uptoBulk d + 0) ≤ n) (h : Holds d s) : s.size ≤ n := by
  have := ops_bulk h
  omega
end Go.Proofs.YteghmnlngkcgiaaDoor.Door

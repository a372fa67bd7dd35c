/- Rows of eight texts, of eight Bools. -/
import Derived.Test.YtkghlbpkdkonbaaBlkFixed
namespace Go.Proofs.Ytkghlbpkdkonbaa.Vl
open Go Go.RowKit Go.Maps Mem Disk Nv
def hasC (f : Nat → ByteArray) : Array Value := #[.string (f 0), .string (f 1), .string (f 2), .string (f 3), .string (f 4), .string (f 5), .string (f 6), .string (f 7)]
def isC (f : Nat → Bool) : Array Value := #[.bool (f 0), .bool (f 1), .bool (f 2), .bool (f 3), .bool (f 4), .bool (f 5), .bool (f 6), .bool (f 7)]
def setF {α : Type} (f : Nat → α) (n : Nat) (s : α) : Nat → α := fun i => if i = n then s else f i
set_option maxRecDepth 100000 in
theorem setF_same {α : Type} (f : Nat → α) (n : Nat) (s : α) : setF f n s n = s := if_pos rfl
set_option maxRecDepth 100000 in
theorem setF_other {α : Type} {f : Nat → α} {n k : Nat} {s : α} (h : k ≠ n) : setF f n s k = f k := if_neg h
set_option maxRecDepth 100000 in
theorem hasC_get (f : Nat → ByteArray) : ∀ {k : Nat}, k < 8 → (hasC f)[k]? = some (.string (f k))
  | 0, _ => rfl
  | 1, _ => rfl
  | 2, _ => rfl
  | 3, _ => rfl
  | 4, _ => rfl
  | 5, _ => rfl
  | 6, _ => rfl
  | 7, _ => rfl
  | k + 8, h => by omega
set_option maxRecDepth 100000 in
theorem isC_get (f : Nat → Bool) : ∀ {k : Nat}, k < 8 → (isC f)[k]? = some (.bool (f k))
  | 0, _ => rfl
  | 1, _ => rfl
  | 2, _ => rfl
  | 3, _ => rfl
  | 4, _ => rfl
  | 5, _ => rfl
  | 6, _ => rfl
  | 7, _ => rfl
  | k + 8, h => by omega
set_option maxRecDepth 100000 in
theorem hasC_put (f : Nat → ByteArray) (s : ByteArray) : ∀ {n : Nat}, n < 8 → (hasC f).setIfInBounds n (.string s) = hasC (setF f n s)
  | 0, _ => rfl
  | 1, _ => rfl
  | 2, _ => rfl
  | 3, _ => rfl
  | 4, _ => rfl
  | 5, _ => rfl
  | 6, _ => rfl
  | 7, _ => rfl
  | n + 8, h => by omega
set_option maxRecDepth 100000 in
theorem isC_put (f : Nat → Bool) (s : Bool) : ∀ {n : Nat}, n < 8 → (isC f).setIfInBounds n (.bool s) = isC (setF f n s)
  | 0, _ => rfl
  | 1, _ => rfl
  | 2, _ => rfl
  | 3, _ => rfl
  | 4, _ => rfl
  | 5, _ => rfl
  | 6, _ => rfl
  | 7, _ => rfl
  | n + 8, h => by omega
set_option maxRecDepth 100000 in
theorem infoT8 : (Try.prog.info? 9).map (fun i => (i.zero, i.size, i.bytes)) = some (some (.string ⟨#[]⟩), 1, 16) := by kernel_rfl
set_option maxRecDepth 100000 in
theorem infoB8 : (Try.prog.info? 4).map (fun i => (i.zero, i.size, i.bytes)) = some (some (.bool false), 1, 1) := by kernel_rfl
def hasO : Obj := .cells (hasC fun _ => ⟨#[]⟩) 9
def isO : Obj := .cells (isC fun _ => false) 4
set_option maxRecDepth 100000 in
theorem makeT8 (W : World) : (Instr.makeSlice 27 (.int .i64 8) (.int .i64 8)).run Try.prog W = .ok (.slice (some ⟨W.heap.size, 0, none⟩) 8 8) (W.alloc hasO) := by
  obtain ⟨i0, hi, hz0, hz1, hz2⟩ := info_parts infoT8
  have h := run_make (P := Try.prog) (w := W) 27 9 i0 (.string ⟨#[]⟩) Try.underlying27 hi hz0 .i64 .i64 8 8 (by decide) (by decide) (by rw [hz2]; decide) (by decide)
  rw [hz1, show madeCells (Value.string ⟨#[]⟩).cells (Int.toNat 8 * 1) = hasC (fun _ => ⟨#[]⟩) by kernel_rfl] at h
  exact h
set_option maxRecDepth 100000 in
theorem makeB8 (W : World) : (Instr.makeSlice 35 (.int .i64 8) (.int .i64 8)).run Try.prog W = .ok (.slice (some ⟨W.heap.size, 0, none⟩) 8 8) (W.alloc isO) := by
  obtain ⟨i0, hi, hz0, hz1, hz2⟩ := info_parts infoB8
  have h := run_make (P := Try.prog) (w := W) 35 4 i0 (.bool false) Try.underlying35 hi hz0 .i64 .i64 8 8 (by decide) (by decide) (by rw [hz2]; decide) (by decide)
  rw [hz1, show madeCells (Value.bool false).cells (Int.toNat 8 * 1) = isC (fun _ => false) by kernel_rfl] at h
  exact h
end Go.Proofs.Ytkghlbpkdkonbaa.Vl

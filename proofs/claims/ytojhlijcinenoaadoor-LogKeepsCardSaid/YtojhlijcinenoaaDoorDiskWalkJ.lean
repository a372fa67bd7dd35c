/- The laws' sector. -/
import Derived.Test.YtojhlijcinenoaaDoorDiskWalkI
namespace Go.Proofs.YtojhlijcinenoaaDoor.Disk
open Go Go.RowKit Go.Maps Mem

def secL (more : Int) : Nat := (64 + max (-64) (min more 136)).toNat
def secB (c : UInt8) (N : Nat) : ByteArray := ⟨(List.replicate N c).toArray⟩
set_option maxRecDepth 100000 in
theorem infoU : (Tryd.prog.info? 5).map (fun i => (i.zero, i.size, i.bytes)) = some (some (.int .u8 0), 1, 1) := by kernel_rfl
def rowU (c : UInt8) (N k : Nat) : List Value := List.replicate k (.int .u8 (c.toNat : Int)) ++ List.replicate (N - k) (.int .u8 0)
set_option maxRecDepth 100000 in
theorem rowU_set (c : UInt8) (N k : Nat) (h : k < N) : (rowU c N k).set k (.int .u8 (c.toNat : Int)) = rowU c N (k + 1) := by
  unfold rowU
  rw [List.set_append_right _ _ (by simp), List.length_replicate, Nat.sub_self, List.replicate_succ' (n := k), show N - k = (N - (k + 1)) + 1 by omega, List.replicate_succ, List.set_cons_zero, List.append_assoc]
  rfl
set_option maxRecDepth 100000 in
theorem rowU_len (c : UInt8) (N k : Nat) (h : k ≤ N) : (rowU c N k).length = N := by simp [rowU]; omega
end Go.Proofs.YtojhlijcinenoaaDoor.Disk

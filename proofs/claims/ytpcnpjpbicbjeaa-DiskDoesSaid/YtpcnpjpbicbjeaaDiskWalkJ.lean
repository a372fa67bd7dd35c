/- The laws' sector. -/
import Derived.Test.YtpcnpjpbicbjeaaDiskWalkI
namespace Go.Proofs.Ytpcnpjpbicbjeaa.Disk
open Go Go.RowKit Go.Maps Mem

def secL (more : Int) : Nat := (64 + max (-64) (min more 136)).toNat
def secB (c : UInt8) (N : Nat) : ByteArray := ⟨(List.replicate N c).toArray⟩
theorem infoU : (Try.prog.info? 5).map (fun i => (i.zero, i.size, i.bytes)) = some (some (.int .u8 0), 1, 1) := by kernel_rfl
def rowU (c : UInt8) (N k : Nat) : List Value := List.replicate k (.int .u8 (c.toNat : Int)) ++ List.replicate (N - k) (.int .u8 0)
theorem rowU_set (c : UInt8) (N k : Nat) (h : k < N) : (rowU c N k).set k (.int .u8 (c.toNat : Int)) = rowU c N (k + 1) := by
  unfold rowU
  rw [List.set_append_right _ _ (by simp), List.length_replicate, Nat.sub_self, List.replicate_succ' (n := k), show N - k = (N - (k + 1)) + 1 by omega, List.replicate_succ, List.set_cons_zero, List.append_assoc]
  rfl
theorem rowU_len (c : UInt8) (N k : Nat) (h : k ≤ N) : (rowU c N k).length = N := by simp [rowU]; omega
set_option maxRecDepth 100000 in
set_option maxHeartbeats 8000000 in
theorem sector_any (c : UInt8) (more : Int) (w : World) : Calls Try.prog 10 #[.int .u8 (c.toNat : Int), .int .i64 more] w fun e w' => e = .returned (.string (secB c (secL more))) ∧ Below w.heap.size w w' := by
  obtain ⟨i0, hinf, hz0, hz1, hz2⟩ := info_parts infoU
  obtain ⟨N, hN⟩ : ∃ N : Nat, N = secL more := ⟨_, rfl⟩
  have hNI : (N : Int) = 64 + max (-64) (min more 136) := by rw [hN]; unfold secL; omega
  rw [← hN]
  have hN2 : N ≤ 200 := by omega
  replace hN := Lib.hid hN
  replace hNI := Lib.hid hNI
  go_enter Try.func10, Try.ntmps10
  go_wp2_with (first | (at_make; refine wpList_make_full _ rfl _ _ _ rfl w.heap.size 5 i0 (.int .u8 0) 1 Try.underlying44 hinf hz0 hz1 .i64 .i64 _ _ N rfl rfl hNI.out.symm hNI.out.symm (by rw [hz2]; omega) (by unfold maxLen; omega) (Nat.le_refl _) ?_; intro w2 ho2 hg2))
  have hrow : w2.ownsRow w.heap.size 5 1 (.slice (some ⟨w.heap.size, 0, none⟩) N N) N (rowU c N 0) := by
    rw [show rowU c N 0 = (madeCells (Value.int .u8 0).cells (N * 1)).toList from ?_]
    · exact ho2
    · apply List.ext_getElem
      · simp [rowU, madeCells]
      · intro j h1 h2
        simp [rowU, madeCells, Value.cells, Nat.mod_one]
  have hb2 : Below w.heap.size w w2 := ⟨hg2.os, hg2.tape, hg2.output, hg2.size, fun k hk => hg2.block k hk (by simp)⟩
  clear ho2 hg2
  go_loopw [6] (fun t wr => ∃ k : Nat, k ≤ N ∧ t = .int .i64 (k : Int) ∧ wr.ownsRow w.heap.size 5 1 (.slice (some ⟨w.heap.size, 0, none⟩) N N) N (rowU c N k) ∧ Below w.heap.size w wr) (fun t _ => N - (intOf t).toNat)
  case atStart => exact ⟨0, Nat.zero_le _, rfl, hrow, hb2⟩
  case round =>
    clear hrow hb2
    obtain ⟨k, hk, rfl, hrow, hb⟩ := hrel
    by_cases hlt : k < N
    · obtain ⟨hr', fz⟩ := own_put (i := k) (u := .int .u8 (c.toNat : Int)) hrow
      rw [rowU_set c N k hlt] at hr'
      obtain ⟨old, hold⟩ : ∃ u, (rowU c N k)[k]? = some u := ⟨_, List.getElem?_eq_getElem (by rw [rowU_len c N k hk]; exact hlt)⟩
      have cst := hrow.cells (g := w.heap.size) rfl k old hold
      rw [add_lit, Nat.zero_add] at cst
      have hb' : Below w.heap.size w (wr.setCell ⟨w.heap.size, k, none⟩ (.int .u8 (c.toNat : Int))) := hb.setCell (Nat.le_refl _) _
      replace hr' := Lib.hid hr'
      replace hb' := Lib.hid hb'
      clear hrow hold hb
      go_wp2_with fail
      exact ⟨⟨k + 1, by omega, rfl, hr'.out, hb'.out⟩, by simp [intOf]; omega⟩
    · obtain rfl : k = N := by omega
      have hcv := run_convert_bytes_back (P := Try.prog) wr 44 9 5 ⟨w.heap.size, 0, none⟩ k (List.replicate k c) Try.underlying44 Try.underlying5 Try.underlying9 (fun j hj => by
        have hj' : j < k := by simpa using hj
        rw [hrow.cells (g := w.heap.size) rfl j (.int .u8 (c.toNat : Int)) (by simp [rowU, hj'])]
        simp)
      rw [List.length_replicate] at hcv
      clear hrow
      go_wp2_with fail
      go_ret
      exact ⟨rfl, hb⟩
end Go.Proofs.Ytpcnpjpbicbjeaa.Disk

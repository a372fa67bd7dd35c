/- Sets: what is made of two, byte by byte; without the noughts at the end. -/
import Derived.Test.YteghmnlngkcgiaaDoorSetWalkA
import Derived.Test.YteghmnlngkcgiaaDoorShelf
import Derived.StillTailTactics
import Derived.Lib.MinMax
import Derived.Laws.IdiomStrings
import Derived.Deep.AppendLies
namespace Go.Proofs.YteghmnlngkcgiaaDoor.Sets
open Go.RowKit Mem

set_option maxRecDepth 100000 in
set_option maxHeartbeats 1000000 in
theorem and1_any (x y : UInt8) (w : World) : Calls Tryd.prog 44 #[.int .u8 (x.toNat : Int), .int .u8 (y.toNat : Int)] w fun e w' => e = .returned (.int .u8 ((x &&& y).toNat : Int)) ∧ w' = w := by
  have h : bits .and .u8 (x.toNat : Int) (y.toNat : Int) = ((x &&& y).toNat : Int) := u8_and_nat _ _ x.toNat_lt y.toNat_lt
  go_enter Tryd.func44, Tryd.ntmps44
  go_wp2_with fail
  go_ret
  exact ⟨rfl, rfl⟩

theorem infoByte : (Tryd.prog.info? 5).map (fun i => (i.zero, i.size, i.bytes)) = some (some (.int .u8 0), 1, 1) := by kernel_rfl
def zeros (n : Nat) : Array Value := ⟨List.replicate n (.int .u8 0)⟩
theorem make_bytes (W : World) (n : Nat) (hn : n ≤ 281474976710656) : (Instr.makeSlice 34 (.int .i64 (n : Int)) (.int .i64 (n : Int))).run Tryd.prog W = .ok (.slice (some ⟨W.heap.size, 0, none⟩) n n) (W.alloc (.cells (zeros n) 5)) := by
  obtain ⟨i0, hi, hz0, hz1, hz2⟩ := info_parts infoByte
  have h := run_make (P := Tryd.prog) (w := W) 34 5 i0 (.int .u8 0) Tryd.underlying34 hi hz0 .i64 .i64 (n : Int) (n : Int) (by omega) (by omega) (by rw [hz2]; omega) (by omega)
  have e : madeCells (Value.int .u8 0).cells (n * 1) = zeros n := by
    rw [Nat.mul_one]
    exact Array.toList_inj.1 (toList_madeCells_one (.int .u8 0) n)
  rw [hz1, Int.toNat_natCast, e] at h
  exact h
/-- the first k bytes lie -/
def rowK (n : Nat) (g : Nat → UInt8) (k : Nat) : List Value := (List.range n).map fun i => .int .u8 (if i < k then ((g i).toNat : Int) else 0)
theorem rowK_zero (n : Nat) (g : Nat → UInt8) : (⟨rowK n g 0⟩ : Array Value) = zeros n := by
  rw [zeros, rowK]
  congr 1
  apply List.ext_getElem (by simp)
  intro i h1 h2
  simp
theorem rowK_at (n : Nat) (g : Nat → UInt8) (k : Nat) (hk : k < n) : (⟨rowK n g k⟩ : Array Value)[k]? = some (.int .u8 0) := by
  simp [rowK, hk]
theorem rowK_full (n : Nat) (g : Nat → UInt8) (j : Nat) (hj : j < n) : (⟨rowK n g n⟩ : Array Value)[j]? = some (.int .u8 ((g j).toNat : Int)) := by
  simp [rowK, hj]
theorem rowK_step (n : Nat) (g : Nat → UInt8) (k : Nat) : (⟨rowK n g k⟩ : Array Value).setIfInBounds k (.int .u8 ((g k).toNat : Int)) = ⟨rowK n g (k + 1)⟩ := by
  apply Array.ext (by simp [rowK])
  intro i h1 h2
  rw [Array.getElem_setIfInBounds]
  · simp only [rowK, List.getElem_toArray, List.getElem_map, List.getElem_range]
    by_cases hik : k = i
    · subst hik
      simp
    · rw [if_neg hik]
      congr 2
      exact propext ⟨fun h => by omega, fun h => by omega⟩
  · simpa [rowK] using h1

set_option maxRecDepth 100000 in
set_option maxHeartbeats 1000000 in
theorem least_any (l : List UInt8) (B c : Nat) (w : World) (hl : l.length ≤ 9223372036854775807) (hc : ∀ j (hj : j < l.length), w.cell? ⟨B, j, none⟩ = some (.int .u8 (l[j].toNat : Int))) :
    Calls Tryd.prog 54 #[.slice (some ⟨B, 0, none⟩) l.length c] w fun e w' => e = .returned (.string ⟨(least l).toArray⟩) ∧ w' = w := by
  have hcv := run_convert_bytes_back (P := Tryd.prog) w 34 9 5 ⟨B, 0, none⟩ c l Tryd.underlying34 Tryd.underlying5 Tryd.underlying9 (fun j hj => by rw [add_lit, Nat.zero_add]; exact hc j hj)
  have k1 := Lib.hid (Tryd.strings_TrimRight_one ⟨l.toArray⟩ 0 (by decide) w hl)
  clear hc
  go_enter Tryd.func54, Tryd.ntmps54
  go_wp2_with fail
  refine k1.out.mono ?_
  rintro e w2 ⟨rfl, rfl⟩
  go_wp2_with fail
  go_ret
  exact ⟨rfl, rfl⟩

set_option maxRecDepth 100000 in
set_option maxHeartbeats 1000000 in
theorem each_and (a b : ByteArray) (w : World) (ha : a.size ≤ 140737488355328) (hb : b.size ≤ 140737488355328) :
    Calls Tryd.prog 40 #[.string a, .string b, .func (.func 44) #[] #[]] w fun e w' => e = .returned (.string ⟨(least ((List.range (max a.size b.size)).map fun i => (byteAt a.data.toList i) &&& (byteAt b.data.toList i))).toArray⟩) ∧ Below w.heap.size w w' := by
  obtain ⟨n, hn⟩ : ∃ n : Nat, n = max a.size b.size := ⟨_, rfl⟩
  have hni : max (a.size : Int) (b.size : Int) = (n : Int) := by omega
  have hn47 : n ≤ 140737488355328 := by omega
  rw [← hn]
  obtain ⟨G, hG⟩ : ∃ G : Nat → UInt8, G = fun i => (byteAt a.data.toList i) &&& (byteAt b.data.toList i) := ⟨_, rfl⟩
  rw [← hG]
  have k1 := fun (i : Nat) W => at_any a i W
  have k2 := fun (i : Nat) W => at_any b i W
  have k3 := fun (i : Nat) W => and1_any (byteAt a.data.toList i) (byteAt b.data.toList i) W
  have k3 : ∀ (i : Nat) W, Calls Tryd.prog 44 #[.int .u8 ((byteAt a.data.toList i).toNat : Int), .int .u8 ((byteAt b.data.toList i).toNat : Int)] W fun e w' => e = .returned (.int .u8 ((G i).toNat : Int)) ∧ w' = W := by
    intro i W
    rw [hG]
    exact k3 i W
  clear hn hG
  replace k1 := Lib.hid k1
  replace k2 := Lib.hid k2
  replace k3 := Lib.hid k3
  have mk := make_bytes w n (by omega)
  go_enter Tryd.func40, Tryd.ntmps40
  go_wp2_with fail
  have h0 : Blk (w.alloc (.cells (zeros n) 5)) w.heap.size 5 ⟨rowK n G 0⟩ := by rw [rowK_zero]; exact Blk.new w _ _
  have b0 : Below w.heap.size w (w.alloc (.cells (zeros n) 5)) := (Below.refl _ w).alloc (Nat.le_refl _) _
  clear mk
  generalize w.alloc (.cells (zeros n) 5) = w1 at h0 b0 ⊢
  generalize hB : w.heap.size = B at h0 b0 ⊢
  replace hB := Lib.hid hB
  go_loopw [17] (fun y wr => ∃ k : Nat, k ≤ n ∧ y = .int .i64 (k : Int) ∧ Blk wr B 5 ⟨rowK n G k⟩ ∧ Below B w wr) (fun y _ => n - (intOf y).toNat)
  case atStart => exact ⟨0, Nat.zero_le _, rfl, h0, b0⟩
  case round =>
    obtain ⟨k, hk, rfl, hr, hb'⟩ := hrel
    clear h0 b0
    by_cases hlt : k < n
    · have m : wr.cell? ⟨B, k, none⟩ = some (.int .u8 0) := (hr.cell k).trans (rowK_at n G k hlt)
      have f := hr.free k
      have hstep := hr.put k (.int .u8 ((G k).toNat : Int))
      rw [rowK_step] at hstep
      replace hstep := Lib.hid hstep
      replace hb' := Lib.hid hb'
      clear hr
      go_wp2_with fail
      refine (k1.out k _).mono ?_
      rintro en w2 ⟨rfl, rfl⟩
      go_wp2_with fail
      refine (k2.out k _).mono ?_
      rintro en w3 ⟨rfl, rfl⟩
      go_wp2_with fail
      refine (k3.out k _).mono ?_
      rintro en w4 ⟨rfl, rfl⟩
      go_wp2_with fail
      go_roundw
      case rel => exact ⟨k + 1, by omega, by go_num, hstep.out, Below.setCell hb'.out (Nat.le_refl _) _⟩
      case measure => simp [intOf]; omega
    · obtain rfl : k = n := by omega
      have hl : ((List.range k).map G).length = k := by simp
      have c4 := least_any ((List.range k).map G) B k wr (by omega) (fun j hj => by
        rw [hl] at hj
        rw [hr.cell, rowK_full k G j hj]
        simp)
      rw [hl] at c4
      replace c4 := Lib.hid c4
      clear hr hl
      go_wp2_with fail
      refine c4.out.mono ?_
      rintro en w2 ⟨rfl, rfl⟩
      go_wp2_with fail
      go_ret
      exact ⟨rfl, by rw [hB.out]; exact hb'⟩
end Go.Proofs.YteghmnlngkcgiaaDoor.Sets

/- Sets: has a text a number, the byte at a place: the program's and the document's. -/
import Derived.Test.YtajlfmnjibgbaaaGreatDoorProg
import Derived.Test.YtajlfmnjibgbaaaGreatDoorSetSp
import Derived.Test.YtajlfmnjibgbaaaGreatDoorMems
import Derived.WalkKit
import Derived.KernelRfl
import Derived.Lib.Hide
import Derived.Lib.Strings
import Derived.Laws.Shifts
import Derived.Laws.BitsAllLaws
import Derived.Deep.QuietTactic
import Derived.BigQuiet
import Derived.Test.YtajlfmnjibgbaaaGreatDoorShelf
import Derived.StillTailTactics
import Derived.Lib.MinMax
import Derived.Laws.IdiomStrings
import Derived.Deep.AppendLies
import Derived.WalkSpells
import Derived.RangeFuncNested
import Derived.RangeFuncBound
import Derived.RangeFuncCalls
import Derived.RangeFuncLeaves
import Derived.RangeFuncBox
import Derived.Shelf.Abstract
import Derived.Shelf.RegionOpen
import Derived.OwnWalkIn
import Derived.TacticsInMore
import Derived.LoopNIn
import Derived.LoopIn
import Derived.Maps.AppendAt
namespace Go.Proofs.YtajlfmnjibgbaaaGreatDoor.Sets
open Go.RowKit Mem

/-- the byte at a place, nought beyond the end -/
def byteAt (l : List UInt8) (i : Nat) : UInt8 := l[i]?.getD 0
def hasI (l : List UInt8) (n : Int) : Bool := decide (0 ≤ n) && has l n.toNat

set_option maxRecDepth 100000 in
theorem and_one (c j : Nat) (hc : c < 256) : bits .and .u8 ((c : Int) / 2 ^ j) 1 = ((c / 2 ^ j % 2 : Nat) : Int) := by
  have e : ((c : Int) / 2 ^ j) = ((c / 2 ^ j : Nat) : Int) := by rw [Int.natCast_ediv, Int.natCast_pow]; rfl
  have hl : c / 2 ^ j < 256 := Nat.lt_of_le_of_lt (Nat.div_le_self _ _) hc
  rw [e, ← nat_mask1]
  exact u8_and_nat (c / 2 ^ j) 1 hl (by decide)

set_option maxRecDepth 100000 in
set_option maxHeartbeats 1000000 in
theorem has_any (s : ByteArray) (n : Int) (w : World) (hn : n ≤ 9223372036854775807) :
    Calls Tryz.prog 61 #[.string s, .int .i64 n] w fun e w' => e = .returned (.bool (hasI s.data.toList n)) ∧ w' = w := by
  by_cases h0 : 0 ≤ n
  · obtain ⟨m, rfl⟩ := Int.eq_ofNat_of_zero_le h0
    obtain ⟨i, hi⟩ : ∃ z, z = m / 8 := ⟨_, rfl⟩
    obtain ⟨j, hj⟩ : ∃ z, z = m % 8 := ⟨_, rfl⟩
    have ei : (m : Int) / 8 = (i : Int) := by rw [hi]; rfl
    have ej : (m : Int) % 8 = (j : Int) := by rw [hj]; rfl
    have hi60 : i ≤ 1152921504606846976 := by omega
    have hj8 : j < 8 := by omega
    by_cases hlt : i < s.size
    · have hv : hasI s.data.toList m = decide ((s[i].toNat / 2 ^ j) % 2 = 1) := by
        rw [hasI, decide_eq_true h0, Bool.true_and, has, Int.toNat_natCast, ← hi, ← hj, Array.getElem?_toList, Array.getElem?_eq_getElem hlt]
        exact Nat.testBit_eq_decide_div_mod_eq
      have ea := and_one s[i].toNat j s[i].toNat_lt
      rw [hv]
      replace hi := Lib.hid hi
      replace hj := Lib.hid hj
      clear hv h0
      have h0 : (0 : Int) ≤ (m : Int) := by omega
      go_enter Tryz.func61, Tryz.ntmps61
      go_wp2_with fail
      go_ret
      refine ⟨?_, rfl⟩
      show Ending.returned (Value.bool (((s[i].toNat / 2 ^ j % 2 : Nat) : Int) == 1)) = _
      refine congrArg (fun b => Ending.returned (Value.bool b)) ?_
      rw [Bool.eq_iff_iff]
      simp only [beq_iff_eq, decide_eq_true_eq]
      omega
    · have hv : hasI s.data.toList m = false := by
        rw [hasI, has_beyond (by rw [Int.toNat_natCast, ← Lib.size_eq s]; omega), Bool.and_false]
      rw [hv]
      replace hi := Lib.hid hi
      replace hj := Lib.hid hj
      clear hv h0
      have h0 : (0 : Int) ≤ (m : Int) := by omega
      have hd : decide ((i : Int) < (s.size : Int)) = false := decide_eq_false (by omega)
      go_enter Tryz.func61, Tryz.ntmps61
      go_wp2_with fail
      go_ret
      exact ⟨rfl, rfl⟩
  · have hv : hasI s.data.toList n = false := by rw [hasI, decide_eq_false h0, Bool.false_and]
    rw [hv]
    have hd : decide ((0 : Int) ≤ n) = false := decide_eq_false h0
    go_enter Tryz.func61, Tryz.ntmps61
    go_wp2_with fail
    go_ret
    exact ⟨rfl, rfl⟩

set_option maxRecDepth 100000 in
set_option maxHeartbeats 1000000 in
theorem at_any (s : ByteArray) (i : Nat) (w : World) :
    Calls Tryz.prog 106 #[.string s, .int .i64 (i : Int)] w fun e w' => e = .returned (.int .u8 ((byteAt s.data.toList i).toNat : Int)) ∧ w' = w := by
  by_cases hlt : i < s.size
  · have hv : byteAt s.data.toList i = s[i] := by
      rw [byteAt, Array.getElem?_toList, Array.getElem?_eq_getElem hlt]; rfl
    rw [hv]
    go_enter Tryz.func106, Tryz.ntmps106
    go_wp2_with fail
    go_ret
    exact ⟨rfl, rfl⟩
  · have hv : byteAt s.data.toList i = 0 := by
      rw [byteAt, List.getElem?_eq_none (by rw [← Lib.size_eq s]; omega)]; rfl
    rw [hv]
    go_enter Tryz.func106, Tryz.ntmps106
    go_wp2_with fail
    go_ret
    exact ⟨rfl, rfl⟩

set_option maxRecDepth 100000 in
set_option maxHeartbeats 1000000 in
theorem rhas_any (s : ByteArray) (n : Int) (w : World) (hn : n ≤ 9223372036854775807) :
    Calls Tryz.prog 101 #[.string s, .int .i64 n] w fun e w' => e = .returned (.bool (hasI s.data.toList n)) ∧ w' = w := by
  by_cases h0 : 0 ≤ n
  · obtain ⟨m, rfl⟩ := Int.eq_ofNat_of_zero_le h0
    obtain ⟨i, hi⟩ : ∃ z, z = m / 8 := ⟨_, rfl⟩
    obtain ⟨j, hj⟩ : ∃ z, z = m % 8 := ⟨_, rfl⟩
    have ei : (m : Int) / 8 = (i : Int) := by rw [hi]; rfl
    have ej : (m : Int) % 8 = (j : Int) := by rw [hj]; rfl
    have hi60 : i ≤ 1152921504606846976 := by omega
    have hj8 : j < 8 := by omega
    by_cases hlt : i < s.size
    · have hv : hasI s.data.toList m = decide ((s[i].toNat / 2 ^ j) % 2 = 1) := by
        rw [hasI, decide_eq_true h0, Bool.true_and, has, Int.toNat_natCast, ← hi, ← hj, Array.getElem?_toList, Array.getElem?_eq_getElem hlt]
        exact Nat.testBit_eq_decide_div_mod_eq
      rw [hv]
      replace hi := Lib.hid hi
      replace hj := Lib.hid hj
      clear hv h0
      have h0 : (0 : Int) ≤ (m : Int) := by omega
      go_enter Tryz.func101, Tryz.ntmps101
      go_wp2_with fail
      go_ret
      refine ⟨?_, rfl⟩
      show Ending.returned (Value.bool ((wrap64 (s[i].toNat : Int) / 2 ^ j).tmod 2 == 1)) = _
      have hc := s[i].toNat_lt
      rw [IntWalk.wrap64_in _ ⟨by omega, by omega⟩, show ((s[i].toNat : Int) / 2 ^ j).tmod 2 = ((s[i].toNat / 2 ^ j % 2 : Nat) : Int) by rw [show ((s[i].toNat : Int) / 2 ^ j) = ((s[i].toNat / 2 ^ j : Nat) : Int) by rw [Int.natCast_ediv, Int.natCast_pow]; rfl]; rfl]
      refine congrArg (fun b => Ending.returned (Value.bool b)) ?_
      rw [Bool.eq_iff_iff]
      simp only [beq_iff_eq, decide_eq_true_eq]
      omega
    · have hv : hasI s.data.toList m = false := by
        rw [hasI, has_beyond (by rw [Int.toNat_natCast, ← Lib.size_eq s]; omega), Bool.and_false]
      rw [hv]
      replace hi := Lib.hid hi
      replace hj := Lib.hid hj
      clear hv h0
      have h0 : (0 : Int) ≤ (m : Int) := by omega
      have hd : decide ((i : Int) < (s.size : Int)) = false := decide_eq_false (by omega)
      go_enter Tryz.func101, Tryz.ntmps101
      go_wp2_with fail
      go_ret
      exact ⟨rfl, rfl⟩
  · have hv : hasI s.data.toList n = false := by rw [hasI, decide_eq_false h0, Bool.false_and]
    rw [hv]
    have hd : decide ((0 : Int) ≤ n) = false := decide_eq_false h0
    go_enter Tryz.func101, Tryz.ntmps101
    go_wp2_with fail
    go_ret
    exact ⟨rfl, rfl⟩
end Go.Proofs.YtajlfmnjibgbaaaGreatDoor.Sets
/- Sets: what is made of two, byte by byte; without the noughts at the end. -/
namespace Go.Proofs.YtajlfmnjibgbaaaGreatDoor.Sets
open Go.RowKit Mem

set_option maxRecDepth 100000 in
theorem infoByte : (Tryz.prog.info? 5).map (fun i => (i.zero, i.size, i.bytes)) = some (some (.int .u8 0), 1, 1) := by kernel_rfl
def zeros (n : Nat) : Array Value := ⟨List.replicate n (.int .u8 0)⟩
set_option maxRecDepth 100000 in
theorem make_bytes (W : World) (n : Nat) (hn : n ≤ 281474976710656) : (Instr.makeSlice 36 (.int .i64 (n : Int)) (.int .i64 (n : Int))).run Tryz.prog W = .ok (.slice (some ⟨W.heap.size, 0, none⟩) n n) (W.alloc (.cells (zeros n) 5)) := by
  obtain ⟨i0, hi, hz0, hz1, hz2⟩ := info_parts infoByte
  have h := run_make (P := Tryz.prog) (w := W) 36 5 i0 (.int .u8 0) Tryz.underlying36 hi hz0 .i64 .i64 (n : Int) (n : Int) (by omega) (by omega) (by rw [hz2]; omega) (by omega)
  have e : madeCells (Value.int .u8 0).cells (n * 1) = zeros n := by
    rw [Nat.mul_one]
    exact Array.toList_inj.1 (toList_madeCells_one (.int .u8 0) n)
  rw [hz1, Int.toNat_natCast, e] at h
  exact h
/-- the first k bytes lie -/
def rowK (n : Nat) (g : Nat → UInt8) (k : Nat) : List Value := (List.range n).map fun i => .int .u8 (if i < k then ((g i).toNat : Int) else 0)
set_option maxRecDepth 100000 in
theorem rowK_zero (n : Nat) (g : Nat → UInt8) : (⟨rowK n g 0⟩ : Array Value) = zeros n := by
  rw [zeros, rowK]
  congr 1
  apply List.ext_getElem (by simp)
  intro i h1 h2
  simp
set_option maxRecDepth 100000 in
theorem rowK_at (n : Nat) (g : Nat → UInt8) (k : Nat) (hk : k < n) : (⟨rowK n g k⟩ : Array Value)[k]? = some (.int .u8 0) := by
  simp [rowK, hk]
set_option maxRecDepth 100000 in
theorem rowK_full (n : Nat) (g : Nat → UInt8) (j : Nat) (hj : j < n) : (⟨rowK n g n⟩ : Array Value)[j]? = some (.int .u8 ((g j).toNat : Int)) := by
  simp [rowK, hj]
set_option maxRecDepth 100000 in
theorem rowK_step (n : Nat) (g : Nat → UInt8) (k : Nat) : (⟨rowK n g k⟩ : Array Value).setIfInBounds k (.int .u8 ((g k).toNat : Int)) = ⟨rowK n g (k + 1)⟩ := by
  apply Array.ext (by simp [rowK])
  intro i h1 h2
  rw [Array.getElem_setIfInBounds]
  · simp only [rowK, List.getElem_toArray, List.getElem_map, List.getElem_range]
    by_cases hik : k = i
    · subst hik
      simp
    · rw [if_neg hik]
      congr 2
      exact propext ⟨fun h => by omega, fun h => by omega⟩
  · simpa [rowK] using h1

set_option maxRecDepth 100000 in
set_option maxHeartbeats 1000000 in
theorem least_any (l : List UInt8) (B c : Nat) (w : World) (hl : l.length ≤ 9223372036854775807) (hc : ∀ j (hj : j < l.length), w.cell? ⟨B, j, none⟩ = some (.int .u8 (l[j].toNat : Int))) :
    Calls Tryz.prog 84 #[.slice (some ⟨B, 0, none⟩) l.length c] w fun e w' => e = .returned (.string ⟨(least l).toArray⟩) ∧ w' = w := by
  have hcv := run_convert_bytes_back (P := Tryz.prog) w 36 9 5 ⟨B, 0, none⟩ c l Tryz.underlying36 Tryz.underlying5 Tryz.underlying9 (fun j hj => by rw [add_lit, Nat.zero_add]; exact hc j hj)
  have k1 := Lib.hid (Tryz.strings_TrimRight_one ⟨l.toArray⟩ 0 (by decide) w hl)
  clear hc
  go_enter Tryz.func84, Tryz.ntmps84
  go_wp2_with fail
  refine k1.out.mono ?_
  rintro e w2 ⟨rfl, rfl⟩
  go_wp2_with fail
  go_ret
  exact ⟨rfl, rfl⟩

end Go.Proofs.YtajlfmnjibgbaaaGreatDoor.Sets
/- Sets: And, Or, Minus. Printed by gensets.py. -/
namespace Go.Proofs.YtajlfmnjibgbaaaGreatDoor.Sets
open Go.RowKit Mem

/-- what is made of two texts, byte by byte -/
def bin (G : UInt8 → UInt8 → UInt8) (a b : List UInt8) : List UInt8 := least ((List.range (max a.length b.length)).map fun i => G (byteAt a i) (byteAt b i))
set_option maxRecDepth 100000 in
set_option maxHeartbeats 1000000 in
theorem or1_any (x y : UInt8) (w : World) : Calls Tryz.prog 86 #[.int .u8 (x.toNat : Int), .int .u8 (y.toNat : Int)] w fun e w' => e = .returned (.int .u8 ((x ||| y).toNat : Int)) ∧ w' = w := by
  have h : bits .or .u8 (x.toNat : Int) (y.toNat : Int) = ((x ||| y).toNat : Int) := u8_or_nat _ _ x.toNat_lt y.toNat_lt
  go_enter Tryz.func86, Tryz.ntmps86
  go_wp2_with fail
  go_ret
  exact ⟨rfl, rfl⟩

set_option maxRecDepth 100000 in
set_option maxHeartbeats 1000000 in
theorem each_or (a b : ByteArray) (w : World) (ha : a.size ≤ 140737488355328) (hb : b.size ≤ 140737488355328) :
    Calls Tryz.prog 85 #[.string a, .string b, .func (.func 86) #[] #[]] w fun e w' => e = .returned (.string ⟨(least ((List.range (max a.size b.size)).map fun i => (byteAt a.data.toList i) ||| (byteAt b.data.toList i))).toArray⟩) ∧ Below w.heap.size w w' := by
  obtain ⟨n, hn⟩ : ∃ n : Nat, n = max a.size b.size := ⟨_, rfl⟩
  have hni : max (a.size : Int) (b.size : Int) = (n : Int) := by omega
  have hn47 : n ≤ 140737488355328 := by omega
  rw [← hn]
  obtain ⟨G, hG⟩ : ∃ G : Nat → UInt8, G = fun i => (byteAt a.data.toList i) ||| (byteAt b.data.toList i) := ⟨_, rfl⟩
  rw [← hG]
  have k1 := fun (i : Nat) W => at_any a i W
  have k2 := fun (i : Nat) W => at_any b i W
  have k3 := fun (i : Nat) W => or1_any (byteAt a.data.toList i) (byteAt b.data.toList i) W
  have k3 : ∀ (i : Nat) W, Calls Tryz.prog 86 #[.int .u8 ((byteAt a.data.toList i).toNat : Int), .int .u8 ((byteAt b.data.toList i).toNat : Int)] W fun e w' => e = .returned (.int .u8 ((G i).toNat : Int)) ∧ w' = W := by
    intro i W
    rw [hG]
    exact k3 i W
  clear hn hG
  replace k1 := Lib.hid k1
  replace k2 := Lib.hid k2
  replace k3 := Lib.hid k3
  have mk := make_bytes w n (by omega)
  go_enter Tryz.func85, Tryz.ntmps85
  go_wp2_with fail
  have h0 : Blk (w.alloc (.cells (zeros n) 5)) w.heap.size 5 ⟨rowK n G 0⟩ := by rw [rowK_zero]; exact Blk.new w _ _
  have b0 : Below w.heap.size w (w.alloc (.cells (zeros n) 5)) := (Below.refl _ w).alloc (Nat.le_refl _) _
  clear mk
  generalize w.alloc (.cells (zeros n) 5) = w1 at h0 b0 ⊢
  generalize hB : w.heap.size = B at h0 b0 ⊢
  replace hB := Lib.hid hB
  go_loopw [17] (fun y wr => ∃ k : Nat, k ≤ n ∧ y = .int .i64 (k : Int) ∧ Blk wr B 5 ⟨rowK n G k⟩ ∧ Below B w wr) (fun y _ => n - (intOf y).toNat)
  case atStart => exact ⟨0, Nat.zero_le _, rfl, h0, b0⟩
  case round =>
    obtain ⟨k, hk, rfl, hr, hb'⟩ := hrel
    clear h0 b0
    by_cases hlt : k < n
    · have m : wr.cell? ⟨B, k, none⟩ = some (.int .u8 0) := (hr.cell k).trans (rowK_at n G k hlt)
      have f := hr.free k
      have hstep := hr.put k (.int .u8 ((G k).toNat : Int))
      rw [rowK_step] at hstep
      replace hstep := Lib.hid hstep
      replace hb' := Lib.hid hb'
      clear hr
      go_wp2_with fail
      refine (k1.out k _).mono ?_
      rintro en w2 ⟨rfl, rfl⟩
      go_wp2_with fail
      refine (k2.out k _).mono ?_
      rintro en w3 ⟨rfl, rfl⟩
      go_wp2_with fail
      refine (k3.out k _).mono ?_
      rintro en w4 ⟨rfl, rfl⟩
      go_wp2_with fail
      go_roundw
      case rel => exact ⟨k + 1, by omega, by go_num, hstep.out, Below.setCell hb'.out (Nat.le_refl _) _⟩
      case measure => simp [intOf]; omega
    · obtain rfl : k = n := by omega
      have hl : ((List.range k).map G).length = k := by simp
      have c4 := least_any ((List.range k).map G) B k wr (by omega) (fun j hj => by
        rw [hl] at hj
        rw [hr.cell, rowK_full k G j hj]
        simp)
      rw [hl] at c4
      replace c4 := Lib.hid c4
      clear hr hl
      go_wp2_with fail
      refine c4.out.mono ?_
      rintro en w2 ⟨rfl, rfl⟩
      go_wp2_with fail
      go_ret
      exact ⟨rfl, by rw [hB.out]; exact hb'⟩
set_option maxRecDepth 100000 in
set_option maxHeartbeats 1000000 in
theorem or_any (a b : ByteArray) (w : World) (ha : a.size ≤ 140737488355328) (hb : b.size ≤ 140737488355328) :
    Calls Tryz.prog 53 #[.string a, .string b] w fun e w' => e = .returned (.string ⟨(bin (fun x y => x ||| y) a.data.toList b.data.toList).toArray⟩) ∧ Below w.heap.size w w' := by
  have k := each_or a b w ha hb
  rw [Lib.size_eq a, Lib.size_eq b] at k
  have k : Calls Tryz.prog 85 #[.string a, .string b, .func (.func 86) #[] #[]] w fun e w' => e = .returned (.string ⟨(bin (fun x y => x ||| y) a.data.toList b.data.toList).toArray⟩) ∧ Below w.heap.size w w' := k
  generalize (⟨(bin (fun x y => x ||| y) a.data.toList b.data.toList).toArray⟩ : ByteArray) = R at k ⊢
  replace k := Lib.hid k
  go_enter Tryz.func53, Tryz.ntmps53
  go_wp2_with fail
  refine k.out.mono ?_
  rintro e w2 ⟨rfl, hb⟩
  go_wp2_with fail
  go_ret
  exact ⟨rfl, hb⟩

end Go.Proofs.YtajlfmnjibgbaaaGreatDoor.Sets
/- Sets: Of, the program's: is a number out of bounds. -/
namespace Go.Proofs.YtajlfmnjibgbaaaGreatDoor.Sets
open Go.RowKit Mem

/-- may a number not be in a set -/
def bad (x : Int) : Bool := decide (x < 0) || decide (65535 < x)

set_option maxRecDepth 100000 in
set_option maxHeartbeats 1000000 in
theorem of1_any (x : Int) (w : World) : Calls Tryz.prog 82 #[.int .i64 x] w fun e w' => e = .returned (.bool (bad x)) ∧ w' = w := by
  by_cases h : x < 0
  · rw [show bad x = true by rw [bad, decide_eq_true h, Bool.true_or]]
    go_enter Tryz.func82, Tryz.ntmps82
    go_wp2_with fail
    go_ret
    exact ⟨rfl, rfl⟩
  · by_cases h2 : 65535 < x
    · rw [show bad x = true by rw [bad, decide_eq_true h2, Bool.or_true]]
      go_enter Tryz.func82, Tryz.ntmps82
      go_wp2_with fail
      go_ret
      exact ⟨rfl, rfl⟩
    · rw [show bad x = false by rw [bad, decide_eq_false h, decide_eq_false h2]; rfl]
      go_enter Tryz.func82, Tryz.ntmps82
      go_wp2_with fail
      go_ret
      exact ⟨rfl, rfl⟩

set_option maxRecDepth 100000 in
theorem getMap_int {l : List Int} {k : Nat} {u : Value} (h : (l.map (Value.int .i64))[k]? = some u) : ∃ x, l[k]? = some x ∧ u = .int .i64 x := by
  rw [List.getElem?_map] at h
  cases hx : l[k]? with
  | none => rw [hx] at h; cases h
  | some x => rw [hx] at h; exact ⟨x, rfl, by injection h with h; exact h.symm⟩

set_option maxRecDepth 100000 in
set_option maxHeartbeats 1000000 in
theorem indexf_any (A : Option Addr) (n c : Nat) (l : List Int) (w : World) (hr : Row w A n (l.map (Value.int .i64))) (hn : n ≤ 9223372036854775807) :
    Calls Tryz.prog 104 #[.slice A n c, .func (.func 82) #[] #[]] w fun e w' => ∃ r : Int, e = .returned (.int .i64 r) ∧ (0 ≤ r ↔ l.any bad = true) ∧ w' = w := by
  have hln : l.length = n := by have := hr.1; simpa using this
  replace hln := Lib.hid hln
  go_enter Tryz.func104, Tryz.ntmps104
  go_wp2_with fail
  go_loop [8] (fun y => ∃ k : Nat, k ≤ n ∧ y = .int .i64 (k : Int) ∧ (l.take k).any bad = false) (fun y => n - (intOf y).toNat)
  case atStart => exact ⟨0, Nat.zero_le _, rfl, rfl⟩
  case round =>
    obtain ⟨k, hk, rfl, hno⟩ := hrel
    replace hno := Lib.hid hno
    by_cases hlt : k < n
    · obtain ⟨ad, u, rfl, hu, hc⟩ := hr.at_ hlt
      obtain ⟨x, hx, rfl⟩ := getMap_int hu
      have k1 := of1_any x w
      by_cases hb : bad x = true
      · rw [hb] at k1
        replace k1 := Lib.hid k1
        replace hb := Lib.hid hb
        replace hx := Lib.hid hx
        replace hr := Lib.hid hr
        clear hu
        go_wp2_with fail
        refine k1.out.mono ?_
        rintro e w2 ⟨rfl, rfl⟩
        go_wp2_with fail
        go_ret
        refine ⟨(k : Int), rfl, ⟨fun _ => ?_, fun _ => by omega⟩, rfl⟩
        exact List.any_eq_true.2 ⟨x, List.mem_of_getElem? hx.out, hb.out⟩
      · have hb' : bad x = false := by simpa using hb
        rw [hb'] at k1
        have hno2 : (l.take (k + 1)).any bad = false := by
          rw [List.take_add_one, hx, List.any_append, hno.out]
          simpa using hb'
        replace hno2 := Lib.hid hno2
        replace k1 := Lib.hid k1
        clear hu hb hb' hx
        go_wp2_with fail
        refine k1.out.mono ?_
        rintro e w2 ⟨rfl, rfl⟩
        go_wp2_with fail
        go_round
        case rel => exact ⟨k + 1, by omega, by go_num, hno2.out⟩
        case measure => simp [intOf]; omega
    · obtain rfl : k = n := by omega
      have hall : l.any bad = false := by
        have := hno.out
        rwa [List.take_of_length_le (by rw [hln.out]; exact Nat.le_refl _)] at this
      replace hall := Lib.hid hall
      replace hr := Lib.hid hr
      go_wp2_with fail
      go_ret
      refine ⟨-1, rfl, ⟨fun h => absurd h (by decide), fun h => ?_⟩, rfl⟩
      obtain ⟨x, h1, h2⟩ := h
      exact absurd h2 (List.any_eq_false.1 hall.out x h1)

set_option maxRecDepth 100000 in
set_option maxHeartbeats 1000000 in
theorem contains_any (A : Option Addr) (n c : Nat) (l : List Int) (w : World) (hr : Row w A n (l.map (Value.int .i64))) (hn : n ≤ 9223372036854775807) :
    Calls Tryz.prog 81 #[.slice A n c, .func (.func 82) #[] #[]] w fun e w' => e = .returned (.bool (l.any bad)) ∧ w' = w := by
  have k1 := Lib.hid (indexf_any A n c l w hr hn)
  clear hr
  go_enter Tryz.func81, Tryz.ntmps81
  go_wp2_with fail
  refine k1.out.mono ?_
  rintro e w2 ⟨r, rfl, hiff, rfl⟩
  replace hiff := Lib.hid hiff
  go_wp2_with fail
  go_ret
  refine ⟨?_, rfl⟩
  show Ending.returned (Value.bool (decide (0 ≤ r))) = _
  refine congrArg (fun b => Ending.returned (Value.bool b)) ?_
  rw [Bool.eq_iff_iff, decide_eq_true_eq]
  exact hiff.out
end Go.Proofs.YtajlfmnjibgbaaaGreatDoor.Sets
/- Sets: Of, the program's. -/
namespace Go.Proofs.YtajlfmnjibgbaaaGreatDoor.Sets
open Go.RowKit Mem

/-- how many bytes the text of these numbers has -/
def lenOf (l : List Nat) : Nat := l.foldl (fun m x => max m (x / 8 + 1)) 0
/-- the text of numbers -/
def ofL (l : List Nat) : List UInt8 := mk (lenOf l) fun m => decide (m ∈ l)

set_option maxRecDepth 100000 in
set_option maxHeartbeats 1000000 in
theorem of_bad (A : Option Addr) (n c : Nat) (l : List Int) (w : World) (hr : Row w A n (l.map (Value.int .i64))) (hn : n ≤ 9223372036854775807) (hb : l.any bad = true) :
    Calls Tryz.prog 52 #[.slice A n c] w fun e w' => e = .returned (.tuple #[.string ⟨#[]⟩, .int .i64 10]) ∧ w' = w := by
  have k1 := contains_any A n c l w hr hn
  rw [hb] at k1
  replace k1 := Lib.hid k1
  clear hr hb
  go_enter Tryz.func52, Tryz.ntmps52
  go_wp2_with fail
  refine k1.out.mono ?_
  rintro e w2 ⟨rfl, rfl⟩
  go_wp2_with fail
  go_ret2
  exact ⟨rfl, rfl⟩

set_option maxRecDepth 100000 in
theorem lenOf_max {l : List Nat} {m : Nat} (hm : m ∈ l) (h : ∀ x ∈ l, x ≤ m) : lenOf l = m / 8 + 1 := by
  have key : ∀ (l : List Nat) (a : Nat), l.foldl (fun m x => max m (x / 8 + 1)) a = a ∨ (∃ x ∈ l, l.foldl (fun m x => max m (x / 8 + 1)) a = x / 8 + 1) := by
    intro l
    induction l with
    | nil => intro a; exact Or.inl rfl
    | cons y l ih =>
      intro a
      rw [List.foldl_cons]
      rcases ih (max a (y / 8 + 1)) with h1 | ⟨x, hx, h1⟩
      · rw [h1]
        rcases Nat.le_total a (y / 8 + 1) with h2 | h2
        · exact Or.inr ⟨y, List.mem_cons_self, Nat.max_eq_right h2⟩
        · exact Or.inl (Nat.max_eq_left h2)
      · exact Or.inr ⟨x, List.mem_cons_of_mem _ hx, h1⟩
  have low : ∀ (l : List Nat) (a : Nat), a ≤ l.foldl (fun m x => max m (x / 8 + 1)) a ∧ ∀ x ∈ l, x / 8 + 1 ≤ l.foldl (fun m x => max m (x / 8 + 1)) a := by
    intro l
    induction l with
    | nil => intro a; exact ⟨Nat.le_refl _, fun x hx => by cases hx⟩
    | cons y l ih =>
      intro a
      rw [List.foldl_cons]
      obtain ⟨h1, h2⟩ := ih (max a (y / 8 + 1))
      refine ⟨by omega, fun x hx => ?_⟩
      rcases List.mem_cons.1 hx with rfl | hx
      · omega
      · exact h2 x hx
  have h1 := (low l 0).2 m hm
  rcases key l 0 with h2 | ⟨x, hx, h2⟩
  · unfold lenOf; omega
  · have := h x hx
    unfold lenOf
    omega
def cellsOf (l : List UInt8) : List Value := l.map fun c => .int .u8 (c.toNat : Int)
set_option maxRecDepth 100000 in
theorem cells_at {l : List UInt8} {i : Nat} {c : UInt8} (h : l[i]? = some c) : (⟨cellsOf l⟩ : Array Value)[i]? = some (.int .u8 (c.toNat : Int)) := by
  rw [List.getElem?_toArray, cellsOf, List.getElem?_map, h]; rfl
set_option maxRecDepth 100000 in
theorem cells_put {l : List UInt8} {x : Nat} {c : UInt8} (h : l[x / 8]? = some c) : (⟨cellsOf l⟩ : Array Value).setIfInBounds (x / 8) (.int .u8 ((c ||| UInt8.ofNat (2 ^ (x % 8))).toNat : Int)) = ⟨cellsOf (put l x)⟩ := by
  apply Array.toList_inj.1
  rw [Array.toList_setIfInBounds]
  rw [put, h, cellsOf, cellsOf, List.map_set]
  rfl
set_option maxRecDepth 100000 in
theorem or_put (c : UInt8) (j : Nat) (hj : j < 8) : bits .or .u8 (c.toNat : Int) ((2 ^ j : Nat) : Int) = ((c ||| UInt8.ofNat (2 ^ j)).toNat : Int) := by
  have h : 2 ^ j < 2 ^ 8 := Nat.pow_lt_pow_right (by decide) hj
  rw [u8_or_nat _ _ c.toNat_lt h, UInt8.toNat_or, bit_toNat j hj]
set_option maxRecDepth 100000 in
theorem spot_none {w : World} {a : Addr} {u : Value} (h : w.cell? a = some u) : a.spot = none := by
  unfold World.cell? at h
  split at h
  · cases hs : a.spot with
    | none => rfl
    | some x => simp [hs] at h
  · simp at h
set_option maxRecDepth 100000 in
theorem maxOf_mem {l : List Int} (h : l ≠ []) : Lib.maxOf l ∈ l ∧ ∀ x ∈ l, x ≤ Lib.maxOf l := by
  have key : ∀ (l : List Int) (m : Int), (l.foldl max m = m ∨ l.foldl max m ∈ l) ∧ m ≤ l.foldl max m ∧ ∀ x ∈ l, x ≤ l.foldl max m := by
    intro l
    induction l with
    | nil => intro m; exact ⟨Or.inl rfl, Int.le_refl _, fun x hx => by cases hx⟩
    | cons y l ih =>
      intro m
      obtain ⟨h1, h2, h3⟩ := ih (max m y)
      rw [List.foldl_cons]
      refine ⟨?_, by omega, fun x hx => ?_⟩
      · rcases h1 with h1 | h1
        · rw [h1]
          rcases Int.le_total m y with h | h
          · right; rw [Int.max_eq_right h]; exact List.mem_cons_self
          · left; exact Int.max_eq_left h
        · right; exact List.mem_cons_of_mem _ h1
      · rcases List.mem_cons.1 hx with rfl | hx
        · omega
        · exact h3 x hx
  cases l with
  | nil => exact absurd rfl h
  | cons y l =>
    obtain ⟨h1, h2, h3⟩ := key (y :: l) y
    refine ⟨?_, h3⟩
    rcases h1 with h1 | h1
    · show (y :: l).foldl max y ∈ y :: l
      rw [h1]; exact List.mem_cons_self
    · exact h1

set_option maxRecDepth 100000 in
set_option maxHeartbeats 1000000 in
theorem of_nil (A : Option Addr) (c : Nat) (w : World) :
    Calls Tryz.prog 52 #[.slice A 0 c] w fun e w' => e = .returned (.tuple #[.string ⟨#[]⟩, .int .i64 0]) ∧ w' = w := by
  have k1 := Lib.hid (contains_any A 0 c [] w (Row.nil_ A) (by decide))
  go_enter Tryz.func52, Tryz.ntmps52
  go_wp2_with fail
  refine k1.out.mono ?_
  rintro e w2 ⟨rfl, rfl⟩
  go_wp2_with fail
  go_ret2
  exact ⟨rfl, rfl⟩

set_option maxRecDepth 100000 in
set_option maxHeartbeats 1000000 in
theorem of_some (A : Option Addr) (n c : Nat) (l : List Int) (w : World) (hr : Row w A n (l.map (Value.int .i64))) (hn : n ≤ 9223372036854775807) (h0 : 0 < n) (hok : l.any bad = false) :
    Calls Tryz.prog 52 #[.slice A n c] w fun e w' => e = .returned (.tuple #[.string ⟨(ofL (l.map Int.toNat)).toArray⟩, .int .i64 0]) ∧ Below w.heap.size w w' := by
  have hln : l.length = n := by have := hr.1; simpa using this
  have k1 := contains_any A n c l w hr hn
  rw [hok] at k1
  obtain ⟨ad, u, rfl, hu, hc⟩ := hr.at_ h0
  have hsp : ad.spot = none := by
    have := spot_none hc
    unfold Addr.add at this
    simpa using this
  obtain ⟨b, off, sp⟩ := ad
  obtain rfl : sp = none := hsp
  have k2 := Tryz.slices_Max_int b off n c l w h0 (by omega) hn (fun j hj => by
    obtain ⟨ad, ha, hcell⟩ := hr.2 j (.int .i64 (l[j]'hj)) (by rw [List.getElem?_map, List.getElem?_eq_getElem hj]; rfl)
    injection ha with ha
    rw [← ha, add_lit] at hcell
    rw [hcell, List.getD_eq_getElem?_getD, List.getElem?_eq_getElem hj]
    rfl)
  rw [List.take_of_length_le (by omega)] at k2
  obtain ⟨hmem, hmax⟩ := maxOf_mem (l := l) (by intro h; rw [h] at hln; simp at hln; omega)
  generalize Lib.maxOf l = M at k2 hmem hmax
  have hM : 0 ≤ M ∧ M ≤ 65535 := by
    have := List.any_eq_false.1 hok M hmem
    simp only [bad, Bool.or_eq_true, decide_eq_true_eq, not_or] at this
    omega
  obtain ⟨m, rfl⟩ := Int.eq_ofNat_of_zero_le hM.1
  have hm : m ≤ 65535 := by omega
  have hmi : (m : Int) / 8 = ((m / 8 : Nat) : Int) := rfl
  obtain ⟨q, hq⟩ : ∃ q, q = m / 8 + 1 := ⟨_, rfl⟩
  have hqi : (m : Int) / 8 + 1 = (q : Int) := by rw [hq]; omega
  have hq13 : q ≤ 8192 := by omega
  have mk1 := make_bytes w q (by omega)
  replace k1 := Lib.hid k1
  replace k2 := Lib.hid k2
  replace hr := Lib.hid hr
  replace hmax := Lib.hid hmax
  replace hmem := Lib.hid hmem
  replace hln := Lib.hid hln
  replace hok := Lib.hid hok
  replace hq := Lib.hid hq
  clear hu hc hM hmi
  go_enter Tryz.func52, Tryz.ntmps52
  go_wp2_with fail
  refine k1.out.mono ?_
  rintro e w2 ⟨rfl, rfl⟩
  go_wp2_with fail
  refine k2.out.mono ?_
  rintro e w3 ⟨rfl, rfl⟩
  go_wp2_with fail
  generalize hB : w3.heap.size = B
  have h0' : Blk (w3.alloc (.cells (zeros q) 5)) B 5 ⟨cellsOf (mk q fun m => decide (m ∈ (l.take 0).map Int.toNat))⟩ := by
    rw [← hB]
    have e : (⟨cellsOf (mk q fun m => decide (m ∈ (l.take 0).map Int.toNat))⟩ : Array Value) = zeros q := by
      rw [mk_congr (p' := fun _ => false) (fun m _ => by simp), mk_none, cellsOf, zeros]
      simp
    rw [e]
    exact Blk.new w3 _ _
  have b0 : Below w3.heap.size w3 (w3.alloc (.cells (zeros q) 5)) := (Below.refl _ w3).alloc (Nat.le_refl _) _
  rw [hB] at b0
  clear mk1
  generalize w3.alloc (.cells (zeros q) 5) = w4 at h0' b0 ⊢
  replace hB := Lib.hid hB
  go_loopw [19] (fun y wr => ∃ k : Nat, k ≤ n ∧ y = .int .i64 (k : Int) ∧ Blk wr B 5 ⟨cellsOf (mk q fun m => decide (m ∈ (l.take k).map Int.toNat))⟩ ∧ Below B w3 wr) (fun y _ => n - (intOf y).toNat)
  case atStart => exact ⟨0, Nat.zero_le _, rfl, h0', b0⟩
  case round =>
    obtain ⟨k, hk, rfl, hblk, hbel⟩ := hrel
    clear h0' b0
    by_cases hlt : k < n
    · obtain ⟨ad, u, ha, hu, hc⟩ := (hr.out.below (by rw [hB.out]; exact hbel)).at_ hlt
      injection ha with ha
      rw [← ha, add_lit] at hc
      obtain ⟨X, hX, rfl⟩ := getMap_int hu
      have hXb : 0 ≤ X ∧ X ≤ m := by
        have h1 := List.any_eq_false.1 hok.out X (List.mem_of_getElem? hX)
        simp only [bad, Bool.or_eq_true, decide_eq_true_eq, not_or] at h1
        exact ⟨by omega, hmax.out X (List.mem_of_getElem? hX)⟩
      obtain ⟨x, rfl⟩ := Int.eq_ofNat_of_zero_le hXb.1
      obtain ⟨i, hi⟩ : ∃ z, z = x / 8 := ⟨_, rfl⟩
      obtain ⟨j, hj⟩ : ∃ z, z = x % 8 := ⟨_, rfl⟩
      have ei : (x : Int) / 8 = (i : Int) := by rw [hi]; rfl
      have ej : (x : Int) % 8 = (j : Int) := by rw [hj]; rfl
      have hiq : i < q := by rw [hi, hq.out]; omega
      have hj8 : j < 8 := by omega
      obtain ⟨cb, hcb⟩ : ∃ cb, (mk q fun m => decide (m ∈ (l.take k).map Int.toNat))[i]? = some cb := ⟨_, List.getElem?_eq_getElem (by rw [mk_length]; exact hiq)⟩
      have mB : wr.cell? ⟨B, i, none⟩ = some (.int .u8 (cb.toNat : Int)) := (hblk.cell i).trans (cells_at hcb)
      have fB := hblk.free i
      have hstep : Blk (wr.setCell ⟨B, i, none⟩ (.int .u8 ((cb ||| UInt8.ofNat (2 ^ j)).toNat : Int))) B 5 ⟨cellsOf (mk q fun m => decide (m ∈ (l.take (k + 1)).map Int.toNat))⟩ := by
        have h := hblk.put i (.int .u8 ((cb ||| UInt8.ofNat (2 ^ j)).toNat : Int))
        rw [hi] at hcb h ⊢
        rw [hj] at h ⊢
        rw [cells_put hcb, mk_put _ _ _ (by rw [← hi]; exact hiq)] at h
        have hp : mk q (fun m => decide (m ∈ (l.take (k + 1)).map Int.toNat)) = mk q (fun m => decide (m ∈ (l.take k).map Int.toNat) || m == x) := mk_congr fun y _ => by
          rw [Bool.eq_iff_iff, Bool.or_eq_true, decide_eq_true_eq, decide_eq_true_eq, beq_iff_eq, List.take_add_one, hX, List.map_append, List.mem_append]
          simp
        rw [hp]
        exact h
      have mo := or_put cb j hj8
      have hp2 : ((2 ^ j : Nat) : Int) = 2 ^ j := by rw [Int.natCast_pow]; rfl
      rw [hp2] at mo
      have hsh : IntKind.u8.wrap (2 ^ j) = 2 ^ j := by
        have h : 2 ^ j < 2 ^ 8 := Nat.pow_lt_pow_right (by decide) hj8
        rw [← hp2, IntKind.wrap_u8]
        generalize 2 ^ j = P at h ⊢
        omega
      have hbel' : Below B w3 (wr.setCell ⟨B, i, none⟩ (.int .u8 ((cb ||| UInt8.ofNat (2 ^ j)).toNat : Int))) := hbel.setCell (Nat.le_refl _) _
      obtain ⟨cc, hcc⟩ : ∃ cc : UInt8, cc = cb ||| UInt8.ofNat (2 ^ j) := ⟨_, rfl⟩
      rw [← hcc] at hstep mo hbel'
      replace hcc := Lib.hid hcc
      have hiq' : (i : Int) < (q : Int) := by omega
      have hwi : IntKind.i64.wrap (i : Int) = (i : Int) := IntWalk.i64_in _ ⟨by omega, by omega⟩
      have ej2 : (x : Int).tmod 8 = (j : Int) := by rw [Int.tmod_eq_emod_of_nonneg (by omega)]; exact ej
      replace hi := Lib.hid hi
      replace hj := Lib.hid hj
      replace hX := Lib.hid hX
      replace hstep := Lib.hid hstep
      replace hbel' := Lib.hid hbel'
      replace hp2 := Lib.hid hp2
      replace hbel := Lib.hid hbel
      clear hblk hu hcb ha hXb hp2
      go_wp2_with fail
      go_still_tail 10, (by kernel_rfl)
      change wpList _ _ _ _ _ wr.drew
      go_wp2_with fail
      go_roundw
      case rel => exact ⟨k + 1, by omega, by go_num, hstep.out, hbel'.out.drew⟩
      case measure => simp [intOf]; omega
    · obtain rfl : k = n := by omega
      have htk : l.take k = l := List.take_of_length_le (by rw [hln.out]; exact Nat.le_refl _)
      rw [htk] at hblk
      have hlen : (mk q fun m => decide (m ∈ l.map Int.toNat)).length = q := mk_length _ _
      have c4 := least_any (mk q fun m => decide (m ∈ l.map Int.toNat)) B q wr (by rw [hlen]; omega) (fun j hj => (hblk.cell j).trans (cells_at (List.getElem?_eq_getElem hj)))
      have hls : least (mk q fun m => decide (m ∈ l.map Int.toNat)) = mk q fun m => decide (m ∈ l.map Int.toNat) :=
        mk_least (m := m) hq.out.symm (decide_eq_true (List.mem_map.2 ⟨(m : Int), hmem.out, Int.toNat_natCast m⟩))
      have hlo : lenOf (l.map Int.toNat) = q := by
        rw [hq.out]
        exact lenOf_max (List.mem_map.2 ⟨(m : Int), hmem.out, Int.toNat_natCast m⟩) (fun x hx => by
          obtain ⟨y, hy, rfl⟩ := List.mem_map.1 hx
          have := hmax.out y hy
          omega)
      have hof : ofL (l.map Int.toNat) = mk q fun m => decide (m ∈ l.map Int.toNat) := by rw [ofL, hlo]
      rw [hlen, hls, ← hof] at c4
      generalize hT : (⟨(ofL (l.map Int.toNat)).toArray⟩ : ByteArray) = T at c4
      replace hT := Lib.hid hT
      replace c4 := Lib.hid c4
      clear hblk hlen hls hlo hof htk
      go_wp2_with fail
      refine c4.out.mono ?_
      rintro e w5 ⟨rfl, rfl⟩
      go_wp2_with fail
      go_ret2
      exact ⟨by rw [hT.out]; rfl, by rw [hB.out]; exact hbel⟩
end Go.Proofs.YtajlfmnjibgbaaaGreatDoor.Sets
/- Sets: Of, the document's. -/
namespace Go.Proofs.YtajlfmnjibgbaaaGreatDoor.Sets
open Go.RowKit Mem

set_option maxRecDepth 100000 in
/-- a store into a row of one's own -/
theorem own_put {w : World} {base g n cap i : Nat} {e : TypeId} {xs : List Value} {u : Value} (h : w.ownsRow base e 1 (.slice (some ⟨g, 0, none⟩) n cap) n xs) :
    (w.setCell ⟨g, i, none⟩ u).ownsRow base e 1 (.slice (some ⟨g, 0, none⟩) n cap) n (xs.set i u) ∧ w.frozen? ⟨g, i, none⟩ = false := by
  obtain ⟨h1, ⟨h2, _⟩ | ⟨g', cap', cur, hv, hb, hg, hnc, hm, hs, ht⟩⟩ := h
  · cases h2
  · injection hv with hv1 _ hv2
    injection hv1 with hv1
    obtain rfl : g = g' := congrArg Addr.block hv1
    obtain rfl : cap = cap' := hv2
    refine ⟨⟨by rw [List.length_set]; exact h1, Or.inr ⟨g, cap, cur.setIfInBounds i u, rfl, hb, heap_setCell_same w g i cur e u hg, hnc, hm, by rw [Array.size_setIfInBounds]; exact hs, ?_⟩⟩, frozen_of_row w g i cur e hg⟩
    rw [Array.toList_setIfInBounds, ← ht, List.take_set]
set_option maxRecDepth 100000 in
theorem own_slice {w : World} {base n : Nat} {e : TypeId} {v : Value} {xs : List Value} (h : w.ownsRow base e 1 v n xs) : ∃ A c, v = .slice A n c := by
  obtain ⟨_, ⟨h2, h3⟩ | ⟨g, cap, _, hv, _⟩⟩ := h
  · subst h3; exact ⟨_, _, h2⟩
  · exact ⟨_, _, hv⟩
set_option maxRecDepth 100000 in
theorem lenOf_mem {l : List Nat} {x : Nat} (h : x ∈ l) : x / 8 < lenOf l := by
  have low : ∀ (l : List Nat) (a : Nat), a ≤ l.foldl (fun m x => max m (x / 8 + 1)) a ∧ ∀ x ∈ l, x / 8 + 1 ≤ l.foldl (fun m x => max m (x / 8 + 1)) a := by
    intro l
    induction l with
    | nil => intro a; exact ⟨Nat.le_refl _, fun x hx => by cases hx⟩
    | cons y l ih =>
      intro a
      rw [List.foldl_cons]
      obtain ⟨h1, h2⟩ := ih (max a (y / 8 + 1))
      refine ⟨by omega, fun x hx => ?_⟩
      rcases List.mem_cons.1 hx with rfl | hx
      · omega
      · exact h2 x hx
  exact (low l 0).2 x h

end Go.Proofs.YtajlfmnjibgbaaaGreatDoor.Sets
/- Sets: Of, both, of any numbers. -/
namespace Go.Proofs.YtajlfmnjibgbaaaGreatDoor.Sets
open Go.RowKit Mem

/-- what Of answers -/
def ofOut (l : List Int) : List UInt8 × Int := if l.any bad = true then ([], 10) else (ofL (l.map Int.toNat), 0)
set_option maxRecDepth 100000 in
theorem of_out (A : Option Addr) (n c : Nat) (l : List Int) (w : World) (hr : Row w A n (l.map (Value.int .i64))) (hn : n ≤ 9223372036854775807) :
    Calls Tryz.prog 52 #[.slice A n c] w fun e w' => e = .returned (.tuple #[.string ⟨(ofOut l).1.toArray⟩, .int .i64 (ofOut l).2]) ∧ Below w.heap.size w w' := by
  by_cases hb : l.any bad = true
  · rw [ofOut, if_pos hb]
    exact (of_bad A n c l w hr hn hb).mono fun e w' ⟨h1, h2⟩ => ⟨h1, by rw [h2]; exact Below.refl _ _⟩
  · have hok : l.any bad = false := by simpa using hb
    rw [ofOut, if_neg hb]
    by_cases h0 : 0 < n
    · exact of_some A n c l w hr hn h0 hok
    · obtain rfl : n = 0 := by omega
      have hl : l = [] := by
        have := hr.1
        simpa using this
      rw [hl]
      exact (of_nil A c w).mono fun e w' ⟨h1, h2⟩ => ⟨h1, by rw [h2]; exact Below.refl _ _⟩
end Go.Proofs.YtajlfmnjibgbaaaGreatDoor.Sets
/- Sets: the document's Same (the text of the wire seat's), List. -/
namespace Go.Proofs.YtajlfmnjibgbaaaGreatDoor.Sets
open Go.RowKit Mem

set_option maxRecDepth 100000 in
theorem take_snoc_of {l : List Int} {k : Nat} {x : Int} (h : l[k]? = some x) : l.take (k + 1) = l.take k ++ [x] := by
  rw [List.take_add_one, h]; rfl
/-- Same: two rows of numbers -/
def SamePost (w : World) (xs ys : List Int) (e : Ending) (w' : World) : Prop := e = .returned (.bool (decide (xs = ys))) ∧ ∃ q, w' = w.drewN q

set_option maxRecDepth 100000 in
set_option maxHeartbeats 2000000 in
theorem same_any (A B : Option Addr) (n m c d : Nat) (xs ys : List Int) (w : World) (hx : Row w A n (xs.map (Value.int .i64))) (hy : Row w B m (ys.map (Value.int .i64))) (hn : n ≤ 9223372036854775807) :
    Calls Tryz.prog 23 #[.slice A n c, .slice B m d] w (SamePost w xs ys) := by
  have hxl := Lib.hid (show xs.length = n by simpa using hx.1)
  have hyl := Lib.hid (show ys.length = m by simpa using hy.1)
  by_cases hnm : n = m
  · subst hnm
    have hne : ((n : Int) != (n : Int)) = false := by simp
    go_enter Tryz.func23, Tryz.ntmps23
    go_wp2_with fail
    go_loopw [5] (fun i wr => ∃ k q : Nat, k ≤ n ∧ i = .int .i64 (k : Int) ∧ xs.take k = ys.take k ∧ wr = w.drewN q) (fun i _ => n - (intOf i).toNat)
    case atStart => exact ⟨0, 0, Nat.zero_le _, rfl, by simp, rfl⟩
    case round =>
      obtain ⟨k, q, hk, rfl, hpre, rfl⟩ := hrel
      have hpre' := Lib.hid hpre
      clear hpre
      by_cases hlt : k < n
      · obtain ⟨ad, u, rfl, hu, hc⟩ := hx.at_ hlt
        obtain ⟨bd, v, rfl, hv, hd⟩ := hy.at_ hlt
        obtain ⟨x, hx1, rfl⟩ := getMap_int hu
        obtain ⟨y, hy1, rfl⟩ := getMap_int hv
        have hx2 := Lib.hid hx1
        have hy2 := Lib.hid hy1
        have hk0 : (0 : Int) ≤ (k : Int) := by omega
        have hkI : (k : Int) < (n : Int) := by omega
        clear hx1 hy1 hu hv
        by_cases hxy : x = y
        · subst hxy
          have hbne : (x != x) = false := by simp
          go_wp2_with fail
          go_quiet (fail)
          go_wp2_with fail
          go_roundw
          case rel => exact ⟨k + 1, _, by omega, by go_num, by rw [take_snoc_of hx2.out, take_snoc_of hy2.out, hpre'.out], rfl⟩
          case measure => simp [intOf]; omega
        · have hbne : (x != y) = true := by simpa using hxy
          have hxy' := Lib.hid hxy
          clear hxy
          go_wp2_with fail
          go_quiet (fail)
          go_wp2_with fail
          go_ret
          refine ⟨?_, _, World.drewN_drewN _ _ _⟩
          have : ¬ xs = ys := fun h => hxy'.out (by have h1 := hx2.out; rw [h, hy2.out] at h1; exact (Option.some.inj h1).symm)
          simp only [this, decide_false]
          rfl
      · obtain rfl : k = n := by omega
        go_wp2_with fail
        go_ret
        refine ⟨?_, _, rfl⟩
        have h1 := hpre'.out
        rw [List.take_of_length_le (by rw [hxl.out]; exact Nat.le_refl _), List.take_of_length_le (by rw [hyl.out]; exact Nat.le_refl _)] at h1
        simp only [h1, decide_true]
        rfl
  · have hne : ((n : Int) != (m : Int)) = true := by simp; omega
    have hnm' := Lib.hid hnm
    clear hnm
    go_enter Tryz.func23, Tryz.ntmps23
    go_wp2_with fail
    go_ret
    refine ⟨?_, 0, rfl⟩
    have : ¬ xs = ys := fun h => hnm'.out (by rw [← hxl.out, ← hyl.out, h])
    simp only [this, decide_false]
    rfl
end Go.Proofs.YtajlfmnjibgbaaaGreatDoor.Sets
/- Sets: the document's List. -/
namespace Go.Proofs.YtajlfmnjibgbaaaGreatDoor.Sets
open Go.RowKit Mem

/-- the numbers of a text below a bound, the least first -/
def elemsTo (l : List UInt8) (n : Nat) : List Int := ((List.range n).filter (has l)).map Int.ofNat
def elems (l : List UInt8) : List Int := elemsTo l (8 * l.length)
set_option maxRecDepth 100000 in
theorem infoInt : (Tryz.prog.info? 3).map (fun i => (i.zero, i.size, i.bytes)) = some (some (.int .i64 0), 1, 8) := by kernel_rfl

end Go.Proofs.YtajlfmnjibgbaaaGreatDoor.Sets
/- Sets: the iterator over a text's numbers. -/
namespace Go.Proofs.YtajlfmnjibgbaaaGreatDoor.Sets
open Go.RowKit Go.Shelf Mem

attribute [local go_sem] Oper.semAt_some

end Go.Proofs.YtajlfmnjibgbaaaGreatDoor.Sets
/- Sets: List and Count, out of the iterator. -/
namespace Go.Proofs.YtajlfmnjibgbaaaGreatDoor.Sets
open Go.RowKit Go.Shelf Mem

attribute [local go_sem] Oper.semAt_some

set_option maxRecDepth 100000 in
theorem own_base {w : World} {b b' n : Nat} {e : TypeId} {v : Value} {xs : List Value} (h : w.ownsRow b' e 1 v n xs) (hb : b ≤ b') : w.ownsRow b e 1 v n xs := by
  obtain ⟨h1, h2 | ⟨g, cap, cur, hv, hg, h3⟩⟩ := h
  · exact ⟨h1, Or.inl h2⟩
  · exact ⟨h1, Or.inr ⟨g, cap, cur, hv, Nat.le_trans hb hg, h3⟩⟩
end Go.Proofs.YtajlfmnjibgbaaaGreatDoor.Sets
/- Sets: Gap, the program's. -/
namespace Go.Proofs.YtajlfmnjibgbaaaGreatDoor.Sets
open Go.RowKit Mem

/-- what is told, as a value -/
def toldVal (r : Int × Bool) : Value := .tuple #[.int .i64 r.1, .bool r.2]

set_option maxRecDepth 100000 in
set_option maxHeartbeats 1000000 in
theorem gap_any (s : ByteArray) (a e : Int) (w : World) (he : e ≤ 9223372036854775807) :
    Calls Tryz.prog 29 #[.string s, .int .i64 a, .int .i64 e] w fun en w' => en = .returned (toldVal (gap s.data.toList a e)) ∧ w' = w := by
  obtain ⟨m0, hm0⟩ := Int.eq_ofNat_of_zero_le (show 0 ≤ max 0 a by omega)
  have hg : gap s.data.toList a e = told (seek (fun m => !has s.data.toList m) (e - (m0 : Int)).toNat m0) := by
    rw [gap, hm0, Int.toNat_natCast]
  rw [hg]
  have hm0' : max 0 a = (m0 : Int) := hm0
  clear hm0 hg
  obtain ⟨R, hR⟩ : ∃ z, z = seek (fun m => !has s.data.toList m) (e - (m0 : Int)).toNat m0 := ⟨_, rfl⟩
  rw [← hR]
  replace hR := Lib.hid hR
  go_enter Tryz.func29, Tryz.ntmps29
  go_wp2_with fail
  go_loop [8] (fun y => ∃ m : Nat, R = seek (fun m => !has s.data.toList m) (e - (m : Int)).toNat m ∧ y = .int .i64 (m : Int)) (fun y => (e - intOf y).toNat)
  case atStart => exact ⟨m0, hR.out, rfl⟩
  case round =>
    obtain ⟨m, hr, rfl⟩ := hrel
    by_cases hlt : (m : Int) < e
    · obtain ⟨k, hk⟩ : ∃ k, (e - (m : Int)).toNat = k + 1 := ⟨(e - (m : Int)).toNat - 1, by omega⟩
      have hk2 : (e - ((m + 1 : Nat) : Int)).toNat = k := by omega
      rw [hk, seek] at hr
      have c1 := has_any s (m : Int) w (by omega)
      rw [hasI, decide_eq_true (by omega), Bool.true_and, Int.toNat_natCast] at c1
      by_cases hh : has s.data.toList m = true
      · rw [hh] at c1
        rw [if_neg (by simp [hh]), ← hk2] at hr
        replace hr := Lib.hid hr
        replace hk := Lib.hid hk
        replace hk2 := Lib.hid hk2
        replace c1 := Lib.hid c1
        replace hh := Lib.hid hh
        go_wp2_with fail
        refine c1.out.mono ?_
        rintro en w2 ⟨rfl, rfl⟩
        go_wp2_with fail
        go_round
        case rel => exact ⟨m + 1, hr.out, by go_num⟩
        case measure => simp [intOf]; omega
      · have hf : has s.data.toList m = false := by simpa using hh
        rw [hf] at c1
        rw [if_pos (by simp [hf])] at hr
        replace c1 := Lib.hid c1
        replace hr := Lib.hid hr
        clear hh hf hk hk2
        go_wp2_with fail
        refine c1.out.mono ?_
        rintro en w2 ⟨rfl, rfl⟩
        go_wp2_with fail
        go_ret2
        rw [hr.out]
        exact ⟨rfl, rfl⟩
    · have hn : R = none := by rw [hr, show (e - (m : Int)).toNat = 0 by omega]; rfl
      clear hr
      replace hn := Lib.hid hn
      go_wp2_with fail
      go_ret2
      rw [hn.out]
      exact ⟨rfl, rfl⟩
end Go.Proofs.YtajlfmnjibgbaaaGreatDoor.Sets
/- Sets: Next, the program's. -/
namespace Go.Proofs.YtajlfmnjibgbaaaGreatDoor.Sets
open Go.RowKit Mem

end Go.Proofs.YtajlfmnjibgbaaaGreatDoor.Sets
/- Sets: the document's Gap. -/
namespace Go.Proofs.YtajlfmnjibgbaaaGreatDoor.Sets
open Go.RowKit Mem

end Go.Proofs.YtajlfmnjibgbaaaGreatDoor.Sets
/- Sets: the document's Next. -/
namespace Go.Proofs.YtajlfmnjibgbaaaGreatDoor.Sets
open Go.RowKit Mem

end Go.Proofs.YtajlfmnjibgbaaaGreatDoor.Sets
/- Sets: the document's Least. -/
namespace Go.Proofs.YtajlfmnjibgbaaaGreatDoor.Sets
open Go.RowKit Mem

set_option maxRecDepth 100000 in
theorem bytes_snoc (s : ByteArray) (n : Nat) (h : s.size = n + 1) : ∃ (h2 : n < s.size), s.data.toList = (s.extract 0 n).data.toList ++ [s[n]] ∧ (s.extract 0 n).size = n := by
  have h2 : n < s.size := by omega
  refine ⟨h2, ?_, by rw [ByteArray.size_extract]; omega⟩
  rw [Lib.extract_data]
  have hl : s.data.toList.length = n + 1 := by rw [← Lib.size_eq s]; exact h
  have e := List.take_append_drop n s.data.toList
  rw [List.drop_eq_getElem_cons (by omega), List.drop_eq_nil_of_le (by omega)] at e
  exact e.symm

end Go.Proofs.YtajlfmnjibgbaaaGreatDoor.Sets
/- Sets: the document's Make. Printed by genmake.py. -/
namespace Go.Proofs.YtajlfmnjibgbaaaGreatDoor.Sets
open Go.RowKit Mem

/-- the three ways to make a set of two -/
def way : Nat → Bool → Bool → Bool
  | 0, a, b => a && b
  | 1, a, b => a || b
  | _, a, b => a && !b
end Go.Proofs.YtajlfmnjibgbaaaGreatDoor.Sets
/- Sets: short, and the calls whose answers the document fixes. -/
namespace Go.Proofs.YtajlfmnjibgbaaaGreatDoor.Sets
open Go.RowKit Mem

set_option maxRecDepth 100000 in
theorem row_blk {w : World} {g : Nat} {t : TypeId} {us : List Value} (h : Blk w g t us.toArray) : Row w (some ⟨g, 0, none⟩) us.length us :=
  ⟨rfl, fun k u hu => ⟨_, rfl, by rw [add_lit, Nat.zero_add, h.cell]; simpa using hu⟩⟩
/-- a text, within what a statement can hold -/
def cut (n : Nat) (s : ByteArray) : ByteArray := s.extract 0 (min s.size n)
end Go.Proofs.YtajlfmnjibgbaaaGreatDoor.Sets
/- Sets: what is made of two texts, number by number. -/
namespace Go.Proofs.YtajlfmnjibgbaaaGreatDoor.Sets
open Go.RowKit Mem

set_option maxRecDepth 100000 in
theorem has_at (l : List UInt8) (m : Nat) : has l m = (byteAt l (m / 8)).toNat.testBit (m % 8) := rfl
set_option maxRecDepth 100000 in
theorem has_bin {G : UInt8 → UInt8 → UInt8} {g : Bool → Bool → Bool} (hg : ∀ x y j, j < 8 → (G x y).toNat.testBit j = g (x.toNat.testBit j) (y.toNat.testBit j)) (h0 : g false false = false) (a b : List UInt8) (m : Nat) :
    has (bin G a b) m = g (has a m) (has b m) := by
  rw [bin, has_least]
  by_cases h : m / 8 < max a.length b.length
  · have e : has ((List.range (max a.length b.length)).map fun i => G (byteAt a i) (byteAt b i)) m = (G (byteAt a (m / 8)) (byteAt b (m / 8))).toNat.testBit (m % 8) := by
      rw [has, List.getElem?_map, List.getElem?_range h]
      rfl
    rw [e, hg _ _ _ (Nat.mod_lt _ (by decide)), has_at, has_at]
  · rw [has_beyond (by simp; omega), has_beyond (l := a) (by omega), has_beyond (l := b) (by omega), h0]
set_option maxRecDepth 100000 in
theorem has_or (a b : List UInt8) (m : Nat) : has (bin (· ||| ·) a b) m = (has a m || has b m) :=
  has_bin (g := fun p q => p || q) (fun x y j _ => by rw [UInt8.toNat_or, Nat.testBit_or]) rfl a b m
set_option maxRecDepth 100000 in
theorem bin_least (G : UInt8 → UInt8 → UInt8) (a b : List UInt8) : Least (bin G a b) := least_least _
set_option maxRecDepth 100000 in
theorem bin_length (G : UInt8 → UInt8 → UInt8) (a b : List UInt8) : (bin G a b).length ≤ max a.length b.length := by
  refine Nat.le_trans (least_length _) ?_
  simp
end Go.Proofs.YtajlfmnjibgbaaaGreatDoor.Sets
/- Sets: the calls by the texts that they answer. -/
namespace Go.Proofs.YtajlfmnjibgbaaaGreatDoor.Sets
open Go.RowKit Mem

def orB (a b : ByteArray) : ByteArray := ⟨(bin (· ||| ·) a.data.toList b.data.toList).toArray⟩
def hasB (s : ByteArray) (m : Nat) : Bool := has s.data.toList m
def cnt (s : ByteArray) : Nat := (elems s.data.toList).length
/-- no noughts at the end -/
def LeastB (s : ByteArray) : Prop := Least s.data.toList
set_option maxRecDepth 100000 in
theorem b_ext {s t : ByteArray} (hs : LeastB s) (ht : LeastB t) (h : ∀ m, hasB s m = hasB t m) : s = t := by
  have := least_ext hs ht h
  cases s; cases t
  congr 1
  exact Array.toList_inj.1 this
set_option maxRecDepth 100000 in
theorem leastB_or (a b : ByteArray) : LeastB (orB a b) := bin_least _ _ _
set_option maxRecDepth 100000 in
theorem hasB_or (a b : ByteArray) (m : Nat) : hasB (orB a b) m = (hasB a m || hasB b m) := has_or _ _ m
set_option maxRecDepth 100000 in
theorem bin_size {G : UInt8 → UInt8 → UInt8} {a b : ByteArray} {n : Nat} (ha : a.size ≤ n) (hb : b.size ≤ n) : (⟨(bin G a.data.toList b.data.toList).toArray⟩ : ByteArray).size ≤ n := by
  have h := bin_length G a.data.toList b.data.toList
  rw [← Lib.size_eq a, ← Lib.size_eq b] at h
  show (bin G a.data.toList b.data.toList).toArray.size ≤ n
  rw [List.size_toArray]
  omega
set_option maxRecDepth 100000 in
theorem or_size {a b : ByteArray} {n : Nat} (ha : a.size ≤ n) (hb : b.size ≤ n) : (orB a b).size ≤ n := bin_size ha hb
section
variable (a b : ByteArray) (w : World)
set_option maxRecDepth 100000 in
theorem or_b (ha : a.size ≤ 140737488355328) (hb : b.size ≤ 140737488355328) : Calls Tryz.prog 53 #[.string a, .string b] w fun e w' => e = .returned (.string (orB a b)) ∧ Below w.heap.size w w' := or_any a b w ha hb
end
/-! ### how many -/
def one (b : Bool) : Nat := if b = true then 1 else 0
end Go.Proofs.YtajlfmnjibgbaaaGreatDoor.Sets
/- Sets: the set of a set's numbers. -/
namespace Go.Proofs.YtajlfmnjibgbaaaGreatDoor.Sets
open Go.RowKit Mem

set_option maxRecDepth 100000 in
theorem has_ofL (l : List Nat) (m : Nat) : has (ofL l) m = decide (m ∈ l) := by
  rw [ofL, has_mk]
  by_cases h : m ∈ l
  · have := lenOf_mem h
    rw [decide_eq_true h, decide_eq_true (by omega)]
    rfl
  · rw [decide_eq_false h, Bool.and_false]
set_option maxRecDepth 100000 in
theorem exists_max : ∀ (l : List Nat), l ≠ [] → ∃ m ∈ l, ∀ x ∈ l, x ≤ m
  | [], h => absurd rfl h
  | [a], _ => ⟨a, by simp, by simp⟩
  | a :: b :: l, _ => by
    obtain ⟨m, hm, hx⟩ := exists_max (b :: l) (by simp)
    by_cases h : a ≤ m
    · exact ⟨m, List.mem_cons_of_mem _ hm, fun x h1 => by
        rcases List.mem_cons.1 h1 with rfl | h1
        · exact h
        · exact hx x h1⟩
    · exact ⟨a, by simp, fun x h1 => by
        rcases List.mem_cons.1 h1 with rfl | h1
        · exact Nat.le_refl _
        · have := hx x h1; omega⟩
set_option maxRecDepth 100000 in
theorem ofL_least (l : List Nat) : Least (ofL l) := by
  by_cases h : l = []
  · rw [h]; rfl
  · obtain ⟨m, hm, hx⟩ := exists_max l h
    rw [ofL]
    exact mk_least (m := m) (lenOf_max hm hx).symm (decide_eq_true hm)
end Go.Proofs.YtajlfmnjibgbaaaGreatDoor.Sets
/- Sets: how many places have been met. -/
namespace Go.Proofs.YtajlfmnjibgbaaaGreatDoor.Sets
open Go.RowKit Mem

def cntTo (p : Nat → Bool) (n : Nat) : Nat := ((List.range n).filter p).length
set_option maxRecDepth 100000 in
theorem cntTo_succ (p : Nat → Bool) (n : Nat) : cntTo p (n + 1) = cntTo p n + one (p n) := by
  unfold cntTo
  rw [List.range_succ, List.filter_append, List.length_append]
  congr 1
  cases h : p n <;> simp [h, one]
set_option maxRecDepth 100000 in
theorem cntTo_le (p : Nat → Bool) (n : Nat) : cntTo p n ≤ n := Nat.le_trans (List.length_filter_le _ _) (by simp)
set_option maxRecDepth 100000 in
theorem cntTo_skip {p : Nat → Bool} : ∀ {d a : Nat}, (∀ x, a ≤ x → x < a + d → p x = false) → cntTo p (a + d) = cntTo p a
  | 0, a, _ => rfl
  | d + 1, a, h => by
    rw [← Nat.add_assoc, cntTo_succ, h (a + d) (by omega) (by omega)]
    exact cntTo_skip fun x h1 h2 => h x h1 (by omega)
set_option maxRecDepth 100000 in
theorem cntTo_hit {p : Nat → Bool} {a r : Nat} (h1 : a ≤ r) (h2 : p r = true) (h3 : ∀ x, a ≤ x → x < r → p x = false) : cntTo p (r + 1) = cntTo p a + 1 := by
  have h := cntTo_skip (p := p) (d := r - a) (a := a) (fun x hx1 hx2 => h3 x hx1 (by omega))
  rw [show a + (r - a) = r by omega] at h
  rw [cntTo_succ, h2, h]
  rfl
section
variable (s : ByteArray) (a : Nat) (w : World)
set_option maxRecDepth 100000 in
theorem gap_some {e r : Nat} (he : e ≤ 9223372036854775807) (h : seek (fun m => !hasB s m) (e - a) a = some r) :
    Calls Tryz.prog 29 #[.string s, .int .i64 (a : Int), .int .i64 (e : Int)] w fun en w' => en = .returned (.tuple #[.int .i64 (r : Int), .bool true]) ∧ w' = w := by
  have k := gap_any s (a : Int) (e : Int) w (by omega)
  rw [gap, show (max 0 (a : Int)).toNat = a by omega, show ((e : Int) - max 0 (a : Int)).toNat = e - a by omega, show seek (fun m => !has s.data.toList m) (e - a) a = some r from h] at k
  exact k
set_option maxRecDepth 100000 in
theorem gap_none {e : Nat} (he : e ≤ 9223372036854775807) (h : seek (fun m => !hasB s m) (e - a) a = none) :
    Calls Tryz.prog 29 #[.string s, .int .i64 (a : Int), .int .i64 (e : Int)] w fun en w' => en = .returned (.tuple #[.int .i64 0, .bool false]) ∧ w' = w := by
  have k := gap_any s (a : Int) (e : Int) w (by omega)
  rw [gap, show (max 0 (a : Int)).toNat = a by omega, show ((e : Int) - max 0 (a : Int)).toNat = e - a by omega, show seek (fun m => !has s.data.toList m) (e - a) a = none from h] at k
  exact k
end
end Go.Proofs.YtajlfmnjibgbaaaGreatDoor.Sets

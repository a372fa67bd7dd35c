/- The log's Open: get, the closure, split. -/
import Derived.Test.YtojhlijcinenoaaGreatDoorNvWalkE
import Derived.Test.YtojhlijcinenoaaGreatDoorNvPl
import Derived.Deep.AppendLies
import Derived.Laws.BitsAllLaws
namespace Go.Proofs.YtojhlijcinenoaaGreatDoor.Nv
open Go Go.RowKit Go.Maps Mem Disk

set_option maxRecDepth 100000 in
theorem i64_or_nat (a b : Nat) (ha : a < 9223372036854775808) (hb : b < 9223372036854775808) : bits .or .i64 (a : Int) (b : Int) = ((a ||| b : Nat) : Int) := by
  have hx : a ||| b < 2 ^ 63 := Nat.or_lt_two_pow (by omega) (by omega)
  show IntKind.i64.wrap ((BitVec.ofInt 64 (a : Int) ||| BitVec.ofInt 64 (b : Int)).toNat : Int) = _
  rw [BitVec.toNat_or, ofInt_u64 a (by omega), ofInt_u64 b (by omega)]
  exact IntWalk.i64_in _ (by omega)
set_option maxRecDepth 100000 in
theorem or_byte (a c k : Nat) (ha : a < 256 ^ k) (hk : k ≤ 5) (hc : c < 256) : bits .or .i64 (a : Int) ((c : Int) * ((256 ^ k : Nat) : Int)) = ((a + 256 ^ k * c : Nat) : Int) := by
  have e : (256 : Nat) ^ k = 2 ^ (8 * k) := by rw [show (256 : Nat) = 2 ^ 8 from rfl, ← Nat.pow_mul]
  have hle : 256 ^ k ≤ 256 ^ 5 := Nat.pow_le_pow_right (by omega) (by omega)
  have hm : c * 256 ^ k < 9223372036854775808 := Nat.lt_of_le_of_lt (Nat.mul_le_mul (show c ≤ 255 by omega) hle) (by decide)
  have hal : a < 9223372036854775808 := Nat.lt_of_lt_of_le ha (Nat.le_trans hle (by decide))
  rw [← Int.natCast_mul, i64_or_nat _ _ hal hm]
  rw [e] at ha ⊢
  rw [Nat.or_comm, Nat.mul_comm c, ← Nat.two_pow_add_eq_or_of_lt ha, Nat.add_comm]
set_option maxRecDepth 100000 in
theorem or_byte' (a c k : Nat) (ha : a < 256 ^ k) (hk : k ≤ 5) (hc : c < 256) : bits .or .i64 (a : Int) (wrap64 (wrap64 (c : Int) * ((256 ^ k : Nat) : Int))) = ((a + 256 ^ k * c : Nat) : Int) := by
  have hle : 256 ^ k ≤ 256 ^ 5 := Nat.pow_le_pow_right (by omega) (by omega)
  have hm : c * 256 ^ k ≤ 255 * 256 ^ 5 := Nat.mul_le_mul (by omega) hle
  have e1 : wrap64 (c : Int) = (c : Int) := by unfold wrap64; omega
  have e2 : wrap64 ((c : Int) * ((256 ^ k : Nat) : Int)) = (c : Int) * ((256 ^ k : Nat) : Int) := by
    rw [← Int.natCast_mul]
    generalize c * 256 ^ k = x at hm
    unfold wrap64
    omega
  rw [e1, e2]
  exact or_byte a c k ha hk hc
set_option maxRecDepth 100000 in
set_option maxHeartbeats 4000000 in
theorem get_any (s : ByteArray) (w : World) (hs : s.size ≤ 6) : Calls Tryz.prog 56 #[.string s] w fun e w' => e = .returned (.int .i64 (val s : Int)) ∧ w' = w := by
  have hsz := Lib.hid (Lib.size_eq s)
  go_enter Tryz.func56, Tryz.ntmps56
  go_wp2_with fail
  go_loop [3, 7] (fun x i => ∃ k : Nat, k ≤ s.size ∧ i = .int .i64 (k : Int) ∧ x = .int .i64 (valL (s.data.toList.take k) : Nat)) (fun _ i => s.size - (intOf i).toNat)
  case atStart => exact ⟨0, Nat.zero_le _, rfl, rfl⟩
  case round =>
    obtain ⟨k, hk, rfl, rfl⟩ := hrel
    by_cases hlt : k < s.size
    · have hc : s.data.toList[k]? = some s[k] := by rw [Array.getElem?_toList]; exact Array.getElem?_eq_getElem hlt
      generalize hcc : s[k] = c at hc
      have hl8 : (s.data.toList.take k).length = k := by rw [List.length_take, ← hsz.out]; omega
      have hstep : valL (s.data.toList.take (k + 1)) = valL (s.data.toList.take k) + 256 ^ k * c.toNat := by
        rw [List.take_add_one, hc]
        simp only [Option.toList]
        rw [valL_snoc, hl8]
      have hwl : valL (s.data.toList.take k) < 256 ^ k := by have := valL_lt (s.data.toList.take k); rwa [hl8] at this
      have hor := or_byte' (valL (s.data.toList.take k)) c.toNat k hwl (by omega) c.toNat_lt
      rw [← hstep] at hor
      have hor' := Lib.hid hor
      have hcc' := Lib.hid hcc
      have hk8 : k = 0 ∨ k = 1 ∨ k = 2 ∨ k = 3 ∨ k = 4 ∨ k = 5 := by omega
      clear hor hwl hl8 hstep hc hcc
      rcases hk8 with rfl | rfl | rfl | rfl | rfl | rfl
      all_goals go_wp2_with fail
      · refine ⟨⟨1, by omega, rfl, congrArg (Value.int IntKind.i64) ?_⟩, by simp [intOf]; omega⟩
        rw [hcc'.out]
        have := hor'.out
        rwa [show ((256 ^ 0 : Nat) : Int) = 1 from rfl, Int.mul_one] at this
      · refine ⟨⟨2, by omega, rfl, congrArg (Value.int IntKind.i64) ?_⟩, by simp [intOf]; omega⟩
        rw [hcc'.out]; exact hor'.out
      · refine ⟨⟨3, by omega, rfl, congrArg (Value.int IntKind.i64) ?_⟩, by simp [intOf]; omega⟩
        rw [hcc'.out]; exact hor'.out
      · refine ⟨⟨4, by omega, rfl, congrArg (Value.int IntKind.i64) ?_⟩, by simp [intOf]; omega⟩
        rw [hcc'.out]; exact hor'.out
      · refine ⟨⟨5, by omega, rfl, congrArg (Value.int IntKind.i64) ?_⟩, by simp [intOf]; omega⟩
        rw [hcc'.out]; exact hor'.out
      · refine ⟨⟨6, by omega, rfl, congrArg (Value.int IntKind.i64) ?_⟩, by simp [intOf]; omega⟩
        rw [hcc'.out]; exact hor'.out
    · obtain rfl : k = s.size := by omega
      have hall : s.data.toList.take s.size = s.data.toList := List.take_of_length_le (by rw [← hsz.out]; omega)
      rw [hall]
      go_wp2_with fail
      go_ret
      exact ⟨rfl, rfl⟩
set_option maxRecDepth 100000 in
set_option maxHeartbeats 4000000 in
theorem field_any (s : ByteArray) (B i j : Nat) (w : World) (hc : w.cell? ⟨B, 0, none⟩ = some (.string s)) (hij : i ≤ j) (hj : j ≤ s.size) (h6 : j ≤ i + 6) :
    Calls Tryz.prog 55 #[.int .i64 (i : Int), .int .i64 (j : Int), .pointer (some ⟨B, 0, none⟩)] w fun e w' => e = .returned (.int .i64 (val (s.extract i j) : Int)) ∧ w' = w := by
  have kg := Lib.hid (get_any (s.extract i j) w (by rw [ByteArray.size_extract]; omega))
  go_enter Tryz.func55, Tryz.ntmps55
  go_wp2_with fail
  refine kg.out.mono ?_
  rintro e w1 ⟨rfl, rfl⟩
  go_wp2_with fail
  go_ret
  exact ⟨rfl, rfl⟩
set_option maxRecDepth 100000 in
/-- a list in memory, nil where there is none -/
theorem infoStr_ : (Tryz.prog.info? 9).map (fun i => (i.zero, i.size, i.bytes)) = some (some (.string ⟨#[]⟩), 1, 16) := by kernel_rfl
def SPost (w : World) (o : Option (List ByteArray)) (e : Ending) (w' : World) : Prop :=
  Below w.heap.size w w' ∧ match o with
    | none => e = .returned (.tuple #[.slice none 0 0, .bool false])
    | some l => ∃ A c, e = .returned (.tuple #[.slice A l.length c, .bool true]) ∧ w'.ownsRow w.heap.size 9 1 (.slice A l.length c) l.length (l.map Value.string)
set_option maxRecDepth 100000 in
theorem SPost.none (w : World) {w' : World} (hb : Below w.heap.size w w') {o : Option (List ByteArray)} (h : o = .none) : SPost w o (.returned (.tuple #[.slice .none 0 0, .bool false])) w' := by
  subst h
  exact ⟨hb, rfl⟩
set_option maxRecDepth 100000 in
/-- one step of splitting -/
theorem splitB_step {k : Nat} {s : ByteArray} (h0 : s.size ≠ 0) (h2 : 2 ≤ s.size) (h1 : val (s.extract 0 2) ≤ 1300) (h3 : 2 + val (s.extract 0 2) ≤ s.size) : splitB (k + 1) s = (splitB k (s.extract (2 + val (s.extract 0 2)) s.size)).map (s.extract 2 (2 + val (s.extract 0 2)) :: ·) := by
  rw [splitB, if_neg h0, if_neg (by omega)]
set_option maxRecDepth 100000 in
theorem splitB_bad {k : Nat} {s : ByteArray} (h0 : s.size ≠ 0) (h : s.size < 2 ∨ 1300 < val (s.extract 0 2) ∨ s.size < 2 + val (s.extract 0 2)) : splitB k s = none := by
  cases k with
  | zero => rw [splitB, if_neg h0]
  | succ k => rw [splitB, if_neg h0, if_pos h]
set_option maxRecDepth 100000 in
theorem splitB_end {k : Nat} {s : ByteArray} (h0 : s.size = 0) : splitB k s = some [] := by
  cases k with
  | zero => rw [splitB, if_pos h0]
  | succ k => rw [splitB, if_pos h0]
set_option maxRecDepth 100000 in
theorem map_map_cons (o : Option (List ByteArray)) (acc : List ByteArray) (x : ByteArray) : (o.map (x :: ·)).map (acc ++ ·) = o.map ((acc ++ [x]) ++ ·) := by
  cases o with
  | none => rfl
  | some l => simp
end Go.Proofs.YtojhlijcinenoaaGreatDoor.Nv

/- The contracts of wire.put, wire.Num, wire.Text: they return the bytes of numbers and texts as the plain functions have them; memory that was there stays. No condition but that a number is no more than the greatest int. -/
import Derived.Test.YtaihpnmojiagnaaGreatDoorProg
import Derived.Test.YtaihpnmojiagnaaGreatDoorWireSpec
import Derived.WalkKit
import Derived.WalkSpells
import Derived.KernelRfl
import Derived.Lib.UnsafeStr
import Derived.Lib.Hide
import Derived.Deep.AppendLies
import Derived.Laws.IdiomStrings
namespace Go.Proofs.YtaihpnmojiagnaaGreatDoor.Wire
open Go.RowKit

theorem infoByte : (Tryz.prog.info? 5).map (fun i => (i.zero, i.size, i.bytes)) = some (some (.int .u8 0), 1, 1) := by kernel_rfl

theorem byte_small (m : Nat) (h : m < 128) : Lib.byteCells [UInt8.ofNat m] = [.int .u8 (m : Int)] := by
  simp only [Lib.byteCells, List.map_cons, List.map_nil, UInt8.toNat_ofNat']
  rw [Nat.mod_eq_of_lt (by omega)]
theorem byte_more (m : Nat) : Lib.byteCells [UInt8.ofNat (128 + m % 128)] = [.int .u8 ((m : Int) % 128 + 128)] := by
  simp only [Lib.byteCells, List.map_cons, List.map_nil, UInt8.toNat_ofNat']
  rw [Nat.mod_eq_of_lt (by omega)]
  congr 2
  omega

set_option maxRecDepth 100000 in
set_option maxHeartbeats 1000000 in
/-- put onto a slice of nothing -/
theorem put_any (n : Nat) (w : World) (hn : n ≤ 9223372036854775807) :
    Calls Tryz.prog 64 #[.slice none 0 0, .int .i64 (n : Int)] w fun e w' =>
      ∃ v, e = .returned v ∧ w'.ownsRow w.heap.size 5 1 v (digits n).length (Lib.byteCells (digits n)) ∧ Below w.heap.size w w' := by
  obtain ⟨i0, hi, hz0, hz1, hz2⟩ := info_parts infoByte
  go_enter Tryz.func64, Tryz.ntmps64
  go_wp2
  go_loopw [0, 1] (fun v k wr => ∃ (m : Nat) (l : List UInt8), m ≤ n ∧ l.length ≤ 9 ∧ k = .int .i64 (m : Int) ∧ l ++ digits m = digits n ∧ wr.ownsRow w.heap.size 5 1 v l.length (Lib.byteCells l) ∧ Below w.heap.size w wr) (fun _ k _ => (intOf k).toNat)
  case atStart => exact ⟨n, [], Nat.le_refl _, by simp, rfl, rfl, World.ownsRow_nil _ _ _ _, Below.refl _ _⟩
  case round =>
    obtain ⟨m, l, hm, hl, rfl, hd, hown, hb⟩ := hrel
    have hlen : l.length + 1 ≤ 9 := by
      have h1 := digits_length9 n hn
      have h2 := digits_pos m
      rw [← hd, List.length_append] at h1
      omega
    have hds := Lib.hid hd
    clear hd
    have hlw : w.heap.size ≤ wr.heap.size := hb.size
    by_cases hlt : m < 128
    · have hsm := Lib.hid (digits_small m hlt)
      go_wp2_with (first
        | (at_builtin; refine wpList_append_own _ rfl (.tmp 16) (.tmp 19) _ rfl w.heap.size 5 i0 (.int .u8 0) 1 1 Tryz.underlying88 hi hz0 hz1 hz2 rfl (by decide) u0 l.length _ rfl (hown.alloc _) ⟨wr.heap.size, 0, none⟩ 1 1 [.int .u8 (m : Int)] rfl rfl (cell_one_new _ _ _) (by simp [Value.oneCell']) (by unfold maxLen; omega) (by omega) (by simp; omega) ?_; intro v1 w1 hown1 hg1 hn1))
      go_ret
      refine ⟨v1, rfl, ?_, (hb.alloc hlw _).grown hg1 (by simp; omega) (fun k hk => (hown.lt k hk).1)⟩
      rw [← hds.out, hsm.out, List.length_append, Lib.byteCells_append, byte_small m hlt]
      exact hown1
    · have hbg := Lib.hid (digits_big m (by omega))
      go_wp2_with (first
        | (at_builtin; refine wpList_append_own _ rfl (.tmp 7) (.tmp 12) _ rfl w.heap.size 5 i0 (.int .u8 0) 1 1 Tryz.underlying88 hi hz0 hz1 hz2 rfl (by decide) u0 l.length _ rfl (hown.alloc _) ⟨wr.heap.size, 0, none⟩ 1 1 [.int .u8 ((m : Int) % 128 + 128)] rfl rfl (cell_one_new _ _ _) (by simp [Value.oneCell']) (by unfold maxLen; omega) (by omega) (by simp; omega) ?_; intro v1 w1 hown1 hg1 hn1))
      go_roundw
      case rel =>
        refine ⟨m / 128, l ++ [UInt8.ofNat (128 + m % 128)], by omega, by simp; omega, by go_num, ?_, ?_, (hb.alloc hlw _).grown hg1 (by simp; omega) (fun k hk => (hown.lt k hk).1)⟩
        · rw [← hds.out, hbg.out]; simp
        · rw [List.length_append, Lib.byteCells_append, byte_more m]
          exact hown1
      case measure => simp [intOf]; omega

/-- put, and what string(..) makes of it -/
theorem put_str (n : Nat) (w : World) (hn : n ≤ 9223372036854775807) :
    Calls Tryz.prog 64 #[.slice none 0 0, .int .i64 (n : Int)] w fun e w' =>
      ∃ g cap, e = .returned (.slice (some ⟨g, 0, none⟩) (digits n).length cap) ∧ w'.ownsRow w.heap.size 5 1 (.slice (some ⟨g, 0, none⟩) (digits n).length cap) (digits n).length (Lib.byteCells (digits n)) ∧
        (convert 88 9 (.slice (some ⟨g, 0, none⟩) (digits n).length cap)).run Tryz.prog w' = .ok (.string ⟨(digits n).toArray⟩) w' ∧ Below w.heap.size w w' := by
  refine (put_any n w hn).mono ?_
  rintro e w' ⟨v, rfl, hown, hb⟩
  obtain ⟨g, cap, rfl, _, _⟩ := hown.form (digits_pos n)
  refine ⟨g, cap, rfl, hown, ?_, hb⟩
  refine run_convert_bytes_back w' 88 9 5 ⟨g, 0, none⟩ cap (digits n) Tryz.underlying88 Tryz.underlying5 Tryz.underlying9 ?_
  intro j hj
  refine hown.cells (g := g) rfl j _ ?_
  simp [Lib.byteCells, List.getElem?_eq_getElem hj]

set_option maxRecDepth 100000 in
theorem num_neg (n : Int) (w : World) (hn : n < 0) :
    Calls Tryz.prog 39 #[.int .i64 n] w fun e w' => e = .returned (.tuple #[.string ⟨#[]⟩, .int .i64 31]) ∧ w = w' := by
  go_enter Tryz.func39, Tryz.ntmps39
  go_wp2
  go_ret2
  exact ⟨rfl, rfl⟩
set_option maxRecDepth 100000 in
theorem num_high (n : Int) (w : World) (hn : 4611686018427387903 < n) :
    Calls Tryz.prog 39 #[.int .i64 n] w fun e w' => e = .returned (.tuple #[.string ⟨#[]⟩, .int .i64 31]) ∧ w = w' := by
  go_enter Tryz.func39, Tryz.ntmps39
  go_wp2
  go_ret2
  exact ⟨rfl, rfl⟩
set_option maxRecDepth 100000 in
theorem num_ok (n : Nat) (w : World) (hn : n ≤ 4611686018427387903) :
    Calls Tryz.prog 39 #[.int .i64 (n : Int)] w fun e w' => e = .returned (.tuple #[.string ⟨(digits n).toArray⟩, .int .i64 0]) ∧ Below w.heap.size w w' := by
  have h0 : ¬ ((n : Int) < 0) := by omega
  have h1 : ¬ (4611686018427387903 < (n : Int)) := by omega
  go_enter Tryz.func39, Tryz.ntmps39
  go_wp2_with fail
  refine (put_str n _ (by omega)).mono ?_
  rintro e w1 ⟨g, cap, rfl, _, hcv, hb⟩
  go_wp2
  go_ret2
  exact ⟨rfl, hb⟩
end Go.Proofs.YtaihpnmojiagnaaGreatDoor.Wire

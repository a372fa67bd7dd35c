/- The contracts of the document's digits, Num and Text (stillageref03): they return the bytes that the plain functions have; memory that was there stays. -/
import Derived.Test.YtaihpnmojiagnaaGreatDoorWireWalkA
import Derived.Deep.RegionHeld3
import Derived.Deep.DrawnRows
namespace Go.Proofs.YtaihpnmojiagnaaGreatDoor.Wire
open Go.RowKit
attribute [local go_sem ↓] Go.wp_at_zero Go.wp_at_succ

/-- string(..) of one byte that lies in a block of its own -/
theorem conv_one (W : World) (g : Nat) (x : Int) (h0 : 0 ≤ x) (h1 : x < 256) (hc : W.cell? ⟨g, 0, none⟩ = some (.int .u8 x)) :
    (convert 88 9 (.slice (some ⟨g, 0, none⟩) 1 1)).run Tryz.prog W = .ok (.string ⟨[UInt8.ofNat x.toNat].toArray⟩) W := by
  refine run_convert_bytes_back W 88 9 5 ⟨g, 0, none⟩ 1 [UInt8.ofNat x.toNat] Tryz.underlying88 Tryz.underlying5 Tryz.underlying9 ?_
  intro j hj
  simp only [List.length_cons, List.length_nil] at hj
  have : j = 0 := by omega
  subst this
  have e : (⟨g, 0, none⟩ : Addr).add 0 = ⟨g, 0, none⟩ := rfl
  rw [e, hc]
  simp only [List.getElem_cons_zero, UInt8.toNat_ofNat']
  congr 2
  omega

theorem cell1_kept {w w1 : World} {v : Value} {t : TypeId} (hb : Below (w.alloc (.cells #[v] t)).drew.heap.size (w.alloc (.cells #[v] t)).drew w1) : w1.cell? ⟨w.heap.size, 0, none⟩ = some v := by
  rw [hb.cell (p := ⟨w.heap.size, 0, none⟩) (by simp)]
  simp

set_option maxRecDepth 100000 in
set_option maxHeartbeats 1000000 in
theorem dig_ref (k : Nat) : ∀ (n : Nat) (w : World), n ≤ k → n ≤ 9223372036854775807 →
    Calls Tryz.prog 60 #[.int .i64 (n : Int)] w fun e w' => e = .returned (.string ⟨(digits n).toArray⟩) ∧ Below w.heap.size w w' := by
  induction k with
  | zero =>
    intro n w hk _
    have h : n < 128 := by omega
    have hcv := conv_one (w.alloc (.cells #[.int .u8 (n : Int)] 5)) w.heap.size n (by omega) (by omega) (by simp)
    have hd := Lib.hid (digits_small n h)
    go_enter Tryz.func60, Tryz.ntmps60
    go_wp2_with fail
    go_ret
    exact ⟨by rw [hd.out]; simp, (Below.refl _ _).alloc (Nat.le_refl _) _⟩
  | succ k ih =>
    intro n w hk hn
    by_cases h : n < 128
    · have hcv := conv_one (w.alloc (.cells #[.int .u8 (n : Int)] 5)) w.heap.size n (by omega) (by omega) (by simp)
      have hd := Lib.hid (digits_small n h)
      go_enter Tryz.func60, Tryz.ntmps60
      go_wp2_with fail
      go_ret
      exact ⟨by rw [hd.out]; simp, (Below.refl _ _).alloc (Nat.le_refl _) _⟩
    · have hd := digits_big n (by omega)
      obtain ⟨x, hx⟩ : ∃ x : Nat, x = 128 + n % 128 := ⟨_, rfl⟩
      obtain ⟨q, hq⟩ : ∃ q : Nat, q = n / 128 := ⟨_, rfl⟩
      rw [← hx, ← hq] at hd
      have hd := Lib.hid hd
      have e1 : IntKind.u8.wrap (IntKind.i64.wrap (128 + (n : Int).tmod 128)) = (x : Int) := by
        rw [Int.tmod_eq_emod_of_nonneg (by omega), IntWalk.i64_in _ (by omega), IntWalk.u8_in _ (by omega)]; omega
      have e2 : IntKind.i64.wrap ((n : Int) / 128) = (q : Int) := by
        rw [IntWalk.i64_in _ (by omega)]; omega
      have hx1 : x < 256 := by omega
      have hqk : q ≤ k := by omega
      have hqn : q ≤ 9223372036854775807 := by omega
      have hcv : ∀ (W : World) (g : Nat), W.cell? ⟨g, 0, none⟩ = some (.int .u8 (x : Int)) → (convert 88 9 (.slice (some ⟨g, 0, none⟩) 1 1)).run Tryz.prog W = .ok (.string ⟨[UInt8.ofNat x].toArray⟩) W :=
        fun W g hc => conv_one W g x (by omega) (by omega) hc
      have hql : (digits q).length ≤ 9 := digits_length9 q hqn
      have ih2 := Lib.hid ih
      clear ih hk hx hq
      go_enter Tryz.func60, Tryz.ntmps60
      go_wp2_with fail
      go_region_with (go_at_call 60; refine (ih2.out q _ hqk hqn).mono ?_; rintro e w1 ⟨rfl, hb1⟩; try have hc1 := cell1_kept hb1)
      all_goals go_wp2_with fail
      all_goals go_ret
      all_goals refine ⟨by rw [hd.out]; congr 2, ?_⟩
      all_goals first
        | exact ((Below.refl _ w).alloc (Nat.le_refl _) _).drew.trans (hb1.mono (by simp))
        | exact ((Below.refl _ w).drew.trans (hb1.mono (by simp))).alloc (by have := hb1.size; simp at this; omega) _

set_option maxRecDepth 100000 in
theorem rnum_neg (n : Int) (w : World) (hn : n < 0) :
    Calls Tryz.prog 50 #[.int .i64 n] w fun e w' => e = .returned (.tuple #[.string ⟨#[]⟩, .int .i64 31]) ∧ w = w' := by
  go_enter Tryz.func50, Tryz.ntmps50
  go_wp2
  go_ret2
  exact ⟨rfl, rfl⟩
set_option maxRecDepth 100000 in
theorem rnum_high (n : Int) (w : World) (hn : 4611686018427387903 < n) :
    Calls Tryz.prog 50 #[.int .i64 n] w fun e w' => e = .returned (.tuple #[.string ⟨#[]⟩, .int .i64 31]) ∧ w = w' := by
  go_enter Tryz.func50, Tryz.ntmps50
  go_wp2
  go_ret2
  exact ⟨rfl, rfl⟩
set_option maxRecDepth 100000 in
theorem rnum_ok (n : Nat) (w : World) (hn : n ≤ 4611686018427387903) :
    Calls Tryz.prog 50 #[.int .i64 (n : Int)] w fun e w' => e = .returned (.tuple #[.string ⟨(digits n).toArray⟩, .int .i64 0]) ∧ Below w.heap.size w w' := by
  have h0 : ¬ ((n : Int) < 0) := by omega
  have h1 : ¬ (4611686018427387903 < (n : Int)) := by omega
  go_enter Tryz.func50, Tryz.ntmps50
  go_wp2_with fail
  refine (dig_ref n n _ (Nat.le_refl _) (by omega)).mono ?_
  rintro e w1 ⟨rfl, hb⟩
  go_wp2
  go_ret2
  exact ⟨rfl, hb⟩
set_option maxRecDepth 100000 in
theorem text_long (s : ByteArray) (w : World) (hs : 65536 < s.size) :
    Calls Tryz.prog 41 #[.string s] w fun e w' => e = .returned (.tuple #[.string ⟨#[]⟩, .int .i64 31]) ∧ w = w' := by
  go_enter Tryz.func41, Tryz.ntmps41
  go_wp2
  go_ret2
  exact ⟨rfl, rfl⟩
set_option maxRecDepth 100000 in
theorem text_ok (s : ByteArray) (w : World) (hs : s.size ≤ 65536) :
    Calls Tryz.prog 41 #[.string s] w fun e w' => e = .returned (.tuple #[.string (⟨(digits s.size).toArray⟩ ++ s), .int .i64 0]) ∧ Below w.heap.size w w' := by
  have hl : (digits s.size).length ≤ 9 := digits_length9 _ (by omega)
  go_enter Tryz.func41, Tryz.ntmps41
  go_wp2_with fail
  refine (put_str s.size _ (by omega)).mono ?_
  rintro e w1 ⟨g, cap, rfl, _, hcv, hb⟩
  go_wp2
  go_ret2
  exact ⟨rfl, hb⟩
set_option maxRecDepth 100000 in
theorem rtext_long (s : ByteArray) (w : World) (hs : 65536 < s.size) :
    Calls Tryz.prog 33 #[.string s] w fun e w' => e = .returned (.tuple #[.string ⟨#[]⟩, .int .i64 31]) ∧ w = w' := by
  go_enter Tryz.func33, Tryz.ntmps33
  go_wp2
  go_ret2
  exact ⟨rfl, rfl⟩
set_option maxRecDepth 100000 in
theorem rtext_ok (s : ByteArray) (w : World) (hs : s.size ≤ 65536) :
    Calls Tryz.prog 33 #[.string s] w fun e w' => e = .returned (.tuple #[.string (⟨(digits s.size).toArray⟩ ++ s), .int .i64 0]) ∧ Below w.heap.size w w' := by
  have hl : (digits s.size).length ≤ 9 := digits_length9 _ (by omega)
  go_enter Tryz.func33, Tryz.ntmps33
  go_wp2_with fail
  refine (dig_ref s.size s.size _ (Nat.le_refl _) (by omega)).mono ?_
  rintro e w1 ⟨rfl, hb⟩
  go_wp2
  go_ret2
  exact ⟨rfl, hb⟩
end Go.Proofs.YtaihpnmojiagnaaGreatDoor.Wire

/- The document's log: Num, Head. -/
import Derived.Test.YtojhlijcinenoaaGreatDoorNvWalkE
namespace Go.Proofs.YtojhlijcinenoaaGreatDoor.Nv
open Go Go.RowKit Go.Maps Mem Disk
/-- the first k bytes of a number -/
def bytesP (x k : Nat) : List Value := (List.range k).map fun i => Value.int .u8 ((UInt8.ofNat (x / 2 ^ (8 * i))).toNat : Int)
set_option maxRecDepth 100000 in
theorem bytesP_succ (x k : Nat) : bytesP x (k + 1) = bytesP x k ++ [.int .u8 ((UInt8.ofNat (x / 2 ^ (8 * k))).toNat : Int)] := by
  unfold bytesP
  rw [List.range_succ, List.map_append]
  rfl
set_option maxRecDepth 100000 in
theorem infoU8x : (Tryz.prog.info? 5).map (fun i => (i.zero, i.size, i.bytes)) = some (some (.int .u8 0), 1, 1) := by kernel_rfl
set_option maxRecDepth 100000 in
set_option maxHeartbeats 8000000 in
theorem rnum_any (x n : Nat) (hx : x ≤ 9223372036854775807) (h1 : 1 ≤ n) (hn : n ≤ 6) (w : World) : Calls Tryz.prog 76 #[.int .i64 (x : Int), .int .i64 (n : Int)] w fun e w' => e = .returned (.string (num x n)) ∧ Below w.heap.size w w' := by
  obtain ⟨i0, hinf, hz0, hz1, hz2⟩ := info_parts infoU8x
  have o0 : (w.alloc (.cells #[] 5)).ownsRow w.heap.size 5 1 (.slice (some ⟨w.heap.size, 0, none⟩) 0 0) 0 (bytesP x 0) := World.ownsRow_made w #[] 0 (Nat.le_refl _) (by decide) rfl
  have b0 : Below w.heap.size w (w.alloc (.cells #[] 5)) := (Below.refl _ w).alloc (Nat.le_refl _) _
  replace o0 := Lib.hid o0
  replace b0 := Lib.hid b0
  go_enter Tryz.func76, Tryz.ntmps76
  go_wp2_with fail
  generalize w.alloc (.cells #[] 5) = w1 at o0 b0 ⊢
  go_loopw [0, 5, 6] (fun y v t wr => ∃ (k : Nat) (A : Option Addr) (c : Nat), k ≤ n ∧ t = .int .i64 (k : Int) ∧ y = .int .i64 ((x / 2 ^ (8 * k) : Nat) : Int) ∧ v = .slice A k c ∧ wr.ownsRow w.heap.size 5 1 (.slice A k c) k (bytesP x k) ∧ Below w.heap.size w wr) (fun _ _ t _ => n - (intOf t).toNat)
  case atStart => exact ⟨0, _, 0, Nat.zero_le _, rfl, by simp, rfl, o0.out, b0.out⟩
  case round =>
    clear o0 b0
    obtain ⟨k, A, c, hk, rfl, rfl, rfl, o, hb⟩ := hrel
    have hs := hb.size
    by_cases hlt : k < n
    · obtain ⟨X, hX⟩ : ∃ X, X = x / 2 ^ (8 * k) := ⟨_, rfl⟩
      have hXn : X / 256 = x / 2 ^ (8 * (k + 1)) := by
        rw [hX, Nat.div_div_eq_div_mul, show 8 * (k + 1) = 8 * k + 8 by omega, Nat.pow_add]
      have hXm : X ≤ 9223372036854775807 := by rw [hX]; exact Nat.le_trans (Nat.div_le_self _ _) hx
      have hbs := bytesP_succ x k
      obtain ⟨cc, hcc⟩ : ∃ cc, cc = UInt8.ofNat (x / 2 ^ (8 * k)) := ⟨_, rfl⟩
      rw [← hcc] at hbs
      rw [← hX] at hcc ⊢
      have t1 : (X : Int).tmod 256 = ((X % 256 : Nat) : Int) := rfl
      have t2 : ((X % 256 : Nat) : Int) % 256 = (cc.toNat : Int) := by rw [hcc, UInt8.toNat_ofNat']; omega
      have t2' : (X : Int) % 256 = (cc.toNat : Int) := by rw [hcc, UInt8.toNat_ofNat']; omega
      have t4 : (cc.toNat : Int) % 256 = (cc.toNat : Int) := by have := cc.toNat_lt; omega
      have t3 : (X : Int) / 256 = ((X / 256 : Nat) : Int) := by omega
      obtain ⟨Y, hY⟩ : ∃ Y, Y = x / 2 ^ (8 * (k + 1)) := ⟨_, rfl⟩
      have hYm : Y ≤ 9223372036854775807 := by rw [hY]; exact Nat.le_trans (Nat.div_le_self _ _) hx
      rw [hXn, ← hY] at t3
      replace hY := Lib.hid hY
      have oa := o.alloc (.cells #[.int .u8 (cc.toNat : Int)] 5)
      have hba := hb.alloc hs (.cells #[.int .u8 (cc.toNat : Int)] 5)
      replace oa := Lib.hid oa
      replace hba := Lib.hid hba
      replace hcc := Lib.hid hcc
      replace hX := Lib.hid hX
      replace hXn := Lib.hid hXn
      replace hbs := Lib.hid hbs
      clear o hb t1 t2
      go_wp2_with (first
        | (at_builtin; refine wpList_append_own _ rfl (.tmp 13) (.tmp 17) _ rfl w.heap.size 5 i0 (.int .u8 0) 1 1 Tryz.underlying71 hinf hz0 hz1 hz2 rfl (by decide) (.slice A k c) k _ rfl oa.out ⟨wr.heap.size, 0, none⟩ 1 1 [.int .u8 (cc.toNat : Int)] rfl rfl (cell_one_new _ _ _) (by simp [Value.oneCell']) (by unfold maxLen; omega) (by omega) (by simp; omega) ?_; intro v1 w11 o1 g1 n1))
      obtain ⟨A1, c1, rfl⟩ := own_slice o1
      rw [← hbs.out] at o1
      exact ⟨⟨k + 1, A1, c1, hlt, rfl, by rw [hY.out], rfl, o1, hba.out.grown g1 hba.out.size (fun j hj => (oa.out.lt j hj).1)⟩, by simp [intOf]; omega⟩
    · obtain rfl : k = n := by omega
      obtain ⟨g, cap, hv, _⟩ := o.form (by omega)
      injection hv with hv _ hv2
      subst hv hv2
      have hcv := run_convert_bytes_back (P := Tryz.prog) wr 71 9 5 ⟨g, 0, none⟩ c ((List.range k).map fun i => UInt8.ofNat (x / 2 ^ (8 * i))) Tryz.underlying71 Tryz.underlying5 Tryz.underlying9 (fun j hj => by
        have hj' : j < k := by simpa using hj
        rw [o.cells (g := g) rfl j (.int .u8 ((UInt8.ofNat (x / 2 ^ (8 * j))).toNat : Int)) (by simp [bytesP, hj'])]
        simp)
      rw [List.length_map, List.length_range] at hcv
      have hcv' : (convert 71 9 (.slice (some ⟨g, 0, none⟩) k c)).run Tryz.prog wr = .ok (.string (num x k)) wr := hcv
      clear hcv o
      go_wp2_with fail
      go_ret
      exact ⟨rfl, hb⟩
set_option maxRecDepth 100000 in
set_option maxHeartbeats 4000000 in
theorem rhead_any (gen used : Nat) (hg : gen ≤ 9223372036854775807) (hu : used ≤ 9223372036854775807) (w : World) : Calls Tryz.prog 64 #[.int .i64 (gen : Int), .int .i64 (used : Int)] w fun e w' => e = .returned (.string (headB gen used)) ∧ Below w.heap.size w w' := by
  have k6 := Lib.hid (fun W => rnum_any gen 6 hg (by decide) (by decide) W)
  have k4 := Lib.hid (fun W => rnum_any used 4 hu (by decide) (by decide) W)
  have z6 : (num gen 6).size ≤ 6 := Nat.le_of_eq (num_size _ _)
  have z4 : (num used 4).size ≤ 4 := Nat.le_of_eq (num_size _ _)
  have hS7 : ((⟨#[78, 86]⟩ ++ num gen 6) ++ num used 4 : ByteArray).size = 12 := by
    rw [ByteArray.size_append, ByteArray.size_append, num_size, num_size]; rfl
  obtain ⟨HB, hHB⟩ : ∃ HB, HB = headB gen used := ⟨_, rfl⟩
  have hS8 : ((⟨#[78, 86]⟩ ++ num gen 6) ++ num used 4 : ByteArray) ++ zeroB_ 52 = HB := by rw [hHB]; rfl
  have hZ : (zeroB_ 52).size ≤ 52 := Nat.le_of_eq (zeroB_size _)
  rw [← hHB]
  generalize num gen 6 = P6 at k6 z6 hS7 hS8
  generalize num used 4 = P4 at k4 z4 hS7 hS8
  replace hS7 := Lib.hid hS7
  replace hS8 := Lib.hid hS8
  replace hHB := Lib.hid hHB
  have hb := Below.refl w.heap.size w
  have hs := hb.size
  obtain ⟨i0, hinf, hz0, hz1, hz2⟩ := info_parts infoU8x
  go_enter Tryz.func64, Tryz.ntmps64
  go_wp2_with fail
  refine (k6.out _).mono ?_
  rintro en w' ⟨rfl, b'⟩
  replace hb := hb.trans (b'.mono hs)
  clear b'
  replace hs := hb.size
  go_wp2_with fail
  refine (k4.out _).mono ?_
  rintro en w' ⟨rfl, b'⟩
  replace hb := hb.trans (b'.mono hs)
  clear b'
  replace hs := hb.size
  go_upto_region 2 with fail
  generalize hS : ((⟨#[78, 86]⟩ ++ P6) ++ P4 : ByteArray) = S7 at *
  have e52 : 64 - (S7.size : Int) = 52 := by rw [hS7.out]; rfl
  have z7 : S7.size ≤ 12 := Nat.le_of_eq hS7.out
  replace hS := Lib.hid hS
  go_wp2_with (first | (at_make; refine wpList_make_full _ rfl _ _ _ rfl 0 5 i0 (.int .u8 0) 1 Tryz.underlying71 hinf hz0 hz1 .i64 .i64 _ _ 52 rfl rfl rfl rfl (by rw [hz2]; omega) (by unfold maxLen; omega) (Nat.zero_le _) ?_; intro w2 ho2 hg2; have hcv := zero_row ho2; have hb2 := Lib.hid (hb.trans ((show Below _ _ w2 from ⟨hg2.os, hg2.tape, hg2.output, hg2.size, fun k hk => hg2.block k hk (by simp)⟩ : Below _ _ w2).mono hs)); clear ho2 hg2))
  rw [hS8.out]
  go_ret
  exact ⟨rfl, hb2.out⟩
end Go.Proofs.YtojhlijcinenoaaGreatDoor.Nv

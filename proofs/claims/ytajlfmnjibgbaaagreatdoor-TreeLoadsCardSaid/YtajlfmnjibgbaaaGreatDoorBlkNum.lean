/- Numbers of bytes, noughts: the document's Num and Val, strings.Repeat. -/
import Derived.Test.YtajlfmnjibgbaaaGreatDoorNvPl
import Derived.Test.YtajlfmnjibgbaaaGreatDoorDiskW2
import Derived.Test.YtajlfmnjibgbaaaGreatDoorRdG
import Derived.Lib.Repeat
import Derived.Laws.BitsAllLaws
namespace Go.Proofs.YtajlfmnjibgbaaaGreatDoor.Nv
open Go Go.RowKit Go.Maps Mem Disk
/-- the first k bytes of a number -/
def bytesP (x k : Nat) : List Value := (List.range k).map fun i => Value.int .u8 ((UInt8.ofNat (x / 2 ^ (8 * i))).toNat : Int)
set_option maxRecDepth 100000 in
theorem bytesP_succ (x k : Nat) : bytesP x (k + 1) = bytesP x k ++ [.int .u8 ((UInt8.ofNat (x / 2 ^ (8 * k))).toNat : Int)] := by
  unfold bytesP
  rw [List.range_succ, List.map_append]
  rfl
set_option maxRecDepth 100000 in
theorem infoU8x : (Tryz.prog.info? 5).map (fun i => (i.zero, i.size, i.bytes)) = some (some (.int .u8 0), 1, 1) := by kernel_rfl
set_option maxRecDepth 100000 in
set_option maxHeartbeats 8000000 in
theorem rnum_any (x n : Nat) (hx : x ≤ 9223372036854775807) (h1 : 1 ≤ n) (hn : n ≤ 6) (w : World) : Calls Tryz.prog 73 #[.int .i64 (x : Int), .int .i64 (n : Int)] w fun e w' => e = .returned (.string (num x n)) ∧ Below w.heap.size w w' := by
  obtain ⟨i0, hinf, hz0, hz1, hz2⟩ := info_parts infoU8x
  have o0 : (w.alloc (.cells #[] 5)).ownsRow w.heap.size 5 1 (.slice (some ⟨w.heap.size, 0, none⟩) 0 0) 0 (bytesP x 0) := World.ownsRow_made w #[] 0 (Nat.le_refl _) (by decide) rfl
  have b0 : Below w.heap.size w (w.alloc (.cells #[] 5)) := (Below.refl _ w).alloc (Nat.le_refl _) _
  replace o0 := Lib.hid o0
  replace b0 := Lib.hid b0
  go_enter Tryz.func73, Tryz.ntmps73
  go_wp2_with fail
  generalize w.alloc (.cells #[] 5) = w1 at o0 b0 ⊢
  go_loopw [0, 5, 6] (fun y v t wr => ∃ (k : Nat) (A : Option Addr) (c : Nat), k ≤ n ∧ t = .int .i64 (k : Int) ∧ y = .int .i64 ((x / 2 ^ (8 * k) : Nat) : Int) ∧ v = .slice A k c ∧ wr.ownsRow w.heap.size 5 1 (.slice A k c) k (bytesP x k) ∧ Below w.heap.size w wr) (fun _ _ t _ => n - (intOf t).toNat)
  case atStart => exact ⟨0, _, 0, Nat.zero_le _, rfl, by simp, rfl, o0.out, b0.out⟩
  case round =>
    clear o0 b0
    obtain ⟨k, A, c, hk, rfl, rfl, rfl, o, hb⟩ := hrel
    have hs := hb.size
    by_cases hlt : k < n
    · obtain ⟨X, hX⟩ : ∃ X, X = x / 2 ^ (8 * k) := ⟨_, rfl⟩
      have hXn : X / 256 = x / 2 ^ (8 * (k + 1)) := by
        rw [hX, Nat.div_div_eq_div_mul, show 8 * (k + 1) = 8 * k + 8 by omega, Nat.pow_add]
      have hXm : X ≤ 9223372036854775807 := by rw [hX]; exact Nat.le_trans (Nat.div_le_self _ _) hx
      have hbs := bytesP_succ x k
      obtain ⟨cc, hcc⟩ : ∃ cc, cc = UInt8.ofNat (x / 2 ^ (8 * k)) := ⟨_, rfl⟩
      rw [← hcc] at hbs
      rw [← hX] at hcc ⊢
      have t1 : (X : Int).tmod 256 = ((X % 256 : Nat) : Int) := rfl
      have t2 : ((X % 256 : Nat) : Int) % 256 = (cc.toNat : Int) := by rw [hcc, UInt8.toNat_ofNat']; omega
      have t2' : (X : Int) % 256 = (cc.toNat : Int) := by rw [hcc, UInt8.toNat_ofNat']; omega
      have t4 : (cc.toNat : Int) % 256 = (cc.toNat : Int) := by have := cc.toNat_lt; omega
      have t3 : (X : Int) / 256 = ((X / 256 : Nat) : Int) := by omega
      obtain ⟨Y, hY⟩ : ∃ Y, Y = x / 2 ^ (8 * (k + 1)) := ⟨_, rfl⟩
      have hYm : Y ≤ 9223372036854775807 := by rw [hY]; exact Nat.le_trans (Nat.div_le_self _ _) hx
      rw [hXn, ← hY] at t3
      replace hY := Lib.hid hY
      have oa := o.alloc (.cells #[.int .u8 (cc.toNat : Int)] 5)
      have hba := hb.alloc hs (.cells #[.int .u8 (cc.toNat : Int)] 5)
      replace oa := Lib.hid oa
      replace hba := Lib.hid hba
      replace hcc := Lib.hid hcc
      replace hX := Lib.hid hX
      replace hXn := Lib.hid hXn
      replace hbs := Lib.hid hbs
      clear o hb t1 t2
      go_wp2_with (first
        | (at_builtin; refine wpList_append_own _ rfl (.tmp 13) (.tmp 17) _ rfl w.heap.size 5 i0 (.int .u8 0) 1 1 Tryz.underlying36 hinf hz0 hz1 hz2 rfl (by decide) (.slice A k c) k _ rfl oa.out ⟨wr.heap.size, 0, none⟩ 1 1 [.int .u8 (cc.toNat : Int)] rfl rfl (cell_one_new _ _ _) (by simp [Value.oneCell']) (by unfold maxLen; omega) (by omega) (by simp; omega) ?_; intro v1 w11 o1 g1 n1))
      obtain ⟨A1, c1, rfl⟩ := own_slice o1
      rw [← hbs.out] at o1
      exact ⟨⟨k + 1, A1, c1, hlt, rfl, by rw [hY.out], rfl, o1, hba.out.grown g1 hba.out.size (fun j hj => (oa.out.lt j hj).1)⟩, by simp [intOf]; omega⟩
    · obtain rfl : k = n := by omega
      obtain ⟨g, cap, hv, _⟩ := o.form (by omega)
      injection hv with hv _ hv2
      subst hv hv2
      have hcv := run_convert_bytes_back (P := Tryz.prog) wr 36 9 5 ⟨g, 0, none⟩ c ((List.range k).map fun i => UInt8.ofNat (x / 2 ^ (8 * i))) Tryz.underlying36 Tryz.underlying5 Tryz.underlying9 (fun j hj => by
        have hj' : j < k := by simpa using hj
        rw [o.cells (g := g) rfl j (.int .u8 ((UInt8.ofNat (x / 2 ^ (8 * j))).toNat : Int)) (by simp [bytesP, hj'])]
        simp)
      rw [List.length_map, List.length_range] at hcv
      have hcv' : (convert 36 9 (.slice (some ⟨g, 0, none⟩) k c)).run Tryz.prog wr = .ok (.string (num x k)) wr := hcv
      clear hcv o
      go_wp2_with fail
      go_ret
      exact ⟨rfl, hb⟩
set_option maxRecDepth 100000 in
theorem valL_drop {l : List UInt8} {j : Nat} {c : UInt8} (h : l[j]? = some c) : valL (l.drop j) = c.toNat + 256 * valL (l.drop (j + 1)) := by
  have hl : j < l.length := (List.getElem?_eq_some_iff.1 h).1
  rw [List.drop_eq_getElem_cons hl, valL, (List.getElem?_eq_some_iff.1 h).2]
set_option maxRecDepth 100000 in
set_option maxHeartbeats 4000000 in
theorem rval_any (s : ByteArray) (w : World) (hs : s.size ≤ 6) : Calls Tryz.prog 103 #[.string s] w fun e w' => e = .returned (.int .i64 (val s : Int)) ∧ w' = w := by
  have hend : valL (s.data.toList.drop s.size) = 0 := by rw [List.drop_of_length_le (by rw [← Lib.size_eq s]; exact Nat.le_refl _)]; rfl
  have hsz := Lib.hid (Lib.size_eq s)
  replace hend := Lib.hid hend
  go_enter Tryz.func103, Tryz.ntmps103
  go_wp2_with fail
  go_loop [3, 4] (fun x i => ∃ k : Nat, k ≤ s.size ∧ i = .int .i64 ((k : Int) - 1) ∧ x = .int .i64 (valL (s.data.toList.drop k) : Nat)) (fun _ i => (intOf i + 1).toNat)
  case atStart => exact ⟨s.size, Nat.le_refl _, rfl, by rw [hend.out]; rfl⟩
  case round =>
    obtain ⟨k, hk, rfl, rfl⟩ := hrel
    cases k with
    | zero =>
      go_wp2_with fail
      go_ret
      exact ⟨rfl, rfl⟩
    | succ j =>
      have hj : j < s.size := by omega
      have hc : s.data.toList[j]? = some s[j] := by rw [Array.getElem?_toList]; exact Array.getElem?_eq_getElem hj
      generalize hcc : s[j] = c at hc
      have hstep := valL_drop hc
      have hlt := valL_lt (s.data.toList.drop (j + 1))
      have hle : (256 : Nat) ^ (s.data.toList.drop (j + 1)).length ≤ 256 ^ 5 := Nat.pow_le_pow_right (by omega) (by rw [List.length_drop, ← hsz.out]; omega)
      have hv : valL (s.data.toList.drop (j + 1)) ≤ 1099511627776 := by omega
      have hcb := c.toNat_lt
      rw [show ((j + 1 : Nat) : Int) - 1 = (j : Int) by omega]
      generalize valL (s.data.toList.drop (j + 1)) = V at hstep hv ⊢
      have h0 : (0 : Int) ≤ (j : Int) := by omega
      have hjI : (j : Int) < (s.size : Int) := by omega
      replace hstep := Lib.hid hstep
      replace hcc := Lib.hid hcc
      clear hc hlt hle
      go_wp2_with fail
      refine ⟨⟨j, by omega, rfl, congrArg (Value.int IntKind.i64) ?_⟩, by simp [intOf]⟩
      rw [hstep.out, hcc.out]
      unfold wrap64
      omega
set_option maxRecDepth 100000 in
theorem repeat_zero : ∀ c, Lib.repeatL [0] c = List.replicate c 0
  | 0 => rfl
  | c + 1 => by rw [Lib.repeatL, repeat_zero c, List.replicate_succ]; rfl
set_option maxRecDepth 100000 in
theorem noughts_any (c : Nat) (hc : c ≤ 1048576) (w : World) : Calls Tryz.prog 55 #[.string ⟨#[0]⟩, .int .i64 (c : Int)] w fun e w' => e = .returned (.string (noughts c)) ∧ Below w.heap.size w w' := by
  have k := Tryz.strings_Repeat ⟨#[0]⟩ c w (by omega) (by show 1 * c ≤ _; omega)
  rw [show (⟨(Lib.repeatL (ByteArray.mk #[0]).data.toList c).toArray⟩ : ByteArray) = noughts c from congrArg (fun l : List UInt8 => ByteArray.mk l.toArray) (repeat_zero c)] at k
  exact k
set_option maxRecDepth 100000 in
theorem i64_or_nat (a b : Nat) (ha : a < 9223372036854775808) (hb : b < 9223372036854775808) : bits .or .i64 (a : Int) (b : Int) = ((a ||| b : Nat) : Int) := by
  have hx : a ||| b < 2 ^ 63 := Nat.or_lt_two_pow (by omega) (by omega)
  show IntKind.i64.wrap ((BitVec.ofInt 64 (a : Int) ||| BitVec.ofInt 64 (b : Int)).toNat : Int) = _
  rw [BitVec.toNat_or, ofInt_u64 a (by omega), ofInt_u64 b (by omega)]
  exact IntWalk.i64_in _ (by omega)
set_option maxRecDepth 100000 in
theorem or_byte (a c k : Nat) (ha : a < 256 ^ k) (hk : k ≤ 5) (hc : c < 256) : bits .or .i64 (a : Int) ((c : Int) * ((256 ^ k : Nat) : Int)) = ((a + 256 ^ k * c : Nat) : Int) := by
  have e : (256 : Nat) ^ k = 2 ^ (8 * k) := by rw [show (256 : Nat) = 2 ^ 8 from rfl, ← Nat.pow_mul]
  have hle : 256 ^ k ≤ 256 ^ 5 := Nat.pow_le_pow_right (by omega) (by omega)
  have hm : c * 256 ^ k < 9223372036854775808 := Nat.lt_of_le_of_lt (Nat.mul_le_mul (show c ≤ 255 by omega) hle) (by decide)
  have hal : a < 9223372036854775808 := Nat.lt_of_lt_of_le ha (Nat.le_trans hle (by decide))
  rw [← Int.natCast_mul, i64_or_nat _ _ hal hm]
  rw [e] at ha ⊢
  rw [Nat.or_comm, Nat.mul_comm c, ← Nat.two_pow_add_eq_or_of_lt ha, Nat.add_comm]
set_option maxRecDepth 100000 in
theorem or_byte' (a c k : Nat) (ha : a < 256 ^ k) (hk : k ≤ 5) (hc : c < 256) : bits .or .i64 (a : Int) (wrap64 (wrap64 (c : Int) * ((256 ^ k : Nat) : Int))) = ((a + 256 ^ k * c : Nat) : Int) := by
  have hle : 256 ^ k ≤ 256 ^ 5 := Nat.pow_le_pow_right (by omega) (by omega)
  have hm : c * 256 ^ k ≤ 255 * 256 ^ 5 := Nat.mul_le_mul (by omega) hle
  have e1 : wrap64 (c : Int) = (c : Int) := by unfold wrap64; omega
  have e2 : wrap64 ((c : Int) * ((256 ^ k : Nat) : Int)) = (c : Int) * ((256 ^ k : Nat) : Int) := by
    rw [← Int.natCast_mul]
    generalize c * 256 ^ k = x at hm
    unfold wrap64
    omega
  rw [e1, e2]
  exact or_byte a c k ha hk hc
end Go.Proofs.YtajlfmnjibgbaaaGreatDoor.Nv

/- Sets: the iterator over a text's numbers. -/
import Derived.RangeFuncNested
import Derived.RangeFuncBound
import Derived.RangeFuncCalls
import Derived.RangeFuncLeaves
import Derived.RangeFuncBox
import Derived.Shelf.Abstract
import Derived.Shelf.RegionOpen
import Derived.OwnWalkIn
import Derived.TacticsInMore
import Derived.LoopNIn
import Derived.LoopIn
import Derived.Maps.AppendAt
import Derived.Test.YteghmnlngkcgiaaDoorSetWalkL
import Derived.Test.YteghmnlngkcgiaaDoorSetSpecC
namespace Go.Proofs.YteghmnlngkcgiaaDoor.Sets
open Go.RowKit Go.Shelf Mem

attribute [local go_sem] Oper.semAt_some

theorem low_all : ∀ x : Fin 256, x.val ≠ 0 → x.val &&& (x.val - 1) = x.val / 2 ^ (Lib.trailingZeros8 x.val + 1) * 2 ^ (Lib.trailingZeros8 x.val + 1) ∧ (x.val &&& (x.val - 1)) < x.val := by decide +kernel
theorem low_spec {x : Nat} (h : x < 256) (h0 : x ≠ 0) : x &&& (x - 1) = high x (Lib.trailingZeros8 x + 1) ∧ (x &&& (x - 1)) < x := low_all ⟨x, h⟩ h0
theorem high_high (c t r : Nat) (h : t ≤ r) : high (high c t) r = high c r := by
  apply Nat.eq_of_testBit_eq
  intro k
  rw [high_bit, high_bit, high_bit]
  by_cases hk : r ≤ k
  · rw [decide_eq_true hk, decide_eq_true (show t ≤ k by omega)]; simp
  · rw [decide_eq_false hk]; simp
theorem elemsTo_skip {l : List UInt8} : ∀ {d a : Nat}, (∀ x, a ≤ x → x < a + d → has l x = false) → elemsTo l (a + d) = elemsTo l a
  | 0, a, _ => rfl
  | d + 1, a, h => by
    rw [← Nat.add_assoc, elemsTo_succ, if_neg (by rw [h (a + d) (by omega) (by omega)]; simp), List.append_nil]
    exact elemsTo_skip fun x h1 h2 => h x h1 (by omega)
theorem elemsTo_le {l : List UInt8} {a : Nat} : ∀ d, elemsTo l a <+: elemsTo l (a + d)
  | 0 => List.prefix_refl _
  | d + 1 => by
    rw [← Nat.add_assoc, elemsTo_succ]
    exact (elemsTo_le d).trans (List.prefix_append _ _)
theorem elemsTo_pre {l : List UInt8} {a b : Nat} (h : a ≤ b) : elemsTo l a <+: elemsTo l b := by
  have := elemsTo_le (l := l) (a := a) (b - a)
  rwa [show a + (b - a) = b by omega] at this
theorem has_byte {l : List UInt8} {i j : Nat} (hi : i < l.length) (hj : j < 8) : has l (8 * i + j) = (l[i]'hi).toNat.testBit j := by
  unfold has
  rw [show (8 * i + j) / 8 = i by omega, show (8 * i + j) % 8 = j by omega, List.getElem?_eq_getElem hi]
  rfl
/-- nothing is left of a byte -/
theorem elemsTo_rest {l : List UInt8} {i t : Nat} (hi : i < l.length) (ht : t ≤ 8) (h0 : high (l[i]'hi).toNat t = 0) : elemsTo l (8 * (i + 1)) = elemsTo l (8 * i + t) := by
  have h := elemsTo_skip (l := l) (d := 8 - t) (a := 8 * i + t) fun x h1 h2 => by
    have hb := has_byte (j := x - 8 * i) hi (by omega)
    rw [show 8 * i + (x - 8 * i) = x by omega] at hb
    have hz := zero_bits h0 (x - 8 * i)
    rw [high_bit, decide_eq_true (by omega), Bool.true_and] at hz
    rw [hb, hz]
  rw [← h]
  congr 1
  omega
/-- the next number of a byte -/
theorem elemsTo_next {l : List UInt8} {i t : Nat} (hi : i < l.length) (h0 : high (l[i]'hi).toNat t ≠ 0) : Lib.trailingZeros8 (high (l[i]'hi).toNat t) < 8 ∧ t ≤ Lib.trailingZeros8 (high (l[i]'hi).toNat t) ∧
    elemsTo l (8 * i + (Lib.trailingZeros8 (high (l[i]'hi).toNat t) + 1)) = elemsTo l (8 * i + t) ++ [(i : Int) * 8 + (Lib.trailingZeros8 (high (l[i]'hi).toNat t) : Int)] ∧
    (high (l[i]'hi).toNat t &&& (high (l[i]'hi).toNat t - 1)) = high (l[i]'hi).toNat (Lib.trailingZeros8 (high (l[i]'hi).toNat t) + 1) ∧
    (high (l[i]'hi).toNat t &&& (high (l[i]'hi).toNat t - 1)) < high (l[i]'hi).toNat t := by
  have hc := Nat.lt_of_le_of_lt (high_le (l[i]'hi).toNat t) (l[i]'hi).toNat_lt
  obtain ⟨h1, h2, h3⟩ := tz_spec hc h0
  obtain ⟨h4, h5⟩ := low_spec hc h0
  generalize hT : Lib.trailingZeros8 (high (l[i]'hi).toNat t) = T at h1 h2 h3 h4 ⊢
  rw [high_bit] at h2
  simp only [Bool.and_eq_true, decide_eq_true_eq] at h2
  refine ⟨h1, h2.1, ?_, by rw [h4]; exact high_high _ _ _ (by omega), h5⟩
  rw [← Nat.add_assoc, elemsTo_succ, if_pos (by rw [has_byte hi h1]; exact h2.2)]
  have hs := elemsTo_skip (l := l) (d := T - t) (a := 8 * i + t) fun x hx1 hx2 => by
    have hb := has_byte (j := x - 8 * i) hi (by omega)
    rw [show 8 * i + (x - 8 * i) = x by omega] at hb
    have hz := h3 (x - 8 * i) (by omega)
    rw [high_bit, decide_eq_true (by omega), Bool.true_and] at hz
    rw [hb, hz]
  rw [show 8 * i + t + (T - t) = 8 * i + T by omega] at hs
  rw [hs]
  congr 2
  omega

/-- a box holds what it held -/
def Stays (Bn : Nat) (W W' : World) : Prop := W'.cell? ⟨Bn, 0, none⟩ = W.cell? ⟨Bn, 0, none⟩
theorem stays_t {Bn : Nat} {A B C : World} (h : Stays Bn A B) (k : Stays Bn B C) : Stays Bn A C := Eq.trans k h
theorem stays_b {Bn m : Nat} (h : Bn < m) (W : World) (l : Nat) (o o' : Obj) (hl : m ≤ l) (_ : W.heap[l]? = some o) (_ : o.isCells = false) (_ : o.isWalk = false) : Stays Bn W (W.putObj l o') := by
  have e : (W.putObj l o').heap[Bn]? = W.heap[Bn]? := World.putObj_heap_other (by omega)
  unfold Stays
  simp only [World.cell?, e]
theorem stays_of {Bn : Nat} {W W' : World} {n : Nat} (h : Below n W W') (hn : Bn < n) : Stays Bn W W' := h.cell (p := ⟨Bn, 0, none⟩) hn

set_option maxRecDepth 100000 in
set_option maxHeartbeats 1000000 in
theorem all1_in (n : Nat) (hn : 1 ≤ n) (l Bn : Nat) (s : ByteArray) (hs : s.size ≤ 140737488355328) (J Jx : List Int → World → Prop)
    (hY : ∀ pre x W, J pre W → pre.length < (elems s.data.toList).length → YieldAt Fence.wide (n - 1) Tryd.prog l #[.int .i64 x] W fun e W' =>
      (e = .returned (.bool true) ∧ J (pre ++ [x]) W' ∧ Stays Bn W W') ∨ (e = .returned (.bool false) ∧ Jx (pre ++ [x]) W'))
    (W : World) (hBn : W.cell? ⟨Bn, 0, none⟩ = some (.string s)) (h0 : J [] W) :
    CallsIn Fence.wide n Tryd.prog 58 #[.func (.yield l) #[] #[], .pointer (some ⟨Bn, 0, none⟩)] W fun e W' => (∃ v, e = .returned v) ∧
      ((∃ ys, ys = elems s.data.toList ∧ J ys W') ∨ (∃ pre, pre <+: elems s.data.toList ∧ Jx pre W')) := by
  have hsl := Lib.hid (Lib.size_eq s)
  have hL : ∀ i (h : i < s.size), s.data.toList[i]'(by rw [← hsl.out]; exact h) = s[i] := fun i h => rfl
  replace hL := Lib.hid hL
  replace hY := Lib.hid hY
  refine callsIn_of_wp Tryd.func58 rfl trivial ?_ rfl
  simp only [Tryd.ntmps58, List.size_toArray, List.length_cons, List.length_nil, Nat.reduceAdd, Nat.reduceSub, Array.replicate_succ, Array.replicate_zero, List.push_toArray, List.append_toArray, List.nil_append, List.cons_append]
  gi_wp2
  gi_loopw [7] (fun y wr => ∃ i : Nat, i ≤ s.size ∧ y = .int .i64 (i : Int) ∧ wr.cell? ⟨Bn, 0, none⟩ = some (.string s) ∧ J (elemsTo s.data.toList (8 * i)) wr) (fun y _ => s.size - (intOf y).toNat)
  case atStart => exact ⟨0, Nat.zero_le _, rfl, hBn, h0⟩
  case round =>
    obtain ⟨i, hi, rfl, hB, hJ⟩ := hrel
    by_cases hlt : i < s.size
    · have hli : i < s.data.toList.length := by rw [← hsl.out]; exact hlt
      obtain ⟨b, hb⟩ : ∃ b, b = (s.data.toList[i]'hli).toNat := ⟨_, rfl⟩
      have hb2 : (s[i].toNat : Int) = (b : Int) := by rw [hb]; rfl
      have hb256 : b < 256 := by rw [hb]; exact UInt8.toNat_lt _
      replace hb := Lib.hid hb
      gi_wp2
      gi_loopw [4] (fun c wq => ∃ t : Nat, t ≤ 8 ∧ c = .int .u8 (high b t : Nat) ∧ wq.cell? ⟨Bn, 0, none⟩ = some (.string s) ∧ J (elemsTo s.data.toList (8 * i + t)) wq) (fun c _ => (intOf c).toNat)
      case atStart => exact ⟨0, by omega, by rw [high_zero], hB, hJ⟩
      case round =>
        clear hB hJ
        obtain ⟨t, ht, rfl, hB, hJ⟩ := hrel
        by_cases hz : high b t = 0
        · have hr : elemsTo s.data.toList (8 * (i + 1)) = elemsTo s.data.toList (8 * i + t) := elemsTo_rest hli ht (by rw [← hb.out]; exact hz)
          rw [← hr] at hJ
          clear hr
          rw [hz]
          replace hz := Lib.hid hz
          gi_wp2
          exact ⟨⟨i + 1, by omega, rfl, hB, hJ⟩, by simp [intOf]; omega⟩
        · obtain ⟨T, hT⟩ : ∃ T, T = Lib.trailingZeros8 (high b t) := ⟨_, rfl⟩
          have hnx := elemsTo_next (t := t) hli (by rw [← hb.out]; exact hz)
          rw [← hb.out, ← hT] at hnx
          obtain ⟨hT8, htT, hnx1, hnx2, hnx3⟩ := hnx
          have hlt2 : (elemsTo s.data.toList (8 * i + t)).length < (elems s.data.toList).length := by
            have := (elemsTo_pre (l := s.data.toList) (a := 8 * i + (T + 1)) (b := 8 * s.data.toList.length) (by omega)).length_le
            rw [hnx1, List.length_append] at this
            exact Nat.lt_of_lt_of_le (by simp) this
          have hpf : elemsTo s.data.toList (8 * i + t) ++ [(i : Int) * 8 + (T : Int)] <+: elems s.data.toList := by
            rw [← hnx1]
            exact elemsTo_pre (by omega)
          obtain ⟨fn, tmps, assign, body, hy, hR⟩ := hY.out _ ((i : Int) * 8 + (T : Int)) wr hJ hlt2
          have k1 := fun W => Tryd.bits_TrailingZeros8 (high b t : Nat) W (by omega) (by have := high_le b t; omega)
          rw [Int.toNat_natCast, ← hT] at k1
          obtain ⟨C, hC⟩ : ∃ C, C = high b t := ⟨_, rfl⟩
          obtain ⟨D, hD⟩ : ∃ D, D = high b (T + 1) := ⟨_, rfl⟩
          have hC256 : C < 256 := by rw [hC]; have := high_le b t; omega
          have hC0 : 0 < C := by rw [hC]; omega
          rw [← hC, ← hD] at hnx2
          rw [← hC] at hnx3 k1 ⊢
          rw [hnx2] at hnx3
          have hand : bits .and .u8 (C : Int) ((C : Int) - 1) = (D : Int) := by
            rw [← hnx2, show ((C : Int) - 1) = ((C - 1 : Nat) : Int) by omega]
            exact u8_and_nat C (C - 1) hC256 (by omega)
          have hne : ((C : Int) != 0) = true := by simp; omega
          replace hT := Lib.hid hT
          replace hC := Lib.hid hC
          replace hD := Lib.hid hD
          replace hz := Lib.hid hz
          replace hnx2 := Lib.hid hnx2
          replace hnx1 := Lib.hid hnx1
          replace k1 := Lib.hid k1
          replace hpf := Lib.hid hpf
          gi_wp2_with fail
          refine ⟨trivial, (callsIn_wide.2 (k1.out _)).mono ?_⟩
          rintro en w2 ⟨rfl, rfl⟩
          gi_wp2_with fail
          refine hR.mono ?_
          rintro e W3 (⟨rfl, hJ3, hk3⟩ | ⟨rfl, hJx3⟩)
          · have hB3 := Eq.trans hk3 hB
            rw [← hnx1.out] at hJ3
            clear hB hy hR
            gi_wp2_with fail
            exact ⟨⟨T + 1, by omega, by rw [hD.out], hB3, hJ3⟩, by simp [intOf]; omega⟩
          · clear hy hR
            gi_wp2_with fail
            refine bodyPost_ret (results_none rfl _ _ _) rfl ?_
            exact ⟨⟨_, rfl⟩, .inr ⟨_, hpf.out, hJx3⟩⟩
    · obtain rfl : i = s.size := by omega
      rw [hsl.out] at hJ
      have hJ2 : J (elems s.data.toList) wr := hJ
      clear hJ
      gi_wp2
      go_end0
      exact ⟨⟨_, rfl⟩, .inl ⟨_, rfl, hJ2⟩⟩

set_option maxHeartbeats 1000000 in
/-- all(s): the text is boxed; the function value captures the box. -/
theorem all_in (n : Nat) (s : ByteArray) (w : World) :
    CallsIn Fence.wide n Tryd.prog 42 #[.string s] w fun e w' => e = .returned (.func (.func 58) #[] #[.pointer (some ⟨w.heap.size, 0, none⟩)]) ∧ w' = w.alloc (.cells #[.string s] 9) := by
  refine callsIn_of_wp Tryd.func42 rfl trivial ?_ rfl
  simp only [Tryd.ntmps42, List.size_toArray, List.length_cons, List.length_nil, Nat.reduceAdd, Nat.reduceSub, Array.replicate_succ, Array.replicate_zero, List.push_toArray, List.append_toArray, List.nil_append, List.cons_append]
  gi_wp2
  go_ret
  exact ⟨rfl, rfl⟩
/-- the iterator gives the text's numbers -/
theorem all_stops (n : Nat) (hn : 1 ≤ n) (Bn : Nat) (s : ByteArray) (hs : s.size ≤ 140737488355328) (w : World) (hBn : Bn < w.heap.size) (hc : w.cell? ⟨Bn, 0, none⟩ = some (.string s)) :
    SeqStopsK Fence.wide n Tryd.prog 58 #[.pointer (some ⟨Bn, 0, none⟩)] (fun x : Int => #[Value.int .i64 x]) (Stays Bn) (fun ys => ys = elems s.data.toList) (fun pre => pre <+: elems s.data.toList) (elems s.data.toList).length w := fun l J Jx W hW _ _ hY h0 =>
  all1_in n hn l Bn s hs J Jx hY W ((hW.cell (p := ⟨Bn, 0, none⟩) hBn).trans hc) h0
end Go.Proofs.YteghmnlngkcgiaaDoor.Sets

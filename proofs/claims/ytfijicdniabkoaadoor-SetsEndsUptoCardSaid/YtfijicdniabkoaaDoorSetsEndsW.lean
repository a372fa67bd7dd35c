/- The walk of the law SetsEnds, where what came in is of bulk at most 1048576. -/
import Derived.Test.YtfijicdniabkoaaDoorSetLawsD
namespace Go.Proofs.YtfijicdniabkoaaDoor.Sets
open Go.RowKit Mem

/-- a search in texts with the same numbers -/
theorem next_congr {a b : List UInt8} (h : ∀ m, has a m = has b m) (x : Int) : next a x = next b x := by
  have key : ∀ {a b : List UInt8} (_ : ∀ m, has a m = has b m) (k : Nat), seek (has a) (8 * a.length - k) k = seek (has b) (8 * b.length - k) k := by
    intro a b h k
    have bound : ∀ {l : List UInt8} {r : Nat}, has l r = true → r < 8 * l.length := fun {l r} hr => Classical.byContradiction fun hn => by
      rw [has_beyond (by omega)] at hr
      cases hr
    cases hs : seek (has a) (8 * a.length - k) k with
    | some r =>
      obtain ⟨h1, h2, h3, h4⟩ := seek_some hs
      rw [h r] at h3
      have := bound h3
      exact (seek_eq (by omega) (by omega) h3 fun y y1 y2 => by rw [← h y]; exact h4 y y1 y2).symm
    | none =>
      refine (seek_eq_none fun y y1 y2 => ?_).symm
      rw [← h y]
      cases hy : has a y with
      | false => rfl
      | true =>
        have := bound hy
        rw [seek_none hs y (by omega) (by omega)] at hy
        cases hy
  rw [next, next, key h]
/-- so many noughts -/
def zeroB (m : Nat) : ByteArray := ⟨(List.replicate m 0).toArray⟩
theorem zeroB_size (m : Nat) : (zeroB m).size = m := by
  show (List.replicate m (0 : UInt8)).toArray.size = m
  simp
theorem hasB_zeros (s : ByteArray) (n m : Nat) : hasB (s ++ zeroB n) m = hasB s m := by
  have e : (s ++ zeroB n).data.toList = s.data.toList ++ List.replicate n 0 := by
    rw [ByteArray.data_append, Array.toList_append]
    rfl
  rw [hasB, hasB, e]
  unfold has
  by_cases h : m / 8 < s.data.toList.length
  · rw [List.getElem?_append_left h]
  · rw [List.getElem?_append_right (by omega), List.getElem?_eq_none (by omega : s.data.toList.length ≤ m / 8), List.getElem?_replicate]
    split <;> simp

set_option maxRecDepth 100000 in
set_option maxHeartbeats 2000000 in
theorem lawends_any (s t : ByteArray) (f : Int) (w : World) (hs' : s.size ≤ 1048576) (ht' : t.size ≤ 1048576) :
    Calls Tryd.prog 10 #[.string s, .string t, .int .i64 f] w fun e w' => e = .returned (.bool true) ∧ Below w.heap.size w w' := by
  obtain ⟨m, hm, hmask⟩ : ∃ m : Nat, m ≤ 127 ∧ bits .and .i64 f 127 = (m : Int) := mask_any f 127 (by decide)
  obtain ⟨a, ha, hmask2⟩ : ∃ m : Nat, m ≤ 63 ∧ bits .and .i64 f 63 = (m : Int) := mask_any f 63 (by decide)
  have hmk := make_bytes w m (by omega)
  have hcv := run_convert_bytes_back (P := Tryd.prog) (w.alloc (.cells (zeros m) 5)) 42 9 5 ⟨w.heap.size, 0, none⟩ m (List.replicate m 0) Tryd.underlying42 Tryd.underlying5 Tryd.underlying9 (fun j hj => by
    rw [add_lit, Nat.zero_add, (Blk.new w 5 (zeros m)).cell]
    rw [List.length_replicate] at hj
    simp only [zeros, List.getElem?_toArray, List.getElem?_replicate, if_pos hj, List.getElem_replicate]
    rfl)
  rw [List.length_replicate] at hcv
  have hzB : (⟨(List.replicate m (0 : UInt8)).toArray⟩ : ByteArray) = zeroB m := rfl
  rw [hzB] at hcv
  clear hzB
  have hzs : (zeroB m).size ≤ 127 := by rw [zeroB_size]; exact hm
  obtain ⟨U, hU⟩ : ∃ U, U = s ++ zeroB m := ⟨_, rfl⟩
  have hUs : U.size ≤ 1048703 := by rw [hU, ByteArray.size_append]; omega
  have hUh : ∀ m, hasB U m = hasB s m := fun y => by rw [hU]; exact hasB_zeros s m y
  obtain ⟨⟨n, ok⟩, hn⟩ : ∃ z, z = next s.data.toList (a : Int) := ⟨_, rfl⟩
  have q1 := fun W => next_any s (a : Int) W (by omega) (by omega)
  have q2 := fun W => next_any U (a : Int) W (by omega) (by omega)
  rw [next_congr hUh] at q2
  rw [← hn] at q1 q2
  have e1 : toldVal (n, ok) = .tuple #[.int .i64 n, .bool ok] := rfl
  simp only [e1] at q1 q2
  have q3 := fun W => count_b s W (by omega)
  have q4 := fun W => count_b U W (by omega)
  rw [cnt_congr hUh] at q4
  have q5 := fun W => list_any s W (by omega)
  have q6 := fun W => list_any U W (by omega)
  rw [elems_congr hUh] at q6
  have q7 := fun W => and_b s t W (by omega) (by omega)
  have q8 := fun W => and_b U t W (by omega) (by omega)
  rw [b_ext (leastB_and U t) (leastB_and s t) (fun y => by rw [hasB_and, hasB_and, hUh])] at q8
  have q9 := fun W => or_b s t W (by omega) (by omega)
  have q10 := fun W => or_b U t W (by omega) (by omega)
  rw [b_ext (leastB_or U t) (leastB_or s t) (fun y => by rw [hasB_or, hasB_or, hUh])] at q10
  have q11 := fun W => minus_b t s W (by omega) (by omega)
  have q12 := fun W => minus_b t U W (by omega) (by omega)
  rw [b_ext (leastB_minus t U) (leastB_minus t s) (fun y => by rw [hasB_minus, hasB_minus, hUh])] at q12
  have q13 := fun W => or_b U emptyB W (by omega) (by decide)
  have q14 := fun W => or_b s emptyB W (by omega) (by decide)
  rw [b_ext (leastB_or U emptyB) (leastB_or s emptyB) (fun y => by rw [hasB_or, hasB_or, hUh])] at q13
  simp only [emptyB] at q13 q14
  generalize orB s ⟨#[]⟩ = E at q13 q14
  generalize cnt s = c at q3 q4
  have hN := elems_length_le s.data.toList
  rw [← Lib.size_eq s] at hN
  generalize elems s.data.toList = ls at q5 q6 hN
  obtain ⟨N, hNN⟩ : ∃ N, N = ls.length := ⟨_, rfl⟩
  rw [← hNN] at hN q5 q6
  have hN2 : N ≤ 8388608 := by omega
  generalize andB s t = X1 at q7 q8
  generalize orB s t = X2 at q9 q10
  generalize minusB t s = X3 at q11 q12
  clear hN hn e1 hUh
  replace hNN := Lib.hid hNN
  replace hU := Lib.hid hU
  replace q1 := Lib.hid q1
  replace q2 := Lib.hid q2
  replace q3 := Lib.hid q3
  replace q4 := Lib.hid q4
  replace q5 := Lib.hid q5
  replace q6 := Lib.hid q6
  replace q7 := Lib.hid q7
  replace q8 := Lib.hid q8
  replace q9 := Lib.hid q9
  replace q10 := Lib.hid q10
  replace q11 := Lib.hid q11
  replace q12 := Lib.hid q12
  replace q13 := Lib.hid q13
  replace q14 := Lib.hid q14
  go_enter Tryd.func10, Tryd.ntmps10
  go_wp2_with fail
  have hb : Below w.heap.size w (w.alloc (.cells (zeros m) 5)) := (Below.refl _ w).alloc (Nat.le_refl _) _
  have hs := hb.size
  rw [← hU.out]
  generalize w.alloc (.cells (zeros m) 5) = w1 at hb hs ⊢
  clear hmk hcv hzs
  refine (q1.out _).mono ?_
  rintro en w' ⟨rfl, hw'⟩
  replace hw' := hw'.symm
  subst hw'
  go_wp2_with fail
  refine (q2.out _).mono ?_
  rintro en w' ⟨rfl, hw'⟩
  replace hw' := hw'.symm
  subst hw'
  go_wp2_with fail
  refine (fixed_any _).mono ?_
  rintro en w' ⟨rfl, b'⟩
  replace hb := hb.trans (b'.mono hs)
  clear b'
  replace hs := hb.size
  go_wp2_with fail
  refine (q3.out _).mono ?_
  rintro en w' ⟨rfl, b'⟩
  replace hb := hb.trans (b'.mono hs)
  clear b'
  replace hs := hb.size
  go_wp2_with fail
  refine (q4.out _).mono ?_
  rintro en w' ⟨rfl, b'⟩
  replace hb := hb.trans (b'.mono hs)
  clear b'
  replace hs := hb.size
  go_wp2_with fail
  refine (q5.out _).mono ?_
  rintro en w' ⟨lv, rfl, lo, b'⟩
  replace hb := hb.trans (b'.mono hs)
  clear b'
  replace hs := hb.size
  obtain ⟨Al, cl, rfl⟩ := own_slice lo
  have hl := Row.of_own lo
  clear lo
  go_wp2_with fail
  refine (q6.out _).mono ?_
  rintro en w' ⟨kv, rfl, ko, b'⟩
  replace hl := hl.below b'
  replace hb := hb.trans (b'.mono hs)
  clear b'
  replace hs := hb.size
  obtain ⟨Ak, ck, rfl⟩ := own_slice ko
  have hk := Row.of_own ko
  clear ko
  go_wp2_with fail
  refine (same_any Al Ak N N cl ck ls ls _ hl hk (by omega)).mono ?_
  rintro en w2 ⟨rfl, q, rfl⟩
  have hd : decide (ls = ls) = true := decide_eq_true rfl
  rw [hd]
  clear hd hk hl
  replace hb := below_drewN hb q
  replace hs := hb.size
  go_wp2_with fail
  refine (q7.out _).mono ?_
  rintro en w' ⟨rfl, b'⟩
  replace hb := hb.trans (b'.mono hs)
  clear b'
  replace hs := hb.size
  go_wp2_with fail
  refine (q8.out _).mono ?_
  rintro en w' ⟨rfl, b'⟩
  replace hb := hb.trans (b'.mono hs)
  clear b'
  replace hs := hb.size
  go_wp2_with fail
  refine (q9.out _).mono ?_
  rintro en w' ⟨rfl, b'⟩
  replace hb := hb.trans (b'.mono hs)
  clear b'
  replace hs := hb.size
  go_wp2_with fail
  refine (q10.out _).mono ?_
  rintro en w' ⟨rfl, b'⟩
  replace hb := hb.trans (b'.mono hs)
  clear b'
  replace hs := hb.size
  go_wp2_with fail
  refine (q11.out _).mono ?_
  rintro en w' ⟨rfl, b'⟩
  replace hb := hb.trans (b'.mono hs)
  clear b'
  replace hs := hb.size
  go_wp2_with fail
  refine (q12.out _).mono ?_
  rintro en w' ⟨rfl, b'⟩
  replace hb := hb.trans (b'.mono hs)
  clear b'
  replace hs := hb.size
  go_wp2_with fail
  refine (q13.out _).mono ?_
  rintro en w' ⟨rfl, b'⟩
  replace hb := hb.trans (b'.mono hs)
  clear b'
  replace hs := hb.size
  go_wp2_with fail
  refine (q14.out _).mono ?_
  rintro en w' ⟨rfl, b'⟩
  replace hb := hb.trans (b'.mono hs)
  clear b'
  replace hs := hb.size
  go_wp2_with fail
  go_ret
  exact ⟨rfl, hb⟩
end Go.Proofs.YtfijicdniabkoaaDoor.Sets

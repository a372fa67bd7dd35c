/- The walk of the law SetsRules. -/
import Derived.Test.YtfijicdniabkoaaDoorSetLawsB
namespace Go.Proofs.YtfijicdniabkoaaDoor.Sets
open Go.RowKit Mem

section
variable (a b c : ByteArray)
theorem r1 : andB b a = andB a b := b_ext (leastB_and _ _) (leastB_and _ _) fun m => by rw [hasB_and, hasB_and, Bool.and_comm]
theorem r2 : orB b a = orB a b := b_ext (leastB_or _ _) (leastB_or _ _) fun m => by rw [hasB_or, hasB_or, Bool.or_comm]
theorem r3 : cnt (orB a b) + cnt (andB a b) = cnt a + cnt b := cnt_sum fun m => by
  rw [hasB_or, hasB_and]
  cases hasB a m <;> cases hasB b m <;> rfl
theorem r4 : orB (andB a b) (minusB a b) = orB a emptyB := b_ext (leastB_or _ _) (leastB_or _ _) fun m => by
  rw [hasB_or, hasB_or, hasB_and, hasB_minus, hasB_empty]
  cases hasB a m <;> cases hasB b m <;> rfl
theorem r5 : andB (andB a b) (minusB a b) = emptyB := b_ext (leastB_and _ _) leastB_empty fun m => by
  rw [hasB_and, hasB_and, hasB_minus, hasB_empty]
  cases hasB a m <;> cases hasB b m <;> rfl
theorem r6 : andB (minusB a b) b = emptyB := b_ext (leastB_and _ _) leastB_empty fun m => by
  rw [hasB_and, hasB_minus, hasB_empty]
  cases hasB a m <;> cases hasB b m <;> rfl
theorem r7 : andB a (andB b c) = andB (andB a b) c := b_ext (leastB_and _ _) (leastB_and _ _) fun m => by
  rw [hasB_and, hasB_and, hasB_and, hasB_and, Bool.and_assoc]
theorem r8 : orB a (orB b c) = orB (orB a b) c := b_ext (leastB_or _ _) (leastB_or _ _) fun m => by
  rw [hasB_or, hasB_or, hasB_or, hasB_or, Bool.or_assoc]
theorem r9 : orB (andB a c) (andB b c) = andB (orB a b) c := b_ext (leastB_or _ _) (leastB_and _ _) fun m => by
  rw [hasB_or, hasB_and, hasB_and, hasB_and, hasB_or]
  cases hasB a m <;> cases hasB b m <;> cases hasB c m <;> rfl
theorem r10 : minusB a (orB a b) = emptyB := b_ext (leastB_minus _ _) leastB_empty fun m => by
  rw [hasB_minus, hasB_or, hasB_empty]
  cases hasB a m <;> cases hasB b m <;> rfl
end

set_option maxRecDepth 100000 in
set_option maxHeartbeats 2000000 in
theorem lawrules_any (a b c : ByteArray) (w : World) (ha : a.size ≤ 140737488355328) (hb' : b.size ≤ 140737488355328) (hc : c.size ≤ 140737488355328) :
    Calls Tryd.prog 7 #[.string a, .string b, .string c] w fun e w' => e = .returned (.bool true) ∧ Below w.heap.size w w' := by
  have sA := and_size ha hb'
  have sO := or_size ha hb'
  have sM := minus_size ha hb'
  have q1 := fun W => and_b a b W ha hb'
  have q2 := fun W => or_b a b W ha hb'
  have q3 := fun W => minus_b a b W ha hb'
  have q4 := fun W => and_b b a W hb' ha
  have q5 := fun W => or_b b a W hb' ha
  have q6 := fun W => count_b (orB a b) W sO
  have q7 := fun W => count_b (andB a b) W sA
  have q8 := fun W => count_b a W ha
  have q9 := fun W => count_b b W hb'
  have q10 := fun W => or_b (andB a b) (minusB a b) W sA sM
  have q11 := fun W => or_b a emptyB W ha (by decide)
  have q12 := fun W => and_b (andB a b) (minusB a b) W sA sM
  have q13 := fun W => and_b (minusB a b) b W sM hb'
  have q14 := fun W => and_b (andB a b) c W sA hc
  have q15 := fun W => and_b b c W hb' hc
  have q16 := fun W => and_b a (andB b c) W ha (and_size hb' hc)
  have q17 := fun W => or_b (orB a b) c W sO hc
  have q18 := fun W => or_b b c W hb' hc
  have q19 := fun W => or_b a (orB b c) W ha (or_size hb' hc)
  have q20 := fun W => and_b (orB a b) c W sO hc
  have q21 := fun W => and_b a c W ha hc
  have q22 := fun W => or_b (andB a c) (andB b c) W (and_size ha hc) (and_size hb' hc)
  have q23 := fun W => minus_b a (orB a b) W ha sO
  have hsum := r3 a b
  have n1 := cnt_le (orB a b)
  have n2 := cnt_le (andB a b)
  have n3 := cnt_le a
  have n4 := cnt_le b
  rw [r1] at q4
  rw [r2] at q5
  rw [r4] at q10
  rw [r5] at q12
  rw [r6] at q13
  rw [r7] at q16
  rw [r8] at q19
  rw [r9] at q22
  rw [r10] at q23
  simp only [emptyB] at q10 q11 q12 q13 q23
  generalize orB a ⟨#[]⟩ = E at q10 q11
  generalize andB (andB a b) c = X1 at q14 q16
  generalize orB (orB a b) c = X2 at q17 q19
  generalize andB (orB a b) c = X3 at q20 q22
  generalize cnt (orB a b) = c1 at hsum n1 q6
  generalize cnt (andB a b) = c2 at hsum n2 q7
  generalize cnt a = c3 at hsum n3 q8
  generalize cnt b = c4 at hsum n4 q9
  generalize andB a b = A at *
  generalize orB a b = O at *
  generalize minusB a b = M at *
  generalize andB b c = B1 at *
  generalize orB b c = B2 at *
  generalize andB a c = B3 at *
  have m1 : (c1 : Int) ≤ 1125899906842624 := by omega
  have m2 : (c2 : Int) ≤ 1125899906842624 := by omega
  have m3 : (c3 : Int) ≤ 1125899906842624 := by omega
  have m4 : (c4 : Int) ≤ 1125899906842624 := by omega
  have hne : (((c1 : Int) + (c2 : Int)) != ((c3 : Int) + (c4 : Int))) = false := by
    rw [bne_eq_false_iff_eq]
    omega
  clear n1 n2 n3 n4
  replace hsum := Lib.hid hsum
  replace q1 := Lib.hid q1
  replace q2 := Lib.hid q2
  replace q3 := Lib.hid q3
  replace q4 := Lib.hid q4
  replace q5 := Lib.hid q5
  replace q6 := Lib.hid q6
  replace q7 := Lib.hid q7
  replace q8 := Lib.hid q8
  replace q9 := Lib.hid q9
  replace q10 := Lib.hid q10
  replace q11 := Lib.hid q11
  replace q12 := Lib.hid q12
  replace q13 := Lib.hid q13
  replace q14 := Lib.hid q14
  replace q15 := Lib.hid q15
  replace q16 := Lib.hid q16
  replace q17 := Lib.hid q17
  replace q18 := Lib.hid q18
  replace q19 := Lib.hid q19
  replace q20 := Lib.hid q20
  replace q21 := Lib.hid q21
  replace q22 := Lib.hid q22
  replace q23 := Lib.hid q23
  have hb := Below.refl w.heap.size w
  have hs := hb.size
  go_enter Tryd.func7, Tryd.ntmps7
  go_wp2_with fail
  refine (q1.out _).mono ?_
  rintro en w' ⟨rfl, b'⟩
  replace hb := hb.trans (b'.mono hs)
  clear b'
  replace hs := hb.size
  go_wp2_with fail
  refine (q2.out _).mono ?_
  rintro en w' ⟨rfl, b'⟩
  replace hb := hb.trans (b'.mono hs)
  clear b'
  replace hs := hb.size
  go_wp2_with fail
  refine (q3.out _).mono ?_
  rintro en w' ⟨rfl, b'⟩
  replace hb := hb.trans (b'.mono hs)
  clear b'
  replace hs := hb.size
  go_wp2_with fail
  refine (fixed_any _).mono ?_
  rintro en w' ⟨rfl, b'⟩
  replace hb := hb.trans (b'.mono hs)
  clear b'
  replace hs := hb.size
  go_wp2_with fail
  refine (q4.out _).mono ?_
  rintro en w' ⟨rfl, b'⟩
  replace hb := hb.trans (b'.mono hs)
  clear b'
  replace hs := hb.size
  go_wp2_with fail
  refine (q5.out _).mono ?_
  rintro en w' ⟨rfl, b'⟩
  replace hb := hb.trans (b'.mono hs)
  clear b'
  replace hs := hb.size
  go_wp2_with fail
  refine (q6.out _).mono ?_
  rintro en w' ⟨rfl, b'⟩
  replace hb := hb.trans (b'.mono hs)
  clear b'
  replace hs := hb.size
  go_wp2_with fail
  refine (q7.out _).mono ?_
  rintro en w' ⟨rfl, b'⟩
  replace hb := hb.trans (b'.mono hs)
  clear b'
  replace hs := hb.size
  go_wp2_with fail
  refine (q8.out _).mono ?_
  rintro en w' ⟨rfl, b'⟩
  replace hb := hb.trans (b'.mono hs)
  clear b'
  replace hs := hb.size
  go_wp2_with fail
  refine (q9.out _).mono ?_
  rintro en w' ⟨rfl, b'⟩
  replace hb := hb.trans (b'.mono hs)
  clear b'
  replace hs := hb.size
  go_wp2_with fail
  refine (q10.out _).mono ?_
  rintro en w' ⟨rfl, b'⟩
  replace hb := hb.trans (b'.mono hs)
  clear b'
  replace hs := hb.size
  go_wp2_with fail
  refine (q11.out _).mono ?_
  rintro en w' ⟨rfl, b'⟩
  replace hb := hb.trans (b'.mono hs)
  clear b'
  replace hs := hb.size
  go_wp2_with fail
  refine (q12.out _).mono ?_
  rintro en w' ⟨rfl, b'⟩
  replace hb := hb.trans (b'.mono hs)
  clear b'
  replace hs := hb.size
  go_wp2_with fail
  refine (q13.out _).mono ?_
  rintro en w' ⟨rfl, b'⟩
  replace hb := hb.trans (b'.mono hs)
  clear b'
  replace hs := hb.size
  go_wp2_with fail
  refine (q14.out _).mono ?_
  rintro en w' ⟨rfl, b'⟩
  replace hb := hb.trans (b'.mono hs)
  clear b'
  replace hs := hb.size
  go_wp2_with fail
  refine (q15.out _).mono ?_
  rintro en w' ⟨rfl, b'⟩
  replace hb := hb.trans (b'.mono hs)
  clear b'
  replace hs := hb.size
  go_wp2_with fail
  refine (q16.out _).mono ?_
  rintro en w' ⟨rfl, b'⟩
  replace hb := hb.trans (b'.mono hs)
  clear b'
  replace hs := hb.size
  go_wp2_with fail
  refine (q17.out _).mono ?_
  rintro en w' ⟨rfl, b'⟩
  replace hb := hb.trans (b'.mono hs)
  clear b'
  replace hs := hb.size
  go_wp2_with fail
  refine (q18.out _).mono ?_
  rintro en w' ⟨rfl, b'⟩
  replace hb := hb.trans (b'.mono hs)
  clear b'
  replace hs := hb.size
  go_wp2_with fail
  refine (q19.out _).mono ?_
  rintro en w' ⟨rfl, b'⟩
  replace hb := hb.trans (b'.mono hs)
  clear b'
  replace hs := hb.size
  go_wp2_with fail
  refine (q20.out _).mono ?_
  rintro en w' ⟨rfl, b'⟩
  replace hb := hb.trans (b'.mono hs)
  clear b'
  replace hs := hb.size
  go_wp2_with fail
  refine (q21.out _).mono ?_
  rintro en w' ⟨rfl, b'⟩
  replace hb := hb.trans (b'.mono hs)
  clear b'
  replace hs := hb.size
  go_wp2_with fail
  refine (q15.out _).mono ?_
  rintro en w' ⟨rfl, b'⟩
  replace hb := hb.trans (b'.mono hs)
  clear b'
  replace hs := hb.size
  go_wp2_with fail
  refine (q22.out _).mono ?_
  rintro en w' ⟨rfl, b'⟩
  replace hb := hb.trans (b'.mono hs)
  clear b'
  replace hs := hb.size
  go_wp2_with fail
  refine (q23.out _).mono ?_
  rintro en w' ⟨rfl, b'⟩
  replace hb := hb.trans (b'.mono hs)
  clear b'
  replace hs := hb.size
  go_wp2_with fail
  go_ret
  exact ⟨rfl, hb⟩
end Go.Proofs.YtfijicdniabkoaaDoor.Sets

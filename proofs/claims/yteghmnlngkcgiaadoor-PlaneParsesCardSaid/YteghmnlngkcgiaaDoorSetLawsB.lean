/- Sets: the calls by the texts that they answer. -/
import Derived.Test.YteghmnlngkcgiaaDoorSetLaws
namespace Go.Proofs.YteghmnlngkcgiaaDoor.Sets
open Go.RowKit Mem

def andB (a b : ByteArray) : ByteArray := ⟨(bin (· &&& ·) a.data.toList b.data.toList).toArray⟩
def orB (a b : ByteArray) : ByteArray := ⟨(bin (· ||| ·) a.data.toList b.data.toList).toArray⟩
def minusB (a b : ByteArray) : ByteArray := ⟨(bin (fun x y => x &&& ~~~y) a.data.toList b.data.toList).toArray⟩
def emptyB : ByteArray := ⟨#[]⟩
def hasB (s : ByteArray) (m : Nat) : Bool := has s.data.toList m
def cnt (s : ByteArray) : Nat := (elems s.data.toList).length
/-- no noughts at the end -/
def LeastB (s : ByteArray) : Prop := Least s.data.toList
theorem b_ext {s t : ByteArray} (hs : LeastB s) (ht : LeastB t) (h : ∀ m, hasB s m = hasB t m) : s = t := by
  have := least_ext hs ht h
  cases s; cases t
  congr 1
  exact Array.toList_inj.1 this
theorem leastB_and (a b : ByteArray) : LeastB (andB a b) := bin_least _ _ _
theorem leastB_or (a b : ByteArray) : LeastB (orB a b) := bin_least _ _ _
theorem leastB_minus (a b : ByteArray) : LeastB (minusB a b) := bin_least (fun x y => x &&& ~~~y) a.data.toList b.data.toList
theorem leastB_empty : LeastB emptyB := rfl
theorem hasB_and (a b : ByteArray) (m : Nat) : hasB (andB a b) m = (hasB a m && hasB b m) := has_and _ _ m
theorem hasB_or (a b : ByteArray) (m : Nat) : hasB (orB a b) m = (hasB a m || hasB b m) := has_or _ _ m
theorem hasB_minus (a b : ByteArray) (m : Nat) : hasB (minusB a b) m = (hasB a m && !hasB b m) := has_minus _ _ m
theorem hasB_empty (m : Nat) : hasB emptyB m = false := by simp [hasB, emptyB, has]
theorem bin_size {G : UInt8 → UInt8 → UInt8} {a b : ByteArray} {n : Nat} (ha : a.size ≤ n) (hb : b.size ≤ n) : (⟨(bin G a.data.toList b.data.toList).toArray⟩ : ByteArray).size ≤ n := by
  have h := bin_length G a.data.toList b.data.toList
  rw [← Lib.size_eq a, ← Lib.size_eq b] at h
  show (bin G a.data.toList b.data.toList).toArray.size ≤ n
  rw [List.size_toArray]
  omega
theorem and_size {a b : ByteArray} {n : Nat} (ha : a.size ≤ n) (hb : b.size ≤ n) : (andB a b).size ≤ n := bin_size ha hb
theorem or_size {a b : ByteArray} {n : Nat} (ha : a.size ≤ n) (hb : b.size ≤ n) : (orB a b).size ≤ n := bin_size ha hb
theorem minus_size {a b : ByteArray} {n : Nat} (ha : a.size ≤ n) (hb : b.size ≤ n) : (minusB a b).size ≤ n := bin_size ha hb
theorem cnt_le (s : ByteArray) : cnt s ≤ 8 * s.size := by
  have := elems_length_le s.data.toList
  rw [← Lib.size_eq s] at this
  exact this

section
variable (a b : ByteArray) (w : World)
theorem and_b (ha : a.size ≤ 140737488355328) (hb : b.size ≤ 140737488355328) : Calls Tryd.prog 27 #[.string a, .string b] w fun e w' => e = .returned (.string (andB a b)) ∧ Below w.heap.size w w' := and_any a b w ha hb
theorem or_b (ha : a.size ≤ 140737488355328) (hb : b.size ≤ 140737488355328) : Calls Tryd.prog 21 #[.string a, .string b] w fun e w' => e = .returned (.string (orB a b)) ∧ Below w.heap.size w w' := or_any a b w ha hb
theorem minus_b (ha : a.size ≤ 140737488355328) (hb : b.size ≤ 140737488355328) : Calls Tryd.prog 25 #[.string a, .string b] w fun e w' => e = .returned (.string (minusB a b)) ∧ Below w.heap.size w w' := minus_any a b w ha hb
theorem count_b (ha : a.size ≤ 140737488355328) : Calls Tryd.prog 24 #[.string a] w fun e w' => e = .returned (.int .i64 (cnt a : Int)) ∧ Below w.heap.size w w' := count_any a ha w
theorem make0_b (ha : a.size ≤ 1000000) (hb : b.size ≤ 1000000) : Calls Tryd.prog 48 #[.string a, .string b, .int .i64 0] w fun e w' => e = .returned (.string (andB a b)) ∧ Below w.heap.size w w' := by
  have h := rmake0_any a b w ha hb
  rw [Lib.size_eq a, Lib.size_eq b, make_and] at h
  exact h
theorem make1_b (ha : a.size ≤ 1000000) (hb : b.size ≤ 1000000) : Calls Tryd.prog 48 #[.string a, .string b, .int .i64 1] w fun e w' => e = .returned (.string (orB a b)) ∧ Below w.heap.size w w' := by
  have h := rmake1_any a b w ha hb
  rw [Lib.size_eq a, Lib.size_eq b, make_or] at h
  exact h
theorem make2_b (ha : a.size ≤ 1000000) (hb : b.size ≤ 1000000) : Calls Tryd.prog 48 #[.string a, .string b, .int .i64 2] w fun e w' => e = .returned (.string (minusB a b)) ∧ Below w.heap.size w w' := by
  have h := rmake2_any a b w ha hb
  rw [Lib.size_eq a, Lib.size_eq b, make_minus] at h
  exact h
end
theorem cut_le2 (n : Nat) (s : ByteArray) : (cut n s).size ≤ s.size := by rw [cut, ByteArray.size_extract]; omega

/-! ### how many -/
theorem elemsTo_all (l : List UInt8) (n : Nat) (h : 8 * l.length ≤ n) : elemsTo l n = elems l := by
  have := elemsTo_skip (l := l) (d := n - 8 * l.length) (a := 8 * l.length) (fun x h1 _ => has_beyond (by omega))
  rw [show 8 * l.length + (n - 8 * l.length) = n by omega] at this
  exact this
def one (b : Bool) : Nat := if b = true then 1 else 0
theorem elemsTo_count (l : List UInt8) (n : Nat) : (elemsTo l (n + 1)).length = (elemsTo l n).length + one (has l n) := by
  rw [elemsTo_succ, List.length_append]
  cases has l n <;> rfl
/-- what is said of each number is said of how many there are -/
theorem cnt_sum {a b c d : ByteArray} (h : ∀ m, one (hasB a m) + one (hasB b m) = one (hasB c m) + one (hasB d m)) : cnt a + cnt b = cnt c + cnt d := by
  have step : ∀ n, (elemsTo a.data.toList n).length + (elemsTo b.data.toList n).length = (elemsTo c.data.toList n).length + (elemsTo d.data.toList n).length := by
    intro n
    induction n with
    | zero => rfl
    | succ n ih =>
      rw [elemsTo_count, elemsTo_count, elemsTo_count, elemsTo_count]
      have := h n
      unfold hasB at this
      omega
  have e := step (8 * (a.data.toList.length + b.data.toList.length + c.data.toList.length + d.data.toList.length))
  rw [elemsTo_all _ _ (by omega), elemsTo_all _ _ (by omega), elemsTo_all _ _ (by omega), elemsTo_all _ _ (by omega)] at e
  exact e
theorem elemsTo_congr {a b : List UInt8} (h : ∀ m, has a m = has b m) (n : Nat) : elemsTo a n = elemsTo b n := by
  unfold elemsTo
  congr 2
  funext m
  exact h m
/-- texts with the same numbers -/
theorem elems_congr {a b : List UInt8} (h : ∀ m, has a m = has b m) : elems a = elems b := by
  rw [← elemsTo_all a (8 * (a.length + b.length)) (by omega), ← elemsTo_all b (8 * (a.length + b.length)) (by omega)]
  exact elemsTo_congr h _
theorem cnt_congr {a b : ByteArray} (h : ∀ m, hasB a m = hasB b m) : cnt a = cnt b := by
  unfold cnt
  rw [elems_congr h]
end Go.Proofs.YteghmnlngkcgiaaDoor.Sets

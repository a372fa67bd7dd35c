/- The plain law of WireBack: numbers, texts and rows, laid one behind the other, are read as they were. -/
import Derived.Test.YtkhnohiokclcfaaDoorWireSpecB
namespace Go.Proofs.YtkhnohiokclcfaaDoor.Wire

theorem rdRow_enc (most : Int) (hm : 4611686018427387903 ≤ most) : ∀ (l : List Int) (acc : List Int) (r : List UInt8), (∀ x ∈ l, okNum x = true) → rdRow most l.length acc (enc l ++ r, 0) = ((acc ++ l, 0), (r, 0))
  | [], acc, r, _ => by simp [rdRow, enc]
  | x :: l, acc, r, h => by
    have h1 := okNum_le (h x (by simp))
    have e : enc (x :: l) ++ r = digits x.toNat ++ (enc l ++ r) := by simp [enc]
    have hs : scan 0 0 (enc (x :: l) ++ r) = (0, x.toNat, enc l ++ r) := by rw [e]; exact scan_digits0 _ (by omega) _
    have hn := rdNum_ok most hs (by omega) (by omega)
    simp only [List.length_cons, rdRow]
    rw [hn]
    simp only [ne_eq, not_true_eq_false, if_false]
    rw [rdRow_enc most hm l _ r (fun y hy => h y (by simp [hy]))]
    have : ((x.toNat : Nat) : Int) = x := by omega
    rw [this]
    simp

theorem rdNums_row {l : List Int} {r : List UInt8} {many most : Int} (hm : 4611686018427387903 ≤ most) (hl : l.length ≤ 65536) (hl2 : (l.length : Int) ≤ many) (h : ∀ x ∈ l, okNum x = true) : rdNums many most (row l ++ r, 0) = ((l, 0), (r, 0)) := by
  have hs : scan 0 0 (row l ++ r) = (0, l.length, enc l ++ r) := by rw [row, List.append_assoc]; exact scan_digits0 _ (by omega) _
  unfold rdNums
  rw [rdNum_ok (min many 65536) hs (by omega) (by omega)]
  simp only [ne_eq, not_true_eq_false, if_false, Int.toNat_natCast]
  have := rdRow_enc most hm l [] r h
  simpa using this

/-- the bytes of place i: its number, its text, the row of the numbers ahead of it -/
def item (xs : List Int) (ts : List ByteArray) (i : Nat) : List UInt8 :=
  digits (xs[i]?.getD 0).toNat ++ ((digits (ts[i]?.getD ⟨#[]⟩).size ++ (ts[i]?.getD ⟨#[]⟩).data.toList) ++ row (xs.take i))
/-- the bytes of the places from i on, k of them -/
def items (xs : List Int) (ts : List ByteArray) : Nat → Nat → List UInt8
  | _, 0 => []
  | i, k + 1 => item xs ts i ++ items xs ts (i + 1) k
theorem items_snoc (xs : List Int) (ts : List ByteArray) : ∀ (k i : Nat), items xs ts i (k + 1) = items xs ts i k ++ item xs ts (i + k)
  | 0, i => by simp [items]
  | k + 1, i => by
    have := items_snoc xs ts k (i + 1)
    simp only [items] at this ⊢
    rw [this, List.append_assoc, show i + 1 + k = i + (k + 1) by omega]
theorem item_eq {xs : List Int} {ts : List ByteArray} {i : Nat} {x : Int} {t : ByteArray} (hx : xs[i]? = some x) (ht : ts[i]? = some t) :
    item xs ts i = digits x.toNat ++ ((digits t.size ++ t.data.toList) ++ row (xs.take i)) := by
  unfold item; rw [hx, ht]; rfl
end Go.Proofs.YtkhnohiokclcfaaDoor.Wire

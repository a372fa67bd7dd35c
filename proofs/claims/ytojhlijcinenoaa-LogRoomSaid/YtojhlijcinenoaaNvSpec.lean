/- The log in plain Lean: its number, its records, is the power gone; what each call makes of it and of its disk. No condition. -/
import Derived.Test.YtojhlijcinenoaaDiskFitB
import Derived.Lib.Strings
namespace Go.Proofs.Ytojhlijcinenoaa.Nv
open Disk

/-- a number of n bytes, the least first -/
def num (x n : Nat) : ByteArray := ⟨((List.range n).map fun i => UInt8.ofNat (x / 2 ^ (8 * i))).toArray⟩
def noughts (k : Nat) : ByteArray := ⟨(List.replicate k 0).toArray⟩
/-- sector 0 -/
def headB (gen used : Nat) : ByteArray := ((⟨#[78, 86]⟩ ++ num gen 6) ++ num used 4) ++ noughts 52
structure Lg where
  gen : Nat
  list : List ByteArray
  dead : Bool
/-- a record's bytes; those of all -/
def enc1 (r : ByteArray) : ByteArray := num r.size 2 ++ r
def enc (l : List ByteArray) : ByteArray := l.foldl (fun a r => a ++ enc1 r) ⟨#[]⟩
def halfD (d : Dk) : Nat := (d.stays.length - 1) / 2
def roomL (l : Lg) (d : Dk) : Int := (halfD d : Int) * 64 - ((enc l.list).size : Int)
def firstL (g : Nat) (d : Dk) : Nat := 1 + g % 2 * halfD d
def tell (l : Lg) (e : Int) : Lg := { l with dead := l.dead || e == 2 }
def headsL (l : Lg) (d : Dk) (gen used : Nat) : Lg × Dk × Int :=
  if (writeD d 0 (headB gen used)).2 ≠ 0 then (tell l (writeD d 0 (headB gen used)).2, writeD d 0 (headB gen used))
  else (tell l (syncD (writeD d 0 (headB gen used)).1).2, syncD (writeD d 0 (headB gen used)).1)
/-- the i-th sector of bytes, noughts behind it -/
def sect (B : ByteArray) (i : Nat) : ByteArray := B.extract (64 * i) (64 * i + 64) ++ noughts (64 - (B.extract (64 * i) (64 * i + 64)).size)
def wloop (l : Lg) (fs : Nat) (B : ByteArray) : Nat → Nat → Dk → Lg × Dk × Int
  | 0, _, d => (l, d, 0)
  | k + 1, i, d => if (writeD d ((fs + i : Nat) : Int) (sect B i)).2 ≠ 0 then (tell l (writeD d ((fs + i : Nat) : Int) (sect B i)).2, writeD d ((fs + i : Nat) : Int) (sect B i)) else wloop l fs B k (i + 1) (writeD d ((fs + i : Nat) : Int) (sect B i)).1
def many (B : ByteArray) : Nat := (B.size + 63) / 64
def synced (l : Lg) (d : Dk) : Lg × Dk × Int := (tell l (syncD d).2, syncD d)
def kept (l : Lg) (r : ByteArray) (h : Lg × Dk × Int) : Lg × Dk × Int := if h.2.2 ≠ 0 then h else ({ l with list := l.list ++ [r] }, h.2)
def headed (l : Lg) (r : ByteArray) (n : Nat) (s : Lg × Dk × Int) : Lg × Dk × Int := if s.2.2 ≠ 0 then s else kept l r (headsL l s.2.1 l.gen n)
def laidOut (l : Lg) (r : ByteArray) (n : Nat) (x : Lg × Dk × Int) : Lg × Dk × Int := if x.2.2 ≠ 0 then x else headed l r n (synced l x.2.1)
def appendTo (l : Lg) (d : Dk) (r : ByteArray) : Lg × Dk × Int :=
  laidOut l r (enc (l.list ++ [r])).size (wloop l (firstL l.gen d) (enc (l.list ++ [r])) (many (enc (l.list ++ [r])) - (enc l.list).size / 64) ((enc l.list).size / 64) d)
def appendL (l : Lg) (d : Dk) (r : ByteArray) : Lg × Dk × Int :=
  if 1300 < r.size then (l, d, 71) else if l.dead = true then (l, d, 2) else if roomL l d < 2 + (r.size : Int) then (l, d, 72) else appendTo l d r
def startL (l : Lg) (d : Dk) (g : Int) : Lg × Dk × Int :=
  if g ≤ l.gen ∨ 1099511627776 < g then (l, d, 70) else if l.dead = true then (l, d, 2)
  else if (headsL l d g.toNat 0).2.2 ≠ 0 then headsL l d g.toNat 0 else (⟨g.toNat, [], l.dead⟩, (headsL l d g.toNat 0).2)

theorem num_size (x n : Nat) : (num x n).size = n := by simp [num, ByteArray.size]
theorem noughts_size (k : Nat) : (noughts k).size = k := by simp [noughts, ByteArray.size]
theorem headB_size (g u : Nat) : (headB g u).size = 64 := by
  unfold headB
  rw [ByteArray.size_append, ByteArray.size_append, ByteArray.size_append, num_size, num_size, noughts_size]
  rfl
theorem enc1_size (r : ByteArray) : (enc1 r).size = r.size + 2 := by
  unfold enc1
  rw [ByteArray.size_append, num_size]
  omega
theorem enc_snoc (l : List ByteArray) (r : ByteArray) : enc (l ++ [r]) = enc l ++ enc1 r := by
  unfold enc
  rw [List.foldl_append]
  rfl
theorem tell_zero (l : Lg) : tell l 0 = l := by
  unfold tell
  rw [show ((0 : Int) == 2) = false from rfl, Bool.or_false]
theorem sect_size (B : ByteArray) (i : Nat) : (sect B i).size = 64 := by
  unfold sect
  rw [ByteArray.size_append, noughts_size, ByteArray.size_extract]
  omega
theorem writeD_len (d : Dk) (n : Int) (s : ByteArray) : (writeD d n s).1.stays.length = d.stays.length := by
  unfold writeD
  split
  · rfl
  · split
    · rfl
    · split
      · rfl
      · unfold stepped
        split
        · show (applyK _ _ _ _).length = _
          rw [applyK_length]
          rfl
        · rfl
theorem syncD_len (d : Dk) : (syncD d).1.stays.length = d.stays.length := by
  unfold syncD
  split
  · rfl
  · unfold stepped
    split
    · show (applyK _ _ _ _).length = _
      rw [applyK_length]
      rfl
    · show (applyAll _ _).length = _
      rw [applyAll_length]
      rfl
end Go.Proofs.Ytojhlijcinenoaa.Nv

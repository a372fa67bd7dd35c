/- SipHash as plain functions of numbers below 2^64. -/
import Derived.Laws.Bits64
import Derived.Laws.BitsAllLaws
namespace Go.Proofs.YtajlfmnjibgbaaaGreatDoor.Sip
open Go

def uadd (a b : Nat) : Nat := (a + b) % 18446744073709551616
def uxor (a b : Nat) : Nat := (a ^^^ b) % 18446744073709551616
def rotl (a n : Nat) : Nat := ((a * 2 ^ n) % 18446744073709551616 ||| a / 2 ^ (64 - n)) % 18446744073709551616
structure V where
  a : Nat
  b : Nat
  c : Nat
  d : Nat
def round (v : V) : V :=
  let a1 := uadd v.a v.b
  let c1 := uadd v.c v.d
  let b1 := uxor (rotl v.b 13) a1
  let d1 := uxor (rotl v.d 16) c1
  let a2 := rotl a1 32
  let c2 := uadd c1 b1
  let a3 := uadd a2 d1
  let b2 := uxor (rotl b1 17) c2
  let d2 := uxor (rotl d1 21) a3
  let c3 := rotl c2 32
  ⟨a3, b2, c3, d2⟩
def take (v : V) (m : Nat) : V :=
  let r := round (round ⟨v.a, v.b, v.c, uxor v.d m⟩)
  ⟨uxor r.a m, r.b, r.c, r.d⟩
set_option maxRecDepth 100000 in
theorem uadd_lt (a b : Nat) : uadd a b < 18446744073709551616 := Nat.mod_lt _ (by decide)
set_option maxRecDepth 100000 in
theorem uxor_lt (a b : Nat) : uxor a b < 18446744073709551616 := Nat.mod_lt _ (by decide)
set_option maxRecDepth 100000 in
theorem rotl_lt (a b : Nat) : rotl a b < 18446744073709551616 := Nat.mod_lt _ (by decide)
set_option maxRecDepth 100000 in
theorem uadd_eq (a b : Nat) : IntKind.u64.wrap ((a : Int) + (b : Int)) = ((uadd a b : Nat) : Int) := by
  unfold uadd
  rw [IntKind.wrap_u64]
  omega
set_option maxRecDepth 100000 in
theorem uxor_eq (a b : Nat) (ha : a < 18446744073709551616) (hb : b < 18446744073709551616) : bits .xor .u64 (a : Int) (b : Int) = ((uxor a b : Nat) : Int) := by
  have hx : a ^^^ b < 2 ^ 64 := Nat.xor_lt_two_pow (by omega) (by omega)
  rw [bits_xor_u64_nat a b ha hb, uxor, Nat.mod_eq_of_lt (by omega)]
set_option maxRecDepth 100000 in
theorem rot_val (x p q n : Nat) (hx : x < 18446744073709551616) (hp : p = 2 ^ n) (hq : q = 2 ^ (64 - n)) : bits .or .u64 (IntKind.u64.wrap ((x : Int) * (p : Int))) ((x : Int) / (q : Int)) = ((rotl x n : Nat) : Int) := by
  have h1 : IntKind.u64.wrap ((x : Int) * (p : Int)) = ((x * p % 18446744073709551616 : Nat) : Int) := by
    rw [IntKind.wrap_u64, Int.natCast_emod, Int.natCast_mul]; rfl
  have h2 : (x : Int) / (q : Int) = ((x / q : Nat) : Int) := (Int.natCast_ediv x q).symm
  have l1 : x * p % 18446744073709551616 < 18446744073709551616 := Nat.mod_lt _ (by decide)
  have l2 : x / q < 18446744073709551616 := Nat.lt_of_le_of_lt (Nat.div_le_self _ _) hx
  have l3 : (x * p % 18446744073709551616 ||| x / q) < 2 ^ 64 := Nat.or_lt_two_pow (by omega) (by omega)
  rw [h1, h2, u64_or_nat _ _ l1 l2, rotl, ← hp, ← hq]
  exact congrArg Int.ofNat (Nat.mod_eq_of_lt (Nat.lt_of_lt_of_le l3 (by decide))).symm
end Go.Proofs.YtajlfmnjibgbaaaGreatDoor.Sip
/- SipHash: words of bytes, the whole sum. -/
namespace Go.Proofs.YtajlfmnjibgbaaaGreatDoor.Sip
open Go

/-- the number of bytes, the least first -/
def word : List UInt8 → Nat
  | [] => 0
  | c :: l => c.toNat + 256 * word l
set_option maxRecDepth 100000 in
theorem word_lt : ∀ l : List UInt8, word l < 256 ^ l.length
  | [] => by simp [word]
  | c :: l => by
    have h := word_lt l
    have hc := c.toNat_lt
    simp only [word, List.length_cons, Nat.pow_succ]
    omega
set_option maxRecDepth 100000 in
theorem word_append : ∀ (l r : List UInt8), word (l ++ r) = word l + 256 ^ l.length * word r
  | [], r => by simp [word]
  | c :: l, r => by
    simp only [List.cons_append, word, List.length_cons, word_append l r, Nat.pow_succ]
    rw [Nat.mul_add, ← Nat.mul_assoc, Nat.mul_comm 256 (256 ^ l.length)]
    omega
/-- whole words are taken -/
def feed (v : V) : Nat → List UInt8 → V
  | 0, _ => v
  | k + 1, l => feed (take v (word (l.take 8))) k (l.drop 8)
set_option maxRecDepth 100000 in
theorem feed_succ : ∀ (k : Nat) (v : V) (l : List UInt8), feed v (k + 1) l = take (feed v k l) (word ((l.drop (8 * k)).take 8))
  | 0, v, l => by simp [feed]
  | k + 1, v, l => by
    rw [feed, feed_succ k, feed, List.drop_drop, show 8 + 8 * k = 8 * (k + 1) by omega]
/-- the eight bytes of a number -/
def bytes8 (x : Nat) : List UInt8 := (List.range 8).map fun i => UInt8.ofNat (x / 256 ^ i)
def start (k l : Nat) : V := ⟨uxor k 0x736f6d6570736575, uxor l 0x646f72616e646f6d, uxor k 0x6c7967656e657261, uxor l 0x7465646279746573⟩
def fold4 (v : V) : Nat := uxor (uxor (uxor v.a v.b) v.c) v.d
/-- the last word is taken, four rounds, the sum's bytes -/
def finish (v : V) (m : Nat) : List UInt8 :=
  let v2 := take v m
  let v3 := round (round (round (round ⟨v2.a, v2.b, uxor v2.c 255, v2.d⟩)))
  bytes8 (fold4 v3)
def sum (key s : List UInt8) : List UInt8 :=
  let v0 := start (word (key.take 8)) (word (key.drop 8))
  let v1 := feed v0 (s.length / 8) s
  finish v1 (word (s.drop (8 * (s.length / 8))) + s.length % 256 * 72057594037927936)
set_option maxRecDepth 100000 in
theorem sum_length (key s : List UInt8) : (sum key s).length = 8 := by simp [sum, finish, bytes8]
end Go.Proofs.YtajlfmnjibgbaaaGreatDoor.Sip
/- SipHash: the bytes that are laid behind a text, plain laws. -/
namespace Go.Proofs.YtajlfmnjibgbaaaGreatDoor.Sip
open Go

/-- what is laid behind the bytes -/
def pads (n : Nat) : List UInt8 := List.replicate (7 - n % 8) 0 ++ [UInt8.ofNat (n % 256)]
set_option maxRecDepth 100000 in
theorem pads_length (n : Nat) : (pads n).length = 8 - n % 8 := by simp [pads]; omega
set_option maxRecDepth 100000 in
theorem feed_append : ∀ (k : Nat) (v : V) (l r : List UInt8), 8 * k ≤ l.length → feed v k (l ++ r) = feed v k l
  | 0, _, _, _, _ => rfl
  | k + 1, v, l, r, h => by
    rw [feed, feed, List.take_append_of_le_length (by omega), List.drop_append_of_le_length (by omega), feed_append k _ _ _ (by rw [List.length_drop]; omega)]
set_option maxRecDepth 100000 in
theorem word_zeros : ∀ n : Nat, word (List.replicate n 0) = 0
  | 0 => rfl
  | n + 1 => by rw [List.replicate_succ, word, word_zeros n]; rfl
set_option maxRecDepth 100000 in
theorem feed_pads (v : V) (l : List UInt8) : feed v (l.length / 8 + 1) (l ++ pads l.length) = take (feed v (l.length / 8) l) (word (l.drop (8 * (l.length / 8))) + l.length % 256 * 72057594037927936) := by
  rw [feed_succ, feed_append _ _ _ _ (by omega)]
  congr 1
  have hd : (l ++ pads l.length).drop (8 * (l.length / 8)) = l.drop (8 * (l.length / 8)) ++ pads l.length := List.drop_append_of_le_length (by omega)
  rw [hd, List.take_of_length_le (by rw [List.length_append, List.length_drop, pads_length]; omega), pads, word_append, word_append, word_zeros]
  simp only [word, List.length_replicate, List.length_drop, Nat.mul_zero, Nat.add_zero, Nat.zero_add]
  rw [← Nat.mul_assoc, ← Nat.pow_add, show l.length - 8 * (l.length / 8) + (7 - l.length % 8) = 7 by omega, UInt8.toNat_ofNat']
  rw [Nat.mul_comm (256 ^ 7)]
  simp only [Nat.reducePow, Nat.mod_mod]
end Go.Proofs.YtajlfmnjibgbaaaGreatDoor.Sip

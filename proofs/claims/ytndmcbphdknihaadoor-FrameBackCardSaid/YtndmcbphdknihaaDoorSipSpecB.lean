/- SipHash: words of bytes, the whole sum. -/
import Derived.Test.YtndmcbphdknihaaDoorSipSpec
namespace Go.Proofs.YtndmcbphdknihaaDoor.Sip
open Go

/-- the number of bytes, the least first -/
def word : List UInt8 → Nat
  | [] => 0
  | c :: l => c.toNat + 256 * word l
theorem word_lt : ∀ l : List UInt8, word l < 256 ^ l.length
  | [] => by simp [word]
  | c :: l => by
    have h := word_lt l
    have hc := c.toNat_lt
    simp only [word, List.length_cons, Nat.pow_succ]
    omega
theorem word_append : ∀ (l r : List UInt8), word (l ++ r) = word l + 256 ^ l.length * word r
  | [], r => by simp [word]
  | c :: l, r => by
    simp only [List.cons_append, word, List.length_cons, word_append l r, Nat.pow_succ]
    rw [Nat.mul_add, ← Nat.mul_assoc, Nat.mul_comm 256 (256 ^ l.length)]
    omega
/-- whole words are taken -/
def feed (v : V) : Nat → List UInt8 → V
  | 0, _ => v
  | k + 1, l => feed (take v (word (l.take 8))) k (l.drop 8)
theorem feed_succ : ∀ (k : Nat) (v : V) (l : List UInt8), feed v (k + 1) l = take (feed v k l) (word ((l.drop (8 * k)).take 8))
  | 0, v, l => by simp [feed]
  | k + 1, v, l => by
    rw [feed, feed_succ k, feed, List.drop_drop, show 8 + 8 * k = 8 * (k + 1) by omega]
/-- the eight bytes of a number -/
def bytes8 (x : Nat) : List UInt8 := (List.range 8).map fun i => UInt8.ofNat (x / 256 ^ i)
def start (k l : Nat) : V := ⟨uxor k 0x736f6d6570736575, uxor l 0x646f72616e646f6d, uxor k 0x6c7967656e657261, uxor l 0x7465646279746573⟩
def fold4 (v : V) : Nat := uxor (uxor (uxor v.a v.b) v.c) v.d
/-- the last word is taken, four rounds, the sum's bytes -/
def finish (v : V) (m : Nat) : List UInt8 :=
  let v2 := take v m
  let v3 := round (round (round (round ⟨v2.a, v2.b, uxor v2.c 255, v2.d⟩)))
  bytes8 (fold4 v3)
def sum (key s : List UInt8) : List UInt8 :=
  let v0 := start (word (key.take 8)) (word (key.drop 8))
  let v1 := feed v0 (s.length / 8) s
  finish v1 (word (s.drop (8 * (s.length / 8))) + s.length % 256 * 72057594037927936)
theorem sum_length (key s : List UInt8) : (sum key s).length = 8 := by simp [sum, finish, bytes8]
end Go.Proofs.YtndmcbphdknihaaDoor.Sip

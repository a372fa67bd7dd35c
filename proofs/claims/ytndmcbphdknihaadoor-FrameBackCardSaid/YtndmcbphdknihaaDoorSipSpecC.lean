/- SipHash: the bytes that are laid behind a text, plain laws. -/
import Derived.Test.YtndmcbphdknihaaDoorSipSpecB
namespace Go.Proofs.YtndmcbphdknihaaDoor.Sip
open Go

/-- what is laid behind the bytes -/
def pads (n : Nat) : List UInt8 := List.replicate (7 - n % 8) 0 ++ [UInt8.ofNat (n % 256)]
theorem pads_length (n : Nat) : (pads n).length = 8 - n % 8 := by simp [pads]; omega
theorem feed_append : ∀ (k : Nat) (v : V) (l r : List UInt8), 8 * k ≤ l.length → feed v k (l ++ r) = feed v k l
  | 0, _, _, _, _ => rfl
  | k + 1, v, l, r, h => by
    rw [feed, feed, List.take_append_of_le_length (by omega), List.drop_append_of_le_length (by omega), feed_append k _ _ _ (by rw [List.length_drop]; omega)]
theorem word_zeros : ∀ n : Nat, word (List.replicate n 0) = 0
  | 0 => rfl
  | n + 1 => by rw [List.replicate_succ, word, word_zeros n]; rfl
theorem feed_pads (v : V) (l : List UInt8) : feed v (l.length / 8 + 1) (l ++ pads l.length) = take (feed v (l.length / 8) l) (word (l.drop (8 * (l.length / 8))) + l.length % 256 * 72057594037927936) := by
  rw [feed_succ, feed_append _ _ _ _ (by omega)]
  congr 1
  have hd : (l ++ pads l.length).drop (8 * (l.length / 8)) = l.drop (8 * (l.length / 8)) ++ pads l.length := List.drop_append_of_le_length (by omega)
  rw [hd, List.take_of_length_le (by rw [List.length_append, List.length_drop, pads_length]; omega), pads, word_append, word_append, word_zeros]
  simp only [word, List.length_replicate, List.length_drop, Nat.mul_zero, Nat.add_zero, Nat.zero_add]
  rw [← Nat.mul_assoc, ← Nat.pow_add, show l.length - 8 * (l.length / 8) + (7 - l.length % 8) = 7 by omega, UInt8.toNat_ofNat']
  rw [Nat.mul_comm (256 ^ 7)]
  simp only [Nat.reducePow, Nat.mod_mod]
end Go.Proofs.YtndmcbphdknihaaDoor.Sip

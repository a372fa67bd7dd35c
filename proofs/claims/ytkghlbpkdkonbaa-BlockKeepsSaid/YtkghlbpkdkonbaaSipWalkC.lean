/- SipHash: words of bytes, both ways of reading them. -/
import Derived.Test.YtkghlbpkdkonbaaSipWalkB
import Derived.Test.YtkghlbpkdkonbaaSipPl
import Derived.Lib.Strings
namespace Go.Proofs.Ytkghlbpkdkonbaa.Sip
open Go.RowKit Mem

set_option maxRecDepth 100000 in
theorem or_high (a c k : Nat) (ha : a < 256 ^ k) (hk : k < 8) (hc : c < 256) : bits .or .u64 (a : Int) (IntKind.u64.wrap ((c : Int) * (256 ^ k : Nat))) = ((a + 256 ^ k * c : Nat) : Int) := by
  have e : (256 : Nat) ^ k = 2 ^ (8 * k) := by rw [show (256 : Nat) = 2 ^ 8 from rfl, ← Nat.pow_mul]
  have hle : 256 ^ k ≤ 256 ^ 7 := Nat.pow_le_pow_right (by omega) (by omega)
  have hm : c * 256 ^ k < 18446744073709551616 := Nat.lt_of_le_of_lt (Nat.mul_le_mul (show c ≤ 255 by omega) hle) (by decide)
  have hw : IntKind.u64.wrap ((c : Int) * (256 ^ k : Nat)) = ((c * 256 ^ k : Nat) : Int) := by
    rw [IntKind.wrap_u64, ← Int.natCast_mul]
    exact congrArg Int.ofNat (Nat.mod_eq_of_lt hm)
  have hal : a < 18446744073709551616 := Nat.lt_of_lt_of_le ha (Nat.le_trans hle (by decide))
  rw [hw, u64_or_nat _ _ hal hm]
  rw [e] at ha ⊢
  rw [Nat.or_comm, Nat.mul_comm c, ← Nat.two_pow_add_eq_or_of_lt ha, Nat.add_comm]

set_option maxRecDepth 100000 in
theorem word_snoc (l : List UInt8) (c : UInt8) : word (l ++ [c]) = word l + 256 ^ l.length * c.toNat := by
  rw [word_append]; simp [word]

set_option maxRecDepth 100000 in
set_option maxHeartbeats 4000000 in
theorem read_any (s : ByteArray) (w : World) (hs : s.size ≤ 8) :
    Calls Try.prog 97 #[.string s] w fun e w' => e = .returned (.int .u64 (word s.data.toList : Nat)) ∧ w' = w := by
  have hsz := Lib.hid (Lib.size_eq s)
  go_enter Try.func97, Try.ntmps97
  go_wp2_with fail
  go_loop [3, 7] (fun x i => ∃ k : Nat, k ≤ s.size ∧ i = .int .i64 (k : Int) ∧ x = .int .u64 (word (s.data.toList.take k) : Nat)) (fun _ i => s.size - (intOf i).toNat)
  case atStart => exact ⟨0, Nat.zero_le _, rfl, rfl⟩
  case round =>
    obtain ⟨k, hk, rfl, rfl⟩ := hrel
    by_cases hlt : k < s.size
    · have hc : s.data.toList[k]? = some s[k] := by rw [Array.getElem?_toList]; exact Array.getElem?_eq_getElem hlt
      generalize hcc : s[k] = c at hc
      have hl8 : (s.data.toList.take k).length = k := by rw [List.length_take, ← hsz.out]; omega
      have hstep : word (s.data.toList.take (k + 1)) = word (s.data.toList.take k) + 256 ^ k * c.toNat := by
        rw [List.take_add_one, hc]
        simp only [Option.toList]
        rw [word_snoc, hl8]
      have hwl : word (s.data.toList.take k) < 256 ^ k := by have := word_lt (s.data.toList.take k); rwa [hl8] at this
      have hor := or_high (word (s.data.toList.take k)) c.toNat k hwl (by omega) c.toNat_lt
      rw [← hstep] at hor
      have hor' := Lib.hid hor
      have hcc' := Lib.hid hcc
      have hk8 : k = 0 ∨ k = 1 ∨ k = 2 ∨ k = 3 ∨ k = 4 ∨ k = 5 ∨ k = 6 ∨ k = 7 := by omega
      have hwb : IntKind.u64.wrap (c.toNat : Int) = (c.toNat : Int) := by
        rw [IntKind.wrap_u64]; have := c.toNat_lt; omega
      have hwb' := Lib.hid hwb
      clear hor hwl hl8 hstep hc hcc hwb
      rcases hk8 with rfl | rfl | rfl | rfl | rfl | rfl | rfl | rfl
      all_goals go_wp2_with fail
      · refine ⟨⟨1, by omega, rfl, congrArg (Value.int IntKind.u64) ?_⟩, by simp [intOf]; omega⟩
        rw [hcc'.out, hwb'.out]
        have := hor'.out
        rwa [show ((256 ^ 0 : Nat) : Int) = 1 from rfl, Int.mul_one] at this
      · refine ⟨⟨2, by omega, rfl, congrArg (Value.int IntKind.u64) ?_⟩, by simp [intOf]; omega⟩
        rw [hcc'.out, hwb'.out]; exact hor'.out
      · refine ⟨⟨3, by omega, rfl, congrArg (Value.int IntKind.u64) ?_⟩, by simp [intOf]; omega⟩
        rw [hcc'.out, hwb'.out]; exact hor'.out
      · refine ⟨⟨4, by omega, rfl, congrArg (Value.int IntKind.u64) ?_⟩, by simp [intOf]; omega⟩
        rw [hcc'.out, hwb'.out]; exact hor'.out
      · refine ⟨⟨5, by omega, rfl, congrArg (Value.int IntKind.u64) ?_⟩, by simp [intOf]; omega⟩
        rw [hcc'.out, hwb'.out]; exact hor'.out
      · refine ⟨⟨6, by omega, rfl, congrArg (Value.int IntKind.u64) ?_⟩, by simp [intOf]; omega⟩
        rw [hcc'.out, hwb'.out]; exact hor'.out
      · refine ⟨⟨7, by omega, rfl, congrArg (Value.int IntKind.u64) ?_⟩, by simp [intOf]; omega⟩
        rw [hcc'.out, hwb'.out]; exact hor'.out
      · refine ⟨⟨8, by omega, rfl, congrArg (Value.int IntKind.u64) ?_⟩, by simp [intOf]; omega⟩
        rw [hcc'.out, hwb'.out]; exact hor'.out
    · obtain rfl : k = s.size := by omega
      have hall : s.data.toList.take s.size = s.data.toList := List.take_of_length_le (by rw [← hsz.out]; omega)
      rw [hall]
      go_wp2_with fail
      go_ret
      exact ⟨rfl, rfl⟩

set_option maxRecDepth 100000 in
theorem step256 (s : ByteArray) (k : Nat) (hk : k < s.size) (hs : s.size = 8) :
    IntKind.u64.wrap (IntKind.u64.wrap (256 * ((word (s.data.toList.drop (k + 1)) : Nat) : Int)) + IntKind.u64.wrap (s[k].toNat : Int)) = ((word (s.data.toList.drop k) : Nat) : Int) := by
  have hlen : s.data.toList.length = 8 := by rw [← Lib.size_eq s]; exact hs
  have hd : s.data.toList.drop k = s[k] :: s.data.toList.drop (k + 1) := by
    rw [List.drop_eq_getElem_cons (by omega)]; rfl
  have hl : (s.data.toList.drop (k + 1)).length ≤ 7 := by rw [List.length_drop]; omega
  have h1 := word_lt (s.data.toList.drop (k + 1))
  have h2 := Nat.pow_le_pow_right (n := 256) (by omega) hl
  rw [hd, word, IntKind.wrap_u64, IntKind.wrap_u64, IntKind.wrap_u64]
  generalize word (s.data.toList.drop (k + 1)) = x at h1 ⊢
  have hc := s[k].toNat_lt
  generalize s[k].toNat = c at hc ⊢
  have h3 : x < 72057594037927936 := by omega
  clear h1 h2
  omega

set_option maxRecDepth 100000 in
set_option maxHeartbeats 4000000 in
theorem rword_any (s : ByteArray) (w : World) (hs : s.size = 8) :
    Calls Try.prog 80 #[.string s] w fun e w' => e = .returned (.int .u64 (word s.data.toList : Nat)) ∧ w' = w := by
  have hs' := Lib.hid hs
  have hd8 : word (s.data.toList.drop 8) = 0 := by
    rw [List.drop_of_length_le (by rw [← Lib.size_eq s]; omega)]; rfl
  have hd8' := Lib.hid hd8
  clear hd8
  go_enter Try.func80, Try.ntmps80
  go_wp2_with fail
  go_loop [3, 4] (fun x i => ∃ k : Nat, k ≤ 8 ∧ i = .int .i64 ((k : Int) - 1) ∧ x = .int .u64 (word (s.data.toList.drop k) : Nat)) (fun _ i => (intOf i + 1).toNat)
  case atStart => exact ⟨8, by omega, rfl, by rw [hd8'.out]; rfl⟩
  case round =>
    obtain ⟨k, hk, rfl, rfl⟩ := hrel
    have hk8 : k = 8 ∨ k = 7 ∨ k = 6 ∨ k = 5 ∨ k = 4 ∨ k = 3 ∨ k = 2 ∨ k = 1 ∨ k = 0 := by omega
    rcases hk8 with rfl | rfl | rfl | rfl | rfl | rfl | rfl | rfl | rfl
    case inr.inr.inr.inr.inr.inr.inr.inr =>
      go_wp2_with fail
      go_ret
      exact ⟨rfl, rfl⟩
    all_goals go_wp2_with fail
    · refine ⟨⟨7, by omega, rfl, congrArg (Value.int IntKind.u64) ?_⟩, by simp [intOf]⟩
      exact step256 s 7 (by rw [hs'.out]; omega) hs'.out
    · refine ⟨⟨6, by omega, rfl, congrArg (Value.int IntKind.u64) ?_⟩, by simp [intOf]⟩
      exact step256 s 6 (by rw [hs'.out]; omega) hs'.out
    · refine ⟨⟨5, by omega, rfl, congrArg (Value.int IntKind.u64) ?_⟩, by simp [intOf]⟩
      exact step256 s 5 (by rw [hs'.out]; omega) hs'.out
    · refine ⟨⟨4, by omega, rfl, congrArg (Value.int IntKind.u64) ?_⟩, by simp [intOf]⟩
      exact step256 s 4 (by rw [hs'.out]; omega) hs'.out
    · refine ⟨⟨3, by omega, rfl, congrArg (Value.int IntKind.u64) ?_⟩, by simp [intOf]⟩
      exact step256 s 3 (by rw [hs'.out]; omega) hs'.out
    · refine ⟨⟨2, by omega, rfl, congrArg (Value.int IntKind.u64) ?_⟩, by simp [intOf]⟩
      exact step256 s 2 (by rw [hs'.out]; omega) hs'.out
    · refine ⟨⟨1, by omega, rfl, congrArg (Value.int IntKind.u64) ?_⟩, by simp [intOf]⟩
      exact step256 s 1 (by rw [hs'.out]; omega) hs'.out
    · refine ⟨⟨0, by omega, rfl, congrArg (Value.int IntKind.u64) ?_⟩, by simp [intOf]⟩
      have := step256 s 0 (by rw [hs'.out]; omega) hs'.out
      rwa [show s.data.toList.drop (0 + 1) = s.data.toList.tail by simp] at this
end Go.Proofs.Ytkghlbpkdkonbaa.Sip

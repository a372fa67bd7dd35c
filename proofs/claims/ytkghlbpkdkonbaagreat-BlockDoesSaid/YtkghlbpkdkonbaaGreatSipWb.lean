/- SipHash: words of bytes, both ways of reading them. -/
import Derived.Test.YtkghlbpkdkonbaaGreatSipWa
import Derived.Test.YtkghlbpkdkonbaaGreatSipPl
import Derived.Lib.Strings
import Derived.Deep.QuietTactic
import Derived.BigQuiet
namespace Go.Proofs.YtkghlbpkdkonbaaGreat.Sip
open Go.RowKit Mem

set_option maxRecDepth 100000 in
theorem or_high (a c k : Nat) (ha : a < 256 ^ k) (hk : k < 8) (hc : c < 256) : bits .or .u64 (a : Int) (IntKind.u64.wrap ((c : Int) * (256 ^ k : Nat))) = ((a + 256 ^ k * c : Nat) : Int) := by
  have e : (256 : Nat) ^ k = 2 ^ (8 * k) := by rw [show (256 : Nat) = 2 ^ 8 from rfl, ← Nat.pow_mul]
  have hle : 256 ^ k ≤ 256 ^ 7 := Nat.pow_le_pow_right (by omega) (by omega)
  have hm : c * 256 ^ k < 18446744073709551616 := Nat.lt_of_le_of_lt (Nat.mul_le_mul (show c ≤ 255 by omega) hle) (by decide)
  have hw : IntKind.u64.wrap ((c : Int) * (256 ^ k : Nat)) = ((c * 256 ^ k : Nat) : Int) := by
    rw [IntKind.wrap_u64, ← Int.natCast_mul]
    exact congrArg Int.ofNat (Nat.mod_eq_of_lt hm)
  have hal : a < 18446744073709551616 := Nat.lt_of_lt_of_le ha (Nat.le_trans hle (by decide))
  rw [hw, u64_or_nat _ _ hal hm]
  rw [e] at ha ⊢
  rw [Nat.or_comm, Nat.mul_comm c, ← Nat.two_pow_add_eq_or_of_lt ha, Nat.add_comm]

set_option maxRecDepth 100000 in
theorem word_snoc (l : List UInt8) (c : UInt8) : word (l ++ [c]) = word l + 256 ^ l.length * c.toNat := by
  rw [word_append]; simp [word]

set_option maxRecDepth 100000 in
set_option maxHeartbeats 4000000 in
theorem read_any (s : ByteArray) (w : World) (hs : s.size ≤ 8) :
    Calls Tryz.prog 112 #[.string s] w fun e w' => e = .returned (.int .u64 (word s.data.toList : Nat)) ∧ w' = w := by
  have hsz := Lib.hid (Lib.size_eq s)
  go_enter Tryz.func112, Tryz.ntmps112
  go_wp2_with fail
  go_loop [3, 7] (fun x i => ∃ k : Nat, k ≤ s.size ∧ i = .int .i64 (k : Int) ∧ x = .int .u64 (word (s.data.toList.take k) : Nat)) (fun _ i => s.size - (intOf i).toNat)
  case atStart => exact ⟨0, Nat.zero_le _, rfl, rfl⟩
  case round =>
    obtain ⟨k, hk, rfl, rfl⟩ := hrel
    by_cases hlt : k < s.size
    · have hc : s.data.toList[k]? = some s[k] := by rw [Array.getElem?_toList]; exact Array.getElem?_eq_getElem hlt
      generalize hcc : s[k] = c at hc
      have hl8 : (s.data.toList.take k).length = k := by rw [List.length_take, ← hsz.out]; omega
      have hstep : word (s.data.toList.take (k + 1)) = word (s.data.toList.take k) + 256 ^ k * c.toNat := by
        rw [List.take_add_one, hc]
        simp only [Option.toList]
        rw [word_snoc, hl8]
      have hwl : word (s.data.toList.take k) < 256 ^ k := by have := word_lt (s.data.toList.take k); rwa [hl8] at this
      have hor := or_high (word (s.data.toList.take k)) c.toNat k hwl (by omega) c.toNat_lt
      rw [← hstep] at hor
      have hor' := Lib.hid hor
      have hcc' := Lib.hid hcc
      have hk8 : k = 0 ∨ k = 1 ∨ k = 2 ∨ k = 3 ∨ k = 4 ∨ k = 5 ∨ k = 6 ∨ k = 7 := by omega
      have hwb : IntKind.u64.wrap (c.toNat : Int) = (c.toNat : Int) := by
        rw [IntKind.wrap_u64]; have := c.toNat_lt; omega
      have hwb' := Lib.hid hwb
      clear hor hwl hl8 hstep hc hcc hwb
      rcases hk8 with rfl | rfl | rfl | rfl | rfl | rfl | rfl | rfl
      all_goals go_wp2_with fail
      · refine ⟨⟨1, by omega, rfl, congrArg (Value.int IntKind.u64) ?_⟩, by simp [intOf]; omega⟩
        rw [hcc'.out, hwb'.out]
        have := hor'.out
        rwa [show ((256 ^ 0 : Nat) : Int) = 1 from rfl, Int.mul_one] at this
      · refine ⟨⟨2, by omega, rfl, congrArg (Value.int IntKind.u64) ?_⟩, by simp [intOf]; omega⟩
        rw [hcc'.out, hwb'.out]; exact hor'.out
      · refine ⟨⟨3, by omega, rfl, congrArg (Value.int IntKind.u64) ?_⟩, by simp [intOf]; omega⟩
        rw [hcc'.out, hwb'.out]; exact hor'.out
      · refine ⟨⟨4, by omega, rfl, congrArg (Value.int IntKind.u64) ?_⟩, by simp [intOf]; omega⟩
        rw [hcc'.out, hwb'.out]; exact hor'.out
      · refine ⟨⟨5, by omega, rfl, congrArg (Value.int IntKind.u64) ?_⟩, by simp [intOf]; omega⟩
        rw [hcc'.out, hwb'.out]; exact hor'.out
      · refine ⟨⟨6, by omega, rfl, congrArg (Value.int IntKind.u64) ?_⟩, by simp [intOf]; omega⟩
        rw [hcc'.out, hwb'.out]; exact hor'.out
      · refine ⟨⟨7, by omega, rfl, congrArg (Value.int IntKind.u64) ?_⟩, by simp [intOf]; omega⟩
        rw [hcc'.out, hwb'.out]; exact hor'.out
      · refine ⟨⟨8, by omega, rfl, congrArg (Value.int IntKind.u64) ?_⟩, by simp [intOf]; omega⟩
        rw [hcc'.out, hwb'.out]; exact hor'.out
    · obtain rfl : k = s.size := by omega
      have hall : s.data.toList.take s.size = s.data.toList := List.take_of_length_le (by rw [← hsz.out]; omega)
      rw [hall]
      go_wp2_with fail
      go_ret
      exact ⟨rfl, rfl⟩

set_option maxRecDepth 100000 in
theorem step256 (s : ByteArray) (k : Nat) (hk : k < s.size) (hs : s.size = 8) :
    IntKind.u64.wrap (IntKind.u64.wrap (256 * ((word (s.data.toList.drop (k + 1)) : Nat) : Int)) + IntKind.u64.wrap (s[k].toNat : Int)) = ((word (s.data.toList.drop k) : Nat) : Int) := by
  have hlen : s.data.toList.length = 8 := by rw [← Lib.size_eq s]; exact hs
  have hd : s.data.toList.drop k = s[k] :: s.data.toList.drop (k + 1) := by
    rw [List.drop_eq_getElem_cons (by omega)]; rfl
  have hl : (s.data.toList.drop (k + 1)).length ≤ 7 := by rw [List.length_drop]; omega
  have h1 := word_lt (s.data.toList.drop (k + 1))
  have h2 := Nat.pow_le_pow_right (n := 256) (by omega) hl
  rw [hd, word, IntKind.wrap_u64, IntKind.wrap_u64, IntKind.wrap_u64]
  generalize word (s.data.toList.drop (k + 1)) = x at h1 ⊢
  have hc := s[k].toNat_lt
  generalize s[k].toNat = c at hc ⊢
  have h3 : x < 72057594037927936 := by omega
  clear h1 h2
  omega

set_option maxRecDepth 100000 in
set_option maxHeartbeats 4000000 in
theorem rword_any (s : ByteArray) (w : World) (hs : s.size = 8) :
    Calls Tryz.prog 105 #[.string s] w fun e w' => e = .returned (.int .u64 (word s.data.toList : Nat)) ∧ w' = w := by
  have hs' := Lib.hid hs
  have hd8 : word (s.data.toList.drop 8) = 0 := by
    rw [List.drop_of_length_le (by rw [← Lib.size_eq s]; omega)]; rfl
  have hd8' := Lib.hid hd8
  clear hd8
  go_enter Tryz.func105, Tryz.ntmps105
  go_wp2_with fail
  go_loop [3, 4] (fun x i => ∃ k : Nat, k ≤ 8 ∧ i = .int .i64 ((k : Int) - 1) ∧ x = .int .u64 (word (s.data.toList.drop k) : Nat)) (fun _ i => (intOf i + 1).toNat)
  case atStart => exact ⟨8, by omega, rfl, by rw [hd8'.out]; rfl⟩
  case round =>
    obtain ⟨k, hk, rfl, rfl⟩ := hrel
    have hk8 : k = 8 ∨ k = 7 ∨ k = 6 ∨ k = 5 ∨ k = 4 ∨ k = 3 ∨ k = 2 ∨ k = 1 ∨ k = 0 := by omega
    rcases hk8 with rfl | rfl | rfl | rfl | rfl | rfl | rfl | rfl | rfl
    case inr.inr.inr.inr.inr.inr.inr.inr =>
      go_wp2_with fail
      go_ret
      exact ⟨rfl, rfl⟩
    all_goals go_wp2_with fail
    · refine ⟨⟨7, by omega, rfl, congrArg (Value.int IntKind.u64) ?_⟩, by simp [intOf]⟩
      exact step256 s 7 (by rw [hs'.out]; omega) hs'.out
    · refine ⟨⟨6, by omega, rfl, congrArg (Value.int IntKind.u64) ?_⟩, by simp [intOf]⟩
      exact step256 s 6 (by rw [hs'.out]; omega) hs'.out
    · refine ⟨⟨5, by omega, rfl, congrArg (Value.int IntKind.u64) ?_⟩, by simp [intOf]⟩
      exact step256 s 5 (by rw [hs'.out]; omega) hs'.out
    · refine ⟨⟨4, by omega, rfl, congrArg (Value.int IntKind.u64) ?_⟩, by simp [intOf]⟩
      exact step256 s 4 (by rw [hs'.out]; omega) hs'.out
    · refine ⟨⟨3, by omega, rfl, congrArg (Value.int IntKind.u64) ?_⟩, by simp [intOf]⟩
      exact step256 s 3 (by rw [hs'.out]; omega) hs'.out
    · refine ⟨⟨2, by omega, rfl, congrArg (Value.int IntKind.u64) ?_⟩, by simp [intOf]⟩
      exact step256 s 2 (by rw [hs'.out]; omega) hs'.out
    · refine ⟨⟨1, by omega, rfl, congrArg (Value.int IntKind.u64) ?_⟩, by simp [intOf]⟩
      exact step256 s 1 (by rw [hs'.out]; omega) hs'.out
    · refine ⟨⟨0, by omega, rfl, congrArg (Value.int IntKind.u64) ?_⟩, by simp [intOf]⟩
      have := step256 s 0 (by rw [hs'.out]; omega) hs'.out
      rwa [show s.data.toList.drop (0 + 1) = s.data.toList.tail by simp] at this
end Go.Proofs.YtkghlbpkdkonbaaGreat.Sip
/- SipHash: a Hash is made, goes on, and tells its sum. -/
namespace Go.Proofs.YtkghlbpkdkonbaaGreat.Sip
open Go.RowKit Mem

set_option maxRecDepth 100000 in
/-- the first and the last eight bytes of a key -/
theorem key_left (key : ByteArray) (hs : key.size = 16) : (key.extract 0 8).data.toList = key.data.toList.take 8 ∧ (key.extract 0 8).size = 8 := by
  refine ⟨?_, ?_⟩
  · rw [Lib.extract_data]; rfl
  · rw [ByteArray.size_extract]; omega
set_option maxRecDepth 100000 in
theorem key_right (key : ByteArray) (hs : key.size = 16) : (key.extract 8 16).data.toList = key.data.toList.drop 8 ∧ (key.extract 8 16).size = 8 := by
  have hl : key.data.toList.length = 16 := by rw [← Lib.size_eq key]; exact hs
  refine ⟨?_, ?_⟩
  · rw [Lib.extract_data]
    exact List.take_of_length_le (by rw [List.length_drop]; omega)
  · rw [ByteArray.size_extract]; omega

/-- four words below 2^64 -/
def Bd (v : V) : Prop := v.a < 18446744073709551616 ∧ v.b < 18446744073709551616 ∧ v.c < 18446744073709551616 ∧ v.d < 18446744073709551616
set_option maxRecDepth 100000 in
theorem take_bd (v : V) (m : Nat) : Bd (take v m) := ⟨uxor_lt _ _, (round_lt _).2.1, (round_lt _).2.2.1, (round_lt _).2.2.2⟩
set_option maxRecDepth 100000 in
theorem feed_bd : ∀ (k : Nat) (v : V) (l : List UInt8), Bd v → Bd (feed v k l)
  | 0, _, _, h => h
  | k + 1, _, _, _ => feed_bd k _ _ (take_bd _ _)
set_option maxRecDepth 100000 in
theorem start_bd (k l : Nat) : Bd (start k l) := ⟨uxor_lt _ _, uxor_lt _ _, uxor_lt _ _, uxor_lt _ _⟩
set_option maxRecDepth 100000 in
theorem word8_lt (l : List UInt8) (h : l.length ≤ 8) : word l < 18446744073709551616 :=
  Nat.lt_of_lt_of_le (word_lt l) (Nat.le_trans (Nat.pow_le_pow_right (n := 256) (by omega) h) (by decide))

set_option maxRecDepth 100000 in
set_option maxHeartbeats 800000 in
theorem new_key (key : ByteArray) (w : World) (hs : key.size = 16) :
    Calls Tryz.prog 108 #[.string key] w fun e w' => e = .returned (.tuple #[.pointer (some ⟨w.heap.size, 0, none⟩), .int .i64 0]) ∧ Blk w' w.heap.size 153 ⟨words (start (word (key.data.toList.take 8)) (word (key.data.toList.drop 8))) ++ [.string ⟨#[]⟩, .int .i64 0]⟩ ∧ Below w.heap.size w w' := by
  have k1 : ∀ W : World, Calls Tryz.prog 112 #[.string (key.extract 0 8)] W fun e w' => e = .returned (.int .u64 (word (key.data.toList.take 8) : Nat)) ∧ w' = W := by
    intro W
    have := read_any (key.extract 0 8) W (by rw [(key_left key hs).2]; exact Nat.le_refl _)
    rwa [(key_left key hs).1] at this
  have k2 : ∀ W : World, Calls Tryz.prog 112 #[.string (key.extract 8 16)] W fun e w' => e = .returned (.int .u64 (word (key.data.toList.drop 8) : Nat)) ∧ w' = W := by
    intro W
    have := read_any (key.extract 8 16) W (by rw [(key_right key hs).2]; exact Nat.le_refl _)
    rwa [(key_right key hs).1] at this
  have bk : word (key.data.toList.take 8) < 18446744073709551616 := word8_lt _ (by rw [List.length_take]; omega)
  have bl : word (key.data.toList.drop 8) < 18446744073709551616 := word8_lt _ (by rw [List.length_drop, ← Lib.size_eq key]; omega)
  obtain ⟨k, hk⟩ : ∃ z, z = word (key.data.toList.take 8) := ⟨_, rfl⟩
  obtain ⟨l, hl⟩ : ∃ z, z = word (key.data.toList.drop 8) := ⟨_, rfl⟩
  rw [← hk] at k1 bk ⊢
  rw [← hl] at k2 bl ⊢
  clear hk hl
  have e1 := uxor_eq k 0x736f6d6570736575 bk (by decide)
  have e2 := uxor_eq l 0x646f72616e646f6d bl (by decide)
  have e3 := uxor_eq k 0x6c7967656e657261 bk (by decide)
  have e4 := uxor_eq l 0x7465646279746573 bl (by decide)
  have e1 := Lib.hid e1
  have e2 := Lib.hid e2
  have e3 := Lib.hid e3
  have e4 := Lib.hid e4
  clear bk bl
  have k1 := Lib.hid k1
  have k2 := Lib.hid k2
  go_enter Tryz.func108, Tryz.ntmps108
  go_wp2_with fail
  refine wp_region_quiet_lit (by kernel_rfl) (by kernel_rfl) ?_
  quiet_step (fail)
  quiet_step (fail)
  quiet_step (exact Calls.quiet_of_same (k1.out _))
  quiet_step (fail)
  quiet_step (fail)
  quiet_step (exact Calls.quiet_of_same (k2.out _))
  quiet_step (fail)
  quiet_step (fail)
  refine wpQuiet_nil ?_
  intro _ hw'
  obtain ⟨nq, hw''⟩ := hw'
  subst hw''
  go_wp2_with fail
  have hb : Below w.heap.size w ((w.drewN nq).alloc (.cells ⟨words (start k l) ++ [.string ⟨#[]⟩, .int .i64 0]⟩ 153)) :=
    (below_drewN (Below.refl _ w) nq).alloc (Nat.le_refl _) _
  have hk : Blk ((w.drewN nq).alloc (.cells ⟨words (start k l) ++ [.string ⟨#[]⟩, .int .i64 0]⟩ 153)) w.heap.size 153 ⟨words (start k l) ++ [.string ⟨#[]⟩, .int .i64 0]⟩ := Blk.new (w.drewN nq) _ _
  have hc : (⟨words (start k l) ++ [.string ⟨#[]⟩, .int .i64 0]⟩ : Array Value) = #[Value.int .u64 (bits .xor .u64 (k : Int) 8317987319222330741), Value.int .u64 (bits .xor .u64 (l : Int) 7237128888997146477), Value.int .u64 (bits .xor .u64 (k : Int) 7816392313619706465), Value.int .u64 (bits .xor .u64 (l : Int) 8387220255154660723), .string ⟨#[]⟩, .int .i64 0] := by
    have a1 : bits .xor .u64 (k : Int) 8317987319222330741 = ((uxor k 0x736f6d6570736575 : Nat) : Int) := e1.out
    have a2 : bits .xor .u64 (l : Int) 7237128888997146477 = ((uxor l 0x646f72616e646f6d : Nat) : Int) := e2.out
    have a3 : bits .xor .u64 (k : Int) 7816392313619706465 = ((uxor k 0x6c7967656e657261 : Nat) : Int) := e3.out
    have a4 : bits .xor .u64 (l : Int) 8387220255154660723 = ((uxor l 0x7465646279746573 : Nat) : Int) := e4.out
    rw [a1, a2, a3, a4]
    rfl
  rw [hc] at hb hk
  go_ret2
  rw [hc]
  exact ⟨rfl, hk, hb⟩

set_option maxRecDepth 100000 in
set_option maxHeartbeats 1000000 in
/-- a Hash that is new goes on with bytes -/
theorem write_new (g : Nat) (v : V) (s : ByteArray) (w0 : World) (h0 : Blk w0 g 153 ⟨words v ++ [.string ⟨#[]⟩, .int .i64 0]⟩) (ha : v.a < 18446744073709551616) (hb : v.b < 18446744073709551616) (hc : v.c < 18446744073709551616) (hd : v.d < 18446744073709551616) (hs : s.size ≤ 9223372036854775807) :
    Calls Tryz.prog 109 #[.pointer (some ⟨g, 0, none⟩), .string s] w0 fun e w' => e = .returned (.tuple #[]) ∧ (∃ r : ByteArray, r.data.toList = s.data.toList.drop (8 * (s.size / 8)) ∧ Blk w' g 153 ⟨words (feed v (s.size / 8) s.data.toList) ++ [.string r, .int .i64 (s.size : Int)]⟩) ∧ w0.grownBy w' (some g) := by
  have m4 : w0.cell? ⟨g, 4, none⟩ = some (.string ⟨#[]⟩) := h0.cell 4
  have f4 := h0.free 4
  have m5 : w0.cell? ⟨g, 5, none⟩ = some (.int .i64 0) := h0.cell 5
  have f5 := h0.free 5
  go_enter Tryz.func109, Tryz.ntmps109
  go_wp2_with fail
  obtain ⟨w1, hw⟩ : ∃ x, x = w0.setCell ⟨g, 5, none⟩ (.int .i64 (s.size : Int)) := ⟨_, rfl⟩
  rw [← hw]
  have h1 : Blk w1 g 153 ⟨words v ++ [.string ⟨#[]⟩, .int .i64 (s.size : Int)]⟩ := by rw [hw]; exact blk_put h0 5 _
  have g1 : w0.grownBy w1 (some g) := by rw [hw]; exact Only.put (Only.refl w0 _) 5 _
  clear hw m4 f4 m5 f5 h0
  have hsz := Lib.hid (Lib.size_eq s)
  go_loopw [1] (fun y wr => ∃ (k : Nat) (x : ByteArray), 8 * k ≤ s.size ∧ y = .string x ∧ x.data.toList = s.data.toList.drop (8 * k) ∧ Blk wr g 153 ⟨words (feed v k s.data.toList) ++ [.string ⟨#[]⟩, .int .i64 (s.size : Int)]⟩ ∧ w0.grownBy wr (some g)) (fun y _ => match y with | .string x => x.size | _ => 0)
  case atStart => exact ⟨0, ⟨#[]⟩ ++ s, Nat.zero_le _, rfl, by simp, h1, g1⟩
  case round =>
    obtain ⟨k, x, hk, rfl, hx, hr, hgr⟩ := hrel
    clear h1 g1
    have hxl : x.size = s.size - 8 * k := by rw [Lib.size_eq x, hx, List.length_drop, hsz.out]
    have hx' := Lib.hid hx
    have hxl' := Lib.hid hxl
    have hk' := Lib.hid hk
    obtain ⟨fa, fb, fc, fd⟩ := feed_bd k v s.data.toList ⟨ha, hb, hc, hd⟩
    by_cases hlt : 8 ≤ x.size
    · have hw8 : word ((s.data.toList.drop (8 * k)).take 8) < 18446744073709551616 := word8_lt _ (by rw [List.length_take]; omega)
      have k1 : ∀ W : World, Calls Tryz.prog 112 #[.string (x.extract 0 8)] W fun e w' => e = .returned (.int .u64 (word ((s.data.toList.drop (8 * k)).take 8) : Nat)) ∧ w' = W := by
        intro W
        have := read_any (x.extract 0 8) W (by rw [ByteArray.size_extract]; omega)
        rwa [Lib.extract_data, hx, List.drop_zero] at this
      have k2 := fun W (h : Blk W g 153 ⟨words (feed v k s.data.toList) ++ [.string ⟨#[]⟩, .int .i64 (s.size : Int)]⟩) => take_any g 153 (feed v k s.data.toList) (word ((s.data.toList.drop (8 * k)).take 8)) _ W h fa fb fc fd hw8
      rw [← feed_succ] at k2
      generalize word ((s.data.toList.drop (8 * k)).take 8) = m at k1 k2
      have k1 := Lib.hid k1
      have k2 := Lib.hid k2
      clear hx hxl hk fa fb fc fd hw8
      go_wp2_with fail
      go_still_tail 6, (by kernel_rfl)
      still_call (k1.out _)
      repeat still_step
      refine wpStill_nil ?_
      change wpList _ _ _ _ _ wr.drew
      go_wp2_with fail
      refine (k2.out wr.drew hr).mono ?_
      rintro e w2 ⟨rfl, h2, g2⟩
      have g2 := Only.trans (Only.drew hgr) g2
      have h2 := Lib.hid h2
      go_wp2_with fail
      go_roundw
      case rel =>
        refine ⟨k + 1, x.extract 8 x.size, by rw [hxl'.out] at hlt; have := hk'.out; omega, rfl, ?_, h2.out, g2⟩
        rw [Lib.extract_data, hx'.out, List.drop_drop]
        exact List.take_of_length_le (by rw [List.length_drop, hxl'.out, ← hsz.out]; omega)
      case measure =>
        have e : (x.extract 8 x.size).size = x.size - 8 := by rw [ByteArray.size_extract]; omega
        show (x.extract 8 x.size).size < x.size
        rw [e]; omega
    · have m4 : wr.cell? ⟨g, 4, none⟩ = some (.string ⟨#[]⟩) := hr.cell 4
      have f4 := hr.free 4
      have hr := Lib.hid hr
      have hgr := Lib.hid hgr
      have hlt := Lib.hid hlt
      have hdec : decide ((8 : Int) ≤ (x.size : Int)) = false := decide_eq_false (by have := hlt.out; omega)
      clear hx hxl hk fa fb fc fd
      go_wp2_with fail
      go_end0
      obtain rfl : k = s.size / 8 := by have := hlt.out; have := hk'.out; have := hxl'.out; omega
      exact ⟨rfl, ⟨x, hx'.out, blk_put hr.out 4 _⟩, Only.put hgr.out 4 _⟩
end Go.Proofs.YtkghlbpkdkonbaaGreat.Sip

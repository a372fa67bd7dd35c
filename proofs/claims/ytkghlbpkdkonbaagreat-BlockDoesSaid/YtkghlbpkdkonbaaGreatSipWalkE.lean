/- SipHash: the sum of a Hash. -/
import Derived.Test.YtkghlbpkdkonbaaGreatSipWb
namespace Go.Proofs.YtkghlbpkdkonbaaGreat.Sip
open Go.RowKit Mem

def rounds (v : V) : Nat → V
  | 0 => v
  | k + 1 => round (rounds v k)
set_option maxRecDepth 100000 in
theorem rounds_bd : ∀ (k : Nat) (v : V), Bd v → Bd (rounds v k)
  | 0, _, h => h
  | _ + 1, _, _ => round_lt _
set_option maxRecDepth 100000 in
theorem infoByte : (Tryz.prog.info? 5).map (fun i => (i.zero, i.size, i.bytes)) = some (some (.int .u8 0), 1, 1) := by kernel_rfl
set_option maxRecDepth 100000 in
theorem make8 (W : World) : (Instr.makeSlice 72 (.int .i64 8) (.int .i64 8)).run Tryz.prog W = .ok (.slice (some ⟨W.heap.size, 0, none⟩) 8 8) (W.alloc (.cells #[.int .u8 0, .int .u8 0, .int .u8 0, .int .u8 0, .int .u8 0, .int .u8 0, .int .u8 0, .int .u8 0] 5)) := by
  obtain ⟨i0, hi, hz0, hz1, hz2⟩ := info_parts infoByte
  have h := run_make (P := Tryz.prog) (w := W) 72 5 i0 (.int .u8 0) Tryz.underlying72 hi hz0 .i64 .i64 8 8 (by decide) (by decide) (by rw [hz2]; decide) (by decide)
  rw [hz1, show madeCells (Value.int .u8 0).cells (Int.toNat 8 * 1) = #[.int .u8 0, .int .u8 0, .int .u8 0, .int .u8 0, .int .u8 0, .int .u8 0, .int .u8 0, .int .u8 0] by kernel_rfl] at h
  exact h
/-- the first k of the bytes of x lie -/
def brow (x k : Nat) : List Value := (List.range 8).map fun i => .int .u8 (if i < k then ((x / 256 ^ i % 256 : Nat) : Int) else 0)
set_option maxRecDepth 100000 in
theorem brow_full (x j : Nat) (hj : j < 8) : (⟨brow x 8⟩ : Array Value)[j]? = some (.int .u8 (((bytes8 x)[j]'(by simpa [bytes8] using hj)).toNat : Int)) := by
  have h : j = 0 ∨ j = 1 ∨ j = 2 ∨ j = 3 ∨ j = 4 ∨ j = 5 ∨ j = 6 ∨ j = 7 := by omega
  rcases h with rfl | rfl | rfl | rfl | rfl | rfl | rfl | rfl <;> simp [brow, bytes8, List.range_succ]
set_option maxRecDepth 100000 in
theorem brow_at (x k : Nat) (hk : k < 8) : (⟨brow x k⟩ : Array Value)[k]? = some (.int .u8 0) := by
  have h : k = 0 ∨ k = 1 ∨ k = 2 ∨ k = 3 ∨ k = 4 ∨ k = 5 ∨ k = 6 ∨ k = 7 := by omega
  rcases h with rfl | rfl | rfl | rfl | rfl | rfl | rfl | rfl <;> simp [brow, List.range_succ]
set_option maxRecDepth 100000 in
theorem brow_step (x k : Nat) (hk : k < 8) (u : Value) (hu : u = .int .u8 ((x / 256 ^ k % 256 : Nat) : Int)) : (⟨brow x k⟩ : Array Value).setIfInBounds k u = ⟨brow x (k + 1)⟩ := by
  have h : k = 0 ∨ k = 1 ∨ k = 2 ∨ k = 3 ∨ k = 4 ∨ k = 5 ∨ k = 6 ∨ k = 7 := by omega
  subst hu
  rcases h with rfl | rfl | rfl | rfl | rfl | rfl | rfl | rfl <;> simp [brow, List.range_succ, Array.setIfInBounds]
set_option maxRecDepth 100000 in
theorem last_word (m n : Nat) (hm : m < 72057594037927936) : bits .or .u64 (m : Int) (IntKind.u64.wrap (IntKind.u64.wrap (n : Int) * 72057594037927936)) = ((m + n % 256 * 72057594037927936 : Nat) : Int) := by
  have h := or_high m (n % 256) 7 hm (by omega) (by omega)
  have e : IntKind.u64.wrap (IntKind.u64.wrap (n : Int) * 72057594037927936) = IntKind.u64.wrap (((n % 256 : Nat) : Int) * (256 ^ 7 : Nat)) := by
    rw [IntKind.wrap_u64, IntKind.wrap_u64, IntKind.wrap_u64]
    have : ((256 ^ 7 : Nat) : Int) = 72057594037927936 := by decide
    rw [this]
    omega
  rw [e, h, Nat.mul_comm]

set_option maxRecDepth 100000 in
set_option maxHeartbeats 1000000 in
theorem hsum_any (g : Nat) (v : V) (r : ByteArray) (n : Nat) (w0 : World) (h0 : Blk w0 g 153 ⟨words v ++ [.string r, .int .i64 (n : Int)]⟩) (hv : Bd v) (hr : r.size ≤ 7) (hn : n ≤ 9223372036854775807) :
    Calls Tryz.prog 110 #[.pointer (some ⟨g, 0, none⟩)] w0 fun e w' => e = .returned (.string ⟨(finish v (word r.data.toList + n % 256 * 72057594037927936)).toArray⟩) ∧ Below w0.heap.size w0 w' := by
  have k1 : ∀ W : World, Calls Tryz.prog 112 #[.string r] W fun e w' => e = .returned (.int .u64 (word r.data.toList : Nat)) ∧ w' = W := fun W => read_any r W (by omega)
  have hw7 : word r.data.toList < 72057594037927936 := by
    have h1 := word_lt r.data.toList
    have h2 := Nat.pow_le_pow_right (n := 256) (by omega) (show r.data.toList.length ≤ 7 by rw [← Lib.size_eq r]; exact hr)
    exact Nat.lt_of_lt_of_le h1 (Nat.le_trans h2 (by decide))
  generalize word r.data.toList = m at k1 hw7 ⊢
  have em := last_word m n hw7
  have hM : m + n % 256 * 72057594037927936 < 18446744073709551616 := by omega
  generalize m + n % 256 * 72057594037927936 = M at em hM ⊢
  have k2 := fun W (h : Blk W w0.heap.size 151 ⟨words v ++ []⟩) => take_any w0.heap.size 151 v M [] W h hv.1 hv.2.1 hv.2.2.1 hv.2.2.2 hM
  have bd := take_bd v M
  have ef : finish v M = bytes8 (fold4 (round (round (round (round ⟨(take v M).a, (take v M).b, uxor (take v M).c 255, (take v M).d⟩))))) := rfl
  rw [ef]
  clear ef hM
  generalize take v M = v2 at k2 bd ⊢
  obtain ⟨c3, hc3⟩ : ∃ z, z = uxor v2.c 255 := ⟨_, rfl⟩
  have ec3 : bits .xor .u64 (v2.c : Int) 255 = (c3 : Int) := by rw [hc3]; exact uxor_eq _ 255 bd.2.2.1 (by decide)
  have lc3 : c3 < 18446744073709551616 := by rw [hc3]; exact uxor_lt _ _
  rw [← hc3]
  have bd3 : Bd ⟨v2.a, v2.b, c3, v2.d⟩ := ⟨bd.1, bd.2.1, lc3, bd.2.2.2⟩
  clear hc3 bd lc3
  have bd3 := Lib.hid bd3
  have k1 := Lib.hid k1
  have k2 := Lib.hid k2
  have em := Lib.hid em
  have hr := Lib.hid hr
  have hn := Lib.hid hn
  have m0 : w0.cell? ⟨g, 0, none⟩ = some (.int .u64 (v.a : Int)) := h0.cell 0
  have m1 : w0.cell? ⟨g, 1, none⟩ = some (.int .u64 (v.b : Int)) := h0.cell 1
  have m2 : w0.cell? ⟨g, 2, none⟩ = some (.int .u64 (v.c : Int)) := h0.cell 2
  have m3 : w0.cell? ⟨g, 3, none⟩ = some (.int .u64 (v.d : Int)) := h0.cell 3
  have m4 : w0.cell? ⟨g, 4, none⟩ = some (.string r) := h0.cell 4
  have m5 : w0.cell? ⟨g, 5, none⟩ = some (.int .i64 (n : Int)) := h0.cell 5
  go_enter Tryz.func110, Tryz.ntmps110
  go_wp2_with fail
  obtain ⟨w1, hw⟩ : ∃ x, x = w0.alloc (.cells #[.int .u64 (v.a : Int), .int .u64 (v.b : Int), .int .u64 (v.c : Int), .int .u64 (v.d : Int)] 151) := ⟨_, rfl⟩
  rw [← hw]
  have q4 : w1.cell? ⟨g, 4, none⟩ = some (.string r) := by rw [hw]; exact (h0.alloc _).cell 4
  have q5 : w1.cell? ⟨g, 5, none⟩ = some (.int .i64 (n : Int)) := by rw [hw]; exact (h0.alloc _).cell 5
  have h1 : Blk w1 w0.heap.size 151 ⟨words v ++ []⟩ := by rw [hw]; exact Blk.new w0 _ _
  have b1 : Below w0.heap.size w0 w1 := by rw [hw]; exact (Below.refl _ w0).alloc (Nat.le_refl _) _
  clear hw m0 m1 m2 m3 m4 m5 h0
  go_still_tail 12, (by kernel_rfl)
  still_call (k1.out _)
  repeat still_step
  refine wpStill_nil ?_
  change wpList _ _ _ _ _ w1.drew
  go_wp2_with fail
  refine (k2.out w1.drew h1).mono ?_
  rintro e w2 ⟨rfl, h2, g2⟩
  have g2 : w1.grownBy w2 (some w0.heap.size) := Only.trans (Only.drew (Only.refl _ _)) g2
  have q2 : w2.cell? ⟨w0.heap.size, 2, none⟩ = some (.int .u64 (v2.c : Int)) := h2.cell 2
  have f2 := h2.free 2
  go_wp2_with fail
  obtain ⟨w3, hw⟩ : ∃ x, x = w2.setCell ⟨w0.heap.size, 2, none⟩ (.int .u64 (c3 : Int)) := ⟨_, rfl⟩
  rw [← hw]
  have h3 : Blk w3 w0.heap.size 151 ⟨words ⟨v2.a, v2.b, c3, v2.d⟩ ++ []⟩ := by rw [hw]; exact blk_put h2 2 _
  have g3 : w1.grownBy w3 (some w0.heap.size) := by rw [hw]; exact Only.put g2 2 _
  clear hw q2 f2 h2 g2 k2 k1 h1 q4 q5
  obtain ⟨v3, hv3⟩ : ∃ z, z = (⟨v2.a, v2.b, c3, v2.d⟩ : V) := ⟨_, rfl⟩
  rw [← hv3] at h3 bd3
  go_loopw [28] (fun y wr => ∃ k : Nat, k ≤ 4 ∧ y = .int .i64 (k : Int) ∧ Blk wr w0.heap.size 151 ⟨words (rounds v3 k) ++ []⟩ ∧ w1.grownBy wr (some w0.heap.size)) (fun y _ => 4 - (intOf y).toNat)
  case atStart => exact ⟨0, Nat.zero_le _, rfl, h3, g3⟩
  case round =>
    obtain ⟨k, hk, rfl, hr, hgr⟩ := hrel
    clear h3 g3
    obtain ⟨fa, fb, fc, fd⟩ := rounds_bd k v3 bd3.out
    by_cases hlt : k < 4
    · have k2 := Lib.hid (round_any w0.heap.size 151 (rounds v3 k) [] wr hr fa fb fc fd)
      clear fa fb fc fd
      go_wp2_with fail
      refine k2.out.mono ?_
      rintro e w4 ⟨rfl, h4, g4⟩
      have g4 := Only.trans hgr g4
      have h4 := Lib.hid h4
      go_wp2_with fail
      go_roundw
      case rel => exact ⟨k + 1, by omega, by go_num, h4.out, g4⟩
      case measure => simp [intOf]; omega
    · obtain rfl : k = 4 := by omega
      have e4 : rounds v3 4 = round (round (round (round ⟨v2.a, v2.b, c3, v2.d⟩))) := by rw [hv3]; rfl
      rw [e4] at hr fa fb fc fd
      generalize hv4 : round (round (round (round ⟨v2.a, v2.b, c3, v2.d⟩))) = v4 at hr fa fb fc fd
      have hv4' := Lib.hid hv4
      clear hv4 e4
      have m0 : wr.cell? ⟨w0.heap.size, 0, none⟩ = some (.int .u64 (v4.a : Int)) := hr.cell 0
      have m1 : wr.cell? ⟨w0.heap.size, 1, none⟩ = some (.int .u64 (v4.b : Int)) := hr.cell 1
      have m2 : wr.cell? ⟨w0.heap.size, 2, none⟩ = some (.int .u64 (v4.c : Int)) := hr.cell 2
      have m3 : wr.cell? ⟨w0.heap.size, 3, none⟩ = some (.int .u64 (v4.d : Int)) := hr.cell 3
      have x1 := uxor_eq v4.a v4.b fa fb
      have x2 := uxor_eq (uxor v4.a v4.b) v4.c (uxor_lt _ _) fc
      have x3 : bits .xor .u64 ((uxor (uxor v4.a v4.b) v4.c : Nat) : Int) (v4.d : Int) = ((fold4 v4 : Nat) : Int) := uxor_eq (uxor (uxor v4.a v4.b) v4.c) v4.d (uxor_lt _ _) fd
      have mk := make8 wr
      have xl : fold4 v4 < 18446744073709551616 := uxor_lt _ _
      obtain ⟨x, hx⟩ : ∃ z, z = fold4 v4 := ⟨_, rfl⟩
      rw [← hx] at xl x3
      have hv4x : fold4 (round (round (round (round ⟨v2.a, v2.b, c3, v2.d⟩)))) = x := by rw [hv4'.out, hx]
      have hv4x := Lib.hid hv4x
      clear hx
      go_wp2_with fail
      obtain ⟨w5, hw⟩ : ∃ z, z = wr.alloc (.cells #[.int .u8 0, .int .u8 0, .int .u8 0, .int .u8 0, .int .u8 0, .int .u8 0, .int .u8 0, .int .u8 0] 5) := ⟨_, rfl⟩
      rw [← hw]
      have h5 : Blk w5 wr.heap.size 5 ⟨brow x 0⟩ := by rw [hw]; exact Blk.new wr _ _
      have g5 : w1.grownBy w5 (some w0.heap.size) := by rw [hw]; exact Only.alloc hgr _
      have hs5 := hgr.size
      have b5 : Below w0.heap.size w0 w5 := b1.grown g5 b1.size (fun k hk => by injection hk; omega)
      have hB : w0.heap.size ≤ wr.heap.size := Nat.le_trans b1.size hs5
      clear hw mk m0 m1 m2 m3 x1 x2 x3 hr hgr fa fb fc fd
      generalize wr.heap.size = B at h5 hB ⊢
      clear hs5
      go_loopw [46] (fun y wq => ∃ k : Nat, k ≤ 8 ∧ y = .int .i64 (k : Int) ∧ Blk wq B 5 ⟨brow x k⟩ ∧ Below w0.heap.size w0 wq) (fun y _ => 8 - (intOf y).toNat)
      case atStart => exact ⟨0, Nat.zero_le _, rfl, h5, b5⟩
      case round =>
        obtain ⟨k, hk, rfl, hr, hb⟩ := hrel
        clear h5 g5 b5
        by_cases hlt8 : k = 8
        · subst hlt8
          have hl8 : (bytes8 x).length = 8 := by simp [bytes8]
          have hcv := run_convert_bytes_back (P := Tryz.prog) wr 72 9 5 ⟨B, 0, none⟩ 8 (bytes8 x) Tryz.underlying72 Tryz.underlying5 Tryz.underlying9 (fun j hj => by
            rw [add_lit, hr.cell, Nat.zero_add]
            exact brow_full x j (by omega))
          rw [hl8] at hcv
          clear hl8
          go_wp2_with fail
          go_ret
          rw [hv4x.out]
          exact ⟨rfl, hb⟩
        · have m : wr.cell? ⟨B, k, none⟩ = some (.int .u8 0) := (hr.cell k).trans (brow_at x k (by omega))
          have f := hr.free k
          have hstep : ∀ u, u = .int .u8 ((x / 256 ^ k % 256 : Nat) : Int) → Blk (wr.setCell ⟨B, k, none⟩ u) B 5 ⟨brow x (k + 1)⟩ := fun u hu => brow_step x k (by omega) u hu ▸ hr.put k u
          have hstep := Lib.hid hstep
          have hb := Lib.hid hb
          have hk8 : k = 0 ∨ k = 1 ∨ k = 2 ∨ k = 3 ∨ k = 4 ∨ k = 5 ∨ k = 6 ∨ k = 7 := by omega
          clear hr
          rcases hk8 with rfl | rfl | rfl | rfl | rfl | rfl | rfl | rfl
          all_goals go_wp2_with fail
          all_goals go_roundw
          case measure => simp [intOf]
          case measure => simp [intOf]
          case measure => simp [intOf]
          case measure => simp [intOf]
          case measure => simp [intOf]
          case measure => simp [intOf]
          case measure => simp [intOf]
          case measure => simp [intOf]
          case rel => exact ⟨1, by omega, rfl, hstep.out _ (congrArg (Value.int IntKind.u8) (by simp only [Nat.reducePow]; omega)), Below.setCell hb.out hB _⟩
          case rel => exact ⟨2, by omega, rfl, hstep.out _ (congrArg (Value.int IntKind.u8) (by simp only [Nat.reducePow]; omega)), Below.setCell hb.out hB _⟩
          case rel => exact ⟨3, by omega, rfl, hstep.out _ (congrArg (Value.int IntKind.u8) (by simp only [Nat.reducePow]; omega)), Below.setCell hb.out hB _⟩
          case rel => exact ⟨4, by omega, rfl, hstep.out _ (congrArg (Value.int IntKind.u8) (by simp only [Nat.reducePow]; omega)), Below.setCell hb.out hB _⟩
          case rel => exact ⟨5, by omega, rfl, hstep.out _ (congrArg (Value.int IntKind.u8) (by simp only [Nat.reducePow]; omega)), Below.setCell hb.out hB _⟩
          case rel => exact ⟨6, by omega, rfl, hstep.out _ (congrArg (Value.int IntKind.u8) (by simp only [Nat.reducePow]; omega)), Below.setCell hb.out hB _⟩
          case rel => exact ⟨7, by omega, rfl, hstep.out _ (congrArg (Value.int IntKind.u8) (by simp only [Nat.reducePow]; omega)), Below.setCell hb.out hB _⟩
          case rel => exact ⟨8, by omega, rfl, hstep.out _ (congrArg (Value.int IntKind.u8) (by simp only [Nat.reducePow]; omega)), Below.setCell hb.out hB _⟩
end Go.Proofs.YtkghlbpkdkonbaaGreat.Sip

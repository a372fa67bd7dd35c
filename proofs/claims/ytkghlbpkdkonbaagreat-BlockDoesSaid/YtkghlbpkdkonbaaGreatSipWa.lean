/- The walks of SipHash's rounds. -/
import Derived.Test.YtkghlbpkdkonbaaGreatSipPl
import Derived.Test.YtkghlbpkdkonbaaGreatMems
import Derived.Test.YtkghlbpkdkonbaaGreatProg
import Derived.WalkSpells
import Derived.KernelRfl
import Derived.Lib.Hide
import Derived.Laws.Shifts
import Derived.StillTailTactics
import Derived.StillTactics
import Derived.BigQuiet
import Derived.Deep.QuietTactic
import Derived.Deep.Draws
import Derived.Deep.RegionWith
import Derived.Handy
import Derived.Laws.Rows
namespace Go.Proofs.YtkghlbpkdkonbaaGreat.Sip
open Go.RowKit Mem

set_option maxRecDepth 100000 in
theorem rot13 (x : Nat) (w : World) (hx : x < 18446744073709551616) :
    Calls Tryz.prog 115 #[.int .u64 (x : Int), .int .i64 13] w fun e w' => e = .returned (.int .u64 (rotl x 13 : Nat)) ∧ w' = w := by
  have hb : bits .and .u64 13 63 = 13 := by decide +kernel
  have hv := rot_val x 8192 2251799813685248 13 hx (by decide) (by decide)
  have hv' := Lib.hid hv
  clear hv
  go_enter Tryz.func115, Tryz.ntmps115
  go_wp2_with fail
  go_ret
  exact ⟨congrArg (fun z => Ending.returned (.int .u64 z)) hv'.out, rfl⟩
set_option maxRecDepth 100000 in
theorem rrot13 (x : Nat) (w : World) (hx : x < 18446744073709551616) :
    Calls Tryz.prog 111 #[.int .u64 (x : Int), .int .i64 13] w fun e w' => e = .returned (.int .u64 (rotl x 13 : Nat)) ∧ w' = w.drew := by
  have hs : IntKind.i64.wrap 51 = 51 := by decide +kernel
  have hv := rot_val x 8192 2251799813685248 13 hx (by decide) (by decide)
  have hv' := Lib.hid hv
  clear hv
  go_enter Tryz.func111, Tryz.ntmps111
  go_wp2_with fail
  go_still (by kernel_rfl)
  go_wp2_with fail
  go_ret
  exact ⟨congrArg (fun z => Ending.returned (.int .u64 z)) hv'.out, rfl⟩
set_option maxRecDepth 100000 in
theorem rot16 (x : Nat) (w : World) (hx : x < 18446744073709551616) :
    Calls Tryz.prog 115 #[.int .u64 (x : Int), .int .i64 16] w fun e w' => e = .returned (.int .u64 (rotl x 16 : Nat)) ∧ w' = w := by
  have hb : bits .and .u64 16 63 = 16 := by decide +kernel
  have hv := rot_val x 65536 281474976710656 16 hx (by decide) (by decide)
  have hv' := Lib.hid hv
  clear hv
  go_enter Tryz.func115, Tryz.ntmps115
  go_wp2_with fail
  go_ret
  exact ⟨congrArg (fun z => Ending.returned (.int .u64 z)) hv'.out, rfl⟩
set_option maxRecDepth 100000 in
theorem rrot16 (x : Nat) (w : World) (hx : x < 18446744073709551616) :
    Calls Tryz.prog 111 #[.int .u64 (x : Int), .int .i64 16] w fun e w' => e = .returned (.int .u64 (rotl x 16 : Nat)) ∧ w' = w.drew := by
  have hs : IntKind.i64.wrap 48 = 48 := by decide +kernel
  have hv := rot_val x 65536 281474976710656 16 hx (by decide) (by decide)
  have hv' := Lib.hid hv
  clear hv
  go_enter Tryz.func111, Tryz.ntmps111
  go_wp2_with fail
  go_still (by kernel_rfl)
  go_wp2_with fail
  go_ret
  exact ⟨congrArg (fun z => Ending.returned (.int .u64 z)) hv'.out, rfl⟩
set_option maxRecDepth 100000 in
theorem rot17 (x : Nat) (w : World) (hx : x < 18446744073709551616) :
    Calls Tryz.prog 115 #[.int .u64 (x : Int), .int .i64 17] w fun e w' => e = .returned (.int .u64 (rotl x 17 : Nat)) ∧ w' = w := by
  have hb : bits .and .u64 17 63 = 17 := by decide +kernel
  have hv := rot_val x 131072 140737488355328 17 hx (by decide) (by decide)
  have hv' := Lib.hid hv
  clear hv
  go_enter Tryz.func115, Tryz.ntmps115
  go_wp2_with fail
  go_ret
  exact ⟨congrArg (fun z => Ending.returned (.int .u64 z)) hv'.out, rfl⟩
set_option maxRecDepth 100000 in
theorem rrot17 (x : Nat) (w : World) (hx : x < 18446744073709551616) :
    Calls Tryz.prog 111 #[.int .u64 (x : Int), .int .i64 17] w fun e w' => e = .returned (.int .u64 (rotl x 17 : Nat)) ∧ w' = w.drew := by
  have hs : IntKind.i64.wrap 47 = 47 := by decide +kernel
  have hv := rot_val x 131072 140737488355328 17 hx (by decide) (by decide)
  have hv' := Lib.hid hv
  clear hv
  go_enter Tryz.func111, Tryz.ntmps111
  go_wp2_with fail
  go_still (by kernel_rfl)
  go_wp2_with fail
  go_ret
  exact ⟨congrArg (fun z => Ending.returned (.int .u64 z)) hv'.out, rfl⟩
set_option maxRecDepth 100000 in
theorem rot21 (x : Nat) (w : World) (hx : x < 18446744073709551616) :
    Calls Tryz.prog 115 #[.int .u64 (x : Int), .int .i64 21] w fun e w' => e = .returned (.int .u64 (rotl x 21 : Nat)) ∧ w' = w := by
  have hb : bits .and .u64 21 63 = 21 := by decide +kernel
  have hv := rot_val x 2097152 8796093022208 21 hx (by decide) (by decide)
  have hv' := Lib.hid hv
  clear hv
  go_enter Tryz.func115, Tryz.ntmps115
  go_wp2_with fail
  go_ret
  exact ⟨congrArg (fun z => Ending.returned (.int .u64 z)) hv'.out, rfl⟩
set_option maxRecDepth 100000 in
theorem rrot21 (x : Nat) (w : World) (hx : x < 18446744073709551616) :
    Calls Tryz.prog 111 #[.int .u64 (x : Int), .int .i64 21] w fun e w' => e = .returned (.int .u64 (rotl x 21 : Nat)) ∧ w' = w.drew := by
  have hs : IntKind.i64.wrap 43 = 43 := by decide +kernel
  have hv := rot_val x 2097152 8796093022208 21 hx (by decide) (by decide)
  have hv' := Lib.hid hv
  clear hv
  go_enter Tryz.func111, Tryz.ntmps111
  go_wp2_with fail
  go_still (by kernel_rfl)
  go_wp2_with fail
  go_ret
  exact ⟨congrArg (fun z => Ending.returned (.int .u64 z)) hv'.out, rfl⟩
set_option maxRecDepth 100000 in
theorem rot32 (x : Nat) (w : World) (hx : x < 18446744073709551616) :
    Calls Tryz.prog 115 #[.int .u64 (x : Int), .int .i64 32] w fun e w' => e = .returned (.int .u64 (rotl x 32 : Nat)) ∧ w' = w := by
  have hb : bits .and .u64 32 63 = 32 := by decide +kernel
  have hv := rot_val x 4294967296 4294967296 32 hx (by decide) (by decide)
  have hv' := Lib.hid hv
  clear hv
  go_enter Tryz.func115, Tryz.ntmps115
  go_wp2_with fail
  go_ret
  exact ⟨congrArg (fun z => Ending.returned (.int .u64 z)) hv'.out, rfl⟩
set_option maxRecDepth 100000 in
theorem rrot32 (x : Nat) (w : World) (hx : x < 18446744073709551616) :
    Calls Tryz.prog 111 #[.int .u64 (x : Int), .int .i64 32] w fun e w' => e = .returned (.int .u64 (rotl x 32 : Nat)) ∧ w' = w.drew := by
  have hs : IntKind.i64.wrap 32 = 32 := by decide +kernel
  have hv := rot_val x 4294967296 4294967296 32 hx (by decide) (by decide)
  have hv' := Lib.hid hv
  clear hv
  go_enter Tryz.func111, Tryz.ntmps111
  go_wp2_with fail
  go_still (by kernel_rfl)
  go_wp2_with fail
  go_ret
  exact ⟨congrArg (fun z => Ending.returned (.int .u64 z)) hv'.out, rfl⟩

/-- the four words, at the head of a block -/
def words (v : V) : List Value := [.int .u64 (v.a : Int), .int .u64 (v.b : Int), .int .u64 (v.c : Int), .int .u64 (v.d : Int)]

set_option maxRecDepth 100000 in
/-- one store more: the block as it is then -/
theorem blk_put {w : World} {g : Nat} {t : TypeId} {l : List Value} (h : Blk w g t ⟨l⟩) (i : Nat) (u : Value) : Blk (w.setCell ⟨g, i, none⟩ u).drew g t ⟨l.set i u⟩ := by
  have h' := Blk.put h i u
  rw [List.setIfInBounds_toArray] at h'
  exact h'

set_option maxRecDepth 100000 in
set_option maxHeartbeats 4000000 in
theorem round_any (g : Nat) (t : TypeId) (v : V) (tl : List Value) (w0 : World) (h0 : Blk w0 g t ⟨words v ++ tl⟩) (ha : v.a < 18446744073709551616) (hb : v.b < 18446744073709551616) (hc : v.c < 18446744073709551616) (hd : v.d < 18446744073709551616) :
    Calls Tryz.prog 114 #[.pointer (some ⟨g, 0, none⟩)] w0 fun e w' => e = .returned (.tuple #[]) ∧ Blk w' g t ⟨words (round v) ++ tl⟩ ∧ w0.grownBy w' (some g) := by
  obtain ⟨a, b, c, d⟩ := v
  simp only at ha hb hc hd
  have la := ha
  have lb := hb
  have lc := hc
  have ld := hd
  obtain ⟨a1, ha1⟩ : ∃ z, z = uadd a b := ⟨_, rfl⟩
  have la1 : a1 < 18446744073709551616 := by rw [ha1]; exact uadd_lt _ _
  have ea1 : IntKind.u64.wrap ((a : Int) + (b : Int)) = (a1 : Int) := by rw [ha1]; exact uadd_eq _ _
  obtain ⟨c1, hc1⟩ : ∃ z, z = uadd c d := ⟨_, rfl⟩
  have lc1 : c1 < 18446744073709551616 := by rw [hc1]; exact uadd_lt _ _
  have ec1 : IntKind.u64.wrap ((c : Int) + (d : Int)) = (c1 : Int) := by rw [hc1]; exact uadd_eq _ _
  obtain ⟨rb1, hrb1⟩ : ∃ z, z = rotl b 13 := ⟨_, rfl⟩
  have lrb1 : rb1 < 18446744073709551616 := by rw [hrb1]; exact rotl_lt _ _
  have krb1 := Lib.hid (fun W => hrb1 ▸ rot13 b W lb)
  obtain ⟨b1, hb1⟩ : ∃ z, z = uxor rb1 a1 := ⟨_, rfl⟩
  have lb1 : b1 < 18446744073709551616 := by rw [hb1]; exact uxor_lt _ _
  have eb1 : bits .xor .u64 (rb1 : Int) (a1 : Int) = (b1 : Int) := by rw [hb1]; exact uxor_eq _ _ lrb1 la1
  obtain ⟨rd1, hrd1⟩ : ∃ z, z = rotl d 16 := ⟨_, rfl⟩
  have lrd1 : rd1 < 18446744073709551616 := by rw [hrd1]; exact rotl_lt _ _
  have krd1 := Lib.hid (fun W => hrd1 ▸ rot16 d W ld)
  obtain ⟨d1, hd1⟩ : ∃ z, z = uxor rd1 c1 := ⟨_, rfl⟩
  have ld1 : d1 < 18446744073709551616 := by rw [hd1]; exact uxor_lt _ _
  have ed1 : bits .xor .u64 (rd1 : Int) (c1 : Int) = (d1 : Int) := by rw [hd1]; exact uxor_eq _ _ lrd1 lc1
  obtain ⟨a2, ha2⟩ : ∃ z, z = rotl a1 32 := ⟨_, rfl⟩
  have la2 : a2 < 18446744073709551616 := by rw [ha2]; exact rotl_lt _ _
  have ka2 := Lib.hid (fun W => ha2 ▸ rot32 a1 W la1)
  obtain ⟨c2, hc2⟩ : ∃ z, z = uadd c1 b1 := ⟨_, rfl⟩
  have lc2 : c2 < 18446744073709551616 := by rw [hc2]; exact uadd_lt _ _
  have ec2 : IntKind.u64.wrap ((c1 : Int) + (b1 : Int)) = (c2 : Int) := by rw [hc2]; exact uadd_eq _ _
  obtain ⟨a3, ha3⟩ : ∃ z, z = uadd a2 d1 := ⟨_, rfl⟩
  have la3 : a3 < 18446744073709551616 := by rw [ha3]; exact uadd_lt _ _
  have ea3 : IntKind.u64.wrap ((a2 : Int) + (d1 : Int)) = (a3 : Int) := by rw [ha3]; exact uadd_eq _ _
  obtain ⟨rb2, hrb2⟩ : ∃ z, z = rotl b1 17 := ⟨_, rfl⟩
  have lrb2 : rb2 < 18446744073709551616 := by rw [hrb2]; exact rotl_lt _ _
  have krb2 := Lib.hid (fun W => hrb2 ▸ rot17 b1 W lb1)
  obtain ⟨b2, hb2⟩ : ∃ z, z = uxor rb2 c2 := ⟨_, rfl⟩
  have lb2 : b2 < 18446744073709551616 := by rw [hb2]; exact uxor_lt _ _
  have eb2 : bits .xor .u64 (rb2 : Int) (c2 : Int) = (b2 : Int) := by rw [hb2]; exact uxor_eq _ _ lrb2 lc2
  obtain ⟨rd2, hrd2⟩ : ∃ z, z = rotl d1 21 := ⟨_, rfl⟩
  have lrd2 : rd2 < 18446744073709551616 := by rw [hrd2]; exact rotl_lt _ _
  have krd2 := Lib.hid (fun W => hrd2 ▸ rot21 d1 W ld1)
  obtain ⟨d2, hd2⟩ : ∃ z, z = uxor rd2 a3 := ⟨_, rfl⟩
  have ld2 : d2 < 18446744073709551616 := by rw [hd2]; exact uxor_lt _ _
  have ed2 : bits .xor .u64 (rd2 : Int) (a3 : Int) = (d2 : Int) := by rw [hd2]; exact uxor_eq _ _ lrd2 la3
  obtain ⟨c3, hc3⟩ : ∃ z, z = rotl c2 32 := ⟨_, rfl⟩
  have lc3 : c3 < 18446744073709551616 := by rw [hc3]; exact rotl_lt _ _
  have kc3 := Lib.hid (fun W => hc3 ▸ rot32 c2 W lc2)
  clear la lb lc ld
  have qa1 := Lib.hid ha1
  have qc1 := Lib.hid hc1
  have qrb1 := Lib.hid hrb1
  have qb1 := Lib.hid hb1
  have qrd1 := Lib.hid hrd1
  have qd1 := Lib.hid hd1
  have qa2 := Lib.hid ha2
  have qc2 := Lib.hid hc2
  have qa3 := Lib.hid ha3
  have qrb2 := Lib.hid hrb2
  have qb2 := Lib.hid hb2
  have qrd2 := Lib.hid hrd2
  have qd2 := Lib.hid hd2
  have qc3 := Lib.hid hc3
  clear ha1 hc1 hrb1 hb1 hrd1 hd1 ha2 hc2 ha3 hrb2 hb2 hrd2 hd2 hc3
  have g0 := Only.refl w0 (some g)
  go_enter Tryz.func114, Tryz.ntmps114
  go_wp2_with fail
  have m0 : w0.cell? ⟨g, 0, none⟩ = some (.int .u64 (a : Int)) := h0.cell 0
  have m1 : w0.cell? ⟨g, 1, none⟩ = some (.int .u64 (b : Int)) := h0.cell 1
  have m2 : w0.cell? ⟨g, 2, none⟩ = some (.int .u64 (c : Int)) := h0.cell 2
  have m3 : w0.cell? ⟨g, 3, none⟩ = some (.int .u64 (d : Int)) := h0.cell 3
  have f0 := h0.free 0
  have f1 := h0.free 1
  have f2 := h0.free 2
  have f3 := h0.free 3
  go_still_tail 11, (by kernel_rfl)
  change wpList _ _ _ _ _ w0.drew
  go_wp2_with fail
  obtain ⟨w1, hw⟩ : ∃ x, x = (w0.setCell ⟨g, 0, none⟩ (.int .u64 (a1 : Int))).drew := ⟨_, rfl⟩
  rw [← hw]
  have h1 : Blk w1 g t ⟨words ⟨a1, b, c, d⟩ ++ tl⟩ := by rw [hw]; exact blk_put h0 0 _
  have g1 : w0.grownBy w1 (some g) := by rw [hw]; exact Only.drew (Only.put g0 0 _)
  clear hw m0 m1 m2 m3 f0 f1 f2 f3
  have m0 : w1.cell? ⟨g, 0, none⟩ = some (.int .u64 (a1 : Int)) := h1.cell 0
  have m1 : w1.cell? ⟨g, 1, none⟩ = some (.int .u64 (b : Int)) := h1.cell 1
  have m2 : w1.cell? ⟨g, 2, none⟩ = some (.int .u64 (c : Int)) := h1.cell 2
  have m3 : w1.cell? ⟨g, 3, none⟩ = some (.int .u64 (d : Int)) := h1.cell 3
  have f0 := h1.free 0
  have f1 := h1.free 1
  have f2 := h1.free 2
  have f3 := h1.free 3
  go_still_tail 11, (by kernel_rfl)
  change wpList _ _ _ _ _ w1.drew
  go_wp2_with fail
  obtain ⟨w2, hw⟩ : ∃ x, x = (w1.setCell ⟨g, 2, none⟩ (.int .u64 (c1 : Int))).drew := ⟨_, rfl⟩
  rw [← hw]
  have h2 : Blk w2 g t ⟨words ⟨a1, b, c1, d⟩ ++ tl⟩ := by rw [hw]; exact blk_put h1 2 _
  have g2 : w0.grownBy w2 (some g) := by rw [hw]; exact Only.drew (Only.put g1 2 _)
  clear hw m0 m1 m2 m3 f0 f1 f2 f3
  have m0 : w2.cell? ⟨g, 0, none⟩ = some (.int .u64 (a1 : Int)) := h2.cell 0
  have m1 : w2.cell? ⟨g, 1, none⟩ = some (.int .u64 (b : Int)) := h2.cell 1
  have m2 : w2.cell? ⟨g, 2, none⟩ = some (.int .u64 (c1 : Int)) := h2.cell 2
  have m3 : w2.cell? ⟨g, 3, none⟩ = some (.int .u64 (d : Int)) := h2.cell 3
  have f0 := h2.free 0
  have f1 := h2.free 1
  have f2 := h2.free 2
  have f3 := h2.free 3
  go_still_tail 12, (by kernel_rfl)
  still_call (krb1.out _)
  repeat still_step
  refine wpStill_nil ?_
  change wpList _ _ _ _ _ w2.drew
  go_wp2_with fail
  obtain ⟨w3, hw⟩ : ∃ x, x = (w2.setCell ⟨g, 1, none⟩ (.int .u64 (b1 : Int))).drew := ⟨_, rfl⟩
  rw [← hw]
  have h3 : Blk w3 g t ⟨words ⟨a1, b1, c1, d⟩ ++ tl⟩ := by rw [hw]; exact blk_put h2 1 _
  have g3 : w0.grownBy w3 (some g) := by rw [hw]; exact Only.drew (Only.put g2 1 _)
  clear hw m0 m1 m2 m3 f0 f1 f2 f3
  have m0 : w3.cell? ⟨g, 0, none⟩ = some (.int .u64 (a1 : Int)) := h3.cell 0
  have m1 : w3.cell? ⟨g, 1, none⟩ = some (.int .u64 (b1 : Int)) := h3.cell 1
  have m2 : w3.cell? ⟨g, 2, none⟩ = some (.int .u64 (c1 : Int)) := h3.cell 2
  have m3 : w3.cell? ⟨g, 3, none⟩ = some (.int .u64 (d : Int)) := h3.cell 3
  have f0 := h3.free 0
  have f1 := h3.free 1
  have f2 := h3.free 2
  have f3 := h3.free 3
  go_still_tail 12, (by kernel_rfl)
  still_call (krd1.out _)
  repeat still_step
  refine wpStill_nil ?_
  change wpList _ _ _ _ _ w3.drew
  go_wp2_with fail
  obtain ⟨w4, hw⟩ : ∃ x, x = (w3.setCell ⟨g, 3, none⟩ (.int .u64 (d1 : Int))).drew := ⟨_, rfl⟩
  rw [← hw]
  have h4 : Blk w4 g t ⟨words ⟨a1, b1, c1, d1⟩ ++ tl⟩ := by rw [hw]; exact blk_put h3 3 _
  have g4 : w0.grownBy w4 (some g) := by rw [hw]; exact Only.drew (Only.put g3 3 _)
  clear hw m0 m1 m2 m3 f0 f1 f2 f3
  have m0 : w4.cell? ⟨g, 0, none⟩ = some (.int .u64 (a1 : Int)) := h4.cell 0
  have m1 : w4.cell? ⟨g, 1, none⟩ = some (.int .u64 (b1 : Int)) := h4.cell 1
  have m2 : w4.cell? ⟨g, 2, none⟩ = some (.int .u64 (c1 : Int)) := h4.cell 2
  have m3 : w4.cell? ⟨g, 3, none⟩ = some (.int .u64 (d1 : Int)) := h4.cell 3
  have f0 := h4.free 0
  have f1 := h4.free 1
  have f2 := h4.free 2
  have f3 := h4.free 3
  go_still_tail 7, (by kernel_rfl)
  still_call (ka2.out _)
  repeat still_step
  refine wpStill_nil ?_
  change wpList _ _ _ _ _ w4.drew
  go_wp2_with fail
  obtain ⟨w5, hw⟩ : ∃ x, x = (w4.setCell ⟨g, 0, none⟩ (.int .u64 (a2 : Int))).drew := ⟨_, rfl⟩
  rw [← hw]
  have h5 : Blk w5 g t ⟨words ⟨a2, b1, c1, d1⟩ ++ tl⟩ := by rw [hw]; exact blk_put h4 0 _
  have g5 : w0.grownBy w5 (some g) := by rw [hw]; exact Only.drew (Only.put g4 0 _)
  clear hw m0 m1 m2 m3 f0 f1 f2 f3
  have m0 : w5.cell? ⟨g, 0, none⟩ = some (.int .u64 (a2 : Int)) := h5.cell 0
  have m1 : w5.cell? ⟨g, 1, none⟩ = some (.int .u64 (b1 : Int)) := h5.cell 1
  have m2 : w5.cell? ⟨g, 2, none⟩ = some (.int .u64 (c1 : Int)) := h5.cell 2
  have m3 : w5.cell? ⟨g, 3, none⟩ = some (.int .u64 (d1 : Int)) := h5.cell 3
  have f0 := h5.free 0
  have f1 := h5.free 1
  have f2 := h5.free 2
  have f3 := h5.free 3
  go_still_tail 11, (by kernel_rfl)
  change wpList _ _ _ _ _ w5.drew
  go_wp2_with fail
  obtain ⟨w6, hw⟩ : ∃ x, x = (w5.setCell ⟨g, 2, none⟩ (.int .u64 (c2 : Int))).drew := ⟨_, rfl⟩
  rw [← hw]
  have h6 : Blk w6 g t ⟨words ⟨a2, b1, c2, d1⟩ ++ tl⟩ := by rw [hw]; exact blk_put h5 2 _
  have g6 : w0.grownBy w6 (some g) := by rw [hw]; exact Only.drew (Only.put g5 2 _)
  clear hw m0 m1 m2 m3 f0 f1 f2 f3
  have m0 : w6.cell? ⟨g, 0, none⟩ = some (.int .u64 (a2 : Int)) := h6.cell 0
  have m1 : w6.cell? ⟨g, 1, none⟩ = some (.int .u64 (b1 : Int)) := h6.cell 1
  have m2 : w6.cell? ⟨g, 2, none⟩ = some (.int .u64 (c2 : Int)) := h6.cell 2
  have m3 : w6.cell? ⟨g, 3, none⟩ = some (.int .u64 (d1 : Int)) := h6.cell 3
  have f0 := h6.free 0
  have f1 := h6.free 1
  have f2 := h6.free 2
  have f3 := h6.free 3
  go_still_tail 11, (by kernel_rfl)
  change wpList _ _ _ _ _ w6.drew
  go_wp2_with fail
  obtain ⟨w7, hw⟩ : ∃ x, x = (w6.setCell ⟨g, 0, none⟩ (.int .u64 (a3 : Int))).drew := ⟨_, rfl⟩
  rw [← hw]
  have h7 : Blk w7 g t ⟨words ⟨a3, b1, c2, d1⟩ ++ tl⟩ := by rw [hw]; exact blk_put h6 0 _
  have g7 : w0.grownBy w7 (some g) := by rw [hw]; exact Only.drew (Only.put g6 0 _)
  clear hw m0 m1 m2 m3 f0 f1 f2 f3
  have m0 : w7.cell? ⟨g, 0, none⟩ = some (.int .u64 (a3 : Int)) := h7.cell 0
  have m1 : w7.cell? ⟨g, 1, none⟩ = some (.int .u64 (b1 : Int)) := h7.cell 1
  have m2 : w7.cell? ⟨g, 2, none⟩ = some (.int .u64 (c2 : Int)) := h7.cell 2
  have m3 : w7.cell? ⟨g, 3, none⟩ = some (.int .u64 (d1 : Int)) := h7.cell 3
  have f0 := h7.free 0
  have f1 := h7.free 1
  have f2 := h7.free 2
  have f3 := h7.free 3
  go_still_tail 12, (by kernel_rfl)
  still_call (krb2.out _)
  repeat still_step
  refine wpStill_nil ?_
  change wpList _ _ _ _ _ w7.drew
  go_wp2_with fail
  obtain ⟨w8, hw⟩ : ∃ x, x = (w7.setCell ⟨g, 1, none⟩ (.int .u64 (b2 : Int))).drew := ⟨_, rfl⟩
  rw [← hw]
  have h8 : Blk w8 g t ⟨words ⟨a3, b2, c2, d1⟩ ++ tl⟩ := by rw [hw]; exact blk_put h7 1 _
  have g8 : w0.grownBy w8 (some g) := by rw [hw]; exact Only.drew (Only.put g7 1 _)
  clear hw m0 m1 m2 m3 f0 f1 f2 f3
  have m0 : w8.cell? ⟨g, 0, none⟩ = some (.int .u64 (a3 : Int)) := h8.cell 0
  have m1 : w8.cell? ⟨g, 1, none⟩ = some (.int .u64 (b2 : Int)) := h8.cell 1
  have m2 : w8.cell? ⟨g, 2, none⟩ = some (.int .u64 (c2 : Int)) := h8.cell 2
  have m3 : w8.cell? ⟨g, 3, none⟩ = some (.int .u64 (d1 : Int)) := h8.cell 3
  have f0 := h8.free 0
  have f1 := h8.free 1
  have f2 := h8.free 2
  have f3 := h8.free 3
  go_still_tail 12, (by kernel_rfl)
  still_call (krd2.out _)
  repeat still_step
  refine wpStill_nil ?_
  change wpList _ _ _ _ _ w8.drew
  go_wp2_with fail
  obtain ⟨w9, hw⟩ : ∃ x, x = (w8.setCell ⟨g, 3, none⟩ (.int .u64 (d2 : Int))).drew := ⟨_, rfl⟩
  rw [← hw]
  have h9 : Blk w9 g t ⟨words ⟨a3, b2, c2, d2⟩ ++ tl⟩ := by rw [hw]; exact blk_put h8 3 _
  have g9 : w0.grownBy w9 (some g) := by rw [hw]; exact Only.drew (Only.put g8 3 _)
  clear hw m0 m1 m2 m3 f0 f1 f2 f3
  have m0 : w9.cell? ⟨g, 0, none⟩ = some (.int .u64 (a3 : Int)) := h9.cell 0
  have m1 : w9.cell? ⟨g, 1, none⟩ = some (.int .u64 (b2 : Int)) := h9.cell 1
  have m2 : w9.cell? ⟨g, 2, none⟩ = some (.int .u64 (c2 : Int)) := h9.cell 2
  have m3 : w9.cell? ⟨g, 3, none⟩ = some (.int .u64 (d2 : Int)) := h9.cell 3
  have f0 := h9.free 0
  have f1 := h9.free 1
  have f2 := h9.free 2
  have f3 := h9.free 3
  go_still_tail 7, (by kernel_rfl)
  still_call (kc3.out _)
  repeat still_step
  refine wpStill_nil ?_
  change wpList _ _ _ _ _ w9.drew
  go_wp2_with fail
  obtain ⟨w10, hw⟩ : ∃ x, x = (w9.setCell ⟨g, 2, none⟩ (.int .u64 (c3 : Int))).drew := ⟨_, rfl⟩
  rw [← hw]
  have h10 : Blk w10 g t ⟨words ⟨a3, b2, c3, d2⟩ ++ tl⟩ := by rw [hw]; exact blk_put h9 2 _
  have g10 : w0.grownBy w10 (some g) := by rw [hw]; exact Only.drew (Only.put g9 2 _)
  clear hw m0 m1 m2 m3 f0 f1 f2 f3
  go_end0
  refine ⟨rfl, ?_, g10⟩
  have hv : round ⟨a, b, c, d⟩ = ⟨a3, b2, c3, d2⟩ := by
    simp only [round, qa1.out, qc1.out, qrb1.out, qb1.out, qrd1.out, qd1.out, qa2.out, qc2.out, qa3.out, qrb2.out, qb2.out, qrd2.out, qd2.out, qc3.out]
  rw [hv]
  exact h10
end Go.Proofs.YtkghlbpkdkonbaaGreat.Sip
/- SipHash: a word is taken; the document's round. -/
namespace Go.Proofs.YtkghlbpkdkonbaaGreat.Sip
open Go.RowKit Mem

set_option maxRecDepth 100000 in
theorem round_lt (v : V) : (round v).a < 18446744073709551616 ∧ (round v).b < 18446744073709551616 ∧ (round v).c < 18446744073709551616 ∧ (round v).d < 18446744073709551616 :=
  ⟨uadd_lt _ _, uxor_lt _ _, rotl_lt _ _, uxor_lt _ _⟩

set_option maxRecDepth 100000 in
set_option maxHeartbeats 4000000 in
theorem take_any (g : Nat) (t : TypeId) (v : V) (m : Nat) (tl : List Value) (w0 : World) (h0 : Blk w0 g t ⟨words v ++ tl⟩) (ha : v.a < 18446744073709551616) (hb : v.b < 18446744073709551616) (hc : v.c < 18446744073709551616) (hd : v.d < 18446744073709551616) (hm : m < 18446744073709551616) :
    Calls Tryz.prog 113 #[.pointer (some ⟨g, 0, none⟩), .int .u64 (m : Int)] w0 fun e w' => e = .returned (.tuple #[]) ∧ Blk w' g t ⟨words (take v m) ++ tl⟩ ∧ w0.grownBy w' (some g) := by
  obtain ⟨a, b, c, d⟩ := v
  simp only at ha hb hc hd
  obtain ⟨d1, hd1⟩ : ∃ z, z = uxor d m := ⟨_, rfl⟩
  have ld1 : d1 < 18446744073709551616 := by rw [hd1]; exact uxor_lt _ _
  have ed1 : bits .xor .u64 (d : Int) (m : Int) = (d1 : Int) := by rw [hd1]; exact uxor_eq _ _ hd hm
  have hd1' := Lib.hid hd1
  obtain ⟨r1, hr1⟩ : ∃ z, z = round ⟨a, b, c, d1⟩ := ⟨_, rfl⟩
  have b1 := round_lt ⟨a, b, c, d1⟩
  rw [← hr1] at b1
  obtain ⟨r2, hr2⟩ : ∃ z, z = round r1 := ⟨_, rfl⟩
  have b2 := round_lt r1
  rw [← hr2] at b2
  have k1 := Lib.hid (fun W (h : Blk W g t ⟨words ⟨a, b, c, d1⟩ ++ tl⟩) => hr1 ▸ round_any g t ⟨a, b, c, d1⟩ tl W h ha hb hc ld1)
  have k2 := Lib.hid (fun W (h : Blk W g t ⟨words r1 ++ tl⟩) => hr2 ▸ round_any g t r1 tl W h b1.1 b1.2.1 b1.2.2.1 b1.2.2.2)
  have hv : take ⟨a, b, c, d⟩ m = ⟨uxor r2.a m, r2.b, r2.c, r2.d⟩ := by rw [hr2, hr1, hd1]; rfl
  obtain ⟨a3, ha3⟩ : ∃ z, z = uxor r2.a m := ⟨_, rfl⟩
  have ea3 : bits .xor .u64 (r2.a : Int) (m : Int) = (a3 : Int) := by rw [ha3]; exact uxor_eq _ _ b2.1 hm
  rw [← ha3] at hv
  have hv' := Lib.hid hv
  clear hd1 hr1 hr2 b1 b2 hv ha3
  have m3 : w0.cell? ⟨g, 3, none⟩ = some (.int .u64 (d : Int)) := h0.cell 3
  have f3 := h0.free 3
  have g0 := Only.refl w0 (some g)
  go_enter Tryz.func113, Tryz.ntmps113
  go_wp2_with fail
  go_still_tail 8, (by kernel_rfl)
  change wpList _ _ _ _ _ w0.drew
  go_wp2_with fail
  obtain ⟨w1, hw⟩ : ∃ x, x = (w0.setCell ⟨g, 3, none⟩ (.int .u64 (d1 : Int))).drew := ⟨_, rfl⟩
  rw [← hw]
  have h1 : Blk w1 g t ⟨words ⟨a, b, c, d1⟩ ++ tl⟩ := by rw [hw]; exact blk_put h0 3 _
  have g1 : w0.grownBy w1 (some g) := by rw [hw]; exact Only.drew (Only.put g0 3 _)
  clear hw m3 f3
  refine (k1.out _ h1).mono ?_
  rintro e w2 ⟨rfl, h2, g2⟩
  have g2 := Only.trans g1 g2
  go_wp2_with fail
  refine (k2.out _ h2).mono ?_
  rintro e w3 ⟨rfl, h3, g3⟩
  have g3 := Only.trans g2 g3
  have m0 : w3.cell? ⟨g, 0, none⟩ = some (.int .u64 (r2.a : Int)) := h3.cell 0
  have f0 := h3.free 0
  go_wp2_with fail
  go_still_tail 8, (by kernel_rfl)
  change wpList _ _ _ _ _ w3.drew
  go_wp2_with fail
  go_end0
  rw [hv'.out]
  exact ⟨rfl, blk_put h3 0 _, Only.drew (Only.put g3 0 _)⟩

/-- ways that come to one end, walked on as one -/
@[reducible] def Meet (A : Act) (W : World) : Exit → Act → World → Prop
  | .normal, a, w => a = A ∧ w = W
  | _, _, _ => False
set_option maxRecDepth 100000 in
theorem wp_meet {P : Program} {c : Code} {Q : Exit → Act → World → Prop} {a : Act} {w : World} (A : Act) (W : World) (h : c.wp P (Meet A W) a w) (hk : Q .normal A W) : c.wp P Q a w :=
  Code.wp_mono (fun e a' w' h => by
    cases e with
    | normal => obtain ⟨h2, h3⟩ := h; rw [h2, h3]; exact hk
    | _ => exact h.elim) h

/-- the four words as one value -/
def vVal (v : V) : Value := .agg #[.int .u64 (v.a : Int), .int .u64 (v.b : Int), .int .u64 (v.c : Int), .int .u64 (v.d : Int)]

set_option maxRecDepth 100000 in
set_option maxHeartbeats 4000000 in
theorem rround_any (v : V) (w0 : World) (ha : v.a < 18446744073709551616) (hb : v.b < 18446744073709551616) (hc : v.c < 18446744073709551616) (hd : v.d < 18446744073709551616) :
    Calls Tryz.prog 106 #[vVal v] w0 fun e w' => e = .returned (vVal (round v)) ∧ Below w0.heap.size w0 w' := by
  obtain ⟨a, b, c, d⟩ := v
  simp only at ha hb hc hd
  have la := ha
  have lb := hb
  have lc := hc
  have ld := hd
  obtain ⟨a1, ha1⟩ : ∃ z, z = uadd a b := ⟨_, rfl⟩
  have la1 : a1 < 18446744073709551616 := by rw [ha1]; exact uadd_lt _ _
  have ea1 : IntKind.u64.wrap ((a : Int) + (b : Int)) = (a1 : Int) := by rw [ha1]; exact uadd_eq _ _
  obtain ⟨rb1, hrb1⟩ : ∃ z, z = rotl b 13 := ⟨_, rfl⟩
  have lrb1 : rb1 < 18446744073709551616 := by rw [hrb1]; exact rotl_lt _ _
  have krb1 := Lib.hid (fun W => hrb1 ▸ rrot13 b W lb)
  obtain ⟨b1, hb1⟩ : ∃ z, z = uxor rb1 a1 := ⟨_, rfl⟩
  have lb1 : b1 < 18446744073709551616 := by rw [hb1]; exact uxor_lt _ _
  have eb1 : bits .xor .u64 (rb1 : Int) (a1 : Int) = (b1 : Int) := by rw [hb1]; exact uxor_eq _ _ lrb1 la1
  obtain ⟨a2, ha2⟩ : ∃ z, z = rotl a1 32 := ⟨_, rfl⟩
  have la2 : a2 < 18446744073709551616 := by rw [ha2]; exact rotl_lt _ _
  have ka2 := Lib.hid (fun W => ha2 ▸ rrot32 a1 W la1)
  obtain ⟨c1, hc1⟩ : ∃ z, z = uadd c d := ⟨_, rfl⟩
  have lc1 : c1 < 18446744073709551616 := by rw [hc1]; exact uadd_lt _ _
  have ec1 : IntKind.u64.wrap ((c : Int) + (d : Int)) = (c1 : Int) := by rw [hc1]; exact uadd_eq _ _
  obtain ⟨rd1, hrd1⟩ : ∃ z, z = rotl d 16 := ⟨_, rfl⟩
  have lrd1 : rd1 < 18446744073709551616 := by rw [hrd1]; exact rotl_lt _ _
  have krd1 := Lib.hid (fun W => hrd1 ▸ rrot16 d W ld)
  obtain ⟨d1, hd1⟩ : ∃ z, z = uxor rd1 c1 := ⟨_, rfl⟩
  have ld1 : d1 < 18446744073709551616 := by rw [hd1]; exact uxor_lt _ _
  have ed1 : bits .xor .u64 (rd1 : Int) (c1 : Int) = (d1 : Int) := by rw [hd1]; exact uxor_eq _ _ lrd1 lc1
  obtain ⟨a3, ha3⟩ : ∃ z, z = uadd a2 d1 := ⟨_, rfl⟩
  have la3 : a3 < 18446744073709551616 := by rw [ha3]; exact uadd_lt _ _
  have ea3 : IntKind.u64.wrap ((a2 : Int) + (d1 : Int)) = (a3 : Int) := by rw [ha3]; exact uadd_eq _ _
  obtain ⟨rd2, hrd2⟩ : ∃ z, z = rotl d1 21 := ⟨_, rfl⟩
  have lrd2 : rd2 < 18446744073709551616 := by rw [hrd2]; exact rotl_lt _ _
  have krd2 := Lib.hid (fun W => hrd2 ▸ rrot21 d1 W ld1)
  obtain ⟨d2, hd2⟩ : ∃ z, z = uxor rd2 a3 := ⟨_, rfl⟩
  have ld2 : d2 < 18446744073709551616 := by rw [hd2]; exact uxor_lt _ _
  have ed2 : bits .xor .u64 (rd2 : Int) (a3 : Int) = (d2 : Int) := by rw [hd2]; exact uxor_eq _ _ lrd2 la3
  obtain ⟨c2, hc2⟩ : ∃ z, z = uadd c1 b1 := ⟨_, rfl⟩
  have lc2 : c2 < 18446744073709551616 := by rw [hc2]; exact uadd_lt _ _
  have ec2 : IntKind.u64.wrap ((c1 : Int) + (b1 : Int)) = (c2 : Int) := by rw [hc2]; exact uadd_eq _ _
  obtain ⟨rb2, hrb2⟩ : ∃ z, z = rotl b1 17 := ⟨_, rfl⟩
  have lrb2 : rb2 < 18446744073709551616 := by rw [hrb2]; exact rotl_lt _ _
  have krb2 := Lib.hid (fun W => hrb2 ▸ rrot17 b1 W lb1)
  obtain ⟨b2, hb2⟩ : ∃ z, z = uxor rb2 c2 := ⟨_, rfl⟩
  have lb2 : b2 < 18446744073709551616 := by rw [hb2]; exact uxor_lt _ _
  have eb2 : bits .xor .u64 (rb2 : Int) (c2 : Int) = (b2 : Int) := by rw [hb2]; exact uxor_eq _ _ lrb2 lc2
  obtain ⟨c3, hc3⟩ : ∃ z, z = rotl c2 32 := ⟨_, rfl⟩
  have lc3 : c3 < 18446744073709551616 := by rw [hc3]; exact rotl_lt _ _
  have kc3 := Lib.hid (fun W => hc3 ▸ rrot32 c2 W lc2)
  clear la lb lc ld
  have qa1 := Lib.hid ha1
  have qrb1 := Lib.hid hrb1
  have qb1 := Lib.hid hb1
  have qa2 := Lib.hid ha2
  have qc1 := Lib.hid hc1
  have qrd1 := Lib.hid hrd1
  have qd1 := Lib.hid hd1
  have qa3 := Lib.hid ha3
  have qrd2 := Lib.hid hrd2
  have qd2 := Lib.hid hd2
  have qc2 := Lib.hid hc2
  have qrb2 := Lib.hid hrb2
  have qb2 := Lib.hid hb2
  have qc3 := Lib.hid hc3
  clear ha1 hrb1 hb1 ha2 hc1 hrd1 hd1 ha3 hrd2 hd2 hc2 hrb2 hb2 hc3
  unfold vVal
  go_enter Tryz.func106, Tryz.ntmps106
  go_wp2_with fail
  apply wp_meet
  case h =>
    go_region_with (go_at_call 111; refine (krb1.out _).mono ?_; rintro e W ⟨rfl, rfl⟩)
    all_goals exact ⟨rfl, rfl⟩
  case hk =>
  go_wp2_with fail
  refine (ka2.out _).mono ?_
  rintro e W ⟨rfl, rfl⟩
  go_wp2_with fail
  apply wp_meet
  case h =>
    go_region_with (go_at_call 111; refine (krd1.out _).mono ?_; rintro e W ⟨rfl, rfl⟩)
    all_goals exact ⟨rfl, rfl⟩
  case hk =>
  go_wp2_with fail
  apply wp_meet
  case h =>
    go_region_with (go_at_call 111; refine (krd2.out _).mono ?_; rintro e W ⟨rfl, rfl⟩)
    all_goals exact ⟨rfl, rfl⟩
  case hk =>
  go_wp2_with fail
  apply wp_meet
  case h =>
    go_region_with (go_at_call 111; refine (krb2.out _).mono ?_; rintro e W ⟨rfl, rfl⟩)
    all_goals exact ⟨rfl, rfl⟩
  case hk =>
  go_wp2_with fail
  refine (kc3.out _).mono ?_
  rintro e W ⟨rfl, rfl⟩
  go_wp2_with fail
  refine bodyPost_ret (results_cell_row (t := 143) (fr := (0, 0)) rfl _ _ (w0.heap.size + 1) _ _ rfl (heap_alloc2_new w0 _ _) Tryz.underlying143 rfl (by kernel_rfl)) rfl ?_
  have hv : round ⟨a, b, c, d⟩ = ⟨a3, b2, c3, d2⟩ := by
    simp only [round, qa1.out, qrb1.out, qb1.out, qa2.out, qc1.out, qrd1.out, qd1.out, qa3.out, qrd2.out, qd2.out, qc2.out, qrb2.out, qb2.out, qc3.out]
  rw [hv]
  refine ⟨rfl, ?_⟩
  go_grown
end Go.Proofs.YtkghlbpkdkonbaaGreat.Sip

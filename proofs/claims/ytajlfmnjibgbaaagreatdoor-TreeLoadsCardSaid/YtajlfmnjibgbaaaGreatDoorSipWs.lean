/- The walks of SipHash's rounds. -/
import Derived.Test.YtajlfmnjibgbaaaGreatDoorSipPl
import Derived.Test.YtajlfmnjibgbaaaGreatDoorMems
import Derived.Test.YtajlfmnjibgbaaaGreatDoorProg
import Derived.WalkSpells
import Derived.KernelRfl
import Derived.Lib.Hide
import Derived.Laws.Shifts
import Derived.StillTailTactics
import Derived.StillTactics
import Derived.BigQuiet
import Derived.Deep.QuietTactic
import Derived.Deep.Draws
import Derived.Deep.RegionWith
import Derived.Handy
import Derived.Laws.Rows
import Derived.Lib.Strings
import Derived.BigRegion
import Derived.Lib.UnsafeStr
import Derived.Deep.DeepCutAuto
namespace Go.Proofs.YtajlfmnjibgbaaaGreatDoor.Sip
open Go.RowKit Mem

set_option maxRecDepth 100000 in
theorem rot13 (x : Nat) (w : World) (hx : x < 18446744073709551616) :
    Calls Tryz.prog 137 #[.int .u64 (x : Int), .int .i64 13] w fun e w' => e = .returned (.int .u64 (rotl x 13 : Nat)) ∧ w' = w := by
  have hb : bits .and .u64 13 63 = 13 := by decide +kernel
  have hv := rot_val x 8192 2251799813685248 13 hx (by decide) (by decide)
  have hv' := Lib.hid hv
  clear hv
  go_enter Tryz.func137, Tryz.ntmps137
  go_wp2_with fail
  go_ret
  exact ⟨congrArg (fun z => Ending.returned (.int .u64 z)) hv'.out, rfl⟩
set_option maxRecDepth 100000 in
theorem rrot13 (x : Nat) (w : World) (hx : x < 18446744073709551616) :
    Calls Tryz.prog 127 #[.int .u64 (x : Int), .int .i64 13] w fun e w' => e = .returned (.int .u64 (rotl x 13 : Nat)) ∧ w' = w.drew := by
  have hs : IntKind.i64.wrap 51 = 51 := by decide +kernel
  have hv := rot_val x 8192 2251799813685248 13 hx (by decide) (by decide)
  have hv' := Lib.hid hv
  clear hv
  go_enter Tryz.func127, Tryz.ntmps127
  go_wp2_with fail
  go_still (by kernel_rfl)
  go_wp2_with fail
  go_ret
  exact ⟨congrArg (fun z => Ending.returned (.int .u64 z)) hv'.out, rfl⟩
set_option maxRecDepth 100000 in
theorem rot16 (x : Nat) (w : World) (hx : x < 18446744073709551616) :
    Calls Tryz.prog 137 #[.int .u64 (x : Int), .int .i64 16] w fun e w' => e = .returned (.int .u64 (rotl x 16 : Nat)) ∧ w' = w := by
  have hb : bits .and .u64 16 63 = 16 := by decide +kernel
  have hv := rot_val x 65536 281474976710656 16 hx (by decide) (by decide)
  have hv' := Lib.hid hv
  clear hv
  go_enter Tryz.func137, Tryz.ntmps137
  go_wp2_with fail
  go_ret
  exact ⟨congrArg (fun z => Ending.returned (.int .u64 z)) hv'.out, rfl⟩
set_option maxRecDepth 100000 in
theorem rrot16 (x : Nat) (w : World) (hx : x < 18446744073709551616) :
    Calls Tryz.prog 127 #[.int .u64 (x : Int), .int .i64 16] w fun e w' => e = .returned (.int .u64 (rotl x 16 : Nat)) ∧ w' = w.drew := by
  have hs : IntKind.i64.wrap 48 = 48 := by decide +kernel
  have hv := rot_val x 65536 281474976710656 16 hx (by decide) (by decide)
  have hv' := Lib.hid hv
  clear hv
  go_enter Tryz.func127, Tryz.ntmps127
  go_wp2_with fail
  go_still (by kernel_rfl)
  go_wp2_with fail
  go_ret
  exact ⟨congrArg (fun z => Ending.returned (.int .u64 z)) hv'.out, rfl⟩
set_option maxRecDepth 100000 in
theorem rot17 (x : Nat) (w : World) (hx : x < 18446744073709551616) :
    Calls Tryz.prog 137 #[.int .u64 (x : Int), .int .i64 17] w fun e w' => e = .returned (.int .u64 (rotl x 17 : Nat)) ∧ w' = w := by
  have hb : bits .and .u64 17 63 = 17 := by decide +kernel
  have hv := rot_val x 131072 140737488355328 17 hx (by decide) (by decide)
  have hv' := Lib.hid hv
  clear hv
  go_enter Tryz.func137, Tryz.ntmps137
  go_wp2_with fail
  go_ret
  exact ⟨congrArg (fun z => Ending.returned (.int .u64 z)) hv'.out, rfl⟩
set_option maxRecDepth 100000 in
theorem rrot17 (x : Nat) (w : World) (hx : x < 18446744073709551616) :
    Calls Tryz.prog 127 #[.int .u64 (x : Int), .int .i64 17] w fun e w' => e = .returned (.int .u64 (rotl x 17 : Nat)) ∧ w' = w.drew := by
  have hs : IntKind.i64.wrap 47 = 47 := by decide +kernel
  have hv := rot_val x 131072 140737488355328 17 hx (by decide) (by decide)
  have hv' := Lib.hid hv
  clear hv
  go_enter Tryz.func127, Tryz.ntmps127
  go_wp2_with fail
  go_still (by kernel_rfl)
  go_wp2_with fail
  go_ret
  exact ⟨congrArg (fun z => Ending.returned (.int .u64 z)) hv'.out, rfl⟩
set_option maxRecDepth 100000 in
theorem rot21 (x : Nat) (w : World) (hx : x < 18446744073709551616) :
    Calls Tryz.prog 137 #[.int .u64 (x : Int), .int .i64 21] w fun e w' => e = .returned (.int .u64 (rotl x 21 : Nat)) ∧ w' = w := by
  have hb : bits .and .u64 21 63 = 21 := by decide +kernel
  have hv := rot_val x 2097152 8796093022208 21 hx (by decide) (by decide)
  have hv' := Lib.hid hv
  clear hv
  go_enter Tryz.func137, Tryz.ntmps137
  go_wp2_with fail
  go_ret
  exact ⟨congrArg (fun z => Ending.returned (.int .u64 z)) hv'.out, rfl⟩
set_option maxRecDepth 100000 in
theorem rrot21 (x : Nat) (w : World) (hx : x < 18446744073709551616) :
    Calls Tryz.prog 127 #[.int .u64 (x : Int), .int .i64 21] w fun e w' => e = .returned (.int .u64 (rotl x 21 : Nat)) ∧ w' = w.drew := by
  have hs : IntKind.i64.wrap 43 = 43 := by decide +kernel
  have hv := rot_val x 2097152 8796093022208 21 hx (by decide) (by decide)
  have hv' := Lib.hid hv
  clear hv
  go_enter Tryz.func127, Tryz.ntmps127
  go_wp2_with fail
  go_still (by kernel_rfl)
  go_wp2_with fail
  go_ret
  exact ⟨congrArg (fun z => Ending.returned (.int .u64 z)) hv'.out, rfl⟩
set_option maxRecDepth 100000 in
theorem rot32 (x : Nat) (w : World) (hx : x < 18446744073709551616) :
    Calls Tryz.prog 137 #[.int .u64 (x : Int), .int .i64 32] w fun e w' => e = .returned (.int .u64 (rotl x 32 : Nat)) ∧ w' = w := by
  have hb : bits .and .u64 32 63 = 32 := by decide +kernel
  have hv := rot_val x 4294967296 4294967296 32 hx (by decide) (by decide)
  have hv' := Lib.hid hv
  clear hv
  go_enter Tryz.func137, Tryz.ntmps137
  go_wp2_with fail
  go_ret
  exact ⟨congrArg (fun z => Ending.returned (.int .u64 z)) hv'.out, rfl⟩
set_option maxRecDepth 100000 in
theorem rrot32 (x : Nat) (w : World) (hx : x < 18446744073709551616) :
    Calls Tryz.prog 127 #[.int .u64 (x : Int), .int .i64 32] w fun e w' => e = .returned (.int .u64 (rotl x 32 : Nat)) ∧ w' = w.drew := by
  have hs : IntKind.i64.wrap 32 = 32 := by decide +kernel
  have hv := rot_val x 4294967296 4294967296 32 hx (by decide) (by decide)
  have hv' := Lib.hid hv
  clear hv
  go_enter Tryz.func127, Tryz.ntmps127
  go_wp2_with fail
  go_still (by kernel_rfl)
  go_wp2_with fail
  go_ret
  exact ⟨congrArg (fun z => Ending.returned (.int .u64 z)) hv'.out, rfl⟩

/-- the four words, at the head of a block -/
def words (v : V) : List Value := [.int .u64 (v.a : Int), .int .u64 (v.b : Int), .int .u64 (v.c : Int), .int .u64 (v.d : Int)]

set_option maxRecDepth 100000 in
/-- one store more: the block as it is then -/
theorem blk_put {w : World} {g : Nat} {t : TypeId} {l : List Value} (h : Blk w g t ⟨l⟩) (i : Nat) (u : Value) : Blk (w.setCell ⟨g, i, none⟩ u).drew g t ⟨l.set i u⟩ := by
  have h' := Blk.put h i u
  rw [List.setIfInBounds_toArray] at h'
  exact h'

set_option maxRecDepth 100000 in
set_option maxHeartbeats 4000000 in
theorem round_any (g : Nat) (t : TypeId) (v : V) (tl : List Value) (w0 : World) (h0 : Blk w0 g t ⟨words v ++ tl⟩) (ha : v.a < 18446744073709551616) (hb : v.b < 18446744073709551616) (hc : v.c < 18446744073709551616) (hd : v.d < 18446744073709551616) :
    Calls Tryz.prog 133 #[.pointer (some ⟨g, 0, none⟩)] w0 fun e w' => e = .returned (.tuple #[]) ∧ Blk w' g t ⟨words (round v) ++ tl⟩ ∧ w0.grownBy w' (some g) := by
  obtain ⟨a, b, c, d⟩ := v
  simp only at ha hb hc hd
  have la := ha
  have lb := hb
  have lc := hc
  have ld := hd
  obtain ⟨a1, ha1⟩ : ∃ z, z = uadd a b := ⟨_, rfl⟩
  have la1 : a1 < 18446744073709551616 := by rw [ha1]; exact uadd_lt _ _
  have ea1 : IntKind.u64.wrap ((a : Int) + (b : Int)) = (a1 : Int) := by rw [ha1]; exact uadd_eq _ _
  obtain ⟨c1, hc1⟩ : ∃ z, z = uadd c d := ⟨_, rfl⟩
  have lc1 : c1 < 18446744073709551616 := by rw [hc1]; exact uadd_lt _ _
  have ec1 : IntKind.u64.wrap ((c : Int) + (d : Int)) = (c1 : Int) := by rw [hc1]; exact uadd_eq _ _
  obtain ⟨rb1, hrb1⟩ : ∃ z, z = rotl b 13 := ⟨_, rfl⟩
  have lrb1 : rb1 < 18446744073709551616 := by rw [hrb1]; exact rotl_lt _ _
  have krb1 := Lib.hid (fun W => hrb1 ▸ rot13 b W lb)
  obtain ⟨b1, hb1⟩ : ∃ z, z = uxor rb1 a1 := ⟨_, rfl⟩
  have lb1 : b1 < 18446744073709551616 := by rw [hb1]; exact uxor_lt _ _
  have eb1 : bits .xor .u64 (rb1 : Int) (a1 : Int) = (b1 : Int) := by rw [hb1]; exact uxor_eq _ _ lrb1 la1
  obtain ⟨rd1, hrd1⟩ : ∃ z, z = rotl d 16 := ⟨_, rfl⟩
  have lrd1 : rd1 < 18446744073709551616 := by rw [hrd1]; exact rotl_lt _ _
  have krd1 := Lib.hid (fun W => hrd1 ▸ rot16 d W ld)
  obtain ⟨d1, hd1⟩ : ∃ z, z = uxor rd1 c1 := ⟨_, rfl⟩
  have ld1 : d1 < 18446744073709551616 := by rw [hd1]; exact uxor_lt _ _
  have ed1 : bits .xor .u64 (rd1 : Int) (c1 : Int) = (d1 : Int) := by rw [hd1]; exact uxor_eq _ _ lrd1 lc1
  obtain ⟨a2, ha2⟩ : ∃ z, z = rotl a1 32 := ⟨_, rfl⟩
  have la2 : a2 < 18446744073709551616 := by rw [ha2]; exact rotl_lt _ _
  have ka2 := Lib.hid (fun W => ha2 ▸ rot32 a1 W la1)
  obtain ⟨c2, hc2⟩ : ∃ z, z = uadd c1 b1 := ⟨_, rfl⟩
  have lc2 : c2 < 18446744073709551616 := by rw [hc2]; exact uadd_lt _ _
  have ec2 : IntKind.u64.wrap ((c1 : Int) + (b1 : Int)) = (c2 : Int) := by rw [hc2]; exact uadd_eq _ _
  obtain ⟨a3, ha3⟩ : ∃ z, z = uadd a2 d1 := ⟨_, rfl⟩
  have la3 : a3 < 18446744073709551616 := by rw [ha3]; exact uadd_lt _ _
  have ea3 : IntKind.u64.wrap ((a2 : Int) + (d1 : Int)) = (a3 : Int) := by rw [ha3]; exact uadd_eq _ _
  obtain ⟨rb2, hrb2⟩ : ∃ z, z = rotl b1 17 := ⟨_, rfl⟩
  have lrb2 : rb2 < 18446744073709551616 := by rw [hrb2]; exact rotl_lt _ _
  have krb2 := Lib.hid (fun W => hrb2 ▸ rot17 b1 W lb1)
  obtain ⟨b2, hb2⟩ : ∃ z, z = uxor rb2 c2 := ⟨_, rfl⟩
  have lb2 : b2 < 18446744073709551616 := by rw [hb2]; exact uxor_lt _ _
  have eb2 : bits .xor .u64 (rb2 : Int) (c2 : Int) = (b2 : Int) := by rw [hb2]; exact uxor_eq _ _ lrb2 lc2
  obtain ⟨rd2, hrd2⟩ : ∃ z, z = rotl d1 21 := ⟨_, rfl⟩
  have lrd2 : rd2 < 18446744073709551616 := by rw [hrd2]; exact rotl_lt _ _
  have krd2 := Lib.hid (fun W => hrd2 ▸ rot21 d1 W ld1)
  obtain ⟨d2, hd2⟩ : ∃ z, z = uxor rd2 a3 := ⟨_, rfl⟩
  have ld2 : d2 < 18446744073709551616 := by rw [hd2]; exact uxor_lt _ _
  have ed2 : bits .xor .u64 (rd2 : Int) (a3 : Int) = (d2 : Int) := by rw [hd2]; exact uxor_eq _ _ lrd2 la3
  obtain ⟨c3, hc3⟩ : ∃ z, z = rotl c2 32 := ⟨_, rfl⟩
  have lc3 : c3 < 18446744073709551616 := by rw [hc3]; exact rotl_lt _ _
  have kc3 := Lib.hid (fun W => hc3 ▸ rot32 c2 W lc2)
  clear la lb lc ld
  have qa1 := Lib.hid ha1
  have qc1 := Lib.hid hc1
  have qrb1 := Lib.hid hrb1
  have qb1 := Lib.hid hb1
  have qrd1 := Lib.hid hrd1
  have qd1 := Lib.hid hd1
  have qa2 := Lib.hid ha2
  have qc2 := Lib.hid hc2
  have qa3 := Lib.hid ha3
  have qrb2 := Lib.hid hrb2
  have qb2 := Lib.hid hb2
  have qrd2 := Lib.hid hrd2
  have qd2 := Lib.hid hd2
  have qc3 := Lib.hid hc3
  clear ha1 hc1 hrb1 hb1 hrd1 hd1 ha2 hc2 ha3 hrb2 hb2 hrd2 hd2 hc3
  have g0 := Only.refl w0 (some g)
  go_enter Tryz.func133, Tryz.ntmps133
  go_wp2_with fail
  have m0 : w0.cell? ⟨g, 0, none⟩ = some (.int .u64 (a : Int)) := h0.cell 0
  have m1 : w0.cell? ⟨g, 1, none⟩ = some (.int .u64 (b : Int)) := h0.cell 1
  have m2 : w0.cell? ⟨g, 2, none⟩ = some (.int .u64 (c : Int)) := h0.cell 2
  have m3 : w0.cell? ⟨g, 3, none⟩ = some (.int .u64 (d : Int)) := h0.cell 3
  have f0 := h0.free 0
  have f1 := h0.free 1
  have f2 := h0.free 2
  have f3 := h0.free 3
  go_still_tail 11, (by kernel_rfl)
  change wpList _ _ _ _ _ w0.drew
  go_wp2_with fail
  obtain ⟨w1, hw⟩ : ∃ x, x = (w0.setCell ⟨g, 0, none⟩ (.int .u64 (a1 : Int))).drew := ⟨_, rfl⟩
  rw [← hw]
  have h1 : Blk w1 g t ⟨words ⟨a1, b, c, d⟩ ++ tl⟩ := by rw [hw]; exact blk_put h0 0 _
  have g1 : w0.grownBy w1 (some g) := by rw [hw]; exact Only.drew (Only.put g0 0 _)
  clear hw m0 m1 m2 m3 f0 f1 f2 f3
  have m0 : w1.cell? ⟨g, 0, none⟩ = some (.int .u64 (a1 : Int)) := h1.cell 0
  have m1 : w1.cell? ⟨g, 1, none⟩ = some (.int .u64 (b : Int)) := h1.cell 1
  have m2 : w1.cell? ⟨g, 2, none⟩ = some (.int .u64 (c : Int)) := h1.cell 2
  have m3 : w1.cell? ⟨g, 3, none⟩ = some (.int .u64 (d : Int)) := h1.cell 3
  have f0 := h1.free 0
  have f1 := h1.free 1
  have f2 := h1.free 2
  have f3 := h1.free 3
  go_still_tail 11, (by kernel_rfl)
  change wpList _ _ _ _ _ w1.drew
  go_wp2_with fail
  obtain ⟨w2, hw⟩ : ∃ x, x = (w1.setCell ⟨g, 2, none⟩ (.int .u64 (c1 : Int))).drew := ⟨_, rfl⟩
  rw [← hw]
  have h2 : Blk w2 g t ⟨words ⟨a1, b, c1, d⟩ ++ tl⟩ := by rw [hw]; exact blk_put h1 2 _
  have g2 : w0.grownBy w2 (some g) := by rw [hw]; exact Only.drew (Only.put g1 2 _)
  clear hw m0 m1 m2 m3 f0 f1 f2 f3
  have m0 : w2.cell? ⟨g, 0, none⟩ = some (.int .u64 (a1 : Int)) := h2.cell 0
  have m1 : w2.cell? ⟨g, 1, none⟩ = some (.int .u64 (b : Int)) := h2.cell 1
  have m2 : w2.cell? ⟨g, 2, none⟩ = some (.int .u64 (c1 : Int)) := h2.cell 2
  have m3 : w2.cell? ⟨g, 3, none⟩ = some (.int .u64 (d : Int)) := h2.cell 3
  have f0 := h2.free 0
  have f1 := h2.free 1
  have f2 := h2.free 2
  have f3 := h2.free 3
  go_still_tail 12, (by kernel_rfl)
  still_call (krb1.out _)
  repeat still_step
  refine wpStill_nil ?_
  change wpList _ _ _ _ _ w2.drew
  go_wp2_with fail
  obtain ⟨w3, hw⟩ : ∃ x, x = (w2.setCell ⟨g, 1, none⟩ (.int .u64 (b1 : Int))).drew := ⟨_, rfl⟩
  rw [← hw]
  have h3 : Blk w3 g t ⟨words ⟨a1, b1, c1, d⟩ ++ tl⟩ := by rw [hw]; exact blk_put h2 1 _
  have g3 : w0.grownBy w3 (some g) := by rw [hw]; exact Only.drew (Only.put g2 1 _)
  clear hw m0 m1 m2 m3 f0 f1 f2 f3
  have m0 : w3.cell? ⟨g, 0, none⟩ = some (.int .u64 (a1 : Int)) := h3.cell 0
  have m1 : w3.cell? ⟨g, 1, none⟩ = some (.int .u64 (b1 : Int)) := h3.cell 1
  have m2 : w3.cell? ⟨g, 2, none⟩ = some (.int .u64 (c1 : Int)) := h3.cell 2
  have m3 : w3.cell? ⟨g, 3, none⟩ = some (.int .u64 (d : Int)) := h3.cell 3
  have f0 := h3.free 0
  have f1 := h3.free 1
  have f2 := h3.free 2
  have f3 := h3.free 3
  go_still_tail 12, (by kernel_rfl)
  still_call (krd1.out _)
  repeat still_step
  refine wpStill_nil ?_
  change wpList _ _ _ _ _ w3.drew
  go_wp2_with fail
  obtain ⟨w4, hw⟩ : ∃ x, x = (w3.setCell ⟨g, 3, none⟩ (.int .u64 (d1 : Int))).drew := ⟨_, rfl⟩
  rw [← hw]
  have h4 : Blk w4 g t ⟨words ⟨a1, b1, c1, d1⟩ ++ tl⟩ := by rw [hw]; exact blk_put h3 3 _
  have g4 : w0.grownBy w4 (some g) := by rw [hw]; exact Only.drew (Only.put g3 3 _)
  clear hw m0 m1 m2 m3 f0 f1 f2 f3
  have m0 : w4.cell? ⟨g, 0, none⟩ = some (.int .u64 (a1 : Int)) := h4.cell 0
  have m1 : w4.cell? ⟨g, 1, none⟩ = some (.int .u64 (b1 : Int)) := h4.cell 1
  have m2 : w4.cell? ⟨g, 2, none⟩ = some (.int .u64 (c1 : Int)) := h4.cell 2
  have m3 : w4.cell? ⟨g, 3, none⟩ = some (.int .u64 (d1 : Int)) := h4.cell 3
  have f0 := h4.free 0
  have f1 := h4.free 1
  have f2 := h4.free 2
  have f3 := h4.free 3
  go_still_tail 7, (by kernel_rfl)
  still_call (ka2.out _)
  repeat still_step
  refine wpStill_nil ?_
  change wpList _ _ _ _ _ w4.drew
  go_wp2_with fail
  obtain ⟨w5, hw⟩ : ∃ x, x = (w4.setCell ⟨g, 0, none⟩ (.int .u64 (a2 : Int))).drew := ⟨_, rfl⟩
  rw [← hw]
  have h5 : Blk w5 g t ⟨words ⟨a2, b1, c1, d1⟩ ++ tl⟩ := by rw [hw]; exact blk_put h4 0 _
  have g5 : w0.grownBy w5 (some g) := by rw [hw]; exact Only.drew (Only.put g4 0 _)
  clear hw m0 m1 m2 m3 f0 f1 f2 f3
  have m0 : w5.cell? ⟨g, 0, none⟩ = some (.int .u64 (a2 : Int)) := h5.cell 0
  have m1 : w5.cell? ⟨g, 1, none⟩ = some (.int .u64 (b1 : Int)) := h5.cell 1
  have m2 : w5.cell? ⟨g, 2, none⟩ = some (.int .u64 (c1 : Int)) := h5.cell 2
  have m3 : w5.cell? ⟨g, 3, none⟩ = some (.int .u64 (d1 : Int)) := h5.cell 3
  have f0 := h5.free 0
  have f1 := h5.free 1
  have f2 := h5.free 2
  have f3 := h5.free 3
  go_still_tail 11, (by kernel_rfl)
  change wpList _ _ _ _ _ w5.drew
  go_wp2_with fail
  obtain ⟨w6, hw⟩ : ∃ x, x = (w5.setCell ⟨g, 2, none⟩ (.int .u64 (c2 : Int))).drew := ⟨_, rfl⟩
  rw [← hw]
  have h6 : Blk w6 g t ⟨words ⟨a2, b1, c2, d1⟩ ++ tl⟩ := by rw [hw]; exact blk_put h5 2 _
  have g6 : w0.grownBy w6 (some g) := by rw [hw]; exact Only.drew (Only.put g5 2 _)
  clear hw m0 m1 m2 m3 f0 f1 f2 f3
  have m0 : w6.cell? ⟨g, 0, none⟩ = some (.int .u64 (a2 : Int)) := h6.cell 0
  have m1 : w6.cell? ⟨g, 1, none⟩ = some (.int .u64 (b1 : Int)) := h6.cell 1
  have m2 : w6.cell? ⟨g, 2, none⟩ = some (.int .u64 (c2 : Int)) := h6.cell 2
  have m3 : w6.cell? ⟨g, 3, none⟩ = some (.int .u64 (d1 : Int)) := h6.cell 3
  have f0 := h6.free 0
  have f1 := h6.free 1
  have f2 := h6.free 2
  have f3 := h6.free 3
  go_still_tail 11, (by kernel_rfl)
  change wpList _ _ _ _ _ w6.drew
  go_wp2_with fail
  obtain ⟨w7, hw⟩ : ∃ x, x = (w6.setCell ⟨g, 0, none⟩ (.int .u64 (a3 : Int))).drew := ⟨_, rfl⟩
  rw [← hw]
  have h7 : Blk w7 g t ⟨words ⟨a3, b1, c2, d1⟩ ++ tl⟩ := by rw [hw]; exact blk_put h6 0 _
  have g7 : w0.grownBy w7 (some g) := by rw [hw]; exact Only.drew (Only.put g6 0 _)
  clear hw m0 m1 m2 m3 f0 f1 f2 f3
  have m0 : w7.cell? ⟨g, 0, none⟩ = some (.int .u64 (a3 : Int)) := h7.cell 0
  have m1 : w7.cell? ⟨g, 1, none⟩ = some (.int .u64 (b1 : Int)) := h7.cell 1
  have m2 : w7.cell? ⟨g, 2, none⟩ = some (.int .u64 (c2 : Int)) := h7.cell 2
  have m3 : w7.cell? ⟨g, 3, none⟩ = some (.int .u64 (d1 : Int)) := h7.cell 3
  have f0 := h7.free 0
  have f1 := h7.free 1
  have f2 := h7.free 2
  have f3 := h7.free 3
  go_still_tail 12, (by kernel_rfl)
  still_call (krb2.out _)
  repeat still_step
  refine wpStill_nil ?_
  change wpList _ _ _ _ _ w7.drew
  go_wp2_with fail
  obtain ⟨w8, hw⟩ : ∃ x, x = (w7.setCell ⟨g, 1, none⟩ (.int .u64 (b2 : Int))).drew := ⟨_, rfl⟩
  rw [← hw]
  have h8 : Blk w8 g t ⟨words ⟨a3, b2, c2, d1⟩ ++ tl⟩ := by rw [hw]; exact blk_put h7 1 _
  have g8 : w0.grownBy w8 (some g) := by rw [hw]; exact Only.drew (Only.put g7 1 _)
  clear hw m0 m1 m2 m3 f0 f1 f2 f3
  have m0 : w8.cell? ⟨g, 0, none⟩ = some (.int .u64 (a3 : Int)) := h8.cell 0
  have m1 : w8.cell? ⟨g, 1, none⟩ = some (.int .u64 (b2 : Int)) := h8.cell 1
  have m2 : w8.cell? ⟨g, 2, none⟩ = some (.int .u64 (c2 : Int)) := h8.cell 2
  have m3 : w8.cell? ⟨g, 3, none⟩ = some (.int .u64 (d1 : Int)) := h8.cell 3
  have f0 := h8.free 0
  have f1 := h8.free 1
  have f2 := h8.free 2
  have f3 := h8.free 3
  go_still_tail 12, (by kernel_rfl)
  still_call (krd2.out _)
  repeat still_step
  refine wpStill_nil ?_
  change wpList _ _ _ _ _ w8.drew
  go_wp2_with fail
  obtain ⟨w9, hw⟩ : ∃ x, x = (w8.setCell ⟨g, 3, none⟩ (.int .u64 (d2 : Int))).drew := ⟨_, rfl⟩
  rw [← hw]
  have h9 : Blk w9 g t ⟨words ⟨a3, b2, c2, d2⟩ ++ tl⟩ := by rw [hw]; exact blk_put h8 3 _
  have g9 : w0.grownBy w9 (some g) := by rw [hw]; exact Only.drew (Only.put g8 3 _)
  clear hw m0 m1 m2 m3 f0 f1 f2 f3
  have m0 : w9.cell? ⟨g, 0, none⟩ = some (.int .u64 (a3 : Int)) := h9.cell 0
  have m1 : w9.cell? ⟨g, 1, none⟩ = some (.int .u64 (b2 : Int)) := h9.cell 1
  have m2 : w9.cell? ⟨g, 2, none⟩ = some (.int .u64 (c2 : Int)) := h9.cell 2
  have m3 : w9.cell? ⟨g, 3, none⟩ = some (.int .u64 (d2 : Int)) := h9.cell 3
  have f0 := h9.free 0
  have f1 := h9.free 1
  have f2 := h9.free 2
  have f3 := h9.free 3
  go_still_tail 7, (by kernel_rfl)
  still_call (kc3.out _)
  repeat still_step
  refine wpStill_nil ?_
  change wpList _ _ _ _ _ w9.drew
  go_wp2_with fail
  obtain ⟨w10, hw⟩ : ∃ x, x = (w9.setCell ⟨g, 2, none⟩ (.int .u64 (c3 : Int))).drew := ⟨_, rfl⟩
  rw [← hw]
  have h10 : Blk w10 g t ⟨words ⟨a3, b2, c3, d2⟩ ++ tl⟩ := by rw [hw]; exact blk_put h9 2 _
  have g10 : w0.grownBy w10 (some g) := by rw [hw]; exact Only.drew (Only.put g9 2 _)
  clear hw m0 m1 m2 m3 f0 f1 f2 f3
  go_end0
  refine ⟨rfl, ?_, g10⟩
  have hv : round ⟨a, b, c, d⟩ = ⟨a3, b2, c3, d2⟩ := by
    simp only [round, qa1.out, qc1.out, qrb1.out, qb1.out, qrd1.out, qd1.out, qa2.out, qc2.out, qa3.out, qrb2.out, qb2.out, qrd2.out, qd2.out, qc3.out]
  rw [hv]
  exact h10
end Go.Proofs.YtajlfmnjibgbaaaGreatDoor.Sip
/- SipHash: a word is taken; the document's round. -/
namespace Go.Proofs.YtajlfmnjibgbaaaGreatDoor.Sip
open Go.RowKit Mem

set_option maxRecDepth 100000 in
theorem round_lt (v : V) : (round v).a < 18446744073709551616 ∧ (round v).b < 18446744073709551616 ∧ (round v).c < 18446744073709551616 ∧ (round v).d < 18446744073709551616 :=
  ⟨uadd_lt _ _, uxor_lt _ _, rotl_lt _ _, uxor_lt _ _⟩

set_option maxRecDepth 100000 in
set_option maxHeartbeats 4000000 in
theorem take_any (g : Nat) (t : TypeId) (v : V) (m : Nat) (tl : List Value) (w0 : World) (h0 : Blk w0 g t ⟨words v ++ tl⟩) (ha : v.a < 18446744073709551616) (hb : v.b < 18446744073709551616) (hc : v.c < 18446744073709551616) (hd : v.d < 18446744073709551616) (hm : m < 18446744073709551616) :
    Calls Tryz.prog 132 #[.pointer (some ⟨g, 0, none⟩), .int .u64 (m : Int)] w0 fun e w' => e = .returned (.tuple #[]) ∧ Blk w' g t ⟨words (take v m) ++ tl⟩ ∧ w0.grownBy w' (some g) := by
  obtain ⟨a, b, c, d⟩ := v
  simp only at ha hb hc hd
  obtain ⟨d1, hd1⟩ : ∃ z, z = uxor d m := ⟨_, rfl⟩
  have ld1 : d1 < 18446744073709551616 := by rw [hd1]; exact uxor_lt _ _
  have ed1 : bits .xor .u64 (d : Int) (m : Int) = (d1 : Int) := by rw [hd1]; exact uxor_eq _ _ hd hm
  have hd1' := Lib.hid hd1
  obtain ⟨r1, hr1⟩ : ∃ z, z = round ⟨a, b, c, d1⟩ := ⟨_, rfl⟩
  have b1 := round_lt ⟨a, b, c, d1⟩
  rw [← hr1] at b1
  obtain ⟨r2, hr2⟩ : ∃ z, z = round r1 := ⟨_, rfl⟩
  have b2 := round_lt r1
  rw [← hr2] at b2
  have k1 := Lib.hid (fun W (h : Blk W g t ⟨words ⟨a, b, c, d1⟩ ++ tl⟩) => hr1 ▸ round_any g t ⟨a, b, c, d1⟩ tl W h ha hb hc ld1)
  have k2 := Lib.hid (fun W (h : Blk W g t ⟨words r1 ++ tl⟩) => hr2 ▸ round_any g t r1 tl W h b1.1 b1.2.1 b1.2.2.1 b1.2.2.2)
  have hv : take ⟨a, b, c, d⟩ m = ⟨uxor r2.a m, r2.b, r2.c, r2.d⟩ := by rw [hr2, hr1, hd1]; rfl
  obtain ⟨a3, ha3⟩ : ∃ z, z = uxor r2.a m := ⟨_, rfl⟩
  have ea3 : bits .xor .u64 (r2.a : Int) (m : Int) = (a3 : Int) := by rw [ha3]; exact uxor_eq _ _ b2.1 hm
  rw [← ha3] at hv
  have hv' := Lib.hid hv
  clear hd1 hr1 hr2 b1 b2 hv ha3
  have m3 : w0.cell? ⟨g, 3, none⟩ = some (.int .u64 (d : Int)) := h0.cell 3
  have f3 := h0.free 3
  have g0 := Only.refl w0 (some g)
  go_enter Tryz.func132, Tryz.ntmps132
  go_wp2_with fail
  go_still_tail 8, (by kernel_rfl)
  change wpList _ _ _ _ _ w0.drew
  go_wp2_with fail
  obtain ⟨w1, hw⟩ : ∃ x, x = (w0.setCell ⟨g, 3, none⟩ (.int .u64 (d1 : Int))).drew := ⟨_, rfl⟩
  rw [← hw]
  have h1 : Blk w1 g t ⟨words ⟨a, b, c, d1⟩ ++ tl⟩ := by rw [hw]; exact blk_put h0 3 _
  have g1 : w0.grownBy w1 (some g) := by rw [hw]; exact Only.drew (Only.put g0 3 _)
  clear hw m3 f3
  refine (k1.out _ h1).mono ?_
  rintro e w2 ⟨rfl, h2, g2⟩
  have g2 := Only.trans g1 g2
  go_wp2_with fail
  refine (k2.out _ h2).mono ?_
  rintro e w3 ⟨rfl, h3, g3⟩
  have g3 := Only.trans g2 g3
  have m0 : w3.cell? ⟨g, 0, none⟩ = some (.int .u64 (r2.a : Int)) := h3.cell 0
  have f0 := h3.free 0
  go_wp2_with fail
  go_still_tail 8, (by kernel_rfl)
  change wpList _ _ _ _ _ w3.drew
  go_wp2_with fail
  go_end0
  rw [hv'.out]
  exact ⟨rfl, blk_put h3 0 _, Only.drew (Only.put g3 0 _)⟩

/-- ways that come to one end, walked on as one -/
@[reducible] def Meet (A : Act) (W : World) : Exit → Act → World → Prop
  | .normal, a, w => a = A ∧ w = W
  | _, _, _ => False
set_option maxRecDepth 100000 in
theorem wp_meet {P : Program} {c : Code} {Q : Exit → Act → World → Prop} {a : Act} {w : World} (A : Act) (W : World) (h : c.wp P (Meet A W) a w) (hk : Q .normal A W) : c.wp P Q a w :=
  Code.wp_mono (fun e a' w' h => by
    cases e with
    | normal => obtain ⟨h2, h3⟩ := h; rw [h2, h3]; exact hk
    | _ => exact h.elim) h

/-- the four words as one value -/
def vVal (v : V) : Value := .agg #[.int .u64 (v.a : Int), .int .u64 (v.b : Int), .int .u64 (v.c : Int), .int .u64 (v.d : Int)]

set_option maxRecDepth 100000 in
set_option maxHeartbeats 4000000 in
theorem rround_any (v : V) (w0 : World) (ha : v.a < 18446744073709551616) (hb : v.b < 18446744073709551616) (hc : v.c < 18446744073709551616) (hd : v.d < 18446744073709551616) :
    Calls Tryz.prog 114 #[vVal v] w0 fun e w' => e = .returned (vVal (round v)) ∧ Below w0.heap.size w0 w' := by
  obtain ⟨a, b, c, d⟩ := v
  simp only at ha hb hc hd
  have la := ha
  have lb := hb
  have lc := hc
  have ld := hd
  obtain ⟨a1, ha1⟩ : ∃ z, z = uadd a b := ⟨_, rfl⟩
  have la1 : a1 < 18446744073709551616 := by rw [ha1]; exact uadd_lt _ _
  have ea1 : IntKind.u64.wrap ((a : Int) + (b : Int)) = (a1 : Int) := by rw [ha1]; exact uadd_eq _ _
  obtain ⟨rb1, hrb1⟩ : ∃ z, z = rotl b 13 := ⟨_, rfl⟩
  have lrb1 : rb1 < 18446744073709551616 := by rw [hrb1]; exact rotl_lt _ _
  have krb1 := Lib.hid (fun W => hrb1 ▸ rrot13 b W lb)
  obtain ⟨b1, hb1⟩ : ∃ z, z = uxor rb1 a1 := ⟨_, rfl⟩
  have lb1 : b1 < 18446744073709551616 := by rw [hb1]; exact uxor_lt _ _
  have eb1 : bits .xor .u64 (rb1 : Int) (a1 : Int) = (b1 : Int) := by rw [hb1]; exact uxor_eq _ _ lrb1 la1
  obtain ⟨a2, ha2⟩ : ∃ z, z = rotl a1 32 := ⟨_, rfl⟩
  have la2 : a2 < 18446744073709551616 := by rw [ha2]; exact rotl_lt _ _
  have ka2 := Lib.hid (fun W => ha2 ▸ rrot32 a1 W la1)
  obtain ⟨c1, hc1⟩ : ∃ z, z = uadd c d := ⟨_, rfl⟩
  have lc1 : c1 < 18446744073709551616 := by rw [hc1]; exact uadd_lt _ _
  have ec1 : IntKind.u64.wrap ((c : Int) + (d : Int)) = (c1 : Int) := by rw [hc1]; exact uadd_eq _ _
  obtain ⟨rd1, hrd1⟩ : ∃ z, z = rotl d 16 := ⟨_, rfl⟩
  have lrd1 : rd1 < 18446744073709551616 := by rw [hrd1]; exact rotl_lt _ _
  have krd1 := Lib.hid (fun W => hrd1 ▸ rrot16 d W ld)
  obtain ⟨d1, hd1⟩ : ∃ z, z = uxor rd1 c1 := ⟨_, rfl⟩
  have ld1 : d1 < 18446744073709551616 := by rw [hd1]; exact uxor_lt _ _
  have ed1 : bits .xor .u64 (rd1 : Int) (c1 : Int) = (d1 : Int) := by rw [hd1]; exact uxor_eq _ _ lrd1 lc1
  obtain ⟨a3, ha3⟩ : ∃ z, z = uadd a2 d1 := ⟨_, rfl⟩
  have la3 : a3 < 18446744073709551616 := by rw [ha3]; exact uadd_lt _ _
  have ea3 : IntKind.u64.wrap ((a2 : Int) + (d1 : Int)) = (a3 : Int) := by rw [ha3]; exact uadd_eq _ _
  obtain ⟨rd2, hrd2⟩ : ∃ z, z = rotl d1 21 := ⟨_, rfl⟩
  have lrd2 : rd2 < 18446744073709551616 := by rw [hrd2]; exact rotl_lt _ _
  have krd2 := Lib.hid (fun W => hrd2 ▸ rrot21 d1 W ld1)
  obtain ⟨d2, hd2⟩ : ∃ z, z = uxor rd2 a3 := ⟨_, rfl⟩
  have ld2 : d2 < 18446744073709551616 := by rw [hd2]; exact uxor_lt _ _
  have ed2 : bits .xor .u64 (rd2 : Int) (a3 : Int) = (d2 : Int) := by rw [hd2]; exact uxor_eq _ _ lrd2 la3
  obtain ⟨c2, hc2⟩ : ∃ z, z = uadd c1 b1 := ⟨_, rfl⟩
  have lc2 : c2 < 18446744073709551616 := by rw [hc2]; exact uadd_lt _ _
  have ec2 : IntKind.u64.wrap ((c1 : Int) + (b1 : Int)) = (c2 : Int) := by rw [hc2]; exact uadd_eq _ _
  obtain ⟨rb2, hrb2⟩ : ∃ z, z = rotl b1 17 := ⟨_, rfl⟩
  have lrb2 : rb2 < 18446744073709551616 := by rw [hrb2]; exact rotl_lt _ _
  have krb2 := Lib.hid (fun W => hrb2 ▸ rrot17 b1 W lb1)
  obtain ⟨b2, hb2⟩ : ∃ z, z = uxor rb2 c2 := ⟨_, rfl⟩
  have lb2 : b2 < 18446744073709551616 := by rw [hb2]; exact uxor_lt _ _
  have eb2 : bits .xor .u64 (rb2 : Int) (c2 : Int) = (b2 : Int) := by rw [hb2]; exact uxor_eq _ _ lrb2 lc2
  obtain ⟨c3, hc3⟩ : ∃ z, z = rotl c2 32 := ⟨_, rfl⟩
  have lc3 : c3 < 18446744073709551616 := by rw [hc3]; exact rotl_lt _ _
  have kc3 := Lib.hid (fun W => hc3 ▸ rrot32 c2 W lc2)
  clear la lb lc ld
  have qa1 := Lib.hid ha1
  have qrb1 := Lib.hid hrb1
  have qb1 := Lib.hid hb1
  have qa2 := Lib.hid ha2
  have qc1 := Lib.hid hc1
  have qrd1 := Lib.hid hrd1
  have qd1 := Lib.hid hd1
  have qa3 := Lib.hid ha3
  have qrd2 := Lib.hid hrd2
  have qd2 := Lib.hid hd2
  have qc2 := Lib.hid hc2
  have qrb2 := Lib.hid hrb2
  have qb2 := Lib.hid hb2
  have qc3 := Lib.hid hc3
  clear ha1 hrb1 hb1 ha2 hc1 hrd1 hd1 ha3 hrd2 hd2 hc2 hrb2 hb2 hc3
  unfold vVal
  go_enter Tryz.func114, Tryz.ntmps114
  go_wp2_with fail
  apply wp_meet
  case h =>
    go_region_with (go_at_call 127; refine (krb1.out _).mono ?_; rintro e W ⟨rfl, rfl⟩)
    all_goals exact ⟨rfl, rfl⟩
  case hk =>
  go_wp2_with fail
  refine (ka2.out _).mono ?_
  rintro e W ⟨rfl, rfl⟩
  go_wp2_with fail
  apply wp_meet
  case h =>
    go_region_with (go_at_call 127; refine (krd1.out _).mono ?_; rintro e W ⟨rfl, rfl⟩)
    all_goals exact ⟨rfl, rfl⟩
  case hk =>
  go_wp2_with fail
  apply wp_meet
  case h =>
    go_region_with (go_at_call 127; refine (krd2.out _).mono ?_; rintro e W ⟨rfl, rfl⟩)
    all_goals exact ⟨rfl, rfl⟩
  case hk =>
  go_wp2_with fail
  apply wp_meet
  case h =>
    go_region_with (go_at_call 127; refine (krb2.out _).mono ?_; rintro e W ⟨rfl, rfl⟩)
    all_goals exact ⟨rfl, rfl⟩
  case hk =>
  go_wp2_with fail
  refine (kc3.out _).mono ?_
  rintro e W ⟨rfl, rfl⟩
  go_wp2_with fail
  refine bodyPost_ret (results_cell_row (t := 178) (fr := (0, 0)) rfl _ _ (w0.heap.size + 1) _ _ rfl (heap_alloc2_new w0 _ _) Tryz.underlying178 rfl (by kernel_rfl)) rfl ?_
  have hv : round ⟨a, b, c, d⟩ = ⟨a3, b2, c3, d2⟩ := by
    simp only [round, qa1.out, qrb1.out, qb1.out, qa2.out, qc1.out, qrd1.out, qd1.out, qa3.out, qrd2.out, qd2.out, qc2.out, qrb2.out, qb2.out, qc3.out]
  rw [hv]
  refine ⟨rfl, ?_⟩
  go_grown
end Go.Proofs.YtajlfmnjibgbaaaGreatDoor.Sip
/- SipHash: words of bytes, both ways of reading them. -/
namespace Go.Proofs.YtajlfmnjibgbaaaGreatDoor.Sip
open Go.RowKit Mem

set_option maxRecDepth 100000 in
theorem or_high (a c k : Nat) (ha : a < 256 ^ k) (hk : k < 8) (hc : c < 256) : bits .or .u64 (a : Int) (IntKind.u64.wrap ((c : Int) * (256 ^ k : Nat))) = ((a + 256 ^ k * c : Nat) : Int) := by
  have e : (256 : Nat) ^ k = 2 ^ (8 * k) := by rw [show (256 : Nat) = 2 ^ 8 from rfl, ← Nat.pow_mul]
  have hle : 256 ^ k ≤ 256 ^ 7 := Nat.pow_le_pow_right (by omega) (by omega)
  have hm : c * 256 ^ k < 18446744073709551616 := Nat.lt_of_le_of_lt (Nat.mul_le_mul (show c ≤ 255 by omega) hle) (by decide)
  have hw : IntKind.u64.wrap ((c : Int) * (256 ^ k : Nat)) = ((c * 256 ^ k : Nat) : Int) := by
    rw [IntKind.wrap_u64, ← Int.natCast_mul]
    exact congrArg Int.ofNat (Nat.mod_eq_of_lt hm)
  have hal : a < 18446744073709551616 := Nat.lt_of_lt_of_le ha (Nat.le_trans hle (by decide))
  rw [hw, u64_or_nat _ _ hal hm]
  rw [e] at ha ⊢
  rw [Nat.or_comm, Nat.mul_comm c, ← Nat.two_pow_add_eq_or_of_lt ha, Nat.add_comm]

set_option maxRecDepth 100000 in
theorem word_snoc (l : List UInt8) (c : UInt8) : word (l ++ [c]) = word l + 256 ^ l.length * c.toNat := by
  rw [word_append]; simp [word]

set_option maxRecDepth 100000 in
set_option maxHeartbeats 4000000 in
theorem read_any (s : ByteArray) (w : World) (hs : s.size ≤ 8) :
    Calls Tryz.prog 131 #[.string s] w fun e w' => e = .returned (.int .u64 (word s.data.toList : Nat)) ∧ w' = w := by
  have hsz := Lib.hid (Lib.size_eq s)
  go_enter Tryz.func131, Tryz.ntmps131
  go_wp2_with fail
  go_loop [3, 7] (fun x i => ∃ k : Nat, k ≤ s.size ∧ i = .int .i64 (k : Int) ∧ x = .int .u64 (word (s.data.toList.take k) : Nat)) (fun _ i => s.size - (intOf i).toNat)
  case atStart => exact ⟨0, Nat.zero_le _, rfl, rfl⟩
  case round =>
    obtain ⟨k, hk, rfl, rfl⟩ := hrel
    by_cases hlt : k < s.size
    · have hc : s.data.toList[k]? = some s[k] := by rw [Array.getElem?_toList]; exact Array.getElem?_eq_getElem hlt
      generalize hcc : s[k] = c at hc
      have hl8 : (s.data.toList.take k).length = k := by rw [List.length_take, ← hsz.out]; omega
      have hstep : word (s.data.toList.take (k + 1)) = word (s.data.toList.take k) + 256 ^ k * c.toNat := by
        rw [List.take_add_one, hc]
        simp only [Option.toList]
        rw [word_snoc, hl8]
      have hwl : word (s.data.toList.take k) < 256 ^ k := by have := word_lt (s.data.toList.take k); rwa [hl8] at this
      have hor := or_high (word (s.data.toList.take k)) c.toNat k hwl (by omega) c.toNat_lt
      rw [← hstep] at hor
      have hor' := Lib.hid hor
      have hcc' := Lib.hid hcc
      have hk8 : k = 0 ∨ k = 1 ∨ k = 2 ∨ k = 3 ∨ k = 4 ∨ k = 5 ∨ k = 6 ∨ k = 7 := by omega
      have hwb : IntKind.u64.wrap (c.toNat : Int) = (c.toNat : Int) := by
        rw [IntKind.wrap_u64]; have := c.toNat_lt; omega
      have hwb' := Lib.hid hwb
      clear hor hwl hl8 hstep hc hcc hwb
      rcases hk8 with rfl | rfl | rfl | rfl | rfl | rfl | rfl | rfl
      all_goals go_wp2_with fail
      · refine ⟨⟨1, by omega, rfl, congrArg (Value.int IntKind.u64) ?_⟩, by simp [intOf]; omega⟩
        rw [hcc'.out, hwb'.out]
        have := hor'.out
        rwa [show ((256 ^ 0 : Nat) : Int) = 1 from rfl, Int.mul_one] at this
      · refine ⟨⟨2, by omega, rfl, congrArg (Value.int IntKind.u64) ?_⟩, by simp [intOf]; omega⟩
        rw [hcc'.out, hwb'.out]; exact hor'.out
      · refine ⟨⟨3, by omega, rfl, congrArg (Value.int IntKind.u64) ?_⟩, by simp [intOf]; omega⟩
        rw [hcc'.out, hwb'.out]; exact hor'.out
      · refine ⟨⟨4, by omega, rfl, congrArg (Value.int IntKind.u64) ?_⟩, by simp [intOf]; omega⟩
        rw [hcc'.out, hwb'.out]; exact hor'.out
      · refine ⟨⟨5, by omega, rfl, congrArg (Value.int IntKind.u64) ?_⟩, by simp [intOf]; omega⟩
        rw [hcc'.out, hwb'.out]; exact hor'.out
      · refine ⟨⟨6, by omega, rfl, congrArg (Value.int IntKind.u64) ?_⟩, by simp [intOf]; omega⟩
        rw [hcc'.out, hwb'.out]; exact hor'.out
      · refine ⟨⟨7, by omega, rfl, congrArg (Value.int IntKind.u64) ?_⟩, by simp [intOf]; omega⟩
        rw [hcc'.out, hwb'.out]; exact hor'.out
      · refine ⟨⟨8, by omega, rfl, congrArg (Value.int IntKind.u64) ?_⟩, by simp [intOf]; omega⟩
        rw [hcc'.out, hwb'.out]; exact hor'.out
    · obtain rfl : k = s.size := by omega
      have hall : s.data.toList.take s.size = s.data.toList := List.take_of_length_le (by rw [← hsz.out]; omega)
      rw [hall]
      go_wp2_with fail
      go_ret
      exact ⟨rfl, rfl⟩

set_option maxRecDepth 100000 in
theorem step256 (s : ByteArray) (k : Nat) (hk : k < s.size) (hs : s.size = 8) :
    IntKind.u64.wrap (IntKind.u64.wrap (256 * ((word (s.data.toList.drop (k + 1)) : Nat) : Int)) + IntKind.u64.wrap (s[k].toNat : Int)) = ((word (s.data.toList.drop k) : Nat) : Int) := by
  have hlen : s.data.toList.length = 8 := by rw [← Lib.size_eq s]; exact hs
  have hd : s.data.toList.drop k = s[k] :: s.data.toList.drop (k + 1) := by
    rw [List.drop_eq_getElem_cons (by omega)]; rfl
  have hl : (s.data.toList.drop (k + 1)).length ≤ 7 := by rw [List.length_drop]; omega
  have h1 := word_lt (s.data.toList.drop (k + 1))
  have h2 := Nat.pow_le_pow_right (n := 256) (by omega) hl
  rw [hd, word, IntKind.wrap_u64, IntKind.wrap_u64, IntKind.wrap_u64]
  generalize word (s.data.toList.drop (k + 1)) = x at h1 ⊢
  have hc := s[k].toNat_lt
  generalize s[k].toNat = c at hc ⊢
  have h3 : x < 72057594037927936 := by omega
  clear h1 h2
  omega

set_option maxRecDepth 100000 in
set_option maxHeartbeats 4000000 in
theorem rword_any (s : ByteArray) (w : World) (hs : s.size = 8) :
    Calls Tryz.prog 113 #[.string s] w fun e w' => e = .returned (.int .u64 (word s.data.toList : Nat)) ∧ w' = w := by
  have hs' := Lib.hid hs
  have hd8 : word (s.data.toList.drop 8) = 0 := by
    rw [List.drop_of_length_le (by rw [← Lib.size_eq s]; omega)]; rfl
  have hd8' := Lib.hid hd8
  clear hd8
  go_enter Tryz.func113, Tryz.ntmps113
  go_wp2_with fail
  go_loop [3, 4] (fun x i => ∃ k : Nat, k ≤ 8 ∧ i = .int .i64 ((k : Int) - 1) ∧ x = .int .u64 (word (s.data.toList.drop k) : Nat)) (fun _ i => (intOf i + 1).toNat)
  case atStart => exact ⟨8, by omega, rfl, by rw [hd8'.out]; rfl⟩
  case round =>
    obtain ⟨k, hk, rfl, rfl⟩ := hrel
    have hk8 : k = 8 ∨ k = 7 ∨ k = 6 ∨ k = 5 ∨ k = 4 ∨ k = 3 ∨ k = 2 ∨ k = 1 ∨ k = 0 := by omega
    rcases hk8 with rfl | rfl | rfl | rfl | rfl | rfl | rfl | rfl | rfl
    case inr.inr.inr.inr.inr.inr.inr.inr =>
      go_wp2_with fail
      go_ret
      exact ⟨rfl, rfl⟩
    all_goals go_wp2_with fail
    · refine ⟨⟨7, by omega, rfl, congrArg (Value.int IntKind.u64) ?_⟩, by simp [intOf]⟩
      exact step256 s 7 (by rw [hs'.out]; omega) hs'.out
    · refine ⟨⟨6, by omega, rfl, congrArg (Value.int IntKind.u64) ?_⟩, by simp [intOf]⟩
      exact step256 s 6 (by rw [hs'.out]; omega) hs'.out
    · refine ⟨⟨5, by omega, rfl, congrArg (Value.int IntKind.u64) ?_⟩, by simp [intOf]⟩
      exact step256 s 5 (by rw [hs'.out]; omega) hs'.out
    · refine ⟨⟨4, by omega, rfl, congrArg (Value.int IntKind.u64) ?_⟩, by simp [intOf]⟩
      exact step256 s 4 (by rw [hs'.out]; omega) hs'.out
    · refine ⟨⟨3, by omega, rfl, congrArg (Value.int IntKind.u64) ?_⟩, by simp [intOf]⟩
      exact step256 s 3 (by rw [hs'.out]; omega) hs'.out
    · refine ⟨⟨2, by omega, rfl, congrArg (Value.int IntKind.u64) ?_⟩, by simp [intOf]⟩
      exact step256 s 2 (by rw [hs'.out]; omega) hs'.out
    · refine ⟨⟨1, by omega, rfl, congrArg (Value.int IntKind.u64) ?_⟩, by simp [intOf]⟩
      exact step256 s 1 (by rw [hs'.out]; omega) hs'.out
    · refine ⟨⟨0, by omega, rfl, congrArg (Value.int IntKind.u64) ?_⟩, by simp [intOf]⟩
      have := step256 s 0 (by rw [hs'.out]; omega) hs'.out
      rwa [show s.data.toList.drop (0 + 1) = s.data.toList.tail by simp] at this
end Go.Proofs.YtajlfmnjibgbaaaGreatDoor.Sip
/- SipHash: a Hash is made, goes on, and tells its sum. -/
namespace Go.Proofs.YtajlfmnjibgbaaaGreatDoor.Sip
open Go.RowKit Mem

set_option maxRecDepth 100000 in
/-- the first and the last eight bytes of a key -/
theorem key_left (key : ByteArray) (hs : key.size = 16) : (key.extract 0 8).data.toList = key.data.toList.take 8 ∧ (key.extract 0 8).size = 8 := by
  refine ⟨?_, ?_⟩
  · rw [Lib.extract_data]; rfl
  · rw [ByteArray.size_extract]; omega
set_option maxRecDepth 100000 in
theorem key_right (key : ByteArray) (hs : key.size = 16) : (key.extract 8 16).data.toList = key.data.toList.drop 8 ∧ (key.extract 8 16).size = 8 := by
  have hl : key.data.toList.length = 16 := by rw [← Lib.size_eq key]; exact hs
  refine ⟨?_, ?_⟩
  · rw [Lib.extract_data]
    exact List.take_of_length_le (by rw [List.length_drop]; omega)
  · rw [ByteArray.size_extract]; omega

/-- four words below 2^64 -/
def Bd (v : V) : Prop := v.a < 18446744073709551616 ∧ v.b < 18446744073709551616 ∧ v.c < 18446744073709551616 ∧ v.d < 18446744073709551616
set_option maxRecDepth 100000 in
theorem take_bd (v : V) (m : Nat) : Bd (take v m) := ⟨uxor_lt _ _, (round_lt _).2.1, (round_lt _).2.2.1, (round_lt _).2.2.2⟩
set_option maxRecDepth 100000 in
theorem feed_bd : ∀ (k : Nat) (v : V) (l : List UInt8), Bd v → Bd (feed v k l)
  | 0, _, _, h => h
  | k + 1, _, _, _ => feed_bd k _ _ (take_bd _ _)
set_option maxRecDepth 100000 in
theorem start_bd (k l : Nat) : Bd (start k l) := ⟨uxor_lt _ _, uxor_lt _ _, uxor_lt _ _, uxor_lt _ _⟩
set_option maxRecDepth 100000 in
theorem word8_lt (l : List UInt8) (h : l.length ≤ 8) : word l < 18446744073709551616 :=
  Nat.lt_of_lt_of_le (word_lt l) (Nat.le_trans (Nat.pow_le_pow_right (n := 256) (by omega) h) (by decide))

set_option maxRecDepth 100000 in
set_option maxHeartbeats 800000 in
theorem new_key (key : ByteArray) (w : World) (hs : key.size = 16) :
    Calls Tryz.prog 124 #[.string key] w fun e w' => e = .returned (.tuple #[.pointer (some ⟨w.heap.size, 0, none⟩), .int .i64 0]) ∧ Blk w' w.heap.size 202 ⟨words (start (word (key.data.toList.take 8)) (word (key.data.toList.drop 8))) ++ [.string ⟨#[]⟩, .int .i64 0]⟩ ∧ Below w.heap.size w w' := by
  have k1 : ∀ W : World, Calls Tryz.prog 131 #[.string (key.extract 0 8)] W fun e w' => e = .returned (.int .u64 (word (key.data.toList.take 8) : Nat)) ∧ w' = W := by
    intro W
    have := read_any (key.extract 0 8) W (by rw [(key_left key hs).2]; exact Nat.le_refl _)
    rwa [(key_left key hs).1] at this
  have k2 : ∀ W : World, Calls Tryz.prog 131 #[.string (key.extract 8 16)] W fun e w' => e = .returned (.int .u64 (word (key.data.toList.drop 8) : Nat)) ∧ w' = W := by
    intro W
    have := read_any (key.extract 8 16) W (by rw [(key_right key hs).2]; exact Nat.le_refl _)
    rwa [(key_right key hs).1] at this
  have bk : word (key.data.toList.take 8) < 18446744073709551616 := word8_lt _ (by rw [List.length_take]; omega)
  have bl : word (key.data.toList.drop 8) < 18446744073709551616 := word8_lt _ (by rw [List.length_drop, ← Lib.size_eq key]; omega)
  obtain ⟨k, hk⟩ : ∃ z, z = word (key.data.toList.take 8) := ⟨_, rfl⟩
  obtain ⟨l, hl⟩ : ∃ z, z = word (key.data.toList.drop 8) := ⟨_, rfl⟩
  rw [← hk] at k1 bk ⊢
  rw [← hl] at k2 bl ⊢
  clear hk hl
  have e1 := uxor_eq k 0x736f6d6570736575 bk (by decide)
  have e2 := uxor_eq l 0x646f72616e646f6d bl (by decide)
  have e3 := uxor_eq k 0x6c7967656e657261 bk (by decide)
  have e4 := uxor_eq l 0x7465646279746573 bl (by decide)
  have e1 := Lib.hid e1
  have e2 := Lib.hid e2
  have e3 := Lib.hid e3
  have e4 := Lib.hid e4
  clear bk bl
  have k1 := Lib.hid k1
  have k2 := Lib.hid k2
  go_enter Tryz.func124, Tryz.ntmps124
  go_wp2_with fail
  refine wp_region_quiet_lit (by kernel_rfl) (by kernel_rfl) ?_
  quiet_step (fail)
  quiet_step (fail)
  quiet_step (exact Calls.quiet_of_same (k1.out _))
  quiet_step (fail)
  quiet_step (fail)
  quiet_step (exact Calls.quiet_of_same (k2.out _))
  quiet_step (fail)
  quiet_step (fail)
  refine wpQuiet_nil ?_
  intro _ hw'
  obtain ⟨nq, hw''⟩ := hw'
  subst hw''
  go_wp2_with fail
  have hb : Below w.heap.size w ((w.drewN nq).alloc (.cells ⟨words (start k l) ++ [.string ⟨#[]⟩, .int .i64 0]⟩ 202)) :=
    (below_drewN (Below.refl _ w) nq).alloc (Nat.le_refl _) _
  have hk : Blk ((w.drewN nq).alloc (.cells ⟨words (start k l) ++ [.string ⟨#[]⟩, .int .i64 0]⟩ 202)) w.heap.size 202 ⟨words (start k l) ++ [.string ⟨#[]⟩, .int .i64 0]⟩ := Blk.new (w.drewN nq) _ _
  have hc : (⟨words (start k l) ++ [.string ⟨#[]⟩, .int .i64 0]⟩ : Array Value) = #[Value.int .u64 (bits .xor .u64 (k : Int) 8317987319222330741), Value.int .u64 (bits .xor .u64 (l : Int) 7237128888997146477), Value.int .u64 (bits .xor .u64 (k : Int) 7816392313619706465), Value.int .u64 (bits .xor .u64 (l : Int) 8387220255154660723), .string ⟨#[]⟩, .int .i64 0] := by
    have a1 : bits .xor .u64 (k : Int) 8317987319222330741 = ((uxor k 0x736f6d6570736575 : Nat) : Int) := e1.out
    have a2 : bits .xor .u64 (l : Int) 7237128888997146477 = ((uxor l 0x646f72616e646f6d : Nat) : Int) := e2.out
    have a3 : bits .xor .u64 (k : Int) 7816392313619706465 = ((uxor k 0x6c7967656e657261 : Nat) : Int) := e3.out
    have a4 : bits .xor .u64 (l : Int) 8387220255154660723 = ((uxor l 0x7465646279746573 : Nat) : Int) := e4.out
    rw [a1, a2, a3, a4]
    rfl
  rw [hc] at hb hk
  go_ret2
  rw [hc]
  exact ⟨rfl, hk, hb⟩

set_option maxRecDepth 100000 in
set_option maxHeartbeats 1000000 in
/-- a Hash that is new goes on with bytes -/
theorem write_new (g : Nat) (v : V) (s : ByteArray) (w0 : World) (h0 : Blk w0 g 202 ⟨words v ++ [.string ⟨#[]⟩, .int .i64 0]⟩) (ha : v.a < 18446744073709551616) (hb : v.b < 18446744073709551616) (hc : v.c < 18446744073709551616) (hd : v.d < 18446744073709551616) (hs : s.size ≤ 9223372036854775807) :
    Calls Tryz.prog 125 #[.pointer (some ⟨g, 0, none⟩), .string s] w0 fun e w' => e = .returned (.tuple #[]) ∧ (∃ r : ByteArray, r.data.toList = s.data.toList.drop (8 * (s.size / 8)) ∧ Blk w' g 202 ⟨words (feed v (s.size / 8) s.data.toList) ++ [.string r, .int .i64 (s.size : Int)]⟩) ∧ w0.grownBy w' (some g) := by
  have m4 : w0.cell? ⟨g, 4, none⟩ = some (.string ⟨#[]⟩) := h0.cell 4
  have f4 := h0.free 4
  have m5 : w0.cell? ⟨g, 5, none⟩ = some (.int .i64 0) := h0.cell 5
  have f5 := h0.free 5
  go_enter Tryz.func125, Tryz.ntmps125
  go_wp2_with fail
  obtain ⟨w1, hw⟩ : ∃ x, x = w0.setCell ⟨g, 5, none⟩ (.int .i64 (s.size : Int)) := ⟨_, rfl⟩
  rw [← hw]
  have h1 : Blk w1 g 202 ⟨words v ++ [.string ⟨#[]⟩, .int .i64 (s.size : Int)]⟩ := by rw [hw]; exact blk_put h0 5 _
  have g1 : w0.grownBy w1 (some g) := by rw [hw]; exact Only.put (Only.refl w0 _) 5 _
  clear hw m4 f4 m5 f5 h0
  have hsz := Lib.hid (Lib.size_eq s)
  go_loopw [1] (fun y wr => ∃ (k : Nat) (x : ByteArray), 8 * k ≤ s.size ∧ y = .string x ∧ x.data.toList = s.data.toList.drop (8 * k) ∧ Blk wr g 202 ⟨words (feed v k s.data.toList) ++ [.string ⟨#[]⟩, .int .i64 (s.size : Int)]⟩ ∧ w0.grownBy wr (some g)) (fun y _ => match y with | .string x => x.size | _ => 0)
  case atStart => exact ⟨0, ⟨#[]⟩ ++ s, Nat.zero_le _, rfl, by simp, h1, g1⟩
  case round =>
    obtain ⟨k, x, hk, rfl, hx, hr, hgr⟩ := hrel
    clear h1 g1
    have hxl : x.size = s.size - 8 * k := by rw [Lib.size_eq x, hx, List.length_drop, hsz.out]
    have hx' := Lib.hid hx
    have hxl' := Lib.hid hxl
    have hk' := Lib.hid hk
    obtain ⟨fa, fb, fc, fd⟩ := feed_bd k v s.data.toList ⟨ha, hb, hc, hd⟩
    by_cases hlt : 8 ≤ x.size
    · have hw8 : word ((s.data.toList.drop (8 * k)).take 8) < 18446744073709551616 := word8_lt _ (by rw [List.length_take]; omega)
      have k1 : ∀ W : World, Calls Tryz.prog 131 #[.string (x.extract 0 8)] W fun e w' => e = .returned (.int .u64 (word ((s.data.toList.drop (8 * k)).take 8) : Nat)) ∧ w' = W := by
        intro W
        have := read_any (x.extract 0 8) W (by rw [ByteArray.size_extract]; omega)
        rwa [Lib.extract_data, hx, List.drop_zero] at this
      have k2 := fun W (h : Blk W g 202 ⟨words (feed v k s.data.toList) ++ [.string ⟨#[]⟩, .int .i64 (s.size : Int)]⟩) => take_any g 202 (feed v k s.data.toList) (word ((s.data.toList.drop (8 * k)).take 8)) _ W h fa fb fc fd hw8
      rw [← feed_succ] at k2
      generalize word ((s.data.toList.drop (8 * k)).take 8) = m at k1 k2
      have k1 := Lib.hid k1
      have k2 := Lib.hid k2
      clear hx hxl hk fa fb fc fd hw8
      go_wp2_with fail
      go_still_tail 6, (by kernel_rfl)
      still_call (k1.out _)
      repeat still_step
      refine wpStill_nil ?_
      change wpList _ _ _ _ _ wr.drew
      go_wp2_with fail
      refine (k2.out wr.drew hr).mono ?_
      rintro e w2 ⟨rfl, h2, g2⟩
      have g2 := Only.trans (Only.drew hgr) g2
      have h2 := Lib.hid h2
      go_wp2_with fail
      go_roundw
      case rel =>
        refine ⟨k + 1, x.extract 8 x.size, by rw [hxl'.out] at hlt; have := hk'.out; omega, rfl, ?_, h2.out, g2⟩
        rw [Lib.extract_data, hx'.out, List.drop_drop]
        exact List.take_of_length_le (by rw [List.length_drop, hxl'.out, ← hsz.out]; omega)
      case measure =>
        have e : (x.extract 8 x.size).size = x.size - 8 := by rw [ByteArray.size_extract]; omega
        show (x.extract 8 x.size).size < x.size
        rw [e]; omega
    · have m4 : wr.cell? ⟨g, 4, none⟩ = some (.string ⟨#[]⟩) := hr.cell 4
      have f4 := hr.free 4
      have hr := Lib.hid hr
      have hgr := Lib.hid hgr
      have hlt := Lib.hid hlt
      have hdec : decide ((8 : Int) ≤ (x.size : Int)) = false := decide_eq_false (by have := hlt.out; omega)
      clear hx hxl hk fa fb fc fd
      go_wp2_with fail
      go_end0
      obtain rfl : k = s.size / 8 := by have := hlt.out; have := hk'.out; have := hxl'.out; omega
      exact ⟨rfl, ⟨x, hx'.out, blk_put hr.out 4 _⟩, Only.put hgr.out 4 _⟩
end Go.Proofs.YtajlfmnjibgbaaaGreatDoor.Sip
/- SipHash: the sum of a Hash. -/
namespace Go.Proofs.YtajlfmnjibgbaaaGreatDoor.Sip
open Go.RowKit Mem

def rounds (v : V) : Nat → V
  | 0 => v
  | k + 1 => round (rounds v k)
set_option maxRecDepth 100000 in
theorem rounds_bd : ∀ (k : Nat) (v : V), Bd v → Bd (rounds v k)
  | 0, _, h => h
  | _ + 1, _, _ => round_lt _
set_option maxRecDepth 100000 in
theorem infoByte : (Tryz.prog.info? 5).map (fun i => (i.zero, i.size, i.bytes)) = some (some (.int .u8 0), 1, 1) := by kernel_rfl
set_option maxRecDepth 100000 in
theorem make8 (W : World) : (Instr.makeSlice 36 (.int .i64 8) (.int .i64 8)).run Tryz.prog W = .ok (.slice (some ⟨W.heap.size, 0, none⟩) 8 8) (W.alloc (.cells #[.int .u8 0, .int .u8 0, .int .u8 0, .int .u8 0, .int .u8 0, .int .u8 0, .int .u8 0, .int .u8 0] 5)) := by
  obtain ⟨i0, hi, hz0, hz1, hz2⟩ := info_parts infoByte
  have h := run_make (P := Tryz.prog) (w := W) 36 5 i0 (.int .u8 0) Tryz.underlying36 hi hz0 .i64 .i64 8 8 (by decide) (by decide) (by rw [hz2]; decide) (by decide)
  rw [hz1, show madeCells (Value.int .u8 0).cells (Int.toNat 8 * 1) = #[.int .u8 0, .int .u8 0, .int .u8 0, .int .u8 0, .int .u8 0, .int .u8 0, .int .u8 0, .int .u8 0] by kernel_rfl] at h
  exact h
/-- the first k of the bytes of x lie -/
def brow (x k : Nat) : List Value := (List.range 8).map fun i => .int .u8 (if i < k then ((x / 256 ^ i % 256 : Nat) : Int) else 0)
set_option maxRecDepth 100000 in
theorem brow_full (x j : Nat) (hj : j < 8) : (⟨brow x 8⟩ : Array Value)[j]? = some (.int .u8 (((bytes8 x)[j]'(by simpa [bytes8] using hj)).toNat : Int)) := by
  have h : j = 0 ∨ j = 1 ∨ j = 2 ∨ j = 3 ∨ j = 4 ∨ j = 5 ∨ j = 6 ∨ j = 7 := by omega
  rcases h with rfl | rfl | rfl | rfl | rfl | rfl | rfl | rfl <;> simp [brow, bytes8, List.range_succ]
set_option maxRecDepth 100000 in
theorem brow_at (x k : Nat) (hk : k < 8) : (⟨brow x k⟩ : Array Value)[k]? = some (.int .u8 0) := by
  have h : k = 0 ∨ k = 1 ∨ k = 2 ∨ k = 3 ∨ k = 4 ∨ k = 5 ∨ k = 6 ∨ k = 7 := by omega
  rcases h with rfl | rfl | rfl | rfl | rfl | rfl | rfl | rfl <;> simp [brow, List.range_succ]
set_option maxRecDepth 100000 in
theorem brow_step (x k : Nat) (hk : k < 8) (u : Value) (hu : u = .int .u8 ((x / 256 ^ k % 256 : Nat) : Int)) : (⟨brow x k⟩ : Array Value).setIfInBounds k u = ⟨brow x (k + 1)⟩ := by
  have h : k = 0 ∨ k = 1 ∨ k = 2 ∨ k = 3 ∨ k = 4 ∨ k = 5 ∨ k = 6 ∨ k = 7 := by omega
  subst hu
  rcases h with rfl | rfl | rfl | rfl | rfl | rfl | rfl | rfl <;> simp [brow, List.range_succ, Array.setIfInBounds]
set_option maxRecDepth 100000 in
theorem last_word (m n : Nat) (hm : m < 72057594037927936) : bits .or .u64 (m : Int) (IntKind.u64.wrap (IntKind.u64.wrap (n : Int) * 72057594037927936)) = ((m + n % 256 * 72057594037927936 : Nat) : Int) := by
  have h := or_high m (n % 256) 7 hm (by omega) (by omega)
  have e : IntKind.u64.wrap (IntKind.u64.wrap (n : Int) * 72057594037927936) = IntKind.u64.wrap (((n % 256 : Nat) : Int) * (256 ^ 7 : Nat)) := by
    rw [IntKind.wrap_u64, IntKind.wrap_u64, IntKind.wrap_u64]
    have : ((256 ^ 7 : Nat) : Int) = 72057594037927936 := by decide
    rw [this]
    omega
  rw [e, h, Nat.mul_comm]

set_option maxRecDepth 100000 in
set_option maxHeartbeats 1000000 in
theorem hsum_any (g : Nat) (v : V) (r : ByteArray) (n : Nat) (w0 : World) (h0 : Blk w0 g 202 ⟨words v ++ [.string r, .int .i64 (n : Int)]⟩) (hv : Bd v) (hr : r.size ≤ 7) (hn : n ≤ 9223372036854775807) :
    Calls Tryz.prog 126 #[.pointer (some ⟨g, 0, none⟩)] w0 fun e w' => e = .returned (.string ⟨(finish v (word r.data.toList + n % 256 * 72057594037927936)).toArray⟩) ∧ Below w0.heap.size w0 w' := by
  have k1 : ∀ W : World, Calls Tryz.prog 131 #[.string r] W fun e w' => e = .returned (.int .u64 (word r.data.toList : Nat)) ∧ w' = W := fun W => read_any r W (by omega)
  have hw7 : word r.data.toList < 72057594037927936 := by
    have h1 := word_lt r.data.toList
    have h2 := Nat.pow_le_pow_right (n := 256) (by omega) (show r.data.toList.length ≤ 7 by rw [← Lib.size_eq r]; exact hr)
    exact Nat.lt_of_lt_of_le h1 (Nat.le_trans h2 (by decide))
  generalize word r.data.toList = m at k1 hw7 ⊢
  have em := last_word m n hw7
  have hM : m + n % 256 * 72057594037927936 < 18446744073709551616 := by omega
  generalize m + n % 256 * 72057594037927936 = M at em hM ⊢
  have k2 := fun W (h : Blk W w0.heap.size 200 ⟨words v ++ []⟩) => take_any w0.heap.size 200 v M [] W h hv.1 hv.2.1 hv.2.2.1 hv.2.2.2 hM
  have bd := take_bd v M
  have ef : finish v M = bytes8 (fold4 (round (round (round (round ⟨(take v M).a, (take v M).b, uxor (take v M).c 255, (take v M).d⟩))))) := rfl
  rw [ef]
  clear ef hM
  generalize take v M = v2 at k2 bd ⊢
  obtain ⟨c3, hc3⟩ : ∃ z, z = uxor v2.c 255 := ⟨_, rfl⟩
  have ec3 : bits .xor .u64 (v2.c : Int) 255 = (c3 : Int) := by rw [hc3]; exact uxor_eq _ 255 bd.2.2.1 (by decide)
  have lc3 : c3 < 18446744073709551616 := by rw [hc3]; exact uxor_lt _ _
  rw [← hc3]
  have bd3 : Bd ⟨v2.a, v2.b, c3, v2.d⟩ := ⟨bd.1, bd.2.1, lc3, bd.2.2.2⟩
  clear hc3 bd lc3
  have bd3 := Lib.hid bd3
  have k1 := Lib.hid k1
  have k2 := Lib.hid k2
  have em := Lib.hid em
  have hr := Lib.hid hr
  have hn := Lib.hid hn
  have m0 : w0.cell? ⟨g, 0, none⟩ = some (.int .u64 (v.a : Int)) := h0.cell 0
  have m1 : w0.cell? ⟨g, 1, none⟩ = some (.int .u64 (v.b : Int)) := h0.cell 1
  have m2 : w0.cell? ⟨g, 2, none⟩ = some (.int .u64 (v.c : Int)) := h0.cell 2
  have m3 : w0.cell? ⟨g, 3, none⟩ = some (.int .u64 (v.d : Int)) := h0.cell 3
  have m4 : w0.cell? ⟨g, 4, none⟩ = some (.string r) := h0.cell 4
  have m5 : w0.cell? ⟨g, 5, none⟩ = some (.int .i64 (n : Int)) := h0.cell 5
  go_enter Tryz.func126, Tryz.ntmps126
  go_wp2_with fail
  obtain ⟨w1, hw⟩ : ∃ x, x = w0.alloc (.cells #[.int .u64 (v.a : Int), .int .u64 (v.b : Int), .int .u64 (v.c : Int), .int .u64 (v.d : Int)] 200) := ⟨_, rfl⟩
  rw [← hw]
  have q4 : w1.cell? ⟨g, 4, none⟩ = some (.string r) := by rw [hw]; exact (h0.alloc _).cell 4
  have q5 : w1.cell? ⟨g, 5, none⟩ = some (.int .i64 (n : Int)) := by rw [hw]; exact (h0.alloc _).cell 5
  have h1 : Blk w1 w0.heap.size 200 ⟨words v ++ []⟩ := by rw [hw]; exact Blk.new w0 _ _
  have b1 : Below w0.heap.size w0 w1 := by rw [hw]; exact (Below.refl _ w0).alloc (Nat.le_refl _) _
  clear hw m0 m1 m2 m3 m4 m5 h0
  go_still_tail 12, (by kernel_rfl)
  still_call (k1.out _)
  repeat still_step
  refine wpStill_nil ?_
  change wpList _ _ _ _ _ w1.drew
  go_wp2_with fail
  refine (k2.out w1.drew h1).mono ?_
  rintro e w2 ⟨rfl, h2, g2⟩
  have g2 : w1.grownBy w2 (some w0.heap.size) := Only.trans (Only.drew (Only.refl _ _)) g2
  have q2 : w2.cell? ⟨w0.heap.size, 2, none⟩ = some (.int .u64 (v2.c : Int)) := h2.cell 2
  have f2 := h2.free 2
  go_wp2_with fail
  obtain ⟨w3, hw⟩ : ∃ x, x = w2.setCell ⟨w0.heap.size, 2, none⟩ (.int .u64 (c3 : Int)) := ⟨_, rfl⟩
  rw [← hw]
  have h3 : Blk w3 w0.heap.size 200 ⟨words ⟨v2.a, v2.b, c3, v2.d⟩ ++ []⟩ := by rw [hw]; exact blk_put h2 2 _
  have g3 : w1.grownBy w3 (some w0.heap.size) := by rw [hw]; exact Only.put g2 2 _
  clear hw q2 f2 h2 g2 k2 k1 h1 q4 q5
  obtain ⟨v3, hv3⟩ : ∃ z, z = (⟨v2.a, v2.b, c3, v2.d⟩ : V) := ⟨_, rfl⟩
  rw [← hv3] at h3 bd3
  go_loopw [28] (fun y wr => ∃ k : Nat, k ≤ 4 ∧ y = .int .i64 (k : Int) ∧ Blk wr w0.heap.size 200 ⟨words (rounds v3 k) ++ []⟩ ∧ w1.grownBy wr (some w0.heap.size)) (fun y _ => 4 - (intOf y).toNat)
  case atStart => exact ⟨0, Nat.zero_le _, rfl, h3, g3⟩
  case round =>
    obtain ⟨k, hk, rfl, hr, hgr⟩ := hrel
    clear h3 g3
    obtain ⟨fa, fb, fc, fd⟩ := rounds_bd k v3 bd3.out
    by_cases hlt : k < 4
    · have k2 := Lib.hid (round_any w0.heap.size 200 (rounds v3 k) [] wr hr fa fb fc fd)
      clear fa fb fc fd
      go_wp2_with fail
      refine k2.out.mono ?_
      rintro e w4 ⟨rfl, h4, g4⟩
      have g4 := Only.trans hgr g4
      have h4 := Lib.hid h4
      go_wp2_with fail
      go_roundw
      case rel => exact ⟨k + 1, by omega, by go_num, h4.out, g4⟩
      case measure => simp [intOf]; omega
    · obtain rfl : k = 4 := by omega
      have e4 : rounds v3 4 = round (round (round (round ⟨v2.a, v2.b, c3, v2.d⟩))) := by rw [hv3]; rfl
      rw [e4] at hr fa fb fc fd
      generalize hv4 : round (round (round (round ⟨v2.a, v2.b, c3, v2.d⟩))) = v4 at hr fa fb fc fd
      have hv4' := Lib.hid hv4
      clear hv4 e4
      have m0 : wr.cell? ⟨w0.heap.size, 0, none⟩ = some (.int .u64 (v4.a : Int)) := hr.cell 0
      have m1 : wr.cell? ⟨w0.heap.size, 1, none⟩ = some (.int .u64 (v4.b : Int)) := hr.cell 1
      have m2 : wr.cell? ⟨w0.heap.size, 2, none⟩ = some (.int .u64 (v4.c : Int)) := hr.cell 2
      have m3 : wr.cell? ⟨w0.heap.size, 3, none⟩ = some (.int .u64 (v4.d : Int)) := hr.cell 3
      have x1 := uxor_eq v4.a v4.b fa fb
      have x2 := uxor_eq (uxor v4.a v4.b) v4.c (uxor_lt _ _) fc
      have x3 : bits .xor .u64 ((uxor (uxor v4.a v4.b) v4.c : Nat) : Int) (v4.d : Int) = ((fold4 v4 : Nat) : Int) := uxor_eq (uxor (uxor v4.a v4.b) v4.c) v4.d (uxor_lt _ _) fd
      have mk := make8 wr
      have xl : fold4 v4 < 18446744073709551616 := uxor_lt _ _
      obtain ⟨x, hx⟩ : ∃ z, z = fold4 v4 := ⟨_, rfl⟩
      rw [← hx] at xl x3
      have hv4x : fold4 (round (round (round (round ⟨v2.a, v2.b, c3, v2.d⟩)))) = x := by rw [hv4'.out, hx]
      have hv4x := Lib.hid hv4x
      clear hx
      go_wp2_with fail
      obtain ⟨w5, hw⟩ : ∃ z, z = wr.alloc (.cells #[.int .u8 0, .int .u8 0, .int .u8 0, .int .u8 0, .int .u8 0, .int .u8 0, .int .u8 0, .int .u8 0] 5) := ⟨_, rfl⟩
      rw [← hw]
      have h5 : Blk w5 wr.heap.size 5 ⟨brow x 0⟩ := by rw [hw]; exact Blk.new wr _ _
      have g5 : w1.grownBy w5 (some w0.heap.size) := by rw [hw]; exact Only.alloc hgr _
      have hs5 := hgr.size
      have b5 : Below w0.heap.size w0 w5 := b1.grown g5 b1.size (fun k hk => by injection hk; omega)
      have hB : w0.heap.size ≤ wr.heap.size := Nat.le_trans b1.size hs5
      clear hw mk m0 m1 m2 m3 x1 x2 x3 hr hgr fa fb fc fd
      generalize wr.heap.size = B at h5 hB ⊢
      clear hs5
      go_loopw [46] (fun y wq => ∃ k : Nat, k ≤ 8 ∧ y = .int .i64 (k : Int) ∧ Blk wq B 5 ⟨brow x k⟩ ∧ Below w0.heap.size w0 wq) (fun y _ => 8 - (intOf y).toNat)
      case atStart => exact ⟨0, Nat.zero_le _, rfl, h5, b5⟩
      case round =>
        obtain ⟨k, hk, rfl, hr, hb⟩ := hrel
        clear h5 g5 b5
        by_cases hlt8 : k = 8
        · subst hlt8
          have hl8 : (bytes8 x).length = 8 := by simp [bytes8]
          have hcv := run_convert_bytes_back (P := Tryz.prog) wr 36 9 5 ⟨B, 0, none⟩ 8 (bytes8 x) Tryz.underlying36 Tryz.underlying5 Tryz.underlying9 (fun j hj => by
            rw [add_lit, hr.cell, Nat.zero_add]
            exact brow_full x j (by omega))
          rw [hl8] at hcv
          clear hl8
          go_wp2_with fail
          go_ret
          rw [hv4x.out]
          exact ⟨rfl, hb⟩
        · have m : wr.cell? ⟨B, k, none⟩ = some (.int .u8 0) := (hr.cell k).trans (brow_at x k (by omega))
          have f := hr.free k
          have hstep : ∀ u, u = .int .u8 ((x / 256 ^ k % 256 : Nat) : Int) → Blk (wr.setCell ⟨B, k, none⟩ u) B 5 ⟨brow x (k + 1)⟩ := fun u hu => brow_step x k (by omega) u hu ▸ hr.put k u
          have hstep := Lib.hid hstep
          have hb := Lib.hid hb
          have hk8 : k = 0 ∨ k = 1 ∨ k = 2 ∨ k = 3 ∨ k = 4 ∨ k = 5 ∨ k = 6 ∨ k = 7 := by omega
          clear hr
          rcases hk8 with rfl | rfl | rfl | rfl | rfl | rfl | rfl | rfl
          all_goals go_wp2_with fail
          all_goals go_roundw
          case measure => simp [intOf]
          case measure => simp [intOf]
          case measure => simp [intOf]
          case measure => simp [intOf]
          case measure => simp [intOf]
          case measure => simp [intOf]
          case measure => simp [intOf]
          case measure => simp [intOf]
          case rel => exact ⟨1, by omega, rfl, hstep.out _ (congrArg (Value.int IntKind.u8) (by simp only [Nat.reducePow]; omega)), Below.setCell hb.out hB _⟩
          case rel => exact ⟨2, by omega, rfl, hstep.out _ (congrArg (Value.int IntKind.u8) (by simp only [Nat.reducePow]; omega)), Below.setCell hb.out hB _⟩
          case rel => exact ⟨3, by omega, rfl, hstep.out _ (congrArg (Value.int IntKind.u8) (by simp only [Nat.reducePow]; omega)), Below.setCell hb.out hB _⟩
          case rel => exact ⟨4, by omega, rfl, hstep.out _ (congrArg (Value.int IntKind.u8) (by simp only [Nat.reducePow]; omega)), Below.setCell hb.out hB _⟩
          case rel => exact ⟨5, by omega, rfl, hstep.out _ (congrArg (Value.int IntKind.u8) (by simp only [Nat.reducePow]; omega)), Below.setCell hb.out hB _⟩
          case rel => exact ⟨6, by omega, rfl, hstep.out _ (congrArg (Value.int IntKind.u8) (by simp only [Nat.reducePow]; omega)), Below.setCell hb.out hB _⟩
          case rel => exact ⟨7, by omega, rfl, hstep.out _ (congrArg (Value.int IntKind.u8) (by simp only [Nat.reducePow]; omega)), Below.setCell hb.out hB _⟩
          case rel => exact ⟨8, by omega, rfl, hstep.out _ (congrArg (Value.int IntKind.u8) (by simp only [Nat.reducePow]; omega)), Below.setCell hb.out hB _⟩
end Go.Proofs.YtajlfmnjibgbaaaGreatDoor.Sip
/- SipHash: the sum of bytes by a key, the program's and the document's. -/
namespace Go.Proofs.YtajlfmnjibgbaaaGreatDoor.Sip
open Go.RowKit Mem

set_option maxRecDepth 100000 in
set_option maxHeartbeats 1000000 in
theorem dsum_any (key s : ByteArray) (w0 : World) (hk : key.size = 16) (hs : s.size ≤ 9223372036854775807) :
    Calls Tryz.prog 112 #[.string key, .string s] w0 fun e w' => e = .returned (.tuple #[.string ⟨(sum key.data.toList s.data.toList).toArray⟩, .int .i64 0]) ∧ Below w0.heap.size w0 w' := by
  have hsum : sum key.data.toList s.data.toList = finish (feed (start (word (key.data.toList.take 8)) (word (key.data.toList.drop 8))) (s.size / 8) s.data.toList) (word (s.data.toList.drop (8 * (s.size / 8))) + s.size % 256 * 72057594037927936) := by
    rw [Lib.size_eq s]; rfl
  rw [hsum]
  have k1 := Lib.hid (fun W => new_key key W hk)
  have bd := start_bd (word (key.data.toList.take 8)) (word (key.data.toList.drop 8))
  generalize start (word (key.data.toList.take 8)) (word (key.data.toList.drop 8)) = v at k1 bd ⊢
  have bd2 := Lib.hid (feed_bd (s.size / 8) v s.data.toList bd)
  have hs := Lib.hid hs
  clear hk hsum
  go_enter Tryz.func112, Tryz.ntmps112
  go_wp2_with fail
  refine (k1.out w0).mono ?_
  rintro e w1 ⟨rfl, h1, b1⟩
  have hb := Lib.hid bd
  clear bd
  go_wp2_with fail
  refine (write_new w0.heap.size v s w1 h1 hb.out.1 hb.out.2.1 hb.out.2.2.1 hb.out.2.2.2 hs.out).mono ?_
  rintro e w2 ⟨rfl, ⟨r, hr, h2⟩, g2⟩
  have b2 : Below w0.heap.size w0 w2 := b1.grown g2 b1.size (fun k hk => by injection hk; omega)
  have hr7 : r.size ≤ 7 := by
    rw [Lib.size_eq r, hr, List.length_drop, ← Lib.size_eq s]; omega
  have k3 := hsum_any w0.heap.size (feed v (s.size / 8) s.data.toList) r s.size w2 h2 bd2.out hr7 hs.out
  rw [hr] at k3
  have k3 := Lib.hid k3
  clear hr hr7 h1 h2 g2
  go_wp2_with fail
  refine k3.out.mono ?_
  rintro e w3 ⟨rfl, b3⟩
  have b3 : Below w0.heap.size w0 w3 := b2.trans (b3.mono b2.size)
  go_wp2_with fail
  go_ret2
  exact ⟨rfl, b3⟩

set_option maxRecDepth 100000 in
theorem make_small (W : World) (p : Nat) (hp : p ≤ 7) : (Instr.makeSlice 36 (.int .i64 (p : Int)) (.int .i64 (p : Int))).run Tryz.prog W = .ok (.slice (some ⟨W.heap.size, 0, none⟩) p p) (W.alloc (.cells (Array.replicate p (.int .u8 0)) 5)) := by
  obtain ⟨i0, hi, hz0, hz1, hz2⟩ := info_parts infoByte
  have h := run_make (P := Tryz.prog) (w := W) 36 5 i0 (.int .u8 0) Tryz.underlying36 hi hz0 .i64 .i64 (p : Int) (p : Int) (by omega) (by omega) (by rw [hz2]; omega) (by omega)
  have hc : p = 0 ∨ p = 1 ∨ p = 2 ∨ p = 3 ∨ p = 4 ∨ p = 5 ∨ p = 6 ∨ p = 7 := by omega
  rw [hz1, Int.toNat_natCast, show madeCells (Value.int .u8 0).cells (p * 1) = Array.replicate p (.int .u8 0) by rcases hc with rfl | rfl | rfl | rfl | rfl | rfl | rfl | rfl <;> kernel_rfl] at h
  exact h
set_option maxRecDepth 100000 in
theorem zeros_str (W : World) (b p : Nat) (h : W.heap[b]? = some (.cells (Array.replicate p (.int .u8 0)) 5)) : (convert 36 9 (.slice (some ⟨b, 0, none⟩) p p)).run Tryz.prog W = .ok (.string ⟨(List.replicate p 0).toArray⟩) W := by
  have := run_convert_bytes_back (P := Tryz.prog) W 36 9 5 ⟨b, 0, none⟩ p (List.replicate p 0) Tryz.underlying36 Tryz.underlying5 Tryz.underlying9 (fun j hj => by
    rw [add_lit, cell_of_row W b _ _ _ _ h]
    simp at hj
    simp [hj])
  rwa [List.length_replicate] at this
set_option maxRecDepth 100000 in
theorem one_str (W : World) (b : Nat) (c : UInt8) (h : W.heap[b]? = some (.cells #[.int .u8 (c.toNat : Int)] 5)) : (convert 36 9 (.slice (some ⟨b, 0, none⟩) 1 1)).run Tryz.prog W = .ok (.string ⟨[c].toArray⟩) W :=
  run_convert_bytes_back (P := Tryz.prog) W 36 9 5 ⟨b, 0, none⟩ 1 [c] Tryz.underlying36 Tryz.underlying5 Tryz.underlying9 (fun j hj => by
    rw [add_lit, cell_of_row W b _ _ _ _ h]
    simp at hj
    simp [hj])

set_option maxRecDepth 100000 in
theorem bytes8_take (x j : Nat) (hj : j < 8) : (bytes8 x).take (j + 1) = (bytes8 x).take j ++ [UInt8.ofNat (x / 256 ^ j)] := by
  rw [List.take_add_one]
  congr 1
  simp [bytes8, hj]
set_option maxRecDepth 100000 in
theorem byte_of (n : Nat) : Lib.byteCells [UInt8.ofNat n] = [.int .u8 ((n : Int) % 256)] := by
  simp only [Lib.byteCells, List.map_cons, List.map_nil, UInt8.toNat_ofNat']
  congr 2
set_option maxRecDepth 100000 in
theorem size_push (w : World) (o : Obj) : (w.alloc o).heap.size = w.heap.size + 1 := by simp

set_option maxRecDepth 100000 in
set_option maxHeartbeats 1000000 in
theorem rsum_any (key s : ByteArray) (w0 : World) (hk : key.size = 16) (hs : s.size ≤ 9223372036854775790) :
    Calls Tryz.prog 100 #[.string key, .string s] w0 fun e w' => e = .returned (.tuple #[.string ⟨(sum key.data.toList s.data.toList).toArray⟩, .int .i64 0]) ∧ Below w0.heap.size w0 w' := by
  have k1 : ∀ W : World, Calls Tryz.prog 113 #[.string (key.extract 0 8)] W fun e w' => e = .returned (.int .u64 (word (key.data.toList.take 8) : Nat)) ∧ w' = W := by
    intro W
    have := rword_any (key.extract 0 8) W (key_left key hk).2
    rwa [(key_left key hk).1] at this
  have k2 : ∀ W : World, Calls Tryz.prog 113 #[.string (key.extract 8 16)] W fun e w' => e = .returned (.int .u64 (word (key.data.toList.drop 8) : Nat)) ∧ w' = W := by
    intro W
    have := rword_any (key.extract 8 16) W (key_right key hk).2
    rwa [(key_right key hk).1] at this
  have bk : word (key.data.toList.take 8) < 18446744073709551616 := word8_lt _ (by rw [List.length_take]; omega)
  have bl : word (key.data.toList.drop 8) < 18446744073709551616 := word8_lt _ (by rw [List.length_drop, ← Lib.size_eq key]; omega)
  have hsum : sum key.data.toList s.data.toList = finish (feed (start (word (key.data.toList.take 8)) (word (key.data.toList.drop 8))) (s.size / 8) s.data.toList) (word (s.data.toList.drop (8 * (s.size / 8))) + s.size % 256 * 72057594037927936) := by
    rw [Lib.size_eq s]; rfl
  rw [hsum]
  clear hsum
  generalize word (key.data.toList.take 8) = k at k1 bk ⊢
  generalize word (key.data.toList.drop 8) = l at k2 bl ⊢
  have e1 : bits .xor .u64 (k : Int) 8317987319222330741 = ((uxor k 0x736f6d6570736575 : Nat) : Int) := uxor_eq k 0x736f6d6570736575 bk (by decide)
  have e2 : bits .xor .u64 (l : Int) 7237128888997146477 = ((uxor l 0x646f72616e646f6d : Nat) : Int) := uxor_eq l 0x646f72616e646f6d bl (by decide)
  have e3 : bits .xor .u64 (k : Int) 7816392313619706465 = ((uxor k 0x6c7967656e657261 : Nat) : Int) := uxor_eq k 0x6c7967656e657261 bk (by decide)
  have e4 : bits .xor .u64 (l : Int) 8387220255154660723 = ((uxor l 0x7465646279746573 : Nat) : Int) := uxor_eq l 0x7465646279746573 bl (by decide)
  have bd := start_bd k l
  have hsz : start k l = ⟨uxor k 0x736f6d6570736575, uxor l 0x646f72616e646f6d, uxor k 0x6c7967656e657261, uxor l 0x7465646279746573⟩ := rfl
  rw [hsz] at bd ⊢
  clear hsz
  generalize uxor k 0x736f6d6570736575 = a at e1 bd ⊢
  generalize uxor l 0x646f72616e646f6d = b at e2 bd ⊢
  generalize uxor k 0x6c7967656e657261 = c at e3 bd ⊢
  generalize uxor l 0x7465646279746573 = d at e4 bd ⊢
  have bd := Lib.hid bd
  have hs := Lib.hid hs
  have k1' := Lib.hid k1
  have k2' := Lib.hid k2
  clear bk bl k1 k2
  go_enter Tryz.func100, Tryz.ntmps100
  go_wp2_with fail
  refine wp_region_quiet_lit (by kernel_rfl) (by kernel_rfl) ?_
  quiet_step (fail)
  quiet_step (fail)
  quiet_step (exact Calls.quiet_of_same (k1'.out _))
  quiet_step (fail)
  quiet_step (fail)
  quiet_step (exact Calls.quiet_of_same (k2'.out _))
  quiet_step (fail)
  quiet_step (fail)
  refine wpQuiet_nil ?_
  intro w1 hw'
  have b1 : Below w0.heap.size w0 w1 := by obtain ⟨nq, hw''⟩ := hw'; rw [hw'']; exact below_drewN (Below.refl _ _) nq
  have s1 : w1.heap.size = w0.heap.size := by obtain ⟨nq, hw''⟩ := hw'; rw [hw'']; rfl
  clear hw'
  go_wp2_with fail
  obtain ⟨w2, hw⟩ : ∃ x, x = w1.alloc (.cells #[.int .u64 (a : Int), .int .u64 (b : Int), .int .u64 (c : Int), .int .u64 (d : Int)] 178) := ⟨_, rfl⟩
  rw [← hw]
  have h2 : Blk w2 w0.heap.size 178 #[.int .u64 (a : Int), .int .u64 (b : Int), .int .u64 (c : Int), .int .u64 (d : Int)] := by rw [hw, ← s1]; exact Blk.new w1 _ _
  have b2 : Below w0.heap.size w0 w2 := by rw [hw]; exact b1.alloc (by omega) _
  have s2 := h2.lt
  clear hw s1 b1
  obtain ⟨p, hp⟩ : ∃ z, z = 7 - s.size % 8 := ⟨_, rfl⟩
  obtain ⟨cc, hcc⟩ : ∃ z, z = UInt8.ofNat (s.size % 256) := ⟨_, rfl⟩
  have hp7 : p ≤ 7 := by omega
  have ep : 7 - (s.size : Int) % 8 = (p : Int) := by omega
  have ec : (s.size : Int) % 256 = (cc.toNat : Int) := by rw [hcc, UInt8.toNat_ofNat']; omega
  have hpad : pads s.size = List.replicate p 0 ++ [cc] := by rw [hp, hcc]; rfl
  obtain ⟨R, hR⟩ : ∃ z, z = Obj.cells (Array.replicate p (.int .u8 0)) 5 := ⟨_, rfl⟩
  obtain ⟨O, hO⟩ : ∃ z, z = Obj.cells #[.int .u8 (cc.toNat : Int)] 5 := ⟨_, rfl⟩
  obtain ⟨PB, hPB⟩ : ∃ z, z = (⟨(List.replicate p 0).toArray⟩ : ByteArray) := ⟨_, rfl⟩
  obtain ⟨CB, hCB⟩ : ∃ z, z = (⟨[cc].toArray⟩ : ByteArray) := ⟨_, rfl⟩
  have hPs : PB.size ≤ 7 := by rw [hPB]; simpa [ByteArray.size] using hp7
  have hCs : CB.size = 1 := by rw [hCB]; rfl
  have oR : ∀ W : World, W.heap[w2.heap.size]? = some R → (convert 36 9 (.slice (some ⟨w2.heap.size, 0, none⟩) p p)).run Tryz.prog W = .ok (.string PB) W := fun W h => by rw [hPB]; exact zeros_str W _ p (h.trans (by rw [hR]))
  have oR1 : ∀ W : World, W.heap[w2.heap.size + 1]? = some R → (convert 36 9 (.slice (some ⟨w2.heap.size + 1, 0, none⟩) p p)).run Tryz.prog W = .ok (.string PB) W := fun W h => by rw [hPB]; exact zeros_str W _ p (h.trans (by rw [hR]))
  have oO : ∀ W : World, W.heap[w2.heap.size]? = some O → (convert 36 9 (.slice (some ⟨w2.heap.size, 0, none⟩) 1 1)).run Tryz.prog W = .ok (.string CB) W := fun W h => by rw [hCB]; exact one_str W _ cc (h.trans (by rw [hO]))
  have oO1 : ∀ W : World, W.heap[w2.heap.size + 1]? = some O → (convert 36 9 (.slice (some ⟨w2.heap.size + 1, 0, none⟩) 1 1)).run Tryz.prog W = .ok (.string CB) W := fun W h => by rw [hCB]; exact one_str W _ cc (h.trans (by rw [hO]))
  have M1 : (Instr.makeSlice 36 (.int .i64 (p : Int)) (.int .i64 (p : Int))).run Tryz.prog w2.drew = .ok (.slice (some ⟨w2.heap.size, 0, none⟩) p p) (w2.alloc R).drew := by rw [hR]; exact make_small w2.drew p hp7
  have M2 : (Instr.makeSlice 36 (.int .i64 (p : Int)) (.int .i64 (p : Int))).run Tryz.prog (w2.alloc O).drew = .ok (.slice (some ⟨w2.heap.size + 1, 0, none⟩) p p) ((w2.alloc O).alloc R).drew := by
    rw [hR]
    have h := make_small (w2.alloc O).drew p hp7
    rw [show (w2.alloc O).drew.heap.size = w2.heap.size + 1 from size_push w2 O] at h
    exact h
  have R1 := oR (w2.alloc R).drew (heap_alloc_new w2 R)
  have R2 := oR ((w2.alloc R).alloc O).drew ((Below.heap_alloc _ O _ (by simp)).trans (heap_alloc_new w2 R))
  have R3 := oR1 ((w2.alloc O).alloc R).drew (size_push w2 O ▸ heap_alloc_new (w2.alloc O) R)
  have O1 := oO (w2.alloc O).drew (heap_alloc_new w2 O)
  have O2 := oO ((w2.alloc O).alloc R).drew ((Below.heap_alloc _ R _ (by simp)).trans (heap_alloc_new w2 O))
  have O3 := oO1 ((w2.alloc R).alloc O).drew (size_push w2 R ▸ heap_alloc_new (w2.alloc R) O)
  have bW1 : Below w2.heap.size w2 ((w2.alloc O).alloc R).drew := (((Below.refl _ w2).alloc (Nat.le_refl _) O).alloc (by simp) R).drew
  have bW2 : Below w2.heap.size w2 ((w2.alloc R).alloc O).drew := (((Below.refl _ w2).alloc (Nat.le_refl _) R).alloc (by simp) O).drew
  have hall : s ++ (PB ++ CB) = ⟨(s.data.toList ++ pads s.size).toArray⟩ := by
    rw [hpad, hPB, hCB]
    obtain ⟨⟨l⟩⟩ := s
    simp only [ByteArray.ext_iff, ByteArray.data_append]
    simp
  subst hO
  have hs0 := hs.out
  clear oR oR1 oO oO1 hp hcc hpad hR hPB hCB
  have hall := Lib.hid hall
  have bW1 := Lib.hid bW1
  have bW2 := Lib.hid bW2
  go_upto_region 6 with fail
  go_cut [1] (fun s1 wx => s1 = .string ⟨(s.data.toList ++ pads s.size).toArray⟩ ∧ Below w2.heap.size w2 wx)
  case first =>
    go_region
    all_goals (go_wp2_with fail; go_meet; first | exact ⟨rfl, bW1.out⟩ | exact ⟨rfl, bW2.out⟩)
  case rest =>
  obtain ⟨rfl, b3⟩ := hcut
  have h3 : Blk _ w0.heap.size 178 #[.int .u64 (a : Int), .int .u64 (b : Int), .int .u64 (c : Int), .int .u64 (d : Int)] := h2.below b3 s2
  have b3 : Below w0.heap.size w0 _ := b2.trans (b3.mono b2.size)
  clear M1 M2 R1 R2 R3 O1 O2 O3 hall ep ec hs0 hp7 h2 b2 bW1 bW2 hPs hCs
  have hn8 := pads_length s.size
  have hlen := Lib.size_eq s
  obtain ⟨T, hT⟩ : ∃ z, z = (⟨(s.data.toList ++ pads s.size).toArray⟩ : ByteArray) := ⟨_, rfl⟩
  rw [← hT]
  have hTl : T.data.toList = s.data.toList ++ pads s.size := by rw [hT]
  have hTs : T.size = 8 * (s.size / 8 + 1) := by rw [Lib.size_eq T, hTl, List.length_append, ← hlen, hn8]; omega
  have hq : 8 * (s.size / 8 + 1) ≤ 9223372036854775800 := by have := hs.out; omega
  have hfeed := feed_pads ⟨a, b, c, d⟩ s.data.toList
  rw [← hlen, ← hTl] at hfeed
  obtain ⟨q, hqe⟩ : ∃ z, z = s.size / 8 + 1 := ⟨_, rfl⟩
  rw [← hqe] at hTs hq hfeed
  have hfeed := Lib.hid hfeed
  have hTs' := Lib.hid hTs
  have hT' := Lib.hid hT
  clear hn8 hlen hT hTl hqe hTs
  go_wp2_with fail
  go_loopw [10] (fun y wr => ∃ k : Nat, k ≤ q ∧ y = .int .i64 ((8 * k : Nat) : Int) ∧ Blk wr w0.heap.size 178 ⟨words (feed ⟨a, b, c, d⟩ k T.data.toList)⟩ ∧ Below w0.heap.size w0 wr) (fun y _ => 8 * q - (intOf y).toNat)
  case atStart => exact ⟨0, Nat.zero_le _, rfl, h3, b3⟩
  case round =>
    obtain ⟨k, hk, rfl, hr, hb⟩ := hrel
    clear h3 b3
    obtain ⟨fa, fb, fc, fd⟩ := feed_bd k ⟨a, b, c, d⟩ T.data.toList bd.out
    have hnx : feed ⟨a, b, c, d⟩ (k + 1) T.data.toList = take (feed ⟨a, b, c, d⟩ k T.data.toList) (word ((T.data.toList.drop (8 * k)).take 8)) := feed_succ _ _ _
    generalize hv : feed ⟨a, b, c, d⟩ k T.data.toList = v at hr fa fb fc fd hnx
    replace hv := Lib.hid hv
    by_cases hlt : k < q
    · obtain ⟨j, hj⟩ : ∃ z, z = 8 * k := ⟨_, rfl⟩
      have hjT : j + 8 ≤ T.size := by rw [hj, hTs'.out]; omega
      have hT63 : T.size ≤ 9223372036854775800 := by rw [hTs'.out]; exact hq
      have hw8 : word ((T.data.toList.drop j).take 8) < 18446744073709551616 := word8_lt _ (by rw [List.length_take]; omega)
      have kw : ∀ W : World, Calls Tryz.prog 113 #[.string (T.extract j (j + 8))] W fun e w' => e = .returned (.int .u64 (word ((T.data.toList.drop j).take 8) : Nat)) ∧ w' = W := by
        intro W
        have := rword_any (T.extract j (j + 8)) W (by rw [ByteArray.size_extract]; omega)
        rwa [Lib.extract_data, show j + 8 - j = 8 by omega] at this
      rw [← hj] at hnx ⊢
      generalize word ((T.data.toList.drop j).take 8) = m at hw8 kw hnx
      replace kw := Lib.hid kw
      replace hj := Lib.hid hj
      replace hnx := Lib.hid hnx
      replace hb := Lib.hid hb
      have m0 : wr.cell? ⟨w0.heap.size, 0, none⟩ = some (.int .u64 (v.a : Int)) := hr.cell 0
      have m1 : wr.cell? ⟨w0.heap.size, 1, none⟩ = some (.int .u64 (v.b : Int)) := hr.cell 1
      have m2 : wr.cell? ⟨w0.heap.size, 2, none⟩ = some (.int .u64 (v.c : Int)) := hr.cell 2
      have m3 : wr.cell? ⟨w0.heap.size, 3, none⟩ = some (.int .u64 (v.d : Int)) := hr.cell 3
      have f3 := hr.free 3
      obtain ⟨d1, hd1⟩ : ∃ z, z = uxor v.d m := ⟨_, rfl⟩
      have ed1 : bits .xor .u64 (v.d : Int) (m : Int) = (d1 : Int) := by rw [hd1]; exact uxor_eq _ _ fd hw8
      have ld1 : d1 < 18446744073709551616 := by rw [hd1]; exact uxor_lt _ _
      replace hd1 := Lib.hid hd1
      clear hk fd
      go_wp2_with fail
      refine (kw.out wr).mono ?_
      rintro e w5 ⟨rfl, rfl⟩
      go_wp2_with fail
      obtain ⟨w6, hw6⟩ : ∃ z, z = w5.setCell ⟨w0.heap.size, 3, none⟩ (.int .u64 (d1 : Int)) := ⟨_, rfl⟩
      rw [← hw6]
      have h6 : Blk w6 w0.heap.size 178 ⟨words ⟨v.a, v.b, v.c, d1⟩⟩ := by rw [hw6]; exact hr.put 3 _
      have b6 : Below w0.heap.size w0 w6 := by rw [hw6]; exact Below.setCell hb.out (Nat.le_refl _) _
      have r1 := rround_any ⟨v.a, v.b, v.c, d1⟩ w6 fa fb fc ld1
      have l1 := round_lt ⟨v.a, v.b, v.c, d1⟩
      clear hw6 m0 m1 m2 m3 f3 hr hb
      refine r1.mono ?_
      rintro e w7 ⟨rfl, b7⟩
      have h7 : Blk w7 w0.heap.size 178 ⟨words ⟨v.a, v.b, v.c, d1⟩⟩ := h6.below b7 h6.lt
      replace b7 : Below w0.heap.size w0 w7 := b6.trans (b7.mono b6.size)
      clear h6 b6 r1
      go_wp2_with fail
      have r2 := rround_any (round ⟨v.a, v.b, v.c, d1⟩) w7 l1.1 l1.2.1 l1.2.2.1 l1.2.2.2
      have l2 := round_lt (round ⟨v.a, v.b, v.c, d1⟩)
      have hz : take v m = ⟨uxor (round (round ⟨v.a, v.b, v.c, d1⟩)).a m, (round (round ⟨v.a, v.b, v.c, d1⟩)).b, (round (round ⟨v.a, v.b, v.c, d1⟩)).c, (round (round ⟨v.a, v.b, v.c, d1⟩)).d⟩ := by rw [hd1.out]; rfl
      generalize round (round ⟨v.a, v.b, v.c, d1⟩) = z at r2 l2 hz
      unfold vVal at r2 ⊢
      obtain ⟨a1, ha1⟩ : ∃ x, x = uxor z.a m := ⟨_, rfl⟩
      have ea1 : bits .xor .u64 (z.a : Int) (m : Int) = (a1 : Int) := by rw [ha1]; exact uxor_eq _ _ l2.1 hw8
      rw [← ha1] at hz
      replace hz := Lib.hid hz
      clear ha1
      refine r2.mono ?_
      rintro e w8 ⟨rfl, b8⟩
      have h8 : Blk w8 w0.heap.size 178 ⟨words ⟨v.a, v.b, v.c, d1⟩⟩ := h7.below b8 h7.lt
      replace b8 : Below w0.heap.size w0 w8 := b7.trans (b8.mono b7.size)
      have m0 : w8.cell? ⟨w0.heap.size, 0, none⟩ = some (.int .u64 (v.a : Int)) := h8.cell 0
      have m1 : w8.cell? ⟨w0.heap.size, 1, none⟩ = some (.int .u64 (v.b : Int)) := h8.cell 1
      have m2 : w8.cell? ⟨w0.heap.size, 2, none⟩ = some (.int .u64 (v.c : Int)) := h8.cell 2
      have m3 : w8.cell? ⟨w0.heap.size, 3, none⟩ = some (.int .u64 (d1 : Int)) := h8.cell 3
      have f0 := h8.free 0
      have f1 := h8.free 1
      have f2 := h8.free 2
      have f3 := h8.free 3
      clear h7 b7 r2
      replace h8 := Lib.hid h8
      replace b8 := Lib.hid b8
      go_wp2_with fail
      refine ⟨⟨k + 1, by omega, ?_, ?_, ?_⟩, ?_⟩
      · rw [hj.out]
        exact congrArg (Value.int IntKind.i64) (by omega)
      · rw [hnx.out, hz.out]
        exact ((((h8.out.put 0 _).put 1 _).put 2 _).put 3 _).put 0 _
      · exact Below.setCell (Below.setCell (Below.setCell (Below.setCell (Below.setCell b8.out (Nat.le_refl _) _) (Nat.le_refl _) _) (Nat.le_refl _) _) (Nat.le_refl _) _) (Nat.le_refl _) _
      · have := hj.out
        simp [intOf]
        omega
    · obtain rfl : k = q := by omega
      have hfin : finish (feed ⟨a, b, c, d⟩ (s.size / 8) s.data.toList) (word (s.data.toList.drop (8 * (s.size / 8))) + s.size % 256 * 72057594037927936) = bytes8 (fold4 (round (round (round (round ⟨v.a, v.b, uxor v.c 255, v.d⟩))))) := by
        have h := hfeed.out
        rw [hv.out] at h
        rw [h]
        rfl
      replace hfin := Lib.hid hfin
      clear hnx
      have hT : T.size = 8 * k := hTs'.out
      have m0 : wr.cell? ⟨w0.heap.size, 0, none⟩ = some (.int .u64 (v.a : Int)) := hr.cell 0
      have m1 : wr.cell? ⟨w0.heap.size, 1, none⟩ = some (.int .u64 (v.b : Int)) := hr.cell 1
      have m2 : wr.cell? ⟨w0.heap.size, 2, none⟩ = some (.int .u64 (v.c : Int)) := hr.cell 2
      have m3 : wr.cell? ⟨w0.heap.size, 3, none⟩ = some (.int .u64 (v.d : Int)) := hr.cell 3
      have f2 := hr.free 2
      obtain ⟨c1, hc1⟩ : ∃ z, z = uxor v.c 255 := ⟨_, rfl⟩
      have ec1 : bits .xor .u64 (v.c : Int) 255 = (c1 : Int) := by rw [hc1]; exact uxor_eq _ 255 fc (by decide)
      have lc1 : c1 < 18446744073709551616 := by rw [hc1]; exact uxor_lt _ _
      rw [← hc1] at hfin
      clear hc1
      replace hb := Lib.hid hb
      go_wp2_with fail
      obtain ⟨w5, hw5⟩ : ∃ z, z = wr.setCell ⟨w0.heap.size, 2, none⟩ (.int .u64 (c1 : Int)) := ⟨_, rfl⟩
      rw [← hw5]
      have h5 : Blk w5 w0.heap.size 178 ⟨words ⟨v.a, v.b, c1, v.d⟩⟩ := by rw [hw5]; exact hr.put 2 _
      have b5 : Below w0.heap.size w0 w5 := by rw [hw5]; exact Below.setCell hb.out (Nat.le_refl _) _
      clear hw5 m0 m1 m2 m3 f2 hr hb
      have r1 := rround_any ⟨v.a, v.b, c1, v.d⟩ w5 fa fb lc1 fd
      have l1 := round_lt ⟨v.a, v.b, c1, v.d⟩
      generalize hx1 : round ⟨v.a, v.b, c1, v.d⟩ = x1 at r1 l1
      refine r1.mono ?_
      rintro e w6 ⟨rfl, b6⟩
      have h6 := h5.below b6 h5.lt
      replace b6 : Below w0.heap.size w0 w6 := b5.trans (b6.mono b5.size)
      clear h5 b5 r1
      replace hx1 := Lib.hid hx1
      go_wp2_with fail
      have r2 := rround_any x1 w6 l1.1 l1.2.1 l1.2.2.1 l1.2.2.2
      have l2 := round_lt x1
      generalize hx2 : round x1 = x2 at r2 l2
      refine r2.mono ?_
      rintro e w7 ⟨rfl, b7⟩
      have h7 := h6.below b7 h6.lt
      replace b7 : Below w0.heap.size w0 w7 := b6.trans (b7.mono b6.size)
      clear h6 b6 r2
      replace hx2 := Lib.hid hx2
      go_wp2_with fail
      have r3 := rround_any x2 w7 l2.1 l2.2.1 l2.2.2.1 l2.2.2.2
      have l3 := round_lt x2
      generalize hx3 : round x2 = x3 at r3 l3
      refine r3.mono ?_
      rintro e w8 ⟨rfl, b8⟩
      have h8 := h7.below b8 h7.lt
      replace b8 : Below w0.heap.size w0 w8 := b7.trans (b8.mono b7.size)
      clear h7 b7 r3
      replace hx3 := Lib.hid hx3
      go_wp2_with fail
      have r4 := rround_any x3 w8 l3.1 l3.2.1 l3.2.2.1 l3.2.2.2
      have l4 := round_lt x3
      generalize hx4 : round x3 = x4 at r4 l4
      refine r4.mono ?_
      rintro e w9 ⟨rfl, b9⟩
      have h9 := h8.below b9 h8.lt
      replace b9 : Below w0.heap.size w0 w9 := b8.trans (b9.mono b8.size)
      clear h8 b8 r4
      replace hx4 := Lib.hid hx4
      unfold vVal
      have m0 : w9.cell? ⟨w0.heap.size, 0, none⟩ = some (.int .u64 (v.a : Int)) := h9.cell 0
      have m1 : w9.cell? ⟨w0.heap.size, 1, none⟩ = some (.int .u64 (v.b : Int)) := h9.cell 1
      have m2 : w9.cell? ⟨w0.heap.size, 2, none⟩ = some (.int .u64 (c1 : Int)) := h9.cell 2
      have m3 : w9.cell? ⟨w0.heap.size, 3, none⟩ = some (.int .u64 (v.d : Int)) := h9.cell 3
      have f0 := h9.free 0
      have f1 := h9.free 1
      have f2 := h9.free 2
      have f3 := h9.free 3
      replace h9 := Lib.hid h9
      replace b9 := Lib.hid b9
      obtain ⟨x, hx⟩ : ∃ z, z = fold4 x4 := ⟨_, rfl⟩
      have y1 := uxor_eq x4.a x4.b l4.1 l4.2.1
      have y2 := uxor_eq (uxor x4.a x4.b) x4.c (uxor_lt _ _) l4.2.2.1
      have y3 : bits .xor .u64 ((uxor (uxor x4.a x4.b) x4.c : Nat) : Int) (x4.d : Int) = (x : Int) := by rw [hx]; exact uxor_eq (uxor (uxor x4.a x4.b) x4.c) x4.d (uxor_lt _ _) l4.2.2.2
      have hxl : x < 18446744073709551616 := by rw [hx]; exact uxor_lt _ _
      have hfx : finish (feed ⟨a, b, c, d⟩ (s.size / 8) s.data.toList) (word (s.data.toList.drop (8 * (s.size / 8))) + s.size % 256 * 72057594037927936) = bytes8 x := by
        rw [hfin.out, hx1.out, hx2.out, hx3.out, hx4.out, hx]
      replace hfx := Lib.hid hfx
      clear hx l1 l2 l3 l4
      go_wp2_with fail
      obtain ⟨w10, hw⟩ : ∃ z, z = ((((w9.setCell ⟨w0.heap.size, 0, none⟩ (.int .u64 (x4.a : Int))).setCell ⟨w0.heap.size, 1, none⟩ (.int .u64 (x4.b : Int))).setCell ⟨w0.heap.size, 2, none⟩ (.int .u64 (x4.c : Int))).setCell ⟨w0.heap.size, 3, none⟩ (.int .u64 (x4.d : Int))) := ⟨_, rfl⟩
      have hs10 : w9.heap.size = w10.heap.size := by rw [hw]; simp [World.setCell]
      rw [← hw, hs10]
      have b10 : Below w0.heap.size w0 w10 := by rw [hw]; exact Below.setCell (Below.setCell (Below.setCell (Below.setCell b9.out (Nat.le_refl _) _) (Nat.le_refl _) _) (Nat.le_refl _) _) (Nat.le_refl _) _
      have o10 : (w10.alloc (.cells #[] 5)).ownsRow w0.heap.size 5 1 (.slice (some ⟨w10.heap.size, 0, none⟩) 0 0) 0 (Lib.byteCells ((bytes8 x).take 0)) := World.ownsRow_made w10 #[] 0 b10.size (by decide) rfl
      have b11 : Below w0.heap.size w0 (w10.alloc (.cells #[] 5)) := b10.alloc b10.size _
      clear hw hs10 b10 m0 m1 m2 m3 f0 f1 f2 f3 y1 y2 y3 hT
      obtain ⟨i0, hi, hz0, hz1, hz2⟩ := info_parts infoByte
      go_loopw [12, 13, 14] (fun y bv i wq => ∃ (j xx : Nat), j ≤ 8 ∧ xx < 18446744073709551616 ∧ xx = x / 256 ^ j ∧ y = .int .u64 (xx : Int) ∧ i = .int .i64 (j : Int) ∧ wq.ownsRow w0.heap.size 5 1 bv j (Lib.byteCells ((bytes8 x).take j)) ∧ Below w0.heap.size w0 wq) (fun _ _ i _ => 8 - (intOf i).toNat)
      case atStart => exact ⟨0, x, by omega, hxl, by simp, rfl, rfl, o10, b11⟩
      case round =>
        obtain ⟨j, xx, hj8, hxx, hxe, rfl, rfl, hown, hb⟩ := hrel
        clear o10 b11
        replace hxe := Lib.hid hxe
        have hlw : w0.heap.size ≤ wr.heap.size := hb.size
        by_cases hlt : j < 8
        · go_wp2_with (first
            | (at_builtin; refine wpList_append_own _ rfl (.tmp 98) (.tmp 102) _ rfl w0.heap.size 5 i0 (.int .u8 0) 1 1 Tryz.underlying36 hi hz0 hz1 hz2 rfl (by decide) u13 j _ rfl (hown.alloc _) ⟨wr.heap.size, 0, none⟩ 1 1 [.int .u8 ((xx : Int) % 256)] rfl rfl (cell_one_new _ _ _) (by simp [Value.oneCell']) (by unfold maxLen; omega) (by omega) (by simp; omega) ?_; intro v1 w11 hown1 hg1 hn1))
          refine ⟨⟨j + 1, xx / 256, by omega, by omega, ?_, rfl, rfl, ?_, ?_⟩, ?_⟩
          · rw [hxe.out, Nat.div_div_eq_div_mul, Nat.pow_succ]
          · rw [bytes8_take x j hlt, ← hxe.out, Lib.byteCells_append, byte_of]
            exact hown1
          · exact (hb.alloc hlw _).grown hg1 (by simp; omega) (fun k hk => (hown.lt k hk).1)
          · simp [intOf]; omega
        · obtain rfl : j = 8 := by omega
          have ht8 : (bytes8 x).take 8 = bytes8 x := List.take_of_length_le (by simp [bytes8])
          rw [ht8] at hown
          obtain ⟨g, cap, rfl, _, _⟩ := hown.form (by omega)
          have hl8 : (bytes8 x).length = 8 := by simp [bytes8]
          have hcv := run_convert_bytes_back (P := Tryz.prog) wr 36 9 5 ⟨g, 0, none⟩ cap (bytes8 x) Tryz.underlying36 Tryz.underlying5 Tryz.underlying9 (fun j hj => hown.cells (g := g) rfl j _ (by simp [Lib.byteCells, List.getElem?_eq_getElem hj]))
          rw [hl8] at hcv
          clear ht8 hl8 hown
          go_wp2_with fail
          go_ret2
          rw [hfx.out]
          exact ⟨rfl, hb⟩
end Go.Proofs.YtajlfmnjibgbaaaGreatDoor.Sip

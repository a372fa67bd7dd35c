/- The small functions of package tables: bit, blob, num, text, readBlob. -/
import Derived.Test.YtaihpnmojiagnaaGreatDoorTableSpecB
import Derived.Test.YtaihpnmojiagnaaGreatDoorWireWalkE
import Derived.Deep.RegionHeld3
namespace Go.Proofs.YtaihpnmojiagnaaGreatDoor.Table
open Go.RowKit Mem Wire

/-- the one result lies in memory -/
theorem results_row {P : Program} {fn : Func} {p : Tmp} {ty : TypeId} (h : fn.results = #[.cell p ty]) (tmps : Array Value) (w : World) (g : Nat) (t : TypeId) (cs : Array Value) (fr : Nat × Nat) (d : TypeDesc)
    (hp : tmps.getD p undef = .pointer (some ⟨g, 0, none⟩)) (hg : w.heap[g]? = some (.cells cs t fr))
    (hu : P.underlying ty = some d) (hd : (match d with | .struct _ | .array _ _ => true | _ => false) = true) (hi : (P.info? ty).map (·.size) = some cs.size) :
    (results fn tmps).run P w = .ok (.agg cs) w := by
  have hp' : tmps[p]?.getD undef = .pointer (some ⟨g, 0, none⟩) := by simpa using hp
  simp [results, h, hp', asAddr, run_loadVar_row w g t ty cs fr d hg hu hd hi]

theorem beq_beq (r s : Int) : ((r == 0) = (s == 0)) = (r = 0 ↔ s = 0) := by
  apply propext
  rw [Bool.eq_iff_iff, beq_iff_eq, beq_iff_eq]
def blobV (r s : Int) : Value := .agg #[.int .i64 r, .int .i64 s]

set_option maxRecDepth 100000 in
set_option maxHeartbeats 2000000 in
theorem bit_any (b : Bool) (w : World) : Calls Tryz.prog 46 #[.bool b] w fun e w' => e = .returned (.int .i64 (bitOf b)) ∧ w' = w := by
  cases b
  all_goals go_enter Tryz.func46, Tryz.ntmps46
  all_goals go_wp2_with fail
  all_goals go_ret
  all_goals exact ⟨rfl, rfl⟩

set_option maxRecDepth 100000 in
set_option maxHeartbeats 4000000 in
theorem blob_any (r s : Int) (w : World) : Calls Tryz.prog 44 #[blobV r s] w fun e w' => e = .returned (.bool (blobOk r s)) ∧ Below w.heap.size w w' := by
  unfold blobV
  go_enter Tryz.func44, Tryz.ntmps44
  go_wp2_with fail
  all_goals go_ret
  all_goals refine ⟨congrArg (fun b => Ending.returned (.bool b)) ?_, (Below.refl _ _).alloc (Nat.le_refl _) _⟩
  all_goals unfold blobOk
  all_goals first | (exact (decide_eq_false (by omega)).symm) | (exact (decide_eq_false (fun h => absurd ((beq_beq r s).mpr h.2.1) (by assumption))).symm) | (have hh := (beq_beq r s).mp (by assumption); rw [decide_eq_decide]; omega)

set_option maxRecDepth 100000 in
set_option maxHeartbeats 4000000 in
theorem num_any (b : Nat) (st : Rd) (most : Int) (w : World) (h : IsRd w b st) (hL : Laid w) :
    Calls Tryz.prog 48 #[.pointer (some ⟨b, 0, none⟩), .int .i64 most] w fun e w' => e = .returned (.int .i64 (rn most st).1) ∧ IsRd w' b (rn most st).2 ∧ w.grownBy w' (some b) := by
  have k := rd_any b st most w h hL
  go_enter Tryz.func48, Tryz.ntmps48
  go_wp2_with fail
  refine k.mono ?_
  rintro e w1 ⟨rfl, h1, g1⟩
  go_wp2_with fail
  go_ret
  exact ⟨rfl, h1, g1⟩

set_option maxRecDepth 100000 in
set_option maxHeartbeats 4000000 in
theorem text_16 (b : Nat) (st : Rd) (w : World) (h : IsRd w b st) (hL : Laid w) :
    Calls Tryz.prog 59 #[.pointer (some ⟨b, 0, none⟩)] w fun e w' => e = .returned (.string (rt 16 st).1) ∧ IsRd w' b (rt 16 st).2 ∧ w.grownBy w' (some b) := by
  have k := text_any b st 16 w h hL
  go_enter Tryz.func59, Tryz.ntmps59
  go_wp2_with fail
  refine k.mono ?_
  rintro e w1 ⟨rfl, h1, g1⟩
  go_wp2_with fail
  go_ret
  exact ⟨rfl, h1, g1⟩

set_option maxRecDepth 100000 in
set_option maxHeartbeats 4000000 in
theorem readBlob_any (b : Nat) (st : Rd) (w : World) (h : IsRd w b st) (hL : Laid w) (hb2 : b ≠ 0) :
    Calls Tryz.prog 49 #[.pointer (some ⟨b, 0, none⟩)] w fun e w' => e = .returned (blobV (rn 4095 st).1 (rn 16384 (rn 4095 st).2).1) ∧ IsRd w' b (rn 16384 (rn 4095 st).2).2 ∧ w.grownBy w' (some b) := by
  have hlt := h.lt
  have h' := h.below ((Below.refl w.heap.size w).alloc (Nat.le_refl _) (.cells #[.int .i64 0, .int .i64 0] 30)) hlt
  have hL' := hL.below ((Below.refl w.heap.size w).alloc (Nat.le_refl _) (.cells #[.int .i64 0, .int .i64 0] 30)) hL.pos
  go_enter Tryz.func49, Tryz.ntmps49
  go_wp2_with fail
  refine (num_any b st 4095 _ h' hL').mono ?_
  rintro e w1 ⟨rfl, h1, g1⟩
  go_wp2_with fail
  refine (num_any b _ 16384 _ h1 (hL'.grown g1 (fun e => hb2 (Option.some.inj e).symm))).mono ?_
  rintro e w2 ⟨rfl, h2, g2⟩
  have q : Blk w2 w.heap.size 30 #[.int .i64 0, .int .i64 0] := ((Blk.new w _ _).grown g1 (fun e => by injection e; omega)).grown g2 (fun e => by injection e; omega)
  have c0 := q.cell 0
  have c1 := q.cell 1
  have f0 := q.free 0
  have f1 := q.free 1
  have q2 := (q.put 0 (.int .i64 (rn 4095 st).1)).put 1 (.int .i64 (rn 16384 (rn 4095 st).2).1)
  have hg : w.grownBy ((w2.setCell ⟨w.heap.size, 0, none⟩ (.int .i64 (rn 4095 st).1)).setCell ⟨w.heap.size, 1, none⟩ (.int .i64 (rn 16384 (rn 4095 st).2).1)) (some b) :=
    Only.own (Only.trans (Only.trans (Only.alloc (Only.refl w _) _) g1) g2) (Only.put (Only.put (Only.refl w2 (some w.heap.size)) 0 _) 1 _) (fun j h => by injection h with h; omega)
  have hr : IsRd ((w2.setCell ⟨w.heap.size, 0, none⟩ (.int .i64 (rn 4095 st).1)).setCell ⟨w.heap.size, 1, none⟩ (.int .i64 (rn 16384 (rn 4095 st).2).1)) b (rn 16384 (rn 4095 st).2).2 :=
    h2.grown (Only.put (Only.put (Only.refl w2 (some w.heap.size)) 0 _) 1 _) (fun e => by injection e; omega)
  go_wp2_with fail
  refine bodyPost_ret (v := blobV (rn 4095 st).1 (rn 16384 (rn 4095 st).2).1) ?_ rfl ⟨rfl, hr, hg⟩
  exact results_row (p := 2) (ty := 30) (by rfl) _ _ w.heap.size 30 _ (0, 0) _ (by rfl) q2 Tryz.underlying30 rfl (by kernel_rfl)
end Go.Proofs.YtaihpnmojiagnaaGreatDoor.Table

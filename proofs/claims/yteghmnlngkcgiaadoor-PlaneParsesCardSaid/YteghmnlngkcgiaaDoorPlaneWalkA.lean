/- Planes: a map's block; New, Blocks, Clone, Used, is. -/
import Derived.Test.YteghmnlngkcgiaaDoorPlaneSpec
import Derived.Test.YteghmnlngkcgiaaDoorAppendRow
import Derived.StillTailTactics
namespace Go.Proofs.YteghmnlngkcgiaaDoor.Planes
open Go.RowKit Mem Sets

/-- a map's block -/
def PMap (w : World) (g : Nat) (B : Nat) (P : Pl) : Prop := Blk w g 56 (Pl.cells (B : Int) P)
def okB (B : Int) : Bool := decide (8 ≤ B) && decide (B ≤ 4096)
theorem okB_iff {B : Int} : okB B = true ↔ 8 ≤ B ∧ B ≤ 4096 := by simp [okB]

section
variable {w : World} {g B : Nat} {P : Pl}
theorem PMap.blocks (h : PMap w g B P) : w.cell? ⟨g, 0, none⟩ = some (.int .i64 (B : Int)) := Blk.cell h 0
theorem PMap.plane (h : PMap w g B P) {k : Nat} (hk : k < 8) : w.cell? ⟨g, 1 + k, none⟩ = some (.string (P k)) := by
  rw [Blk.cell h, cells_get _ _ hk]
theorem PMap.all (h : PMap w g B P) : w.cell? ⟨g, 0, none⟩ = some (.int .i64 (B : Int)) ∧ w.cell? ⟨g, 1, none⟩ = some (.string (P 0)) ∧ w.cell? ⟨g, 2, none⟩ = some (.string (P 1)) ∧ w.cell? ⟨g, 3, none⟩ = some (.string (P 2)) ∧ w.cell? ⟨g, 4, none⟩ = some (.string (P 3)) ∧ w.cell? ⟨g, 5, none⟩ = some (.string (P 4)) ∧ w.cell? ⟨g, 6, none⟩ = some (.string (P 5)) ∧ w.cell? ⟨g, 7, none⟩ = some (.string (P 6)) ∧ w.cell? ⟨g, 8, none⟩ = some (.string (P 7)) :=
  ⟨Blk.cell h 0, Blk.cell h 1, Blk.cell h 2, Blk.cell h 3, Blk.cell h 4, Blk.cell h 5, Blk.cell h 6, Blk.cell h 7, Blk.cell h 8⟩
theorem PMap.below {w' : World} (h : PMap w g B P) (b : Below w.heap.size w w') : PMap w' g B P := Blk.below h b (Blk.lt h)
theorem PMap.put (h : PMap w g B P) {k : Nat} (hk : k < 8) (s : ByteArray) : PMap (w.setCell ⟨g, 1 + k, none⟩ (.string s)) g B (upd P k s) := by
  have := Blk.put h (1 + k) (.string s)
  rwa [upd_cells _ _ hk] at this
theorem PMap.grown {w' : World} {row : Option Nat} (h : PMap w g B P) (b : w.grownBy w' row) (hr : some g ≠ row) : PMap w' g B P := Blk.grown h b hr
end

set_option maxRecDepth 100000 in
set_option maxHeartbeats 1000000 in
theorem new_bad (B : Int) (w : World) (h : okB B = false) :
    Calls Tryd.prog 9 #[.int .i64 B] w fun e w' => e = .returned (.tuple #[.pointer none, .int .i64 90]) ∧ w' = w := by
  by_cases h1 : B < 8
  · have d1 : decide (B < 8) = true := decide_eq_true h1
    clear h
    go_enter Tryd.func9, Tryd.ntmps9
    go_wp2_with fail
    go_ret2
    exact ⟨rfl, rfl⟩
  · have d1 : decide (B < 8) = false := decide_eq_false h1
    have h2 : 4096 < B := Classical.byContradiction fun h2 => by
      rw [okB_iff.2 (by omega)] at h
      cases h
    have d2 : decide (4096 < B) = true := decide_eq_true h2
    clear h
    go_enter Tryd.func9, Tryd.ntmps9
    go_wp2_with fail
    go_ret2
    exact ⟨rfl, rfl⟩
set_option maxRecDepth 100000 in
set_option maxHeartbeats 1000000 in
theorem new_ok (B : Nat) (w : World) (h : 8 ≤ B ∧ B ≤ 4096) :
    Calls Tryd.prog 9 #[.int .i64 (B : Int)] w fun e w' => e = .returned (.tuple #[.pointer (some ⟨w.heap.size, 0, none⟩), .int .i64 0]) ∧ PMap w' w.heap.size B none8 ∧ Below w.heap.size w w' := by
  obtain ⟨h1, h2⟩ := h
  have a1 : 8 ≤ (B : Int) := by omega
  have a2 : (B : Int) ≤ 4096 := by omega
  go_enter Tryd.func9, Tryd.ntmps9
  go_wp2_with fail
  go_ret2
  exact ⟨rfl, Blk.new w _ _, (Below.refl _ w).alloc (Nat.le_refl _) _⟩

section
variable (g B : Nat) (P : Pl) (w : World)
set_option maxRecDepth 100000 in
set_option maxHeartbeats 1000000 in
theorem blocks_any (h : PMap w g B P) : Calls Tryd.prog 14 #[.pointer (some ⟨g, 0, none⟩)] w fun e w' => e = .returned (.int .i64 (B : Int)) ∧ w' = w := by
  have m := h.blocks
  clear h
  go_enter Tryd.func14, Tryd.ntmps14
  go_wp2_with fail
  go_ret
  exact ⟨rfl, rfl⟩
set_option maxRecDepth 100000 in
set_option maxHeartbeats 1000000 in
theorem clone_any (h : PMap w g B P) : Calls Tryd.prog 31 #[.pointer (some ⟨g, 0, none⟩)] w fun e w' => e = .returned (.pointer (some ⟨w.heap.size, 0, none⟩)) ∧ PMap w' w.heap.size B P ∧ Below w.heap.size w w' := by
  obtain ⟨c0, c1, c2, c3, c4, c5, c6, c7, c8⟩ := h.all
  clear h
  go_enter Tryd.func31, Tryd.ntmps31
  go_wp2_with fail
  go_ret
  exact ⟨rfl, Blk.new w _ _, (Below.refl _ w).alloc (Nat.le_refl _) _⟩
theorem vals_index (P : Pl) {k : Nat} (hk : k < 8) (w : World) : (Instr.index 54 (.agg #[.string (P 0), .string (P 1), .string (P 2), .string (P 3), .string (P 4), .string (P 5), .string (P 6), .string (P 7)]) (.int .i64 (k : Int))).run Tryd.prog w = .ok (.string (P k)) w := by
  match k, hk with
  | 0, _ => exact show (Instr.index 54 (.agg #[.string (P 0), .string (P 1), .string (P 2), .string (P 3), .string (P 4), .string (P 5), .string (P 6), .string (P 7)]) (.int .i64 0)).run Tryd.prog w = .ok (.string (P 0)) w by kernel_rfl
  | 1, _ => exact show (Instr.index 54 (.agg #[.string (P 0), .string (P 1), .string (P 2), .string (P 3), .string (P 4), .string (P 5), .string (P 6), .string (P 7)]) (.int .i64 1)).run Tryd.prog w = .ok (.string (P 1)) w by kernel_rfl
  | 2, _ => exact show (Instr.index 54 (.agg #[.string (P 0), .string (P 1), .string (P 2), .string (P 3), .string (P 4), .string (P 5), .string (P 6), .string (P 7)]) (.int .i64 2)).run Tryd.prog w = .ok (.string (P 2)) w by kernel_rfl
  | 3, _ => exact show (Instr.index 54 (.agg #[.string (P 0), .string (P 1), .string (P 2), .string (P 3), .string (P 4), .string (P 5), .string (P 6), .string (P 7)]) (.int .i64 3)).run Tryd.prog w = .ok (.string (P 3)) w by kernel_rfl
  | 4, _ => exact show (Instr.index 54 (.agg #[.string (P 0), .string (P 1), .string (P 2), .string (P 3), .string (P 4), .string (P 5), .string (P 6), .string (P 7)]) (.int .i64 4)).run Tryd.prog w = .ok (.string (P 4)) w by kernel_rfl
  | 5, _ => exact show (Instr.index 54 (.agg #[.string (P 0), .string (P 1), .string (P 2), .string (P 3), .string (P 4), .string (P 5), .string (P 6), .string (P 7)]) (.int .i64 5)).run Tryd.prog w = .ok (.string (P 5)) w by kernel_rfl
  | 6, _ => exact show (Instr.index 54 (.agg #[.string (P 0), .string (P 1), .string (P 2), .string (P 3), .string (P 4), .string (P 5), .string (P 6), .string (P 7)]) (.int .i64 6)).run Tryd.prog w = .ok (.string (P 6)) w by kernel_rfl
  | 7, _ => exact show (Instr.index 54 (.agg #[.string (P 0), .string (P 1), .string (P 2), .string (P 3), .string (P 4), .string (P 5), .string (P 6), .string (P 7)]) (.int .i64 7)).run Tryd.prog w = .ok (.string (P 7)) w by kernel_rfl
set_option maxRecDepth 100000 in
set_option maxHeartbeats 1000000 in
theorem used_any (h : PMap w g B P) (hf : FitAll B P) (hB : B ≤ 4096) : Calls Tryd.prog 18 #[.pointer (some ⟨g, 0, none⟩)] w fun e w' => e = .returned (.string (used P)) ∧ Below w.heap.size w w' := by
  obtain ⟨c0, c1, c2, c3, c4, c5, c6, c7, c8⟩ := h.all
  have hz : ∀ k, k < 8 → (P k).size ≤ 512 := fun k hk => (hf k hk).size (by omega)
  have hu : ∀ k, k ≤ 8 → (usedTo P k).size ≤ 512 := fun k hk => (usedTo_fit hf k hk).size (by omega)
  clear h hf hB
  replace hz := Lib.hid hz
  replace hu := Lib.hid hu
  go_enter Tryd.func18, Tryd.ntmps18
  go_wp2_with fail
  have hv : ∀ k : Nat, k < 8 → ∀ w : World, (Instr.index 54 (.agg #[.string (P 0), .string (P 1), .string (P 2), .string (P 3), .string (P 4), .string (P 5), .string (P 6), .string (P 7)]) (.int .i64 (k : Int))).run Tryd.prog w = .ok (.string (P k)) w := fun k hk => vals_index P hk
  generalize (#[.string (P 0), .string (P 1), .string (P 2), .string (P 3), .string (P 4), .string (P 5), .string (P 6), .string (P 7)] : Array Value) = V at hv ⊢
  replace hv := Lib.hid hv
  clear c0 c1 c2 c3 c4 c5 c6 c7 c8
  go_loopw [3, 10] (fun s y wr => ∃ k : Nat, k ≤ 8 ∧ y = .int .i64 (k : Int) ∧ s = .string (usedTo P k) ∧ Below w.heap.size w wr) (fun _ y _ => 8 - (intOf y).toNat)
  case atStart => exact ⟨0, by omega, rfl, rfl, Below.refl _ _⟩
  case round =>
    obtain ⟨k, hk, rfl, rfl, hb⟩ := hrel
    have hs := hb.size
    by_cases hlt : k < 8
    · have hg := hv.out k hlt
      have k1 := fun W => or_b (usedTo P k) (P k) W (Nat.le_trans (hu.out k hk) (by decide)) (Nat.le_trans (hz.out k hlt) (by decide))
      rw [show orB (usedTo P k) (P k) = usedTo P (k + 1) from rfl] at k1
      obtain ⟨s', hs'⟩ : ∃ s', s' = usedTo P (k + 1) := ⟨_, rfl⟩
      rw [← hs'] at k1
      generalize usedTo P k = s at k1
      generalize P k = pk at k1 hg
      replace k1 := Lib.hid k1
      replace hs' := Lib.hid hs'
      go_wp2_with fail
      refine (k1.out _).mono ?_
      rintro en w' ⟨rfl, b'⟩
      replace hb := hb.trans (b'.mono hs)
      go_wp2_with fail
      exact ⟨⟨k + 1, by omega, rfl, by rw [hs'.out], hb⟩, by simp [intOf]; omega⟩
    · obtain rfl : k = 8 := by omega
      rw [show usedTo P 8 = used P from rfl]
      go_wp2_with fail
      go_ret
      exact ⟨rfl, hb⟩
end

set_option maxRecDepth 100000 in
set_option maxHeartbeats 1000000 in
theorem is_any (b n c : Nat) (l : List Int) (w : World) (hn : l.length = n) (hc : ∀ k x, l[k]? = some x → w.cell? ⟨b, k, none⟩ = some (.int .i64 x)) (h63 : n ≤ 9223372036854775807) :
    Calls Tryd.prog 38 #[.slice (some ⟨b, 0, none⟩) n c] w fun e w' => e = .returned (.bool (l.all isP)) ∧ w' = w := by
  replace hc := Lib.hid hc
  replace hn := Lib.hid hn
  go_enter Tryd.func38, Tryd.ntmps38
  go_wp2_with fail
  go_loopw [7] (fun y wr => ∃ k : Nat, k ≤ n ∧ y = .int .i64 (k : Int) ∧ (l.take k).all isP = true ∧ wr = w) (fun y _ => n - (intOf y).toNat)
  case atStart => exact ⟨0, by omega, rfl, rfl, rfl⟩
  case round =>
    obtain ⟨k, hk, rfl, hall, rfl⟩ := hrel
    by_cases hlt : k < n
    · obtain ⟨x, hx⟩ : ∃ x, l[k]? = some x := ⟨_, List.getElem?_eq_getElem (by rw [hn.out]; exact hlt)⟩
      have m := hc.out k x hx
      have hk1 : (l.take (k + 1)).all isP = isP x := by rw [take_snoc_of hx, List.all_append, hall]; simp
      have hno : isP x = false → l.all isP = false := fun h => by
        rw [← Bool.not_eq_true, List.all_eq_true]
        intro hh
        have := hh x (List.mem_of_getElem? hx)
        rw [h] at this
        cases this
      replace hk1 := Lib.hid hk1
      replace hno := Lib.hid hno
      by_cases h0 : x < 0
      · have d0 : decide (x < 0) = true := decide_eq_true h0
        go_wp2_with fail
        go_ret
        refine ⟨?_, rfl⟩
        rw [hno.out (by cases h : isP x with | false => rfl | true => rw [isP_iff] at h; omega)]
        rfl
      · have d0 : decide (x < 0) = false := decide_eq_false h0
        by_cases h8 : 8 ≤ x
        · have d8 : decide (8 ≤ x) = true := decide_eq_true h8
          go_wp2_with fail
          go_ret
          refine ⟨?_, rfl⟩
          rw [hno.out (by cases h : isP x with | false => rfl | true => rw [isP_iff] at h; omega)]
          rfl
        · have d8 : decide (8 ≤ x) = false := decide_eq_false h8
          go_wp2_with fail
          exact ⟨⟨k + 1, by omega, rfl, by rw [hk1.out, isP_iff]; omega, trivial⟩, by simp [intOf]; omega⟩
    · obtain rfl : k = n := by omega
      rw [List.take_of_length_le (by rw [hn.out]; exact Nat.le_refl _)] at hall
      go_wp2_with fail
      go_ret
      exact ⟨by rw [hall]; rfl, rfl⟩
end Go.Proofs.YteghmnlngkcgiaaDoor.Planes

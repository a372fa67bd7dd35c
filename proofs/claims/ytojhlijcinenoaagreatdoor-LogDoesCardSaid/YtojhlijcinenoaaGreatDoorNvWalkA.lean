/- The log's small functions: put, half, first, told, Gen, Dead, Room. -/
import Derived.Test.YtojhlijcinenoaaGreatDoorNvPl
import Derived.Test.YtojhlijcinenoaaGreatDoorRdiskI
import Derived.Test.YtojhlijcinenoaaGreatDoorDiskWd
namespace Go.Proofs.YtojhlijcinenoaaGreatDoor.Nv
open Go Go.RowKit Go.Maps Mem Disk

def rowP (x n k : Nat) : List Value := ((List.range k).map fun i => Value.int .u8 ((UInt8.ofNat (x / 2 ^ (8 * i))).toNat : Int)) ++ List.replicate (n - k) (.int .u8 0)
set_option maxRecDepth 100000 in
theorem rowP_set (x n k : Nat) (h : k < n) : (rowP x n k).set k (.int .u8 ((UInt8.ofNat (x / 2 ^ (8 * k))).toNat : Int)) = rowP x n (k + 1) := by
  unfold rowP
  rw [List.set_append_right _ _ (by simp), List.length_map, List.length_range, Nat.sub_self, List.range_succ, List.map_append, show n - k = (n - (k + 1)) + 1 by omega, List.replicate_succ, List.set_cons_zero, List.append_assoc]
  rfl
set_option maxRecDepth 100000 in
theorem rowP_len (x n k : Nat) (h : k ≤ n) : (rowP x n k).length = n := by simp [rowP]; omega
set_option maxRecDepth 100000 in
set_option maxHeartbeats 8000000 in
theorem put_any (x n : Nat) (hn : n ≤ 6) (w : World) : Calls Tryz.prog 36 #[.int .i64 (x : Int), .int .i64 (n : Int)] w fun e w' => e = .returned (.string (num x n)) ∧ Below w.heap.size w w' := by
  obtain ⟨i0, hinf, hz0, hz1, hz2⟩ := info_parts infoU8
  go_enter Tryz.func36, Tryz.ntmps36
  go_wp2_with (first | (at_make; refine wpList_make_full _ rfl _ _ _ rfl w.heap.size 5 i0 (.int .u8 0) 1 Tryz.underlying71 hinf hz0 hz1 .i64 .i64 _ _ n rfl rfl rfl rfl (by rw [hz2]; omega) (by unfold maxLen; omega) (Nat.le_refl _) ?_; intro w2 ho2 hg2))
  have hrow : w2.ownsRow w.heap.size 5 1 (.slice (some ⟨w.heap.size, 0, none⟩) n n) n (rowP x n 0) := by
    rw [show rowP x n 0 = (madeCells (Value.int .u8 0).cells (n * 1)).toList from ?_]
    · exact ho2
    · apply List.ext_getElem
      · simp [rowP, madeCells]
      · intro j h1 h2
        simp [rowP, madeCells, Value.cells, Nat.mod_one]
  have hb2 : Below w.heap.size w w2 := ⟨hg2.os, hg2.tape, hg2.output, hg2.size, fun k hk => hg2.block k hk (by simp)⟩
  clear ho2 hg2
  go_loopw [11] (fun t wr => ∃ k : Nat, k ≤ n ∧ t = .int .i64 (k : Int) ∧ wr.ownsRow w.heap.size 5 1 (.slice (some ⟨w.heap.size, 0, none⟩) n n) n (rowP x n k) ∧ Below w.heap.size w wr) (fun t _ => n - (intOf t).toNat)
  case atStart => exact ⟨0, Nat.zero_le _, rfl, hrow, hb2⟩
  case round =>
    clear hrow hb2
    obtain ⟨k, hk, rfl, hrow, hb⟩ := hrel
    by_cases hlt : k < n
    · obtain ⟨c, hc⟩ : ∃ c, c = UInt8.ofNat (x / 2 ^ (8 * k)) := ⟨_, rfl⟩
      have e1 : ((x : Int) / 2 ^ (8 * k)) % 256 = (c.toNat : Int) := by
        rw [hc, UInt8.toNat_ofNat']
        have e : ((x : Int) / 2 ^ (8 * k)) = ((x / 2 ^ (8 * k) : Nat) : Int) := by rw [Int.natCast_ediv, Int.natCast_pow]; rfl
        rw [e]
        omega
      obtain ⟨hr', fz⟩ := own_put (i := k) (u := .int .u8 (c.toNat : Int)) hrow
      rw [hc, rowP_set x n k hlt, ← hc] at hr'
      obtain ⟨old, hold⟩ : ∃ u, (rowP x n k)[k]? = some u := ⟨_, List.getElem?_eq_getElem (by rw [rowP_len x n k hk]; exact hlt)⟩
      have cst := hrow.cells (g := w.heap.size) rfl k old hold
      rw [add_lit, Nat.zero_add] at cst
      have hb' : Below w.heap.size w (wr.setCell ⟨w.heap.size, k, none⟩ (.int .u8 (c.toNat : Int))) := hb.setCell (Nat.le_refl _) _
      replace hr' := Lib.hid hr'
      replace hb' := Lib.hid hb'
      replace hc := Lib.hid hc
      clear hrow hold hb
      go_wp2_with fail
      exact ⟨⟨k + 1, by omega, rfl, hr'.out, hb'.out⟩, by simp [intOf]; omega⟩
    · obtain rfl : k = n := by omega
      have hcv := run_convert_bytes_back (P := Tryz.prog) wr 71 9 5 ⟨w.heap.size, 0, none⟩ k ((List.range k).map fun i => UInt8.ofNat (x / 2 ^ (8 * i))) Tryz.underlying71 Tryz.underlying5 Tryz.underlying9 (fun j hj => by
        have hj' : j < k := by simpa using hj
        rw [hrow.cells (g := w.heap.size) rfl j (.int .u8 ((UInt8.ofNat (x / 2 ^ (8 * j))).toNat : Int)) (by simp [rowP, hj'])]
        simp)
      rw [List.length_map, List.length_range] at hcv
      have hcv' : (convert 71 9 (.slice (some ⟨w.heap.size, 0, none⟩) k k)).run Tryz.prog wr = .ok (.string (num x k)) wr := hcv
      clear hcv hrow
      go_wp2_with fail
      go_ret
      exact ⟨rfl, hb⟩
/-- the five cells -/
def lgc (b : Nat) (v : Value) (l : Lg) : Array Value := #[.pointer (some ⟨b, 0, none⟩), .int .i64 (l.gen : Int), .string (enc l.list), v, .bool l.dead]
/-- the log at a, over its disk at b: its blocks F, the disk's among them G -/
structure PCore (F G : Nat → Prop) (w : World) (a b : Nat) (v : Value) (l : Lg) (d : Dk) : Prop where
  dk : IsDk G w b d
  blk : Blk w a 62 (lgc b v l)
  row : w.ownsRow 0 9 1 v l.list.length (l.list.map Value.string)
  fa : F a
  fv : ∀ j, v.ownBlock = some j → F j
  fg : ∀ i, G i → F i
  ga : ¬ G a
  gv : ∀ j, v.ownBlock = some j → ¬ G j
  lt : ∀ i, F i → i < w.heap.size
def PL (F : Nat → Prop) (w : World) (a b : Nat) (l : Lg) (d : Dk) : Prop := ∃ G v, PCore F G w a b v l d
section
variable {F G K : Nat → Prop} {w w' : World} {a b : Nat} {v : Value} {l l' : Lg} {d d' : Dk}
set_option maxRecDepth 100000 in
theorem PCore.pl (h : PCore F G w a b v l d) : PL F w a b l d := ⟨_, _, h⟩
set_option maxRecDepth 100000 in
theorem PCore.keeps (h : PCore F G w a b v l d) (hk : Keeps K w w') (hn : ∀ i, F i → ¬ K i) : PCore F G w' a b v l d :=
  ⟨h.dk.keeps hk (fun i hi => hn i (h.fg i hi)), h.blk.keeps hk (hn a h.fa), own_keeps h.row hk (fun j e => hn j (h.fv j e)), h.fa, h.fv, h.fg, h.ga, h.gv, fun i hi => Nat.lt_of_lt_of_le (h.lt i hi) hk.size⟩
set_option maxRecDepth 100000 in
theorem PCore.below (h : PCore F G w a b v l d) (hb : Below w.heap.size w w') : PCore F G w' a b v l d := h.keeps (Keeps.of_below (fun _ => False) hb) (fun _ _ h => h)
set_option maxRecDepth 100000 in
theorem PL.keeps (h : PL F w a b l d) (hk : Keeps K w w') (hn : ∀ i, F i → ¬ K i) : PL F w' a b l d := by
  obtain ⟨G, v, h⟩ := h
  exact (h.keeps hk hn).pl
set_option maxRecDepth 100000 in
theorem PL.below (h : PL F w a b l d) (hb : Below w.heap.size w w') : PL F w' a b l d := h.keeps (Keeps.of_below (fun _ => False) hb) (fun _ _ h => h)
set_option maxRecDepth 100000 in
theorem PL.lt (h : PL F w a b l d) : ∀ i, F i → i < w.heap.size := by
  obtain ⟨G, v, h⟩ := h
  exact h.lt
set_option maxRecDepth 100000 in
theorem PCore.va (h : PCore F G w a b v l d) : ∀ j, v.ownBlock = some j → j ≠ a := own_ne h.row h.blk (by decide)
set_option maxRecDepth 100000 in
theorem PCore.cells (h : PCore F G w a b v l d) : w.cell? ⟨a, 0, none⟩ = some (.pointer (some ⟨b, 0, none⟩)) ∧ w.cell? ⟨a, 1, none⟩ = some (.int .i64 (l.gen : Int)) ∧ w.cell? ⟨a, 2, none⟩ = some (.string (enc l.list)) ∧ w.cell? ⟨a, 3, none⟩ = some v ∧ w.cell? ⟨a, 4, none⟩ = some (.bool l.dead) :=
  ⟨h.blk.cell 0, h.blk.cell 1, h.blk.cell 2, h.blk.cell 3, h.blk.cell 4⟩
set_option maxRecDepth 100000 in
/-- the log's own cells turn -/
theorem PCore.reput (h : PCore F G w a b v l d) (kk : Keeps (fun j => j = a) w w') (hB : Blk w' a 62 (lgc b v l')) (e : l'.list = l.list) : PL F w' a b l' d ∧ Keeps F w w' := by
  refine ⟨⟨G, v, h.dk.keeps kk (fun i hi e => h.ga (e ▸ hi)), hB, ?_, h.fa, h.fv, h.fg, h.ga, h.gv, fun i hi => Nat.lt_of_lt_of_le (h.lt i hi) kk.size⟩, kk.mono (fun i e => e ▸ h.fa)⟩
  rw [e]
  exact own_keeps h.row kk h.va
set_option maxRecDepth 100000 in
/-- the disk is called -/
theorem PCore.disk (h : PCore F G w a b v l d) {G' : Nat → Prop} (hd : IsDk G' w' b d') (kk : Keeps G w w') (hG : ∀ i, G' i → G i ∨ w.heap.size ≤ i) : PCore (fun i => F i ∨ G' i) G' w' a b v l d' := by
  refine ⟨hd, h.blk.keeps kk h.ga, own_keeps h.row kk h.gv, Or.inl h.fa, fun j e => Or.inl (h.fv j e), fun i hi => Or.inr hi, fun hi => ?_, fun j e hi => ?_, fun i hi => ?_⟩
  · rcases hG a hi with h1 | h1
    · exact h.ga h1
    · have := h.lt a h.fa; omega
  · rcases hG j hi with h1 | h1
    · exact h.gv j e h1
    · have := h.lt j (h.fv j e); omega
  · rcases hi with hi | hi
    · exact Nat.lt_of_lt_of_le (h.lt i hi) kk.size
    · exact hd.blt i hi
set_option maxRecDepth 100000 in
set_option maxHeartbeats 2000000 in
theorem half_any (h : PL F w a b l d) (hf : Fit d) : Calls Tryz.prog 57 #[.pointer (some ⟨a, 0, none⟩)] w fun e w' => e = .returned (.int .i64 (halfD d : Int)) ∧ w' = w := by
  obtain ⟨G, v, h⟩ := h
  have ks := sectors_any h.dk
  obtain ⟨c0, _⟩ := h.cells
  clear h
  have hfew := hf.few
  obtain ⟨N, hN⟩ : ∃ N, N = d.stays.length := ⟨_, rfl⟩
  have e1 : (halfD d : Int) = ((N : Int) - 1) / 2 := by rw [hN]; unfold halfD; omega
  rw [e1]
  rw [← hN] at ks hfew
  replace ks := Lib.hid ks
  replace hN := Lib.hid hN
  clear e1 hf
  go_enter Tryz.func57, Tryz.ntmps57
  go_wp2_with fail
  refine (ks.out).mono ?_
  rintro en w' ⟨rfl, hw'⟩
  replace hw' := hw'.symm
  subst hw'
  go_wp2_with fail
  go_ret
  exact ⟨rfl, rfl⟩
set_option maxRecDepth 100000 in
set_option maxHeartbeats 2000000 in
theorem told_any (h : PL F w a b l d) (x : Int) : Calls Tryz.prog 38 #[.pointer (some ⟨a, 0, none⟩), .int .i64 x] w fun e w' => e = .returned (.int .i64 x) ∧ PL F w' a b (tell l x) d ∧ Keeps F w w' := by
  obtain ⟨G, v, h⟩ := h
  obtain ⟨_, _, _, _, c4⟩ := h.cells
  have f4 := h.blk.free 4
  have fin := fun y (hy : y = (l.dead || x == 2)) => h.reput (l' := tell l x) ((Keeps.refl (fun j => j = a) w).put (g := a) (Or.inl rfl) 4 (.bool y)) (by
    have hB := h.blk.put 4 (.bool y)
    have e : (lgc b v l).setIfInBounds 4 (.bool y) = lgc b v (tell l x) := by rw [hy]; rfl
    rw [e] at hB
    exact hB) rfl
  replace fin := Lib.hid fin
  clear h
  cases hd : l.dead with
  | true =>
    rw [hd] at c4 fin
    replace hd := Lib.hid hd
    go_enter Tryz.func38, Tryz.ntmps38
    go_wp2_with fail
    go_ret
    exact ⟨rfl, fin.out true rfl⟩
  | false =>
    rw [hd] at c4 fin
    replace hd := Lib.hid hd
    go_enter Tryz.func38, Tryz.ntmps38
    go_wp2_with fail
    go_ret
    exact ⟨rfl, fin.out (x == 2) rfl⟩
set_option maxRecDepth 100000 in
set_option maxHeartbeats 2000000 in
theorem first_any (h : PL F w a b l d) (hf : Fit d) (g : Nat) : Calls Tryz.prog 39 #[.pointer (some ⟨a, 0, none⟩), .int .i64 (g : Int)] w fun e w' => e = .returned (.int .i64 (firstL g d : Int)) ∧ w' = w := by
  have kh := half_any h hf
  have hfew := hf.few
  have hH : halfD d ≤ 8192 := by unfold halfD; omega
  have e1 : (firstL g d : Int) = 1 + ((g % 2 : Nat) : Int) * (halfD d : Int) := by unfold firstL; rw [Int.natCast_add, Int.natCast_mul]; rfl
  rw [e1]
  clear e1 hf
  generalize halfD d = H at kh hH ⊢
  have hm : (g : Int).tmod 2 = ((g % 2 : Nat) : Int) := rfl
  have hm2 : (g : Int) % 2 = ((g % 2 : Nat) : Int) := by omega
  have hg2 : g % 2 < 2 := Nat.mod_lt _ (by decide)
  generalize g % 2 = q at hm hm2 hg2 ⊢
  have hq : q = 0 ∨ q = 1 := by omega
  replace kh := Lib.hid kh
  rcases hq with rfl | rfl
  all_goals
    go_enter Tryz.func39, Tryz.ntmps39
    go_wp2_with fail
    refine (kh.out).mono ?_
    rintro en w' ⟨rfl, hw'⟩
    replace hw' := hw'.symm
    subst hw'
    go_wp2_with fail
    go_ret
    simp
end
end Go.Proofs.YtojhlijcinenoaaGreatDoor.Nv

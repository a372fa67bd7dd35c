/- The log's Start. -/
import Derived.Test.YtojhlijcinenoaaGreatDoorNvWalkD
namespace Go.Proofs.YtojhlijcinenoaaGreatDoor.Nv
open Go Go.RowKit Go.Maps Mem Disk
section
variable {F G K : Nat → Prop} {w w' : World} {a b m : Nat} {v : Value} {l l' : Lg} {d d' : Dk}
set_option maxRecDepth 100000 in
set_option maxHeartbeats 4000000 in
theorem start_any (h : PL F w a b l d) (hf : Fit d) (hn : NumTo m d) (hm : m ≤ 900000) (g : Int) :
    Calls Tryz.prog 7 #[.pointer (some ⟨a, 0, none⟩), .int .i64 g] w (NPost F w a b (startL l d g)) := by
  have c1 : w.cell? ⟨a, 1, none⟩ = some (.int .i64 (l.gen : Int)) := by obtain ⟨_, _, hc⟩ := h; exact hc.cells.2.1
  have c4 : w.cell? ⟨a, 4, none⟩ = some (.bool l.dead) := by obtain ⟨_, _, hc⟩ := h; exact hc.cells.2.2.2.2
  unfold startL
  by_cases h1 : g ≤ l.gen
  · rw [if_pos (Or.inl h1)]
    have q1 : decide (g ≤ (l.gen : Int)) = true := decide_eq_true h1
    have fin := Lib.hid (npost_same h 70)
    clear h hf hn h1
    go_enter Tryz.func7, Tryz.ntmps7
    go_wp2_with fail
    go_ret
    exact fin.out
  · have q1 : decide (g ≤ (l.gen : Int)) = false := decide_eq_false h1
    by_cases h2 : 1099511627776 < g
    · rw [if_pos (Or.inr h2)]
      have q2 : decide (1099511627776 < g) = true := decide_eq_true h2
      have fin := Lib.hid (npost_same h 70)
      clear h hf hn h1 h2
      go_enter Tryz.func7, Tryz.ntmps7
      go_wp2_with fail
      go_ret
      exact fin.out
    · rw [if_neg (fun hh => hh.elim h1 h2)]
      have q2 : decide (1099511627776 < g) = false := decide_eq_false h2
      obtain ⟨gn, rfl⟩ := Int.eq_ofNat_of_zero_le (show 0 ≤ g by omega)
      have q3 : decide (gn ≤ l.gen) = false := decide_eq_false (by omega)
      have q4 : l.gen < gn := by omega
      clear h1 h2
      rcases Bool.eq_false_or_eq_true l.dead with hd | hd
      · rw [hd] at c4
        rw [if_pos hd]
        replace hd := Lib.hid hd
        have fin := Lib.hid (npost_same h 2)
        clear h hf hn
        go_enter Tryz.func7, Tryz.ntmps7
        go_wp2_with fail
        go_ret
        exact fin.out
      · rw [hd] at c4
        rw [if_neg (by rw [hd]; decide), Int.toNat_natCast]
        replace hd := Lib.hid hd
        have kh := heads_any h hf hn (by omega) gn 0
        have hHl := headsL_ok (l := l) (d := d) (g := gn) (u := 0)
        generalize headsL l d gn 0 = HH at kh hHl ⊢
        clear h hf hn
        by_cases hq : HH.2.2 = 0
        · rw [if_neg (fun hh => hh hq)]
          have hHl1 := hHl hq
          have kh2 := kh.mono (fun e w' (hh : NPost _ _ _ _ HH e w') => And.intro (hh.1.trans (show Ending.returned (.int .i64 HH.2.2) = .returned (.int .i64 0) by rw [hq])) hh.2)
          replace kh := Lib.hid kh2
          clear kh2 hHl
          replace hq := Lib.hid hq
          replace hHl1 := Lib.hid hHl1
          go_enter Tryz.func7, Tryz.ntmps7
          go_wp2_with fail
          refine kh.out.mono ?_
          rintro en w5 ⟨rfl, F5, h5, k5, hF5⟩
          rw [hHl1.out] at h5
          obtain ⟨G5, v5, h5⟩ := h5
          obtain ⟨A5, c5, rfl⟩ := own_slice h5.row
          have e1 := h5.cells.2.1
          have e2 := h5.cells.2.2.1
          have e3 := h5.cells.2.2.2.1
          have f1 := h5.blk.free 1
          have f2 := h5.blk.free 2
          have f3 := h5.blk.free 3
          have k9 := (((Keeps.refl (fun j => j = a) w5).put (g := a) (Or.inl rfl) 1 (.int .i64 (gn : Int))).put (g := a) (Or.inl rfl) 2 (.string ⟨#[]⟩)).put (g := a) (Or.inl rfl) 3 (.slice none 0 0)
          have hB9 : Blk (((w5.setCell ⟨a, 1, none⟩ (.int .i64 (gn : Int))).setCell ⟨a, 2, none⟩ (.string ⟨#[]⟩)).setCell ⟨a, 3, none⟩ (.slice none 0 0)) a 62 (lgc b (.slice none 0 0) ⟨gn, [], l.dead⟩) := ((h5.blk.put 1 (.int .i64 (gn : Int))).put 2 (.string ⟨#[]⟩)).put 3 (.slice none 0 0)
          have fin := PCore.relist (H := w5.heap.size) (v2 := .slice none 0 0) (l2 := ⟨gn, [], l.dead⟩) h5 ⟨rfl, Or.inl ⟨rfl, rfl⟩⟩ h5.lt hB9 k9
          have kk9 := k5.trans fin.2 hF5
          have hF9 : ∀ i, (F5 i ∨ (Value.slice none 0 0).ownBlock = some i) → F i ∨ w.heap.size ≤ i := fun i hi => hi.elim (hF5 i) (fun e => by cases e)
          have p9 := fin.1
          replace kk9 := Lib.hid kk9
          replace hF9 := Lib.hid hF9
          replace p9 := Lib.hid p9
          clear fin k9 hB9 h5 k5 hF5
          go_wp2_with fail
          go_ret
          exact ⟨by rw [hq.out]; rfl, _, p9.out, kk9.out, hF9.out⟩
        · rw [if_pos hq]
          have hq' : (HH.2.2 != 0) = true := by simpa using hq
          replace kh := Lib.hid kh
          clear hq hHl
          go_enter Tryz.func7, Tryz.ntmps7
          go_wp2_with fail
          refine kh.out.mono ?_
          rintro en w5 ⟨rfl, F5, h5, k5, hF5⟩
          replace h5 := Lib.hid h5
          replace k5 := Lib.hid k5
          replace hF5 := Lib.hid hF5
          go_wp2_with fail
          go_ret
          exact ⟨rfl, _, h5.out, k5.out, hF5.out⟩
end
end Go.Proofs.YtojhlijcinenoaaGreatDoor.Nv

/- TableBack: what was laid is parsed as it was, of each kind. (Printed by gentlaws.py.) -/
import Derived.Test.YtaihpnmojiagnaaDoorTableLaws
namespace Go.Proofs.YtaihpnmojiagnaaDoor.Table
open Go.RowKit Mem Wire

set_option maxRecDepth 100000 in
set_option maxHeartbeats 16000000 in
theorem back_any (A1 A2 A3 : Option Addr) (n1 n2 n3 c1 c2 c3 : Nat) (l1 : List Ino) (l2 : List Ent) (l3 : List Snp) (w : World) (hL : Laid w)
    (hr1 : Row w A1 (n1 * 5) (l1.flatMap inoC)) (hn1 : l1.length = n1) (hm1 : n1 ≤ 9223372036854775807)
    (hr2 : Row w A2 (n2 * 2) (l2.flatMap entC)) (hn2 : l2.length = n2) (hm2 : n2 ≤ 9223372036854775807) 
    (hr3 : Row w A3 (n3 * 5) (l3.flatMap snpC)) (hn3 : l3.length = n3) (hm3 : n3 ≤ 9223372036854775807) :
    Calls Tryd.prog 6 #[.agg #[.slice A1 n1 c1, .slice A2 n2 c2, .slice A3 n3 c3]] w fun e w' => e = .returned (.bool true) ∧ Below w.heap.size w w' := by
  have hp := hL.pos
  have hg1 : ∀ x ∈ l1, inoBig x := fun _ _ => trivial
  have hg2 : ∀ x ∈ l2, entBig x := fun _ _ => trivial
  have hg3 : ∀ x ∈ l3, snpBig x := fun _ _ => trivial
  have q0 := Blk.new w 28 #[.slice A1 n1 c1, .slice A2 n2 c2, .slice A3 n3 c3]
  have hb0 : Below w.heap.size w (w.alloc (.cells #[.slice A1 n1 c1, .slice A2 n2 c2, .slice A3 n3 c3] 28)) := (Below.refl _ _).alloc (Nat.le_refl _) _
  have hz : w.heap.size + 1 ≤ (w.alloc (.cells #[.slice A1 n1 c1, .slice A2 n2 c2, .slice A3 n3 c3] 28)).heap.size := by simp
  have hL0 := hL.below hb0 hp
  replace hr1 := Lib.hid (hr1.below hb0)
  replace hr2 := Lib.hid (hr2.below hb0)
  replace hr3 := Lib.hid (hr3.below hb0)
  replace hn1 := Lib.hid hn1
  replace hn2 := Lib.hid hn2
  replace hn3 := Lib.hid hn3
  replace hg1 := Lib.hid hg1
  replace hg2 := Lib.hid hg2
  replace hg3 := Lib.hid hg3
  replace hb0 := Lib.hid hb0
  have e1 : lays inoK l1 = none ∨ ∃ T : ByteArray, lays inoK l1 = some T.data.toList := by
    cases h : lays inoK l1 with
    | none => exact Or.inl rfl
    | some bs => exact Or.inr ⟨⟨bs.toArray⟩, rfl⟩
  have e2 : lays entK l2 = none ∨ ∃ T : ByteArray, lays entK l2 = some T.data.toList := by
    cases h : lays entK l2 with
    | none => exact Or.inl rfl
    | some bs => exact Or.inr ⟨⟨bs.toArray⟩, rfl⟩
  have e3 : lays snpK l3 = none ∨ ∃ T : ByteArray, lays snpK l3 = some T.data.toList := by
    cases h : lays snpK l3 with
    | none => exact Or.inl rfl
    | some bs => exact Or.inr ⟨⟨bs.toArray⟩, rfl⟩
  go_enter Tryd.func6, Tryd.ntmps6
  go_wp2_with fail
  generalize w.alloc (.cells #[.slice A1 n1 c1, .slice A2 n2 c2, .slice A3 n3 c3] 28) = w0 at q0 hb0 hz hL0 hr1 hr2 hr3 ⊢
  have hb := Lib.hid (Below.refl (w.heap.size + 1) w0)
  have k0 := q0.cell 0
  have k1 := q0.cell 1
  have k2 := q0.cell 2
  have x0 := k0
  have x1 := k1
  have x2 := k2
  replace k0 := Lib.hid k0
  replace k1 := Lib.hid k1
  replace k2 := Lib.hid k2
  replace q0 := Lib.hid q0
  rcases e1 with e1 | ⟨T1, e1⟩
  all_goals rcases e2 with e2 | ⟨T2, e2⟩
  all_goals rcases e3 with e3 | ⟨T3, e3⟩
  all_goals
    replace e1 := Lib.hid e1
    replace e2 := Lib.hid e2
    replace e3 := Lib.hid e3
    go_wp2_with fail
    first
      | (refine (oI_none hr1.out hn1.out hg1.out hm1 e1.out).mono ?_; rintro e v1 ⟨rfl, d1⟩)
      | (refine (oI_some hr1.out hn1.out hg1.out hm1 e1.out).mono ?_; rintro e v1 ⟨rfl, d1⟩)
    replace hb := Lib.hid (hb.out.trans (d1.mono hz))
    replace hz := Nat.le_trans hz d1.size
    try replace hr1 := Lib.hid (hr1.out.below d1)
    try replace hr2 := Lib.hid (hr2.out.below d1)
    try replace hr3 := Lib.hid (hr3.out.below d1)
    replace x0 := (hb.out.cell (p := ⟨w.heap.size, 0, none⟩) (Nat.lt_succ_self _)).trans k0.out
    replace x1 := (hb.out.cell (p := ⟨w.heap.size, 1, none⟩) (Nat.lt_succ_self _)).trans k1.out
    replace x2 := (hb.out.cell (p := ⟨w.heap.size, 2, none⟩) (Nat.lt_succ_self _)).trans k2.out
    clear d1
    try
      (have ts1 := (lays_len_I e1.out).1
       have tz1 := Lib.size_eq T1
       go_wp2_with fail
       refine (pI_some (hL0.below hb.out (by omega)) (by omega) (parse_of good_ino e1.out)).mono ?_
       rintro e u1 ⟨F1, f1, rfl, hf1, d1⟩
       replace hf1 := Lib.hid hf1
       replace hb := Lib.hid (hb.out.trans (d1.mono hz))
       replace hz := Nat.le_trans hz d1.size
       try replace hr1 := Lib.hid (hr1.out.below d1)
       try replace hr2 := Lib.hid (hr2.out.below d1)
       try replace hr3 := Lib.hid (hr3.out.below d1)
       replace x0 := (hb.out.cell (p := ⟨w.heap.size, 0, none⟩) (Nat.lt_succ_self _)).trans k0.out
       replace x1 := (hb.out.cell (p := ⟨w.heap.size, 1, none⟩) (Nat.lt_succ_self _)).trans k1.out
       replace x2 := (hb.out.cell (p := ⟨w.heap.size, 2, none⟩) (Nat.lt_succ_self _)).trans k2.out
       clear d1
       clear ts1 tz1
       go_wp2_with fail
       refine (sI_same hf1.out rfl hr1.out hn1.out (by rw [hn1.out]; exact hm1)).mono ?_
       rintro e s1 ⟨rfl, d1⟩
       replace hb := Lib.hid (hb.out.trans (d1.mono hz))
       replace hz := Nat.le_trans hz d1.size
       try replace hr1 := Lib.hid (hr1.out.below d1)
       try replace hr2 := Lib.hid (hr2.out.below d1)
       try replace hr3 := Lib.hid (hr3.out.below d1)
       replace x0 := (hb.out.cell (p := ⟨w.heap.size, 0, none⟩) (Nat.lt_succ_self _)).trans k0.out
       replace x1 := (hb.out.cell (p := ⟨w.heap.size, 1, none⟩) (Nat.lt_succ_self _)).trans k1.out
       replace x2 := (hb.out.cell (p := ⟨w.heap.size, 2, none⟩) (Nat.lt_succ_self _)).trans k2.out
       clear d1
       clear hf1)
    go_wp2_with fail
    first
      | (refine (oE_none hr2.out hn2.out hg2.out hm2 e2.out).mono ?_; rintro e v2 ⟨rfl, d2⟩)
      | (refine (oE_some hr2.out hn2.out hg2.out hm2 e2.out).mono ?_; rintro e v2 ⟨rfl, d2⟩)
    replace hb := Lib.hid (hb.out.trans (d2.mono hz))
    replace hz := Nat.le_trans hz d2.size
    try replace hr2 := Lib.hid (hr2.out.below d2)
    try replace hr3 := Lib.hid (hr3.out.below d2)
    replace x0 := (hb.out.cell (p := ⟨w.heap.size, 0, none⟩) (Nat.lt_succ_self _)).trans k0.out
    replace x1 := (hb.out.cell (p := ⟨w.heap.size, 1, none⟩) (Nat.lt_succ_self _)).trans k1.out
    replace x2 := (hb.out.cell (p := ⟨w.heap.size, 2, none⟩) (Nat.lt_succ_self _)).trans k2.out
    clear d2
    try
      (have ts2 := (lays_len_E e2.out).1
       have tz2 := Lib.size_eq T2
       go_wp2_with fail
       refine (pE_some (hL0.below hb.out (by omega)) (by omega) (parse_of good_ent e2.out)).mono ?_
       rintro e u2 ⟨F2, f2, rfl, hf2, d2⟩
       replace hf2 := Lib.hid hf2
       replace hb := Lib.hid (hb.out.trans (d2.mono hz))
       replace hz := Nat.le_trans hz d2.size
       try replace hr2 := Lib.hid (hr2.out.below d2)
       try replace hr3 := Lib.hid (hr3.out.below d2)
       replace x0 := (hb.out.cell (p := ⟨w.heap.size, 0, none⟩) (Nat.lt_succ_self _)).trans k0.out
       replace x1 := (hb.out.cell (p := ⟨w.heap.size, 1, none⟩) (Nat.lt_succ_self _)).trans k1.out
       replace x2 := (hb.out.cell (p := ⟨w.heap.size, 2, none⟩) (Nat.lt_succ_self _)).trans k2.out
       clear d2
       clear ts2 tz2
       go_wp2_with fail
       refine (sE_same hf2.out rfl hr2.out hn2.out (by rw [hn2.out]; exact hm2)).mono ?_
       rintro e s2 ⟨rfl, d2⟩
       replace hb := Lib.hid (hb.out.trans (d2.mono hz))
       replace hz := Nat.le_trans hz d2.size
       try replace hr2 := Lib.hid (hr2.out.below d2)
       try replace hr3 := Lib.hid (hr3.out.below d2)
       replace x0 := (hb.out.cell (p := ⟨w.heap.size, 0, none⟩) (Nat.lt_succ_self _)).trans k0.out
       replace x1 := (hb.out.cell (p := ⟨w.heap.size, 1, none⟩) (Nat.lt_succ_self _)).trans k1.out
       replace x2 := (hb.out.cell (p := ⟨w.heap.size, 2, none⟩) (Nat.lt_succ_self _)).trans k2.out
       clear d2
       clear hf2)
    go_wp2_with fail
    first
      | (refine (oS_none hr3.out hn3.out hg3.out hm3 e3.out).mono ?_; rintro e v3 ⟨rfl, d3⟩)
      | (refine (oS_some hr3.out hn3.out hg3.out hm3 e3.out).mono ?_; rintro e v3 ⟨rfl, d3⟩)
    replace hb := Lib.hid (hb.out.trans (d3.mono hz))
    replace hz := Nat.le_trans hz d3.size
    try replace hr3 := Lib.hid (hr3.out.below d3)
    replace x0 := (hb.out.cell (p := ⟨w.heap.size, 0, none⟩) (Nat.lt_succ_self _)).trans k0.out
    replace x1 := (hb.out.cell (p := ⟨w.heap.size, 1, none⟩) (Nat.lt_succ_self _)).trans k1.out
    replace x2 := (hb.out.cell (p := ⟨w.heap.size, 2, none⟩) (Nat.lt_succ_self _)).trans k2.out
    clear d3
    try
      (have ts3 := (lays_len_S e3.out).1
       have tz3 := Lib.size_eq T3
       go_wp2_with fail
       refine (pS_some (hL0.below hb.out (by omega)) (by omega) (parse_of good_snp e3.out)).mono ?_
       rintro e u3 ⟨F3, f3, rfl, hf3, d3⟩
       replace hf3 := Lib.hid hf3
       replace hb := Lib.hid (hb.out.trans (d3.mono hz))
       replace hz := Nat.le_trans hz d3.size
       try replace hr3 := Lib.hid (hr3.out.below d3)
       replace x0 := (hb.out.cell (p := ⟨w.heap.size, 0, none⟩) (Nat.lt_succ_self _)).trans k0.out
       replace x1 := (hb.out.cell (p := ⟨w.heap.size, 1, none⟩) (Nat.lt_succ_self _)).trans k1.out
       replace x2 := (hb.out.cell (p := ⟨w.heap.size, 2, none⟩) (Nat.lt_succ_self _)).trans k2.out
       clear d3
       clear ts3 tz3
       go_wp2_with fail
       refine (sS_same hf3.out rfl hr3.out hn3.out (by rw [hn3.out]; exact hm3)).mono ?_
       rintro e s3 ⟨rfl, d3⟩
       replace hb := Lib.hid (hb.out.trans (d3.mono hz))
       replace hz := Nat.le_trans hz d3.size
       try replace hr3 := Lib.hid (hr3.out.below d3)
       replace x0 := (hb.out.cell (p := ⟨w.heap.size, 0, none⟩) (Nat.lt_succ_self _)).trans k0.out
       replace x1 := (hb.out.cell (p := ⟨w.heap.size, 1, none⟩) (Nat.lt_succ_self _)).trans k1.out
       replace x2 := (hb.out.cell (p := ⟨w.heap.size, 2, none⟩) (Nat.lt_succ_self _)).trans k2.out
       clear d3
       clear hf3)
    go_wp2_with fail
    refine (fixed_any _ (hL0.below hb.out (by omega))).mono ?_
    rintro e wf ⟨rfl, bf⟩
    replace hb := Lib.hid (hb.out.trans (bf.mono hz))
    clear bf
    go_wp2_with fail
    go_ret
    exact ⟨rfl, hb0.out.trans (hb.out.mono (Nat.le_succ _))⟩
end Go.Proofs.YtaihpnmojiagnaaDoor.Table

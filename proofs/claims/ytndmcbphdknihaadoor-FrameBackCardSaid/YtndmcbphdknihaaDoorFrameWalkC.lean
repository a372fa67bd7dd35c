/- The program's Open: which message any bytes are. -/
import Derived.Test.YtndmcbphdknihaaDoorFrameWalkB
import Derived.Laws.ResultCell
namespace Go.Proofs.YtndmcbphdknihaaDoor.Frame
open Go.RowKit Mem Wire

/-- what Open answers, as a value -/
def openVal (l : List UInt8) : Value := .tuple #[fVal (openOut l).1.1 (openOut l).1.2.1 (openOut l).1.2.2.1 ⟨(openOut l).1.2.2.2.toArray⟩, .int .i64 (openOut l).2]
theorem openVal_bad {l : List UInt8} (h : ¬ good l) : openVal l = .tuple #[fVal 0 0 0 ⟨#[]⟩, .int .i64 171] := by rw [openVal, openOut, if_neg h]; rfl
/-- the bytes before the sum, the sum -/
theorem left_of (s : ByteArray) (m : Nat) (hm : s.size = m + 8) : (s.extract 0 m).data.toList = s.data.toList.take (s.data.toList.length - 8) := by
  rw [Lib.extract_data, ← Lib.size_eq s, hm]; rfl
theorem good_iff {s : ByteArray} {m : Nat} (hm : s.size = m + 8) : good s.data.toList ↔ (⟨(Sip.sum key (s.extract 0 m).data.toList).toArray⟩ : ByteArray) = s.extract m (m + 8) := by
  rw [left_of s m hm, ByteArray.ext_iff, ← Array.toList_inj, Lib.extract_data]
  have hl : s.data.toList.length = m + 8 := by rw [← Lib.size_eq s]; exact hm
  have e : (s.data.toList.drop m).take (m + 8 - m) = s.data.toList.drop (s.data.toList.length - 8) := by
    rw [hl]
    exact List.take_of_length_le (by rw [List.length_drop]; omega)
  rw [e, good, sealed_]
  constructor
  · intro h
    have h2 := h.2
    conv at h2 => rhs; rw [← List.take_append_drop (s.data.toList.length - 8) s.data.toList]
    exact List.append_cancel_left h2
  · intro h
    refine ⟨by omega, ?_⟩
    have h' : Sip.sum key (s.data.toList.take (s.data.toList.length - 8)) = s.data.toList.drop (s.data.toList.length - 8) := h
    rw [h', List.take_append_drop]
theorem bytes_inj {a b : ByteArray} (h : a.toList = b.toList) : a = b := by
  rw [Lib.toList_data, Lib.toList_data] at h
  exact ByteArray.ext (Array.toList_inj.1 h)
/-- the first result lies in memory, the second one in a slot -/
theorem results_row_tmp {P : Program} {fn : Func} {p u : Tmp} {ty : TypeId} (h : fn.results = #[.cell p ty, .tmp u]) (tmps : Array Value) (w : World) (g : Nat) (t : TypeId) (cs : Array Value) (fr : Nat × Nat) (d : TypeDesc)
    (hp : tmps.getD p undef = .pointer (some ⟨g, 0, none⟩)) (hg : w.heap[g]? = some (.cells cs t fr))
    (hu : P.underlying ty = some d) (hd : (match d with | .struct _ | .array _ _ => true | _ => false) = true) (hi : (P.info? ty).map (·.size) = some cs.size) :
    (results fn tmps).run P w = .ok (.tuple #[.agg cs, tmps.getD u undef]) w := by
  rw [results_cell_tmp h, hp]
  simp [asAddr, Result.andThen, run_loadVar_row w g t ty cs fr d hg hu hd hi]

/-- how it stands between the reads: the result's block, the reader, the message under way -/
def Mid (w W : World) (g r f : Nat) (st : Rd) (cs : Array Value) : Prop :=
  Blk W g 23 #[.int .i64 0, .int .i64 0, .int .i64 0, .string ⟨#[]⟩] ∧ IsRd W r st ∧ Laid W ∧ Below g w W ∧ Blk W f 23 cs ∧ g < r ∧ r < f ∧ 0 < g
theorem Mid.read {w W W' : World} {g r f : Nat} {st st' : Rd} {cs : Array Value} (h : Mid w W g r f st cs) (hg : W.grownBy W' (some r)) (hr : IsRd W' r st') : Mid w W' g r f st' cs := by
  obtain ⟨h1, _, h3, h4, h5, h6, h7, h8⟩ := h
  exact ⟨h1.grown hg (fun e => by injection e; omega), hr, h3.grown hg (fun e => by injection e; omega), h4.grown hg (Nat.le_of_lt h1.lt) (fun k hk => by injection hk; omega), h5.grown hg (fun e => by injection e; omega), h6, h7, h8⟩
theorem Mid.put {w W : World} {g r f : Nat} {st : Rd} {cs : Array Value} (h : Mid w W g r f st cs) (i : Nat) (u : Value) : Mid w (W.setCell ⟨f, i, none⟩ u) g r f st (cs.setIfInBounds i u) := by
  obtain ⟨h1, h2, h3, h4, h5, h6, h7, h8⟩ := h
  have hg : W.grownBy (W.setCell ⟨f, i, none⟩ u) (some f) := Only.put (Only.refl W _) i u
  exact ⟨h1.grown hg (fun e => by injection e; omega), h2.grown hg (fun e => by injection e; omega), h3.grown hg (fun e => by injection e; omega), h4.grown hg (Nat.le_of_lt h1.lt) (fun k hk => by injection hk; omega), h5.put i u, h6, h7, h8⟩
theorem Mid.at_ {w W : World} {g r f : Nat} {st : Rd} {cs : Array Value} (h : Mid w W g r f st cs) (i : Nat) {u : Value} (hu : cs[i]? = some u) : W.cell? ⟨f, i, none⟩ = some u ∧ W.frozen? ⟨f, i, none⟩ = false := by
  obtain ⟨_, _, _, _, h5, _⟩ := h
  exact ⟨(h5.cell i).trans hu, h5.free i⟩

set_option maxRecDepth 100000 in
set_option maxHeartbeats 1000000 in
theorem open_any (s : ByteArray) (w : World) (hs : s.size ≤ 9223372036854775807) (hL : Laid w) :
    Calls Tryd.prog 10 #[.string s] w fun e w' => e = .returned (openVal s.data.toList) ∧ Below w.heap.size w w' := by
  have hp := hL.pos
  have hz : Blk (w.alloc (.cells #[.int .i64 0, .int .i64 0, .int .i64 0, .string ⟨#[]⟩] 23)) w.heap.size 23 #[.int .i64 0, .int .i64 0, .int .i64 0, .string ⟨#[]⟩] := Blk.new w _ _
  have hbz : Below w.heap.size w (w.alloc (.cells #[.int .i64 0, .int .i64 0, .int .i64 0, .string ⟨#[]⟩] 23)) := (Below.refl _ w).alloc (Nat.le_refl _) _
  by_cases h8 : s.size < 8
  · have hv : openVal s.data.toList = .tuple #[fVal 0 0 0 ⟨#[]⟩, .int .i64 171] := openVal_bad (fun h => by have := h.1; rw [← Lib.size_eq s] at this; omega)
    rw [hv]
    unfold fVal
    go_enter Tryd.func10, Tryd.ntmps10
    go_wp2_with fail
    refine bodyPost_ret (v := .tuple #[.agg #[.int .i64 0, .int .i64 0, .int .i64 0, .string ⟨#[]⟩], .int .i64 171]) ?_ rfl ⟨rfl, hbz⟩
    exact results_row_tmp (p := 2) (u := 3) (ty := 23) (by rfl) _ _ w.heap.size 23 #[.int .i64 0, .int .i64 0, .int .i64 0, .string ⟨#[]⟩] (0, 0) _ (by rfl) hz Tryd.underlying23 rfl (by kernel_rfl)
  · obtain ⟨m, hm⟩ : ∃ m, s.size = m + 8 := ⟨s.size - 8, by omega⟩
    have hg := good_iff hm
    have hleft := left_of s m hm
    have sB : (s.extract 0 m).size = m := by rw [ByteArray.size_extract]; omega
    have c1 := fun W => dsum_key (s.extract 0 m) W (by omega)
    obtain ⟨S, hS⟩ : ∃ z, z = (⟨(Sip.sum key (s.extract 0 m).data.toList).toArray⟩ : ByteArray) := ⟨_, rfl⟩
    rw [← hS] at c1 hg
    unfold keyB at c1
    replace c1 := Lib.hid c1
    replace hg := Lib.hid hg
    replace hleft := Lib.hid hleft
    have hm63 : m + 8 ≤ 9223372036854775807 := by rw [← hm]; exact hs
    clear hS h8 hs
    by_cases hST : S = s.extract m (m + 8)
    · have hgd := hg.out.2 hST
      obtain ⟨⟨⟨a, e1⟩, st1⟩, hr1⟩ : ∃ x, rdNum 7 ((s.extract 0 m).data.toList, 0) = x := ⟨_, rfl⟩
      obtain ⟨⟨⟨b, e2⟩, st2⟩, hr2⟩ : ∃ x, rdNum 1073741824 st1 = x := ⟨_, rfl⟩
      obtain ⟨⟨⟨c, e3⟩, st3⟩, hr3⟩ : ∃ x, rdNum 1073741824 st2 = x := ⟨_, rfl⟩
      obtain ⟨⟨⟨d, e4⟩, st4⟩, hr4⟩ : ∃ x, rdText 2000 st3 = x := ⟨_, rfl⟩
      have hv : openVal s.data.toList = if rdEnd st4 = 0 then .tuple #[fVal a b c ⟨d.toArray⟩, .int .i64 0] else .tuple #[fVal 0 0 0 ⟨#[]⟩, .int .i64 170] := by
        have hrd : reads 7 1073741824 1073741824 2000 (s.data.toList.take (s.data.toList.length - 8)) = ((a, b, c, d), rdEnd st4) := by
          rw [← hleft.out]
          simp only [reads, hr1, hr2, hr3, hr4]
        rw [openVal, openOut, if_pos hgd, hrd]
        split <;> rfl
      have hSb : (S.toList == (s.extract m (m + 8)).toList) = true := by rw [hST]; exact beq_self_eq_true _
      have k1 := fun B W h hL => hr1 ▸ rd_any B ((s.extract 0 m).data.toList, 0) 7 W h hL
      have k2 := fun B W h hL => hr2 ▸ rd_any B st1 1073741824 W h hL
      have k3 := fun B W h hL => hr3 ▸ rd_any B st2 1073741824 W h hL
      have k4 := fun B W h hL => hr4 ▸ text_any B st3 2000 W h hL
      have sBl : (s.extract 0 m).size ≤ 9223372036854775807 := by omega
      rw [hv]
      clear hv hr1 hr2 hr3 hr4 hgd hST
      replace k1 := Lib.hid k1
      replace k2 := Lib.hid k2
      replace k3 := Lib.hid k3
      replace k4 := Lib.hid k4
      replace hm := Lib.hid hm
      unfold fVal
      have hm := hm.out
      go_enter Tryd.func10, Tryd.ntmps10
      go_wp2_with fail
      refine (c1.out _).mono ?_
      rintro en w1 ⟨rfl, b1⟩
      have hz1 := hz.below b1 hz.lt
      have hL1 : Laid w1 := (hL.below hbz hp).below b1 (Nat.lt_of_lt_of_le hp hbz.size)
      replace hbz := hbz.trans (b1.mono hbz.size)
      clear b1 hz hL
      go_wp2_with fail
      refine (new_any _ w1).mono ?_
      rintro en w2 ⟨rfl, hw2⟩
      have hrd : IsRd w2 w1.heap.size ((s.extract 0 m).data.toList, 0) := by rw [← hw2]; exact IsRd.new w1 _ sBl
      have hz2 := hz1.alloc (.cells #[.string (s.extract 0 m), .nilIface] 61)
      have hb2 : Below w.heap.size w w2 := by rw [← hw2]; exact hbz.alloc hbz.size _
      rw [hw2] at hz2
      have hL2 : Laid w2 := by rw [← hw2]; exact hL1.below ((Below.refl w1.heap.size w1).alloc (Nat.le_refl _) _) hL1.pos
      have hgb : w.heap.size < w1.heap.size := hz1.lt
      clear hw2 hz1 hbz hL1
      go_wp2_with fail
      have M2 : Mid w (w2.alloc (.cells #[.int .i64 0, .int .i64 0, .int .i64 0, .string ⟨#[]⟩] 23)) w.heap.size w1.heap.size w2.heap.size ((s.extract 0 m).data.toList, 0) #[.int .i64 0, .int .i64 0, .int .i64 0, .string ⟨#[]⟩] :=
        ⟨hz2.alloc _, hrd.below ((Below.refl _ w2).alloc (Nat.le_refl _) _) hrd.lt, hL2.below ((Below.refl _ w2).alloc (Nat.le_refl _) _) hL2.pos, hb2.alloc hb2.size _, Blk.new w2 _ _, hgb, hrd.lt, hp⟩
      have hr0 : w1.heap.size < w2.heap.size := hrd.lt
      clear hrd hz2 hb2 hL2
      generalize hrb : w1.heap.size = rb at M2 hgb hr0 ⊢
      generalize hfb : w2.heap.size = fb at M2 hr0 ⊢
      replace hrb := Lib.hid hrb
      replace hfb := Lib.hid hfb
      refine (k1.out _ _ M2.2.1 M2.2.2.1).mono ?_
      rintro en w3 ⟨rfl, hrd, hg3⟩
      have M3 := M2.read hg3 hrd
      clear M2 hrd hg3
      obtain ⟨m0, f0⟩ := M3.at_ 0 rfl
      go_wp2_with fail
      have M4 := M3.put 0 (.int .i64 a)
      clear M3 m0 f0
      refine (k2.out _ _ M4.2.1 M4.2.2.1).mono ?_
      rintro en w5 ⟨rfl, hrd, hg3⟩
      have M5 := M4.read hg3 hrd
      clear M4 hrd hg3
      obtain ⟨m1, f1⟩ := M5.at_ 1 rfl
      go_wp2_with fail
      have M6 := M5.put 1 (.int .i64 b)
      clear M5 m1 f1
      refine (k3.out _ _ M6.2.1 M6.2.2.1).mono ?_
      rintro en w7 ⟨rfl, hrd, hg3⟩
      have M7 := M6.read hg3 hrd
      clear M6 hrd hg3
      obtain ⟨m2, f2⟩ := M7.at_ 2 rfl
      go_wp2_with fail
      have M8 := M7.put 2 (.int .i64 c)
      clear M7 m2 f2
      refine (k4.out _ _ M8.2.1 M8.2.2.1).mono ?_
      rintro en w9 ⟨rfl, hrd, hg3⟩
      have M9 := M8.read hg3 hrd
      clear M8 hrd hg3
      obtain ⟨m3, f3⟩ := M9.at_ 3 rfl
      go_wp2_with fail
      have M10 := M9.put 3 (.string ⟨d.toArray⟩)
      clear M9 m3 f3
      refine (end_any rb st4 _ M10.2.1 M10.2.2.1).mono ?_
      rintro en w11 ⟨rfl, hrd, hb11⟩
      have M11 := M10.read (Only.of_below hb11 _) hrd
      clear M10 hrd hb11
      obtain ⟨m0, _⟩ := M11.at_ 0 rfl
      obtain ⟨m1, _⟩ := M11.at_ 1 rfl
      obtain ⟨m2, _⟩ := M11.at_ 2 rfl
      obtain ⟨m3, _⟩ := M11.at_ 3 rfl
      have hz := M11.1
      have hb := M11.2.2.2.1
      have hgf : w.heap.size < fb := by have := M11.2.2.2.2.2; omega
      clear M11
      have z0 : w11.cell? ⟨w.heap.size, 0, none⟩ = some (.int .i64 0) := hz.cell 0
      have z1 : w11.cell? ⟨w.heap.size, 1, none⟩ = some (.int .i64 0) := hz.cell 1
      have z2 : w11.cell? ⟨w.heap.size, 2, none⟩ = some (.int .i64 0) := hz.cell 2
      have z3 : w11.cell? ⟨w.heap.size, 3, none⟩ = some (.string ⟨#[]⟩) := hz.cell 3
      have f0 := hz.free 0
      have f1 := hz.free 1
      have f2 := hz.free 2
      have f3 := hz.free 3
      by_cases hend : rdEnd st4 = 0
      · go_wp2_with fail
        have hz2 := (((hz.put 0 (.int .i64 a)).put 1 (.int .i64 b)).put 2 (.int .i64 c)).put 3 (.string ⟨d.toArray⟩)
        have hb2 := Below.setCell (Below.setCell (Below.setCell (Below.setCell hb (p := ⟨w.heap.size, 0, none⟩) (Nat.le_refl _) (.int .i64 a)) (p := ⟨w.heap.size, 1, none⟩) (Nat.le_refl _) (.int .i64 b)) (p := ⟨w.heap.size, 2, none⟩) (Nat.le_refl _) (.int .i64 c)) (p := ⟨w.heap.size, 3, none⟩) (Nat.le_refl _) (.string ⟨d.toArray⟩)
        refine bodyPost_ret (v := .tuple #[.agg #[.int .i64 a, .int .i64 b, .int .i64 c, .string ⟨d.toArray⟩], .int .i64 0]) ?_ rfl ⟨rfl, hb2⟩
        exact results_row_tmp (p := 2) (u := 3) (ty := 23) (by rfl) _ _ w.heap.size 23 #[.int .i64 a, .int .i64 b, .int .i64 c, .string ⟨d.toArray⟩] (0, 0) _ (by rfl) hz2 Tryd.underlying23 rfl (by kernel_rfl)
      · go_wp2_with fail
        have hz2 := (((hz.put 0 (.int .i64 0)).put 1 (.int .i64 0)).put 2 (.int .i64 0)).put 3 (.string ⟨#[]⟩)
        have hb2 := Below.setCell (Below.setCell (Below.setCell (Below.setCell hb (p := ⟨w.heap.size, 0, none⟩) (Nat.le_refl _) (.int .i64 0)) (p := ⟨w.heap.size, 1, none⟩) (Nat.le_refl _) (.int .i64 0)) (p := ⟨w.heap.size, 2, none⟩) (Nat.le_refl _) (.int .i64 0)) (p := ⟨w.heap.size, 3, none⟩) (Nat.le_refl _) (.string ⟨#[]⟩)
        refine bodyPost_ret (v := .tuple #[.agg #[.int .i64 0, .int .i64 0, .int .i64 0, .string ⟨#[]⟩], .int .i64 170]) ?_ rfl ⟨rfl, hb2⟩
        exact results_row_tmp (p := 2) (u := 3) (ty := 23) (by rfl) _ _ w.heap.size 23 #[.int .i64 0, .int .i64 0, .int .i64 0, .string ⟨#[]⟩] (0, 0) _ (by rfl) hz2 Tryd.underlying23 rfl (by kernel_rfl)
    · rw [openVal_bad (fun h => hST (hg.out.1 h))]
      have hSb : (S.toList == (s.extract m (m + 8)).toList) = false := beq_false_of_ne (fun h => hST (bytes_inj h))
      clear hST
      unfold fVal
      go_enter Tryd.func10, Tryd.ntmps10
      go_wp2_with fail
      refine (c1.out _).mono ?_
      rintro en w1 ⟨rfl, b1⟩
      have hz1 := hz.below b1 hz.lt
      replace hbz := hbz.trans (b1.mono hbz.size)
      clear b1
      have m0 : w1.cell? ⟨w.heap.size, 0, none⟩ = some (.int .i64 0) := hz1.cell 0
      have m1 : w1.cell? ⟨w.heap.size, 1, none⟩ = some (.int .i64 0) := hz1.cell 1
      have m2 : w1.cell? ⟨w.heap.size, 2, none⟩ = some (.int .i64 0) := hz1.cell 2
      have m3 : w1.cell? ⟨w.heap.size, 3, none⟩ = some (.string ⟨#[]⟩) := hz1.cell 3
      have f0 := hz1.free 0
      have f1 := hz1.free 1
      have f2 := hz1.free 2
      have f3 := hz1.free 3
      go_wp2_with fail
      have hz2 := (((hz1.put 0 (.int .i64 0)).put 1 (.int .i64 0)).put 2 (.int .i64 0)).put 3 (.string ⟨#[]⟩)
      have hb2 := Below.setCell (Below.setCell (Below.setCell (Below.setCell hbz (p := ⟨w.heap.size, 0, none⟩) (Nat.le_refl _) (.int .i64 0)) (p := ⟨w.heap.size, 1, none⟩) (Nat.le_refl _) (.int .i64 0)) (p := ⟨w.heap.size, 2, none⟩) (Nat.le_refl _) (.int .i64 0)) (p := ⟨w.heap.size, 3, none⟩) (Nat.le_refl _) (.string ⟨#[]⟩)
      refine bodyPost_ret (v := .tuple #[.agg #[.int .i64 0, .int .i64 0, .int .i64 0, .string ⟨#[]⟩], .int .i64 171]) ?_ rfl ⟨rfl, hb2⟩
      exact results_row_tmp (p := 2) (u := 3) (ty := 23) (by rfl) _ _ w.heap.size 23 #[.int .i64 0, .int .i64 0, .int .i64 0, .string ⟨#[]⟩] (0, 0) _ (by rfl) hz2 Tryd.underlying23 rfl (by kernel_rfl)
end Go.Proofs.YtndmcbphdknihaaDoor.Frame

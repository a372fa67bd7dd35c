/- Write. -/
import Derived.Test.YtkghlbpkdkonbaaGreatDiskWa
import Derived.Maps.AppendAt
namespace Go.Proofs.YtkghlbpkdkonbaaGreat.Disk
open Go Go.RowKit Go.Maps Mem

set_option maxRecDepth 100000 in
theorem infoI : (Tryz.prog.info? 3).map (fun i => (i.zero, i.size, i.bytes)) = some (some (.int .i64 0), 1, 8) := by kernel_rfl
abbrev keysV (L : List (Nat × ByteArray)) : List Value := L.map fun p => Value.int .i64 (p.1 : Int)
set_option maxRecDepth 100000 in
theorem keysV_eq (L : List (Nat × ByteArray)) : keysV L = (L.map fun p => p.1).map fun (n : Nat) => Value.int .i64 (n : Int) := by simp [keysV]
set_option maxRecDepth 100000 in
theorem putL_keysV (L : List (Nat × ByteArray)) (n : Nat) (s : ByteArray) : keysV (putL L n s) = if (find L n).isSome = true then keysV L else keysV L ++ [.int .i64 (n : Int)] := by
  rw [keysV_eq, putL_keys, keysV_eq]
  split
  · rfl
  · rw [List.map_append]; rfl
section
variable {F : Nat → Prop} {w w' : World} {b : Nat} {d d' : Dk} {sb lb bb sc : Nat} {ov : Value}
set_option maxRecDepth 100000 in
theorem Core.ordLen (h : Core F w b d sb lb bb sc ov) : d.L.length ≤ 9223372036854775807 := by
  rcases h.2.2.2.2.1.2 with ⟨_, hz⟩ | ⟨g, cap, cur, _, _, _, hle, hm, _⟩
  · omega
  · unfold maxLen at hm; omega
set_option maxRecDepth 100000 in
/-- a sector that is loose is written anew -/
theorem put_old (h : Core F w b d sb lb bb sc ov) (hf : Fit d) {k : Nat} (hk : k < d.stays.length) {s : ByteArray} (hs : s.size = 64) (hfi : (find d.L k).isSome = true) :
    ∃ w2, (Instr.mapUpdate 86 (.map (some lb)) (.int .i64 (k : Int)) (.string s)).run Tryz.prog w = .ok () w2 ∧ IsDk F w2 b { d with L := putL d.L k s } ∧ Keeps F w w2 := by
  have hne := h.ne
  have hfew := hf.few
  have hlen := hf.len
  obtain ⟨h1, h2, h3, h4, h5, h6, h7, h8, h9⟩ := h
  obtain ⟨w2, hr, hm, hg⟩ := h3.store k (by omega) s (by omega) (by omega)
  have kk : Keeps (fun j => j = lb) w w2 := Keeps.of_grown hg (fun j e => by injection e with e; exact e.symm)
  have hkv : keysV (putL d.L k s) = keysV d.L := by rw [putL_keysV, if_pos hfi]
  have hle : (putL d.L k s).length = d.L.length := by have := congrArg List.length hkv; simpa using this
  refine ⟨w2, hr, ⟨sb, lb, bb, sc, ov, h1.keeps kk (Ne.symm hne.2.1), own_keeps h2 kk (fun j e => by injection e with e; subst e; exact hne.2.2.2.2.1), hm, h4.keeps kk (Ne.symm h6), ?_, h6, h7, h8, fun i hi => Nat.lt_of_lt_of_le (h9 i hi) kk.size⟩, kk.mono (fun i e => e ▸ h7.2.2.1)⟩
  show w2.ownsRow 0 _ 1 ov (putL d.L k s).length (keysV (putL d.L k s))
  rw [hkv, hle]
  exact own_keeps h5 kk hne.2.2.2.2.2.2.1
set_option maxRecDepth 100000 in
/-- a sector that was not loose: its number goes behind the others -/
theorem put_new (h : Core F w b d sb lb bb sc ov) (hf : Fit d) {k : Nat} (hk : k < d.stays.length) {s : ByteArray} (hs : s.size = 64) (hfi : (find d.L k).isSome = false) {v1 : Value} {w1 : World}
    (ho : w1.ownsRow 0 3 1 v1 (d.L.length + 1) (keysV d.L ++ [.int .i64 (k : Int)])) (hg1 : (w.alloc (.cells #[.int .i64 (k : Int)] 3)).grownBy w1 ov.ownBlock) (ha : v1.ownBlock = ov.ownBlock ∨ v1.ownBlock = some (w.alloc (.cells #[.int .i64 (k : Int)] 3)).heap.size) :
    w1.cell? ⟨b, 2, none⟩ = some ov ∧ w1.frozen? ⟨b, 2, none⟩ = false ∧ (w1.setCell ⟨b, 2, none⟩ v1).cell? ⟨b, 1, none⟩ = some (.map (some lb)) ∧
    ∃ w2, (Instr.mapUpdate 86 (.map (some lb)) (.int .i64 (k : Int)) (.string s)).run Tryz.prog (w1.setCell ⟨b, 2, none⟩ v1) = .ok () w2 ∧
      ∃ F' : Nat → Prop, IsDk F' w2 b { d with L := putL d.L k s } ∧ Keeps F w w2 ∧ ∀ i, F' i → F i ∨ w.heap.size ≤ i := by
  have hne := h.ne
  have hfew := hf.few
  have hlen := hf.len
  obtain ⟨h1, h2, h3, h4, h5, h6, h7, h8, h9⟩ := h
  have ka : Keeps (fun j => ov.ownBlock = some j) w w1 := ((Keeps.refl _ w).alloc _).same (Keeps.of_grown hg1 (fun j e => e))
  have hB1 := h1.keeps ka (fun e => hne.2.2.2.1 _ e rfl)
  have kW : Keeps (fun j => j = b) w1 (w1.setCell ⟨b, 2, none⟩ v1) := (Keeps.refl (fun j => j = b) w1).put (g := b) (Or.inl rfl) 2 v1
  have k2 : Keeps (fun j => ov.ownBlock = some j ∨ j = b) w (w1.setCell ⟨b, 2, none⟩ v1) := (ka.mono (fun _ e => Or.inl e)).same (kW.mono (fun _ e => Or.inr e))
  have hBW := hB1.put 2 v1
  have hmW := h3.keeps k2 (fun e => e.elim (fun e => hne.2.2.2.2.2.2.1 _ e rfl) hne.2.1)
  obtain ⟨w2, hr, hm, hg⟩ := hmW.store k (by omega) s (by omega) (by omega)
  have kk : Keeps (fun j => j = lb) (w1.setCell ⟨b, 2, none⟩ v1) w2 := Keeps.of_grown hg (fun j e => by injection e with e; exact e.symm)
  have k3 : Keeps (fun j => (ov.ownBlock = some j ∨ j = b) ∨ j = lb) w w2 := (k2.mono (fun _ e => Or.inl e)).same (kk.mono (fun _ e => Or.inr e))
  have hkv : keysV (putL d.L k s) = keysV d.L ++ [.int .i64 (k : Int)] := by rw [putL_keysV, if_neg (by rw [hfi]; decide)]
  have hle : (putL d.L k s).length = d.L.length + 1 := by have := congrArg List.length hkv; simpa using this
  have hsz : w.heap.size ≤ (w.alloc (.cells #[.int .i64 (k : Int)] 3)).heap.size := ((Keeps.refl (fun _ => False) w).alloc _).size
  have hv1lt : ∀ j, v1.ownBlock = some j → j < w1.heap.size := fun j e => (ho.lt j e).2
  have hv1b : ∀ j, v1.ownBlock = some j → j ≠ b := own_ne ho hB1 (by decide)
  have hv1l : ∀ j, v1.ownBlock = some j → j ≠ lb := by
    obtain ⟨D, h3', _⟩ := h3.keeps ka (fun e => hne.2.2.2.2.2.2.1 _ e rfl)
    exact own_map_ne ho h3'
  refine ⟨hB1.cell 2, hB1.free 2, hBW.cell 1, w2, hr, fun i => F i ∨ v1.ownBlock = some i, ⟨sb, lb, bb, sc, v1, hBW.keeps kk (Ne.symm hne.2.1), own_keeps h2 k3 (fun j e => ?_), hm, h4.keeps k3 ?_, ?_, h6, ⟨Or.inl h7.1, Or.inl h7.2.1, Or.inl h7.2.2.1, Or.inl h7.2.2.2⟩, fun j e => Or.inr e, fun i hi => ?_⟩, k3.mono (fun i e => ?_), fun i hi => ?_⟩
  · injection e with e; subst e
    exact fun e => e.elim (fun e => e.elim (fun e => hne.2.2.2.2.2.2.2.2 _ e rfl) hne.1) hne.2.2.2.2.1
  · exact fun e => e.elim (fun e => e.elim (fun e => hne.2.2.2.2.2.2.2.1 _ e rfl) hne.2.2.1) (Ne.symm h6)
  · show w2.ownsRow 0 _ 1 v1 (putL d.L k s).length (keysV (putL d.L k s))
    rw [hkv, hle]
    exact own_keeps (own_keeps ho kW hv1b) kk hv1l
  · rcases hi with hi | hi
    · exact Nat.lt_of_lt_of_le (h9 i hi) k3.size
    · exact Nat.lt_of_lt_of_le (hv1lt i hi) (Nat.le_trans kW.size kk.size)
  · rcases e with (e | e) | e
    · exact h8 i e
    · exact e ▸ h7.1
    · exact e ▸ h7.2.2.1
  · rcases hi with hi | hi
    · exact Or.inl hi
    · rcases ha with e | e
      · exact Or.inl (h8 i (e ▸ hi))
      · rw [e] at hi
        injection hi with hi
        exact Or.inr (hi ▸ hsz)

set_option maxRecDepth 100000 in
set_option maxHeartbeats 8000000 in
theorem write_any (h : IsDk F w b d) (hn : Num d) (hf : Fit d) (n : Int) (s : ByteArray) : Calls Tryz.prog 48 #[.pointer (some ⟨b, 0, none⟩), .int .i64 n, .string s] w fun e w' => DkPost F w b (.int .i64 (writeD d n s).2) (writeD d n s).1 e w' := by
  have km := Lib.hid (may_any h n)
  have fin := Lib.hid h
  obtain ⟨sb, lb, bb, sc, ov, h⟩ := h.core
  have c1 : w.cell? ⟨b, 1, none⟩ = some (.map (some lb)) := h.1.cell 1
  have c2 : w.cell? ⟨b, 2, none⟩ = some ov := h.1.cell 2
  have c3 : w.cell? ⟨b, 3, none⟩ = some (.map (some bb)) := h.1.cell 3
  have hq0 : ∀ i, F i → F i ∨ w.heap.size ≤ i := fun i hi => Or.inl hi
  replace hq0 := Lib.hid hq0
  unfold writeD
  by_cases he : mayE d n = 0
  · obtain ⟨_, h0, hlt⟩ := mayE_ok he
    rw [if_neg (by rw [he]; decide)]
    rw [he] at km
    replace he := Lib.hid he
    obtain ⟨k, rfl⟩ := Int.eq_ofNat_of_zero_le h0
    rw [Int.toNat_natCast]
    have hkl : k < d.stays.length := by omega
    have hfew := hf.few
    by_cases hs : s.size = 64
    · rw [if_neg (fun e => e hs)]
      have hs1 : (s.size : Int) = 64 := by omega
      have lk1 := h.2.2.2.1.look k (by omega)
      cases hb : d.bad k with
      | true =>
        rw [hb] at lk1
        rw [if_pos rfl]
        replace hb := Lib.hid hb
        replace hs := Lib.hid hs
        clear h hf hn
        go_enter Tryz.func48, Tryz.ntmps48
        go_wp2_with fail
        refine km.out.mono ?_
        rintro e w1 ⟨rfl, hw⟩
        subst hw
        go_wp2_with fail
        go_ret
        exact ⟨rfl, _, fin.out, Keeps.refl _ _, hq0.out⟩
      | false =>
        rw [hb] at lk1
        rw [if_neg (by decide)]
        have lk2 := h.2.2.1.look k (by omega) true
        simp only [if_true] at lk2
        have hf2 : Fit { d with L := putL d.L k s } := hf.putL hkl hs
        have hn2 : Num { d with L := putL d.L k s } := ⟨hn.steps, hn.armed, hn.marks⟩
        replace hb := Lib.hid hb
        cases hfi : (find d.L k).isSome with
        | true =>
          rw [hfi] at lk2
          obtain ⟨w2, hr, hdk, kk2⟩ := put_old h hf hkl hs hfi
          have hF : Hid (∀ i, F i → F i ∨ w.heap.size ≤ i) := hq0
          replace hdk := Lib.hid hdk
          replace kk2 := Lib.hid kk2
          replace hs := Lib.hid hs
          generalize (find d.L k).getD ⟨#[]⟩ = old at lk2
          clear h hf hfi
          go_enter Tryz.func48, Tryz.ntmps48
          go_wp2_with fail
          refine km.out.mono ?_
          rintro e w1 ⟨rfl, hw⟩
          subst hw
          have kst := Lib.hid (step_any hdk.out hn2)
          go_wp2_with fail
          refine kst.out.mono ?_
          rintro e w3 ⟨rfl, hd3, k3⟩
          replace hd3 := Lib.hid hd3
          replace k3 := Lib.hid (kk2.out.trans k3 hF.out)
          by_cases ha : d.armed = 1
          · have c6 : w3.cell? ⟨b, 6, none⟩ = some (.string d.keep) := by
              obtain ⟨_, _, _, _, _, hc⟩ := hd3.out.core
              exact hc.1.cell 6
            have kgo := Lib.hid (goes_any hd3.out hf2.step d.keep)
            rw [show decide (d.armed = 1) = true by simp [ha]]
            replace ha := Lib.hid ha
            go_wp2_with fail
            refine kgo.out.mono ?_
            rintro e w4 ⟨rfl, hd4, k4⟩
            replace hd4 := Lib.hid hd4
            replace k4 := Lib.hid (k3.out.trans k4 hF.out)
            go_wp2_with fail
            go_ret
            rw [show stepped { d with L := putL d.L k s } id = (goesD (stepD { d with L := putL d.L k s }) d.keep, 2) from if_pos ha.out]
            exact ⟨rfl, _, hd4.out, k4.out, hF.out⟩
          · rw [show decide (d.armed = 1) = false by simp [ha]]
            replace ha := Lib.hid ha
            go_wp2_with fail
            go_ret
            rw [show stepped { d with L := putL d.L k s } id = (stepD { d with L := putL d.L k s }, 0) from if_neg ha.out]
            exact ⟨rfl, _, hd3.out, k3.out, hF.out⟩
        | false =>
          rw [hfi] at lk2
          have hput := fun v1 w1 ho hg ha => put_new h hf hkl hs hfi (v1 := v1) (w1 := w1) ho hg ha
          have hlen := hf.len
          have hown := h.2.2.2.2.1
          obtain ⟨A, oc, rfl⟩ := own_slice hown
          replace hput := Lib.hid hput
          replace hs := Lib.hid hs
          generalize (find d.L k).getD ⟨#[]⟩ = old at lk2
          replace hown := Lib.hid hown
          obtain ⟨i0, hinf, hz0, hz1, hz2⟩ := info_parts infoI
          clear h hf hfi
          go_enter Tryz.func48, Tryz.ntmps48
          go_wp2_with fail
          refine km.out.mono ?_
          rintro e w0 ⟨rfl, hw⟩
          subst hw
          go_wp2_with (first
            | (at_builtin; refine wpList_append_own_at _ rfl (.tmp 42) (.tmp 44) _ rfl 0 3 i0 (.int .i64 0) 1 8 Tryz.underlying50 hinf hz0 hz1 hz2 rfl (by decide) (.slice A d.L.length oc) d.L.length _ rfl (hown.out.alloc _) ⟨w0.heap.size, 0, none⟩ 1 1 [.int .i64 (k : Int)] rfl rfl (cell_one_new _ _ _) (by simp [Value.oneCell']) (by unfold maxLen; omega) (by omega) (by simp) ?_; intro v1 w11 hown1 hg1 hn1 ha1; obtain ⟨A1, oc1, rfl⟩ := own_slice hown1; obtain ⟨e1, e2, e3, w2, hr, F', hdk, kk2, hF⟩ := hput.out _ w11 hown1 hg1 ha1; replace hdk := Lib.hid hdk; replace kk2 := Lib.hid kk2; replace hF := Lib.hid hF; clear hown1 hg1 hn1 ha1))
          have kst := Lib.hid (step_any hdk.out hn2)
          go_wp2_with fail
          refine kst.out.mono ?_
          rintro e w3 ⟨rfl, hd3, k3⟩
          replace hd3 := Lib.hid hd3
          replace k3 := Lib.hid (kk2.out.trans k3 hF.out)
          by_cases ha : d.armed = 1
          · have c6 : w3.cell? ⟨b, 6, none⟩ = some (.string d.keep) := by
              obtain ⟨_, _, _, _, _, hc⟩ := hd3.out.core
              exact hc.1.cell 6
            have kgo := Lib.hid (goes_any hd3.out hf2.step d.keep)
            rw [show decide (d.armed = 1) = true by simp [ha]]
            replace ha := Lib.hid ha
            go_wp2_with fail
            refine kgo.out.mono ?_
            rintro e w4 ⟨rfl, hd4, k4⟩
            replace hd4 := Lib.hid hd4
            replace k4 := Lib.hid (k3.out.trans k4 hF.out)
            go_wp2_with fail
            go_ret
            rw [show stepped { d with L := putL d.L k s } id = (goesD (stepD { d with L := putL d.L k s }) d.keep, 2) from if_pos ha.out]
            exact ⟨rfl, _, hd4.out, k4.out, hF.out⟩
          · rw [show decide (d.armed = 1) = false by simp [ha]]
            replace ha := Lib.hid ha
            go_wp2_with fail
            go_ret
            rw [show stepped { d with L := putL d.L k s } id = (stepD { d with L := putL d.L k s }, 0) from if_neg ha.out]
            exact ⟨rfl, _, hd3.out, k3.out, hF.out⟩
    · rw [if_pos hs]
      have hs1 : ¬ (s.size : Int) = 64 := by omega
      clear h hf hn hfew
      go_enter Tryz.func48, Tryz.ntmps48
      go_wp2_with fail
      refine km.out.mono ?_
      rintro e w1 ⟨rfl, hw⟩
      subst hw
      go_wp2_with fail
      go_ret
      exact ⟨rfl, _, fin.out, Keeps.refl _ _, hq0.out⟩
  · rw [if_pos he]
    have hne2 : (mayE d n != 0) = true := by simpa using he
    generalize mayE d n = ee at km hne2
    clear he h hf hn
    go_enter Tryz.func48, Tryz.ntmps48
    go_wp2_with fail
    refine km.out.mono ?_
    rintro e w1 ⟨rfl, hw⟩
    subst hw
    go_wp2_with fail
    go_ret
    exact ⟨rfl, _, fin.out, Keeps.refl _ _, hq0.out⟩
end
end Go.Proofs.YtkghlbpkdkonbaaGreat.Disk

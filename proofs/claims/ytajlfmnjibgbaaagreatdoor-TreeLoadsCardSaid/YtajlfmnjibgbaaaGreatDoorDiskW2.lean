/- Write. -/
import Derived.Test.YtajlfmnjibgbaaaGreatDoorDiskWa
import Derived.Maps.AppendAt
import Derived.Deep.RegionHeld3
import Derived.Test.YtajlfmnjibgbaaaGreatDoorShelf
import Derived.Lib.Join
import Derived.Laws.CopyOwn
import Derived.OwnWalk
import Derived.IntWalk
import Derived.Test.YtajlfmnjibgbaaaGreatDoorDiskPl
import Derived.Shelf.SlMaps.Clone
namespace Go.Proofs.YtajlfmnjibgbaaaGreatDoor.Disk
open Go Go.RowKit Go.Maps Mem

set_option maxRecDepth 100000 in
theorem infoI : (Tryz.prog.info? 3).map (fun i => (i.zero, i.size, i.bytes)) = some (some (.int .i64 0), 1, 8) := by kernel_rfl
abbrev keysV (L : List (Nat × ByteArray)) : List Value := L.map fun p => Value.int .i64 (p.1 : Int)
set_option maxRecDepth 100000 in
theorem keysV_eq (L : List (Nat × ByteArray)) : keysV L = (L.map fun p => p.1).map fun (n : Nat) => Value.int .i64 (n : Int) := by simp [keysV]
set_option maxRecDepth 100000 in
theorem putL_keysV (L : List (Nat × ByteArray)) (n : Nat) (s : ByteArray) : keysV (putL L n s) = if (find L n).isSome = true then keysV L else keysV L ++ [.int .i64 (n : Int)] := by
  rw [keysV_eq, putL_keys, keysV_eq]
  split
  · rfl
  · rw [List.map_append]; rfl
section
variable {F : Nat → Prop} {w w' : World} {b : Nat} {d d' : Dk} {sb lb bb sc : Nat} {ov : Value}
set_option maxRecDepth 100000 in
/-- a sector that is loose is written anew -/
theorem put_old (h : Core F w b d sb lb bb sc ov) (hf : Fit d) {k : Nat} (hk : k < d.stays.length) {s : ByteArray} (hs : s.size = 64) (hfi : (find d.L k).isSome = true) :
    ∃ w2, (Instr.mapUpdate 110 (.map (some lb)) (.int .i64 (k : Int)) (.string s)).run Tryz.prog w = .ok () w2 ∧ IsDk F w2 b { d with L := putL d.L k s } ∧ Keeps F w w2 := by
  have hne := h.ne
  have hfew := hf.few
  have hlen := hf.len
  obtain ⟨h1, h2, h3, h4, h5, h6, h7, h8, h9⟩ := h
  obtain ⟨w2, hr, hm, hg⟩ := h3.store k (by omega) s (by omega) (by omega)
  have kk : Keeps (fun j => j = lb) w w2 := Keeps.of_grown hg (fun j e => by injection e with e; exact e.symm)
  have hkv : keysV (putL d.L k s) = keysV d.L := by rw [putL_keysV, if_pos hfi]
  have hle : (putL d.L k s).length = d.L.length := by have := congrArg List.length hkv; simpa using this
  refine ⟨w2, hr, ⟨sb, lb, bb, sc, ov, h1.keeps kk (Ne.symm hne.2.1), own_keeps h2 kk (fun j e => by injection e with e; subst e; exact hne.2.2.2.2.1), hm, h4.keeps kk (Ne.symm h6), ?_, h6, h7, h8, fun i hi => Nat.lt_of_lt_of_le (h9 i hi) kk.size⟩, kk.mono (fun i e => e ▸ h7.2.2.1)⟩
  show w2.ownsRow 0 _ 1 ov (putL d.L k s).length (keysV (putL d.L k s))
  rw [hkv, hle]
  exact own_keeps h5 kk hne.2.2.2.2.2.2.1
set_option maxRecDepth 100000 in
/-- a sector that was not loose: its number goes behind the others -/
theorem put_new (h : Core F w b d sb lb bb sc ov) (hf : Fit d) {k : Nat} (hk : k < d.stays.length) {s : ByteArray} (hs : s.size = 64) (hfi : (find d.L k).isSome = false) {v1 : Value} {w1 : World}
    (ho : w1.ownsRow 0 3 1 v1 (d.L.length + 1) (keysV d.L ++ [.int .i64 (k : Int)])) (hg1 : (w.alloc (.cells #[.int .i64 (k : Int)] 3)).grownBy w1 ov.ownBlock) (ha : v1.ownBlock = ov.ownBlock ∨ v1.ownBlock = some (w.alloc (.cells #[.int .i64 (k : Int)] 3)).heap.size) :
    w1.cell? ⟨b, 2, none⟩ = some ov ∧ w1.frozen? ⟨b, 2, none⟩ = false ∧ (w1.setCell ⟨b, 2, none⟩ v1).cell? ⟨b, 1, none⟩ = some (.map (some lb)) ∧
    ∃ w2, (Instr.mapUpdate 110 (.map (some lb)) (.int .i64 (k : Int)) (.string s)).run Tryz.prog (w1.setCell ⟨b, 2, none⟩ v1) = .ok () w2 ∧
      ∃ F' : Nat → Prop, IsDk F' w2 b { d with L := putL d.L k s } ∧ Keeps F w w2 ∧ ∀ i, F' i → F i ∨ w.heap.size ≤ i := by
  have hne := h.ne
  have hfew := hf.few
  have hlen := hf.len
  obtain ⟨h1, h2, h3, h4, h5, h6, h7, h8, h9⟩ := h
  have ka : Keeps (fun j => ov.ownBlock = some j) w w1 := ((Keeps.refl _ w).alloc _).same (Keeps.of_grown hg1 (fun j e => e))
  have hB1 := h1.keeps ka (fun e => hne.2.2.2.1 _ e rfl)
  have kW : Keeps (fun j => j = b) w1 (w1.setCell ⟨b, 2, none⟩ v1) := (Keeps.refl (fun j => j = b) w1).put (g := b) (Or.inl rfl) 2 v1
  have k2 : Keeps (fun j => ov.ownBlock = some j ∨ j = b) w (w1.setCell ⟨b, 2, none⟩ v1) := (ka.mono (fun _ e => Or.inl e)).same (kW.mono (fun _ e => Or.inr e))
  have hBW := hB1.put 2 v1
  have hmW := h3.keeps k2 (fun e => e.elim (fun e => hne.2.2.2.2.2.2.1 _ e rfl) hne.2.1)
  obtain ⟨w2, hr, hm, hg⟩ := hmW.store k (by omega) s (by omega) (by omega)
  have kk : Keeps (fun j => j = lb) (w1.setCell ⟨b, 2, none⟩ v1) w2 := Keeps.of_grown hg (fun j e => by injection e with e; exact e.symm)
  have k3 : Keeps (fun j => (ov.ownBlock = some j ∨ j = b) ∨ j = lb) w w2 := (k2.mono (fun _ e => Or.inl e)).same (kk.mono (fun _ e => Or.inr e))
  have hkv : keysV (putL d.L k s) = keysV d.L ++ [.int .i64 (k : Int)] := by rw [putL_keysV, if_neg (by rw [hfi]; decide)]
  have hle : (putL d.L k s).length = d.L.length + 1 := by have := congrArg List.length hkv; simpa using this
  have hsz : w.heap.size ≤ (w.alloc (.cells #[.int .i64 (k : Int)] 3)).heap.size := ((Keeps.refl (fun _ => False) w).alloc _).size
  have hv1lt : ∀ j, v1.ownBlock = some j → j < w1.heap.size := fun j e => (ho.lt j e).2
  have hv1b : ∀ j, v1.ownBlock = some j → j ≠ b := own_ne ho hB1 (by decide)
  have hv1l : ∀ j, v1.ownBlock = some j → j ≠ lb := by
    obtain ⟨D, h3', _⟩ := h3.keeps ka (fun e => hne.2.2.2.2.2.2.1 _ e rfl)
    exact own_map_ne ho h3'
  refine ⟨hB1.cell 2, hB1.free 2, hBW.cell 1, w2, hr, fun i => F i ∨ v1.ownBlock = some i, ⟨sb, lb, bb, sc, v1, hBW.keeps kk (Ne.symm hne.2.1), own_keeps h2 k3 (fun j e => ?_), hm, h4.keeps k3 ?_, ?_, h6, ⟨Or.inl h7.1, Or.inl h7.2.1, Or.inl h7.2.2.1, Or.inl h7.2.2.2⟩, fun j e => Or.inr e, fun i hi => ?_⟩, k3.mono (fun i e => ?_), fun i hi => ?_⟩
  · injection e with e; subst e
    exact fun e => e.elim (fun e => e.elim (fun e => hne.2.2.2.2.2.2.2.2 _ e rfl) hne.1) hne.2.2.2.2.1
  · exact fun e => e.elim (fun e => e.elim (fun e => hne.2.2.2.2.2.2.2.1 _ e rfl) hne.2.2.1) (Ne.symm h6)
  · show w2.ownsRow 0 _ 1 v1 (putL d.L k s).length (keysV (putL d.L k s))
    rw [hkv, hle]
    exact own_keeps (own_keeps ho kW hv1b) kk hv1l
  · rcases hi with hi | hi
    · exact Nat.lt_of_lt_of_le (h9 i hi) k3.size
    · exact Nat.lt_of_lt_of_le (hv1lt i hi) (Nat.le_trans kW.size kk.size)
  · rcases e with (e | e) | e
    · exact h8 i e
    · exact e ▸ h7.1
    · exact e ▸ h7.2.2.1
  · rcases hi with hi | hi
    · exact Or.inl hi
    · rcases ha with e | e
      · exact Or.inl (h8 i (e ▸ hi))
      · rw [e] at hi
        injection hi with hi
        exact Or.inr (hi ▸ hsz)

set_option maxRecDepth 100000 in
set_option maxHeartbeats 8000000 in
theorem write_any (h : IsDk F w b d) (hn : Num d) (hf : Fit d) (n : Int) (s : ByteArray) : Calls Tryz.prog 41 #[.pointer (some ⟨b, 0, none⟩), .int .i64 n, .string s] w fun e w' => DkPost F w b (.int .i64 (writeD d n s).2) (writeD d n s).1 e w' := by
  have km := Lib.hid (may_any h n)
  have fin := Lib.hid h
  obtain ⟨sb, lb, bb, sc, ov, h⟩ := h.core
  have c1 : w.cell? ⟨b, 1, none⟩ = some (.map (some lb)) := h.1.cell 1
  have c2 : w.cell? ⟨b, 2, none⟩ = some ov := h.1.cell 2
  have c3 : w.cell? ⟨b, 3, none⟩ = some (.map (some bb)) := h.1.cell 3
  have hq0 : ∀ i, F i → F i ∨ w.heap.size ≤ i := fun i hi => Or.inl hi
  replace hq0 := Lib.hid hq0
  unfold writeD
  by_cases he : mayE d n = 0
  · obtain ⟨_, h0, hlt⟩ := mayE_ok he
    rw [if_neg (by rw [he]; decide)]
    rw [he] at km
    replace he := Lib.hid he
    obtain ⟨k, rfl⟩ := Int.eq_ofNat_of_zero_le h0
    rw [Int.toNat_natCast]
    have hkl : k < d.stays.length := by omega
    have hfew := hf.few
    by_cases hs : s.size = 64
    · rw [if_neg (fun e => e hs)]
      have hs1 : (s.size : Int) = 64 := by omega
      have lk1 := h.2.2.2.1.look k (by omega)
      cases hb : d.bad k with
      | true =>
        rw [hb] at lk1
        rw [if_pos rfl]
        replace hb := Lib.hid hb
        replace hs := Lib.hid hs
        clear h hf hn
        go_enter Tryz.func41, Tryz.ntmps41
        go_wp2_with fail
        refine km.out.mono ?_
        rintro e w1 ⟨rfl, hw⟩
        subst hw
        go_wp2_with fail
        go_ret
        exact ⟨rfl, _, fin.out, Keeps.refl _ _, hq0.out⟩
      | false =>
        rw [hb] at lk1
        rw [if_neg (by decide)]
        have lk2 := h.2.2.1.look k (by omega) true
        simp only [if_true] at lk2
        have hf2 : Fit { d with L := putL d.L k s } := hf.putL hkl hs
        have hn2 : Num { d with L := putL d.L k s } := ⟨hn.steps, hn.armed, hn.marks⟩
        replace hb := Lib.hid hb
        cases hfi : (find d.L k).isSome with
        | true =>
          rw [hfi] at lk2
          obtain ⟨w2, hr, hdk, kk2⟩ := put_old h hf hkl hs hfi
          have hF : Hid (∀ i, F i → F i ∨ w.heap.size ≤ i) := hq0
          replace hdk := Lib.hid hdk
          replace kk2 := Lib.hid kk2
          replace hs := Lib.hid hs
          generalize (find d.L k).getD ⟨#[]⟩ = old at lk2
          clear h hf hfi
          go_enter Tryz.func41, Tryz.ntmps41
          go_wp2_with fail
          refine km.out.mono ?_
          rintro e w1 ⟨rfl, hw⟩
          subst hw
          have kst := Lib.hid (step_any hdk.out hn2)
          go_wp2_with fail
          refine kst.out.mono ?_
          rintro e w3 ⟨rfl, hd3, k3⟩
          replace hd3 := Lib.hid hd3
          replace k3 := Lib.hid (kk2.out.trans k3 hF.out)
          by_cases ha : d.armed = 1
          · have c6 : w3.cell? ⟨b, 6, none⟩ = some (.string d.keep) := by
              obtain ⟨_, _, _, _, _, hc⟩ := hd3.out.core
              exact hc.1.cell 6
            have kgo := Lib.hid (goes_any hd3.out hf2.step d.keep)
            rw [show decide (d.armed = 1) = true by simp [ha]]
            replace ha := Lib.hid ha
            go_wp2_with fail
            refine kgo.out.mono ?_
            rintro e w4 ⟨rfl, hd4, k4⟩
            replace hd4 := Lib.hid hd4
            replace k4 := Lib.hid (k3.out.trans k4 hF.out)
            go_wp2_with fail
            go_ret
            rw [show stepped { d with L := putL d.L k s } id = (goesD (stepD { d with L := putL d.L k s }) d.keep, 2) from if_pos ha.out]
            exact ⟨rfl, _, hd4.out, k4.out, hF.out⟩
          · rw [show decide (d.armed = 1) = false by simp [ha]]
            replace ha := Lib.hid ha
            go_wp2_with fail
            go_ret
            rw [show stepped { d with L := putL d.L k s } id = (stepD { d with L := putL d.L k s }, 0) from if_neg ha.out]
            exact ⟨rfl, _, hd3.out, k3.out, hF.out⟩
        | false =>
          rw [hfi] at lk2
          have hput := fun v1 w1 ho hg ha => put_new h hf hkl hs hfi (v1 := v1) (w1 := w1) ho hg ha
          have hlen := hf.len
          have hown := h.2.2.2.2.1
          obtain ⟨A, oc, rfl⟩ := own_slice hown
          replace hput := Lib.hid hput
          replace hs := Lib.hid hs
          generalize (find d.L k).getD ⟨#[]⟩ = old at lk2
          replace hown := Lib.hid hown
          obtain ⟨i0, hinf, hz0, hz1, hz2⟩ := info_parts infoI
          clear h hf hfi
          go_enter Tryz.func41, Tryz.ntmps41
          go_wp2_with fail
          refine km.out.mono ?_
          rintro e w0 ⟨rfl, hw⟩
          subst hw
          go_wp2_with (first
            | (at_builtin; refine wpList_append_own_at _ rfl (.tmp 42) (.tmp 44) _ rfl 0 3 i0 (.int .i64 0) 1 8 Tryz.underlying41 hinf hz0 hz1 hz2 rfl (by decide) (.slice A d.L.length oc) d.L.length _ rfl (hown.out.alloc _) ⟨w0.heap.size, 0, none⟩ 1 1 [.int .i64 (k : Int)] rfl rfl (cell_one_new _ _ _) (by simp [Value.oneCell']) (by unfold maxLen; omega) (by omega) (by simp) ?_; intro v1 w11 hown1 hg1 hn1 ha1; obtain ⟨A1, oc1, rfl⟩ := own_slice hown1; obtain ⟨e1, e2, e3, w2, hr, F', hdk, kk2, hF⟩ := hput.out _ w11 hown1 hg1 ha1; replace hdk := Lib.hid hdk; replace kk2 := Lib.hid kk2; replace hF := Lib.hid hF; clear hown1 hg1 hn1 ha1))
          have kst := Lib.hid (step_any hdk.out hn2)
          go_wp2_with fail
          refine kst.out.mono ?_
          rintro e w3 ⟨rfl, hd3, k3⟩
          replace hd3 := Lib.hid hd3
          replace k3 := Lib.hid (kk2.out.trans k3 hF.out)
          by_cases ha : d.armed = 1
          · have c6 : w3.cell? ⟨b, 6, none⟩ = some (.string d.keep) := by
              obtain ⟨_, _, _, _, _, hc⟩ := hd3.out.core
              exact hc.1.cell 6
            have kgo := Lib.hid (goes_any hd3.out hf2.step d.keep)
            rw [show decide (d.armed = 1) = true by simp [ha]]
            replace ha := Lib.hid ha
            go_wp2_with fail
            refine kgo.out.mono ?_
            rintro e w4 ⟨rfl, hd4, k4⟩
            replace hd4 := Lib.hid hd4
            replace k4 := Lib.hid (k3.out.trans k4 hF.out)
            go_wp2_with fail
            go_ret
            rw [show stepped { d with L := putL d.L k s } id = (goesD (stepD { d with L := putL d.L k s }) d.keep, 2) from if_pos ha.out]
            exact ⟨rfl, _, hd4.out, k4.out, hF.out⟩
          · rw [show decide (d.armed = 1) = false by simp [ha]]
            replace ha := Lib.hid ha
            go_wp2_with fail
            go_ret
            rw [show stepped { d with L := putL d.L k s } id = (stepD { d with L := putL d.L k s }, 0) from if_neg ha.out]
            exact ⟨rfl, _, hd3.out, k3.out, hF.out⟩
    · rw [if_pos hs]
      have hs1 : ¬ (s.size : Int) = 64 := by omega
      clear h hf hn hfew
      go_enter Tryz.func41, Tryz.ntmps41
      go_wp2_with fail
      refine km.out.mono ?_
      rintro e w1 ⟨rfl, hw⟩
      subst hw
      go_wp2_with fail
      go_ret
      exact ⟨rfl, _, fin.out, Keeps.refl _ _, hq0.out⟩
  · rw [if_pos he]
    have hne2 : (mayE d n != 0) = true := by simpa using he
    generalize mayE d n = ee at km hne2
    clear he h hf hn
    go_enter Tryz.func41, Tryz.ntmps41
    go_wp2_with fail
    refine km.out.mono ?_
    rintro e w1 ⟨rfl, hw⟩
    subst hw
    go_wp2_with fail
    go_ret
    exact ⟨rfl, _, fin.out, Keeps.refl _ _, hq0.out⟩
end
end Go.Proofs.YtajlfmnjibgbaaaGreatDoor.Disk
/- Sync. -/
namespace Go.Proofs.YtajlfmnjibgbaaaGreatDoor.Disk
open Go Go.RowKit Go.Maps Mem

set_option maxRecDepth 100000 in
theorem applyAll_get : ∀ (L : List (Nat × ByteArray)) (st : List ByteArray), L.Pairwise (fun p q => p.1 ≠ q.1) → ∀ i, i < st.length → (applyAll L st)[i]? = if (find L i).isSome = true then find L i else st[i]?
  | [], st, _, i, _ => rfl
  | p :: L, st, ha, i, hi => by
    obtain ⟨h1, h2⟩ := List.pairwise_cons.1 ha
    show (applyAll L (st.set p.1 p.2))[i]? = _
    rw [applyAll_get L _ h2 i (by rw [List.length_set]; exact hi), find_cons]
    by_cases e : p.1 = i
    · have hn : find L i = none := by
        cases hf : find L i with
        | none => rfl
        | some s => exact absurd e (h1 _ (find_some hf))
      rw [hn, if_neg (by decide), if_pos e, if_pos (by rfl), e, List.getElem?_set_self hi]
    · rw [if_neg e, List.getElem?_set_ne e]
/-- those of the loose sectors that have come are written -/
def Part (d : Dk) (left : Lit → Bool) (st : List ByteArray) : Prop :=
  st.length = d.stays.length ∧ ∀ i, i < d.stays.length → st[i]? = if (find d.L i).isSome = true ∧ left (kI i) = false then find d.L i else d.stays[i]?
set_option maxRecDepth 100000 in
theorem Part.start {d : Dk} {left : Lit → Bool} (h : ∀ n, (find d.L n).isSome = true → left (kI n) = true) : Part d left d.stays :=
  ⟨rfl, fun i _ => by rw [if_neg (fun e => by rw [h i e.1] at e; cases e.2)]⟩
set_option maxRecDepth 100000 in
theorem Part.step {d : Dk} {left : Lit → Bool} {st : List ByteArray} (h : Part d left st) {n : Nat} {s : ByteArray} (hf : find d.L n = some s) (hn : n < d.stays.length) : Part d (fun z => left z && !z.sameKey (kI n)) (st.set n s) := by
  refine ⟨by rw [List.length_set]; exact h.1, fun i hi => ?_⟩
  have hk : ∀ m : Nat, (kI m).sameKey (kI n) = decide (m = n) := fun m => by
    show decide (IntKind.i64 = IntKind.i64 ∧ (m : Int) = (n : Int)) = _
    by_cases e : m = n
    · subst e; simp
    · rw [decide_eq_false (fun h => e (by have := h.2; omega)), decide_eq_false e]
  by_cases e : i = n
  · subst e
    rw [List.getElem?_set_self (by rw [h.1]; exact hi), if_pos ⟨by rw [hf]; rfl, by simp [hk]⟩, hf]
  · rw [List.getElem?_set_ne (Ne.symm e), h.2 i hi]
    simp [hk, e]
set_option maxRecDepth 100000 in
theorem Part.done {d : Dk} (hf : Fit d) {left : Lit → Bool} {st : List ByteArray} (h : Part d left st) (hl : ∀ kl, left kl = false) : st = applyAll d.L d.stays := by
  apply List.ext_getElem?
  intro i
  by_cases hi : i < d.stays.length
  · rw [h.2 i hi, applyAll_get _ _ hf.apart i hi, hl]
    simp
  · rw [List.getElem?_eq_none (by rw [h.1]; omega), List.getElem?_eq_none (by rw [applyAll_length]; omega)]

section
variable {F : Nat → Prop} {w w' : World} {b : Nat} {d d' : Dk} {sb lb bb sc : Nat} {ov : Value}
set_option maxRecDepth 100000 in
set_option maxHeartbeats 8000000 in
theorem sync_any (h : IsDk F w b d) (hn : Num d) (hf : Fit d) : Calls Tryz.prog 95 #[.pointer (some ⟨b, 0, none⟩)] w fun e w' => e = .returned (.int .i64 (syncD d).2) ∧ IsDk F w' b (syncD d).1 ∧ Keeps F w w' := by
  have kst := Lib.hid (step_any h hn)
  have fin := Lib.hid h
  obtain ⟨sb0, lb0, bb0, sc0, ov0, h⟩ := h.core
  have c7 : w.cell? ⟨b, 7, none⟩ = some (.bool d.dead) := h.1.cell 7
  clear h
  unfold syncD
  rcases Bool.eq_false_or_eq_true d.dead with hd | hd
  · rw [hd] at c7
    rw [if_pos hd]
    replace hd := Lib.hid hd
    go_enter Tryz.func95, Tryz.ntmps95
    go_wp2_with fail
    go_ret
    exact ⟨rfl, fin.out, Keeps.refl _ _⟩
  · rw [hd] at c7
    rw [if_neg (by rw [hd]; decide)]
    replace hd := Lib.hid hd
    clear fin
    go_enter Tryz.func95, Tryz.ntmps95
    go_wp2_with fail
    refine kst.out.mono ?_
    rintro e w3 ⟨rfl, hd3, k3⟩
    clear c7
    by_cases ha : d.armed = 1
    · have c6 : w3.cell? ⟨b, 6, none⟩ = some (.string d.keep) := by
        obtain ⟨_, _, _, _, _, hc⟩ := hd3.core
        exact hc.1.cell 6
      have kgo := Lib.hid (goes_any hd3 hf.step d.keep)
      rw [show decide (d.armed = 1) = true by simp [ha]]
      replace ha := Lib.hid ha
      replace k3 := Lib.hid k3
      clear hd3
      go_wp2_with fail
      refine kgo.out.mono ?_
      rintro e w4 ⟨rfl, hd4, k4⟩
      replace hd4 := Lib.hid hd4
      replace k4 := Lib.hid (k3.out.same k4)
      go_wp2_with fail
      go_ret
      rw [show stepped d (fun d => { d with stays := applyAll d.L d.stays, L := [] }) = (goesD (stepD d) d.keep, 2) from if_pos ha.out]
      exact ⟨rfl, hd4.out, k4.out⟩
    · rw [show decide (d.armed = 1) = false by simp [ha]]
      obtain ⟨sb, lb, bb, sc, ov, h⟩ := hd3.core
      have hne := Lib.hid h.ne
      obtain ⟨D, ho, hh, hat0⟩ := h.2.2.1
      have hfew := hf.few
      have hlen := hf.len
      have c1 : w3.cell? ⟨b, 1, none⟩ = some (.map (some lb)) := h.1.cell 1
      replace ha := Lib.hid ha
      replace k3 := Lib.hid k3
      replace hh := Lib.hid hh
      replace hat0 := Lib.hid hat0
      replace hf := Lib.hid hf
      have hst0 := h.2.1
      replace hst0 := Lib.hid hst0
      replace h := Lib.hid h
      clear hd3
      go_wp2_with (first | (at_range; refine wpList_range_own _ rfl _ 110 rfl 3 9 keyI Tryz.underlying110 rdS lb d.L.length D rfl ho ?_; intro w0 hrg0 hg0 hs0))
      go_frame
      have k0 : Keeps (fun j => j = sb) w3 w0 := Keeps.of_grown hg0 (fun j e => by cases e)
      have hst1 := World.ownsRow.kept hst0.out hg0 (Or.inr (fun e => by cases e))
      clear c1
      go_loopw [3] (fun _ wr => ∃ left cnt st, wr.ranges Tryz.prog 3 rdS lb w3.heap.size d.L.length D left cnt ∧ Keeps (fun j => j = sb) w3 wr ∧ Hid (Part d left st) ∧ wr.ownsRow 0 9 1 (.slice (some ⟨sb, 0, none⟩) d.stays.length sc) d.stays.length (st.map Value.string)) (fun _ wr => wr.rangeLeft lb w3.heap.size)
      case atStart => exact ⟨_, _, d.stays, hrg0, k0, Lib.hid (Part.start (fun n hn => (hh.out _).2 ⟨n, rfl, hn⟩)), hst1⟩
      case round =>
        obtain ⟨left, cnt, st, hrg, kk, hpt, hst⟩ := hrel
        clear hrg0 k0 hst1 hg0 hs0 ho
        go_wp2_with (first | (at_next; refine wpList_next_ranges_is _ rfl _ rfl 3 9 .i64 keyI Tryz.underlying3 Tryz.underlying9 lb w3.heap.size d.L.length _ _ _ rfl hrg ?_ ?_))
        · intro hc0 hl0
          have hB := h.out.1.keeps kk (Ne.symm hne.out.1)
          have c1 : wr.cell? ⟨b, 1, none⟩ = some (.map (some lb)) := hB.cell 1
          have hmS := h.out.2.2.1.keeps kk (Ne.symm hne.out.2.2.2.2.1)
          obtain ⟨w2, hrun, hm2, hg⟩ := hmS.clear
          have kg : Keeps (fun j => j = lb) wr w2 := Keeps.of_grown hg (fun j e => by injection e with e; exact e.symm)
          have hB2 := hB.keeps kg (Ne.symm hne.out.2.1)
          have hst2 := own_keeps hst kg (fun j e => by injection e with e; subst e; exact hne.out.2.2.2.2.1)
          have k2 : Keeps (fun j => j = sb ∨ j = lb ∨ j = b) w3 w2 := (kk.mono (fun i e => Or.inl e)).same (kg.mono (fun i e => Or.inr (Or.inl e)))
          have f2 := hB2.free 2
          have d2 : w2.cell? ⟨b, 2, none⟩ = some ov := hB2.cell 2
          have k4 : Keeps (fun j => j = b) w2 (w2.setCell ⟨b, 2, none⟩ (.slice none 0 0)) := (Keeps.refl (fun j => j = b) w2).put (g := b) (Or.inl rfl) 2 _
          have est := hpt.out.done hf.out hl0
          subst est
          have hB3 : Blk (w2.setCell ⟨b, 2, none⟩ (.slice none 0 0)) b 113 (dkc sb lb bb sc (.slice none 0 0) { stepD d with stays := applyAll d.L d.stays, L := [] }) := by
            have := hB2.put 2 (.slice none 0 0)
            have e : ({ stepD d with stays := applyAll d.L d.stays, L := [] } : Dk).stays.length = d.stays.length := applyAll_length _ _
            unfold dkc
            rw [e]
            exact this
          have fin := h.out.fin (d' := { stepD d with stays := applyAll d.L d.stays, L := [] }) (k2.same (k4.mono (fun i e => Or.inr (Or.inr e)))) hB3 (own_keeps hst2 k4 (fun j e => by injection e with e; subst e; exact hne.out.1)) (hm2.keeps k4 hne.out.2.1) (applyAll_length _ _) rfl rfl rfl
          obtain ⟨fin1, fin2⟩ := fin
          replace fin1 := Lib.hid fin1
          replace fin2 := Lib.hid (k3.out.same fin2)
          clear hB3 k4 k2 hst2 hB2 kg hg hm2 hst hmS hB kk hrg
          obtain ⟨A, oc, hov⟩ := own_slice h.out.2.2.2.2.1
          subst hov
          go_wp2_with fail
          go_ret
          rw [show stepped d (fun d => { d with stays := applyAll d.L d.stays, L := [] }) = ({ stepD d with stays := applyAll d.L d.stays, L := [] }, 0) from if_neg ha.out]
          exact ⟨rfl, fin1.out, fin2.out⟩
        · intro x c w1 cnt1 hwx hwc hlx hat hrg1 hlt hg1 hs1 hen
          obtain ⟨n, hkn, hsn⟩ := (hh.out _).1 (has_true_of_atKey hat)
          obtain ⟨s, hfs⟩ := Option.isSome_iff_exists.1 hsn
          obtain rfl : x = (n : Int) := by unfold kI at hkn; injection hkn
          have ecs : c = s := str_eq ((hat .nil).symm.trans (hat0.out n s hfs .nil))
          subst ecs
          have hm0 : wr.rangeLeft lb w3.heap.size = cnt := hrg.left_eq
          have hnl := (hf.out.loose _ (find_some hfs)).1
          have k1 : Keeps (fun j => j = sb) w3 w1 := kk.trans (G := fun j => j = w3.heap.size) (Keeps.of_grown hg1 (fun j e => by injection e with e; exact e.symm)) (fun j e => Or.inr (Nat.le_of_eq e.symm))
          have hsb : sb < w3.heap.size := h.out.2.2.2.2.2.2.2.2 sb h.out.2.2.2.2.2.2.1.2.1
          have hstk := World.ownsRow.kept hst hg1 (Or.inr (fun e => by injection e with e; exact absurd (show sb = w3.heap.size from e) (by omega)))
          have hB := h.out.1.keeps k1 (Ne.symm hne.out.1)
          have c0 : w1.cell? ⟨b, 0, none⟩ = some (.slice (some ⟨sb, 0, none⟩) d.stays.length sc) := hB.cell 0
          obtain ⟨hst', fst⟩ := own_put (i := n) (u := .string c) hstk
          obtain ⟨old, hold⟩ : ∃ u, (st.map Value.string)[n]? = some u := ⟨_, List.getElem?_eq_getElem (by rw [List.length_map, hpt.out.1]; exact hnl)⟩
          have cst := hstk.cells (g := sb) rfl n old hold
          rw [add_lit, Nat.zero_add] at cst
          have hrg2 := hrg1.kept (row := some sb) (w' := w1.setCell ⟨sb, n, none⟩ (.string c)) (Only.put (Only.refl w1 (some sb)) n _) (fun e => by injection e with e; exact hne.out.2.2.2.2.1 e.symm) (fun e => by injection e with e; omega)
          have fin : ∃ left cnt st, (w1.setCell ⟨sb, n, none⟩ (.string c)).ranges Tryz.prog 3 rdS lb w3.heap.size d.L.length D left cnt ∧ Keeps (fun j => j = sb) w3 (w1.setCell ⟨sb, n, none⟩ (.string c)) ∧ Hid (Part d left st) ∧ (w1.setCell ⟨sb, n, none⟩ (.string c)).ownsRow 0 9 1 (.slice (some ⟨sb, 0, none⟩) d.stays.length sc) d.stays.length (st.map Value.string) :=
            ⟨_, _, st.set n c, hrg2, k1.put (Or.inl rfl) _ _, Lib.hid (hpt.out.step hfs hnl), by rw [List.map_set]; exact hst'⟩
          have hmeas : (w1.setCell ⟨sb, n, none⟩ (.string c)).rangeLeft lb w3.heap.size < wr.rangeLeft lb w3.heap.size := by rw [hrg2.left_eq, hm0]; exact hlt
          replace fin := Lib.hid fin
          replace hmeas := Lib.hid hmeas
          replace hfs := Lib.hid hfs
          clear hrg2 hold hst' hB hstk hst k1 kk hrg1 hrg hg1 hs1 hm0 hat hlx hsn hkn hlt hpt
          go_wp2_with fail
          exact ⟨fin.out, hmeas.out⟩
end
end Go.Proofs.YtajlfmnjibgbaaaGreatDoor.Disk
/- Image. -/
namespace Go.Proofs.YtajlfmnjibgbaaaGreatDoor.Disk
open Go Go.RowKit Go.Maps Mem

section
variable {F : Nat → Prop} {w w' : World} {b : Nat} {d d' : Dk}
end
end Go.Proofs.YtajlfmnjibgbaaaGreatDoor.Disk
/- slices.Repeat of one text; New. -/
namespace Go.Proofs.YtajlfmnjibgbaaaGreatDoor.Disk
open Go Go.RowKit Go.Maps Mem

set_option maxRecDepth 100000 in
theorem infoS : (Tryz.prog.info? 9).map (fun i => (i.zero, i.size, i.bytes)) = some (some (.string ⟨#[]⟩), 1, 16) := by kernel_rfl
set_option maxRecDepth 100000 in
theorem mul_one_ (N : Nat) (hN : N ≤ 16384) (w : World) : Calls Tryz.prog 87 #[.int .u64 1, .int .u64 (N : Int)] w fun e w' => e = .returned (.tuple #[.int .u64 0, .int .u64 (N : Int)]) ∧ w' = w := by
  have k := Tryz.bits_Mul 1 N (by decide) (by omega) w
  rw [Nat.one_mul, Nat.div_eq_of_lt (by omega), Nat.mod_eq_of_lt (by omega)] at k
  exact k
/-- block g: n times the text, then empty texts up to N -/
def Rep (w : World) (g N n : Nat) (s : ByteArray) : Prop := Blk w g 9 (List.replicate n (Value.string s) ++ List.replicate (N - n) (Value.string ⟨#[]⟩)).toArray
set_option maxRecDepth 100000 in
theorem grown_setRow (w : World) (g : Nat) (cs : Array Value) : w.grownBy (w.setRow g cs) (some g) :=
  ⟨rfl, rfl, rfl, by simp [World.setRow], fun k hk hn => setRow_other w g k cs (fun e => hn (by rw [e]))⟩
set_option maxRecDepth 100000 in
theorem rep_zero {w : World} {base g N : Nat} (s : ByteArray) (h : w.ownsRow base 9 1 (.slice (some ⟨g, 0, none⟩) N N) N (madeCells (Value.string ⟨#[]⟩).cells (N * 1)).toList) : Rep w g N 0 s := by
  rcases h.2 with ⟨e, _⟩ | ⟨g', cap, cur, hv, _, hg, _, _, hs, ht⟩
  · cases e
  · injection hv with hv1 _ hv2
    injection hv1 with hv1
    obtain rfl : g = g' := congrArg Addr.block hv1
    subst hv2
    show w.heap[g]? = _
    rw [hg]
    have e : cur.toList = List.replicate N (Value.string ⟨#[]⟩) := by
      rw [List.take_of_length_le (by simp [hs])] at ht
      rw [ht]
      apply List.ext_getElem
      · simp [madeCells]
      · intro j h1 h2
        simp [madeCells, Value.cells, Nat.mod_one]
    have e2 : cur = (List.replicate N (Value.string ⟨#[]⟩)).toArray := by rw [← e]
    rw [e2]
    simp
set_option maxRecDepth 100000 in
theorem rep_more {w : World} {g N n : Nat} {s : ByteArray} (h : Rep w g N n s) (ad : Addr) (k c dc : Nat) (hk : ∀ j, j < Nat.min k (N - n) → w.cell? (ad.add j) = some (.string s)) :
    ∃ w3, (∀ ty, (Builtin.copy_ #[48, 48] ty #[.slice (some ⟨g, n, none⟩) (N - n) dc, .slice (some ad) k c]).run Tryz.prog w = .ok (.int .i64 ((Nat.min k (N - n) : Nat) : Int)) w3) ∧ Rep w3 g N (n + Nat.min k (N - n)) s ∧ w.grownBy w3 (some g) := by
  obtain ⟨m, hm⟩ : ∃ m, m = Nat.min k (N - n) := ⟨_, rfl⟩
  have hmle : m ≤ N - n := by rw [hm]; exact Nat.min_le_right _ _
  have hr := fun ty => run_copy_row (P := Tryz.prog) w 48 48 ty 9 g n (N - n) dc ad k c _ 9 (List.replicate m (Value.string s)) Tryz.underlying48 (by kernel_rfl) h (by rw [List.length_replicate]; exact hm)
    (fun j v hv => by
      have hj := (List.getElem?_eq_some_iff.1 hv).1
      rw [List.length_replicate] at hj
      rw [List.getElem?_replicate, if_pos hj] at hv
      injection hv with hv
      rw [← hv]
      exact hk j (hm ▸ hj)) (by simp; omega) (fun v hv => by rw [(List.mem_replicate.1 hv).2]; rfl)
  rw [← hm]
  have e : (List.take n (List.replicate n (Value.string s) ++ List.replicate (N - n) (Value.string ⟨#[]⟩)).toArray.toList ++ List.replicate m (Value.string s) ++ List.drop (n + (List.replicate m (Value.string s)).length) (List.replicate n (Value.string s) ++ List.replicate (N - n) (Value.string ⟨#[]⟩)).toArray.toList).toArray =
      (List.replicate (n + m) (Value.string s) ++ List.replicate (N - (n + m)) (Value.string ⟨#[]⟩)).toArray := by
    congr 1
    show List.take n (List.replicate n (Value.string s) ++ List.replicate (N - n) (Value.string ⟨#[]⟩)) ++ List.replicate m (Value.string s) ++ List.drop (n + (List.replicate m (Value.string s)).length) (List.replicate n (Value.string s) ++ List.replicate (N - n) (Value.string ⟨#[]⟩)) = _
    rw [List.take_append_of_le_length (by simp), List.take_of_length_le (by simp), List.drop_append, List.drop_eq_nil_of_le (by simp), List.nil_append, List.drop_replicate, List.replicate_append_replicate, List.length_replicate, List.length_replicate]
    congr 2
    omega
  refine ⟨_, fun ty => ?_, ?_, grown_setRow w g (List.replicate (n + m) (Value.string s) ++ List.replicate (N - (n + m)) (Value.string ⟨#[]⟩)).toArray⟩
  · rw [hr ty, e, List.length_replicate]
    rfl
  · exact setRow_heap w g _ _ _ _ h
set_option maxRecDepth 100000 in
theorem rep_first {w : World} {g N xb : Nat} {s : ByteArray} (h : Rep w g N 0 s) (hN : 1 ≤ N) (hx : w.cell? ⟨xb, 0, none⟩ = some (.string s)) :
    ∃ w3, (∀ ty, (Builtin.copy_ #[48, 48] ty #[.slice (some ⟨g, 0, none⟩) N N, .slice (some ⟨xb, 0, none⟩) 1 1]).run Tryz.prog w = .ok (.int .i64 1) w3) ∧ Rep w3 g N 1 s ∧ w.grownBy w3 (some g) := by
  have e : Nat.min 1 (N - 0) = 1 := Nat.min_eq_left (by omega)
  have k := rep_more h ⟨xb, 0, none⟩ 1 1 N (fun j hj => by
    rw [e] at hj
    obtain rfl : j = 0 := by omega
    exact hx)
  rw [e] at k
  simpa using k
set_option maxRecDepth 100000 in
theorem rep_next {w : World} {g N n : Nat} {s : ByteArray} (h : Rep w g N n s) (h1 : 1 ≤ n) (hn : n < N) :
    ∃ w3 m, 1 ≤ m ∧ n + m ≤ N ∧ (∀ ty, (Builtin.copy_ #[48, 48] ty #[.slice (some ⟨g, n, none⟩) (N - n) (N - n), .slice (some ⟨g, 0, none⟩) n N]).run Tryz.prog w = .ok (.int .i64 (m : Int)) w3) ∧ Rep w3 g N (n + m) s ∧ w.grownBy w3 (some g) := by
  obtain ⟨w3, h2, h3, h4⟩ := rep_more h ⟨g, 0, none⟩ n N (N - n) (fun j hj => by
    have hj' : j < n := Nat.lt_of_lt_of_le hj (Nat.min_le_left _ _)
    rw [add_lit, Nat.zero_add, Blk.cell h]
    simp [List.getElem?_append_left, hj'])
  exact ⟨w3, _, (Nat.le_min (a := 1)).2 ⟨h1, by omega⟩, by have := Nat.min_le_right n (N - n); omega, h2, h3, h4⟩
section
variable {w : World}
set_option maxRecDepth 100000 in
set_option maxHeartbeats 8000000 in
theorem repeat_any (xb N : Nat) (s : ByteArray) (hN1 : 1 ≤ N) (hN : N ≤ 16384) (hx : w.cell? ⟨xb, 0, none⟩ = some (.string s)) :
    Calls Tryz.prog 54 #[.slice (some ⟨xb, 0, none⟩) 1 1, .int .i64 (N : Int)] w fun e w' => e = .returned (.slice (some ⟨w.heap.size, 0, none⟩) N N) ∧
      w'.heap[w.heap.size]? = some (.cells (List.replicate N (Value.string s)).toArray 9 (0, 0)) ∧ Below w.heap.size w w' := by
  obtain ⟨i0, hinf, hz0, hz1, hz2⟩ := info_parts infoS
  have hxlt := World.block_lt_of_cell? w _ hx
  have km := mul_one_ N hN
  replace km := Lib.hid km
  replace hx := Lib.hid hx
  go_enter Tryz.func54, Tryz.ntmps54
  go_wp2_with fail
  refine (km.out _).mono ?_
  rintro e w1 ⟨rfl, hw⟩
  subst hw
  go_wp2_with (first | (at_make; refine wpList_make_full _ rfl _ _ _ rfl w1.heap.size 9 i0 (.string ⟨#[]⟩) 1 Tryz.underlying48 hinf hz0 hz1 .i64 .i64 (N : Int) (N : Int) N rfl rfl rfl rfl (by rw [hz2]; omega) (by unfold maxLen; omega) (Nat.le_refl _) ?_; intro w2 ho2 hg2; obtain ⟨w3, hc3, r3, g3⟩ := rep_first (rep_zero s ho2) hN1 ((hg2.cell hx.out (by simp)) : w2.cell? ⟨xb, 0, none⟩ = some (.string s)); replace r3 := Lib.hid r3))
  have hb3 : Below w1.heap.size w1 w3 := (show Below w1.heap.size w1 w2 from ⟨hg2.os, hg2.tape, hg2.output, hg2.size, fun k hk => hg2.block k hk (by simp)⟩).trans (Only.toBelow g3 (Nat.le_refl _) hg2.size)
  clear hc3 ho2
  go_loopw [8] (fun t wr => ∃ n : Nat, 1 ≤ n ∧ n ≤ N ∧ t = .int .i64 (n : Int) ∧ Rep wr w1.heap.size N n s ∧ Below w1.heap.size w1 wr) (fun t _ => N - (intOf t).toNat)
  case atStart => exact ⟨1, Nat.le_refl _, hN1, rfl, r3.out, hb3⟩
  case round =>
    clear r3 hb3 g3 hg2
    obtain ⟨n, hn1, hnN, rfl, hr, hb⟩ := hrel
    by_cases hlt : n < N
    · obtain ⟨w4, m, hm1, hmN, hc4, r4, g4⟩ := rep_next (w := wr.drew) hr hn1 hlt
      have hb4 : Below w1.heap.size w1 w4 := hb.drew.trans (Only.toBelow g4 (Nat.le_refl _) hb.size)
      replace r4 := Lib.hid r4
      replace hb4 := Lib.hid hb4
      clear hr hb g4
      go_wp2_with fail
      go_region
      go_wp2_with fail
      exact ⟨⟨n + m, by omega, hmN, rfl, r4.out, hb4.out⟩, by simp [intOf]; omega⟩
    · obtain rfl : n = N := by omega
      have hr' : Hid (wr.heap[w1.heap.size]? = some (.cells (List.replicate n (Value.string s)).toArray 9 (0, 0))) := by
        have := hr
        unfold Rep at this
        rw [Nat.sub_self, List.replicate_zero, List.append_nil] at this
        exact Lib.hid this
      clear hr
      go_wp2_with fail
      go_ret
      exact ⟨rfl, hr'.out, hb⟩
end
end Go.Proofs.YtajlfmnjibgbaaaGreatDoor.Disk
/- New. -/
namespace Go.Proofs.YtajlfmnjibgbaaaGreatDoor.Disk
open Go Go.RowKit Go.Maps Mem

def zero64 : ByteArray := ⟨(List.replicate 64 0).toArray⟩
set_option maxRecDepth 100000 in
theorem zeros_any (w : World) : Calls Tryz.prog 55 #[.string ⟨#[0]⟩, .int .i64 64] w fun e w' => e = .returned (.string zero64) ∧ Below w.heap.size w w' := by
  have k := Tryz.strings_Repeat ⟨#[0]⟩ 64 w (by decide) (by decide)
  rw [show (⟨(Lib.repeatL (ByteArray.mk #[0]).data.toList 64).toArray⟩ : ByteArray) = zero64 by kernel_rfl] at k
  exact k
set_option maxRecDepth 100000 in
theorem repeat_new (w : World) (N : Nat) (hN1 : 1 ≤ N) (hN : N ≤ 16384) :
    Calls Tryz.prog 54 #[.slice (some ⟨w.heap.size, 0, none⟩) 1 1, .int .i64 (N : Int)] (w.alloc (.cells #[.string zero64] 9)) fun e w' => ∃ g, e = .returned (.slice (some ⟨g, 0, none⟩) N N) ∧
      w.heap.size ≤ g ∧ w'.heap[g]? = some (.cells (List.replicate N (Value.string zero64)).toArray 9 (0, 0)) ∧ Below w.heap.size w w' := by
  refine (repeat_any w.heap.size N zero64 hN1 hN (Blk.cell (Blk.new w 9 #[.string zero64]) 0)).mono ?_
  rintro e w' ⟨rfl, h1, h2⟩
  have hs := ((Keeps.refl (fun _ => False) w).alloc (.cells #[.string zero64] 9)).size
  exact ⟨_, rfl, hs, h1, ((Below.refl _ w).alloc (Nat.le_refl _) _).trans (h2.mono hs)⟩
set_option maxRecDepth 100000 in
theorem new_dk {w2 : World} {g n : Nat} (hn : n ≤ 16384) (hg : w2.heap[g]? = some (.cells (List.replicate n (Value.string zero64)).toArray 9 (0, 0))) :
    IsDk (fun i => i = g ∨ (w2.heap.size ≤ i ∧ i < w2.heap.size + 3)) (((w2.alloc (.map #[] 0)).alloc (.map #[] 0)).alloc (.cells #[.slice (some ⟨g, 0, none⟩) n n, .map (some w2.heap.size), .slice none 0 0, .map (some (w2.heap.size + 1)), .int .i64 0, .int .i64 0, .string ⟨#[]⟩, .bool false] 113)) (w2.heap.size + 1 + 1) (newD n) := by
  have hlt : g < w2.heap.size := (Array.getElem?_eq_some_iff.1 hg).1
  have e1 : (w2.alloc (.map #[] 0)).heap.size = w2.heap.size + 1 := by simp
  have e2 : ((w2.alloc (.map #[] 0)).alloc (.map #[] 0)).heap.size = w2.heap.size + 1 + 1 := by simp
  have k1 := ((Keeps.refl (fun _ => False) (w2.alloc (.map #[] 0))).alloc (.map #[] 0)).alloc (.cells #[.slice (some ⟨g, 0, none⟩) n n, .map (some w2.heap.size), .slice none 0 0, .map (some (w2.heap.size + 1)), .int .i64 0, .int .i64 0, .string ⟨#[]⟩, .bool false] 113)
  have k0 := ((Keeps.refl (fun _ => False) w2).alloc (.map #[] 0)).same k1
  have k2 := (Keeps.refl (fun _ => False) ((w2.alloc (.map #[] 0)).alloc (.map #[] 0))).alloc (.cells #[.slice (some ⟨g, 0, none⟩) n n, .map (some w2.heap.size), .slice none 0 0, .map (some (w2.heap.size + 1)), .int .i64 0, .int .i64 0, .string ⟨#[]⟩, .bool false] 113)
  have hB := Blk.new ((w2.alloc (.map #[] 0)).alloc (.map #[] 0)) 113 #[.slice (some ⟨g, 0, none⟩) n n, .map (some w2.heap.size), .slice none 0 0, .map (some (w2.heap.size + 1)), .int .i64 0, .int .i64 0, .string ⟨#[]⟩, .bool false]
  rw [e2] at hB
  have hm := (MapS.new w2).keeps k1 (fun h => h)
  have hm2 := (MapB.new (w2.alloc (.map #[] 0))).keeps k2 (fun h => h)
  rw [e1] at hm2
  have hl : (newD n).stays.length = n := List.length_replicate
  refine ⟨g, w2.heap.size, w2.heap.size + 1, n, .slice none 0 0, ?_, ?_, hm, hm2, ⟨rfl, Or.inl ⟨rfl, rfl⟩⟩, by omega, ⟨Or.inr ⟨by omega, by omega⟩, Or.inl rfl, Or.inr ⟨by omega, by omega⟩, Or.inr ⟨by omega, by omega⟩⟩, (fun j e => by cases e), fun i hi => ?_⟩
  · rw [hl]; exact hB
  · rw [hl]
    refine ⟨by simp [newD], Or.inr ⟨g, n, _, rfl, Nat.zero_le _, (k0.block g hlt (fun h => h)).trans hg, Nat.le_refl _, by unfold maxLen; omega, by simp, ?_⟩⟩
    rw [List.take_of_length_le (by simp)]
    show List.replicate n (Value.string zero64) = (List.replicate n _).map Value.string
    rw [List.map_replicate]
    rfl
  · have e3 : ((((w2.alloc (.map #[] 0)).alloc (.map #[] 0)).alloc (.cells #[.slice (some ⟨g, 0, none⟩) n n, .map (some w2.heap.size), .slice none 0 0, .map (some (w2.heap.size + 1)), .int .i64 0, .int .i64 0, .string ⟨#[]⟩, .bool false] 113)).heap.size) = w2.heap.size + 3 := by simp
    rw [e3]
    rcases hi with rfl | hi
    · omega
    · exact hi.2
set_option maxRecDepth 100000 in
set_option maxHeartbeats 8000000 in
theorem new_any (w : World) (n : Nat) (h1 : 1 ≤ n) (h2 : n ≤ 16384) :
    Calls Tryz.prog 25 #[.int .i64 (n : Int)] w fun e w' => ∃ F b, e = .returned (.tuple #[.pointer (some ⟨b, 0, none⟩), .int .i64 0]) ∧ IsDk F w' b (newD n) ∧ (∀ i, F i → w.heap.size ≤ i) ∧ Below w.heap.size w w' := by
  have kz := Lib.hid (fun W => zeros_any W)
  have kr := Lib.hid (fun W => repeat_new W n h1 h2)
  go_enter Tryz.func25, Tryz.ntmps25
  go_wp2_with fail
  refine (kz.out _).mono ?_
  rintro e w1 ⟨rfl, hb1⟩
  replace hb1 := Lib.hid hb1
  go_wp2_with fail
  refine (kr.out _).mono ?_
  rintro e w2 ⟨g, rfl, hg1, hg, hb2⟩
  have hb := Lib.hid (hb1.out.trans (hb2.mono hb1.out.size))
  have hs := hb1.out.size
  have hs2' := hb2.size
  clear hb2
  have m1 := run_makeMap (P := Tryz.prog) 110 w2
  have m2 := run_makeMap (P := Tryz.prog) 111 (w2.alloc (.map #[] 0))
  have bd : ∀ W, (Instr.build 113 #[(0, .slice (some ⟨g, 0, none⟩) n n), (1, .map (some w2.heap.size)), (3, .map (some (w2.heap.size + 1)))]).run Tryz.prog W = .ok (.agg #[.slice (some ⟨g, 0, none⟩) n n, .map (some w2.heap.size), .slice none 0 0, .map (some (w2.heap.size + 1)), .int .i64 0, .int .i64 0, .string ⟨#[]⟩, .bool false]) W := fun W => run_build W _ _ _ (by kernel_rfl)
  replace hg := Lib.hid hg
  go_wp2_with fail
  go_ret2
  refine ⟨_, _, rfl, new_dk h2 hg.out, fun i hi => ?_, ((hb.out.alloc (Nat.le_trans hs hs2') _).alloc ?_ _).alloc ?_ _⟩
  · rcases hi with rfl | hi <;> omega
  · simp; omega
  · simp; omega
end Go.Proofs.YtajlfmnjibgbaaaGreatDoor.Disk
/- Open. -/
namespace Go.Proofs.YtajlfmnjibgbaaaGreatDoor.Disk
open Go Go.RowKit Go.Maps Mem

def chunk (img : ByteArray) (i : Nat) : ByteArray := img.extract (i * 64) ((i + 1) * 64)
/-- a disk off an image, k sectors of it laid -/
def openS (img : ByteArray) (n k : Nat) : List ByteArray := (List.range n).map fun i => if i < k then chunk img i else zero64
def openTo (img : ByteArray) (n k : Nat) : Dk := ⟨openS img n k, [], fun _ => false, 0, 0, ⟨#[]⟩, false, 0⟩
set_option maxRecDepth 100000 in
theorem openTo_len (img : ByteArray) (n k : Nat) : (openTo img n k).stays.length = n := by simp [openTo, openS]
def openD (img : ByteArray) : Dk := openTo img (img.size / 64) (img.size / 64)

section
variable {F : Nat → Prop} {w w' : World} {b : Nat} {d d' : Dk} {sb lb bb sc : Nat} {ov : Value}
end
end Go.Proofs.YtajlfmnjibgbaaaGreatDoor.Disk
/- The laws' sector. -/
namespace Go.Proofs.YtajlfmnjibgbaaaGreatDoor.Disk
open Go Go.RowKit Go.Maps Mem

end Go.Proofs.YtajlfmnjibgbaaaGreatDoor.Disk
/- The disk's contracts at a law: X: the blocks that are not the disk's and stay. -/
namespace Go.Proofs.YtajlfmnjibgbaaaGreatDoor.Disk
open Go Go.RowKit Go.Maps Mem

structure Hd (X : Nat → Prop) (m : Nat) (w : World) (b : Nat) (d : Dk) : Prop where
  own : ∃ F, IsDk F w b d ∧ ∀ i, F i → ¬ X i
  xlt : ∀ i, X i → i < w.heap.size
  fit : Fit d
  num : NumTo m d
/-- only what is not of X has turned -/
abbrev KeepX (X : Nat → Prop) (w w' : World) : Prop := Keeps (fun i => ¬ X i) w w'
section
variable {X Y : Nat → Prop} {m : Nat} {w w' w'' : World} {b : Nat} {d d' : Dk}
set_option maxRecDepth 100000 in
theorem KeepX.toBelow {B : Nat} (h : KeepX X w w') (hX : ∀ i, i < B → X i) (hB : B ≤ w.heap.size) : Below B w w' := Keeps.toBelow h (fun i hi => Nat.le_of_not_lt fun hlt => hi (hX i hlt)) hB
set_option maxRecDepth 100000 in
theorem Hd.mono (h : Hd X m w b d) (hX : ∀ i, Y i → X i) : Hd Y m w b d := by
  obtain ⟨⟨F, h1, h2⟩, h3, h4, h5⟩ := h
  exact ⟨⟨F, h1, fun i hi hy => h2 i hi (hX i hy)⟩, fun i hi => h3 i (hX i hi), h4, h5⟩
set_option maxRecDepth 100000 in
theorem Hd.num_ (h : Hd X m w b d) (hm : m ≤ 4611686018427387904) : Num d := ⟨Nat.le_trans h.num.steps hm, h.num.armed, Nat.le_trans h.num.marks hm⟩
set_option maxRecDepth 100000 in
theorem Hd.more {k : Nat} (h : Hd X m w b d) (hm : m ≤ k) : Hd X k w b d := ⟨h.own, h.xlt, h.fit, h.num.mono hm⟩
set_option maxRecDepth 100000 in
/-- what is new is no block of the disk's: X may grow by it -/
theorem Hd.also (h : Hd X m w b d) (hb : Below w.heap.size w w') (hY : ∀ i, Y i → X i ∨ (w.heap.size ≤ i ∧ i < w'.heap.size)) : Hd Y m w' b d := by
  obtain ⟨⟨F, h1, h2⟩, h3, h4, h5⟩ := h
  refine ⟨⟨F, h1.below hb, fun i hi hy => ?_⟩, fun i hi => ?_, h4, h5⟩
  · obtain ⟨_, _, _, _, _, hc⟩ := h1.core
    have hlt := hc.2.2.2.2.2.2.2.2 i hi
    rcases hY i hy with h | h
    · exact h2 i hi h
    · omega
  · rcases hY i hi with h | h
    · exact Nat.lt_of_lt_of_le (h3 i h) hb.size
    · exact h.2
set_option maxRecDepth 100000 in
theorem Hd.below (h : Hd X m w b d) (hb : Below w.heap.size w w') : Hd X m w' b d := h.also hb fun _ hi => Or.inl hi
set_option maxRecDepth 100000 in
/-- a block of X turns -/
theorem Hd.turn (h : Hd X m w b d) (hk : Keeps X w w') : Hd X m w' b d := by
  obtain ⟨⟨F, h1, h2⟩, h3, h4, h5⟩ := h
  exact ⟨⟨F, h1.keeps hk h2, h2⟩, fun i hi => Nat.lt_of_lt_of_le (h3 i hi) hk.size, h4, h5⟩
set_option maxRecDepth 100000 in
theorem Hd.step (h : Hd X m w b d) {F F' : Nat → Prop} (hF : ∀ i, F i → ¬ X i) (hd : IsDk F' w' b d') (hk : Keeps F w w') (hF' : ∀ i, F' i → F i ∨ w.heap.size ≤ i) (hfit : Fit d') {k : Nat} (hnum : NumTo k d') : Hd X k w' b d' ∧ KeepX X w w' :=
  ⟨⟨⟨F', hd, fun i hi hx => (hF' i hi).elim (fun h => hF i h hx) (fun h2 => by have := h.xlt i hx; omega)⟩, fun i hi => Nat.lt_of_lt_of_le (h.xlt i hi) hk.size, hfit, hnum⟩, hk.mono hF⟩
set_option maxRecDepth 100000 in
theorem KeepX.row (h : KeepX X w w') {base sz n : Nat} {e : TypeId} {v : Value} {xs : List Value} (ho : w.ownsRow base e sz v n xs) (hv : ∀ j, v.ownBlock = some j → X j) : w'.ownsRow base e sz v n xs := own_keeps ho h (fun j e hn => hn (hv j e))

set_option maxRecDepth 100000 in
theorem hnew (w : World) (n : Nat) (h1 : 1 ≤ n) (h2 : n ≤ 16384) : Calls Tryz.prog 25 #[.int .i64 (n : Int)] w fun e w' => ∃ b, e = .returned (.tuple #[.pointer (some ⟨b, 0, none⟩), .int .i64 0]) ∧ Hd (fun i => i < w.heap.size) 0 w' b (newD n) ∧ Below w.heap.size w w' := by
  refine (new_any w n h1 h2).mono ?_
  rintro e w' ⟨F, b, rfl, hd, hF, hb⟩
  exact ⟨b, rfl, ⟨⟨F, hd, fun i hi hx => by have := hF i hi; omega⟩, fun i hi => Nat.lt_of_lt_of_le hi hb.size, newD_fit ⟨h1, h2⟩, NumTo.new n⟩, hb⟩
end
end Go.Proofs.YtajlfmnjibgbaaaGreatDoor.Disk
/- Clone. -/
namespace Go.Proofs.YtajlfmnjibgbaaaGreatDoor.Disk
open Go Go.RowKit Go.Maps Mem Go.Shelf

section
variable {w w' : World} {b m : Nat} {L : List (Nat × ByteArray)} {bad : Nat → Bool}
end
section
variable {w : World}
set_option maxRecDepth 100000 in
theorem own_base {base base' n sz : Nat} {e : TypeId} {v : Value} {xs : List Value} (h : w.ownsRow base e sz v n xs) (hb : base' ≤ base) : w.ownsRow base' e sz v n xs := by
  refine ⟨h.1, ?_⟩
  rcases h.2 with h1 | ⟨g, cap, cur, rfl, hg, rest⟩
  · exact Or.inl h1
  · exact Or.inr ⟨g, cap, cur, rfl, Nat.le_trans hb hg, rest⟩
set_option maxRecDepth 100000 in
theorem cells_of_own {n : Nat} {e : TypeId} {base g c : Nat} {us : List Value} (h : w.ownsRow base e 1 (.slice (some ⟨g, 0, none⟩) n c) n us) (j : Nat) (u : Value) (hu : us[j]? = some u) : w.cell? ⟨g, 0 + j, none⟩ = some u := by
  have := h.cells (g := g) rfl j u hu
  rwa [add_lit] at this
end
end Go.Proofs.YtajlfmnjibgbaaaGreatDoor.Disk
/- Clone: the walk. -/
namespace Go.Proofs.YtajlfmnjibgbaaaGreatDoor.Disk
open Go Go.RowKit Go.Maps Mem Go.Shelf

set_option maxRecDepth 100000 in
/-- a store into one's own block leaves a row elsewhere -/
theorem own_far {w : World} {base n sz P i : Nat} {e : TypeId} {v u : Value} {xs : List Value} (h : w.ownsRow base e sz v n xs) (hn : ∀ j, v.ownBlock = some j → j ≠ P) : (w.setCell ⟨P, i, none⟩ u).ownsRow base e sz v n xs :=
  own_keeps h ((Keeps.refl (fun j => j = P) w).put (g := P) (Or.inl rfl) i u) hn
set_option maxRecDepth 100000 in
theorem MapS.far {w : World} {b P i : Nat} {L : List (Nat × ByteArray)} {u : Value} (h : MapS w b L) (hn : b ≠ P) : MapS (w.setCell ⟨P, i, none⟩ u) b L := h.keeps ((Keeps.refl (fun j => j = P) w).put (g := P) (Or.inl rfl) i u) hn
set_option maxRecDepth 100000 in
theorem MapB.far {w : World} {b m P i : Nat} {bad : Nat → Bool} {u : Value} (h : MapB w b m bad) (hn : b ≠ P) : MapB (w.setCell ⟨P, i, none⟩ u) b m bad := h.keeps ((Keeps.refl (fun j => j = P) w).put (g := P) (Or.inl rfl) i u) hn

section
variable {F : Nat → Prop} {w : World} {b : Nat} {d : Dk}
end
end Go.Proofs.YtajlfmnjibgbaaaGreatDoor.Disk

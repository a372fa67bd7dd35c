/- Sync. -/
import Derived.Test.YtojhlijcinenoaaDoorDiskWalkD
import Derived.Deep.RegionHeld3
namespace Go.Proofs.YtojhlijcinenoaaDoor.Disk
open Go Go.RowKit Go.Maps Mem

set_option maxRecDepth 100000 in
theorem applyAll_get : ∀ (L : List (Nat × ByteArray)) (st : List ByteArray), L.Pairwise (fun p q => p.1 ≠ q.1) → ∀ i, i < st.length → (applyAll L st)[i]? = if (find L i).isSome = true then find L i else st[i]?
  | [], st, _, i, _ => rfl
  | p :: L, st, ha, i, hi => by
    obtain ⟨h1, h2⟩ := List.pairwise_cons.1 ha
    show (applyAll L (st.set p.1 p.2))[i]? = _
    rw [applyAll_get L _ h2 i (by rw [List.length_set]; exact hi), find_cons]
    by_cases e : p.1 = i
    · have hn : find L i = none := by
        cases hf : find L i with
        | none => rfl
        | some s => exact absurd e (h1 _ (find_some hf))
      rw [hn, if_neg (by decide), if_pos e, if_pos (by rfl), e, List.getElem?_set_self hi]
    · rw [if_neg e, List.getElem?_set_ne e]
/-- those of the loose sectors that have come are written -/
def Part (d : Dk) (left : Lit → Bool) (st : List ByteArray) : Prop :=
  st.length = d.stays.length ∧ ∀ i, i < d.stays.length → st[i]? = if (find d.L i).isSome = true ∧ left (kI i) = false then find d.L i else d.stays[i]?
set_option maxRecDepth 100000 in
theorem Part.start {d : Dk} {left : Lit → Bool} (h : ∀ n, (find d.L n).isSome = true → left (kI n) = true) : Part d left d.stays :=
  ⟨rfl, fun i _ => by rw [if_neg (fun e => by rw [h i e.1] at e; cases e.2)]⟩
set_option maxRecDepth 100000 in
theorem Part.step {d : Dk} {left : Lit → Bool} {st : List ByteArray} (h : Part d left st) {n : Nat} {s : ByteArray} (hf : find d.L n = some s) (hn : n < d.stays.length) : Part d (fun z => left z && !z.sameKey (kI n)) (st.set n s) := by
  refine ⟨by rw [List.length_set]; exact h.1, fun i hi => ?_⟩
  have hk : ∀ m : Nat, (kI m).sameKey (kI n) = decide (m = n) := fun m => by
    show decide (IntKind.i64 = IntKind.i64 ∧ (m : Int) = (n : Int)) = _
    by_cases e : m = n
    · subst e; simp
    · rw [decide_eq_false (fun h => e (by have := h.2; omega)), decide_eq_false e]
  by_cases e : i = n
  · subst e
    rw [List.getElem?_set_self (by rw [h.1]; exact hi), if_pos ⟨by rw [hf]; rfl, by simp [hk]⟩, hf]
  · rw [List.getElem?_set_ne (Ne.symm e), h.2 i hi]
    simp [hk, e]
set_option maxRecDepth 100000 in
theorem Part.done {d : Dk} (hf : Fit d) {left : Lit → Bool} {st : List ByteArray} (h : Part d left st) (hl : ∀ kl, left kl = false) : st = applyAll d.L d.stays := by
  apply List.ext_getElem?
  intro i
  by_cases hi : i < d.stays.length
  · rw [h.2 i hi, applyAll_get _ _ hf.apart i hi, hl]
    simp
  · rw [List.getElem?_eq_none (by rw [h.1]; omega), List.getElem?_eq_none (by rw [applyAll_length]; omega)]

section
variable {F : Nat → Prop} {w w' : World} {b : Nat} {d d' : Dk} {sb lb bb sc : Nat} {ov : Value}
set_option maxRecDepth 100000 in
set_option maxHeartbeats 8000000 in
theorem sync_any (h : IsDk F w b d) (hn : Num d) (hf : Fit d) : Calls Tryd.prog 36 #[.pointer (some ⟨b, 0, none⟩)] w fun e w' => e = .returned (.int .i64 (syncD d).2) ∧ IsDk F w' b (syncD d).1 ∧ Keeps F w w' := by
  have kst := Lib.hid (step_any h hn)
  have fin := Lib.hid h
  obtain ⟨sb0, lb0, bb0, sc0, ov0, h⟩ := h.core
  have c7 : w.cell? ⟨b, 7, none⟩ = some (.bool d.dead) := h.1.cell 7
  clear h
  unfold syncD
  rcases Bool.eq_false_or_eq_true d.dead with hd | hd
  · rw [hd] at c7
    rw [if_pos hd]
    replace hd := Lib.hid hd
    go_enter Tryd.func36, Tryd.ntmps36
    go_wp2_with fail
    go_ret
    exact ⟨rfl, fin.out, Keeps.refl _ _⟩
  · rw [hd] at c7
    rw [if_neg (by rw [hd]; decide)]
    replace hd := Lib.hid hd
    clear fin
    go_enter Tryd.func36, Tryd.ntmps36
    go_wp2_with fail
    refine kst.out.mono ?_
    rintro e w3 ⟨rfl, hd3, k3⟩
    clear c7
    by_cases ha : d.armed = 1
    · have c6 : w3.cell? ⟨b, 6, none⟩ = some (.string d.keep) := by
        obtain ⟨_, _, _, _, _, hc⟩ := hd3.core
        exact hc.1.cell 6
      have kgo := Lib.hid (goes_any hd3 hf.step d.keep)
      rw [show decide (d.armed = 1) = true by simp [ha]]
      replace ha := Lib.hid ha
      replace k3 := Lib.hid k3
      clear hd3
      go_wp2_with fail
      refine kgo.out.mono ?_
      rintro e w4 ⟨rfl, hd4, k4⟩
      replace hd4 := Lib.hid hd4
      replace k4 := Lib.hid (k3.out.same k4)
      go_wp2_with fail
      go_ret
      rw [show stepped d (fun d => { d with stays := applyAll d.L d.stays, L := [] }) = (goesD (stepD d) d.keep, 2) from if_pos ha.out]
      exact ⟨rfl, hd4.out, k4.out⟩
    · rw [show decide (d.armed = 1) = false by simp [ha]]
      obtain ⟨sb, lb, bb, sc, ov, h⟩ := hd3.core
      have hne := Lib.hid h.ne
      obtain ⟨D, ho, hh, hat0⟩ := h.2.2.1
      have hfew := hf.few
      have hlen := hf.len
      have c1 : w3.cell? ⟨b, 1, none⟩ = some (.map (some lb)) := h.1.cell 1
      replace ha := Lib.hid ha
      replace k3 := Lib.hid k3
      replace hh := Lib.hid hh
      replace hat0 := Lib.hid hat0
      replace hf := Lib.hid hf
      have hst0 := h.2.1
      replace hst0 := Lib.hid hst0
      replace h := Lib.hid h
      clear hd3
      go_wp2_with (first | (at_range; refine wpList_range_own _ rfl _ 68 rfl 3 9 keyI Tryd.underlying68 rdS lb d.L.length D rfl ho ?_; intro w0 hrg0 hg0 hs0))
      go_frame
      have k0 : Keeps (fun j => j = sb) w3 w0 := Keeps.of_grown hg0 (fun j e => by cases e)
      have hst1 := World.ownsRow.kept hst0.out hg0 (Or.inr (fun e => by cases e))
      clear c1
      go_loopw [3] (fun _ wr => ∃ left cnt st, wr.ranges Tryd.prog 3 rdS lb w3.heap.size d.L.length D left cnt ∧ Keeps (fun j => j = sb) w3 wr ∧ Hid (Part d left st) ∧ wr.ownsRow 0 9 1 (.slice (some ⟨sb, 0, none⟩) d.stays.length sc) d.stays.length (st.map Value.string)) (fun _ wr => wr.rangeLeft lb w3.heap.size)
      case atStart => exact ⟨_, _, d.stays, hrg0, k0, Lib.hid (Part.start (fun n hn => (hh.out _).2 ⟨n, rfl, hn⟩)), hst1⟩
      case round =>
        obtain ⟨left, cnt, st, hrg, kk, hpt, hst⟩ := hrel
        clear hrg0 k0 hst1 hg0 hs0 ho
        go_wp2_with (first | (at_next; refine wpList_next_ranges_is _ rfl _ rfl 3 9 .i64 keyI Tryd.underlying3 Tryd.underlying9 lb w3.heap.size d.L.length _ _ _ rfl hrg ?_ ?_))
        · intro hc0 hl0
          have hB := h.out.1.keeps kk (Ne.symm hne.out.1)
          have c1 : wr.cell? ⟨b, 1, none⟩ = some (.map (some lb)) := hB.cell 1
          have hmS := h.out.2.2.1.keeps kk (Ne.symm hne.out.2.2.2.2.1)
          obtain ⟨w2, hrun, hm2, hg⟩ := hmS.clear
          have kg : Keeps (fun j => j = lb) wr w2 := Keeps.of_grown hg (fun j e => by injection e with e; exact e.symm)
          have hB2 := hB.keeps kg (Ne.symm hne.out.2.1)
          have hst2 := own_keeps hst kg (fun j e => by injection e with e; subst e; exact hne.out.2.2.2.2.1)
          have k2 : Keeps (fun j => j = sb ∨ j = lb ∨ j = b) w3 w2 := (kk.mono (fun i e => Or.inl e)).same (kg.mono (fun i e => Or.inr (Or.inl e)))
          have f2 := hB2.free 2
          have d2 : w2.cell? ⟨b, 2, none⟩ = some ov := hB2.cell 2
          have k4 : Keeps (fun j => j = b) w2 (w2.setCell ⟨b, 2, none⟩ (.slice none 0 0)) := (Keeps.refl (fun j => j = b) w2).put (g := b) (Or.inl rfl) 2 _
          have est := hpt.out.done hf.out hl0
          subst est
          have hB3 : Blk (w2.setCell ⟨b, 2, none⟩ (.slice none 0 0)) b 72 (dkc sb lb bb sc (.slice none 0 0) { stepD d with stays := applyAll d.L d.stays, L := [] }) := by
            have := hB2.put 2 (.slice none 0 0)
            have e : ({ stepD d with stays := applyAll d.L d.stays, L := [] } : Dk).stays.length = d.stays.length := applyAll_length _ _
            unfold dkc
            rw [e]
            exact this
          have fin := h.out.fin (d' := { stepD d with stays := applyAll d.L d.stays, L := [] }) (k2.same (k4.mono (fun i e => Or.inr (Or.inr e)))) hB3 (own_keeps hst2 k4 (fun j e => by injection e with e; subst e; exact hne.out.1)) (hm2.keeps k4 hne.out.2.1) (applyAll_length _ _) rfl rfl rfl
          obtain ⟨fin1, fin2⟩ := fin
          replace fin1 := Lib.hid fin1
          replace fin2 := Lib.hid (k3.out.same fin2)
          clear hB3 k4 k2 hst2 hB2 kg hg hm2 hst hmS hB kk hrg
          obtain ⟨A, oc, hov⟩ := own_slice h.out.2.2.2.2.1
          subst hov
          go_wp2_with fail
          go_ret
          rw [show stepped d (fun d => { d with stays := applyAll d.L d.stays, L := [] }) = ({ stepD d with stays := applyAll d.L d.stays, L := [] }, 0) from if_neg ha.out]
          exact ⟨rfl, fin1.out, fin2.out⟩
        · intro x c w1 cnt1 hwx hwc hlx hat hrg1 hlt hg1 hs1 hen
          obtain ⟨n, hkn, hsn⟩ := (hh.out _).1 (has_true_of_atKey hat)
          obtain ⟨s, hfs⟩ := Option.isSome_iff_exists.1 hsn
          obtain rfl : x = (n : Int) := by unfold kI at hkn; injection hkn
          have ecs : c = s := str_eq ((hat .nil).symm.trans (hat0.out n s hfs .nil))
          subst ecs
          have hm0 : wr.rangeLeft lb w3.heap.size = cnt := hrg.left_eq
          have hnl := (hf.out.loose _ (find_some hfs)).1
          have k1 : Keeps (fun j => j = sb) w3 w1 := kk.trans (G := fun j => j = w3.heap.size) (Keeps.of_grown hg1 (fun j e => by injection e with e; exact e.symm)) (fun j e => Or.inr (Nat.le_of_eq e.symm))
          have hsb : sb < w3.heap.size := h.out.2.2.2.2.2.2.2.2 sb h.out.2.2.2.2.2.2.1.2.1
          have hstk := World.ownsRow.kept hst hg1 (Or.inr (fun e => by injection e with e; exact absurd (show sb = w3.heap.size from e) (by omega)))
          have hB := h.out.1.keeps k1 (Ne.symm hne.out.1)
          have c0 : w1.cell? ⟨b, 0, none⟩ = some (.slice (some ⟨sb, 0, none⟩) d.stays.length sc) := hB.cell 0
          obtain ⟨hst', fst⟩ := own_put (i := n) (u := .string c) hstk
          obtain ⟨old, hold⟩ : ∃ u, (st.map Value.string)[n]? = some u := ⟨_, List.getElem?_eq_getElem (by rw [List.length_map, hpt.out.1]; exact hnl)⟩
          have cst := hstk.cells (g := sb) rfl n old hold
          rw [add_lit, Nat.zero_add] at cst
          have hrg2 := hrg1.kept (row := some sb) (w' := w1.setCell ⟨sb, n, none⟩ (.string c)) (Only.put (Only.refl w1 (some sb)) n _) (fun e => by injection e with e; exact hne.out.2.2.2.2.1 e.symm) (fun e => by injection e with e; omega)
          have fin : ∃ left cnt st, (w1.setCell ⟨sb, n, none⟩ (.string c)).ranges Tryd.prog 3 rdS lb w3.heap.size d.L.length D left cnt ∧ Keeps (fun j => j = sb) w3 (w1.setCell ⟨sb, n, none⟩ (.string c)) ∧ Hid (Part d left st) ∧ (w1.setCell ⟨sb, n, none⟩ (.string c)).ownsRow 0 9 1 (.slice (some ⟨sb, 0, none⟩) d.stays.length sc) d.stays.length (st.map Value.string) :=
            ⟨_, _, st.set n c, hrg2, k1.put (Or.inl rfl) _ _, Lib.hid (hpt.out.step hfs hnl), by rw [List.map_set]; exact hst'⟩
          have hmeas : (w1.setCell ⟨sb, n, none⟩ (.string c)).rangeLeft lb w3.heap.size < wr.rangeLeft lb w3.heap.size := by rw [hrg2.left_eq, hm0]; exact hlt
          replace fin := Lib.hid fin
          replace hmeas := Lib.hid hmeas
          replace hfs := Lib.hid hfs
          clear hrg2 hold hst' hB hstk hst k1 kk hrg1 hrg hg1 hs1 hm0 hat hlx hsn hkn hlt hpt
          go_wp2_with fail
          exact ⟨fin.out, hmeas.out⟩
end
end Go.Proofs.YtojhlijcinenoaaDoor.Disk

/- Sync. -/
import Derived.Test.YtkghlbpkdkonbaaGreatDiskWalkD
import Derived.Deep.RegionHeld3
import Derived.Test.YtkghlbpkdkonbaaGreatShelf
import Derived.Lib.Join
import Derived.Laws.CopyOwn
import Derived.OwnWalk
namespace Go.Proofs.YtkghlbpkdkonbaaGreat.Disk
open Go Go.RowKit Go.Maps Mem

set_option maxRecDepth 100000 in
theorem applyAll_get : ∀ (L : List (Nat × ByteArray)) (st : List ByteArray), L.Pairwise (fun p q => p.1 ≠ q.1) → ∀ i, i < st.length → (applyAll L st)[i]? = if (find L i).isSome = true then find L i else st[i]?
  | [], st, _, i, _ => rfl
  | p :: L, st, ha, i, hi => by
    obtain ⟨h1, h2⟩ := List.pairwise_cons.1 ha
    show (applyAll L (st.set p.1 p.2))[i]? = _
    rw [applyAll_get L _ h2 i (by rw [List.length_set]; exact hi), find_cons]
    by_cases e : p.1 = i
    · have hn : find L i = none := by
        cases hf : find L i with
        | none => rfl
        | some s => exact absurd e (h1 _ (find_some hf))
      rw [hn, if_neg (by decide), if_pos e, if_pos (by rfl), e, List.getElem?_set_self hi]
    · rw [if_neg e, List.getElem?_set_ne e]
/-- those of the loose sectors that have come are written -/
def Part (d : Dk) (left : Lit → Bool) (st : List ByteArray) : Prop :=
  st.length = d.stays.length ∧ ∀ i, i < d.stays.length → st[i]? = if (find d.L i).isSome = true ∧ left (kI i) = false then find d.L i else d.stays[i]?
set_option maxRecDepth 100000 in
theorem Part.start {d : Dk} {left : Lit → Bool} (h : ∀ n, (find d.L n).isSome = true → left (kI n) = true) : Part d left d.stays :=
  ⟨rfl, fun i _ => by rw [if_neg (fun e => by rw [h i e.1] at e; cases e.2)]⟩
set_option maxRecDepth 100000 in
theorem Part.step {d : Dk} {left : Lit → Bool} {st : List ByteArray} (h : Part d left st) {n : Nat} {s : ByteArray} (hf : find d.L n = some s) (hn : n < d.stays.length) : Part d (fun z => left z && !z.sameKey (kI n)) (st.set n s) := by
  refine ⟨by rw [List.length_set]; exact h.1, fun i hi => ?_⟩
  have hk : ∀ m : Nat, (kI m).sameKey (kI n) = decide (m = n) := fun m => by
    show decide (IntKind.i64 = IntKind.i64 ∧ (m : Int) = (n : Int)) = _
    by_cases e : m = n
    · subst e; simp
    · rw [decide_eq_false (fun h => e (by have := h.2; omega)), decide_eq_false e]
  by_cases e : i = n
  · subst e
    rw [List.getElem?_set_self (by rw [h.1]; exact hi), if_pos ⟨by rw [hf]; rfl, by simp [hk]⟩, hf]
  · rw [List.getElem?_set_ne (Ne.symm e), h.2 i hi]
    simp [hk, e]
set_option maxRecDepth 100000 in
theorem Part.done {d : Dk} (hf : Fit d) {left : Lit → Bool} {st : List ByteArray} (h : Part d left st) (hl : ∀ kl, left kl = false) : st = applyAll d.L d.stays := by
  apply List.ext_getElem?
  intro i
  by_cases hi : i < d.stays.length
  · rw [h.2 i hi, applyAll_get _ _ hf.apart i hi, hl]
    simp
  · rw [List.getElem?_eq_none (by rw [h.1]; omega), List.getElem?_eq_none (by rw [applyAll_length]; omega)]

section
variable {F : Nat → Prop} {w w' : World} {b : Nat} {d d' : Dk} {sb lb bb sc : Nat} {ov : Value}
set_option maxRecDepth 100000 in
set_option maxHeartbeats 8000000 in
theorem sync_any (h : IsDk F w b d) (hn : Num d) (hf : Fit d) : Calls Tryz.prog 53 #[.pointer (some ⟨b, 0, none⟩)] w fun e w' => e = .returned (.int .i64 (syncD d).2) ∧ IsDk F w' b (syncD d).1 ∧ Keeps F w w' := by
  have kst := Lib.hid (step_any h hn)
  have fin := Lib.hid h
  obtain ⟨sb0, lb0, bb0, sc0, ov0, h⟩ := h.core
  have c7 : w.cell? ⟨b, 7, none⟩ = some (.bool d.dead) := h.1.cell 7
  clear h
  unfold syncD
  rcases Bool.eq_false_or_eq_true d.dead with hd | hd
  · rw [hd] at c7
    rw [if_pos hd]
    replace hd := Lib.hid hd
    go_enter Tryz.func53, Tryz.ntmps53
    go_wp2_with fail
    go_ret
    exact ⟨rfl, fin.out, Keeps.refl _ _⟩
  · rw [hd] at c7
    rw [if_neg (by rw [hd]; decide)]
    replace hd := Lib.hid hd
    clear fin
    go_enter Tryz.func53, Tryz.ntmps53
    go_wp2_with fail
    refine kst.out.mono ?_
    rintro e w3 ⟨rfl, hd3, k3⟩
    clear c7
    by_cases ha : d.armed = 1
    · have c6 : w3.cell? ⟨b, 6, none⟩ = some (.string d.keep) := by
        obtain ⟨_, _, _, _, _, hc⟩ := hd3.core
        exact hc.1.cell 6
      have kgo := Lib.hid (goes_any hd3 hf.step d.keep)
      rw [show decide (d.armed = 1) = true by simp [ha]]
      replace ha := Lib.hid ha
      replace k3 := Lib.hid k3
      clear hd3
      go_wp2_with fail
      refine kgo.out.mono ?_
      rintro e w4 ⟨rfl, hd4, k4⟩
      replace hd4 := Lib.hid hd4
      replace k4 := Lib.hid (k3.out.same k4)
      go_wp2_with fail
      go_ret
      rw [show stepped d (fun d => { d with stays := applyAll d.L d.stays, L := [] }) = (goesD (stepD d) d.keep, 2) from if_pos ha.out]
      exact ⟨rfl, hd4.out, k4.out⟩
    · rw [show decide (d.armed = 1) = false by simp [ha]]
      obtain ⟨sb, lb, bb, sc, ov, h⟩ := hd3.core
      have hne := Lib.hid h.ne
      obtain ⟨D, ho, hh, hat0⟩ := h.2.2.1
      have hfew := hf.few
      have hlen := hf.len
      have c1 : w3.cell? ⟨b, 1, none⟩ = some (.map (some lb)) := h.1.cell 1
      replace ha := Lib.hid ha
      replace k3 := Lib.hid k3
      replace hh := Lib.hid hh
      replace hat0 := Lib.hid hat0
      replace hf := Lib.hid hf
      have hst0 := h.2.1
      replace hst0 := Lib.hid hst0
      replace h := Lib.hid h
      clear hd3
      go_wp2_with (first | (at_range; refine wpList_range_own _ rfl _ 86 rfl 3 9 keyI Tryz.underlying86 rdS lb d.L.length D rfl ho ?_; intro w0 hrg0 hg0 hs0))
      go_frame
      have k0 : Keeps (fun j => j = sb) w3 w0 := Keeps.of_grown hg0 (fun j e => by cases e)
      have hst1 := World.ownsRow.kept hst0.out hg0 (Or.inr (fun e => by cases e))
      clear c1
      go_loopw [3] (fun _ wr => ∃ left cnt st, wr.ranges Tryz.prog 3 rdS lb w3.heap.size d.L.length D left cnt ∧ Keeps (fun j => j = sb) w3 wr ∧ Hid (Part d left st) ∧ wr.ownsRow 0 9 1 (.slice (some ⟨sb, 0, none⟩) d.stays.length sc) d.stays.length (st.map Value.string)) (fun _ wr => wr.rangeLeft lb w3.heap.size)
      case atStart => exact ⟨_, _, d.stays, hrg0, k0, Lib.hid (Part.start (fun n hn => (hh.out _).2 ⟨n, rfl, hn⟩)), hst1⟩
      case round =>
        obtain ⟨left, cnt, st, hrg, kk, hpt, hst⟩ := hrel
        clear hrg0 k0 hst1 hg0 hs0 ho
        go_wp2_with (first | (at_next; refine wpList_next_ranges_is _ rfl _ rfl 3 9 .i64 keyI Tryz.underlying3 Tryz.underlying9 lb w3.heap.size d.L.length _ _ _ rfl hrg ?_ ?_))
        · intro hc0 hl0
          have hB := h.out.1.keeps kk (Ne.symm hne.out.1)
          have c1 : wr.cell? ⟨b, 1, none⟩ = some (.map (some lb)) := hB.cell 1
          have hmS := h.out.2.2.1.keeps kk (Ne.symm hne.out.2.2.2.2.1)
          obtain ⟨w2, hrun, hm2, hg⟩ := hmS.clear
          have kg : Keeps (fun j => j = lb) wr w2 := Keeps.of_grown hg (fun j e => by injection e with e; exact e.symm)
          have hB2 := hB.keeps kg (Ne.symm hne.out.2.1)
          have hst2 := own_keeps hst kg (fun j e => by injection e with e; subst e; exact hne.out.2.2.2.2.1)
          have k2 : Keeps (fun j => j = sb ∨ j = lb ∨ j = b) w3 w2 := (kk.mono (fun i e => Or.inl e)).same (kg.mono (fun i e => Or.inr (Or.inl e)))
          have f2 := hB2.free 2
          have d2 : w2.cell? ⟨b, 2, none⟩ = some ov := hB2.cell 2
          have k4 : Keeps (fun j => j = b) w2 (w2.setCell ⟨b, 2, none⟩ (.slice none 0 0)) := (Keeps.refl (fun j => j = b) w2).put (g := b) (Or.inl rfl) 2 _
          have est := hpt.out.done hf.out hl0
          subst est
          have hB3 : Blk (w2.setCell ⟨b, 2, none⟩ (.slice none 0 0)) b 89 (dkc sb lb bb sc (.slice none 0 0) { stepD d with stays := applyAll d.L d.stays, L := [] }) := by
            have := hB2.put 2 (.slice none 0 0)
            have e : ({ stepD d with stays := applyAll d.L d.stays, L := [] } : Dk).stays.length = d.stays.length := applyAll_length _ _
            unfold dkc
            rw [e]
            exact this
          have fin := h.out.fin (d' := { stepD d with stays := applyAll d.L d.stays, L := [] }) (k2.same (k4.mono (fun i e => Or.inr (Or.inr e)))) hB3 (own_keeps hst2 k4 (fun j e => by injection e with e; subst e; exact hne.out.1)) (hm2.keeps k4 hne.out.2.1) (applyAll_length _ _) rfl rfl rfl
          obtain ⟨fin1, fin2⟩ := fin
          replace fin1 := Lib.hid fin1
          replace fin2 := Lib.hid (k3.out.same fin2)
          clear hB3 k4 k2 hst2 hB2 kg hg hm2 hst hmS hB kk hrg
          obtain ⟨A, oc, hov⟩ := own_slice h.out.2.2.2.2.1
          subst hov
          go_wp2_with fail
          go_ret
          rw [show stepped d (fun d => { d with stays := applyAll d.L d.stays, L := [] }) = ({ stepD d with stays := applyAll d.L d.stays, L := [] }, 0) from if_neg ha.out]
          exact ⟨rfl, fin1.out, fin2.out⟩
        · intro x c w1 cnt1 hwx hwc hlx hat hrg1 hlt hg1 hs1 hen
          obtain ⟨n, hkn, hsn⟩ := (hh.out _).1 (has_true_of_atKey hat)
          obtain ⟨s, hfs⟩ := Option.isSome_iff_exists.1 hsn
          obtain rfl : x = (n : Int) := by unfold kI at hkn; injection hkn
          have ecs : c = s := str_eq ((hat .nil).symm.trans (hat0.out n s hfs .nil))
          subst ecs
          have hm0 : wr.rangeLeft lb w3.heap.size = cnt := hrg.left_eq
          have hnl := (hf.out.loose _ (find_some hfs)).1
          have k1 : Keeps (fun j => j = sb) w3 w1 := kk.trans (G := fun j => j = w3.heap.size) (Keeps.of_grown hg1 (fun j e => by injection e with e; exact e.symm)) (fun j e => Or.inr (Nat.le_of_eq e.symm))
          have hsb : sb < w3.heap.size := h.out.2.2.2.2.2.2.2.2 sb h.out.2.2.2.2.2.2.1.2.1
          have hstk := World.ownsRow.kept hst hg1 (Or.inr (fun e => by injection e with e; exact absurd (show sb = w3.heap.size from e) (by omega)))
          have hB := h.out.1.keeps k1 (Ne.symm hne.out.1)
          have c0 : w1.cell? ⟨b, 0, none⟩ = some (.slice (some ⟨sb, 0, none⟩) d.stays.length sc) := hB.cell 0
          obtain ⟨hst', fst⟩ := own_put (i := n) (u := .string c) hstk
          obtain ⟨old, hold⟩ : ∃ u, (st.map Value.string)[n]? = some u := ⟨_, List.getElem?_eq_getElem (by rw [List.length_map, hpt.out.1]; exact hnl)⟩
          have cst := hstk.cells (g := sb) rfl n old hold
          rw [add_lit, Nat.zero_add] at cst
          have hrg2 := hrg1.kept (row := some sb) (w' := w1.setCell ⟨sb, n, none⟩ (.string c)) (Only.put (Only.refl w1 (some sb)) n _) (fun e => by injection e with e; exact hne.out.2.2.2.2.1 e.symm) (fun e => by injection e with e; omega)
          have fin : ∃ left cnt st, (w1.setCell ⟨sb, n, none⟩ (.string c)).ranges Tryz.prog 3 rdS lb w3.heap.size d.L.length D left cnt ∧ Keeps (fun j => j = sb) w3 (w1.setCell ⟨sb, n, none⟩ (.string c)) ∧ Hid (Part d left st) ∧ (w1.setCell ⟨sb, n, none⟩ (.string c)).ownsRow 0 9 1 (.slice (some ⟨sb, 0, none⟩) d.stays.length sc) d.stays.length (st.map Value.string) :=
            ⟨_, _, st.set n c, hrg2, k1.put (Or.inl rfl) _ _, Lib.hid (hpt.out.step hfs hnl), by rw [List.map_set]; exact hst'⟩
          have hmeas : (w1.setCell ⟨sb, n, none⟩ (.string c)).rangeLeft lb w3.heap.size < wr.rangeLeft lb w3.heap.size := by rw [hrg2.left_eq, hm0]; exact hlt
          replace fin := Lib.hid fin
          replace hmeas := Lib.hid hmeas
          replace hfs := Lib.hid hfs
          clear hrg2 hold hst' hB hstk hst k1 kk hrg1 hrg hg1 hs1 hm0 hat hlx hsn hkn hlt hpt
          go_wp2_with fail
          exact ⟨fin.out, hmeas.out⟩
end
end Go.Proofs.YtkghlbpkdkonbaaGreat.Disk
/- Image. -/
namespace Go.Proofs.YtkghlbpkdkonbaaGreat.Disk
open Go Go.RowKit Go.Maps Mem

set_option maxRecDepth 100000 in
theorem join_nil (L : List (List UInt8)) : Lib.join L [] = L.flatMap id := by
  cases L with
  | nil => rfl
  | cons x r => rw [Lib.join_cons, Lib.joinTail]; simp
section
variable {F : Nat → Prop} {w w' : World} {b : Nat} {d d' : Dk}
set_option maxRecDepth 100000 in
theorem image_len {l : List ByteArray} (h : ∀ s ∈ l, s.size = 64) : (l.flatMap fun s => s.data.toList).length = 64 * l.length := by
  induction l with
  | nil => rfl
  | cons s l ih =>
    rw [List.flatMap_cons, List.length_append, ih (fun t ht => h t (List.mem_cons_of_mem _ ht)), List.length_cons]
    have := h s List.mem_cons_self
    rw [← Lib.size_eq s, this]
    omega
set_option maxRecDepth 100000 in
set_option maxHeartbeats 4000000 in
theorem image_any (h : IsDk F w b d) (hf : Fit d) : Calls Tryz.prog 25 #[.pointer (some ⟨b, 0, none⟩)] w fun e w' => e = .returned (.string ⟨(imageD d).toArray⟩) ∧ Below w.heap.size w w' := by
  obtain ⟨sb, lb, bb, sc, ov, h⟩ := h.core
  have h1 := h.1
  have h2 := h.2.1
  have c0 : w.cell? ⟨b, 0, none⟩ = some (.slice (some ⟨sb, 0, none⟩) d.stays.length sc) := h1.cell 0
  have hfew := hf.few
  obtain ⟨hbase, hlt⟩ := h2.lt sb rfl
  have hcap : d.stays.length ≤ sc := by
    rcases h2.2 with ⟨e, _⟩ | ⟨g, cap, cur, hv, _, _, hle, _⟩
    · cases e
    · injection hv with _ _ hv
      rw [hv]; exact hle
  have ej : Lib.join (d.stays.map fun s => s.data.toList) [] = imageD d := by rw [join_nil, imageD, List.flatMap_map]; rfl
  have k := Tryz.strings_Join sb 0 sc d.stays ⟨#[]⟩ w (fun j x hx => by
    have := h2.cells (g := sb) rfl j (.string x) (by rw [List.getElem?_map, hx]; rfl)
    rw [add_lit] at this
    exact this) hlt (by omega) hcap (by
    show (Lib.join (d.stays.map fun s => s.data.toList) []).length ≤ _
    rw [ej, imageD, image_len hf.each]; omega)
  rw [show Lib.join (d.stays.map (·.data.toList)) (ByteArray.mk #[]).data.toList = imageD d from ej] at k
  replace k := Lib.hid k
  clear ej h1 h2 h hfew hf
  go_enter Tryz.func25, Tryz.ntmps25
  go_wp2_with fail
  refine k.out.mono ?_
  rintro e w1 ⟨rfl, hb⟩
  go_wp2_with fail
  go_ret
  exact ⟨rfl, hb⟩
end
end Go.Proofs.YtkghlbpkdkonbaaGreat.Disk
/- slices.Repeat of one text; New. -/
namespace Go.Proofs.YtkghlbpkdkonbaaGreat.Disk
open Go Go.RowKit Go.Maps Mem

set_option maxRecDepth 100000 in
theorem infoS : (Tryz.prog.info? 9).map (fun i => (i.zero, i.size, i.bytes)) = some (some (.string ⟨#[]⟩), 1, 16) := by kernel_rfl
set_option maxRecDepth 100000 in
theorem mul_one_ (N : Nat) (hN : N ≤ 16384) (w : World) : Calls Tryz.prog 94 #[.int .u64 1, .int .u64 (N : Int)] w fun e w' => e = .returned (.tuple #[.int .u64 0, .int .u64 (N : Int)]) ∧ w' = w := by
  have k := Tryz.bits_Mul 1 N (by decide) (by omega) w
  rw [Nat.one_mul, Nat.div_eq_of_lt (by omega), Nat.mod_eq_of_lt (by omega)] at k
  exact k
/-- block g: n times the text, then empty texts up to N -/
def Rep (w : World) (g N n : Nat) (s : ByteArray) : Prop := Blk w g 9 (List.replicate n (Value.string s) ++ List.replicate (N - n) (Value.string ⟨#[]⟩)).toArray
set_option maxRecDepth 100000 in
theorem grown_setRow (w : World) (g : Nat) (cs : Array Value) : w.grownBy (w.setRow g cs) (some g) :=
  ⟨rfl, rfl, rfl, by simp [World.setRow], fun k hk hn => setRow_other w g k cs (fun e => hn (by rw [e]))⟩
set_option maxRecDepth 100000 in
theorem rep_zero {w : World} {base g N : Nat} (s : ByteArray) (h : w.ownsRow base 9 1 (.slice (some ⟨g, 0, none⟩) N N) N (madeCells (Value.string ⟨#[]⟩).cells (N * 1)).toList) : Rep w g N 0 s := by
  rcases h.2 with ⟨e, _⟩ | ⟨g', cap, cur, hv, _, hg, _, _, hs, ht⟩
  · cases e
  · injection hv with hv1 _ hv2
    injection hv1 with hv1
    obtain rfl : g = g' := congrArg Addr.block hv1
    subst hv2
    show w.heap[g]? = _
    rw [hg]
    have e : cur.toList = List.replicate N (Value.string ⟨#[]⟩) := by
      rw [List.take_of_length_le (by simp [hs])] at ht
      rw [ht]
      apply List.ext_getElem
      · simp [madeCells]
      · intro j h1 h2
        simp [madeCells, Value.cells, Nat.mod_one]
    have e2 : cur = (List.replicate N (Value.string ⟨#[]⟩)).toArray := by rw [← e]
    rw [e2]
    simp
set_option maxRecDepth 100000 in
theorem rep_more {w : World} {g N n : Nat} {s : ByteArray} (h : Rep w g N n s) (ad : Addr) (k c dc : Nat) (hk : ∀ j, j < Nat.min k (N - n) → w.cell? (ad.add j) = some (.string s)) :
    ∃ w3, (∀ ty, (Builtin.copy_ #[48, 48] ty #[.slice (some ⟨g, n, none⟩) (N - n) dc, .slice (some ad) k c]).run Tryz.prog w = .ok (.int .i64 ((Nat.min k (N - n) : Nat) : Int)) w3) ∧ Rep w3 g N (n + Nat.min k (N - n)) s ∧ w.grownBy w3 (some g) := by
  obtain ⟨m, hm⟩ : ∃ m, m = Nat.min k (N - n) := ⟨_, rfl⟩
  have hmle : m ≤ N - n := by rw [hm]; exact Nat.min_le_right _ _
  have hr := fun ty => run_copy_row (P := Tryz.prog) w 48 48 ty 9 g n (N - n) dc ad k c _ 9 (List.replicate m (Value.string s)) Tryz.underlying48 (by kernel_rfl) h (by rw [List.length_replicate]; exact hm)
    (fun j v hv => by
      have hj := (List.getElem?_eq_some_iff.1 hv).1
      rw [List.length_replicate] at hj
      rw [List.getElem?_replicate, if_pos hj] at hv
      injection hv with hv
      rw [← hv]
      exact hk j (hm ▸ hj)) (by simp; omega) (fun v hv => by rw [(List.mem_replicate.1 hv).2]; rfl)
  rw [← hm]
  have e : (List.take n (List.replicate n (Value.string s) ++ List.replicate (N - n) (Value.string ⟨#[]⟩)).toArray.toList ++ List.replicate m (Value.string s) ++ List.drop (n + (List.replicate m (Value.string s)).length) (List.replicate n (Value.string s) ++ List.replicate (N - n) (Value.string ⟨#[]⟩)).toArray.toList).toArray =
      (List.replicate (n + m) (Value.string s) ++ List.replicate (N - (n + m)) (Value.string ⟨#[]⟩)).toArray := by
    congr 1
    show List.take n (List.replicate n (Value.string s) ++ List.replicate (N - n) (Value.string ⟨#[]⟩)) ++ List.replicate m (Value.string s) ++ List.drop (n + (List.replicate m (Value.string s)).length) (List.replicate n (Value.string s) ++ List.replicate (N - n) (Value.string ⟨#[]⟩)) = _
    rw [List.take_append_of_le_length (by simp), List.take_of_length_le (by simp), List.drop_append, List.drop_eq_nil_of_le (by simp), List.nil_append, List.drop_replicate, List.replicate_append_replicate, List.length_replicate, List.length_replicate]
    congr 2
    omega
  refine ⟨_, fun ty => ?_, ?_, grown_setRow w g (List.replicate (n + m) (Value.string s) ++ List.replicate (N - (n + m)) (Value.string ⟨#[]⟩)).toArray⟩
  · rw [hr ty, e, List.length_replicate]
    rfl
  · exact setRow_heap w g _ _ _ _ h
set_option maxRecDepth 100000 in
theorem rep_first {w : World} {g N xb : Nat} {s : ByteArray} (h : Rep w g N 0 s) (hN : 1 ≤ N) (hx : w.cell? ⟨xb, 0, none⟩ = some (.string s)) :
    ∃ w3, (∀ ty, (Builtin.copy_ #[48, 48] ty #[.slice (some ⟨g, 0, none⟩) N N, .slice (some ⟨xb, 0, none⟩) 1 1]).run Tryz.prog w = .ok (.int .i64 1) w3) ∧ Rep w3 g N 1 s ∧ w.grownBy w3 (some g) := by
  have e : Nat.min 1 (N - 0) = 1 := Nat.min_eq_left (by omega)
  have k := rep_more h ⟨xb, 0, none⟩ 1 1 N (fun j hj => by
    rw [e] at hj
    obtain rfl : j = 0 := by omega
    exact hx)
  rw [e] at k
  simpa using k
set_option maxRecDepth 100000 in
theorem rep_next {w : World} {g N n : Nat} {s : ByteArray} (h : Rep w g N n s) (h1 : 1 ≤ n) (hn : n < N) :
    ∃ w3 m, 1 ≤ m ∧ n + m ≤ N ∧ (∀ ty, (Builtin.copy_ #[48, 48] ty #[.slice (some ⟨g, n, none⟩) (N - n) (N - n), .slice (some ⟨g, 0, none⟩) n N]).run Tryz.prog w = .ok (.int .i64 (m : Int)) w3) ∧ Rep w3 g N (n + m) s ∧ w.grownBy w3 (some g) := by
  obtain ⟨w3, h2, h3, h4⟩ := rep_more h ⟨g, 0, none⟩ n N (N - n) (fun j hj => by
    have hj' : j < n := Nat.lt_of_lt_of_le hj (Nat.min_le_left _ _)
    rw [add_lit, Nat.zero_add, Blk.cell h]
    simp [List.getElem?_append_left, hj'])
  exact ⟨w3, _, (Nat.le_min (a := 1)).2 ⟨h1, by omega⟩, by have := Nat.min_le_right n (N - n); omega, h2, h3, h4⟩
section
variable {w : World}
set_option maxRecDepth 100000 in
set_option maxHeartbeats 8000000 in
theorem repeat_any (xb N : Nat) (s : ByteArray) (hN1 : 1 ≤ N) (hN : N ≤ 16384) (hx : w.cell? ⟨xb, 0, none⟩ = some (.string s)) :
    Calls Tryz.prog 74 #[.slice (some ⟨xb, 0, none⟩) 1 1, .int .i64 (N : Int)] w fun e w' => e = .returned (.slice (some ⟨w.heap.size, 0, none⟩) N N) ∧
      w'.heap[w.heap.size]? = some (.cells (List.replicate N (Value.string s)).toArray 9 (0, 0)) ∧ Below w.heap.size w w' := by
  obtain ⟨i0, hinf, hz0, hz1, hz2⟩ := info_parts infoS
  have hxlt := World.block_lt_of_cell? w _ hx
  have km := mul_one_ N hN
  replace km := Lib.hid km
  replace hx := Lib.hid hx
  go_enter Tryz.func74, Tryz.ntmps74
  go_wp2_with fail
  refine (km.out _).mono ?_
  rintro e w1 ⟨rfl, hw⟩
  subst hw
  go_wp2_with (first | (at_make; refine wpList_make_full _ rfl _ _ _ rfl w1.heap.size 9 i0 (.string ⟨#[]⟩) 1 Tryz.underlying48 hinf hz0 hz1 .i64 .i64 (N : Int) (N : Int) N rfl rfl rfl rfl (by rw [hz2]; omega) (by unfold maxLen; omega) (Nat.le_refl _) ?_; intro w2 ho2 hg2; obtain ⟨w3, hc3, r3, g3⟩ := rep_first (rep_zero s ho2) hN1 ((hg2.cell hx.out (by simp)) : w2.cell? ⟨xb, 0, none⟩ = some (.string s)); replace r3 := Lib.hid r3))
  have hb3 : Below w1.heap.size w1 w3 := (show Below w1.heap.size w1 w2 from ⟨hg2.os, hg2.tape, hg2.output, hg2.size, fun k hk => hg2.block k hk (by simp)⟩).trans (Only.toBelow g3 (Nat.le_refl _) hg2.size)
  clear hc3 ho2
  go_loopw [8] (fun t wr => ∃ n : Nat, 1 ≤ n ∧ n ≤ N ∧ t = .int .i64 (n : Int) ∧ Rep wr w1.heap.size N n s ∧ Below w1.heap.size w1 wr) (fun t _ => N - (intOf t).toNat)
  case atStart => exact ⟨1, Nat.le_refl _, hN1, rfl, r3.out, hb3⟩
  case round =>
    clear r3 hb3 g3 hg2
    obtain ⟨n, hn1, hnN, rfl, hr, hb⟩ := hrel
    by_cases hlt : n < N
    · obtain ⟨w4, m, hm1, hmN, hc4, r4, g4⟩ := rep_next (w := wr.drew) hr hn1 hlt
      have hb4 : Below w1.heap.size w1 w4 := hb.drew.trans (Only.toBelow g4 (Nat.le_refl _) hb.size)
      replace r4 := Lib.hid r4
      replace hb4 := Lib.hid hb4
      clear hr hb g4
      go_wp2_with fail
      go_region
      go_wp2_with fail
      exact ⟨⟨n + m, by omega, hmN, rfl, r4.out, hb4.out⟩, by simp [intOf]; omega⟩
    · obtain rfl : n = N := by omega
      have hr' : Hid (wr.heap[w1.heap.size]? = some (.cells (List.replicate n (Value.string s)).toArray 9 (0, 0))) := by
        have := hr
        unfold Rep at this
        rw [Nat.sub_self, List.replicate_zero, List.append_nil] at this
        exact Lib.hid this
      clear hr
      go_wp2_with fail
      go_ret
      exact ⟨rfl, hr'.out, hb⟩
end
end Go.Proofs.YtkghlbpkdkonbaaGreat.Disk

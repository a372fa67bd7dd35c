/- The document's log: Format; Same. -/
import Derived.Test.YtojhlijcinenoaaGreatDoorNvRefB
import Derived.BigQuiet
namespace Go.Proofs.YtojhlijcinenoaaGreatDoor.Nv
open Go Go.RowKit Go.Maps Mem Disk
set_option maxRecDepth 100000 in
theorem sn_of {l : List ByteArray} {k : Nat} {x : ByteArray} (h : l[k]? = some x) : l.take (k + 1) = l.take k ++ [x] := by
  rw [List.take_add_one, h]
  rfl
set_option maxRecDepth 100000 in
theorem getStr_some {l : List ByteArray} {k : Nat} {u : Value} (h : (l.map Value.string)[k]? = some u) : ∃ x, l[k]? = some x ∧ u = .string x := by
  rw [List.getElem?_map] at h
  cases hx : l[k]? with
  | none => rw [hx] at h; cases h
  | some x => rw [hx] at h; exact ⟨x, rfl, (Option.some.inj h).symm⟩
set_option maxRecDepth 100000 in
theorem txt_inj {a b : ByteArray} (h : a.toList = b.toList) : a = b := by
  rw [Lib.toList_data, Lib.toList_data] at h
  exact ByteArray.ext (Array.toList_inj.1 h)
section
variable {F G K : Nat → Prop} {w w' : World} {a b m : Nat} {v : Value} {l l' : Lg} {d d' : Dk}
set_option maxRecDepth 100000 in
theorem stays_cell (h : IsRk G w b d) : ∃ S c, w.cell? ⟨b, 0, none⟩ = some (.slice S d.stays.length c) := by
  obtain ⟨sb, sc, lv, bv, B, h⟩ := h
  exact ⟨_, _, h.cells.1⟩
set_option maxRecDepth 100000 in
set_option maxHeartbeats 4000000 in
theorem rformat_no (h : IsRk G w b d) (g : Int) (hno : d.stays.length < 5 ∨ g < 0 ∨ 1099511627776 < g) : Calls Tryz.prog 35 #[.pointer (some ⟨b, 0, none⟩), .int .i64 g] w fun e w' => e = .returned (.tuple #[.pointer none, .int .i64 70]) ∧ w' = w := by
  obtain ⟨S, c, c0⟩ := stays_cell h
  clear h
  generalize d.stays.length = N at c0 hno
  by_cases h1 : N < 5
  · have q1 : decide ((N : Int) < 5) = true := decide_eq_true (by omega)
    clear hno h1
    go_enter Tryz.func35, Tryz.ntmps35
    go_wp2_with fail
    go_ret2
    exact ⟨rfl, rfl⟩
  · have q1 : decide ((N : Int) < 5) = false := decide_eq_false (by omega)
    by_cases h2 : g < 0
    · have q2 : decide (g < 0) = true := decide_eq_true h2
      clear hno h1
      go_enter Tryz.func35, Tryz.ntmps35
      go_wp2_with fail
      go_ret2
      exact ⟨rfl, rfl⟩
    · have q2 : decide (g < 0) = false := decide_eq_false h2
      have q3 : decide (1099511627776 < g) = true := decide_eq_true (by omega)
      clear hno h1 h2
      go_enter Tryz.func35, Tryz.ntmps35
      go_wp2_with fail
      go_ret2
      exact ⟨rfl, rfl⟩
def RFPost (G : Nat → Prop) (w : World) (b : Nat) (r : Lg × Dk × Int) (e : Ending) (w' : World) : Prop :=
  ∃ a F', e = .returned (.tuple #[ptrIf a r.2.2, .int .i64 r.2.2]) ∧ RL F' w' a b r.1 r.2.1 ∧ Keeps G w w' ∧ ∀ i, F' i → G i ∨ w.heap.size ≤ i
set_option maxRecDepth 100000 in
set_option maxHeartbeats 4000000 in
theorem rformat_yes (h : IsRk G w b d) (hf : Fit d) (hn : NumTo m d) (hm : m ≤ 1000000) (g : Nat) (h5 : 5 ≤ d.stays.length) (hg : g ≤ 1099511627776) :
    Calls Tryz.prog 35 #[.pointer (some ⟨b, 0, none⟩), .int .i64 (g : Int)] w (RFPost G w b (headsL ⟨g, [], false⟩ d g 0)) := by
  obtain ⟨S, c, c0⟩ := stays_cell h
  have q1 : decide ((d.stays.length : Int) < 5) = false := decide_eq_false (by omega)
  have q2 : decide ((g : Int) < 0) = false := decide_eq_false (by omega)
  have q3 : decide (1099511627776 < (g : Int)) = false := decide_eq_false (by omega)
  have bd : ∀ W, (Instr.build 51 #[(0, .pointer (some ⟨b, 0, none⟩)), (1, .int .i64 (g : Int))]).run Tryz.prog W = .ok (.agg #[.pointer (some ⟨b, 0, none⟩), .int .i64 (g : Int), .slice none 0 0, .bool false]) W := fun W => run_build W _ _ _ (by kernel_rfl)
  have hb : Below w.heap.size w (w.alloc (.cells #[.pointer (some ⟨b, 0, none⟩), .int .i64 (g : Int), .slice none 0 0, .bool false] 51)) := (Below.refl _ w).alloc (Nat.le_refl _) _
  have hB := Blk.new w 51 #[.pointer (some ⟨b, 0, none⟩), .int .i64 (g : Int), .slice none 0 0, .bool false]
  have hp : RL (fun i => G i ∨ i = w.heap.size) (w.alloc (.cells #[.pointer (some ⟨b, 0, none⟩), .int .i64 (g : Int), .slice none 0 0, .bool false] 51)) w.heap.size b ⟨g, [], false⟩ d :=
    ⟨G, .slice none 0 0, h.below hb, hB, ⟨rfl, Or.inl ⟨rfl, rfl⟩⟩, Or.inr rfl, (fun j e => by cases e), fun i hi => Or.inl hi, (fun hi => by have := h.lt _ hi; omega), (fun j e => by cases e), fun i hi => by
      rcases hi with hi | hi
      · exact Nat.lt_of_lt_of_le (h.lt i hi) hb.size
      · rw [hi]; exact hB.lt⟩
  have kh := rheads_any hp hf hn hm g 0 hg (by omega)
  generalize hR : headsL ⟨g, [], false⟩ d g 0 = R at kh ⊢
  replace hR := Lib.hid hR
  replace kh := Lib.hid kh
  replace hb := Lib.hid hb
  clear h hf hn hp hB h5 hg
  by_cases hz : R.2.2 = 0
  · replace hz := Lib.hid hz
    go_enter Tryz.func35, Tryz.ntmps35
    go_wp2_with fail
    refine kh.out.mono ?_
    rintro en w2 ⟨rfl, F2, h2, k2, q2⟩
    have kk := (Keeps.of_below G hb.out).trans k2 (fun i hi => hi.imp id (fun e => by rw [e]; exact Nat.le_refl _))
    have hF : ∀ i, F2 i → G i ∨ w.heap.size ≤ i := fun i hi => by
      rcases q2 i hi with (h | h) | h
      · exact Or.inl h
      · exact Or.inr (by omega)
      · exact Or.inr (Nat.le_trans hb.out.size h)
    replace h2 := Lib.hid h2
    replace kk := Lib.hid kk
    replace hF := Lib.hid hF
    clear k2 q2
    rw [hz.out]
    go_wp2_with fail
    go_ret2
    exact ⟨_, F2, by rw [hz.out, ptrIf, if_pos rfl]; rfl, h2.out, kk.out, hF.out⟩
  · have hz' : (R.2.2 != 0) = true := by simpa using hz
    replace hz := Lib.hid hz
    go_enter Tryz.func35, Tryz.ntmps35
    go_wp2_with fail
    refine kh.out.mono ?_
    rintro en w2 ⟨rfl, F2, h2, k2, q2⟩
    have kk := (Keeps.of_below G hb.out).trans k2 (fun i hi => hi.imp id (fun e => by rw [e]; exact Nat.le_refl _))
    have hF : ∀ i, F2 i → G i ∨ w.heap.size ≤ i := fun i hi => by
      rcases q2 i hi with (h | h) | h
      · exact Or.inl h
      · exact Or.inr (by omega)
      · exact Or.inr (Nat.le_trans hb.out.size h)
    replace h2 := Lib.hid h2
    replace kk := Lib.hid kk
    replace hF := Lib.hid hF
    clear k2 q2
    go_wp2_with fail
    go_ret2
    exact ⟨w.heap.size, F2, by rw [ptrIf, if_neg hz.out]; rfl, h2.out, kk.out, hF.out⟩
set_option maxRecDepth 100000 in
set_option maxHeartbeats 2000000 in
theorem rsame_any (A B : Option Addr) (n m c d : Nat) (xs ys : List ByteArray) (w : World) (hx : Row w A n (xs.map Value.string)) (hy : Row w B m (ys.map Value.string)) (hn : n ≤ 9223372036854775807) :
    Calls Tryz.prog 31 #[.slice A n c, .slice B m d] w fun e w' => e = .returned (.bool (decide (xs = ys))) ∧ ∃ q, w' = w.drewN q := by
  have hxl := Lib.hid (show xs.length = n by simpa using hx.1)
  have hyl := Lib.hid (show ys.length = m by simpa using hy.1)
  by_cases hnm : n = m
  · subst hnm
    have hne : ((n : Int) != (n : Int)) = false := by simp
    go_enter Tryz.func31, Tryz.ntmps31
    go_wp2_with fail
    go_loopw [5] (fun i wr => ∃ k q : Nat, k ≤ n ∧ i = .int .i64 (k : Int) ∧ xs.take k = ys.take k ∧ wr = w.drewN q) (fun i _ => n - (intOf i).toNat)
    case atStart => exact ⟨0, 0, Nat.zero_le _, rfl, by simp, rfl⟩
    case round =>
      obtain ⟨k, q, hk, rfl, hpre, rfl⟩ := hrel
      have hpre' := Lib.hid hpre
      clear hpre
      by_cases hlt : k < n
      · obtain ⟨ad, u, rfl, hu, hc⟩ := hx.at_ hlt
        obtain ⟨bd, v, rfl, hv, hd⟩ := hy.at_ hlt
        obtain ⟨x, hx1, rfl⟩ := getStr_some hu
        obtain ⟨y, hy1, rfl⟩ := getStr_some hv
        have hx2 := Lib.hid hx1
        have hy2 := Lib.hid hy1
        have hk0 : (0 : Int) ≤ (k : Int) := by omega
        have hkI : (k : Int) < (n : Int) := by omega
        clear hx1 hy1 hu hv
        by_cases hxy : x = y
        · subst hxy
          have hbne : (x.toList == x.toList) = true := beq_self_eq_true _
          go_wp2_with fail
          go_quiet (fail)
          go_wp2_with fail
          go_roundw
          case rel => exact ⟨k + 1, _, by omega, by go_num, by rw [sn_of hx2.out, sn_of hy2.out, hpre'.out], rfl⟩
          case measure => simp [intOf]; omega
        · have hbne : (x.toList == y.toList) = false := beq_false_of_ne (fun h => hxy (txt_inj h))
          have hxy' := Lib.hid hxy
          clear hxy
          go_wp2_with fail
          go_quiet (fail)
          go_wp2_with fail
          go_ret
          refine ⟨?_, _, World.drewN_drewN _ _ _⟩
          have : ¬ xs = ys := fun h => hxy'.out (by have h1 := hx2.out; rw [h, hy2.out] at h1; exact (Option.some.inj h1).symm)
          simp only [this, decide_false]
          rfl
      · obtain rfl : k = n := by omega
        go_wp2_with fail
        go_ret
        refine ⟨?_, _, rfl⟩
        have h1 := hpre'.out
        rw [List.take_of_length_le (by rw [hxl.out]; exact Nat.le_refl _), List.take_of_length_le (by rw [hyl.out]; exact Nat.le_refl _)] at h1
        simp only [h1, decide_true]
        rfl
  · have hne : ((n : Int) != (m : Int)) = true := by simp; omega
    have hnm' := Lib.hid hnm
    clear hnm
    go_enter Tryz.func31, Tryz.ntmps31
    go_wp2_with fail
    go_ret
    refine ⟨?_, 0, rfl⟩
    have : ¬ xs = ys := fun h => hnm'.out (by rw [← hxl.out, ← hyl.out, h])
    simp only [this, decide_false]
    rfl
end
end Go.Proofs.YtojhlijcinenoaaGreatDoor.Nv

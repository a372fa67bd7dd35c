/- The document's disk: Bad. -/
import Derived.Test.YtkghlbpkdkonbaaGreatRdiskE
namespace Go.Proofs.YtkghlbpkdkonbaaGreat.Disk
open Go Go.RowKit Go.Maps Mem
/-- all others -/
def oth (n : Nat) (B : List Nat) : List Nat := B.filter fun k => k != n
set_option maxRecDepth 100000 in
theorem oth_snoc (n : Nat) (B : List Nat) (v : Nat) : oth n (B ++ [v]) = if v = n then oth n B else oth n B ++ [v] := by
  unfold oth
  rw [List.filter_append]
  by_cases h : v = n
  · simp [h]
  · simp [h]
set_option maxRecDepth 100000 in
theorem oth_length (n : Nat) (B : List Nat) : (oth n B).length ≤ B.length := List.length_filter_le _ _
set_option maxRecDepth 100000 in
theorem bads_snoc (B : List Nat) (v : Nat) : bads (B ++ [v]) = bads B ++ [.int .i64 (v : Int)] := by simp [bads]
section
variable {F : Nat → Prop} {w W w' : World} {b : Nat} {d : Dk} {sb sc : Nat} {lv bv : Value} {B : List Nat}
set_option maxRecDepth 100000 in
/-- other bad sectors, in a row of one's own -/
theorem RCore.rebad (h : RCore F W b d sb sc lv bv B) {H n m : Nat} {v : Value} {B' : List Nat} {bad' : Nat → Bool} (ho : W.ownsRow H 3 1 v n (bads B')) (hL : B'.length = n) (hH : ∀ i, F i → i < H) (hmem : ∀ k, k ∈ B' ↔ bad' k = true) (hm : B'.length ≤ m) :
    IsRk (fun i => F i ∨ v.ownBlock = some i) (W.setCell ⟨b, 2, none⟩ v) b { d with bad := bad', marks := m } ∧ Keeps F W (W.setCell ⟨b, 2, none⟩ v) := by
  have hne := h.ne
  have kk := (Keeps.refl (fun j => j = b) W).put (g := b) (Or.inl rfl) 2 v
  have hvb : ∀ j, v.ownBlock = some j → j ≠ b := fun j e => by have := (ho.lt j e).1; have := hH b h.fb; omega
  subst hL
  refine ⟨⟨sb, sc, lv, v, B', h.blk.put 2 v, own_keeps h.st kk (fun j e => by injection e with e; subst e; exact hne.1), own_keeps h.ls kk hne.2.1, own_base (own_keeps ho kk hvb) (Nat.zero_le _), hmem, hm, Or.inl h.fb, Or.inl h.fs, fun j e => Or.inl (h.fl j e), fun j e => Or.inr e, fun i hi => ?_⟩, kk.mono (fun i e => e ▸ h.fb)⟩
  rcases hi with hi | hi
  · exact Nat.lt_of_lt_of_le (h.lt i hi) kk.size
  · exact Nat.lt_of_lt_of_le (ho.lt i hi).2 kk.size
set_option maxRecDepth 100000 in
set_option maxHeartbeats 16000000 in
theorem rbad_any (h : IsRk F w b d) (hmk : d.marks ≤ 1048576) (hf : Fit d) (n : Int) (x : Bool) : Calls Tryz.prog 14 #[.pointer (some ⟨b, 0, none⟩), .int .i64 n, .bool x] w fun e w' =>
    e = .returned (.int .i64 (badD d n x).2) ∧ ∃ F', IsRk F' w' b (badD d n x).1 ∧ Keeps F w w' ∧ ∀ i, F' i → F i ∨ w.heap.size ≤ i := by
  have km := Lib.hid (rmay_any h n)
  have fin0 := Lib.hid (show ∃ F', IsRk F' w b d ∧ Keeps F w w ∧ ∀ i, F' i → F i ∨ w.heap.size ≤ i from ⟨F, h, Keeps.refl _ _, fun i hi => Or.inl hi⟩)
  unfold badD
  by_cases he : mayE d n = 0
  · obtain ⟨_, h0, hlt⟩ := mayE_ok he
    rw [if_neg (by rw [he]; decide)]
    rw [he] at km
    replace km := Lib.hid km.out
    obtain ⟨k, rfl⟩ := Int.eq_ofNat_of_zero_le h0
    rw [Int.toNat_natCast]
    replace he := Lib.hid he
    obtain ⟨sb, sc, lv, bv, B, h⟩ := h
    obtain ⟨A0, c0, rfl⟩ := pair_slice h.bd
    have hfew := hf.few
    have hBm := h.few
    have hmem := Lib.hid h.mem
    obtain ⟨H, hH⟩ : ∃ H, H = w.heap.size := ⟨_, rfl⟩
    obtain ⟨M, hM⟩ : ∃ M, M = B.length := ⟨_, rfl⟩
    have hFH : ∀ i, F i → i < H := fun i hi => by rw [hH]; exact h.lt i hi
    have own0 : (w.alloc (.cells #[] 3)).ownsRow H 3 1 (.slice (some ⟨w.heap.size, 0, none⟩) 0 0) 0 [] := World.ownsRow_made w #[] 0 (Nat.le_of_eq hH) (by decide) rfl
    have hb0 : Below w.heap.size w (w.alloc (.cells #[] 3)) := (Below.refl _ w).alloc (Nat.le_refl _) _
    rw [← hM] at hBm
    replace own0 := Lib.hid own0
    replace hb0 := Lib.hid hb0
    replace hH := Lib.hid hH
    replace hM := Lib.hid hM
    replace hFH := Lib.hid hFH
    replace h := Lib.hid h
    clear hf
    obtain ⟨i0, hinf, hz0, hz1, hz2⟩ := info_parts infoI
    go_enter Tryz.func14, Tryz.ntmps14
    go_wp2_with fail
    refine (km.out).mono ?_
    rintro en w' ⟨rfl, hw'⟩
    replace hw' := hw'.symm
    subst hw'
    go_wp2_with fail
    generalize Value.slice (some ⟨w.heap.size, 0, none⟩) 0 0 = v0 at own0 ⊢
    generalize w.alloc (.cells #[] 3) = w0 at own0 hb0 ⊢
    go_loopw [8, 9] (fun v t wr => ∃ i : Nat, i ≤ M ∧ t = .int .i64 (i : Int) ∧ wr.ownsRow H 3 1 v (oth k (B.take i)).length (bads (oth k (B.take i))) ∧ Below w.heap.size w wr) (fun _ t _ => M - (intOf t).toNat)
    case atStart => exact ⟨0, Nat.zero_le _, rfl, own0.out, hb0.out⟩
    case round =>
      clear own0 hb0
      obtain ⟨i, hi, rfl, o, hb⟩ := hrel
      have hs := hb.size
      have hR := h.out.below hb
      have c2 : wr.cell? ⟨b, 2, none⟩ = some (.slice A0 M c0) := by rw [hM.out]; exact hR.blk.cell 2
      have hHs : H ≤ wr.heap.size := by rw [hH.out]; exact hs
      by_cases hlti : i < M
      · obtain ⟨v, hv⟩ : ∃ v, B[i]? = some v := ⟨_, List.getElem?_eq_getElem (by have := hM.out; omega)⟩
        obtain ⟨ad, u, ha, hu, hc⟩ := (Mem.Row.of_own hR.bd).at_ (k := i) (by have := hM.out; omega)
        subst ha
        rw [bads, List.getElem?_map, hv] at hu
        injection hu with hu
        subst hu
        have z0 : (0 : Int) ≤ (i : Int) := by omega
        have z1 : (i : Int) < (M : Int) := by omega
        have hsn := oth_snoc k (B.take i) v
        rw [← take_succ_of hv] at hsn
        have hol := oth_length k (B.take i)
        have hol2 : (B.take i).length ≤ i := List.length_take_le _ _
        by_cases hvk : v = k
        · rw [if_pos hvk] at hsn
          have q1 : ((v : Int) != (k : Int)) = false := by simp [hvk]
          rw [← hsn] at o
          clear hv hsn hR hol hol2 hvk
          replace o := Lib.hid o
          replace hb := Lib.hid hb
          go_wp2_with fail
          exact ⟨⟨i + 1, hlti, rfl, o.out, hb.out⟩, by simp [intOf]; omega⟩
        · rw [if_neg hvk] at hsn
          have q1 : ((v : Int) != (k : Int)) = true := by simp; omega
          generalize oth k (B.take i) = E at o hsn hol
          have oa := o.alloc (.cells #[.int .i64 (v : Int)] 3)
          have hba := hb.alloc hs (.cells #[.int .i64 (v : Int)] 3)
          have hEm : E.length + 1 ≤ 1048577 := by omega
          clear hv hR hol hol2 hvk o hb
          replace hsn := Lib.hid hsn
          replace oa := Lib.hid oa
          replace hba := Lib.hid hba
          go_wp2_with (first
            | (at_builtin; refine wpList_append_own _ rfl (.tmp 35) (.tmp 43) _ rfl H 3 i0 (.int .i64 0) 1 8 Tryz.underlying50 hinf hz0 hz1 hz2 rfl (by decide) u8 E.length _ rfl oa.out ⟨wr.heap.size, 0, none⟩ 1 1 [.int .i64 (v : Int)] rfl rfl (cell_one_new _ _ _) (by simp [Value.oneCell']) (by unfold maxLen; omega) (by omega) (by simp; omega) ?_; intro v1 w11 o1 g1 n1))
          refine ⟨⟨i + 1, hlti, rfl, ?_, hba.out.grown g1 (by simp; omega) (fun j hj => by rw [← hH.out]; exact (oa.out.lt j hj).1)⟩, by simp [intOf]; omega⟩
          rw [hsn.out, List.length_append, bads_snoc]
          exact o1
      · obtain rfl : i = M := by omega
        have hBt : B.take i = B := by rw [hM.out, List.take_length]
        rw [hBt] at o
        have hol := oth_length k B
        have hmo : ∀ j, j ∈ oth k B ↔ j ≠ k ∧ d.bad j = true := fun j => by
          unfold oth
          rw [List.mem_filter, hmem.out]
          simp [and_comm]
        have hlenB := hM.out
        cases x with
        | false =>
          obtain ⟨A2, c3, rfl⟩ := pair_slice o
          obtain ⟨E2, hE2⟩ : ∃ E2, E2 = oth k B := ⟨_, rfl⟩
          rw [← hE2] at o hol hmo ⊢
          obtain ⟨W, rfl⟩ : ∃ W, W = wr := ⟨_, rfl⟩
          obtain ⟨xx, hxx⟩ : ∃ xx, xx = false := ⟨_, rfl⟩
          have hW := hR
          have o2 := o
          have hbW := hb
          have hmm : ∀ j, j ∈ E2 ↔ (if j = k then xx else d.bad j) = true := fun j => by
            rw [hmo j]
            by_cases e : j = k
            · simp [e, hxx]
            · simp [e]
          have hml : E2.length ≤ d.marks + 1 := by omega
          clear o hb hR hmo hE2 c2 hol
          subst hxx
          obtain ⟨h2, kk2⟩ := hW.rebad (m := d.marks + 1) o2 rfl hFH.out hmm hml
          have hk2 : Keeps F w (W.setCell ⟨b, 2, none⟩ (.slice A2 E2.length c3)) := (Keeps.of_below F hbW).same kk2
          have hF2 : ∀ j, (F j ∨ (Value.slice A2 E2.length c3).ownBlock = some j) → F j ∨ w.heap.size ≤ j := fun j hj => hj.elim Or.inl (fun e => Or.inr (by rw [← hH.out]; exact (o2.lt j e).1))
          have cw : W.cell? ⟨b, 2, none⟩ = some (.slice A0 i c0) := by rw [hM.out]; exact hW.blk.cell 2
          have fw := hW.blk.free 2
          clear hW o2 hbW kk2 hmm hml
          replace h2 := Lib.hid h2
          replace hk2 := Lib.hid hk2
          replace hF2 := Lib.hid hF2
          go_wp2_with fail
          go_ret
          exact ⟨rfl, _, h2.out, hk2.out, hF2.out⟩
        | true =>
          have oa := o.alloc (.cells #[.int .i64 (k : Int)] 3)
          have hba := hb.alloc hs (.cells #[.int .i64 (k : Int)] 3)
          have hEm : (oth k B).length + 1 ≤ 1048577 := by omega
          clear o
          replace oa := Lib.hid oa
          replace hba := Lib.hid hba
          replace hb := Lib.hid hb
          replace hR := Lib.hid hR
          replace hmo := Lib.hid hmo
          generalize hE : oth k B = E at *
          replace hE := Lib.hid hE
          go_upto_region 12 with (first
            | (at_builtin; refine wpList_append_own _ rfl (.tmp 46) (.tmp 48) _ rfl H 3 i0 (.int .i64 0) 1 8 Tryz.underlying50 hinf hz0 hz1 hz2 rfl (by decide) u8 E.length _ rfl oa.out ⟨wr.heap.size, 0, none⟩ 1 1 [.int .i64 (k : Int)] rfl rfl (cell_one_new _ _ _) (by simp [Value.oneCell']) (by unfold maxLen; omega) (by omega) (by simp; omega) ?_; intro v1 W o1 g1 n1))
          have hbW := hba.out.grown g1 (by simp; omega) (fun j hj => by rw [← hH.out]; exact (oa.out.lt j hj).1)
          have hW := h.out.below hbW
          obtain ⟨E2, hE2⟩ : ∃ E2, E2 = E ++ [k] := ⟨_, rfl⟩
          have hel : E.length + 1 = E2.length := by rw [hE2, List.length_append]; rfl
          have e2 : bads E ++ [.int .i64 (k : Int)] = bads E2 := by rw [hE2, bads_snoc]
          rw [e2, hel] at o1
          obtain ⟨A2, c3, rfl⟩ := pair_slice o1
          obtain ⟨xx, hxx⟩ : ∃ xx, xx = true := ⟨_, rfl⟩
          have o2 := o1
          have hmm : ∀ j, j ∈ E2 ↔ (if j = k then xx else d.bad j) = true := fun j => by
            rw [hE2, List.mem_append, hmo.out j]
            by_cases e : j = k
            · simp [e, hxx]
            · simp [e]
          have hml : E2.length ≤ d.marks + 1 := by omega
          clear o1 hb hR hmo hE2 hol g1 n1 oa hba hel e2 c2
          subst hxx
          obtain ⟨h2, kk2⟩ := hW.rebad (m := d.marks + 1) o2 rfl hFH.out hmm hml
          have hk2 : Keeps F w (W.setCell ⟨b, 2, none⟩ (.slice A2 E2.length c3)) := (Keeps.of_below F hbW).same kk2
          have hF2 : ∀ j, (F j ∨ (Value.slice A2 E2.length c3).ownBlock = some j) → F j ∨ w.heap.size ≤ j := fun j hj => hj.elim Or.inl (fun e => Or.inr (by rw [← hH.out]; exact (o2.lt j e).1))
          have cw : W.cell? ⟨b, 2, none⟩ = some (.slice A0 i c0) := by rw [hM.out]; exact hW.blk.cell 2
          have fw := hW.blk.free 2
          clear hW o2 hbW kk2 hmm hml
          replace h2 := Lib.hid h2
          replace hk2 := Lib.hid hk2
          replace hF2 := Lib.hid hF2
          go_wp2_with fail
          go_ret
          exact ⟨rfl, _, h2.out, hk2.out, hF2.out⟩
  · rw [if_pos he]
    have hne : (mayE d n != 0) = true := by simpa using he
    generalize mayE d n = ee at km hne
    clear he h hf
    go_enter Tryz.func14, Tryz.ntmps14
    go_wp2_with fail
    refine (km.out).mono ?_
    rintro en w' ⟨rfl, hw'⟩
    replace hw' := hw'.symm
    subst hw'
    go_wp2_with fail
    go_ret
    exact ⟨rfl, fin0.out⟩
end
end Go.Proofs.YtkghlbpkdkonbaaGreat.Disk

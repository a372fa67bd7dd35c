/- Open of a volume. -/
import Derived.Test.YtkghlbpkdkonbaaGreatBlkWalkH
namespace Go.Proofs.YtkghlbpkdkonbaaGreat.Vl
open Go Go.RowKit Go.Maps Mem Disk Nv
/-- what was picked of the first sectors -/
def stV (d : Dk) : Nat → (ByteArray × Nat) × Int
  | 0 => ((⟨#[]⟩, 0), 80)
  | k + 1 => pickV (stV d k) k (readD d (k : Int))
set_option maxRecDepth 100000 in
theorem stV_nil {d : Dk} : ∀ k, (stV d k).1.2 = 0 → (stV d k).1.1 = ⟨#[]⟩
  | 0, _ => rfl
  | k + 1, h => by
    have ih := stV_nil (d := d) k
    unfold stV pickV at h ⊢
    split
    · next h1 => rw [if_pos h1] at h; exact ih h
    · next h1 =>
      rw [if_neg h1] at h
      simp only at h ⊢
      split
      · next h2 => rw [if_pos h2] at h; omega
      · next h2 => rw [if_neg h2] at h; exact ih h
set_option maxRecDepth 100000 in
theorem openV_st {d : Dk} (hg : goodD d) (hd : d.dead = false) : openV d = openP (stV d 2) := by
  unfold openV
  rw [if_neg (fun hh => hh hg), if_neg (by rw [hd]; decide)]
  rfl
set_option maxRecDepth 100000 in
/-- a sector of the first: read, or bad -/
theorem readD_few {d : Dk} (hg : goodD d) (hd : d.dead = false) {n : Nat} (hn : n < 2) : (readD d (n : Int)).2 = 0 ∨ (readD d (n : Int)).2 = 3 := by
  have hm : mayE d (n : Int) = 0 := by
    unfold mayE
    have : 8 ≤ d.stays.length / 4 := hg.1
    rw [if_neg (by rw [hd]; decide), if_neg (by omega)]
  unfold readD
  rw [hm, if_neg (by decide)]
  split
  · exact Or.inr rfl
  · exact Or.inl rfl
set_option maxRecDepth 100000 in
theorem readD_gone {d : Dk} (hd : d.dead = true) (n : Int) : readD d n = (⟨#[]⟩, 2) := by
  have hm : mayE d n = 2 := by unfold mayE; rw [if_pos hd]
  unfold readD
  rw [hm, if_pos (by decide)]
def VOpen (G : Nat → Prop) (w : World) (b : Nat) (d : Dk) (r : Option Vo × Int) (e : Ending) (w' : World) : Prop :=
  Below w.heap.size w w' ∧ match r.1 with
    | none => e = .returned (.tuple #[.pointer none, .int .i64 r.2])
    | some v => ∃ (a : Nat) (F : Nat → Prop), e = .returned (.tuple #[.pointer (some ⟨a, 0, none⟩), .int .i64 r.2]) ∧ PV F w' a b v d ∧ ∀ i, F i → G i ∨ w.heap.size ≤ i
section
variable {F G H K : Nat → Prop} {w w' : World} {a b c m : Nat} {v v' : Vo} {d d' : Dk}
set_option maxRecDepth 100000 in
theorem VOpen.none (w : World) {w' : World} (hb : Below w.heap.size w w') {r : Option Vo × Int} {x : Int} (h : r = (.none, x)) : VOpen G w b d r (.returned (.tuple #[.pointer .none, .int .i64 x])) w' := by
  subst h
  exact ⟨hb, rfl⟩
set_option maxRecDepth 100000 in
set_option maxHeartbeats 16000000 in
theorem vopen_any (h : IsDk G w b d) (hf : Fit d) : Calls Tryz.prog 19 #[.pointer (some ⟨b, 0, none⟩)] w (VOpen G w b d (openV d)) := by
  obtain ⟨Z, hZ⟩ : ∃ Z, Z = openV d := ⟨_, rfl⟩
  rw [← hZ]
  by_cases hg : goodD d
  · have km := Lib.hid (made_yes h hf hg)
    rcases Bool.eq_false_or_eq_true d.dead with hd | hd
    · have e1 : Z = (none, 2) := by rw [hZ]; unfold openV; rw [if_neg (fun hh => hh hg), if_pos hd]
      have hr := Lib.hid (readD_gone hd 0)
      replace e1 := Lib.hid e1
      replace hf := Lib.hid hf
      clear h hZ hg hd
      go_enter Tryz.func19, Tryz.ntmps19
      go_wp2_with fail
      refine km.out.mono ?_
      rintro e w1 ⟨a, c, F, H, rfl, _, hv, hb, hF⟩
      have kr := read_any hv.dk hf.out 0
      rw [hr.out] at kr
      replace kr := Lib.hid kr
      replace hb := Lib.hid hb
      clear hv hF
      go_wp2_with fail
      go_loopw [6, 19] (fun y i wr => y = .int .i64 80 ∧ i = .int .i64 0 ∧ wr = w1) (fun _ _ _ => 0)
      case atStart => exact ⟨rfl, rfl, rfl⟩
      case round =>
        obtain ⟨rfl, rfl, rfl⟩ := hrel
        go_wp2_with fail
        refine kr.out.mono ?_
        rintro e w2 ⟨rfl, hw2⟩
        replace hw2 := hw2.symm
        subst hw2
        go_wp2_with fail
        go_ret2
        exact VOpen.none _ hb.out e1.out
    · have hst := openV_st hg hd
      have hrf := fun n hn => readD_few hg hd (n := n) hn
      have e1 : Z = openP (stV d 2) := hZ.trans hst
      have bd0 : ∀ W, (Instr.build 65 #[]).run Tryz.prog W = .ok (.agg #[.string ⟨#[]⟩, .int .i64 0]) W := fun W => run_build W _ _ _ (by kernel_rfl)
      replace e1 := Lib.hid e1
      replace hf := Lib.hid hf
      replace hrf := Lib.hid hrf
      clear h hZ hg hd hst
      go_enter Tryz.func19, Tryz.ntmps19
      go_wp2_with fail
      refine km.out.mono ?_
      rintro e w1 ⟨a, c, F, H, rfl, hwa, hv, hb, hF⟩
      replace hwa := Lib.hid hwa
      replace hv := Lib.hid hv
      replace hb := Lib.hid hb
      replace hF := Lib.hid hF
      go_wp2_with fail
      go_loopw [6, 19] (fun y i wr => ∃ j : Nat, j ≤ 2 ∧ i = .int .i64 (j : Int) ∧ y = .int .i64 (stV d j).2 ∧ VC F G H wr a b c ⟨(stV d j).1.1, (stV d j).1.2, [], false⟩ d ∧ Below w.heap.size w wr) (fun _ i _ => 2 - (intOf i).toNat)
      case atStart => exact ⟨0, Nat.zero_le _, rfl, rfl, hv.out, hb.out⟩
      case round =>
        clear hv hb
        obtain ⟨j, hj, rfl, rfl, hv, hb⟩ := hrel
        by_cases hlt : j < 2
        · have kr := read_any hv.dk hf.out (j : Int)
          have hrs := fun h0 => (readD_size hf.out (n := (j : Int)) h0).1
          have hor := hrf.out j hlt
          have hstep : stV d (j + 1) = pickV (stV d j) j (readD d (j : Int)) := rfl
          generalize readD d (j : Int) = R at kr hrs hor hstep
          generalize hS : stV d j = S at hv hstep ⊢
          replace hS := Lib.hid hS
          replace kr := Lib.hid kr
          rcases hor with hz | hz
          · obtain ⟨P, hP⟩ : ∃ P, P = parseV R.1 j := ⟨_, rfl⟩
            have kp := parse_any R.1 j (hrs hz) wr
            rw [← hP] at kp
            rw [hz] at kr
            have hst2 : stV d (j + 1) = ((if S.1.2 < P.2 then P else S.1), S.2) := by
              rw [hstep, hP]
              exact if_neg (fun hh => hh hz)
            replace kp := Lib.hid kp
            replace hP := Lib.hid hP
            replace hv := Lib.hid hv
            replace hb := Lib.hid hb
            by_cases hgt : S.1.2 < P.2
            · rw [if_pos hgt] at hst2
              have q : decide (S.1.2 < P.2) = true := decide_eq_true hgt
              have fin : ∀ wr, VC F G H wr a b c ⟨P.1, P.2, [], false⟩ d → Below w.heap.size w wr → ∃ j' : Nat, j' ≤ 2 ∧ Value.int .i64 ((j : Int) + 1) = .int .i64 (j' : Int) ∧ Value.int .i64 S.2 = .int .i64 (stV d j').2 ∧ VC F G H wr a b c ⟨(stV d j').1.1, (stV d j').1.2, [], false⟩ d ∧ Below w.heap.size w wr := fun wr hv hb => ⟨j + 1, hlt, rfl, by rw [hst2], by rw [hst2]; exact hv, hb⟩
              replace fin := Lib.hid fin
              clear hrs hst2 hstep hgt hz
              go_wp2_with fail
              refine kr.out.mono ?_
              rintro e w2 ⟨rfl, hw2⟩
              replace hw2 := hw2.symm
              subst hw2
              go_wp2_with fail
              refine kp.out.mono ?_
              rintro e w3 ⟨rfl, b3⟩
              have h3 := hv.out.below b3
              have hb3 := hb.out.trans (b3.mono hb.out.size)
              have B4 := Blk.new w3 65 #[.string P.1, .int .i64 (P.2 : Int)]
              have b4 : Below w3.heap.size w3 (w3.alloc (.cells #[.string P.1, .int .i64 (P.2 : Int)] 65)) := (Below.refl _ w3).alloc (Nat.le_refl _) _
              have h4 := h3.below b4
              have hb4 := hb3.trans (b4.mono hb3.size)
              have ha := h3.lt a h3.fa
              have x0 := B4.cell 0
              have x1 := B4.cell 1
              obtain ⟨_, y1, y2, _⟩ := h4.cells
              replace h4 := Lib.hid h4
              replace hb4 := Lib.hid hb4
              clear b3 h3 hb3 B4 b4
              go_upto_region 10 with fail
              generalize w3.alloc (.cells #[.string P.1, .int .i64 (P.2 : Int)] 65) = w4 at x0 x1 y1 y2 h4 hb4 ⊢
              generalize w3.heap.size = g at ha x0 x1 ⊢
              go_quiet (fail)
              have f1 := h4.out.blk.free 1
              have f2 := h4.out.blk.free 2
              have h5 := (h4.out.below (below_drewN (Below.refl _ w4) nq)).reput (v' := ⟨P.1, P.2, [], false⟩) (((Keeps.refl (fun j => j = a) (w4.drewN nq)).put (g := a) (Or.inl rfl) 1 (.string P.1)).put (g := a) (Or.inl rfl) 2 (.int .i64 (P.2 : Int))) ((((show Blk (w4.drewN nq) a 68 _ from h4.out.blk).put 1 (.string P.1)).put 2 (.int .i64 (P.2 : Int)))) rfl
              have b5 := ((below_drewN hb4.out nq).setCell (p := ⟨a, 1, none⟩) (show w.heap.size ≤ a from hwa.out) (.string P.1)).setCell (p := ⟨a, 2, none⟩) (show w.heap.size ≤ a from hwa.out) (.int .i64 (P.2 : Int))
              have fn := Lib.hid (fin.out _ h5.1 b5)
              clear h5 b5 h4
              go_wp2_with fail
              exact ⟨fn.out, by simp [intOf]; omega⟩
            · rw [if_neg hgt] at hst2
              have q : decide (S.1.2 < P.2) = false := decide_eq_false hgt
              have fin : ∀ wr, VC F G H wr a b c ⟨S.1.1, S.1.2, [], false⟩ d → Below w.heap.size w wr → ∃ j' : Nat, j' ≤ 2 ∧ Value.int .i64 ((j : Int) + 1) = .int .i64 (j' : Int) ∧ Value.int .i64 S.2 = .int .i64 (stV d j').2 ∧ VC F G H wr a b c ⟨(stV d j').1.1, (stV d j').1.2, [], false⟩ d ∧ Below w.heap.size w wr := fun wr hv hb => ⟨j + 1, hlt, rfl, by rw [hst2], by rw [hst2]; exact hv, hb⟩
              replace fin := Lib.hid fin
              clear hrs hst2 hstep hgt hz
              go_wp2_with fail
              refine kr.out.mono ?_
              rintro e w2 ⟨rfl, hw2⟩
              replace hw2 := hw2.symm
              subst hw2
              go_wp2_with fail
              refine kp.out.mono ?_
              rintro e w3 ⟨rfl, b3⟩
              have h3 := hv.out.below b3
              have hb3 := hb.out.trans (b3.mono hb.out.size)
              have B4 := Blk.new w3 65 #[.string P.1, .int .i64 (P.2 : Int)]
              have b4 : Below w3.heap.size w3 (w3.alloc (.cells #[.string P.1, .int .i64 (P.2 : Int)] 65)) := (Below.refl _ w3).alloc (Nat.le_refl _) _
              have h4 := h3.below b4
              have hb4 := hb3.trans (b4.mono hb3.size)
              have ha := h3.lt a h3.fa
              have x0 := B4.cell 0
              have x1 := B4.cell 1
              obtain ⟨_, y1, y2, _⟩ := h4.cells
              replace h4 := Lib.hid h4
              replace hb4 := Lib.hid hb4
              clear b3 h3 hb3 B4 b4
              go_upto_region 10 with fail
              generalize w3.alloc (.cells #[.string P.1, .int .i64 (P.2 : Int)] 65) = w4 at x0 x1 y1 y2 h4 hb4 ⊢
              generalize w3.heap.size = g at ha x0 x1 ⊢
              go_quiet (fail)
              have fn := Lib.hid (fin.out (w4.drewN nq) (h4.out.below (below_drewN (Below.refl _ w4) nq)) (below_drewN hb4.out nq))
              go_wp2_with fail
              exact ⟨fn.out, by simp [intOf]; omega⟩
          · have hst2 : stV d (j + 1) = (S.1, 3) := by rw [hstep, ← hz]; exact if_pos (by omega)
            rw [hz] at kr
            have fin : ∀ wr, VC F G H wr a b c ⟨S.1.1, S.1.2, [], false⟩ d → Below w.heap.size w wr → ∃ j' : Nat, j' ≤ 2 ∧ Value.int .i64 ((j : Int) + 1) = .int .i64 (j' : Int) ∧ Value.int .i64 3 = .int .i64 (stV d j').2 ∧ VC F G H wr a b c ⟨(stV d j').1.1, (stV d j').1.2, [], false⟩ d ∧ Below w.heap.size w wr := fun wr hv hb => ⟨j + 1, hlt, rfl, by rw [hst2], by rw [hst2]; exact hv, hb⟩
            have fn := Lib.hid (fin wr hv hb)
            clear fin hv hb hz hrs hst2 hstep
            go_wp2_with fail
            refine kr.out.mono ?_
            rintro e w2 ⟨rfl, hw2⟩
            replace hw2 := hw2.symm
            subst hw2
            go_wp2_with fail
            exact ⟨fn.out, by simp [intOf]; omega⟩
        · obtain rfl : j = 2 := by omega
          have hnil := stV_nil (d := d) 2
          generalize stV d 2 = S at hv hnil e1 ⊢
          obtain ⟨_, y1, y2, _⟩ := hv.cells
          by_cases hz : S.1.2 = 0
          · have e2 := Lib.hid (e1.out.trans (if_pos hz))
            rw [hz] at y2
            rw [hnil hz] at y1
            replace hb := Lib.hid hb
            clear hv hnil hz e1
            go_wp2_with fail
            go_ret2
            exact VOpen.none _ hb.out e2.out
          · have e2 := Lib.hid (e1.out.trans (if_neg hz))
            have hz2 : ¬ ((S.1.2 : Int) = 0) := by omega
            have hz3 : ((S.1.2 : Int) == 0) = false := by simpa using hz
            replace hb := Lib.hid hb
            replace hv := Lib.hid hv
            clear hnil e1
            go_wp2_with fail
            all_goals go_ret2
            all_goals exact ⟨hb.out, by rw [e2.out]; exact ⟨a, F, rfl, hv.out.pv, hF.out⟩⟩
  · have e1 : Z = (none, 80) := by rw [hZ]; unfold openV; rw [if_pos hg]
    have km := Lib.hid (made_no h hf hg)
    replace e1 := Lib.hid e1
    clear h hf hZ hg
    go_enter Tryz.func19, Tryz.ntmps19
    go_wp2_with fail
    refine (km.out).mono ?_
    rintro en w' ⟨rfl, hw'⟩
    replace hw' := hw'.symm
    subst hw'
    go_wp2_with fail
    go_ret2
    exact VOpen.none _ (Below.refl _ _) e1.out
end
end Go.Proofs.YtkghlbpkdkonbaaGreat.Vl

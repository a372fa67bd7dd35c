/- BlockApart: the walk. -/
import Derived.Test.YtkghlbpkdkonbaaBlkRow
import Derived.BigRegion
import Derived.BigQuiet
namespace Go.Proofs.Ytkghlbpkdkonbaa.Vl
open Go Go.RowKit Go.Maps Mem Disk Nv
set_option maxRecDepth 100000 in
theorem mask16 (a : Int) : ∃ m : Nat, m ≤ 65535 ∧ bits .and .i64 a 65535 = (m : Int) := by
  have h : (BitVec.ofInt 64 a &&& BitVec.ofInt 64 65535).toNat ≤ 65535 := by
    rw [BitVec.toNat_and]
    exact Nat.le_trans Nat.and_le_right (by decide)
  refine ⟨(BitVec.ofInt 64 a &&& BitVec.ofInt 64 65535).toNat, h, ?_⟩
  show IntKind.i64.wrap ((BitVec.ofInt 64 a &&& BitVec.ofInt 64 65535).toNat : Int) = _
  rw [IntKind.wrap_i64]
  omega
set_option maxRecDepth 100000 in
theorem pushSize (w : World) (o : Obj) : (w.alloc o).heap.size = w.heap.size + 1 := by show (w.heap.push o).size = _; exact Array.size_push _
set_option maxRecDepth 100000 in
theorem hpush (w : World) (o p : Obj) : ((w.alloc o).alloc p).heap[w.heap.size + 1]? = some p := by
  have h := heap_alloc_new (w.alloc o) p
  rw [pushSize] at h
  exact h
def rootT : ByteArray := ⟨#[114, 111, 111, 116]⟩
set_option maxRecDepth 100000 in
theorem getStr_of {l : List ByteArray} {k : Nat} (hk : k < l.length) : (l.map Value.string)[k]? = some (.string l[k]) := by
  rw [List.getElem?_map, List.getElem?_eq_getElem hk]
  rfl
set_option maxRecDepth 100000 in
theorem getInt_of {l : List Int} {k : Nat} (hk : k < l.length) : (l.map (Value.int .i64))[k]? = some (.int .i64 l[k]) := by
  rw [List.getElem?_map, List.getElem?_eq_getElem hk]
  rfl
/-- where the law's loop stands: j blocks were written -/
structure ApAt (w : World) (j : Nat) (wr : World) (a b gh gi : Nat) (v : Vo) (d : Dk) (cur : Nat → ByteArray) (hv : Nat → ByteArray) (iv : Nat → Bool) : Prop where
  h : Hs (fun i => i < w.heap.size ∨ i = gh ∨ i = gi) 32 (3 + 4 * j) wr a b v d cur
  rt : v.text = rootT ∧ v.num = 1
  bh : Blk wr gh 9 (hasC hv)
  bi : Blk wr gi 4 (isC iv)
  ok : ∀ k, 1 ≤ k → k < 8 → unframeV (blkC cur k) = if iv k then (hv k, 0) else (⟨#[]⟩, 82)
  hb : Below w.heap.size w wr
  gg : w.heap.size ≤ gh ∧ w.heap.size ≤ gi ∧ gh ≠ gi
section
variable {w wr w' : World} {j a b gh gi : Nat} {v v' : Vo} {d d' : Dk} {cur : Nat → ByteArray} {hv : Nat → ByteArray} {iv : Nat → Bool}
set_option maxRecDepth 100000 in
theorem ApAt.lt (_ : ApAt w j wr a b gh gi v d cur hv iv) : ∀ i, i < w.heap.size → i < w.heap.size ∨ i = gh ∨ i = gi := fun _ hi => Or.inl hi
set_option maxRecDepth 100000 in
theorem ApAt.below (h : ApAt w j wr a b gh gi v d cur hv iv) (hb : Below wr.heap.size wr w') : ApAt w j w' a b gh gi v d cur hv iv := ⟨h.h.below hb, h.rt, h.bh.below hb h.bh.lt, h.bi.below hb h.bi.lt, h.ok, h.hb.trans (hb.mono h.hb.size), h.gg⟩
set_option maxRecDepth 100000 in
theorem ApAt.read (st : ApAt w j wr a b gh gi v d cur hv iv) {k : Nat} (h1 : 1 ≤ k) (h2 : k < 8) :
    Calls Try.prog 15 #[.pointer (some ⟨a, 0, none⟩), .int .i64 (k : Int)] wr fun e w' => e = .returned (.tuple #[.string (if iv k then (hv k, (0 : Int)) else (⟨#[]⟩, 82)).1, .int .i64 (if iv k then (hv k, (0 : Int)) else (⟨#[]⟩, 82)).2]) ∧ ∃ v', ApAt w j w' a b gh gi v' d cur hv iv := by
  have kr := hsread st.h h1 (show k < 32 / 4 from h2)
  rw [st.ok k h1 h2] at kr
  refine kr.mono ?_
  rintro e w' ⟨rfl, L', h3, h4⟩
  exact ⟨rfl, _, h3, st.rt, st.bh.keeps h4 (fun hn => hn (Or.inr (Or.inl rfl))), st.bi.keeps h4 (fun hn => hn (Or.inr (Or.inr rfl))), st.ok, st.hb.trans (h4.toBelow st.lt st.hb.size), st.gg⟩
set_option maxRecDepth 100000 in
theorem ApAt.write (st : ApAt w j wr a b gh gi v d cur hv iv) (hj : j ≤ 60) {n : Nat} (h1 : 1 ≤ n) (h2 : n < 8) {p : ByteArray} (hp : p.size ≤ 240) :
    Calls Try.prog 14 #[.pointer (some ⟨a, 0, none⟩), .int .i64 (n : Int), .string p] wr fun e w' => e = .returned (.int .i64 0) ∧ Below w.heap.size w w' ∧ Blk w' gh 9 (hasC hv) ∧ Blk w' gi 4 (isC iv) ∧ ∃ v' d', ApAt w (j + 1) ((w'.setCell ⟨gh, n, none⟩ (.string p)).setCell ⟨gi, n, none⟩ (.bool true)) a b gh gi v' d' (curW cur (frameB p) n 0 4) (setF hv n p) (setF iv n true) := by
  refine (hswrite st.h (by omega) h1 (show n < 32 / 4 from h2) hp).mono ?_
  rintro e w' ⟨rfl, d', h3, h4⟩
  have b1 := st.bh.keeps h4 (fun hn => hn (Or.inr (Or.inl rfl)))
  have b2 := st.bi.keeps h4 (fun hn => hn (Or.inr (Or.inr rfl)))
  have hb := st.hb.trans (h4.toBelow st.lt st.hb.size)
  refine ⟨rfl, hb, b1, b2, { v with L := putK v.L n p }, d', ?_, st.rt, ?_, ?_, fun k k1 k2 => ?_, ?_, st.gg⟩
  · have h5 := h3.turn (((Keeps.refl (fun i => i < w.heap.size ∨ i = gh ∨ i = gi) w').put (g := gh) (Or.inl (Or.inr (Or.inl rfl))) n (.string p)).put (g := gi) (Or.inl (Or.inr (Or.inr rfl))) n (.bool true))
    exact h5.more (by omega)
  · rw [← hasC_put hv p h2]
    exact (b1.put n (.string p)).far (p := ⟨gi, n, none⟩) st.gg.2.2 _
  · rw [← isC_put iv true h2]
    exact (b2.far (p := ⟨gh, n, none⟩) st.gg.2.2.symm (.string p)).put n (.bool true)
  · by_cases e : k = n
    · subst e
      rw [blk_same (frameB_size hp), unframe_frame hp, setF_same, setF_same]
      rfl
    · rw [blk_other e, st.ok k k1 k2, setF_other e, setF_other e]
  · exact (hb.setCell (p := ⟨gh, n, none⟩) st.gg.1 (.string p)).setCell (p := ⟨gi, n, none⟩) st.gg.2.1 (.bool true)
end
set_option maxRecDepth 100000 in
set_option maxHeartbeats 16000000 in
theorem blockapart_any (A B : Option Addr) (n1 c1 n2 c2 : Nat) (l : List ByteArray) (at_ : List Int) (w : World) (hr : Row w A n1 (l.map Value.string)) (hr2 : Row w B n2 (at_.map (Value.int .i64))) (hn1 : n1 ≤ 9223372036854775807) (hn2 : n2 ≤ 9223372036854775807) :
    Calls Try.prog 4 #[.slice A n1 c1, .slice B n2 c2] w fun e w' => e = .returned (.bool true) ∧ Below w.heap.size w w' := by
  have kf := Lib.hid (fun W => fixed_any W)
  have k0 := Lib.hid (laid_yes 32 rootT w (by decide) (by decide))
  replace hr := Lib.hid hr
  replace hr2 := Lib.hid hr2
  go_enter Try.func4, Try.ntmps4
  go_wp2_with fail
  refine k0.out.mono ?_
  rintro e w1 ⟨a, b, k, cc, rfl, h, hb⟩
  have hs0 := laid_hs (N := 32) (text := rootT) (by decide) (by decide) (by decide) h hb
  clear k0 h
  have M1 := makeT8 w1.drew
  have M2 := makeB8 (w1.alloc hasO).drew
  have M3 := makeB8 w1.drew
  have M4 := makeT8 (w1.alloc isO).drew
  rw [show (w1.alloc hasO).drew.heap.size = w1.heap.size + 1 from pushSize w1 _] at M2
  rw [show (w1.alloc isO).drew.heap.size = w1.heap.size + 1 from pushSize w1 _] at M4
  have F1 := Lib.hid (show Below w1.heap.size w1 ((w1.alloc hasO).alloc isO).drew ∧ Blk ((w1.alloc hasO).alloc isO).drew w1.heap.size 9 (hasC fun _ => ⟨#[]⟩) ∧ Blk ((w1.alloc hasO).alloc isO).drew (w1.heap.size + 1) 4 (isC fun _ => false) from ⟨(((Below.refl _ w1).alloc (Nat.le_refl _) hasO).alloc (by simp) isO).drew, (Blk.new w1 _ _).alloc isO, hpush w1 hasO isO⟩)
  have F2 := Lib.hid (show Below w1.heap.size w1 ((w1.alloc isO).alloc hasO).drew ∧ Blk ((w1.alloc isO).alloc hasO).drew (w1.heap.size + 1) 9 (hasC fun _ => ⟨#[]⟩) ∧ Blk ((w1.alloc isO).alloc hasO).drew w1.heap.size 4 (isC fun _ => false) from ⟨(((Below.refl _ w1).alloc (Nat.le_refl _) isO).alloc (by simp) hasO).drew, hpush w1 isO hasO, (Blk.new w1 _ _).alloc hasO⟩)
  go_upto_region 4 with fail
  go_cut [10, 11] (fun s1 s2 wx => ∃ gh gi, s1 = .slice (some ⟨gh, 0, none⟩) 8 8 ∧ s2 = .slice (some ⟨gi, 0, none⟩) 8 8 ∧ w1.heap.size ≤ gh ∧ w1.heap.size ≤ gi ∧ gh ≠ gi ∧ Below w1.heap.size w1 wx ∧ Blk wx gh 9 (hasC fun _ => ⟨#[]⟩) ∧ Blk wx gi 4 (isC fun _ => false))
  case first =>
    go_region
    all_goals (go_wp2_with fail; go_meet; first | exact ⟨_, _, rfl, rfl, by omega, by omega, by omega, F1.out⟩ | exact ⟨_, _, rfl, rfl, by omega, by omega, by omega, F2.out⟩)
  case rest =>
  obtain ⟨gh, gi, rfl, rfl, g1, g2, g3, b1, bh, bi⟩ := hcut
  clear M1 M2 M3 M4 F1 F2
  have hb2 := hb.trans (b1.mono hb.size)
  have hz := hb.size
  have st : ∃ v d, ApAt w 0 _ a b gh gi v d (cur0 rootT) (fun _ => ⟨#[]⟩) (fun _ => false) := ⟨_, _, (hs0.also b1 (fun i hi => by
    rcases hi with h | h | h
    · exact Or.inl h
    · exact Or.inr ⟨by omega, by have := bh.lt; omega⟩
    · exact Or.inr ⟨by omega, by have := bi.lt; omega⟩)), ⟨rfl, rfl⟩, bh, bi, (fun k h1 _ => by rw [blk0 h1, unframe_noughts]; rfl), hb2, ⟨by omega, by omega, g3⟩⟩
  obtain ⟨v, d, st⟩ := st
  clear hs0 hb b1 hb2 hz bh bi
  go_wp2_with fail
  go_loopw [12] (fun t wr => ∃ (q : Nat) (v : Vo) (d : Dk) (cur hv : Nat → ByteArray) (iv : Nat → Bool), q ≤ n1 ∧ q ≤ n2 ∧ q ≤ 60 ∧ t = .int .i64 (q : Int) ∧ ApAt w q wr a b gh gi v d cur hv iv) (fun t _ => n1 - (intOf t).toNat)
  case atStart => exact ⟨0, _, _, _, _, _, Nat.zero_le _, Nat.zero_le _, Nat.zero_le _, rfl, st⟩
  case round =>
    clear st
    obtain ⟨q, v, d, cur, hv, iv, hq1, hq2, hq3, rfl, st⟩ := hrel
    by_cases hlt : (q < n1 ∧ q < n2) ∧ q < 60
    · obtain ⟨⟨h1, h2⟩, h3⟩ := hlt
      have z0 : (0 : Int) ≤ (q : Int) := by omega
      have z1 : (q : Int) < (n1 : Int) := by omega
      have z2 : (q : Int) < (n2 : Int) := by omega
      have z3 : (q : Int) < 60 := by omega
      obtain ⟨ad, u, rfl, hu, hc⟩ := (hr.out.below st.hb).at_ h1
      obtain ⟨r, rfl⟩ : ∃ r, u = .string r := by
        rw [List.getElem?_map] at hu
        cases hx : l[q]? with
        | none => rw [hx] at hu; cases hu
        | some x => rw [hx] at hu; injection hu with hu; exact ⟨x, hu.symm⟩
      obtain ⟨ad2, u2, rfl, hu2, hc2⟩ := (hr2.out.below st.hb).at_ h2
      obtain ⟨y, rfl⟩ : ∃ y, u2 = .int .i64 y := by
        rw [List.getElem?_map] at hu2
        cases hx : at_[q]? with
        | none => rw [hx] at hu2; cases hu2
        | some x => rw [hx] at hu2; injection hu2 with hu2; exact ⟨x, hu2.symm⟩
      obtain ⟨mm, _, hm⟩ := mask16 y
      obtain ⟨n, hn⟩ : ∃ n, n = 1 + mm % 7 := ⟨_, rfl⟩
      have e4 : 1 + (mm : Int) % 7 = (n : Int) := by omega
      obtain ⟨M, hM⟩ : ∃ M, M = min r.size 240 := ⟨_, rfl⟩
      have e5 : min (r.size : Int) 240 = (M : Int) := by omega
      have e6 : (M : Int) ≤ (r.size : Int) := by omega
      have e7 : (0 : Int) ≤ (M : Int) := by omega
      have n1' : 1 ≤ n := by omega
      have n8' : n < 8 := by omega
      clear hu hu2 hn
      replace hM := Lib.hid hM
      replace st := Lib.hid st
      go_wp2_with fail
      go_quiet (fail)
      go_wp2_with fail
      have stN := fun k => st.out.below (below_N wr k)
      obtain ⟨P, hP⟩ : ∃ P, P = r.extract 0 M := ⟨_, rfl⟩
      have hPs : P.size ≤ 240 := by rw [hP, ByteArray.size_extract]; have := hM.out; omega
      have kw := Lib.hid (fun k => (stN k).write (by omega) n1' n8' hPs)
      rw [← hP]
      clear stN st hP hM hPs
      refine (kw.out _).mono ?_
      rintro e w3 ⟨rfl, _, bh, bi, v3, d3, st⟩
      clear kw
      have zn0 : (0 : Int) ≤ (n : Int) := by omega
      have zn8 : (n : Int) < 8 := by omega
      have s1 := (bh.cell n).trans (hasC_get hv n8')
      have s2 := bh.free n
      have bi2 := bi.far (p := ⟨gh, n, none⟩) g3.symm (.string P)
      have s3 := (bi2.cell n).trans (isC_get iv n8')
      have s4 := bi2.free n
      clear bh bi bi2
      replace st := Lib.hid st
      go_wp2_with fail
      replace st := st.out
      clear s1 s2 s3 s4 hc hc2 e4 e5 e6 e7 hm zn0 zn8
      generalize (w3.setCell ⟨gh, n, none⟩ (.string P)).setCell ⟨gi, n, none⟩ (.bool true) = w4 at st ⊢
      generalize curW cur (frameB P) n 0 4 = cur' at st
      generalize setF hv n P = hv' at st
      generalize setF iv n true = iv' at st
      go_loopw [15] (fun t wr => ∃ (k : Nat) (v : Vo), 1 ≤ k ∧ k ≤ 8 ∧ t = .int .i64 (k : Int) ∧ ApAt w (q + 1) wr a b gh gi v d3 cur' hv' iv') (fun t _ => 8 - (intOf t).toNat)
      case atStart => exact ⟨1, _, Nat.le_refl _, by decide, rfl, st⟩
      case round =>
        clear st
        obtain ⟨k, v, hk1, hk8, rfl, st⟩ := hrel
        by_cases hlt : k < 8
        · have y0 : (0 : Int) ≤ (k : Int) := by omega
          have y8 : (k : Int) < 8 := by omega
          have kr := Lib.hid (st.read hk1 hlt)
          have tb : ((hv' k).toList == (hv' k).toList) = true := beq_self_eq_true _
          clear st
          rcases hi : iv' k with _ | _
          · have kr2 := kr.out
            rw [hi] at kr2
            simp only [Bool.false_eq_true, if_false] at kr2
            replace kr2 := Lib.hid kr2
            clear kr tb
            go_wp2_with fail
            refine kr2.out.mono ?_
            rintro e w5 ⟨rfl, v5, st⟩
            have c1 := (st.bi.cell k).trans (isC_get iv' hlt)
            rw [hi] at c1
            replace st := Lib.hid st
            clear kr2 hi
            go_wp2_with fail
            exact ⟨⟨k + 1, v5, by omega, by omega, rfl, st.out⟩, by simp [intOf]; omega⟩
          · have kr2 := kr.out
            rw [hi] at kr2
            simp only [if_true] at kr2
            replace kr2 := Lib.hid kr2
            clear kr
            go_wp2_with fail
            refine kr2.out.mono ?_
            rintro e w5 ⟨rfl, v5, st⟩
            have c1 := (st.bi.cell k).trans (isC_get iv' hlt)
            have c2 := (st.bh.cell k).trans (hasC_get hv' hlt)
            rw [hi] at c1
            replace st := Lib.hid st
            clear kr2 hi
            go_wp2_with fail
            exact ⟨⟨k + 1, v5, by omega, by omega, rfl, st.out⟩, by simp [intOf]; omega⟩
        · obtain rfl : k = 8 := by omega
          replace st := Lib.hid st
          go_wp2_with fail
          exact ⟨⟨q + 1, v, d3, cur', hv', iv', by omega, by omega, by omega, rfl, st.out⟩, by simp [intOf]; omega⟩
    · have kr := Lib.hid (hvroot st.h.h)
      have hb := Lib.hid st.hb
      obtain ⟨t1, t2⟩ := st.rt
      rw [t1, t2] at kr
      have rb : rootT.toList = [114, 111, 111, 116] := by decide +kernel
      clear st t1 t2
      by_cases hq : q < n1
      · have z1 : (q : Int) < (n1 : Int) := by omega
        by_cases hp : q < n2
        · have z2 : (q : Int) < (n2 : Int) := by omega
          obtain rfl : q = 60 := by omega
          clear hlt
          go_wp2_with fail
          refine kr.out.mono ?_
          rintro e w5 ⟨rfl, n5, rfl⟩
          have hb5 := Lib.hid (below_drewN hb.out n5)
          clear kr hb
          go_wp2_with fail
          refine (kf.out _).mono ?_
          rintro e w6 ⟨rfl, b6⟩
          have hb6 := Lib.hid (hb5.out.trans (b6.mono hb5.out.size))
          clear b6 hb5
          go_wp2_with fail
          go_ret
          exact ⟨rfl, hb6.out⟩
        · obtain rfl : q = n2 := by omega
          clear hlt
          go_wp2_with fail
          refine kr.out.mono ?_
          rintro e w5 ⟨rfl, n5, rfl⟩
          have hb5 := Lib.hid (below_drewN hb.out n5)
          clear kr hb
          go_wp2_with fail
          refine (kf.out _).mono ?_
          rintro e w6 ⟨rfl, b6⟩
          have hb6 := Lib.hid (hb5.out.trans (b6.mono hb5.out.size))
          clear b6 hb5
          go_wp2_with fail
          go_ret
          exact ⟨rfl, hb6.out⟩
      · obtain rfl : q = n1 := by omega
        clear hlt
        go_wp2_with fail
        refine kr.out.mono ?_
        rintro e w5 ⟨rfl, n5, rfl⟩
        have hb5 := Lib.hid (below_drewN hb.out n5)
        clear kr hb
        go_wp2_with fail
        refine (kf.out _).mono ?_
        rintro e w6 ⟨rfl, b6⟩
        have hb6 := Lib.hid (hb5.out.trans (b6.mono hb5.out.size))
        clear b6 hb5
        go_wp2_with fail
        go_ret
        exact ⟨rfl, hb6.out⟩
end Go.Proofs.Ytkghlbpkdkonbaa.Vl

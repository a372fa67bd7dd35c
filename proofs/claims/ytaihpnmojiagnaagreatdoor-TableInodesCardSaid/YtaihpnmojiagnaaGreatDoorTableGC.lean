/- The document's lists of bytes: ParseInodes, ParseEntries, ParseSnaps. (Printed by genrparse.py.) -/
import Derived.Test.YtaihpnmojiagnaaGreatDoorTableGB
namespace Go.Proofs.YtaihpnmojiagnaaGreatDoor.Table
open Go.RowKit Mem Wire

/-- under way: the document's reader, the thing's block, all else as it was -/
def WayR (w W : World) (b g : Nat) (t : TypeId) (cs : Array Value) (st : Rd) : Prop := IsRf W b st ∧ Blk W g t cs ∧ w.grownBy W (some b) ∧ w.heap.size ≤ g ∧ b < w.heap.size
theorem WayR.start {w : World} {b : Nat} {st : Rd} (h : IsRf w b st) (t : TypeId) (cs : Array Value) : WayR w (w.alloc (.cells cs t)) b w.heap.size t cs st :=
  ⟨h.below ((Below.refl w.heap.size w).alloc (Nat.le_refl _) _) h.lt, Blk.new _ _ _, Only.alloc (Only.refl w _) _, Nat.le_refl _, h.lt⟩
theorem WayR.read {w W W' : World} {b g : Nat} {t : TypeId} {cs : Array Value} {st st' : Rd} (h : WayR w W b g t cs st) (h' : IsRf W' b st') (g' : W.grownBy W' (some b)) : WayR w W' b g t cs st' := by
  obtain ⟨_, h3, h4, h5, h6⟩ := h
  exact ⟨h', h3.grown g' (fun e => by injection e; omega), Only.trans h4 g', h5, h6⟩
theorem WayR.put {w W : World} {b g : Nat} {t : TypeId} {cs : Array Value} {st : Rd} (h : WayR w W b g t cs st) (i : Nat) (u : Value) : WayR w (W.setCell ⟨g, i, none⟩ u) b g t (cs.setIfInBounds i u) st := by
  obtain ⟨h1, h3, h4, h5, h6⟩ := h
  have g' : W.grownBy (W.setCell ⟨g, i, none⟩ u) (some g) := Only.put (Only.refl W _) i u
  exact ⟨h1.grown g' (fun e => by injection e; omega), h3.put i u, Only.own h4 g' (fun j hj => by injection hj with hj; omega), h5, h6⟩
theorem rf_cell2 {w : World} {b : Nat} {st : Rd} (h : IsRf w b st) : w.cell? ⟨b, 2, none⟩ = some (.int .i64 st.2) := by
  obtain ⟨S, p, hb, _⟩ := h
  exact hb.cell 2
theorem rdsR_step {α : Type} (f : Rd → α × Rd) {k : Nat} {st st2 : Rd} {l : List α} (h : rdsR f k st = (l, st2)) (h0 : st2.2 = 0) : rdsR f (k + 1) st = (l ++ [(f st2).1], (f st2).2) := by
  show (if (rdsR f k st).2.2 = 0 then ((rdsR f k st).1 ++ [(f (rdsR f k st).2).1], (f (rdsR f k st).2).2) else rdsR f k st) = _
  rw [h, if_pos h0]
theorem rdsR_stop {α : Type} (f : Rd → α × Rd) {k : Nat} {st st2 : Rd} {l : List α} (h : rdsR f k st = (l, st2)) (h0 : ¬ st2.2 = 0) : ∀ m, rdsR f (k + m) st = (l, st2)
  | 0 => h
  | m + 1 => by
    have ih := rdsR_stop f h h0 m
    show (if (rdsR f (k + m) st).2.2 = 0 then ((rdsR f (k + m) st).1 ++ [(f (rdsR f (k + m) st).2).1], (f (rdsR f (k + m) st).2).2) else rdsR f (k + m) st) = _
    rw [ih, if_neg h0]
theorem rparse_is {α : Type} {K : Kind α} {s : List UInt8} {n : Nat} {p : List α × Rd} (hn : (rdNum 4096 (s, 0)).1.1.toNat = n) (hp : rdsR K.rread n (rdNum 4096 (s, 0)).2 = p) :
    rparseS K s = if rdEnd p.2 = 0 ∧ lays K p.1 = some s then some p.1 else none := by
  unfold rparseS
  simp only
  rw [hn, hp]
def inoN (_ : Ino) : Prop := True
def entN (x : Ent) : Prop := x.name.size ≤ 9223372036854775807
def snpN (x : Snp) : Prop := x.name.size ≤ 9223372036854775807
theorem ino_n (st : Rd) : inoN (inoK.rread st).1 := trivial
theorem ent_n (st : Rd) : entN (entK.rread st).1 := Nat.le_trans (rt_small st) (by decide)
theorem snp_n (st : Rd) : snpN (snpK.rread st).1 := Nat.le_trans (rt_small st) (by decide)
theorem ino_rl (A : Option Addr) (n c : Nat) (l : List Ino) (w : World) (hr : Row w A (n * 5) (l.flatMap inoC)) (hln : l.length = n) (_hb : ∀ x ∈ l, inoN x) (hnm : n ≤ 9223372036854775807) :
    Calls Tryz.prog 7 #[.slice A n c] w fun e w' => e = .returned (laysV (lays inoK l)) ∧ Below w.heap.size w w' := ino_rlays A n c l w hr hln hnm
theorem ent_rl (A : Option Addr) (n c : Nat) (l : List Ent) (w : World) (hr : Row w A (n * 2) (l.flatMap entC)) (hln : l.length = n) (hb : ∀ x ∈ l, entN x) (hnm : n ≤ 9223372036854775807) :
    Calls Tryz.prog 13 #[.slice A n c] w fun e w' => e = .returned (laysV (lays entK l)) ∧ Below w.heap.size w w' := ent_rlays A n c l w hr hln hb hnm
theorem snp_rl (A : Option Addr) (n c : Nat) (l : List Snp) (w : World) (hr : Row w A (n * 5) (l.flatMap snpC)) (hln : l.length = n) (hb : ∀ x ∈ l, snpN x) (hnm : n ≤ 9223372036854775807) :
    Calls Tryz.prog 18 #[.slice A n c] w fun e w' => e = .returned (laysV (lays snpK l)) ∧ Below w.heap.size w w' := snp_rlays A n c l w hr hln hb hnm
theorem own_empty (W : World) (t : TypeId) (sz : Nat) : (W.alloc (.cells #[] t)).ownsRow W.heap.size t sz (.slice (some ⟨W.heap.size, 0, none⟩) 0 0) 0 [] :=
  ⟨by simp, Or.inr ⟨W.heap.size, 0, #[], rfl, Nat.le_refl _, heap_alloc_new W _, Nat.le_refl _, Nat.zero_le _, by simp, by simp⟩⟩

set_option maxRecDepth 100000 in
set_option maxHeartbeats 8000000 in
theorem ino_rparse (s : ByteArray) (w : World) (hs : s.size ≤ 140737488355328) :
    Calls Tryz.prog 8 #[.string s] w (ParsePost w 32 5 inoC (rparseS inoK s.data.toList)) := by
  obtain ⟨i0, hi, hz0, hz1, hz2'⟩ := info_parts info_Inode
  have hr0 := IsRf.new w s (by omega)
  have hb0 : Below w.heap.size w (w.alloc (.cells #[.string s, .int .i64 0, .int .i64 0] 59)) := (Below.refl _ _).alloc (Nat.le_refl _) _
  have hzw : (w.alloc (.cells #[.string s, .int .i64 0, .int .i64 0] 59)).heap.size = w.heap.size + 1 := by simp
  replace hb0 := Lib.hid hb0
  replace hzw := Lib.hid hzw
  go_enter Tryz.func8, Tryz.ntmps8
  go_wp2_with fail
  generalize (w.alloc (.cells #[.string s, .int .i64 0, .int .i64 0] 59)) = W1 at hr0 hb0 hzw ⊢
  have hrb := hr0.lt
  have hcall := Lib.hid (rf_any w.heap.size _ 4096 W1 hr0)
  obtain ⟨hla, hz, hnz⟩ := rdNum_latch 4096 (s.data.toList, 0)
  have hpi := Lib.hid (fun n p hn hp => rparse_is (K := inoK) (s := s.data.toList) (n := n) (p := p) hn hp)
  obtain ⟨⟨⟨nI, en⟩, st1⟩, hrd⟩ : ∃ r, rdNum 4096 (s.data.toList, 0) = r := ⟨_, rfl⟩
  rw [hrd] at hla hz hnz hpi hcall
  simp only at hla hz hnz hpi
  have hnn : 0 ≤ nI ∧ nI ≤ 4096 := by
    by_cases h : en = 0
    · have := hz h; omega
    · have := hnz h; omega
  obtain ⟨hn0, hn1⟩ := hnn
  obtain ⟨n, rfl⟩ := Int.eq_ofNat_of_zero_le hn0
  replace hrd := Lib.hid hrd
  replace hr0 := Lib.hid hr0
  clear hla hz hnz
  refine hcall.out.mono ?_
  rintro e W2 ⟨rfl, hr2, g2⟩
  have hb2 : Below w.heap.size w W2 := hb0.out.trans (Only.toBelow g2 (Nat.le_refl _) (by omega))
  have hB2 : w.heap.size < W2.heap.size := hr2.lt
  clear g2 hcall hr0 hb0
  have hr3 := hr2.below ((Below.refl W2.heap.size W2).alloc (Nat.le_refl _) (.cells #[] 32)) hr2.lt
  have hb3 := hb2.alloc (Nat.le_of_lt hB2) (.cells #[] 32)
  have hown0 := own_empty W2 32 5
  have hB3 : w.heap.size + 1 ≤ W2.heap.size := hB2
  replace hr3 := Lib.hid hr3
  replace hb3 := Lib.hid hb3
  replace hown0 := Lib.hid hown0
  clear hr2 hb2
  go_wp2_with fail
  have hW3z : (W2.alloc (.cells #[] 32)).heap.size = W2.heap.size + 1 := by simp
  generalize W2.alloc (.cells #[] 32) = W3 at hr3 hb3 hown0 hW3z ⊢
  replace hW3z := Lib.hid (show W2.heap.size ≤ W3.heap.size by omega)
  generalize W2.heap.size = B at hown0 hB2 hB3 hW3z ⊢
  go_loopw [7, 8] (fun v i wr => ∃ (k : Nat) (l : List Ino) (st2 : Rd), k ≤ n ∧ i = .int .i64 (k : Int) ∧ l.length = k ∧ rdsR inoK.rread k st1 = (l, st2) ∧ (∀ x ∈ l, inoN x) ∧
    wr.ownsRow B 32 5 v l.length (l.flatMap inoC) ∧ IsRf wr w.heap.size st2 ∧ Below w.heap.size w wr ∧ B ≤ wr.heap.size) (fun _ i _ => n - (intOf i).toNat)
  case atStart => exact ⟨0, [], st1, Nat.zero_le _, rfl, rfl, rfl, by simp, hown0.out, hr3.out, hb3.out, hW3z.out⟩
  case round =>
    obtain ⟨k, l, st2, hk, rfl, hll, hrds, hbig, hown, hr, hb, hBr⟩ := hrel
    have hce := rf_cell2 hr
    have hbl := hr.lt
    have hob := Lib.hid (show ∀ j, u7.ownBlock = some j → B ≤ j ∧ j < wr.heap.size from hown.lt)
    replace hbig := Lib.hid hbig
    replace hrds := Lib.hid hrds
    replace hll := Lib.hid hll
    replace hb := Lib.hid hb
    have hzr : w.heap.size ≤ wr.heap.size := Nat.le_of_lt hbl
    obtain ⟨ev, hev⟩ : ∃ ev, st2.2 = ev := ⟨_, rfl⟩
    rw [hev] at hce
    by_cases hgo : k < n ∧ ev = 0
    · obtain ⟨hlt, rfl⟩ := hgo
      have hkn : (k : Int) < (n : Int) := by omega
      have hst := Lib.hid (rdsR_step inoK.rread hrds.out hev)
      have hxb := Lib.hid (ino_n st2)
      replace hev := Lib.hid hev
      have hw := WayR.start hr 32 ⟨inoC inoK.zero⟩
      clear hr
      replace hown := Lib.hid hown
      replace hw := Lib.hid hw
      go_wp2_with fail
      refine (rf_any w.heap.size _ 4611686018427387904 _ hw.out.1).mono ?_
      rintro e y0 ⟨rfl, h1, g1⟩
      replace hw := Lib.hid (hw.out.read h1 g1)
      clear h1 g1
      have c0 := hw.out.2.1.cell 0
      have f0 := hw.out.2.1.free 0
      go_wp2_with fail
      replace hw := Lib.hid (hw.out.put 0 (.int .i64 (rdNum 4611686018427387904 st2).1.1))
      refine (rf_any w.heap.size _ 1 _ hw.out.1).mono ?_
      rintro e y1 ⟨rfl, h1, g1⟩
      replace hw := Lib.hid (hw.out.read h1 g1)
      clear h1 g1 f0 c0
      have c1 := hw.out.2.1.cell 1
      have f1 := hw.out.2.1.free 1
      go_wp2_with fail
      replace hw := Lib.hid (hw.out.put 1 (.bool ((rdNum 1 (rdNum 4611686018427387904 st2).2).1.1 == 1)))
      refine (rf_any w.heap.size _ 4611686018427387904 _ hw.out.1).mono ?_
      rintro e y2 ⟨rfl, h1, g1⟩
      replace hw := Lib.hid (hw.out.read h1 g1)
      clear h1 g1 f1 c1
      have c2 := hw.out.2.1.cell 2
      have f2 := hw.out.2.1.free 2
      go_wp2_with fail
      replace hw := Lib.hid (hw.out.put 2 (.int .i64 (rdNum 4611686018427387904 (rdNum 1 (rdNum 4611686018427387904 st2).2).2).1.1))
      refine (rf_any w.heap.size _ 4611686018427387904 _ hw.out.1).mono ?_
      rintro e y3 ⟨rfl, h1, g1⟩
      replace hw := Lib.hid (hw.out.read h1 g1)
      clear h1 g1 f2 c2
      have c3 := hw.out.2.1.cell 3
      have f3 := hw.out.2.1.free 3
      go_wp2_with fail
      replace hw := Lib.hid (hw.out.put 3 (.int .i64 (rdNum 4611686018427387904 (rdNum 4611686018427387904 (rdNum 1 (rdNum 4611686018427387904 st2).2).2).2).1.1))
      refine (rf_any w.heap.size _ 4611686018427387904 _ hw.out.1).mono ?_
      rintro e y4 ⟨rfl, h1, g1⟩
      replace hw := Lib.hid (hw.out.read h1 g1)
      clear h1 g1 f3 c3
      have c4 := hw.out.2.1.cell 4
      have f4 := hw.out.2.1.free 4
      go_upto_region 18 with fail
      have q5 : WayR wr (y4.setCell ⟨wr.heap.size, 4, none⟩ (.int .i64 (rdNum 4611686018427387904 (rdNum 4611686018427387904 (rdNum 4611686018427387904 (rdNum 1 (rdNum 4611686018427387904 st2).2).2).2).2).1.1)) w.heap.size wr.heap.size 32 ⟨inoC (inoK.rread st2).1⟩ (inoK.rread st2).2 := hw.out.put 4 (.int .i64 (rdNum 4611686018427387904 (rdNum 4611686018427387904 (rdNum 4611686018427387904 (rdNum 1 (rdNum 4611686018427387904 st2).2).2).2).2).1.1)
      clear hw c4 f4
      have hst' := hst
      clear hst
      generalize (inoK.rread st2).2 = st3 at q5 hst'
      generalize (y4.setCell ⟨wr.heap.size, 4, none⟩ (.int .i64 (rdNum 4611686018427387904 (rdNum 4611686018427387904 (rdNum 4611686018427387904 (rdNum 1 (rdNum 4611686018427387904 st2).2).2).2).2).1.1)) = w5 at q5 ⊢
      generalize hxx : (inoK.rread st2).1 = x at q5 hst' hxb
      clear hxx
      have hs5 : wr.heap.size ≤ w5.heap.size := q5.2.2.1.size
      have hown5 := hown.out.kept q5.2.2.1 (Or.inr (fun e => by have := (hob.out _ e).1; omega))
      have cx0 : w5.cell? ⟨wr.heap.size, 0, none⟩ = some (.int .i64 x.num) := q5.2.1.cell 0
      have cx1 : w5.cell? ⟨wr.heap.size, 1, none⟩ = some (.bool x.dir) := q5.2.1.cell 1
      have cx2 : w5.cell? ⟨wr.heap.size, 2, none⟩ = some (.int .i64 x.links) := q5.2.1.cell 2
      have cx3 : w5.cell? ⟨wr.heap.size, 3, none⟩ = some (.int .i64 x.root) := q5.2.1.cell 3
      have cx4 : w5.cell? ⟨wr.heap.size, 4, none⟩ = some (.int .i64 x.size) := q5.2.1.cell 4
      have hb5 := Lib.hid (hb.out.trans (Only.toBelow q5.2.2.1 (Nat.le_refl _) hzr))
      replace q5 := Lib.hid q5
      clear hown
      go_wp2_with (first
        | (at_builtin; refine wpList_append_own _ rfl (.tmp 82) (.tmp 84) _ rfl B 32 i0 (inoV inoK.zero) 5 40 Tryz.underlying22 hi hz0 hz1 hz2' rfl (by decide) u7 l.length _ rfl (hown5.alloc _) ⟨w5.heap.size, 0, none⟩ 1 1 (inoC x) rfl rfl (cells_new _ _ _) (one_ino x) (by rw [hll.out]; unfold maxLen; omega) (by rw [hll.out]; omega) (by simp; omega) ?_))
      intro v4 w4 hown4 hg4 _
      have hsz4 := hg4.size
      have hb4 : Below w.heap.size w w4 := (hb5.out.alloc (by omega) _).trans ⟨hg4.os, hg4.tape, hg4.output, hg4.size, fun j hj => hg4.block j (by simp; omega) (fun e => by have := (hob.out j e.symm).1; omega)⟩
      have hr4 : IsRf w4 w.heap.size st3 := (q5.out.1.below ((Below.refl w5.heap.size w5).alloc (Nat.le_refl _) _) q5.out.1.lt).grown hg4 (fun e => by have := (hob.out _ e.symm).1; omega)
      have hB4 : B ≤ w4.heap.size := by simp at hsz4; omega
      replace hb4 := Lib.hid hb4
      replace hr4 := Lib.hid hr4
      replace hown4 := Lib.hid hown4
      replace hB4 := Lib.hid hB4
      clear hg4 hown5 hsz4
      go_wp2_with fail
      go_roundw
      case rel =>
        refine ⟨k + 1, l ++ [x], st3, by omega, by go_num, by rw [List.length_append, hll.out]; rfl, hst'.out, ?_, ?_, hr4.out, hb4.out, hB4.out⟩
        · intro y hy
          rcases List.mem_append.1 hy with hy | hy
          · exact hbig.out y hy
          · rw [List.mem_singleton.1 hy]; exact hxb.out
        · rw [List.length_append, List.flatMap_append, List.flatMap_singleton]
          exact hown4.out
      case measure => simp [intOf]; omega
    · have hpe : rparseS inoK s.data.toList = if rdEnd st2 = 0 ∧ lays inoK l = some s.data.toList then some l else none := by
        have h := hpi.out n (l, st2) rfl (by
          by_cases hkn : k = n
          · rw [← hkn]; exact hrds.out
          · have h0 : ¬ st2.2 = 0 := by rw [hev]; omega
            have := rdsR_stop inoK.rread hrds.out h0 (n - k)
            rwa [show k + (n - k) = n by omega] at this)
        simpa using h
      obtain ⟨A, c, rfl⟩ := own_slc hown
      have hl4 : l.length ≤ 4096 := by rw [hll.out]; omega
      obtain ⟨ee, hee⟩ : ∃ ee, rdEnd st2 = ee := ⟨_, rfl⟩
      rw [hee] at hpe
      replace hpe := Lib.hid hpe
      have kl := Lib.hid (ino_rl A l.length c l wr (row_of_own hown) rfl hbig.out (by omega))
      have kend : Hid (∀ W : World, IsRf W w.heap.size st2 → Calls Tryz.prog 27 #[.pointer (some ⟨w.heap.size, 0, none⟩)] W fun e w' => e = .returned (.int .i64 ee) ∧ Below W.heap.size W w') := Lib.hid (fun W h => (rend_any w.heap.size st2 W h).mono (fun e w' h => ⟨by rw [h.1, hee], h.2.2⟩))
      replace hee := Lib.hid hee
      replace hr := Lib.hid hr
      replace hown := Lib.hid hown
      have hstop : ¬ ((k : Int) < (n : Int)) ∨ ((k : Int) < (n : Int) ∧ ¬ ev = 0) := by
        by_cases h : k < n
        · exact Or.inr ⟨by omega, fun h2 => hgo ⟨h, h2⟩⟩
        · exact Or.inl (by omega)
      replace hgo := Lib.hid hgo
      replace hev := Lib.hid hev
      generalize hlv : lays inoK l = lv at kl hpe
      replace hlv := Lib.hid hlv
      rcases hstop with h1 | ⟨h1, h2⟩
      all_goals
        go_wp2_with fail
        refine kl.out.mono ?_
        rintro e W4 ⟨rfl, b4⟩
        have hr4 := Lib.hid (hr.out.below b4 hbl)
        have hown4 := Lib.hid (hown.out.kept (row := none) (Only.of_below b4 none) (by cases Value.ownBlock _ <;> simp))
        have hb4 := Lib.hid (hb.out.trans (b4.mono hzr))
        have hz4 : w.heap.size ≤ W4.heap.size := Nat.le_trans hzr b4.size
        clear b4
        cases lv with
        | none =>
          unfold laysV
          by_cases he0 : ee = 0
          · subst he0
            go_wp2_with fail
            refine (kend.out _ hr4.out).mono ?_
            rintro e W5 ⟨rfl, b5⟩
            have hb5 := Lib.hid (hb4.out.trans (b5.mono hz4))
            clear b5
            go_wp2_with fail
            go_ret2
            exact ParsePost.none_ (by rw [hpe.out, if_neg (fun h => by cases h.2)]) hb5.out
          · have hne : (ee != 0) = true := by simpa using he0
            replace he0 := Lib.hid he0
            go_wp2_with fail
            refine (kend.out _ hr4.out).mono ?_
            rintro e W5 ⟨rfl, b5⟩
            have hb5 := Lib.hid (hb4.out.trans (b5.mono hz4))
            clear b5
            go_wp2_with fail
            go_ret2
            exact ParsePost.none_ (by rw [hpe.out, if_neg (fun h => he0.out h.1)]) hb5.out
        | some bs =>
          unfold laysV
          obtain ⟨T, hT⟩ : ∃ T : ByteArray, T = ⟨bs.toArray⟩ := ⟨_, rfl⟩
          simp only
          rw [← hT]
          replace hT := Lib.hid hT
          by_cases he0 : ee = 0
          · subst he0
            by_cases hTs : T = s
            · subst hTs
              go_wp2_with fail
              refine (kend.out _ hr4.out).mono ?_
              rintro e W5 ⟨rfl, b5⟩
              have hb5 := Lib.hid (hb4.out.trans (b5.mono hz4))
              have hown5 := Lib.hid (hown4.out.kept (row := none) (Only.of_below b5 none) (by cases Value.ownBlock _ <;> simp))
              clear b5
              go_wp2_with fail
              go_ret2
              have e1 : rparseS inoK T.data.toList = some l := by rw [hpe.out, if_pos ⟨trivial, by rw [hT.out]⟩]
              refine ⟨A, l.length, c, ?_, ?_, ?_, hb5.out⟩
              · rw [e1]; rfl
              · rw [e1]; exact own_less hown5.out (by omega)
              · rw [e1]; rfl
            · have hT1 : ¬ T.toList = s.toList := fun h => hTs (by rw [ByteArray.ext_iff, ← Array.toList_inj]; simpa [Lib.toList_data] using h)
              have hT2 : (T.toList == s.toList) = false := by simpa using hT1
              replace hTs := Lib.hid hTs
              go_wp2_with fail
              refine (kend.out _ hr4.out).mono ?_
              rintro e W5 ⟨rfl, b5⟩
              have hb5 := Lib.hid (hb4.out.trans (b5.mono hz4))
              clear b5
              go_wp2_with fail
              go_ret2
              exact ParsePost.none_ (by rw [hpe.out, if_neg (fun h => hTs.out (by have h := h.2; injection h with h; rw [hT.out, h]))]) hb5.out
          · have hne : (ee != 0) = true := by simpa using he0
            replace he0 := Lib.hid he0
            go_wp2_with fail
            refine (kend.out _ hr4.out).mono ?_
            rintro e W5 ⟨rfl, b5⟩
            have hb5 := Lib.hid (hb4.out.trans (b5.mono hz4))
            clear b5
            go_wp2_with fail
            go_ret2
            exact ParsePost.none_ (by rw [hpe.out, if_neg (fun h => he0.out h.1)]) hb5.out

set_option maxRecDepth 100000 in
set_option maxHeartbeats 8000000 in
theorem ent_rparse (s : ByteArray) (w : World) (hs : s.size ≤ 140737488355328) :
    Calls Tryz.prog 15 #[.string s] w (ParsePost w 65 2 entC (rparseS entK s.data.toList)) := by
  obtain ⟨i0, hi, hz0, hz1, hz2'⟩ := info_parts info_Entry
  have hr0 := IsRf.new w s (by omega)
  have hb0 : Below w.heap.size w (w.alloc (.cells #[.string s, .int .i64 0, .int .i64 0] 59)) := (Below.refl _ _).alloc (Nat.le_refl _) _
  have hzw : (w.alloc (.cells #[.string s, .int .i64 0, .int .i64 0] 59)).heap.size = w.heap.size + 1 := by simp
  replace hb0 := Lib.hid hb0
  replace hzw := Lib.hid hzw
  go_enter Tryz.func15, Tryz.ntmps15
  go_wp2_with fail
  generalize (w.alloc (.cells #[.string s, .int .i64 0, .int .i64 0] 59)) = W1 at hr0 hb0 hzw ⊢
  have hrb := hr0.lt
  have hcall := Lib.hid (rf_any w.heap.size _ 4096 W1 hr0)
  obtain ⟨hla, hz, hnz⟩ := rdNum_latch 4096 (s.data.toList, 0)
  have hpi := Lib.hid (fun n p hn hp => rparse_is (K := entK) (s := s.data.toList) (n := n) (p := p) hn hp)
  obtain ⟨⟨⟨nI, en⟩, st1⟩, hrd⟩ : ∃ r, rdNum 4096 (s.data.toList, 0) = r := ⟨_, rfl⟩
  rw [hrd] at hla hz hnz hpi hcall
  simp only at hla hz hnz hpi
  have hnn : 0 ≤ nI ∧ nI ≤ 4096 := by
    by_cases h : en = 0
    · have := hz h; omega
    · have := hnz h; omega
  obtain ⟨hn0, hn1⟩ := hnn
  obtain ⟨n, rfl⟩ := Int.eq_ofNat_of_zero_le hn0
  replace hrd := Lib.hid hrd
  replace hr0 := Lib.hid hr0
  clear hla hz hnz
  refine hcall.out.mono ?_
  rintro e W2 ⟨rfl, hr2, g2⟩
  have hb2 : Below w.heap.size w W2 := hb0.out.trans (Only.toBelow g2 (Nat.le_refl _) (by omega))
  have hB2 : w.heap.size < W2.heap.size := hr2.lt
  clear g2 hcall hr0 hb0
  have hr3 := hr2.below ((Below.refl W2.heap.size W2).alloc (Nat.le_refl _) (.cells #[] 65)) hr2.lt
  have hb3 := hb2.alloc (Nat.le_of_lt hB2) (.cells #[] 65)
  have hown0 := own_empty W2 65 2
  have hB3 : w.heap.size + 1 ≤ W2.heap.size := hB2
  replace hr3 := Lib.hid hr3
  replace hb3 := Lib.hid hb3
  replace hown0 := Lib.hid hown0
  clear hr2 hb2
  go_wp2_with fail
  have hW3z : (W2.alloc (.cells #[] 65)).heap.size = W2.heap.size + 1 := by simp
  generalize W2.alloc (.cells #[] 65) = W3 at hr3 hb3 hown0 hW3z ⊢
  replace hW3z := Lib.hid (show W2.heap.size ≤ W3.heap.size by omega)
  generalize W2.heap.size = B at hown0 hB2 hB3 hW3z ⊢
  go_loopw [7, 8] (fun v i wr => ∃ (k : Nat) (l : List Ent) (st2 : Rd), k ≤ n ∧ i = .int .i64 (k : Int) ∧ l.length = k ∧ rdsR entK.rread k st1 = (l, st2) ∧ (∀ x ∈ l, entN x) ∧
    wr.ownsRow B 65 2 v l.length (l.flatMap entC) ∧ IsRf wr w.heap.size st2 ∧ Below w.heap.size w wr ∧ B ≤ wr.heap.size) (fun _ i _ => n - (intOf i).toNat)
  case atStart => exact ⟨0, [], st1, Nat.zero_le _, rfl, rfl, rfl, by simp, hown0.out, hr3.out, hb3.out, hW3z.out⟩
  case round =>
    obtain ⟨k, l, st2, hk, rfl, hll, hrds, hbig, hown, hr, hb, hBr⟩ := hrel
    have hce := rf_cell2 hr
    have hbl := hr.lt
    have hob := Lib.hid (show ∀ j, u7.ownBlock = some j → B ≤ j ∧ j < wr.heap.size from hown.lt)
    replace hbig := Lib.hid hbig
    replace hrds := Lib.hid hrds
    replace hll := Lib.hid hll
    replace hb := Lib.hid hb
    have hzr : w.heap.size ≤ wr.heap.size := Nat.le_of_lt hbl
    obtain ⟨ev, hev⟩ : ∃ ev, st2.2 = ev := ⟨_, rfl⟩
    rw [hev] at hce
    by_cases hgo : k < n ∧ ev = 0
    · obtain ⟨hlt, rfl⟩ := hgo
      have hkn : (k : Int) < (n : Int) := by omega
      have hst := Lib.hid (rdsR_step entK.rread hrds.out hev)
      have hxb := Lib.hid (ent_n st2)
      replace hev := Lib.hid hev
      have hw := WayR.start hr 65 ⟨entC entK.zero⟩
      clear hr
      replace hown := Lib.hid hown
      replace hw := Lib.hid hw
      go_wp2_with fail
      refine (rtext_any w.heap.size _ 16 _ hw.out.1).mono ?_
      rintro e y0 ⟨rfl, h1, g1⟩
      replace hw := Lib.hid (hw.out.read h1 g1)
      clear h1 g1
      have c0 := hw.out.2.1.cell 0
      have f0 := hw.out.2.1.free 0
      go_wp2_with fail
      replace hw := Lib.hid (hw.out.put 0 (.string ⟨(rdText 16 st2).1.1.toArray⟩))
      refine (rf_any w.heap.size _ 4611686018427387904 _ hw.out.1).mono ?_
      rintro e y1 ⟨rfl, h1, g1⟩
      replace hw := Lib.hid (hw.out.read h1 g1)
      clear h1 g1 f0 c0
      have c1 := hw.out.2.1.cell 1
      have f1 := hw.out.2.1.free 1
      go_upto_region 12 with fail
      have q5 : WayR wr (y1.setCell ⟨wr.heap.size, 1, none⟩ (.int .i64 (rdNum 4611686018427387904 (rdText 16 st2).2).1.1)) w.heap.size wr.heap.size 65 ⟨entC (entK.rread st2).1⟩ (entK.rread st2).2 := hw.out.put 1 (.int .i64 (rdNum 4611686018427387904 (rdText 16 st2).2).1.1)
      clear hw c1 f1
      have hst' := hst
      clear hst
      generalize (entK.rread st2).2 = st3 at q5 hst'
      generalize (y1.setCell ⟨wr.heap.size, 1, none⟩ (.int .i64 (rdNum 4611686018427387904 (rdText 16 st2).2).1.1)) = w5 at q5 ⊢
      generalize hxx : (entK.rread st2).1 = x at q5 hst' hxb
      clear hxx
      have hs5 : wr.heap.size ≤ w5.heap.size := q5.2.2.1.size
      have hown5 := hown.out.kept q5.2.2.1 (Or.inr (fun e => by have := (hob.out _ e).1; omega))
      have cx0 : w5.cell? ⟨wr.heap.size, 0, none⟩ = some (.string x.name) := q5.2.1.cell 0
      have cx1 : w5.cell? ⟨wr.heap.size, 1, none⟩ = some (.int .i64 x.num) := q5.2.1.cell 1
      have hb5 := Lib.hid (hb.out.trans (Only.toBelow q5.2.2.1 (Nat.le_refl _) hzr))
      replace q5 := Lib.hid q5
      clear hown
      go_wp2_with (first
        | (at_builtin; refine wpList_append_own _ rfl (.tmp 52) (.tmp 54) _ rfl B 65 i0 (entV entK.zero) 2 24 Tryz.underlying35 hi hz0 hz1 hz2' rfl (by decide) u7 l.length _ rfl (hown5.alloc _) ⟨w5.heap.size, 0, none⟩ 1 1 (entC x) rfl rfl (cells_new _ _ _) (one_ent x) (by rw [hll.out]; unfold maxLen; omega) (by rw [hll.out]; omega) (by simp; omega) ?_))
      intro v4 w4 hown4 hg4 _
      have hsz4 := hg4.size
      have hb4 : Below w.heap.size w w4 := (hb5.out.alloc (by omega) _).trans ⟨hg4.os, hg4.tape, hg4.output, hg4.size, fun j hj => hg4.block j (by simp; omega) (fun e => by have := (hob.out j e.symm).1; omega)⟩
      have hr4 : IsRf w4 w.heap.size st3 := (q5.out.1.below ((Below.refl w5.heap.size w5).alloc (Nat.le_refl _) _) q5.out.1.lt).grown hg4 (fun e => by have := (hob.out _ e.symm).1; omega)
      have hB4 : B ≤ w4.heap.size := by simp at hsz4; omega
      replace hb4 := Lib.hid hb4
      replace hr4 := Lib.hid hr4
      replace hown4 := Lib.hid hown4
      replace hB4 := Lib.hid hB4
      clear hg4 hown5 hsz4
      go_wp2_with fail
      go_roundw
      case rel =>
        refine ⟨k + 1, l ++ [x], st3, by omega, by go_num, by rw [List.length_append, hll.out]; rfl, hst'.out, ?_, ?_, hr4.out, hb4.out, hB4.out⟩
        · intro y hy
          rcases List.mem_append.1 hy with hy | hy
          · exact hbig.out y hy
          · rw [List.mem_singleton.1 hy]; exact hxb.out
        · rw [List.length_append, List.flatMap_append, List.flatMap_singleton]
          exact hown4.out
      case measure => simp [intOf]; omega
    · have hpe : rparseS entK s.data.toList = if rdEnd st2 = 0 ∧ lays entK l = some s.data.toList then some l else none := by
        have h := hpi.out n (l, st2) rfl (by
          by_cases hkn : k = n
          · rw [← hkn]; exact hrds.out
          · have h0 : ¬ st2.2 = 0 := by rw [hev]; omega
            have := rdsR_stop entK.rread hrds.out h0 (n - k)
            rwa [show k + (n - k) = n by omega] at this)
        simpa using h
      obtain ⟨A, c, rfl⟩ := own_slc hown
      have hl4 : l.length ≤ 4096 := by rw [hll.out]; omega
      obtain ⟨ee, hee⟩ : ∃ ee, rdEnd st2 = ee := ⟨_, rfl⟩
      rw [hee] at hpe
      replace hpe := Lib.hid hpe
      have kl := Lib.hid (ent_rl A l.length c l wr (row_of_own hown) rfl hbig.out (by omega))
      have kend : Hid (∀ W : World, IsRf W w.heap.size st2 → Calls Tryz.prog 27 #[.pointer (some ⟨w.heap.size, 0, none⟩)] W fun e w' => e = .returned (.int .i64 ee) ∧ Below W.heap.size W w') := Lib.hid (fun W h => (rend_any w.heap.size st2 W h).mono (fun e w' h => ⟨by rw [h.1, hee], h.2.2⟩))
      replace hee := Lib.hid hee
      replace hr := Lib.hid hr
      replace hown := Lib.hid hown
      have hstop : ¬ ((k : Int) < (n : Int)) ∨ ((k : Int) < (n : Int) ∧ ¬ ev = 0) := by
        by_cases h : k < n
        · exact Or.inr ⟨by omega, fun h2 => hgo ⟨h, h2⟩⟩
        · exact Or.inl (by omega)
      replace hgo := Lib.hid hgo
      replace hev := Lib.hid hev
      generalize hlv : lays entK l = lv at kl hpe
      replace hlv := Lib.hid hlv
      rcases hstop with h1 | ⟨h1, h2⟩
      all_goals
        go_wp2_with fail
        refine kl.out.mono ?_
        rintro e W4 ⟨rfl, b4⟩
        have hr4 := Lib.hid (hr.out.below b4 hbl)
        have hown4 := Lib.hid (hown.out.kept (row := none) (Only.of_below b4 none) (by cases Value.ownBlock _ <;> simp))
        have hb4 := Lib.hid (hb.out.trans (b4.mono hzr))
        have hz4 : w.heap.size ≤ W4.heap.size := Nat.le_trans hzr b4.size
        clear b4
        cases lv with
        | none =>
          unfold laysV
          by_cases he0 : ee = 0
          · subst he0
            go_wp2_with fail
            refine (kend.out _ hr4.out).mono ?_
            rintro e W5 ⟨rfl, b5⟩
            have hb5 := Lib.hid (hb4.out.trans (b5.mono hz4))
            clear b5
            go_wp2_with fail
            go_ret2
            exact ParsePost.none_ (by rw [hpe.out, if_neg (fun h => by cases h.2)]) hb5.out
          · have hne : (ee != 0) = true := by simpa using he0
            replace he0 := Lib.hid he0
            go_wp2_with fail
            refine (kend.out _ hr4.out).mono ?_
            rintro e W5 ⟨rfl, b5⟩
            have hb5 := Lib.hid (hb4.out.trans (b5.mono hz4))
            clear b5
            go_wp2_with fail
            go_ret2
            exact ParsePost.none_ (by rw [hpe.out, if_neg (fun h => he0.out h.1)]) hb5.out
        | some bs =>
          unfold laysV
          obtain ⟨T, hT⟩ : ∃ T : ByteArray, T = ⟨bs.toArray⟩ := ⟨_, rfl⟩
          simp only
          rw [← hT]
          replace hT := Lib.hid hT
          by_cases he0 : ee = 0
          · subst he0
            by_cases hTs : T = s
            · subst hTs
              go_wp2_with fail
              refine (kend.out _ hr4.out).mono ?_
              rintro e W5 ⟨rfl, b5⟩
              have hb5 := Lib.hid (hb4.out.trans (b5.mono hz4))
              have hown5 := Lib.hid (hown4.out.kept (row := none) (Only.of_below b5 none) (by cases Value.ownBlock _ <;> simp))
              clear b5
              go_wp2_with fail
              go_ret2
              have e1 : rparseS entK T.data.toList = some l := by rw [hpe.out, if_pos ⟨trivial, by rw [hT.out]⟩]
              refine ⟨A, l.length, c, ?_, ?_, ?_, hb5.out⟩
              · rw [e1]; rfl
              · rw [e1]; exact own_less hown5.out (by omega)
              · rw [e1]; rfl
            · have hT1 : ¬ T.toList = s.toList := fun h => hTs (by rw [ByteArray.ext_iff, ← Array.toList_inj]; simpa [Lib.toList_data] using h)
              have hT2 : (T.toList == s.toList) = false := by simpa using hT1
              replace hTs := Lib.hid hTs
              go_wp2_with fail
              refine (kend.out _ hr4.out).mono ?_
              rintro e W5 ⟨rfl, b5⟩
              have hb5 := Lib.hid (hb4.out.trans (b5.mono hz4))
              clear b5
              go_wp2_with fail
              go_ret2
              exact ParsePost.none_ (by rw [hpe.out, if_neg (fun h => hTs.out (by have h := h.2; injection h with h; rw [hT.out, h]))]) hb5.out
          · have hne : (ee != 0) = true := by simpa using he0
            replace he0 := Lib.hid he0
            go_wp2_with fail
            refine (kend.out _ hr4.out).mono ?_
            rintro e W5 ⟨rfl, b5⟩
            have hb5 := Lib.hid (hb4.out.trans (b5.mono hz4))
            clear b5
            go_wp2_with fail
            go_ret2
            exact ParsePost.none_ (by rw [hpe.out, if_neg (fun h => he0.out h.1)]) hb5.out

set_option maxRecDepth 100000 in
set_option maxHeartbeats 8000000 in
theorem snp_rparse (s : ByteArray) (w : World) (hs : s.size ≤ 140737488355328) :
    Calls Tryz.prog 20 #[.string s] w (ParsePost w 67 5 snpC (rparseS snpK s.data.toList)) := by
  obtain ⟨i0, hi, hz0, hz1, hz2'⟩ := info_parts info_Snap
  have hr0 := IsRf.new w s (by omega)
  have hb0 : Below w.heap.size w (w.alloc (.cells #[.string s, .int .i64 0, .int .i64 0] 59)) := (Below.refl _ _).alloc (Nat.le_refl _) _
  have hzw : (w.alloc (.cells #[.string s, .int .i64 0, .int .i64 0] 59)).heap.size = w.heap.size + 1 := by simp
  replace hb0 := Lib.hid hb0
  replace hzw := Lib.hid hzw
  go_enter Tryz.func20, Tryz.ntmps20
  go_wp2_with fail
  generalize (w.alloc (.cells #[.string s, .int .i64 0, .int .i64 0] 59)) = W1 at hr0 hb0 hzw ⊢
  have hrb := hr0.lt
  have hcall := Lib.hid (rf_any w.heap.size _ 4096 W1 hr0)
  obtain ⟨hla, hz, hnz⟩ := rdNum_latch 4096 (s.data.toList, 0)
  have hpi := Lib.hid (fun n p hn hp => rparse_is (K := snpK) (s := s.data.toList) (n := n) (p := p) hn hp)
  obtain ⟨⟨⟨nI, en⟩, st1⟩, hrd⟩ : ∃ r, rdNum 4096 (s.data.toList, 0) = r := ⟨_, rfl⟩
  rw [hrd] at hla hz hnz hpi hcall
  simp only at hla hz hnz hpi
  have hnn : 0 ≤ nI ∧ nI ≤ 4096 := by
    by_cases h : en = 0
    · have := hz h; omega
    · have := hnz h; omega
  obtain ⟨hn0, hn1⟩ := hnn
  obtain ⟨n, rfl⟩ := Int.eq_ofNat_of_zero_le hn0
  replace hrd := Lib.hid hrd
  replace hr0 := Lib.hid hr0
  clear hla hz hnz
  refine hcall.out.mono ?_
  rintro e W2 ⟨rfl, hr2, g2⟩
  have hb2 : Below w.heap.size w W2 := hb0.out.trans (Only.toBelow g2 (Nat.le_refl _) (by omega))
  have hB2 : w.heap.size < W2.heap.size := hr2.lt
  clear g2 hcall hr0 hb0
  have hr3 := hr2.below ((Below.refl W2.heap.size W2).alloc (Nat.le_refl _) (.cells #[] 67)) hr2.lt
  have hb3 := hb2.alloc (Nat.le_of_lt hB2) (.cells #[] 67)
  have hown0 := own_empty W2 67 5
  have hB3 : w.heap.size + 1 ≤ W2.heap.size := hB2
  replace hr3 := Lib.hid hr3
  replace hb3 := Lib.hid hb3
  replace hown0 := Lib.hid hown0
  clear hr2 hb2
  go_wp2_with fail
  have hW3z : (W2.alloc (.cells #[] 67)).heap.size = W2.heap.size + 1 := by simp
  generalize W2.alloc (.cells #[] 67) = W3 at hr3 hb3 hown0 hW3z ⊢
  replace hW3z := Lib.hid (show W2.heap.size ≤ W3.heap.size by omega)
  generalize W2.heap.size = B at hown0 hB2 hB3 hW3z ⊢
  go_loopw [7, 8] (fun v i wr => ∃ (k : Nat) (l : List Snp) (st2 : Rd), k ≤ n ∧ i = .int .i64 (k : Int) ∧ l.length = k ∧ rdsR snpK.rread k st1 = (l, st2) ∧ (∀ x ∈ l, snpN x) ∧
    wr.ownsRow B 67 5 v l.length (l.flatMap snpC) ∧ IsRf wr w.heap.size st2 ∧ Below w.heap.size w wr ∧ B ≤ wr.heap.size) (fun _ i _ => n - (intOf i).toNat)
  case atStart => exact ⟨0, [], st1, Nat.zero_le _, rfl, rfl, rfl, by simp, hown0.out, hr3.out, hb3.out, hW3z.out⟩
  case round =>
    obtain ⟨k, l, st2, hk, rfl, hll, hrds, hbig, hown, hr, hb, hBr⟩ := hrel
    have hce := rf_cell2 hr
    have hbl := hr.lt
    have hob := Lib.hid (show ∀ j, u7.ownBlock = some j → B ≤ j ∧ j < wr.heap.size from hown.lt)
    replace hbig := Lib.hid hbig
    replace hrds := Lib.hid hrds
    replace hll := Lib.hid hll
    replace hb := Lib.hid hb
    have hzr : w.heap.size ≤ wr.heap.size := Nat.le_of_lt hbl
    obtain ⟨ev, hev⟩ : ∃ ev, st2.2 = ev := ⟨_, rfl⟩
    rw [hev] at hce
    by_cases hgo : k < n ∧ ev = 0
    · obtain ⟨hlt, rfl⟩ := hgo
      have hkn : (k : Int) < (n : Int) := by omega
      have hst := Lib.hid (rdsR_step snpK.rread hrds.out hev)
      have hxb := Lib.hid (snp_n st2)
      replace hev := Lib.hid hev
      have hw := WayR.start hr 67 ⟨snpC snpK.zero⟩
      clear hr
      replace hown := Lib.hid hown
      replace hw := Lib.hid hw
      go_wp2_with fail
      refine (rtext_any w.heap.size _ 16 _ hw.out.1).mono ?_
      rintro e y0 ⟨rfl, h1, g1⟩
      replace hw := Lib.hid (hw.out.read h1 g1)
      clear h1 g1
      have c0 := hw.out.2.1.cell 0
      have f0 := hw.out.2.1.free 0
      go_wp2_with fail
      replace hw := Lib.hid (hw.out.put 0 (.string ⟨(rdText 16 st2).1.1.toArray⟩))
      refine (rf_any w.heap.size _ 4611686018427387904 _ hw.out.1).mono ?_
      rintro e y1 ⟨rfl, h1, g1⟩
      replace hw := Lib.hid (hw.out.read h1 g1)
      clear h1 g1 f0 c0
      have c1 := hw.out.2.1.cell 1
      have f1 := hw.out.2.1.free 1
      go_wp2_with fail
      replace hw := Lib.hid (hw.out.put 1 (.int .i64 (rdNum 4611686018427387904 (rdText 16 st2).2).1.1))
      refine (rf_any w.heap.size _ 4611686018427387904 _ hw.out.1).mono ?_
      rintro e y2 ⟨rfl, h1, g1⟩
      replace hw := Lib.hid (hw.out.read h1 g1)
      clear h1 g1 f1 c1
      have c2 := hw.out.2.1.cell 2
      have f2 := hw.out.2.1.free 2
      go_wp2_with fail
      replace hw := Lib.hid (hw.out.put 2 (.int .i64 (rdNum 4611686018427387904 (rdNum 4611686018427387904 (rdText 16 st2).2).2).1.1))
      refine (rf_any w.heap.size _ 4611686018427387904 _ hw.out.1).mono ?_
      rintro e y3 ⟨rfl, h1, g1⟩
      replace hw := Lib.hid (hw.out.read h1 g1)
      clear h1 g1 f2 c2
      have c3 := hw.out.2.1.cell 3
      have f3 := hw.out.2.1.free 3
      go_wp2_with fail
      replace hw := Lib.hid (hw.out.put 3 (.int .i64 (rdNum 4611686018427387904 (rdNum 4611686018427387904 (rdNum 4611686018427387904 (rdText 16 st2).2).2).2).1.1))
      refine (rf_any w.heap.size _ 4611686018427387904 _ hw.out.1).mono ?_
      rintro e y4 ⟨rfl, h1, g1⟩
      replace hw := Lib.hid (hw.out.read h1 g1)
      clear h1 g1 f3 c3
      have c4 := hw.out.2.1.cell 4
      have f4 := hw.out.2.1.free 4
      go_upto_region 18 with fail
      have q5 : WayR wr (y4.setCell ⟨wr.heap.size, 4, none⟩ (.int .i64 (rdNum 4611686018427387904 (rdNum 4611686018427387904 (rdNum 4611686018427387904 (rdNum 4611686018427387904 (rdText 16 st2).2).2).2).2).1.1)) w.heap.size wr.heap.size 67 ⟨snpC (snpK.rread st2).1⟩ (snpK.rread st2).2 := hw.out.put 4 (.int .i64 (rdNum 4611686018427387904 (rdNum 4611686018427387904 (rdNum 4611686018427387904 (rdNum 4611686018427387904 (rdText 16 st2).2).2).2).2).1.1)
      clear hw c4 f4
      have hst' := hst
      clear hst
      generalize (snpK.rread st2).2 = st3 at q5 hst'
      generalize (y4.setCell ⟨wr.heap.size, 4, none⟩ (.int .i64 (rdNum 4611686018427387904 (rdNum 4611686018427387904 (rdNum 4611686018427387904 (rdNum 4611686018427387904 (rdText 16 st2).2).2).2).2).1.1)) = w5 at q5 ⊢
      generalize hxx : (snpK.rread st2).1 = x at q5 hst' hxb
      clear hxx
      have hs5 : wr.heap.size ≤ w5.heap.size := q5.2.2.1.size
      have hown5 := hown.out.kept q5.2.2.1 (Or.inr (fun e => by have := (hob.out _ e).1; omega))
      have cx0 : w5.cell? ⟨wr.heap.size, 0, none⟩ = some (.string x.name) := q5.2.1.cell 0
      have cx1 : w5.cell? ⟨wr.heap.size, 1, none⟩ = some (.int .i64 x.id) := q5.2.1.cell 1
      have cx2 : w5.cell? ⟨wr.heap.size, 2, none⟩ = some (.int .i64 x.plane) := q5.2.1.cell 2
      have cx3 : w5.cell? ⟨wr.heap.size, 3, none⟩ = some (.int .i64 x.root) := q5.2.1.cell 3
      have cx4 : w5.cell? ⟨wr.heap.size, 4, none⟩ = some (.int .i64 x.size) := q5.2.1.cell 4
      have hb5 := Lib.hid (hb.out.trans (Only.toBelow q5.2.2.1 (Nat.le_refl _) hzr))
      replace q5 := Lib.hid q5
      clear hown
      go_wp2_with (first
        | (at_builtin; refine wpList_append_own _ rfl (.tmp 81) (.tmp 83) _ rfl B 67 i0 (snpV snpK.zero) 5 48 Tryz.underlying41 hi hz0 hz1 hz2' rfl (by decide) u7 l.length _ rfl (hown5.alloc _) ⟨w5.heap.size, 0, none⟩ 1 1 (snpC x) rfl rfl (cells_new _ _ _) (one_snp x) (by rw [hll.out]; unfold maxLen; omega) (by rw [hll.out]; omega) (by simp; omega) ?_))
      intro v4 w4 hown4 hg4 _
      have hsz4 := hg4.size
      have hb4 : Below w.heap.size w w4 := (hb5.out.alloc (by omega) _).trans ⟨hg4.os, hg4.tape, hg4.output, hg4.size, fun j hj => hg4.block j (by simp; omega) (fun e => by have := (hob.out j e.symm).1; omega)⟩
      have hr4 : IsRf w4 w.heap.size st3 := (q5.out.1.below ((Below.refl w5.heap.size w5).alloc (Nat.le_refl _) _) q5.out.1.lt).grown hg4 (fun e => by have := (hob.out _ e.symm).1; omega)
      have hB4 : B ≤ w4.heap.size := by simp at hsz4; omega
      replace hb4 := Lib.hid hb4
      replace hr4 := Lib.hid hr4
      replace hown4 := Lib.hid hown4
      replace hB4 := Lib.hid hB4
      clear hg4 hown5 hsz4
      go_wp2_with fail
      go_roundw
      case rel =>
        refine ⟨k + 1, l ++ [x], st3, by omega, by go_num, by rw [List.length_append, hll.out]; rfl, hst'.out, ?_, ?_, hr4.out, hb4.out, hB4.out⟩
        · intro y hy
          rcases List.mem_append.1 hy with hy | hy
          · exact hbig.out y hy
          · rw [List.mem_singleton.1 hy]; exact hxb.out
        · rw [List.length_append, List.flatMap_append, List.flatMap_singleton]
          exact hown4.out
      case measure => simp [intOf]; omega
    · have hpe : rparseS snpK s.data.toList = if rdEnd st2 = 0 ∧ lays snpK l = some s.data.toList then some l else none := by
        have h := hpi.out n (l, st2) rfl (by
          by_cases hkn : k = n
          · rw [← hkn]; exact hrds.out
          · have h0 : ¬ st2.2 = 0 := by rw [hev]; omega
            have := rdsR_stop snpK.rread hrds.out h0 (n - k)
            rwa [show k + (n - k) = n by omega] at this)
        simpa using h
      obtain ⟨A, c, rfl⟩ := own_slc hown
      have hl4 : l.length ≤ 4096 := by rw [hll.out]; omega
      obtain ⟨ee, hee⟩ : ∃ ee, rdEnd st2 = ee := ⟨_, rfl⟩
      rw [hee] at hpe
      replace hpe := Lib.hid hpe
      have kl := Lib.hid (snp_rl A l.length c l wr (row_of_own hown) rfl hbig.out (by omega))
      have kend : Hid (∀ W : World, IsRf W w.heap.size st2 → Calls Tryz.prog 27 #[.pointer (some ⟨w.heap.size, 0, none⟩)] W fun e w' => e = .returned (.int .i64 ee) ∧ Below W.heap.size W w') := Lib.hid (fun W h => (rend_any w.heap.size st2 W h).mono (fun e w' h => ⟨by rw [h.1, hee], h.2.2⟩))
      replace hee := Lib.hid hee
      replace hr := Lib.hid hr
      replace hown := Lib.hid hown
      have hstop : ¬ ((k : Int) < (n : Int)) ∨ ((k : Int) < (n : Int) ∧ ¬ ev = 0) := by
        by_cases h : k < n
        · exact Or.inr ⟨by omega, fun h2 => hgo ⟨h, h2⟩⟩
        · exact Or.inl (by omega)
      replace hgo := Lib.hid hgo
      replace hev := Lib.hid hev
      generalize hlv : lays snpK l = lv at kl hpe
      replace hlv := Lib.hid hlv
      rcases hstop with h1 | ⟨h1, h2⟩
      all_goals
        go_wp2_with fail
        refine kl.out.mono ?_
        rintro e W4 ⟨rfl, b4⟩
        have hr4 := Lib.hid (hr.out.below b4 hbl)
        have hown4 := Lib.hid (hown.out.kept (row := none) (Only.of_below b4 none) (by cases Value.ownBlock _ <;> simp))
        have hb4 := Lib.hid (hb.out.trans (b4.mono hzr))
        have hz4 : w.heap.size ≤ W4.heap.size := Nat.le_trans hzr b4.size
        clear b4
        cases lv with
        | none =>
          unfold laysV
          by_cases he0 : ee = 0
          · subst he0
            go_wp2_with fail
            refine (kend.out _ hr4.out).mono ?_
            rintro e W5 ⟨rfl, b5⟩
            have hb5 := Lib.hid (hb4.out.trans (b5.mono hz4))
            clear b5
            go_wp2_with fail
            go_ret2
            exact ParsePost.none_ (by rw [hpe.out, if_neg (fun h => by cases h.2)]) hb5.out
          · have hne : (ee != 0) = true := by simpa using he0
            replace he0 := Lib.hid he0
            go_wp2_with fail
            refine (kend.out _ hr4.out).mono ?_
            rintro e W5 ⟨rfl, b5⟩
            have hb5 := Lib.hid (hb4.out.trans (b5.mono hz4))
            clear b5
            go_wp2_with fail
            go_ret2
            exact ParsePost.none_ (by rw [hpe.out, if_neg (fun h => he0.out h.1)]) hb5.out
        | some bs =>
          unfold laysV
          obtain ⟨T, hT⟩ : ∃ T : ByteArray, T = ⟨bs.toArray⟩ := ⟨_, rfl⟩
          simp only
          rw [← hT]
          replace hT := Lib.hid hT
          by_cases he0 : ee = 0
          · subst he0
            by_cases hTs : T = s
            · subst hTs
              go_wp2_with fail
              refine (kend.out _ hr4.out).mono ?_
              rintro e W5 ⟨rfl, b5⟩
              have hb5 := Lib.hid (hb4.out.trans (b5.mono hz4))
              have hown5 := Lib.hid (hown4.out.kept (row := none) (Only.of_below b5 none) (by cases Value.ownBlock _ <;> simp))
              clear b5
              go_wp2_with fail
              go_ret2
              have e1 : rparseS snpK T.data.toList = some l := by rw [hpe.out, if_pos ⟨trivial, by rw [hT.out]⟩]
              refine ⟨A, l.length, c, ?_, ?_, ?_, hb5.out⟩
              · rw [e1]; rfl
              · rw [e1]; exact own_less hown5.out (by omega)
              · rw [e1]; rfl
            · have hT1 : ¬ T.toList = s.toList := fun h => hTs (by rw [ByteArray.ext_iff, ← Array.toList_inj]; simpa [Lib.toList_data] using h)
              have hT2 : (T.toList == s.toList) = false := by simpa using hT1
              replace hTs := Lib.hid hTs
              go_wp2_with fail
              refine (kend.out _ hr4.out).mono ?_
              rintro e W5 ⟨rfl, b5⟩
              have hb5 := Lib.hid (hb4.out.trans (b5.mono hz4))
              clear b5
              go_wp2_with fail
              go_ret2
              exact ParsePost.none_ (by rw [hpe.out, if_neg (fun h => hTs.out (by have h := h.2; injection h with h; rw [hT.out, h]))]) hb5.out
          · have hne : (ee != 0) = true := by simpa using he0
            replace he0 := Lib.hid he0
            go_wp2_with fail
            refine (kend.out _ hr4.out).mono ?_
            rintro e W5 ⟨rfl, b5⟩
            have hb5 := Lib.hid (hb4.out.trans (b5.mono hz4))
            clear b5
            go_wp2_with fail
            go_ret2
            exact ParsePost.none_ (by rw [hpe.out, if_neg (fun h => he0.out h.1)]) hb5.out
end Go.Proofs.YtaihpnmojiagnaaGreatDoor.Table

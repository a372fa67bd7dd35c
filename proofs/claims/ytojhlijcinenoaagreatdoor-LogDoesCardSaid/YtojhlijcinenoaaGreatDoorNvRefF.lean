/- The document's log: Append, Start. -/
import Derived.Test.YtojhlijcinenoaaGreatDoorNvRefE
import Derived.Test.YtojhlijcinenoaaGreatDoorLate
import Derived.Test.YtojhlijcinenoaaGreatDoorAppendRow
import Derived.Deep.AppendLies
import Derived.Deep.DeepCutAuto
import Derived.Deep.RegionHeld3
namespace Go.Proofs.YtojhlijcinenoaaGreatDoor.Nv
open Go Go.RowKit Go.Maps Mem Disk
/-- a list with one more, in new memory -/
structure AppR (w3 wx : World) (L : List ByteArray) (s : ByteArray) (A : Option Addr) (c : Nat) : Prop where
  row : wx.ownsRow w3.heap.size 9 1 (.slice A (L.length + 1) c) (L.length + 1) (L.map Value.string ++ [.string s])
  hb : Below w3.heap.size w3 wx
set_option maxRecDepth 100000 in
theorem cut_min (B : ByteArray) (i e : Nat) (he : e = min B.size (64 * i + 64)) : B.extract (64 * i) e = B.extract (64 * i) (64 * i + 64) := by
  subst he
  apply ByteArray.ext
  rw [ByteArray.data_extract, ByteArray.data_extract]
  apply Array.toList_inj.1
  rw [Array.toList_extract, Array.toList_extract, List.extract_eq_take_drop, List.extract_eq_take_drop]
  have hs : B.data.toList.length = B.size := rfl
  apply List.ext_getElem?
  intro j
  simp only [List.getElem?_take, List.getElem?_drop]
  by_cases hj : 64 * i + j < B.size
  · by_cases hj2 : j < 64
    · rw [if_pos (by omega), if_pos (by omega)]
    · rw [if_neg (by omega), if_neg (by omega)]
  · rw [List.getElem?_eq_none (by omega)]
    simp
section
variable {F G K : Nat → Prop} {w w' : World} {a b m : Nat} {v : Value} {l l' : Lg} {d d' : Dk}
set_option maxRecDepth 100000 in
theorem qpost_same (h : RL F w a b l d) (x : Int) (hb : Below w.heap.size w w') : QPost F w a b (l, d, x) (.returned (.int .i64 x)) w' := ⟨rfl, F, h.below hb, Keeps.of_below F hb, fun _ hi => Or.inl hi⟩
set_option maxRecDepth 100000 in
theorem RC.relist (h : RC F G w a b v l d) {H : Nat} {v2 : Value} {l2 : Lg} (ho : w'.ownsRow H 9 1 v2 l2.list.length (l2.list.map Value.string)) (hH : ∀ j, v2.ownBlock = some j → ¬ F j)
    (hB : Blk w' a 51 (rlc b v2 l2)) (kk : Keeps (fun j => j = a) w w') : RL (fun i => F i ∨ v2.ownBlock = some i) w' a b l2 d ∧ Keeps F w w' := by
  refine ⟨⟨G, v2, h.dk.keeps kk (fun i hi e => h.ga (e ▸ hi)), hB, own_base ho (Nat.zero_le _), Or.inl h.fa, fun j e => Or.inr e, fun i hi => Or.inl (h.fg i hi), h.ga, fun j e hg => hH j e (h.fg j hg), fun i hi => ?_⟩, kk.mono (fun i e => e ▸ h.fa)⟩
  rcases hi with hi | hi
  · exact Nat.lt_of_lt_of_le (h.lt i hi) kk.size
  · exact (ho.lt i hi).2
set_option maxRecDepth 100000 in
set_option maxHeartbeats 4000000 in
theorem rstart_any (h : RL F w a b l d) (hf : Fit d) (hn : NumTo m d) (hm : m ≤ 900000) (g : Int) :
    Calls Tryz.prog 8 #[.pointer (some ⟨a, 0, none⟩), .int .i64 g] w (QPost F w a b (startL l d g)) := by
  have c1 : w.cell? ⟨a, 1, none⟩ = some (.int .i64 (l.gen : Int)) := by obtain ⟨_, _, hc⟩ := h; exact hc.cells.2.1
  have c3 : w.cell? ⟨a, 3, none⟩ = some (.bool l.dead) := by obtain ⟨_, _, hc⟩ := h; exact hc.cells.2.2.2
  unfold startL
  by_cases h1 : g ≤ l.gen
  · rw [if_pos (Or.inl h1)]
    have q1 : decide (g ≤ (l.gen : Int)) = true := decide_eq_true h1
    have fin := Lib.hid (qpost_same h 70 (Below.refl _ w))
    clear h hf hn h1
    go_enter Tryz.func8, Tryz.ntmps8
    go_wp2_with fail
    go_ret
    exact fin.out
  · have q1 : decide (g ≤ (l.gen : Int)) = false := decide_eq_false h1
    by_cases h2 : 1099511627776 < g
    · rw [if_pos (Or.inr h2)]
      have q2 : decide (1099511627776 < g) = true := decide_eq_true h2
      have fin := Lib.hid (qpost_same h 70 (Below.refl _ w))
      clear h hf hn h1 h2
      go_enter Tryz.func8, Tryz.ntmps8
      go_wp2_with fail
      go_ret
      exact fin.out
    · rw [if_neg (fun hh => hh.elim h1 h2)]
      have q2 : decide (1099511627776 < g) = false := decide_eq_false h2
      obtain ⟨gn, rfl⟩ := Int.eq_ofNat_of_zero_le (show 0 ≤ g by omega)
      have q3 : decide (gn ≤ l.gen) = false := decide_eq_false (by omega)
      have q4 : l.gen < gn := by omega
      have q5 : gn ≤ 1099511627776 := by omega
      clear h1 h2
      rcases Bool.eq_false_or_eq_true l.dead with hd | hd
      · rw [hd] at c3
        rw [if_pos hd]
        replace hd := Lib.hid hd
        have fin := Lib.hid (qpost_same h 2 (Below.refl _ w))
        clear h hf hn
        go_enter Tryz.func8, Tryz.ntmps8
        go_wp2_with fail
        go_ret
        exact fin.out
      · rw [hd] at c3
        rw [if_neg (by rw [hd]; decide), Int.toNat_natCast]
        replace hd := Lib.hid hd
        have kh := rheads_any h hf hn (by omega) gn 0 q5 (by decide)
        have hHl := headsL_ok (l := l) (d := d) (g := gn) (u := 0)
        generalize headsL l d gn 0 = HH at kh hHl ⊢
        clear h hf hn
        by_cases hq : HH.2.2 = 0
        · rw [if_neg (fun hh => hh hq)]
          have hHl1 := hHl hq
          have kh2 := kh.mono (fun e w' (hh : QPost _ _ _ _ HH e w') => And.intro (hh.1.trans (show Ending.returned (.int .i64 HH.2.2) = .returned (.int .i64 0) by rw [hq])) hh.2)
          replace kh := Lib.hid kh2
          clear kh2 hHl
          replace hq := Lib.hid hq
          replace hHl1 := Lib.hid hHl1
          go_enter Tryz.func8, Tryz.ntmps8
          go_wp2_with fail
          refine kh.out.mono ?_
          rintro en w5 ⟨rfl, F5, h5, k5, hF5⟩
          rw [hHl1.out] at h5
          obtain ⟨G5, v5, h5⟩ := h5
          obtain ⟨A5, c5, rfl⟩ := own_slice h5.row
          have e1 := h5.cells.2.1
          have e2 := h5.cells.2.2.1
          have f1 := h5.blk.free 1
          have f2 := h5.blk.free 2
          have k9 := ((Keeps.refl (fun j => j = a) w5).put (g := a) (Or.inl rfl) 1 (.int .i64 (gn : Int))).put (g := a) (Or.inl rfl) 2 (.slice none 0 0)
          have hB9 : Blk ((w5.setCell ⟨a, 1, none⟩ (.int .i64 (gn : Int))).setCell ⟨a, 2, none⟩ (.slice none 0 0)) a 51 (rlc b (.slice none 0 0) ⟨gn, [], l.dead⟩) := (h5.blk.put 1 (.int .i64 (gn : Int))).put 2 (.slice none 0 0)
          have fin := RC.relist (H := w5.heap.size) (v2 := .slice none 0 0) (l2 := ⟨gn, [], l.dead⟩) h5 ⟨rfl, Or.inl ⟨rfl, rfl⟩⟩ (fun j e => by cases e) hB9 k9
          have kk9 := k5.trans fin.2 hF5
          have hF9 : ∀ i, (F5 i ∨ (Value.slice none 0 0).ownBlock = some i) → F i ∨ w.heap.size ≤ i := fun i hi => hi.elim (hF5 i) (fun e => by cases e)
          have p9 := fin.1
          replace kk9 := Lib.hid kk9
          replace hF9 := Lib.hid hF9
          replace p9 := Lib.hid p9
          clear fin k9 hB9 h5 k5 hF5
          go_wp2_with fail
          go_ret
          exact ⟨by rw [hq.out]; rfl, _, p9.out, kk9.out, hF9.out⟩
        · rw [if_pos hq]
          have hq' : (HH.2.2 != 0) = true := by simpa using hq
          have hq2 : (HH.2.2 == 0) = false := by simpa using hq
          replace kh := Lib.hid kh
          clear hq hHl
          go_enter Tryz.func8, Tryz.ntmps8
          go_wp2_with fail
          refine kh.out.mono ?_
          rintro en w5 ⟨rfl, F5, h5, k5, hF5⟩
          replace h5 := Lib.hid h5
          replace k5 := Lib.hid k5
          replace hF5 := Lib.hid hF5
          go_wp2_with fail
          go_ret
          exact ⟨rfl, _, h5.out, k5.out, hF5.out⟩
set_option maxRecDepth 100000 in
set_option maxHeartbeats 16000000 in
theorem rappend_any (h : RL F w a b l d) (hf : Fit d) (hn : NumTo m d) (hm : m ≤ 900000) (hz : (enc l.list).size ≤ 64 * halfD d) (hll : l.list.length ≤ 1048575) (hgen : l.gen ≤ 1099511627776) (r : ByteArray) :
    Calls Tryz.prog 6 #[.pointer (some ⟨a, 0, none⟩), .string r] w (QPost F w a b (appendL l d r)) := by
  have hfew := hf.few
  have hH : halfD d ≤ 8192 := by unfold halfD; omega
  unfold appendL
  by_cases h1 : 1300 < r.size
  · rw [if_pos h1]
    have q1 : decide (1300 < (r.size : Int)) = true := decide_eq_true (by omega)
    have fin := Lib.hid (qpost_same h 71 (Below.refl _ w))
    clear h hf hn
    go_enter Tryz.func6, Tryz.ntmps6
    go_wp2_with fail
    go_ret
    exact fin.out
  · rw [if_neg h1]
    have q1 : decide (1300 < (r.size : Int)) = false := decide_eq_false (by omega)
    have hr13 : r.size ≤ 1300 := by omega
    clear h1
    have c3 : w.cell? ⟨a, 3, none⟩ = some (.bool l.dead) := by obtain ⟨_, _, hc⟩ := h; exact hc.cells.2.2.2
    rcases Bool.eq_false_or_eq_true l.dead with hd | hd
    · rw [hd] at c3
      rw [if_pos hd]
      replace hd := Lib.hid hd
      have fin := Lib.hid (qpost_same h 2 (Below.refl _ w))
      clear h hf hn
      go_enter Tryz.func6, Tryz.ntmps6
      go_wp2_with fail
      go_ret
      exact fin.out
    · rw [hd] at c3
      rw [if_neg (by rw [hd]; decide)]
      replace hd := Lib.hid hd
      have kr := rroom_any h hf (by omega) (by omega)
      by_cases h3 : roomL l d < 2 + (r.size : Int)
      · rw [if_pos h3]
        have q3 : decide (roomL l d < 2 + (r.size : Int)) = true := decide_eq_true h3
        have fin := Lib.hid (fun w' (hb : Below w.heap.size w w') => qpost_same h 72 hb)
        generalize roomL l d = RM at kr q3
        replace kr := Lib.hid kr
        clear h hf hn h3
        go_enter Tryz.func6, Tryz.ntmps6
        go_wp2_with fail
        refine kr.out.mono ?_
        rintro en w1 ⟨rfl, b1⟩
        replace b1 := Lib.hid b1
        go_wp2_with fail
        go_ret
        exact fin.out _ b1.out
      · rw [if_neg h3]
        have q3 : decide (roomL l d < 2 + (r.size : Int)) = false := decide_eq_false h3
        have hroom : (enc l.list).size + 2 + r.size ≤ 64 * halfD d := by unfold roomL at h3; omega
        obtain ⟨fs, hfs⟩ : ∃ fs, fs = firstL l.gen d := ⟨_, rfl⟩
        obtain ⟨q, hqd⟩ : ∃ q, q = l.gen % 2 := ⟨_, rfl⟩
        have hq2 : q = 0 ∨ q = 1 := by omega
        obtain ⟨H, hHd⟩ : ∃ H, H = halfD d := ⟨_, rfl⟩
        obtain ⟨M, hM⟩ : ∃ M, M = q * H := ⟨_, rfl⟩
        have hMb : M ≤ 8192 := by rw [hM]; rcases hq2 with e | e <;> rw [e] <;> omega
        have hfs1 : fs = 1 + M := by rw [hfs, hM, hqd, hHd]; rfl
        have hfsb : fs ≤ 8193 := by omega
        have g1 := Lib.hid (show (l.gen : Int).tmod 2 = (q : Int) by rw [hqd]; rfl)
        have g2 := Lib.hid (show IntKind.i64.wrap ((q : Int) * (H : Int)) = (M : Int) by rw [← Int.natCast_mul, ← hM]; exact IntWalk.i64_in _ (by omega))
        have g3 := Lib.hid (show IntKind.i64.wrap (1 + (M : Int)) = (fs : Int) by rw [hfs1, IntWalk.i64_in _ (by omega)]; omega)
        obtain ⟨B, hB⟩ : ∃ B, B = enc (l.list ++ [r]) := ⟨_, rfl⟩
        have hBs : B.size = (enc l.list).size + 2 + r.size := by rw [hB, enc_snoc, ByteArray.size_append, enc1_size]; omega
        unfold appendTo
        rw [← hB, ← hfs]
        obtain ⟨WL, hWL⟩ : ∃ WL, WL = wloop l fs B (many B - (enc l.list).size / 64) ((enc l.list).size / 64) d := ⟨_, rfl⟩
        rw [← hWL]
        obtain ⟨T, hT⟩ : ∃ T, T = laidOut l r B.size WL := ⟨_, rfl⟩
        rw [← hT]
        obtain ⟨f0, hf0⟩ : ∃ f0, f0 = (enc l.list).size / 64 := ⟨_, rfl⟩
        have hfq : ((enc l.list).size : Int) / 64 = (f0 : Int) := by omega
        have hfB : 64 * f0 ≤ B.size := by omega
        rw [← hf0] at hWL
        obtain ⟨G0, v0, hc0⟩ := h
        obtain ⟨A, c, rfl⟩ := own_slice hc0.row
        have kb0 := Lib.hid (fun W (hb : Below w.heap.size w W) => rbytes_any A l.list.length c l.list W ((Row.of_own hc0.row).below hb) (by omega) (by omega))
        have c2 := Lib.hid (fun W (hb : Below w.heap.size w W) => (hb.cell (p := ⟨a, 2, none⟩) hc0.blk.lt).trans hc0.cells.2.2.1)
        have kb1 := Lib.hid (fun W A1 c1 (hr : Row W A1 (l.list.length + 1) (l.list.map Value.string ++ [.string r])) => show Calls Tryz.prog 43 #[.slice A1 (l.list.length + 1) c1] W fun e w' => e = .returned (.string B) ∧ Below W.heap.size W w' from by
          rw [hB]
          refine rbytes_any A1 (l.list.length + 1) c1 (l.list ++ [r]) W (by rw [List.map_append]; exact hr) (by rw [← hB]; omega) (by omega))
        obtain ⟨E, hE⟩ : ∃ E, E = enc l.list := ⟨_, rfl⟩
        rw [← hE] at hz hroom hBs hfq kb0
        have hEz : E.size ≤ 524288 := by omega
        have hBz : B.size ≤ 524288 := by omega
        have hmany : many B ≤ 8193 := by unfold many; omega
        have hfm : f0 ≤ many B := by unfold many; omega
        have hf14 : f0 ≤ 8192 := by omega
        replace hmany := Lib.hid hmany
        replace hfm := Lib.hid hfm
        replace hB := Lib.hid hB
        replace hBs := Lib.hid hBs
        replace hWL := Lib.hid hWL
        replace hT := Lib.hid hT
        replace hE := Lib.hid hE
        replace hf0 := Lib.hid hf0
        replace kr := Lib.hid kr
        replace hc0 := Lib.hid hc0
        replace hfs := Lib.hid hfs
        replace hfs1 := Lib.hid hfs1
        replace hqd := Lib.hid hqd
        replace hHd := Lib.hid hHd
        replace hM := Lib.hid hM
        clear h3 hroom hq2
        generalize roomL l d = RM at kr q3
        obtain ⟨iT, hinf, hz0, hz1, hz2⟩ := info_parts infoStr_
        obtain ⟨iU, huf, hu0, hu1, hu2⟩ := info_parts infoU8
        go_enter Tryz.func6, Tryz.ntmps6
        go_wp2_with fail
        refine kr.out.mono ?_
        rintro en w1 ⟨rfl, b1⟩
        have c2w := c2.out _ b1
        go_wp2_with fail
        refine (kb0.out _ b1).mono ?_
        rintro en w2 ⟨rfl, b2⟩
        have hb2 := Lib.hid (b1.trans (b2.mono b1.size))
        have hBk := Lib.hid (hc0.out.blk.below hb2.out hc0.out.blk.lt)
        have row2 := Lib.hid (own_keeps hc0.out.row (Keeps.of_below (fun _ => False) hb2.out) (fun _ _ h => h))
        clear c2w b1 b2 kr
        go_upto_region 8 with fail
        have own0 : (w2.alloc (.cells #[] 9)).ownsRow w2.heap.size 9 1 (.slice (some ⟨w2.heap.size, 0, none⟩) 0 0) 0 [] := World.ownsRow_made w2 #[] 0 (Nat.le_refl _) (by decide) rfl
        have bb0 : Below w2.heap.size w2 (w2.alloc (.cells #[] 9)) := (Below.refl _ w2).alloc (Nat.le_refl _) (.cells #[] 9)
        have rowX := (Row.of_own row2.out).below bb0
        have cX : (w2.alloc (.cells #[] 9)).cell? ⟨a, 2, none⟩ = some (.slice A l.list.length c) := (hBk.out.alloc (.cells #[] 9)).cell 2
        go_wp2_with (first
          | (at_builtin; refine wpList_append_row _ (.tmp 31) (.tmp 35) _ rfl w2.heap.size 9 iT (.string ⟨#[]⟩) 16 Tryz.underlying45 hinf hz0 hz1 hz2 rfl (.slice (some ⟨w2.heap.size, 0, none⟩) 0 0) 0 [] rfl own0 A l.list.length c (l.list.map Value.string) rfl rowX (fun u hu => by obtain ⟨_, _, rfl⟩ := List.mem_map.1 hu; rfl) (by unfold maxLen; omega) (by omega) (by simp) (by rfl) ?_; intro v8 w8 o8 g8 _; rw [Nat.zero_add, List.nil_append] at o8; obtain ⟨A8, c8, rfl⟩ := own_slice o8; have bb8 := bb0.grown g8 bb0.size (fun j e => (own0.lt j e).1); have o8a := o8.alloc (.cells #[.string r] 9); have bb9 := bb8.alloc bb8.size (.cells #[.string r] 9))
          | (at_builtin; refine wpList_append_own _ rfl (.tmp 36) (.tmp 38) _ rfl w2.heap.size 9 iT (.string ⟨#[]⟩) 1 16 Tryz.underlying45 hinf hz0 hz1 hz2 rfl (by decide) (.slice A8 l.list.length c8) l.list.length _ rfl o8a ⟨w8.heap.size, 0, none⟩ 1 1 [.string r] rfl rfl (cell_one_new _ _ _) (by simp [Value.oneCell']) (by unfold maxLen; omega) (by omega) bb9.size ?_; intro v9 wc o9 g9 _; obtain ⟨A1, c1, rfl⟩ := own_slice o9; have ap : AppR w2 wc l.list r A1 c1 := ⟨o9, bb9.grown g9 bb9.size (fun j e => (o8a.lt j e).1)⟩; have hbc := hb2.out.trans (ap.hb.mono hb2.out.size); have kb9 := Lib.hid (kb1.out wc A1 c1 (Row.of_own ap.row)); replace ap := Lib.hid ap; replace hbc := Lib.hid hbc; clear o9 g9 o8a bb9 bb8 g8 o8 cX rowX bb0 own0))
        clear hBk row2 kb1
        refine kb9.out.mono ?_
        rintro en w3 ⟨rfl, b3⟩
        have hb3 := hbc.out.trans (b3.mono hbc.out.size)
        have row3 := Lib.hid (own_keeps ap.out.row (Keeps.of_below (fun _ => False) b3) (fun _ _ h => h))
        have h23 : w2.heap.size ≤ w3.heap.size := Nat.le_trans ap.out.hb.size b3.size
        have st := Lib.hid (show ∃ F', RL F' w3 a b l d ∧ Keeps F w3 w3 ∧ ∀ i, F' i → F i ∨ w3.heap.size ≤ i from ⟨F, (hc0.out.rl).below hb3, Keeps.refl F w3, fun _ hi => Or.inl hi⟩)
        replace hb3 := Lib.hid hb3
        clear kb9 b3 hbc ap
        go_wp2_with fail
        go_loopw [8] (fun t wr => ∃ (i : Nat) (d2 : Dk), f0 ≤ i ∧ i ≤ many B ∧ t = .int .i64 (i : Int) ∧ (∃ F', RL F' wr a b l d2 ∧ Keeps F w3 wr ∧ ∀ i, F' i → F i ∨ w3.heap.size ≤ i) ∧ Fit d2 ∧ NumTo (m + (i - f0)) d2 ∧ d2.stays.length = d.stays.length ∧ WL = wloop l fs B (many B - i) i d2) (fun t _ => many B - (intOf t).toNat)
        case atStart => exact ⟨f0, d, Nat.le_refl _, hfm.out, rfl, st.out, hf, by simpa using hn, rfl, hWL.out⟩
        case round =>
          clear st
          obtain ⟨i, d2, hi0, hi1, rfl, ⟨F2, hp, kk, hF2⟩, hf2, hn2', hlen, hWi⟩ := hrel
          have hi13 : i ≤ 8193 := Nat.le_trans hi1 hmany.out
          replace hp := Lib.hid hp
          replace kk := Lib.hid kk
          replace hF2 := Lib.hid hF2
          by_cases hlt : 64 * i < B.size
          · have qlt : decide (64 * (i : Int) < (B.size : Int)) = true := decide_eq_true (by omega)
            have hk : many B - i = (many B - (i + 1)) + 1 := by unfold many; omega
            have hck := ck_size B i
            obtain ⟨nn, hnn⟩ : ∃ nn, nn = min (B.size - 64 * i) 64 := ⟨_, rfl⟩
            rw [← hnn] at hck
            obtain ⟨e, he⟩ : ∃ e, e = min B.size (64 * i + 64) := ⟨_, rfl⟩
            have hmin : min (B.size : Int) (64 * (i : Int) + 64) = (e : Int) := by omega
            have hen : e = 64 * i + nn := by omega
            obtain ⟨zz, hzz⟩ : ∃ zz, zz = 64 - nn := ⟨_, rfl⟩
            have hSC : B.extract (64 * i) (64 * i + 64) ++ zeroB_ zz = sect B i := by unfold sect; rw [hck, hzz]; rfl
            rw [← cut_min B i e he] at hSC hck
            obtain ⟨C, hC⟩ : ∃ C, C = B.extract (64 * i) e := ⟨_, rfl⟩
            rw [← hC] at hSC hck
            have hZz : (zeroB_ zz).size = zz := zeroB_size _
            obtain ⟨Z, hZe⟩ : ∃ Z, Z = zeroB_ zz := ⟨_, rfl⟩
            rw [← hZe] at hSC hZz
            obtain ⟨R, hR⟩ : ∃ R, R = writeD d2 ((fs + i : Nat) : Int) (C ++ Z) := ⟨_, rfl⟩
            have hstep := wloop_succ l fs B (many B - (i + 1)) i d2 (R := R) (by rw [hR, hSC])
            rw [hk, hstep] at hWi
            have hw := fun W G' (hd : IsRk G' W b d2) => rwrite_any hd (hn2'.num (by omega)) hf2 ((fs + i : Nat) : Int) (C ++ Z)
            rw [← hR] at hw
            have hfR : Fit R.1 := by rw [hR]; exact hf2.write _ _
            have hnR : NumTo (m + (i + 1 - f0)) R.1 := by rw [hR]; exact (hn2'.write _ _).mono (by omega)
            have hlR : R.1.stays.length = d.stays.length := by rw [hR, writeD_len, hlen]
            have kf : ∀ W F', RL F' W a b l d2 → Calls Tryz.prog 46 #[.pointer (some ⟨a, 0, none⟩)] W fun e w' => e = .returned (.int .i64 (H : Int)) ∧ w' = W := fun W F' hW => by
              have := rhalf_any hW hf2
              rw [show halfD d2 = H from by rw [hHd.out]; unfold halfD; rw [hlen]] at this
              exact this
            have e64 : 64 - (C.size : Int) = (zz : Int) := by omega
            have ho1 : ¬ 9223372036854775807 < C.size + Z.size := by omega
            have t1 : (64 * (i : Int)).toNat = 64 * i := by omega
            have t2 : 64 * (i : Int) ≤ (e : Int) := by omega
            have t3 : 0 ≤ 64 * (i : Int) := by omega
            have t4 : (e : Int) ≤ (B.size : Int) := by omega
            have s1 := Lib.hid (show IntKind.i64.wrap ((fs : Int) + (i : Int)) = ((fs + i : Nat) : Int) by rw [IntWalk.i64_in _ (by omega)]; simp)
            have hz64 : zz ≤ 64 := by omega
            replace hck := Lib.hid hck
            replace hZz := Lib.hid hZz
            replace hnn := Lib.hid hnn
            replace hzz := Lib.hid hzz
            replace he := Lib.hid he
            replace hen := Lib.hid hen
            replace hSC := Lib.hid hSC
            replace hR := Lib.hid hR
            replace kf := Lib.hid kf
            replace hlR := Lib.hid hlR
            replace hlen := Lib.hid hlen
            replace hk := Lib.hid hk
            clear hstep hn2' hf2
            by_cases hz : R.2 = 0
            · rw [if_neg (fun hh => hh hz)] at hWi
              rw [hz] at hw
              replace hWi := Lib.hid hWi
              replace hw := Lib.hid hw
              replace hz := Lib.hid hz
              go_upto_region 14 with fail
              clear t1 t2 t3 t4 hmin qlt
              rw [← hC]
              replace hC := Lib.hid hC
              obtain ⟨G4, v4, hp4⟩ := hp.out
              have hpA := hp4.below (drewX wr)
              obtain ⟨gg, hgg⟩ : ∃ gg, gg = wr.drew.heap.size := ⟨_, rfl⟩
              obtain ⟨W1, hmk, hom, hgm⟩ := run_make_full (P := Tryz.prog) (w := wr.drew) 0 71 5 iU (.int .u8 0) 1 Tryz.underlying71 huf hu0 hu1 .i64 .i64 zz (by rw [hu2]; omega) (by unfold maxLen; omega) (Nat.zero_le _)
              rw [← hgg] at hmk hom
              have hcv := zero_row hom
              rw [← hZe] at hcv
              replace hZe := Lib.hid hZe
              have b1 : Below wr.drew.heap.size wr.drew W1 := ⟨hgm.os, hgm.tape, hgm.output, hgm.size, fun k hk => hgm.block k hk (by simp)⟩
              have hpB := hpA.below b1
              have b01 : Below wr.heap.size wr W1 := (drewX wr).trans b1
              have kk3 := Lib.hid (kk.out.same (Keeps.of_below F b01))
              have d0 : wr.drew.cell? ⟨a, 0, none⟩ = some (.pointer (some ⟨b, 0, none⟩)) := hpA.cells.1
              have d1 : wr.drew.cell? ⟨a, 1, none⟩ = some (.int .i64 (l.gen : Int)) := hpA.cells.2.1
              have e0 : W1.cell? ⟨a, 0, none⟩ = some (.pointer (some ⟨b, 0, none⟩)) := hpB.cells.1
              have e1 : W1.cell? ⟨a, 1, none⟩ = some (.int .i64 (l.gen : Int)) := hpB.cells.2.1
              have g1' := g1.out
              have g2' := g2.out
              have g3' := g3.out
              have s1' := s1.out
              have szz : IntKind.i64.wrap (zz : Int) = (zz : Int) := IntWalk.i64_in _ (by omega)
              replace hpA := Lib.hid hpA
              replace hpB := Lib.hid hpB
              clear hp4 hom hgm b1 b01 hgg
              refine Late.start (S := fun W' => W'.cell? ⟨a, 0, none⟩ = some (.pointer (some ⟨b, 0, none⟩)) ∧ W'.cell? ⟨a, 1, none⟩ = some (.int .i64 (l.gen : Int))) (T := fun _ => True) (late := []) (by kernel_rfl) ?_
              have hS : wr.drew.cell? ⟨a, 0, none⟩ = some (.pointer (some ⟨b, 0, none⟩)) ∧ wr.drew.cell? ⟨a, 1, none⟩ = some (.int .i64 (l.gen : Int)) := ⟨d0, d1⟩
              have hS1 : W1.cell? ⟨a, 0, none⟩ = some (.pointer (some ⟨b, 0, none⟩)) ∧ W1.cell? ⟨a, 1, none⟩ = some (.int .i64 (l.gen : Int)) := ⟨e0, e1⟩
              have hT : True := trivial
              refine Late.take (i := 0) (oi := ?_) (v := ?_) ?_ (by kernel_rfl) (by kernel_rfl) (by kernel_rfl) (by kernel_rfl) ?_ ?_ (by assumption) (by assumption) ?_
              rotate_left 2
              focus (simp only [List.getElem?_toArray, List.getElem?_cons_zero]; rfl)
              focus exact fun _ _ _ h => h
              focus (refine Or.inl ⟨by rfl, ?_⟩; intro w hSw; (try dsimp only at hSw); go_split_ands; go_simp; try with_reducible rfl)
              try simp only [Act.put, List.setIfInBounds_toArray, List.set_cons_zero, List.set_cons_succ]
              refine Late.take (i := 1) (oi := ?_) (v := ?_) ?_ (by kernel_rfl) (by kernel_rfl) (by kernel_rfl) (by kernel_rfl) ?_ ?_ (by assumption) (by assumption) ?_
              rotate_left 2
              focus (simp only [List.getElem?_toArray, List.getElem?_cons_succ, List.getElem?_cons_zero]; rfl)
              focus exact fun _ _ _ h => h
              focus (refine Or.inl ⟨by rfl, ?_⟩; intro w hSw; (try dsimp only at hSw); go_split_ands; go_simp; try with_reducible rfl)
              try simp only [Act.put, List.setIfInBounds_toArray, List.set_cons_zero, List.set_cons_succ]
              refine Late.take (i := 2) (oi := ?_) (v := ?_) ?_ (by kernel_rfl) (by kernel_rfl) (by kernel_rfl) (by kernel_rfl) ?_ ?_ (by assumption) (by assumption) ?_
              rotate_left 2
              focus (simp only [List.getElem?_toArray, List.getElem?_cons_succ, List.getElem?_cons_zero]; rfl)
              focus exact fun _ _ _ h => h
              focus (refine Or.inl ⟨by rfl, ?_⟩; intro w hSw; (try dsimp only at hSw); go_split_ands; go_simp; try with_reducible rfl)
              try simp only [Act.put, List.setIfInBounds_toArray, List.set_cons_zero, List.set_cons_succ]
              refine Late.take (i := 3) (oi := ?_) (v := ?_) ?_ (by kernel_rfl) (by kernel_rfl) (by kernel_rfl) (by kernel_rfl) ?_ ?_ (by assumption) (by assumption) ?_
              rotate_left 2
              focus (simp only [List.getElem?_toArray, List.getElem?_cons_succ, List.getElem?_cons_zero]; rfl)
              focus exact fun _ _ _ h => h
              focus (refine Or.inl ⟨by rfl, ?_⟩; intro w hSw; (try dsimp only at hSw); go_split_ands; go_simp; try with_reducible rfl)
              try simp only [Act.put, List.setIfInBounds_toArray, List.set_cons_zero, List.set_cons_succ]
              refine Late.take (i := 4) (oi := ?_) (v := ?_) ?_ (by kernel_rfl) (by kernel_rfl) (by kernel_rfl) (by kernel_rfl) ?_ ?_ (by assumption) (by assumption) ?_
              rotate_left 2
              focus (simp only [List.getElem?_toArray, List.getElem?_cons_succ, List.getElem?_cons_zero]; rfl)
              focus exact fun _ _ _ h => h
              focus (refine Or.inl ⟨by rfl, ?_⟩; intro w hSw; (try dsimp only at hSw); go_split_ands; go_simp; try with_reducible rfl)
              try simp only [Act.put, List.setIfInBounds_toArray, List.set_cons_zero, List.set_cons_succ]
              refine Late.take (i := 5) (oi := ?_) (v := ?_) ?_ (by kernel_rfl) (by kernel_rfl) (by kernel_rfl) (by kernel_rfl) ?_ ?_ (by assumption) (by assumption) ?_
              rotate_left 2
              focus (simp only [List.getElem?_toArray, List.getElem?_cons_succ, List.getElem?_cons_zero]; rfl)
              focus exact fun _ _ _ h => h
              focus (refine Or.inl ⟨by rfl, ?_⟩; intro w hSw; (try dsimp only at hSw); go_split_ands; go_simp; try with_reducible rfl)
              try simp only [Act.put, List.setIfInBounds_toArray, List.set_cons_zero, List.set_cons_succ]
              refine Late.take (i := 6) (oi := ?_) (v := ?_) ?_ (by kernel_rfl) (by kernel_rfl) (by kernel_rfl) (by kernel_rfl) ?_ ?_ (by assumption) (by assumption) ?_
              rotate_left 2
              focus (simp only [List.getElem?_toArray, List.getElem?_cons_succ, List.getElem?_cons_zero]; rfl)
              focus exact fun _ _ _ h => h
              focus (refine Or.inl ⟨by rfl, ?_⟩; intro w hSw; (try dsimp only at hSw); go_split_ands; go_simp; try with_reducible rfl)
              try simp only [Act.put, List.setIfInBounds_toArray, List.set_cons_zero, List.set_cons_succ]
              refine Late.take (i := 7) (oi := ?_) (v := ?_) ?_ (by kernel_rfl) (by kernel_rfl) (by kernel_rfl) (by kernel_rfl) ?_ ?_ (by assumption) (by assumption) ?_
              rotate_left 2
              focus (simp only [List.getElem?_toArray, List.getElem?_cons_succ, List.getElem?_cons_zero]; rfl)
              focus exact fun _ _ _ h => h
              focus (refine Or.inl ⟨by rfl, ?_⟩; intro w hSw; (try dsimp only at hSw); go_split_ands; go_simp; try with_reducible rfl)
              try simp only [Act.put, List.setIfInBounds_toArray, List.set_cons_zero, List.set_cons_succ]
              refine Late.take (i := 8) (oi := ?_) (v := ?_) ?_ (by kernel_rfl) (by kernel_rfl) (by kernel_rfl) (by kernel_rfl) ?_ ?_ (by assumption) (by assumption) ?_
              rotate_left 2
              focus (simp only [List.getElem?_toArray, List.getElem?_cons_succ, List.getElem?_cons_zero]; rfl)
              focus exact fun _ _ _ h => h
              focus (refine Or.inl ⟨by rfl, ?_⟩; intro w hSw; (try dsimp only at hSw); go_split_ands; go_simp; try with_reducible rfl)
              try simp only [Act.put, List.setIfInBounds_toArray, List.set_cons_zero, List.set_cons_succ]
              refine Late.take (i := 9) (oi := ?_) (v := ?_) ?_ (by kernel_rfl) (by kernel_rfl) (by kernel_rfl) (by kernel_rfl) ?_ ?_ (by assumption) (by assumption) ?_
              rotate_left 2
              focus (simp only [List.getElem?_toArray, List.getElem?_cons_succ, List.getElem?_cons_zero]; rfl)
              focus exact fun _ _ _ h => h
              focus (refine Or.inl ⟨by rfl, ?_⟩; intro w hSw; (try dsimp only at hSw); go_split_ands; go_simp; try with_reducible rfl)
              try simp only [Act.put, List.setIfInBounds_toArray, List.set_cons_zero, List.set_cons_succ]
              refine Late.take (i := 10) (oi := ?_) (v := ?_) ?_ (by kernel_rfl) (by kernel_rfl) (by kernel_rfl) (by kernel_rfl) ?_ ?_ (by assumption) (by assumption) ?_
              rotate_left 2
              focus (simp only [List.getElem?_toArray, List.getElem?_cons_succ, List.getElem?_cons_zero]; rfl)
              focus exact fun _ _ _ h => h
              focus (refine Or.inl ⟨by rfl, ?_⟩; intro w hSw; (try dsimp only at hSw); go_split_ands; go_simp; try with_reducible rfl)
              try simp only [Act.put, List.setIfInBounds_toArray, List.set_cons_zero, List.set_cons_succ]
              refine Late.take (i := 14) (oi := ?_) (v := ?_) ?_ (by kernel_rfl) (by kernel_rfl) (by kernel_rfl) (by kernel_rfl) ?_ ?_ (by assumption) (by assumption) ?_
              rotate_left 2
              focus (simp only [List.getElem?_toArray, List.getElem?_cons_succ, List.getElem?_cons_zero]; rfl)
              focus exact fun _ _ _ h => h
              focus (refine Or.inl ⟨by rfl, ?_⟩; intro w hSw; (try dsimp only at hSw); go_split_ands; go_simp; try with_reducible rfl)
              try simp only [Act.put, List.setIfInBounds_toArray, List.set_cons_zero, List.set_cons_succ]
              refine Late.take (i := 16) (oi := ?_) (v := ?_) ?_ (by kernel_rfl) (by kernel_rfl) (by kernel_rfl) (by kernel_rfl) ?_ ?_ (by assumption) (by assumption) ?_
              rotate_left 2
              focus (simp only [List.getElem?_toArray, List.getElem?_cons_succ, List.getElem?_cons_zero]; rfl)
              focus exact fun _ _ _ h => h
              focus (refine Or.inl ⟨by rfl, ?_⟩; intro w hSw; (try dsimp only at hSw); go_split_ands; go_simp; try with_reducible rfl)
              try simp only [Act.put, List.setIfInBounds_toArray, List.set_cons_zero, List.set_cons_succ]
              refine Late.take (i := 17) (oi := ?_) (v := ?_) ?_ (by kernel_rfl) (by kernel_rfl) (by kernel_rfl) (by kernel_rfl) ?_ ?_ (by assumption) (by assumption) ?_
              rotate_left 2
              focus (simp only [List.getElem?_toArray, List.getElem?_cons_succ, List.getElem?_cons_zero]; rfl)
              focus exact fun _ _ _ h => h
              focus (refine Or.inl ⟨by rfl, ?_⟩; intro w hSw; (try dsimp only at hSw); go_split_ands; go_simp; try with_reducible rfl)
              try simp only [Act.put, List.setIfInBounds_toArray, List.set_cons_zero, List.set_cons_succ]
              refine Late.take (i := 18) (oi := ?_) (v := ?_) ?_ (by kernel_rfl) (by kernel_rfl) (by kernel_rfl) (by kernel_rfl) ?_ ?_ (by assumption) (by assumption) ?_
              rotate_left 2
              focus (simp only [List.getElem?_toArray, List.getElem?_cons_succ, List.getElem?_cons_zero]; rfl)
              focus exact fun _ _ _ h => h
              focus (refine Or.inl ⟨by rfl, ?_⟩; intro w hSw; (try dsimp only at hSw); go_split_ands; go_simp; try with_reducible rfl)
              try simp only [Act.put, List.setIfInBounds_toArray, List.set_cons_zero, List.set_cons_succ]
              refine Late.take (i := 19) (oi := ?_) (v := ?_) ?_ (by kernel_rfl) (by kernel_rfl) (by kernel_rfl) (by kernel_rfl) ?_ ?_ (by assumption) (by assumption) ?_
              rotate_left 2
              focus (simp only [List.getElem?_toArray, List.getElem?_cons_succ, List.getElem?_cons_zero]; rfl)
              focus exact fun _ _ _ h => h
              focus (refine Or.inl ⟨by rfl, ?_⟩; intro w hSw; (try dsimp only at hSw); go_split_ands; go_simp; try with_reducible rfl)
              try simp only [Act.put, List.setIfInBounds_toArray, List.set_cons_zero, List.set_cons_succ]
              refine Late.ready (rs := [11, 20]) (by kernel_rfl) (by simp) (Late.AllReady.cons (o := ?o1x11x20b) ?e1x11x20b (fun K hK => ?m1x11x20b) (Late.AllReady.cons (o := ?o2x11x20b) ?e2x11x20b (fun K hK => ?m2x11x20b) Late.AllReady.nil))
              case e1x11x20b => (simp only [List.getElem?_toArray, List.getElem?_cons_succ, List.getElem?_cons_zero]; rfl)
              case e2x11x20b => (simp only [List.getElem?_toArray, List.getElem?_cons_succ, List.getElem?_cons_zero]; rfl)
              case m1x11x20b =>
                rw [if_pos (by kernel_rfl)]
                go_simp
                refine (kf.out _ _ hpA.out.rl).mono ?_
                rintro e w4 ⟨rfl, hw4⟩
                replace hw4 := hw4.symm
                subst hw4
                refine hK.out _ _ hS (fun _ => trivial) ?_
                clear hK K
                try simp only [Act.put, List.setIfInBounds_toArray, List.set_cons_zero, List.set_cons_succ]
                refine Late.take (i := 12) (oi := ?_) (v := ?_) ?_ (by kernel_rfl) (by kernel_rfl) (by kernel_rfl) (by kernel_rfl) ?_ ?_ (by assumption) (by assumption) ?_
                rotate_left 2
                focus (simp only [List.getElem?_toArray, List.getElem?_cons_succ, List.getElem?_cons_zero]; rfl)
                focus exact fun _ _ _ h => h
                focus (refine Or.inl ⟨by rfl, ?_⟩; intro w hSw; (try dsimp only at hSw); go_split_ands; go_simp; try with_reducible rfl)
                try simp only [Act.put, List.setIfInBounds_toArray, List.set_cons_zero, List.set_cons_succ]
                refine Late.take (i := 13) (oi := ?_) (v := ?_) ?_ (by kernel_rfl) (by kernel_rfl) (by kernel_rfl) (by kernel_rfl) ?_ ?_ (by assumption) (by assumption) ?_
                rotate_left 2
                focus (simp only [List.getElem?_toArray, List.getElem?_cons_succ, List.getElem?_cons_zero]; rfl)
                focus exact fun _ _ _ h => h
                focus (refine Or.inl ⟨by rfl, ?_⟩; intro w hSw; (try dsimp only at hSw); go_split_ands; go_simp; try with_reducible rfl)
                try simp only [Act.put, List.setIfInBounds_toArray, List.set_cons_zero, List.set_cons_succ]
                refine Late.take (i := 15) (oi := ?_) (v := ?_) ?_ (by kernel_rfl) (by kernel_rfl) (by kernel_rfl) (by kernel_rfl) ?_ ?_ (by assumption) (by assumption) ?_
                rotate_left 2
                focus (simp only [List.getElem?_toArray, List.getElem?_cons_succ, List.getElem?_cons_zero]; rfl)
                focus exact fun _ _ _ h => h
                focus (refine Or.inl ⟨by rfl, ?_⟩; intro w hSw; (try dsimp only at hSw); go_split_ands; go_simp; try with_reducible rfl)
                try simp only [Act.put, List.setIfInBounds_toArray, List.set_cons_zero, List.set_cons_succ]
                refine Late.only (i := 20) (o := ?_) (by kernel_rfl) ?_ (fun K hK => ?_)
                rotate_left 1
                focus (simp only [List.getElem?_toArray, List.getElem?_cons_succ, List.getElem?_cons_zero]; rfl)
                go_simp
                refine hK.out _ _ hS1 (fun _ => trivial) ?_
                clear hK K
                try simp only [Act.put, List.setIfInBounds_toArray, List.set_cons_zero, List.set_cons_succ]
                have hS := hS1
                refine Late.only (i := 21) (o := ?_) (by kernel_rfl) ?_ (fun K hK => ?_)
                rotate_left 1
                focus (simp only [List.getElem?_toArray, List.getElem?_cons_succ, List.getElem?_cons_zero]; rfl)
                go_simp
                refine hK.out _ _ hS1 (fun _ => trivial) ?_
                clear hK K
                try simp only [Act.put, List.setIfInBounds_toArray, List.set_cons_zero, List.set_cons_succ]
                have hS := hS1
                refine Late.take (i := 22) (oi := ?_) (v := ?_) ?_ (by kernel_rfl) (by kernel_rfl) (by kernel_rfl) (by kernel_rfl) ?_ ?_ (by assumption) (by assumption) ?_
                rotate_left 2
                focus (simp only [List.getElem?_toArray, List.getElem?_cons_succ, List.getElem?_cons_zero]; rfl)
                focus exact fun _ _ _ h => h
                focus (refine Or.inl ⟨by rfl, ?_⟩; intro w hSw; (try dsimp only at hSw); go_split_ands; go_simp; try with_reducible rfl)
                try simp only [Act.put, List.setIfInBounds_toArray, List.set_cons_zero, List.set_cons_succ]
                refine Late.only (i := 23) (o := ?_) (by kernel_rfl) ?_ (fun K hK => ?_)
                rotate_left 1
                focus (simp only [List.getElem?_toArray, List.getElem?_cons_succ, List.getElem?_cons_zero]; rfl)
                rw [if_pos (by kernel_rfl)]
                go_simp
                refine (hw.out _ _ hpB.out.dk).mono ?_
                rintro e w5 ⟨rfl, G5, hd5, kk5, hG5⟩
                have h5 := Lib.hid (hpB.out.disk hd5 kk5 hG5)
                have n0 := And.intro h5.out.cells.1 h5.out.cells.2.1
                have f5 := Lib.hid (kk5.mono hpB.out.fg)
                have g5 := Lib.hid hG5
                refine hK.out _ _ n0 (fun _ => trivial) ?_
                clear hK K
                try simp only [Act.put, List.setIfInBounds_toArray, List.set_cons_zero, List.set_cons_succ]
                have hS := n0
                refine Late.only (i := 24) (o := ?_) (by kernel_rfl) ?_ (fun K hK => ?_)
                rotate_left 1
                focus (simp only [List.getElem?_toArray, List.getElem?_cons_succ, List.getElem?_cons_zero]; rfl)
                rw [if_pos (by kernel_rfl)]
                go_simp
                refine (rtold_any h5.out.rl _).mono ?_
                rintro e w6 ⟨rfl, h6, k6⟩
                have o0 : w6.cell? ⟨a, 0, none⟩ = some (.pointer (some ⟨b, 0, none⟩)) ∧ w6.cell? ⟨a, 1, none⟩ = some (.int .i64 (l.gen : Int)) := by
                  obtain ⟨_, _, hc⟩ := h6
                  exact ⟨hc.cells.1, hc.cells.2.1⟩
                refine hK.out _ _ o0 (fun _ => trivial) ?_
                clear hK K
                try simp only [Act.put, List.setIfInBounds_toArray, List.set_cons_zero, List.set_cons_succ]
                have hS := o0
                refine Late.take (i := 25) (oi := ?_) (v := ?_) ?_ (by kernel_rfl) (by kernel_rfl) (by kernel_rfl) (by kernel_rfl) ?_ ?_ (by assumption) (by assumption) ?_
                rotate_left 2
                focus (simp only [List.getElem?_toArray, List.getElem?_cons_succ, List.getElem?_cons_zero]; rfl)
                focus exact fun _ _ _ h => h
                focus (refine Or.inl ⟨by rfl, ?_⟩; intro w hSw; (try dsimp only at hSw); go_split_ands; go_simp; try with_reducible rfl)
                try simp only [Act.put, List.setIfInBounds_toArray, List.set_cons_zero, List.set_cons_succ]
                refine Late.done (by kernel_rfl) ?_ _
                have hF5 : ∀ i, (F2 i ∨ G5 i) → F i ∨ w3.heap.size ≤ i := fun i hi => hi.elim (hF2.out i) (fun hi => (g5.out i hi).elim (fun hg => hF2.out i (hpB.out.fg i hg)) (fun hle => Or.inr (Nat.le_trans kk3.out.size hle)))
                have kk6 : Keeps F w3 w6 := (kk3.out.trans f5.out hF2.out).trans k6 hF5
                clear szz hS hS1 hT d0 d1 e0 e1 n0 o0 h5 f5 g5 k6 kk3 hpA hpB hd5 kk5 hG5 g1' g2' g3' s1' hmk hcv
                replace hF5 := Lib.hid hF5
                replace kk6 := Lib.hid kk6
                rw [tell_zero] at h6
                replace h6 := Lib.hid h6
                go_wp2_with fail
                exact ⟨⟨i + 1, R.1, by omega, by unfold many; omega, rfl, ⟨_, h6.out, kk6.out, hF5.out⟩, hfR, hnR, hlR.out, hWi.out⟩, by simp [intOf]; unfold many; omega⟩
              case m2x11x20b =>
                go_simp
                refine hK.out _ _ hS1 (fun _ => trivial) ?_
                clear hK K
                try simp only [Act.put, List.setIfInBounds_toArray, List.set_cons_zero, List.set_cons_succ]
                have hS := hS1
                refine Late.ready (rs := [11, 21]) (by kernel_rfl) (by simp) (Late.AllReady.cons (o := ?o1x11x21b) ?e1x11x21b (fun K hK => ?m1x11x21b) (Late.AllReady.cons (o := ?o2x11x21b) ?e2x11x21b (fun K hK => ?m2x11x21b) Late.AllReady.nil))
                case e1x11x21b => (simp only [List.getElem?_toArray, List.getElem?_cons_succ, List.getElem?_cons_zero]; rfl)
                case e2x11x21b => (simp only [List.getElem?_toArray, List.getElem?_cons_succ, List.getElem?_cons_zero]; rfl)
                case m1x11x21b =>
                  rw [if_pos (by kernel_rfl)]
                  go_simp
                  refine (kf.out _ _ hpB.out.rl).mono ?_
                  rintro e w4 ⟨rfl, hw4⟩
                  replace hw4 := hw4.symm
                  subst hw4
                  refine hK.out _ _ hS1 (fun _ => trivial) ?_
                  clear hK K
                  try simp only [Act.put, List.setIfInBounds_toArray, List.set_cons_zero, List.set_cons_succ]
                  refine Late.take (i := 12) (oi := ?_) (v := ?_) ?_ (by kernel_rfl) (by kernel_rfl) (by kernel_rfl) (by kernel_rfl) ?_ ?_ (by assumption) (by assumption) ?_
                  rotate_left 2
                  focus (simp only [List.getElem?_toArray, List.getElem?_cons_succ, List.getElem?_cons_zero]; rfl)
                  focus exact fun _ _ _ h => h
                  focus (refine Or.inl ⟨by rfl, ?_⟩; intro w hSw; (try dsimp only at hSw); go_split_ands; go_simp; try with_reducible rfl)
                  try simp only [Act.put, List.setIfInBounds_toArray, List.set_cons_zero, List.set_cons_succ]
                  refine Late.take (i := 13) (oi := ?_) (v := ?_) ?_ (by kernel_rfl) (by kernel_rfl) (by kernel_rfl) (by kernel_rfl) ?_ ?_ (by assumption) (by assumption) ?_
                  rotate_left 2
                  focus (simp only [List.getElem?_toArray, List.getElem?_cons_succ, List.getElem?_cons_zero]; rfl)
                  focus exact fun _ _ _ h => h
                  focus (refine Or.inl ⟨by rfl, ?_⟩; intro w hSw; (try dsimp only at hSw); go_split_ands; go_simp; try with_reducible rfl)
                  try simp only [Act.put, List.setIfInBounds_toArray, List.set_cons_zero, List.set_cons_succ]
                  refine Late.take (i := 15) (oi := ?_) (v := ?_) ?_ (by kernel_rfl) (by kernel_rfl) (by kernel_rfl) (by kernel_rfl) ?_ ?_ (by assumption) (by assumption) ?_
                  rotate_left 2
                  focus (simp only [List.getElem?_toArray, List.getElem?_cons_succ, List.getElem?_cons_zero]; rfl)
                  focus exact fun _ _ _ h => h
                  focus (refine Or.inl ⟨by rfl, ?_⟩; intro w hSw; (try dsimp only at hSw); go_split_ands; go_simp; try with_reducible rfl)
                  try simp only [Act.put, List.setIfInBounds_toArray, List.set_cons_zero, List.set_cons_succ]
                  refine Late.only (i := 21) (o := ?_) (by kernel_rfl) ?_ (fun K hK => ?_)
                  rotate_left 1
                  focus (simp only [List.getElem?_toArray, List.getElem?_cons_succ, List.getElem?_cons_zero]; rfl)
                  go_simp
                  refine hK.out _ _ hS1 (fun _ => trivial) ?_
                  clear hK K
                  try simp only [Act.put, List.setIfInBounds_toArray, List.set_cons_zero, List.set_cons_succ]
                  have hS := hS1
                  refine Late.take (i := 22) (oi := ?_) (v := ?_) ?_ (by kernel_rfl) (by kernel_rfl) (by kernel_rfl) (by kernel_rfl) ?_ ?_ (by assumption) (by assumption) ?_
                  rotate_left 2
                  focus (simp only [List.getElem?_toArray, List.getElem?_cons_succ, List.getElem?_cons_zero]; rfl)
                  focus exact fun _ _ _ h => h
                  focus (refine Or.inl ⟨by rfl, ?_⟩; intro w hSw; (try dsimp only at hSw); go_split_ands; go_simp; try with_reducible rfl)
                  try simp only [Act.put, List.setIfInBounds_toArray, List.set_cons_zero, List.set_cons_succ]
                  refine Late.only (i := 23) (o := ?_) (by kernel_rfl) ?_ (fun K hK => ?_)
                  rotate_left 1
                  focus (simp only [List.getElem?_toArray, List.getElem?_cons_succ, List.getElem?_cons_zero]; rfl)
                  rw [if_pos (by kernel_rfl)]
                  go_simp
                  refine (hw.out _ _ hpB.out.dk).mono ?_
                  rintro e w5 ⟨rfl, G5, hd5, kk5, hG5⟩
                  have h5 := Lib.hid (hpB.out.disk hd5 kk5 hG5)
                  have n0 := And.intro h5.out.cells.1 h5.out.cells.2.1
                  have f5 := Lib.hid (kk5.mono hpB.out.fg)
                  have g5 := Lib.hid hG5
                  refine hK.out _ _ n0 (fun _ => trivial) ?_
                  clear hK K
                  try simp only [Act.put, List.setIfInBounds_toArray, List.set_cons_zero, List.set_cons_succ]
                  have hS := n0
                  refine Late.only (i := 24) (o := ?_) (by kernel_rfl) ?_ (fun K hK => ?_)
                  rotate_left 1
                  focus (simp only [List.getElem?_toArray, List.getElem?_cons_succ, List.getElem?_cons_zero]; rfl)
                  rw [if_pos (by kernel_rfl)]
                  go_simp
                  refine (rtold_any h5.out.rl _).mono ?_
                  rintro e w6 ⟨rfl, h6, k6⟩
                  have o0 : w6.cell? ⟨a, 0, none⟩ = some (.pointer (some ⟨b, 0, none⟩)) ∧ w6.cell? ⟨a, 1, none⟩ = some (.int .i64 (l.gen : Int)) := by
                    obtain ⟨_, _, hc⟩ := h6
                    exact ⟨hc.cells.1, hc.cells.2.1⟩
                  refine hK.out _ _ o0 (fun _ => trivial) ?_
                  clear hK K
                  try simp only [Act.put, List.setIfInBounds_toArray, List.set_cons_zero, List.set_cons_succ]
                  have hS := o0
                  refine Late.take (i := 25) (oi := ?_) (v := ?_) ?_ (by kernel_rfl) (by kernel_rfl) (by kernel_rfl) (by kernel_rfl) ?_ ?_ (by assumption) (by assumption) ?_
                  rotate_left 2
                  focus (simp only [List.getElem?_toArray, List.getElem?_cons_succ, List.getElem?_cons_zero]; rfl)
                  focus exact fun _ _ _ h => h
                  focus (refine Or.inl ⟨by rfl, ?_⟩; intro w hSw; (try dsimp only at hSw); go_split_ands; go_simp; try with_reducible rfl)
                  try simp only [Act.put, List.setIfInBounds_toArray, List.set_cons_zero, List.set_cons_succ]
                  refine Late.done (by kernel_rfl) ?_ _
                  have hF5 : ∀ i, (F2 i ∨ G5 i) → F i ∨ w3.heap.size ≤ i := fun i hi => hi.elim (hF2.out i) (fun hi => (g5.out i hi).elim (fun hg => hF2.out i (hpB.out.fg i hg)) (fun hle => Or.inr (Nat.le_trans kk3.out.size hle)))
                  have kk6 : Keeps F w3 w6 := (kk3.out.trans f5.out hF2.out).trans k6 hF5
                  clear szz hS hS1 hT d0 d1 e0 e1 n0 o0 h5 f5 g5 k6 kk3 hpA hpB hd5 kk5 hG5 g1' g2' g3' s1' hmk hcv
                  replace hF5 := Lib.hid hF5
                  replace kk6 := Lib.hid kk6
                  rw [tell_zero] at h6
                  replace h6 := Lib.hid h6
                  go_wp2_with fail
                  exact ⟨⟨i + 1, R.1, by omega, by unfold many; omega, rfl, ⟨_, h6.out, kk6.out, hF5.out⟩, hfR, hnR, hlR.out, hWi.out⟩, by simp [intOf]; unfold many; omega⟩
                case m2x11x21b =>
                  go_simp
                  refine hK.out _ _ hS1 (fun _ => trivial) ?_
                  clear hK K
                  try simp only [Act.put, List.setIfInBounds_toArray, List.set_cons_zero, List.set_cons_succ]
                  have hS := hS1
                  refine Late.take (i := 22) (oi := ?_) (v := ?_) ?_ (by kernel_rfl) (by kernel_rfl) (by kernel_rfl) (by kernel_rfl) ?_ ?_ (by assumption) (by assumption) ?_
                  rotate_left 2
                  focus (simp only [List.getElem?_toArray, List.getElem?_cons_succ, List.getElem?_cons_zero]; rfl)
                  focus exact fun _ _ _ h => h
                  focus (refine Or.inl ⟨by rfl, ?_⟩; intro w hSw; (try dsimp only at hSw); go_split_ands; go_simp; try with_reducible rfl)
                  try simp only [Act.put, List.setIfInBounds_toArray, List.set_cons_zero, List.set_cons_succ]
                  refine Late.only (i := 11) (o := ?_) (by kernel_rfl) ?_ (fun K hK => ?_)
                  rotate_left 1
                  focus (simp only [List.getElem?_toArray, List.getElem?_cons_succ, List.getElem?_cons_zero]; rfl)
                  rw [if_pos (by kernel_rfl)]
                  go_simp
                  refine (kf.out _ _ hpB.out.rl).mono ?_
                  rintro e w4 ⟨rfl, hw4⟩
                  replace hw4 := hw4.symm
                  subst hw4
                  refine hK.out _ _ hS1 (fun _ => trivial) ?_
                  clear hK K
                  try simp only [Act.put, List.setIfInBounds_toArray, List.set_cons_zero, List.set_cons_succ]
                  refine Late.take (i := 12) (oi := ?_) (v := ?_) ?_ (by kernel_rfl) (by kernel_rfl) (by kernel_rfl) (by kernel_rfl) ?_ ?_ (by assumption) (by assumption) ?_
                  rotate_left 2
                  focus (simp only [List.getElem?_toArray, List.getElem?_cons_succ, List.getElem?_cons_zero]; rfl)
                  focus exact fun _ _ _ h => h
                  focus (refine Or.inl ⟨by rfl, ?_⟩; intro w hSw; (try dsimp only at hSw); go_split_ands; go_simp; try with_reducible rfl)
                  try simp only [Act.put, List.setIfInBounds_toArray, List.set_cons_zero, List.set_cons_succ]
                  refine Late.take (i := 13) (oi := ?_) (v := ?_) ?_ (by kernel_rfl) (by kernel_rfl) (by kernel_rfl) (by kernel_rfl) ?_ ?_ (by assumption) (by assumption) ?_
                  rotate_left 2
                  focus (simp only [List.getElem?_toArray, List.getElem?_cons_succ, List.getElem?_cons_zero]; rfl)
                  focus exact fun _ _ _ h => h
                  focus (refine Or.inl ⟨by rfl, ?_⟩; intro w hSw; (try dsimp only at hSw); go_split_ands; go_simp; try with_reducible rfl)
                  try simp only [Act.put, List.setIfInBounds_toArray, List.set_cons_zero, List.set_cons_succ]
                  refine Late.take (i := 15) (oi := ?_) (v := ?_) ?_ (by kernel_rfl) (by kernel_rfl) (by kernel_rfl) (by kernel_rfl) ?_ ?_ (by assumption) (by assumption) ?_
                  rotate_left 2
                  focus (simp only [List.getElem?_toArray, List.getElem?_cons_succ, List.getElem?_cons_zero]; rfl)
                  focus exact fun _ _ _ h => h
                  focus (refine Or.inl ⟨by rfl, ?_⟩; intro w hSw; (try dsimp only at hSw); go_split_ands; go_simp; try with_reducible rfl)
                  try simp only [Act.put, List.setIfInBounds_toArray, List.set_cons_zero, List.set_cons_succ]
                  refine Late.only (i := 23) (o := ?_) (by kernel_rfl) ?_ (fun K hK => ?_)
                  rotate_left 1
                  focus (simp only [List.getElem?_toArray, List.getElem?_cons_succ, List.getElem?_cons_zero]; rfl)
                  rw [if_pos (by kernel_rfl)]
                  go_simp
                  refine (hw.out _ _ hpB.out.dk).mono ?_
                  rintro e w5 ⟨rfl, G5, hd5, kk5, hG5⟩
                  have h5 := Lib.hid (hpB.out.disk hd5 kk5 hG5)
                  have n0 := And.intro h5.out.cells.1 h5.out.cells.2.1
                  have f5 := Lib.hid (kk5.mono hpB.out.fg)
                  have g5 := Lib.hid hG5
                  refine hK.out _ _ n0 (fun _ => trivial) ?_
                  clear hK K
                  try simp only [Act.put, List.setIfInBounds_toArray, List.set_cons_zero, List.set_cons_succ]
                  have hS := n0
                  refine Late.only (i := 24) (o := ?_) (by kernel_rfl) ?_ (fun K hK => ?_)
                  rotate_left 1
                  focus (simp only [List.getElem?_toArray, List.getElem?_cons_succ, List.getElem?_cons_zero]; rfl)
                  rw [if_pos (by kernel_rfl)]
                  go_simp
                  refine (rtold_any h5.out.rl _).mono ?_
                  rintro e w6 ⟨rfl, h6, k6⟩
                  have o0 : w6.cell? ⟨a, 0, none⟩ = some (.pointer (some ⟨b, 0, none⟩)) ∧ w6.cell? ⟨a, 1, none⟩ = some (.int .i64 (l.gen : Int)) := by
                    obtain ⟨_, _, hc⟩ := h6
                    exact ⟨hc.cells.1, hc.cells.2.1⟩
                  refine hK.out _ _ o0 (fun _ => trivial) ?_
                  clear hK K
                  try simp only [Act.put, List.setIfInBounds_toArray, List.set_cons_zero, List.set_cons_succ]
                  have hS := o0
                  refine Late.take (i := 25) (oi := ?_) (v := ?_) ?_ (by kernel_rfl) (by kernel_rfl) (by kernel_rfl) (by kernel_rfl) ?_ ?_ (by assumption) (by assumption) ?_
                  rotate_left 2
                  focus (simp only [List.getElem?_toArray, List.getElem?_cons_succ, List.getElem?_cons_zero]; rfl)
                  focus exact fun _ _ _ h => h
                  focus (refine Or.inl ⟨by rfl, ?_⟩; intro w hSw; (try dsimp only at hSw); go_split_ands; go_simp; try with_reducible rfl)
                  try simp only [Act.put, List.setIfInBounds_toArray, List.set_cons_zero, List.set_cons_succ]
                  refine Late.done (by kernel_rfl) ?_ _
                  have hF5 : ∀ i, (F2 i ∨ G5 i) → F i ∨ w3.heap.size ≤ i := fun i hi => hi.elim (hF2.out i) (fun hi => (g5.out i hi).elim (fun hg => hF2.out i (hpB.out.fg i hg)) (fun hle => Or.inr (Nat.le_trans kk3.out.size hle)))
                  have kk6 : Keeps F w3 w6 := (kk3.out.trans f5.out hF2.out).trans k6 hF5
                  clear szz hS hS1 hT d0 d1 e0 e1 n0 o0 h5 f5 g5 k6 kk3 hpA hpB hd5 kk5 hG5 g1' g2' g3' s1' hmk hcv
                  replace hF5 := Lib.hid hF5
                  replace kk6 := Lib.hid kk6
                  rw [tell_zero] at h6
                  replace h6 := Lib.hid h6
                  go_wp2_with fail
                  exact ⟨⟨i + 1, R.1, by omega, by unfold many; omega, rfl, ⟨_, h6.out, kk6.out, hF5.out⟩, hfR, hnR, hlR.out, hWi.out⟩, by simp [intOf]; unfold many; omega⟩
            · rw [if_pos hz] at hWi
              have hz' : (R.2 != 0) = true := by simpa using hz
              replace hWi := Lib.hid hWi
              replace hw := Lib.hid hw
              replace hz := Lib.hid hz
              go_upto_region 14 with fail
              clear t1 t2 t3 t4 hmin qlt
              rw [← hC]
              replace hC := Lib.hid hC
              obtain ⟨G4, v4, hp4⟩ := hp.out
              have hpA := hp4.below (drewX wr)
              obtain ⟨gg, hgg⟩ : ∃ gg, gg = wr.drew.heap.size := ⟨_, rfl⟩
              obtain ⟨W1, hmk, hom, hgm⟩ := run_make_full (P := Tryz.prog) (w := wr.drew) 0 71 5 iU (.int .u8 0) 1 Tryz.underlying71 huf hu0 hu1 .i64 .i64 zz (by rw [hu2]; omega) (by unfold maxLen; omega) (Nat.zero_le _)
              rw [← hgg] at hmk hom
              have hcv := zero_row hom
              rw [← hZe] at hcv
              replace hZe := Lib.hid hZe
              have b1 : Below wr.drew.heap.size wr.drew W1 := ⟨hgm.os, hgm.tape, hgm.output, hgm.size, fun k hk => hgm.block k hk (by simp)⟩
              have hpB := hpA.below b1
              have b01 : Below wr.heap.size wr W1 := (drewX wr).trans b1
              have kk3 := Lib.hid (kk.out.same (Keeps.of_below F b01))
              have d0 : wr.drew.cell? ⟨a, 0, none⟩ = some (.pointer (some ⟨b, 0, none⟩)) := hpA.cells.1
              have d1 : wr.drew.cell? ⟨a, 1, none⟩ = some (.int .i64 (l.gen : Int)) := hpA.cells.2.1
              have e0 : W1.cell? ⟨a, 0, none⟩ = some (.pointer (some ⟨b, 0, none⟩)) := hpB.cells.1
              have e1 : W1.cell? ⟨a, 1, none⟩ = some (.int .i64 (l.gen : Int)) := hpB.cells.2.1
              have g1' := g1.out
              have g2' := g2.out
              have g3' := g3.out
              have s1' := s1.out
              have szz : IntKind.i64.wrap (zz : Int) = (zz : Int) := IntWalk.i64_in _ (by omega)
              replace hpA := Lib.hid hpA
              replace hpB := Lib.hid hpB
              clear hp4 hom hgm b1 b01 hgg
              refine Late.start (S := fun W' => W'.cell? ⟨a, 0, none⟩ = some (.pointer (some ⟨b, 0, none⟩)) ∧ W'.cell? ⟨a, 1, none⟩ = some (.int .i64 (l.gen : Int))) (T := fun _ => True) (late := []) (by kernel_rfl) ?_
              have hS : wr.drew.cell? ⟨a, 0, none⟩ = some (.pointer (some ⟨b, 0, none⟩)) ∧ wr.drew.cell? ⟨a, 1, none⟩ = some (.int .i64 (l.gen : Int)) := ⟨d0, d1⟩
              have hS1 : W1.cell? ⟨a, 0, none⟩ = some (.pointer (some ⟨b, 0, none⟩)) ∧ W1.cell? ⟨a, 1, none⟩ = some (.int .i64 (l.gen : Int)) := ⟨e0, e1⟩
              have hT : True := trivial
              refine Late.take (i := 0) (oi := ?_) (v := ?_) ?_ (by kernel_rfl) (by kernel_rfl) (by kernel_rfl) (by kernel_rfl) ?_ ?_ (by assumption) (by assumption) ?_
              rotate_left 2
              focus (simp only [List.getElem?_toArray, List.getElem?_cons_zero]; rfl)
              focus exact fun _ _ _ h => h
              focus (refine Or.inl ⟨by rfl, ?_⟩; intro w hSw; (try dsimp only at hSw); go_split_ands; go_simp; try with_reducible rfl)
              try simp only [Act.put, List.setIfInBounds_toArray, List.set_cons_zero, List.set_cons_succ]
              refine Late.take (i := 1) (oi := ?_) (v := ?_) ?_ (by kernel_rfl) (by kernel_rfl) (by kernel_rfl) (by kernel_rfl) ?_ ?_ (by assumption) (by assumption) ?_
              rotate_left 2
              focus (simp only [List.getElem?_toArray, List.getElem?_cons_succ, List.getElem?_cons_zero]; rfl)
              focus exact fun _ _ _ h => h
              focus (refine Or.inl ⟨by rfl, ?_⟩; intro w hSw; (try dsimp only at hSw); go_split_ands; go_simp; try with_reducible rfl)
              try simp only [Act.put, List.setIfInBounds_toArray, List.set_cons_zero, List.set_cons_succ]
              refine Late.take (i := 2) (oi := ?_) (v := ?_) ?_ (by kernel_rfl) (by kernel_rfl) (by kernel_rfl) (by kernel_rfl) ?_ ?_ (by assumption) (by assumption) ?_
              rotate_left 2
              focus (simp only [List.getElem?_toArray, List.getElem?_cons_succ, List.getElem?_cons_zero]; rfl)
              focus exact fun _ _ _ h => h
              focus (refine Or.inl ⟨by rfl, ?_⟩; intro w hSw; (try dsimp only at hSw); go_split_ands; go_simp; try with_reducible rfl)
              try simp only [Act.put, List.setIfInBounds_toArray, List.set_cons_zero, List.set_cons_succ]
              refine Late.take (i := 3) (oi := ?_) (v := ?_) ?_ (by kernel_rfl) (by kernel_rfl) (by kernel_rfl) (by kernel_rfl) ?_ ?_ (by assumption) (by assumption) ?_
              rotate_left 2
              focus (simp only [List.getElem?_toArray, List.getElem?_cons_succ, List.getElem?_cons_zero]; rfl)
              focus exact fun _ _ _ h => h
              focus (refine Or.inl ⟨by rfl, ?_⟩; intro w hSw; (try dsimp only at hSw); go_split_ands; go_simp; try with_reducible rfl)
              try simp only [Act.put, List.setIfInBounds_toArray, List.set_cons_zero, List.set_cons_succ]
              refine Late.take (i := 4) (oi := ?_) (v := ?_) ?_ (by kernel_rfl) (by kernel_rfl) (by kernel_rfl) (by kernel_rfl) ?_ ?_ (by assumption) (by assumption) ?_
              rotate_left 2
              focus (simp only [List.getElem?_toArray, List.getElem?_cons_succ, List.getElem?_cons_zero]; rfl)
              focus exact fun _ _ _ h => h
              focus (refine Or.inl ⟨by rfl, ?_⟩; intro w hSw; (try dsimp only at hSw); go_split_ands; go_simp; try with_reducible rfl)
              try simp only [Act.put, List.setIfInBounds_toArray, List.set_cons_zero, List.set_cons_succ]
              refine Late.take (i := 5) (oi := ?_) (v := ?_) ?_ (by kernel_rfl) (by kernel_rfl) (by kernel_rfl) (by kernel_rfl) ?_ ?_ (by assumption) (by assumption) ?_
              rotate_left 2
              focus (simp only [List.getElem?_toArray, List.getElem?_cons_succ, List.getElem?_cons_zero]; rfl)
              focus exact fun _ _ _ h => h
              focus (refine Or.inl ⟨by rfl, ?_⟩; intro w hSw; (try dsimp only at hSw); go_split_ands; go_simp; try with_reducible rfl)
              try simp only [Act.put, List.setIfInBounds_toArray, List.set_cons_zero, List.set_cons_succ]
              refine Late.take (i := 6) (oi := ?_) (v := ?_) ?_ (by kernel_rfl) (by kernel_rfl) (by kernel_rfl) (by kernel_rfl) ?_ ?_ (by assumption) (by assumption) ?_
              rotate_left 2
              focus (simp only [List.getElem?_toArray, List.getElem?_cons_succ, List.getElem?_cons_zero]; rfl)
              focus exact fun _ _ _ h => h
              focus (refine Or.inl ⟨by rfl, ?_⟩; intro w hSw; (try dsimp only at hSw); go_split_ands; go_simp; try with_reducible rfl)
              try simp only [Act.put, List.setIfInBounds_toArray, List.set_cons_zero, List.set_cons_succ]
              refine Late.take (i := 7) (oi := ?_) (v := ?_) ?_ (by kernel_rfl) (by kernel_rfl) (by kernel_rfl) (by kernel_rfl) ?_ ?_ (by assumption) (by assumption) ?_
              rotate_left 2
              focus (simp only [List.getElem?_toArray, List.getElem?_cons_succ, List.getElem?_cons_zero]; rfl)
              focus exact fun _ _ _ h => h
              focus (refine Or.inl ⟨by rfl, ?_⟩; intro w hSw; (try dsimp only at hSw); go_split_ands; go_simp; try with_reducible rfl)
              try simp only [Act.put, List.setIfInBounds_toArray, List.set_cons_zero, List.set_cons_succ]
              refine Late.take (i := 8) (oi := ?_) (v := ?_) ?_ (by kernel_rfl) (by kernel_rfl) (by kernel_rfl) (by kernel_rfl) ?_ ?_ (by assumption) (by assumption) ?_
              rotate_left 2
              focus (simp only [List.getElem?_toArray, List.getElem?_cons_succ, List.getElem?_cons_zero]; rfl)
              focus exact fun _ _ _ h => h
              focus (refine Or.inl ⟨by rfl, ?_⟩; intro w hSw; (try dsimp only at hSw); go_split_ands; go_simp; try with_reducible rfl)
              try simp only [Act.put, List.setIfInBounds_toArray, List.set_cons_zero, List.set_cons_succ]
              refine Late.take (i := 9) (oi := ?_) (v := ?_) ?_ (by kernel_rfl) (by kernel_rfl) (by kernel_rfl) (by kernel_rfl) ?_ ?_ (by assumption) (by assumption) ?_
              rotate_left 2
              focus (simp only [List.getElem?_toArray, List.getElem?_cons_succ, List.getElem?_cons_zero]; rfl)
              focus exact fun _ _ _ h => h
              focus (refine Or.inl ⟨by rfl, ?_⟩; intro w hSw; (try dsimp only at hSw); go_split_ands; go_simp; try with_reducible rfl)
              try simp only [Act.put, List.setIfInBounds_toArray, List.set_cons_zero, List.set_cons_succ]
              refine Late.take (i := 10) (oi := ?_) (v := ?_) ?_ (by kernel_rfl) (by kernel_rfl) (by kernel_rfl) (by kernel_rfl) ?_ ?_ (by assumption) (by assumption) ?_
              rotate_left 2
              focus (simp only [List.getElem?_toArray, List.getElem?_cons_succ, List.getElem?_cons_zero]; rfl)
              focus exact fun _ _ _ h => h
              focus (refine Or.inl ⟨by rfl, ?_⟩; intro w hSw; (try dsimp only at hSw); go_split_ands; go_simp; try with_reducible rfl)
              try simp only [Act.put, List.setIfInBounds_toArray, List.set_cons_zero, List.set_cons_succ]
              refine Late.take (i := 14) (oi := ?_) (v := ?_) ?_ (by kernel_rfl) (by kernel_rfl) (by kernel_rfl) (by kernel_rfl) ?_ ?_ (by assumption) (by assumption) ?_
              rotate_left 2
              focus (simp only [List.getElem?_toArray, List.getElem?_cons_succ, List.getElem?_cons_zero]; rfl)
              focus exact fun _ _ _ h => h
              focus (refine Or.inl ⟨by rfl, ?_⟩; intro w hSw; (try dsimp only at hSw); go_split_ands; go_simp; try with_reducible rfl)
              try simp only [Act.put, List.setIfInBounds_toArray, List.set_cons_zero, List.set_cons_succ]
              refine Late.take (i := 16) (oi := ?_) (v := ?_) ?_ (by kernel_rfl) (by kernel_rfl) (by kernel_rfl) (by kernel_rfl) ?_ ?_ (by assumption) (by assumption) ?_
              rotate_left 2
              focus (simp only [List.getElem?_toArray, List.getElem?_cons_succ, List.getElem?_cons_zero]; rfl)
              focus exact fun _ _ _ h => h
              focus (refine Or.inl ⟨by rfl, ?_⟩; intro w hSw; (try dsimp only at hSw); go_split_ands; go_simp; try with_reducible rfl)
              try simp only [Act.put, List.setIfInBounds_toArray, List.set_cons_zero, List.set_cons_succ]
              refine Late.take (i := 17) (oi := ?_) (v := ?_) ?_ (by kernel_rfl) (by kernel_rfl) (by kernel_rfl) (by kernel_rfl) ?_ ?_ (by assumption) (by assumption) ?_
              rotate_left 2
              focus (simp only [List.getElem?_toArray, List.getElem?_cons_succ, List.getElem?_cons_zero]; rfl)
              focus exact fun _ _ _ h => h
              focus (refine Or.inl ⟨by rfl, ?_⟩; intro w hSw; (try dsimp only at hSw); go_split_ands; go_simp; try with_reducible rfl)
              try simp only [Act.put, List.setIfInBounds_toArray, List.set_cons_zero, List.set_cons_succ]
              refine Late.take (i := 18) (oi := ?_) (v := ?_) ?_ (by kernel_rfl) (by kernel_rfl) (by kernel_rfl) (by kernel_rfl) ?_ ?_ (by assumption) (by assumption) ?_
              rotate_left 2
              focus (simp only [List.getElem?_toArray, List.getElem?_cons_succ, List.getElem?_cons_zero]; rfl)
              focus exact fun _ _ _ h => h
              focus (refine Or.inl ⟨by rfl, ?_⟩; intro w hSw; (try dsimp only at hSw); go_split_ands; go_simp; try with_reducible rfl)
              try simp only [Act.put, List.setIfInBounds_toArray, List.set_cons_zero, List.set_cons_succ]
              refine Late.take (i := 19) (oi := ?_) (v := ?_) ?_ (by kernel_rfl) (by kernel_rfl) (by kernel_rfl) (by kernel_rfl) ?_ ?_ (by assumption) (by assumption) ?_
              rotate_left 2
              focus (simp only [List.getElem?_toArray, List.getElem?_cons_succ, List.getElem?_cons_zero]; rfl)
              focus exact fun _ _ _ h => h
              focus (refine Or.inl ⟨by rfl, ?_⟩; intro w hSw; (try dsimp only at hSw); go_split_ands; go_simp; try with_reducible rfl)
              try simp only [Act.put, List.setIfInBounds_toArray, List.set_cons_zero, List.set_cons_succ]
              refine Late.ready (rs := [11, 20]) (by kernel_rfl) (by simp) (Late.AllReady.cons (o := ?o1x11x20a) ?e1x11x20a (fun K hK => ?m1x11x20a) (Late.AllReady.cons (o := ?o2x11x20a) ?e2x11x20a (fun K hK => ?m2x11x20a) Late.AllReady.nil))
              case e1x11x20a => (simp only [List.getElem?_toArray, List.getElem?_cons_succ, List.getElem?_cons_zero]; rfl)
              case e2x11x20a => (simp only [List.getElem?_toArray, List.getElem?_cons_succ, List.getElem?_cons_zero]; rfl)
              case m1x11x20a =>
                rw [if_pos (by kernel_rfl)]
                go_simp
                refine (kf.out _ _ hpA.out.rl).mono ?_
                rintro e w4 ⟨rfl, hw4⟩
                replace hw4 := hw4.symm
                subst hw4
                refine hK.out _ _ hS (fun _ => trivial) ?_
                clear hK K
                try simp only [Act.put, List.setIfInBounds_toArray, List.set_cons_zero, List.set_cons_succ]
                refine Late.take (i := 12) (oi := ?_) (v := ?_) ?_ (by kernel_rfl) (by kernel_rfl) (by kernel_rfl) (by kernel_rfl) ?_ ?_ (by assumption) (by assumption) ?_
                rotate_left 2
                focus (simp only [List.getElem?_toArray, List.getElem?_cons_succ, List.getElem?_cons_zero]; rfl)
                focus exact fun _ _ _ h => h
                focus (refine Or.inl ⟨by rfl, ?_⟩; intro w hSw; (try dsimp only at hSw); go_split_ands; go_simp; try with_reducible rfl)
                try simp only [Act.put, List.setIfInBounds_toArray, List.set_cons_zero, List.set_cons_succ]
                refine Late.take (i := 13) (oi := ?_) (v := ?_) ?_ (by kernel_rfl) (by kernel_rfl) (by kernel_rfl) (by kernel_rfl) ?_ ?_ (by assumption) (by assumption) ?_
                rotate_left 2
                focus (simp only [List.getElem?_toArray, List.getElem?_cons_succ, List.getElem?_cons_zero]; rfl)
                focus exact fun _ _ _ h => h
                focus (refine Or.inl ⟨by rfl, ?_⟩; intro w hSw; (try dsimp only at hSw); go_split_ands; go_simp; try with_reducible rfl)
                try simp only [Act.put, List.setIfInBounds_toArray, List.set_cons_zero, List.set_cons_succ]
                refine Late.take (i := 15) (oi := ?_) (v := ?_) ?_ (by kernel_rfl) (by kernel_rfl) (by kernel_rfl) (by kernel_rfl) ?_ ?_ (by assumption) (by assumption) ?_
                rotate_left 2
                focus (simp only [List.getElem?_toArray, List.getElem?_cons_succ, List.getElem?_cons_zero]; rfl)
                focus exact fun _ _ _ h => h
                focus (refine Or.inl ⟨by rfl, ?_⟩; intro w hSw; (try dsimp only at hSw); go_split_ands; go_simp; try with_reducible rfl)
                try simp only [Act.put, List.setIfInBounds_toArray, List.set_cons_zero, List.set_cons_succ]
                refine Late.only (i := 20) (o := ?_) (by kernel_rfl) ?_ (fun K hK => ?_)
                rotate_left 1
                focus (simp only [List.getElem?_toArray, List.getElem?_cons_succ, List.getElem?_cons_zero]; rfl)
                go_simp
                refine hK.out _ _ hS1 (fun _ => trivial) ?_
                clear hK K
                try simp only [Act.put, List.setIfInBounds_toArray, List.set_cons_zero, List.set_cons_succ]
                have hS := hS1
                refine Late.only (i := 21) (o := ?_) (by kernel_rfl) ?_ (fun K hK => ?_)
                rotate_left 1
                focus (simp only [List.getElem?_toArray, List.getElem?_cons_succ, List.getElem?_cons_zero]; rfl)
                go_simp
                refine hK.out _ _ hS1 (fun _ => trivial) ?_
                clear hK K
                try simp only [Act.put, List.setIfInBounds_toArray, List.set_cons_zero, List.set_cons_succ]
                have hS := hS1
                refine Late.take (i := 22) (oi := ?_) (v := ?_) ?_ (by kernel_rfl) (by kernel_rfl) (by kernel_rfl) (by kernel_rfl) ?_ ?_ (by assumption) (by assumption) ?_
                rotate_left 2
                focus (simp only [List.getElem?_toArray, List.getElem?_cons_succ, List.getElem?_cons_zero]; rfl)
                focus exact fun _ _ _ h => h
                focus (refine Or.inl ⟨by rfl, ?_⟩; intro w hSw; (try dsimp only at hSw); go_split_ands; go_simp; try with_reducible rfl)
                try simp only [Act.put, List.setIfInBounds_toArray, List.set_cons_zero, List.set_cons_succ]
                refine Late.only (i := 23) (o := ?_) (by kernel_rfl) ?_ (fun K hK => ?_)
                rotate_left 1
                focus (simp only [List.getElem?_toArray, List.getElem?_cons_succ, List.getElem?_cons_zero]; rfl)
                rw [if_pos (by kernel_rfl)]
                go_simp
                refine (hw.out _ _ hpB.out.dk).mono ?_
                rintro e w5 ⟨rfl, G5, hd5, kk5, hG5⟩
                have h5 := Lib.hid (hpB.out.disk hd5 kk5 hG5)
                have n0 := And.intro h5.out.cells.1 h5.out.cells.2.1
                have f5 := Lib.hid (kk5.mono hpB.out.fg)
                have g5 := Lib.hid hG5
                refine hK.out _ _ n0 (fun _ => trivial) ?_
                clear hK K
                try simp only [Act.put, List.setIfInBounds_toArray, List.set_cons_zero, List.set_cons_succ]
                have hS := n0
                refine Late.only (i := 24) (o := ?_) (by kernel_rfl) ?_ (fun K hK => ?_)
                rotate_left 1
                focus (simp only [List.getElem?_toArray, List.getElem?_cons_succ, List.getElem?_cons_zero]; rfl)
                rw [if_pos (by kernel_rfl)]
                go_simp
                refine (rtold_any h5.out.rl _).mono ?_
                rintro e w6 ⟨rfl, h6, k6⟩
                have o0 : w6.cell? ⟨a, 0, none⟩ = some (.pointer (some ⟨b, 0, none⟩)) ∧ w6.cell? ⟨a, 1, none⟩ = some (.int .i64 (l.gen : Int)) := by
                  obtain ⟨_, _, hc⟩ := h6
                  exact ⟨hc.cells.1, hc.cells.2.1⟩
                refine hK.out _ _ o0 (fun _ => trivial) ?_
                clear hK K
                try simp only [Act.put, List.setIfInBounds_toArray, List.set_cons_zero, List.set_cons_succ]
                have hS := o0
                refine Late.take (i := 25) (oi := ?_) (v := ?_) ?_ (by kernel_rfl) (by kernel_rfl) (by kernel_rfl) (by kernel_rfl) ?_ ?_ (by assumption) (by assumption) ?_
                rotate_left 2
                focus (simp only [List.getElem?_toArray, List.getElem?_cons_succ, List.getElem?_cons_zero]; rfl)
                focus exact fun _ _ _ h => h
                focus (refine Or.inl ⟨by rfl, ?_⟩; intro w hSw; (try dsimp only at hSw); go_split_ands; go_simp; try with_reducible rfl)
                try simp only [Act.put, List.setIfInBounds_toArray, List.set_cons_zero, List.set_cons_succ]
                refine Late.done (by kernel_rfl) ?_ _
                have hF5 : ∀ i, (F2 i ∨ G5 i) → F i ∨ w3.heap.size ≤ i := fun i hi => hi.elim (hF2.out i) (fun hi => (g5.out i hi).elim (fun hg => hF2.out i (hpB.out.fg i hg)) (fun hle => Or.inr (Nat.le_trans kk3.out.size hle)))
                have kk6 : Keeps F w3 w6 := (kk3.out.trans f5.out hF2.out).trans k6 hF5
                clear szz hS hS1 hT d0 d1 e0 e1 n0 o0 h5 f5 g5 k6 kk3 hpA hpB hd5 kk5 hG5 g1' g2' g3' s1' hmk hcv
                replace hF5 := Lib.hid hF5
                replace kk6 := Lib.hid kk6
                have hTW : T = (tell l R.2, R) := by
                  rw [hT.out, hWi.out]
                  unfold laidOut
                  exact if_pos hz.out
                replace h6 := Lib.hid h6
                replace hTW := Lib.hid hTW
                go_wp2_with fail
                go_ret
                rw [hTW.out]
                exact ⟨rfl, _, h6.out, (Keeps.of_below F hb3.out).trans kk6.out (fun i hi => Or.inl hi), fun i hi => (hF5.out i hi).imp id (fun hle => Nat.le_trans hb3.out.size hle)⟩
              case m2x11x20a =>
                go_simp
                refine hK.out _ _ hS1 (fun _ => trivial) ?_
                clear hK K
                try simp only [Act.put, List.setIfInBounds_toArray, List.set_cons_zero, List.set_cons_succ]
                have hS := hS1
                refine Late.ready (rs := [11, 21]) (by kernel_rfl) (by simp) (Late.AllReady.cons (o := ?o1x11x21a) ?e1x11x21a (fun K hK => ?m1x11x21a) (Late.AllReady.cons (o := ?o2x11x21a) ?e2x11x21a (fun K hK => ?m2x11x21a) Late.AllReady.nil))
                case e1x11x21a => (simp only [List.getElem?_toArray, List.getElem?_cons_succ, List.getElem?_cons_zero]; rfl)
                case e2x11x21a => (simp only [List.getElem?_toArray, List.getElem?_cons_succ, List.getElem?_cons_zero]; rfl)
                case m1x11x21a =>
                  rw [if_pos (by kernel_rfl)]
                  go_simp
                  refine (kf.out _ _ hpB.out.rl).mono ?_
                  rintro e w4 ⟨rfl, hw4⟩
                  replace hw4 := hw4.symm
                  subst hw4
                  refine hK.out _ _ hS1 (fun _ => trivial) ?_
                  clear hK K
                  try simp only [Act.put, List.setIfInBounds_toArray, List.set_cons_zero, List.set_cons_succ]
                  refine Late.take (i := 12) (oi := ?_) (v := ?_) ?_ (by kernel_rfl) (by kernel_rfl) (by kernel_rfl) (by kernel_rfl) ?_ ?_ (by assumption) (by assumption) ?_
                  rotate_left 2
                  focus (simp only [List.getElem?_toArray, List.getElem?_cons_succ, List.getElem?_cons_zero]; rfl)
                  focus exact fun _ _ _ h => h
                  focus (refine Or.inl ⟨by rfl, ?_⟩; intro w hSw; (try dsimp only at hSw); go_split_ands; go_simp; try with_reducible rfl)
                  try simp only [Act.put, List.setIfInBounds_toArray, List.set_cons_zero, List.set_cons_succ]
                  refine Late.take (i := 13) (oi := ?_) (v := ?_) ?_ (by kernel_rfl) (by kernel_rfl) (by kernel_rfl) (by kernel_rfl) ?_ ?_ (by assumption) (by assumption) ?_
                  rotate_left 2
                  focus (simp only [List.getElem?_toArray, List.getElem?_cons_succ, List.getElem?_cons_zero]; rfl)
                  focus exact fun _ _ _ h => h
                  focus (refine Or.inl ⟨by rfl, ?_⟩; intro w hSw; (try dsimp only at hSw); go_split_ands; go_simp; try with_reducible rfl)
                  try simp only [Act.put, List.setIfInBounds_toArray, List.set_cons_zero, List.set_cons_succ]
                  refine Late.take (i := 15) (oi := ?_) (v := ?_) ?_ (by kernel_rfl) (by kernel_rfl) (by kernel_rfl) (by kernel_rfl) ?_ ?_ (by assumption) (by assumption) ?_
                  rotate_left 2
                  focus (simp only [List.getElem?_toArray, List.getElem?_cons_succ, List.getElem?_cons_zero]; rfl)
                  focus exact fun _ _ _ h => h
                  focus (refine Or.inl ⟨by rfl, ?_⟩; intro w hSw; (try dsimp only at hSw); go_split_ands; go_simp; try with_reducible rfl)
                  try simp only [Act.put, List.setIfInBounds_toArray, List.set_cons_zero, List.set_cons_succ]
                  refine Late.only (i := 21) (o := ?_) (by kernel_rfl) ?_ (fun K hK => ?_)
                  rotate_left 1
                  focus (simp only [List.getElem?_toArray, List.getElem?_cons_succ, List.getElem?_cons_zero]; rfl)
                  go_simp
                  refine hK.out _ _ hS1 (fun _ => trivial) ?_
                  clear hK K
                  try simp only [Act.put, List.setIfInBounds_toArray, List.set_cons_zero, List.set_cons_succ]
                  have hS := hS1
                  refine Late.take (i := 22) (oi := ?_) (v := ?_) ?_ (by kernel_rfl) (by kernel_rfl) (by kernel_rfl) (by kernel_rfl) ?_ ?_ (by assumption) (by assumption) ?_
                  rotate_left 2
                  focus (simp only [List.getElem?_toArray, List.getElem?_cons_succ, List.getElem?_cons_zero]; rfl)
                  focus exact fun _ _ _ h => h
                  focus (refine Or.inl ⟨by rfl, ?_⟩; intro w hSw; (try dsimp only at hSw); go_split_ands; go_simp; try with_reducible rfl)
                  try simp only [Act.put, List.setIfInBounds_toArray, List.set_cons_zero, List.set_cons_succ]
                  refine Late.only (i := 23) (o := ?_) (by kernel_rfl) ?_ (fun K hK => ?_)
                  rotate_left 1
                  focus (simp only [List.getElem?_toArray, List.getElem?_cons_succ, List.getElem?_cons_zero]; rfl)
                  rw [if_pos (by kernel_rfl)]
                  go_simp
                  refine (hw.out _ _ hpB.out.dk).mono ?_
                  rintro e w5 ⟨rfl, G5, hd5, kk5, hG5⟩
                  have h5 := Lib.hid (hpB.out.disk hd5 kk5 hG5)
                  have n0 := And.intro h5.out.cells.1 h5.out.cells.2.1
                  have f5 := Lib.hid (kk5.mono hpB.out.fg)
                  have g5 := Lib.hid hG5
                  refine hK.out _ _ n0 (fun _ => trivial) ?_
                  clear hK K
                  try simp only [Act.put, List.setIfInBounds_toArray, List.set_cons_zero, List.set_cons_succ]
                  have hS := n0
                  refine Late.only (i := 24) (o := ?_) (by kernel_rfl) ?_ (fun K hK => ?_)
                  rotate_left 1
                  focus (simp only [List.getElem?_toArray, List.getElem?_cons_succ, List.getElem?_cons_zero]; rfl)
                  rw [if_pos (by kernel_rfl)]
                  go_simp
                  refine (rtold_any h5.out.rl _).mono ?_
                  rintro e w6 ⟨rfl, h6, k6⟩
                  have o0 : w6.cell? ⟨a, 0, none⟩ = some (.pointer (some ⟨b, 0, none⟩)) ∧ w6.cell? ⟨a, 1, none⟩ = some (.int .i64 (l.gen : Int)) := by
                    obtain ⟨_, _, hc⟩ := h6
                    exact ⟨hc.cells.1, hc.cells.2.1⟩
                  refine hK.out _ _ o0 (fun _ => trivial) ?_
                  clear hK K
                  try simp only [Act.put, List.setIfInBounds_toArray, List.set_cons_zero, List.set_cons_succ]
                  have hS := o0
                  refine Late.take (i := 25) (oi := ?_) (v := ?_) ?_ (by kernel_rfl) (by kernel_rfl) (by kernel_rfl) (by kernel_rfl) ?_ ?_ (by assumption) (by assumption) ?_
                  rotate_left 2
                  focus (simp only [List.getElem?_toArray, List.getElem?_cons_succ, List.getElem?_cons_zero]; rfl)
                  focus exact fun _ _ _ h => h
                  focus (refine Or.inl ⟨by rfl, ?_⟩; intro w hSw; (try dsimp only at hSw); go_split_ands; go_simp; try with_reducible rfl)
                  try simp only [Act.put, List.setIfInBounds_toArray, List.set_cons_zero, List.set_cons_succ]
                  refine Late.done (by kernel_rfl) ?_ _
                  have hF5 : ∀ i, (F2 i ∨ G5 i) → F i ∨ w3.heap.size ≤ i := fun i hi => hi.elim (hF2.out i) (fun hi => (g5.out i hi).elim (fun hg => hF2.out i (hpB.out.fg i hg)) (fun hle => Or.inr (Nat.le_trans kk3.out.size hle)))
                  have kk6 : Keeps F w3 w6 := (kk3.out.trans f5.out hF2.out).trans k6 hF5
                  clear szz hS hS1 hT d0 d1 e0 e1 n0 o0 h5 f5 g5 k6 kk3 hpA hpB hd5 kk5 hG5 g1' g2' g3' s1' hmk hcv
                  replace hF5 := Lib.hid hF5
                  replace kk6 := Lib.hid kk6
                  have hTW : T = (tell l R.2, R) := by
                    rw [hT.out, hWi.out]
                    unfold laidOut
                    exact if_pos hz.out
                  replace h6 := Lib.hid h6
                  replace hTW := Lib.hid hTW
                  go_wp2_with fail
                  go_ret
                  rw [hTW.out]
                  exact ⟨rfl, _, h6.out, (Keeps.of_below F hb3.out).trans kk6.out (fun i hi => Or.inl hi), fun i hi => (hF5.out i hi).imp id (fun hle => Nat.le_trans hb3.out.size hle)⟩
                case m2x11x21a =>
                  go_simp
                  refine hK.out _ _ hS1 (fun _ => trivial) ?_
                  clear hK K
                  try simp only [Act.put, List.setIfInBounds_toArray, List.set_cons_zero, List.set_cons_succ]
                  have hS := hS1
                  refine Late.take (i := 22) (oi := ?_) (v := ?_) ?_ (by kernel_rfl) (by kernel_rfl) (by kernel_rfl) (by kernel_rfl) ?_ ?_ (by assumption) (by assumption) ?_
                  rotate_left 2
                  focus (simp only [List.getElem?_toArray, List.getElem?_cons_succ, List.getElem?_cons_zero]; rfl)
                  focus exact fun _ _ _ h => h
                  focus (refine Or.inl ⟨by rfl, ?_⟩; intro w hSw; (try dsimp only at hSw); go_split_ands; go_simp; try with_reducible rfl)
                  try simp only [Act.put, List.setIfInBounds_toArray, List.set_cons_zero, List.set_cons_succ]
                  refine Late.only (i := 11) (o := ?_) (by kernel_rfl) ?_ (fun K hK => ?_)
                  rotate_left 1
                  focus (simp only [List.getElem?_toArray, List.getElem?_cons_succ, List.getElem?_cons_zero]; rfl)
                  rw [if_pos (by kernel_rfl)]
                  go_simp
                  refine (kf.out _ _ hpB.out.rl).mono ?_
                  rintro e w4 ⟨rfl, hw4⟩
                  replace hw4 := hw4.symm
                  subst hw4
                  refine hK.out _ _ hS1 (fun _ => trivial) ?_
                  clear hK K
                  try simp only [Act.put, List.setIfInBounds_toArray, List.set_cons_zero, List.set_cons_succ]
                  refine Late.take (i := 12) (oi := ?_) (v := ?_) ?_ (by kernel_rfl) (by kernel_rfl) (by kernel_rfl) (by kernel_rfl) ?_ ?_ (by assumption) (by assumption) ?_
                  rotate_left 2
                  focus (simp only [List.getElem?_toArray, List.getElem?_cons_succ, List.getElem?_cons_zero]; rfl)
                  focus exact fun _ _ _ h => h
                  focus (refine Or.inl ⟨by rfl, ?_⟩; intro w hSw; (try dsimp only at hSw); go_split_ands; go_simp; try with_reducible rfl)
                  try simp only [Act.put, List.setIfInBounds_toArray, List.set_cons_zero, List.set_cons_succ]
                  refine Late.take (i := 13) (oi := ?_) (v := ?_) ?_ (by kernel_rfl) (by kernel_rfl) (by kernel_rfl) (by kernel_rfl) ?_ ?_ (by assumption) (by assumption) ?_
                  rotate_left 2
                  focus (simp only [List.getElem?_toArray, List.getElem?_cons_succ, List.getElem?_cons_zero]; rfl)
                  focus exact fun _ _ _ h => h
                  focus (refine Or.inl ⟨by rfl, ?_⟩; intro w hSw; (try dsimp only at hSw); go_split_ands; go_simp; try with_reducible rfl)
                  try simp only [Act.put, List.setIfInBounds_toArray, List.set_cons_zero, List.set_cons_succ]
                  refine Late.take (i := 15) (oi := ?_) (v := ?_) ?_ (by kernel_rfl) (by kernel_rfl) (by kernel_rfl) (by kernel_rfl) ?_ ?_ (by assumption) (by assumption) ?_
                  rotate_left 2
                  focus (simp only [List.getElem?_toArray, List.getElem?_cons_succ, List.getElem?_cons_zero]; rfl)
                  focus exact fun _ _ _ h => h
                  focus (refine Or.inl ⟨by rfl, ?_⟩; intro w hSw; (try dsimp only at hSw); go_split_ands; go_simp; try with_reducible rfl)
                  try simp only [Act.put, List.setIfInBounds_toArray, List.set_cons_zero, List.set_cons_succ]
                  refine Late.only (i := 23) (o := ?_) (by kernel_rfl) ?_ (fun K hK => ?_)
                  rotate_left 1
                  focus (simp only [List.getElem?_toArray, List.getElem?_cons_succ, List.getElem?_cons_zero]; rfl)
                  rw [if_pos (by kernel_rfl)]
                  go_simp
                  refine (hw.out _ _ hpB.out.dk).mono ?_
                  rintro e w5 ⟨rfl, G5, hd5, kk5, hG5⟩
                  have h5 := Lib.hid (hpB.out.disk hd5 kk5 hG5)
                  have n0 := And.intro h5.out.cells.1 h5.out.cells.2.1
                  have f5 := Lib.hid (kk5.mono hpB.out.fg)
                  have g5 := Lib.hid hG5
                  refine hK.out _ _ n0 (fun _ => trivial) ?_
                  clear hK K
                  try simp only [Act.put, List.setIfInBounds_toArray, List.set_cons_zero, List.set_cons_succ]
                  have hS := n0
                  refine Late.only (i := 24) (o := ?_) (by kernel_rfl) ?_ (fun K hK => ?_)
                  rotate_left 1
                  focus (simp only [List.getElem?_toArray, List.getElem?_cons_succ, List.getElem?_cons_zero]; rfl)
                  rw [if_pos (by kernel_rfl)]
                  go_simp
                  refine (rtold_any h5.out.rl _).mono ?_
                  rintro e w6 ⟨rfl, h6, k6⟩
                  have o0 : w6.cell? ⟨a, 0, none⟩ = some (.pointer (some ⟨b, 0, none⟩)) ∧ w6.cell? ⟨a, 1, none⟩ = some (.int .i64 (l.gen : Int)) := by
                    obtain ⟨_, _, hc⟩ := h6
                    exact ⟨hc.cells.1, hc.cells.2.1⟩
                  refine hK.out _ _ o0 (fun _ => trivial) ?_
                  clear hK K
                  try simp only [Act.put, List.setIfInBounds_toArray, List.set_cons_zero, List.set_cons_succ]
                  have hS := o0
                  refine Late.take (i := 25) (oi := ?_) (v := ?_) ?_ (by kernel_rfl) (by kernel_rfl) (by kernel_rfl) (by kernel_rfl) ?_ ?_ (by assumption) (by assumption) ?_
                  rotate_left 2
                  focus (simp only [List.getElem?_toArray, List.getElem?_cons_succ, List.getElem?_cons_zero]; rfl)
                  focus exact fun _ _ _ h => h
                  focus (refine Or.inl ⟨by rfl, ?_⟩; intro w hSw; (try dsimp only at hSw); go_split_ands; go_simp; try with_reducible rfl)
                  try simp only [Act.put, List.setIfInBounds_toArray, List.set_cons_zero, List.set_cons_succ]
                  refine Late.done (by kernel_rfl) ?_ _
                  have hF5 : ∀ i, (F2 i ∨ G5 i) → F i ∨ w3.heap.size ≤ i := fun i hi => hi.elim (hF2.out i) (fun hi => (g5.out i hi).elim (fun hg => hF2.out i (hpB.out.fg i hg)) (fun hle => Or.inr (Nat.le_trans kk3.out.size hle)))
                  have kk6 : Keeps F w3 w6 := (kk3.out.trans f5.out hF2.out).trans k6 hF5
                  clear szz hS hS1 hT d0 d1 e0 e1 n0 o0 h5 f5 g5 k6 kk3 hpA hpB hd5 kk5 hG5 g1' g2' g3' s1' hmk hcv
                  replace hF5 := Lib.hid hF5
                  replace kk6 := Lib.hid kk6
                  have hTW : T = (tell l R.2, R) := by
                    rw [hT.out, hWi.out]
                    unfold laidOut
                    exact if_pos hz.out
                  replace h6 := Lib.hid h6
                  replace hTW := Lib.hid hTW
                  go_wp2_with fail
                  go_ret
                  rw [hTW.out]
                  exact ⟨rfl, _, h6.out, (Keeps.of_below F hb3.out).trans kk6.out (fun i hi => Or.inl hi), fun i hi => (hF5.out i hi).imp id (fun hle => Nat.le_trans hb3.out.size hle)⟩
          · have qlt : decide (64 * (i : Int) < (B.size : Int)) = false := decide_eq_false (by omega)
            have him : i = many B := by unfold many at hi1 ⊢; omega
            rw [him, Nat.sub_self] at hWi
            have hWi' : WL = (l, d2, 0) := hWi
            have hT2 : T = headed l r B.size (synced l d2) := by rw [hT.out, hWi']; rfl
            obtain ⟨S2, hS2⟩ : ∃ S2, S2 = syncD d2 := ⟨_, rfl⟩
            have hT3 : T = if S2.2 ≠ 0 then (tell l S2.2, S2) else kept l r (headsL l S2.1 l.gen B.size) := by rw [hT2, hS2]; rfl
            have hfS : Fit S2.1 := by rw [hS2]; exact hf2.sync
            have hnS : NumTo (m + (i - f0) + 1) S2.1 := by rw [hS2]; exact hn2'.sync
            have hsy := fun W G' (hd : IsRk G' W b d2) => rsync_any hd (hn2'.num (by have := hmany.out; omega)) hf2
            rw [← hS2] at hsy
            obtain ⟨G2, v2, hp⟩ := hp.out
            have e0 : wr.cell? ⟨a, 0, none⟩ = some (.pointer (some ⟨b, 0, none⟩)) := hp.cells.1
            replace hS2 := Lib.hid hS2
            replace hT2 := Lib.hid hT2
            replace hWi' := Lib.hid hWi'
            replace hlen := Lib.hid hlen
            replace hp := Lib.hid hp
            replace him := Lib.hid him
            have hmb : m + (i - f0) + 1 ≤ 950000 := by have := hmany.out; have := him.out; omega
            clear hWi hn2' hf2 hlt
            by_cases hz : S2.2 = 0
            · rw [if_neg (fun hh => hh hz)] at hT3
              rw [hz] at hsy
              replace hsy := Lib.hid hsy
              replace hz := Lib.hid hz
              replace hT3 := Lib.hid hT3
              go_wp2_with fail
              refine (hsy.out _ _ hp.out.dk).mono ?_
              rintro en w5 ⟨rfl, hd3, k3⟩
              have h3 := hp.out.disk hd3 k3 (fun i hi => Or.inl hi)
              have kk3 := kk.out.trans (k3.mono hp.out.fg) hF2.out
              have hF3 : ∀ i, (F2 i ∨ G2 i) → F i ∨ w3.heap.size ≤ i := fun i hi => hi.elim (hF2.out i) (fun hi => hF2.out i (hp.out.fg i hi))
              clear hd3 k3 e0
              replace h3 := Lib.hid h3
              replace kk3 := Lib.hid kk3
              replace hF3 := Lib.hid hF3
              go_wp2_with fail
              refine (rtold_any h3.out.rl _).mono ?_
              rintro en w4 ⟨rfl, h4, k4⟩
              have kk4 := kk3.out.trans k4 hF3.out
              replace kk4 := Lib.hid kk4
              clear k4 h3 kk3
              rw [tell_zero] at h4
              have kh := rheads_any h4 hfS hnS (by omega) l.gen B.size (by omega) (by omega)
              have hHl := headsL_ok (l := l) (d := S2.1) (g := l.gen) (u := B.size)
              obtain ⟨HH, hHH⟩ : ∃ HH, HH = headsL l S2.1 l.gen B.size := ⟨_, rfl⟩
              rw [← hHH] at kh hHl
              have e1 : w4.cell? ⟨a, 1, none⟩ = some (.int .i64 (l.gen : Int)) := by obtain ⟨_, _, hc⟩ := h4; exact hc.cells.2.1
              have hT4 : T = kept l r HH := by rw [hT3.out, hHH]
              replace hHH := Lib.hid hHH
              replace hT4 := Lib.hid hT4
              replace kh := Lib.hid kh
              clear h4
              by_cases hq : HH.2.2 = 0
              · have hTH : T = ({ l with list := l.list ++ [r] }, HH.2) := by rw [hT4.out]; unfold kept; exact if_neg (fun hh => hh hq)
                have hHl1 := hHl hq
                clear hHl
                replace hTH := Lib.hid hTH
                replace hHl1 := Lib.hid hHl1
                have kh2 := kh.out.mono (fun e w' (hh : QPost _ _ _ _ HH e w') => And.intro (hh.1.trans (show Ending.returned (.int .i64 HH.2.2) = .returned (.int .i64 0) by rw [hq])) hh.2)
                replace kh := Lib.hid kh2
                clear kh2
                replace hq := Lib.hid hq
                go_wp2_with fail
                refine kh.out.mono ?_
                rintro en w5 ⟨rfl, F5, h5, k5, hF5⟩
                rw [hHl1.out] at h5
                have kk5 := kk4.out.trans k5 hF3.out
                have hF6 : ∀ i, F5 i → F i ∨ w3.heap.size ≤ i := fun i hi => (hF5 i hi).elim (hF3.out i) (fun hle => Or.inr (Nat.le_trans kk4.out.size hle))
                obtain ⟨G5, v5, h5⟩ := h5
                obtain ⟨A5, c5, rfl⟩ := own_slice h5.row
                have e2 := h5.cells.2.2.1
                have f2 := h5.blk.free 2
                have k9 := (Keeps.refl (fun j => j = a) w5).put (g := a) (Or.inl rfl) 2 (.slice A1 (l.list.length + 1) c1)
                have hB9 : Blk (w5.setCell ⟨a, 2, none⟩ (.slice A1 (l.list.length + 1) c1)) a 51 (rlc b (.slice A1 (l.list.length + 1) c1) ⟨l.gen, l.list ++ [r], l.dead⟩) := h5.blk.put 2 (.slice A1 (l.list.length + 1) c1)
                have hlt3 : ∀ j, (Value.slice A1 (l.list.length + 1) c1).ownBlock = some j → w2.heap.size ≤ j ∧ j < w3.heap.size := fun j e => row3.out.lt j e
                have hFw : ∀ j, F j → j < w2.heap.size := fun j hj => Nat.lt_of_lt_of_le (hc0.out.lt j hj) hb2.out.size
                have row5 := own_keeps row3.out kk5 (fun j e hj => by have := (hlt3 j e).1; have := hFw j hj; omega)
                have haw : a < w2.heap.size := hFw a hc0.out.fa
                have o9 := own_far (P := a) (i := 2) (u := .slice A1 (l.list.length + 1) c1) row5 (fun j e => by have := (hlt3 j e).1; omega)
                have hl2 : (⟨l.gen, l.list ++ [r], l.dead⟩ : Lg).list.length = l.list.length + 1 := by simp
                have fin := RC.relist (H := w2.heap.size) (v2 := .slice A1 (l.list.length + 1) c1) (l2 := ⟨l.gen, l.list ++ [r], l.dead⟩) h5 (by rw [hl2, List.map_append]; exact o9) (fun j e hj => by
                  have h1 := hlt3 j e
                  rcases hF6 j hj with hj | hj
                  · have := hFw j hj; omega
                  · omega) hB9 k9
                have kk9 := kk5.trans fin.2 hF6
                have hF9 : ∀ i, (F5 i ∨ (Value.slice A1 (l.list.length + 1) c1).ownBlock = some i) → F i ∨ w.heap.size ≤ i := fun i hi => hi.elim (fun hi => (hF6 i hi).imp id (fun hle => Nat.le_trans hb3.out.size hle)) (fun e => Or.inr (Nat.le_trans hb2.out.size (hlt3 i e).1))
                have p9 := fin.1
                replace kk9 := Lib.hid kk9
                replace hF9 := Lib.hid hF9
                replace p9 := Lib.hid p9
                clear fin k9 hl2 hB9 o9 hlt3 hFw row5 haw hF6 kk5 k5 hF5 h5
                go_wp2_with fail
                go_ret
                rw [hTH.out]
                exact ⟨by rw [hq.out]; rfl, _, p9.out, (Keeps.of_below F hb3.out).trans kk9.out (fun i hi => Or.inl hi), hF9.out⟩
              · have hTH : T = HH := by rw [hT4.out]; unfold kept; exact if_pos hq
                have hq' : (HH.2.2 != 0) = true := by simpa using hq
                have hq2 : (HH.2.2 == 0) = false := by simpa using hq
                replace hTH := Lib.hid hTH
                clear hHl hq
                go_wp2_with fail
                refine kh.out.mono ?_
                rintro en w5 ⟨rfl, F5, h5, k5, hF5⟩
                have kk5 := kk4.out.trans k5 hF3.out
                have hF6 : ∀ i, F5 i → F i ∨ w3.heap.size ≤ i := fun i hi => (hF5 i hi).elim (hF3.out i) (fun hle => Or.inr (Nat.le_trans kk4.out.size hle))
                replace h5 := Lib.hid h5
                replace kk5 := Lib.hid kk5
                replace hF6 := Lib.hid hF6
                clear k5 hF5
                go_wp2_with fail
                go_ret
                rw [hTH.out]
                exact ⟨rfl, _, h5.out, (Keeps.of_below F hb3.out).trans kk5.out (fun i hi => Or.inl hi), fun i hi => (hF6.out i hi).imp id (fun hle => Nat.le_trans hb3.out.size hle)⟩
            · rw [if_pos hz] at hT3
              have hz' : (S2.2 != 0) = true := by simpa using hz
              have hz2 : (S2.2 == 0) = false := by simpa using hz
              replace hsy := Lib.hid hsy
              replace hz := Lib.hid hz
              replace hT3 := Lib.hid hT3
              go_wp2_with fail
              refine (hsy.out _ _ hp.out.dk).mono ?_
              rintro en w5 ⟨rfl, hd3, k3⟩
              have h3 := hp.out.disk hd3 k3 (fun i hi => Or.inl hi)
              have kk3 := kk.out.trans (k3.mono hp.out.fg) hF2.out
              have hF3 : ∀ i, (F2 i ∨ G2 i) → F i ∨ w3.heap.size ≤ i := fun i hi => hi.elim (hF2.out i) (fun hi => hF2.out i (hp.out.fg i hi))
              clear hd3 k3 e0
              replace h3 := Lib.hid h3
              replace kk3 := Lib.hid kk3
              replace hF3 := Lib.hid hF3
              go_wp2_with fail
              refine (rtold_any h3.out.rl _).mono ?_
              rintro en w4 ⟨rfl, h4, k4⟩
              have kk4 := kk3.out.trans k4 hF3.out
              replace kk4 := Lib.hid kk4
              clear k4 h3 kk3
              replace h4 := Lib.hid h4
              go_wp2_with fail
              go_ret
              rw [hT3.out]
              exact ⟨rfl, _, h4.out, (Keeps.of_below F hb3.out).trans kk4.out (fun i hi => Or.inl hi), fun i hi => (hF3.out i hi).imp id (fun hle => Nat.le_trans hb3.out.size hle)⟩
end
end Go.Proofs.YtojhlijcinenoaaGreatDoor.Nv

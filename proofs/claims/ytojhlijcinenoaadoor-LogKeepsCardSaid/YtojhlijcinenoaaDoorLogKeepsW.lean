/- LogKeeps: the walk. -/
import Derived.Test.YtojhlijcinenoaaDoorNvFixed
import Derived.Test.YtojhlijcinenoaaDoorNvHandB
import Derived.Test.YtojhlijcinenoaaDoorNvPl
import Derived.Test.YtojhlijcinenoaaDoorDoorO
import Derived.Test.YtojhlijcinenoaaDoorLate
import Derived.Test.YtojhlijcinenoaaDoorAppendRow
import Derived.BigQuiet
import Derived.Deep.AppendLies
import Derived.Deep.DeepCutAuto
namespace Go.Proofs.YtojhlijcinenoaaDoor.Nv
open Go Go.RowKit Go.Maps Mem Disk Door
def KX (w : World) (v0 v1 : Value) (P : Option Nat) (i : Nat) : Prop := i < w.heap.size ∨ v0.ownBlock = some i ∨ v1.ownBlock = some i ∨ P = some i
set_option maxRecDepth 100000 in
theorem Hl.sub {X Y : Nat → Prop} {N m : Nat} {w : World} {a b : Nat} {l : Lg} {d : Dk} (h : Hl X N m w a b l d) (hY : ∀ i, Y i → X i) : Hl Y N m w a b l d := h.also (Below.refl _ _) fun i hi => Or.inl (hY i hi)
/-- where the law's loop stands -/
structure KeepAt (w : World) (N j : Nat) (wr : World) (a b g : Nat) (L : List ByteArray) (d : Dk) (v : Value) : Prop where
  h : Hl (KX w v v none) N (2 + 30 * j) wr a b ⟨g, L, false⟩ d
  lgs : Lgs N d g L
  few : L.length ≤ j
  row : wr.ownsRow w.heap.size 9 1 v L.length (L.map Value.string)
  hb : Below w.heap.size w wr
/-- behind a call of the script -/
structure MidAt (w : World) (N j : Nat) (wr : World) (a b : Nat) (g0 : Nat) (L0 : List ByteArray) (v0 : Value) (g1 : Nat) (L1 : List ByteArray) (v1 : Value) (l : Lg) (d : Dk) : Prop where
  h : Hl (KX w v0 v1 none) N (2 + 30 * j + 30) wr a b l d
  row0 : wr.ownsRow w.heap.size 9 1 v0 L0.length (L0.map Value.string)
  row1 : wr.ownsRow w.heap.size 9 1 v1 L1.length (L1.map Value.string)
  few0 : L0.length ≤ j + 1
  few1 : L1.length ≤ j + 1
  hb : Below w.heap.size w wr
  st : (d.dead = false ∧ l = ⟨g0, L0, false⟩ ∧ Lgs N d g0 L0) ∨ (d.dead = true ∧ Torn N d (fun g' L' => (g' = g0 ∧ L' = L0) ∨ (g' = g1 ∧ L' = L1)))
/-- a list with one more, in new memory -/
structure AppAt (w3 wx : World) (L : List ByteArray) (s : ByteArray) (A : Option Addr) (c : Nat) : Prop where
  row : wx.ownsRow w3.heap.size 9 1 (.slice A (L.length + 1) c) (L.length + 1) (L.map Value.string ++ [.string s])
  hb : Below w3.heap.size w3 wx
set_option maxRecDepth 100000 in
theorem MidAt.same {w : World} {N j : Nat} {wr wx : World} {a b g : Nat} {L : List ByteArray} {d d2 : Dk} {v : Value} {P : Option Nat} (st : KeepAt w N j wr a b g L d v) {m : Nat} (hm : m ≤ 2 + 30 * j + 30)
    (h : Hl (KX w v v P) N m wx a b ⟨g, L, false⟩ d2) (row : wx.ownsRow w.heap.size 9 1 v L.length (L.map Value.string)) (hb : Below w.heap.size w wx) (lgs : Lgs N d2 g L) : MidAt w N j wx a b g L v g L v ⟨g, L, false⟩ d2 :=
  ⟨(h.more hm).sub (fun i hi => hi.imp id (fun hi => hi.imp id (fun hi => hi.imp id (fun hi => by cases hi)))), row, row, Nat.le_succ_of_le st.few, Nat.le_succ_of_le st.few, hb, Or.inl ⟨lgs.dead, rfl, lgs⟩⟩
set_option maxRecDepth 100000 in
theorem MidAt.took {w : World} {N j : Nat} {wr w3 wx : World} {a b g : Nat} {L : List ByteArray} {d d2 : Dk} {v : Value} {P : Option Nat} {s : ByteArray} {A : Option Addr} {c : Nat} (st : KeepAt w N j wr a b g L d v)
    (h : Hl (KX w v v P) N (2 + 30 * j + 30) w3 a b ⟨g, L ++ [s], false⟩ d2) (hb : Below w.heap.size w w3) (ap : AppAt w3 wx L s A c) (lgs : Lgs N d2 g (L ++ [s])) :
    MidAt w N j wx a b g (L ++ [s]) (.slice A (L.length + 1) c) g (L ++ [s]) (.slice A (L.length + 1) c) ⟨g, L ++ [s], false⟩ d2 := by
  have hr : wx.ownsRow w.heap.size 9 1 (.slice A (L.length + 1) c) (L ++ [s]).length ((L ++ [s]).map Value.string) := by
    rw [List.length_append, List.length_singleton, List.map_append]
    exact own_base ap.row hb.size
  have hl := ap.row.lt
  have hf : (L ++ [s]).length ≤ j + 1 := by have := st.few; rw [List.length_append, List.length_singleton]; omega
  refine ⟨h.also ap.hb (fun i hi => ?_), hr, hr, hf, hf, hb.trans (ap.hb.mono hb.size), Or.inl ⟨lgs.dead, rfl, lgs⟩⟩
  rcases hi with hi | hi | hi | hi
  · exact Or.inl (Or.inl hi)
  · exact Or.inr (hl i hi)
  · exact Or.inr (hl i hi)
  · cases hi
set_option maxRecDepth 100000 in
theorem MidAt.torn {w : World} {N j : Nat} {wr w3 wx : World} {a b g : Nat} {L : List ByteArray} {d d2 : Dk} {l : Lg} {v : Value} {P : Option Nat} {s : ByteArray} {A : Option Addr} {c : Nat} (st : KeepAt w N j wr a b g L d v)
    (h : Hl (KX w v v P) N (2 + 30 * j + 30) w3 a b l d2) (row : w3.ownsRow w.heap.size 9 1 v L.length (L.map Value.string)) (hb : Below w.heap.size w w3) (ap : AppAt w3 wx L s A c) (t : Torn N d2 (fun g' L' => g' = g ∧ (L' = L ∨ L' = L ++ [s]))) :
    MidAt w N j wx a b g L v g (L ++ [s]) (.slice A (L.length + 1) c) l d2 := by
  have hr : wx.ownsRow w.heap.size 9 1 (.slice A (L.length + 1) c) (L ++ [s]).length ((L ++ [s]).map Value.string) := by
    rw [List.length_append, List.length_singleton, List.map_append]
    exact own_base ap.row hb.size
  have hl := ap.row.lt
  have hf : (L ++ [s]).length ≤ j + 1 := by have := st.few; rw [List.length_append, List.length_singleton]; omega
  refine ⟨h.also ap.hb (fun i hi => ?_), own_keeps row (Keeps.of_below (fun _ => False) ap.hb) (fun _ _ h => h), hr, Nat.le_succ_of_le st.few, hf, hb.trans (ap.hb.mono hb.size), Or.inr ⟨t.dead, ?_⟩⟩
  · rcases hi with hi | hi | hi | hi
    · exact Or.inl (Or.inl hi)
    · exact Or.inl (Or.inr (Or.inl hi))
    · exact Or.inr (hl i hi)
    · cases hi
  · obtain ⟨Q, t1, t2⟩ := t
    refine ⟨Q, t1, fun cur hc => ?_⟩
    obtain ⟨g', L', ⟨e1, e2⟩, h'⟩ := t2 cur hc
    exact ⟨g', L', e2.imp (fun e => ⟨e1, e⟩) (fun e => ⟨e1, e⟩), h'⟩
set_option maxRecDepth 100000 in
theorem MidAt.gone {w : World} {N j : Nat} {wr wx : World} {a b g : Nat} {L : List ByteArray} {d d2 : Dk} {v : Value} {P : Option Nat} (st : KeepAt w N j wr a b g L d v) {m : Nat} (hm : m ≤ 2 + 30 * j + 30)
    (h : Hl (KX w v v P) N m wx a b ⟨g, L, false⟩ d2) (row : wx.ownsRow w.heap.size 9 1 v L.length (L.map Value.string)) (hb : Below w.heap.size w wx) (t : Torn N d2 (fun g' L' => g' = g ∧ L' = L)) : MidAt w N j wx a b g L v g L v ⟨g, L, false⟩ d2 :=
  ⟨(h.more hm).sub (fun i hi => hi.imp id (fun hi => hi.imp id (fun hi => hi.imp id (fun hi => by cases hi)))), row, row, Nat.le_succ_of_le st.few, Nat.le_succ_of_le st.few, hb, Or.inr ⟨t.dead, by
    obtain ⟨Q, t1, t2⟩ := t
    exact ⟨Q, t1, fun cur hc => by
      obtain ⟨g', L', e, h'⟩ := t2 cur hc
      exact ⟨g', L', Or.inl e, h'⟩⟩⟩⟩
/-- begun anew: an empty list in new memory -/
structure NilAt (w3 wx : World) (A : Option Addr) (c : Nat) : Prop where
  row : wx.ownsRow w3.heap.size 9 1 (.slice A 0 c) 0 []
  hb : Below w3.heap.size w3 wx
set_option maxRecDepth 100000 in
theorem MidAt.anew {w : World} {N j : Nat} {wr w3 wx : World} {a b g n : Nat} {L : List ByteArray} {d d2 : Dk} {v : Value} {P : Option Nat} {A : Option Addr} {c : Nat} (_st : KeepAt w N j wr a b g L d v) {m : Nat} (hm : m ≤ 2 + 30 * j + 30)
    (h : Hl (KX w v v P) N m w3 a b ⟨n, [], false⟩ d2) (hb : Below w.heap.size w w3) (ap : NilAt w3 wx A c) (lgs : Lgs N d2 n []) :
    MidAt w N j wx a b n [] (.slice A 0 c) n [] (.slice A 0 c) ⟨n, [], false⟩ d2 := by
  have hr := own_base ap.row hb.size
  have hl := ap.row.lt
  refine ⟨(h.more hm).also ap.hb (fun i hi => ?_), hr, hr, Nat.zero_le _, Nat.zero_le _, hb.trans (ap.hb.mono hb.size), Or.inl ⟨lgs.dead, rfl, lgs⟩⟩
  rcases hi with hi | hi | hi | hi
  · exact Or.inl (Or.inl hi)
  · exact Or.inr (hl i hi)
  · exact Or.inr (hl i hi)
  · cases hi
set_option maxRecDepth 100000 in
theorem MidAt.torn0 {w : World} {N j : Nat} {wr w3 wx : World} {a b g n : Nat} {L : List ByteArray} {d d2 : Dk} {l : Lg} {v : Value} {P : Option Nat} {A : Option Addr} {c : Nat} (st : KeepAt w N j wr a b g L d v) {m : Nat} (hm : m ≤ 2 + 30 * j + 30)
    (h : Hl (KX w v v P) N m w3 a b l d2) (row : w3.ownsRow w.heap.size 9 1 v L.length (L.map Value.string)) (hb : Below w.heap.size w w3) (ap : NilAt w3 wx A c) (t : Torn N d2 (fun g' L' => (g' = g ∧ L' = L) ∨ (g' = n ∧ L' = []))) :
    MidAt w N j wx a b g L v n [] (.slice A 0 c) l d2 := by
  have hr := own_base ap.row hb.size
  have hl := ap.row.lt
  refine ⟨(h.more hm).also ap.hb (fun i hi => ?_), own_keeps row (Keeps.of_below (fun _ => False) ap.hb) (fun _ _ h => h), hr, Nat.le_succ_of_le st.few, Nat.zero_le _, hb.trans (ap.hb.mono hb.size), Or.inr ⟨t.dead, t⟩⟩
  rcases hi with hi | hi | hi | hi
  · exact Or.inl (Or.inl hi)
  · exact Or.inl (Or.inr (Or.inl hi))
  · exact Or.inr (hl i hi)
  · cases hi
set_option maxRecDepth 100000 in
theorem KeepX.blk_ {X : Nat → Prop} {w w' : World} {g : Nat} {t : TypeId} {cs : Array Value} (h : Blk w g t cs) (k : KeepX X w w') (hg : X g) : Blk w' g t cs := h.keeps k (fun hn => hn hg)
set_option maxRecDepth 100000 in
theorem append_kind (l : Lg) (d : Dk) (r : ByteArray) (hd : l.dead = false) (h : ¬ (r.size ≤ 1300 ∧ 2 + (r.size : Int) ≤ roomL l d)) : appendL l d r = (l, d, 71) ∨ appendL l d r = (l, d, 72) := by
  unfold appendL
  by_cases h1 : 1300 < r.size
  · exact Or.inl (if_pos h1)
  · rw [if_neg h1, if_neg (by rw [hd]; decide)]
    exact Or.inr (if_pos (by omega))
set_option maxRecDepth 100000 in
theorem rsame_self (A B : Option Addr) (n c d : Nat) (xs : List ByteArray) (w : World) (hx : Row w A n (xs.map Value.string)) (hy : Row w B n (xs.map Value.string)) (hn : n ≤ 9223372036854775807) :
    Calls Tryd.prog 15 #[.slice A n c, .slice B n d] w fun e w' => e = .returned (.bool true) ∧ ∃ q, w' = w.drewN q := by
  have := rsame_any A B n n c d xs xs w hx hy hn
  rwa [decide_eq_true rfl] at this
set_option maxRecDepth 100000 in
set_option maxHeartbeats 32000000 in
theorem logkeeps_any (sec : Int) (A : Option Addr) (n c : Nat) (w : World) (hops : Ops5 (fun _ => True) (fun _ => True) w A n) (hn : n ≤ 9223372036854775807) :
    Calls Tryd.prog 5 #[.int .i64 sec, .slice A n c] w fun e w' => e = .returned (.bool true) ∧ Below w.heap.size w w' := by
  have kf := Lib.hid (fun W => fixed_any W)
  by_cases h5 : clamp100 sec < 5
  · have k0 := Lib.hid (laid_no sec 0 w (Or.inl h5))
    clear h5 hops
    go_enter Tryd.func5, Tryd.ntmps5
    go_wp2_with fail
    refine k0.out.mono ?_
    rintro e w1 ⟨b, c, rfl, hb⟩
    have hb1 := Lib.hid (hb.alloc hb.size (.cells #[] 9))
    clear k0 hb
    go_wp2_with fail
    generalize w1.alloc (.cells #[] 9) = w2 at hb1 ⊢
    go_loopw [6, 12] (fun lv iv wr => lv = .pointer none ∧ iv = .int .i64 0 ∧ wr = w2) (fun _ _ _ => 0)
    case atStart => exact ⟨rfl, rfl, rfl⟩
    case round =>
      obtain ⟨rfl, rfl, rfl⟩ := hrel
      go_wp2_with fail
      refine (kf.out _).mono ?_
      rintro e w3 ⟨rfl, hb2⟩
      have hb3 := Lib.hid (hb1.out.trans (hb2.mono hb1.out.size))
      clear hb2
      go_wp2_with fail
      go_ret
      exact ⟨rfl, hb3.out⟩
  · have k0 := Lib.hid (laid_yes sec 0 w (by omega) (by decide))
    obtain ⟨hN1, hN2⟩ := clamp100_le sec
    have q1 := Lib.hid (laid_lgs (N := clamp100 sec) (g := 0) hN1 (by omega) (by decide))
    have q2 := Lib.hid (laidD_ok (N := clamp100 sec) hN1 (by omega) 0).2.2
    have hN5 : 5 ≤ clamp100 sec := by omega
    obtain ⟨iT, hinf, hz0, hz1, hz2⟩ := info_parts infoStr_
    replace hops := Lib.hid hops
    clear h5
    go_enter Tryd.func5, Tryd.ntmps5
    go_wp2_with fail
    refine k0.out.mono ?_
    rintro e w1 ⟨a, b, k, cc, rfl, h, hb⟩
    have h1 := (show Bothl w w1 a b k cc ⟨0, [], false⟩ _ from h).hand q2.out hb
    have al : Below w1.heap.size w1 (w1.alloc (.cells #[] 9)) := (Below.refl _ w1).alloc (Nat.le_refl _) _
    have own0 : (w1.alloc (.cells #[] 9)).ownsRow w.heap.size 9 1 (.slice (some ⟨w1.heap.size, 0, none⟩) 0 0) 0 [] := World.ownsRow_made w1 #[] 0 hb.size (by decide) rfl
    have st : KeepAt w (clamp100 sec) 0 (w1.alloc (.cells #[] 9)) a b 0 [] (laidD (clamp100 sec) 0) (.slice (some ⟨w1.heap.size, 0, none⟩) 0 0) := ⟨h1.also al (fun i hi => by
        rcases hi with hi | hi | hi | hi
        · exact Or.inl hi
        · have : i = w1.heap.size := by injection hi with hi; exact hi.symm
          exact Or.inr ⟨Nat.le_of_eq this.symm, by rw [this]; simp⟩
        · have : i = w1.heap.size := by injection hi with hi; exact hi.symm
          exact Or.inr ⟨Nat.le_of_eq this.symm, by rw [this]; simp⟩
        · cases hi), q1.out, Nat.le_refl _, own0, hb.trans (al.mono hb.size)⟩
    clear k0 q1 q2 h hb h1 al own0
    generalize laidD (clamp100 sec) 0 = d0 at st
    generalize clamp100 sec = N at hN1 hN2 hN5 st
    go_wp2_with fail
    generalize w1.alloc (.cells #[] 9) = w2 at st ⊢
    go_loopw [6, 10, 11, 12] (fun lv hv gv iv wr => ∃ (j a g : Nat) (L : List ByteArray) (d : Dk) (A0 : Option Addr) (c0 : Nat), j ≤ n ∧ j ≤ 200 ∧ lv = .pointer (some ⟨a, 0, none⟩) ∧ hv = .slice A0 L.length c0 ∧ gv = .int .i64 (g : Int) ∧ iv = .int .i64 (j : Int) ∧ KeepAt w N j wr a b g L d (.slice A0 L.length c0)) (fun _ _ _ iv _ => n - (intOf iv).toNat)
    case atStart => exact ⟨0, a, 0, [], _, _, 0, Nat.zero_le _, Nat.zero_le _, rfl, rfl, rfl, rfl, st⟩
    case round =>
      clear st
      obtain ⟨j, a, g, L, d, A0, c0, hjn, hj2, rfl, rfl, rfl, rfl, st⟩ := hrel
      by_cases hgo : j < n ∧ j < 200
      · obtain ⟨hlt1, hlt2⟩ := hgo
        obtain ⟨ad, x, y, s, t, bb, rfl, hy, _, _, hat⟩ := hops.out.at_ hlt1
        obtain ⟨m0, m1, m2, m3, m4⟩ := hat wr st.hb
        have z1 : (0 : Int) ≤ (j : Int) := by omega
        have z2 : (j : Int) < (n : Int) := by omega
        have d200 : decide ((j : Int) < 200) = true := decide_eq_true (by omega)
        go_upto_region 9 with fail
        obtain ⟨P, hP⟩ : ∃ P, P = wr.heap.size := ⟨_, rfl⟩
        obtain ⟨W, hW⟩ : ∃ W, W = wr.alloc (.cells #[.int .i64 x, .int .i64 y, .string s, .string t, .bool bb] 51) := ⟨_, rfl⟩
        have hWb : Below wr.heap.size wr W := by rw [hW]; exact (Below.refl _ wr).alloc (Nat.le_refl _) _
        have hB : Blk W P 51 #[.int .i64 x, .int .i64 y, .string s, .string t, .bool bb] := by rw [hW, hP]; exact Blk.new wr _ _
        rw [← hW, ← hP]
        have h1 : Hl (KX w (.slice A0 L.length c0) (.slice A0 L.length c0) (some P)) N (2 + 30 * j) W a b ⟨g, L, false⟩ d := st.h.also hWb (fun i hi => by
          rcases hi with hi | hi | hi | hi
          · exact Or.inl (Or.inl hi)
          · exact Or.inl (Or.inr (Or.inl hi))
          · exact Or.inl (Or.inr (Or.inr (Or.inl hi)))
          · injection hi with hi
            rw [← hi]
            exact Or.inr ⟨Nat.le_of_eq hP.symm, hB.lt⟩)
        have row1 := own_keeps st.row (Keeps.of_below (fun _ => False) hWb) (fun _ _ h => h)
        have hb1 := st.hb.trans (hWb.mono st.hb.size)
        have hfew := st.few
        clear hW hP hWb m0 m1 m2 m3 m4 hat d200 z1 z2
        have c0' : W.cell? ⟨P, 0, none⟩ = some (.int .i64 x) := hB.cell 0
        have lgs := Lib.hid st.lgs
        replace st := Lib.hid st
        replace h1 := Lib.hid h1
        replace row1 := Lib.hid row1
        replace hb1 := Lib.hid hb1
        replace hB := Lib.hid hB
        go_upto_block 2 with fail
        clear c0'
        go_cut [10, 11, 14, 15] (fun hv gv nv mv wx => ∃ (g0 : Nat) (L0 : List ByteArray) (A1 : Option Addr) (c1 : Nat) (g1 : Nat) (L1 : List ByteArray) (A2 : Option Addr) (c2 : Nat) (l2 : Lg) (d2 : Dk), hv = .slice A1 L0.length c1 ∧ gv = .int .i64 (g0 : Int) ∧ nv = .slice A2 L1.length c2 ∧ mv = .int .i64 (g1 : Int) ∧ MidAt w N j wx a b g0 L0 (.slice A1 L0.length c1) g1 L1 (.slice A2 L1.length c2) l2 d2)
        case first =>
          have hc1 : W.cell? ⟨P, 1, none⟩ = some (.int .i64 y) := hB.out.cell 1
          have hc2 : W.cell? ⟨P, 2, none⟩ = some (.string s) := hB.out.cell 2
          have hc3 : W.cell? ⟨P, 3, none⟩ = some (.string t) := hB.out.cell 3
          by_cases e0 : x = 0
          · have hx0 : (x == 0) = true := by simpa using e0
            replace e0 := Lib.hid e0
            have kapp := hlappend h1.out (by omega) lgs.out.fits (by show L.length ≤ _; omega) s
            by_cases hfit : s.size ≤ 1300 ∧ 2 + (s.size : Int) ≤ roomL ⟨g, L, false⟩ d
            · have hap := append_lv lgs.out h1.out.fn hN5 hfit.1 hfit.2
              generalize appendL ⟨g, L, false⟩ d s = R at kapp hap
              obtain ⟨l2, d2, e2⟩ := R
              rcases hap with ⟨r1, r2, r3⟩ | ⟨r1, r2, r3⟩
              · have r1' : e2 = 0 := r1
                have r2' : l2 = ⟨g, L ++ [s], false⟩ := r2
                subst r1' r2'
                replace kapp := Lib.hid kapp
                replace r3 := Lib.hid r3
                clear r1 r2 hfit hc1 hc3
                go_wp2_with fail
                refine kapp.out.mono ?_
                rintro e w3 ⟨rfl, h3, k3⟩
                have hB3 := Lib.hid (KeepX.blk_ hB.out k3 (Or.inr (Or.inr (Or.inr rfl))))
                have row3 := Lib.hid (k3.row row1.out (fun j e => Or.inr (Or.inl e)))
                have hb3 := Lib.hid (hb1.out.trans (k3.toBelow (fun i hi => Or.inl hi) hb1.out.size))
                replace h3 := Lib.hid h3
                clear k3 h1 row1 hb1 hB
                clear hc2
                have hc2 : w3.cell? ⟨P, 2, none⟩ = some (.string s) := hB3.out.cell 2
                go_upto_region 14 with fail
                go_cut [14] (fun nv wx => ∃ (A1 : Option Addr) (c1 : Nat), nv = .slice A1 (L.length + 1) c1 ∧ AppAt w3 wx L s A1 c1)
                case first =>
                  refine Late.start (S := fun W' => W'.cell? ⟨P, 2, none⟩ = some (.string s)) (T := fun _ => True) (late := []) (by kernel_rfl) ?_
                  have hT : True := trivial
                  have bb0 : Below w3.heap.size w3 w3.drew := (Below.refl _ w3).drew
                  have hBb0 : Blk w3.drew P 51 #[.int .i64 x, .int .i64 y, .string s, .string t, .bool bb] := hB3.out
                  have rw0 : Row w3.drew A0 L.length (L.map Value.string) := (Row.of_own row3.out).below bb0
                  have hS : w3.drew.cell? ⟨P, 2, none⟩ = some (.string s) := hBb0.cell 2
                  have hPV : P < w3.heap.size := hB3.out.lt
                  generalize w3.drew = V0 at bb0 hBb0 rw0 hS ⊢
                  refine Late.take (i := 1) (oi := ?_) (v := ?_) ?_ (by kernel_rfl) (by kernel_rfl) (by kernel_rfl) (by kernel_rfl) ?_ ?_ (by assumption) (by assumption) ?_
                  rotate_left 2
                  focus (simp only [List.getElem?_toArray, List.getElem?_cons_succ, List.getElem?_cons_zero]; rfl)
                  focus exact fun _ _ _ h => h
                  focus (refine Or.inl ⟨by rfl, ?_⟩; intro w hSw; (try dsimp only at hSw); go_split_ands; go_simp; try with_reducible rfl)
                  try simp only [Act.put, List.setIfInBounds_toArray, List.set_cons_zero, List.set_cons_succ]
                  refine Late.take (i := 3) (oi := ?_) (v := ?_) ?_ (by kernel_rfl) (by kernel_rfl) (by kernel_rfl) (by kernel_rfl) ?_ ?_ (by assumption) (by assumption) ?_
                  rotate_left 2
                  focus (simp only [List.getElem?_toArray, List.getElem?_cons_succ, List.getElem?_cons_zero]; rfl)
                  focus exact fun _ _ _ h => h
                  focus (refine Or.inl ⟨by rfl, ?_⟩; intro w hSw; (try dsimp only at hSw); go_split_ands; go_simp; try with_reducible rfl)
                  try simp only [Act.put, List.setIfInBounds_toArray, List.set_cons_zero, List.set_cons_succ]
                  refine Late.take (i := 4) (oi := ?_) (v := ?_) ?_ (by kernel_rfl) (by kernel_rfl) (by kernel_rfl) (by kernel_rfl) ?_ ?_ (by assumption) (by assumption) ?_
                  rotate_left 2
                  focus (simp only [List.getElem?_toArray, List.getElem?_cons_succ, List.getElem?_cons_zero]; rfl)
                  focus exact fun _ _ _ h => h
                  focus (refine Or.inl ⟨by rfl, ?_⟩; intro w hSw; (try dsimp only at hSw); go_split_ands; go_simp; try with_reducible rfl)
                  try simp only [Act.put, List.setIfInBounds_toArray, List.set_cons_zero, List.set_cons_succ]
                  refine Late.ready (rs := [0, 5]) (by kernel_rfl) (by simp) (Late.AllReady.cons (o := ?o1x0x5b) ?e1x0x5b (fun K hK => ?m1x0x5b) (Late.AllReady.cons (o := ?o2x0x5b) ?e2x0x5b (fun K hK => ?m2x0x5b) Late.AllReady.nil))
                  case e1x0x5b => (simp only [List.getElem?_toArray, List.getElem?_cons_zero]; rfl)
                  case e2x0x5b => (simp only [List.getElem?_toArray, List.getElem?_cons_succ, List.getElem?_cons_zero]; rfl)
                  case m1x0x5b =>
                    go_simp
                    have o1a : (V0.alloc (.cells #[] 9)).ownsRow w3.heap.size 9 1 (.slice (some ⟨V0.heap.size, 0, none⟩) 0 0) 0 [] := World.ownsRow_made V0 #[] 0 bb0.size (by decide) rfl
                    have bba := bb0.alloc bb0.size (.cells #[] 9)
                    have hBba := hBb0.alloc (.cells #[] 9)
                    have rwa := rw0.below ((Below.refl _ V0).alloc (Nat.le_refl _) (.cells #[] 9))
                    have hSa := hBba.cell 2
                    refine hK.out _ _ hSa (fun _ => trivial) ?_
                    clear hK K
                    try simp only [Act.put, List.setIfInBounds_toArray, List.set_cons_zero, List.set_cons_succ]
                    generalize V0.alloc (.cells #[] 9) = Va at o1a bba hBba rwa hSa ⊢
                    refine Late.ready (rs := [2, 5]) (by kernel_rfl) (by simp) (Late.AllReady.cons (o := ?o1x2x5b) ?e1x2x5b (fun K hK => ?m1x2x5b) (Late.AllReady.cons (o := ?o2x2x5b) ?e2x2x5b (fun K hK => ?m2x2x5b) Late.AllReady.nil))
                    case e1x2x5b => (simp only [List.getElem?_toArray, List.getElem?_cons_succ, List.getElem?_cons_zero]; rfl)
                    case e2x2x5b => (simp only [List.getElem?_toArray, List.getElem?_cons_succ, List.getElem?_cons_zero]; rfl)
                    case m1x2x5b =>
                      rw [if_pos (by kernel_rfl)]
                      refine wp_append_row (P := Tryd.prog) (w := Va) (.tmp 66) (.tmp 67) 22 rfl w3.heap.size 9 iT (.string ⟨#[]⟩) 16 Tryd.underlying22 hinf hz0 hz1 hz2 rfl (.slice (some ⟨V0.heap.size, 0, none⟩) 0 0) 0 [] rfl o1a A0 L.length c0 (L.map Value.string) rfl rwa (fun u hu => by obtain ⟨_, _, rfl⟩ := List.mem_map.1 hu; rfl) (by unfold maxLen; omega) (by omega) bba.size ?_
                      intro v2 Vb o2 g2 _
                      obtain ⟨A2b, c2b, rfl⟩ := own_slice o2
                      simp only [Nat.zero_add, List.nil_append] at o2 ⊢
                      have o2b := o2
                      have bbb := bba.grown g2 bba.size (fun j e => (o1a.lt j e).1)
                      have hBbb := hBba.grown g2 (fun e => by have := (o1a.lt P e.symm).1; omega)
                      have hSb := hBbb.cell 2
                      have rwb : Row Vb A0 L.length (L.map Value.string) := (Row.of_own row3.out).below bbb
                      clear o2 g2
                      refine hK.out _ _ hSb (fun _ => trivial) ?_
                      clear hK K
                      try simp only [Act.put, List.setIfInBounds_toArray, List.set_cons_zero, List.set_cons_succ]
                      refine Late.only (i := 5) (o := ?_) (by kernel_rfl) ?_ (fun K hK => ?_)
                      rotate_left 1
                      focus (simp only [List.getElem?_toArray, List.getElem?_cons_succ, List.getElem?_cons_zero]; rfl)
                      go_simp
                      have nwc : Blk (Vb.alloc (.cells #[.string s] 9)) Vb.heap.size 9 #[.string s] := Blk.new Vb 9 #[.string s]
                      have bbc := bbb.alloc bbb.size (.cells #[.string s] 9)
                      have hBbc := hBbb.alloc (.cells #[.string s] 9)
                      have rwc := rwb.below ((Below.refl _ Vb).alloc (Nat.le_refl _) (.cells #[.string s] 9))
                      have hSc := hBbc.cell 2
                      have o2c := o2b.alloc (.cells #[.string s] 9)
                      refine hK.out _ _ hSc (fun _ => trivial) ?_
                      clear hK K
                      try simp only [Act.put, List.setIfInBounds_toArray, List.set_cons_zero, List.set_cons_succ]
                      generalize Vb.alloc (.cells #[.string s] 9) = Vc at nwc bbc hBbc rwc hSc o2c ⊢
                      refine Late.only (i := 6) (o := ?_) (by kernel_rfl) ?_ (fun K hK => ?_)
                      rotate_left 1
                      focus (simp only [List.getElem?_toArray, List.getElem?_cons_succ, List.getElem?_cons_zero]; rfl)
                      rw [if_pos (by kernel_rfl)]
                      refine wp_append_lies Vc (.tmp 68) (.tmp 71) 22 rfl w3.heap.size 9 iT (.string ⟨#[]⟩) 1 16 Tryd.underlying22 hinf hz0 hz1 hz2 rfl (by decide) (.slice A2b L.length c2b) L.length (L.map Value.string) rfl o2c ⟨Vb.heap.size, 0, none⟩ 1 1 [.string s] rfl rfl (World.news_of_block nwc) (by simp [Value.oneCell']) (by omega) (by unfold maxLen; omega) (by omega) bbc.size _ rfl ?_
                      intro gg cap Vd o6 g6 _ _
                      have bbd := bbc.grown g6 bbc.size (fun j e => (o2c.lt j e).1)
                      have hBbd := hBbc.grown g6 (fun e => by have := (o2c.lt P e.symm).1; omega)
                      have hSd := hBbd.cell 2
                      clear g6
                      refine hK.out _ _ hSd (fun _ => trivial) ?_
                      clear hK K
                      try simp only [Act.put, List.setIfInBounds_toArray, List.set_cons_zero, List.set_cons_succ]
                      refine Late.take (i := 7) (oi := ?_) (v := ?_) ?_ (by kernel_rfl) (by kernel_rfl) (by kernel_rfl) (by kernel_rfl) ?_ ?_ (by assumption) (by assumption) ?_
                      rotate_left 2
                      focus (simp only [List.getElem?_toArray, List.getElem?_cons_succ, List.getElem?_cons_zero]; rfl)
                      focus exact fun _ _ _ h => h
                      focus (refine Or.inl ⟨by kernel_rfl, ?_⟩; intro w hSw; clear hSw; go_simp; try with_reducible rfl)
                      try simp only [Act.put, List.setIfInBounds_toArray, List.set_cons_zero, List.set_cons_succ]
                      refine Late.done (by kernel_rfl) ?_ _
                      go_wp2_with fail
                      go_meet
                      exact ⟨some ⟨gg, 0, none⟩, cap, rfl, ⟨o6, bbd⟩⟩
                    case m2x2x5b =>
                      go_simp
                      have nwb : Blk (Va.alloc (.cells #[.string s] 9)) Va.heap.size 9 #[.string s] := Blk.new Va 9 #[.string s]
                      have bbb := bba.alloc bba.size (.cells #[.string s] 9)
                      have hBbb := hBba.alloc (.cells #[.string s] 9)
                      have rwb := rwa.below ((Below.refl _ Va).alloc (Nat.le_refl _) (.cells #[.string s] 9))
                      have hSb := hBbb.cell 2
                      have o1b := o1a.alloc (.cells #[.string s] 9)
                      have neb : ∀ j, (Value.slice (some ⟨V0.heap.size, 0, none⟩) 0 0).ownBlock = some j → j ≠ Va.heap.size := fun j e => by have := (o1a.lt j e).2; omega
                      refine hK.out _ _ hSb (fun _ => trivial) ?_
                      clear hK K
                      try simp only [Act.put, List.setIfInBounds_toArray, List.set_cons_zero, List.set_cons_succ]
                      generalize Va.alloc (.cells #[.string s] 9) = Vb at nwb bbb hBbb rwb hSb o1b ⊢
                      refine Late.only (i := 2) (o := ?_) (by kernel_rfl) ?_ (fun K hK => ?_)
                      rotate_left 1
                      focus (simp only [List.getElem?_toArray, List.getElem?_cons_succ, List.getElem?_cons_zero]; rfl)
                      rw [if_pos (by kernel_rfl)]
                      refine wp_append_row (P := Tryd.prog) (w := Vb) (.tmp 66) (.tmp 67) 22 rfl w3.heap.size 9 iT (.string ⟨#[]⟩) 16 Tryd.underlying22 hinf hz0 hz1 hz2 rfl (.slice (some ⟨V0.heap.size, 0, none⟩) 0 0) 0 [] rfl o1b A0 L.length c0 (L.map Value.string) rfl rwb (fun u hu => by obtain ⟨_, _, rfl⟩ := List.mem_map.1 hu; rfl) (by unfold maxLen; omega) (by omega) bbb.size ?_
                      intro v2 Vc o2 g2 _
                      obtain ⟨A2c, c2c, rfl⟩ := own_slice o2
                      simp only [Nat.zero_add, List.nil_append] at o2 ⊢
                      have o2c := o2
                      have bbc := bbb.grown g2 bbb.size (fun j e => (o1b.lt j e).1)
                      have hBbc := hBbb.grown g2 (fun e => by have := (o1b.lt P e.symm).1; omega)
                      have hSc := hBbc.cell 2
                      have rwc : Row Vc A0 L.length (L.map Value.string) := (Row.of_own row3.out).below bbc
                      have nwc := nwb.grown g2 (fun e => neb _ e.symm rfl)
                      clear o2 g2
                      refine hK.out _ _ hSc (fun _ => trivial) ?_
                      clear hK K
                      try simp only [Act.put, List.setIfInBounds_toArray, List.set_cons_zero, List.set_cons_succ]
                      refine Late.only (i := 6) (o := ?_) (by kernel_rfl) ?_ (fun K hK => ?_)
                      rotate_left 1
                      focus (simp only [List.getElem?_toArray, List.getElem?_cons_succ, List.getElem?_cons_zero]; rfl)
                      rw [if_pos (by kernel_rfl)]
                      refine wp_append_lies Vc (.tmp 68) (.tmp 71) 22 rfl w3.heap.size 9 iT (.string ⟨#[]⟩) 1 16 Tryd.underlying22 hinf hz0 hz1 hz2 rfl (by decide) (.slice A2c L.length c2c) L.length (L.map Value.string) rfl o2c ⟨Va.heap.size, 0, none⟩ 1 1 [.string s] rfl rfl (World.news_of_block nwc) (by simp [Value.oneCell']) (by omega) (by unfold maxLen; omega) (by omega) bbc.size _ rfl ?_
                      intro gg cap Vd o6 g6 _ _
                      have bbd := bbc.grown g6 bbc.size (fun j e => (o2c.lt j e).1)
                      have hBbd := hBbc.grown g6 (fun e => by have := (o2c.lt P e.symm).1; omega)
                      have hSd := hBbd.cell 2
                      clear g6
                      refine hK.out _ _ hSd (fun _ => trivial) ?_
                      clear hK K
                      try simp only [Act.put, List.setIfInBounds_toArray, List.set_cons_zero, List.set_cons_succ]
                      refine Late.take (i := 7) (oi := ?_) (v := ?_) ?_ (by kernel_rfl) (by kernel_rfl) (by kernel_rfl) (by kernel_rfl) ?_ ?_ (by assumption) (by assumption) ?_
                      rotate_left 2
                      focus (simp only [List.getElem?_toArray, List.getElem?_cons_succ, List.getElem?_cons_zero]; rfl)
                      focus exact fun _ _ _ h => h
                      focus (refine Or.inl ⟨by kernel_rfl, ?_⟩; intro w hSw; clear hSw; go_simp; try with_reducible rfl)
                      try simp only [Act.put, List.setIfInBounds_toArray, List.set_cons_zero, List.set_cons_succ]
                      refine Late.done (by kernel_rfl) ?_ _
                      go_wp2_with fail
                      go_meet
                      exact ⟨some ⟨gg, 0, none⟩, cap, rfl, ⟨o6, bbd⟩⟩
                  case m2x0x5b =>
                    go_simp
                    have nwa : Blk (V0.alloc (.cells #[.string s] 9)) V0.heap.size 9 #[.string s] := Blk.new V0 9 #[.string s]
                    have bba := bb0.alloc bb0.size (.cells #[.string s] 9)
                    have hBba := hBb0.alloc (.cells #[.string s] 9)
                    have rwa := rw0.below ((Below.refl _ V0).alloc (Nat.le_refl _) (.cells #[.string s] 9))
                    have hSa := hBba.cell 2
                    refine hK.out _ _ hSa (fun _ => trivial) ?_
                    clear hK K
                    try simp only [Act.put, List.setIfInBounds_toArray, List.set_cons_zero, List.set_cons_succ]
                    generalize V0.alloc (.cells #[.string s] 9) = Va at nwa bba hBba rwa hSa ⊢
                    refine Late.only (i := 0) (o := ?_) (by kernel_rfl) ?_ (fun K hK => ?_)
                    rotate_left 1
                    focus (simp only [List.getElem?_toArray, List.getElem?_cons_zero]; rfl)
                    go_simp
                    have o1b : (Va.alloc (.cells #[] 9)).ownsRow w3.heap.size 9 1 (.slice (some ⟨Va.heap.size, 0, none⟩) 0 0) 0 [] := World.ownsRow_made Va #[] 0 bba.size (by decide) rfl
                    have bbb := bba.alloc bba.size (.cells #[] 9)
                    have hBbb := hBba.alloc (.cells #[] 9)
                    have rwb := rwa.below ((Below.refl _ Va).alloc (Nat.le_refl _) (.cells #[] 9))
                    have hSb := hBbb.cell 2
                    have nwb := nwa.alloc (.cells #[] 9)
                    have neb : ∀ j, (Value.slice (some ⟨Va.heap.size, 0, none⟩) 0 0).ownBlock = some j → j ≠ V0.heap.size := fun j e => by have e2 : Va.heap.size = j := Option.some.inj e; have := nwa.lt; omega
                    refine hK.out _ _ hSb (fun _ => trivial) ?_
                    clear hK K
                    try simp only [Act.put, List.setIfInBounds_toArray, List.set_cons_zero, List.set_cons_succ]
                    generalize Va.alloc (.cells #[] 9) = Vb at o1b bbb hBbb rwb hSb nwb ⊢
                    refine Late.only (i := 2) (o := ?_) (by kernel_rfl) ?_ (fun K hK => ?_)
                    rotate_left 1
                    focus (simp only [List.getElem?_toArray, List.getElem?_cons_succ, List.getElem?_cons_zero]; rfl)
                    rw [if_pos (by kernel_rfl)]
                    refine wp_append_row (P := Tryd.prog) (w := Vb) (.tmp 66) (.tmp 67) 22 rfl w3.heap.size 9 iT (.string ⟨#[]⟩) 16 Tryd.underlying22 hinf hz0 hz1 hz2 rfl (.slice (some ⟨Va.heap.size, 0, none⟩) 0 0) 0 [] rfl o1b A0 L.length c0 (L.map Value.string) rfl rwb (fun u hu => by obtain ⟨_, _, rfl⟩ := List.mem_map.1 hu; rfl) (by unfold maxLen; omega) (by omega) bbb.size ?_
                    intro v2 Vc o2 g2 _
                    obtain ⟨A2c, c2c, rfl⟩ := own_slice o2
                    simp only [Nat.zero_add, List.nil_append] at o2 ⊢
                    have o2c := o2
                    have bbc := bbb.grown g2 bbb.size (fun j e => (o1b.lt j e).1)
                    have hBbc := hBbb.grown g2 (fun e => by have := (o1b.lt P e.symm).1; omega)
                    have hSc := hBbc.cell 2
                    have rwc : Row Vc A0 L.length (L.map Value.string) := (Row.of_own row3.out).below bbc
                    have nwc := nwb.grown g2 (fun e => neb _ e.symm rfl)
                    clear o2 g2
                    refine hK.out _ _ hSc (fun _ => trivial) ?_
                    clear hK K
                    try simp only [Act.put, List.setIfInBounds_toArray, List.set_cons_zero, List.set_cons_succ]
                    refine Late.only (i := 6) (o := ?_) (by kernel_rfl) ?_ (fun K hK => ?_)
                    rotate_left 1
                    focus (simp only [List.getElem?_toArray, List.getElem?_cons_succ, List.getElem?_cons_zero]; rfl)
                    rw [if_pos (by kernel_rfl)]
                    refine wp_append_lies Vc (.tmp 68) (.tmp 71) 22 rfl w3.heap.size 9 iT (.string ⟨#[]⟩) 1 16 Tryd.underlying22 hinf hz0 hz1 hz2 rfl (by decide) (.slice A2c L.length c2c) L.length (L.map Value.string) rfl o2c ⟨V0.heap.size, 0, none⟩ 1 1 [.string s] rfl rfl (World.news_of_block nwc) (by simp [Value.oneCell']) (by omega) (by unfold maxLen; omega) (by omega) bbc.size _ rfl ?_
                    intro gg cap Vd o6 g6 _ _
                    have bbd := bbc.grown g6 bbc.size (fun j e => (o2c.lt j e).1)
                    have hBbd := hBbc.grown g6 (fun e => by have := (o2c.lt P e.symm).1; omega)
                    have hSd := hBbd.cell 2
                    clear g6
                    refine hK.out _ _ hSd (fun _ => trivial) ?_
                    clear hK K
                    try simp only [Act.put, List.setIfInBounds_toArray, List.set_cons_zero, List.set_cons_succ]
                    refine Late.take (i := 7) (oi := ?_) (v := ?_) ?_ (by kernel_rfl) (by kernel_rfl) (by kernel_rfl) (by kernel_rfl) ?_ ?_ (by assumption) (by assumption) ?_
                    rotate_left 2
                    focus (simp only [List.getElem?_toArray, List.getElem?_cons_succ, List.getElem?_cons_zero]; rfl)
                    focus exact fun _ _ _ h => h
                    focus (refine Or.inl ⟨by kernel_rfl, ?_⟩; intro w hSw; clear hSw; go_simp; try with_reducible rfl)
                    try simp only [Act.put, List.setIfInBounds_toArray, List.set_cons_zero, List.set_cons_succ]
                    refine Late.done (by kernel_rfl) ?_ _
                    go_wp2_with fail
                    go_meet
                    exact ⟨some ⟨gg, 0, none⟩, cap, rfl, ⟨o6, bbd⟩⟩
                case rest =>
                  obtain ⟨A1, c1, rfl, ap⟩ := hcut
                  replace ap := Lib.hid ap
                  go_wp2_with fail
                  go_meet
                  exact ⟨g, L ++ [s], A1, c1, g, L ++ [s], A1, c1, _, _, by simp, rfl, by simp, rfl, by have := MidAt.took st.out h3.out hb3.out ap.out r3.out; simpa using this⟩
              · have r1' : e2 = 2 := r1
                have r2' : l2 = ⟨g, L, true⟩ := r2
                subst r1' r2'
                replace kapp := Lib.hid kapp
                replace r3 := Lib.hid r3
                clear r1 r2 hfit hc1 hc3
                go_wp2_with fail
                refine kapp.out.mono ?_
                rintro e w3 ⟨rfl, h3, k3⟩
                have hB3 := Lib.hid (KeepX.blk_ hB.out k3 (Or.inr (Or.inr (Or.inr rfl))))
                have row3 := Lib.hid (k3.row row1.out (fun j e => Or.inr (Or.inl e)))
                have hb3 := Lib.hid (hb1.out.trans (k3.toBelow (fun i hi => Or.inl hi) hb1.out.size))
                replace h3 := Lib.hid h3
                clear k3 h1 row1 hb1 hB
                clear hc2
                have hc2 : w3.cell? ⟨P, 2, none⟩ = some (.string s) := hB3.out.cell 2
                go_upto_region 14 with fail
                go_cut [14] (fun nv wx => ∃ (A1 : Option Addr) (c1 : Nat), nv = .slice A1 (L.length + 1) c1 ∧ AppAt w3 wx L s A1 c1)
                case first =>
                  refine Late.start (S := fun W' => W'.cell? ⟨P, 2, none⟩ = some (.string s)) (T := fun _ => True) (late := []) (by kernel_rfl) ?_
                  have hT : True := trivial
                  have bb0 : Below w3.heap.size w3 w3.drew := (Below.refl _ w3).drew
                  have hBb0 : Blk w3.drew P 51 #[.int .i64 x, .int .i64 y, .string s, .string t, .bool bb] := hB3.out
                  have rw0 : Row w3.drew A0 L.length (L.map Value.string) := (Row.of_own row3.out).below bb0
                  have hS : w3.drew.cell? ⟨P, 2, none⟩ = some (.string s) := hBb0.cell 2
                  have hPV : P < w3.heap.size := hB3.out.lt
                  generalize w3.drew = V0 at bb0 hBb0 rw0 hS ⊢
                  refine Late.take (i := 1) (oi := ?_) (v := ?_) ?_ (by kernel_rfl) (by kernel_rfl) (by kernel_rfl) (by kernel_rfl) ?_ ?_ (by assumption) (by assumption) ?_
                  rotate_left 2
                  focus (simp only [List.getElem?_toArray, List.getElem?_cons_succ, List.getElem?_cons_zero]; rfl)
                  focus exact fun _ _ _ h => h
                  focus (refine Or.inl ⟨by rfl, ?_⟩; intro w hSw; (try dsimp only at hSw); go_split_ands; go_simp; try with_reducible rfl)
                  try simp only [Act.put, List.setIfInBounds_toArray, List.set_cons_zero, List.set_cons_succ]
                  refine Late.take (i := 3) (oi := ?_) (v := ?_) ?_ (by kernel_rfl) (by kernel_rfl) (by kernel_rfl) (by kernel_rfl) ?_ ?_ (by assumption) (by assumption) ?_
                  rotate_left 2
                  focus (simp only [List.getElem?_toArray, List.getElem?_cons_succ, List.getElem?_cons_zero]; rfl)
                  focus exact fun _ _ _ h => h
                  focus (refine Or.inl ⟨by rfl, ?_⟩; intro w hSw; (try dsimp only at hSw); go_split_ands; go_simp; try with_reducible rfl)
                  try simp only [Act.put, List.setIfInBounds_toArray, List.set_cons_zero, List.set_cons_succ]
                  refine Late.take (i := 4) (oi := ?_) (v := ?_) ?_ (by kernel_rfl) (by kernel_rfl) (by kernel_rfl) (by kernel_rfl) ?_ ?_ (by assumption) (by assumption) ?_
                  rotate_left 2
                  focus (simp only [List.getElem?_toArray, List.getElem?_cons_succ, List.getElem?_cons_zero]; rfl)
                  focus exact fun _ _ _ h => h
                  focus (refine Or.inl ⟨by rfl, ?_⟩; intro w hSw; (try dsimp only at hSw); go_split_ands; go_simp; try with_reducible rfl)
                  try simp only [Act.put, List.setIfInBounds_toArray, List.set_cons_zero, List.set_cons_succ]
                  refine Late.ready (rs := [0, 5]) (by kernel_rfl) (by simp) (Late.AllReady.cons (o := ?o1x0x5c) ?e1x0x5c (fun K hK => ?m1x0x5c) (Late.AllReady.cons (o := ?o2x0x5c) ?e2x0x5c (fun K hK => ?m2x0x5c) Late.AllReady.nil))
                  case e1x0x5c => (simp only [List.getElem?_toArray, List.getElem?_cons_zero]; rfl)
                  case e2x0x5c => (simp only [List.getElem?_toArray, List.getElem?_cons_succ, List.getElem?_cons_zero]; rfl)
                  case m1x0x5c =>
                    go_simp
                    have o1a : (V0.alloc (.cells #[] 9)).ownsRow w3.heap.size 9 1 (.slice (some ⟨V0.heap.size, 0, none⟩) 0 0) 0 [] := World.ownsRow_made V0 #[] 0 bb0.size (by decide) rfl
                    have bba := bb0.alloc bb0.size (.cells #[] 9)
                    have hBba := hBb0.alloc (.cells #[] 9)
                    have rwa := rw0.below ((Below.refl _ V0).alloc (Nat.le_refl _) (.cells #[] 9))
                    have hSa := hBba.cell 2
                    refine hK.out _ _ hSa (fun _ => trivial) ?_
                    clear hK K
                    try simp only [Act.put, List.setIfInBounds_toArray, List.set_cons_zero, List.set_cons_succ]
                    generalize V0.alloc (.cells #[] 9) = Va at o1a bba hBba rwa hSa ⊢
                    refine Late.ready (rs := [2, 5]) (by kernel_rfl) (by simp) (Late.AllReady.cons (o := ?o1x2x5c) ?e1x2x5c (fun K hK => ?m1x2x5c) (Late.AllReady.cons (o := ?o2x2x5c) ?e2x2x5c (fun K hK => ?m2x2x5c) Late.AllReady.nil))
                    case e1x2x5c => (simp only [List.getElem?_toArray, List.getElem?_cons_succ, List.getElem?_cons_zero]; rfl)
                    case e2x2x5c => (simp only [List.getElem?_toArray, List.getElem?_cons_succ, List.getElem?_cons_zero]; rfl)
                    case m1x2x5c =>
                      rw [if_pos (by kernel_rfl)]
                      refine wp_append_row (P := Tryd.prog) (w := Va) (.tmp 66) (.tmp 67) 22 rfl w3.heap.size 9 iT (.string ⟨#[]⟩) 16 Tryd.underlying22 hinf hz0 hz1 hz2 rfl (.slice (some ⟨V0.heap.size, 0, none⟩) 0 0) 0 [] rfl o1a A0 L.length c0 (L.map Value.string) rfl rwa (fun u hu => by obtain ⟨_, _, rfl⟩ := List.mem_map.1 hu; rfl) (by unfold maxLen; omega) (by omega) bba.size ?_
                      intro v2 Vb o2 g2 _
                      obtain ⟨A2b, c2b, rfl⟩ := own_slice o2
                      simp only [Nat.zero_add, List.nil_append] at o2 ⊢
                      have o2b := o2
                      have bbb := bba.grown g2 bba.size (fun j e => (o1a.lt j e).1)
                      have hBbb := hBba.grown g2 (fun e => by have := (o1a.lt P e.symm).1; omega)
                      have hSb := hBbb.cell 2
                      have rwb : Row Vb A0 L.length (L.map Value.string) := (Row.of_own row3.out).below bbb
                      clear o2 g2
                      refine hK.out _ _ hSb (fun _ => trivial) ?_
                      clear hK K
                      try simp only [Act.put, List.setIfInBounds_toArray, List.set_cons_zero, List.set_cons_succ]
                      refine Late.only (i := 5) (o := ?_) (by kernel_rfl) ?_ (fun K hK => ?_)
                      rotate_left 1
                      focus (simp only [List.getElem?_toArray, List.getElem?_cons_succ, List.getElem?_cons_zero]; rfl)
                      go_simp
                      have nwc : Blk (Vb.alloc (.cells #[.string s] 9)) Vb.heap.size 9 #[.string s] := Blk.new Vb 9 #[.string s]
                      have bbc := bbb.alloc bbb.size (.cells #[.string s] 9)
                      have hBbc := hBbb.alloc (.cells #[.string s] 9)
                      have rwc := rwb.below ((Below.refl _ Vb).alloc (Nat.le_refl _) (.cells #[.string s] 9))
                      have hSc := hBbc.cell 2
                      have o2c := o2b.alloc (.cells #[.string s] 9)
                      refine hK.out _ _ hSc (fun _ => trivial) ?_
                      clear hK K
                      try simp only [Act.put, List.setIfInBounds_toArray, List.set_cons_zero, List.set_cons_succ]
                      generalize Vb.alloc (.cells #[.string s] 9) = Vc at nwc bbc hBbc rwc hSc o2c ⊢
                      refine Late.only (i := 6) (o := ?_) (by kernel_rfl) ?_ (fun K hK => ?_)
                      rotate_left 1
                      focus (simp only [List.getElem?_toArray, List.getElem?_cons_succ, List.getElem?_cons_zero]; rfl)
                      rw [if_pos (by kernel_rfl)]
                      refine wp_append_lies Vc (.tmp 68) (.tmp 71) 22 rfl w3.heap.size 9 iT (.string ⟨#[]⟩) 1 16 Tryd.underlying22 hinf hz0 hz1 hz2 rfl (by decide) (.slice A2b L.length c2b) L.length (L.map Value.string) rfl o2c ⟨Vb.heap.size, 0, none⟩ 1 1 [.string s] rfl rfl (World.news_of_block nwc) (by simp [Value.oneCell']) (by omega) (by unfold maxLen; omega) (by omega) bbc.size _ rfl ?_
                      intro gg cap Vd o6 g6 _ _
                      have bbd := bbc.grown g6 bbc.size (fun j e => (o2c.lt j e).1)
                      have hBbd := hBbc.grown g6 (fun e => by have := (o2c.lt P e.symm).1; omega)
                      have hSd := hBbd.cell 2
                      clear g6
                      refine hK.out _ _ hSd (fun _ => trivial) ?_
                      clear hK K
                      try simp only [Act.put, List.setIfInBounds_toArray, List.set_cons_zero, List.set_cons_succ]
                      refine Late.take (i := 7) (oi := ?_) (v := ?_) ?_ (by kernel_rfl) (by kernel_rfl) (by kernel_rfl) (by kernel_rfl) ?_ ?_ (by assumption) (by assumption) ?_
                      rotate_left 2
                      focus (simp only [List.getElem?_toArray, List.getElem?_cons_succ, List.getElem?_cons_zero]; rfl)
                      focus exact fun _ _ _ h => h
                      focus (refine Or.inl ⟨by kernel_rfl, ?_⟩; intro w hSw; clear hSw; go_simp; try with_reducible rfl)
                      try simp only [Act.put, List.setIfInBounds_toArray, List.set_cons_zero, List.set_cons_succ]
                      refine Late.done (by kernel_rfl) ?_ _
                      go_wp2_with fail
                      go_meet
                      exact ⟨some ⟨gg, 0, none⟩, cap, rfl, ⟨o6, bbd⟩⟩
                    case m2x2x5c =>
                      go_simp
                      have nwb : Blk (Va.alloc (.cells #[.string s] 9)) Va.heap.size 9 #[.string s] := Blk.new Va 9 #[.string s]
                      have bbb := bba.alloc bba.size (.cells #[.string s] 9)
                      have hBbb := hBba.alloc (.cells #[.string s] 9)
                      have rwb := rwa.below ((Below.refl _ Va).alloc (Nat.le_refl _) (.cells #[.string s] 9))
                      have hSb := hBbb.cell 2
                      have o1b := o1a.alloc (.cells #[.string s] 9)
                      have neb : ∀ j, (Value.slice (some ⟨V0.heap.size, 0, none⟩) 0 0).ownBlock = some j → j ≠ Va.heap.size := fun j e => by have := (o1a.lt j e).2; omega
                      refine hK.out _ _ hSb (fun _ => trivial) ?_
                      clear hK K
                      try simp only [Act.put, List.setIfInBounds_toArray, List.set_cons_zero, List.set_cons_succ]
                      generalize Va.alloc (.cells #[.string s] 9) = Vb at nwb bbb hBbb rwb hSb o1b ⊢
                      refine Late.only (i := 2) (o := ?_) (by kernel_rfl) ?_ (fun K hK => ?_)
                      rotate_left 1
                      focus (simp only [List.getElem?_toArray, List.getElem?_cons_succ, List.getElem?_cons_zero]; rfl)
                      rw [if_pos (by kernel_rfl)]
                      refine wp_append_row (P := Tryd.prog) (w := Vb) (.tmp 66) (.tmp 67) 22 rfl w3.heap.size 9 iT (.string ⟨#[]⟩) 16 Tryd.underlying22 hinf hz0 hz1 hz2 rfl (.slice (some ⟨V0.heap.size, 0, none⟩) 0 0) 0 [] rfl o1b A0 L.length c0 (L.map Value.string) rfl rwb (fun u hu => by obtain ⟨_, _, rfl⟩ := List.mem_map.1 hu; rfl) (by unfold maxLen; omega) (by omega) bbb.size ?_
                      intro v2 Vc o2 g2 _
                      obtain ⟨A2c, c2c, rfl⟩ := own_slice o2
                      simp only [Nat.zero_add, List.nil_append] at o2 ⊢
                      have o2c := o2
                      have bbc := bbb.grown g2 bbb.size (fun j e => (o1b.lt j e).1)
                      have hBbc := hBbb.grown g2 (fun e => by have := (o1b.lt P e.symm).1; omega)
                      have hSc := hBbc.cell 2
                      have rwc : Row Vc A0 L.length (L.map Value.string) := (Row.of_own row3.out).below bbc
                      have nwc := nwb.grown g2 (fun e => neb _ e.symm rfl)
                      clear o2 g2
                      refine hK.out _ _ hSc (fun _ => trivial) ?_
                      clear hK K
                      try simp only [Act.put, List.setIfInBounds_toArray, List.set_cons_zero, List.set_cons_succ]
                      refine Late.only (i := 6) (o := ?_) (by kernel_rfl) ?_ (fun K hK => ?_)
                      rotate_left 1
                      focus (simp only [List.getElem?_toArray, List.getElem?_cons_succ, List.getElem?_cons_zero]; rfl)
                      rw [if_pos (by kernel_rfl)]
                      refine wp_append_lies Vc (.tmp 68) (.tmp 71) 22 rfl w3.heap.size 9 iT (.string ⟨#[]⟩) 1 16 Tryd.underlying22 hinf hz0 hz1 hz2 rfl (by decide) (.slice A2c L.length c2c) L.length (L.map Value.string) rfl o2c ⟨Va.heap.size, 0, none⟩ 1 1 [.string s] rfl rfl (World.news_of_block nwc) (by simp [Value.oneCell']) (by omega) (by unfold maxLen; omega) (by omega) bbc.size _ rfl ?_
                      intro gg cap Vd o6 g6 _ _
                      have bbd := bbc.grown g6 bbc.size (fun j e => (o2c.lt j e).1)
                      have hBbd := hBbc.grown g6 (fun e => by have := (o2c.lt P e.symm).1; omega)
                      have hSd := hBbd.cell 2
                      clear g6
                      refine hK.out _ _ hSd (fun _ => trivial) ?_
                      clear hK K
                      try simp only [Act.put, List.setIfInBounds_toArray, List.set_cons_zero, List.set_cons_succ]
                      refine Late.take (i := 7) (oi := ?_) (v := ?_) ?_ (by kernel_rfl) (by kernel_rfl) (by kernel_rfl) (by kernel_rfl) ?_ ?_ (by assumption) (by assumption) ?_
                      rotate_left 2
                      focus (simp only [List.getElem?_toArray, List.getElem?_cons_succ, List.getElem?_cons_zero]; rfl)
                      focus exact fun _ _ _ h => h
                      focus (refine Or.inl ⟨by kernel_rfl, ?_⟩; intro w hSw; clear hSw; go_simp; try with_reducible rfl)
                      try simp only [Act.put, List.setIfInBounds_toArray, List.set_cons_zero, List.set_cons_succ]
                      refine Late.done (by kernel_rfl) ?_ _
                      go_wp2_with fail
                      go_meet
                      exact ⟨some ⟨gg, 0, none⟩, cap, rfl, ⟨o6, bbd⟩⟩
                  case m2x0x5c =>
                    go_simp
                    have nwa : Blk (V0.alloc (.cells #[.string s] 9)) V0.heap.size 9 #[.string s] := Blk.new V0 9 #[.string s]
                    have bba := bb0.alloc bb0.size (.cells #[.string s] 9)
                    have hBba := hBb0.alloc (.cells #[.string s] 9)
                    have rwa := rw0.below ((Below.refl _ V0).alloc (Nat.le_refl _) (.cells #[.string s] 9))
                    have hSa := hBba.cell 2
                    refine hK.out _ _ hSa (fun _ => trivial) ?_
                    clear hK K
                    try simp only [Act.put, List.setIfInBounds_toArray, List.set_cons_zero, List.set_cons_succ]
                    generalize V0.alloc (.cells #[.string s] 9) = Va at nwa bba hBba rwa hSa ⊢
                    refine Late.only (i := 0) (o := ?_) (by kernel_rfl) ?_ (fun K hK => ?_)
                    rotate_left 1
                    focus (simp only [List.getElem?_toArray, List.getElem?_cons_zero]; rfl)
                    go_simp
                    have o1b : (Va.alloc (.cells #[] 9)).ownsRow w3.heap.size 9 1 (.slice (some ⟨Va.heap.size, 0, none⟩) 0 0) 0 [] := World.ownsRow_made Va #[] 0 bba.size (by decide) rfl
                    have bbb := bba.alloc bba.size (.cells #[] 9)
                    have hBbb := hBba.alloc (.cells #[] 9)
                    have rwb := rwa.below ((Below.refl _ Va).alloc (Nat.le_refl _) (.cells #[] 9))
                    have hSb := hBbb.cell 2
                    have nwb := nwa.alloc (.cells #[] 9)
                    have neb : ∀ j, (Value.slice (some ⟨Va.heap.size, 0, none⟩) 0 0).ownBlock = some j → j ≠ V0.heap.size := fun j e => by have e2 : Va.heap.size = j := Option.some.inj e; have := nwa.lt; omega
                    refine hK.out _ _ hSb (fun _ => trivial) ?_
                    clear hK K
                    try simp only [Act.put, List.setIfInBounds_toArray, List.set_cons_zero, List.set_cons_succ]
                    generalize Va.alloc (.cells #[] 9) = Vb at o1b bbb hBbb rwb hSb nwb ⊢
                    refine Late.only (i := 2) (o := ?_) (by kernel_rfl) ?_ (fun K hK => ?_)
                    rotate_left 1
                    focus (simp only [List.getElem?_toArray, List.getElem?_cons_succ, List.getElem?_cons_zero]; rfl)
                    rw [if_pos (by kernel_rfl)]
                    refine wp_append_row (P := Tryd.prog) (w := Vb) (.tmp 66) (.tmp 67) 22 rfl w3.heap.size 9 iT (.string ⟨#[]⟩) 16 Tryd.underlying22 hinf hz0 hz1 hz2 rfl (.slice (some ⟨Va.heap.size, 0, none⟩) 0 0) 0 [] rfl o1b A0 L.length c0 (L.map Value.string) rfl rwb (fun u hu => by obtain ⟨_, _, rfl⟩ := List.mem_map.1 hu; rfl) (by unfold maxLen; omega) (by omega) bbb.size ?_
                    intro v2 Vc o2 g2 _
                    obtain ⟨A2c, c2c, rfl⟩ := own_slice o2
                    simp only [Nat.zero_add, List.nil_append] at o2 ⊢
                    have o2c := o2
                    have bbc := bbb.grown g2 bbb.size (fun j e => (o1b.lt j e).1)
                    have hBbc := hBbb.grown g2 (fun e => by have := (o1b.lt P e.symm).1; omega)
                    have hSc := hBbc.cell 2
                    have rwc : Row Vc A0 L.length (L.map Value.string) := (Row.of_own row3.out).below bbc
                    have nwc := nwb.grown g2 (fun e => neb _ e.symm rfl)
                    clear o2 g2
                    refine hK.out _ _ hSc (fun _ => trivial) ?_
                    clear hK K
                    try simp only [Act.put, List.setIfInBounds_toArray, List.set_cons_zero, List.set_cons_succ]
                    refine Late.only (i := 6) (o := ?_) (by kernel_rfl) ?_ (fun K hK => ?_)
                    rotate_left 1
                    focus (simp only [List.getElem?_toArray, List.getElem?_cons_succ, List.getElem?_cons_zero]; rfl)
                    rw [if_pos (by kernel_rfl)]
                    refine wp_append_lies Vc (.tmp 68) (.tmp 71) 22 rfl w3.heap.size 9 iT (.string ⟨#[]⟩) 1 16 Tryd.underlying22 hinf hz0 hz1 hz2 rfl (by decide) (.slice A2c L.length c2c) L.length (L.map Value.string) rfl o2c ⟨V0.heap.size, 0, none⟩ 1 1 [.string s] rfl rfl (World.news_of_block nwc) (by simp [Value.oneCell']) (by omega) (by unfold maxLen; omega) (by omega) bbc.size _ rfl ?_
                    intro gg cap Vd o6 g6 _ _
                    have bbd := bbc.grown g6 bbc.size (fun j e => (o2c.lt j e).1)
                    have hBbd := hBbc.grown g6 (fun e => by have := (o2c.lt P e.symm).1; omega)
                    have hSd := hBbd.cell 2
                    clear g6
                    refine hK.out _ _ hSd (fun _ => trivial) ?_
                    clear hK K
                    try simp only [Act.put, List.setIfInBounds_toArray, List.set_cons_zero, List.set_cons_succ]
                    refine Late.take (i := 7) (oi := ?_) (v := ?_) ?_ (by kernel_rfl) (by kernel_rfl) (by kernel_rfl) (by kernel_rfl) ?_ ?_ (by assumption) (by assumption) ?_
                    rotate_left 2
                    focus (simp only [List.getElem?_toArray, List.getElem?_cons_succ, List.getElem?_cons_zero]; rfl)
                    focus exact fun _ _ _ h => h
                    focus (refine Or.inl ⟨by kernel_rfl, ?_⟩; intro w hSw; clear hSw; go_simp; try with_reducible rfl)
                    try simp only [Act.put, List.setIfInBounds_toArray, List.set_cons_zero, List.set_cons_succ]
                    refine Late.done (by kernel_rfl) ?_ _
                    go_wp2_with fail
                    go_meet
                    exact ⟨some ⟨gg, 0, none⟩, cap, rfl, ⟨o6, bbd⟩⟩
                case rest =>
                  obtain ⟨A1, c1, rfl, ap⟩ := hcut
                  replace ap := Lib.hid ap
                  go_wp2_with fail
                  go_meet
                  exact ⟨g, L, A0, c0, g, L ++ [s], A1, c1, _, _, rfl, rfl, by simp, rfl, by have := MidAt.torn st.out h3.out row3.out hb3.out ap.out r3.out; simpa using this⟩
            · rcases append_kind ⟨g, L, false⟩ d s rfl hfit with e | e
              all_goals
                rw [e] at kapp
                replace kapp := Lib.hid kapp
                clear e hfit hc1 hc3
                go_wp2_with fail
                refine kapp.out.mono ?_
                rintro e w3 ⟨rfl, h3, k3⟩
                have hB3 := Lib.hid (KeepX.blk_ hB.out k3 (Or.inr (Or.inr (Or.inr rfl))))
                have row3 := Lib.hid (k3.row row1.out (fun j e => Or.inr (Or.inl e)))
                have hb3 := Lib.hid (hb1.out.trans (k3.toBelow (fun i hi => Or.inl hi) hb1.out.size))
                replace h3 := Lib.hid h3
                clear k3 h1 row1 hb1 hB
                go_wp2_with fail
                go_meet
                exact ⟨g, L, A0, c0, g, L, A0, c0, _, _, rfl, rfl, rfl, rfl, MidAt.same st.out (by omega) h3.out row3.out hb3.out lgs.out⟩
          · have hx0 : (x == 0) = false := by simpa using e0
            replace e0 := Lib.hid e0
            by_cases e1 : x = 1
            · have hx1 : (x == 1) = true := by simpa using e1
              replace e1 := Lib.hid e1
              have kst := hlstart h1.out (by omega) y
              by_cases hno : y ≤ g ∨ 1099511627776 < y
              · rw [start_no ⟨g, L, false⟩ d hno] at kst
                replace kst := Lib.hid kst
                clear hno hc2 hc3
                go_wp2_with fail
                refine kst.out.mono ?_
                rintro e w3 ⟨rfl, h3, k3⟩
                have hB3 := Lib.hid (KeepX.blk_ hB.out k3 (Or.inr (Or.inr (Or.inr rfl))))
                have row3 := Lib.hid (k3.row row1.out (fun j e => Or.inr (Or.inl e)))
                have hb3 := Lib.hid (hb1.out.trans (k3.toBelow (fun i hi => Or.inl hi) hb1.out.size))
                replace h3 := Lib.hid h3
                clear k3 h1 row1 hb1 hB
                go_wp2_with fail
                go_meet
                exact ⟨g, L, A0, c0, g, L, A0, c0, _, _, rfl, rfl, rfl, rfl, MidAt.same st.out (by omega) h3.out row3.out hb3.out lgs.out⟩
              · obtain ⟨yn, rfl⟩ := Int.eq_ofNat_of_zero_le (show 0 ≤ y by omega)
                have hst := start_lv lgs.out h1.out.fn hN5 (n := yn) (by omega) (by omega)
                generalize startL ⟨g, L, false⟩ d yn = R at kst hst
                obtain ⟨l2, d2, e2⟩ := R
                rcases hst with ⟨r1, r2, r3⟩ | ⟨r1, r2, r3⟩
                · have r1' : e2 = 0 := r1
                  have r2' : l2 = ⟨yn, [], false⟩ := r2
                  subst r1' r2'
                  replace kst := Lib.hid kst
                  replace r3 := Lib.hid r3
                  clear r1 r2 hno hc2 hc3
                  go_wp2_with fail
                  refine kst.out.mono ?_
                  rintro e w3 ⟨rfl, h3, k3⟩
                  have hB3 := Lib.hid (KeepX.blk_ hB.out k3 (Or.inr (Or.inr (Or.inr rfl))))
                  have row3 := Lib.hid (k3.row row1.out (fun j e => Or.inr (Or.inl e)))
                  have hb3 := Lib.hid (hb1.out.trans (k3.toBelow (fun i hi => Or.inl hi) hb1.out.size))
                  replace h3 := Lib.hid h3
                  clear k3 h1 row1 hb1 hB
                  clear hc1
                  have hc1 : w3.cell? ⟨P, 1, none⟩ = some (.int .i64 (yn : Int)) := hB3.out.cell 1
                  have ap : NilAt w3 (w3.alloc (.cells #[] 9)) (some ⟨w3.heap.size, 0, none⟩) 0 := ⟨World.ownsRow_made w3 #[] 0 (Nat.le_refl _) (by decide) rfl, (Below.refl _ w3).alloc (Nat.le_refl _) _⟩
                  have hc1b : (w3.alloc (.cells #[] 9)).cell? ⟨P, 1, none⟩ = some (.int .i64 (yn : Int)) := (hB3.out.alloc _).cell 1
                  replace ap := Lib.hid ap
                  go_wp2_with fail
                  go_meet
                  exact ⟨yn, [], _, 0, yn, [], _, 0, _, _, rfl, rfl, rfl, rfl, MidAt.anew st.out (by omega) h3.out hb3.out ap.out r3.out⟩
                · have r1' : e2 = 2 := r1
                  have r2' : l2 = ⟨g, L, true⟩ := r2
                  subst r1' r2'
                  replace kst := Lib.hid kst
                  replace r3 := Lib.hid r3
                  clear r1 r2 hno hc2 hc3
                  go_wp2_with fail
                  refine kst.out.mono ?_
                  rintro e w3 ⟨rfl, h3, k3⟩
                  have hB3 := Lib.hid (KeepX.blk_ hB.out k3 (Or.inr (Or.inr (Or.inr rfl))))
                  have row3 := Lib.hid (k3.row row1.out (fun j e => Or.inr (Or.inl e)))
                  have hb3 := Lib.hid (hb1.out.trans (k3.toBelow (fun i hi => Or.inl hi) hb1.out.size))
                  replace h3 := Lib.hid h3
                  clear k3 h1 row1 hb1 hB
                  clear hc1
                  have hc1 : w3.cell? ⟨P, 1, none⟩ = some (.int .i64 (yn : Int)) := hB3.out.cell 1
                  have ap : NilAt w3 (w3.alloc (.cells #[] 9)) (some ⟨w3.heap.size, 0, none⟩) 0 := ⟨World.ownsRow_made w3 #[] 0 (Nat.le_refl _) (by decide) rfl, (Below.refl _ w3).alloc (Nat.le_refl _) _⟩
                  have hc1b : (w3.alloc (.cells #[] 9)).cell? ⟨P, 1, none⟩ = some (.int .i64 (yn : Int)) := (hB3.out.alloc _).cell 1
                  replace ap := Lib.hid ap
                  go_wp2_with fail
                  go_meet
                  exact ⟨g, L, A0, c0, yn, [], _, 0, _, _, rfl, rfl, rfl, rfl, MidAt.torn0 st.out (by omega) h3.out row3.out hb3.out ap.out r3.out⟩
            · have hx1 : (x == 1) = false := by simpa using e1
              replace e1 := Lib.hid e1
              by_cases e2 : x = 2
              · have hx2 : (x == 2) = true := by simpa using e2
                replace e2 := Lib.hid e2
                have kar := hlarm h1.out y hy.2 t
                have hl2 := Lib.hid (lgs.out.arm y t)
                generalize armD d y t = R at kar hl2
                replace kar := Lib.hid kar
                clear hc2
                go_wp2_with fail
                refine kar.out.mono ?_
                rintro e w3 ⟨rfl, h3, k3⟩
                have hB3 := Lib.hid (KeepX.blk_ hB.out k3 (Or.inr (Or.inr (Or.inr rfl))))
                have row3 := Lib.hid (k3.row row1.out (fun j e => Or.inr (Or.inl e)))
                have hb3 := Lib.hid (hb1.out.trans (k3.toBelow (fun i hi => Or.inl hi) hb1.out.size))
                replace h3 := Lib.hid h3
                clear k3 h1 row1 hb1 hB
                go_wp2_with fail
                go_meet
                exact ⟨g, L, A0, c0, g, L, A0, c0, _, _, rfl, rfl, rfl, rfl, MidAt.same st.out (by omega) h3.out row3.out hb3.out hl2.out⟩
              · have hx2 : (x == 2) = false := by simpa using e2
                replace e2 := Lib.hid e2
                by_cases e3 : x = 3
                · have hx3 : (x == 3) = true := by simpa using e3
                  replace e3 := Lib.hid e3
                  have kcr := hlcrash h1.out t
                  have hl2 := Lib.hid (lgs.out.crash h1.out.fn.fit t).2
                  generalize crashD d t = R at kcr hl2
                  replace kcr := Lib.hid kcr
                  clear hc1 hc2
                  go_wp2_with fail
                  refine kcr.out.mono ?_
                  rintro e w3 ⟨rfl, h3, k3⟩
                  have hB3 := Lib.hid (KeepX.blk_ hB.out k3 (Or.inr (Or.inr (Or.inr rfl))))
                  have row3 := Lib.hid (k3.row row1.out (fun j e => Or.inr (Or.inl e)))
                  have hb3 := Lib.hid (hb1.out.trans (k3.toBelow (fun i hi => Or.inl hi) hb1.out.size))
                  replace h3 := Lib.hid h3
                  clear k3 h1 row1 hb1 hB
                  go_wp2_with fail
                  go_meet
                  exact ⟨g, L, A0, c0, g, L, A0, c0, _, _, rfl, rfl, rfl, rfl, MidAt.gone st.out (by omega) h3.out row3.out hb3.out hl2.out⟩
                · have hx3 : (x == 3) = false := by simpa using e3
                  replace e3 := Lib.hid e3
                  go_wp2_with fail
                  go_meet
                  exact ⟨g, L, A0, c0, g, L, A0, c0, _, _, rfl, rfl, rfl, rfl, MidAt.same st.out (by omega) h1.out row1.out hb1.out lgs.out⟩
        case rest =>
          clear lgs st h1 row1 hb1 hB
          obtain ⟨g0, L0, A1, c1, g1, L1, A2, c2, l2, d2, rfl, rfl, rfl, rfl, md⟩ := hcut
          have f0 := md.few0
          have f1 := md.few1
          have hst := md.st
          have kdd := hldd md.h
          rcases hst with ⟨hd, rfl, lg4⟩ | ⟨hd, tn⟩
          · rw [hd] at kdd
            have h4 := Lib.hid md.h
            have r0 := Lib.hid md.row0
            have r1 := Lib.hid md.row1
            have b4 := Lib.hid md.hb
            replace kdd := Lib.hid kdd
            replace lg4 := Lib.hid lg4
            replace hd := Lib.hid hd
            clear md
            go_wp2_with fail
            refine kdd.out.mono ?_
            rintro e w4 ⟨rfl, hw'⟩
            replace hw' := hw'.symm
            subst hw'
            clear kdd
            have kre := Lib.hid (hlrecords h4.out (by show L0.length ≤ _; omega))
            go_wp2_with fail
            refine kre.out.mono ?_
            rintro e w5 ⟨A5, c5, rfl, o5, b5⟩
            have h5 := Lib.hid (h4.out.below b5)
            have p0 := Lib.hid (own_keeps r0.out (Keeps.of_below (fun _ => False) b5) (fun _ _ h => h))
            have p1 := Lib.hid (own_keeps r1.out (Keeps.of_below (fun _ => False) b5) (fun _ _ h => h))
            have hb5 := Lib.hid (b4.out.trans (b5.mono b4.out.size))
            have ks0 := Lib.hid (rsame_any A5 A1 L0.length L0.length c5 c1 L0 L0 w5 (Row.of_own o5) (Row.of_own p0.out) (by omega))
            replace o5 := Lib.hid o5
            clear kre b5 h4 r0 r1 b4
            by_cases hsame : L0 = L0 ∧ g0 = g0
            · clear hsame
              have ks1 := ks0.out
              rw [decide_eq_true rfl] at ks1
              replace ks1 := Lib.hid ks1
              have kg := Lib.hid (fun q => hlgen (h5.out.below (below_drewN (Below.refl _ w5) q)))
              clear ks0
              go_wp2_with fail
              refine ks1.out.mono ?_
              rintro e w6 ⟨rfl, q, rfl⟩
              go_wp2_with fail
              refine (kg.out q).mono ?_
              rintro e w7 ⟨rfl, hw'⟩
              replace hw' := hw'.symm
              subst hw'
              have fin : KeepAt w N (j + 1) (w5.drewN q) a b g0 L0 d2 (.slice A1 L0.length c1) := ⟨((h5.out.below (below_drewN (Below.refl _ w5) q)).more (by omega)).sub (fun i hi => by
                  rcases hi with hi | hi | hi | hi
                  · exact Or.inl hi
                  · exact Or.inr (Or.inl hi)
                  · exact Or.inr (Or.inl hi)
                  · cases hi), lg4.out, by omega, own_keeps p0.out (Keeps.of_below (fun _ => False) (below_drewN (Below.refl _ w5) q)) (fun _ _ h => h), below_drewN hb5.out q⟩
              replace fin := Lib.hid fin
              generalize w5.drewN q = w6 at fin ⊢
              clear kg ks1
              go_wp2_with fail
              exact ⟨⟨j + 1, a, g0, L0, d2, A1, c1, by omega, by omega, rfl, rfl, rfl, rfl, fin.out⟩, by simp [intOf]; omega⟩
            · exact absurd ⟨rfl, rfl⟩ hsame
          · rw [hd] at kdd
            have krv := Lib.hid (hlrevive md.h)
            obtain ⟨g', L', hcase, lg4⟩ := tn.revive
            have hop := lg4.opened hN5 (by omega)
            have r0 := Lib.hid md.row0
            have r1 := Lib.hid md.row1
            have b4 := Lib.hid md.hb
            have hL' : L'.length ≤ j + 1 := by
              rcases hcase with ⟨_, e⟩ | ⟨_, e⟩ <;> rw [e] <;> assumption
            replace kdd := Lib.hid kdd
            replace lg4 := Lib.hid lg4
            replace hd := Lib.hid hd
            replace hop := Lib.hid hop
            clear md tn
            go_wp2_with fail
            refine kdd.out.mono ?_
            rintro e w4 ⟨rfl, hw'⟩
            replace hw' := hw'.symm
            subst hw'
            clear kdd
            go_wp2_with fail
            refine krv.out.mono ?_
            rintro e w4 ⟨rfl, h4, k4⟩
            replace r0 := Lib.hid (k4.row r0.out (fun j e => Or.inr (Or.inl e)))
            replace r1 := Lib.hid (k4.row r1.out (fun j e => Or.inr (Or.inr (Or.inl e))))
            replace b4 := Lib.hid (b4.out.trans (k4.toBelow (fun i hi => Or.inl hi) b4.out.size))
            generalize reviveD d2 = d3 at h4 lg4 hop
            have kop := hlopen h4.hd h4.fn.len
            rw [hop.out] at kop
            replace kop := Lib.hid kop
            clear krv h4 k4
            go_wp2_with fail
            refine kop.out.mono ?_
            rintro e w5 ⟨b5, a2, rfl, h4⟩
            replace r0 := Lib.hid (own_keeps r0.out (Keeps.of_below (fun _ => False) b5) (fun _ _ h => h))
            replace r1 := Lib.hid (own_keeps r1.out (Keeps.of_below (fun _ => False) b5) (fun _ _ h => h))
            replace b4 := Lib.hid (b4.out.trans (b5.mono b4.out.size))
            replace h4 := Lib.hid h4
            clear kop b5
            have kre := Lib.hid (hlrecords h4.out (by show L'.length ≤ _; omega))
            go_wp2_with fail
            refine kre.out.mono ?_
            rintro e w5 ⟨A5, c5, rfl, o5, b5⟩
            have h5 := Lib.hid (h4.out.below b5)
            have p0 := Lib.hid (own_keeps r0.out (Keeps.of_below (fun _ => False) b5) (fun _ _ h => h))
            have p1 := Lib.hid (own_keeps r1.out (Keeps.of_below (fun _ => False) b5) (fun _ _ h => h))
            have hb5 := Lib.hid (b4.out.trans (b5.mono b4.out.size))
            have ks0 := Lib.hid (rsame_any A5 A1 L'.length L0.length c5 c1 L' L0 w5 (Row.of_own o5) (Row.of_own p0.out) (by omega))
            replace o5 := Lib.hid o5
            clear kre b5 h4 r0 r1 b4
            by_cases hsame : L' = L0 ∧ g' = g0
            · obtain ⟨rfl, rfl⟩ := hsame
              have ks1 := ks0.out
              rw [decide_eq_true rfl] at ks1
              replace ks1 := Lib.hid ks1
              have kg := Lib.hid (fun q => hlgen (h5.out.below (below_drewN (Below.refl _ w5) q)))
              clear ks0
              go_wp2_with fail
              refine ks1.out.mono ?_
              rintro e w6 ⟨rfl, q, rfl⟩
              go_wp2_with fail
              refine (kg.out q).mono ?_
              rintro e w7 ⟨rfl, hw'⟩
              replace hw' := hw'.symm
              subst hw'
              have fin : KeepAt w N (j + 1) (w5.drewN q) a2 b g' L' d3 (.slice A1 L'.length c1) := ⟨((h5.out.below (below_drewN (Below.refl _ w5) q)).more (by omega)).sub (fun i hi => by
                  rcases hi with hi | hi | hi | hi
                  · exact Or.inl hi
                  · exact Or.inr (Or.inl hi)
                  · exact Or.inr (Or.inl hi)
                  · cases hi), lg4.out, by omega, own_keeps p0.out (Keeps.of_below (fun _ => False) (below_drewN (Below.refl _ w5) q)) (fun _ _ h => h), below_drewN hb5.out q⟩
              replace fin := Lib.hid fin
              generalize w5.drewN q = w6 at fin ⊢
              clear kg ks1
              go_wp2_with fail
              exact ⟨⟨j + 1, a2, g', L', d3, A1, c1, by omega, by omega, rfl, rfl, rfl, rfl, fin.out⟩, by simp [intOf]; omega⟩
            · obtain ⟨rfl, rfl⟩ : g' = g1 ∧ L' = L1 := hcase.resolve_left (fun hh => hsame ⟨hh.2, hh.1⟩)
              have fin : ∀ q, KeepAt w N (j + 1) (w5.drewN q) a2 b g' L' d3 (.slice A2 L'.length c2) := fun q => ⟨((h5.out.below (below_drewN (Below.refl _ w5) q)).more (by omega)).sub (fun i hi => by
                  rcases hi with hi | hi | hi | hi
                  · exact Or.inl hi
                  · exact Or.inr (Or.inr (Or.inl hi))
                  · exact Or.inr (Or.inr (Or.inl hi))
                  · cases hi), lg4.out, by omega, own_keeps p1.out (Keeps.of_below (fun _ => False) (below_drewN (Below.refl _ w5) q)) (fun _ _ h => h), below_drewN hb5.out q⟩
              replace fin := Lib.hid fin
              have kg := Lib.hid (fun q => hlgen (h5.out.below (below_drewN (Below.refl _ w5) q)))
              have ks2 := Lib.hid (fun q => rsame_self A5 A2 L'.length c5 c2 L' (w5.drewN q) ((Row.of_own o5.out).below (below_drewN (Below.refl _ w5) q)) ((Row.of_own p1.out).below (below_drewN (Below.refl _ w5) q)) (by omega))
              have qg : ((g' : Int) != (g' : Int)) = false := bne_self_eq_false _
              by_cases hL : L' = L0
              · have hg : ((g' : Int) == (g0 : Int)) = false := by
                  have : g' ≠ g0 := fun e => hsame ⟨hL, e⟩
                  apply beq_false_of_ne
                  omega
                have ks1 := ks0.out
                rw [decide_eq_true hL] at ks1
                replace ks1 := Lib.hid ks1
                replace hL := Lib.hid hL
                clear ks0 hsame
                go_wp2_with fail
                refine ks1.out.mono ?_
                rintro e w6 ⟨rfl, q, rfl⟩
                go_wp2_with fail
                refine (kg.out q).mono ?_
                rintro e w7 ⟨rfl, hw'⟩
                replace hw' := hw'.symm
                subst hw'
                have ks3 := Lib.hid (ks2.out q)
                go_wp2_with fail
                refine ks3.out.mono ?_
                rintro e w8 ⟨rfl, q2, hq2⟩
                rw [World.drewN_drewN] at hq2
                subst hq2
                go_wp2_with fail
                refine (kg.out (q + q2)).mono ?_
                rintro e w9 ⟨rfl, hw'⟩
                replace hw' := hw'.symm
                subst hw'
                have fin2 := Lib.hid (fin.out (q + q2))
                generalize w5.drewN (q + q2) = w10 at fin2 ⊢
                clear ks1 ks2 ks3 kg fin
                go_wp2_with fail
                exact ⟨⟨j + 1, a2, g', L', d3, A2, c2, by omega, by omega, rfl, rfl, rfl, rfl, fin2.out⟩, by simp [intOf]; omega⟩
              · have ks1 := ks0.out
                rw [decide_eq_false hL] at ks1
                replace ks1 := Lib.hid ks1
                clear ks0 hsame hL
                go_wp2_with fail
                refine ks1.out.mono ?_
                rintro e w6 ⟨rfl, q, rfl⟩
                have ks3 := Lib.hid (ks2.out q)
                go_wp2_with fail
                refine ks3.out.mono ?_
                rintro e w8 ⟨rfl, q2, hq2⟩
                rw [World.drewN_drewN] at hq2
                subst hq2
                go_wp2_with fail
                refine (kg.out (q + q2)).mono ?_
                rintro e w9 ⟨rfl, hw'⟩
                replace hw' := hw'.symm
                subst hw'
                have fin2 := Lib.hid (fin.out (q + q2))
                generalize w5.drewN (q + q2) = w10 at fin2 ⊢
                clear ks1 ks2 ks3 kg fin
                go_wp2_with fail
                exact ⟨⟨j + 1, a2, g', L', d3, A2, c2, by omega, by omega, rfl, rfl, rfl, rfl, fin2.out⟩, by simp [intOf]; omega⟩
      · have hb9 := Lib.hid st.hb
        clear st
        by_cases hjn2 : j < n
        · have q1 : (j : Int) < (n : Int) := by omega
          obtain rfl : j = 200 := by omega
          clear hgo
          go_wp2_with fail
          refine (kf.out _).mono ?_
          rintro e w6 ⟨rfl, b6⟩
          have hb6 := Lib.hid (hb9.out.trans (b6.mono hb9.out.size))
          clear b6
          go_wp2_with fail
          go_ret
          exact ⟨rfl, hb6.out⟩
        · obtain rfl : j = n := by omega
          clear hgo
          go_wp2_with fail
          refine (kf.out _).mono ?_
          rintro e w6 ⟨rfl, b6⟩
          have hb6 := Lib.hid (hb9.out.trans (b6.mono hb9.out.size))
          clear b6
          go_wp2_with fail
          go_ret
          exact ⟨rfl, hb6.out⟩
      end Go.Proofs.YtojhlijcinenoaaDoor.Nv

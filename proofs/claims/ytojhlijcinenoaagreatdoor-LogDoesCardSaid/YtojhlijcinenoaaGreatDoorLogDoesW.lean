/- LogDoes: the walk. -/
import Derived.Test.YtojhlijcinenoaaGreatDoorNvFixed
import Derived.Test.YtojhlijcinenoaaGreatDoorNvClone
import Derived.Test.YtojhlijcinenoaaGreatDoorNvPl
import Derived.Test.YtojhlijcinenoaaGreatDoorDoorO
import Derived.Test.YtojhlijcinenoaaGreatDoorLate
import Derived.BigQuiet
import Derived.Deep.DeepCutAuto
namespace Go.Proofs.YtojhlijcinenoaaGreatDoor.Nv
open Go Go.RowKit Go.Maps Mem Disk Door
set_option maxRecDepth 100000 in
theorem enc_len_ : ∀ l : List ByteArray, l.length ≤ (enc l).size
  | [] => Nat.le_refl _
  | r :: l => by
    have := enc_len_ l
    rw [enc_cons, ByteArray.size_append, enc1_size, List.length_cons]
    omega
/-- what a log on a disk of N sectors may hold -/
structure Sz (N : Nat) (l : Lg) : Prop where
  fits : (enc l.list).size ≤ 64 * ((N - 1) / 2)
  gen : l.gen ≤ 1099511627776
set_option maxRecDepth 100000 in
theorem halfD_of {N m : Nat} {d : Dk} (h : Fn N m d) : halfD d = (N - 1) / 2 := by unfold halfD; rw [h.len]
set_option maxRecDepth 100000 in
theorem Sz.few {N : Nat} {l : Lg} (h : Sz N l) (hN : N ≤ 100) : (enc l.list).size ≤ 3200 ∧ l.list.length ≤ 3200 := by
  have := h.fits
  have := enc_len_ l.list
  omega
set_option maxRecDepth 100000 in
theorem Sz.tell {N : Nat} {l : Lg} (h : Sz N l) (e : Int) : Sz N (tell l e) := ⟨h.fits, h.gen⟩
set_option maxRecDepth 100000 in
theorem Sz.heads {N : Nat} {l : Lg} (h : Sz N l) (d : Dk) (g u : Nat) : Sz N (headsL l d g u).1 := by
  unfold headsL
  split
  · exact h.tell _
  · exact h.tell _
set_option maxRecDepth 100000 in
theorem Sz.wloop {N : Nat} {l : Lg} (h : Sz N l) (fs : Nat) (B : ByteArray) : ∀ (k i : Nat) (d : Dk), Sz N (wloop l fs B k i d).1
  | 0, _, _ => h
  | k + 1, i, d => by
    unfold Nv.wloop
    split
    · exact h.tell _
    · exact Sz.wloop h fs B k (i + 1) _
set_option maxRecDepth 100000 in
theorem Sz.append {N m : Nat} {l : Lg} {d : Dk} (h : Sz N l) (hf : Fn N m d) (r : ByteArray) : Sz N (appendL l d r).1 := by
  unfold appendL
  split
  · exact h
  · split
    · exact h
    · split
      · exact h
      · rename_i h1 h2 h3
        have h4 : Sz N ⟨l.gen, l.list ++ [r], l.dead⟩ := ⟨by
          show (enc (l.list ++ [r])).size ≤ _
          rw [enc_snoc, ByteArray.size_append, enc1_size]
          unfold roomL at h3
          rw [halfD_of hf] at h3
          omega, h.gen⟩
        unfold appendTo
        have hw := h.wloop (firstL l.gen d) (enc (l.list ++ [r])) (many (enc (l.list ++ [r])) - (enc l.list).size / 64) ((enc l.list).size / 64) d
        generalize Nv.wloop l (firstL l.gen d) (enc (l.list ++ [r])) (many (enc (l.list ++ [r])) - (enc l.list).size / 64) ((enc l.list).size / 64) d = x at hw
        unfold laidOut
        split
        · exact hw
        · unfold headed synced
          split
          · exact h.tell _
          · unfold kept
            split
            · exact h.heads _ _ _
            · exact h4
set_option maxRecDepth 100000 in
theorem Sz.start {N : Nat} {l : Lg} (h : Sz N l) (d : Dk) (g : Int) : Sz N (startL l d g).1 := by
  unfold startL
  split
  · exact h
  · split
    · exact h
    · split
      · exact h.heads _ _ _
      · rename_i h1 h2 h3
        exact ⟨Nat.zero_le _, by show g.toNat ≤ _; omega⟩
set_option maxRecDepth 100000 in
theorem Sz.opened {N m : Nat} {l : Lg} {d : Dk} (hf : Fn N m d) (h : (openL d).1 = some l) : Sz N l := by
  obtain ⟨_, _, h3, h4, _⟩ := openL_inv hf.fit h
  rw [halfD_of hf] at h4
  exact ⟨h4, h3⟩
/-- where the law's loop stands -/
def DX (w : World) (i : Nat) : Prop := i < w.heap.size
structure DoesAt (w : World) (N m : Nat) (wr : World) (a b k c : Nat) (l : Lg) (d : Dk) : Prop where
  h : TL (DX w) N m wr a b k c l d l d
  sz : Sz N l
  hb : Below w.heap.size w wr
set_option maxRecDepth 100000 in
theorem TL.fn1 {X : Nat → Prop} {N m : Nat} {w : World} {a b k c : Nat} {l l' : Lg} {d d' : Dk} (h : TL X N m w a b k c l d l' d') : Fn N m d := by
  obtain ⟨F, G, h1, h2, h3, h4, h5, h6, h7, h8⟩ := h
  exact h7
set_option maxRecDepth 100000 in
theorem KeepX.blkD {X : Nat → Prop} {w w' : World} {g : Nat} {t : TypeId} {cs : Array Value} (h : Blk w g t cs) (k : KeepX X w w') (hg : X g) : Blk w' g t cs := h.keeps k (fun hn => hn hg)
set_option maxRecDepth 100000 in
theorem openL_bad {d : Dk} (_hf : Fit d) (h : (openL d).1 = none) : (openL d).2 ≠ 0 := by
  unfold openL at h ⊢
  split
  · decide
  · next h1 =>
    rw [if_neg h1] at h
    split
    · next h2 => exact h2
    · next h2 =>
      rw [if_neg h2] at h
      generalize (readD d 0).1 = s at h ⊢
      unfold openS at h ⊢
      split
      · next h3 =>
        rw [if_pos h3] at h
        generalize collectD d (firstL (val (s.extract 2 8)) d) ((val (s.extract 8 12) + 63) / 64) 0 ⟨#[]⟩ = c at h ⊢
        unfold openT at h ⊢
        split
        · next h4 => exact h4
        · next h4 =>
          rw [if_neg h4] at h
          unfold openL_ at h ⊢
          split
          · decide
          · next o e => rw [e] at h; cases h
      · decide
set_option maxRecDepth 100000 in
set_option maxHeartbeats 32000000 in
theorem logdoes_any (sec gen : Int) (A : Option Addr) (n cp : Nat) (w : World) (hops : Ops5 (fun _ => True) (fun _ => True) w A n) :
    Calls Tryz.prog 3 #[.int .i64 sec, .int .i64 gen, .slice A n cp] w fun e w' => e = .returned (.bool true) ∧ Below w.heap.size w w' := by
  have kf := Lib.hid (fun W => fixed_any W)
  by_cases h5 : clamp100 sec < 5 ∨ gen < 0 ∨ 1099511627776 < gen
  · have k0 := Lib.hid (laid_no sec gen w h5)
    clear h5 hops
    go_enter Tryz.func3, Tryz.ntmps3
    go_wp2_with fail
    refine k0.out.mono ?_
    rintro e w1 ⟨b, c, rfl, hb⟩
    have hb1 := Lib.hid hb
    clear k0 hb
    go_wp2_with fail
    go_loopw [8, 10, 12] (fun lv kv iv wr => lv = .pointer none ∧ kv = .pointer none ∧ iv = .int .i64 0 ∧ wr = w1) (fun _ _ _ _ => 0)
    case atStart => exact ⟨rfl, rfl, rfl, rfl⟩
    case round =>
      obtain ⟨rfl, rfl, rfl, rfl⟩ := hrel
      go_wp2_with fail
      refine (kf.out _).mono ?_
      rintro e w3 ⟨rfl, hb2⟩
      have hb3 := Lib.hid (hb1.out.trans (hb2.mono hb1.out.size))
      clear hb2
      go_wp2_with fail
      go_ret
      exact ⟨rfl, hb3.out⟩
  · obtain ⟨g, rfl⟩ := Int.eq_ofNat_of_zero_le (show 0 ≤ gen by omega)
    have k0 := Lib.hid (laid_yes sec g w (by omega) (by omega))
    obtain ⟨hN1, hN2⟩ := clamp100_le sec
    have q2 := Lib.hid (laidD_ok (N := clamp100 sec) hN1 (by omega) g).2.2
    have hN5 : 5 ≤ clamp100 sec := by omega
    have hg : g ≤ 1099511627776 := by omega
    replace hops := Lib.hid hops
    clear h5
    go_enter Tryz.func3, Tryz.ntmps3
    go_wp2_with fail
    refine k0.out.mono ?_
    rintro e w1 ⟨a, b, k, c, rfl, h, hb⟩
    have st : DoesAt w (clamp100 sec) 2 w1 a b k c ⟨g, [], false⟩ (laidD (clamp100 sec) g) := by
      obtain ⟨F, G, h1, h2, h3, h4, h5⟩ := h
      exact ⟨⟨F, G, h1, h2, h5, fun i hi hx => by have := h3 i hi; unfold DX at hx; omega, fun i hi hx => by have := h4 i hi; unfold DX at hx; omega, fun i hx => Nat.lt_of_lt_of_le hx hb.size, q2.out, q2.out⟩, ⟨Nat.zero_le _, hg⟩, hb⟩
    clear k0 q2 h hb hg
    generalize laidD (clamp100 sec) g = d0 at st
    generalize clamp100 sec = N at hN1 hN2 hN5 st
    generalize (⟨g, [], false⟩ : Lg) = l0 at st
    go_wp2_with fail
    go_loopw [7, 8, 10, 12] (fun dv lv kv iv wr => ∃ (q a b k : Nat) (l : Lg) (d : Dk), q ≤ n ∧ q ≤ 100 ∧ dv = .pointer (some ⟨b, 0, none⟩) ∧ lv = .pointer (some ⟨a, 0, none⟩) ∧ kv = .pointer (some ⟨k, 0, none⟩) ∧ iv = .int .i64 (q : Int) ∧ DoesAt w N (2 + 100 * q) wr a b k c l d) (fun _ _ _ iv _ => n - (intOf iv).toNat)
    case atStart => exact ⟨0, a, b, k, _, _, Nat.zero_le _, Nat.zero_le _, rfl, rfl, rfl, rfl, st⟩
    case round =>
      clear st
      obtain ⟨q, a, b, k, l, d, hqn, hq1, rfl, rfl, rfl, rfl, st⟩ := hrel
      by_cases hgo : q < n ∧ q < 100
      · obtain ⟨hlt1, hlt2⟩ := hgo
        obtain ⟨ad, x, y, s, t, bb, rfl, hy, _, _, hat⟩ := hops.out.at_ hlt1
        obtain ⟨m0, m1, m2, m3, m4⟩ := hat wr st.hb
        have z1 : (0 : Int) ≤ (q : Int) := by omega
        have z2 : (q : Int) < (n : Int) := by omega
        have d100 : decide ((q : Int) < 100) = true := decide_eq_true (by omega)
        go_upto_region 8 with fail
        obtain ⟨P, hP⟩ : ∃ P, P = wr.heap.size := ⟨_, rfl⟩
        obtain ⟨W, hW⟩ : ∃ W, W = wr.alloc (.cells #[.int .i64 x, .int .i64 y, .string s, .string t, .bool bb] 30) := ⟨_, rfl⟩
        have hWb : Below wr.heap.size wr W := by rw [hW]; exact (Below.refl _ wr).alloc (Nat.le_refl _) _
        have hB : Blk W P 30 #[.int .i64 x, .int .i64 y, .string s, .string t, .bool bb] := by rw [hW, hP]; exact Blk.new wr _ _
        rw [← hW, ← hP]
        have h : TL (fun i => DX w i ∨ i = P) N (2 + 100 * q) W a b k c l d l d := st.h.also hWb (fun i hi => by
          rcases hi with hi | hi
          · exact Or.inl hi
          · have := hB.lt
            exact Or.inr (by omega))
        have hb := st.hb.trans (hWb.mono st.hb.size)
        have sz := st.sz
        clear hW hP hWb m0 m1 m2 m3 m4 hat d100 z1 z2 st
        have c0' : W.cell? ⟨P, 0, none⟩ = some (.int .i64 x) := hB.cell 0
        replace h := Lib.hid h
        replace hb := Lib.hid hb
        replace hB := Lib.hid hB
        replace sz := Lib.hid sz
        go_upto_block 2 with fail
        clear c0'
        go_cut [7, 8, 10, 14, 15] (fun dv lv kv r1 r2 wx => ∃ (a2 b2 k2 : Nat) (l2 : Lg) (d2 : Dk) (r : Int), dv = .pointer (some ⟨b2, 0, none⟩) ∧ lv = .pointer (some ⟨a2, 0, none⟩) ∧ kv = .pointer (some ⟨k2, 0, none⟩) ∧ r1 = .int .i64 r ∧ r2 = .int .i64 r ∧ DoesAt w N (2 + 100 * q + 100) wx a2 b2 k2 c l2 d2)
        case first =>
          as_aux_lemma =>
            by_cases e0 : x = 0
            · as_aux_lemma =>
                have i0 : (x == 0) = true := by simpa using e0
                replace e0 := Lib.hid e0
                obtain ⟨R, hR⟩ : ∃ R, R = appendL l d s := ⟨_, rfl⟩
                have p2 : W.cell? ⟨P, 2, none⟩ = some (.string s) := hB.out.cell 2
                have kt := tappend h.out (by omega) (by rw [halfD_of h.out.fn1]; exact sz.out.fits) (by have := sz.out.few hN2; omega) s
                rw [← hR] at kt
                have ku := fun W' (h' : TL (fun i => DX w i ∨ i = P) N (2 + 100 * q + 30) W' a b k c R.1 R.2.1 l d) => uappend h' (by omega) (by rw [halfD_of h.out.fn1]; exact sz.out.fits) (by have := sz.out.few hN2; omega) sz.out.gen s
                rw [← hR] at ku
                have szR : Sz N R.1 := hR ▸ sz.out.append h.out.fn1 s
                replace hR := Lib.hid hR
                replace kt := Lib.hid kt
                replace ku := Lib.hid ku
                replace szR := Lib.hid szR
                go_wp2_with fail
                refine kt.out.mono ?_
                rintro en w1 ⟨rfl, h1, k1⟩
                have hB1 := hB.out.keeps k1 (fun hn => hn (Or.inr rfl))
                clear p2
                have p2 : w1.cell? ⟨P, 2, none⟩ = some (.string s) := hB1.cell 2
                have hb1 := hb.out.trans (k1.toBelow (fun i hi => Or.inl hi) hb.out.size)
                replace hb1 := Lib.hid hb1
                replace hB1 := Lib.hid hB1
                replace h1 := Lib.hid h1
                clear k1
                go_wp2_with fail
                refine (ku.out _ h1.out).mono ?_
                rintro en w2 ⟨rfl, h2, k2⟩
                have hb2 := Lib.hid (hb1.out.trans (k2.toBelow (fun i hi => Or.inl hi) hb1.out.size))
                replace h2 := Lib.hid ((h2.more (m' := 2 + 100 * q + 100) (by omega)).sub (Y := DX w) (fun i hi => Or.inl hi))
                clear k2
                go_wp2_with fail
                go_meet
                exact ⟨a, b, k, _, _, R.2.2, rfl, rfl, rfl, rfl, rfl, ⟨h2.out, szR.out, hb2.out⟩⟩
            · have j0 : (x == 0) = false := by simpa using e0
              clear e0
              by_cases e1 : x = 1
              · as_aux_lemma =>
                  have i1 : (x == 1) = true := by simpa using e1
                  replace e1 := Lib.hid e1
                  obtain ⟨R, hR⟩ : ∃ R, R = startL l d y := ⟨_, rfl⟩
                  have p1 : W.cell? ⟨P, 1, none⟩ = some (.int .i64 y) := hB.out.cell 1
                  have kt := tstart h.out (by omega) y
                  rw [← hR] at kt
                  have ku := fun W' (h' : TL (fun i => DX w i ∨ i = P) N (2 + 100 * q + 2) W' a b k c R.1 R.2.1 l d) => ustart h' (by omega) y
                  rw [← hR] at ku
                  have szR : Sz N R.1 := hR ▸ sz.out.start d y
                  replace hR := Lib.hid hR
                  replace kt := Lib.hid kt
                  replace ku := Lib.hid ku
                  replace szR := Lib.hid szR
                  go_wp2_with fail
                  refine kt.out.mono ?_
                  rintro en w1 ⟨rfl, h1, k1⟩
                  have hB1 := hB.out.keeps k1 (fun hn => hn (Or.inr rfl))
                  clear p1
                  have p1 : w1.cell? ⟨P, 1, none⟩ = some (.int .i64 y) := hB1.cell 1
                  have hb1 := hb.out.trans (k1.toBelow (fun i hi => Or.inl hi) hb.out.size)
                  replace hb1 := Lib.hid hb1
                  replace hB1 := Lib.hid hB1
                  replace h1 := Lib.hid h1
                  clear k1
                  go_wp2_with fail
                  refine (ku.out _ h1.out).mono ?_
                  rintro en w2 ⟨rfl, h2, k2⟩
                  have hb2 := Lib.hid (hb1.out.trans (k2.toBelow (fun i hi => Or.inl hi) hb1.out.size))
                  replace h2 := Lib.hid ((h2.more (m' := 2 + 100 * q + 100) (by omega)).sub (Y := DX w) (fun i hi => Or.inl hi))
                  clear k2
                  go_wp2_with fail
                  go_meet
                  exact ⟨a, b, k, _, _, R.2.2, rfl, rfl, rfl, rfl, rfl, ⟨h2.out, szR.out, hb2.out⟩⟩
              · have j1 : (x == 1) = false := by simpa using e1
                clear e1
                by_cases e2 : x = 2
                · as_aux_lemma =>
                    have i2 : (x == 2) = true := by simpa using e2
                    replace e2 := Lib.hid e2
                    obtain ⟨R, hR⟩ : ∃ R, R = armD d y t := ⟨_, rfl⟩
                    have p1 : W.cell? ⟨P, 1, none⟩ = some (.int .i64 y) := hB.out.cell 1
                    have p3 : W.cell? ⟨P, 3, none⟩ = some (.string t) := hB.out.cell 3
                    have kt := tarm h.out y hy.2 t
                    rw [← hR] at kt
                    have ku := fun W' (h' : TL (fun i => DX w i ∨ i = P) N (2 + 100 * q + 0) W' a b k c l R.1 l d) => uarm h' y hy.2 t
                    rw [← hR] at ku
                    have szR : Sz N l := sz.out
                    replace hR := Lib.hid hR
                    replace kt := Lib.hid kt
                    replace ku := Lib.hid ku
                    replace szR := Lib.hid szR
                    go_wp2_with fail
                    refine kt.out.mono ?_
                    rintro en w1 ⟨rfl, h1, k1⟩
                    have hB1 := hB.out.keeps k1 (fun hn => hn (Or.inr rfl))
                    clear p1 p3
                    have p1 : w1.cell? ⟨P, 1, none⟩ = some (.int .i64 y) := hB1.cell 1
                    have p3 : w1.cell? ⟨P, 3, none⟩ = some (.string t) := hB1.cell 3
                    have hb1 := hb.out.trans (k1.toBelow (fun i hi => Or.inl hi) hb.out.size)
                    replace hb1 := Lib.hid hb1
                    replace hB1 := Lib.hid hB1
                    replace h1 := Lib.hid h1
                    clear k1
                    go_wp2_with fail
                    refine (ku.out _ h1.out).mono ?_
                    rintro en w2 ⟨rfl, h2, k2⟩
                    have hb2 := Lib.hid (hb1.out.trans (k2.toBelow (fun i hi => Or.inl hi) hb1.out.size))
                    replace h2 := Lib.hid ((h2.more (m' := 2 + 100 * q + 100) (by omega)).sub (Y := DX w) (fun i hi => Or.inl hi))
                    clear k2
                    go_wp2_with fail
                    go_meet
                    exact ⟨a, b, k, _, _, R.2, rfl, rfl, rfl, rfl, rfl, ⟨h2.out, szR.out, hb2.out⟩⟩
                · have j2 : (x == 2) = false := by simpa using e2
                  clear e2
                  by_cases e4 : x = 4
                  · as_aux_lemma =>
                      have i4 : (x == 4) = true := by simpa using e4
                      replace e4 := Lib.hid e4
                      obtain ⟨R, hR⟩ : ∃ R, R = badD d y bb := ⟨_, rfl⟩
                      have p1 : W.cell? ⟨P, 1, none⟩ = some (.int .i64 y) := hB.out.cell 1
                      have p4 : W.cell? ⟨P, 4, none⟩ = some (.bool bb) := hB.out.cell 4
                      have kt := tbad h.out (by omega) y bb
                      rw [← hR] at kt
                      have ku := fun W' (h' : TL (fun i => DX w i ∨ i = P) N (2 + 100 * q + 1) W' a b k c l R.1 l d) => ubad h' (by omega) y bb
                      rw [← hR] at ku
                      have szR : Sz N l := sz.out
                      replace hR := Lib.hid hR
                      replace kt := Lib.hid kt
                      replace ku := Lib.hid ku
                      replace szR := Lib.hid szR
                      go_wp2_with fail
                      refine kt.out.mono ?_
                      rintro en w1 ⟨rfl, h1, k1⟩
                      have hB1 := hB.out.keeps k1 (fun hn => hn (Or.inr rfl))
                      clear p1 p4
                      have p1 : w1.cell? ⟨P, 1, none⟩ = some (.int .i64 y) := hB1.cell 1
                      have p4 : w1.cell? ⟨P, 4, none⟩ = some (.bool bb) := hB1.cell 4
                      have hb1 := hb.out.trans (k1.toBelow (fun i hi => Or.inl hi) hb.out.size)
                      replace hb1 := Lib.hid hb1
                      replace hB1 := Lib.hid hB1
                      replace h1 := Lib.hid h1
                      clear k1
                      go_wp2_with fail
                      refine (ku.out _ h1.out).mono ?_
                      rintro en w2 ⟨rfl, h2, k2⟩
                      have hb2 := Lib.hid (hb1.out.trans (k2.toBelow (fun i hi => Or.inl hi) hb1.out.size))
                      replace h2 := Lib.hid ((h2.more (m' := 2 + 100 * q + 100) (by omega)).sub (Y := DX w) (fun i hi => Or.inl hi))
                      clear k2
                      go_wp2_with fail
                      go_meet
                      exact ⟨a, b, k, _, _, R.2, rfl, rfl, rfl, rfl, rfl, ⟨h2.out, szR.out, hb2.out⟩⟩
                  · have j4 : (x == 4) = false := by simpa using e4
                    clear e4
                    by_cases e3 : x = 3
                    · as_aux_lemma =>
                        have i3 : (x == 3) = true := by simpa using e3
                        replace e3 := Lib.hid e3
                        have p3 : W.cell? ⟨P, 3, none⟩ = some (.string t) := hB.out.cell 3
                        have kt := Lib.hid (tcrash h.out t)
                        have ku := Lib.hid (fun W' (h' : TL (fun i => DX w i ∨ i = P) N (2 + 100 * q) W' a b k c l (crashD d t).1 l d) => ucrash h' t)
                        obtain ⟨d1, hd1⟩ : ∃ d1, d1 = (crashD d t).1 := ⟨_, rfl⟩
                        obtain ⟨y1, hy1⟩ : ∃ y1, y1 = (crashD d t).2 := ⟨_, rfl⟩
                        rw [← hd1, ← hy1] at kt ku
                        replace hd1 := Lib.hid hd1
                        replace hy1 := Lib.hid hy1
                        go_wp2_with fail
                        refine kt.out.mono ?_
                        rintro en w1 ⟨rfl, h1, k1⟩
                        have hB1 := hB.out.keeps k1 (fun hn => hn (Or.inr rfl))
                        clear p3
                        have p3 : w1.cell? ⟨P, 3, none⟩ = some (.string t) := hB1.cell 3
                        have hb1 := hb.out.trans (k1.toBelow (fun i hi => Or.inl hi) hb.out.size)
                        replace hb1 := Lib.hid hb1
                        replace hB1 := Lib.hid hB1
                        replace h1 := Lib.hid h1
                        clear k1
                        go_wp2_with fail
                        refine (ku.out _ h1.out).mono ?_
                        rintro en w2 ⟨rfl, h2, k2⟩
                        have hb2 := Lib.hid (hb1.out.trans (k2.toBelow (fun i hi => Or.inl hi) hb1.out.size))
                        replace h2 := Lib.hid (h2.sub (Y := DX w) (fun i hi => Or.inl hi))
                        clear k2
                        go_wp2_with fail
                        refine (trevive h2.out).mono ?_
                        rintro en w3 ⟨rfl, h3, k3⟩
                        have hb3 := Lib.hid (hb2.out.trans (k3.toBelow (fun i hi => hi) hb2.out.size))
                        replace h3 := Lib.hid h3
                        clear k3
                        go_wp2_with fail
                        refine (urevive h3.out).mono ?_
                        rintro en w4 ⟨rfl, h4, k4⟩
                        have hb4 := hb3.out.trans (k4.toBelow (fun i hi => hi) hb3.out.size)
                        clear k4
                        obtain ⟨d2, hd2⟩ : ∃ d2, d2 = reviveD d1 := ⟨_, rfl⟩
                        rw [← hd2] at h4
                        have ko := topen h4
                        have ku2 := fun W' a' l' (h' : TL (DX w) N (2 + 100 * q) W' a' b k c l' d2 l d2) => uopen h' (by omega)
                        have fn2 := Lib.hid h4.fn1
                        replace hd2 := Lib.hid hd2
                        replace hb4 := Lib.hid hb4
                        replace h4 := Lib.hid h4
                        cases ho : openL d2 with
                        | mk lo x2 =>
                        rw [ho] at ko ku2
                        cases lo with
                        | none =>
                          have hx2 : (x2 != 0) = true := by
                            have := openL_bad fn2.out.fit (by rw [ho])
                            rw [ho] at this
                            simpa using this
                          replace ko := Lib.hid ko
                          replace ku2 := Lib.hid ku2
                          replace ho := Lib.hid ho
                          go_wp2_with fail
                          refine ko.out.mono ?_
                          rintro en w5 ⟨b5, rfl, h5⟩
                          have hb5 := Lib.hid (hb4.out.trans (b5.mono hb4.out.size))
                          replace h5 := Lib.hid h5
                          clear b5
                          go_wp2_with fail
                          refine (ku2.out _ _ _ h5.out).mono ?_
                          rintro en w6 ⟨b6, rfl, h6⟩
                          have hb6 := Lib.hid (hb5.out.trans (b6.mono hb5.out.size))
                          clear b6 h6
                          go_wp2_with fail
                          refine (kf.out _).mono ?_
                          rintro en w7 ⟨rfl, b7⟩
                          have hb7 := Lib.hid (hb6.out.trans (b7.mono hb6.out.size))
                          clear b7
                          go_wp2_with fail
                          go_ret
                          exact ⟨rfl, hb7.out⟩
                        | some l3 =>
                          have sz3 := Lib.hid (Sz.opened fn2.out (show (openL d2).1 = some l3 by rw [ho]))
                          replace ko := Lib.hid ko
                          replace ku2 := Lib.hid ku2
                          replace ho := Lib.hid ho
                          go_wp2_with fail
                          refine ko.out.mono ?_
                          rintro en w5 ⟨b5, a3, rfl, h5⟩
                          have hb5 := Lib.hid (hb4.out.trans (b5.mono hb4.out.size))
                          replace h5 := Lib.hid h5
                          clear b5
                          go_wp2_with fail
                          refine (ku2.out _ _ _ h5.out).mono ?_
                          rintro en w6 ⟨b6, k3, rfl, h6⟩
                          have hb6 := Lib.hid (hb5.out.trans (b6.mono hb5.out.size))
                          replace h6 := Lib.hid (h6.more (m' := 2 + 100 * q + 100) (by omega))
                          clear b6
                          go_wp2_with fail
                          go_meet
                          exact ⟨a3, b, k3, l3, d2, 0, rfl, rfl, rfl, rfl, rfl, ⟨h6.out, sz3.out, hb6.out⟩⟩
                    · have j3 : (x == 3) = false := by simpa using e3
                      clear e3
                      by_cases e5 : x = 5
                      · as_aux_lemma =>
                          have i5 : (x == 5) = true := by simpa using e5
                          replace e5 := Lib.hid e5
                          have ko := Lib.hid (fun W' a2 b2 (h' : CL (fun i => DX w i ∨ i = P) N (2 + 100 * q) W' a b l d a2 b2 k c l d l d) => oappend h' (by omega) (by rw [halfD_of h.out.fn1]; exact sz.out.fits) (by have := sz.out.few hN2; omega) ⟨#[108, 101, 102, 116]⟩)
                          obtain ⟨R, hR⟩ : ∃ R, R = appendL l d ⟨#[108, 101, 102, 116]⟩ := ⟨_, rfl⟩
                          rw [← hR] at ko
                          replace hR := Lib.hid hR
                          have kw := fun W' a2 b2 (h' : CL (fun i => DX w i ∨ i = P) N (2 + 100 * q + 30) W' a b R.1 R.2.1 a2 b2 k c l d l d) => owrite h' (by omega) 0 ⟨#[]⟩
                          obtain ⟨R2, hR2⟩ : ∃ R2, R2 = writeD R.2.1 0 ⟨#[]⟩ := ⟨_, rfl⟩
                          rw [← hR2] at kw
                          have kc := fun W' a2 b2 (h' : CL (fun i => DX w i ∨ i = P) N (2 + 100 * q + 30 + 1) W' a b R.1 R2.1 a2 b2 k c l d l d) => ocrash h' ⟨#[]⟩
                          obtain ⟨R3, hR3⟩ : ∃ R3, R3 = crashD R2.1 ⟨#[]⟩ := ⟨_, rfl⟩
                          rw [← hR3] at kc
                          replace hR2 := Lib.hid hR2
                          replace hR3 := Lib.hid hR3
                          replace kw := Lib.hid kw
                          replace kc := Lib.hid kc
                          go_wp2_with fail
                          refine (tclone h.out).mono ?_
                          rintro en w1 ⟨b2, rfl, b1, h1⟩
                          have hb1 := Lib.hid (hb.out.trans (b1.mono hb.out.size))
                          replace h1 := Lib.hid h1
                          clear b1
                          go_wp2_with fail
                          refine (tlclone h1.out).mono ?_
                          rintro en w2 ⟨a2, rfl, b2', h2⟩
                          have hb2 := Lib.hid (hb1.out.trans (b2'.mono hb1.out.size))
                          replace h2 := Lib.hid h2
                          clear b2'
                          go_wp2_with fail
                          refine (ko.out _ _ _ h2.out).mono ?_
                          rintro en w3 ⟨rfl, h3, k3⟩
                          have hb3 := Lib.hid (hb2.out.trans (k3.toBelow (fun i hi => Or.inl hi) hb2.out.size))
                          replace h3 := Lib.hid h3
                          clear k3
                          go_wp2_with fail
                          refine (kw.out _ _ _ h3.out).mono ?_
                          rintro en w4 ⟨rfl, h4, k4⟩
                          have hb4 := Lib.hid (hb3.out.trans (k4.toBelow (fun i hi => Or.inl hi) hb3.out.size))
                          replace h4 := Lib.hid h4
                          clear k4
                          go_wp2_with fail
                          refine (kc.out _ _ _ h4.out).mono ?_
                          rintro en w5 ⟨rfl, h5, k5⟩
                          have hb5 := Lib.hid (hb4.out.trans (k5.toBelow (fun i hi => Or.inl hi) hb4.out.size))
                          replace h5 := Lib.hid ((h5.tl.more (m' := 2 + 100 * q + 100) (by omega)).sub (Y := DX w) (fun i hi => Or.inl hi))
                          clear k5
                          go_wp2_with fail
                          go_meet
                          exact ⟨a2, b2, k, l, d, 0, rfl, rfl, rfl, rfl, rfl, ⟨h5.out, sz.out, hb5.out⟩⟩
                      · have j5 : (x == 5) = false := by simpa using e5
                        clear e5
                        replace h := Lib.hid ((h.out.more (m' := 2 + 100 * q + 100) (by omega)).sub (Y := DX w) (fun i hi => Or.inl hi))
                        go_wp2_with fail
                        go_meet
                        exact ⟨a, b, k, l, d, 0, rfl, rfl, rfl, rfl, rfl, ⟨h.out, sz.out, hb.out⟩⟩
        case rest =>
          as_aux_lemma =>
            obtain ⟨a2, b2, k2, l2, d2, r, rfl, rfl, rfl, rfl, rfl, st⟩ := hcut
            obtain ⟨few1, few2⟩ := st.sz.few hN2
            have qr : (r != r) = false := bne_self_eq_false _
            obtain ⟨I, hI⟩ : ∃ I, I = img d2 := ⟨_, rfl⟩
            have kI := Lib.hid (fun W (h' : TL (DX w) N (2 + 100 * q + 100) W a2 b2 k2 c l2 d2 l2 d2) => timage h')
            have kJ := Lib.hid (fun W (h' : TL (DX w) N (2 + 100 * q + 100) W a2 b2 k2 c l2 d2 l2 d2) => uimage h')
            rw [← hI] at kI kJ
            obtain ⟨RM, hRM⟩ : ∃ RM, RM = roomL l2 d2 := ⟨_, rfl⟩
            have kR := Lib.hid (fun W (h' : TL (DX w) N (2 + 100 * q + 100) W a2 b2 k2 c l2 d2 l2 d2) => troom h' (by omega))
            have kU := Lib.hid (fun W (h' : TL (DX w) N (2 + 100 * q + 100) W a2 b2 k2 c l2 d2 l2 d2) => uroom h' (by omega) (by omega))
            rw [← hRM] at kR kU
            replace hI := Lib.hid hI
            replace hRM := Lib.hid hRM
            have h0 := Lib.hid (st.h.below ((Below.refl _ wc).drew))
            have hb0 := Lib.hid st.hb.drew
            have sz2 := Lib.hid st.sz
            obtain ⟨_, _, u0⟩ := h0.out.ucells
            clear hB h hb sz st
            go_upto_region 38 with fail
            refine Late.start (S := fun W' => W'.cell? ⟨k2, 1, none⟩ = some (.int .i64 (l2.gen : Int)) ∧ W'.cell? ⟨k2, 3, none⟩ = some (.bool l2.dead) ∧ W'.cell? ⟨c, 3, none⟩ = some (.int .i64 (d2.steps : Int))) (T := fun _ => True) (late := []) (by kernel_rfl) ?_
            have hS := And.intro u0.gen (And.intro u0.dead u0.made)
            have hT : True := trivial
            clear u0
            refine Late.take (i := 0) (oi := ?_) (v := ?_) ?_ (by kernel_rfl) (by kernel_rfl) (by kernel_rfl) (by kernel_rfl) ?_ ?_ (by assumption) (by assumption) ?_
            rotate_left 2
            focus (simp only [List.getElem?_toArray, List.getElem?_cons_zero]; rfl)
            focus exact fun _ _ _ h => h
            focus (refine Or.inl ⟨by kernel_rfl, ?_⟩; intro w hSw; clear hSw; go_simp; try with_reducible rfl)
            try simp only [Act.put, List.setIfInBounds_toArray, List.set_cons_zero, List.set_cons_succ]
            refine Late.take (i := 1) (oi := ?_) (v := ?_) ?_ (by kernel_rfl) (by kernel_rfl) (by kernel_rfl) (by kernel_rfl) ?_ ?_ (by assumption) (by assumption) ?_
            rotate_left 2
            focus (simp only [List.getElem?_toArray, List.getElem?_cons_succ, List.getElem?_cons_zero]; rfl)
            focus exact fun _ _ _ h => h
            focus (refine Or.inl ⟨by kernel_rfl, ?_⟩; intro w hSw; clear hSw; go_simp; try with_reducible rfl)
            try simp only [Act.put, List.setIfInBounds_toArray, List.set_cons_zero, List.set_cons_succ]
            refine Late.take (i := 2) (oi := ?_) (v := ?_) ?_ (by kernel_rfl) (by kernel_rfl) (by kernel_rfl) (by kernel_rfl) ?_ ?_ (by assumption) (by assumption) ?_
            rotate_left 2
            focus (simp only [List.getElem?_toArray, List.getElem?_cons_succ, List.getElem?_cons_zero]; rfl)
            focus exact fun _ _ _ h => h
            focus (refine Or.inl ⟨by kernel_rfl, ?_⟩; intro w hSw; clear hSw; go_simp; try with_reducible rfl)
            try simp only [Act.put, List.setIfInBounds_toArray, List.set_cons_zero, List.set_cons_succ]
            refine Late.take (i := 3) (oi := ?_) (v := ?_) ?_ (by kernel_rfl) (by kernel_rfl) (by kernel_rfl) (by kernel_rfl) ?_ ?_ (by assumption) (by assumption) ?_
            rotate_left 2
            focus (simp only [List.getElem?_toArray, List.getElem?_cons_succ, List.getElem?_cons_zero]; rfl)
            focus exact fun _ _ _ h => h
            focus (refine Or.inl ⟨by kernel_rfl, ?_⟩; intro w hSw; clear hSw; go_simp; try with_reducible rfl)
            try simp only [Act.put, List.setIfInBounds_toArray, List.set_cons_zero, List.set_cons_succ]
            refine Late.take (i := 4) (oi := ?_) (v := ?_) ?_ (by kernel_rfl) (by kernel_rfl) (by kernel_rfl) (by kernel_rfl) ?_ ?_ (by assumption) (by assumption) ?_
            rotate_left 2
            focus (simp only [List.getElem?_toArray, List.getElem?_cons_succ, List.getElem?_cons_zero]; rfl)
            focus exact fun _ _ _ h => h
            focus (refine Or.inl ⟨by kernel_rfl, ?_⟩; intro w hSw; clear hSw; go_simp; try with_reducible rfl)
            try simp only [Act.put, List.setIfInBounds_toArray, List.set_cons_zero, List.set_cons_succ]
            refine Late.take (i := 6) (oi := ?_) (v := ?_) ?_ (by kernel_rfl) (by kernel_rfl) (by kernel_rfl) (by kernel_rfl) ?_ ?_ (by assumption) (by assumption) ?_
            rotate_left 2
            focus (simp only [List.getElem?_toArray, List.getElem?_cons_succ, List.getElem?_cons_zero]; rfl)
            focus exact fun _ _ _ h => h
            focus (refine Or.inl ⟨by kernel_rfl, ?_⟩; intro w hSw; clear hSw; go_simp; try with_reducible rfl)
            try simp only [Act.put, List.setIfInBounds_toArray, List.set_cons_zero, List.set_cons_succ]
            refine Late.only (i := 5) (o := ?_) (by kernel_rfl) ?_ (fun K hK => ?_)
            rotate_left 1
            focus (simp only [List.getElem?_toArray, List.getElem?_cons_succ, List.getElem?_cons_zero]; rfl)
            rw [if_pos (by kernel_rfl)]
            go_simp
            refine (kI.out _ h0.out).mono ?_
            rintro e wA ⟨rfl, bA⟩
            have hA := Lib.hid (h0.out.below bA)
            have hbA := Lib.hid (hb0.out.trans ((bA).mono hb0.out.size))
            clear bA
            obtain ⟨_, _, uA⟩ := hA.out.ucells
            have hSA := And.intro uA.gen (And.intro uA.dead uA.made)
            refine hK.out _ _ hSA (fun _ => trivial) ?_
            clear hK K
            try simp only [Act.put, List.setIfInBounds_toArray, List.set_cons_zero, List.set_cons_succ]
            clear hS
            have hS := hSA
            clear hSA uA h0 hb0
            refine Late.only (i := 7) (o := ?_) (by kernel_rfl) ?_ (fun K hK => ?_)
            rotate_left 1
            focus (simp only [List.getElem?_toArray, List.getElem?_cons_succ, List.getElem?_cons_zero]; rfl)
            rw [if_pos (by kernel_rfl)]
            go_simp
            refine (kJ.out _ hA.out).mono ?_
            rintro e wx ⟨rfl, hw'⟩
            replace hw' := hw'.symm
            subst hw'
            refine hK.out _ _ hS (fun _ => trivial) ?_
            clear hK K
            try simp only [Act.put, List.setIfInBounds_toArray, List.set_cons_zero, List.set_cons_succ]
            refine Late.take (i := 8) (oi := ?_) (v := ?_) ?_ (by kernel_rfl) (by kernel_rfl) (by kernel_rfl) (by kernel_rfl) ?_ ?_ (by assumption) (by assumption) ?_
            rotate_left 2
            focus (simp only [List.getElem?_toArray, List.getElem?_cons_succ, List.getElem?_cons_zero]; rfl)
            focus exact fun _ _ _ h => h
            focus (refine Or.inl ⟨by kernel_rfl, ?_⟩; intro w hSw; clear hSw; go_simp; try with_reducible rfl)
            try simp only [Act.put, List.setIfInBounds_toArray, List.set_cons_zero, List.set_cons_succ]
            refine Late.take (i := 9) (oi := ?_) (v := ?_) ?_ (by kernel_rfl) (by kernel_rfl) (by kernel_rfl) (by kernel_rfl) ?_ ?_ (by assumption) (by assumption) ?_
            rotate_left 2
            focus (simp only [List.getElem?_toArray, List.getElem?_cons_succ, List.getElem?_cons_zero]; rfl)
            focus exact fun _ _ _ h => h
            focus (refine Or.inl ⟨by kernel_rfl, ?_⟩; intro w hSw; clear hSw; go_simp; try with_reducible rfl)
            try simp only [Act.put, List.setIfInBounds_toArray, List.set_cons_zero, List.set_cons_succ]
            refine Late.take (i := 10) (oi := ?_) (v := ?_) ?_ (by kernel_rfl) (by kernel_rfl) (by kernel_rfl) (by kernel_rfl) ?_ ?_ (by assumption) (by assumption) ?_
            rotate_left 2
            focus (simp only [List.getElem?_toArray, List.getElem?_cons_succ, List.getElem?_cons_zero]; rfl)
            focus exact fun _ _ _ h => h
            focus (refine Or.inl ⟨by kernel_rfl, ?_⟩; intro w hSw; clear hSw; go_simp; try with_reducible rfl)
            try simp only [Act.put, List.setIfInBounds_toArray, List.set_cons_zero, List.set_cons_succ]
            refine Late.take (i := 11) (oi := ?_) (v := ?_) ?_ (by kernel_rfl) (by kernel_rfl) (by kernel_rfl) (by kernel_rfl) ?_ ?_ (by assumption) (by assumption) ?_
            rotate_left 2
            focus (simp only [List.getElem?_toArray, List.getElem?_cons_succ, List.getElem?_cons_zero]; rfl)
            focus exact fun _ _ _ h => h
            focus (refine Or.inl ⟨by kernel_rfl, ?_⟩; intro w hSw; clear hSw; go_simp; try with_reducible rfl)
            try simp only [Act.put, List.setIfInBounds_toArray, List.set_cons_zero, List.set_cons_succ]
            refine Late.take (i := 13) (oi := ?_) (v := ?_) ?_ (by kernel_rfl) (by kernel_rfl) (by kernel_rfl) (by kernel_rfl) ?_ ?_ (by assumption) (by assumption) ?_
            rotate_left 2
            focus (simp only [List.getElem?_toArray, List.getElem?_cons_succ, List.getElem?_cons_zero]; rfl)
            focus exact fun _ _ _ h => h
            focus (refine Or.inl ⟨by rfl, ?_⟩; intro w hSw; (try dsimp only at hSw); go_split_ands; go_simp; try with_reducible rfl)
            try simp only [Act.put, List.setIfInBounds_toArray, List.set_cons_zero, List.set_cons_succ]
            refine Late.take (i := 14) (oi := ?_) (v := ?_) ?_ (by kernel_rfl) (by kernel_rfl) (by kernel_rfl) (by kernel_rfl) ?_ ?_ (by assumption) (by assumption) ?_
            rotate_left 2
            focus (simp only [List.getElem?_toArray, List.getElem?_cons_succ, List.getElem?_cons_zero]; rfl)
            focus exact fun _ _ _ h => h
            focus (refine Or.inl ⟨by rfl, ?_⟩; intro w hSw; (try dsimp only at hSw); go_split_ands; go_simp; try with_reducible rfl)
            try simp only [Act.put, List.setIfInBounds_toArray, List.set_cons_zero, List.set_cons_succ]
            refine Late.take (i := 15) (oi := ?_) (v := ?_) ?_ (by kernel_rfl) (by kernel_rfl) (by kernel_rfl) (by kernel_rfl) ?_ ?_ (by assumption) (by assumption) ?_
            rotate_left 2
            focus (simp only [List.getElem?_toArray, List.getElem?_cons_succ, List.getElem?_cons_zero]; rfl)
            focus exact fun _ _ _ h => h
            focus (refine Or.inl ⟨by rfl, ?_⟩; intro w hSw; (try dsimp only at hSw); go_split_ands; go_simp; try with_reducible rfl)
            try simp only [Act.put, List.setIfInBounds_toArray, List.set_cons_zero, List.set_cons_succ]
            refine Late.take (i := 16) (oi := ?_) (v := ?_) ?_ (by kernel_rfl) (by kernel_rfl) (by kernel_rfl) (by kernel_rfl) ?_ ?_ (by assumption) (by assumption) ?_
            rotate_left 2
            focus (simp only [List.getElem?_toArray, List.getElem?_cons_succ, List.getElem?_cons_zero]; rfl)
            focus exact fun _ _ _ h => h
            focus (refine Or.inl ⟨by rfl, ?_⟩; intro w hSw; (try dsimp only at hSw); go_split_ands; go_simp; try with_reducible rfl)
            try simp only [Act.put, List.setIfInBounds_toArray, List.set_cons_zero, List.set_cons_succ]
            refine Late.only (i := 12) (o := ?_) (by kernel_rfl) ?_ (fun K hK => ?_)
            rotate_left 1
            focus (simp only [List.getElem?_toArray, List.getElem?_cons_succ, List.getElem?_cons_zero]; rfl)
            rw [if_pos (by kernel_rfl)]
            go_simp
            refine (tsteps hA.out).mono ?_
            rintro e wx ⟨rfl, hw'⟩
            replace hw' := hw'.symm
            subst hw'
            refine hK.out _ _ hS (fun _ => trivial) ?_
            clear hK K
            try simp only [Act.put, List.setIfInBounds_toArray, List.set_cons_zero, List.set_cons_succ]
            refine Late.take (i := 17) (oi := ?_) (v := ?_) ?_ (by kernel_rfl) (by kernel_rfl) (by kernel_rfl) (by kernel_rfl) ?_ ?_ (by assumption) (by assumption) ?_
            rotate_left 2
            focus (simp only [List.getElem?_toArray, List.getElem?_cons_succ, List.getElem?_cons_zero]; rfl)
            focus exact fun _ _ _ h => h
            focus (refine Or.inl ⟨by kernel_rfl, ?_⟩; intro w hSw; clear hSw; go_simp; try with_reducible rfl)
            try simp only [Act.put, List.setIfInBounds_toArray, List.set_cons_zero, List.set_cons_succ]
            refine Late.take (i := 18) (oi := ?_) (v := ?_) ?_ (by kernel_rfl) (by kernel_rfl) (by kernel_rfl) (by kernel_rfl) ?_ ?_ (by assumption) (by assumption) ?_
            rotate_left 2
            focus (simp only [List.getElem?_toArray, List.getElem?_cons_succ, List.getElem?_cons_zero]; rfl)
            focus exact fun _ _ _ h => h
            focus (refine Or.inl ⟨by kernel_rfl, ?_⟩; intro w hSw; clear hSw; go_simp; try with_reducible rfl)
            try simp only [Act.put, List.setIfInBounds_toArray, List.set_cons_zero, List.set_cons_succ]
            refine Late.take (i := 19) (oi := ?_) (v := ?_) ?_ (by kernel_rfl) (by kernel_rfl) (by kernel_rfl) (by kernel_rfl) ?_ ?_ (by assumption) (by assumption) ?_
            rotate_left 2
            focus (simp only [List.getElem?_toArray, List.getElem?_cons_succ, List.getElem?_cons_zero]; rfl)
            focus exact fun _ _ _ h => h
            focus (refine Or.inl ⟨by kernel_rfl, ?_⟩; intro w hSw; clear hSw; go_simp; try with_reducible rfl)
            try simp only [Act.put, List.setIfInBounds_toArray, List.set_cons_zero, List.set_cons_succ]
            refine Late.take (i := 20) (oi := ?_) (v := ?_) ?_ (by kernel_rfl) (by kernel_rfl) (by kernel_rfl) (by kernel_rfl) ?_ ?_ (by assumption) (by assumption) ?_
            rotate_left 2
            focus (simp only [List.getElem?_toArray, List.getElem?_cons_succ, List.getElem?_cons_zero]; rfl)
            focus exact fun _ _ _ h => h
            focus (refine Or.inl ⟨by kernel_rfl, ?_⟩; intro w hSw; clear hSw; go_simp; try with_reducible rfl)
            try simp only [Act.put, List.setIfInBounds_toArray, List.set_cons_zero, List.set_cons_succ]
            refine Late.take (i := 22) (oi := ?_) (v := ?_) ?_ (by kernel_rfl) (by kernel_rfl) (by kernel_rfl) (by kernel_rfl) ?_ ?_ (by assumption) (by assumption) ?_
            rotate_left 2
            focus (simp only [List.getElem?_toArray, List.getElem?_cons_succ, List.getElem?_cons_zero]; rfl)
            focus exact fun _ _ _ h => h
            focus (refine Or.inl ⟨by rfl, ?_⟩; intro w hSw; (try dsimp only at hSw); go_split_ands; go_simp; try with_reducible rfl)
            try simp only [Act.put, List.setIfInBounds_toArray, List.set_cons_zero, List.set_cons_succ]
            refine Late.take (i := 23) (oi := ?_) (v := ?_) ?_ (by kernel_rfl) (by kernel_rfl) (by kernel_rfl) (by kernel_rfl) ?_ ?_ (by assumption) (by assumption) ?_
            rotate_left 2
            focus (simp only [List.getElem?_toArray, List.getElem?_cons_succ, List.getElem?_cons_zero]; rfl)
            focus exact fun _ _ _ h => h
            focus (refine Or.inl ⟨by rfl, ?_⟩; intro w hSw; (try dsimp only at hSw); go_split_ands; go_simp; try with_reducible rfl)
            try simp only [Act.put, List.setIfInBounds_toArray, List.set_cons_zero, List.set_cons_succ]
            refine Late.take (i := 24) (oi := ?_) (v := ?_) ?_ (by kernel_rfl) (by kernel_rfl) (by kernel_rfl) (by kernel_rfl) ?_ ?_ (by assumption) (by assumption) ?_
            rotate_left 2
            focus (simp only [List.getElem?_toArray, List.getElem?_cons_succ, List.getElem?_cons_zero]; rfl)
            focus exact fun _ _ _ h => h
            focus (refine Or.inl ⟨by rfl, ?_⟩; intro w hSw; (try dsimp only at hSw); go_split_ands; go_simp; try with_reducible rfl)
            try simp only [Act.put, List.setIfInBounds_toArray, List.set_cons_zero, List.set_cons_succ]
            refine Late.take (i := 25) (oi := ?_) (v := ?_) ?_ (by kernel_rfl) (by kernel_rfl) (by kernel_rfl) (by kernel_rfl) ?_ ?_ (by assumption) (by assumption) ?_
            rotate_left 2
            focus (simp only [List.getElem?_toArray, List.getElem?_cons_succ, List.getElem?_cons_zero]; rfl)
            focus exact fun _ _ _ h => h
            focus (refine Or.inl ⟨by rfl, ?_⟩; intro w hSw; (try dsimp only at hSw); go_split_ands; go_simp; try with_reducible rfl)
            try simp only [Act.put, List.setIfInBounds_toArray, List.set_cons_zero, List.set_cons_succ]
            refine Late.only (i := 21) (o := ?_) (by kernel_rfl) ?_ (fun K hK => ?_)
            rotate_left 1
            focus (simp only [List.getElem?_toArray, List.getElem?_cons_succ, List.getElem?_cons_zero]; rfl)
            rw [if_pos (by kernel_rfl)]
            go_simp
            refine (tgen hA.out).mono ?_
            rintro e wx ⟨rfl, hw'⟩
            replace hw' := hw'.symm
            subst hw'
            refine hK.out _ _ hS (fun _ => trivial) ?_
            clear hK K
            try simp only [Act.put, List.setIfInBounds_toArray, List.set_cons_zero, List.set_cons_succ]
            refine Late.take (i := 26) (oi := ?_) (v := ?_) ?_ (by kernel_rfl) (by kernel_rfl) (by kernel_rfl) (by kernel_rfl) ?_ ?_ (by assumption) (by assumption) ?_
            rotate_left 2
            focus (simp only [List.getElem?_toArray, List.getElem?_cons_succ, List.getElem?_cons_zero]; rfl)
            focus exact fun _ _ _ h => h
            focus (refine Or.inl ⟨by kernel_rfl, ?_⟩; intro w hSw; clear hSw; go_simp; try with_reducible rfl)
            try simp only [Act.put, List.setIfInBounds_toArray, List.set_cons_zero, List.set_cons_succ]
            refine Late.take (i := 27) (oi := ?_) (v := ?_) ?_ (by kernel_rfl) (by kernel_rfl) (by kernel_rfl) (by kernel_rfl) ?_ ?_ (by assumption) (by assumption) ?_
            rotate_left 2
            focus (simp only [List.getElem?_toArray, List.getElem?_cons_succ, List.getElem?_cons_zero]; rfl)
            focus exact fun _ _ _ h => h
            focus (refine Or.inl ⟨by kernel_rfl, ?_⟩; intro w hSw; clear hSw; go_simp; try with_reducible rfl)
            try simp only [Act.put, List.setIfInBounds_toArray, List.set_cons_zero, List.set_cons_succ]
            refine Late.take (i := 28) (oi := ?_) (v := ?_) ?_ (by kernel_rfl) (by kernel_rfl) (by kernel_rfl) (by kernel_rfl) ?_ ?_ (by assumption) (by assumption) ?_
            rotate_left 2
            focus (simp only [List.getElem?_toArray, List.getElem?_cons_succ, List.getElem?_cons_zero]; rfl)
            focus exact fun _ _ _ h => h
            focus (refine Or.inl ⟨by kernel_rfl, ?_⟩; intro w hSw; clear hSw; go_simp; try with_reducible rfl)
            try simp only [Act.put, List.setIfInBounds_toArray, List.set_cons_zero, List.set_cons_succ]
            refine Late.take (i := 29) (oi := ?_) (v := ?_) ?_ (by kernel_rfl) (by kernel_rfl) (by kernel_rfl) (by kernel_rfl) ?_ ?_ (by assumption) (by assumption) ?_
            rotate_left 2
            focus (simp only [List.getElem?_toArray, List.getElem?_cons_succ, List.getElem?_cons_zero]; rfl)
            focus exact fun _ _ _ h => h
            focus (refine Or.inl ⟨by kernel_rfl, ?_⟩; intro w hSw; clear hSw; go_simp; try with_reducible rfl)
            try simp only [Act.put, List.setIfInBounds_toArray, List.set_cons_zero, List.set_cons_succ]
            refine Late.take (i := 31) (oi := ?_) (v := ?_) ?_ (by kernel_rfl) (by kernel_rfl) (by kernel_rfl) (by kernel_rfl) ?_ ?_ (by assumption) (by assumption) ?_
            rotate_left 2
            focus (simp only [List.getElem?_toArray, List.getElem?_cons_succ, List.getElem?_cons_zero]; rfl)
            focus exact fun _ _ _ h => h
            focus (refine Or.inl ⟨by kernel_rfl, ?_⟩; intro w hSw; clear hSw; go_simp; try with_reducible rfl)
            try simp only [Act.put, List.setIfInBounds_toArray, List.set_cons_zero, List.set_cons_succ]
            refine Late.only (i := 30) (o := ?_) (by kernel_rfl) ?_ (fun K hK => ?_)
            rotate_left 1
            focus (simp only [List.getElem?_toArray, List.getElem?_cons_succ, List.getElem?_cons_zero]; rfl)
            rw [if_pos (by kernel_rfl)]
            go_simp
            skip
            refine (kR.out _ hA.out).mono ?_
            rintro e wB ⟨rfl, nB, hnB⟩
            have hB := Lib.hid (hA.out.below (show Below wA.heap.size wA wB by rw [hnB]; exact below_drewN (Below.refl _ wA) nB))
            have hbB := Lib.hid (hbA.out.trans (((show Below wA.heap.size wA wB by rw [hnB]; exact below_drewN (Below.refl _ wA) nB)).mono hbA.out.size))
            clear hnB
            obtain ⟨_, _, uB⟩ := hB.out.ucells
            have hSB := And.intro uB.gen (And.intro uB.dead uB.made)
            refine hK.out _ _ hSB (fun _ => trivial) ?_
            clear hK K
            try simp only [Act.put, List.setIfInBounds_toArray, List.set_cons_zero, List.set_cons_succ]
            clear hS
            have hS := hSB
            clear hSB uB hA hbA
            refine Late.only (i := 32) (o := ?_) (by kernel_rfl) ?_ (fun K hK => ?_)
            rotate_left 1
            focus (simp only [List.getElem?_toArray, List.getElem?_cons_succ, List.getElem?_cons_zero]; rfl)
            rw [if_pos (by kernel_rfl)]
            go_simp
            refine (kU.out _ hB.out).mono ?_
            rintro e wC ⟨rfl, bC⟩
            have hC := Lib.hid (hB.out.below bC)
            have hbC := Lib.hid (hbB.out.trans ((bC).mono hbB.out.size))
            clear bC
            obtain ⟨_, _, uC⟩ := hC.out.ucells
            have hSC := And.intro uC.gen (And.intro uC.dead uC.made)
            refine hK.out _ _ hSC (fun _ => trivial) ?_
            clear hK K
            try simp only [Act.put, List.setIfInBounds_toArray, List.set_cons_zero, List.set_cons_succ]
            clear hS
            have hS := hSC
            clear hSC uC hB hbB
            refine Late.take (i := 33) (oi := ?_) (v := ?_) ?_ (by kernel_rfl) (by kernel_rfl) (by kernel_rfl) (by kernel_rfl) ?_ ?_ (by assumption) (by assumption) ?_
            rotate_left 2
            focus (simp only [List.getElem?_toArray, List.getElem?_cons_succ, List.getElem?_cons_zero]; rfl)
            focus exact fun _ _ _ h => h
            focus (refine Or.inl ⟨by kernel_rfl, ?_⟩; intro w hSw; clear hSw; go_simp; try with_reducible rfl)
            try simp only [Act.put, List.setIfInBounds_toArray, List.set_cons_zero, List.set_cons_succ]
            refine Late.take (i := 34) (oi := ?_) (v := ?_) ?_ (by kernel_rfl) (by kernel_rfl) (by kernel_rfl) (by kernel_rfl) ?_ ?_ (by assumption) (by assumption) ?_
            rotate_left 2
            focus (simp only [List.getElem?_toArray, List.getElem?_cons_succ, List.getElem?_cons_zero]; rfl)
            focus exact fun _ _ _ h => h
            focus (refine Or.inl ⟨by kernel_rfl, ?_⟩; intro w hSw; clear hSw; go_simp; try with_reducible rfl)
            try simp only [Act.put, List.setIfInBounds_toArray, List.set_cons_zero, List.set_cons_succ]
            refine Late.take (i := 35) (oi := ?_) (v := ?_) ?_ (by kernel_rfl) (by kernel_rfl) (by kernel_rfl) (by kernel_rfl) ?_ ?_ (by assumption) (by assumption) ?_
            rotate_left 2
            focus (simp only [List.getElem?_toArray, List.getElem?_cons_succ, List.getElem?_cons_zero]; rfl)
            focus exact fun _ _ _ h => h
            focus (refine Or.inl ⟨by kernel_rfl, ?_⟩; intro w hSw; clear hSw; go_simp; try with_reducible rfl)
            try simp only [Act.put, List.setIfInBounds_toArray, List.set_cons_zero, List.set_cons_succ]
            refine Late.take (i := 36) (oi := ?_) (v := ?_) ?_ (by kernel_rfl) (by kernel_rfl) (by kernel_rfl) (by kernel_rfl) ?_ ?_ (by assumption) (by assumption) ?_
            rotate_left 2
            focus (simp only [List.getElem?_toArray, List.getElem?_cons_succ, List.getElem?_cons_zero]; rfl)
            focus exact fun _ _ _ h => h
            focus (refine Or.inl ⟨by kernel_rfl, ?_⟩; intro w hSw; clear hSw; go_simp; try with_reducible rfl)
            try simp only [Act.put, List.setIfInBounds_toArray, List.set_cons_zero, List.set_cons_succ]
            refine Late.take (i := 38) (oi := ?_) (v := ?_) ?_ (by kernel_rfl) (by kernel_rfl) (by kernel_rfl) (by kernel_rfl) ?_ ?_ (by assumption) (by assumption) ?_
            rotate_left 2
            focus (simp only [List.getElem?_toArray, List.getElem?_cons_succ, List.getElem?_cons_zero]; rfl)
            focus exact fun _ _ _ h => h
            focus (refine Or.inl ⟨by rfl, ?_⟩; intro w hSw; (try dsimp only at hSw); go_split_ands; go_simp; try with_reducible rfl)
            try simp only [Act.put, List.setIfInBounds_toArray, List.set_cons_zero, List.set_cons_succ]
            refine Late.take (i := 39) (oi := ?_) (v := ?_) ?_ (by kernel_rfl) (by kernel_rfl) (by kernel_rfl) (by kernel_rfl) ?_ ?_ (by assumption) (by assumption) ?_
            rotate_left 2
            focus (simp only [List.getElem?_toArray, List.getElem?_cons_succ, List.getElem?_cons_zero]; rfl)
            focus exact fun _ _ _ h => h
            focus (refine Or.inl ⟨by rfl, ?_⟩; intro w hSw; (try dsimp only at hSw); go_split_ands; go_simp; try with_reducible rfl)
            try simp only [Act.put, List.setIfInBounds_toArray, List.set_cons_zero, List.set_cons_succ]
            refine Late.take (i := 40) (oi := ?_) (v := ?_) ?_ (by kernel_rfl) (by kernel_rfl) (by kernel_rfl) (by kernel_rfl) ?_ ?_ (by assumption) (by assumption) ?_
            rotate_left 2
            focus (simp only [List.getElem?_toArray, List.getElem?_cons_succ, List.getElem?_cons_zero]; rfl)
            focus exact fun _ _ _ h => h
            focus (refine Or.inl ⟨by rfl, ?_⟩; intro w hSw; (try dsimp only at hSw); go_split_ands; go_simp; try with_reducible rfl)
            try simp only [Act.put, List.setIfInBounds_toArray, List.set_cons_zero, List.set_cons_succ]
            refine Late.take (i := 41) (oi := ?_) (v := ?_) ?_ (by kernel_rfl) (by kernel_rfl) (by kernel_rfl) (by kernel_rfl) ?_ ?_ (by assumption) (by assumption) ?_
            rotate_left 2
            focus (simp only [List.getElem?_toArray, List.getElem?_cons_succ, List.getElem?_cons_zero]; rfl)
            focus exact fun _ _ _ h => h
            focus (refine Or.inl ⟨by rfl, ?_⟩; intro w hSw; (try dsimp only at hSw); go_split_ands; go_simp; try with_reducible rfl)
            try simp only [Act.put, List.setIfInBounds_toArray, List.set_cons_zero, List.set_cons_succ]
            refine Late.only (i := 37) (o := ?_) (by kernel_rfl) ?_ (fun K hK => ?_)
            rotate_left 1
            focus (simp only [List.getElem?_toArray, List.getElem?_cons_succ, List.getElem?_cons_zero]; rfl)
            rw [if_pos (by kernel_rfl)]
            go_simp
            refine (tldead hC.out).mono ?_
            rintro e wx ⟨rfl, hw'⟩
            replace hw' := hw'.symm
            subst hw'
            refine hK.out _ _ hS (fun _ => trivial) ?_
            clear hK K
            try simp only [Act.put, List.setIfInBounds_toArray, List.set_cons_zero, List.set_cons_succ]
            refine Late.take (i := 42) (oi := ?_) (v := ?_) ?_ (by kernel_rfl) (by kernel_rfl) (by kernel_rfl) (by kernel_rfl) ?_ ?_ (by assumption) (by assumption) ?_
            rotate_left 2
            focus (simp only [List.getElem?_toArray, List.getElem?_cons_succ, List.getElem?_cons_zero]; rfl)
            focus exact fun _ _ _ h => h
            focus (refine Or.inl ⟨by kernel_rfl, ?_⟩; intro w hSw; clear hSw; go_simp; try with_reducible rfl)
            try simp only [Act.put, List.setIfInBounds_toArray, List.set_cons_zero, List.set_cons_succ]
            refine Late.take (i := 43) (oi := ?_) (v := ?_) ?_ (by kernel_rfl) (by kernel_rfl) (by kernel_rfl) (by kernel_rfl) ?_ ?_ (by assumption) (by assumption) ?_
            rotate_left 2
            focus (simp only [List.getElem?_toArray, List.getElem?_cons_succ, List.getElem?_cons_zero]; rfl)
            focus exact fun _ _ _ h => h
            focus (refine Or.inl ⟨by kernel_rfl, ?_⟩; intro w hSw; clear hSw; go_simp; try with_reducible rfl)
            try simp only [Act.put, List.setIfInBounds_toArray, List.set_cons_zero, List.set_cons_succ]
            refine Late.done (by kernel_rfl) ?_ _
            clear hS hT kI kJ kR kU qr
            have st : DoesAt w N (2 + 100 * q + 100) wC a2 b2 k2 c l2 d2 := ⟨hC.out, sz2.out, hbC.out⟩
            clear hC hbC sz2
            go_wp2_with fail
            go_loopw [18] (fun tv wr => ∃ (u : Nat), u ≤ 2 ∧ tv = .int .i64 (u : Int) ∧ DoesAt w N (2 + 100 * q + 100) wr a2 b2 k2 c l2 d2) (fun tv _ => 2 - (intOf tv).toNat)
            case atStart => exact ⟨0, by decide, rfl, st⟩
            case round =>
              clear st
              obtain ⟨u, hu, rfl, st⟩ := hrel
              by_cases hu2 : u < 2
              · have du : decide ((u : Int) < 2) = true := decide_eq_true (by omega)
                replace st := Lib.hid st
                go_wp2_with fail
                refine (trecords st.out.h (by omega)).mono ?_
                rintro e w1 ⟨A1, c1, rfl, o1, b1⟩
                obtain ⟨A2, c2, u1⟩ := (st.out.h.below b1).ucells
                have e2 := u1.list
                have ks := rsame_any A1 A2 l2.list.length l2.list.length c1 c2 l2.list l2.list w1 (Row.of_own o1) u1.row (by omega)
                rw [decide_eq_true rfl] at ks
                have h1 : TL (fun i => DX w i ∨ (Value.slice A1 l2.list.length c1).ownBlock = some i) N (2 + 100 * q + 100) w1 a2 b2 k2 c l2 d2 l2 d2 := st.out.h.also b1 (fun i hi => hi.imp id (fun e => o1.lt i e))
                have hb1 := st.out.hb.trans (b1.mono st.out.hb.size)
                have hw1 := st.out.hb.size
                replace ks := Lib.hid ks
                replace h1 := Lib.hid h1
                replace hb1 := Lib.hid hb1
                replace o1 := Lib.hid o1
                have sz2 := Lib.hid st.out.sz
                clear u1 b1
                go_wp2_with fail
                refine ks.out.mono ?_
                rintro e w2 ⟨rfl, nq, hq⟩
                have b2' : Below w1.heap.size w1 w2 := by rw [hq]; exact below_drewN (Below.refl _ w1) nq
                have h2 := h1.out.below b2'
                have hb2 := hb1.out.trans (b2'.mono hb1.out.size)
                have o2 := own_base (own_keeps o1.out (Keeps.of_below (fun _ => False) b2') (fun _ _ h => h)) hw1
                clear hq b2' h1 hb1 o1 e2
                replace st := ()
                have st2 := Lib.hid (show ∃ xs : List Value, xs.length = l2.list.length ∧ w2.ownsRow w.heap.size 9 1 (.slice A1 l2.list.length c1) l2.list.length xs ∧ TL (fun i => DX w i ∨ (Value.slice A1 l2.list.length c1).ownBlock = some i) N (2 + 100 * q + 100) w2 a2 b2 k2 c l2 d2 l2 d2 ∧ Below w.heap.size w w2 from ⟨_, by simp, o2, h2, hb2⟩)
                clear o2 h2 hb2
                go_wp2_with fail
                go_loopw [20] (fun jv wr => ∃ (v : Nat), v ≤ l2.list.length ∧ jv = .int .i64 (v : Int) ∧ ∃ xs : List Value, xs.length = l2.list.length ∧ wr.ownsRow w.heap.size 9 1 (.slice A1 l2.list.length c1) l2.list.length xs ∧ TL (fun i => DX w i ∨ (Value.slice A1 l2.list.length c1).ownBlock = some i) N (2 + 100 * q + 100) wr a2 b2 k2 c l2 d2 l2 d2 ∧ Below w.heap.size w wr) (fun jv _ => l2.list.length - (intOf jv).toNat)
                case atStart => exact ⟨0, Nat.zero_le _, rfl, st2.out⟩
                case round =>
                  clear st2
                  obtain ⟨v, hv, rfl, xs, hxs, own, hh, hbb⟩ := hrel
                  by_cases hv2 : v < l2.list.length
                  · have dv : decide ((v : Int) < (l2.list.length : Int)) = true := decide_eq_true (by omega)
                    have y1 : (0 : Int) ≤ (v : Int) := by omega
                    have y2 : (v : Int) < (l2.list.length : Int) := by omega
                    obtain ⟨gg, rfl⟩ : ∃ gg, A1 = some ⟨gg, 0, none⟩ := by
                      obtain ⟨g1, ⟨_, g3⟩ | ⟨gg, cap, cur, g4, _⟩⟩ := own
                      · rw [g3] at hxs; simp at hxs; omega
                      · injection g4 with g4; exact ⟨gg, g4⟩
                    obtain ⟨old, hold⟩ : ∃ old, xs[v]? = some old := ⟨xs[v]'(by omega), List.getElem?_eq_getElem (by omega)⟩
                    have ccell : wr.cell? ⟨gg, v, none⟩ = some old := by
                      have hc := own.cells (g := gg) rfl v old hold
                      rw [show ((⟨gg, 0, none⟩ : Addr).add v) = ⟨gg, v, none⟩ from by unfold Addr.add; split <;> simp_all] at hc
                      exact hc
                    obtain ⟨own2, fz⟩ := own_put (i := v) (u := .string ⟨#[115, 112, 111, 105, 108, 116]⟩) own
                    have hh2 := hh.turn ((Keeps.refl _ wr).put (g := gg) (Or.inl (Or.inr rfl)) v (.string ⟨#[115, 112, 111, 105, 108, 116]⟩))
                    have hbb2 := hbb.setCell (p := ⟨gg, v, none⟩) (own.lt gg rfl).1 (.string ⟨#[115, 112, 111, 105, 108, 116]⟩)
                    have st3 := Lib.hid (show ∃ xs : List Value, xs.length = l2.list.length ∧ (wr.setCell ⟨gg, v, none⟩ (.string ⟨#[115, 112, 111, 105, 108, 116]⟩)).ownsRow w.heap.size 9 1 (.slice (some ⟨gg, 0, none⟩) l2.list.length c1) l2.list.length xs ∧ TL (fun i => DX w i ∨ (Value.slice (some ⟨gg, 0, none⟩) l2.list.length c1).ownBlock = some i) N (2 + 100 * q + 100) (wr.setCell ⟨gg, v, none⟩ (.string ⟨#[115, 112, 111, 105, 108, 116]⟩)) a2 b2 k2 c l2 d2 l2 d2 ∧ Below w.heap.size w (wr.setCell ⟨gg, v, none⟩ (.string ⟨#[115, 112, 111, 105, 108, 116]⟩)) from ⟨_, by simpa using hxs, own2, hh2, hbb2⟩)
                    clear own2 hh2 hbb2 own hh hbb hold
                    go_wp2_with fail
                    exact ⟨⟨v + 1, by omega, rfl, st3.out⟩, by simp [intOf]; omega⟩
                  · have dv : decide ((v : Int) < (l2.list.length : Int)) = false := decide_eq_false (by omega)
                    have st3 := Lib.hid (show DoesAt w N (2 + 100 * q + 100) wr a2 b2 k2 c l2 d2 from ⟨hh.sub (fun i hi => Or.inl hi), sz2.out, hbb⟩)
                    clear own hh hbb
                    go_wp2_with fail
                    exact ⟨⟨u + 1, by omega, rfl, st3.out⟩, by simp [intOf]; omega⟩
              · have du : decide ((u : Int) < 2) = false := decide_eq_false (by omega)
                replace st := Lib.hid st
                go_wp2_with fail
                exact ⟨⟨q + 1, a2, b2, k2, l2, d2, by omega, by omega, rfl, rfl, rfl, rfl, ⟨st.out.h.more (by omega), st.out.sz, st.out.hb⟩⟩, by simp [intOf]; omega⟩
      · have hb := Lib.hid st.hb
        clear st
        by_cases hqn2 : q < n
        · have z1 : (q : Int) < (n : Int) := by omega
          have d100 : decide ((q : Int) < 100) = false := decide_eq_false (by omega)
          clear hgo
          go_wp2_with fail
          refine (kf.out _).mono ?_
          rintro e w3 ⟨rfl, hb2⟩
          have hb3 := Lib.hid (hb.out.trans (hb2.mono hb.out.size))
          clear hb2
          go_wp2_with fail
          go_ret
          exact ⟨rfl, hb3.out⟩
        · have z1 : decide ((q : Int) < (n : Int)) = false := decide_eq_false (by omega)
          clear hgo
          go_wp2_with fail
          refine (kf.out _).mono ?_
          rintro e w3 ⟨rfl, hb2⟩
          have hb3 := Lib.hid (hb.out.trans (hb2.mono hb.out.size))
          clear hb2
          go_wp2_with fail
          go_ret
          exact ⟨rfl, hb3.out⟩
      end Go.Proofs.YtojhlijcinenoaaGreatDoor.Nv

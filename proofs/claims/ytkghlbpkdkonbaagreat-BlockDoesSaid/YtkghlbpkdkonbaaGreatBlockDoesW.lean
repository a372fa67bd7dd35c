/- BlockDoes: the walk. -/
import Derived.Test.YtkghlbpkdkonbaaGreatBlkFixed
import Derived.Test.YtkghlbpkdkonbaaGreatBlkOld
import Derived.Test.YtkghlbpkdkonbaaGreatDoorO
import Derived.Test.YtkghlbpkdkonbaaGreatLate
import Derived.BigQuiet
import Derived.Deep.DeepCutAuto
namespace Go.Proofs.YtkghlbpkdkonbaaGreat.Vl
open Go Go.RowKit Go.Maps Mem Disk Nv Door
/-- where the law's loop stands -/
def DX (w : World) (i : Nat) : Prop := i < w.heap.size
structure DoesAt (w : World) (N m : Nat) (wr : World) (a b k c : Nat) (v : Vo) (d : Dk) : Prop where
  h : TV (DX w) N m wr a b k c v d v d
  hb : Below w.heap.size w wr
set_option maxRecDepth 100000 in
set_option maxHeartbeats 32000000 in
theorem blockdoes_any (sec : Int) (text : ByteArray) (A : Option Addr) (n cp : Nat) (w : World) (hops : Ops5 (fun s => s.size ≤ 140737488355328) (fun _ => True) w A n) :
    Calls Tryz.prog 3 #[.int .i64 sec, .string text, .slice A n cp] w fun e w' => e = .returned (.bool true) ∧ Below w.heap.size w w' := by
  have kf := Lib.hid (fun W => fixed_any W)
  by_cases h5 : 32 ≤ clamp400 sec ∧ text.size ≤ 40
  rotate_left
  · have k0 := Lib.hid (laid_no sec text w h5)
    clear h5 hops
    go_enter Tryz.func3, Tryz.ntmps3
    go_wp2_with fail
    refine k0.out.mono ?_
    rintro e w1 ⟨b, c, rfl, hb⟩
    have hb1 := Lib.hid hb
    clear k0 hb
    go_wp2_with fail
    go_loopw [8, 10, 12] (fun lv kv iv wr => lv = .pointer none ∧ kv = .pointer none ∧ iv = .int .i64 0 ∧ wr = w1) (fun _ _ _ _ => 0)
    case atStart => exact ⟨rfl, rfl, rfl, rfl⟩
    case round =>
      obtain ⟨rfl, rfl, rfl, rfl⟩ := hrel
      go_wp2_with fail
      refine (kf.out _).mono ?_
      rintro e w3 ⟨rfl, hb2⟩
      have hb3 := Lib.hid (hb1.out.trans (hb2.mono hb1.out.size))
      clear hb2
      go_wp2_with fail
      go_ret
      exact ⟨rfl, hb3.out⟩
  · have k0 := Lib.hid (laid_yes sec text w h5.1 h5.2)
    obtain ⟨hN1, hN2⟩ := clamp400_le sec
    have q2 := Lib.hid (laidV_ok (N := clamp400 sec) h5.1 (by omega) h5.2).2.2.2.1
    replace hops := Lib.hid hops
    clear h5
    go_enter Tryz.func3, Tryz.ntmps3
    go_wp2_with fail
    refine k0.out.mono ?_
    rintro e w1 ⟨a, b, k, c, rfl, h, hb⟩
    have st : DoesAt w (clamp400 sec) 3 w1 a b k c ⟨text, 1, [], false⟩ (laidV (clamp400 sec) text) := by
      obtain ⟨F, G, h1, h2, h3, h4, h5⟩ := h
      exact ⟨⟨F, G, h1, h2, h5, fun i hi hx => by have := h3 i hi; unfold DX at hx; omega, fun i hi hx => by have := h4 i hi; unfold DX at hx; omega, fun i hx => Nat.lt_of_lt_of_le hx hb.size, q2.out, q2.out⟩, hb⟩
    clear k0 q2 h hb
    generalize laidV (clamp400 sec) text = d0 at st
    generalize clamp400 sec = N at hN1 hN2 st
    generalize (⟨text, 1, [], false⟩ : Vo) = l0 at st
    go_wp2_with fail
    go_loopw [7, 8, 10, 12] (fun dv lv kv iv wr => ∃ (q a b k : Nat) (v : Vo) (d : Dk), q ≤ n ∧ q ≤ 100 ∧ dv = .pointer (some ⟨b, 0, none⟩) ∧ lv = .pointer (some ⟨a, 0, none⟩) ∧ kv = .pointer (some ⟨k, 0, none⟩) ∧ iv = .int .i64 (q : Int) ∧ DoesAt w N (3 + 100 * q) wr a b k c v d) (fun _ _ _ iv _ => n - (intOf iv).toNat)
    case atStart => exact ⟨0, a, b, k, _, _, Nat.zero_le _, Nat.zero_le _, rfl, rfl, rfl, rfl, st⟩
    case round =>
      clear st
      obtain ⟨q, a, b, k, v, d, hqn, hq1, rfl, rfl, rfl, rfl, st⟩ := hrel
      by_cases hgo : q < n ∧ q < 100
      · obtain ⟨hlt1, hlt2⟩ := hgo
        obtain ⟨ad, x, y, s, t, bb, rfl, hy, hs9, _, hat⟩ := hops.out.at_ hlt1
        obtain ⟨m0, m1, m2, m3, m4⟩ := hat wr st.hb
        have z1 : (0 : Int) ≤ (q : Int) := by omega
        have z2 : (q : Int) < (n : Int) := by omega
        have d100 : decide ((q : Int) < 100) = true := decide_eq_true (by omega)
        go_upto_region 8 with fail
        obtain ⟨P, hP⟩ : ∃ P, P = wr.heap.size := ⟨_, rfl⟩
        obtain ⟨W, hW⟩ : ∃ W, W = wr.alloc (.cells #[.int .i64 x, .int .i64 y, .string s, .string t, .bool bb] 30) := ⟨_, rfl⟩
        have hWb : Below wr.heap.size wr W := by rw [hW]; exact (Below.refl _ wr).alloc (Nat.le_refl _) _
        have hB : Blk W P 30 #[.int .i64 x, .int .i64 y, .string s, .string t, .bool bb] := by rw [hW, hP]; exact Blk.new wr _ _
        rw [← hW, ← hP]
        have h : TV (fun i => DX w i ∨ i = P) N (3 + 100 * q) W a b k c v d v d := st.h.also hWb (fun i hi => by
          rcases hi with hi | hi
          · exact Or.inl hi
          · have := hB.lt
            exact Or.inr (by omega))
        have hb := st.hb.trans (hWb.mono st.hb.size)
        have hK := Lib.hid h.kf
        clear hW hP hWb m0 m1 m2 m3 m4 hat d100 z1 z2 st
        have c0' : W.cell? ⟨P, 0, none⟩ = some (.int .i64 x) := hB.cell 0
        replace h := Lib.hid h
        replace hb := Lib.hid hb
        replace hB := Lib.hid hB
        go_upto_block 2 with fail
        clear c0'
        go_cut [7, 8, 10, 14, 15, 16, 17] (fun dv lv kv r1 r2 s1 s2 wx => ∃ (a2 b2 k2 : Nat) (v2 : Vo) (d2 : Dk) (r : Int) (sr : ByteArray), dv = .pointer (some ⟨b2, 0, none⟩) ∧ lv = .pointer (some ⟨a2, 0, none⟩) ∧ kv = .pointer (some ⟨k2, 0, none⟩) ∧ r1 = .int .i64 r ∧ r2 = .int .i64 r ∧ s1 = .string sr ∧ s2 = .string sr ∧ DoesAt w N (3 + 100 * q + 100) wx a2 b2 k2 c v2 d2)
        case first =>
          as_aux_lemma =>
            by_cases e0 : x = 0
            · as_aux_lemma =>
                have i0 : (x == 0) = true := by simpa using e0
                replace e0 := Lib.hid e0
                obtain ⟨R, hR⟩ : ∃ R, R = readV v d y := ⟨_, rfl⟩
                have p1 : W.cell? ⟨P, 1, none⟩ = some (.int .i64 y) := hB.out.cell 1
                have kt := vtread h.out y
                rw [← hR] at kt
                have ku := fun W' (h' : TV (fun i => DX w i ∨ i = P) N (3 + 100 * q + 0) W' a b k c R.1 d v d) => vuread h' hK.out (by omega) y
                rw [← hR] at ku
                replace hR := Lib.hid hR
                replace kt := Lib.hid kt
                replace ku := Lib.hid ku
                go_wp2_with fail
                refine kt.out.mono ?_
                rintro en w1 ⟨rfl, h1, k1⟩
                have hB1 := hB.out.keeps k1 (fun hn => hn (Or.inr rfl))
                clear p1
                have p1 : w1.cell? ⟨P, 1, none⟩ = some (.int .i64 y) := hB1.cell 1
                have hb1 := hb.out.trans (k1.toBelow (fun i hi => Or.inl hi) hb.out.size)
                replace hb1 := Lib.hid hb1
                replace hB1 := Lib.hid hB1
                replace h1 := Lib.hid h1
                clear k1
                go_wp2_with fail
                refine (ku.out _ h1.out).mono ?_
                rintro en w2 ⟨rfl, h2, k2⟩
                have hb2 := Lib.hid (hb1.out.trans (k2.toBelow (fun i hi => Or.inl hi) hb1.out.size))
                replace h2 := Lib.hid ((h2.more (m' := 3 + 100 * q + 100) (by omega)).sub (Y := DX w) (fun i hi => Or.inl hi))
                clear k2
                go_wp2_with fail
                go_meet
                exact ⟨a, b, k, _, _, R.2.2, R.2.1, rfl, rfl, rfl, rfl, rfl, rfl, rfl, ⟨h2.out, hb2.out⟩⟩
            · have j0 : (x == 0) = false := by simpa using e0
              clear e0
              by_cases e1 : x = 1
              · as_aux_lemma =>
                  have i1 : (x == 1) = true := by simpa using e1
                  replace e1 := Lib.hid e1
                  obtain ⟨R, hR⟩ : ∃ R, R = writeV v d y s := ⟨_, rfl⟩
                  have p1 : W.cell? ⟨P, 1, none⟩ = some (.int .i64 y) := hB.out.cell 1
                  have p2 : W.cell? ⟨P, 2, none⟩ = some (.string s) := hB.out.cell 2
                  have kt := vtwrite h.out (by omega) y s (by omega)
                  rw [← hR] at kt
                  have ku := fun W' (h' : TV (fun i => DX w i ∨ i = P) N (3 + 100 * q + 4) W' a b k c R.1 R.2.1 v d) => vuwrite h' hK.out (by omega) y s (by omega)
                  rw [← hR] at ku
                  replace hR := Lib.hid hR
                  replace kt := Lib.hid kt
                  replace ku := Lib.hid ku
                  go_wp2_with fail
                  refine kt.out.mono ?_
                  rintro en w1 ⟨rfl, h1, k1⟩
                  have hB1 := hB.out.keeps k1 (fun hn => hn (Or.inr rfl))
                  clear p1 p2
                  have p1 : w1.cell? ⟨P, 1, none⟩ = some (.int .i64 y) := hB1.cell 1
                  have p2 : w1.cell? ⟨P, 2, none⟩ = some (.string s) := hB1.cell 2
                  have hb1 := hb.out.trans (k1.toBelow (fun i hi => Or.inl hi) hb.out.size)
                  replace hb1 := Lib.hid hb1
                  replace hB1 := Lib.hid hB1
                  replace h1 := Lib.hid h1
                  clear k1
                  go_wp2_with fail
                  refine (ku.out _ h1.out).mono ?_
                  rintro en w2 ⟨rfl, h2, k2⟩
                  have hb2 := Lib.hid (hb1.out.trans (k2.toBelow (fun i hi => Or.inl hi) hb1.out.size))
                  replace h2 := Lib.hid ((h2.more (m' := 3 + 100 * q + 100) (by omega)).sub (Y := DX w) (fun i hi => Or.inl hi))
                  clear k2
                  go_wp2_with fail
                  go_meet
                  exact ⟨a, b, k, _, _, R.2.2, ⟨#[]⟩, rfl, rfl, rfl, rfl, rfl, rfl, rfl, ⟨h2.out, hb2.out⟩⟩
              · have j1 : (x == 1) = false := by simpa using e1
                clear e1
                by_cases e2 : x = 2
                · as_aux_lemma =>
                    have i2 : (x == 2) = true := by simpa using e2
                    replace e2 := Lib.hid e2
                    obtain ⟨R, hR⟩ : ∃ R, R = commitV v d s := ⟨_, rfl⟩
                    have p2 : W.cell? ⟨P, 2, none⟩ = some (.string s) := hB.out.cell 2
                    have kt := vtcommit h.out (by omega) s
                    rw [← hR] at kt
                    have ku := fun W' (h' : TV (fun i => DX w i ∨ i = P) N (3 + 100 * q + 3) W' a b k c R.1 R.2.1 v d) => vucommit h' (by omega) s
                    rw [← hR] at ku
                    replace hR := Lib.hid hR
                    replace kt := Lib.hid kt
                    replace ku := Lib.hid ku
                    go_wp2_with fail
                    refine kt.out.mono ?_
                    rintro en w1 ⟨rfl, h1, k1⟩
                    have hB1 := hB.out.keeps k1 (fun hn => hn (Or.inr rfl))
                    clear p2
                    have p2 : w1.cell? ⟨P, 2, none⟩ = some (.string s) := hB1.cell 2
                    have hb1 := hb.out.trans (k1.toBelow (fun i hi => Or.inl hi) hb.out.size)
                    replace hb1 := Lib.hid hb1
                    replace hB1 := Lib.hid hB1
                    replace h1 := Lib.hid h1
                    clear k1
                    go_wp2_with fail
                    refine (ku.out _ h1.out).mono ?_
                    rintro en w2 ⟨rfl, h2, k2⟩
                    have hb2 := Lib.hid (hb1.out.trans (k2.toBelow (fun i hi => Or.inl hi) hb1.out.size))
                    replace h2 := Lib.hid ((h2.more (m' := 3 + 100 * q + 100) (by omega)).sub (Y := DX w) (fun i hi => Or.inl hi))
                    clear k2
                    go_wp2_with fail
                    go_meet
                    exact ⟨a, b, k, _, _, R.2.2, ⟨#[]⟩, rfl, rfl, rfl, rfl, rfl, rfl, rfl, ⟨h2.out, hb2.out⟩⟩
                · have j2 : (x == 2) = false := by simpa using e2
                  clear e2
                  by_cases e3 : x = 3
                  · as_aux_lemma =>
                      have i3 : (x == 3) = true := by simpa using e3
                      replace e3 := Lib.hid e3
                      obtain ⟨R, hR⟩ : ∃ R, R = armD d y t := ⟨_, rfl⟩
                      have p1 : W.cell? ⟨P, 1, none⟩ = some (.int .i64 y) := hB.out.cell 1
                      have p3 : W.cell? ⟨P, 3, none⟩ = some (.string t) := hB.out.cell 3
                      have kt := vtarm h.out y hy.2 t
                      rw [← hR] at kt
                      have ku := fun W' (h' : TV (fun i => DX w i ∨ i = P) N (3 + 100 * q + 0) W' a b k c v R.1 v d) => vuarm h' y hy.2 t
                      rw [← hR] at ku
                      replace hR := Lib.hid hR
                      replace kt := Lib.hid kt
                      replace ku := Lib.hid ku
                      go_wp2_with fail
                      refine kt.out.mono ?_
                      rintro en w1 ⟨rfl, h1, k1⟩
                      have hB1 := hB.out.keeps k1 (fun hn => hn (Or.inr rfl))
                      clear p1 p3
                      have p1 : w1.cell? ⟨P, 1, none⟩ = some (.int .i64 y) := hB1.cell 1
                      have p3 : w1.cell? ⟨P, 3, none⟩ = some (.string t) := hB1.cell 3
                      have hb1 := hb.out.trans (k1.toBelow (fun i hi => Or.inl hi) hb.out.size)
                      replace hb1 := Lib.hid hb1
                      replace hB1 := Lib.hid hB1
                      replace h1 := Lib.hid h1
                      clear k1
                      go_wp2_with fail
                      refine (ku.out _ h1.out).mono ?_
                      rintro en w2 ⟨rfl, h2, k2⟩
                      have hb2 := Lib.hid (hb1.out.trans (k2.toBelow (fun i hi => Or.inl hi) hb1.out.size))
                      replace h2 := Lib.hid ((h2.more (m' := 3 + 100 * q + 100) (by omega)).sub (Y := DX w) (fun i hi => Or.inl hi))
                      clear k2
                      go_wp2_with fail
                      go_meet
                      exact ⟨a, b, k, _, _, R.2, ⟨#[]⟩, rfl, rfl, rfl, rfl, rfl, rfl, rfl, ⟨h2.out, hb2.out⟩⟩
                  · have j3 : (x == 3) = false := by simpa using e3
                    clear e3
                    by_cases e5 : x = 5
                    · as_aux_lemma =>
                        have i5 : (x == 5) = true := by simpa using e5
                        replace e5 := Lib.hid e5
                        obtain ⟨R, hR⟩ : ∃ R, R = badD d y bb := ⟨_, rfl⟩
                        have p1 : W.cell? ⟨P, 1, none⟩ = some (.int .i64 y) := hB.out.cell 1
                        have p4 : W.cell? ⟨P, 4, none⟩ = some (.bool bb) := hB.out.cell 4
                        have kt := vtbad h.out (by omega) y bb
                        rw [← hR] at kt
                        have ku := fun W' (h' : TV (fun i => DX w i ∨ i = P) N (3 + 100 * q + 1) W' a b k c v R.1 v d) => vubad h' (by omega) y bb
                        rw [← hR] at ku
                        replace hR := Lib.hid hR
                        replace kt := Lib.hid kt
                        replace ku := Lib.hid ku
                        go_wp2_with fail
                        refine kt.out.mono ?_
                        rintro en w1 ⟨rfl, h1, k1⟩
                        have hB1 := hB.out.keeps k1 (fun hn => hn (Or.inr rfl))
                        clear p1 p4
                        have p1 : w1.cell? ⟨P, 1, none⟩ = some (.int .i64 y) := hB1.cell 1
                        have p4 : w1.cell? ⟨P, 4, none⟩ = some (.bool bb) := hB1.cell 4
                        have hb1 := hb.out.trans (k1.toBelow (fun i hi => Or.inl hi) hb.out.size)
                        replace hb1 := Lib.hid hb1
                        replace hB1 := Lib.hid hB1
                        replace h1 := Lib.hid h1
                        clear k1
                        go_wp2_with fail
                        refine (ku.out _ h1.out).mono ?_
                        rintro en w2 ⟨rfl, h2, k2⟩
                        have hb2 := Lib.hid (hb1.out.trans (k2.toBelow (fun i hi => Or.inl hi) hb1.out.size))
                        replace h2 := Lib.hid ((h2.more (m' := 3 + 100 * q + 100) (by omega)).sub (Y := DX w) (fun i hi => Or.inl hi))
                        clear k2
                        go_wp2_with fail
                        go_meet
                        exact ⟨a, b, k, _, _, R.2, ⟨#[]⟩, rfl, rfl, rfl, rfl, rfl, rfl, rfl, ⟨h2.out, hb2.out⟩⟩
                    · have j5 : (x == 5) = false := by simpa using e5
                      clear e5
                      by_cases e4 : x = 4
                      · as_aux_lemma =>
                          have i4 : (x == 4) = true := by simpa using e4
                          replace e4 := Lib.hid e4
                          have p3 : W.cell? ⟨P, 3, none⟩ = some (.string t) := hB.out.cell 3
                          have kt := Lib.hid (vtcrash h.out t)
                          have ku := Lib.hid (fun W' (h' : TV (fun i => DX w i ∨ i = P) N (3 + 100 * q) W' a b k c v (crashD d t).1 v d) => vucrash h' t)
                          obtain ⟨d1, hd1⟩ : ∃ d1, d1 = (crashD d t).1 := ⟨_, rfl⟩
                          obtain ⟨y1, hy1⟩ : ∃ y1, y1 = (crashD d t).2 := ⟨_, rfl⟩
                          rw [← hd1, ← hy1] at kt ku
                          replace hd1 := Lib.hid hd1
                          replace hy1 := Lib.hid hy1
                          go_wp2_with fail
                          refine kt.out.mono ?_
                          rintro en w1 ⟨rfl, h1, k1⟩
                          have hB1 := hB.out.keeps k1 (fun hn => hn (Or.inr rfl))
                          clear p3
                          have p3 : w1.cell? ⟨P, 3, none⟩ = some (.string t) := hB1.cell 3
                          have hb1 := hb.out.trans (k1.toBelow (fun i hi => Or.inl hi) hb.out.size)
                          replace hb1 := Lib.hid hb1
                          replace hB1 := Lib.hid hB1
                          replace h1 := Lib.hid h1
                          clear k1
                          go_wp2_with fail
                          refine (ku.out _ h1.out).mono ?_
                          rintro en w2 ⟨rfl, h2, k2⟩
                          have hb2 := Lib.hid (hb1.out.trans (k2.toBelow (fun i hi => Or.inl hi) hb1.out.size))
                          replace h2 := Lib.hid (h2.sub (Y := DX w) (fun i hi => Or.inl hi))
                          clear k2
                          go_wp2_with fail
                          refine (vtrevive h2.out).mono ?_
                          rintro en w3 ⟨rfl, h3, k3⟩
                          have hb3 := Lib.hid (hb2.out.trans (k3.toBelow (fun i hi => hi) hb2.out.size))
                          replace h3 := Lib.hid h3
                          clear k3
                          go_wp2_with fail
                          refine (vurevive h3.out).mono ?_
                          rintro en w4 ⟨rfl, h4, k4⟩
                          have hb4 := hb3.out.trans (k4.toBelow (fun i hi => hi) hb3.out.size)
                          clear k4
                          obtain ⟨d2, hd2⟩ : ∃ d2, d2 = reviveD d1 := ⟨_, rfl⟩
                          rw [← hd2] at h4
                          have ko := vtopen h4
                          have ku2 := fun W' a' v' (h' : TV (DX w) N (3 + 100 * q) W' a' b k c v' d2 v d2) => vuopen h' (by omega)
                          replace hd2 := Lib.hid hd2
                          replace hb4 := Lib.hid hb4
                          replace h4 := Lib.hid h4
                          cases ho : openV d2 with
                          | mk lo x2 =>
                          rw [ho] at ko ku2
                          cases lo with
                          | none =>
                            have hx2 : (x2 != 0) = true := by
                              have := openV_bad (d := d2) (by rw [ho])
                              rw [ho] at this
                              simpa using this
                            have qx : (x2 == x2) = true := beq_self_eq_true _
                            replace ko := Lib.hid ko
                            replace ku2 := Lib.hid ku2
                            replace ho := Lib.hid ho
                            go_wp2_with fail
                            refine ko.out.mono ?_
                            rintro en w5 ⟨b5, rfl, h5⟩
                            have hb5 := Lib.hid (hb4.out.trans (b5.mono hb4.out.size))
                            replace h5 := Lib.hid h5
                            clear b5
                            go_wp2_with fail
                            refine (ku2.out _ _ _ h5.out).mono ?_
                            rintro en w6 ⟨b6, rfl, h6⟩
                            have hb6 := Lib.hid (hb5.out.trans (b6.mono hb5.out.size))
                            clear b6 h6
                            go_wp2_with fail
                            refine (kf.out _).mono ?_
                            rintro en w7 ⟨rfl, b7⟩
                            have hb7 := Lib.hid (hb6.out.trans (b7.mono hb6.out.size))
                            clear b7
                            go_wp2_with fail
                            go_ret
                            exact ⟨rfl, hb7.out⟩
                          | some v3 =>
                            replace ko := Lib.hid ko
                            replace ku2 := Lib.hid ku2
                            replace ho := Lib.hid ho
                            go_wp2_with fail
                            refine ko.out.mono ?_
                            rintro en w5 ⟨b5, a3, rfl, h5⟩
                            have hb5 := Lib.hid (hb4.out.trans (b5.mono hb4.out.size))
                            replace h5 := Lib.hid h5
                            clear b5
                            go_wp2_with fail
                            refine (ku2.out _ _ _ h5.out).mono ?_
                            rintro en w6 ⟨b6, k3, rfl, h6⟩
                            have hb6 := Lib.hid (hb5.out.trans (b6.mono hb5.out.size))
                            replace h6 := Lib.hid (h6.more (m' := 3 + 100 * q + 100) (by omega))
                            clear b6
                            go_wp2_with fail
                            go_meet
                            exact ⟨a3, b, k3, v3, d2, x2, ⟨#[]⟩, rfl, rfl, rfl, rfl, rfl, rfl, rfl, ⟨h6.out, hb6.out⟩⟩
                      · have j4 : (x == 4) = false := by simpa using e4
                        clear e4
                        by_cases e6 : x = 6
                        · as_aux_lemma =>
                            have i6 : (x == 6) = true := by simpa using e6
                            replace e6 := Lib.hid e6
                            have ko := Lib.hid (fun W' a2 b2 (h' : CLV (fun i => DX w i ∨ i = P) N (3 + 100 * q) W' a b v d a2 b2 k c v d v d) => ovwrite h' (by omega) 1 ⟨#[108, 101, 102, 116]⟩ (by decide))
                            obtain ⟨R, hR⟩ : ∃ R, R = writeV v d 1 ⟨#[108, 101, 102, 116]⟩ := ⟨_, rfl⟩
                            rw [← hR] at ko
                            replace hR := Lib.hid hR
                            have kw := fun W' a2 b2 (h' : CLV (fun i => DX w i ∨ i = P) N (3 + 100 * q + 4) W' a b R.1 R.2.1 a2 b2 k c v d v d) => ovcommit h' (by omega) ⟨#[108, 101, 102, 116]⟩
                            obtain ⟨R2, hR2⟩ : ∃ R2, R2 = commitV R.1 R.2.1 ⟨#[108, 101, 102, 116]⟩ := ⟨_, rfl⟩
                            rw [← hR2] at kw
                            have kc := fun W' a2 b2 (h' : CLV (fun i => DX w i ∨ i = P) N (3 + 100 * q + 4 + 3) W' a b R2.1 R2.2.1 a2 b2 k c v d v d) => ovcrash h' ⟨#[]⟩
                            obtain ⟨R3, hR3⟩ : ∃ R3, R3 = crashD R2.2.1 ⟨#[]⟩ := ⟨_, rfl⟩
                            rw [← hR3] at kc
                            replace hR2 := Lib.hid hR2
                            replace hR3 := Lib.hid hR3
                            replace kw := Lib.hid kw
                            replace kc := Lib.hid kc
                            go_wp2_with fail
                            refine (vtclone h.out).mono ?_
                            rintro en w1 ⟨b2, rfl, b1, h1⟩
                            have hb1 := Lib.hid (hb.out.trans (b1.mono hb.out.size))
                            replace h1 := Lib.hid h1
                            clear b1
                            go_wp2_with fail
                            refine (vvclone h1.out).mono ?_
                            rintro en w2 ⟨a2, rfl, k2, h2⟩
                            have hb2 := Lib.hid (hb1.out.trans (k2.toBelow (fun i hi => Or.inl hi) hb1.out.size))
                            replace h2 := Lib.hid h2
                            clear k2
                            go_wp2_with fail
                            refine (ko.out _ _ _ h2.out).mono ?_
                            rintro en w3 ⟨rfl, h3, k3⟩
                            have hb3 := Lib.hid (hb2.out.trans (k3.toBelow (fun i hi => Or.inl hi) hb2.out.size))
                            replace h3 := Lib.hid h3
                            clear k3
                            go_wp2_with fail
                            refine (kw.out _ _ _ h3.out).mono ?_
                            rintro en w4 ⟨rfl, h4, k4⟩
                            have hb4 := Lib.hid (hb3.out.trans (k4.toBelow (fun i hi => Or.inl hi) hb3.out.size))
                            replace h4 := Lib.hid h4
                            clear k4
                            go_wp2_with fail
                            refine (kc.out _ _ _ h4.out).mono ?_
                            rintro en w5 ⟨rfl, h5, k5⟩
                            have hb5 := Lib.hid (hb4.out.trans (k5.toBelow (fun i hi => Or.inl hi) hb4.out.size))
                            replace h5 := Lib.hid ((h5.tv.more (m' := 3 + 100 * q + 100) (by omega)).sub (Y := DX w) (fun i hi => Or.inl hi))
                            clear k5
                            go_wp2_with fail
                            go_meet
                            exact ⟨a2, b2, k, v, d, 0, ⟨#[]⟩, rfl, rfl, rfl, rfl, rfl, rfl, rfl, ⟨h5.out, hb5.out⟩⟩
                        · have j6 : (x == 6) = false := by simpa using e6
                          clear e6
                          replace h := Lib.hid ((h.out.more (m' := 3 + 100 * q + 100) (by omega)).sub (Y := DX w) (fun i hi => Or.inl hi))
                          go_wp2_with fail
                          go_meet
                          exact ⟨a, b, k, v, d, 0, ⟨#[]⟩, rfl, rfl, rfl, rfl, rfl, rfl, rfl, ⟨h.out, hb.out⟩⟩
        case rest =>
          as_aux_lemma =>
            obtain ⟨a2, b2, k2, v2, d2, r, sr, rfl, rfl, rfl, rfl, rfl, rfl, rfl, st⟩ := hcut
            have qr : (r != r) = false := bne_self_eq_false _
            have qs : (sr.toList == sr.toList) = true := beq_self_eq_true _
            obtain ⟨I, hI⟩ : ∃ I, I = img d2 := ⟨_, rfl⟩
            have kI := Lib.hid (fun W (h' : TV (DX w) N (3 + 100 * q + 100) W a2 b2 k2 c v2 d2 v2 d2) => vtimage h')
            have kJ := Lib.hid (fun W (h' : TV (DX w) N (3 + 100 * q + 100) W a2 b2 k2 c v2 d2 v2 d2) => vuimage h')
            rw [← hI] at kI kJ
            replace hI := Lib.hid hI
            have kr := Lib.hid (vtroot st.h)
            replace st := Lib.hid st
            clear hB h hb
            go_wp2_with fail
            refine kr.out.mono ?_
            rintro en w0 ⟨rfl, nq, hw0⟩
            have b0 : Below wc.heap.size wc w0 := by rw [hw0]; exact below_drewN (Below.refl _ wc) nq
            have h0 := Lib.hid ((st.out.h.below b0).below ((Below.refl _ w0).drew))
            have hb0 := Lib.hid (st.out.hb.trans (b0.mono st.out.hb.size)).drew
            obtain ⟨u0t, u0n, u0d, u0m⟩ := h0.out.ucells
            clear kr hw0 b0 st
            go_upto_region 42 with fail
            refine Late.start (S := fun W' => W'.cell? ⟨k2, 1, none⟩ = some (.string v2.text) ∧ W'.cell? ⟨k2, 2, none⟩ = some (.int .i64 (v2.num : Int)) ∧ W'.cell? ⟨k2, 4, none⟩ = some (.bool v2.dead) ∧ W'.cell? ⟨c, 3, none⟩ = some (.int .i64 (d2.steps : Int))) (T := fun _ => True) (late := []) (by kernel_rfl) ?_
            have hS := And.intro u0t (And.intro u0n (And.intro u0d u0m))
            have hT : True := trivial
            clear u0t u0n u0d u0m
            refine Late.take (i := 0) (oi := ?_) (v := ?_) ?_ (by kernel_rfl) (by kernel_rfl) (by kernel_rfl) (by kernel_rfl) ?_ ?_ (by assumption) (by assumption) ?_
            rotate_left 2
            focus (simp only [List.getElem?_toArray, List.getElem?_cons_zero]; rfl)
            focus exact fun _ _ _ h => h
            focus (refine Or.inl ⟨by kernel_rfl, ?_⟩; intro w hSw; clear hSw; go_simp; try with_reducible rfl)
            try simp only [Act.put, List.setIfInBounds_toArray, List.set_cons_zero, List.set_cons_succ]
            refine Late.take (i := 1) (oi := ?_) (v := ?_) ?_ (by kernel_rfl) (by kernel_rfl) (by kernel_rfl) (by kernel_rfl) ?_ ?_ (by assumption) (by assumption) ?_
            rotate_left 2
            focus (simp only [List.getElem?_toArray, List.getElem?_cons_succ, List.getElem?_cons_zero]; rfl)
            focus exact fun _ _ _ h => h
            focus (refine Or.inl ⟨by kernel_rfl, ?_⟩; intro w hSw; clear hSw; go_simp; try with_reducible rfl)
            try simp only [Act.put, List.setIfInBounds_toArray, List.set_cons_zero, List.set_cons_succ]
            refine Late.take (i := 2) (oi := ?_) (v := ?_) ?_ (by kernel_rfl) (by kernel_rfl) (by kernel_rfl) (by kernel_rfl) ?_ ?_ (by assumption) (by assumption) ?_
            rotate_left 2
            focus (simp only [List.getElem?_toArray, List.getElem?_cons_succ, List.getElem?_cons_zero]; rfl)
            focus exact fun _ _ _ h => h
            focus (refine Or.inl ⟨by kernel_rfl, ?_⟩; intro w hSw; clear hSw; go_simp; try with_reducible rfl)
            try simp only [Act.put, List.setIfInBounds_toArray, List.set_cons_zero, List.set_cons_succ]
            refine Late.take (i := 3) (oi := ?_) (v := ?_) ?_ (by kernel_rfl) (by kernel_rfl) (by kernel_rfl) (by kernel_rfl) ?_ ?_ (by assumption) (by assumption) ?_
            rotate_left 2
            focus (simp only [List.getElem?_toArray, List.getElem?_cons_succ, List.getElem?_cons_zero]; rfl)
            focus exact fun _ _ _ h => h
            focus (refine Or.inl ⟨by kernel_rfl, ?_⟩; intro w hSw; clear hSw; go_simp; try with_reducible rfl)
            try simp only [Act.put, List.setIfInBounds_toArray, List.set_cons_zero, List.set_cons_succ]
            refine Late.take (i := 4) (oi := ?_) (v := ?_) ?_ (by kernel_rfl) (by kernel_rfl) (by kernel_rfl) (by kernel_rfl) ?_ ?_ (by assumption) (by assumption) ?_
            rotate_left 2
            focus (simp only [List.getElem?_toArray, List.getElem?_cons_succ, List.getElem?_cons_zero]; rfl)
            focus exact fun _ _ _ h => h
            focus (refine Or.inl ⟨by kernel_rfl, ?_⟩; intro w hSw; clear hSw; go_simp; try with_reducible rfl)
            try simp only [Act.put, List.setIfInBounds_toArray, List.set_cons_zero, List.set_cons_succ]
            refine Late.take (i := 5) (oi := ?_) (v := ?_) ?_ (by kernel_rfl) (by kernel_rfl) (by kernel_rfl) (by kernel_rfl) ?_ ?_ (by assumption) (by assumption) ?_
            rotate_left 2
            focus (simp only [List.getElem?_toArray, List.getElem?_cons_succ, List.getElem?_cons_zero]; rfl)
            focus exact fun _ _ _ h => h
            focus (refine Or.inl ⟨by kernel_rfl, ?_⟩; intro w hSw; clear hSw; go_simp; try with_reducible rfl)
            try simp only [Act.put, List.setIfInBounds_toArray, List.set_cons_zero, List.set_cons_succ]
            refine Late.take (i := 6) (oi := ?_) (v := ?_) ?_ (by kernel_rfl) (by kernel_rfl) (by kernel_rfl) (by kernel_rfl) ?_ ?_ (by assumption) (by assumption) ?_
            rotate_left 2
            focus (simp only [List.getElem?_toArray, List.getElem?_cons_succ, List.getElem?_cons_zero]; rfl)
            focus exact fun _ _ _ h => h
            focus (refine Or.inl ⟨by kernel_rfl, ?_⟩; intro w hSw; clear hSw; go_simp; try with_reducible rfl)
            try simp only [Act.put, List.setIfInBounds_toArray, List.set_cons_zero, List.set_cons_succ]
            refine Late.take (i := 7) (oi := ?_) (v := ?_) ?_ (by kernel_rfl) (by kernel_rfl) (by kernel_rfl) (by kernel_rfl) ?_ ?_ (by assumption) (by assumption) ?_
            rotate_left 2
            focus (simp only [List.getElem?_toArray, List.getElem?_cons_succ, List.getElem?_cons_zero]; rfl)
            focus exact fun _ _ _ h => h
            focus (refine Or.inl ⟨by kernel_rfl, ?_⟩; intro w hSw; clear hSw; go_simp; try with_reducible rfl)
            try simp only [Act.put, List.setIfInBounds_toArray, List.set_cons_zero, List.set_cons_succ]
            refine Late.take (i := 8) (oi := ?_) (v := ?_) ?_ (by kernel_rfl) (by kernel_rfl) (by kernel_rfl) (by kernel_rfl) ?_ ?_ (by assumption) (by assumption) ?_
            rotate_left 2
            focus (simp only [List.getElem?_toArray, List.getElem?_cons_succ, List.getElem?_cons_zero]; rfl)
            focus exact fun _ _ _ h => h
            focus (refine Or.inl ⟨by kernel_rfl, ?_⟩; intro w hSw; clear hSw; go_simp; try with_reducible rfl)
            try simp only [Act.put, List.setIfInBounds_toArray, List.set_cons_zero, List.set_cons_succ]
            refine Late.take (i := 9) (oi := ?_) (v := ?_) ?_ (by kernel_rfl) (by kernel_rfl) (by kernel_rfl) (by kernel_rfl) ?_ ?_ (by assumption) (by assumption) ?_
            rotate_left 2
            focus (simp only [List.getElem?_toArray, List.getElem?_cons_succ, List.getElem?_cons_zero]; rfl)
            focus exact fun _ _ _ h => h
            focus (refine Or.inl ⟨by kernel_rfl, ?_⟩; intro w hSw; clear hSw; go_simp; try with_reducible rfl)
            try simp only [Act.put, List.setIfInBounds_toArray, List.set_cons_zero, List.set_cons_succ]
            refine Late.take (i := 11) (oi := ?_) (v := ?_) ?_ (by kernel_rfl) (by kernel_rfl) (by kernel_rfl) (by kernel_rfl) ?_ ?_ (by assumption) (by assumption) ?_
            rotate_left 2
            focus (simp only [List.getElem?_toArray, List.getElem?_cons_succ, List.getElem?_cons_zero]; rfl)
            focus exact fun _ _ _ h => h
            focus (refine Or.inl ⟨by kernel_rfl, ?_⟩; intro w hSw; clear hSw; go_simp; try with_reducible rfl)
            try simp only [Act.put, List.setIfInBounds_toArray, List.set_cons_zero, List.set_cons_succ]
            refine Late.only (i := 10) (o := ?_) (by kernel_rfl) ?_ (fun K hK => ?_)
            rotate_left 1
            focus (simp only [List.getElem?_toArray, List.getElem?_cons_succ, List.getElem?_cons_zero]; rfl)
            rw [if_pos (by kernel_rfl)]
            go_simp
            refine (kI.out _ h0.out).mono ?_
            rintro e wA ⟨rfl, bA⟩
            have hA := Lib.hid (h0.out.below bA)
            have hbA := Lib.hid (hb0.out.trans (bA.mono hb0.out.size))
            clear bA
            obtain ⟨uAt, uAn, uAd, uAm⟩ := hA.out.ucells
            have hSA := And.intro uAt (And.intro uAn (And.intro uAd uAm))
            refine hK.out _ _ hSA (fun _ => trivial) ?_
            clear hK K
            try simp only [Act.put, List.setIfInBounds_toArray, List.set_cons_zero, List.set_cons_succ]
            clear hS
            have hS := hSA
            clear hSA uAt uAn uAd uAm h0 hb0
            refine Late.only (i := 12) (o := ?_) (by kernel_rfl) ?_ (fun K hK => ?_)
            rotate_left 1
            focus (simp only [List.getElem?_toArray, List.getElem?_cons_succ, List.getElem?_cons_zero]; rfl)
            rw [if_pos (by kernel_rfl)]
            go_simp
            refine (kJ.out _ hA.out).mono ?_
            rintro e wx ⟨rfl, hw'⟩
            replace hw' := hw'.symm
            subst hw'
            refine hK.out _ _ hS (fun _ => trivial) ?_
            clear hK K
            try simp only [Act.put, List.setIfInBounds_toArray, List.set_cons_zero, List.set_cons_succ]
            refine Late.take (i := 13) (oi := ?_) (v := ?_) ?_ (by kernel_rfl) (by kernel_rfl) (by kernel_rfl) (by kernel_rfl) ?_ ?_ (by assumption) (by assumption) ?_
            rotate_left 2
            focus (simp only [List.getElem?_toArray, List.getElem?_cons_succ, List.getElem?_cons_zero]; rfl)
            focus exact fun _ _ _ h => h
            focus (refine Or.inl ⟨by kernel_rfl, ?_⟩; intro w hSw; clear hSw; go_simp; try with_reducible rfl)
            try simp only [Act.put, List.setIfInBounds_toArray, List.set_cons_zero, List.set_cons_succ]
            refine Late.take (i := 14) (oi := ?_) (v := ?_) ?_ (by kernel_rfl) (by kernel_rfl) (by kernel_rfl) (by kernel_rfl) ?_ ?_ (by assumption) (by assumption) ?_
            rotate_left 2
            focus (simp only [List.getElem?_toArray, List.getElem?_cons_succ, List.getElem?_cons_zero]; rfl)
            focus exact fun _ _ _ h => h
            focus (refine Or.inl ⟨by kernel_rfl, ?_⟩; intro w hSw; clear hSw; go_simp; try with_reducible rfl)
            try simp only [Act.put, List.setIfInBounds_toArray, List.set_cons_zero, List.set_cons_succ]
            refine Late.take (i := 15) (oi := ?_) (v := ?_) ?_ (by kernel_rfl) (by kernel_rfl) (by kernel_rfl) (by kernel_rfl) ?_ ?_ (by assumption) (by assumption) ?_
            rotate_left 2
            focus (simp only [List.getElem?_toArray, List.getElem?_cons_succ, List.getElem?_cons_zero]; rfl)
            focus exact fun _ _ _ h => h
            focus (refine Or.inl ⟨by kernel_rfl, ?_⟩; intro w hSw; clear hSw; go_simp; try with_reducible rfl)
            try simp only [Act.put, List.setIfInBounds_toArray, List.set_cons_zero, List.set_cons_succ]
            refine Late.take (i := 16) (oi := ?_) (v := ?_) ?_ (by kernel_rfl) (by kernel_rfl) (by kernel_rfl) (by kernel_rfl) ?_ ?_ (by assumption) (by assumption) ?_
            rotate_left 2
            focus (simp only [List.getElem?_toArray, List.getElem?_cons_succ, List.getElem?_cons_zero]; rfl)
            focus exact fun _ _ _ h => h
            focus (refine Or.inl ⟨by kernel_rfl, ?_⟩; intro w hSw; clear hSw; go_simp; try with_reducible rfl)
            try simp only [Act.put, List.setIfInBounds_toArray, List.set_cons_zero, List.set_cons_succ]
            refine Late.take (i := 18) (oi := ?_) (v := ?_) ?_ (by kernel_rfl) (by kernel_rfl) (by kernel_rfl) (by kernel_rfl) ?_ ?_ (by assumption) (by assumption) ?_
            rotate_left 2
            focus (simp only [List.getElem?_toArray, List.getElem?_cons_succ, List.getElem?_cons_zero]; rfl)
            focus exact fun _ _ _ h => h
            focus (refine Or.inl ⟨by rfl, ?_⟩; intro w hSw; (try dsimp only at hSw); go_split_ands; go_simp; try with_reducible rfl)
            try simp only [Act.put, List.setIfInBounds_toArray, List.set_cons_zero, List.set_cons_succ]
            refine Late.take (i := 19) (oi := ?_) (v := ?_) ?_ (by kernel_rfl) (by kernel_rfl) (by kernel_rfl) (by kernel_rfl) ?_ ?_ (by assumption) (by assumption) ?_
            rotate_left 2
            focus (simp only [List.getElem?_toArray, List.getElem?_cons_succ, List.getElem?_cons_zero]; rfl)
            focus exact fun _ _ _ h => h
            focus (refine Or.inl ⟨by rfl, ?_⟩; intro w hSw; (try dsimp only at hSw); go_split_ands; go_simp; try with_reducible rfl)
            try simp only [Act.put, List.setIfInBounds_toArray, List.set_cons_zero, List.set_cons_succ]
            refine Late.take (i := 20) (oi := ?_) (v := ?_) ?_ (by kernel_rfl) (by kernel_rfl) (by kernel_rfl) (by kernel_rfl) ?_ ?_ (by assumption) (by assumption) ?_
            rotate_left 2
            focus (simp only [List.getElem?_toArray, List.getElem?_cons_succ, List.getElem?_cons_zero]; rfl)
            focus exact fun _ _ _ h => h
            focus (refine Or.inl ⟨by rfl, ?_⟩; intro w hSw; (try dsimp only at hSw); go_split_ands; go_simp; try with_reducible rfl)
            try simp only [Act.put, List.setIfInBounds_toArray, List.set_cons_zero, List.set_cons_succ]
            refine Late.take (i := 21) (oi := ?_) (v := ?_) ?_ (by kernel_rfl) (by kernel_rfl) (by kernel_rfl) (by kernel_rfl) ?_ ?_ (by assumption) (by assumption) ?_
            rotate_left 2
            focus (simp only [List.getElem?_toArray, List.getElem?_cons_succ, List.getElem?_cons_zero]; rfl)
            focus exact fun _ _ _ h => h
            focus (refine Or.inl ⟨by rfl, ?_⟩; intro w hSw; (try dsimp only at hSw); go_split_ands; go_simp; try with_reducible rfl)
            try simp only [Act.put, List.setIfInBounds_toArray, List.set_cons_zero, List.set_cons_succ]
            refine Late.only (i := 17) (o := ?_) (by kernel_rfl) ?_ (fun K hK => ?_)
            rotate_left 1
            focus (simp only [List.getElem?_toArray, List.getElem?_cons_succ, List.getElem?_cons_zero]; rfl)
            rw [if_pos (by kernel_rfl)]
            go_simp
            refine (vtsteps hA.out).mono ?_
            rintro e wx ⟨rfl, hw'⟩
            replace hw' := hw'.symm
            subst hw'
            refine hK.out _ _ hS (fun _ => trivial) ?_
            clear hK K
            try simp only [Act.put, List.setIfInBounds_toArray, List.set_cons_zero, List.set_cons_succ]
            refine Late.take (i := 22) (oi := ?_) (v := ?_) ?_ (by kernel_rfl) (by kernel_rfl) (by kernel_rfl) (by kernel_rfl) ?_ ?_ (by assumption) (by assumption) ?_
            rotate_left 2
            focus (simp only [List.getElem?_toArray, List.getElem?_cons_succ, List.getElem?_cons_zero]; rfl)
            focus exact fun _ _ _ h => h
            focus (refine Or.inl ⟨by kernel_rfl, ?_⟩; intro w hSw; clear hSw; go_simp; try with_reducible rfl)
            try simp only [Act.put, List.setIfInBounds_toArray, List.set_cons_zero, List.set_cons_succ]
            refine Late.take (i := 23) (oi := ?_) (v := ?_) ?_ (by kernel_rfl) (by kernel_rfl) (by kernel_rfl) (by kernel_rfl) ?_ ?_ (by assumption) (by assumption) ?_
            rotate_left 2
            focus (simp only [List.getElem?_toArray, List.getElem?_cons_succ, List.getElem?_cons_zero]; rfl)
            focus exact fun _ _ _ h => h
            focus (refine Or.inl ⟨by kernel_rfl, ?_⟩; intro w hSw; clear hSw; go_simp; try with_reducible rfl)
            try simp only [Act.put, List.setIfInBounds_toArray, List.set_cons_zero, List.set_cons_succ]
            refine Late.take (i := 24) (oi := ?_) (v := ?_) ?_ (by kernel_rfl) (by kernel_rfl) (by kernel_rfl) (by kernel_rfl) ?_ ?_ (by assumption) (by assumption) ?_
            rotate_left 2
            focus (simp only [List.getElem?_toArray, List.getElem?_cons_succ, List.getElem?_cons_zero]; rfl)
            focus exact fun _ _ _ h => h
            focus (refine Or.inl ⟨by kernel_rfl, ?_⟩; intro w hSw; clear hSw; go_simp; try with_reducible rfl)
            try simp only [Act.put, List.setIfInBounds_toArray, List.set_cons_zero, List.set_cons_succ]
            refine Late.take (i := 25) (oi := ?_) (v := ?_) ?_ (by kernel_rfl) (by kernel_rfl) (by kernel_rfl) (by kernel_rfl) ?_ ?_ (by assumption) (by assumption) ?_
            rotate_left 2
            focus (simp only [List.getElem?_toArray, List.getElem?_cons_succ, List.getElem?_cons_zero]; rfl)
            focus exact fun _ _ _ h => h
            focus (refine Or.inl ⟨by kernel_rfl, ?_⟩; intro w hSw; clear hSw; go_simp; try with_reducible rfl)
            try simp only [Act.put, List.setIfInBounds_toArray, List.set_cons_zero, List.set_cons_succ]
            refine Late.take (i := 26) (oi := ?_) (v := ?_) ?_ (by kernel_rfl) (by kernel_rfl) (by kernel_rfl) (by kernel_rfl) ?_ ?_ (by assumption) (by assumption) ?_
            rotate_left 2
            focus (simp only [List.getElem?_toArray, List.getElem?_cons_succ, List.getElem?_cons_zero]; rfl)
            focus exact fun _ _ _ h => h
            focus (refine Or.inl ⟨by rfl, ?_⟩; intro w hSw; (try dsimp only at hSw); go_split_ands; go_simp; try with_reducible rfl)
            try simp only [Act.put, List.setIfInBounds_toArray, List.set_cons_zero, List.set_cons_succ]
            refine Late.take (i := 27) (oi := ?_) (v := ?_) ?_ (by kernel_rfl) (by kernel_rfl) (by kernel_rfl) (by kernel_rfl) ?_ ?_ (by assumption) (by assumption) ?_
            rotate_left 2
            focus (simp only [List.getElem?_toArray, List.getElem?_cons_succ, List.getElem?_cons_zero]; rfl)
            focus exact fun _ _ _ h => h
            focus (refine Or.inl ⟨by rfl, ?_⟩; intro w hSw; (try dsimp only at hSw); go_split_ands; go_simp; try with_reducible rfl)
            try simp only [Act.put, List.setIfInBounds_toArray, List.set_cons_zero, List.set_cons_succ]
            refine Late.take (i := 28) (oi := ?_) (v := ?_) ?_ (by kernel_rfl) (by kernel_rfl) (by kernel_rfl) (by kernel_rfl) ?_ ?_ (by assumption) (by assumption) ?_
            rotate_left 2
            focus (simp only [List.getElem?_toArray, List.getElem?_cons_succ, List.getElem?_cons_zero]; rfl)
            focus exact fun _ _ _ h => h
            focus (refine Or.inl ⟨by rfl, ?_⟩; intro w hSw; (try dsimp only at hSw); go_split_ands; go_simp; try with_reducible rfl)
            try simp only [Act.put, List.setIfInBounds_toArray, List.set_cons_zero, List.set_cons_succ]
            refine Late.take (i := 29) (oi := ?_) (v := ?_) ?_ (by kernel_rfl) (by kernel_rfl) (by kernel_rfl) (by kernel_rfl) ?_ ?_ (by assumption) (by assumption) ?_
            rotate_left 2
            focus (simp only [List.getElem?_toArray, List.getElem?_cons_succ, List.getElem?_cons_zero]; rfl)
            focus exact fun _ _ _ h => h
            focus (refine Or.inl ⟨by rfl, ?_⟩; intro w hSw; (try dsimp only at hSw); go_split_ands; go_simp; try with_reducible rfl)
            try simp only [Act.put, List.setIfInBounds_toArray, List.set_cons_zero, List.set_cons_succ]
            refine Late.take (i := 30) (oi := ?_) (v := ?_) ?_ (by kernel_rfl) (by kernel_rfl) (by kernel_rfl) (by kernel_rfl) ?_ ?_ (by assumption) (by assumption) ?_
            rotate_left 2
            focus (simp only [List.getElem?_toArray, List.getElem?_cons_succ, List.getElem?_cons_zero]; rfl)
            focus exact fun _ _ _ h => h
            focus (refine Or.inl ⟨by kernel_rfl, ?_⟩; intro w hSw; clear hSw; go_simp; try with_reducible rfl)
            try simp only [Act.put, List.setIfInBounds_toArray, List.set_cons_zero, List.set_cons_succ]
            refine Late.take (i := 31) (oi := ?_) (v := ?_) ?_ (by kernel_rfl) (by kernel_rfl) (by kernel_rfl) (by kernel_rfl) ?_ ?_ (by assumption) (by assumption) ?_
            rotate_left 2
            focus (simp only [List.getElem?_toArray, List.getElem?_cons_succ, List.getElem?_cons_zero]; rfl)
            focus exact fun _ _ _ h => h
            focus (refine Or.inl ⟨by kernel_rfl, ?_⟩; intro w hSw; clear hSw; go_simp; try with_reducible rfl)
            try simp only [Act.put, List.setIfInBounds_toArray, List.set_cons_zero, List.set_cons_succ]
            refine Late.take (i := 32) (oi := ?_) (v := ?_) ?_ (by kernel_rfl) (by kernel_rfl) (by kernel_rfl) (by kernel_rfl) ?_ ?_ (by assumption) (by assumption) ?_
            rotate_left 2
            focus (simp only [List.getElem?_toArray, List.getElem?_cons_succ, List.getElem?_cons_zero]; rfl)
            focus exact fun _ _ _ h => h
            focus (refine Or.inl ⟨by kernel_rfl, ?_⟩; intro w hSw; clear hSw; go_simp; try with_reducible rfl)
            try simp only [Act.put, List.setIfInBounds_toArray, List.set_cons_zero, List.set_cons_succ]
            refine Late.take (i := 33) (oi := ?_) (v := ?_) ?_ (by kernel_rfl) (by kernel_rfl) (by kernel_rfl) (by kernel_rfl) ?_ ?_ (by assumption) (by assumption) ?_
            rotate_left 2
            focus (simp only [List.getElem?_toArray, List.getElem?_cons_succ, List.getElem?_cons_zero]; rfl)
            focus exact fun _ _ _ h => h
            focus (refine Or.inl ⟨by kernel_rfl, ?_⟩; intro w hSw; clear hSw; go_simp; try with_reducible rfl)
            try simp only [Act.put, List.setIfInBounds_toArray, List.set_cons_zero, List.set_cons_succ]
            refine Late.take (i := 34) (oi := ?_) (v := ?_) ?_ (by kernel_rfl) (by kernel_rfl) (by kernel_rfl) (by kernel_rfl) ?_ ?_ (by assumption) (by assumption) ?_
            rotate_left 2
            focus (simp only [List.getElem?_toArray, List.getElem?_cons_succ, List.getElem?_cons_zero]; rfl)
            focus exact fun _ _ _ h => h
            focus (refine Or.inl ⟨by rfl, ?_⟩; intro w hSw; (try dsimp only at hSw); go_split_ands; go_simp; try with_reducible rfl)
            try simp only [Act.put, List.setIfInBounds_toArray, List.set_cons_zero, List.set_cons_succ]
            refine Late.take (i := 35) (oi := ?_) (v := ?_) ?_ (by kernel_rfl) (by kernel_rfl) (by kernel_rfl) (by kernel_rfl) ?_ ?_ (by assumption) (by assumption) ?_
            rotate_left 2
            focus (simp only [List.getElem?_toArray, List.getElem?_cons_succ, List.getElem?_cons_zero]; rfl)
            focus exact fun _ _ _ h => h
            focus (refine Or.inl ⟨by rfl, ?_⟩; intro w hSw; (try dsimp only at hSw); go_split_ands; go_simp; try with_reducible rfl)
            try simp only [Act.put, List.setIfInBounds_toArray, List.set_cons_zero, List.set_cons_succ]
            refine Late.take (i := 36) (oi := ?_) (v := ?_) ?_ (by kernel_rfl) (by kernel_rfl) (by kernel_rfl) (by kernel_rfl) ?_ ?_ (by assumption) (by assumption) ?_
            rotate_left 2
            focus (simp only [List.getElem?_toArray, List.getElem?_cons_succ, List.getElem?_cons_zero]; rfl)
            focus exact fun _ _ _ h => h
            focus (refine Or.inl ⟨by rfl, ?_⟩; intro w hSw; (try dsimp only at hSw); go_split_ands; go_simp; try with_reducible rfl)
            try simp only [Act.put, List.setIfInBounds_toArray, List.set_cons_zero, List.set_cons_succ]
            refine Late.take (i := 37) (oi := ?_) (v := ?_) ?_ (by kernel_rfl) (by kernel_rfl) (by kernel_rfl) (by kernel_rfl) ?_ ?_ (by assumption) (by assumption) ?_
            rotate_left 2
            focus (simp only [List.getElem?_toArray, List.getElem?_cons_succ, List.getElem?_cons_zero]; rfl)
            focus exact fun _ _ _ h => h
            focus (refine Or.inl ⟨by rfl, ?_⟩; intro w hSw; (try dsimp only at hSw); go_split_ands; go_simp; try with_reducible rfl)
            try simp only [Act.put, List.setIfInBounds_toArray, List.set_cons_zero, List.set_cons_succ]
            refine Late.take (i := 38) (oi := ?_) (v := ?_) ?_ (by kernel_rfl) (by kernel_rfl) (by kernel_rfl) (by kernel_rfl) ?_ ?_ (by assumption) (by assumption) ?_
            rotate_left 2
            focus (simp only [List.getElem?_toArray, List.getElem?_cons_succ, List.getElem?_cons_zero]; rfl)
            focus exact fun _ _ _ h => h
            focus (refine Or.inl ⟨by kernel_rfl, ?_⟩; intro w hSw; clear hSw; go_simp; try with_reducible rfl)
            try simp only [Act.put, List.setIfInBounds_toArray, List.set_cons_zero, List.set_cons_succ]
            refine Late.take (i := 39) (oi := ?_) (v := ?_) ?_ (by kernel_rfl) (by kernel_rfl) (by kernel_rfl) (by kernel_rfl) ?_ ?_ (by assumption) (by assumption) ?_
            rotate_left 2
            focus (simp only [List.getElem?_toArray, List.getElem?_cons_succ, List.getElem?_cons_zero]; rfl)
            focus exact fun _ _ _ h => h
            focus (refine Or.inl ⟨by kernel_rfl, ?_⟩; intro w hSw; clear hSw; go_simp; try with_reducible rfl)
            try simp only [Act.put, List.setIfInBounds_toArray, List.set_cons_zero, List.set_cons_succ]
            refine Late.take (i := 40) (oi := ?_) (v := ?_) ?_ (by kernel_rfl) (by kernel_rfl) (by kernel_rfl) (by kernel_rfl) ?_ ?_ (by assumption) (by assumption) ?_
            rotate_left 2
            focus (simp only [List.getElem?_toArray, List.getElem?_cons_succ, List.getElem?_cons_zero]; rfl)
            focus exact fun _ _ _ h => h
            focus (refine Or.inl ⟨by kernel_rfl, ?_⟩; intro w hSw; clear hSw; go_simp; try with_reducible rfl)
            try simp only [Act.put, List.setIfInBounds_toArray, List.set_cons_zero, List.set_cons_succ]
            refine Late.take (i := 41) (oi := ?_) (v := ?_) ?_ (by kernel_rfl) (by kernel_rfl) (by kernel_rfl) (by kernel_rfl) ?_ ?_ (by assumption) (by assumption) ?_
            rotate_left 2
            focus (simp only [List.getElem?_toArray, List.getElem?_cons_succ, List.getElem?_cons_zero]; rfl)
            focus exact fun _ _ _ h => h
            focus (refine Or.inl ⟨by kernel_rfl, ?_⟩; intro w hSw; clear hSw; go_simp; try with_reducible rfl)
            try simp only [Act.put, List.setIfInBounds_toArray, List.set_cons_zero, List.set_cons_succ]
            refine Late.take (i := 43) (oi := ?_) (v := ?_) ?_ (by kernel_rfl) (by kernel_rfl) (by kernel_rfl) (by kernel_rfl) ?_ ?_ (by assumption) (by assumption) ?_
            rotate_left 2
            focus (simp only [List.getElem?_toArray, List.getElem?_cons_succ, List.getElem?_cons_zero]; rfl)
            focus exact fun _ _ _ h => h
            focus (refine Or.inl ⟨by rfl, ?_⟩; intro w hSw; (try dsimp only at hSw); go_split_ands; go_simp; try with_reducible rfl)
            try simp only [Act.put, List.setIfInBounds_toArray, List.set_cons_zero, List.set_cons_succ]
            refine Late.take (i := 44) (oi := ?_) (v := ?_) ?_ (by kernel_rfl) (by kernel_rfl) (by kernel_rfl) (by kernel_rfl) ?_ ?_ (by assumption) (by assumption) ?_
            rotate_left 2
            focus (simp only [List.getElem?_toArray, List.getElem?_cons_succ, List.getElem?_cons_zero]; rfl)
            focus exact fun _ _ _ h => h
            focus (refine Or.inl ⟨by rfl, ?_⟩; intro w hSw; (try dsimp only at hSw); go_split_ands; go_simp; try with_reducible rfl)
            try simp only [Act.put, List.setIfInBounds_toArray, List.set_cons_zero, List.set_cons_succ]
            refine Late.take (i := 45) (oi := ?_) (v := ?_) ?_ (by kernel_rfl) (by kernel_rfl) (by kernel_rfl) (by kernel_rfl) ?_ ?_ (by assumption) (by assumption) ?_
            rotate_left 2
            focus (simp only [List.getElem?_toArray, List.getElem?_cons_succ, List.getElem?_cons_zero]; rfl)
            focus exact fun _ _ _ h => h
            focus (refine Or.inl ⟨by rfl, ?_⟩; intro w hSw; (try dsimp only at hSw); go_split_ands; go_simp; try with_reducible rfl)
            try simp only [Act.put, List.setIfInBounds_toArray, List.set_cons_zero, List.set_cons_succ]
            refine Late.take (i := 46) (oi := ?_) (v := ?_) ?_ (by kernel_rfl) (by kernel_rfl) (by kernel_rfl) (by kernel_rfl) ?_ ?_ (by assumption) (by assumption) ?_
            rotate_left 2
            focus (simp only [List.getElem?_toArray, List.getElem?_cons_succ, List.getElem?_cons_zero]; rfl)
            focus exact fun _ _ _ h => h
            focus (refine Or.inl ⟨by rfl, ?_⟩; intro w hSw; (try dsimp only at hSw); go_split_ands; go_simp; try with_reducible rfl)
            try simp only [Act.put, List.setIfInBounds_toArray, List.set_cons_zero, List.set_cons_succ]
            refine Late.only (i := 42) (o := ?_) (by kernel_rfl) ?_ (fun K hK => ?_)
            rotate_left 1
            focus (simp only [List.getElem?_toArray, List.getElem?_cons_succ, List.getElem?_cons_zero]; rfl)
            rw [if_pos (by kernel_rfl)]
            go_simp
            refine (vtdead hA.out).mono ?_
            rintro e wx ⟨rfl, hw'⟩
            replace hw' := hw'.symm
            subst hw'
            refine hK.out _ _ hS (fun _ => trivial) ?_
            clear hK K
            try simp only [Act.put, List.setIfInBounds_toArray, List.set_cons_zero, List.set_cons_succ]
            refine Late.take (i := 47) (oi := ?_) (v := ?_) ?_ (by kernel_rfl) (by kernel_rfl) (by kernel_rfl) (by kernel_rfl) ?_ ?_ (by assumption) (by assumption) ?_
            rotate_left 2
            focus (simp only [List.getElem?_toArray, List.getElem?_cons_succ, List.getElem?_cons_zero]; rfl)
            focus exact fun _ _ _ h => h
            focus (refine Or.inl ⟨by kernel_rfl, ?_⟩; intro w hSw; clear hSw; go_simp; try with_reducible rfl)
            try simp only [Act.put, List.setIfInBounds_toArray, List.set_cons_zero, List.set_cons_succ]
            refine Late.take (i := 48) (oi := ?_) (v := ?_) ?_ (by kernel_rfl) (by kernel_rfl) (by kernel_rfl) (by kernel_rfl) ?_ ?_ (by assumption) (by assumption) ?_
            rotate_left 2
            focus (simp only [List.getElem?_toArray, List.getElem?_cons_succ, List.getElem?_cons_zero]; rfl)
            focus exact fun _ _ _ h => h
            focus (refine Or.inl ⟨by kernel_rfl, ?_⟩; intro w hSw; clear hSw; go_simp; try with_reducible rfl)
            try simp only [Act.put, List.setIfInBounds_toArray, List.set_cons_zero, List.set_cons_succ]
            refine Late.done (by kernel_rfl) ?_ _
            clear hS hT kI kJ qr qs
            have st := Lib.hid (show DoesAt w N (3 + 100 * q + 100) wA a2 b2 k2 c v2 d2 from ⟨hA.out, hbA.out⟩)
            clear hA hbA
            go_wp2_with fail
            exact ⟨⟨q + 1, a2, b2, k2, v2, d2, by omega, by omega, rfl, rfl, rfl, rfl, ⟨st.out.h.more (by omega), st.out.hb⟩⟩, by simp [intOf]; omega⟩
      · have hb := Lib.hid st.hb
        clear st
        by_cases hqn2 : q < n
        · have z1 : (q : Int) < (n : Int) := by omega
          have d100 : decide ((q : Int) < 100) = false := decide_eq_false (by omega)
          clear hgo
          go_wp2_with fail
          refine (kf.out _).mono ?_
          rintro e w3 ⟨rfl, hb2⟩
          have hb3 := Lib.hid (hb.out.trans (hb2.mono hb.out.size))
          clear hb2
          go_wp2_with fail
          go_ret
          exact ⟨rfl, hb3.out⟩
        · have z1 : decide ((q : Int) < (n : Int)) = false := decide_eq_false (by omega)
          clear hgo
          go_wp2_with fail
          refine (kf.out _).mono ?_
          rintro e w3 ⟨rfl, hb2⟩
          have hb3 := Lib.hid (hb.out.trans (hb2.mono hb.out.size))
          clear hb2
          go_wp2_with fail
          go_ret
          exact ⟨rfl, hb3.out⟩
      end Go.Proofs.YtkghlbpkdkonbaaGreat.Vl

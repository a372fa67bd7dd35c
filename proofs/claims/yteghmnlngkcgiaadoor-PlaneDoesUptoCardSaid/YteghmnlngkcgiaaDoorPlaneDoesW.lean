/- The walk of the law PlaneDoes. -/
import Derived.Test.YteghmnlngkcgiaaDoorPlaneTextsW
import Derived.BigRegion
import Derived.Deep.RegionHeld3
import Derived.Deep.DeepCutAuto
import Derived.Deep.CutBlock
namespace Go.Proofs.YteghmnlngkcgiaaDoor.Planes
open Go.RowKit Mem Sets

/-- the program's map and the document's, of the same planes -/
structure Both (w : World) (G gm gk b B : Nat) (P : Pl) : Prop where
  fit : FitAll B P
  prog : PMap w gm B P
  doc : RMap w gk b (textL B P)
  ne1 : gm ≠ gk
  ne2 : gm ≠ b
  ge1 : G ≤ gm
  ge2 : G ≤ gk
theorem nes {i j : Nat} (h : i ≠ j) : some i ≠ some j := fun e => h (Option.some.inj e)
section
variable {w w' : World} {G gm gk b B : Nat} {P Q : Pl}
theorem Both.below (h : Both w G gm gk b B P) (k : Below w.heap.size w w') : Both w' G gm gk b B P := ⟨h.fit, h.prog.below k, h.doc.below k, h.ne1, h.ne2, h.ge1, h.ge2⟩
theorem Both.drew (h : Both w G gm gk b B P) : Both w.drew G gm gk b B P := h.below (below_drewN (Below.refl _ w) 1)
/-- the program has gone ahead -/
theorem Both.step {w1 w2 : World} {b' : Nat} (h : Both w G gm gk b B P) (hQ : FitAll B Q) (g1 : w.grownBy w1 (some gm)) (h2 : PMap w2 gm B Q) (d2 : RMap w2 gk b' (textL B Q)) (hb : b' = b ∨ w1.heap.size ≤ b') : Both w2 G gm gk b' B Q :=
  ⟨hQ, h2, d2, h.ne1, by
    rcases hb with rfl | hb
    · exact h.ne2
    · have := Blk.lt h.prog; have := g1.size; omega, h.ge1, h.ge2⟩
theorem RMap.conv {D : List UInt8} {n : Nat} {T : ByteArray} (h : RMap w gk b D) (hn : D.length = n) (hT : T = ⟨D.toArray⟩) :
    ∃ c, ∀ W, Below w.heap.size w W → W.cell? ⟨gk, 0, none⟩ = some (.slice (some ⟨b, 0, none⟩) n c) ∧ (convert 34 9 (.slice (some ⟨b, 0, none⟩) n c)).run Tryd.prog W = .ok (.string T) W := by
  obtain ⟨c, h1, h2, _⟩ := h
  refine ⟨c, fun W hW => ⟨?_, ?_⟩⟩
  · rw [← hn]
    exact (h1.below hW h1.lt).cell 0
  · have hr := h2.below hW
    have h := run_convert_bytes_back (P := Tryd.prog) W 34 9 5 ⟨b, 0, none⟩ c D Tryd.underlying34 Tryd.underlying5 Tryd.underlying9 (fun j hj => by
      obtain ⟨ad, ha, hc⟩ := hr.2 j (.int .u8 ((D[j]'hj).toNat : Int)) (by rw [cellsOf, List.getElem?_map, List.getElem?_eq_getElem hj]; rfl)
      injection ha with ha
      subst ha
      exact hc)
    rw [hn, ← hT] at h
    exact h
end
set_option maxRecDepth 100000 in
set_option maxHeartbeats 16000000 in
theorem lawdoes_any (n : Int) (A : Option Addr) (len cap : Nat) (w : World) (hlen : len ≤ maxLen) (ho : Door.Ops4 (fun s => s.size ≤ 1048576) w A len) :
    Calls Tryd.prog 8 #[.int .i64 n, .slice A len cap] w fun e w' => e = .returned (.bool true) ∧ Below w.heap.size w w' := by
  unfold maxLen at hlen
  have k0 := Lib.hid (fun W => bound_any n W)
  obtain ⟨B1, B2⟩ := bnd_le n
  generalize bnd n = B at k0 B1 B2
  have k1 := Lib.hid (new_ok B w (by omega))
  have k2 := Lib.hid (fun W => rnew_ok B W (by omega))
  obtain ⟨G, hG⟩ : ∃ G, G = w.heap.size := ⟨_, rfl⟩
  rw [← hG] at k1
  have hGs : Hid (∀ W, Below G w W → G ≤ W.heap.size) := Lib.hid fun W h => by have := h.size; omega
  replace hG := Lib.hid hG
  have hB : B ≤ 4096 := by omega
  replace ho := Lib.hid ho
  go_enter Tryd.func8, Tryd.ntmps8
  go_wp2_with fail
  refine (k0.out _).mono ?_
  rintro en w' ⟨rfl, hw'⟩
  replace hw' := hw'.symm
  subst hw'
  go_wp2_with fail
  refine k1.out.mono ?_
  rintro en w1 ⟨rfl, hp, hb⟩
  go_wp2_with fail
  refine (k0.out _).mono ?_
  rintro en w' ⟨rfl, hw'⟩
  replace hw' := hw'.symm
  subst hw'
  go_wp2_with fail
  refine (k2.out _).mono ?_
  rintro en w2 ⟨gk, b, rfl, hR, hk1, hk2, b2⟩
  have hst : Both w2 G G gk b B none8 := by
    have h1 := hp.below b2
    have h2 := Blk.lt hp
    refine ⟨fit_none8 B, h1, ?_, by omega, by omega, Nat.le_refl _, by omega⟩
    have e : textL B none8 = List.replicate B 0 := by
      unfold textL
      rw [mk_congr (p' := fun _ => false) (fun m _ => by rw [none8, hasB_empty]), mk_none]
    rw [e]
    exact hR
  have hb' : Below G w w2 := hb.trans (b2.mono (by have := Blk.lt hp; omega))
  replace hst := Lib.hid hst
  replace hb' := Lib.hid hb'
  clear hp hb hR hk1 hk2 b2
  go_wp2_with fail
  go_loopw [5, 9] (fun m y wr => ∃ (k gm b : Nat) (P : Pl), k ≤ len ∧ y = .int .i64 (k : Int) ∧ m = .pointer (some ⟨gm, 0, none⟩) ∧ Both wr G gm gk b B P ∧ Below G w wr) (fun _ y _ => len - (intOf y).toNat)
  case atStart => exact ⟨0, G, b, none8, by omega, rfl, rfl, hst.out, hb'.out⟩
  case round =>
    clear hst hb'
    obtain ⟨k, gm, b, P, hk, rfl, rfl, hst, hb⟩ := hrel
    by_cases hlt : k < len ∧ k < 100
    · obtain ⟨hlt, h100⟩ := hlt
      obtain ⟨ad, x, y, z, s, rfl, hblk, mx, my, mz, ms, by_, bz, hsz⟩ := ho.out.below (by rw [← hG.out]; exact hb) k hlt
      have hk0 : (0 : Int) ≤ (k : Int) := by omega
      have hkI : (k : Int) < (len : Int) := by omega
      have d100 : decide ((k : Int) < 100) = true := decide_eq_true (by omega)
      have hbox := Blk.new wr 49 #[.int .i64 x, .int .i64 y, .int .i64 z, .string s]
      have lt1 := Blk.lt hst.prog
      obtain ⟨lt2, lt3⟩ := hst.doc.lt
      have nb1 : some wr.heap.size ≠ some gm := nes (by omega)
      have nb2 : some wr.heap.size ≠ some gk := nes (by omega)
      replace nb1 := Lib.hid nb1
      replace nb2 := Lib.hid nb2
      have hbW : Below wr.heap.size wr (wr.alloc (.cells #[.int .i64 x, .int .i64 y, .int .i64 z, .string s] 49)) := (Below.refl _ wr).alloc (Nat.le_refl _) _
      replace hst := hst.below hbW
      replace hb := hb.trans (hbW.mono (hGs.out _ hb))
      clear hbW
      have m0 := hbox.cell 0
      go_upto_block 2 with fail
      generalize hwa : wr.alloc (.cells #[.int .i64 x, .int .i64 y, .int .i64 z, .string s] 49) = wa at hst hbox hb ⊢
      replace hwa := Lib.hid hwa
      clear m0 mx my mz ms hblk
      go_cut [5, 11, 12, 13, 14, 15, 16] (fun m a b s1 t u v wx => ∃ (gm : Nat) (b' : Nat) (P : Pl) (e : Int) (S T : ByteArray), m = .pointer (some ⟨gm, 0, none⟩) ∧ a = .int .i64 e ∧ b = .int .i64 e ∧ s1 = .string S ∧ t = .string S ∧ u = .string T ∧ v = .string T ∧ Both wx G gm gk b' B P ∧ Blk wx wr.heap.size 49 #[.int .i64 x, .int .i64 y, .int .i64 z, .string s] ∧ Below G w wx)
      case first =>
        by_cases e0 : x = 0
        · have i0 : (x == 0) = true := by simpa using e0
          replace e0 := Lib.hid e0
          have hQ := fit_put hst.fit y s
          have kP := fun W h => put_any gm B P W y s h (by omega) hB
          have kD := fun W h => dput_any gk b B P W y s h hst.fit hB (by omega) by_ (by omega)
          generalize putE B y s = ev at kP kD
          generalize putP B P y s = Q at kP kD hQ

          have m1 := hbox.cell 1
          have m2 := hbox.cell 2
          have m3 := hbox.cell 3
          replace hst := Lib.hid hst
          replace hbox := Lib.hid hbox
          replace hb := Lib.hid hb
          replace kP := Lib.hid kP
          replace kD := Lib.hid kD
          replace hQ := Lib.hid hQ
          go_wp2_with fail
          refine (kP.out _ hst.out.prog).mono ?_
          rintro en w2 ⟨rfl, hp2, g2⟩
          have hd2 := hst.out.doc.grown g2 (nes hst.out.ne1.symm) (nes hst.out.ne2.symm)
          have hbox2 := hbox.out.grown g2 nb1.out
          have hb2 := hb.out.trans (Only.toBelow g2 hst.out.ge1 (hGs.out _ hb.out))
          clear m1 m2 m3 hb hbox
          have m1 := hbox2.cell 1
          have m2 := hbox2.cell 2
          have m3 := hbox2.cell 3
          replace hb2 := Lib.hid hb2
          replace hd2 := Lib.hid hd2
          replace hp2 := Lib.hid hp2
          replace g2 := Lib.hid g2
          go_wp2_with fail
          refine (kD.out _ hd2.out).mono ?_
          rintro en w3 ⟨rfl, ⟨b', hd3, hbb⟩, g3⟩
          replace hst := hst.out.step hQ.out g2.out (hp2.out.grown g3 (nes hst.out.ne1)) hd3 hbb
          have hbox := hbox2.grown g3 nb2.out
          have hb := hb2.out.trans (Only.toBelow g3 hst.ge2 (hGs.out _ hb2.out))
          clear m1 m2 m3 hbox2 hb2 hd2 hp2 g2 g3 hd3 hbb kP kD hQ

          replace hst := Lib.hid hst
          replace hbox := Lib.hid hbox
          replace hb := Lib.hid hb
          go_wp2_with fail
          go_meet
          exact ⟨gm, b', Q, ev, ⟨#[]⟩, ⟨#[]⟩, rfl, rfl, rfl, rfl, rfl, rfl, rfl, hst.out, hbox.out, hb.out⟩
        · have i0 : (x == 0) = false := by simpa using e0
          replace e0 := Lib.hid e0
          by_cases e1 : x = 1
          · have i1 : (x == 1) = true := by simpa using e1
            replace e1 := Lib.hid e1
            have hQ := fit_copy hst.fit y z
            have kP := fun W h => copy_any gm B P W y z h
            have kD := fun W h => dcopy_any gk b B P W y z h hst.fit hB (by omega) by_ bz
            generalize copyE y z = ev at kP kD
            generalize copyP P y z = Q at kP kD hQ

            have m1 := hbox.cell 1
            have m2 := hbox.cell 2
            have m3 := hbox.cell 3
            replace hst := Lib.hid hst
            replace hbox := Lib.hid hbox
            replace hb := Lib.hid hb
            replace kP := Lib.hid kP
            replace kD := Lib.hid kD
            replace hQ := Lib.hid hQ
            go_wp2_with fail
            refine (kP.out _ hst.out.prog).mono ?_
            rintro en w2 ⟨rfl, hp2, g2⟩
            have hd2 := hst.out.doc.grown g2 (nes hst.out.ne1.symm) (nes hst.out.ne2.symm)
            have hbox2 := hbox.out.grown g2 nb1.out
            have hb2 := hb.out.trans (Only.toBelow g2 hst.out.ge1 (hGs.out _ hb.out))
            clear m1 m2 m3 hb hbox
            have m1 := hbox2.cell 1
            have m2 := hbox2.cell 2
            have m3 := hbox2.cell 3
            replace hb2 := Lib.hid hb2
            replace hd2 := Lib.hid hd2
            replace hp2 := Lib.hid hp2
            replace g2 := Lib.hid g2
            go_wp2_with fail
            refine (kD.out _ hd2.out).mono ?_
            rintro en w3 ⟨rfl, ⟨b', hd3, hbb⟩, g3⟩
            replace hst := hst.out.step hQ.out g2.out (hp2.out.grown g3 (nes hst.out.ne1)) hd3 hbb
            have hbox := hbox2.grown g3 nb2.out
            have hb := hb2.out.trans (Only.toBelow g3 hst.ge2 (hGs.out _ hb2.out))
            clear m1 m2 m3 hbox2 hb2 hd2 hp2 g2 g3 hd3 hbb kP kD hQ

            replace hst := Lib.hid hst
            replace hbox := Lib.hid hbox
            replace hb := Lib.hid hb
            go_wp2_with fail
            go_meet
            exact ⟨gm, b', Q, ev, ⟨#[]⟩, ⟨#[]⟩, rfl, rfl, rfl, rfl, rfl, rfl, rfl, hst.out, hbox.out, hb.out⟩
          · have i1 : (x == 1) = false := by simpa using e1
            replace e1 := Lib.hid e1
            by_cases e2 : x = 2
            · have i2 : (x == 2) = true := by simpa using e2
              replace e2 := Lib.hid e2
              have hQ := fit_put hst.fit y emptyB
              have kP := fun W h => clear_any gm B P W y h hB
              have kD := fun W h => dput_any gk b B P W y emptyB h hst.fit hB (by omega) by_ (by decide)
              generalize putE B y emptyB = ev at kP kD
              generalize putP B P y emptyB = Q at kP kD hQ
              unfold emptyB at kD

              have m1 := hbox.cell 1
              have m2 := hbox.cell 2
              have m3 := hbox.cell 3
              replace hst := Lib.hid hst
              replace hbox := Lib.hid hbox
              replace hb := Lib.hid hb
              replace kP := Lib.hid kP
              replace kD := Lib.hid kD
              replace hQ := Lib.hid hQ
              go_wp2_with fail
              refine (kP.out _ hst.out.prog).mono ?_
              rintro en w2 ⟨rfl, hp2, g2⟩
              have hd2 := hst.out.doc.grown g2 (nes hst.out.ne1.symm) (nes hst.out.ne2.symm)
              have hbox2 := hbox.out.grown g2 nb1.out
              have hb2 := hb.out.trans (Only.toBelow g2 hst.out.ge1 (hGs.out _ hb.out))
              clear m1 m2 m3 hb hbox
              have m1 := hbox2.cell 1
              have m2 := hbox2.cell 2
              have m3 := hbox2.cell 3
              replace hb2 := Lib.hid hb2
              replace hd2 := Lib.hid hd2
              replace hp2 := Lib.hid hp2
              replace g2 := Lib.hid g2
              go_wp2_with fail
              refine (kD.out _ hd2.out).mono ?_
              rintro en w3 ⟨rfl, ⟨b', hd3, hbb⟩, g3⟩
              replace hst := hst.out.step hQ.out g2.out (hp2.out.grown g3 (nes hst.out.ne1)) hd3 hbb
              have hbox := hbox2.grown g3 nb2.out
              have hb := hb2.out.trans (Only.toBelow g3 hst.ge2 (hGs.out _ hb2.out))
              clear m1 m2 m3 hbox2 hb2 hd2 hp2 g2 g3 hd3 hbb kP kD hQ

              replace hst := Lib.hid hst
              replace hbox := Lib.hid hbox
              replace hb := Lib.hid hb
              go_wp2_with fail
              go_meet
              exact ⟨gm, b', Q, ev, ⟨#[]⟩, ⟨#[]⟩, rfl, rfl, rfl, rfl, rfl, rfl, rfl, hst.out, hbox.out, hb.out⟩
            · have i2 : (x == 2) = false := by simpa using e2
              replace e2 := Lib.hid e2
              by_cases e3 : x = 3
              · have i3 : (x == 3) = true := by simpa using e3
                replace e3 := Lib.hid e3
                have kP := fun W h => diff_any gm B P W y z h hst.fit hB
                have kD := fun W h => ddiff_any gk b B P W y z h hst.fit hB by_ bz
                generalize copyE y z = ev at kP kD
                generalize diffS P y z = d1 at kP kD
                generalize diffT P y z = d2 at kP kD
                have m1 := hbox.cell 1
                have m2 := hbox.cell 2
                replace hst := Lib.hid hst
                replace hbox := Lib.hid hbox
                replace hb := Lib.hid hb
                replace kP := Lib.hid kP
                replace kD := Lib.hid kD
                go_wp2_with fail
                refine (kP.out _ hst.out.prog).mono ?_
                rintro en w2 ⟨rfl, b2⟩
                replace hst := hst.out.below b2
                replace hbox := hbox.out.below b2 hbox.out.lt
                replace hb := hb.out.trans (b2.mono (hGs.out _ hb.out))
                clear b2 m1 m2
                have m1 := hbox.cell 1
                have m2 := hbox.cell 2
                replace hst := Lib.hid hst
                replace hbox := Lib.hid hbox
                replace hb := Lib.hid hb
                go_wp2_with fail
                refine (kD.out _ hst.out.doc).mono ?_
                rintro en w3 ⟨rfl, b3⟩
                replace hst := hst.out.below b3
                replace hbox := hbox.out.below b3 hbox.out.lt
                replace hb := hb.out.trans (b3.mono (hGs.out _ hb.out))
                clear b3 m1 m2 kP kD

                replace hst := Lib.hid hst
                replace hbox := Lib.hid hbox
                replace hb := Lib.hid hb
                go_wp2_with fail
                go_meet
                exact ⟨gm, b, P, ev, d1, d2, rfl, rfl, rfl, rfl, rfl, rfl, rfl, hst.out, hbox.out, hb.out⟩
              · have i3 : (x == 3) = false := by simpa using e3
                replace e3 := Lib.hid e3
                by_cases e4 : x = 4
                · have i4 : (x == 4) = true := by simpa using e4
                  replace e4 := Lib.hid e4
                  have kC := Lib.hid (fun W h => clone_any gm B P W h)
                  have kP := Lib.hid (fun W h => put_any gm B P W 0 ⟨#[2]⟩ h (by decide) hB)
                  have kD := Lib.hid (fun W h => clear_any gm B (putP B P 0 ⟨#[2]⟩) W 1 h hB)
                  replace hst := Lib.hid hst
                  replace hbox := Lib.hid hbox
                  replace hb := Lib.hid hb
                  go_wp2_with fail
                  refine (kC.out _ hst.out.prog).mono ?_
                  rintro en w2 ⟨rfl, hc, b2⟩
                  have hold := hst.out.prog.below b2
                  have hl1 := Blk.lt hst.out.prog
                  obtain ⟨hl2, hl3⟩ := hst.out.doc.lt
                  have hGs2 := hGs.out _ hb.out
                  have hst2 := hst.out.doc.below b2
                  generalize wa.heap.size = gc at hc hl1 hl2 hl3 hGs2 ⊢
                  have nc1 : gc ≠ gm := by omega
                  replace hst2 : Both w2 G gc gk b B P := ⟨hst.out.fit, hc, hst2, by omega, by omega, hGs2, hst.out.ge2⟩
                  have no1 := nes hst.out.ne1.symm
                  have no2 := nes hst.out.ne2.symm
                  have nge := hst.out.ge1
                  have nlt := hbox.out.lt
                  replace hbox := hbox.out.below b2 hbox.out.lt
                  replace hb := hb.out.trans (b2.mono (hGs.out _ hb.out))
                  clear b2 hl1 hl2 hl3 hc hst nlt
                  replace hst2 := Lib.hid hst2
                  replace hbox := Lib.hid hbox
                  replace hb := Lib.hid hb
                  replace hold := Lib.hid hold
                  go_wp2_with fail
                  refine (kP.out _ hold.out).mono ?_
                  rintro en w3 ⟨rfl, hp3, g3⟩
                  have hst3 : Both w3 G gc gk b B P := ⟨hst2.out.fit, hst2.out.prog.grown g3 (nes nc1), hst2.out.doc.grown g3 no1 no2, hst2.out.ne1, hst2.out.ne2, hst2.out.ge1, hst2.out.ge2⟩
                  replace hbox := hbox.out.grown g3 nb1.out
                  replace hb := hb.out.trans (Only.toBelow g3 nge (hGs.out _ hb.out))
                  clear g3 hst2 hold
                  replace hst3 := Lib.hid hst3
                  replace hbox := Lib.hid hbox
                  replace hb := Lib.hid hb
                  replace hp3 := Lib.hid hp3
                  go_wp2_with fail
                  refine (kD.out _ hp3.out).mono ?_
                  rintro en w4 ⟨rfl, hp4, g4⟩
                  have hst : Both w4 G gc gk b B P := ⟨hst3.out.fit, hst3.out.prog.grown g4 (nes nc1), hst3.out.doc.grown g4 no1 no2, hst3.out.ne1, hst3.out.ne2, hst3.out.ge1, hst3.out.ge2⟩
                  replace hbox := hbox.out.grown g4 nb1.out
                  replace hb := hb.out.trans (Only.toBelow g4 nge (hGs.out _ hb.out))
                  clear g4 hst3 hp4 hp3

                  replace hst := Lib.hid hst
                  replace hbox := Lib.hid hbox
                  replace hb := Lib.hid hb
                  go_wp2_with fail
                  go_meet
                  exact ⟨gc, b, P, 0, ⟨#[]⟩, ⟨#[]⟩, rfl, rfl, rfl, rfl, rfl, rfl, rfl, hst.out, hbox.out, hb.out⟩
                · have i4 : (x == 4) = false := by simpa using e4
                  replace e4 := Lib.hid e4
                  replace hst := Lib.hid hst
                  replace hbox := Lib.hid hbox
                  replace hb := Lib.hid hb
                  go_wp2_with fail
                  go_meet
                  exact ⟨gm, b, P, 0, ⟨#[]⟩, ⟨#[]⟩, rfl, rfl, rfl, rfl, rfl, rfl, rfl, hst.out, hbox.out, hb.out⟩
      case rest =>
        clear hst hbox hb nb1 nb2
        obtain ⟨gm, b, P, ev, S, T0, rfl, rfl, rfl, rfl, rfl, rfl, rfl, hst, hbox, hb⟩ := hcut
        have kp := fun W h => plane_any gm B P W z h
        have kq := fun W h => dplane_any gk b B P W z h hst.fit hB bz
        have kt := fun W h => text_any gm B P W h hst.fit hB
        have ku := fun W h => used_any gm B P W h hst.fit hB
        have kv := fun W h => dused_any gk b B P W h hst.fit hB
        have kf := fun W h => free_any gm B P W h hst.fit hB
        have kg := fun W h => dfree_any gk b B P W h hst.fit hB (by omega)
        generalize planeS P z = S1 at kp kq
        generalize planeE z = E1 at kp kq
        generalize used P = U1 at ku kv
        generalize free B P = F1 at kf kg
        obtain ⟨T, hT⟩ : ∃ T : ByteArray, T = ⟨(textL B P).toArray⟩ := ⟨_, rfl⟩
        rw [← hT] at kt
        replace kp := Lib.hid kp
        replace kq := Lib.hid kq
        replace kt := Lib.hid kt
        replace ku := Lib.hid ku
        replace kv := Lib.hid kv
        replace kf := Lib.hid kf
        replace kg := Lib.hid kg
        replace hT := Lib.hid hT
        have m2 := hbox.cell 2
        replace hst := Lib.hid hst
        replace hbox := Lib.hid hbox
        replace hb := Lib.hid hb
        go_wp2_with fail
        refine (kp.out _ hst.out.prog).mono ?_
        rintro en w4 ⟨rfl, b4⟩
        replace hst := hst.out.below b4
        replace hbox := hbox.out.below b4 hbox.out.lt
        replace hb := hb.out.trans (b4.mono (hGs.out _ hb.out))
        clear b4 m2
        have m2 := hbox.cell 2
        replace hst := Lib.hid hst
        replace hb := Lib.hid hb
        go_wp2_with fail
        refine (kq.out _ hst.out.doc).mono ?_
        rintro en w5 ⟨rfl, b5⟩
        replace hst := hst.out.below b5
        replace hb := hb.out.trans (b5.mono (hGs.out _ hb.out))
        clear b5 m2 hbox kp kq
        obtain ⟨c, held⟩ := hst.doc.conv (textL_length B P) hT.out
        have h50 := held w5.drew (below_drewN (Below.refl _ w5) 1)
        have hst5 : Both w5.drew G gm gk b B P := hst.drew
        replace hst5 := Lib.hid hst5
        replace held := Lib.hid held
        replace hb := Lib.hid hb
        clear hst
        go_wp2_with fail
        go_region_held3 (fun w' => w'.cell? ⟨gk, 0, none⟩ = some (.slice (some ⟨b, 0, none⟩) B c) ∧ (convert 34 9 (.slice (some ⟨b, 0, none⟩) B c)).run Tryd.prog w' = .ok (.string T) w')
          (first
            | exact h50
            | exact h6
            | exact h7
            | exact h8
            | exact h9
            | go_keep)
          (first
            | (go_at_call 15; refine (kt.out _ hst5.out.prog).mono ?_; rintro en w6 ⟨rfl, b6⟩; have t6 := Lib.hid ((below_drewN (Below.refl _ w5) 1).trans b6); have h6 := held.out w6 t6.out; have hst6 := Lib.hid (hst5.out.below b6))
            | (go_at_call 18; refine (ku.out _ hst6.out.prog).mono ?_; rintro en w7 ⟨rfl, b7⟩; have t7 := Lib.hid (t6.out.trans (b7.mono t6.out.size)); have h7 := held.out w7 t7.out; have hst7 := Lib.hid (hst6.out.below b7))
            | (go_at_call 33; refine (kv.out _ hst7.out.doc).mono ?_; rintro en w8 ⟨rfl, b8⟩; have t8 := Lib.hid (t7.out.trans (b8.mono t7.out.size)); have h8 := held.out w8 t8.out; have hst8 := Lib.hid (hst7.out.below b8))
            | (go_at_call 23; refine (kf.out _ hst8.out.prog).mono ?_; rintro en w9 ⟨rfl, b9⟩; have t9 := Lib.hid (t8.out.trans (b9.mono t8.out.size)); have h9 := held.out w9 t9.out; have hst9 := Lib.hid (hst8.out.below b9))
            | (go_at_call 34; refine (kg.out _ hst9.out.doc).mono ?_; rintro en w10 ⟨rfl, hw10⟩; replace hw10 := hw10.symm; subst hw10))
        go_wp2_with fail
        refine ⟨⟨k + 1, gm, b, P, by omega, rfl, rfl, hst9.out, ?_⟩, by simp [intOf]; omega⟩
        exact hb.out.trans ((show Below w5.heap.size w5 w9 from t9.out).mono (hGs.out _ hb.out))
    · have hend : ¬ k < len ∨ k < len ∧ ¬ k < 100 := by omega
      rcases hend with hn | ⟨hlt, hn⟩
      focus
        have hb1 : Below w.heap.size w wr := by rw [← hG.out]; exact hb
        have hs := hb1.size
        replace hb := hb1
        clear hst
        go_wp2_with fail
        refine (fixed_any _).mono ?_
        rintro en w' ⟨rfl, b'⟩
        replace hb := hb.trans (b'.mono hs)
        clear b'
        replace hs := hb.size
        go_wp2_with fail
        go_ret
        exact ⟨rfl, hb⟩
      focus
        have d100 : decide ((k : Int) < 100) = false := decide_eq_false (by omega)
        have hb1 : Below w.heap.size w wr := by rw [← hG.out]; exact hb
        have hs := hb1.size
        replace hb := hb1
        clear hst
        go_wp2_with fail
        refine (fixed_any _).mono ?_
        rintro en w' ⟨rfl, b'⟩
        replace hb := hb.trans (b'.mono hs)
        clear b'
        replace hs := hb.size
        go_wp2_with fail
        go_ret
        exact ⟨rfl, hb⟩
end Go.Proofs.YteghmnlngkcgiaaDoor.Planes

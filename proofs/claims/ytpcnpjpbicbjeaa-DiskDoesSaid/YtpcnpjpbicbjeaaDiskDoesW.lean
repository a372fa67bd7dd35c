/- DiskDoes: the walk. -/
import Derived.Test.YtpcnpjpbicbjeaaRdiskI
import Derived.Test.YtpcnpjpbicbjeaaDiskReadsW
import Derived.Test.YtpcnpjpbicbjeaaDiskCrashesW
import Derived.Deep.DeepCutAuto
namespace Go.Proofs.Ytpcnpjpbicbjeaa.Disk
open Go Go.RowKit Go.Maps Mem Door
section
variable {X : Nat → Prop} {m : Nat} {w : World} {b c : Nat} {d d' : Dk}
/-- a copy; behind it whatever is done to the first one leaves the copy and the document's disk -/
theorem tclone (h : Two X m w b c d d') : Calls Try.prog 26 #[.pointer (some ⟨b, 0, none⟩)] w fun e w' =>
    ∃ (b2 : Nat) (Z : Nat → Prop), e = .returned (.pointer (some ⟨b2, 0, none⟩)) ∧ Below w.heap.size w w' ∧ Hd Z m w' b d ∧ (∀ i, X i → Z i) ∧ ∀ w2, Keeps (fun i => ¬ Z i) w' w2 → Two X m w2 b2 c d d' := by
  obtain ⟨F, G, h1, h2, h3, h4, h5, h6, h7, h8⟩ := h
  refine (clone_any h1 h7.1).mono ?_
  rintro e w' ⟨F2, b2, rfl, q1, q2, q3⟩
  have r1 := h1.below q3
  have r2 := h2.below q3
  refine ⟨b2, fun i => X i ∨ G i ∨ F2 i, rfl, q3, ⟨⟨F, r1, fun i hi hz => ?_⟩, fun i hi => ?_, h7.1, h7.2⟩, fun i hi => Or.inl hi, fun w2 hk => ?_⟩
  · rcases hz with hz | hz | hz
    · exact h4 i hi hz
    · exact h3 i hi hz
    · have := h1.blt i hi
      have := q2 i hz
      omega
  · rcases hi with hi | hi | hi
    · exact Nat.lt_of_lt_of_le (h6 i hi) q3.size
    · exact r2.lt i hi
    · exact q1.blt i hi
  · refine ⟨F2, G, q1.keeps hk (fun i hi hn => hn (Or.inr (Or.inr hi))), r2.keeps hk (fun i hi hn => hn (Or.inr (Or.inl hi))), fun i hi hg => ?_, fun i hi hx => ?_, h5, fun i hi => Nat.lt_of_lt_of_le (h6 i hi) (Nat.le_trans q3.size hk.size), h7, h8⟩
    · have := h2.lt i hg
      have := q2 i hi
      omega
    · have := h6 i hx
      have := q2 i hi
      omega
end
theorem sec_l (w : World) : Calls Try.prog 10 #[.int .u8 108, .int .i64 0] w fun e w' => e = .returned (.string (secB 108 64)) ∧ Below w.heap.size w w' := sec_lit 108 0 64 (by decide) w
theorem KeepX.blk {X : Nat → Prop} {w w' : World} {g : Nat} {t : TypeId} {cs : Array Value} (h : Blk w g t cs) (k : KeepX X w w') (hg : X g) : Blk w' g t cs := h.keeps k (fun hn => hn hg)
set_option maxRecDepth 100000 in
set_option maxHeartbeats 32000000 in
theorem does_any (sec : Int) (A : Option Addr) (n cap : Nat) (w : World) (hops : Ops6 (fun _ => True) w A n) :
    Calls Try.prog 8 #[.int .i64 sec, .slice A n cap] w fun e w' => e = .returned (.bool true) ∧ Below w.heap.size w w' := by
  obtain ⟨hN1, hN2⟩ := clampN_le sec
  have hmm := clampN_int sec
  generalize clampN sec = N at hN1 hN2 hmm
  have k1 := Lib.hid (new_any w N hN1 (by omega))
  have k2 := Lib.hid (fun W => rnew_any W N hN1 (by omega))
  replace hops := Lib.hid hops
  go_enter Try.func8, Try.ntmps8
  go_wp2_with fail
  refine k1.out.mono ?_
  rintro e w1 ⟨F, b, rfl, hp, hF, hb⟩
  have hs := hb.size
  go_wp2_with fail
  refine (k2.out _).mono ?_
  rintro e w2 ⟨G, c, rfl, hr, hG, b2⟩
  have h : Two (fun i => i < w.heap.size) 0 w2 b c (newD N) (newD N) := by
    refine ⟨F, G, hp.below b2, hr, fun i hi hg => ?_, fun i hi hx => ?_, fun i hi hx => ?_, fun i hi => ?_, ⟨newD_fit ⟨hN1, by omega⟩, NumTo.new N⟩, ⟨newD_fit ⟨hN1, by omega⟩, NumTo.new N⟩⟩
    · have := hp.blt i hi; have := hG i hg; omega
    · have := hF i hi; omega
    · have := hG i hi; omega
    · have := b2.size; omega
  replace hb := hb.trans (b2.mono hs)
  replace hs := hb.size
  clear k1 k2 hmm hp hF hr hG b2
  go_wp2_with fail
  go_loopw [6, 10] (fun p t wr => ∃ (q b : Nat) (d : Dk), q ≤ n ∧ q ≤ 200 ∧ t = .int .i64 (q : Int) ∧ p = .pointer (some ⟨b, 0, none⟩) ∧ Two (fun i => i < w.heap.size) (2 * q) wr b c d d ∧ Below w.heap.size w wr) (fun _ t _ => n - (intOf t).toNat)
  case atStart => exact ⟨0, b, _, Nat.zero_le _, Nat.zero_le _, rfl, rfl, h, hb⟩
  case round =>
    clear h hb hs
    obtain ⟨q, b, d, hq, hq2, rfl, rfl, h, hb⟩ := hrel
    have hs := hb.size
    by_cases hgo : q < n ∧ q < 200
    · obtain ⟨hlt1, hlt2⟩ := hgo
      obtain ⟨ad, x, y, cc, z, s, bb, rfl, hy, _, hat⟩ := hops.out.at_ hlt1
      obtain ⟨m0, m1, m2, m3, m4, m5⟩ := hat _ hb
      have z1 : (0 : Int) ≤ (q : Int) := by omega
      have z2 : (q : Int) < (n : Int) := by omega
      have d200 : decide ((q : Int) < 200) = true := decide_eq_true (by omega)
      go_upto_region 11 with fail
      obtain ⟨P, hP⟩ : ∃ P, P = wr.heap.size := ⟨_, rfl⟩
      obtain ⟨W, hW⟩ : ∃ W, W = wr.alloc (.cells #[.int .i64 x, .int .i64 y, .int .u8 (cc.toNat : Int), .int .i64 z, .string s, .bool bb] 30) := ⟨_, rfl⟩
      have hWb : Below wr.heap.size wr W := by rw [hW]; exact (Below.refl _ wr).alloc (Nat.le_refl _) _
      have hB : Blk W P 30 #[.int .i64 x, .int .i64 y, .int .u8 (cc.toNat : Int), .int .i64 z, .string s, .bool bb] := by rw [hW, hP]; exact Blk.new wr _ _
      rw [← hW, ← hP]
      have hPw : w.heap.size ≤ P := by rw [hP]; exact hs
      replace h := h.also (Y := fun i => i < w.heap.size ∨ i = P) hWb (fun i hi => by
        have := hB.lt
        rcases hi with h | h
        · exact Or.inl h
        · exact Or.inr (by omega))
      replace hb := hb.trans (hWb.mono hs)
      replace hs := hb.size
      clear hW hP hWb m0 m1 m2 m3 m4 m5 hat d200 z1 z2
      have c0 : W.cell? ⟨P, 0, none⟩ = some (.int .i64 x) := hB.cell 0
      go_upto_block 2 with fail
      clear c0
      go_cut [6, 12, 13, 14, 15] (fun p a1 a2 s1 s2 wx => ∃ (b2 : Nat) (d2 : Dk) (r : Int) (S : ByteArray), p = .pointer (some ⟨b2, 0, none⟩) ∧ a1 = .int .i64 r ∧ a2 = .int .i64 r ∧ s1 = .string S ∧ s2 = .string S ∧ Two (fun i => i < w.heap.size) (2 * q + 2) wx b2 c d2 d2 ∧ Below w.heap.size w wx)
      case first =>
        replace h := Lib.hid h
        replace hB := Lib.hid hB
        replace hb := Lib.hid hb
        by_cases e0 : x = 0
        · have i0 : (x == 0) = true := by simpa using e0
          replace e0 := Lib.hid e0
          have m1 : W.cell? ⟨P, 1, none⟩ = some (.int .i64 y) := hB.out.cell 1
          go_wp2_with fail
          refine (tread h.out y).mono ?_
          rintro en w' ⟨rfl, hw'⟩
          replace hw' := hw'.symm
          subst hw'
          go_wp2_with fail
          refine (uread h.out (by omega) y).mono ?_
          rintro en w' ⟨rfl, hw'⟩
          replace hw' := hw'.symm
          subst hw'
          obtain ⟨S, hS⟩ : ∃ S, S = (readD d y).1 := ⟨_, rfl⟩
          obtain ⟨r, hr⟩ : ∃ r, r = (readD d y).2 := ⟨_, rfl⟩
          rw [← hS, ← hr]
          replace hS := Lib.hid hS
          replace hr := Lib.hid hr
          clear m1
          replace h := h.out.more (m' := 2 * q + 2) (by omega)
          replace hb := hb.out
          replace h := h.mono (Y := fun i => i < w.heap.size) (fun i hi => Or.inl hi)
          replace h := Lib.hid h
          replace hb := Lib.hid hb
          go_wp2_with fail
          go_meet
          exact ⟨b, d, r, S, rfl, rfl, rfl, rfl, rfl, h.out, hb.out⟩
        · have i0 : (x == 0) = false := by simpa using e0
          replace e0 := Lib.hid e0
          by_cases e1 : x = 1
          · have i1 : (x == 1) = true := by simpa using e1
            replace e1 := Lib.hid e1
            go_upto_region 16 with fail
            replace h := Lib.hid (h.out.below (drewB W))
            replace hB := Lib.hid (hB.out.below (drewB W) hB.out.lt)
            replace hb := Lib.hid hb.out.drew
            replace hs := hb.out.size
            have m1 : W.drew.cell? ⟨P, 1, none⟩ = some (.int .i64 y) := hB.out.cell 1
            have m2 : W.drew.cell? ⟨P, 2, none⟩ = some (.int .u8 (cc.toNat : Int)) := hB.out.cell 2
            have m3 : W.drew.cell? ⟨P, 3, none⟩ = some (.int .i64 z) := hB.out.cell 3
            go_region_held3 (fun w' => w'.cell? ⟨P, 1, none⟩ = some (.int .i64 y) ∧ w'.cell? ⟨P, 2, none⟩ = some (.int .u8 (cc.toNat : Int)) ∧ w'.cell? ⟨P, 3, none⟩ = some (.int .i64 z))
              (first
                | exact ⟨m1, m2, m3⟩
                | exact ⟨n1, n2, n3⟩
                | exact ⟨o1, o2, o3⟩
                | go_keep)
              (first
                | (go_at_call 10; refine (sector_any cc z _).mono ?_; rintro e w5 ⟨rfl, b1⟩; have hB1 := Lib.hid (hB.out.below b1 hB.out.lt); obtain ⟨n1, n2, n3⟩ := And.intro (hB1.out.cell 1) (And.intro (hB1.out.cell 2) (hB1.out.cell 3)))
                | (go_at_call 12; refine (twrite (h.out.below b1) (by omega) y _).mono ?_; rintro e w6 ⟨rfl, h2, k'⟩; have hB2 := Lib.hid (k'.blk hB1.out (Or.inr rfl)); obtain ⟨o1, o2, o3⟩ := And.intro (hB2.out.cell 1) (And.intro (hB2.out.cell 2) (hB2.out.cell 3))))
            have hb1 := hb.out.trans (b1.mono hs)
            have hb2 := hb1.trans (k'.toBelow (fun i hi => Or.inl hi) hb1.size)
            clear h hB hb hs m1 m2 m3 n1 n2 n3 o1 o2 o3 hB1 b1 hb1 k'
            have h := Lib.hid h2
            have hB := hB2
            have hb := Lib.hid hb2
            have hs := hb2.size
            clear h2 hB2 hb2
            obtain ⟨S1, hS1⟩ : ∃ S1, S1 = secB cc (secL z) := ⟨_, rfl⟩
            go_upto_region 17 with fail
            replace h := Lib.hid (h.out.below (drewB w6))
            replace hB := Lib.hid (hB.out.below (drewB w6) hB.out.lt)
            replace hb := Lib.hid hb.out.drew
            replace hs := hb.out.size
            have m1 : w6.drew.cell? ⟨P, 1, none⟩ = some (.int .i64 y) := hB.out.cell 1
            have m2 : w6.drew.cell? ⟨P, 2, none⟩ = some (.int .u8 (cc.toNat : Int)) := hB.out.cell 2
            have m3 : w6.drew.cell? ⟨P, 3, none⟩ = some (.int .i64 z) := hB.out.cell 3
            go_region_held3 (fun w' => w'.cell? ⟨P, 1, none⟩ = some (.int .i64 y) ∧ w'.cell? ⟨P, 2, none⟩ = some (.int .u8 (cc.toNat : Int)) ∧ w'.cell? ⟨P, 3, none⟩ = some (.int .i64 z))
              (first
                | exact ⟨m1, m2, m3⟩
                | exact ⟨n1, n2, n3⟩
                | exact ⟨o1, o2, o3⟩
                | go_keep)
              (first
                | (go_at_call 10; refine (sector_any cc z _).mono ?_; rintro e w7 ⟨rfl, b1⟩; have hB1 := Lib.hid (hB.out.below b1 hB.out.lt); obtain ⟨n1, n2, n3⟩ := And.intro (hB1.out.cell 1) (And.intro (hB1.out.cell 2) (hB1.out.cell 3)))
                | (go_at_call 28; refine (uwrite (h.out.below b1) (by omega) y _).mono ?_; rintro e w8 ⟨rfl, h2, k'⟩; have hB2 := Lib.hid (k'.blk hB1.out (Or.inr rfl)); obtain ⟨o1, o2, o3⟩ := And.intro (hB2.out.cell 1) (And.intro (hB2.out.cell 2) (hB2.out.cell 3))))
            have hb1 := hb.out.trans (b1.mono hs)
            have hb2 := hb1.trans (k'.toBelow (fun i hi => Or.inl hi) hb1.size)
            clear h hB hb hs m1 m2 m3 n1 n2 n3 o1 o2 o3 hB1 b1 hb1 k'
            have h := Lib.hid h2
            have hB := hB2
            have hb := Lib.hid hb2
            have hs := hb2.size
            clear h2 hB2 hb2
            replace hS1 := Lib.hid hS1
            replace h := h.out.more (m' := 2 * q + 2) (by omega)
            replace hb := hb.out
            replace h := h.mono (Y := fun i => i < w.heap.size) (fun i hi => Or.inl hi)
            replace h := Lib.hid h
            replace hb := Lib.hid hb
            go_wp2_with fail
            go_meet
            exact ⟨b, _, _, ⟨#[]⟩, rfl, rfl, rfl, rfl, rfl, h.out, hb.out⟩
          · have i1 : (x == 1) = false := by simpa using e1
            replace e1 := Lib.hid e1
            by_cases e2 : x = 2
            · have i2 : (x == 2) = true := by simpa using e2
              replace e2 := Lib.hid e2
              go_wp2_with fail
              refine (tsync h.out (by omega)).mono ?_
              rintro en w3 ⟨rfl, h3, k3⟩
              have hB3 := k3.blk hB.out (Or.inr rfl)
              have hb3 := hb.out.trans (k3.toBelow (fun i hi => Or.inl hi) hs)
              have hs3 := hb3.size
              skip
              replace h3 := Lib.hid h3
              replace hB3 := Lib.hid hB3
              replace hb3 := Lib.hid hb3
              clear h hB hb k3
              go_wp2_with fail
              refine (usync h3.out (by omega)).mono ?_
              rintro en w4 ⟨rfl, h, k4⟩
              have hb := hb3.out.trans (k4.toBelow (fun i hi => Or.inl hi) hs3)
              clear h3 hB3 hb3 k4 
              replace h := h.more (m' := 2 * q + 2) (by omega)
              replace h := h.mono (Y := fun i => i < w.heap.size) (fun i hi => Or.inl hi)
              replace h := Lib.hid h
              replace hb := Lib.hid hb
              go_wp2_with fail
              go_meet
              exact ⟨b, _, _, ⟨#[]⟩, rfl, rfl, rfl, rfl, rfl, h.out, hb.out⟩
            · have i2 : (x == 2) = false := by simpa using e2
              replace e2 := Lib.hid e2
              by_cases e3 : x = 3
              · have i3 : (x == 3) = true := by simpa using e3
                replace e3 := Lib.hid e3
                have m1 : W.cell? ⟨P, 1, none⟩ = some (.int .i64 y) := hB.out.cell 1
                have m5 : W.cell? ⟨P, 5, none⟩ = some (.bool bb) := hB.out.cell 5
                go_wp2_with fail
                refine (tbad h.out (by omega) y bb).mono ?_
                rintro en w3 ⟨rfl, h3, k3⟩
                have hB3 := k3.blk hB.out (Or.inr rfl)
                have hb3 := hb.out.trans (k3.toBelow (fun i hi => Or.inl hi) hs)
                have hs3 := hb3.size
                clear m1 m5
                have m1 : w3.cell? ⟨P, 1, none⟩ = some (.int .i64 y) := hB3.cell 1
                have m5 : w3.cell? ⟨P, 5, none⟩ = some (.bool bb) := hB3.cell 5
                replace h3 := Lib.hid h3
                replace hB3 := Lib.hid hB3
                replace hb3 := Lib.hid hb3
                clear h hB hb k3
                go_wp2_with fail
                refine (ubad h3.out (by omega) y bb).mono ?_
                rintro en w4 ⟨rfl, h, k4⟩
                have hb := hb3.out.trans (k4.toBelow (fun i hi => Or.inl hi) hs3)
                clear h3 hB3 hb3 k4 m1 m5
                replace h := h.more (m' := 2 * q + 2) (by omega)
                replace h := h.mono (Y := fun i => i < w.heap.size) (fun i hi => Or.inl hi)
                replace h := Lib.hid h
                replace hb := Lib.hid hb
                go_wp2_with fail
                go_meet
                exact ⟨b, _, _, ⟨#[]⟩, rfl, rfl, rfl, rfl, rfl, h.out, hb.out⟩
              · have i3 : (x == 3) = false := by simpa using e3
                replace e3 := Lib.hid e3
                by_cases e4 : x = 4
                · have i4 : (x == 4) = true := by simpa using e4
                  replace e4 := Lib.hid e4
                  have m1 : W.cell? ⟨P, 1, none⟩ = some (.int .i64 y) := hB.out.cell 1
                  have m4 : W.cell? ⟨P, 4, none⟩ = some (.string s) := hB.out.cell 4
                  go_wp2_with fail
                  refine (tarm h.out y hy s).mono ?_
                  rintro en w3 ⟨rfl, h3, k3⟩
                  have hB3 := k3.blk hB.out (Or.inr rfl)
                  have hb3 := hb.out.trans (k3.toBelow (fun i hi => Or.inl hi) hs)
                  have hs3 := hb3.size
                  clear m1 m4
                  have m1 : w3.cell? ⟨P, 1, none⟩ = some (.int .i64 y) := hB3.cell 1
                  have m4 : w3.cell? ⟨P, 4, none⟩ = some (.string s) := hB3.cell 4
                  replace h3 := Lib.hid h3
                  replace hB3 := Lib.hid hB3
                  replace hb3 := Lib.hid hb3
                  clear h hB hb k3
                  go_wp2_with fail
                  refine (uarm h3.out y hy s).mono ?_
                  rintro en w4 ⟨rfl, h, k4⟩
                  have hb := hb3.out.trans (k4.toBelow (fun i hi => Or.inl hi) hs3)
                  clear h3 hB3 hb3 k4 m1 m4
                  replace h := h.more (m' := 2 * q + 2) (by omega)
                  replace h := h.mono (Y := fun i => i < w.heap.size) (fun i hi => Or.inl hi)
                  replace h := Lib.hid h
                  replace hb := Lib.hid hb
                  go_wp2_with fail
                  go_meet
                  exact ⟨b, _, _, ⟨#[]⟩, rfl, rfl, rfl, rfl, rfl, h.out, hb.out⟩
                · have i4 : (x == 4) = false := by simpa using e4
                  replace e4 := Lib.hid e4
                  by_cases e5 : x = 5
                  · have i5 : (x == 5) = true := by simpa using e5
                    replace e5 := Lib.hid e5
                    have m4 : W.cell? ⟨P, 4, none⟩ = some (.string s) := hB.out.cell 4
                    go_wp2_with fail
                    refine (tcrash h.out s).mono ?_
                    rintro en w3 ⟨rfl, h3, k3⟩
                    have hB3 := k3.blk hB.out (Or.inr rfl)
                    have hb3 := hb.out.trans (k3.toBelow (fun i hi => Or.inl hi) hs)
                    have hs3 := hb3.size
                    clear m4
                    have m4 : w3.cell? ⟨P, 4, none⟩ = some (.string s) := hB3.cell 4
                    replace h3 := Lib.hid h3
                    replace hB3 := Lib.hid hB3
                    replace hb3 := Lib.hid hb3
                    clear h hB hb k3
                    go_wp2_with fail
                    refine (ucrash h3.out s).mono ?_
                    rintro en w4 ⟨rfl, h, k4⟩
                    have hb := hb3.out.trans (k4.toBelow (fun i hi => Or.inl hi) hs3)
                    clear h3 hB3 hb3 k4 m4
                    replace h := h.more (m' := 2 * q + 2) (by omega)
                    replace h := h.mono (Y := fun i => i < w.heap.size) (fun i hi => Or.inl hi)
                    replace h := Lib.hid h
                    replace hb := Lib.hid hb
                    go_wp2_with fail
                    go_meet
                    exact ⟨b, _, _, ⟨#[]⟩, rfl, rfl, rfl, rfl, rfl, h.out, hb.out⟩
                  · have i5 : (x == 5) = false := by simpa using e5
                    replace e5 := Lib.hid e5
                    by_cases e6 : x = 6
                    · have i6 : (x == 6) = true := by simpa using e6
                      replace e6 := Lib.hid e6
                      go_wp2_with fail
                      refine (trevive h.out).mono ?_
                      rintro en w3 ⟨rfl, h3, k3⟩
                      have hB3 := k3.blk hB.out (Or.inr rfl)
                      have hb3 := hb.out.trans (k3.toBelow (fun i hi => Or.inl hi) hs)
                      have hs3 := hb3.size
                      skip
                      replace h3 := Lib.hid h3
                      replace hB3 := Lib.hid hB3
                      replace hb3 := Lib.hid hb3
                      clear h hB hb k3
                      go_wp2_with fail
                      refine (urevive h3.out).mono ?_
                      rintro en w4 ⟨rfl, h, k4⟩
                      have hb := hb3.out.trans (k4.toBelow (fun i hi => Or.inl hi) hs3)
                      clear h3 hB3 hb3 k4 
                      replace h := h.more (m' := 2 * q + 2) (by omega)
                      replace h := h.mono (Y := fun i => i < w.heap.size) (fun i hi => Or.inl hi)
                      replace h := Lib.hid h
                      replace hb := Lib.hid hb
                      go_wp2_with fail
                      go_meet
                      exact ⟨b, _, 0, ⟨#[]⟩, rfl, rfl, rfl, rfl, rfl, h.out, hb.out⟩
                    · have i6 : (x == 6) = false := by simpa using e6
                      replace e6 := Lib.hid e6
                      by_cases e7 : x = 7
                      · have i7 : (x == 7) = true := by simpa using e7
                        replace e7 := Lib.hid e7
                        go_wp2_with fail
                        refine (tclone h.out).mono ?_
                        rintro en w3 ⟨b2, Z, rfl, b3, hd, hXZ, hfin⟩
                        have hb3 := hb.out.trans (b3.mono hs)
                        have hs3 := hb3.size
                        have hfin := Lib.hid hfin
                        have hXZ := Lib.hid hXZ
                        clear h hB hb b3
                        go_wp2_with fail
                        refine (sec_l _).mono ?_
                        rintro en w4 ⟨rfl, b4⟩
                        have k4 : Keeps (fun i => ¬ Z i) w3 w4 := Keeps.of_below _ b4
                        replace hd := hd.below b4
                        replace k4 := Lib.hid k4
                        clear b4
                        go_wp2_with fail
                        refine (hwrite hd (by omega) 0 _).mono ?_
                        rintro en w5 ⟨rfl, hd5, k5⟩
                        replace k5 := Lib.hid (k4.out.same k5)
                        clear hd k4
                        go_wp2_with fail
                        refine (hbad hd5 (by omega) 0 true).mono ?_
                        rintro en w6 ⟨rfl, hd6, k6⟩
                        replace k6 := Lib.hid (k5.out.same k6)
                        clear hd5 k5
                        go_wp2_with fail
                        refine (hsync hd6 (by omega)).mono ?_
                        rintro en w7 ⟨rfl, hd7, k7⟩
                        replace k7 := Lib.hid (k6.out.same k7)
                        clear hd6 k6
                        go_wp2_with fail
                        refine (hcrash hd7 ⟨#[]⟩).mono ?_
                        rintro en w8 ⟨rfl, _, k8⟩
                        replace k8 := k7.out.same k8
                        have h := (hfin.out _ k8).more (m' := 2 * q + 2) (by omega)
                        have hb := hb3.trans (k8.toBelow (fun i hi => Nat.le_of_not_lt fun hlt => hi (hXZ.out i (Or.inl hlt))) hs3)
                        clear hd7 k7 k8 hfin hXZ hb3 hs3
                        replace h := h.mono (Y := fun i => i < w.heap.size) (fun i hi => Or.inl hi)
                        replace h := Lib.hid h
                        replace hb := Lib.hid hb
                        go_wp2_with fail
                        go_meet
                        exact ⟨b2, d, 0, ⟨#[]⟩, rfl, rfl, rfl, rfl, rfl, h.out, hb.out⟩
                      · have i7 : (x == 7) = false := by simpa using e7
                        replace e7 := Lib.hid e7
                        replace h := h.out.more (m' := 2 * q + 2) (by omega)
                        replace hb := hb.out
                        clear hB
                        replace h := h.mono (Y := fun i => i < w.heap.size) (fun i hi => Or.inl hi)
                        replace h := Lib.hid h
                        replace hb := Lib.hid hb
                        go_wp2_with fail
                        go_meet
                        exact ⟨b, d, 0, ⟨#[]⟩, rfl, rfl, rfl, rfl, rfl, h.out, hb.out⟩
      case rest =>
        clear h hb hB hs
        obtain ⟨b2, d2, r, S, rfl, rfl, rfl, rfl, rfl, h, hb⟩ := hcut
        have hs := hb.size
        obtain ⟨I, hI⟩ : ∃ I, img d2 = I := ⟨_, rfl⟩
        replace hI := Lib.hid hI
        replace h := h.below (drewB wc)
        replace hb := hb.drew
        replace hs := hb.size
        obtain ⟨_, _, A2, k2, _, l1, l3, l6, hcl⟩ := h.cells
        have kl := fun W b m (hh : Two (fun i => i < w.heap.size) m W b c d2 d2) => tloose hh
        have ks := fun W b m (hh : Two (fun i => i < w.heap.size) m W b c d2 d2) => tsteps hh
        have kd := fun W b m (hh : Two (fun i => i < w.heap.size) m W b c d2 d2) => tdead hh
        have hlen := h.len
        generalize d2.L.length = M at l1 kl hlen
        generalize d2.steps = SS at l3 ks
        generalize d2.dead = DD at l6 kd
        replace kl := Lib.hid kl
        replace ks := Lib.hid ks
        replace kd := Lib.hid kd
        replace h := Lib.hid h
        replace hb := Lib.hid hb
        go_wp2_with fail
        go_region_held3 (fun w' => w'.cell? ⟨c, 1, none⟩ = some (.slice A2 M k2) ∧ w'.cell? ⟨c, 3, none⟩ = some (.int .i64 (SS : Int)) ∧ w'.cell? ⟨c, 6, none⟩ = some (.bool DD))
          (first
            | exact ⟨l1, l3, l6⟩
            | exact ⟨n1, n3, n6⟩
            | go_keep)
          (first
            | (go_at_call 17; refine (timage h.out).mono ?_; rintro e w5 ⟨he5, b5⟩; rw [hI.out] at he5; subst he5; have h5 := Lib.hid (h.out.below b5); obtain ⟨n1, n3, n6⟩ := And.intro ((b5.cell (p := ⟨c, 1, none⟩) hcl).trans l1) (And.intro ((b5.cell (p := ⟨c, 3, none⟩) hcl).trans l3) ((b5.cell (p := ⟨c, 6, none⟩) hcl).trans l6)))
            | (go_at_call 35; refine (uimage h5.out).mono ?_; rintro e w6 ⟨he6, hw6⟩; rw [hI.out] at he6; subst he6; replace hw6 := hw6.symm; subst hw6)
            | (go_at_call 16; refine (kl.out _ _ _ h5.out).mono ?_; rintro e w7 ⟨rfl, hw7⟩; replace hw7 := hw7.symm; subst hw7)
            | (go_at_call 25; refine (ks.out _ _ _ h5.out).mono ?_; rintro e w8 ⟨rfl, hw8⟩; replace hw8 := hw8.symm; subst hw8)
            | (go_at_call 24; refine (kd.out _ _ _ h5.out).mono ?_; rintro e w9 ⟨rfl, hw9⟩; replace hw9 := hw9.symm; subst hw9))
        have hb5 := hb.out.trans (b5.mono hs)
        clear l1 l3 l6 n1 n3 n6 b5 h hb
        replace h5 := Lib.hid h5.out
        replace hb5 := Lib.hid hb5
        go_wp2_with fail
        exact ⟨⟨q + 1, b2, d2, hlt1, hlt2, rfl, rfl, h5.out, hb5.out⟩, by simp [intOf]; omega⟩
    · have hor : n ≤ q ∨ (q < n ∧ 200 ≤ q) := by omega
      clear hgo
      rcases hor with hge | ⟨hge, hge2⟩
      all_goals
        go_wp2_with fail
        refine (fixed_any _).mono ?_
        rintro en w' ⟨rfl, b'⟩
        replace hb := hb.trans (b'.mono hs)
        go_wp2_with fail
        go_ret
        exact ⟨rfl, hb⟩
end Go.Proofs.Ytpcnpjpbicbjeaa.Disk

/- BlockKeeps: the walk. -/
import Derived.Test.YtkghlbpkdkonbaaBlkNm
import Derived.Test.YtkghlbpkdkonbaaDoorO
import Derived.BigQuiet
import Derived.BigRegion
import Derived.Deep.DeepCutAuto
namespace Go.Proofs.Ytkghlbpkdkonbaa.Vl
open Go Go.RowKit Go.Maps Mem Disk Nv Door
set_option maxRecDepth 100000 in
theorem laid_kp {w w1 w2 : World} {a b g hh hn hs hl : Nat} (h : Hs (fun i => i < w.heap.size) 32 3 w1 a b ⟨⟨#[]⟩, 1, [], false⟩ (laidV 32 ⟨#[]⟩) (cur0 ⟨#[]⟩)) (b2 : Below w1.heap.size w1 w2) (nm : Nm w2 g hh hn hs hl no0) (hg : ∀ i, isNm g hh hn hs hl i → w.heap.size ≤ i) (hg1 : ∀ i, isNm g hh hn hs hl i → w1.heap.size ≤ i) (hb : Below w.heap.size w w2) :
    KpAt w 0 w2 a b g hh hn hs hl no0 1 ⟨⟨#[]⟩, 1, [], false⟩ (laidV 32 ⟨#[]⟩) (cur0 ⟨#[]⟩) := by
  obtain ⟨_, _, e3, _, e5, e6⟩ := laidV_ok (N := 32) (by decide) (by decide) (text := ⟨#[]⟩) (by decide)
  refine ⟨⟨h.h.also b2 (fun i hi => hi.elim Or.inl (fun q => Or.inr ⟨hg1 i q, nm.lt i q⟩)), ⟨e3.dead, e3.len, e3.bad, e3.cur, fun i s hi hs => ?_, fun i s _ hs => ?_⟩, h.coh, h.keys, h.live⟩, rfl, rfl, Nat.le_refl _, ⟨rfl, ?_, Nat.le_refl _, by decide⟩, (fun k _ _ _ ks => by cases ks), (fun k _ _ kl => by cases kl), nm, hb, hg⟩
  · rw [e6, List.getElem?_map, List.getElem?_range hi] at hs
    injection hs with hs
    exact Or.inl hs.symm
  · rw [e5] at hs
    cases hs
  · show (parseV (cur0 ⟨#[]⟩ 0) 0).2 < 1
    unfold cur0
    rw [if_neg (by decide), parse_noughts]
    decide
set_option maxRecDepth 100000 in
set_option maxHeartbeats 32000000 in
theorem blockkeeps_any (A : Option Addr) (n c : Nat) (w : World) (hops : Ops5 (fun _ => True) (fun _ => True) w A n) (hn : n ≤ 9223372036854775807) :
    Calls Try.prog 6 #[.slice A n c] w fun e w' => e = .returned (.bool true) ∧ Below w.heap.size w w' := by
  have kf := Lib.hid (fun W => fixed_any W)
  have k0 := Lib.hid (laid_yes 32 ⟨#[]⟩ w (by decide) (by decide))
  replace hops := Lib.hid hops
  go_enter Try.func6, Try.ntmps6
  go_wp2_with fail
  refine k0.out.mono ?_
  rintro e w1 ⟨a, b, k, cc, rfl, h, hb⟩
  have kn := Lib.hid (newnotes_any w1)
  replace h := Lib.hid h
  clear k0
  go_wp2_with fail
  refine kn.out.mono ?_
  rintro e w2 ⟨nv, rfl, g, hh, hn, hs, hl, rfl, nm, hg, b2⟩
  have hb2 := hb.trans (b2.mono hb.size)
  have hz := hb.size
  have st : KpAt w 0 w2 a b g hh hn hs hl no0 1 ⟨⟨#[]⟩, 1, [], false⟩ (laidV 32 ⟨#[]⟩) (cur0 ⟨#[]⟩) := laid_kp (laid_hs (N := 32) (by decide) (by decide) (show (ByteArray.mk #[]).size ≤ 40 by decide) h.out hb) b2 nm (fun i hi => Nat.le_trans hz (hg i hi)) hg hb2
  clear h kn hb nm hg b2 hb2 hz
  generalize laidV 32 ⟨#[]⟩ = d0 at st
  generalize cur0 ⟨#[]⟩ = cu0 at st
  go_wp2_with fail
  go_loopw [4, 9] (fun vv iv wr => ∃ (j a : Nat) (n0 : No) (num : Nat) (v : Vo) (d : Dk) (cur : Nat → ByteArray), j ≤ n ∧ j ≤ 200 ∧ vv = .pointer (some ⟨a, 0, none⟩) ∧ iv = .int .i64 (j : Int) ∧ KpAt w j wr a b g hh hn hs hl n0 num v d cur) (fun _ iv _ => n - (intOf iv).toNat)
  case atStart => exact ⟨0, a, _, _, _, _, _, Nat.zero_le _, Nat.zero_le _, rfl, rfl, st⟩
  case round =>
    clear st
    obtain ⟨j, a, n0, num, v, d, cur, hjn, hj2, rfl, rfl, st⟩ := hrel
    by_cases hgo : j < n ∧ j < 200
    · obtain ⟨hlt1, hlt2⟩ := hgo
      obtain ⟨ad, x, y, s, t, bb, rfl, hy, _, _, hat⟩ := hops.out.at_ hlt1
      obtain ⟨m0, m1, m2, m3, m4⟩ := hat wr st.hb
      have z1 : (0 : Int) ≤ (j : Int) := by omega
      have z2 : (j : Int) < (n : Int) := by omega
      have d200 : decide ((j : Int) < 200) = true := decide_eq_true (by omega)
      go_upto_region 9 with fail
      obtain ⟨P, hP⟩ : ∃ P, P = wr.heap.size := ⟨_, rfl⟩
      obtain ⟨W, hW⟩ : ∃ W, W = wr.alloc (.cells #[.int .i64 x, .int .i64 y, .string s, .string t, .bool bb] 49) := ⟨_, rfl⟩
      have hWb : Below wr.heap.size wr W := by rw [hW]; exact (Below.refl _ wr).alloc (Nat.le_refl _) _
      have hB : Blk W P 49 #[.int .i64 x, .int .i64 y, .string s, .string t, .bool bb] := by rw [hW, hP]; exact Blk.new wr _ _
      rw [← hW, ← hP]
      have h1 := st.op (P := P) hWb (Nat.le_of_eq hP.symm) hB.lt
      have nm1 := st.nm.below hWb
      have hb1 := st.hb.trans (hWb.mono st.hb.size)
      have stn := st.next hWb
      have hfew := st.few
      clear hW hP hWb m0 m1 m2 m3 m4 hat d200 z1 z2 st
      obtain ⟨q0, q1, q2, q3, q4⟩ := nm1.cells
      obtain ⟨p0, p1, p2, p3, p4⟩ : W.cell? ⟨P, 0, none⟩ = some (.int .i64 x) ∧ W.cell? ⟨P, 1, none⟩ = some (.int .i64 y) ∧ W.cell? ⟨P, 2, none⟩ = some (.string s) ∧ W.cell? ⟨P, 3, none⟩ = some (.string t) ∧ W.cell? ⟨P, 4, none⟩ = some (.bool bb) := ⟨hB.cell 0, hB.cell 1, hB.cell 2, hB.cell 3, hB.cell 4⟩
      replace h1 := Lib.hid h1
      replace nm1 := Lib.hid nm1
      replace hb1 := Lib.hid hb1
      replace hB := Lib.hid hB
      replace stn := Lib.hid stn
      by_cases e0 : x = 1
      · have hx0 : (x == 1) = true := by simpa using e0
        obtain ⟨k, hk8, hk⟩ := mask7 y
        by_cases h240 : s.size ≤ 240
        · by_cases hk0 : k = 0
          · subst hk0
            go_wp2_with fail
            exact ⟨⟨j + 1, a, n0, num, v, d, cur, hlt1, hlt2, rfl, rfl, stn.out⟩, by simp [intOf]; omega⟩
          · have z0 : ((k : Int) == 0) = false := beq_false_of_ne (by omega)
            have y0 : (0 : Int) ≤ (k : Int) := by omega
            have y8 : (k : Int) < 8 := by omega
            have z240 : decide (240 < (s.size : Int)) = false := decide_eq_false (by omega)
            have st1 := stn.out
            have kw := hvwrite h1.out (by omega) (k : Int) s (by omega)
            have hw := lv_writeV (v := v) (st1.h.lv.mono fun i x _ hq => wrote_Q0 (k := k) (p := s) hq) h1.out.fn (show 1 ≤ k by omega) (show k < 32 / 4 by omega) h240 st1.h.live (wrote_may (by omega))
            clear st1
            rcases hw with ⟨d', e1, l1⟩ | ⟨v', d', e1, gn⟩
            · rw [e1] at kw
              replace kw := Lib.hid kw
              replace l1 := Lib.hid l1
              clear e1
              go_wp2_with fail
              refine kw.out.mono ?_
              rintro e w3 ⟨rfl, h3, k3⟩
              have nm3 := nm1.out.hold k3
              have hb3 := hb1.out.trans (KeepX.low k3 hb1.out.size)
              have hB3 := hB.out.keeps k3 (fun hx => hx (Or.inr rfl))
              obtain ⟨g0, g1, g2, g3, g4⟩ := nm3.cells
              have s1 := (nm3.b2.cell k).trans (hasC_get _ hk8)
              have s2 := nm3.b2.free k
              have s3 : w3.cell? ⟨P, 2, none⟩ = some (.string s) := hB3.cell 2
              clear p0 p1 p2 p3 p4 q0 q1 q2 q3 q4 kw
              have nm4 := (nm3.put2 hk8 s).below (Below.refl _ _).drew
              have kk4 : Keeps (isNm g hh hn hs hl) w3 (w3.setCell ⟨hn, k, none⟩ (.string s)).drew := by
                have q := (Keeps.refl (isNm g hh hn hs hl) w3).put (g := hn) (Or.inl (Or.inr (Or.inr (Or.inl rfl)))) k (.string s)
                exact ⟨q.os, q.tape, q.output, q.size, q.block⟩
              have h3' := h3.sub (xp_sub (P := P))
              replace h3' := Lib.hid h3'
              replace kk4 := Lib.hid kk4
              replace nm4 := Lib.hid nm4
              replace hb3 := Lib.hid hb3
              clear nm3 hB3 h3 k3
              go_wp2_with fail
              go_region
              clear g0 g1 g2 g3 g4 s1 s2 s3
              have nm5 := nm4.out
              have kk5 := kk4.out
              clear nm4 kk4
              generalize (w3.setCell ⟨hn, k, none⟩ (.string s)).drew = w4 at nm5 kk5 ⊢
              obtain ⟨g0, g1, g2, g3, g4⟩ := nm5.cells
              have s1 := (nm5.b4.cell k).trans (isC_get _ hk8)
              have s2 := nm5.b4.free k
              have nm6 : Nm (w4.setCell ⟨hl, k, none⟩ (.bool true)) g hh hn hs hl (wroteN n0 k s) := nm5.put4 hk8 true
              have kk6 := kk5.put (g := hl) (Or.inl (Or.inr (Or.inr (Or.inr (Or.inr rfl))))) k (.bool true)
              have hb6 := Lib.hid (hb3.out.trans (kk6.toBelow stn.out.gg hb3.out.size))
              have h6 := Lib.hid ((h3'.out.turn (kk6.mono (fun i hi => Or.inr hi))).more (show 3 + 4 * j + 4 ≤ 3 + 4 * (j + 1) by omega))
              replace nm6 := Lib.hid nm6
              clear nm5 kk5 kk6 h3' hb3
              have st6 := stn.out.wrote (by omega) h240 l1.out h6.out nm6.out hb6.out
              replace st6 := Lib.hid st6
              clear h6 nm6 hb6
              have kd := hvdead st6.out.h.h
              rw [st6.out.h.lv.dead] at kd
              replace kd := Lib.hid kd
              go_wp2_with fail
              refine kd.out.mono ?_
              rintro e w7 ⟨rfl, hw'⟩
              replace hw' := hw'.symm
              subst hw'
              clear kd
              go_wp2_with fail
              exact ⟨⟨j + 1, a, _, _, _, _, _, hlt1, hlt2, rfl, rfl, st6.out⟩, by simp [intOf]; omega⟩
            · rw [e1] at kw
              replace kw := Lib.hid kw
              replace gn := Lib.hid gn
              clear e1
              go_wp2_with fail
              refine kw.out.mono ?_
              rintro e w3 ⟨rfl, h3, k3⟩
              have nm3 := nm1.out.hold k3
              have hb3 := hb1.out.trans (KeepX.low k3 hb1.out.size)
              have hB3 := hB.out.keeps k3 (fun hx => hx (Or.inr rfl))
              obtain ⟨g0, g1, g2, g3, g4⟩ := nm3.cells
              have s1 := (nm3.b2.cell k).trans (hasC_get _ hk8)
              have s2 := nm3.b2.free k
              have s3 : w3.cell? ⟨P, 2, none⟩ = some (.string s) := hB3.cell 2
              clear p0 p1 p2 p3 p4 q0 q1 q2 q3 q4 kw
              have nm4 := (nm3.put2 hk8 s).below (Below.refl _ _).drew
              have kk4 : Keeps (isNm g hh hn hs hl) w3 (w3.setCell ⟨hn, k, none⟩ (.string s)).drew := by
                have q := (Keeps.refl (isNm g hh hn hs hl) w3).put (g := hn) (Or.inl (Or.inr (Or.inr (Or.inl rfl)))) k (.string s)
                exact ⟨q.os, q.tape, q.output, q.size, q.block⟩
              have h3' := h3.sub (xp_sub (P := P))
              replace h3' := Lib.hid h3'
              replace kk4 := Lib.hid kk4
              replace nm4 := Lib.hid nm4
              replace hb3 := Lib.hid hb3
              clear nm3 hB3 h3 k3
              go_wp2_with fail
              go_region
              clear g0 g1 g2 g3 g4 s1 s2 s3
              have nm5 := nm4.out
              have kk5 := kk4.out
              clear nm4 kk4
              generalize (w3.setCell ⟨hn, k, none⟩ (.string s)).drew = w4 at nm5 kk5 ⊢
              obtain ⟨g0, g1, g2, g3, g4⟩ := nm5.cells
              have s1 := (nm5.b4.cell k).trans (isC_get _ hk8)
              have s2 := nm5.b4.free k
              have nm6 : Nm (w4.setCell ⟨hl, k, none⟩ (.bool true)) g hh hn hs hl (wroteN n0 k s) := nm5.put4 hk8 true
              have kk6 := kk5.put (g := hl) (Or.inl (Or.inr (Or.inr (Or.inr (Or.inr rfl))))) k (.bool true)
              have hb6 := Lib.hid (hb3.out.trans (kk6.toBelow stn.out.gg hb3.out.size))
              have h6 := Lib.hid ((h3'.out.turn (kk6.mono (fun i hi => Or.inr hi))).more (show 3 + 4 * j + 4 ≤ 3 + 4 * (j + 1) by omega))
              replace nm6 := Lib.hid nm6
              clear nm5 kk5 kk6 h3' hb3
              have md : ∃ nn v' d', MdAt w j (w4.setCell ⟨hl, k, none⟩ (.bool true)) a b g hh hn hs hl nn n0.root v' d' := ⟨_, _, _, h6.out, nm6.out, hb6.out, stn.out.gg, gn.out.dead, lost_same gn.out stn.out.rt stn.out.few (wrote_sure stn.out.sr k s) n0.root⟩
              clear h6 nm6 hb6 gn
              obtain ⟨nn, v', d', md⟩ := md
              have kd := hvdead md.h
              rw [md.dead] at kd
              have kv := Lib.hid (hvrevive md.h)
              replace md := Lib.hid md
              replace kd := Lib.hid kd
              go_wp2_with fail
              refine kd.out.mono ?_
              rintro e w4 ⟨rfl, hw'⟩
              replace hw' := hw'.symm
              subst hw'
              go_wp2_with fail
              refine kv.out.mono ?_
              rintro e w5 ⟨rfl, h5, k5⟩
              have nm5 := md.out.nm.keeps k5 (fun i hi hx => hx (Or.inr hi))
              have hb5 := md.out.hb.trans (k5.toBelow (fun i hi => Or.inl hi) md.out.hb.size)
              obtain ⟨Q, hG, hall⟩ := md.out.lost
              obtain ⟨cu, hq, lv⟩ := hG.revive
              obtain ⟨tt, nu, few, rt, hor⟩ := hall cu hq
              have ko := Lib.hid (hvopen h5 (lv_openV lv (by decide) rt.n1 (by omega) rt.size rt.r rt.o))
              have gg := Lib.hid md.out.gg
              replace lv := Lib.hid lv
              replace nm5 := Lib.hid nm5
              replace hb5 := Lib.hid hb5
              replace rt := Lib.hid rt
              replace hor := Lib.hid hor
              clear hG hall hq md kd kv h5 k5
              go_wp2_with fail
              refine ko.out.mono ?_
              rintro e w6 ⟨a6, rfl, h6, b6⟩
              have kr := Lib.hid (hvroot h6)
              have nm6 := Lib.hid (nm5.out.below b6)
              have hb6 := Lib.hid (hb5.out.trans (b6.mono hb5.out.size))
              replace h6 := Lib.hid h6
              clear ko b6 nm5 hb5
              go_wp2_with fail
              refine kr.out.mono ?_
              rintro e w7 ⟨rfl, n7, rfl⟩
              have h7 := h6.out.below (below_N w6 n7)
              have nm7 := nm6.out.below (below_N w6 n7)
              have hb7 := below_drewN hb6.out n7
              clear kr nm6 hb6 h6
              generalize w6.drewN n7 = w7 at h7 nm7 hb7 ⊢
              obtain ⟨g0, g1, g2, g3, g4⟩ := nm7.cells
              rcases hor.out with ⟨rfl, hsr⟩ | ⟨et, ne, hsr⟩
              · have tb : (nn.root.toList == nn.root.toList) = true := beq_self_eq_true _
                have hd : HoldAt w.heap.size w7 (3 + 4 * (j + 1)) 1 w7 a6 b g hh hn hs hl ⟨nn.root, nu, [], false⟩ nn.root nu (reviveD d') cu (fun i t => t = cu i) nn := ⟨⟨h7, lv.out, Coh.nil, (fun k s hk => by cases hk), rfl⟩, ⟨rfl, rfl⟩, nm7.eq (lostTo_one _).symm, Below.refl _ w7, hb7.size⟩
                have kh := Lib.hid (holds_any hd gg.out hsr)
                replace hb7 := Lib.hid hb7
                replace hsr := Lib.hid hsr
                clear hd h7 nm7 lv hor
                go_wp2_with fail
                refine kh.out.mono ?_
                rintro e w8 ⟨rfl, v8, hd8⟩
                have st8 := Lib.hid (hd8.kp rfl few rt.out hsr.out (hb7.out.trans hd8.hb) gg.out)
                clear kh hd8 hb7 hsr rt gg g0 g1 g2 g3 g4
                go_wp2_with fail
                exact ⟨⟨j + 1, a6, _, nu, v8, _, cu, hlt1, hlt2, rfl, rfl, st8.out⟩, by simp [intOf]; omega⟩
              · have tb : ¬ tt.toList = nn.root.toList := fun e => ne (bytes_inj e)
                have tb2 : (tt.toList == nn.root.toList) = false := beq_false_of_ne tb
                have kc := Lib.hid (counts_any nm7 tt)
                have etb := Lib.hid et
                subst et
                replace hb7 := Lib.hid hb7
                replace h7 := Lib.hid h7
                replace hsr := Lib.hid hsr
                clear nm7 hor
                go_wp2_with fail
                refine kc.out.mono ?_
                rintro e w8 ⟨rfl, nm8, k8⟩
                have hb8 := hb7.out.trans (k8.toBelow gg.out hb7.out.size)
                have h8 := h7.out.turn (k8.mono (fun i hi => Or.inr hi))
                have hd : HoldAt w.heap.size w8 (3 + 4 * (j + 1)) 1 w8 a6 b g hh hn hs hl ⟨_, nu, [], false⟩ _ nu (reviveD d') cu (fun i t => t = cu i) (countTo nn _ 8) := ⟨⟨h8, lv.out, Coh.nil, (fun k s hk => by cases hk), rfl⟩, ⟨rfl, rfl⟩, nm8.eq (lostTo_one _).symm, Below.refl _ w8, hb8.size⟩
                have kh := Lib.hid (holds_any hd gg.out hsr.out)
                replace hb8 := Lib.hid hb8
                clear hd h8 nm8 lv kc h7 hb7 k8 g0 g1 g2 g3 g4
                go_wp2_with fail
                refine kh.out.mono ?_
                rintro e w9 ⟨rfl, v8, hd8⟩
                have st8 := Lib.hid (hd8.kp rfl few rt.out hsr.out (hb8.out.trans hd8.hb) gg.out)
                clear kh hd8 hb8 hsr rt gg
                go_wp2_with fail
                exact ⟨⟨j + 1, a6, _, nu, v8, _, cu, hlt1, hlt2, rfl, rfl, st8.out⟩, by simp [intOf]; omega⟩
        · have z240 : decide (240 < (s.size : Int)) = true := decide_eq_true (by omega)
          go_wp2_with fail
          exact ⟨⟨j + 1, a, n0, num, v, d, cur, hlt1, hlt2, rfl, rfl, stn.out⟩, by simp [intOf]; omega⟩
      · have hx0 : (x == 1) = false := beq_false_of_ne e0
        clear e0
        by_cases e0 : x = 2
        · have hx1 : (x == 2) = true := by simpa using e0
          clear e0
          by_cases h40 : s.size ≤ 40
          · have z40 : decide (40 < (s.size : Int)) = false := decide_eq_false (by omega)
            have st1 := stn.out
            have kw := hvcommit h1.out (by omega) s
            have hw := lv_commitV (v := v) (text := s) st1.h.lv h1.out.fn (by decide) h40 st1.h.live (by rw [st1.nu]; omega)
            rw [st1.nu] at hw
            clear st1
            rcases hw with ⟨d', e1, l1⟩ | ⟨v', d', e1, gn⟩
            · rw [e1] at kw
              replace l1 := Lib.hid l1
              replace kw := Lib.hid kw
              clear e1
              go_wp2_with fail
              refine kw.out.mono ?_
              rintro e w3 ⟨rfl, h3, k3⟩
              have nm3 := nm1.out.hold k3
              have hb3 := hb1.out.trans (KeepX.low k3 hb1.out.size)
              have h3' := Lib.hid ((h3.sub (xp_sub (P := P))).more (show 3 + 4 * j + 3 ≤ 3 + 4 * (j + 1) by omega))
              replace hb3 := Lib.hid hb3
              clear p0 p1 p2 p3 p4 q0 q1 q2 q3 q4 kw h3 k3
              have kc := Lib.hid (counts_any nm3 s)
              clear nm3
              go_wp2_with fail
              refine kc.out.mono ?_
              rintro e w4 ⟨rfl, nm4, k4⟩
              have hb4 := hb3.out.trans (k4.toBelow stn.out.gg hb3.out.size)
              have h4 := h3'.out.turn (k4.mono (fun i hi => Or.inr hi))
              have st6 := Lib.hid (stn.out.root hfew (by omega) h40 l1.out h4 nm4 hb4)
              clear kc h3' hb3 nm4 k4 hb4 h4 l1
              have kd := hvdead st6.out.h.h
              rw [st6.out.h.lv.dead] at kd
              replace kd := Lib.hid kd
              go_wp2_with fail
              refine kd.out.mono ?_
              rintro e w7 ⟨rfl, hw'⟩
              replace hw' := hw'.symm
              subst hw'
              clear kd
              go_wp2_with fail
              exact ⟨⟨j + 1, a, _, _, _, _, _, hlt1, hlt2, rfl, rfl, st6.out⟩, by simp [intOf]; omega⟩
            · rw [e1] at kw
              replace gn := Lib.hid gn
              replace kw := Lib.hid kw
              clear e1
              go_wp2_with fail
              refine kw.out.mono ?_
              rintro e w3 ⟨rfl, h3, k3⟩
              have nm3 := nm1.out.hold k3
              have hb3 := hb1.out.trans (KeepX.low k3 hb1.out.size)
              have h3' := Lib.hid ((h3.sub (xp_sub (P := P))).more (show 3 + 4 * j + 3 ≤ 3 + 4 * (j + 1) by omega))
              replace hb3 := Lib.hid hb3
              clear p0 p1 p2 p3 p4 q0 q1 q2 q3 q4 kw h3 k3
              have md : ∃ nn v' d', MdAt w j w3 a b g hh hn hs hl nn s v' d' := ⟨n0, _, _, h3'.out, nm3, hb3.out, stn.out.gg, gn.out.elim (fun q => q.dead) (fun q => q.dead), gn.out.elim (fun q => lost_same q stn.out.rt stn.out.few stn.out.sr s) (fun q => lost_root q stn.out.rt (by omega) (by omega) h40 stn.out.sr stn.out.ls)⟩
              clear h3' nm3 hb3 gn
              obtain ⟨nn, v', d', md⟩ := md
              have kd := hvdead md.h
              rw [md.dead] at kd
              have kv := Lib.hid (hvrevive md.h)
              replace md := Lib.hid md
              replace kd := Lib.hid kd
              go_wp2_with fail
              refine kd.out.mono ?_
              rintro e w4 ⟨rfl, hw'⟩
              replace hw' := hw'.symm
              subst hw'
              go_wp2_with fail
              refine kv.out.mono ?_
              rintro e w5 ⟨rfl, h5, k5⟩
              have nm5 := md.out.nm.keeps k5 (fun i hi hx => hx (Or.inr hi))
              have hb5 := md.out.hb.trans (k5.toBelow (fun i hi => Or.inl hi) md.out.hb.size)
              obtain ⟨Q, hG, hall⟩ := md.out.lost
              obtain ⟨cu, hq, lv⟩ := hG.revive
              obtain ⟨tt, nu, few, rt, hor⟩ := hall cu hq
              have ko := Lib.hid (hvopen h5 (lv_openV lv (by decide) rt.n1 (by omega) rt.size rt.r rt.o))
              have gg := Lib.hid md.out.gg
              replace lv := Lib.hid lv
              replace nm5 := Lib.hid nm5
              replace hb5 := Lib.hid hb5
              replace rt := Lib.hid rt
              replace hor := Lib.hid hor
              clear hG hall hq md kd kv h5 k5
              go_wp2_with fail
              refine ko.out.mono ?_
              rintro e w6 ⟨a6, rfl, h6, b6⟩
              have kr := Lib.hid (hvroot h6)
              have nm6 := Lib.hid (nm5.out.below b6)
              have hb6 := Lib.hid (hb5.out.trans (b6.mono hb5.out.size))
              replace h6 := Lib.hid h6
              clear ko b6 nm5 hb5
              go_wp2_with fail
              refine kr.out.mono ?_
              rintro e w7 ⟨rfl, n7, rfl⟩
              have h7 := h6.out.below (below_N w6 n7)
              have nm7 := nm6.out.below (below_N w6 n7)
              have hb7 := below_drewN hb6.out n7
              clear kr nm6 hb6 h6
              generalize w6.drewN n7 = w7 at h7 nm7 hb7 ⊢
              obtain ⟨g0, g1, g2, g3, g4⟩ := nm7.cells
              rcases hor.out with ⟨rfl, hsr⟩ | ⟨et, ne, hsr⟩
              · have tb : (nn.root.toList == nn.root.toList) = true := beq_self_eq_true _
                have hd : HoldAt w.heap.size w7 (3 + 4 * (j + 1)) 1 w7 a6 b g hh hn hs hl ⟨nn.root, nu, [], false⟩ nn.root nu (reviveD d') cu (fun i t => t = cu i) nn := ⟨⟨h7, lv.out, Coh.nil, (fun k s hk => by cases hk), rfl⟩, ⟨rfl, rfl⟩, nm7.eq (lostTo_one _).symm, Below.refl _ w7, hb7.size⟩
                have kh := Lib.hid (holds_any hd gg.out hsr)
                replace hb7 := Lib.hid hb7
                replace hsr := Lib.hid hsr
                clear hd h7 nm7 lv hor
                go_wp2_with fail
                refine kh.out.mono ?_
                rintro e w8 ⟨rfl, v8, hd8⟩
                have st8 := Lib.hid (hd8.kp rfl few rt.out hsr.out (hb7.out.trans hd8.hb) gg.out)
                clear kh hd8 hb7 hsr rt gg g0 g1 g2 g3 g4
                go_wp2_with fail
                exact ⟨⟨j + 1, a6, _, nu, v8, _, cu, hlt1, hlt2, rfl, rfl, st8.out⟩, by simp [intOf]; omega⟩
              · have tb : ¬ tt.toList = nn.root.toList := fun e => ne (bytes_inj e)
                have tb2 : (tt.toList == nn.root.toList) = false := beq_false_of_ne tb
                have kc := Lib.hid (counts_any nm7 tt)
                have etb := Lib.hid et
                subst et
                replace hb7 := Lib.hid hb7
                replace h7 := Lib.hid h7
                replace hsr := Lib.hid hsr
                clear nm7 hor
                go_wp2_with fail
                refine kc.out.mono ?_
                rintro e w8 ⟨rfl, nm8, k8⟩
                have hb8 := hb7.out.trans (k8.toBelow gg.out hb7.out.size)
                have h8 := h7.out.turn (k8.mono (fun i hi => Or.inr hi))
                have hd : HoldAt w.heap.size w8 (3 + 4 * (j + 1)) 1 w8 a6 b g hh hn hs hl ⟨_, nu, [], false⟩ _ nu (reviveD d') cu (fun i t => t = cu i) (countTo nn _ 8) := ⟨⟨h8, lv.out, Coh.nil, (fun k s hk => by cases hk), rfl⟩, ⟨rfl, rfl⟩, nm8.eq (lostTo_one _).symm, Below.refl _ w8, hb8.size⟩
                have kh := Lib.hid (holds_any hd gg.out hsr.out)
                replace hb8 := Lib.hid hb8
                clear hd h8 nm8 lv kc h7 hb7 k8 g0 g1 g2 g3 g4
                go_wp2_with fail
                refine kh.out.mono ?_
                rintro e w9 ⟨rfl, v8, hd8⟩
                have st8 := Lib.hid (hd8.kp rfl few rt.out hsr.out (hb8.out.trans hd8.hb) gg.out)
                clear kh hd8 hb8 hsr rt gg
                go_wp2_with fail
                exact ⟨⟨j + 1, a6, _, nu, v8, _, cu, hlt1, hlt2, rfl, rfl, st8.out⟩, by simp [intOf]; omega⟩
          · have z40 : decide (40 < (s.size : Int)) = true := decide_eq_true (by omega)
            go_wp2_with fail
            exact ⟨⟨j + 1, a, n0, num, v, d, cur, hlt1, hlt2, rfl, rfl, stn.out⟩, by simp [intOf]; omega⟩
        · have hx1 : (x == 2) = false := beq_false_of_ne e0
          clear e0
          by_cases e0 : x = 3
          · have hx2 : (x == 3) = true := by simpa using e0
            clear e0
            have kw := Lib.hid (hvarm h1.out y hy.2 t)
            go_wp2_with fail
            refine kw.out.mono ?_
            rintro e w3 ⟨rfl, h3, k3⟩
            have nm3 := nm1.out.hold k3
            have hb3 := hb1.out.trans (KeepX.low k3 hb1.out.size)
            have h3' := (h3.sub (xp_sub (P := P))).more (show 3 + 4 * j ≤ 3 + 4 * (j + 1) by omega)
            clear p0 p1 p2 p3 p4 q0 q1 q2 q3 q4 kw h3 k3
            have st6 := Lib.hid (stn.out.disk (stn.out.h.lv.arm y t) h3' nm3 hb3)
            clear h3' nm3 hb3
            have kd := hvdead st6.out.h.h
            rw [st6.out.h.lv.dead] at kd
            replace kd := Lib.hid kd
            go_wp2_with fail
            refine kd.out.mono ?_
            rintro e w7 ⟨rfl, hw'⟩
            replace hw' := hw'.symm
            subst hw'
            clear kd
            go_wp2_with fail
            exact ⟨⟨j + 1, a, _, _, _, _, _, hlt1, hlt2, rfl, rfl, st6.out⟩, by simp [intOf]; omega⟩
          · have hx2 : (x == 3) = false := beq_false_of_ne e0
            clear e0
            by_cases e0 : x = 4
            · have hx3 : (x == 4) = true := by simpa using e0
              clear e0
              have kw := Lib.hid (hvcrash h1.out t)
              have gn := Lib.hid (stn.out.h.lv.crash h1.out.fn.fit t).2
              go_wp2_with fail
              refine kw.out.mono ?_
              rintro e w3 ⟨rfl, h3, k3⟩
              have nm3 := nm1.out.hold k3
              have hb3 := hb1.out.trans (KeepX.low k3 hb1.out.size)
              have h3' := (h3.sub (xp_sub (P := P))).more (show 3 + 4 * j ≤ 3 + 4 * (j + 1) by omega)
              clear p0 p1 p2 p3 p4 q0 q1 q2 q3 q4 kw h3 k3
              have md : ∃ nn v' d', MdAt w j w3 a b g hh hn hs hl nn n0.root v' d' := ⟨n0, _, _, h3', nm3, hb3, stn.out.gg, gn.out.dead, lost_same gn.out stn.out.rt stn.out.few stn.out.sr n0.root⟩
              clear h3' nm3 hb3 gn
              obtain ⟨nn, v', d', md⟩ := md
              have kd := hvdead md.h
              rw [md.dead] at kd
              have kv := Lib.hid (hvrevive md.h)
              replace md := Lib.hid md
              replace kd := Lib.hid kd
              go_wp2_with fail
              refine kd.out.mono ?_
              rintro e w4 ⟨rfl, hw'⟩
              replace hw' := hw'.symm
              subst hw'
              go_wp2_with fail
              refine kv.out.mono ?_
              rintro e w5 ⟨rfl, h5, k5⟩
              have nm5 := md.out.nm.keeps k5 (fun i hi hx => hx (Or.inr hi))
              have hb5 := md.out.hb.trans (k5.toBelow (fun i hi => Or.inl hi) md.out.hb.size)
              obtain ⟨Q, hG, hall⟩ := md.out.lost
              obtain ⟨cu, hq, lv⟩ := hG.revive
              obtain ⟨tt, nu, few, rt, hor⟩ := hall cu hq
              have ko := Lib.hid (hvopen h5 (lv_openV lv (by decide) rt.n1 (by omega) rt.size rt.r rt.o))
              have gg := Lib.hid md.out.gg
              replace lv := Lib.hid lv
              replace nm5 := Lib.hid nm5
              replace hb5 := Lib.hid hb5
              replace rt := Lib.hid rt
              replace hor := Lib.hid hor
              clear hG hall hq md kd kv h5 k5
              go_wp2_with fail
              refine ko.out.mono ?_
              rintro e w6 ⟨a6, rfl, h6, b6⟩
              have kr := Lib.hid (hvroot h6)
              have nm6 := Lib.hid (nm5.out.below b6)
              have hb6 := Lib.hid (hb5.out.trans (b6.mono hb5.out.size))
              replace h6 := Lib.hid h6
              clear ko b6 nm5 hb5
              go_wp2_with fail
              refine kr.out.mono ?_
              rintro e w7 ⟨rfl, n7, rfl⟩
              have h7 := h6.out.below (below_N w6 n7)
              have nm7 := nm6.out.below (below_N w6 n7)
              have hb7 := below_drewN hb6.out n7
              clear kr nm6 hb6 h6
              generalize w6.drewN n7 = w7 at h7 nm7 hb7 ⊢
              obtain ⟨g0, g1, g2, g3, g4⟩ := nm7.cells
              rcases hor.out with ⟨rfl, hsr⟩ | ⟨et, ne, hsr⟩
              · have tb : (nn.root.toList == nn.root.toList) = true := beq_self_eq_true _
                have hd : HoldAt w.heap.size w7 (3 + 4 * (j + 1)) 1 w7 a6 b g hh hn hs hl ⟨nn.root, nu, [], false⟩ nn.root nu (reviveD d') cu (fun i t => t = cu i) nn := ⟨⟨h7, lv.out, Coh.nil, (fun k s hk => by cases hk), rfl⟩, ⟨rfl, rfl⟩, nm7.eq (lostTo_one _).symm, Below.refl _ w7, hb7.size⟩
                have kh := Lib.hid (holds_any hd gg.out hsr)
                replace hb7 := Lib.hid hb7
                replace hsr := Lib.hid hsr
                clear hd h7 nm7 lv hor
                go_wp2_with fail
                refine kh.out.mono ?_
                rintro e w8 ⟨rfl, v8, hd8⟩
                have st8 := Lib.hid (hd8.kp rfl few rt.out hsr.out (hb7.out.trans hd8.hb) gg.out)
                clear kh hd8 hb7 hsr rt gg g0 g1 g2 g3 g4
                go_wp2_with fail
                exact ⟨⟨j + 1, a6, _, nu, v8, _, cu, hlt1, hlt2, rfl, rfl, st8.out⟩, by simp [intOf]; omega⟩
              · have tb : ¬ tt.toList = nn.root.toList := fun e => ne (bytes_inj e)
                have tb2 : (tt.toList == nn.root.toList) = false := beq_false_of_ne tb
                have kc := Lib.hid (counts_any nm7 tt)
                have etb := Lib.hid et
                subst et
                replace hb7 := Lib.hid hb7
                replace h7 := Lib.hid h7
                replace hsr := Lib.hid hsr
                clear nm7 hor
                go_wp2_with fail
                refine kc.out.mono ?_
                rintro e w8 ⟨rfl, nm8, k8⟩
                have hb8 := hb7.out.trans (k8.toBelow gg.out hb7.out.size)
                have h8 := h7.out.turn (k8.mono (fun i hi => Or.inr hi))
                have hd : HoldAt w.heap.size w8 (3 + 4 * (j + 1)) 1 w8 a6 b g hh hn hs hl ⟨_, nu, [], false⟩ _ nu (reviveD d') cu (fun i t => t = cu i) (countTo nn _ 8) := ⟨⟨h8, lv.out, Coh.nil, (fun k s hk => by cases hk), rfl⟩, ⟨rfl, rfl⟩, nm8.eq (lostTo_one _).symm, Below.refl _ w8, hb8.size⟩
                have kh := Lib.hid (holds_any hd gg.out hsr.out)
                replace hb8 := Lib.hid hb8
                clear hd h8 nm8 lv kc h7 hb7 k8 g0 g1 g2 g3 g4
                go_wp2_with fail
                refine kh.out.mono ?_
                rintro e w9 ⟨rfl, v8, hd8⟩
                have st8 := Lib.hid (hd8.kp rfl few rt.out hsr.out (hb8.out.trans hd8.hb) gg.out)
                clear kh hd8 hb8 hsr rt gg
                go_wp2_with fail
                exact ⟨⟨j + 1, a6, _, nu, v8, _, cu, hlt1, hlt2, rfl, rfl, st8.out⟩, by simp [intOf]; omega⟩
            · have hx3 : (x == 4) = false := beq_false_of_ne e0
              clear e0
              have st6 := stn
              have kd := hvdead st6.out.h.h
              rw [st6.out.h.lv.dead] at kd
              replace kd := Lib.hid kd
              go_wp2_with fail
              refine kd.out.mono ?_
              rintro e w7 ⟨rfl, hw'⟩
              replace hw' := hw'.symm
              subst hw'
              clear kd
              go_wp2_with fail
              exact ⟨⟨j + 1, a, _, _, _, _, _, hlt1, hlt2, rfl, rfl, st6.out⟩, by simp [intOf]; omega⟩
    · have hbs := Lib.hid st.hb
      clear st
      by_cases hjn2 : j < n
      · have q1 : (j : Int) < (n : Int) := by omega
        obtain rfl : j = 200 := by omega
        clear hgo
        go_wp2_with fail
        refine (kf.out _).mono ?_
        rintro e w6 ⟨rfl, b6⟩
        have hb6 := Lib.hid (hbs.out.trans (b6.mono hbs.out.size))
        clear b6 hbs
        go_wp2_with fail
        go_ret
        exact ⟨rfl, hb6.out⟩
      · obtain rfl : j = n := by omega
        clear hgo
        go_wp2_with fail
        refine (kf.out _).mono ?_
        rintro e w6 ⟨rfl, b6⟩
        have hb6 := Lib.hid (hbs.out.trans (b6.mono hbs.out.size))
        clear b6 hbs
        go_wp2_with fail
        go_ret
        exact ⟨rfl, hb6.out⟩
end Go.Proofs.Ytkghlbpkdkonbaa.Vl

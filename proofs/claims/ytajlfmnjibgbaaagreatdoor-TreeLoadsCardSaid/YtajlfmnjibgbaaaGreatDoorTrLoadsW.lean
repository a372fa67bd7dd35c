/- The walk of the law TreeLoads. -/
import Derived.Test.YtajlfmnjibgbaaaGreatDoorTrTwo
import Derived.Test.YtajlfmnjibgbaaaGreatDoorTrFixed
namespace Go.Proofs.YtajlfmnjibgbaaaGreatDoor.Tr
open Go Go.RowKit Go.Maps Mem Disk Nv Vl
set_option maxRecDepth 100000 in
theorem getMap_str {l : List ByteArray} {k : Nat} {u : Value} (h : (l.map Value.string)[k]? = some u) : ∃ x, l[k]? = some x ∧ u = .string x := by
  rw [List.getElem?_map] at h
  cases hx : l[k]? with
  | none => rw [hx] at h; cases h
  | some x => rw [hx] at h; injection h with h; exact ⟨x, rfl, h.symm⟩
set_option maxRecDepth 100000 in
theorem own_len {w : World} {base n c sz : Nat} {e : TypeId} {A : Option Addr} {xs : List Value} (h : w.ownsRow base e sz (.slice A n c) n xs) : n ≤ 9223372036854775807 := by
  rcases h.2 with ⟨_, h⟩ | ⟨g, cap, cur, hv, _, _, hn, hm, _⟩
  · omega
  · unfold maxLen at hm
    omega
set_option maxRecDepth 100000 in
set_option maxHeartbeats 16000000 in
theorem treeloads_any (A : Option Addr) (n c : Nat) (l : List ByteArray) (root size : Int) (w : World) (hr : Row w A n (l.map Value.string)) (hsz : ∀ s ∈ l, s.size ≤ 9223372036854775807) :
    Calls Tryz.prog 6 #[.slice A n c, .agg #[.int .i64 root, .int .i64 size]] w fun e w' => e = .returned (.bool true) ∧ Below w.heap.size w w' := by
  have kf := Lib.hid (fun W => treefix_any W)
  obtain ⟨V, P, hV, hP, hBV, b0⟩ := boxed w root size
  have hPV : P < V.heap.size := hBV.lt
  have k0 : Calls Tryz.prog 10 #[.int .i64 40] V _ := laid_both 40 (by decide) V
  replace k0 := Lib.hid k0
  replace b0 := Lib.hid b0
  replace hBV := Lib.hid hBV
  replace hr := Lib.hid hr
  go_enter Tryz.func6, Tryz.ntmps6
  go_upto_region 1 with fail
  rw [← hV, ← hP]
  replace hV := Lib.hid hV
  replace hP := Lib.hid hP
  go_wp2_with fail
  refine k0.out.mono ?_
  rintro e w1 ⟨a, b, k, d, rfl, h, hb⟩
  have hB1 := bv_laid (by decide) h hb
  have hBP1 := Lib.hid (hBV.out.below hb hBV.out.lt)
  have hb1 := Lib.hid (b0.out.trans (hb.mono b0.out.size))
  have hVs := Lib.hid b0.out.size
  have hPX : Hid (P < V.heap.size) := Lib.hid hPV
  have hr1 := Lib.hid (hr.out.below hb1.out)
  replace hB1 := Lib.hid hB1
  clear k0 h hb hBV hPV
  go_wp2_with fail
  go_loopw [7] (fun iv wr => ∃ (i : Nat) (f : Rd), i ≤ 39 ∧ iv = .int .i64 (i : Int) ∧ BV (fun i => i < V.heap.size) (4 * 40) (3 + 4 * i) wr a k f ∧ KeepX (fun i => i < V.heap.size) w1 wr) (fun iv _ => 40 - (intOf iv).toNat)
  case atStart => exact ⟨0, _, Nat.zero_le _, rfl, hB1.out, Keeps.refl _ _⟩
  case round =>
    clear hB1
    obtain ⟨i, f, hi, rfl, hB, hk⟩ := hrel
    by_cases hin : i < n
    · have z1 : (i : Int) < (n : Int) := by omega
      by_cases hi39 : i < 39
      · as_aux_lemma =>
          have z2 : (i : Int) < 39 := by omega
          have z0 : (0 : Int) ≤ (i : Int) := by omega
          obtain ⟨ad, u, rfl, hu, hc⟩ := hr1.out.at_ hin
          obtain ⟨p, hp1, rfl⟩ := getMap_str hu
          have hps := hsz p (List.mem_of_getElem? hp1)
          have hadb : (ad.add i).block < V.heap.size := by
            obtain ⟨ad2, u2, e2, _, hcw⟩ := hr.out.at_ hin
            obtain rfl : ad = ad2 := by injection e2
            exact Nat.lt_of_lt_of_le (World.block_lt_of_cell? w _ hcw) hVs.out
          have hadw : (ad.add i).block < w1.heap.size := World.block_lt_of_cell? w1 _ hc
          have hcr : wr.cell? (ad.add i) = some (.string p) := (hk.cell hadw (fun hn => hn hadb)).trans hc
          obtain ⟨er, her⟩ : ∃ er, er = errP p := ⟨_, rfl⟩
          obtain ⟨x, hx⟩ : ∃ x, x = i + 1 := ⟨_, rfl⟩
          have e1 : (i : Int) + 1 = (x : Int) := by omega
          have hx1 : 1 ≤ x := by omega
          have hx2 : x < 4 * 40 / 4 := by omega
          have hm3 : 3 + 4 * i ≤ 900000 := by omega
          replace hx := Lib.hid hx
          have e1w : IntKind.i64.wrap (x : Int) = (x : Int) := IntWalk.i64_in _ (by omega)
          obtain ⟨G, v1, d1, g1⟩ := hB
          have v2 := v1.below (Below.refl _ wr).drew
          have d2 := d1.below (Below.refl _ wr).drew
          have k2 := hk.same (Keeps.of_below (fun i => ¬ i < V.heap.size) (Below.refl _ wr).drew)
          have hc2 : wr.drew.cell? (ad.add i) = some (.string p) := hcr
          clear v1 d1 hk hu hc hcr hp1
          go_upto_region 7 with fail
          refine Late.start (S := fun W' => W'.cell? (ad.add i) = some (.string p)) (T := fun _ => True) (late := []) (by kernel_rfl) ?_
          have hT : True := trivial
          generalize wr.drew = V0 at v2 d2 k2 hc2 ⊢
          have hS := hc2
          have kw := isv_writeP v2 hm3 (n := x) hx1 hx2 hps
          rw [← her] at kw
          replace kw := Lib.hid kw
          replace d2 := Lib.hid d2
          replace k2 := Lib.hid k2
          clear v2
          refine Late.take (i := 0) (oi := ?_) (v := ?_) ?_ (by kernel_rfl) (by kernel_rfl) (by kernel_rfl) (by kernel_rfl) ?_ ?_ (by assumption) (by assumption) ?_
          rotate_left 2
          focus (simp only [List.getElem?_toArray, List.getElem?_cons_zero]; rfl)
          focus exact fun _ _ _ h => h
          focus (refine Or.inl ⟨by kernel_rfl, ?_⟩; intro w hSw; clear hSw; go_simp; try with_reducible rfl)
          try simp only [Act.put, List.setIfInBounds_toArray, List.set_cons_zero, List.set_cons_succ]
          refine Late.take (i := 1) (oi := ?_) (v := ?_) ?_ (by kernel_rfl) (by kernel_rfl) (by kernel_rfl) (by kernel_rfl) ?_ ?_ (by assumption) (by assumption) ?_
          rotate_left 2
          focus (simp only [List.getElem?_toArray, List.getElem?_cons_succ, List.getElem?_cons_zero]; rfl)
          focus exact fun _ _ _ h => h
          focus (refine Or.inl ⟨by kernel_rfl, ?_⟩; intro w hSw; clear hSw; go_simp; try with_reducible rfl)
          try simp only [Act.put, List.setIfInBounds_toArray, List.set_cons_zero, List.set_cons_succ]
          refine Late.take (i := 2) (oi := ?_) (v := ?_) ?_ (by kernel_rfl) (by kernel_rfl) (by kernel_rfl) (by kernel_rfl) ?_ ?_ (by assumption) (by assumption) ?_
          rotate_left 2
          focus (simp only [List.getElem?_toArray, List.getElem?_cons_succ, List.getElem?_cons_zero]; rfl)
          focus exact fun _ _ _ h => h
          focus (refine Or.inl ⟨by kernel_rfl, ?_⟩; intro w hSw; clear hSw; go_simp; try with_reducible rfl)
          try simp only [Act.put, List.setIfInBounds_toArray, List.set_cons_zero, List.set_cons_succ]
          refine Late.take (i := 3) (oi := ?_) (v := ?_) ?_ (by kernel_rfl) (by kernel_rfl) (by kernel_rfl) (by kernel_rfl) ?_ ?_ (by assumption) (by assumption) ?_
          rotate_left 2
          focus (simp only [List.getElem?_toArray, List.getElem?_cons_succ, List.getElem?_cons_zero]; rfl)
          focus exact fun _ _ _ h => h
          focus (refine Or.inl ⟨by kernel_rfl, ?_⟩; intro w hSw; clear hSw; go_simp; try with_reducible rfl)
          try simp only [Act.put, List.setIfInBounds_toArray, List.set_cons_zero, List.set_cons_succ]
          refine Late.take (i := 4) (oi := ?_) (v := ?_) ?_ (by kernel_rfl) (by kernel_rfl) (by kernel_rfl) (by kernel_rfl) ?_ ?_ (by assumption) (by assumption) ?_
          rotate_left 2
          focus (simp only [List.getElem?_toArray, List.getElem?_cons_succ, List.getElem?_cons_zero]; rfl)
          focus exact fun _ _ _ h => h
          focus (refine Or.inl ⟨by kernel_rfl, ?_⟩; intro w hSw; clear hSw; go_simp; try with_reducible rfl)
          try simp only [Act.put, List.setIfInBounds_toArray, List.set_cons_zero, List.set_cons_succ]
          refine Late.take (i := 5) (oi := ?_) (v := ?_) ?_ (by kernel_rfl) (by kernel_rfl) (by kernel_rfl) (by kernel_rfl) ?_ ?_ (by assumption) (by assumption) ?_
          rotate_left 2
          focus (simp only [List.getElem?_toArray, List.getElem?_cons_succ, List.getElem?_cons_zero]; rfl)
          focus exact fun _ _ _ h => h
          focus (refine Or.inl ⟨by kernel_rfl, ?_⟩; intro w hSw; clear hSw; go_simp; try with_reducible rfl)
          try simp only [Act.put, List.setIfInBounds_toArray, List.set_cons_zero, List.set_cons_succ]
          refine Late.take (i := 6) (oi := ?_) (v := ?_) ?_ (by kernel_rfl) (by kernel_rfl) (by kernel_rfl) (by kernel_rfl) ?_ ?_ (by assumption) (by assumption) ?_
          rotate_left 2
          focus (simp only [List.getElem?_toArray, List.getElem?_cons_succ, List.getElem?_cons_zero]; rfl)
          focus exact fun _ _ _ h => h
          focus (refine Or.inl ⟨by rfl, ?_⟩; intro w hSw; (try dsimp only at hSw); go_split_ands; go_simp; try with_reducible rfl)
          try simp only [Act.put, List.setIfInBounds_toArray, List.set_cons_zero, List.set_cons_succ]
          refine Late.take (i := 8) (oi := ?_) (v := ?_) ?_ (by kernel_rfl) (by kernel_rfl) (by kernel_rfl) (by kernel_rfl) ?_ ?_ (by assumption) (by assumption) ?_
          rotate_left 2
          focus (simp only [List.getElem?_toArray, List.getElem?_cons_succ, List.getElem?_cons_zero]; rfl)
          focus exact fun _ _ _ h => h
          focus (refine Or.inl ⟨by kernel_rfl, ?_⟩; intro w hSw; clear hSw; go_simp; try with_reducible rfl)
          try simp only [Act.put, List.setIfInBounds_toArray, List.set_cons_zero, List.set_cons_succ]
          refine Late.take (i := 9) (oi := ?_) (v := ?_) ?_ (by kernel_rfl) (by kernel_rfl) (by kernel_rfl) (by kernel_rfl) ?_ ?_ (by assumption) (by assumption) ?_
          rotate_left 2
          focus (simp only [List.getElem?_toArray, List.getElem?_cons_succ, List.getElem?_cons_zero]; rfl)
          focus exact fun _ _ _ h => h
          focus (refine Or.inl ⟨by kernel_rfl, ?_⟩; intro w hSw; clear hSw; go_simp; try with_reducible rfl)
          try simp only [Act.put, List.setIfInBounds_toArray, List.set_cons_zero, List.set_cons_succ]
          refine Late.take (i := 10) (oi := ?_) (v := ?_) ?_ (by kernel_rfl) (by kernel_rfl) (by kernel_rfl) (by kernel_rfl) ?_ ?_ (by assumption) (by assumption) ?_
          rotate_left 2
          focus (simp only [List.getElem?_toArray, List.getElem?_cons_succ, List.getElem?_cons_zero]; rfl)
          focus exact fun _ _ _ h => h
          focus (refine Or.inl ⟨by kernel_rfl, ?_⟩; intro w hSw; clear hSw; go_simp; try with_reducible rfl)
          try simp only [Act.put, List.setIfInBounds_toArray, List.set_cons_zero, List.set_cons_succ]
          refine Late.take (i := 11) (oi := ?_) (v := ?_) ?_ (by kernel_rfl) (by kernel_rfl) (by kernel_rfl) (by kernel_rfl) ?_ ?_ (by assumption) (by assumption) ?_
          rotate_left 2
          focus (simp only [List.getElem?_toArray, List.getElem?_cons_succ, List.getElem?_cons_zero]; rfl)
          focus exact fun _ _ _ h => h
          focus (refine Or.inl ⟨by kernel_rfl, ?_⟩; intro w hSw; clear hSw; go_simp; try with_reducible rfl)
          try simp only [Act.put, List.setIfInBounds_toArray, List.set_cons_zero, List.set_cons_succ]
          refine Late.take (i := 12) (oi := ?_) (v := ?_) ?_ (by kernel_rfl) (by kernel_rfl) (by kernel_rfl) (by kernel_rfl) ?_ ?_ (by assumption) (by assumption) ?_
          rotate_left 2
          focus (simp only [List.getElem?_toArray, List.getElem?_cons_succ, List.getElem?_cons_zero]; rfl)
          focus exact fun _ _ _ h => h
          focus (refine Or.inl ⟨by kernel_rfl, ?_⟩; intro w hSw; clear hSw; go_simp; try with_reducible rfl)
          try simp only [Act.put, List.setIfInBounds_toArray, List.set_cons_zero, List.set_cons_succ]
          refine Late.take (i := 13) (oi := ?_) (v := ?_) ?_ (by kernel_rfl) (by kernel_rfl) (by kernel_rfl) (by kernel_rfl) ?_ ?_ (by assumption) (by assumption) ?_
          rotate_left 2
          focus (simp only [List.getElem?_toArray, List.getElem?_cons_succ, List.getElem?_cons_zero]; rfl)
          focus exact fun _ _ _ h => h
          focus (refine Or.inl ⟨by kernel_rfl, ?_⟩; intro w hSw; clear hSw; go_simp; try with_reducible rfl)
          try simp only [Act.put, List.setIfInBounds_toArray, List.set_cons_zero, List.set_cons_succ]
          refine Late.take (i := 14) (oi := ?_) (v := ?_) ?_ (by kernel_rfl) (by kernel_rfl) (by kernel_rfl) (by kernel_rfl) ?_ ?_ (by assumption) (by assumption) ?_
          rotate_left 2
          focus (simp only [List.getElem?_toArray, List.getElem?_cons_succ, List.getElem?_cons_zero]; rfl)
          focus exact fun _ _ _ h => h
          focus (refine Or.inl ⟨by rfl, ?_⟩; intro w hSw; (try dsimp only at hSw); go_split_ands; go_simp; try with_reducible rfl)
          try simp only [Act.put, List.setIfInBounds_toArray, List.set_cons_zero, List.set_cons_succ]
          refine Late.only (i := 7) (o := ?_) (by kernel_rfl) ?_ (fun K hK => ?_)
          rotate_left 1
          focus (simp only [List.getElem?_toArray, List.getElem?_cons_succ, List.getElem?_cons_zero]; rfl)
          rw [if_pos (by kernel_rfl)]
          go_simp
          refine kw.out.mono ?_
          rintro e w3 ⟨rfl, v3, q3⟩
          obtain ⟨d3, k3⟩ := BV.p d2.out q3
          have hc3 : w3.cell? (ad.add i) = some (.string p) := (k3.cell (World.block_lt_of_cell? V0 _ hc2) (fun hn => hn hadb)).trans hc2
          have kw2 := isd_writeP d3 hm3 (n := x) hx1 hx2 hps
          rw [← her] at kw2
          have k4 := Lib.hid (k2.out.same k3)
          replace kw2 := Lib.hid kw2
          replace v3 := Lib.hid v3
          clear kw d2 d3 k3 q3 k2
          refine hK.out _ _ hc3 (fun _ => trivial) ?_
          clear hK K
          try simp only [Act.put, List.setIfInBounds_toArray, List.set_cons_zero, List.set_cons_succ]
          have hS := hc3
          refine Late.only (i := 15) (o := ?_) (by kernel_rfl) ?_ (fun K hK => ?_)
          rotate_left 1
          focus (simp only [List.getElem?_toArray, List.getElem?_cons_succ, List.getElem?_cons_zero]; rfl)
          rw [if_pos (by kernel_rfl)]
          go_simp
          refine kw2.out.mono ?_
          rintro e w4 ⟨rfl, G', d4, q4, g4⟩
          obtain ⟨v4, g5, k5⟩ := BV.d v3.out d4 g1 q4 g4
          have hc4 : w4.cell? (ad.add i) = some (.string p) := (k5.cell (World.block_lt_of_cell? w3 _ hc3) (fun hn => hn hadb)).trans hc3
          have fin := Lib.hid (show BV (fun i => i < V.heap.size) (4 * 40) (3 + 4 * i + 4) w4 a k (updP f x p) ∧ KeepX (fun i => i < V.heap.size) w1 w4 from ⟨⟨G', v4, d4, g5⟩, k4.out.same k5⟩)
          clear kw2 v3 d4 q4 g4 v4 g5 k5 k4
          refine hK.out _ _ hc4 (fun _ => trivial) ?_
          clear hK K
          try simp only [Act.put, List.setIfInBounds_toArray, List.set_cons_zero, List.set_cons_succ]
          have hS := hc4
          have hee : (er != er) = false := by simp
          refine Late.take (i := 16) (oi := ?_) (v := ?_) ?_ (by kernel_rfl) (by kernel_rfl) (by kernel_rfl) (by kernel_rfl) ?_ ?_ (by assumption) (by assumption) ?_
          rotate_left 2
          focus (simp only [List.getElem?_toArray, List.getElem?_cons_succ, List.getElem?_cons_zero]; rfl)
          focus exact fun _ _ _ h => h
          focus (refine Or.inl ⟨by kernel_rfl, ?_⟩; intro w hSw; clear hSw; go_simp; try with_reducible rfl)
          try simp only [Act.put, List.setIfInBounds_toArray, List.set_cons_zero, List.set_cons_succ]
          refine Late.done (by kernel_rfl) ?_ _
          clear hS hc2 hc3 hc4 e1 e1w
          go_wp2_with fail
          refine ⟨⟨i + 1, updP f x p, by omega, rfl, ?_, fin.out.2⟩, by simp [intOf]; omega⟩
          rw [show 3 + 4 * (i + 1) = 3 + 4 * i + 4 by omega]
          exact fin.out.1
      · as_aux_lemma =>
          have z2 : decide ((i : Int) < 39) = false := decide_eq_false (by omega)
          have kp1 := bv_pload hB root size
          obtain ⟨LS, hLS⟩ : ∃ LS, LS = loadV f root size := ⟨_, rfl⟩
          obtain ⟨RS, hRS⟩ : ∃ RS, RS = reachV f root size := ⟨_, rfl⟩
          rw [← hLS] at kp1
          have hBP := hBP1.out.keeps hk (fun hn => hn hPX.out)
          have c0 := hBP.cell 0
          have c1 := hBP.cell 1
          unfold srcV at kp1
          replace kp1 := Lib.hid kp1
          replace hk := Lib.hid hk
          replace hBP := Lib.hid hBP
          replace hLS := Lib.hid hLS
          replace hRS := Lib.hid hRS
          clear hB
          go_wp2_with fail
          refine kp1.out.mono ?_
          rintro e w3 ⟨rfl, b3, k3⟩
          have p3 := hBP.out.keeps k3 (fun hn => hn hPX.out)
          have kp2 := bv_rload b3 (by omega) root size
          rw [← hLS.out] at kp2
          have kk3 := Lib.hid (hk.out.same k3)
          clear kp1 c0 c1 b3 k3 hBP hk
          have c0 := p3.cell 0
          have c1 := p3.cell 1
          replace kp2 := Lib.hid kp2
          replace p3 := Lib.hid p3
          go_wp2_with fail
          refine kp2.out.mono ?_
          rintro e w4 ⟨rfl, b4, k4⟩
          have p4 := p3.out.keeps k4 (fun hn => hn hPX.out)
          have kp3 := bv_preach b4 root size
          rw [← hRS.out] at kp3
          have kk4 := Lib.hid (kk3.out.same k4)
          unfold srcV at kp3
          clear kp2 c0 c1 b4 k4 p3 kk3
          have c0 := p4.cell 0
          have c1 := p4.cell 1
          replace kp3 := Lib.hid kp3
          replace p4 := Lib.hid p4
          go_wp2_with fail
          refine kp3.out.mono ?_
          rintro e w5 ⟨v5, rfl, b5, o5, k5⟩
          obtain ⟨A5, e5, rfl⟩ := own_slice o5
          have p5 := p4.out.keeps k5 (fun hn => hn hPX.out)
          have kp4 := bv_rreach b5 (by omega) root size
          rw [← hRS.out] at kp4
          have kk5 := Lib.hid (kk4.out.same k5)
          clear kp3 c0 c1 b5 k5 p4 kk4
          have c0 := p5.cell 0
          have c1 := p5.cell 1
          replace kp4 := Lib.hid kp4
          replace o5 := Lib.hid o5
          go_wp2_with fail
          refine kp4.out.mono ?_
          rintro e w6 ⟨v6, rfl, o6, k6⟩
          obtain ⟨A6, e6, rfl⟩ := own_slice o6
          have q6 := own_keeps o5.out k6 (fun j hj hn => hn (Or.inr hj))
          have kk6 := kk5.out.same (k6.mono fun i hn hx => hn (Or.inl hx))
          have bw6 := Lib.hid (hb1.out.trans (Disk.KeepX.toBelow kk6 (fun i hi => Nat.lt_of_lt_of_le hi hVs.out) hb1.out.size))
          replace o6 := Lib.hid o6
          replace q6 := Lib.hid q6
          clear kp4 c0 c1 k6 kk5 p5 o5 kk6
          go_wp2_with fail
          refine (kf.out _).mono ?_
          rintro e w7 ⟨rfl, b7⟩
          have rx := Row.of_own (own_keeps q6.out (Keeps.of_below (fun _ => False) b7) (fun _ _ h => h))
          have ry := Row.of_own (own_keeps o6.out (Keeps.of_below (fun _ => False) b7) (fun _ _ h => h))
          have bw7 := Lib.hid (bw6.out.trans (b7.mono bw6.out.size))
          have hlen : RS.1.length ≤ 9223372036854775807 := own_len q6.out
          have ksm := Lib.hid (Sets.same_any A5 A6 RS.1.length RS.1.length e5 e6 RS.1 RS.1 w7 rx ry hlen)
          clear rx ry b7 bw6 q6 o6 hlen
          go_wp2_with fail
          refine ksm.out.mono ?_
          rintro e w' ⟨rfl, q, rfl⟩
          have fin := Lib.hid (below_drewN bw7.out q)
          clear ksm bw7
          go_wp2_with fail
          go_ret
          exact ⟨rfl, fin.out⟩
    · as_aux_lemma =>
        have z1 : decide ((i : Int) < (n : Int)) = false := decide_eq_false (by omega)
        have kp1 := bv_pload hB root size
        obtain ⟨LS, hLS⟩ : ∃ LS, LS = loadV f root size := ⟨_, rfl⟩
        obtain ⟨RS, hRS⟩ : ∃ RS, RS = reachV f root size := ⟨_, rfl⟩
        rw [← hLS] at kp1
        have hBP := hBP1.out.keeps hk (fun hn => hn hPX.out)
        have c0 := hBP.cell 0
        have c1 := hBP.cell 1
        unfold srcV at kp1
        replace kp1 := Lib.hid kp1
        replace hk := Lib.hid hk
        replace hBP := Lib.hid hBP
        replace hLS := Lib.hid hLS
        replace hRS := Lib.hid hRS
        clear hB
        go_wp2_with fail
        refine kp1.out.mono ?_
        rintro e w3 ⟨rfl, b3, k3⟩
        have p3 := hBP.out.keeps k3 (fun hn => hn hPX.out)
        have kp2 := bv_rload b3 (by omega) root size
        rw [← hLS.out] at kp2
        have kk3 := Lib.hid (hk.out.same k3)
        clear kp1 c0 c1 b3 k3 hBP hk
        have c0 := p3.cell 0
        have c1 := p3.cell 1
        replace kp2 := Lib.hid kp2
        replace p3 := Lib.hid p3
        go_wp2_with fail
        refine kp2.out.mono ?_
        rintro e w4 ⟨rfl, b4, k4⟩
        have p4 := p3.out.keeps k4 (fun hn => hn hPX.out)
        have kp3 := bv_preach b4 root size
        rw [← hRS.out] at kp3
        have kk4 := Lib.hid (kk3.out.same k4)
        unfold srcV at kp3
        clear kp2 c0 c1 b4 k4 p3 kk3
        have c0 := p4.cell 0
        have c1 := p4.cell 1
        replace kp3 := Lib.hid kp3
        replace p4 := Lib.hid p4
        go_wp2_with fail
        refine kp3.out.mono ?_
        rintro e w5 ⟨v5, rfl, b5, o5, k5⟩
        obtain ⟨A5, e5, rfl⟩ := own_slice o5
        have p5 := p4.out.keeps k5 (fun hn => hn hPX.out)
        have kp4 := bv_rreach b5 (by omega) root size
        rw [← hRS.out] at kp4
        have kk5 := Lib.hid (kk4.out.same k5)
        clear kp3 c0 c1 b5 k5 p4 kk4
        have c0 := p5.cell 0
        have c1 := p5.cell 1
        replace kp4 := Lib.hid kp4
        replace o5 := Lib.hid o5
        go_wp2_with fail
        refine kp4.out.mono ?_
        rintro e w6 ⟨v6, rfl, o6, k6⟩
        obtain ⟨A6, e6, rfl⟩ := own_slice o6
        have q6 := own_keeps o5.out k6 (fun j hj hn => hn (Or.inr hj))
        have kk6 := kk5.out.same (k6.mono fun i hn hx => hn (Or.inl hx))
        have bw6 := Lib.hid (hb1.out.trans (Disk.KeepX.toBelow kk6 (fun i hi => Nat.lt_of_lt_of_le hi hVs.out) hb1.out.size))
        replace o6 := Lib.hid o6
        replace q6 := Lib.hid q6
        clear kp4 c0 c1 k6 kk5 p5 o5 kk6
        go_wp2_with fail
        refine (kf.out _).mono ?_
        rintro e w7 ⟨rfl, b7⟩
        have rx := Row.of_own (own_keeps q6.out (Keeps.of_below (fun _ => False) b7) (fun _ _ h => h))
        have ry := Row.of_own (own_keeps o6.out (Keeps.of_below (fun _ => False) b7) (fun _ _ h => h))
        have bw7 := Lib.hid (bw6.out.trans (b7.mono bw6.out.size))
        have hlen : RS.1.length ≤ 9223372036854775807 := own_len q6.out
        have ksm := Lib.hid (Sets.same_any A5 A6 RS.1.length RS.1.length e5 e6 RS.1 RS.1 w7 rx ry hlen)
        clear rx ry b7 bw6 q6 o6 hlen
        go_wp2_with fail
        refine ksm.out.mono ?_
        rintro e w' ⟨rfl, q, rfl⟩
        have fin := Lib.hid (below_drewN bw7.out q)
        clear ksm bw7
        go_wp2_with fail
        go_ret
        exact ⟨rfl, fin.out⟩
end Go.Proofs.YtajlfmnjibgbaaaGreatDoor.Tr

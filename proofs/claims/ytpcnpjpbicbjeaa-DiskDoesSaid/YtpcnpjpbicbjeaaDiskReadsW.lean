/- DiskReads: the walk. -/
import Derived.Test.YtpcnpjpbicbjeaaDiskSyncsW
import Derived.Test.YtpcnpjpbicbjeaaAppendRow
namespace Go.Proofs.Ytpcnpjpbicbjeaa.Disk
open Go Go.RowKit Go.Maps Mem Door
section
variable {X Y : Nat → Prop} {m : Nat} {w w' : World} {b : Nat} {d : Dk}
theorem Hd.grow (h : Hd X m w b d) (hk : Keeps X w w') (hY : ∀ i, Y i → X i ∨ (w.heap.size ≤ i ∧ i < w'.heap.size)) : Hd Y m w' b d := by
  obtain ⟨⟨F, h1, h2⟩, h3, h4, h5⟩ := h
  refine ⟨⟨F, h1.keeps hk h2, fun i hi hy => ?_⟩, fun i hi => ?_, h4, h5⟩
  · obtain ⟨_, _, _, _, _, hc⟩ := h1.core
    have hlt := hc.2.2.2.2.2.2.2.2 i hi
    rcases hY i hy with h | h
    · exact h2 i hi h
    · omega
  · rcases hY i hi with h | h
    · exact Nat.lt_of_lt_of_le (h3 i h) hk.size
    · exact h.2
theorem own_below {base n sz : Nat} {e : TypeId} {v : Value} {xs : List Value} (h : w.ownsRow base e sz v n xs) (hb : Below w.heap.size w w') : w'.ownsRow base e sz v n xs := own_keeps h (Keeps.of_below (fun _ => False) hb) (fun _ _ h => h)
theorem Keeps.of_above {G H : Nat} (hb : Below H w w') (hs : w.heap.size ≤ w'.heap.size) : Keeps (fun i => i < G ∨ (H ≤ i ∧ i < w.heap.size)) w w' :=
  ⟨hb.os, hb.tape, hb.output, hs, fun k hk hn => hb.block k (by
    rcases Nat.lt_or_ge k H with h | h
    · exact h
    · exact absurd (Or.inr ⟨h, hk⟩) hn)⟩
end
theorem sec_zero (w : World) : Calls Try.prog 10 #[.int .u8 0, .int .i64 0] w fun e w' => e = .returned (.string zero64) ∧ Below w.heap.size w w' := sec_lit 0 0 64 (by decide) w
def curRow (N : Nat) (cur : Nat → ByteArray) : List Value := (List.range N).map fun i => .string (cur i)
theorem curRow_set (N : Nat) (cur : Nat → ByteArray) (j : Nat) (s : ByteArray) : (curRow N cur).set j (.string s) = curRow N (fun i => if i = j then s else cur i) := by
  unfold curRow
  apply List.ext_getElem
  · simp
  · intro i h1 h2
    simp only [List.getElem_set, List.getElem_map, List.getElem_range]
    by_cases e : j = i
    · rw [if_pos e, if_pos e.symm]
    · rw [if_neg e, if_neg (Ne.symm e)]
theorem curRow_at (N : Nat) (cur : Nat → ByteArray) (j : Nat) (h : j < N) : (curRow N cur)[j]? = some (.string (cur j)) := by simp [curRow, h]
set_option maxRecDepth 100000 in
set_option maxHeartbeats 4000000 in
theorem reads_any (sec : Int) (A : Option Addr) (n c : Nat) (w : World) (hops : Ops6 (fun _ => True) w A n) :
    Calls Try.prog 3 #[.int .i64 sec, .slice A n c] w fun e w' => e = .returned (.bool true) ∧ Below w.heap.size w w' := by
  obtain ⟨hN1, hN2⟩ := clampN_le sec
  have hmm := clampN_int sec
  generalize clampN sec = N at hN1 hN2 hmm
  have n2 := Lib.hid (hnew w N hN1 (by omega))
  obtain ⟨i0, hinf, hz0, hz1, hz2⟩ := info_parts infoS
  replace hops := Lib.hid hops
  go_enter Try.func3, Try.ntmps3
  go_wp2_with fail
  refine (n2.out).mono ?_
  rintro e w1 ⟨b, rfl, h, hb⟩
  have hs := hb.size
  clear n2 hmm
  obtain ⟨H, hH⟩ : ∃ H, H = w1.heap.size := ⟨_, rfl⟩
  have o0 : (w1.alloc (.cells #[] 9)).ownsRow H 9 1 (.slice (some ⟨w1.heap.size, 0, none⟩) 0 0) 0 (List.replicate 0 (.string zero64)) := World.ownsRow_made w1 #[] 0 (Nat.le_of_eq hH) (by decide) rfl
  have kb : Below w1.heap.size w1 (w1.alloc (.cells #[] 9)) := (Below.refl _ w1).alloc (Nat.le_refl _) _
  have h0 : Hd (fun i => i < w.heap.size ∨ (H ≤ i ∧ i < (w1.alloc (.cells #[] 9)).heap.size)) 0 (w1.alloc (.cells #[] 9)) b (newD N) := h.also kb (fun i hi => by rw [hH] at hi; exact hi)
  have hb0 := hb.trans (kb.mono hs)
  have hH2 : w.heap.size ≤ H := by omega
  have hH3 : H ≤ (w1.alloc (.cells #[] 9)).heap.size := by simp; omega
  replace hH : Hid _ := Lib.hid hH
  clear h hb hs kb
  go_wp2_with fail
  generalize Value.slice (some ⟨w1.heap.size, 0, none⟩) 0 0 = bv at o0 ⊢
  generalize w1.alloc (.cells #[] 9) = w2 at o0 h0 hb0 hH3 ⊢
  replace o0 := Lib.hid o0
  go_loopw [8, 9] (fun v t wr => ∃ k : Nat, k ≤ N ∧ t = .int .i64 (k : Int) ∧ wr.ownsRow H 9 1 v k (List.replicate k (.string zero64)) ∧ Hd (fun i => i < w.heap.size ∨ (H ≤ i ∧ i < wr.heap.size)) 0 wr b (newD N) ∧ Below w.heap.size w wr ∧ H ≤ wr.heap.size) (fun _ t _ => N - (intOf t).toNat)
  case atStart => exact ⟨0, Nat.zero_le _, rfl, o0.out, h0, hb0, hH3⟩
  case round =>
    clear o0 h0 hb0 hH3
    obtain ⟨k, hk, rfl, hown, h, hb, hHr⟩ := hrel
    have hs := hb.size
    by_cases hlt : k < N
    · go_wp2_with fail
      refine (sec_zero _).mono ?_
      rintro e w3 ⟨rfl, b3⟩
      have hown3 := own_below hown b3
      have h3 := h.also (Y := fun i => i < w.heap.size ∨ (H ≤ i ∧ i < w3.heap.size)) b3 (fun i hi => by omega)
      have hs3 := b3.size
      have hb3 := hb.trans (b3.mono hs)
      have h4 := h3.also (Y := fun i => i < w.heap.size ∨ (H ≤ i ∧ i < (w3.alloc (.cells #[.string zero64] 9)).heap.size)) ((Below.refl _ w3).alloc (Nat.le_refl _) (.cells #[.string zero64] 9)) (fun i hi => by omega)
      have hb4 := hb3.alloc hb3.size (.cells #[.string zero64] 9)
      have hown4 := hown3.alloc (.cells #[.string zero64] 9)
      replace h4 := Lib.hid h4
      replace hb4 := Lib.hid hb4
      clear hown hown3 h hb b3 h3 hb3
      go_wp2_with (first
        | (at_builtin; refine wpList_append_own _ rfl (.tmp 36) (.tmp 38) _ rfl H 9 i0 (.string ⟨#[]⟩) 1 16 Try.underlying27 hinf hz0 hz1 hz2 rfl (by decide) u8 k _ rfl hown4 ⟨w3.heap.size, 0, none⟩ 1 1 [.string zero64] rfl rfl (cell_one_new _ _ _) (by simp [Value.oneCell']) (by unfold maxLen; omega) (by omega) (by simp; omega) ?_; intro v1 w11 hown1 hg1 hn1))
      have hlt4 := hown4.lt
      refine ⟨⟨k + 1, by omega, rfl, by rw [List.replicate_succ']; exact hown1, h4.out.grow (Keeps.of_grown hg1 (fun j e => Or.inr (hlt4 j e))) (fun i hi => by omega), hb4.out.grown hg1 (by have := hb4.out.size; exact this) (fun j hj => Nat.le_trans hH2 (hlt4 j hj).1), by have := hg1.size; simp at this; omega⟩, by simp [intOf]; omega⟩
    · obtain rfl : k = N := by omega
      obtain ⟨g, cap, hv, _⟩ := hown.form (by omega)
      subst hv
      have hgl := hown.lt g rfl
      have st := St.new k
      have hrow : wr.ownsRow H 9 1 (.slice (some ⟨g, 0, none⟩) k cap) k (curRow k (fun _ => zero64)) := by
        have e : curRow k (fun _ => zero64) = List.replicate k (.string zero64) := by
          unfold curRow
          apply List.ext_getElem
          · simp
          · intro i h1 h2
            simp
        rw [e]
        exact hown
      replace h := h.mono (Y := fun i => i < w.heap.size ∨ i = g) (fun i hi => by
        rcases hi with h | h
        · exact Or.inl h
        · exact Or.inr (by omega))
      clear hown hHr hgl hs
      go_wp2_with fail
      go_loopw [10] (fun t wr => ∃ (q m : Nat) (d : Dk) (cur : Nat → ByteArray), q ≤ n ∧ q ≤ 200 ∧ m ≤ q ∧ t = .int .i64 (q : Int) ∧ Hd (fun i => i < w.heap.size ∨ i = g) m wr b d ∧ St d k cur (fun _ => false) ∧ wr.ownsRow H 9 1 (.slice (some ⟨g, 0, none⟩) k cap) k (curRow k cur) ∧ Below w.heap.size w wr) (fun t _ => n - (intOf t).toNat)
      case atStart => exact ⟨0, 0, _, _, Nat.zero_le _, Nat.zero_le _, Nat.le_refl _, rfl, h, st, hrow, hb⟩
      case round =>
        clear h st hrow hb
        obtain ⟨q, m, d, cur, hq, hq2, hm, rfl, h, st, hrow, hb⟩ := hrel
        have hs := hb.size
        by_cases hgo : q < n ∧ q < 200
        · obtain ⟨hlt1, hlt2⟩ := hgo
          obtain ⟨ad, x, y, cc, z, s, bb, rfl, _, _, hat⟩ := hops.out.at_ hlt1
          replace hat := Lib.hid hat
          have hH6 := hat.out _ hb
          obtain ⟨m0, m1, m2, m3, m4, m5⟩ := hH6
          have z1 : (0 : Int) ≤ (q : Int) := by omega
          have z2 : (q : Int) < (n : Int) := by omega
          have d200 : decide ((q : Int) < 200) = true := decide_eq_true (by omega)
          go_upto_region 14 with fail
          obtain ⟨P, hP⟩ : ∃ P, P = wr.heap.size := ⟨_, rfl⟩
          obtain ⟨W, hW⟩ : ∃ W, W = wr.alloc (.cells #[.int .i64 x, .int .i64 y, .int .u8 (cc.toNat : Int), .int .i64 z, .string s, .bool bb] 30) := ⟨_, rfl⟩
          have hWb : Below wr.heap.size wr W := by rw [hW]; exact (Below.refl _ wr).alloc (Nat.le_refl _) _
          have hB : Blk W P 30 #[.int .i64 x, .int .i64 y, .int .u8 (cc.toNat : Int), .int .i64 z, .string s, .bool bb] := by rw [hW, hP]; exact Blk.new wr _ _
          rw [← hW, ← hP]
          have hwP : w.heap.size ≤ P := by rw [hP]; exact hs
          have hPg : P ≠ g := by have := (hrow.lt g rfl).2; omega
          replace h := h.also (Y := fun i => i < w.heap.size ∨ i = g ∨ i = P) hWb (fun i hi => by
            have := hB.lt
            rcases hi with h | h | h
            · exact Or.inl (Or.inl h)
            · exact Or.inl (Or.inr h)
            · exact Or.inr (by omega))
          replace hb := hb.trans (hWb.mono hs)
          replace hrow := own_below hrow hWb
          replace hs := hb.size
          clear hW hP hWb m0 m1 m2 m3 m4 m5 hat d200 z1 z2
          have c0 := hB.cell 0
          have c1 := hB.cell 1
          have c2 := hB.cell 2
          have hgX : ∀ j, (Value.slice (some ⟨g, 0, none⟩) k cap).ownBlock = some j → (j < w.heap.size ∨ j = g ∨ j = P) := fun j e => by injection e with e; exact Or.inr (Or.inl e.symm)
          replace hgX := Lib.hid hgX
          by_cases hx : x = 2
          · subst hx
            go_wp2_with fail
            refine (ssync h st (by omega)).mono ?_
            rintro en w' ⟨rfl, d2, h2, k', st2, _, _⟩
            have hrow2 := k'.row hrow hgX.out
            have hb2 := hb.trans (k'.toBelow (fun i hi => Or.inl hi) hs)
            clear h st hrow hb hs c0 c1 c2 hB k'
            obtain ⟨cur2, hcur⟩ : ∃ cur2, cur2 = cur := ⟨_, rfl⟩
            rw [← hcur] at st2 hrow2
            clear hcur
            have hrow := Lib.hid hrow2
            have hb := Lib.hid hb2
            obtain ⟨m2, hm2', hm2⟩ : ∃ m2, m2 = m + 1 ∧ m2 ≤ q + 1 := ⟨_, rfl, by omega⟩
            rw [← hm2'] at h2
            clear hrow2 hb2 hm2'
            go_wp2_with fail
            go_loop [13] (fun t => ∃ i : Nat, i ≤ k ∧ t = .int .i64 (i : Int)) (fun t => k - (intOf t).toNat)
            case atStart => exact ⟨0, Nat.zero_le _, rfl⟩
            case round =>
              obtain ⟨i, hi, rfl⟩ := hrel
              by_cases hlti : i < k
              · obtain ⟨S, hS⟩ : ∃ S, cur2 i = S := ⟨_, rfl⟩
                have ci := hrow.out.cells (g := g) rfl i _ (curRow_at k cur2 i hlti)
                rw [add_lit, Nat.zero_add, hS] at ci
                have kr := sread h2 st2 i hlti rfl S hS
                replace hS := Lib.hid hS
                go_wp2_with fail
                refine (kr).mono ?_
                rintro en w' ⟨rfl, hw'⟩
                replace hw' := hw'.symm
                subst hw'
                go_wp2_with fail
                exact ⟨⟨i + 1, hlti, rfl⟩, by simp [intOf]; omega⟩
              · obtain rfl : i = k := by omega
                go_wp2_with fail
                refine ⟨⟨q + 1, m2, d2, cur2, hlt1, hlt2, hm2, rfl, h2.mono (fun i hi => ?_), st2, hrow.out, hb.out⟩, by simp [intOf]; omega⟩
                rcases hi with h | h
                · exact Or.inl h
                · exact Or.inr (Or.inl h)
          · have hx2 : (x == 2) = false := by simpa using hx
            clear hx
            by_cases hyr : 0 ≤ y ∧ y < k
            · obtain ⟨hy0, hyk⟩ := hyr
              obtain ⟨j, rfl⟩ := Int.eq_ofNat_of_zero_le hy0
              have hjk : j < k := by omega
              go_upto_region 17 with fail
              replace h := h.below (drewB W)
              replace hB := hB.below (drewB W) hB.lt
              replace hrow := own_below hrow (drewB W)
              replace hb := hb.drew
              replace hs := hb.size
              replace c1 := (show W.drew.cell? ⟨P, 1, none⟩ = _ from c1)
              replace c2 := (show W.drew.cell? ⟨P, 2, none⟩ = _ from c2)
              clear c0
              replace h := Lib.hid h
              replace st := Lib.hid st
              replace hb := Lib.hid hb
              replace hB := Lib.hid hB
              replace hrow := Lib.hid hrow
              go_region_held3 (fun w' => w'.cell? ⟨P, 1, none⟩ = some (.int .i64 (j : Int)) ∧ w'.cell? ⟨P, 2, none⟩ = some (.int .u8 (cc.toNat : Int)))
                (first
                  | exact ⟨c1, c2⟩
                  | exact ⟨n1, n2⟩
                  | exact ⟨o1, o2⟩
                  | go_keep)
                (first
                  | (go_at_call 10; refine (sec64 cc _).mono ?_; rintro e w1 ⟨rfl, b1⟩; have hB1 := Lib.hid (hB.out.below b1 hB.out.lt); obtain ⟨n1, n2⟩ := And.intro (hB1.out.cell 1) (hB1.out.cell 2))
                  | (go_at_call 12; refine (swrite (h.out.below b1) st.out (by omega) j hjk rfl _ (secB_size _ _)).mono ?_; rintro e w2 ⟨rfl, d2, h2, k', st2⟩; have hB2 := Lib.hid (hB1.out.keeps k' (fun hh => hh (Or.inr (Or.inr rfl)))); obtain ⟨o1, o2⟩ := And.intro (hB2.out.cell 1) (hB2.out.cell 2)))
              have hrow2 := k'.row (own_below hrow.out b1) hgX.out
              have hb1 := hb.out.trans (b1.mono hs)
              have hb2 := Lib.hid (hb1.trans (k'.toBelow (fun i hi => Or.inl hi) hb1.size))
              clear h st hrow hb hs c1 c2 n1 n2 hB hB1 k' b1 hb1
              replace h2 := Lib.hid h2
              replace hrow2 := Lib.hid hrow2
              have y0 : decide (0 ≤ (j : Int)) = true := decide_eq_true (by omega)
              have y1 : decide ((j : Int) < (k : Int)) = true := decide_eq_true (by omega)
              go_upto_region 21 with fail
              have hb3 := hb2.out.drew
              have hs3 := hb3.size
              have hB3 := hB2.out.below (drewB w2) hB2.out.lt
              have hrow3 := own_below hrow2.out (drewB w2)
              have h3 := h2.out.below (drewB w2)
              replace o1 := (show w2.drew.cell? ⟨P, 1, none⟩ = _ from o1)
              replace o2 := (show w2.drew.cell? ⟨P, 2, none⟩ = _ from o2)
              have hjk2 : (j : Int) < (k : Int) := by omega
              clear hb2 hB2 hrow2 h2 y0 y1
              replace h3 := Lib.hid h3
              replace hb3 := Lib.hid hb3
              replace hB3 := Lib.hid hB3
              replace hrow3 := Lib.hid hrow3
              go_region_held3 (fun w' => w'.cell? ⟨P, 1, none⟩ = some (.int .i64 (j : Int)) ∧ w'.cell? ⟨P, 2, none⟩ = some (.int .u8 (cc.toNat : Int)))
                (first
                  | exact ⟨o1, o2⟩
                  | exact ⟨q1, q2⟩
                  | exact ⟨r1, r2⟩
                  | go_keep)
                (first | (go_at_call 10; refine (sec64 cc _).mono ?_; rintro e w4 ⟨rfl, b4⟩; have hB4 := Lib.hid (hB3.out.below b4 hB3.out.lt); obtain ⟨q1, q2⟩ := And.intro (hB4.out.cell 1) (hB4.out.cell 2); obtain ⟨r1, r2⟩ := And.intro ((hB4.out.far (p := ⟨g, j, none⟩) hPg (.string (secB cc 64))).cell 1) ((hB4.out.far (p := ⟨g, j, none⟩) hPg (.string (secB cc 64))).cell 2); have hrow4 := own_below hrow3.out b4; have hold := hrow4.cells (g := g) rfl j _ (curRow_at k cur j hjk); rw [add_lit, Nat.zero_add] at hold; have fst4 := (own_put (i := j) (u := .string (secB cc 64)) hrow4).2))
              have hrow5 := (own_put (i := j) (u := .string (secB cc 64)) hrow4).1
              rw [curRow_set k cur j] at hrow5
              have hb4 := hb3.out.trans (b4.mono hs3)
              have hb5 := Lib.hid ((hb4.setCell (p := ⟨g, j, none⟩) (Nat.le_trans hH2 (hrow4.lt g rfl).1) (.string (secB cc 64))))
              have k5 := (Keeps.refl (fun i => i = g) w4).put (g := g) (Or.inl rfl) j (.string (secB cc 64))
              have h2 := (h3.out.below b4).turn (k5.mono (fun i e => Or.inr (Or.inl e)))
              clear h3 hb3 hB3 hrow3 hB4 hrow4 hold fst4 b4 hb4 k5 o1 o2 q1 q2 r1 r2 hs3
              obtain ⟨cur2, hcur⟩ : ∃ cur2 : Nat → ByteArray, cur2 = fun i => if i = j then secB cc 64 else cur i := ⟨_, rfl⟩
              rw [← hcur] at st2 hrow5
              clear hcur
              have hrow := Lib.hid hrow5
              have hb := hb5
              obtain ⟨m2, hm2', hm2⟩ : ∃ m2, m2 = m + 1 ∧ m2 ≤ q + 1 := ⟨_, rfl, by omega⟩
              rw [← hm2'] at h2
              clear hrow5 hb5 hm2'
              generalize w4.setCell ⟨g, j, none⟩ (.string (secB cc 64)) = w5 at h2 hrow hb ⊢
              go_wp2_with fail
              go_loop [13] (fun t => ∃ i : Nat, i ≤ k ∧ t = .int .i64 (i : Int)) (fun t => k - (intOf t).toNat)
              case atStart => exact ⟨0, Nat.zero_le _, rfl⟩
              case round =>
                obtain ⟨i, hi, rfl⟩ := hrel
                by_cases hlti : i < k
                · obtain ⟨S, hS⟩ : ∃ S, cur2 i = S := ⟨_, rfl⟩
                  have ci := hrow.out.cells (g := g) rfl i _ (curRow_at k cur2 i hlti)
                  rw [add_lit, Nat.zero_add, hS] at ci
                  have kr := sread h2 st2 i hlti rfl S hS
                  replace hS := Lib.hid hS
                  go_wp2_with fail
                  refine (kr).mono ?_
                  rintro en w' ⟨rfl, hw'⟩
                  replace hw' := hw'.symm
                  subst hw'
                  go_wp2_with fail
                  exact ⟨⟨i + 1, hlti, rfl⟩, by simp [intOf]; omega⟩
                · obtain rfl : i = k := by omega
                  go_wp2_with fail
                  refine ⟨⟨q + 1, m2, d2, cur2, hlt1, hlt2, hm2, rfl, h2.mono (fun i hi => ?_), st2, hrow.out, hb.out⟩, by simp [intOf]; omega⟩
                  rcases hi with h | h
                  · exact Or.inl h
                  · exact Or.inr (Or.inl h)
            · have hno : y < 0 ∨ (k : Int) ≤ y := by omega
              go_upto_region 17 with fail
              replace h := h.below (drewB W)
              replace hB := hB.below (drewB W) hB.lt
              replace hrow := own_below hrow (drewB W)
              replace hb := hb.drew
              replace hs := hb.size
              replace c1 := (show W.drew.cell? ⟨P, 1, none⟩ = _ from c1)
              replace c2 := (show W.drew.cell? ⟨P, 2, none⟩ = _ from c2)
              clear c0
              replace h := Lib.hid h
              replace st := Lib.hid st
              replace hb := Lib.hid hb
              replace hB := Lib.hid hB
              replace hrow := Lib.hid hrow
              go_region_held3 (fun w' => w'.cell? ⟨P, 1, none⟩ = some (.int .i64 y) ∧ w'.cell? ⟨P, 2, none⟩ = some (.int .u8 (cc.toNat : Int)))
                (first
                  | exact ⟨c1, c2⟩
                  | exact ⟨n1, n2⟩
                  | exact ⟨o1, o2⟩
                  | go_keep)
                (first
                  | (go_at_call 10; refine (sec64 cc _).mono ?_; rintro e w1 ⟨rfl, b1⟩; have hB1 := Lib.hid (hB.out.below b1 hB.out.lt); obtain ⟨n1, n2⟩ := And.intro (hB1.out.cell 1) (hB1.out.cell 2))
                  | (go_at_call 12; refine (swrite_no (h.out.below b1) st.out (by omega) y hno _).mono ?_; rintro e w2 ⟨rfl, h2, k'⟩; have hB2 := Lib.hid (hB1.out.keeps k' (fun hh => hh (Or.inr (Or.inr rfl)))); obtain ⟨o1, o2⟩ := And.intro (hB2.out.cell 1) (hB2.out.cell 2)))
              have hrow2 := k'.row (own_below hrow.out b1) hgX.out
              have hb1 := hb.out.trans (b1.mono hs)
              have hb2 := hb1.trans (k'.toBelow (fun i hi => Or.inl hi) hb1.size)
              have st2 := st.out
              clear h st hrow hb hs c1 c2 n1 n2 hB hB1 hB2 k' b1 hb1
              obtain ⟨cur2, hcur⟩ : ∃ cur2, cur2 = cur := ⟨_, rfl⟩
              rw [← hcur] at st2 hrow2
              clear hcur
              obtain ⟨d2, hd2⟩ : ∃ d2, d2 = d := ⟨_, rfl⟩
              rw [← hd2] at st2 h2
              clear hd2
              have hrow := Lib.hid hrow2
              have hb := Lib.hid hb2
              obtain ⟨m2, hm2', hm2⟩ : ∃ m2, m2 = m + 1 ∧ m2 ≤ q + 1 := ⟨_, rfl, by omega⟩
              rw [← hm2'] at h2
              clear hrow2 hb2 hm2'
              rcases hno with hno | hno
              · have y0 : decide (0 ≤ y) = false := decide_eq_false (by omega)
                clear hyr hno
                go_wp2_with fail
                go_loop [13] (fun t => ∃ i : Nat, i ≤ k ∧ t = .int .i64 (i : Int)) (fun t => k - (intOf t).toNat)
                case atStart => exact ⟨0, Nat.zero_le _, rfl⟩
                case round =>
                  obtain ⟨i, hi, rfl⟩ := hrel
                  by_cases hlti : i < k
                  · obtain ⟨S, hS⟩ : ∃ S, cur2 i = S := ⟨_, rfl⟩
                    have ci := hrow.out.cells (g := g) rfl i _ (curRow_at k cur2 i hlti)
                    rw [add_lit, Nat.zero_add, hS] at ci
                    have kr := sread h2 st2 i hlti rfl S hS
                    replace hS := Lib.hid hS
                    go_wp2_with fail
                    refine (kr).mono ?_
                    rintro en w' ⟨rfl, hw'⟩
                    replace hw' := hw'.symm
                    subst hw'
                    go_wp2_with fail
                    exact ⟨⟨i + 1, hlti, rfl⟩, by simp [intOf]; omega⟩
                  · obtain rfl : i = k := by omega
                    go_wp2_with fail
                    refine ⟨⟨q + 1, m2, d2, cur2, hlt1, hlt2, hm2, rfl, h2.mono (fun i hi => ?_), st2, hrow.out, hb.out⟩, by simp [intOf]; omega⟩
                    rcases hi with h | h
                    · exact Or.inl h
                    · exact Or.inr (Or.inl h)
              · have y0 : decide (0 ≤ y) = true := decide_eq_true (by omega)
                have y1 : decide (y < (k : Int)) = false := decide_eq_false (by omega)
                clear hyr hno
                go_wp2_with fail
                go_loop [13] (fun t => ∃ i : Nat, i ≤ k ∧ t = .int .i64 (i : Int)) (fun t => k - (intOf t).toNat)
                case atStart => exact ⟨0, Nat.zero_le _, rfl⟩
                case round =>
                  obtain ⟨i, hi, rfl⟩ := hrel
                  by_cases hlti : i < k
                  · obtain ⟨S, hS⟩ : ∃ S, cur2 i = S := ⟨_, rfl⟩
                    have ci := hrow.out.cells (g := g) rfl i _ (curRow_at k cur2 i hlti)
                    rw [add_lit, Nat.zero_add, hS] at ci
                    have kr := sread h2 st2 i hlti rfl S hS
                    replace hS := Lib.hid hS
                    go_wp2_with fail
                    refine (kr).mono ?_
                    rintro en w' ⟨rfl, hw'⟩
                    replace hw' := hw'.symm
                    subst hw'
                    go_wp2_with fail
                    exact ⟨⟨i + 1, hlti, rfl⟩, by simp [intOf]; omega⟩
                  · obtain rfl : i = k := by omega
                    go_wp2_with fail
                    refine ⟨⟨q + 1, m2, d2, cur2, hlt1, hlt2, hm2, rfl, h2.mono (fun i hi => ?_), st2, hrow.out, hb.out⟩, by simp [intOf]; omega⟩
                    rcases hi with h | h
                    · exact Or.inl h
                    · exact Or.inr (Or.inl h)
        · have hor : n ≤ q ∨ (q < n ∧ 200 ≤ q) := by omega
          clear hgo
          rcases hor with hge | ⟨hge, hge2⟩
          all_goals
            go_wp2_with fail
            refine (fixed_any _).mono ?_
            rintro en w' ⟨rfl, b'⟩
            replace hb := hb.trans (b'.mono hs)
            go_wp2_with fail
            go_ret
            exact ⟨rfl, hb⟩
end Go.Proofs.Ytpcnpjpbicbjeaa.Disk

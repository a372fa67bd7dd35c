/- BlockRoots: the walk. -/
import Derived.Test.YtkghlbpkdkonbaaBlkFixed
namespace Go.Proofs.Ytkghlbpkdkonbaa.Vl
open Go Go.RowKit Go.Maps Mem Disk Nv
set_option maxRecDepth 100000 in
theorem getStr_some {l : List ByteArray} {k : Nat} {u : Value} (h : (l.map Value.string)[k]? = some u) : ∃ s, l[k]? = some s ∧ u = .string s := by
  rw [List.getElem?_map] at h
  cases hx : l[k]? with
  | none => rw [hx] at h; cases h
  | some x => rw [hx] at h; exact ⟨x, rfl, by injection h with h; exact h.symm⟩
/-- where the law's loop stands: q roots were asked for -/
structure RootsAt (w : World) (q : Nat) (wr : World) (a b : Nat) (last : ByteArray) (n : Nat) (L : List (Nat × ByteArray)) (d : Dk) (cur : Nat → ByteArray) : Prop where
  h : Hs (fun i => i < w.heap.size) 40 (3 + 3 * q) wr a b ⟨last, n, L, false⟩ d cur
  n1 : 1 ≤ n
  nq : n ≤ q + 1
  size : last.size ≤ 40
  at_ : cur (n % 2) = rootB last n
  other : (parseV (cur ((n + 1) % 2)) ((n + 1) % 2)).2 < n
  hb : Below w.heap.size w wr
set_option maxRecDepth 100000 in
set_option maxHeartbeats 16000000 in
theorem blockroots_any (A : Option Addr) (n c : Nat) (l : List ByteArray) (w : World) (hr : Row w A n (l.map Value.string)) (hn : n ≤ 9223372036854775807) :
    Calls Try.prog 5 #[.slice A n c] w fun e w' => e = .returned (.bool true) ∧ Below w.heap.size w w' := by
  have kf := Lib.hid (fun W => fixed_any W)
  have k0 := Lib.hid (laid_yes 40 ⟨#[]⟩ w (by decide) (by decide))
  replace hr := Lib.hid hr
  go_enter Try.func5, Try.ntmps5
  go_wp2_with fail
  refine k0.out.mono ?_
  rintro e w1 ⟨a, b, k, cc, rfl, h, hb⟩
  have st : RootsAt w 0 w1 a b ⟨#[]⟩ 1 [] (laidV 40 ⟨#[]⟩) (cur0 ⟨#[]⟩) := ⟨laid_hs (N := 40) (by decide) (by decide) (show (ByteArray.mk #[]).size ≤ 40 by decide) h hb, Nat.le_refl _, Nat.le_refl _, by decide, rfl, by
    show (parseV (cur0 ⟨#[]⟩ 0) 0).2 < 1
    unfold cur0
    rw [if_neg (by decide), parse_noughts]
    decide, hb⟩
  clear k0 h hb
  generalize laidV 40 ⟨#[]⟩ = d0 at st
  generalize cur0 ⟨#[]⟩ = cu0 at st
  go_wp2_with fail
  go_loopw [8, 9, 10] (fun lv nv iv wr => ∃ (q : Nat) (last : ByteArray) (nn : Nat) (L : List (Nat × ByteArray)) (d : Dk) (cur : Nat → ByteArray), q ≤ n ∧ q ≤ 60 ∧ lv = .string last ∧ nv = .int .i64 (nn : Int) ∧ iv = .int .i64 (q : Int) ∧ RootsAt w q wr a b last nn L d cur) (fun _ _ iv _ => n - (intOf iv).toNat)
  case atStart => exact ⟨0, _, 1, _, _, _, Nat.zero_le _, Nat.zero_le _, rfl, rfl, rfl, st⟩
  case round =>
    clear st
    obtain ⟨q, last, nn, L, d, cur, hqn, hq1, rfl, rfl, rfl, st⟩ := hrel
    by_cases hlt : q < n ∧ q < 60
    · have hltI : (q : Int) < (n : Int) := by omega
      have hj0 : (0 : Int) ≤ (q : Int) := by omega
      have hj100 : (q : Int) < 60 := by omega
      obtain ⟨ad, u, rfl, hu, hc⟩ := (hr.out.below st.hb).at_ hlt.1
      obtain ⟨r, _, rfl⟩ := getStr_some hu
      have hcat : ∀ W', Below w.heap.size wr W' → W'.cell? (ad.add q) = some (.string r) := fun W' hb => by
        have h1 := hr.out.below (hb.trans (Below.refl _ _) |> fun h => (st.hb.trans h))
        obtain ⟨ad', u', e1, e2, e3⟩ := h1.at_ hlt.1
        injection e1 with e1
        rw [← e1] at e3
        rw [hu] at e2
        injection e2 with e2
        rw [e3, ← e2]
      have nnq := st.nq
      have n1 := st.n1
      have kop := fun W last' nn' L' d' cur' m' (h : Hs (fun i => i < w.heap.size) 40 m' W a b ⟨last', nn', L', false⟩ d' cur') (e1 : 1 ≤ nn') (e2 : nn' ≤ 100) (e3 : last'.size ≤ 40) (e4 : cur' (nn' % 2) = rootB last' nn') (e5 : (parseV (cur' ((nn' + 1) % 2)) ((nn' + 1) % 2)).2 < nn') => hsopen h (by decide) e1 (by omega) e3 e4 e5
      replace kop := Lib.hid kop
      clear hu
      by_cases h40 : r.size ≤ 40
      · have kc := hscommit st.h (by omega) (by decide) h40 (by show nn < _; omega)
        have q40 : decide ((r.size : Int) ≤ 40) = true := decide_eq_true (by omega)
        have lb : (r.toList == r.toList) = true := beq_self_eq_true _
        have nb : ((nn : Int) + 1 == (nn : Int) + 1) = true := beq_self_eq_true _
        have hat : ∀ m', curR cur r (nn + 1) ((nn + 1) % 2) = rootB r (nn + 1) ∧ (parseV (curR cur r (nn + 1) ((nn + 1 + 1) % 2)) ((nn + 1 + 1) % 2)).2 < nn + 1 + 0 * m' := fun m' => by
          refine ⟨by unfold curR; rw [if_pos rfl], ?_⟩
          unfold curR
          rw [if_neg (by omega), show (nn + 1 + 1) % 2 = nn % 2 by omega, st.at_, parse_root st.size st.n1 (by omega) rfl]
          show nn < _
          omega
        replace hat := Lib.hid (hat 0)
        have hbs := Lib.hid st.hb
        replace kc := Lib.hid kc
        replace hcat := Lib.hid hcat
        have hc' := hc
        clear hc st
        go_wp2_with fail
        refine kc.out.mono ?_
        rintro e w3 ⟨rfl, d3, h3, k3⟩
        have hb3 := Lib.hid (hbs.out.trans (k3.toBelow (fun i hi => hi) hbs.out.size))
        have hc3 := hcat.out w3 (k3.toBelow (fun i hi => hi) hbs.out.size)
        have kr := Lib.hid (hvroot h3.h)
        have h3' : Hs (fun i => i < w.heap.size) 40 (3 + 3 * (q + 1)) w3 a b ⟨r, nn + 1, L, false⟩ d3 (curR cur r (nn + 1)) := h3
        replace h3 := Lib.hid h3'
        clear k3 kc hc' h3'
        go_wp2_with fail
        refine kr.out.mono ?_
        rintro e w4 ⟨rfl, n4, rfl⟩
        have h4 := Lib.hid (h3.out.below (below_N w3 n4))
        have hb4 := Lib.hid (below_drewN hb3.out n4)
        have ko := Lib.hid (kop.out _ _ _ _ _ _ _ h4.out (by omega) (by omega) h40 hat.out.1 hat.out.2)
        clear kr h3 hb3 hc3
        generalize w3.drewN n4 = w4 at h4 hb4 ko ⊢
        go_wp2_with fail
        refine ko.out.mono ?_
        rintro e w5 ⟨a', rfl, h5, b5⟩
        have hb5 := Lib.hid (hb4.out.trans (b5.mono hb4.out.size))
        have h6 := Lib.hid (h4.out.below b5)
        have kr := Lib.hid (hvroot h5.h)
        clear b5 hb4 h4 ko h5
        go_wp2_with fail
        refine kr.out.mono ?_
        rintro e w6 ⟨rfl, n6, rfl⟩
        have st6 := Lib.hid (show RootsAt w (q + 1) (w5.drewN n6) a b r (nn + 1) L d3 (curR cur r (nn + 1)) from ⟨h6.out.below (below_N w5 n6), by omega, by omega, h40, hat.out.1, hat.out.2, below_drewN hb5.out n6⟩)
        generalize w5.drewN n6 = w6 at st6 ⊢
        clear kr h6 hb5
        go_wp2_with fail
        exact ⟨⟨q + 1, r, nn + 1, L, d3, _, by omega, by omega, rfl, rfl, rfl, st6.out⟩, by simp [intOf]; omega⟩
      · have e83 : commitV (⟨last, nn, L, false⟩ : Vo) d r = (⟨last, nn, L, false⟩, d, 83) := if_pos (by omega)
        have kc := hvcommit st.h.h (by omega) r
        rw [e83] at kc
        have q40 : decide ((r.size : Int) ≤ 40) = false := decide_eq_false (by omega)
        have lb : (last.toList == last.toList) = true := beq_self_eq_true _
        have nb : ((nn : Int) == (nn : Int)) = true := beq_self_eq_true _
        have hbs := Lib.hid st.hb
        replace kc := Lib.hid kc
        replace hcat := Lib.hid hcat
        replace st := Lib.hid st
        have hc' := hc
        clear hc e83 h40
        go_wp2_with fail
        refine kc.out.mono ?_
        rintro e w3 ⟨rfl, h3, k3⟩
        have hb3 := Lib.hid (hbs.out.trans (k3.toBelow (fun i hi => hi) hbs.out.size))
        have hc3 := hcat.out w3 (k3.toBelow (fun i hi => hi) hbs.out.size)
        have h3' : Hs (fun i => i < w.heap.size) 40 (3 + 3 * (q + 1)) w3 a b ⟨last, nn, L, false⟩ d cur := ⟨h3, st.out.h.st, st.out.h.coh, st.out.h.keys, rfl⟩
        have kr := Lib.hid (hvroot h3'.h)
        replace h3 := Lib.hid h3'
        clear k3 kc hc' h3'
        go_wp2_with fail
        refine kr.out.mono ?_
        rintro e w4 ⟨rfl, n4, rfl⟩
        have h4 := Lib.hid (h3.out.below (below_N w3 n4))
        have hb4 := Lib.hid (below_drewN hb3.out n4)
        have ko := Lib.hid (kop.out _ _ _ _ _ _ _ h4.out n1 (by omega) st.out.size st.out.at_ st.out.other)
        clear kr h3 hb3 hc3
        generalize w3.drewN n4 = w4 at h4 hb4 ko ⊢
        go_wp2_with fail
        refine ko.out.mono ?_
        rintro e w5 ⟨a', rfl, h5, b5⟩
        have hb5 := Lib.hid (hb4.out.trans (b5.mono hb4.out.size))
        have h6 := Lib.hid (h4.out.below b5)
        have kr := Lib.hid (hvroot h5.h)
        clear b5 hb4 h4 ko h5
        go_wp2_with fail
        refine kr.out.mono ?_
        rintro e w6 ⟨rfl, n6, rfl⟩
        have st6 := Lib.hid (show RootsAt w (q + 1) (w5.drewN n6) a b last nn L d cur from ⟨h6.out.below (below_N w5 n6), n1, by omega, st.out.size, st.out.at_, st.out.other, below_drewN hb5.out n6⟩)
        generalize w5.drewN n6 = w6 at st6 ⊢
        clear kr h6 hb5
        go_wp2_with fail
        exact ⟨⟨q + 1, last, nn, L, d, cur, by omega, by omega, rfl, rfl, rfl, st6.out⟩, by simp [intOf]; omega⟩
    · have hbs := Lib.hid st.hb
      clear st
      by_cases hjn2 : q < n
      · have q1 : (q : Int) < (n : Int) := by omega
        obtain rfl : q = 60 := by omega
        clear hlt
        go_wp2_with fail
        refine (kf.out _).mono ?_
        rintro e w6 ⟨rfl, b6⟩
        have hb6 := Lib.hid (hbs.out.trans (b6.mono hbs.out.size))
        clear b6 hbs
        go_wp2_with fail
        go_ret
        exact ⟨rfl, hb6.out⟩
      · obtain rfl : q = n := by omega
        clear hlt
        go_wp2_with fail
        refine (kf.out _).mono ?_
        rintro e w6 ⟨rfl, b6⟩
        have hb6 := Lib.hid (hbs.out.trans (b6.mono hbs.out.size))
        clear b6 hbs
        go_wp2_with fail
        go_ret
        exact ⟨rfl, hb6.out⟩
end Go.Proofs.Ytkghlbpkdkonbaa.Vl

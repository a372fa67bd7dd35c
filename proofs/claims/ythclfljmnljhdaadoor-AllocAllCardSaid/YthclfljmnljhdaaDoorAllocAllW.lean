/- The walk of the law AllocAll. -/
import Derived.Test.YthclfljmnljhdaaDoorAllocPartsW
import Derived.Deep.QuietTactic
import Derived.BigQuiet
namespace Go.Proofs.YthclfljmnljhdaaDoor.Alloc
open Go.RowKit Mem Sets

theorem cntTo_congr {p q : Nat → Bool} {n : Nat} (h : ∀ m, m < n → p m = q m) : cntTo p n = cntTo q n := by
  unfold cntTo
  rw [List.filter_congr fun x hx => h x (List.mem_range.1 hx)]
/-- how many are in the set of all that are free -/
theorem cnt_ord {U : ByteArray} {b a : Nat} (hk : 8 ≤ b ∧ b ≤ 4096 ∧ 1 ≤ a ∧ a ≤ b) : cnt (setB (ord U b a)) = free (hasB U) b := by
  have hsz : (setB (ord U b a)).size ≤ 512 := setB_size fun x hx => by have := (ord_mem (U := U) ⟨hk.2.2.1, hk.2.2.2⟩).1 hx; omega
  have h1 : cnt (setB (ord U b a)) = cntTo (hasB (setB (ord U b a))) 4096 := by
    rw [cnt, ← elemsTo_all (setB (ord U b a)).data.toList 4096 (by rw [← Lib.size_eq]; omega), elemsTo_cnt]
    rfl
  have h2 : cntTo (hasB (setB (ord U b a))) (b + (4096 - b)) = cntTo (hasB (setB (ord U b a))) b := cntTo_skip fun x h1 _ => by
    rw [hasB_set]
    exact decide_eq_false fun hx => by have := (ord_mem (U := U) ⟨hk.2.2.1, hk.2.2.2⟩).1 hx; omega
  rw [show b + (4096 - b) = 4096 by omega] at h2
  rw [h1, h2, ← freeTo_all (by omega), freeTo]
  refine cntTo_congr fun m hm => ?_
  rw [hasB_set, Bool.eq_iff_iff]
  simp only [decide_eq_true_eq, Bool.and_eq_true, Bool.not_eq_true']
  rw [ord_mem ⟨hk.2.2.1, hk.2.2.2⟩]
  constructor
  · rintro ⟨x1, x2, x3⟩; exact ⟨x1, x3⟩
  · rintro ⟨x1, x3⟩; exact ⟨x1, hm, x3⟩
theorem set_all {U : ByteArray} {b a c : Nat} (ha : 1 ≤ a ∧ a ≤ b) (hc : 1 ≤ c ∧ c ≤ b) : setB (ord U b a) = setB (ord U b c) :=
  b_ext (leastB_set _) (leastB_set _) fun m => by
    rw [hasB_set, hasB_set, Bool.eq_iff_iff]
    simp only [decide_eq_true_eq]
    rw [ord_mem ha, ord_mem hc]
theorem and_all {U : ByteArray} {b a : Nat} (ha : 1 ≤ a ∧ a ≤ b) : andB (setB (ord U b a)) U = ⟨#[]⟩ :=
  b_ext (leastB_and _ _) leastB_empty fun m => by
    show _ = hasB emptyB m
    rw [hasB_and, hasB_set, hasB_empty, Bool.eq_false_iff]
    intro h
    simp only [Bool.and_eq_true, decide_eq_true_eq] at h
    have := (ord_mem ha).1 h.1
    rw [this.2.2] at h
    exact absurd h.2 (by decide)

set_option maxRecDepth 100000 in
set_option maxHeartbeats 2000000 in
theorem lawall_any (U : ByteArray) (B f m x : Int) (w : World) (hU : U.size ≤ 140737488355328) :
    Calls Tryd.prog 7 #[askVal U B f m, .int .i64 x] w fun e w' => e = .returned (.bool true) ∧ Below w.heap.size w w' := by
  have hf := AskBox.new w U B f m
  have hb : Below w.heap.size w (w.alloc (.cells #[.string U, .int .i64 B, .int .i64 f, .int .i64 m] 23)) := (Below.refl _ w).alloc (Nat.le_refl _) _
  have hs := hb.size
  unfold askVal
  by_cases hok : okAt B f = true
  case neg =>
    have hok' : okAt B f = false := by simpa using hok
    have k1 := Lib.hid (fun W => new_bad U B f W hok')
    obtain ⟨m0, m1, m2, m3⟩ := hf.all
    clear hok hok'
    go_enter Tryd.func7, Tryd.ntmps7
    go_wp2_with fail
    refine (k1.out _).mono ?_
    rintro en w1 ⟨rfl, hw1⟩
    subst hw1
    go_wp2_with fail
    refine (fixed_any _).mono ?_
    rintro en w' ⟨rfl, b'⟩
    replace hb := hb.trans (b'.mono hs)
    clear b'
    replace hs := hb.size
    go_wp2_with fail
    go_ret
    exact ⟨rfl, hb⟩
  obtain ⟨h1, h2, h3, h4⟩ := okAt_iff.1 hok
  obtain ⟨b, rfl⟩ := Int.eq_ofNat_of_zero_le (show 0 ≤ B by omega)
  obtain ⟨a, rfl⟩ := Int.eq_ofNat_of_zero_le (show 0 ≤ f by omega)
  have hk : 8 ≤ b ∧ b ≤ 4096 ∧ 1 ≤ a ∧ a ≤ b := by omega
  have k1 := Lib.hid (fun W => new_ok U b a W hk)
  clear hok h1 h2 h3 h4
  by_cases h300 : 300 < b
  · have d1 : decide (300 < b) = true := decide_eq_true h300
    obtain ⟨m0, m1, m2, m3⟩ := hf.all
    go_enter Tryd.func7, Tryd.ntmps7
    go_wp2_with fail
    refine (k1.out _).mono ?_
    rintro en w1 ⟨g, rfl, hg, hp, b1⟩
    replace hf := hf.below b1
    replace hb := hb.trans (b1.mono hs)
    replace hs := hb.size
    clear b1 m0 m1 m2 m3 hp
    obtain ⟨m0, m1, m2, m3⟩ := hf.all
    go_wp2_with fail
    refine (fixed_any _).mono ?_
    rintro en w' ⟨rfl, b'⟩
    replace hb := hb.trans (b'.mono hs)
    clear b'
    replace hs := hb.size
    go_wp2_with fail
    go_ret
    exact ⟨rfl, hb⟩
  have d1 : decide (300 < b) = false := decide_eq_false h300
  obtain ⟨q, hq, hmask⟩ : ∃ q : Nat, q ≤ 65535 ∧ bits .and .i64 x 65535 = (q : Int) := mask_any x 65535 (by decide)
  obtain ⟨r, hr⟩ : ∃ r, r = q % b := ⟨_, rfl⟩
  have hrb : r < b := by rw [hr]; exact Nat.mod_lt _ (by omega)
  have hmod : ((q : Int).tmod (b : Int)) = (r : Int) := by rw [hr, Int.tmod_eq_emod_of_nonneg (by omega)]; simp
  have hmod2 : ((q : Int) % (b : Int)) = (r : Int) := by rw [hr]; simp
  replace hr := Lib.hid hr
  have hk' : 8 ≤ b ∧ b ≤ 4096 ∧ 1 ≤ 1 + r ∧ 1 + r ≤ b := by omega
  have l1 := ord_length (U := U) ⟨hk.2.2.1, hk.2.2.2⟩
  have l2 := ord_length (U := U) ⟨hk'.2.2.1, hk'.2.2.2⟩
  have hlen := ord_le (U := U) hk
  have k2 := pick_ok (k := free (hasB U) b) hk hU (by omega)
  have k3 := pick_ok (k := free (hasB U) b) hk' hU (by omega)
  rw [← l1, List.take_length] at k2
  rw [← l2, List.take_length, l2, ← l1] at k3
  have hxm : ∀ y ∈ ord U b a, y ≤ 65535 := fun y hy => by have := (ord_mem ⟨hk.2.2.1, hk.2.2.2⟩).1 hy; omega
  have hym : ∀ y ∈ ord U b (1 + r), y ≤ 65535 := fun y hy => by have := (ord_mem ⟨hk'.2.2.1, hk'.2.2.2⟩).1 hy; omega
  have k4 := of_nats (ord U b a) hxm
  have k5 := of_nats (ord U b (1 + r)) hym
  rw [set_all (c := a) ⟨hk'.2.2.1, hk'.2.2.2⟩ ⟨hk.2.2.1, hk.2.2.2⟩] at k5
  have hsz : (setB (ord U b a)).size ≤ 512 := setB_size fun x hx => by have := (ord_mem (U := U) ⟨hk.2.2.1, hk.2.2.2⟩).1 hx; omega
  have k6 := fun W => and_b (setB (ord U b a)) U W (by omega) hU
  rw [and_all ⟨hk.2.2.1, hk.2.2.2⟩] at k6
  have k7 := fun W => count_b (setB (ord U b a)) W (by omega)
  rw [cnt_ord hk, ← l1] at k7
  have k8 := fun W n (hn : 1 ≤ n ∧ n < b) => has_b (setB (ord U b a)) n W (by omega)
  have k9 := fun W n (hn : 1 ≤ n ∧ n < b) => has_b U n W (by omega)
  have hne : ∀ n, 1 ≤ n → n < b → hasB (setB (ord U b a)) n = !hasB U n := fun n h1 h2 => by
    rw [hasB_set, Bool.eq_iff_iff]
    simp only [decide_eq_true_eq, Bool.not_eq_true']
    rw [ord_mem ⟨hk.2.2.1, hk.2.2.2⟩]
    exact ⟨fun h => h.2.2, fun h => ⟨h1, h2, h⟩⟩
  rw [← l1] at k1
  obtain ⟨N, hN⟩ : ∃ N, N = (ord U b a).length := ⟨_, rfl⟩
  simp only [← hN] at k1 k2 k3 k7 hlen
  clear l1 l2 hN hxm hym hsz
  generalize setB (ord U b a) = s at k4 k5 k6 k7 k8 hne
  generalize lastOf (ord U b a) a = z1 at k2
  generalize lastOf (ord U b (1 + r)) (1 + r) = z2 at k3
  generalize ord U b a = xs at k2 k4
  generalize ord U b (1 + r) = ys at k3 k5
  replace k2 := Lib.hid k2
  replace k3 := Lib.hid k3
  replace k4 := Lib.hid k4
  replace k5 := Lib.hid k5
  replace k6 := Lib.hid k6
  replace k7 := Lib.hid k7
  replace k8 := Lib.hid k8
  replace k9 := Lib.hid k9
  replace hne := Lib.hid hne
  obtain ⟨m0, m1, m2, m3⟩ := hf.all
  go_enter Tryd.func7, Tryd.ntmps7
  go_wp2_with fail
  refine (k1.out _).mono ?_
  rintro en w1 ⟨g, rfl, hg, hp, b1⟩
  replace hf := hf.below b1
  replace hb := hb.trans (b1.mono hs)
  replace hs := hb.size
  clear b1 m0 m1 m2 m3
  obtain ⟨m0, m1, m2, m3⟩ := hf.all
  have kl := Lib.hid (left_any _ _ _ _ _ g w1 hp)
  clear hp
  go_wp2_with fail
  refine kl.out.mono ?_
  rintro en w2 ⟨rfl, hw2⟩
  replace hw2 := hw2.symm
  subst hw2
  go_wp2_with fail
  refine (k2.out _).mono ?_
  rintro en w2 ⟨A, c, rfl, r1, hc, b2⟩
  replace hf := hf.below b2
  replace hb := hb.trans (b2.mono hs)
  replace hs := hb.size
  clear b2 m0 m1 m2 m3 kl
  obtain ⟨m0, m1, m2, m3⟩ := hf.all
  go_wp2_with fail
  have hw1 : IntKind.i64.wrap (r : Int) = (r : Int) := IntWalk.i64_in _ (by omega)
  have hw2 : IntKind.i64.wrap (1 + (r : Int)) = 1 + (r : Int) := IntWalk.i64_in _ (by omega)
  have hb0 : ((b : Int) == 0) = false := by simp; omega
  have hb1 : ¬ (b : Int) = 0 := by omega
  have hb2 : ¬ b = 0 := by omega
  have hb3 : (b == 0) = false := by simp; omega
  have hqb : IntKind.i64.wrap ((q : Int).tmod (b : Int)) = (r : Int) := by rw [hmod]; exact hw1
  have hqb2 : IntKind.i64.wrap ((q : Int) % (b : Int)) = (r : Int) := by rw [hmod2]; exact hw1
  have hcast : ((1 + r : Nat) : Int) = 1 + (r : Int) := by omega
  have k3' : Hid (∀ W, Calls Tryd.prog 9 #[.string U, .int .i64 (b : Int), .int .i64 (1 + (r : Int)), .int .i64 (N : Int)] W fun e w' => ∃ A c, e = .returned (.tuple #[.slice A N c, .int .i64 (z2 : Int), .int .i64 0]) ∧ Row w' A N (ints ys) ∧ N ≤ c ∧ Below W.heap.size W w') := Lib.hid (hcast ▸ k3.out)
  clear hcast k3
  replace hf : AskBox w2.drew w.heap.size U b a m := hf
  replace hf := Lib.hid hf
  replace r1 := Lib.hid r1
  go_region_held3 (fun w' => w'.cell? ⟨w.heap.size, 0, none⟩ = some (.string U) ∧ w'.cell? ⟨w.heap.size, 1, none⟩ = some (.int .i64 (b : Int)))
    (first
      | exact ⟨m0, m1⟩
      | exact ⟨o0, o1⟩
      | go_keep)
    (first
      | (go_at_call_of 9 (Value.string U); refine (k3'.out _).mono ?_; rintro e w3 ⟨A3, c3, rfl, r3, hc3, b3⟩; obtain ⟨o0, o1, o2, o3⟩ := (hf.out.below b3).all))
  clear hw1 hw2 hb0 hb1 hb2 hb3 hqb hqb2 hmod hmod2 hmask
  have hq3 : AskBox w3 w.heap.size U b a m := hf.out.below b3
  replace r1 := (show Row w2.drew _ _ _ from r1.out).below b3
  replace hb := (below_drewN hb 1).trans (b3.mono hs)
  replace hs := hb.size
  clear b3 hf m0 m1 m2 m3 o0 o1 o2 o3
  replace r1 := Lib.hid r1
  replace hq3 := Lib.hid hq3
  go_wp2_with fail
  with_reducible refine (k4.out _ _ _ _ r1.out (by omega)).mono ?_
  rintro en w4 ⟨rfl, b4⟩
  replace r3 := r3.below b4
  replace hf := hq3.out.below b4
  replace hb := hb.trans (b4.mono hs)
  replace hs := hb.size
  clear b4 r1 hq3
  replace r3 := Lib.hid r3
  replace hf := Lib.hid hf
  go_wp2_with fail
  with_reducible refine (k5.out _ _ _ _ r3.out (by omega)).mono ?_
  rintro en w5 ⟨rfl, b5⟩
  replace hf := hf.out.below b5
  replace hb := hb.trans (b5.mono hs)
  replace hs := hb.size
  clear b5 r3
  obtain ⟨m0, m1, m2, m3⟩ := hf.all
  go_wp2_with fail
  refine (k6.out _).mono ?_
  rintro en w6 ⟨rfl, b6⟩
  replace hf := hf.below b6
  replace hb := hb.trans (b6.mono hs)
  replace hs := hb.size
  clear b6 m0 m1 m2 m3
  go_wp2_with fail
  refine (k7.out _).mono ?_
  rintro en w7 ⟨rfl, b7⟩
  replace hf := hf.below b7
  replace hb := hb.trans (b7.mono hs)
  replace hs := hb.size
  clear b7
  go_wp2_with fail
  go_loopw [18] (fun y wr => ∃ k : Nat, 1 ≤ k ∧ k ≤ b ∧ y = .int .i64 (k : Int) ∧ Below w.heap.size w wr ∧ AskBox wr w.heap.size U b a m) (fun y _ => b - (intOf y).toNat)
  case atStart => exact ⟨1, by omega, by omega, rfl, hb, hf⟩
  case round =>
    clear hb hf hs
    obtain ⟨k, hk1, hkb, rfl, hb, hf⟩ := hrel
    have hs := hb.size
    obtain ⟨m0, m1, m2, m3⟩ := hf.all
    by_cases hlt : k < b
    · have c8 := fun n => k8.out (wr.drewN n) k ⟨hk1, hlt⟩
      have c9 := fun n => k9.out (wr.drewN n) k ⟨hk1, hlt⟩
      rw [hne.out k hk1 hlt] at c8
      obtain ⟨v, hv⟩ : ∃ v, v = hasB U k := ⟨_, rfl⟩
      rw [← hv] at c8 c9
      have hd : ((!v) == v) = false := by cases v <;> rfl
      clear hv
      replace c8 := Lib.hid c8
      replace c9 := Lib.hid c9
      replace hf := Lib.hid hf
      cases v
      all_goals
        go_wp2_with fail
        go_quiet ((first
          | (go_at_call_of 19 (Value.string s); with_reducible exact Calls.quiet_of_same (c8.out _))
          | (go_at_call_of 19 (Value.string U); with_reducible exact Calls.quiet_of_same (c9.out _))))
        go_wp2_with fail
        exact ⟨⟨k + 1, by omega, by omega, rfl, below_drewN hb _, hf.out⟩, by simp [intOf]; omega⟩
    · have hkb2 : k = b := by omega
      subst hkb2
      clear hf
      go_wp2_with fail
      refine (fixed_any _).mono ?_
      rintro en w' ⟨rfl, b'⟩
      replace hb := hb.trans (b'.mono hs)
      clear b'
      replace hs := hb.size
      go_wp2_with fail
      go_ret
      exact ⟨rfl, hb⟩
end Go.Proofs.YthclfljmnljhdaaDoor.Alloc

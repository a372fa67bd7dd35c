/- The walk of the law PlaneDiffs. -/
import Derived.Test.YteghmnlngkcgiaaDoorPlaneLaws
namespace Go.Proofs.YteghmnlngkcgiaaDoor.Planes
open Go.RowKit Mem Sets

set_option maxRecDepth 100000 in
set_option maxHeartbeats 2000000 in
theorem lawdiffs_any (n : Int) (a b : ByteArray) (w : World) (ha : a.size ≤ 140737488355328) (hb' : b.size ≤ 140737488355328) :
    Calls Tryd.prog 6 #[.int .i64 n, .string a, .string b] w fun e w' => e = .returned (.bool true) ∧ Below w.heap.size w w' := by
  have k0 := Lib.hid (fun W => bound_any n W)
  obtain ⟨B1, B2⟩ := bnd_le n
  generalize bnd n = B at k0 B1 B2
  have k1 := Lib.hid (new_ok B w (by omega))
  obtain ⟨g, hg⟩ : ∃ g, g = w.heap.size := ⟨_, rfl⟩
  rw [← hg] at k1
  have le_hp : w.heap.size ≤ g := Nat.le_of_eq hg.symm
  replace hg := Lib.hid hg
  have hB : B ≤ 4096 := by omega
  cases hoa : okSet B a with
  | false =>
    have k2 := Lib.hid (fun W h => put_fail g B none8 W 1 a h ha hB hoa)
    have k3 := Lib.hid (fun W h => blocks_any g B none8 W h)
    clear hoa
    go_enter Tryd.func6, Tryd.ntmps6
    go_wp2_with fail
    refine (k0.out _).mono ?_
    rintro en w' ⟨rfl, hw'⟩
    replace hw' := hw'.symm
    subst hw'
    go_wp2_with fail
    refine k1.out.mono ?_
    rintro en w1 ⟨rfl, hp, hb⟩
    rw [hg.out] at hb
    have hs := hb.size
    go_wp2_with fail
    refine (k2.out _ hp).mono ?_
    rintro en w' ⟨rfl, hp', g'⟩
    replace hb := hb.trans (Only.toBelow g' le_hp hs)
    replace hp := hp'
    clear g'
    replace hs := hb.size
    go_wp2_with fail
    refine (fixed_any _).mono ?_
    rintro en w' ⟨rfl, b'⟩
    replace hp := hp.below b'
    replace hb := hb.trans (b'.mono hs)
    clear b'
    replace hs := hb.size
    go_wp2_with fail
    refine (k3.out _ hp).mono ?_
    rintro en w' ⟨rfl, hw'⟩
    replace hw' := hw'.symm
    subst hw'
    go_wp2_with fail
    refine (k0.out _).mono ?_
    rintro en w' ⟨rfl, hw'⟩
    replace hw' := hw'.symm
    subst hw'
    go_wp2_with fail
    go_ret
    exact ⟨rfl, hb⟩
  | true =>
    have k2 := Lib.hid (fun W h => put_good g B none8 W 1 1 rfl a h ha hB (by decide) hoa)
    cases hob : okSet B b with
    | false =>
      have k3 := Lib.hid (fun W h => put_fail g B (upd none8 1 (leastB a)) W 2 b h hb' hB hob)
      have k4 := Lib.hid (fun W h => blocks_any g B (upd none8 1 (leastB a)) W h)
      clear hoa hob
      go_enter Tryd.func6, Tryd.ntmps6
      go_wp2_with fail
      refine (k0.out _).mono ?_
      rintro en w' ⟨rfl, hw'⟩
      replace hw' := hw'.symm
      subst hw'
      go_wp2_with fail
      refine k1.out.mono ?_
      rintro en w1 ⟨rfl, hp, hb⟩
      rw [hg.out] at hb
      have hs := hb.size
      go_wp2_with fail
      refine (k2.out _ hp).mono ?_
      rintro en w' ⟨rfl, hp', g'⟩
      replace hb := hb.trans (Only.toBelow g' le_hp hs)
      replace hp := hp'
      clear g'
      replace hs := hb.size
      go_wp2_with fail
      refine (k3.out _ hp).mono ?_
      rintro en w' ⟨rfl, hp', g'⟩
      replace hb := hb.trans (Only.toBelow g' le_hp hs)
      replace hp := hp'
      clear g'
      replace hs := hb.size
      go_wp2_with fail
      refine (fixed_any _).mono ?_
      rintro en w' ⟨rfl, b'⟩
      replace hp := hp.below b'
      replace hb := hb.trans (b'.mono hs)
      clear b'
      replace hs := hb.size
      go_wp2_with fail
      refine (k4.out _ hp).mono ?_
      rintro en w' ⟨rfl, hw'⟩
      replace hw' := hw'.symm
      subst hw'
      go_wp2_with fail
      refine (k0.out _).mono ?_
      rintro en w' ⟨rfl, hw'⟩
      replace hw' := hw'.symm
      subst hw'
      go_wp2_with fail
      go_ret
      exact ⟨rfl, hb⟩
    | true =>
      have k3 : Hid (∀ W, PMap W g B (upd none8 1 (leastB a)) → Calls Tryd.prog 17 #[.pointer (some ⟨g, 0, none⟩), .int .i64 2, .string b] W fun e w' => e = .returned (.int .i64 0) ∧ PMap w' g B (two 1 2 (leastB a) (leastB b)) ∧ W.grownBy w' (some g)) := Lib.hid (fun W h => put_good g B (upd none8 1 (leastB a)) W 2 2 rfl b h hb' hB (by decide) hob)
      have fa := okSet_fit hoa
      have fb := okSet_fit hob
      have hf : FitAll B (two 1 2 (leastB a) (leastB b)) := fit_two fa fb
      have za := fa.size (n := 512) (by omega)
      have zb := fb.size (n := 512) (by omega)
      generalize leastB a = p at k2 k3 fa hf za
      generalize leastB b = q at k3 fb hf zb
      have k4 := fun W h => diff_good g B (two 1 2 p q) W 1 2 1 2 rfl rfl h hf hB (by decide) (by decide)
      have k5 := fun W h => plane_good g B (two 1 2 p q) W 1 1 rfl h (by decide)
      have k6 := fun W h => plane_good g B (two 1 2 p q) W 2 2 rfl h (by decide)
      have k7 := fun W h => diff_good g B (two 1 2 p q) W 2 1 2 1 rfl rfl h hf hB (by decide) (by decide)
      simp only [two_fst (show (1 : Nat) ≠ 2 by decide), two_snd] at k4 k5 k6 k7
      have k8 := fun W h => free_any g B (two 1 2 p q) W h hf hB
      have k9 := fun W h => used_any g B (two 1 2 p q) W h hf hB
      have hu := used_both p q (i := 1) (j := 2) (by decide) (by decide) (by decide)
      have hc := cnt_used_le hf
      have hfree : free B (two 1 2 p q) = (B : Int) - 1 - (cnt (orB p q) : Int) := by unfold free; rw [hu]
      have k10 := fun W h => blocks_any g B (two 1 2 p q) W h
      have zo : (orB p q).size ≤ 512 := or_size za zb
      have k11 := fun W => count_b (orB p q) W (by omega)
      have k12 := fun W => or_b p q W (by omega) (by omega)
      have zx : (minusB q p).size ≤ 512 := minus_size zb za
      have zy : (minusB p q).size ≤ 512 := minus_size za zb
      have k13 := fun W => or_b p (minusB q p) W (by omega) (by omega)
      have k14 := fun W => minus_b (orB p (minusB q p)) (minusB p q) W (Nat.le_trans (or_size za zx) (by decide)) (by omega)
      have k15 := fun W => and_b p (minusB q p) W (by omega) (by omega)
      have k16 := fun W => minus_b (minusB p q) p W (by omega) (by omega)
      have k17 := fun W => and_b (minusB q p) (minusB p q) W (by omega) (by omega)
      rw [diff_back p q fb.1] at k14
      rw [diff_new] at k15
      rw [diff_old] at k16
      rw [diff_apart] at k17
      unfold emptyB at k15 k16 k17
      rw [hfree] at k8
      rw [hu] at hc k9
      generalize cnt (orB p q) = c at hc k8 k11
      generalize orB p (minusB q p) = o1 at k13 k14
      generalize orB p q = o2 at k9 k11 k12
      generalize minusB q p = x at k4 k7 k13 k15 k17
      generalize minusB p q = y at k4 k7 k14 k16 k17
      replace k4 := Lib.hid k4
      replace k5 := Lib.hid k5
      replace k6 := Lib.hid k6
      replace k7 := Lib.hid k7
      replace k8 := Lib.hid k8
      replace k9 := Lib.hid k9
      replace k10 := Lib.hid k10
      replace k11 := Lib.hid k11
      replace k12 := Lib.hid k12
      replace k13 := Lib.hid k13
      replace k14 := Lib.hid k14
      replace k15 := Lib.hid k15
      replace k16 := Lib.hid k16
      replace k17 := Lib.hid k17
      clear hoa hob hf hu hfree zo zx zy za zb fa fb
      go_enter Tryd.func6, Tryd.ntmps6
      go_wp2_with fail
      refine (k0.out _).mono ?_
      rintro en w' ⟨rfl, hw'⟩
      replace hw' := hw'.symm
      subst hw'
      go_wp2_with fail
      refine k1.out.mono ?_
      rintro en w1 ⟨rfl, hp, hb⟩
      rw [hg.out] at hb
      have hs := hb.size
      go_wp2_with fail
      refine (k2.out _ hp).mono ?_
      rintro en w' ⟨rfl, hp', g'⟩
      replace hb := hb.trans (Only.toBelow g' le_hp hs)
      replace hp := hp'
      clear g'
      replace hs := hb.size
      go_wp2_with fail
      refine (k3.out _ hp).mono ?_
      rintro en w' ⟨rfl, hp', g'⟩
      replace hb := hb.trans (Only.toBelow g' le_hp hs)
      replace hp := hp'
      clear g'
      replace hs := hb.size
      go_wp2_with fail
      refine (k4.out _ hp).mono ?_
      rintro en w' ⟨rfl, b'⟩
      replace hp := hp.below b'
      replace hb := hb.trans (b'.mono hs)
      clear b'
      replace hs := hb.size
      go_wp2_with fail
      refine (k5.out _ hp).mono ?_
      rintro en w' ⟨rfl, b'⟩
      replace hp := hp.below b'
      replace hb := hb.trans (b'.mono hs)
      clear b'
      replace hs := hb.size
      go_wp2_with fail
      refine (k6.out _ hp).mono ?_
      rintro en w' ⟨rfl, b'⟩
      replace hp := hp.below b'
      replace hb := hb.trans (b'.mono hs)
      clear b'
      replace hs := hb.size
      go_wp2_with fail
      refine (k13.out _).mono ?_
      rintro en w' ⟨rfl, b'⟩
      replace hp := hp.below b'
      replace hb := hb.trans (b'.mono hs)
      clear b'
      replace hs := hb.size
      go_wp2_with fail
      refine (k14.out _).mono ?_
      rintro en w' ⟨rfl, b'⟩
      replace hp := hp.below b'
      replace hb := hb.trans (b'.mono hs)
      clear b'
      replace hs := hb.size
      go_wp2_with fail
      refine (k15.out _).mono ?_
      rintro en w' ⟨rfl, b'⟩
      replace hp := hp.below b'
      replace hb := hb.trans (b'.mono hs)
      clear b'
      replace hs := hb.size
      go_wp2_with fail
      refine (k16.out _).mono ?_
      rintro en w' ⟨rfl, b'⟩
      replace hp := hp.below b'
      replace hb := hb.trans (b'.mono hs)
      clear b'
      replace hs := hb.size
      go_wp2_with fail
      refine (k17.out _).mono ?_
      rintro en w' ⟨rfl, b'⟩
      replace hp := hp.below b'
      replace hb := hb.trans (b'.mono hs)
      clear b'
      replace hs := hb.size
      go_wp2_with fail
      refine (k7.out _ hp).mono ?_
      rintro en w' ⟨rfl, b'⟩
      replace hp := hp.below b'
      replace hb := hb.trans (b'.mono hs)
      clear b'
      replace hs := hb.size
      go_wp2_with fail
      refine (fixed_any _).mono ?_
      rintro en w' ⟨rfl, b'⟩
      replace hp := hp.below b'
      replace hb := hb.trans (b'.mono hs)
      clear b'
      replace hs := hb.size
      go_wp2_with fail
      refine (k8.out _ hp).mono ?_
      rintro en w' ⟨rfl, b'⟩
      replace hp := hp.below b'
      replace hb := hb.trans (b'.mono hs)
      clear b'
      replace hs := hb.size
      go_wp2_with fail
      refine (k9.out _ hp).mono ?_
      rintro en w' ⟨rfl, b'⟩
      replace hp := hp.below b'
      replace hb := hb.trans (b'.mono hs)
      clear b'
      replace hs := hb.size
      go_wp2_with fail
      refine (k11.out _).mono ?_
      rintro en w' ⟨rfl, b'⟩
      replace hp := hp.below b'
      replace hb := hb.trans (b'.mono hs)
      clear b'
      replace hs := hb.size
      go_wp2_with fail
      refine (k10.out _ hp).mono ?_
      rintro en w' ⟨rfl, hw'⟩
      replace hw' := hw'.symm
      subst hw'
      go_wp2_with fail
      refine (k9.out _ hp).mono ?_
      rintro en w' ⟨rfl, b'⟩
      replace hp := hp.below b'
      replace hb := hb.trans (b'.mono hs)
      clear b'
      replace hs := hb.size
      go_wp2_with fail
      refine (k12.out _).mono ?_
      rintro en w' ⟨rfl, b'⟩
      replace hp := hp.below b'
      replace hb := hb.trans (b'.mono hs)
      clear b'
      replace hs := hb.size
      go_wp2_with fail
      go_ret
      exact ⟨rfl, hb⟩
end Go.Proofs.YteghmnlngkcgiaaDoor.Planes

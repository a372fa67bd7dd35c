/- The walk of the law PlaneFrees. -/
import Derived.Test.YteghmnlngkcgiaaDoorPlaneLaws
namespace Go.Proofs.YteghmnlngkcgiaaDoor.Planes
open Go.RowKit Mem Sets

set_option maxRecDepth 100000 in
set_option maxHeartbeats 2000000 in
theorem lawfrees_any (n : Int) (a b : ByteArray) (w : World) (ha : a.size ≤ 140737488355328) (hb' : b.size ≤ 140737488355328) :
    Calls Tryd.prog 5 #[.int .i64 n, .string a, .string b] w fun e w' => e = .returned (.bool true) ∧ Below w.heap.size w w' := by
  have k0 := Lib.hid (fun W => bound_any n W)
  obtain ⟨B1, B2⟩ := bnd_le n
  generalize bnd n = B at k0 B1 B2
  have k1 := Lib.hid (new_ok B w (by omega))
  obtain ⟨g, hg⟩ : ∃ g, g = w.heap.size := ⟨_, rfl⟩
  rw [← hg] at k1
  have le_hp : w.heap.size ≤ g := Nat.le_of_eq hg.symm
  replace hg := Lib.hid hg
  have hB : B ≤ 4096 := by omega
  cases hoa : okSet B a with
  | false =>
    have k2 := Lib.hid (fun W h => put_fail g B none8 W 2 a h ha hB hoa)
    clear hoa
    go_enter Tryd.func5, Tryd.ntmps5
    go_wp2_with fail
    refine (k0.out _).mono ?_
    rintro en w' ⟨rfl, hw'⟩
    replace hw' := hw'.symm
    subst hw'
    go_wp2_with fail
    refine k1.out.mono ?_
    rintro en w1 ⟨rfl, hp, hb⟩
    rw [hg.out] at hb
    have hs := hb.size
    go_wp2_with fail
    refine (k2.out _ hp).mono ?_
    rintro en w' ⟨rfl, hp', g'⟩
    replace hb := hb.trans (Only.toBelow g' le_hp hs)
    replace hp := hp'
    clear g'
    replace hs := hb.size
    go_wp2_with fail
    refine (fixed_any _).mono ?_
    rintro en w' ⟨rfl, b'⟩
    replace hb := hb.trans (b'.mono hs)
    clear b'
    replace hs := hb.size
    go_wp2_with fail
    go_ret
    exact ⟨rfl, hb⟩
  | true =>
    have k2 := Lib.hid (fun W h => put_good g B none8 W 2 2 rfl a h ha hB (by decide) hoa)
    cases hob : okSet B b with
    | false =>
      have k3 := Lib.hid (fun W h => put_fail g B (upd none8 2 (leastB a)) W 6 b h hb' hB hob)
      clear hoa hob
      go_enter Tryd.func5, Tryd.ntmps5
      go_wp2_with fail
      refine (k0.out _).mono ?_
      rintro en w' ⟨rfl, hw'⟩
      replace hw' := hw'.symm
      subst hw'
      go_wp2_with fail
      refine k1.out.mono ?_
      rintro en w1 ⟨rfl, hp, hb⟩
      rw [hg.out] at hb
      have hs := hb.size
      go_wp2_with fail
      refine (k2.out _ hp).mono ?_
      rintro en w' ⟨rfl, hp', g'⟩
      replace hb := hb.trans (Only.toBelow g' le_hp hs)
      replace hp := hp'
      clear g'
      replace hs := hb.size
      go_wp2_with fail
      refine (k3.out _ hp).mono ?_
      rintro en w' ⟨rfl, hp', g'⟩
      replace hb := hb.trans (Only.toBelow g' le_hp hs)
      replace hp := hp'
      clear g'
      replace hs := hb.size
      go_wp2_with fail
      refine (fixed_any _).mono ?_
      rintro en w' ⟨rfl, b'⟩
      replace hb := hb.trans (b'.mono hs)
      clear b'
      replace hs := hb.size
      go_wp2_with fail
      go_ret
      exact ⟨rfl, hb⟩
    | true =>
      have k3 : Hid (∀ W, PMap W g B (upd none8 2 (leastB a)) → Calls Tryd.prog 17 #[.pointer (some ⟨g, 0, none⟩), .int .i64 6, .string b] W fun e w' => e = .returned (.int .i64 0) ∧ PMap w' g B (two 2 6 (leastB a) (leastB b)) ∧ W.grownBy w' (some g)) := Lib.hid (fun W h => put_good g B (upd none8 2 (leastB a)) W 6 6 rfl b h hb' hB (by decide) hob)
      have hf1 : FitAll B (two 2 6 (leastB a) (leastB b)) := fit_two (okSet_fit hoa) (okSet_fit hob)
      have hf2 : FitAll B (two 2 6 (leastB a) emptyB) := fit_two (okSet_fit hoa) (fit_empty B)
      have k4 := fun W h => free_any g B (two 2 6 (leastB a) (leastB b)) W h hf1 hB
      have k5 := fun W h => clear_good g B (two 2 6 (leastB a) (leastB b)) W 6 6 rfl h hB (by decide)
      rw [two_clear] at k5
      have k6 := fun W h => free_any g B (two 2 6 (leastB a) emptyB) W h hf2 hB
      have k7 := fun W h => used_any g B (two 2 6 (leastB a) emptyB) W h hf2 hB
      rw [used_left (by decide) (by decide) (by decide)] at k7
      have k8 := fun W => minus_b b a W hb' ha
      have k9 := fun W => count_b (minusB b a) W (minus_size hb' ha)
      have k10 : ∀ W, Calls Tryd.prog 21 #[.string a, .string ⟨#[]⟩] W fun e w' => e = .returned (.string (leastB a)) ∧ Below W.heap.size W w' := fun W => or_b a emptyB W ha (by decide)
      have hsub := frees (B := B) (i := 2) (j := 6) (by decide) (by decide) (by decide) a b
      have c1 := free_bounds hf1
      have c2 := free_bounds hf2
      generalize free B (two 2 6 (leastB a) (leastB b)) = f1 at k4 hsub c1
      generalize free B (two 2 6 (leastB a) emptyB) = f2 at k6 hsub c2
      generalize minusB b a = mb at k8 k9 hsub
      generalize cnt mb = c at k9 hsub
      obtain ⟨c11, c12⟩ := c1
      obtain ⟨c21, c22⟩ := c2
      generalize leastB a = la at k2 k3 k4 k5 k6 k7 k10 hf1 hf2
      generalize leastB b = lb at k3 k4 k5 hf1
      replace k4 := Lib.hid k4
      replace k5 := Lib.hid k5
      replace k6 := Lib.hid k6
      replace k7 := Lib.hid k7
      replace k8 := Lib.hid k8
      replace k9 := Lib.hid k9
      replace k10 := Lib.hid k10
      clear hoa hob hf1 hf2
      go_enter Tryd.func5, Tryd.ntmps5
      go_wp2_with fail
      refine (k0.out _).mono ?_
      rintro en w' ⟨rfl, hw'⟩
      replace hw' := hw'.symm
      subst hw'
      go_wp2_with fail
      refine k1.out.mono ?_
      rintro en w1 ⟨rfl, hp, hb⟩
      rw [hg.out] at hb
      have hs := hb.size
      go_wp2_with fail
      refine (k2.out _ hp).mono ?_
      rintro en w' ⟨rfl, hp', g'⟩
      replace hb := hb.trans (Only.toBelow g' le_hp hs)
      replace hp := hp'
      clear g'
      replace hs := hb.size
      go_wp2_with fail
      refine (k3.out _ hp).mono ?_
      rintro en w' ⟨rfl, hp', g'⟩
      replace hb := hb.trans (Only.toBelow g' le_hp hs)
      replace hp := hp'
      clear g'
      replace hs := hb.size
      go_wp2_with fail
      refine (k4.out _ hp).mono ?_
      rintro en w' ⟨rfl, b'⟩
      replace hp := hp.below b'
      replace hb := hb.trans (b'.mono hs)
      clear b'
      replace hs := hb.size
      go_wp2_with fail
      refine (k5.out _ hp).mono ?_
      rintro en w' ⟨rfl, hp', g'⟩
      replace hb := hb.trans (Only.toBelow g' le_hp hs)
      replace hp := hp'
      clear g'
      replace hs := hb.size
      go_wp2_with fail
      refine (fixed_any _).mono ?_
      rintro en w' ⟨rfl, b'⟩
      replace hp := hp.below b'
      replace hb := hb.trans (b'.mono hs)
      clear b'
      replace hs := hb.size
      go_wp2_with fail
      refine (k6.out _ hp).mono ?_
      rintro en w' ⟨rfl, b'⟩
      replace hp := hp.below b'
      replace hb := hb.trans (b'.mono hs)
      clear b'
      replace hs := hb.size
      go_wp2_with fail
      refine (k8.out _).mono ?_
      rintro en w' ⟨rfl, b'⟩
      replace hp := hp.below b'
      replace hb := hb.trans (b'.mono hs)
      clear b'
      replace hs := hb.size
      go_wp2_with fail
      refine (k9.out _).mono ?_
      rintro en w' ⟨rfl, b'⟩
      replace hp := hp.below b'
      replace hb := hb.trans (b'.mono hs)
      clear b'
      replace hs := hb.size
      go_wp2_with fail
      refine (k7.out _ hp).mono ?_
      rintro en w' ⟨rfl, b'⟩
      replace hp := hp.below b'
      replace hb := hb.trans (b'.mono hs)
      clear b'
      replace hs := hb.size
      go_wp2_with fail
      refine (k10.out _).mono ?_
      rintro en w' ⟨rfl, b'⟩
      replace hp := hp.below b'
      replace hb := hb.trans (b'.mono hs)
      clear b'
      replace hs := hb.size
      go_wp2_with fail
      go_ret
      exact ⟨rfl, hb⟩
end Go.Proofs.YteghmnlngkcgiaaDoor.Planes

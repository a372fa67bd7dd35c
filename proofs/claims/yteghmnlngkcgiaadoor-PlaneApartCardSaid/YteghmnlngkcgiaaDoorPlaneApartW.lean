/- The walk of the law PlaneApart. -/
import Derived.Test.YteghmnlngkcgiaaDoorPlaneLaws
namespace Go.Proofs.YteghmnlngkcgiaaDoor.Planes
open Go.RowKit Mem Sets

set_option maxRecDepth 100000 in
set_option maxHeartbeats 2000000 in
theorem lawapart_any (n : Int) (a b : ByteArray) (w : World) (ha : a.size ≤ 140737488355328) (hb' : b.size ≤ 140737488355328) :
    Calls Tryd.prog 4 #[.int .i64 n, .string a, .string b] w fun e w' => e = .returned (.bool true) ∧ Below w.heap.size w w' := by
  have k0 := Lib.hid (fun W => bound_any n W)
  obtain ⟨B1, B2⟩ := bnd_le n
  generalize bnd n = B at k0 B1 B2
  have k1 := Lib.hid (new_ok B w (by omega))
  obtain ⟨g, hg⟩ : ∃ g, g = w.heap.size := ⟨_, rfl⟩
  rw [← hg] at k1
  have le_hp : w.heap.size ≤ g := Nat.le_of_eq hg.symm
  replace hg := Lib.hid hg
  have hB : B ≤ 4096 := by omega
  cases hoa : okSet B a with
  | false =>
    have k2 := Lib.hid (fun W p h => put_fail g B none8 W p a h ha hB hoa)
    have k3 := fun W h => used_any g B none8 W h (fit_none8 B) hB
    rw [used_none] at k3
    unfold emptyB at k3
    replace k3 := Lib.hid k3
    clear hoa
    go_enter Tryd.func4, Tryd.ntmps4
    go_wp2_with fail
    refine (k0.out _).mono ?_
    rintro en w' ⟨rfl, hw'⟩
    replace hw' := hw'.symm
    subst hw'
    go_wp2_with fail
    refine k1.out.mono ?_
    rintro en w1 ⟨rfl, hp, hb⟩
    rw [hg.out] at hb
    go_wp2_with fail
    replace hp := Lib.hid hp
    replace hb := Lib.hid hb
    go_loopw [9] (fun y wr => y = .int .i64 0 ∧ PMap wr g B none8 ∧ Below w.heap.size w wr) (fun _ _ => 0)
    case atStart => exact ⟨rfl, hp.out, hb.out⟩
    case round =>
      obtain ⟨rfl, hp, hb⟩ := hrel
      have hs := hb.size
      go_wp2_with fail
      refine (k2.out _ _ hp).mono ?_
      rintro en w' ⟨rfl, hp', g'⟩
      replace hb := hb.trans (Only.toBelow g' le_hp hs)
      replace hp := hp'
      clear g'
      replace hs := hb.size
      go_wp2_with fail
      refine (fixed_any _).mono ?_
      rintro en w' ⟨rfl, b'⟩
      replace hp := hp.below b'
      replace hb := hb.trans (b'.mono hs)
      clear b'
      replace hs := hb.size
      go_wp2_with fail
      refine (k3.out _ hp).mono ?_
      rintro en w' ⟨rfl, b'⟩
      replace hp := hp.below b'
      replace hb := hb.trans (b'.mono hs)
      clear b'
      replace hs := hb.size
      go_wp2_with fail
      go_ret
      exact ⟨rfl, hb⟩
  | true =>
    have k2 : Hid (∀ W (k : Nat), k < 8 → PMap W g B (all k (leastB a)) → Calls Tryd.prog 17 #[.pointer (some ⟨g, 0, none⟩), .int .i64 (k : Int), .string a] W fun e w' => e = .returned (.int .i64 0) ∧ PMap w' g B (all (k + 1) (leastB a)) ∧ W.grownBy w' (some g)) := Lib.hid (fun W k hk h => by
      have h := put_good g B (all k (leastB a)) W k k rfl a h ha hB hk hoa
      rw [all_step] at h
      exact h)
    have fa := okSet_fit hoa
    have kOa : Hid (∀ W, Calls Tryd.prog 21 #[.string a, .string ⟨#[]⟩] W fun e w' => e = .returned (.string (leastB a)) ∧ Below W.heap.size W w') := Lib.hid (fun W => or_b a emptyB W ha (by decide))
    have kOb : Hid (∀ W, Calls Tryd.prog 21 #[.string b, .string ⟨#[]⟩] W fun e w' => e = .returned (.string (leastB b)) ∧ Below W.heap.size W w') := Lib.hid (fun W => or_b b emptyB W hb' (by decide))
    generalize leastB a = p at k2 fa kOa
    have hz : ∀ w, PMap w g B none8 → PMap w g B (all 0 p) := fun w h => by rw [all_zero]; exact h
    cases hob : okSet B b with
    | false =>
      have k3 := Lib.hid (fun W h => put_fail g B (all 8 p) W 3 b h hb' hB hob)
      have k4 := fun W h => used_any g B (all 8 p) W h (fit_all fa) hB
      rw [used_all fa.1] at k4
      replace k4 := Lib.hid k4
      clear hoa hob fa
      go_enter Tryd.func4, Tryd.ntmps4
      go_wp2_with fail
      refine (k0.out _).mono ?_
      rintro en w' ⟨rfl, hw'⟩
      replace hw' := hw'.symm
      subst hw'
      go_wp2_with fail
      refine k1.out.mono ?_
      rintro en w1 ⟨rfl, hp, hb⟩
      rw [hg.out] at hb
      replace hp := hz _ hp
      go_wp2_with fail
      replace hp := Lib.hid hp
      replace hb := Lib.hid hb
      go_loopw [9] (fun y wr => ∃ k : Nat, k ≤ 8 ∧ y = .int .i64 (k : Int) ∧ PMap wr g B (all k p) ∧ Below w.heap.size w wr) (fun y _ => 8 - (intOf y).toNat)
      case atStart => exact ⟨0, by omega, rfl, hp.out, hb.out⟩
      case round =>
        obtain ⟨k, hk, rfl, hp, hb⟩ := hrel
        have hs := hb.size
        by_cases hlt : k < 8
        · have d8 : decide ((k : Int) < 8) = true := decide_eq_true (by omega)
          go_wp2_with fail
          refine (k2.out _ _ hlt hp).mono ?_
          rintro en w' ⟨rfl, hp', g'⟩
          replace hb := hb.trans (Only.toBelow g' le_hp hs)
          replace hp := hp'
          clear g'
          replace hs := hb.size
          go_wp2_with fail
          exact ⟨⟨k + 1, by omega, rfl, hp, hb⟩, by simp [intOf]; omega⟩
        · obtain rfl : k = 8 := by omega
          go_wp2_with fail
          refine (k3.out _ hp).mono ?_
          rintro en w' ⟨rfl, hp', g'⟩
          replace hb := hb.trans (Only.toBelow g' le_hp hs)
          replace hp := hp'
          clear g'
          replace hs := hb.size
          go_wp2_with fail
          refine (fixed_any _).mono ?_
          rintro en w' ⟨rfl, b'⟩
          replace hp := hp.below b'
          replace hb := hb.trans (b'.mono hs)
          clear b'
          replace hs := hb.size
          go_wp2_with fail
          refine (k4.out _ hp).mono ?_
          rintro en w' ⟨rfl, b'⟩
          replace hp := hp.below b'
          replace hb := hb.trans (b'.mono hs)
          clear b'
          replace hs := hb.size
          go_wp2_with fail
          refine (kOa.out _).mono ?_
          rintro en w' ⟨rfl, b'⟩
          replace hp := hp.below b'
          replace hb := hb.trans (b'.mono hs)
          clear b'
          replace hs := hb.size
          go_wp2_with fail
          go_ret
          exact ⟨rfl, hb⟩
    | true =>
      have fb := okSet_fit hob
      have k3 := fun W h => put_good g B (all 8 p) W 3 3 rfl b h hb' hB (by decide) hob
      generalize leastB b = q at k3 fb kOb
      have k4 := fun W h => copy_good g B (upd (all 8 p) 3 q) W 3 5 3 5 rfl rfl h (by decide) (by decide)
      rw [upd_same] at k4
      have k5 : Hid (∀ W, PMap W g B (upd (upd (all 8 p) 3 q) 5 q) → Calls Tryd.prog 20 #[.pointer (some ⟨g, 0, none⟩), .int .i64 3] W fun e w' => e = .returned (.int .i64 0) ∧ PMap w' g B (apart p q) ∧ W.grownBy w' (some g)) := Lib.hid (fun W h => clear_good g B (upd (upd (all 8 p) 3 q) 5 q) W 3 3 rfl h hB (by decide))
      have k6 := fun W (k : Nat) (hk : k < 8) h => plane_good g B (apart p q) W k k rfl h hk
      have hat := fun (k : Nat) (hk : k < 8) => apart_at p q hk
      replace k3 := Lib.hid k3
      replace k4 := Lib.hid k4
      replace k6 := Lib.hid k6
      replace hat := Lib.hid hat
      clear hoa hob fa fb
      go_enter Tryd.func4, Tryd.ntmps4
      go_wp2_with fail
      refine (k0.out _).mono ?_
      rintro en w' ⟨rfl, hw'⟩
      replace hw' := hw'.symm
      subst hw'
      go_wp2_with fail
      refine k1.out.mono ?_
      rintro en w1 ⟨rfl, hp, hb⟩
      rw [hg.out] at hb
      replace hp := hz _ hp
      go_wp2_with fail
      replace hp := Lib.hid hp
      replace hb := Lib.hid hb
      go_loopw [9] (fun y wr => ∃ k : Nat, k ≤ 8 ∧ y = .int .i64 (k : Int) ∧ PMap wr g B (all k p) ∧ Below w.heap.size w wr) (fun y _ => 8 - (intOf y).toNat)
      case atStart => exact ⟨0, by omega, rfl, hp.out, hb.out⟩
      case round =>
        clear hp hb
        obtain ⟨k, hk, rfl, hp, hb⟩ := hrel
        have hs := hb.size
        by_cases hlt : k < 8
        · have d8 : decide ((k : Int) < 8) = true := decide_eq_true (by omega)
          go_wp2_with fail
          refine (k2.out _ _ hlt hp).mono ?_
          rintro en w' ⟨rfl, hp', g'⟩
          replace hb := hb.trans (Only.toBelow g' le_hp hs)
          replace hp := hp'
          clear g'
          replace hs := hb.size
          go_wp2_with fail
          exact ⟨⟨k + 1, by omega, rfl, hp, hb⟩, by simp [intOf]; omega⟩
        · obtain rfl : k = 8 := by omega
          go_wp2_with fail
          refine (k3.out _ hp).mono ?_
          rintro en w' ⟨rfl, hp', g'⟩
          replace hb := hb.trans (Only.toBelow g' le_hp hs)
          replace hp := hp'
          clear g'
          replace hs := hb.size
          go_wp2_with fail
          refine (k4.out _ hp).mono ?_
          rintro en w' ⟨rfl, hp', g'⟩
          replace hb := hb.trans (Only.toBelow g' le_hp hs)
          replace hp := hp'
          clear g'
          replace hs := hb.size
          go_wp2_with fail
          refine (k5.out _ hp).mono ?_
          rintro en w' ⟨rfl, hp', g'⟩
          replace hb := hb.trans (Only.toBelow g' le_hp hs)
          replace hp := hp'
          clear g'
          replace hs := hb.size
          go_wp2_with fail
          replace hp := Lib.hid hp
          replace hb := Lib.hid hb
          clear hs
          go_loopw [10] (fun y wr => ∃ k : Nat, k ≤ 8 ∧ y = .int .i64 (k : Int) ∧ PMap wr g B (apart p q) ∧ Below w.heap.size w wr) (fun y _ => 8 - (intOf y).toNat)
          case atStart => exact ⟨0, by omega, rfl, hp.out, hb.out⟩
          case round =>
            clear hp hb
            obtain ⟨k, hk, rfl, hp, hb⟩ := hrel
            have hs := hb.size
            by_cases hlt : k < 8
            · have d8 : decide ((k : Int) < 8) = true := decide_eq_true (by omega)
              have k7 := k6.out wr k hlt hp
              rw [hat.out k hlt] at k7
              by_cases h3 : k = 3
              · rw [if_pos h3] at k7
                have i3 : ((k : Int) == 3) = true := by simp; omega
                have i5 : ((k : Int) == 5) = false := by simp; omega
                unfold emptyB at k7
                replace k7 := Lib.hid k7
                replace h3 := Lib.hid h3
                go_wp2_with fail
                refine (k7.out).mono ?_
                rintro en w' ⟨rfl, b'⟩
                replace hp := hp.below b'
                replace hb := hb.trans (b'.mono hs)
                clear b'
                replace hs := hb.size
                go_wp2_with fail
                refine (kOa.out _).mono ?_
                rintro en w' ⟨rfl, b'⟩
                replace hp := hp.below b'
                replace hb := hb.trans (b'.mono hs)
                clear b'
                replace hs := hb.size
                go_wp2_with fail
                exact ⟨⟨k + 1, by omega, rfl, hp, hb⟩, by simp [intOf]; omega⟩
              · rw [if_neg h3] at k7
                have i3 : ((k : Int) == 3) = false := by simp; omega
                by_cases h5 : k = 5
                · rw [if_pos h5] at k7
                  have i5 : ((k : Int) == 5) = true := by simp; omega
                  replace k7 := Lib.hid k7
                  replace h5 := Lib.hid h5
                  clear h3
                  go_wp2_with fail
                  refine (k7.out).mono ?_
                  rintro en w' ⟨rfl, b'⟩
                  replace hp := hp.below b'
                  replace hb := hb.trans (b'.mono hs)
                  clear b'
                  replace hs := hb.size
                  go_wp2_with fail
                  refine (kOa.out _).mono ?_
                  rintro en w' ⟨rfl, b'⟩
                  replace hp := hp.below b'
                  replace hb := hb.trans (b'.mono hs)
                  clear b'
                  replace hs := hb.size
                  go_wp2_with fail
                  refine (kOb.out _).mono ?_
                  rintro en w' ⟨rfl, b'⟩
                  replace hp := hp.below b'
                  replace hb := hb.trans (b'.mono hs)
                  clear b'
                  replace hs := hb.size
                  go_wp2_with fail
                  exact ⟨⟨k + 1, by omega, rfl, hp, hb⟩, by simp [intOf]; omega⟩
                · rw [if_neg h5] at k7
                  have i5 : ((k : Int) == 5) = false := by simp; omega
                  replace k7 := Lib.hid k7
                  clear h3 h5
                  go_wp2_with fail
                  refine (k7.out).mono ?_
                  rintro en w' ⟨rfl, b'⟩
                  replace hp := hp.below b'
                  replace hb := hb.trans (b'.mono hs)
                  clear b'
                  replace hs := hb.size
                  go_wp2_with fail
                  refine (kOa.out _).mono ?_
                  rintro en w' ⟨rfl, b'⟩
                  replace hp := hp.below b'
                  replace hb := hb.trans (b'.mono hs)
                  clear b'
                  replace hs := hb.size
                  go_wp2_with fail
                  exact ⟨⟨k + 1, by omega, rfl, hp, hb⟩, by simp [intOf]; omega⟩
            · obtain rfl : k = 8 := by omega
              go_wp2_with fail
              refine (fixed_any _).mono ?_
              rintro en w' ⟨rfl, b'⟩
              replace hp := hp.below b'
              replace hb := hb.trans (b'.mono hs)
              clear b'
              replace hs := hb.size
              go_wp2_with fail
              go_ret
              exact ⟨rfl, hb⟩
end Go.Proofs.YteghmnlngkcgiaaDoor.Planes

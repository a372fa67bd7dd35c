/- Sets: the document's Gap. -/
import Derived.Test.YtfijicdniabkoaaDoorSetWalkE
namespace Go.Proofs.YtfijicdniabkoaaDoor.Sets
open Go.RowKit Mem

set_option maxRecDepth 100000 in
set_option maxHeartbeats 1000000 in
theorem rgap_any (s : ByteArray) (a e : Int) (w : World) (ha : a ≤ 9223372036854775807) (he : e ≤ 9223372036854775807) (hs : s.size ≤ 140737488355328) :
    Calls Tryd.prog 29 #[.string s, .int .i64 a, .int .i64 e] w fun en w' => en = .returned (toldVal (gap s.data.toList a e)) ∧ w' = w := by
  obtain ⟨A, hA⟩ : ∃ z, z = a.toNat := ⟨_, rfl⟩
  obtain ⟨R, hR⟩ : ∃ z, z = seek (fun m => !has s.data.toList m) (e - (A : Int)).toNat A := ⟨_, rfl⟩
  have hg : gap s.data.toList a e = told R := by
    rw [gap, hR, show (max 0 a).toNat = A by omega, show max 0 a = (A : Int) by omega]
  rw [hg]
  clear hg
  replace hR := Lib.hid hR
  replace hA := Lib.hid hA
  have hsl := Lib.hid (Lib.size_eq s)
  go_enter Tryd.func29, Tryd.ntmps29
  go_wp2_with fail
  go_loop [8] (fun y => ∃ n : Nat, (n ≤ 8 * s.size ∧ (n = 0 ∨ A ≤ 8 * s.size)) ∧ y = .int .i64 (n : Int) ∧ R = seek (fun m => !has s.data.toList m) (e - ((if n < A then A + n else n : Nat) : Int)).toNat (if n < A then A + n else n)) (fun y => 8 * s.size + 1 - (intOf y).toNat)
  case atStart => exact ⟨0, ⟨Nat.zero_le _, Or.inl rfl⟩, rfl, by
    by_cases h : 0 < A
    · rw [if_pos h]; exact hR.out
    · rw [if_neg h, show (0 : Nat) = A by omega]; exact hR.out⟩
  case round =>
    obtain ⟨n, ⟨hn, hn0⟩, rfl, hr⟩ := hrel
    have hAi := hA.out
    obtain ⟨m, hm⟩ : ∃ z, z = if n < A then A + n else n := ⟨_, rfl⟩
    rw [← hm] at hr
    have hcase : (n < A ∧ (n : Int) < a ∧ a + (n : Int) = (m : Int)) ∨ (¬ n < A ∧ ¬ (n : Int) < a ∧ n = m) := by
      by_cases h : n < A
      · rw [if_pos h] at hm; exact Or.inl ⟨h, by omega, by omega⟩
      · rw [if_neg h] at hm; exact Or.inr ⟨h, by omega, hm.symm⟩
    have m63 : m ≤ 9223372036854775807 := by omega
    rcases hcase with ⟨h1, h2, h3⟩ | ⟨h1, h2, h3⟩
    · replace h1 := Lib.hid h1
      by_cases hlt : (m : Int) < e
      · obtain ⟨k, hk⟩ : ∃ k, (e - (m : Int)).toNat = k + 1 := ⟨(e - (m : Int)).toNat - 1, by omega⟩
        have hk2 : (e - ((m + 1 : Nat) : Int)).toNat = k := by omega
        rw [hk, seek] at hr
        have c1 := rhas_any s (m : Int) w (by omega)
        rw [hasI, decide_eq_true (by omega), Bool.true_and, Int.toNat_natCast] at c1
        by_cases hh : has s.data.toList m = true
        · have hm8 : m < 8 * s.size := by
            refine Classical.byContradiction fun h => ?_
            rw [has_beyond (by rw [← hsl.out]; omega)] at hh
            cases hh
          rw [hh] at c1
          rw [if_neg (by simp [hh]), ← hk2] at hr
          replace hr := Lib.hid hr
          replace c1 := Lib.hid c1
          replace hm := Lib.hid hm
          replace hn0 := Lib.hid hn0
          replace hAi := Lib.hid hAi
          clear hh hk hk2
          go_wp2_with fail
          refine c1.out.mono ?_
          rintro en w2 ⟨rfl, rfl⟩
          go_wp2_with fail
          go_round
          case rel =>
            have hAo := hAi.out
            refine ⟨n + 1, ⟨by omega, Or.inr (by omega)⟩, by go_num, ?_⟩
            by_cases h1 : n + 1 < A
            · rw [if_pos h1, show A + (n + 1) = m + 1 by omega]
              exact hr.out
            · rw [if_neg h1]
              by_cases h2 : n < A
              · rw [show n + 1 = A by omega]
                exact hR.out
              · rw [show n + 1 = m + 1 by omega]
                exact hr.out
          case measure => simp [intOf]; omega
        · have hf : has s.data.toList m = false := by simpa using hh
          rw [hf] at c1
          rw [if_pos (by simp [hf])] at hr
          replace c1 := Lib.hid c1
          replace hr := Lib.hid hr
          replace hm := Lib.hid hm
          replace hn0 := Lib.hid hn0
          replace hAi := Lib.hid hAi
          clear hh hf hk hk2
          go_wp2_with fail
          refine c1.out.mono ?_
          rintro en w2 ⟨rfl, rfl⟩
          go_wp2_with fail
          go_ret2
          rw [hr.out]
          exact ⟨rfl, rfl⟩
      · have hn' : R = none := by rw [hr, show (e - (m : Int)).toNat = 0 by omega]; rfl
        replace hn' := Lib.hid hn'
        replace hm := Lib.hid hm
        replace hn0 := Lib.hid hn0
        replace hAi := Lib.hid hAi
        clear hr
        go_wp2_with fail
        go_ret2
        rw [hn'.out]
        exact ⟨rfl, rfl⟩
    · subst h3
      replace h1 := Lib.hid h1
      by_cases hlt : (n : Int) < e
      · obtain ⟨k, hk⟩ : ∃ k, (e - (n : Int)).toNat = k + 1 := ⟨(e - (n : Int)).toNat - 1, by omega⟩
        have hk2 : (e - ((n + 1 : Nat) : Int)).toNat = k := by omega
        rw [hk, seek] at hr
        have c1 := rhas_any s (n : Int) w (by omega)
        rw [hasI, decide_eq_true (by omega), Bool.true_and, Int.toNat_natCast] at c1
        by_cases hh : has s.data.toList n = true
        · have hm8 : n < 8 * s.size := by
            refine Classical.byContradiction fun h => ?_
            rw [has_beyond (by rw [← hsl.out]; omega)] at hh
            cases hh
          rw [hh] at c1
          rw [if_neg (by simp [hh]), ← hk2] at hr
          replace hr := Lib.hid hr
          replace c1 := Lib.hid c1
          replace hm := Lib.hid hm
          replace hn0 := Lib.hid hn0
          replace hAi := Lib.hid hAi
          clear hh hk hk2
          go_wp2_with fail
          refine c1.out.mono ?_
          rintro en w2 ⟨rfl, rfl⟩
          go_wp2_with fail
          go_round
          case rel =>
            have hAo := hAi.out
            refine ⟨n + 1, ⟨by omega, Or.inr (by omega)⟩, by go_num, ?_⟩
            rw [if_neg (by have := h1.out; omega)]
            exact hr.out
          case measure => simp [intOf]; omega
        · have hf : has s.data.toList n = false := by simpa using hh
          rw [hf] at c1
          rw [if_pos (by simp [hf])] at hr
          replace c1 := Lib.hid c1
          replace hr := Lib.hid hr
          replace hm := Lib.hid hm
          replace hn0 := Lib.hid hn0
          replace hAi := Lib.hid hAi
          clear hh hf hk hk2
          go_wp2_with fail
          refine c1.out.mono ?_
          rintro en w2 ⟨rfl, rfl⟩
          go_wp2_with fail
          go_ret2
          rw [hr.out]
          exact ⟨rfl, rfl⟩
      · have hn' : R = none := by rw [hr, show (e - (n : Int)).toNat = 0 by omega]; rfl
        replace hn' := Lib.hid hn'
        replace hm := Lib.hid hm
        replace hn0 := Lib.hid hn0
        replace hAi := Lib.hid hAi
        clear hr
        go_wp2_with fail
        go_ret2
        rw [hn'.out]
        exact ⟨rfl, rfl⟩
end Go.Proofs.YtfijicdniabkoaaDoor.Sets

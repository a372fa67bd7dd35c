/- The walk of the law SetsBack. -/
import Derived.Test.YtfijicdniabkoaaDoorSetLawsC
namespace Go.Proofs.YtfijicdniabkoaaDoor.Sets
open Go.RowKit Mem

set_option maxRecDepth 100000 in
set_option maxHeartbeats 4000000 in
theorem lawback_any (s : ByteArray) (n : Int) (w : World) (hs' : s.size ≤ 140737488355328) (hn : n ≤ 9223372036854775807) :
    Calls Tryd.prog 8 #[.string s, .int .i64 n] w fun e w' => e = .returned (.bool true) ∧ Below w.heap.size w w' := by
  have hx := cut_le 3000 s
  have k0 := Lib.hid (fun W => short_any s W hs')
  clear hs'
  generalize cut 3000 s = x at hx k0
  obtain ⟨T, hT⟩ : ∃ T, T = orB x emptyB := ⟨_, rfl⟩
  have hTs : T.size ≤ 3000 := by rw [hT]; exact or_size hx (by decide)
  have hTh : ∀ m, has T.data.toList m = has x.data.toList m := fun m => by
    rw [hT]
    have := hasB_or x emptyB m
    rw [hasB_empty, Bool.or_false] at this
    exact this
  have k1 := fun W => list_any x W (by omega)
  have k2 := fun A c W hr => of_out A (elems x.data.toList).length c (elems x.data.toList) W hr (by have := elems_length_le x.data.toList; rw [← Lib.size_eq x] at this; omega)
  rw [ofOut_elems (by omega), ← hT] at k2
  have eT : (⟨T.data.toList.toArray⟩ : ByteArray) = T := rfl
  simp only [eT] at k2
  have k3 := fun W => or_b x emptyB W (by omega) (by decide)
  rw [← hT, emptyB] at k3
  have k4 := fun W => count_any T (by omega) W
  rw [elems_congr hTh] at k4
  have k5 : ∀ (X : Int) (S : ByteArray) W, X ∈ elems x.data.toList → S = x ∨ S = T → Calls Tryd.prog 20 #[.string S, .int .i64 X] W fun e w' => e = .returned (.bool true) ∧ w' = W := by
    intro X S W hX hS
    have hle : X ≤ 9223372036854775807 := by
      obtain ⟨m, rfl, h1, _⟩ := mem_elems.1 hX
      rw [← Lib.size_eq x] at h1
      omega
    have h := has_any S X W hle
    have e : hasI S.data.toList X = true := by
      rcases hS with rfl | rfl
      · rw [hasI_mem]; exact decide_eq_true hX
      · rw [hasI_congr hTh, hasI_mem]; exact decide_eq_true hX
    rw [e] at h
    exact h
  have k6 := fun W => has_any x n W hn
  rw [hasI_mem] at k6
  have k7 := fun W => has_any x (-1) W (by decide)
  rw [show hasI x.data.toList (-1) = false from rfl] at k7
  have hsrt := elems_sorted x.data.toList
  have hN := elems_length_le x.data.toList
  rw [← Lib.size_eq x] at hN
  clear hT hTh eT
  generalize elems x.data.toList = ls at k1 k2 k4 k5 k6 hsrt hN
  obtain ⟨N, hNN⟩ : ∃ N, N = ls.length := ⟨_, rfl⟩
  rw [← hNN] at hN k1 k2 k4
  have hN2 : N ≤ 24000 := by omega
  clear hN
  replace hNN := Lib.hid hNN
  replace hsrt := Lib.hid hsrt
  replace k1 := Lib.hid k1
  replace k2 := Lib.hid k2
  replace k3 := Lib.hid k3
  replace k4 := Lib.hid k4
  replace k5 := Lib.hid k5
  replace k6 := Lib.hid k6
  replace k7 := Lib.hid k7
  have hb := Below.refl w.heap.size w
  have hs := hb.size
  go_enter Tryd.func8, Tryd.ntmps8
  go_wp2_with fail
  refine (k0.out _).mono ?_
  rintro en w' ⟨rfl, hw'⟩
  replace hw' := hw'.symm
  subst hw'
  go_wp2_with fail
  refine (k1.out _).mono ?_
  rintro en w' ⟨lv, rfl, lo, b'⟩
  replace hb := hb.trans (b'.mono hs)
  clear b'
  replace hs := hb.size
  obtain ⟨Al, cl, rfl⟩ := own_slice lo
  have hl := Row.of_own lo
  clear lo
  go_wp2_with fail
  refine (k2.out Al cl _ hl).mono ?_
  rintro en w2 ⟨rfl, b'⟩
  replace hl := hl.below b'
  replace hb := hb.trans (b'.mono hs)
  clear b'
  replace hs := hb.size
  go_wp2_with fail
  refine (fixed_any _).mono ?_
  rintro en w3 ⟨rfl, b'⟩
  replace hl := hl.below b'
  replace hb := hb.trans (b'.mono hs)
  clear b'
  replace hs := hb.size
  go_wp2_with fail
  refine (k3.out _).mono ?_
  rintro en w4 ⟨rfl, b'⟩
  replace hl := hl.below b'
  replace hb := hb.trans (b'.mono hs)
  clear b'
  replace hs := hb.size
  go_wp2_with fail
  refine (k4.out _).mono ?_
  rintro en w5 ⟨rfl, b'⟩
  replace hl := hl.below b'
  replace hb := hb.trans (b'.mono hs)
  clear b'
  replace hs := hb.size
  go_wp2_with fail
  go_loopw [8, 9] (fun f t wr => ∃ (k : Nat) (F : Bool), k ≤ N ∧ t = .int .i64 (k : Int) ∧ f = .bool F ∧ F = decide (n ∈ ls.take k) ∧ Below w.heap.size w wr ∧ Row wr Al N (ls.map (Value.int .i64))) (fun _ t _ => N - (intOf t).toNat)
  case atStart => exact ⟨0, false, by omega, rfl, rfl, by simp, hb, hl⟩
  case round =>
    clear hb hs hl
    obtain ⟨k, F, hk, rfl, rfl, hF, hb, hl⟩ := hrel
    have hs := hb.size
    replace hF := Lib.hid hF
    by_cases hlt : k < N
    · obtain ⟨ad, u, rfl, hu, hc⟩ := hl.at_ hlt
      obtain ⟨X, hX, rfl⟩ := getMap_int hu
      have hmem := Lib.hid (List.mem_of_getElem? hX)
      clear hu
      have hxn : F = decide (n ∈ ls.take k) → (F || (X == n)) = decide (n ∈ ls.take (k + 1)) := fun h => by
        rw [h, take_snoc_of hX, Bool.eq_iff_iff]
        simp only [Bool.or_eq_true, decide_eq_true_eq, beq_iff_eq, List.mem_append, List.mem_singleton]
        constructor
        · rintro (h | rfl)
          · exact .inl h
          · exact .inr rfl
        · rintro (h | rfl)
          · exact .inl h
          · exact .inr rfl
      replace hxn := Lib.hid (hxn hF.out)
      by_cases hk0 : k = 0
      · have hd1 : decide (0 < k) = false := decide_eq_false (by omega)
        clear hk0
        replace hX := Lib.hid hX
        replace hl := Lib.hid hl
        go_wp2_with fail
        go_quiet ((go_at_call 20; exact Calls.quiet_of_same (k5.out X _ _ hmem.out (by first | exact Or.inl rfl | exact Or.inr rfl))))
        cases F
        · cases hb1 : (X == n)
          all_goals
            have hb1' := Lib.hid hb1
            rw [hb1] at hxn
            go_wp2_with fail
            exact ⟨⟨k + 1, _, by omega, rfl, rfl, hxn.out, below_drewN hb _, hl.out.keep (fun _ _ => rfl)⟩, by simp [intOf]; omega⟩
        · go_wp2_with fail
          exact ⟨⟨k + 1, _, by omega, rfl, rfl, hxn.out, below_drewN hb _, hl.out.keep (fun _ _ => rfl)⟩, by simp [intOf]; omega⟩
      · obtain ⟨ad2, u2, hae, hu2, hc2⟩ := hl.at_ (show k - 1 < N by omega)
        injection hae with hae
        subst hae
        obtain ⟨Y, hY, rfl⟩ := getMap_int hu2
        clear hu2
        have hYX : Y < X := by
          obtain ⟨h1, e1⟩ := List.getElem?_eq_some_iff.1 hX
          obtain ⟨h2, e2⟩ := List.getElem?_eq_some_iff.1 hY
          have := List.pairwise_iff_getElem.1 hsrt.out (k - 1) k h2 h1 (by omega)
          rw [e1, e2] at this
          exact this
        have hd1 : decide (0 < k) = true := decide_eq_true (by omega)
        have hd2 : decide (X ≤ Y) = false := decide_eq_false (by omega)
        have hk1 : ((k : Int) - 1).toNat = k - 1 := by omega
        replace hX := Lib.hid hX
        replace hY := Lib.hid hY
        replace hl := Lib.hid hl
        go_wp2_with fail
        go_quiet ((go_at_call 20; exact Calls.quiet_of_same (k5.out X _ _ hmem.out (by first | exact Or.inl rfl | exact Or.inr rfl))))
        cases F
        · cases hb1 : (X == n)
          all_goals
            have hb1' := Lib.hid hb1
            rw [hb1] at hxn
            go_wp2_with fail
            exact ⟨⟨k + 1, _, by omega, rfl, rfl, hxn.out, below_drewN hb _, hl.out.keep (fun _ _ => rfl)⟩, by simp [intOf]; omega⟩
        · go_wp2_with fail
          exact ⟨⟨k + 1, _, by omega, rfl, rfl, hxn.out, below_drewN hb _, hl.out.keep (fun _ _ => rfl)⟩, by simp [intOf]; omega⟩
    · obtain rfl : k = N := by omega
      have hFn : F = decide (n ∈ ls) := by
        have h := hF.out
        rwa [List.take_of_length_le (by rw [← hNN.out]; exact Nat.le_refl _)] at h
      have k6' := k6.out
      rw [← hFn] at k6'
      replace k6' := Lib.hid k6'
      replace hFn := Lib.hid hFn
      clear hl
      go_wp2_with fail
      refine (k6'.out _).mono ?_
      rintro en w' ⟨rfl, hw'⟩
      replace hw' := hw'.symm
      subst hw'
      go_wp2_with fail
      refine (k7.out _).mono ?_
      rintro en w' ⟨rfl, hw'⟩
      replace hw' := hw'.symm
      subst hw'
      go_wp2_with fail
      go_ret
      exact ⟨rfl, hb⟩
end Go.Proofs.YtfijicdniabkoaaDoor.Sets

/- Planes: the document's map by its planes: Plane, Put, Copy, Diff, Used, Free. -/
import Derived.Test.YteghmnlngkcgiaaDoorPlaneWalkH
namespace Go.Proofs.YteghmnlngkcgiaaDoor.Planes
open Go.RowKit Mem Sets

theorem textL_congr {B : Nat} {P Q : Pl} (h : ∀ k, k < 8 → P k = Q k) : textL B P = textL B Q := mk_congr fun m _ => by rw [h _ (Nat.mod_lt _ (by decide))]
section
variable (g b B : Nat) (P : Pl) (w : World)
theorem dplane_any (p : Int) (h : RMap w g b (textL B P)) (hf : FitAll B P) (hB : B ≤ 4096) (hp : p ≤ 9223372036854775807) :
    Calls Tryd.prog 32 #[.pointer (some ⟨g, 0, none⟩), .int .i64 p] w fun e w' => e = .returned (.tuple #[.string (planeS P p), .int .i64 (planeE p)]) ∧ Below w.heap.size w w' := by
  have k := rplane_any g b (textL B P) w p h (by rw [textL_length]; exact hB) hp
  have e : planeS (setOf (textL B P)) p = planeS P p := by
    unfold planeS
    split
    · next hi => rw [isP_iff] at hi; exact setOf_textL hf (by omega)
    · rfl
  rw [e] at k
  exact k
theorem dused_any (h : RMap w g b (textL B P)) (hf : FitAll B P) (hB : B ≤ 4096) :
    Calls Tryd.prog 33 #[.pointer (some ⟨g, 0, none⟩)] w fun e w' => e = .returned (.string (used P)) ∧ Below w.heap.size w w' := by
  have k := rused_any g b (textL B P) w h (by rw [textL_length]; exact hB)
  rw [setU_textL hf] at k
  exact k
theorem dfree_any (h : RMap w g b (textL B P)) (hf : FitAll B P) (hB : B ≤ 4096) (h1 : 1 ≤ B) :
    Calls Tryd.prog 34 #[.pointer (some ⟨g, 0, none⟩)] w fun e w' => e = .returned (.int .i64 (free B P)) ∧ w' = w := by
  have k := rfree_any g b (textL B P) w h (by rw [textL_length]; exact hB) (by rw [textL_length]; exact h1)
  rw [textL_length, free_eq hf h1] at k
  exact k
theorem dput_any (p : Int) (s : ByteArray) (h : RMap w g b (textL B P)) (hf : FitAll B P) (hB : B ≤ 4096) (h1 : 1 ≤ B) (hp : p ≤ 9223372036854775807) (hs : s.size ≤ 2000000) :
    Calls Tryd.prog 28 #[.pointer (some ⟨g, 0, none⟩), .int .i64 p, .string s] w fun e w' => e = .returned (.int .i64 (putE B p s)) ∧ (∃ b', RMap w' g b' (textL B (putP B P p s)) ∧ (b' = b ∨ w.heap.size ≤ b')) ∧ w.grownBy w' (some g) := by
  cases hb : (isP p && okSet B s) with
  | false =>
    refine (rput_no g b (textL B P) w p s h hp hs (by rw [textL_length]; exact hb)).mono ?_
    rintro e w' ⟨h1, h2⟩
    unfold putE putP
    rw [if_neg (by rw [hb]; decide), if_neg (by rw [hb]; decide)]
    exact ⟨h1, ⟨b, h.below h2, Or.inl rfl⟩, Only.of_below h2 _⟩
  | true =>
    have hb' := hb
    rw [Bool.and_eq_true, isP_iff] at hb'
    obtain ⟨k, rfl⟩ := Int.eq_ofNat_of_zero_le hb'.1.1
    have hk : k < 8 := by omega
    refine (rput_yes g b (textL B P) w k s h (by rw [textL_length]; exact hB) (by rw [textL_length]; exact h1) hk hs (by rw [textL_length]; exact hb'.2)).mono ?_
    rintro e w' ⟨h1, ⟨b', h2, h3⟩, h4⟩
    unfold putE putP
    rw [if_pos hb, if_pos hb, Int.toNat_natCast]
    rw [textL_length, qp_all hf hk] at h2
    exact ⟨h1, ⟨b', h2, Or.inr h3⟩, h4⟩
set_option maxRecDepth 100000 in
set_option maxHeartbeats 1000000 in
theorem dcopy_any (p q : Int) (h : RMap w g b (textL B P)) (hf : FitAll B P) (hB : B ≤ 4096) (h1 : 1 ≤ B) (hp : p ≤ 9223372036854775807) (hq : q ≤ 9223372036854775807) :
    Calls Tryd.prog 29 #[.pointer (some ⟨g, 0, none⟩), .int .i64 p, .int .i64 q] w fun e w' => e = .returned (.int .i64 (copyE p q)) ∧ (∃ b', RMap w' g b' (textL B (copyP P p q)) ∧ (b' = b ∨ w.heap.size ≤ b')) ∧ w.grownBy w' (some g) := by
  have k1 := fun W => ris_any p W hp
  have k2 := fun W => ris_any q W hq
  unfold copyE copyP
  cases hi : isP p with
  | false =>
    rw [hi] at k1
    rw [Bool.false_and, if_neg (by decide), if_neg (by decide)]
    replace k1 := Lib.hid k1
    replace h := Lib.hid h
    clear k2 hi hf
    go_enter Tryd.func29, Tryd.ntmps29
    go_wp2_with fail
    refine (k1.out _).mono ?_
    rintro en w' ⟨rfl, hw'⟩
    replace hw' := hw'.symm
    subst hw'
    go_wp2_with fail
    go_ret
    exact ⟨rfl, ⟨b, h.out, Or.inl rfl⟩, Only.refl _ _⟩
  | true =>
    rw [hi] at k1
    cases hj : isP q with
    | false =>
      rw [hj] at k2
      rw [Bool.and_false, if_neg (by decide), if_neg (by decide)]
      replace k1 := Lib.hid k1
      replace k2 := Lib.hid k2
      replace h := Lib.hid h
      clear hi hj hf
      go_enter Tryd.func29, Tryd.ntmps29
      go_wp2_with fail
      refine (k1.out _).mono ?_
      rintro en w' ⟨rfl, hw'⟩
      replace hw' := hw'.symm
      subst hw'
      go_wp2_with fail
      refine (k2.out _).mono ?_
      rintro en w' ⟨rfl, hw'⟩
      replace hw' := hw'.symm
      subst hw'
      go_wp2_with fail
      go_ret
      exact ⟨rfl, ⟨b, h.out, Or.inl rfl⟩, Only.refl _ _⟩
    | true =>
      rw [hj] at k2
      rw [Bool.and_true, if_pos rfl, if_pos rfl]
      have hk : p.toNat < 8 := by rw [isP_iff] at hi; omega
      have hfp := hf _ hk
      have hok : okSet B (P p.toNat) = true := okSet_iff.2 hfp.2
      have k3 := dplane_any g b B P w p h hf hB hp
      rw [planeS, if_pos hi, planeE, if_pos hi] at k3
      have k4 := fun W b (hR : RMap W g b (textL B P)) => dput_any g b B P W q (P p.toNat) hR hf hB h1 hq (Nat.le_trans (hfp.size (n := 512) (by omega)) (by decide))
      simp only [putE, putP, hj, hok, Bool.and_true, if_true, leastB_eq hfp.1] at k4
      generalize P p.toNat = s at k3 k4 ⊢
      generalize upd P q.toNat s = Q at k4 ⊢
      replace k1 := Lib.hid k1
      replace k2 := Lib.hid k2
      replace k3 := Lib.hid k3
      replace k4 := Lib.hid k4
      replace h := Lib.hid h
      clear hi hj hf hfp hok hk
      go_enter Tryd.func29, Tryd.ntmps29
      go_wp2_with fail
      refine (k1.out _).mono ?_
      rintro en w' ⟨rfl, hw'⟩
      replace hw' := hw'.symm
      subst hw'
      go_wp2_with fail
      refine (k2.out _).mono ?_
      rintro en w' ⟨rfl, hw'⟩
      replace hw' := hw'.symm
      subst hw'
      go_wp2_with fail
      refine k3.out.mono ?_
      rintro en w1 ⟨rfl, b1⟩
      go_wp2_with fail
      refine (k4.out _ _ (h.out.below b1)).mono ?_
      rintro en w2 ⟨rfl, ⟨b', h2, h3⟩, h4⟩
      have hg := Only.own (row := some g) (Only.of_below b1 (some g)) h4 
      have hR : ∃ b', RMap w2 g b' (textL B Q) ∧ (b' = b ∨ w.heap.size ≤ b') := ⟨b', h2, by rcases h3 with h3 | h3; exact Or.inl h3; exact Or.inr (Nat.le_trans b1.size h3)⟩
      have hgr : w.grownBy w2 (some g) := Only.trans (Only.of_below b1 (some g)) h4
      clear hg h2 h3 h4 b1
      replace hR := Lib.hid hR
      replace hgr := Lib.hid hgr
      go_wp2_with fail
      go_ret
      exact ⟨rfl, hR.out, hgr.out⟩
set_option maxRecDepth 100000 in
set_option maxHeartbeats 1000000 in
theorem ddiff_any (p q : Int) (h : RMap w g b (textL B P)) (hf : FitAll B P) (hB : B ≤ 4096) (hp : p ≤ 9223372036854775807) (hq : q ≤ 9223372036854775807) :
    Calls Tryd.prog 30 #[.pointer (some ⟨g, 0, none⟩), .int .i64 p, .int .i64 q] w fun e w' => e = .returned (.tuple #[.string (diffS P p q), .string (diffT P p q), .int .i64 (copyE p q)]) ∧ Below w.heap.size w w' := by
  have k1 := fun W => ris_any p W hp
  have k2 := fun W => ris_any q W hq
  unfold copyE diffS diffT
  cases hi : isP p with
  | false =>
    rw [hi] at k1
    rw [Bool.false_and, if_neg (by decide), if_neg (by decide), if_neg (by decide)]
    replace k1 := Lib.hid k1
    clear k2 hi hf h
    go_enter Tryd.func30, Tryd.ntmps30
    go_wp2_with fail
    refine (k1.out _).mono ?_
    rintro en w' ⟨rfl, hw'⟩
    replace hw' := hw'.symm
    subst hw'
    go_wp2_with fail
    go_ret3
    exact ⟨rfl, Below.refl _ _⟩
  | true =>
    rw [hi] at k1
    cases hj : isP q with
    | false =>
      rw [hj] at k2
      rw [Bool.and_false, if_neg (by decide), if_neg (by decide), if_neg (by decide)]
      replace k1 := Lib.hid k1
      replace k2 := Lib.hid k2
      clear hi hj hf h
      go_enter Tryd.func30, Tryd.ntmps30
      go_wp2_with fail
      refine (k1.out _).mono ?_
      rintro en w' ⟨rfl, hw'⟩
      replace hw' := hw'.symm
      subst hw'
      go_wp2_with fail
      refine (k2.out _).mono ?_
      rintro en w' ⟨rfl, hw'⟩
      replace hw' := hw'.symm
      subst hw'
      go_wp2_with fail
      go_ret3
      exact ⟨rfl, Below.refl _ _⟩
    | true =>
      rw [hj] at k2
      rw [Bool.and_true, if_pos rfl, if_pos rfl, if_pos rfl]
      have hk : p.toNat < 8 := by rw [isP_iff] at hi; omega
      have hk2 : q.toNat < 8 := by rw [isP_iff] at hj; omega
      have z1 := (hf _ hk).size (n := 512) (by omega)
      have z2 := (hf _ hk2).size (n := 512) (by omega)
      have k3 := dplane_any g b B P w p h hf hB hp
      rw [planeS, if_pos hi, planeE, if_pos hi] at k3
      have k4 := fun W (hR : RMap W g b (textL B P)) => dplane_any g b B P W q hR hf hB hq
      simp only [planeS, planeE, hj, if_true] at k4
      generalize P p.toNat = s at k3 z1 ⊢
      generalize P q.toNat = t at k4 z2 ⊢
      have k5 := fun W => make2_b t s W (by omega) (by omega)
      have k6 := fun W => make2_b s t W (by omega) (by omega)
      generalize minusB t s = x at k5 ⊢
      generalize minusB s t = y at k6 ⊢
      replace k1 := Lib.hid k1
      replace k2 := Lib.hid k2
      replace k3 := Lib.hid k3
      replace k4 := Lib.hid k4
      replace k5 := Lib.hid k5
      replace k6 := Lib.hid k6
      replace h := Lib.hid h
      clear hi hj hf hk hk2
      go_enter Tryd.func30, Tryd.ntmps30
      go_wp2_with fail
      refine (k1.out _).mono ?_
      rintro en w' ⟨rfl, hw'⟩
      replace hw' := hw'.symm
      subst hw'
      go_wp2_with fail
      refine (k2.out _).mono ?_
      rintro en w' ⟨rfl, hw'⟩
      replace hw' := hw'.symm
      subst hw'
      go_wp2_with fail
      refine k3.out.mono ?_
      rintro en w1 ⟨rfl, hb⟩
      have hs := hb.size
      go_wp2_with fail
      refine (k4.out _ (h.out.below hb)).mono ?_
      rintro en w2 ⟨rfl, b2⟩
      replace hb := hb.trans (b2.mono hs)
      replace hs := hb.size
      clear b2
      go_wp2_with fail
      refine (k5.out _).mono ?_
      rintro en w' ⟨rfl, b'⟩
      replace hb := hb.trans (b'.mono hs)
      clear b'
      replace hs := hb.size
      go_wp2_with fail
      refine (k6.out _).mono ?_
      rintro en w' ⟨rfl, b'⟩
      replace hb := hb.trans (b'.mono hs)
      clear b'
      replace hs := hb.size
      go_wp2_with fail
      go_ret3
      exact ⟨rfl, hb⟩
end
end Go.Proofs.YteghmnlngkcgiaaDoor.Planes

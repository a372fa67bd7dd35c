/- Planes: Put, Copy, Clear, Plane, Free, Diff. -/
import Derived.Test.YteghmnlngkcgiaaDoorPlaneWalkA
import Derived.Deep.RegionHeld3
namespace Go.Proofs.YteghmnlngkcgiaaDoor.Planes
open Go.RowKit Mem Sets

theorem cell_one' (w : World) (t : TypeId) (u : Value) : (w.alloc (.cells #[u] t)).cell? ⟨w.heap.size, 0, none⟩ = some u := Blk.cell (Blk.new w t #[u]) 0
theorem is_one (x : Int) (w : World) (c : Nat) : Calls Tryd.prog 38 #[.slice (some ⟨w.heap.size, 0, none⟩) 1 c] (w.alloc (.cells #[.int .i64 x] 3)) fun e w' => e = .returned (.bool (isP x)) ∧ w' = w.alloc (.cells #[.int .i64 x] 3) := by
  have h := is_any w.heap.size 1 c [x] (w.alloc (.cells #[.int .i64 x] 3)) rfl (fun k y hk => by
    rw [Blk.cell (Blk.new w 3 _)]
    match k, hk with
    | 0, hk => injection hk with hk; subst hk; rfl) (by decide)
  simpa using h
theorem is_two (x y : Int) (w : World) (c : Nat) : Calls Tryd.prog 38 #[.slice (some ⟨w.heap.size, 0, none⟩) 2 c] (w.alloc (.cells #[.int .i64 x, .int .i64 y] 3)) fun e w' => e = .returned (.bool (isP x && isP y)) ∧ w' = w.alloc (.cells #[.int .i64 x, .int .i64 y] 3) := by
  have h := is_any w.heap.size 2 c [x, y] (w.alloc (.cells #[.int .i64 x, .int .i64 y] 3)) rfl (fun k z hk => by
    rw [Blk.cell (Blk.new w 3 _)]
    match k, hk with
    | 0, hk => injection hk with hk; subst hk; rfl
    | 1, hk => injection hk with hk; subst hk; rfl) (by decide)
  simpa using h

section
variable (g B : Nat) (P : Pl) (w : World)
set_option maxRecDepth 100000 in
set_option maxHeartbeats 1000000 in
theorem plane_any (p : Int) (h : PMap w g B P) : Calls Tryd.prog 22 #[.pointer (some ⟨g, 0, none⟩), .int .i64 p] w fun e w' => e = .returned (.tuple #[.string (planeS P p), .int .i64 (planeE p)]) ∧ Below w.heap.size w w' := by
  have k1 := fun c => is_one p w c
  have hb : Below w.heap.size w (w.alloc (.cells #[.int .i64 p] 3)) := (Below.refl _ w).alloc (Nat.le_refl _) _
  replace h := h.below hb
  by_cases hp : isP p = true
  · obtain ⟨q0, q8⟩ := isP_iff.1 hp
    obtain ⟨k, rfl⟩ := Int.eq_ofNat_of_zero_le q0
    rw [planeS, if_pos hp, planeE, if_pos hp, Int.toNat_natCast]
    rw [hp] at k1
    have m := h.plane (k := k) (by omega)
    replace k1 := Lib.hid k1
    replace hb := Lib.hid hb
    clear h hp
    have hk8 : k < 8 := by omega
    generalize hs : P k = s at m
    go_enter Tryd.func22, Tryd.ntmps22
    go_wp2_with fail
    refine (k1.out _).mono ?_
    rintro en w1 ⟨rfl, rfl⟩
    go_wp2_with fail
    go_ret2
    exact ⟨rfl, hb.out⟩
  · have hp' : isP p = false := by simpa using hp
    rw [planeS, if_neg hp, planeE, if_neg hp]
    rw [hp'] at k1
    replace k1 := Lib.hid k1
    replace hb := Lib.hid hb
    clear h hp
    go_enter Tryd.func22, Tryd.ntmps22
    go_wp2_with fail
    refine (k1.out _).mono ?_
    rintro en w1 ⟨rfl, rfl⟩
    go_wp2_with fail
    go_ret2
    exact ⟨rfl, hb.out⟩

set_option maxRecDepth 100000 in
set_option maxHeartbeats 1000000 in
theorem put_no (p : Int) (s : ByteArray) (h : PMap w g B P) (hs : s.size ≤ 140737488355328) (hB : B ≤ 4096) (hno : (isP p && okSet B s) = false) :
    Calls Tryd.prog 17 #[.pointer (some ⟨g, 0, none⟩), .int .i64 p, .string s] w fun e w' => e = .returned (.int .i64 91) ∧ Below w.heap.size w w' := by
  have hb : Below w.heap.size w (w.alloc (.cells #[.int .i64 p] 3)) := (Below.refl _ w).alloc (Nat.le_refl _) _
  have k1 := fun c => is_one p w c
  have m0 := h.blocks
  clear h
  cases hsk : seek (hasB s) (8 * s.size - B) B with
  | none =>
    have k0 := Lib.hid (next_none s B w hs (by omega) hsk)
    by_cases hp : isP p = true
    · have h0 : hasB s 0 = true := by
        unfold okSet at hno
        rw [hp, hsk] at hno
        cases h : hasB s 0 with
        | true => rfl
        | false => rw [h] at hno; cases hno
      have k2 := fun W => has_b s 0 W (by decide)
      rw [h0] at k2
      rw [hp] at k1
      replace k1 := Lib.hid k1
      replace k2 := Lib.hid k2
      replace hb := Lib.hid hb
      clear hp hno h0 hsk
      go_enter Tryd.func17, Tryd.ntmps17
      go_wp2_with fail
      refine (k0.out).mono ?_
      rintro en w' ⟨rfl, hw'⟩
      replace hw' := hw'.symm
      subst hw'
      go_wp2_with fail
      refine (k1.out _).mono ?_
      rintro en w1 ⟨rfl, rfl⟩
      go_wp2_with fail
      refine (k2.out _).mono ?_
      rintro en w' ⟨rfl, hw'⟩
      replace hw' := hw'.symm
      subst hw'
      go_wp2_with fail
      go_ret
      exact ⟨rfl, hb.out⟩
    · have hp' : isP p = false := by simpa using hp
      rw [hp'] at k1
      replace k1 := Lib.hid k1
      replace hb := Lib.hid hb
      clear hp hno hsk
      go_enter Tryd.func17, Tryd.ntmps17
      go_wp2_with fail
      refine (k0.out).mono ?_
      rintro en w' ⟨rfl, hw'⟩
      replace hw' := hw'.symm
      subst hw'
      go_wp2_with fail
      refine (k1.out _).mono ?_
      rintro en w1 ⟨rfl, rfl⟩
      go_wp2_with fail
      go_ret
      exact ⟨rfl, hb.out⟩
  | some r =>
    have k0 := Lib.hid (next_some s B w hs (by omega) hsk)
    have k2 := fun W => has_b s 0 W (by decide)
    generalize isP p = pp at k1 hno
    generalize hasB s 0 = p0 at k2 hno
    replace k1 := Lib.hid k1
    replace k2 := Lib.hid k2
    replace hb := Lib.hid hb
    clear hno hsk
    cases pp with
    | false =>
      go_enter Tryd.func17, Tryd.ntmps17
      go_wp2_with fail
      refine (k0.out).mono ?_
      rintro en w' ⟨rfl, hw'⟩
      replace hw' := hw'.symm
      subst hw'
      go_wp2_with fail
      refine (k1.out _).mono ?_
      rintro en w1 ⟨rfl, rfl⟩
      go_wp2_with fail
      go_ret
      exact ⟨rfl, hb.out⟩
    | true =>
      cases p0 with
      | false =>
        go_enter Tryd.func17, Tryd.ntmps17
        go_wp2_with fail
        refine (k0.out).mono ?_
        rintro en w' ⟨rfl, hw'⟩
        replace hw' := hw'.symm
        subst hw'
        go_wp2_with fail
        refine (k1.out _).mono ?_
        rintro en w1 ⟨rfl, rfl⟩
        go_wp2_with fail
        refine (k2.out _).mono ?_
        rintro en w' ⟨rfl, hw'⟩
        replace hw' := hw'.symm
        subst hw'
        go_wp2_with fail
        go_ret
        exact ⟨rfl, hb.out⟩
      | true =>
        go_enter Tryd.func17, Tryd.ntmps17
        go_wp2_with fail
        refine (k0.out).mono ?_
        rintro en w' ⟨rfl, hw'⟩
        replace hw' := hw'.symm
        subst hw'
        go_wp2_with fail
        refine (k1.out _).mono ?_
        rintro en w1 ⟨rfl, rfl⟩
        go_wp2_with fail
        refine (k2.out _).mono ?_
        rintro en w' ⟨rfl, hw'⟩
        replace hw' := hw'.symm
        subst hw'
        go_wp2_with fail
        go_ret
        exact ⟨rfl, hb.out⟩

set_option maxRecDepth 100000 in
set_option maxHeartbeats 1000000 in
theorem put_yes (k : Nat) (s : ByteArray) (h : PMap w g B P) (hs : s.size ≤ 140737488355328) (hB : B ≤ 4096) (hk : k < 8) (hok : okSet B s = true) :
    Calls Tryd.prog 17 #[.pointer (some ⟨g, 0, none⟩), .int .i64 (k : Int), .string s] w fun e w' => e = .returned (.int .i64 0) ∧ PMap w' g B (upd P k (leastB s)) ∧ w.grownBy w' (some g) := by
  have k1 := fun c => is_one (k : Int) w c
  rw [show isP (k : Int) = true by rw [isP_iff]; omega] at k1
  have m0 := h.blocks
  unfold okSet at hok
  rw [Bool.and_eq_true, Bool.not_eq_true', Option.isNone_iff_eq_none] at hok
  obtain ⟨h0, hsk⟩ := hok
  have k0 := Lib.hid (next_none s B w hs (by omega) hsk)
  have k2 := fun W => has_b s 0 W (by decide)
  rw [h0] at k2
  have k3 := fun W => or_b s emptyB W hs (by decide)
  rw [show orB s emptyB = leastB s from rfl] at k3
  unfold emptyB at k3
  have hg : w.grownBy (w.alloc (.cells #[.int .i64 (k : Int)] 3)) (some g) := Only.alloc (Only.refl w _) _
  have h1 : PMap (w.alloc (.cells #[.int .i64 (k : Int)] 3)) g B P := h.below ((Below.refl _ w).alloc (Nat.le_refl _) _)
  have hgl := Blk.lt h1
  generalize leastB s = t at k3 ⊢
  replace k1 := Lib.hid k1
  replace k2 := Lib.hid k2
  replace k3 := Lib.hid k3
  replace hg := Lib.hid hg
  replace h1 := Lib.hid h1
  clear h0 hsk h
  go_enter Tryd.func17, Tryd.ntmps17
  go_wp2_with fail
  refine (k0.out).mono ?_
  rintro en w' ⟨rfl, hw'⟩
  replace hw' := hw'.symm
  subst hw'
  go_wp2_with fail
  refine (k1.out _).mono ?_
  rintro en w1 ⟨rfl, rfl⟩
  go_wp2_with fail
  refine (k2.out _).mono ?_
  rintro en w' ⟨rfl, hw'⟩
  replace hw' := hw'.symm
  subst hw'
  go_wp2_with fail
  clear m0 k0 k1 k2
  generalize w.alloc (.cells #[.int .i64 (k : Int)] 3) = w1 at *
  go_region_with (refine (k3.out _).mono ?_; rintro en w2 ⟨rfl, b2⟩; have h2 : PMap w2 g B P := PMap.below (show PMap w1.drew g B P from h1.out) b2; have m2 := h2.plane hk; have f2 := Blk.free h2 (1 + k))
  have hg2 : w.grownBy w2 (some g) := Only.below (Only.drew hg.out) b2 hg.out.size
  have h3 := h2.put hk t
  have hg3 : w.grownBy (w2.setCell ⟨g, 1 + k, none⟩ (.string t)) (some g) := Only.put hg2 (1 + k) _
  clear hg h1 b2 h2 m2 f2 hg2
  replace h3 := Lib.hid h3
  replace hg3 := Lib.hid hg3
  go_wp2_with fail
  go_ret
  exact ⟨rfl, h3.out, hg3.out⟩
/-- Put, whatever is put -/
theorem put_any (p : Int) (s : ByteArray) (h : PMap w g B P) (hs : s.size ≤ 140737488355328) (hB : B ≤ 4096) :
    Calls Tryd.prog 17 #[.pointer (some ⟨g, 0, none⟩), .int .i64 p, .string s] w fun e w' => e = .returned (.int .i64 (putE B p s)) ∧ PMap w' g B (putP B P p s) ∧ w.grownBy w' (some g) := by
  cases hb : (isP p && okSet B s) with
  | false =>
    refine (put_no g B P w p s h hs hB hb).mono ?_
    rintro e w' ⟨h1, h2⟩
    unfold putE putP
    rw [if_neg (by rw [hb]; decide), if_neg (by rw [hb]; decide)]
    exact ⟨h1, h.below h2, Only.of_below h2 _⟩
  | true =>
    have hb' := hb
    rw [Bool.and_eq_true, isP_iff] at hb'
    obtain ⟨k, rfl⟩ := Int.eq_ofNat_of_zero_le hb'.1.1
    refine (put_yes g B P w k s h hs hB (by omega) hb'.2).mono ?_
    rintro e w' ⟨h1, h2⟩
    unfold putE putP
    rw [if_pos hb, if_pos hb, Int.toNat_natCast]
    exact ⟨h1, h2⟩
set_option maxRecDepth 100000 in
set_option maxHeartbeats 1000000 in
theorem clear_any (p : Int) (h : PMap w g B P) (hB : B ≤ 4096) :
    Calls Tryd.prog 20 #[.pointer (some ⟨g, 0, none⟩), .int .i64 p] w fun e w' => e = .returned (.int .i64 (putE B p emptyB)) ∧ PMap w' g B (putP B P p emptyB) ∧ w.grownBy w' (some g) := by
  have k1 := put_any g B P w p emptyB h (by decide) hB
  unfold emptyB at k1 ⊢
  generalize putE B p ⟨#[]⟩ = x at k1 ⊢
  generalize putP B P p ⟨#[]⟩ = Q at k1 ⊢
  replace k1 := Lib.hid k1
  clear h
  go_enter Tryd.func20, Tryd.ntmps20
  go_wp2_with fail
  refine k1.out.mono ?_
  rintro en w1 ⟨rfl, h1, h2⟩
  replace h1 := Lib.hid h1
  replace h2 := Lib.hid h2
  go_wp2_with fail
  go_ret
  exact ⟨rfl, h1.out, h2.out⟩

set_option maxRecDepth 100000 in
set_option maxHeartbeats 1000000 in
theorem copy_any (p q : Int) (h : PMap w g B P) :
    Calls Tryd.prog 19 #[.pointer (some ⟨g, 0, none⟩), .int .i64 p, .int .i64 q] w fun e w' => e = .returned (.int .i64 (copyE p q)) ∧ PMap w' g B (copyP P p q) ∧ w.grownBy w' (some g) := by
  have k1 := fun c => is_two p q w c
  have hg : w.grownBy (w.alloc (.cells #[.int .i64 p, .int .i64 q] 3)) (some g) := Only.alloc (Only.refl w _) _
  have h1 : PMap (w.alloc (.cells #[.int .i64 p, .int .i64 q] 3)) g B P := h.below ((Below.refl _ w).alloc (Nat.le_refl _) _)
  unfold copyE copyP
  by_cases hb : (isP p && isP q) = true
  · rw [if_pos hb, if_pos hb]
    rw [hb] at k1
    rw [Bool.and_eq_true, isP_iff, isP_iff] at hb
    obtain ⟨⟨p0, p8⟩, q0, q8⟩ := hb
    obtain ⟨i, rfl⟩ := Int.eq_ofNat_of_zero_le p0
    obtain ⟨j, rfl⟩ := Int.eq_ofNat_of_zero_le q0
    rw [Int.toNat_natCast, Int.toNat_natCast]
    have hi : i < 8 := by omega
    have hj : j < 8 := by omega
    replace k1 := Lib.hid k1
    clear h
    generalize hw1 : w.alloc (.cells #[.int .i64 (i : Int), .int .i64 (j : Int)] 3) = w1 at *
    replace hw1 := Lib.hid hw1
    have mi := h1.plane hi
    have mj := h1.plane hj
    have fj := Blk.free h1 (1 + j)
    have h3 := h1.put hj (P i)
    have hg3 : w.grownBy (w1.setCell ⟨g, 1 + j, none⟩ (.string (P i))) (some g) := Only.put hg (1 + j) _
    generalize P i = s at mi h3 hg3 ⊢
    generalize P j = s' at mj
    replace hg := Lib.hid hg
    replace h1 := Lib.hid h1
    replace h3 := Lib.hid h3
    replace hg3 := Lib.hid hg3
    go_enter Tryd.func19, Tryd.ntmps19
    go_wp2_with fail
    rw [hw1.out]
    refine (k1.out _).mono ?_
    rintro en w2 ⟨rfl, rfl⟩
    go_wp2_with fail
    go_still_tail 11, (by kernel_rfl)
    change wpList _ _ _ _ _ w2.drew
    go_wp2_with fail
    go_ret
    exact ⟨rfl, h3.out, Only.drew hg3.out⟩
  · rw [if_neg hb, if_neg hb]
    have hb' : (isP p && isP q) = false := by simpa using hb
    rw [hb'] at k1
    replace k1 := Lib.hid k1
    replace hg := Lib.hid hg
    replace h1 := Lib.hid h1
    clear hb hb' h
    go_enter Tryd.func19, Tryd.ntmps19
    go_wp2_with fail
    refine (k1.out _).mono ?_
    rintro en w1 ⟨rfl, rfl⟩
    go_wp2_with fail
    go_ret
    exact ⟨rfl, h1.out, hg.out⟩

set_option maxRecDepth 100000 in
set_option maxHeartbeats 1000000 in
theorem diff_any (p q : Int) (h : PMap w g B P) (hf : FitAll B P) (hB : B ≤ 4096) :
    Calls Tryd.prog 26 #[.pointer (some ⟨g, 0, none⟩), .int .i64 p, .int .i64 q] w fun e w' => e = .returned (.tuple #[.string (diffS P p q), .string (diffT P p q), .int .i64 (copyE p q)]) ∧ Below w.heap.size w w' := by
  have k1 := fun c => is_two p q w c
  have hg : Below w.heap.size w (w.alloc (.cells #[.int .i64 p, .int .i64 q] 3)) := (Below.refl _ w).alloc (Nat.le_refl _) _
  have h1 : PMap (w.alloc (.cells #[.int .i64 p, .int .i64 q] 3)) g B P := h.below hg
  unfold copyE diffS diffT
  by_cases hb : (isP p && isP q) = true
  · rw [if_pos hb, if_pos hb, if_pos hb]
    rw [hb] at k1
    rw [Bool.and_eq_true, isP_iff, isP_iff] at hb
    obtain ⟨⟨p0, p8⟩, q0, q8⟩ := hb
    obtain ⟨i, rfl⟩ := Int.eq_ofNat_of_zero_le p0
    obtain ⟨j, rfl⟩ := Int.eq_ofNat_of_zero_le q0
    rw [Int.toNat_natCast, Int.toNat_natCast]
    have hi : i < 8 := by omega
    have hj : j < 8 := by omega
    have zi := (hf i hi).size (n := 512) (by omega)
    have zj := (hf j hj).size (n := 512) (by omega)
    replace k1 := Lib.hid k1
    clear h hf
    generalize hw1 : w.alloc (.cells #[.int .i64 (i : Int), .int .i64 (j : Int)] 3) = w1 at *
    replace hw1 := Lib.hid hw1
    have mi := h1.plane hi
    have mj := h1.plane hj
    generalize P i = s at mi zi ⊢
    generalize P j = t at mj zj ⊢
    have k2 := fun W => minus_b t s W (by omega) (by omega)
    have k3 := fun W => minus_b s t W (by omega) (by omega)
    generalize minusB s t = st at k3 ⊢
    generalize minusB t s = ts at k2 ⊢
    replace hg := Lib.hid hg
    replace h1 := Lib.hid h1
    replace k2 := Lib.hid k2
    replace k3 := Lib.hid k3
    go_enter Tryd.func26, Tryd.ntmps26
    go_wp2_with fail
    rw [hw1.out]
    refine (k1.out _).mono ?_
    rintro en w2 ⟨rfl, rfl⟩
    go_wp2_with fail
    go_region
    have hb : Below w.heap.size w w2.drew := hg.out.drew
    have hs := hb.size
    clear mi mj hg h1
    go_wp2_with fail
    refine (k2.out _).mono ?_
    rintro en w' ⟨rfl, b'⟩
    replace hb := hb.trans (b'.mono hs)
    clear b'
    replace hs := hb.size
    go_wp2_with fail
    refine (k3.out _).mono ?_
    rintro en w' ⟨rfl, b'⟩
    replace hb := hb.trans (b'.mono hs)
    clear b'
    replace hs := hb.size
    go_wp2_with fail
    go_ret3
    exact ⟨rfl, hb⟩
  · rw [if_neg hb, if_neg hb, if_neg hb]
    have hb' : (isP p && isP q) = false := by simpa using hb
    rw [hb'] at k1
    replace k1 := Lib.hid k1
    replace hg := Lib.hid hg
    clear hb hb' h h1 hf
    go_enter Tryd.func26, Tryd.ntmps26
    go_wp2_with fail
    refine (k1.out _).mono ?_
    rintro en w1 ⟨rfl, rfl⟩
    go_wp2_with fail
    go_ret3
    exact ⟨rfl, hg.out⟩

set_option maxRecDepth 100000 in
set_option maxHeartbeats 1000000 in
theorem free_any (h : PMap w g B P) (hf : FitAll B P) (hB : B ≤ 4096) :
    Calls Tryd.prog 23 #[.pointer (some ⟨g, 0, none⟩)] w fun e w' => e = .returned (.int .i64 (free B P)) ∧ Below w.heap.size w w' := by
  have hz : (used P).size ≤ 512 := (usedTo_fit hf 8 (by omega)).size (by omega)
  have hc : cnt (used P) ≤ 4096 := Nat.le_trans (cnt_le _) (by omega)
  have k1 := fun W (hW : PMap W g B P) => used_any g B P W hW hf hB
  have k2 := fun W => count_b (used P) W (by omega)
  have m0 := h.blocks
  unfold free
  generalize used P = U at k1 k2 hc hz ⊢
  generalize cnt U = c at k2 hc ⊢
  replace h := Lib.hid h
  replace k1 := Lib.hid k1
  replace k2 := Lib.hid k2
  clear hf hz
  go_enter Tryd.func23, Tryd.ntmps23
  go_wp2_with fail
  go_region_held3 (fun w' => w'.cell? ⟨g, 0, none⟩ = some (.int .i64 (B : Int)))
    (first
      | exact m0
      | exact m1
      | exact m2
      | go_keep)
    (first
      | (go_at_call 18; refine (k1.out _ (show PMap w.drew g B P from h.out)).mono ?_; rintro e w1 ⟨rfl, b1⟩; have m1 := (PMap.below (show PMap w.drew g B P from h.out) b1).blocks)
      | (go_at_call 24; refine (k2.out _).mono ?_; rintro e w2 ⟨rfl, b2⟩; have m2 := (PMap.below (PMap.below (show PMap w.drew g B P from h.out) b1) b2).blocks))
  have hb : Below w.heap.size w w2 := (show Below w.heap.size w w1 from (below_drewN (Below.refl _ w) 1).trans b1).trans (b2.mono b1.size)
  have e1 : IntKind.i64.wrap ((B : Int) - 1) = (B : Int) - 1 := IntWalk.i64_in _ (by omega)
  have e2 : IntKind.i64.wrap ((B : Int) - 1 - (c : Int)) = (B : Int) - 1 - (c : Int) := IntWalk.i64_in _ (by omega)
  rw [e1, e2]
  clear m0 m1 m2 b1 b2 e1 e2
  go_wp2_with fail
  go_ret
  exact ⟨rfl, hb⟩
end
end Go.Proofs.YteghmnlngkcgiaaDoor.Planes

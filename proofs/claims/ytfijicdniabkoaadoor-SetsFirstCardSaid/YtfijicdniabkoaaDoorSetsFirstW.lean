/- The walk of the law SetsFirst. -/
import Derived.Test.YtfijicdniabkoaaDoorSetLawsD
namespace Go.Proofs.YtfijicdniabkoaaDoor.Sets
open Go.RowKit Mem

set_option maxRecDepth 100000 in
set_option maxHeartbeats 4000000 in
theorem lawfirst_any (s : ByteArray) (f : Int) (w : World) (hs' : s.size ≤ 140737488355328) :
    Calls Tryd.prog 11 #[.string s, .int .i64 f] w fun e w' => e = .returned (.bool true) ∧ Below w.heap.size w w' := by
  have hm : min (s.size : Int) 300 = ((min s.size 300 : Nat) : Int) := by omega
  obtain ⟨n, hn⟩ : ∃ n, n = min s.size 300 := ⟨_, rfl⟩
  have h1 : n ≤ s.size := by omega
  have h2 : n ≤ 300 := by omega
  rw [← hn] at hm
  replace hn := Lib.hid hn
  obtain ⟨a, ha, hmask⟩ : ∃ m : Nat, m ≤ 4095 ∧ bits .and .i64 f 4095 = (m : Int) := mask_any f 4095 (by decide)
  go_enter Tryd.func11, Tryd.ntmps11
  go_wp2_with fail
  obtain ⟨x, hx⟩ : ∃ x, x = s.extract 0 n := ⟨_, rfl⟩
  have hxs : x.size ≤ 300 := by rw [hx, ByteArray.size_extract]; omega
  rw [← hx]
  clear hx hm h1 h2 hmask
  have hbey : ∀ m, 2400 ≤ m → hasB x m = false := fun m hm => has_beyond (by rw [← Lib.size_eq x]; omega)
  replace hbey := Lib.hid hbey
  have kf := fun (y : Nat) W (h : hasB x y = false) (hy : y ≤ 9223372036854775807) => has_b x y W hy
  have kf : ∀ (y : Nat) W, hasB x y = false → y ≤ 9223372036854775807 → Calls Tryd.prog 20 #[.string x, .int .i64 (y : Int)] W fun e w' => e = .returned (.bool false) ∧ w' = W := fun y W h hy => by
    have k := kf y W h hy
    rwa [h] at k
  replace kf := Lib.hid kf
  obtain ⟨L, hL⟩ : ∃ L, L = 8 * x.size := ⟨_, rfl⟩
  have eL : 8 * (x.size : Int) = (L : Int) := by omega
  have hL24 : L ≤ 2400 := by omega
  replace hbey := hbey.out
  cases hR : seek (hasB x) (8 * x.size - a) a with
  | some r =>
    obtain ⟨r1, r2, r3, r4⟩ := seek_some hR
    have hrL : r < L := by omega
    have k1 := fun W => next_some (r := r) x a W (by omega) (by omega) hR
    have kr := fun W => has_b x r W (by omega)
    rw [r3] at kr
    have kn := fun (y : Nat) W (h1 : a ≤ y) (h2 : y < r) => kf.out y W (r4 y h1 h2) (by omega)
    replace k1 := Lib.hid k1
    replace kr := Lib.hid kr
    replace kn := Lib.hid kn
    replace hL := Lib.hid hL
    clear hR r2 r3 r4
    replace hbey := Lib.hid hbey
    go_wp2_with fail
    refine (k1.out _).mono ?_
    rintro en w' ⟨rfl, hw'⟩
    replace hw' := hw'.symm
    subst hw'
    go_wp2_with fail
    go_loop [8] (fun t => ∃ y : Nat, a ≤ y ∧ y ≤ r ∧ t = .int .i64 (y : Int)) (fun t => r - (intOf t).toNat)
    case atStart => exact ⟨a, Nat.le_refl _, r1, rfl⟩
    case round =>
      obtain ⟨y, hy1, hy2, rfl⟩ := hrel
      by_cases hyr : y < r
      · have ky := Lib.hid (fun W => kn.out y W hy1 hyr)
        have hyL : y < L := by omega
        go_wp2_with fail
        refine (ky.out _).mono ?_
        rintro en w' ⟨rfl, hw'⟩
        replace hw' := hw'.symm
        subst hw'
        go_wp2_with fail
        go_round
        case rel => exact ⟨y + 1, by omega, by omega, by go_num⟩
        case measure => simp [intOf]; omega
      · obtain rfl : y = r := by omega
        replace hbey := hbey.out
        obtain ⟨g, hG⟩ : ∃ g, seek (fun m => !hasB x m) (5000 - a) a = some g := by
          cases h : seek (fun m => !hasB x m) (5000 - a) a with
          | some g => exact ⟨g, rfl⟩
          | none =>
            have h2 := seek_none h 4999 (by omega) (by omega)
            rw [hbey 4999 (by omega)] at h2
            cases h2
        obtain ⟨g1, g2, g3, g4⟩ := seek_some hG
        have k2 := fun W => gap_some (r := g) (e := 5000) x a W (by omega) hG
        have kg := fun W => has_b x g W (by omega)
        rw [show hasB x g = false by simpa using g3] at kg
        have kt := fun (y : Nat) W (h1 : a ≤ y) (h2 : y < g) => has_b x y W (by omega)
        have kt : ∀ (y : Nat) W, a ≤ y → y < g → Calls Tryd.prog 20 #[.string x, .int .i64 (y : Int)] W fun e w' => e = .returned (.bool true) ∧ w' = W := fun y W h1 h2 => by
          have k := kt y W h1 h2
          rwa [show hasB x y = true by simpa using g4 y h1 h2] at k
        replace k2 := Lib.hid k2
        replace kg := Lib.hid kg
        replace kt := Lib.hid kt
        clear hG g3 g4
        have g6 : ¬ (5000 : Int) ≤ (a : Int) := by omega
        have hl5 : decide (a < 5000) = true := decide_eq_true (by omega)
        go_wp2_with fail
        refine (k2.out _).mono ?_
        rintro en w' ⟨rfl, hw'⟩
        replace hw' := hw'.symm
        subst hw'
        go_wp2_with fail
        go_loop [11] (fun t => ∃ y : Nat, a ≤ y ∧ y ≤ g ∧ t = .int .i64 (y : Int)) (fun t => g - (intOf t).toNat)
        case atStart => exact ⟨a, Nat.le_refl _, g1, rfl⟩
        case round =>
          obtain ⟨y, hy1, hy2, rfl⟩ := hrel
          by_cases hyg : y < g
          · have ky := Lib.hid (fun W => kt.out y W hy1 hyg)
            go_wp2_with fail
            refine (ky.out _).mono ?_
            rintro en w' ⟨rfl, hw'⟩
            replace hw' := hw'.symm
            subst hw'
            go_wp2_with fail
            go_round
            case rel => exact ⟨y + 1, by omega, by omega, by go_num⟩
            case measure => simp [intOf]; omega
          · obtain rfl : y = g := by omega
            have hb := Below.refl w.heap.size w
            have hs := hb.size
            go_wp2_with fail
            refine (fixed_any _).mono ?_
            rintro en w' ⟨rfl, b'⟩
            replace hb := hb.trans (b'.mono hs)
            clear b'
            replace hs := hb.size
            go_wp2_with fail
            refine (kr.out _).mono ?_
            rintro en w' ⟨rfl, hw'⟩
            replace hw' := hw'.symm
            subst hw'
            go_wp2_with fail
            refine (kg.out _).mono ?_
            rintro en w' ⟨rfl, hw'⟩
            replace hw' := hw'.symm
            subst hw'
            go_wp2_with fail
            go_ret
            exact ⟨rfl, hb⟩
  | none =>
    have k1 := fun W => next_none x a W (by omega) (by omega) hR
    have kn := fun (y : Nat) W (h1 : a ≤ y) (h2 : y < L) => kf.out y W (seek_none hR y h1 (by omega)) (by omega)
    replace k1 := Lib.hid k1
    replace kn := Lib.hid kn
    replace hL := Lib.hid hL
    clear hR
    replace hbey := Lib.hid hbey
    go_wp2_with fail
    refine (k1.out _).mono ?_
    rintro en w' ⟨rfl, hw'⟩
    replace hw' := hw'.symm
    subst hw'
    go_wp2_with fail
    go_loop [8] (fun t => ∃ y : Nat, a ≤ y ∧ y ≤ max a L ∧ t = .int .i64 (y : Int)) (fun t => max a L - (intOf t).toNat)
    case atStart => exact ⟨a, Nat.le_refl _, by omega, rfl⟩
    case round =>
      obtain ⟨y, hy1, hy2, rfl⟩ := hrel
      by_cases hyr : y < L
      · have ky := Lib.hid (fun W => kn.out y W hy1 hyr)
        go_wp2_with fail
        refine (ky.out _).mono ?_
        rintro en w' ⟨rfl, hw'⟩
        replace hw' := hw'.symm
        subst hw'
        go_wp2_with fail
        go_round
        case rel => exact ⟨y + 1, by omega, by omega, by go_num⟩
        case measure => simp [intOf]; omega
      · replace hbey := hbey.out
        obtain ⟨g, hG⟩ : ∃ g, seek (fun m => !hasB x m) (5000 - a) a = some g := by
          cases h : seek (fun m => !hasB x m) (5000 - a) a with
          | some g => exact ⟨g, rfl⟩
          | none =>
            have h2 := seek_none h 4999 (by omega) (by omega)
            rw [hbey 4999 (by omega)] at h2
            cases h2
        obtain ⟨g1, g2, g3, g4⟩ := seek_some hG
        have k2 := fun W => gap_some (r := g) (e := 5000) x a W (by omega) hG
        have kg := fun W => has_b x g W (by omega)
        rw [show hasB x g = false by simpa using g3] at kg
        have kt := fun (y : Nat) W (h1 : a ≤ y) (h2 : y < g) => has_b x y W (by omega)
        have kt : ∀ (y : Nat) W, a ≤ y → y < g → Calls Tryd.prog 20 #[.string x, .int .i64 (y : Int)] W fun e w' => e = .returned (.bool true) ∧ w' = W := fun y W h1 h2 => by
          have k := kt y W h1 h2
          rwa [show hasB x y = true by simpa using g4 y h1 h2] at k
        replace k2 := Lib.hid k2
        replace kg := Lib.hid kg
        replace kt := Lib.hid kt
        clear hG g3 g4
        have g6 : ¬ (5000 : Int) ≤ (a : Int) := by omega
        have hl5 : decide (a < 5000) = true := decide_eq_true (by omega)
        go_wp2_with fail
        refine (k2.out _).mono ?_
        rintro en w' ⟨rfl, hw'⟩
        replace hw' := hw'.symm
        subst hw'
        go_wp2_with fail
        go_loop [11] (fun t => ∃ y : Nat, a ≤ y ∧ y ≤ g ∧ t = .int .i64 (y : Int)) (fun t => g - (intOf t).toNat)
        case atStart => exact ⟨a, Nat.le_refl _, g1, rfl⟩
        case round =>
          obtain ⟨y, hy1, hy2, rfl⟩ := hrel
          by_cases hyg : y < g
          · have ky := Lib.hid (fun W => kt.out y W hy1 hyg)
            go_wp2_with fail
            refine (ky.out _).mono ?_
            rintro en w' ⟨rfl, hw'⟩
            replace hw' := hw'.symm
            subst hw'
            go_wp2_with fail
            go_round
            case rel => exact ⟨y + 1, by omega, by omega, by go_num⟩
            case measure => simp [intOf]; omega
          · obtain rfl : y = g := by omega
            have hb := Below.refl w.heap.size w
            have hs := hb.size
            go_wp2_with fail
            refine (fixed_any _).mono ?_
            rintro en w' ⟨rfl, b'⟩
            replace hb := hb.trans (b'.mono hs)
            clear b'
            replace hs := hb.size
            go_wp2_with fail
            refine (kg.out _).mono ?_
            rintro en w' ⟨rfl, hw'⟩
            replace hw' := hw'.symm
            subst hw'
            go_wp2_with fail
            go_ret
            exact ⟨rfl, hb⟩
end Go.Proofs.YtfijicdniabkoaaDoor.Sets

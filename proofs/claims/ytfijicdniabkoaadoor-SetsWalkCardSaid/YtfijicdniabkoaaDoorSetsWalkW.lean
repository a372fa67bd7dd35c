/- The walk of the law SetsWalk. -/
import Derived.Test.YtfijicdniabkoaaDoorSetLawsD
namespace Go.Proofs.YtfijicdniabkoaaDoor.Sets
open Go.RowKit Mem

set_option maxRecDepth 100000 in
set_option maxHeartbeats 2000000 in
theorem lawwalk_any (s : ByteArray) (w : World) (hs' : s.size ≤ 140737488355328) :
    Calls Tryd.prog 9 #[.string s] w fun e w' => e = .returned (.bool true) ∧ Below w.heap.size w w' := by
  have hm : min (s.size : Int) 300 = ((min s.size 300 : Nat) : Int) := by omega
  obtain ⟨n, hn⟩ : ∃ n, n = min s.size 300 := ⟨_, rfl⟩
  have h1 : n ≤ s.size := by omega
  have h2 : n ≤ 300 := by omega
  rw [← hn] at hm
  replace hn := Lib.hid hn
  go_enter Tryd.func9, Tryd.ntmps9
  go_wp2_with fail
  obtain ⟨x, hx⟩ : ∃ x, x = s.extract 0 n := ⟨_, rfl⟩
  have hxs : x.size ≤ 300 := by rw [hx, ByteArray.size_extract]; omega
  rw [← hx]
  clear hx hm h1 h2
  obtain ⟨L, hL⟩ : ∃ L, L = 8 * x.size := ⟨_, rfl⟩
  have hL24 : L ≤ 2400 := by omega
  have hsum := cntTo_not (hasB x) L
  have hcx : cnt x = cntTo (hasB x) L := by rw [cnt_to, hL]
  have k3 := fun W => count_b x W (by omega)
  rw [hcx] at k3
  replace k3 := Lib.hid k3
  have eL : 8 * (x.size : Int) = (L : Int) := by omega
  replace hL := Lib.hid hL
  replace hcx := Lib.hid hcx
  replace hsum := Lib.hid hsum
  go_loop [3, 4, 6] (fun t u v => ∃ a c : Nat, a ≤ L ∧ c = cntTo (hasB x) a ∧ t = .int .i64 (a : Int) ∧ u = .int .i64 (c : Int) ∧ v = .int .i64 (c : Int)) (fun t _ _ => L - (intOf t).toNat)
  case atStart => exact ⟨0, 0, by omega, rfl, rfl, rfl, rfl⟩
  case round =>
    obtain ⟨a, c, ha, hc, rfl, rfl, rfl⟩ := hrel
    have hca : c ≤ a := by rw [hc]; exact cntTo_le _ _
    cases hR : seek (hasB x) (L - a) a with
    | some r =>
      obtain ⟨r1, r2, r3, r4⟩ := seek_some hR
      have hc2 : c + 1 = cntTo (hasB x) (r + 1) := by rw [hc]; exact (cntTo_hit r1 r3 r4).symm
      have hrL : r < L := by omega
      have k := fun W => next_some (r := r) x a W (by omega) (by have := hL.out; omega) (by rw [← hL.out]; exact hR)
      replace k := Lib.hid k
      replace hc := Lib.hid hc
      replace hc2 := Lib.hid hc2
      clear hR r3 r4 r2
      go_wp2_with fail
      refine (k.out _).mono ?_
      rintro en w' ⟨rfl, hw'⟩
      replace hw' := hw'.symm
      subst hw'
      go_wp2_with fail
      go_round
      case rel => exact ⟨r + 1, c + 1, by omega, hc2.out, by go_num, by go_num, by go_num⟩
      case measure => simp [intOf]; omega
    | none =>
      have hcL : c = cntTo (hasB x) L := by rw [hc]; exact (cntTo_end (by omega) hR).symm
      have k := fun W => next_none x a W (by omega) (by have := hL.out; omega) (by rw [← hL.out]; exact hR)
      replace k := Lib.hid k
      rw [← hcL] at k3 hsum
      replace hc := Lib.hid hc
      replace hcL := Lib.hid hcL
      clear hR
      go_wp2_with fail
      refine (k.out _).mono ?_
      rintro en w' ⟨rfl, hw'⟩
      replace hw' := hw'.symm
      subst hw'
      go_wp2_with fail
      go_loop [3, 5, 9] (fun t u v => ∃ a d : Nat, a ≤ L ∧ d = cntTo (fun m => !hasB x m) a ∧ t = .int .i64 (a : Int) ∧ u = .int .i64 (d : Int) ∧ v = .int .i64 (d : Int)) (fun t _ _ => L - (intOf t).toNat)
      case atStart => exact ⟨0, 0, by omega, rfl, rfl, rfl, rfl⟩
      case round =>
        clear ha hca hc
        obtain ⟨b, d, hb, hd, rfl, rfl, rfl⟩ := hrel
        have hdb : d ≤ b := by rw [hd]; exact cntTo_le _ _
        cases hR : seek (fun m => !hasB x m) (L - b) b with
        | some r =>
          obtain ⟨r1, r2, r3, r4⟩ := seek_some hR
          have hd2 : d + 1 = cntTo (fun m => !hasB x m) (r + 1) := by rw [hd]; exact (cntTo_hit r1 r3 r4).symm
          have hrL : r < L := by omega
          have k := fun W => gap_some (r := r) (e := L) x b W (by omega) hR
          replace k := Lib.hid k
          replace hd := Lib.hid hd
          replace hd2 := Lib.hid hd2
          clear hR r3 r4 r2
          go_wp2_with fail
          refine (k.out _).mono ?_
          rintro en w' ⟨rfl, hw'⟩
          replace hw' := hw'.symm
          subst hw'
          go_wp2_with fail
          go_round
          case rel => exact ⟨r + 1, d + 1, by omega, hd2.out, by go_num, by go_num, by go_num⟩
          case measure => simp [intOf]; omega
        | none =>
          have hdL : d = cntTo (fun m => !hasB x m) L := by rw [hd]; exact (cntTo_end (by omega) hR).symm
          have k := fun W => gap_none (e := L) x b W (by omega) hR
          replace k := Lib.hid k
          have hcd : (((c : Int) + (d : Int)) == (L : Int)) = true := by
            have := hsum.out
            rw [beq_iff_eq]
            omega
          replace hd := Lib.hid hd
          replace hdL := Lib.hid hdL
          clear hR
          have hb := Below.refl w.heap.size w
          have hs := hb.size
          go_wp2_with fail
          refine (k.out _).mono ?_
          rintro en w' ⟨rfl, hw'⟩
          replace hw' := hw'.symm
          subst hw'
          go_wp2_with fail
          refine (fixed_any _).mono ?_
          rintro en w' ⟨rfl, b'⟩
          replace hb := hb.trans (b'.mono hs)
          clear b'
          replace hs := hb.size
          go_wp2_with fail
          refine (k3.out _).mono ?_
          rintro en w' ⟨rfl, b'⟩
          replace hb := hb.trans (b'.mono hs)
          clear b'
          replace hs := hb.size
          go_wp2_with fail
          go_ret
          exact ⟨rfl, hb⟩
end Go.Proofs.YtfijicdniabkoaaDoor.Sets

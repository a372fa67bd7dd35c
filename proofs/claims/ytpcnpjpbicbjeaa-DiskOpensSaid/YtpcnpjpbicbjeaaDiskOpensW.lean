/- DiskOpens: the walk. -/
import Derived.Test.YtpcnpjpbicbjeaaRdiskI
import Derived.Test.YtpcnpjpbicbjeaaDiskFixed
namespace Go.Proofs.Ytpcnpjpbicbjeaa.Disk
open Go Go.RowKit Go.Maps Mem
theorem openOk_iff (N : Nat) : openOk (zeroB_ N) = true ↔ N % 64 = 0 ∧ 1 ≤ N / 64 ∧ N / 64 ≤ 16384 := by
  unfold openOk
  rw [zeroB_size]
  simp [and_assoc]
set_option maxRecDepth 100000 in
set_option maxHeartbeats 16000000 in
theorem opens_any (bytes sec : Int) (hs0 : -9223372036854775808 ≤ sec) (hs1 : sec ≤ 9223372036854775807) (w : World) : Calls Try.prog 6 #[.int .i64 bytes, .int .i64 sec] w fun e w' => e = .returned (.bool true) ∧ Below w.heap.size w w' := by
  obtain ⟨N, hN⟩ : ∃ N : Nat, (N : Int) = max 0 (min bytes 1048640) := ⟨(max 0 (min bytes 1048640)).toNat, by omega⟩
  have hN2 : N ≤ 1048640 := by omega
  have hN' := hN.symm
  obtain ⟨i0, hinf, hz0, hz1, hz2⟩ := info_parts infoU8
  clear hN
  have hb := Below.refl w.heap.size w
  have hs := hb.size
  by_cases hok : openOk (zeroB_ N) = true
  · obtain ⟨q1, q2, q3⟩ := (openOk_iff N).1 hok
    have ko := Lib.hid (fun W => open_yes (zeroB_ N) W (by rw [zeroB_size]; exact q1) (by rw [zeroB_size]; exact q2) (by rw [zeroB_size]; exact q3))
    have kr := Lib.hid (fun W => ropen_yes (zeroB_ N) W (by rw [zeroB_size]; exact q1) (by rw [zeroB_size]; exact q2) (by rw [zeroB_size]; exact q3))
    obtain ⟨D, hD⟩ : ∃ D, D = openD (zeroB_ N) := ⟨_, rfl⟩
    have hDl : (D.stays.length : Int) = (N : Int) / 64 := by rw [hD, openD_len, zeroB_size]; omega
    have hDL : (D.L.length : Int) = 0 := by rw [hD]; rfl
    have hDs : (D.steps : Int) = 0 := by rw [hD]; rfl
    have hDd : D.dead = false := by rw [hD]; rfl
    rw [← hD] at ko
    replace hD := Lib.hid hD
    replace hDl := Lib.hid hDl
    replace hDL := Lib.hid hDL
    replace hDs := Lib.hid hDs
    replace hDd := Lib.hid hDd
    clear hok q1 q2 q3
    by_cases hn : 1 ≤ sec ∧ sec ≤ 16384
    · obtain ⟨n, rfl⟩ := Int.eq_ofNat_of_zero_le (show 0 ≤ sec by omega)
      have hn1 : 1 ≤ n := by omega
      have hn2 : n ≤ 16384 := by omega
      have kn := Lib.hid (fun W => new_any W n hn1 hn2)
      have km := Lib.hid (fun W => rnew_any W n hn1 hn2)
      clear hn
      go_enter Try.func6, Try.ntmps6
      go_wp2_with (first | (at_make; refine wpList_make_full _ rfl _ _ _ rfl 0 5 i0 (.int .u8 0) 1 Try.underlying44 hinf hz0 hz1 .i64 .i64 _ _ N rfl rfl rfl rfl (by rw [hz2]; omega) (by unfold maxLen; omega) (Nat.zero_le _) ?_; intro w2 ho2 hg2; have hcv := zero_row ho2; replace hb := hb.trans ((show Below _ _ w2 from ⟨hg2.os, hg2.tape, hg2.output, hg2.size, fun k hk => hg2.block k hk (by simp)⟩ : Below _ _ w2).mono hs); replace hs := hb.size; clear ho2))
      refine (ko.out _).mono ?_
      rintro e w3 ⟨F, b, rfl, hd, _, bx⟩
      clear hcv hg2
      replace hb := hb.trans (bx.mono hs)
      replace hs := hb.size
      clear bx
      go_wp2_with (first | (at_make; refine wpList_make_full _ rfl _ _ _ rfl 0 5 i0 (.int .u8 0) 1 Try.underlying44 hinf hz0 hz1 .i64 .i64 _ _ N rfl rfl rfl rfl (by rw [hz2]; omega) (by unfold maxLen; omega) (Nat.zero_le _) ?_; intro w2 ho2 hg2; have hcv := zero_row ho2; replace hb := hb.trans ((show Below _ _ w2 from ⟨hg2.os, hg2.tape, hg2.output, hg2.size, fun k hk => hg2.block k hk (by simp)⟩ : Below _ _ w2).mono hs); replace hs := hb.size; clear ho2))
      refine (kr.out _).mono ?_
      rintro e w4 ⟨G, c, rfl, _, _, by_⟩
      clear hcv
      replace hd := (hd.below (⟨hg2.os, hg2.tape, hg2.output, hg2.size, fun k hk => hg2.block k hk (by simp)⟩ : Below _ _ _)).below by_
      have bx := by_
      clear hg2 by_
      replace hb := hb.trans (bx.mono hs)
      replace hs := hb.size
      clear bx
      go_wp2_with fail
      refine (kn.out _).mono ?_
      rintro e w5 ⟨F2, b2, rfl, hd2, _, bx⟩
      replace hd := hd.below bx
      replace hb := hb.trans (bx.mono hs)
      replace hs := hb.size
      clear bx
      go_wp2_with fail
      refine (km.out _).mono ?_
      rintro e w6 ⟨G2, c2, rfl, _, _, bx⟩
      replace hd := hd.below bx
      replace hd2 := hd2.below bx
      replace hb := hb.trans (bx.mono hs)
      replace hs := hb.size
      clear bx
      go_wp2_with fail
      refine (fixed_any _).mono ?_
      rintro e w7 ⟨rfl, bx⟩
      replace hd := hd.below bx
      replace hd2 := hd2.below bx
      replace hb := hb.trans (bx.mono hs)
      replace hs := hb.size
      clear bx
      have ks := sectors_any hd
      have kl := loose_any hd
      have ke := dead_any hd
      have kt := steps_any hd
      rw [hDl.out] at ks
      rw [hDL.out] at kl
      rw [hDd.out] at ke
      rw [hDs.out] at kt
      replace ks := Lib.hid ks
      replace kl := Lib.hid kl
      replace ke := Lib.hid ke
      replace kt := Lib.hid kt
      go_wp2_with fail
      refine (ks.out).mono ?_
      rintro en w' ⟨rfl, hw'⟩
      replace hw' := hw'.symm
      subst hw'
      go_wp2_with fail
      refine (kl.out).mono ?_
      rintro en w' ⟨rfl, hw'⟩
      replace hw' := hw'.symm
      subst hw'
      go_wp2_with fail
      refine (ke.out).mono ?_
      rintro en w' ⟨rfl, hw'⟩
      replace hw' := hw'.symm
      subst hw'
      go_wp2_with fail
      refine (kt.out).mono ?_
      rintro en w' ⟨rfl, hw'⟩
      replace hw' := hw'.symm
      subst hw'
      have ks2 := sectors_any hd2
      rw [show ((newD n).stays.length : Int) = (n : Int) from by rw [show (newD n).stays.length = n from List.length_replicate]] at ks2
      replace ks2 := Lib.hid ks2
      go_wp2_with fail
      refine (ks2.out).mono ?_
      rintro en w' ⟨rfl, hw'⟩
      replace hw' := hw'.symm
      subst hw'
      go_wp2_with fail
      go_ret
      exact ⟨rfl, hb⟩
    · have kn := Lib.hid (fun W => new_no W sec hn)
      have km := Lib.hid (fun W => rnew_no W sec hn)
      clear hn
      go_enter Try.func6, Try.ntmps6
      go_wp2_with (first | (at_make; refine wpList_make_full _ rfl _ _ _ rfl 0 5 i0 (.int .u8 0) 1 Try.underlying44 hinf hz0 hz1 .i64 .i64 _ _ N rfl rfl rfl rfl (by rw [hz2]; omega) (by unfold maxLen; omega) (Nat.zero_le _) ?_; intro w2 ho2 hg2; have hcv := zero_row ho2; replace hb := hb.trans ((show Below _ _ w2 from ⟨hg2.os, hg2.tape, hg2.output, hg2.size, fun k hk => hg2.block k hk (by simp)⟩ : Below _ _ w2).mono hs); replace hs := hb.size; clear ho2))
      refine (ko.out _).mono ?_
      rintro e w3 ⟨F, b, rfl, hd, _, bx⟩
      clear hcv hg2
      replace hb := hb.trans (bx.mono hs)
      replace hs := hb.size
      clear bx
      go_wp2_with (first | (at_make; refine wpList_make_full _ rfl _ _ _ rfl 0 5 i0 (.int .u8 0) 1 Try.underlying44 hinf hz0 hz1 .i64 .i64 _ _ N rfl rfl rfl rfl (by rw [hz2]; omega) (by unfold maxLen; omega) (Nat.zero_le _) ?_; intro w2 ho2 hg2; have hcv := zero_row ho2; replace hb := hb.trans ((show Below _ _ w2 from ⟨hg2.os, hg2.tape, hg2.output, hg2.size, fun k hk => hg2.block k hk (by simp)⟩ : Below _ _ w2).mono hs); replace hs := hb.size; clear ho2))
      refine (kr.out _).mono ?_
      rintro e w4 ⟨G, c, rfl, _, _, by_⟩
      clear hcv
      replace hd := (hd.below (⟨hg2.os, hg2.tape, hg2.output, hg2.size, fun k hk => hg2.block k hk (by simp)⟩ : Below _ _ _)).below by_
      have bx := by_
      clear hg2 by_
      replace hb := hb.trans (bx.mono hs)
      replace hs := hb.size
      clear bx
      go_wp2_with fail
      refine (kn.out _).mono ?_
      rintro en w' ⟨rfl, hw'⟩
      replace hw' := hw'.symm
      subst hw'
      go_wp2_with fail
      refine (km.out _).mono ?_
      rintro en w' ⟨rfl, hw'⟩
      replace hw' := hw'.symm
      subst hw'
      go_wp2_with fail
      refine (fixed_any _).mono ?_
      rintro e w7 ⟨rfl, bx⟩
      replace hd := hd.below bx
      replace hb := hb.trans (bx.mono hs)
      replace hs := hb.size
      clear bx
      have ks := sectors_any hd
      have kl := loose_any hd
      have ke := dead_any hd
      have kt := steps_any hd
      rw [hDl.out] at ks
      rw [hDL.out] at kl
      rw [hDd.out] at ke
      rw [hDs.out] at kt
      replace ks := Lib.hid ks
      replace kl := Lib.hid kl
      replace ke := Lib.hid ke
      replace kt := Lib.hid kt
      go_wp2_with fail
      refine (ks.out).mono ?_
      rintro en w' ⟨rfl, hw'⟩
      replace hw' := hw'.symm
      subst hw'
      go_wp2_with fail
      refine (kl.out).mono ?_
      rintro en w' ⟨rfl, hw'⟩
      replace hw' := hw'.symm
      subst hw'
      go_wp2_with fail
      refine (ke.out).mono ?_
      rintro en w' ⟨rfl, hw'⟩
      replace hw' := hw'.symm
      subst hw'
      go_wp2_with fail
      refine (kt.out).mono ?_
      rintro en w' ⟨rfl, hw'⟩
      replace hw' := hw'.symm
      subst hw'
      go_wp2_with fail
      go_ret
      exact ⟨rfl, hb⟩
  · have hno : openOk (zeroB_ N) = false := by simpa using hok
    have ko := Lib.hid (fun W => open_no (zeroB_ N) W (by rw [zeroB_size]; omega) hno)
    have kr := Lib.hid (fun W => ropen_no (zeroB_ N) W (by rw [zeroB_size]; omega) hno)
    clear hok hno
    by_cases hn : 1 ≤ sec ∧ sec ≤ 16384
    · obtain ⟨n, rfl⟩ := Int.eq_ofNat_of_zero_le (show 0 ≤ sec by omega)
      have hn1 : 1 ≤ n := by omega
      have hn2 : n ≤ 16384 := by omega
      have kn := Lib.hid (fun W => new_any W n hn1 hn2)
      have km := Lib.hid (fun W => rnew_any W n hn1 hn2)
      clear hn
      go_enter Try.func6, Try.ntmps6
      go_wp2_with (first | (at_make; refine wpList_make_full _ rfl _ _ _ rfl 0 5 i0 (.int .u8 0) 1 Try.underlying44 hinf hz0 hz1 .i64 .i64 _ _ N rfl rfl rfl rfl (by rw [hz2]; omega) (by unfold maxLen; omega) (Nat.zero_le _) ?_; intro w2 ho2 hg2; have hcv := zero_row ho2; replace hb := hb.trans ((show Below _ _ w2 from ⟨hg2.os, hg2.tape, hg2.output, hg2.size, fun k hk => hg2.block k hk (by simp)⟩ : Below _ _ w2).mono hs); replace hs := hb.size; clear ho2))
      refine (ko.out _).mono ?_
      rintro en w' ⟨rfl, hw'⟩
      replace hw' := hw'.symm
      subst hw'
      clear hcv hg2
      go_wp2_with (first | (at_make; refine wpList_make_full _ rfl _ _ _ rfl 0 5 i0 (.int .u8 0) 1 Try.underlying44 hinf hz0 hz1 .i64 .i64 _ _ N rfl rfl rfl rfl (by rw [hz2]; omega) (by unfold maxLen; omega) (Nat.zero_le _) ?_; intro w2 ho2 hg2; have hcv := zero_row ho2; replace hb := hb.trans ((show Below _ _ w2 from ⟨hg2.os, hg2.tape, hg2.output, hg2.size, fun k hk => hg2.block k hk (by simp)⟩ : Below _ _ w2).mono hs); replace hs := hb.size; clear ho2))
      refine (kr.out _).mono ?_
      rintro en w' ⟨rfl, hw'⟩
      replace hw' := hw'.symm
      subst hw'
      clear hcv hg2
      go_wp2_with fail
      refine (kn.out _).mono ?_
      rintro e w5 ⟨F2, b2, rfl, hd2, _, bx⟩
      replace hb := hb.trans (bx.mono hs)
      replace hs := hb.size
      clear bx
      go_wp2_with fail
      refine (km.out _).mono ?_
      rintro e w6 ⟨G2, c2, rfl, _, _, bx⟩
      replace hd2 := hd2.below bx
      replace hb := hb.trans (bx.mono hs)
      replace hs := hb.size
      clear bx
      go_wp2_with fail
      refine (fixed_any _).mono ?_
      rintro e w7 ⟨rfl, bx⟩
      replace hd2 := hd2.below bx
      replace hb := hb.trans (bx.mono hs)
      replace hs := hb.size
      clear bx
      have ks2 := sectors_any hd2
      rw [show ((newD n).stays.length : Int) = (n : Int) from by rw [show (newD n).stays.length = n from List.length_replicate]] at ks2
      replace ks2 := Lib.hid ks2
      go_wp2_with fail
      refine (ks2.out).mono ?_
      rintro en w' ⟨rfl, hw'⟩
      replace hw' := hw'.symm
      subst hw'
      go_wp2_with fail
      go_ret
      exact ⟨rfl, hb⟩
    · have kn := Lib.hid (fun W => new_no W sec hn)
      have km := Lib.hid (fun W => rnew_no W sec hn)
      clear hn
      go_enter Try.func6, Try.ntmps6
      go_wp2_with (first | (at_make; refine wpList_make_full _ rfl _ _ _ rfl 0 5 i0 (.int .u8 0) 1 Try.underlying44 hinf hz0 hz1 .i64 .i64 _ _ N rfl rfl rfl rfl (by rw [hz2]; omega) (by unfold maxLen; omega) (Nat.zero_le _) ?_; intro w2 ho2 hg2; have hcv := zero_row ho2; replace hb := hb.trans ((show Below _ _ w2 from ⟨hg2.os, hg2.tape, hg2.output, hg2.size, fun k hk => hg2.block k hk (by simp)⟩ : Below _ _ w2).mono hs); replace hs := hb.size; clear ho2))
      refine (ko.out _).mono ?_
      rintro en w' ⟨rfl, hw'⟩
      replace hw' := hw'.symm
      subst hw'
      clear hcv hg2
      go_wp2_with (first | (at_make; refine wpList_make_full _ rfl _ _ _ rfl 0 5 i0 (.int .u8 0) 1 Try.underlying44 hinf hz0 hz1 .i64 .i64 _ _ N rfl rfl rfl rfl (by rw [hz2]; omega) (by unfold maxLen; omega) (Nat.zero_le _) ?_; intro w2 ho2 hg2; have hcv := zero_row ho2; replace hb := hb.trans ((show Below _ _ w2 from ⟨hg2.os, hg2.tape, hg2.output, hg2.size, fun k hk => hg2.block k hk (by simp)⟩ : Below _ _ w2).mono hs); replace hs := hb.size; clear ho2))
      refine (kr.out _).mono ?_
      rintro en w' ⟨rfl, hw'⟩
      replace hw' := hw'.symm
      subst hw'
      clear hcv hg2
      go_wp2_with fail
      refine (kn.out _).mono ?_
      rintro en w' ⟨rfl, hw'⟩
      replace hw' := hw'.symm
      subst hw'
      go_wp2_with fail
      refine (km.out _).mono ?_
      rintro en w' ⟨rfl, hw'⟩
      replace hw' := hw'.symm
      subst hw'
      go_wp2_with fail
      refine (fixed_any _).mono ?_
      rintro e w7 ⟨rfl, bx⟩
      replace hb := hb.trans (bx.mono hs)
      replace hs := hb.size
      clear bx
      go_wp2_with fail
      go_ret
      exact ⟨rfl, hb⟩
end Go.Proofs.Ytpcnpjpbicbjeaa.Disk

/- The document's bytes: sealed, Frame, Unframe, Root. -/
import Derived.Test.YtajlfmnjibgbaaaGreatDoorBlkWa
namespace Go.Proofs.YtajlfmnjibgbaaaGreatDoor.Vl
open Go Go.RowKit Go.Maps Mem Disk Nv
set_option maxRecDepth 100000 in
set_option maxHeartbeats 4000000 in
theorem rsealed_any (s : ByteArray) (n : Nat) (w : World) (hs : s.size ≤ n) (hn : n ≤ 1000) : Calls Tryz.prog 72 #[.string s, .int .i64 (n : Int)] w fun e w' => e = .returned (.string (sealB s n)) ∧ Below w.heap.size w w' := by
  obtain ⟨i0, hinf, hz0, hz1, hz2⟩ := info_parts infoU8x
  have e1 : (n : Int) - (s.size : Int) = ((n - s.size : Nat) : Int) := by omega
  have hse : sealB s n = (s ++ zeroB_ (n - s.size)) ++ sumB (s ++ zeroB_ (n - s.size)) := rfl
  have zn := zeroB_size (n - s.size)
  have kz : n - s.size ≤ 1000 := by omega
  generalize n - s.size = k at e1 hse zn kz
  have no1 : ¬ 9223372036854775807 < s.size + (zeroB_ k).size := by omega
  have ks := fun W => rsumB (s ++ zeroB_ k) W (by rw [ByteArray.size_append]; omega)
  have no2 : ¬ 9223372036854775807 < (s ++ zeroB_ k).size + (sumB (s ++ zeroB_ k)).size := by rw [ByteArray.size_append, sumB_size]; omega
  obtain ⟨Y, hY⟩ : ∃ Y, Y = s ++ zeroB_ k := ⟨_, rfl⟩
  rw [← hY] at ks no2 hse
  rw [hse]
  generalize sumB Y = R at ks no2
  replace hY := Lib.hid hY
  replace ks := Lib.hid ks
  have hb := Below.refl w.heap.size w
  have hs0 := hb.size
  clear hse
  go_enter Tryz.func72, Tryz.ntmps72
  go_wp2_with (first | (at_make; refine wpList_make_full _ rfl _ _ _ rfl 0 5 i0 (.int .u8 0) 1 Tryz.underlying36 hinf hz0 hz1 .i64 .i64 _ _ k rfl rfl rfl rfl (by rw [hz2]; omega) (by unfold maxLen; omega) (Nat.zero_le _) ?_; intro w2 ho2 hg2; have hcv := zero_row ho2; have hb2 := Lib.hid (hb.trans ((show Below _ _ w2 from ⟨hg2.os, hg2.tape, hg2.output, hg2.size, fun k hk => hg2.block k hk (by simp)⟩ : Below _ _ w2).mono hs0)); clear ho2 hg2))
  rw [← hY.out]
  refine (ks.out _).mono ?_
  rintro e w3 ⟨rfl, hb3⟩
  replace hb3 := Lib.hid (hb2.out.trans (hb3.mono hb2.out.size))
  clear hcv
  go_wp2_with fail
  go_ret
  exact ⟨rfl, hb3.out⟩
set_option maxRecDepth 100000 in
set_option maxHeartbeats 4000000 in
theorem rframe_any (p : ByteArray) (w : World) (hp : p.size ≤ 9223372036854775807) : Calls Tryz.prog 45 #[.string p] w fun e w' => e = .returned (.tuple #[.string (frameV p).1, .int .i64 (frameV p).2]) ∧ Below w.heap.size w w' := by
  by_cases h : 240 < p.size
  · have q : decide (240 < (p.size : Int)) = true := decide_eq_true (by omega)
    have e1 : frameV p = (⟨#[]⟩, 83) := if_pos h
    rw [e1]
    clear h e1
    go_enter Tryz.func45, Tryz.ntmps45
    go_wp2_with fail
    go_ret2
    exact ⟨rfl, Below.refl _ _⟩
  · have q : decide (240 < (p.size : Int)) = false := decide_eq_false (by omega)
    have e1 : frameV p = (sealB (num p.size 2 ++ p) 248, 0) := if_neg h
    rw [e1]
    have kn := fun W => rnum_any p.size 2 (by omega) (by decide) (by decide) W
    have kf := fun W => rsealed_any (num p.size 2 ++ p) 248 W (by rw [ByteArray.size_append, num_size]; omega) (by decide)
    have hs2 : (num p.size 2).size = 2 := num_size _ _
    generalize sealB (num p.size 2 ++ p) 248 = R at kf ⊢
    generalize num p.size 2 = B2 at kf kn hs2
    have no : ¬ 9223372036854775807 < B2.size + p.size := by rw [hs2]; omega
    replace kf := Lib.hid kf
    replace kn := Lib.hid kn
    clear hs2 h e1
    go_enter Tryz.func45, Tryz.ntmps45
    go_wp2_with fail
    refine (kn.out _).mono ?_
    rintro e w1 ⟨rfl, hb1⟩
    replace hb1 := Lib.hid hb1
    go_wp2_with fail
    refine (kf.out _).mono ?_
    rintro e w2 ⟨rfl, hb2⟩
    replace hb2 := Lib.hid (hb1.out.trans (hb2.mono hb1.out.size))
    go_wp2_with fail
    go_ret2
    exact ⟨rfl, hb2.out⟩
set_option maxRecDepth 100000 in
set_option maxHeartbeats 4000000 in
theorem runframe_any (s : ByteArray) (w : World) : Calls Tryz.prog 117 #[.string s] w fun e w' => e = .returned (.tuple #[.string (unframeV s).1, .int .i64 (unframeV s).2]) ∧ Below w.heap.size w w' := by
  obtain ⟨U, hU⟩ : ∃ U, U = unframeV s := ⟨_, rfl⟩
  rw [← hU]
  by_cases h : s.size = 256
  · have hz : unframeV s = if 240 < lenB s then (⟨#[]⟩, 82) else if frameB (s.extract 2 (2 + lenB s)) = s then (s.extract 2 (2 + lenB s), 0) else (⟨#[]⟩, 82) := by unfold unframeV; rw [if_neg (fun hh => hh h)]
    rw [hz] at hU
    clear hz
    have kv := fun W => rval_any (s.extract 0 2) W (by rw [ByteArray.size_extract]; omega)
    have hl : val (s.extract 0 2) = lenB s := rfl
    rw [hl] at kv
    have h16 : lenB s < 65536 := val_lt (n := 2) (by rw [ByteArray.size_extract]; omega)
    generalize lenB s = n at kv hU h16
    clear hl
    replace hU := Lib.hid hU
    replace kv := Lib.hid kv
    have q0 : decide ((s.size : Int) = 256) = true := decide_eq_true (by omega)
    by_cases h2 : 240 < n
    · have q2 : decide (240 < (n : Int)) = true := decide_eq_true (by omega)
      have e1 := Lib.hid (hU.out.trans (if_pos h2))
      go_enter Tryz.func117, Tryz.ntmps117
      go_wp2_with fail
      refine (kv.out _).mono ?_
      rintro en w' ⟨rfl, hw'⟩
      replace hw' := hw'.symm
      subst hw'
      go_wp2_with fail
      go_ret2
      exact ⟨by rw [e1.out]; rfl, Below.refl _ _⟩
    · have q2 : decide (240 < (n : Int)) = false := decide_eq_false (by omega)
      obtain ⟨p, hp⟩ : ∃ p, p = s.extract 2 (2 + n) := ⟨_, rfl⟩
      have hps : p.size = n := by rw [hp, ByteArray.size_extract]; omega
      have kf := fun W => rframe_any p W (by omega)
      rw [show frameV p = (frameB p, 0) from if_neg (by omega)] at kf
      have hif : U = if frameB p = s then (p, 0) else (⟨#[]⟩, 82) := by rw [hU.out, if_neg h2, ← hp]
      obtain ⟨T, hT⟩ : ∃ T, T = frameB p := ⟨_, rfl⟩
      rw [← hT] at kf hif
      replace hT := Lib.hid hT
      replace kf := Lib.hid kf
      replace hif := Lib.hid hif
      by_cases h3 : T = s
      · have e1 := Lib.hid (hif.out.trans (if_pos h3))
        have t3 : (T.toList == s.toList) = true := by rw [h3]; exact beq_self_eq_true _
        go_enter Tryz.func117, Tryz.ntmps117
        go_wp2_with fail
        refine (kv.out _).mono ?_
        rintro en w' ⟨rfl, hw'⟩
        replace hw' := hw'.symm
        subst hw'
        go_wp2_with fail
        refine (kv.out _).mono ?_
        rintro en w' ⟨rfl, hw'⟩
        replace hw' := hw'.symm
        subst hw'
        go_upto_region 4 with fail
        rw [← hp]
        replace hp := Lib.hid hp
        go_wp2_with fail
        refine (kf.out _).mono ?_
        rintro e w2 ⟨rfl, hb⟩
        replace hb := Lib.hid hb
        go_wp2_with fail
        go_ret2
        exact ⟨by rw [e1.out]; rfl, hb.out⟩
      · have e1 := Lib.hid (hif.out.trans (if_neg h3))
        have t3 : (T.toList == s.toList) = false := by
          rw [beq_eq_false_iff_ne]
          exact fun e => h3 (bytes_inj e)
        go_enter Tryz.func117, Tryz.ntmps117
        go_wp2_with fail
        refine (kv.out _).mono ?_
        rintro en w' ⟨rfl, hw'⟩
        replace hw' := hw'.symm
        subst hw'
        go_wp2_with fail
        refine (kv.out _).mono ?_
        rintro en w' ⟨rfl, hw'⟩
        replace hw' := hw'.symm
        subst hw'
        go_upto_region 4 with fail
        rw [← hp]
        replace hp := Lib.hid hp
        go_wp2_with fail
        refine (kf.out _).mono ?_
        rintro e w2 ⟨rfl, hb⟩
        replace hb := Lib.hid hb
        go_wp2_with fail
        go_ret2
        exact ⟨by rw [e1.out]; rfl, hb.out⟩
  · have hz : unframeV s = (⟨#[]⟩, 82) := if_pos h
    rw [hz] at hU
    replace hU := Lib.hid hU
    have q : decide ((s.size : Int) = 256) = false := decide_eq_false (by omega)
    clear hz
    go_enter Tryz.func117, Tryz.ntmps117
    go_wp2_with fail
    go_ret2
    exact ⟨by rw [hU.out]; rfl, Below.refl _ _⟩
end Go.Proofs.YtajlfmnjibgbaaaGreatDoor.Vl
/- The document's Root: a root's sector. -/
namespace Go.Proofs.YtajlfmnjibgbaaaGreatDoor.Vl
open Go Go.RowKit Go.Maps Mem Disk Nv
set_option maxRecDepth 100000 in
set_option maxHeartbeats 8000000 in
theorem rroot_any (t : ByteArray) (n : Nat) (ht : t.size ≤ 40) (hn : n ≤ 9223372036854775807) (w : World) : Calls Tryz.prog 96 #[.string t, .int .i64 (n : Int)] w fun e w' => e = .returned (.string (rootB t n)) ∧ Below w.heap.size w w' := by
  have kn := fun W => rnum_any n 6 hn (by decide) (by decide) W
  obtain ⟨sz, hsz⟩ : ∃ sz, sz = UInt8.ofNat t.size := ⟨_, rfl⟩
  have e2 : IntKind.u8.wrap (t.size : Int) = (sz.toNat : Int) := by
    show (t.size : Int) % 256 = _
    rw [hsz, UInt8.toNat_ofNat']
    omega
  have kf := fun W => rsealed_any (((⟨#[82, 84]⟩ ++ num n 6) ++ ⟨#[UInt8.ofNat t.size]⟩) ++ t) 56 W (by rw [ByteArray.size_append]; have := headR_size t n; unfold headR at this; omega) (by decide)
  have hroot : sealB (((⟨#[82, 84]⟩ ++ num n 6) ++ ⟨#[UInt8.ofNat t.size]⟩) ++ t) 56 = rootB t n := rfl
  rw [hroot] at kf
  have hs6 : (num n 6).size = 6 := num_size _ _
  generalize hP : num n 6 = P at kn kf hs6
  obtain ⟨C, hC⟩ : ∃ C : ByteArray, C = ⟨#[UInt8.ofNat t.size]⟩ := ⟨_, rfl⟩
  have hC1 : C.size = 1 := by rw [hC]; rfl
  rw [← hC] at kf
  obtain ⟨A1, hA1⟩ : ∃ A1, A1 = (⟨#[82, 84]⟩ : ByteArray) ++ P := ⟨_, rfl⟩
  rw [← hA1] at kf
  have hA1s : A1.size = 8 := by rw [hA1, ByteArray.size_append, hs6]; rfl
  obtain ⟨A2, hA2⟩ : ∃ A2, A2 = A1 ++ C := ⟨_, rfl⟩
  rw [← hA2] at kf
  have hA2s : A2.size = 9 := by rw [hA2, ByteArray.size_append]; omega
  obtain ⟨A3, hA3⟩ : ∃ A3, A3 = A2 ++ t := ⟨_, rfl⟩
  rw [← hA3] at kf
  obtain ⟨R, hR⟩ : ∃ R, R = rootB t n := ⟨_, rfl⟩
  rw [← hR] at kf
  rw [← hR]
  have no1 : ¬ 9223372036854775807 < (ByteArray.mk #[82, 84]).size + P.size := by rw [hs6]; decide
  have no2 : ¬ 9223372036854775807 < A1.size + C.size := by omega
  have no3 : ¬ 9223372036854775807 < 9 + t.size := by omega
  have ad1 : (⟨#[82, 84]⟩ : ByteArray) ++ P = A1 := hA1.symm
  have ad2 : A1 ++ C = A2 := hA2.symm
  have ad3 : A2 ++ t = A3 := hA3.symm
  have cv : ∀ (W : World) (g : Nat), Blk W g 5 #[.int .u8 (sz.toNat : Int)] → (convert 36 9 (.slice (some ⟨g, 0, none⟩) 1 1)).run Tryz.prog W = .ok (.string C) W := fun W g hB => by
    rw [hC, ← hsz]
    exact Sip.one_str W g sz hB
  replace cv := Lib.hid cv
  replace kn := Lib.hid kn
  replace kf := Lib.hid kf
  clear hA1 hA2 hA3 hroot hR hP hC hsz
  go_enter Tryz.func96, Tryz.ntmps96
  go_upto_region 1 with fail
  refine Late.start (S := fun _ => True) (T := fun _ => True) (late := []) (by kernel_rfl) ?_
  have hb0 : Below w.heap.size w w.drew := (Below.refl _ w).drew
  generalize w.drew = V at hb0 ⊢
  have hT : True := trivial
  have hS : True := trivial
  refine Late.take (i := 0) (oi := ?_) (v := ?_) ?_ (by kernel_rfl) (by kernel_rfl) (by kernel_rfl) (by kernel_rfl) ?_ ?_ (by assumption) (by assumption) ?_
  rotate_left 2
  focus (simp only [List.getElem?_toArray, List.getElem?_cons_zero]; rfl)
  focus exact fun _ _ _ h => h
  focus (refine Or.inl ⟨by kernel_rfl, ?_⟩; intro w hSw; clear hSw; go_simp; try with_reducible rfl)
  try simp only [Act.put, List.setIfInBounds_toArray, List.set_cons_zero, List.set_cons_succ]
  refine Late.take (i := 3) (oi := ?_) (v := ?_) ?_ (by kernel_rfl) (by kernel_rfl) (by kernel_rfl) (by kernel_rfl) ?_ ?_ (by assumption) (by assumption) ?_
  rotate_left 2
  focus (simp only [List.getElem?_toArray, List.getElem?_cons_succ, List.getElem?_cons_zero]; rfl)
  focus exact fun _ _ _ h => h
  focus (refine Or.inl ⟨by kernel_rfl, ?_⟩; intro w hSw; clear hSw; go_simp; try with_reducible rfl)
  try simp only [Act.put, List.setIfInBounds_toArray, List.set_cons_zero, List.set_cons_succ]
  refine Late.take (i := 4) (oi := ?_) (v := ?_) ?_ (by kernel_rfl) (by kernel_rfl) (by kernel_rfl) (by kernel_rfl) ?_ ?_ (by assumption) (by assumption) ?_
  rotate_left 2
  focus (simp only [List.getElem?_toArray, List.getElem?_cons_succ, List.getElem?_cons_zero]; rfl)
  focus exact fun _ _ _ h => h
  focus (refine Or.inl ⟨by kernel_rfl, ?_⟩; intro w hSw; clear hSw; go_simp; try with_reducible rfl)
  try simp only [Act.put, List.setIfInBounds_toArray, List.set_cons_zero, List.set_cons_succ]
  refine Late.take (i := 5) (oi := ?_) (v := ?_) ?_ (by kernel_rfl) (by kernel_rfl) (by kernel_rfl) (by kernel_rfl) ?_ ?_ (by assumption) (by assumption) ?_
  rotate_left 2
  focus (simp only [List.getElem?_toArray, List.getElem?_cons_succ, List.getElem?_cons_zero]; rfl)
  focus exact fun _ _ _ h => h
  focus (refine Or.inl ⟨by kernel_rfl, ?_⟩; intro w hSw; clear hSw; go_simp; try with_reducible rfl)
  try simp only [Act.put, List.setIfInBounds_toArray, List.set_cons_zero, List.set_cons_succ]
  refine Late.take (i := 9) (oi := ?_) (v := ?_) ?_ (by kernel_rfl) (by kernel_rfl) (by kernel_rfl) (by kernel_rfl) ?_ ?_ (by assumption) (by assumption) ?_
  rotate_left 2
  focus (simp only [List.getElem?_toArray, List.getElem?_cons_succ, List.getElem?_cons_zero]; rfl)
  focus exact fun _ _ _ h => h
  focus (refine Or.inl ⟨by kernel_rfl, ?_⟩; intro w hSw; clear hSw; go_simp; try with_reducible rfl)
  try simp only [Act.put, List.setIfInBounds_toArray, List.set_cons_zero, List.set_cons_succ]
  refine Late.ready (rs := [1, 6]) (by kernel_rfl) (by simp) (Late.AllReady.cons (o := ?o1x1x6) ?e1x1x6 (fun K hK => ?m1x1x6) (Late.AllReady.cons (o := ?o2x1x6) ?e2x1x6 (fun K hK => ?m2x1x6) Late.AllReady.nil))
  case e1x1x6 => (simp only [List.getElem?_toArray, List.getElem?_cons_succ, List.getElem?_cons_zero]; rfl)
  case e2x1x6 => (simp only [List.getElem?_toArray, List.getElem?_cons_succ, List.getElem?_cons_zero]; rfl)
  case m1x1x6 =>
    rw [if_pos (by kernel_rfl)]
    go_simp
    refine (kn.out _).mono ?_
    rintro e V1 ⟨rfl, bx⟩
    have hbV1 := hb0.trans (bx.mono hb0.size)
    refine hK.out _ _ hS (fun _ => trivial) ?_
    clear hK K
    try simp only [Act.put, List.setIfInBounds_toArray, List.set_cons_zero, List.set_cons_succ]
    refine Late.take (i := 2) (oi := ?_) (v := ?_) ?_ (by kernel_rfl) (by kernel_rfl) (by kernel_rfl) (by kernel_rfl) ?_ ?_ (by assumption) (by assumption) ?_
    rotate_left 2
    focus (simp only [List.getElem?_toArray, List.getElem?_cons_succ, List.getElem?_cons_zero]; rfl)
    focus exact fun _ _ _ h => h
    focus (refine Or.inl ⟨by kernel_rfl, ?_⟩; intro w hSw; clear hSw; go_simp; try with_reducible rfl)
    try simp only [Act.put, List.setIfInBounds_toArray, List.set_cons_zero, List.set_cons_succ]
    refine Late.only (i := 6) (o := ?_) (by kernel_rfl) ?_ (fun K hK => ?_)
    rotate_left 1
    focus (simp only [List.getElem?_toArray, List.getElem?_cons_succ, List.getElem?_cons_zero]; rfl)
    go_simp
    have BV2 := Blk.new V1 5 #[.int .u8 (sz.toNat : Int)]
    have hbV2 := hbV1.alloc hbV1.size (.cells #[.int .u8 (sz.toNat : Int)] 5)
    refine hK.out _ _ hS (fun _ => trivial) ?_
    clear hK K
    try simp only [Act.put, List.setIfInBounds_toArray, List.set_cons_zero, List.set_cons_succ]
    generalize V1.alloc (.cells #[.int .u8 (sz.toNat : Int)] 5) = V2 at BV2 hbV2 ⊢
    generalize V1.heap.size = gg at BV2 ⊢
    refine Late.only (i := 7) (o := ?_) (by kernel_rfl) ?_ (fun K hK => ?_)
    rotate_left 1
    focus (simp only [List.getElem?_toArray, List.getElem?_cons_succ, List.getElem?_cons_zero]; rfl)
    have cvt := cv.out V2 gg BV2
    go_simp
    refine hK.out _ _ hS (fun _ => trivial) ?_
    clear hK K
    try simp only [Act.put, List.setIfInBounds_toArray, List.set_cons_zero, List.set_cons_succ]
    clear cvt
    refine Late.take (i := 8) (oi := ?_) (v := ?_) ?_ (by kernel_rfl) (by kernel_rfl) (by kernel_rfl) (by kernel_rfl) ?_ ?_ (by assumption) (by assumption) ?_
    rotate_left 2
    focus (simp only [List.getElem?_toArray, List.getElem?_cons_succ, List.getElem?_cons_zero]; rfl)
    focus exact fun _ _ _ h => h
    focus (refine Or.inl ⟨by kernel_rfl, ?_⟩; intro w hSw; clear hSw; go_simp; try with_reducible rfl)
    try simp only [Act.put, List.setIfInBounds_toArray, List.set_cons_zero, List.set_cons_succ]
    refine Late.take (i := 10) (oi := ?_) (v := ?_) ?_ (by kernel_rfl) (by kernel_rfl) (by kernel_rfl) (by kernel_rfl) ?_ ?_ (by assumption) (by assumption) ?_
    rotate_left 2
    focus (simp only [List.getElem?_toArray, List.getElem?_cons_succ, List.getElem?_cons_zero]; rfl)
    focus exact fun _ _ _ h => h
    focus (refine Or.inl ⟨by kernel_rfl, ?_⟩; intro w hSw; clear hSw; go_simp; try with_reducible rfl)
    try simp only [Act.put, List.setIfInBounds_toArray, List.set_cons_zero, List.set_cons_succ]
    refine Late.only (i := 11) (o := ?_) (by kernel_rfl) ?_ (fun K hK => ?_)
    rotate_left 1
    focus (simp only [List.getElem?_toArray, List.getElem?_cons_succ, List.getElem?_cons_zero]; rfl)
    rw [if_pos (by kernel_rfl)]
    go_simp
    refine (kf.out _).mono ?_
    rintro e Vz ⟨rfl, bz⟩
    have hbz := hbV2.trans (bz.mono hbV2.size)
    refine hK.out _ _ hS (fun _ => trivial) ?_
    clear hK K
    try simp only [Act.put, List.setIfInBounds_toArray, List.set_cons_zero, List.set_cons_succ]
    refine Late.take (i := 12) (oi := ?_) (v := ?_) ?_ (by kernel_rfl) (by kernel_rfl) (by kernel_rfl) (by kernel_rfl) ?_ ?_ (by assumption) (by assumption) ?_
    rotate_left 2
    focus (simp only [List.getElem?_toArray, List.getElem?_cons_succ, List.getElem?_cons_zero]; rfl)
    focus exact fun _ _ _ h => h
    focus (refine Or.inl ⟨by kernel_rfl, ?_⟩; intro w hSw; clear hSw; go_simp; try with_reducible rfl)
    try simp only [Act.put, List.setIfInBounds_toArray, List.set_cons_zero, List.set_cons_succ]
    refine Late.done (by kernel_rfl) ?_ _
    go_wp2_with fail
    go_ret
    exact ⟨rfl, hbz⟩
  case m2x1x6 =>
    go_simp
    have BV1 := Blk.new V 5 #[.int .u8 (sz.toNat : Int)]
    have hbV1 := hb0.alloc hb0.size (.cells #[.int .u8 (sz.toNat : Int)] 5)
    refine hK.out _ _ hS (fun _ => trivial) ?_
    clear hK K
    try simp only [Act.put, List.setIfInBounds_toArray, List.set_cons_zero, List.set_cons_succ]
    generalize V.alloc (.cells #[.int .u8 (sz.toNat : Int)] 5) = V1 at BV1 hbV1 ⊢
    generalize V.heap.size = gg at BV1 ⊢
    refine Late.ready (rs := [1, 7]) (by kernel_rfl) (by simp) (Late.AllReady.cons (o := ?o1x1x7) ?e1x1x7 (fun K hK => ?m1x1x7) (Late.AllReady.cons (o := ?o2x1x7) ?e2x1x7 (fun K hK => ?m2x1x7) Late.AllReady.nil))
    case e1x1x7 => (simp only [List.getElem?_toArray, List.getElem?_cons_succ, List.getElem?_cons_zero]; rfl)
    case e2x1x7 => (simp only [List.getElem?_toArray, List.getElem?_cons_succ, List.getElem?_cons_zero]; rfl)
    case m1x1x7 =>
      rw [if_pos (by kernel_rfl)]
      go_simp
      refine (kn.out _).mono ?_
      rintro e V2 ⟨rfl, bx⟩
      have hbV2 := hbV1.trans (bx.mono hbV1.size)
      have BV2 := BV1.below bx BV1.lt
      refine hK.out _ _ hS (fun _ => trivial) ?_
      clear hK K
      try simp only [Act.put, List.setIfInBounds_toArray, List.set_cons_zero, List.set_cons_succ]
      refine Late.take (i := 2) (oi := ?_) (v := ?_) ?_ (by kernel_rfl) (by kernel_rfl) (by kernel_rfl) (by kernel_rfl) ?_ ?_ (by assumption) (by assumption) ?_
      rotate_left 2
      focus (simp only [List.getElem?_toArray, List.getElem?_cons_succ, List.getElem?_cons_zero]; rfl)
      focus exact fun _ _ _ h => h
      focus (refine Or.inl ⟨by kernel_rfl, ?_⟩; intro w hSw; clear hSw; go_simp; try with_reducible rfl)
      try simp only [Act.put, List.setIfInBounds_toArray, List.set_cons_zero, List.set_cons_succ]
      refine Late.only (i := 7) (o := ?_) (by kernel_rfl) ?_ (fun K hK => ?_)
      rotate_left 1
      focus (simp only [List.getElem?_toArray, List.getElem?_cons_succ, List.getElem?_cons_zero]; rfl)
      have cvt := cv.out V2 gg BV2
      go_simp
      refine hK.out _ _ hS (fun _ => trivial) ?_
      clear hK K
      try simp only [Act.put, List.setIfInBounds_toArray, List.set_cons_zero, List.set_cons_succ]
      clear cvt
      refine Late.take (i := 8) (oi := ?_) (v := ?_) ?_ (by kernel_rfl) (by kernel_rfl) (by kernel_rfl) (by kernel_rfl) ?_ ?_ (by assumption) (by assumption) ?_
      rotate_left 2
      focus (simp only [List.getElem?_toArray, List.getElem?_cons_succ, List.getElem?_cons_zero]; rfl)
      focus exact fun _ _ _ h => h
      focus (refine Or.inl ⟨by kernel_rfl, ?_⟩; intro w hSw; clear hSw; go_simp; try with_reducible rfl)
      try simp only [Act.put, List.setIfInBounds_toArray, List.set_cons_zero, List.set_cons_succ]
      refine Late.take (i := 10) (oi := ?_) (v := ?_) ?_ (by kernel_rfl) (by kernel_rfl) (by kernel_rfl) (by kernel_rfl) ?_ ?_ (by assumption) (by assumption) ?_
      rotate_left 2
      focus (simp only [List.getElem?_toArray, List.getElem?_cons_succ, List.getElem?_cons_zero]; rfl)
      focus exact fun _ _ _ h => h
      focus (refine Or.inl ⟨by kernel_rfl, ?_⟩; intro w hSw; clear hSw; go_simp; try with_reducible rfl)
      try simp only [Act.put, List.setIfInBounds_toArray, List.set_cons_zero, List.set_cons_succ]
      refine Late.only (i := 11) (o := ?_) (by kernel_rfl) ?_ (fun K hK => ?_)
      rotate_left 1
      focus (simp only [List.getElem?_toArray, List.getElem?_cons_succ, List.getElem?_cons_zero]; rfl)
      rw [if_pos (by kernel_rfl)]
      go_simp
      refine (kf.out _).mono ?_
      rintro e Vz ⟨rfl, bz⟩
      have hbz := hbV2.trans (bz.mono hbV2.size)
      refine hK.out _ _ hS (fun _ => trivial) ?_
      clear hK K
      try simp only [Act.put, List.setIfInBounds_toArray, List.set_cons_zero, List.set_cons_succ]
      refine Late.take (i := 12) (oi := ?_) (v := ?_) ?_ (by kernel_rfl) (by kernel_rfl) (by kernel_rfl) (by kernel_rfl) ?_ ?_ (by assumption) (by assumption) ?_
      rotate_left 2
      focus (simp only [List.getElem?_toArray, List.getElem?_cons_succ, List.getElem?_cons_zero]; rfl)
      focus exact fun _ _ _ h => h
      focus (refine Or.inl ⟨by kernel_rfl, ?_⟩; intro w hSw; clear hSw; go_simp; try with_reducible rfl)
      try simp only [Act.put, List.setIfInBounds_toArray, List.set_cons_zero, List.set_cons_succ]
      refine Late.done (by kernel_rfl) ?_ _
      go_wp2_with fail
      go_ret
      exact ⟨rfl, hbz⟩
    case m2x1x7 =>
      have cvt := cv.out V1 gg BV1
      go_simp
      refine hK.out _ _ hS (fun _ => trivial) ?_
      clear hK K
      try simp only [Act.put, List.setIfInBounds_toArray, List.set_cons_zero, List.set_cons_succ]
      clear cvt
      refine Late.only (i := 1) (o := ?_) (by kernel_rfl) ?_ (fun K hK => ?_)
      rotate_left 1
      focus (simp only [List.getElem?_toArray, List.getElem?_cons_succ, List.getElem?_cons_zero]; rfl)
      rw [if_pos (by kernel_rfl)]
      go_simp
      refine (kn.out _).mono ?_
      rintro e V2 ⟨rfl, bx⟩
      have hbV2 := hbV1.trans (bx.mono hbV1.size)
      refine hK.out _ _ hS (fun _ => trivial) ?_
      clear hK K
      try simp only [Act.put, List.setIfInBounds_toArray, List.set_cons_zero, List.set_cons_succ]
      refine Late.take (i := 2) (oi := ?_) (v := ?_) ?_ (by kernel_rfl) (by kernel_rfl) (by kernel_rfl) (by kernel_rfl) ?_ ?_ (by assumption) (by assumption) ?_
      rotate_left 2
      focus (simp only [List.getElem?_toArray, List.getElem?_cons_succ, List.getElem?_cons_zero]; rfl)
      focus exact fun _ _ _ h => h
      focus (refine Or.inl ⟨by kernel_rfl, ?_⟩; intro w hSw; clear hSw; go_simp; try with_reducible rfl)
      try simp only [Act.put, List.setIfInBounds_toArray, List.set_cons_zero, List.set_cons_succ]
      refine Late.take (i := 8) (oi := ?_) (v := ?_) ?_ (by kernel_rfl) (by kernel_rfl) (by kernel_rfl) (by kernel_rfl) ?_ ?_ (by assumption) (by assumption) ?_
      rotate_left 2
      focus (simp only [List.getElem?_toArray, List.getElem?_cons_succ, List.getElem?_cons_zero]; rfl)
      focus exact fun _ _ _ h => h
      focus (refine Or.inl ⟨by kernel_rfl, ?_⟩; intro w hSw; clear hSw; go_simp; try with_reducible rfl)
      try simp only [Act.put, List.setIfInBounds_toArray, List.set_cons_zero, List.set_cons_succ]
      refine Late.take (i := 10) (oi := ?_) (v := ?_) ?_ (by kernel_rfl) (by kernel_rfl) (by kernel_rfl) (by kernel_rfl) ?_ ?_ (by assumption) (by assumption) ?_
      rotate_left 2
      focus (simp only [List.getElem?_toArray, List.getElem?_cons_succ, List.getElem?_cons_zero]; rfl)
      focus exact fun _ _ _ h => h
      focus (refine Or.inl ⟨by kernel_rfl, ?_⟩; intro w hSw; clear hSw; go_simp; try with_reducible rfl)
      try simp only [Act.put, List.setIfInBounds_toArray, List.set_cons_zero, List.set_cons_succ]
      refine Late.only (i := 11) (o := ?_) (by kernel_rfl) ?_ (fun K hK => ?_)
      rotate_left 1
      focus (simp only [List.getElem?_toArray, List.getElem?_cons_succ, List.getElem?_cons_zero]; rfl)
      rw [if_pos (by kernel_rfl)]
      go_simp
      refine (kf.out _).mono ?_
      rintro e Vz ⟨rfl, bz⟩
      have hbz := hbV2.trans (bz.mono hbV2.size)
      refine hK.out _ _ hS (fun _ => trivial) ?_
      clear hK K
      try simp only [Act.put, List.setIfInBounds_toArray, List.set_cons_zero, List.set_cons_succ]
      refine Late.take (i := 12) (oi := ?_) (v := ?_) ?_ (by kernel_rfl) (by kernel_rfl) (by kernel_rfl) (by kernel_rfl) ?_ ?_ (by assumption) (by assumption) ?_
      rotate_left 2
      focus (simp only [List.getElem?_toArray, List.getElem?_cons_succ, List.getElem?_cons_zero]; rfl)
      focus exact fun _ _ _ h => h
      focus (refine Or.inl ⟨by kernel_rfl, ?_⟩; intro w hSw; clear hSw; go_simp; try with_reducible rfl)
      try simp only [Act.put, List.setIfInBounds_toArray, List.set_cons_zero, List.set_cons_succ]
      refine Late.done (by kernel_rfl) ?_ _
      go_wp2_with fail
      go_ret
      exact ⟨rfl, hbz⟩
end Go.Proofs.YtajlfmnjibgbaaaGreatDoor.Vl

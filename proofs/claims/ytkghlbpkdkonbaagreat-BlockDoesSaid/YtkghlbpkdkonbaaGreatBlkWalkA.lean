/- The blocks' bytes: sum, filled, Frame, Unframe; the document's sealed, Frame, Unframe. -/
import Derived.Test.YtkghlbpkdkonbaaGreatBlkPl
import Derived.Test.YtkghlbpkdkonbaaGreatBlkNum
import Derived.Test.YtkghlbpkdkonbaaGreatSipWalkF
import Derived.BigRegion
import Derived.Deep.QuietTactic
import Derived.BigQuiet
import Derived.Deep.DeepCutAuto
namespace Go.Proofs.YtkghlbpkdkonbaaGreat.Vl
open Go Go.RowKit Go.Maps Mem Disk Nv
set_option maxRecDepth 100000 in
theorem sumB_size (s : ByteArray) : (sumB s).size = 8 := by
  show (Sip.sum _ _).toArray.size = 8
  rw [List.size_toArray]
  exact Sip.sum_length _ _
set_option maxRecDepth 100000 in
theorem dsumB (s : ByteArray) (w : World) (hs : s.size ≤ 1000000) : Calls Tryz.prog 104 #[.string ⟨#[115, 116, 105, 108, 108, 97, 103, 101, 32, 118, 111, 108, 117, 109, 101, 33]⟩, .string s] w fun e w' => e = .returned (.tuple #[.string (sumB s), .int .i64 0]) ∧ Below w.heap.size w w' := Sip.dsum_any keyB s w rfl (by omega)
set_option maxRecDepth 100000 in
theorem rsumB (s : ByteArray) (w : World) (hs : s.size ≤ 1000000) : Calls Tryz.prog 99 #[.string ⟨#[115, 116, 105, 108, 108, 97, 103, 101, 32, 118, 111, 108, 117, 109, 101, 33]⟩, .string s] w fun e w' => e = .returned (.tuple #[.string (sumB s), .int .i64 0]) ∧ Below w.heap.size w w' := Sip.rsum_any keyB s w rfl (by omega)
set_option maxRecDepth 100000 in
set_option maxHeartbeats 4000000 in
theorem sum_any (s : ByteArray) (w : World) (hs : s.size ≤ 1000000) : Calls Tryz.prog 98 #[.string s] w fun e w' => e = .returned (.string (sumB s)) ∧ Below w.heap.size w w' := by
  have k := dsumB s w hs
  generalize sumB s = R at k ⊢
  replace k := Lib.hid k
  go_enter Tryz.func98, Tryz.ntmps98
  go_wp2_with fail
  refine k.out.mono ?_
  rintro e w1 ⟨rfl, hb⟩
  replace hb := Lib.hid hb
  go_wp2_with fail
  go_ret
  exact ⟨rfl, hb.out⟩
set_option maxRecDepth 100000 in
set_option maxHeartbeats 4000000 in
theorem filled_any (s : ByteArray) (n : Nat) (w : World) (hs : s.size ≤ n) (hn : n ≤ 1000) : Calls Tryz.prog 83 #[.string s, .int .i64 (n : Int)] w fun e w' => e = .returned (.string (sealB s n)) ∧ Below w.heap.size w w' := by
  have kz := noughts_any (n - s.size) (by omega) w
  have e1 : (n : Int) - (s.size : Int) = ((n - s.size : Nat) : Int) := by omega
  have zn := noughts_size (n - s.size)
  have hse : sealB s n = (s ++ noughts (n - s.size)) ++ sumB (s ++ noughts (n - s.size)) := rfl
  generalize noughts (n - s.size) = Z at kz zn hse
  generalize n - s.size = k at kz e1 zn
  have no1 : ¬ 9223372036854775807 < s.size + Z.size := by omega
  have ks := fun W => sum_any (s ++ Z) W (by rw [ByteArray.size_append]; omega)
  have no2 : ¬ 9223372036854775807 < (s ++ Z).size + (sumB (s ++ Z)).size := by rw [ByteArray.size_append, sumB_size]; omega
  obtain ⟨Y, hY⟩ : ∃ Y, Y = s ++ Z := ⟨_, rfl⟩
  rw [← hY] at ks no2 hse
  rw [hse]
  generalize sumB Y = R at ks no2
  have hYs : Y.size ≤ 1000 := by rw [hY, ByteArray.size_append]; omega
  replace hY := Lib.hid hY
  replace ks := Lib.hid ks
  replace kz := Lib.hid kz
  clear hse
  go_enter Tryz.func83, Tryz.ntmps83
  go_wp2_with fail
  refine kz.out.mono ?_
  rintro e w1 ⟨rfl, hb⟩
  replace hb := Lib.hid hb
  clear e1
  go_upto_region 2 with fail
  rw [← hY.out]
  go_wp2_with fail
  refine (ks.out _).mono ?_
  rintro e w2 ⟨rfl, hb2⟩
  replace hb2 := Lib.hid (hb.out.trans (hb2.mono hb.out.size))
  go_wp2_with fail
  go_ret
  exact ⟨rfl, hb2.out⟩
set_option maxRecDepth 100000 in
theorem bytes_inj {a b : ByteArray} (h : a.toList = b.toList) : a = b := by
  rw [Lib.toList_data, Lib.toList_data] at h
  exact ByteArray.ext (Array.toList_inj.1 h)
set_option maxRecDepth 100000 in
theorem two_str (W : World) (b : Nat) (c d : UInt8) (h : W.heap[b]? = some (.cells #[.int .u8 (c.toNat : Int), .int .u8 (d.toNat : Int)] 5)) : (convert 72 9 (.slice (some ⟨b, 0, none⟩) 2 2)).run Tryz.prog W = .ok (.string ⟨#[c, d]⟩) W :=
  run_convert_bytes_back (P := Tryz.prog) W 72 9 5 ⟨b, 0, none⟩ 2 [c, d] Tryz.underlying72 Tryz.underlying5 Tryz.underlying9 (fun j hj => by
    rw [add_lit, cell_of_row W b _ _ _ _ h]
    match j, hj with
    | 0, _ => rfl
    | 1, _ => rfl)
set_option maxRecDepth 100000 in
theorem num2 (x : Nat) : num x 2 = ⟨#[UInt8.ofNat x, UInt8.ofNat (x / 256)]⟩ := by
  unfold num
  simp [List.range_succ]
set_option maxRecDepth 100000 in
set_option maxHeartbeats 4000000 in
theorem frame_any (p : ByteArray) (w : World) (hp : p.size ≤ 9223372036854775807) : Calls Tryz.prog 47 #[.string p] w fun e w' => e = .returned (.tuple #[.string (frameV p).1, .int .i64 (frameV p).2]) ∧ Below w.heap.size w w' := by
  by_cases h : 240 < p.size
  · have q : decide (240 < (p.size : Int)) = true := decide_eq_true (by omega)
    have e1 : frameV p = (⟨#[]⟩, 83) := if_pos h
    rw [e1]
    clear h e1
    go_enter Tryz.func47, Tryz.ntmps47
    go_wp2_with fail
    go_ret2
    exact ⟨rfl, Below.refl _ _⟩
  · have q : decide (240 < (p.size : Int)) = false := decide_eq_false (by omega)
    have e1 : frameV p = (sealB (num p.size 2 ++ p) 248, 0) := if_neg h
    rw [e1]
    have kf := fun W => filled_any (num p.size 2 ++ p) 248 W (by rw [ByteArray.size_append, num_size]; omega) (by decide)
    have hs2 : (num p.size 2).size = 2 := num_size _ _
    generalize sealB (num p.size 2 ++ p) 248 = R at kf ⊢
    rw [num2] at kf hs2
    obtain ⟨c, hc⟩ : ∃ c, c = UInt8.ofNat p.size := ⟨_, rfl⟩
    obtain ⟨d, hd⟩ : ∃ d, d = UInt8.ofNat (p.size / 256) := ⟨_, rfl⟩
    rw [← hc, ← hd] at kf hs2
    have t1 : (p.size : Int) % 256 = (c.toNat : Int) := by rw [hc, UInt8.toNat_ofNat']; omega
    have t2 : ((p.size : Int) / 256) % 256 = (d.toNat : Int) := by rw [hd, UInt8.toNat_ofNat']; omega
    have cv := two_str (w.alloc (.cells #[.int .u8 (c.toNat : Int), .int .u8 (d.toNat : Int)] 5)) w.heap.size c d (heap_alloc_new w _)
    have no : ¬ 9223372036854775807 < (ByteArray.mk #[c, d]).size + p.size := by rw [hs2]; omega
    have hb : Below w.heap.size w (w.alloc (.cells #[.int .u8 (c.toNat : Int), .int .u8 (d.toNat : Int)] 5)) := (Below.refl _ w).alloc (Nat.le_refl _) _
    generalize (ByteArray.mk #[c, d]) = B2 at kf cv no
    replace kf := Lib.hid kf
    replace hb := Lib.hid hb
    clear hc hd hs2 h e1
    go_enter Tryz.func47, Tryz.ntmps47
    go_wp2_with fail
    refine (kf.out _).mono ?_
    rintro e w1 ⟨rfl, hb1⟩
    replace hb1 := Lib.hid (hb.out.trans (hb1.mono hb.out.size))
    go_wp2_with fail
    go_ret2
    exact ⟨rfl, hb1.out⟩
set_option maxRecDepth 100000 in
theorem lenB_bytes {s : ByteArray} {c0 c1 : UInt8} (h0 : s.data.toList[0]? = some c0) (h1 : s.data.toList[1]? = some c1) : lenB s = c0.toNat + 256 * c1.toNat := by
  unfold lenB val
  have e : (s.extract 0 2).data.toList = [c0, c1] := by
    rw [ByteArray.data_extract, Array.toList_extract, List.extract_eq_take_drop]
    match hl : s.data.toList, h0, h1 with
    | a :: b :: l, h0, h1 =>
      injection h0 with h0
      injection h1 with h1
      subst h0 h1
      rfl
  rw [e]
  simp [valL]
set_option maxRecDepth 100000 in
set_option maxHeartbeats 4000000 in
theorem unframe_any (s : ByteArray) (w : World) : Calls Tryz.prog 38 #[.string s] w fun e w' => e = .returned (.tuple #[.string (unframeV s).1, .int .i64 (unframeV s).2]) ∧ Below w.heap.size w w' := by
  obtain ⟨U, hU⟩ : ∃ U, U = unframeV s := ⟨_, rfl⟩
  rw [← hU]
  by_cases h : s.size = 256
  · have hz : unframeV s = if 240 < lenB s then (⟨#[]⟩, 82) else if frameB (s.extract 2 (2 + lenB s)) = s then (s.extract 2 (2 + lenB s), 0) else (⟨#[]⟩, 82) := by unfold unframeV; rw [if_neg (fun hh => hh h)]
    rw [hz] at hU
    clear hz
    obtain ⟨c0, h0⟩ : ∃ c0, s.data.toList[0]? = some c0 := ⟨_, List.getElem?_eq_getElem (by show 0 < s.size; omega)⟩
    obtain ⟨c1, h1⟩ : ∃ c1, s.data.toList[1]? = some c1 := ⟨_, List.getElem?_eq_getElem (by show 1 < s.size; omega)⟩
    have hl := lenB_bytes h0 h1
    have hor := or_byte' c0.toNat c1.toNat 1 (by have := c0.toNat_lt; omega) (by decide) c1.toNat_lt
    rw [← show lenB s = c0.toNat + 256 ^ 1 * c1.toNat from hl] at hor
    have hw : wrap64 (c0.toNat : Int) = (c0.toNat : Int) := by have := c0.toNat_lt; unfold wrap64; omega
    rw [← hw] at hor
    have hor : bits .or .i64 (wrap64 (c0.toNat : Int)) (wrap64 (wrap64 (c1.toNat : Int) * 256)) = (lenB s : Int) := hor
    clear hw
    have i0 : s[0] = c0 := by
      have : s.data.toList[0]? = some s[0] := by rw [Array.getElem?_toList]; exact Array.getElem?_eq_getElem (by show 0 < s.size; omega)
      rw [this] at h0; exact Option.some.inj h0
    have i1 : s[1] = c1 := by
      have : s.data.toList[1]? = some s[1] := by rw [Array.getElem?_toList]; exact Array.getElem?_eq_getElem (by show 1 < s.size; omega)
      rw [this] at h1; exact Option.some.inj h1
    generalize lenB s = n at hl hor hU
    replace hU := Lib.hid hU
    replace hl := Lib.hid hl
    replace h0 := Lib.hid h0
    replace h1 := Lib.hid h1
    replace hor := Lib.hid hor
    go_enter Tryz.func38, Tryz.ntmps38
    go_upto_region 3 with fail
    go_quiet (fail)
    rw [hor.out]
    by_cases h2 : 240 < n
    · have q2 : decide (240 < (n : Int)) = true := decide_eq_true (by omega)
      have e1 := Lib.hid (hU.out.trans (if_pos h2))
      go_wp2_with fail
      go_ret2
      exact ⟨by rw [e1.out]; rfl, below_drewN (Below.refl _ w) nq⟩
    · have q2 : decide (240 < (n : Int)) = false := decide_eq_false (by omega)
      obtain ⟨p, hp⟩ : ∃ p, p = s.extract 2 (2 + n) := ⟨_, rfl⟩
      have hps : p.size = n := by rw [hp, ByteArray.size_extract]; omega
      have kf := fun W => frame_any p W (by omega)
      rw [show frameV p = (frameB p, 0) from if_neg (by omega)] at kf
      have hif : U = if frameB p = s then (p, 0) else (⟨#[]⟩, 82) := by rw [hU.out, if_neg h2, ← hp]
      obtain ⟨T, hT⟩ : ∃ T, T = frameB p := ⟨_, rfl⟩
      rw [← hT] at kf hif
      replace hT := Lib.hid hT
      replace kf := Lib.hid kf
      replace hif := Lib.hid hif
      by_cases h3 : T = s
      · have e1 := Lib.hid (hif.out.trans (if_pos h3))
        have t3 : (T.toList == s.toList) = true := by rw [h3]; exact beq_self_eq_true _
        go_upto_region 7 with fail
        rw [← hp]
        replace hp := Lib.hid hp
        go_wp2_with fail
        refine (kf.out _).mono ?_
        rintro e w2 ⟨rfl, hb⟩
        replace hb := Lib.hid ((below_drewN (Below.refl _ w) nq).trans (hb.mono (Nat.le_refl _)))
        go_wp2_with fail
        go_ret2
        exact ⟨by rw [e1.out]; rfl, hb.out⟩
      · have e1 := Lib.hid (hif.out.trans (if_neg h3))
        have t3 : (T.toList == s.toList) = false := by
          rw [beq_eq_false_iff_ne]
          exact fun e => h3 (bytes_inj e)
        go_upto_region 7 with fail
        rw [← hp]
        replace hp := Lib.hid hp
        go_wp2_with fail
        refine (kf.out _).mono ?_
        rintro e w2 ⟨rfl, hb⟩
        replace hb := Lib.hid ((below_drewN (Below.refl _ w) nq).trans (hb.mono (Nat.le_refl _)))
        go_wp2_with fail
        go_ret2
        exact ⟨by rw [e1.out]; rfl, hb.out⟩
  · have hz : unframeV s = (⟨#[]⟩, 82) := if_pos h
    rw [hz] at hU
    replace hU := Lib.hid hU
    have q : decide ((s.size : Int) = 256) = false := decide_eq_false (by omega)
    clear hz
    go_enter Tryz.func38, Tryz.ntmps38
    go_wp2_with fail
    go_ret2
    exact ⟨by rw [hU.out]; rfl, Below.refl _ _⟩
end Go.Proofs.YtkghlbpkdkonbaaGreat.Vl

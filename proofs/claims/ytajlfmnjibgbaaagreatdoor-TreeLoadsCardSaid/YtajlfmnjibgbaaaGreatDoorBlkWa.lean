/- The blocks' bytes: sum, filled, Frame, Unframe; the document's sealed, Frame, Unframe. -/
import Derived.Test.YtajlfmnjibgbaaaGreatDoorBlkPl
import Derived.Test.YtajlfmnjibgbaaaGreatDoorBlkNum
import Derived.Test.YtajlfmnjibgbaaaGreatDoorSipWs
import Derived.BigRegion
import Derived.Deep.QuietTactic
import Derived.BigQuiet
import Derived.Deep.DeepCutAuto
import Derived.Test.YtajlfmnjibgbaaaGreatDoorRowz
import Derived.Lib.AppendStr
import Derived.Lib.SmallJoins
import Derived.ArgAppend
namespace Go.Proofs.YtajlfmnjibgbaaaGreatDoor.Vl
open Go Go.RowKit Go.Maps Mem Disk Nv
set_option maxRecDepth 100000 in
theorem sumB_size (s : ByteArray) : (sumB s).size = 8 := by
  show (Sip.sum _ _).toArray.size = 8
  rw [List.size_toArray]
  exact Sip.sum_length _ _
set_option maxRecDepth 100000 in
theorem dsumB (s : ByteArray) (w : World) (hs : s.size ≤ 1000000) : Calls Tryz.prog 112 #[.string ⟨#[115, 116, 105, 108, 108, 97, 103, 101, 32, 118, 111, 108, 117, 109, 101, 33]⟩, .string s] w fun e w' => e = .returned (.tuple #[.string (sumB s), .int .i64 0]) ∧ Below w.heap.size w w' := Sip.dsum_any keyB s w rfl (by omega)
set_option maxRecDepth 100000 in
theorem rsumB (s : ByteArray) (w : World) (hs : s.size ≤ 1000000) : Calls Tryz.prog 100 #[.string ⟨#[115, 116, 105, 108, 108, 97, 103, 101, 32, 118, 111, 108, 117, 109, 101, 33]⟩, .string s] w fun e w' => e = .returned (.tuple #[.string (sumB s), .int .i64 0]) ∧ Below w.heap.size w w' := Sip.rsum_any keyB s w rfl (by omega)
set_option maxRecDepth 100000 in
set_option maxHeartbeats 4000000 in
theorem sum_any (s : ByteArray) (w : World) (hs : s.size ≤ 1000000) : Calls Tryz.prog 99 #[.string s] w fun e w' => e = .returned (.string (sumB s)) ∧ Below w.heap.size w w' := by
  have k := dsumB s w hs
  generalize sumB s = R at k ⊢
  replace k := Lib.hid k
  go_enter Tryz.func99, Tryz.ntmps99
  go_wp2_with fail
  refine k.out.mono ?_
  rintro e w1 ⟨rfl, hb⟩
  replace hb := Lib.hid hb
  go_wp2_with fail
  go_ret
  exact ⟨rfl, hb.out⟩
set_option maxRecDepth 100000 in
set_option maxHeartbeats 4000000 in
theorem filled_any (s : ByteArray) (n : Nat) (w : World) (hs : s.size ≤ n) (hn : n ≤ 1000) : Calls Tryz.prog 66 #[.string s, .int .i64 (n : Int)] w fun e w' => e = .returned (.string (sealB s n)) ∧ Below w.heap.size w w' := by
  have kz := noughts_any (n - s.size) (by omega) w
  have e1 : (n : Int) - (s.size : Int) = ((n - s.size : Nat) : Int) := by omega
  have zn := noughts_size (n - s.size)
  have hse : sealB s n = (s ++ noughts (n - s.size)) ++ sumB (s ++ noughts (n - s.size)) := rfl
  generalize noughts (n - s.size) = Z at kz zn hse
  generalize n - s.size = k at kz e1 zn
  have no1 : ¬ 9223372036854775807 < s.size + Z.size := by omega
  have ks := fun W => sum_any (s ++ Z) W (by rw [ByteArray.size_append]; omega)
  have no2 : ¬ 9223372036854775807 < (s ++ Z).size + (sumB (s ++ Z)).size := by rw [ByteArray.size_append, sumB_size]; omega
  obtain ⟨Y, hY⟩ : ∃ Y, Y = s ++ Z := ⟨_, rfl⟩
  rw [← hY] at ks no2 hse
  rw [hse]
  generalize sumB Y = R at ks no2
  have hYs : Y.size ≤ 1000 := by rw [hY, ByteArray.size_append]; omega
  replace hY := Lib.hid hY
  replace ks := Lib.hid ks
  replace kz := Lib.hid kz
  clear hse
  go_enter Tryz.func66, Tryz.ntmps66
  go_wp2_with fail
  refine kz.out.mono ?_
  rintro e w1 ⟨rfl, hb⟩
  replace hb := Lib.hid hb
  clear e1
  go_upto_region 2 with fail
  rw [← hY.out]
  go_wp2_with fail
  refine (ks.out _).mono ?_
  rintro e w2 ⟨rfl, hb2⟩
  replace hb2 := Lib.hid (hb.out.trans (hb2.mono hb.out.size))
  go_wp2_with fail
  go_ret
  exact ⟨rfl, hb2.out⟩
set_option maxRecDepth 100000 in
theorem bytes_inj {a b : ByteArray} (h : a.toList = b.toList) : a = b := by
  rw [Lib.toList_data, Lib.toList_data] at h
  exact ByteArray.ext (Array.toList_inj.1 h)
set_option maxRecDepth 100000 in
theorem two_str (W : World) (b : Nat) (c d : UInt8) (h : W.heap[b]? = some (.cells #[.int .u8 (c.toNat : Int), .int .u8 (d.toNat : Int)] 5)) : (convert 36 9 (.slice (some ⟨b, 0, none⟩) 2 2)).run Tryz.prog W = .ok (.string ⟨#[c, d]⟩) W :=
  run_convert_bytes_back (P := Tryz.prog) W 36 9 5 ⟨b, 0, none⟩ 2 [c, d] Tryz.underlying36 Tryz.underlying5 Tryz.underlying9 (fun j hj => by
    rw [add_lit, cell_of_row W b _ _ _ _ h]
    match j, hj with
    | 0, _ => rfl
    | 1, _ => rfl)
set_option maxRecDepth 100000 in
theorem num2 (x : Nat) : num x 2 = ⟨#[UInt8.ofNat x, UInt8.ofNat (x / 256)]⟩ := by
  unfold num
  simp [List.range_succ]
set_option maxRecDepth 100000 in
set_option maxHeartbeats 4000000 in
theorem frame_any (p : ByteArray) (w : World) (hp : p.size ≤ 9223372036854775807) : Calls Tryz.prog 39 #[.string p] w fun e w' => e = .returned (.tuple #[.string (frameV p).1, .int .i64 (frameV p).2]) ∧ Below w.heap.size w w' := by
  by_cases h : 240 < p.size
  · have q : decide (240 < (p.size : Int)) = true := decide_eq_true (by omega)
    have e1 : frameV p = (⟨#[]⟩, 83) := if_pos h
    rw [e1]
    clear h e1
    go_enter Tryz.func39, Tryz.ntmps39
    go_wp2_with fail
    go_ret2
    exact ⟨rfl, Below.refl _ _⟩
  · have q : decide (240 < (p.size : Int)) = false := decide_eq_false (by omega)
    have e1 : frameV p = (sealB (num p.size 2 ++ p) 248, 0) := if_neg h
    rw [e1]
    have kf := fun W => filled_any (num p.size 2 ++ p) 248 W (by rw [ByteArray.size_append, num_size]; omega) (by decide)
    have hs2 : (num p.size 2).size = 2 := num_size _ _
    generalize sealB (num p.size 2 ++ p) 248 = R at kf ⊢
    rw [num2] at kf hs2
    obtain ⟨c, hc⟩ : ∃ c, c = UInt8.ofNat p.size := ⟨_, rfl⟩
    obtain ⟨d, hd⟩ : ∃ d, d = UInt8.ofNat (p.size / 256) := ⟨_, rfl⟩
    rw [← hc, ← hd] at kf hs2
    have t1 : (p.size : Int) % 256 = (c.toNat : Int) := by rw [hc, UInt8.toNat_ofNat']; omega
    have t2 : ((p.size : Int) / 256) % 256 = (d.toNat : Int) := by rw [hd, UInt8.toNat_ofNat']; omega
    have cv := two_str (w.alloc (.cells #[.int .u8 (c.toNat : Int), .int .u8 (d.toNat : Int)] 5)) w.heap.size c d (heap_alloc_new w _)
    have no : ¬ 9223372036854775807 < (ByteArray.mk #[c, d]).size + p.size := by rw [hs2]; omega
    have hb : Below w.heap.size w (w.alloc (.cells #[.int .u8 (c.toNat : Int), .int .u8 (d.toNat : Int)] 5)) := (Below.refl _ w).alloc (Nat.le_refl _) _
    generalize (ByteArray.mk #[c, d]) = B2 at kf cv no
    replace kf := Lib.hid kf
    replace hb := Lib.hid hb
    clear hc hd hs2 h e1
    go_enter Tryz.func39, Tryz.ntmps39
    go_wp2_with fail
    refine (kf.out _).mono ?_
    rintro e w1 ⟨rfl, hb1⟩
    replace hb1 := Lib.hid (hb.out.trans (hb1.mono hb.out.size))
    go_wp2_with fail
    go_ret2
    exact ⟨rfl, hb1.out⟩
set_option maxRecDepth 100000 in
theorem lenB_bytes {s : ByteArray} {c0 c1 : UInt8} (h0 : s.data.toList[0]? = some c0) (h1 : s.data.toList[1]? = some c1) : lenB s = c0.toNat + 256 * c1.toNat := by
  unfold lenB val
  have e : (s.extract 0 2).data.toList = [c0, c1] := by
    rw [ByteArray.data_extract, Array.toList_extract, List.extract_eq_take_drop]
    match hl : s.data.toList, h0, h1 with
    | a :: b :: l, h0, h1 =>
      injection h0 with h0
      injection h1 with h1
      subst h0 h1
      rfl
  rw [e]
  simp [valL]
set_option maxRecDepth 100000 in
set_option maxHeartbeats 4000000 in
theorem unframe_any (s : ByteArray) (w : World) : Calls Tryz.prog 163 #[.string s] w fun e w' => e = .returned (.tuple #[.string (unframeV s).1, .int .i64 (unframeV s).2]) ∧ Below w.heap.size w w' := by
  obtain ⟨U, hU⟩ : ∃ U, U = unframeV s := ⟨_, rfl⟩
  rw [← hU]
  by_cases h : s.size = 256
  · have hz : unframeV s = if 240 < lenB s then (⟨#[]⟩, 82) else if frameB (s.extract 2 (2 + lenB s)) = s then (s.extract 2 (2 + lenB s), 0) else (⟨#[]⟩, 82) := by unfold unframeV; rw [if_neg (fun hh => hh h)]
    rw [hz] at hU
    clear hz
    obtain ⟨c0, h0⟩ : ∃ c0, s.data.toList[0]? = some c0 := ⟨_, List.getElem?_eq_getElem (by show 0 < s.size; omega)⟩
    obtain ⟨c1, h1⟩ : ∃ c1, s.data.toList[1]? = some c1 := ⟨_, List.getElem?_eq_getElem (by show 1 < s.size; omega)⟩
    have hl := lenB_bytes h0 h1
    have hor := or_byte' c0.toNat c1.toNat 1 (by have := c0.toNat_lt; omega) (by decide) c1.toNat_lt
    rw [← show lenB s = c0.toNat + 256 ^ 1 * c1.toNat from hl] at hor
    have hw : wrap64 (c0.toNat : Int) = (c0.toNat : Int) := by have := c0.toNat_lt; unfold wrap64; omega
    rw [← hw] at hor
    have hor : bits .or .i64 (wrap64 (c0.toNat : Int)) (wrap64 (wrap64 (c1.toNat : Int) * 256)) = (lenB s : Int) := hor
    clear hw
    have i0 : s[0] = c0 := by
      have : s.data.toList[0]? = some s[0] := by rw [Array.getElem?_toList]; exact Array.getElem?_eq_getElem (by show 0 < s.size; omega)
      rw [this] at h0; exact Option.some.inj h0
    have i1 : s[1] = c1 := by
      have : s.data.toList[1]? = some s[1] := by rw [Array.getElem?_toList]; exact Array.getElem?_eq_getElem (by show 1 < s.size; omega)
      rw [this] at h1; exact Option.some.inj h1
    generalize lenB s = n at hl hor hU
    replace hU := Lib.hid hU
    replace hl := Lib.hid hl
    replace h0 := Lib.hid h0
    replace h1 := Lib.hid h1
    replace hor := Lib.hid hor
    go_enter Tryz.func163, Tryz.ntmps163
    go_upto_region 3 with fail
    go_quiet (fail)
    rw [hor.out]
    by_cases h2 : 240 < n
    · have q2 : decide (240 < (n : Int)) = true := decide_eq_true (by omega)
      have e1 := Lib.hid (hU.out.trans (if_pos h2))
      go_wp2_with fail
      go_ret2
      exact ⟨by rw [e1.out]; rfl, below_drewN (Below.refl _ w) nq⟩
    · have q2 : decide (240 < (n : Int)) = false := decide_eq_false (by omega)
      obtain ⟨p, hp⟩ : ∃ p, p = s.extract 2 (2 + n) := ⟨_, rfl⟩
      have hps : p.size = n := by rw [hp, ByteArray.size_extract]; omega
      have kf := fun W => frame_any p W (by omega)
      rw [show frameV p = (frameB p, 0) from if_neg (by omega)] at kf
      have hif : U = if frameB p = s then (p, 0) else (⟨#[]⟩, 82) := by rw [hU.out, if_neg h2, ← hp]
      obtain ⟨T, hT⟩ : ∃ T, T = frameB p := ⟨_, rfl⟩
      rw [← hT] at kf hif
      replace hT := Lib.hid hT
      replace kf := Lib.hid kf
      replace hif := Lib.hid hif
      by_cases h3 : T = s
      · have e1 := Lib.hid (hif.out.trans (if_pos h3))
        have t3 : (T.toList == s.toList) = true := by rw [h3]; exact beq_self_eq_true _
        go_upto_region 7 with fail
        rw [← hp]
        replace hp := Lib.hid hp
        go_wp2_with fail
        refine (kf.out _).mono ?_
        rintro e w2 ⟨rfl, hb⟩
        replace hb := Lib.hid ((below_drewN (Below.refl _ w) nq).trans (hb.mono (Nat.le_refl _)))
        go_wp2_with fail
        go_ret2
        exact ⟨by rw [e1.out]; rfl, hb.out⟩
      · have e1 := Lib.hid (hif.out.trans (if_neg h3))
        have t3 : (T.toList == s.toList) = false := by
          rw [beq_eq_false_iff_ne]
          exact fun e => h3 (bytes_inj e)
        go_upto_region 7 with fail
        rw [← hp]
        replace hp := Lib.hid hp
        go_wp2_with fail
        refine (kf.out _).mono ?_
        rintro e w2 ⟨rfl, hb⟩
        replace hb := Lib.hid ((below_drewN (Below.refl _ w) nq).trans (hb.mono (Nat.le_refl _)))
        go_wp2_with fail
        go_ret2
        exact ⟨by rw [e1.out]; rfl, hb.out⟩
  · have hz : unframeV s = (⟨#[]⟩, 82) := if_pos h
    rw [hz] at hU
    replace hU := Lib.hid hU
    have q : decide ((s.size : Int) = 256) = false := decide_eq_false (by omega)
    clear hz
    go_enter Tryz.func163, Tryz.ntmps163
    go_wp2_with fail
    go_ret2
    exact ⟨by rw [hU.out]; rfl, Below.refl _ _⟩
end Go.Proofs.YtajlfmnjibgbaaaGreatDoor.Vl
/- A root's sector. -/
namespace Go.Proofs.YtajlfmnjibgbaaaGreatDoor.Vl
open Go Go.RowKit Go.Maps Mem Disk Nv
set_option maxRecDepth 100000 in
/-- append(b, text...), as one operation -/
theorem wp_append_str {P : Program} {o : Oper} {a : Act} {w : World} {K : Act → World → Prop} {Q : Exit → Act → World → Prop} (sl x : Operand) (t u : TypeId)
    (ho : o.op = .call { callee := .builtin .append, args := #[sl, x], argTypes := #[t, u] })
    (base : Nat) (e : TypeId) (i : TypeInfo) (ht : P.underlying t = some (.slice e)) (hu : P.underlying u = some .string) (hi : P.info? e = some i) (hz : i.zero = some (.int .u8 0))
    (hsize : i.size = 1) (hby : i.bytes = 1)
    (v : Value) (n : Nat) (xs : List Value) (hs : a.eval sl = v) (hown : w.ownsRow base e 1 v n xs) (s : ByteArray) (hx : a.eval x = .string s)
    (h63 : n + s.size ≤ maxLen) (hbytes : n + s.size ≤ 140737488355328) (hbase : base ≤ w.heap.size)
    (h : ∀ v' w', w'.ownsRow base e 1 v' (n + s.size) (xs ++ Lib.strCells s) → w.grownBy w' v.ownBlock → (v' = .slice none 0 0 ↔ v = .slice none 0 0 ∧ s.size = 0) → K (a.put o.dst v') w') : Oper.wp P o a w K Q := by
  obtain ⟨v', w', hr, h2, h3, h4⟩ := Lib.run_append_own_string (P := P) w base t u o.type e i ht hu hi hz hsize hby v n xs hown s h63 hbytes hbase
  unfold Oper.wp execOp
  simp only [ho, resolve, invoke, builtin, Sem.run_bind, Sem.run_pure, Result.andThen_ok, List.map_toArray, List.map_cons, List.map_nil, hs, hx, hr]
  exact h v' w' h2 h3 h4
set_option maxRecDepth 100000 in
theorem headR_bytes (t : ByteArray) (n : Nat) : [Value.int .u8 82, .int .u8 84] ++ bytesP n 6 ++ [.int .u8 ((UInt8.ofNat t.size).toNat : Int)] = Lib.byteCells (headR t n).data.toList := by
  unfold headR
  rw [toL_append, toL_append]
  simp [Lib.byteCells, bytesP, num]
set_option maxRecDepth 100000 in
set_option maxHeartbeats 8000000 in
theorem rootsec_any (t : ByteArray) (n : Nat) (ht : t.size ≤ 40) (w : World) : Calls Tryz.prog 94 #[.agg #[.string t, .int .i64 (n : Int)]] w fun e w' => e = .returned (.string (rootB t n)) ∧ Below w.heap.size w w' := by
  obtain ⟨i0, hinf, hz0, hz1, hz2⟩ := info_parts infoU8x
  obtain ⟨V0, hV0⟩ : ∃ V0, V0 = w.alloc (.cells #[.string t, .int .i64 (n : Int)] 92) := ⟨_, rfl⟩
  have B0 : Blk V0 w.heap.size 92 #[.string t, .int .i64 (n : Int)] := by rw [hV0]; exact Blk.new w _ _
  have b0 : Below w.heap.size w V0 := by rw [hV0]; exact (Below.refl _ w).alloc (Nat.le_refl _) _
  go_enter Tryz.func94, Tryz.ntmps94
  go_upto_region 1 with fail
  rw [← hV0]
  have cvt := Joins.run_convert_bytes_const_at (P := Tryz.prog) V0 36 5 #[.int .u8 82, .int .u8 84] 2 2 V0.heap.size rfl Tryz.underlying36 Tryz.underlying5
  have cvt' : (convert 36 36 (.slice (some ⟨V0.heap.size, 0, none⟩) 2 2)).run Tryz.prog (V0.alloc (.cells #[.int .u8 82, .int .u8 84] 5)) = .ok (.slice (some ⟨V0.heap.size, 0, none⟩) 2 2) (V0.alloc (.cells #[.int .u8 82, .int .u8 84] 5 (2, 3))) := cvt
  have g0 : (V0.alloc (.cells #[.int .u8 82, .int .u8 84] 5 (2, 3))).cell? ⟨V0.heap.size, 0, none⟩ = some (.int .u8 82) := Joins.cell_alloc_mark_at V0 _ _ _ _ 0 rfl
  have g1 : (V0.alloc (.cells #[.int .u8 82, .int .u8 84] 5 (2, 3))).cell? ⟨V0.heap.size, 1, none⟩ = some (.int .u8 84) := Joins.cell_alloc_mark_at V0 _ _ _ _ 1 rfl
  have b1 : Below w.heap.size w (V0.alloc (.cells #[.int .u8 82, .int .u8 84] 5 (2, 3))) := b0.alloc b0.size _
  have B1 := B0.alloc (.cells #[.int .u8 82, .int .u8 84] 5 (2, 3))
  have hgl : V0.heap.size < (V0.alloc (.cells #[.int .u8 82, .int .u8 84] 5 (2, 3))).heap.size := by simp
  replace g0 := Lib.hid g0
  replace g1 := Lib.hid g1
  replace b1 := Lib.hid b1
  replace B1 := Lib.hid B1
  replace hgl := Lib.hid hgl
  clear hV0 B0 b0 cvt
  go_wp2_with fail
  generalize V0.alloc (.cells #[.int .u8 82, .int .u8 84] 5 (2, 3)) = V1 at g0 g1 b1 B1 hgl ⊢
  generalize V0.heap.size = g at g0 g1 hgl ⊢
  go_loopw [3, 7] (fun v i wr => ∃ k : Nat, k ≤ 6 ∧ i = .int .i64 (k : Int) ∧ ((k = 0 ∧ v = .slice (some ⟨g, 0, none⟩) 2 2 ∧ wr.cell? ⟨g, 0, none⟩ = some (.int .u8 82) ∧ wr.cell? ⟨g, 1, none⟩ = some (.int .u8 84) ∧ g < wr.heap.size) ∨ ∃ (A : Option Addr) (c : Nat), v = .slice A (2 + k) c ∧ wr.ownsRow w.heap.size 5 1 (.slice A (2 + k) c) (2 + k) ([.int .u8 82, .int .u8 84] ++ bytesP n k)) ∧ Below w.heap.size w wr ∧ Blk wr w.heap.size 92 #[.string t, .int .i64 (n : Int)]) (fun _ i _ => 6 - (intOf i).toNat)
  case atStart => exact ⟨0, Nat.zero_le _, rfl, Or.inl ⟨rfl, rfl, g0.out, g1.out, hgl.out⟩, b1.out, B1.out⟩
  case round =>
    clear g0 g1 b1 B1 hgl
    obtain ⟨k, hk, rfl, hor, hb, hB⟩ := hrel
    have hs := hb.size
    have c1 := hB.cell 1
    by_cases hlt : k < 6
    · obtain ⟨cc, hcc⟩ : ∃ cc, cc = UInt8.ofNat (n / 2 ^ (8 * k)) := ⟨_, rfl⟩
      have e1 : ((n : Int) / 2 ^ (8 * k)) % 256 = (cc.toNat : Int) := by
        rw [hcc, UInt8.toNat_ofNat']
        have e : ((n : Int) / 2 ^ (8 * k)) = ((n / 2 ^ (8 * k) : Nat) : Int) := by rw [Int.natCast_ediv, Int.natCast_pow]; rfl
        rw [e]
        omega
      have hbs := bytesP_succ n k
      rw [← hcc] at hbs
      have hba := hb.alloc hs (.cells #[.int .u8 (cc.toNat : Int)] 5)
      have hBa := hB.alloc (.cells #[.int .u8 (cc.toNat : Int)] 5)
      replace hcc := Lib.hid hcc
      replace hbs := Lib.hid hbs
      rcases hor with ⟨rfl, rfl, q0, q1, hgl⟩ | ⟨A, c, rfl, o⟩
      · have p0 : (wr.alloc (.cells #[.int .u8 (cc.toNat : Int)] 5)).cell? ⟨g, 0, none⟩ = some (.int .u8 82) := (World.cell?_of_block (Below.heap_alloc wr _ g hgl)).trans q0
        have p1 : (wr.alloc (.cells #[.int .u8 (cc.toNat : Int)] 5)).cell? ⟨g, 1, none⟩ = some (.int .u8 84) := (World.cell?_of_block (Below.heap_alloc wr _ g hgl)).trans q1
        have e1' : (n : Int) % 256 = (cc.toNat : Int) := by rw [← e1]; simp
        replace p0 := Lib.hid p0
        replace p1 := Lib.hid p1
        replace hba := Lib.hid hba
        replace hBa := Lib.hid hBa
        clear hb hB q0 q1
        go_wp2_with (first
          | (at_builtin; refine wpList_append_grows _ rfl (.tmp 10) (.tmp 17) _ rfl 5 i0 (.int .u8 0) 1 1 Tryz.underlying36 hinf hz0 hz1 hz2 rfl (by decide) (some ⟨g, 0, none⟩) 2 2 [.int .u8 82, .int .u8 84] rfl (fun h => by cases h) rfl (fun b hb j u hj => by
                injection hb with hb
                subst hb
                match j, hj with
                | 0, hj => injection hj with hj; rw [← hj]; exact p0.out
                | 1, hj => injection hj with hj; rw [← hj]; exact p1.out
                | j + 2, hj => cases hj) ⟨wr.heap.size, 0, none⟩ 1 1 [.int .u8 (cc.toNat : Int)] rfl rfl (cell_one_new _ _ _) (by simp [Value.oneCell']) (by omega) (by unfold maxLen; omega) (by omega) ?_; intro v1 w11 o2 g1))
        obtain ⟨A1, c1, rfl⟩ := own_slice o2
        have hle : w.heap.size ≤ (wr.alloc (.cells #[.int .u8 (cc.toNat : Int)] 5)).heap.size := Nat.le_trans hs (by simp)
        have o3 := Joins.ownsRow_le o2 hle
        rw [show [Value.int .u8 82, .int .u8 84] ++ [.int .u8 (cc.toNat : Int)] = [.int .u8 82, .int .u8 84] ++ bytesP n (0 + 1) from by rw [hbs.out]; rfl] at o3
        exact ⟨⟨1, by omega, rfl, Or.inr ⟨A1, c1, rfl, o3⟩, hba.out.grown g1 hba.out.size (fun j hj => by cases hj), hBa.out.grown g1 (by simp)⟩, by simp [intOf]⟩
      · have oa := o.alloc (.cells #[.int .u8 (cc.toNat : Int)] 5)
        have hne := own_ne oa hBa (by decide)
        replace oa := Lib.hid oa
        replace hba := Lib.hid hba
        replace hBa := Lib.hid hBa
        replace hne := Lib.hid hne
        clear o hb hB
        go_wp2_with (first
          | (at_builtin; refine wpList_append_own _ rfl (.tmp 10) (.tmp 17) _ rfl w.heap.size 5 i0 (.int .u8 0) 1 1 Tryz.underlying36 hinf hz0 hz1 hz2 rfl (by decide) (.slice A (2 + k) c) (2 + k) _ rfl oa.out ⟨wr.heap.size, 0, none⟩ 1 1 [.int .u8 (cc.toNat : Int)] rfl rfl (cell_one_new _ _ _) (by simp [Value.oneCell']) (by unfold maxLen; omega) (by omega) (by simp; omega) ?_; intro v1 w11 o2 g1 n1))
        obtain ⟨A1, c1, rfl⟩ := own_slice o2
        rw [List.append_assoc, ← hbs.out] at o2
        exact ⟨⟨k + 1, hlt, rfl, Or.inr ⟨A1, c1, rfl, o2⟩, hba.out.grown g1 hba.out.size (fun j hj => (oa.out.lt j hj).1), hBa.out.grown g1 (fun e => hne.out _ e.symm rfl)⟩, by simp [intOf]; omega⟩
    · obtain rfl : k = 6 := by omega
      obtain ⟨A, c, rfl, o⟩ := hor.resolve_left (fun h => absurd h.1 (by decide))
      obtain ⟨sz, hsz⟩ : ∃ sz, sz = UInt8.ofNat t.size := ⟨_, rfl⟩
      have e2 : IntKind.u8.wrap (t.size : Int) = (sz.toNat : Int) := by
        show (t.size : Int) % 256 = _
        rw [hsz, UInt8.toNat_ofNat']
        omega
      have hR : [Value.int .u8 82, .int .u8 84] ++ bytesP n 6 ++ [.int .u8 (sz.toNat : Int)] = Lib.byteCells (headR t n).data.toList := by rw [hsz]; exact headR_bytes t n
      have kf := fun W => filled_any (headR t n ++ t) 56 W (by rw [ByteArray.size_append, headR_size]; omega) (by decide)
      have hroot : sealB (headR t n ++ t) 56 = rootB t n := rfl
      rw [hroot] at kf
      obtain ⟨Y, hY⟩ : ∃ Y, Y = headR t n ++ t := ⟨_, rfl⟩
      rw [← hY] at kf
      have hYr : ([Value.int .u8 82, .int .u8 84] ++ bytesP n 6 ++ [.int .u8 (sz.toNat : Int)]) ++ Lib.strCells t = Lib.byteCells Y.data.toList := by
        rw [hR, hY, toL_append]
        unfold Lib.byteCells Lib.strCells
        rw [List.map_append]
      have hYs : Y.data.toList.length = 9 + t.size := by
        have : Y.size = 9 + t.size := by rw [hY, ByteArray.size_append, headR_size]
        show Y.size = _
        omega
      generalize hRR : rootB t n = R at kf
      replace hRR := Lib.hid hRR
      replace kf := Lib.hid kf
      replace hYr := Lib.hid hYr
      replace hY := Lib.hid hY
      replace hsz := Lib.hid hsz
      have o0 : wr.drew.ownsRow w.heap.size 5 1 (.slice A 8 c) 8 ([.int .u8 82, .int .u8 84] ++ bytesP n 6) := o
      have hb0 : Below w.heap.size w wr.drew := hb.drew
      have hB0 : Blk wr.drew w.heap.size 92 #[.string t, .int .i64 (n : Int)] := hB
      clear hR hroot o hb hB c1 hs
      go_upto_region 7 with fail
      refine Late.start (S := fun W' => W'.cell? ⟨w.heap.size, 0, none⟩ = some (.string t)) (T := fun _ => True) (late := []) (by kernel_rfl) ?_
      generalize wr.drew = V at o0 hb0 hB0 ⊢
      have hT : True := trivial
      have hS : V.cell? ⟨w.heap.size, 0, none⟩ = some (.string t) := hB0.cell 0
      refine Late.take (i := 0) (oi := ?_) (v := ?_) ?_ (by kernel_rfl) (by kernel_rfl) (by kernel_rfl) (by kernel_rfl) ?_ ?_ (by assumption) (by assumption) ?_
      rotate_left 2
      focus (simp only [List.getElem?_toArray, List.getElem?_cons_zero]; rfl)
      focus exact fun _ _ _ h => h
      focus (refine Or.inl ⟨by kernel_rfl, ?_⟩; intro w hSw; clear hSw; go_simp; try with_reducible rfl)
      try simp only [Act.put, List.setIfInBounds_toArray, List.set_cons_zero, List.set_cons_succ]
      refine Late.take (i := 1) (oi := ?_) (v := ?_) ?_ (by kernel_rfl) (by kernel_rfl) (by kernel_rfl) (by kernel_rfl) ?_ ?_ (by assumption) (by assumption) ?_
      rotate_left 2
      focus (simp only [List.getElem?_toArray, List.getElem?_cons_succ, List.getElem?_cons_zero]; rfl)
      focus exact fun _ _ _ h => h
      focus (refine Or.inl ⟨by kernel_rfl, ?_⟩; intro w hSw; clear hSw; go_simp; try with_reducible rfl)
      try simp only [Act.put, List.setIfInBounds_toArray, List.set_cons_zero, List.set_cons_succ]
      refine Late.take (i := 2) (oi := ?_) (v := ?_) ?_ (by kernel_rfl) (by kernel_rfl) (by kernel_rfl) (by kernel_rfl) ?_ ?_ (by assumption) (by assumption) ?_
      rotate_left 2
      focus (simp only [List.getElem?_toArray, List.getElem?_cons_succ, List.getElem?_cons_zero]; rfl)
      focus exact fun _ _ _ h => h
      focus (refine Or.inl ⟨by rfl, ?_⟩; intro w hSw; (try dsimp only at hSw); go_split_ands; go_simp; try with_reducible rfl)
      try simp only [Act.put, List.setIfInBounds_toArray, List.set_cons_zero, List.set_cons_succ]
      refine Late.take (i := 3) (oi := ?_) (v := ?_) ?_ (by kernel_rfl) (by kernel_rfl) (by kernel_rfl) (by kernel_rfl) ?_ ?_ (by assumption) (by assumption) ?_
      rotate_left 2
      focus (simp only [List.getElem?_toArray, List.getElem?_cons_succ, List.getElem?_cons_zero]; rfl)
      focus exact fun _ _ _ h => h
      focus (refine Or.inl ⟨by kernel_rfl, ?_⟩; intro w hSw; clear hSw; go_simp; try with_reducible rfl)
      try simp only [Act.put, List.setIfInBounds_toArray, List.set_cons_zero, List.set_cons_succ]
      refine Late.take (i := 4) (oi := ?_) (v := ?_) ?_ (by kernel_rfl) (by kernel_rfl) (by kernel_rfl) (by kernel_rfl) ?_ ?_ (by assumption) (by assumption) ?_
      rotate_left 2
      focus (simp only [List.getElem?_toArray, List.getElem?_cons_succ, List.getElem?_cons_zero]; rfl)
      focus exact fun _ _ _ h => h
      focus (refine Or.inl ⟨by kernel_rfl, ?_⟩; intro w hSw; clear hSw; go_simp; try with_reducible rfl)
      try simp only [Act.put, List.setIfInBounds_toArray, List.set_cons_zero, List.set_cons_succ]
      refine Late.take (i := 7) (oi := ?_) (v := ?_) ?_ (by kernel_rfl) (by kernel_rfl) (by kernel_rfl) (by kernel_rfl) ?_ ?_ (by assumption) (by assumption) ?_
      rotate_left 2
      focus (simp only [List.getElem?_toArray, List.getElem?_cons_succ, List.getElem?_cons_zero]; rfl)
      focus exact fun _ _ _ h => h
      focus (refine Or.inl ⟨by kernel_rfl, ?_⟩; intro w hSw; clear hSw; go_simp; try with_reducible rfl)
      try simp only [Act.put, List.setIfInBounds_toArray, List.set_cons_zero, List.set_cons_succ]
      refine Late.take (i := 8) (oi := ?_) (v := ?_) ?_ (by kernel_rfl) (by kernel_rfl) (by kernel_rfl) (by kernel_rfl) ?_ ?_ (by assumption) (by assumption) ?_
      rotate_left 2
      focus (simp only [List.getElem?_toArray, List.getElem?_cons_succ, List.getElem?_cons_zero]; rfl)
      focus exact fun _ _ _ h => h
      focus (refine Or.inl ⟨by rfl, ?_⟩; intro w hSw; (try dsimp only at hSw); go_split_ands; go_simp; try with_reducible rfl)
      try simp only [Act.put, List.setIfInBounds_toArray, List.set_cons_zero, List.set_cons_succ]
      refine Late.only (i := 5) (o := ?_) (by kernel_rfl) ?_ (fun K hK => ?_)
      rotate_left 1
      focus (simp only [List.getElem?_toArray, List.getElem?_cons_succ, List.getElem?_cons_zero]; rfl)
      go_simp
      have n1 : Row (V.alloc (.cells #[.int .u8 (sz.toNat : Int)] 5)) (some ⟨V.heap.size, 0, none⟩) 1 [.int .u8 (sz.toNat : Int)] := ⟨rfl, fun k u hk => by
        match k, hk with
        | 0, hk =>
          injection hk with hk
          subst hk
          exact ⟨_, rfl, (Blk.new V 5 #[.int .u8 (sz.toNat : Int)]).cell 0⟩
        | k + 1, hk => cases hk⟩
      have o1 := o0.alloc (.cells #[.int .u8 (sz.toNat : Int)] 5)
      have hb1 := hb0.alloc hb0.size (.cells #[.int .u8 (sz.toNat : Int)] 5)
      have hB1 := hB0.alloc (.cells #[.int .u8 (sz.toNat : Int)] 5)
      have hne := own_ne o1 hB1 (by decide)
      have hS1 := hB1.cell 0
      refine hK.out _ _ hS1 (fun _ => trivial) ?_
      clear hK K
      try simp only [Act.put, List.setIfInBounds_toArray, List.set_cons_zero, List.set_cons_succ]
      generalize V.alloc (.cells #[.int .u8 (sz.toNat : Int)] 5) = V1 at n1 o1 hb1 hB1 hS1 ⊢
      generalize V.heap.size = gg at n1 ⊢
      clear hS
      refine Late.only (i := 6) (o := ?_) (by kernel_rfl) ?_ (fun K hK => ?_)
      rotate_left 1
      focus (simp only [List.getElem?_toArray, List.getElem?_cons_succ, List.getElem?_cons_zero]; rfl)
      rw [if_pos (by kernel_rfl)]
      refine wp_append_row (P := Tryz.prog) (w := V1) (.tmp 20) (.tmp 25) 36 rfl w.heap.size 5 i0 (.int .u8 0) 1 Tryz.underlying36 hinf hz0 hz1 hz2 rfl (.slice A 8 c) 8 _ rfl o1 (some ⟨gg, 0, none⟩) 1 1 [.int .u8 (sz.toNat : Int)] rfl n1 (by simp [Value.oneCell']) (by unfold maxLen; omega) (by omega) hb1.size ?_
      intro v2 V2 o2 g2 _
      obtain ⟨A2, c2, rfl⟩ := own_slice o2
      have hb2 := hb1.grown g2 hb1.size (fun j e => (o1.lt j e).1)
      have hB2 := hB1.grown g2 (fun e => hne _ e.symm rfl)
      have hne2 := own_ne o2 hB2 (by decide)
      have hS2 := hB2.cell 0
      refine hK.out _ _ hS2 (fun _ => trivial) ?_
      clear hK K
      try simp only [Act.put, List.setIfInBounds_toArray, List.set_cons_zero, List.set_cons_succ]
      clear g2 o1 hb1 hB1 hne hS1 n1
      refine Late.only (i := 9) (o := ?_) (by kernel_rfl) ?_ (fun K hK => ?_)
      rotate_left 1
      focus (simp only [List.getElem?_toArray, List.getElem?_cons_succ, List.getElem?_cons_zero]; rfl)
      rw [if_pos (by kernel_rfl)]
      refine wp_append_str (P := Tryz.prog) (w := V2) (.tmp 26) (.tmp 28) 36 9 rfl w.heap.size 5 i0 Tryz.underlying36 Tryz.underlying9 hinf hz0 hz1 hz2 (.slice A2 9 c2) 9 _ rfl o2 t rfl (by unfold maxLen; omega) (by omega) hb2.size ?_
      intro v3 V3 o3 g3 _
      obtain ⟨A3, c3, rfl⟩ := own_slice o3
      have hb3 := hb2.grown g3 hb2.size (fun j e => (o2.lt j e).1)
      have hS3 := (hB2.grown g3 (fun e => hne2 _ e.symm rfl)).cell 0
      rw [hYr.out] at o3
      refine hK.out _ _ hS3 (fun _ => trivial) ?_
      clear hK K
      try simp only [Act.put, List.setIfInBounds_toArray, List.set_cons_zero, List.set_cons_succ]
      clear g3 o2 hb2 hB2 hne2 hS2
      have hcv : (convert 36 9 (.slice A3 (9 + t.size) c3)).run Tryz.prog V3 = .ok (.string Y) V3 := by
        obtain ⟨g, cap, hv, _⟩ := o3.form (by omega)
        injection hv with hv _ hv2
        subst hv hv2
        have := run_convert_bytes_back (P := Tryz.prog) V3 36 9 5 ⟨g, 0, none⟩ c3 Y.data.toList Tryz.underlying36 Tryz.underlying5 Tryz.underlying9 (fun j hj => o3.cells (g := g) rfl j _ (by rw [List.getElem?_eq_getElem (by simpa [Lib.byteCells] using hj)]; simp [Lib.byteCells]))
        rwa [hYs] at this
      clear o3
      refine Late.only (i := 10) (o := ?_) (by kernel_rfl) ?_ (fun K hK => ?_)
      rotate_left 1
      focus (simp only [List.getElem?_toArray, List.getElem?_cons_succ, List.getElem?_cons_zero]; rfl)
      go_simp
      refine hK.out _ _ hS3 (fun _ => trivial) ?_
      clear hK K
      try simp only [Act.put, List.setIfInBounds_toArray, List.set_cons_zero, List.set_cons_succ]
      refine Late.only (i := 11) (o := ?_) (by kernel_rfl) ?_ (fun K hK => ?_)
      rotate_left 1
      focus (simp only [List.getElem?_toArray, List.getElem?_cons_succ, List.getElem?_cons_zero]; rfl)
      go_simp
      refine (kf.out _).mono ?_
      rintro e V4 ⟨rfl, hb4⟩
      have hb5 := hb3.trans (hb4.mono hb3.size)
      have hS4 := (hb4.cell (World.block_lt_of_cell? V3 _ hS3)).trans hS3
      refine hK.out _ _ hS4 (fun _ => trivial) ?_
      clear hK K
      try simp only [Act.put, List.setIfInBounds_toArray, List.set_cons_zero, List.set_cons_succ]
      clear hS3 hb3 hb4
      refine Late.take (i := 12) (oi := ?_) (v := ?_) ?_ (by kernel_rfl) (by kernel_rfl) (by kernel_rfl) (by kernel_rfl) ?_ ?_ (by assumption) (by assumption) ?_
      rotate_left 2
      focus (simp only [List.getElem?_toArray, List.getElem?_cons_succ, List.getElem?_cons_zero]; rfl)
      focus exact fun _ _ _ h => h
      focus (refine Or.inl ⟨by kernel_rfl, ?_⟩; intro w hSw; clear hSw; go_simp; try with_reducible rfl)
      try simp only [Act.put, List.setIfInBounds_toArray, List.set_cons_zero, List.set_cons_succ]
      refine Late.done (by kernel_rfl) ?_ _
      go_wp2_with fail
      go_ret
      exact ⟨by rw [hRR.out]; rfl, hb5⟩
end Go.Proofs.YtajlfmnjibgbaaaGreatDoor.Vl
/- A root of a sector. -/
namespace Go.Proofs.YtajlfmnjibgbaaaGreatDoor.Vl
open Go Go.RowKit Go.Maps Mem Disk Nv
end Go.Proofs.YtajlfmnjibgbaaaGreatDoor.Vl

/- The walk of the law FrameBack: what is sealed is opened as it was, what is opened is sealed as it was. -/
import Derived.Test.YtndmcbphdknihaaDoorFrameFixed
import Derived.Deep.DeepCutAuto
namespace Go.Proofs.YtndmcbphdknihaaDoor.Frame
open Go.RowKit Mem Wire

/-- '[]byte(t)': the bytes lie in a new block -/
theorem bytes_made (t : ByteArray) (w : World) : ∃ (cap : Nat) (w' : World), (convert 9 33 (.string t)).run Tryd.prog w = .ok (.slice (some ⟨w.heap.size, 0, none⟩) t.size cap) w' ∧
    (∀ j, j < t.size → ∃ c : UInt8, w'.cell? ⟨w.heap.size, j, none⟩ = some (.int .u8 (c.toNat : Int))) ∧ (∀ j, j < t.size → w'.frozen? ⟨w.heap.size, j, none⟩ = false) ∧ Below w.heap.size w w' := by
  refine ⟨grownCap w t.size 0 5, _, run_bytes_of_string w 9 33 5 t Tryd.underlying9 Tryd.underlying33 Tryd.underlying5, ?_, ?_, ?_⟩
  · intro j hj
    have hj' : j < t.data.size := hj
    exact ⟨t.data[j], (World.cell?_alloc_mark _ _ _ _ j).trans (bytesRow_at t _ j hj')⟩
  · intro j hj
    refine (World.frozen?_alloc_mark _ _ _ _ _ j).trans ?_
    have hj' : j < t.data.size := hj
    have hsz : j < (bytesRow t (grownCap w t.size 0 5)).size := by
      unfold bytesRow
      simp
      omega
    rw [decide_eq_false (Nat.not_le.2 hsz), Bool.false_and]
  · exact (Below.refl _ w).drew.alloc (Nat.le_refl _) _
theorem flip_byte (c : UInt8) : ∃ y : UInt8, bits .xor .u8 (c.toNat : Int) 1 = (y.toNat : Int) := by
  have hx : c.toNat ^^^ 1 < 2 ^ 8 := Nat.xor_lt_two_pow c.toNat_lt (by decide)
  refine ⟨UInt8.ofNat (c.toNat ^^^ 1), ?_⟩
  rw [UInt8.toNat_ofNat', Nat.mod_eq_of_lt hx]
  exact u8_xor_nat c.toNat 1 c.toNat_lt (by decide)
/-- 'string(b)' behind one byte's turn -/
theorem bytes_back (t : ByteArray) (w : World) (B cap j : Nat) (y : UInt8) (h : ∀ j, j < t.size → ∃ c : UInt8, w.cell? ⟨B, j, none⟩ = some (.int .u8 (c.toNat : Int))) (hj : j < t.size) :
    ∃ U : ByteArray, U.size = t.size ∧ (convert 33 9 (.slice (some ⟨B, 0, none⟩) t.size cap)).run Tryd.prog (w.setCell ⟨B, j, none⟩ (.int .u8 (y.toNat : Int))) = .ok (.string U) (w.setCell ⟨B, j, none⟩ (.int .u8 (y.toNat : Int))) := by
  have hf : ∀ i : Nat, ∃ c : UInt8, i < t.size → (w.setCell ⟨B, j, none⟩ (.int .u8 (y.toNat : Int))).cell? ⟨B, i, none⟩ = some (.int .u8 (c.toNat : Int)) := by
    intro i
    by_cases hi : i < t.size
    · by_cases hij : i = j
      · subst hij
        obtain ⟨c, hc⟩ := h i hi
        exact ⟨y, fun _ => World.cell?_setCell_same _ _ _ hc⟩
      · obtain ⟨c, hc⟩ := h i hi
        refine ⟨c, fun _ => ?_⟩
        exact (World.cell?_setCell_other _ _ _ _ (fun e => by injection e; omega)).trans hc
    · exact ⟨0, fun h => absurd h hi⟩
  have hl : ∃ l : List UInt8, l.length = t.size ∧ ∀ i (hi : i < l.length), (w.setCell ⟨B, j, none⟩ (.int .u8 (y.toNat : Int))).cell? ⟨B, i, none⟩ = some (.int .u8 (l[i].toNat : Int)) := by
    refine ⟨(List.range t.size).map fun i => Classical.choose (hf i), by simp, ?_⟩
    intro i hi
    simp only [List.length_map, List.length_range] at hi
    simp only [List.getElem_map, List.getElem_range]
    exact Classical.choose_spec (hf i) hi
  obtain ⟨l, hlen, hc⟩ := hl
  refine ⟨⟨l.toArray⟩, hlen, ?_⟩
  have := run_convert_bytes_back (P := Tryd.prog) (w.setCell ⟨B, j, none⟩ (.int .u8 (y.toNat : Int))) 33 9 5 ⟨B, 0, none⟩ cap l Tryd.underlying33 Tryd.underlying5 Tryd.underlying9 (fun i hi => by
    rw [add_lit, Nat.zero_add]
    exact hc i hi)
  rwa [hlen] at this
theorem mask16 (a : Int) : ∃ m : Nat, m ≤ 65535 ∧ bits .and .i64 a 65535 = (m : Int) := by
  refine ⟨(BitVec.ofInt 64 a &&& BitVec.ofInt 64 65535).toNat, ?_, ?_⟩
  · rw [BitVec.toNat_and]
    exact Nat.le_trans Nat.and_le_right (by decide)
  · have h : (BitVec.ofInt 64 a &&& BitVec.ofInt 64 65535).toNat ≤ 65535 := by
      rw [BitVec.toNat_and]
      exact Nat.le_trans Nat.and_le_right (by decide)
    show IntKind.i64.wrap ((BitVec.ofInt 64 a &&& BitVec.ofInt 64 65535).toNat : Int) = _
    rw [IntKind.wrap_i64]
    omega
theorem open_zero {l : List UInt8} (h : (openOut l).2 = 0) : Ok (openOut l).1.1 (openOut l).1.2.1 (openOut l).1.2.2.1 (openOut l).1.2.2.2.length ∧ sealed_ (laid (openOut l).1.1 (openOut l).1.2.1 (openOut l).1.2.2.1 (openOut l).1.2.2.2) = l := by
  by_cases hg : good l
  · by_cases hz : (reads 7 1073741824 1073741824 2000 (l.take (l.length - 8))).2 = 0
    · have he : openOut l = ((reads 7 1073741824 1073741824 2000 (l.take (l.length - 8))).1, 0) := by rw [openOut, if_pos hg, if_pos hz]
      rw [he]
      obtain ⟨⟨⟨k, e, q, b⟩, z⟩, hR⟩ : ∃ x : Msg × Int, reads 7 1073741824 1073741824 2000 (l.take (l.length - 8)) = x := ⟨_, rfl⟩
      rw [hR] at hz
      obtain rfl : z = 0 := hz
      obtain ⟨hl, hk, he', hq, hb⟩ := reads_only hR
      rw [hR]
      refine ⟨⟨hk, he', hq, by simp only; omega⟩, ?_⟩
      have h2 := hg.2
      rw [hl] at h2
      exact h2
    · rw [openOut, if_pos hg, if_neg hz] at h
      exact absurd h (by decide)
  · rw [openOut, if_neg hg] at h
    exact absurd h (by decide)
theorem open_good {l : List UInt8} (h : (openOut l).2 = 0) : good l := by
  by_cases hg : good l
  · exact hg
  · rw [openOut, if_neg hg] at h
    exact absurd h (by decide)
theorem open_bad {l : List UInt8} (h : (openOut l).2 ≠ 0) : (openOut l).1 = nil := by
  unfold openOut at h ⊢
  split
  · next hg =>
    rw [if_pos hg] at h
    split
    · next hz => rw [if_pos hz] at h; exact absurd rfl h
    · rfl
  · rfl

set_option maxRecDepth 100000 in
set_option maxHeartbeats 1000000 in
theorem back_any (k e q : Int) (b : ByteArray) (s : ByteArray) (at_ : Int) (w : World) (hs : s.size ≤ 140737488355328) (hL : Laid w) :
    Calls Tryd.prog 5 #[fVal k e q b, .string s, .int .i64 at_] w fun e w' => e = .returned (.bool true) ∧ Below w.heap.size w w' := by
  have hp := hL.pos
  have c1 := fun W => seal_any k e q b W
  unfold sealVal at c1
  obtain ⟨t, ht⟩ : ∃ z, z = (⟨(sealOut k e q b.data.toList).1.toArray⟩ : ByteArray) := ⟨_, rfl⟩
  obtain ⟨x, hx⟩ : ∃ z, z = (sealOut k e q b.data.toList).2 := ⟨_, rfl⟩
  rw [← ht, ← hx] at c1
  have dec : x = 0 → Ok k e q b.data.toList.length ∧ t = ⟨(sealed_ (laid k e q b.data.toList)).toArray⟩ := by
    intro h0
    by_cases h : Ok k e q b.data.toList.length
    · refine ⟨h, ?_⟩
      rw [ht, sealOut, if_pos h]
    · rw [hx, sealOut, if_neg h] at h0
      exact absurd h0 (by decide)
  clear ht hx
  replace dec := Lib.hid dec
  have A0 := Blk.new w 23 #[.int .i64 k, .int .i64 e, .int .i64 q, .string b]
  have hb : Below w.heap.size w (w.alloc (.cells #[.int .i64 k, .int .i64 e, .int .i64 q, .string b] 23)) := (Below.refl _ w).alloc (Nat.le_refl _) _
  replace hL := Lib.hid hL
  unfold fVal at c1 ⊢
  replace c1 := Lib.hid c1
  go_enter Tryd.func5, Tryd.ntmps5
  go_upto_if 26 with fail
  refine (c1.out _).mono ?_
  rintro en w1 ⟨rfl, b1⟩
  have A1 := A0.below b1 A0.lt
  have hb1 := hb.trans (b1.mono hb.size)
  clear A0 hb b1
  go_upto_if 26 with fail
  go_cut [6] (fun s6 wx => s6 = .bool false ∧ Below w.heap.size w wx)
  case first =>
    by_cases hx : x = 0
    · obtain ⟨ho, hte⟩ := dec.out hx
      subst hx
      have tl : t.data.toList = sealed_ (laid k e q b.data.toList) := by rw [hte]
      have t12 : 8 ≤ t.size := by rw [Lib.size_eq, tl, sealed_length]; omega
      have t99 : t.size ≤ 2044 := by rw [Lib.size_eq, tl, sealed_length]; have := laid_length ho; omega
      have c4 := fun W hL => open_any t W (by omega) hL
      have hv : openVal t.data.toList = .tuple #[fVal k e q b, .int .i64 0] := by
        rw [openVal, tl, openOut_seal ho]
      rw [hv] at c4
      unfold fVal at c4
      replace c4 := Lib.hid c4
      have hL1 := hL.out.below hb1 hp
      clear ho hte tl hv
      obtain ⟨mm, hm1, hm2⟩ := mask16 at_
      go_wp2_with fail
      refine (c4.out _ hL1).mono ?_
      rintro en w2 ⟨rfl, b2⟩
      have A2 := A1.below b2 A1.lt
      have hb2 := hb1.trans (b2.mono hb1.size)
      have hL2 := hL.out.below hb2 hp
      clear A1 hb1 b2 hL1
      have m0 : (w2.alloc (.cells #[.int .i64 k, .int .i64 e, .int .i64 q, .string b] 23)).cell? ⟨w.heap.size, 0, none⟩ = some (.int .i64 k) := (A2.alloc _).cell 0
      have m1 : (w2.alloc (.cells #[.int .i64 k, .int .i64 e, .int .i64 q, .string b] 23)).cell? ⟨w.heap.size, 1, none⟩ = some (.int .i64 e) := (A2.alloc _).cell 1
      have m2 : (w2.alloc (.cells #[.int .i64 k, .int .i64 e, .int .i64 q, .string b] 23)).cell? ⟨w.heap.size, 2, none⟩ = some (.int .i64 q) := (A2.alloc _).cell 2
      have m3 : (w2.alloc (.cells #[.int .i64 k, .int .i64 e, .int .i64 q, .string b] 23)).cell? ⟨w.heap.size, 3, none⟩ = some (.string b) := (A2.alloc _).cell 3
      go_upto_region 6 with fail
      have hb3 : Below w.heap.size w (w2.alloc (.cells #[.int .i64 k, .int .i64 e, .int .i64 q, .string b] 23)) := hb2.alloc hb2.size _
      clear m0 m1 m2 m3 A2 hb2 hL2
      generalize w2.alloc (.cells #[.int .i64 k, .int .i64 e, .int .i64 q, .string b] 23) = w3 at hb3 ⊢
      have B0 : w.heap.size ≤ w3.heap.size := hb3.size
      obtain ⟨cap, w4, cv, cells, fz, hb4⟩ := bytes_made t w3
      replace hb4 := hb3.trans (hb4.mono B0)
      clear hb3
      generalize w3.heap.size = B at cv cells fz B0 ⊢
      obtain ⟨j, hj⟩ : ∃ z, z = mm % t.size := ⟨_, rfl⟩
      have hjt : j < t.size := by rw [hj]; exact Nat.mod_lt _ (by omega)
      have hji : (mm : Int) % (t.size : Int) = (j : Int) := by rw [hj]; exact (Int.natCast_emod _ _).symm
      replace hj := Lib.hid hj
      obtain ⟨c, mc⟩ := cells j hjt
      have fj := fz j hjt
      obtain ⟨yy, ey⟩ := flip_byte c
      obtain ⟨U, sU, cv2⟩ := bytes_back t w4 B cap j yy cells hjt
      clear cells fz
      have hb5 : Below w.heap.size w (w4.setCell ⟨B, j, none⟩ (.int .u8 (yy.toNat : Int))) := hb4.setCell B0 _
      have hL5 := hL.out.below hb5 hp
      obtain ⟨m, hm⟩ : ∃ m, U.size = m + 8 := ⟨U.size - 8, by omega⟩
      have c5 := fun W hL => open_any U W (by omega) hL
      have c6 := fun W => rsealed_any (U.extract 0 m) W (by rw [ByteArray.size_extract]; omega)
      have hU : (openOut U.data.toList).2 = 0 → (⟨(sealed_ (U.extract 0 m).data.toList).toArray⟩ : ByteArray) = U := by
        intro h
        rw [left_of U m hm, (open_good h).2, Lib.mk_data]
      unfold openVal at c5
      generalize (openOut U.data.toList).2 = r5 at c5 hU
      replace c5 := Lib.hid c5
      replace c6 := Lib.hid c6
      replace hU := Lib.hid hU
      replace sU := Lib.hid sU
      have um : m ≤ 2036 := by have := sU.out; omega
      clear t12 t99
      have t12 : 8 ≤ t.size := by rw [← sU.out, hm]; omega
      have t99 : t.size ≤ 2044 := by rw [← sU.out, hm]; omega
      go_wp2_with fail
      refine (c5.out _ hL5).mono ?_
      rintro en w6 ⟨rfl, b6⟩
      have hb6 := hb5.trans (b6.mono hb5.size)
      replace hb6 := hb6.alloc hb6.size (.cells #[.int .i64 (openOut U.data.toList).1.1, .int .i64 (openOut U.data.toList).1.2.1, .int .i64 (openOut U.data.toList).1.2.2.1, .string ⟨(openOut U.data.toList).1.2.2.2.toArray⟩] 23)
      clear hb5 hL5 b6 hb4 cv cv2 mc fj
      unfold fVal
      by_cases hr5 : r5 = 0
      · have c6 := c6.out
        rw [hU.out hr5] at c6
        replace c6 := Lib.hid c6
        go_wp2_with fail
        refine (c6.out _).mono ?_
        rintro en w7 ⟨rfl, b7⟩
        have hb7 := hb6.trans (b7.mono hb6.size)
        go_wp2_with fail
        go_meet
        exact ⟨rfl, hb7⟩
      · go_wp2_with fail
        go_meet
        exact ⟨rfl, hb6⟩
    · go_wp2_with fail
      go_meet
      exact ⟨rfl, hb1⟩
  case rest =>
    obtain ⟨rfl, hb2⟩ := hcut
    clear A1 hb1
    have hL2 := hL.out.below hb2 hp
    have c2 := fun W hL => open_any s W (by omega) hL
    unfold openVal at c2
    by_cases hr : (openOut s.data.toList).2 = 0
    · obtain ⟨ho, hse⟩ := open_zero hr
      obtain ⟨⟨⟨k1, e1, q1, d1⟩, r⟩, hO⟩ : ∃ x, openOut s.data.toList = x := ⟨_, rfl⟩
      rw [hO] at c2 hr ho hse
      simp only at c2 hr ho hse
      obtain rfl : r = 0 := hr
      have c3 := fun W => seal_any k1 e1 q1 ⟨d1.toArray⟩ W
      have hsv : sealVal k1 e1 q1 ⟨d1.toArray⟩ = .tuple #[.string s, .int .i64 0] := by
        rw [sealVal, sealOut, if_pos ho]
        show Value.tuple #[.string ⟨(sealed_ (laid k1 e1 q1 d1)).toArray⟩, .int .i64 0] = _
        rw [hse, Lib.mk_data]
      rw [hsv] at c3
      unfold fVal at c2 c3
      replace c2 := Lib.hid c2
      replace c3 := Lib.hid c3
      clear hO ho hse hsv
      go_wp2_with fail
      refine (c2.out _ hL2).mono ?_
      rintro en w3 ⟨rfl, b3⟩
      have hb3 := hb2.trans (b3.mono hb2.size)
      have G3 := Blk.new w3 23 #[.int .i64 k1, .int .i64 e1, .int .i64 q1, .string ⟨d1.toArray⟩]
      have hb4 := hb3.alloc hb3.size (.cells #[.int .i64 k1, .int .i64 e1, .int .i64 q1, .string ⟨d1.toArray⟩] 23)
      clear hb3 hb2 b3 hL2
      go_wp2_with fail
      refine (c3.out _).mono ?_
      rintro en w5 ⟨rfl, b5⟩
      have hb5 := hb4.trans (b5.mono hb4.size)
      have hL5 := hL.out.below hb5 hp
      clear G3 hb4 b5
      go_wp2_with fail
      refine (fixed_any _ hL5).mono ?_
      rintro en w6 ⟨rfl, b6⟩
      have hb6 := hb5.trans (b6.mono hb5.size)
      go_wp2_with fail
      go_ret
      exact ⟨rfl, hb6⟩
    · have hnil := open_bad hr
      obtain ⟨⟨m, r⟩, hO⟩ : ∃ x, openOut s.data.toList = x := ⟨_, rfl⟩
      rw [hO] at c2 hr hnil
      simp only at c2 hr hnil
      subst hnil
      have c2 : ∀ W, Laid W → Calls Tryd.prog 10 #[.string s] W fun e w' => e = .returned (.tuple #[.agg #[.int .i64 0, .int .i64 0, .int .i64 0, .string ⟨#[]⟩], .int .i64 r]) ∧ Below W.heap.size W w' := c2
      replace c2 := Lib.hid c2
      clear hO
      go_wp2_with fail
      refine (c2.out _ hL2).mono ?_
      rintro en w3 ⟨rfl, b3⟩
      have hb3 := hb2.trans (b3.mono hb2.size)
      have G3 := Blk.new w3 23 #[.int .i64 0, .int .i64 0, .int .i64 0, .string ⟨#[]⟩]
      have hb4 := hb3.alloc hb3.size (.cells #[.int .i64 0, .int .i64 0, .int .i64 0, .string ⟨#[]⟩] 23)
      have hL4 := hL.out.below hb4 hp
      clear hb3 hb2 b3 hL2
      go_wp2_with fail
      refine (fixed_any _ hL4).mono ?_
      rintro en w6 ⟨rfl, b6⟩
      have hb6 := hb4.trans (b6.mono hb4.size)
      go_wp2_with fail
      go_ret
      exact ⟨rfl, hb6⟩
end Go.Proofs.YtndmcbphdknihaaDoor.Frame

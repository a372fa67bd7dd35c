/- The walk of the law FrameOnce: two messages have the same bytes just if they are one. -/
import Derived.Test.YtndmcbphdknihaaDoorFrameFixed
namespace Go.Proofs.YtndmcbphdknihaaDoor.Frame
open Go.RowKit Mem Wire

theorem seal_inj {k e q k' e' q' : Int} {b b' : List UInt8} (h : Ok k e q b.length) (h' : Ok k' e' q' b'.length) (heq : sealed_ (laid k e q b) = sealed_ (laid k' e' q' b')) : (k, e, q, b) = (k', e', q', b') := by
  have h1 := openOut_seal h
  rw [heq, openOut_seal h'] at h1
  exact ((Prod.mk.injEq _ _ _ _).mp h1).1.symm
theorem seal_size {k e q : Int} {b : List UInt8} (h : Ok k e q b.length) : 12 ≤ (sealed_ (laid k e q b)).length ∧ (sealed_ (laid k e q b)).length ≤ 2021 := by
  obtain ⟨⟨k0, k1⟩, ⟨e0, e1⟩, ⟨q0, q1⟩, hn⟩ := h
  have a1 := digits_pos k.toNat
  have a2 := digits_pos e.toNat
  have a3 := digits_pos q.toNat
  have a4 := digits_pos b.length
  have u1 := digits_length_pow 0 k.toNat (by simp; omega)
  have u2 := digits_length_pow 4 e.toNat (by simp; omega)
  have u3 := digits_length_pow 4 q.toNat (by simp; omega)
  have u4 := digits_length_pow 1 b.length (by simp; omega)
  rw [sealed_length]
  simp only [laid, text, List.length_append]
  omega

set_option maxRecDepth 100000 in
set_option maxHeartbeats 1000000 in
theorem once_any (k e q : Int) (b : ByteArray) (k' e' q' : Int) (b' : ByteArray) (w : World) (hL : Laid w) :
    Calls Tryd.prog 6 #[fVal k e q b, fVal k' e' q' b'] w fun e w' => e = .returned (.bool true) ∧ Below w.heap.size w w' := by
  have hp := hL.pos
  have c1 := fun W => seal_any k e q b W
  have c2 := fun W => seal_any k' e' q' b' W
  unfold sealVal at c1 c2
  have hbs := Lib.size_eq b
  have hbs' := Lib.size_eq b'
  have A0 := Blk.new w 23 #[.int .i64 k, .int .i64 e, .int .i64 q, .string b]
  have B0 := Blk.new (w.alloc (.cells #[.int .i64 k, .int .i64 e, .int .i64 q, .string b] 23)) 23 #[.int .i64 k', .int .i64 e', .int .i64 q', .string b']
  rw [Sip.size_push] at B0
  replace A0 := A0.alloc (.cells #[.int .i64 k', .int .i64 e', .int .i64 q', .string b'] 23)
  have hb : Below w.heap.size w ((w.alloc (.cells #[.int .i64 k, .int .i64 e, .int .i64 q, .string b] 23)).alloc (.cells #[.int .i64 k', .int .i64 e', .int .i64 q', .string b'] 23)) := ((Below.refl _ w).alloc (Nat.le_refl _) _).alloc (by simp) _
  replace hL := Lib.hid hL
  have dec : ∃ (s t : ByteArray) (x y : Int), (⟨(sealOut k e q b.data.toList).1.toArray⟩ : ByteArray) = s ∧ (sealOut k e q b.data.toList).2 = x ∧ (⟨(sealOut k' e' q' b'.data.toList).1.toArray⟩ : ByteArray) = t ∧ (sealOut k' e' q' b'.data.toList).2 = y ∧
      ((x ≠ 0 ∨ y ≠ 0) ∨ (x = 0 ∧ y = 0 ∧ 12 ≤ s.size ∧ s.size ≤ 2021 ∧ (s.toList = t.toList ↔ (k = k' ∧ e = e' ∧ q = q' ∧ b.toList = b'.toList)))) := by
    refine ⟨_, _, _, _, rfl, rfl, rfl, rfl, ?_⟩
    by_cases h : Ok k e q b.data.toList.length
    · by_cases h' : Ok k' e' q' b'.data.toList.length
      · right
        rw [sealOut, if_pos h, sealOut, if_pos h', Lib.toList_data, Lib.toList_data, Lib.toList_data b, Lib.toList_data b', Lib.size_eq]
        have hsz := seal_size h
        refine ⟨rfl, rfl, hsz.1, hsz.2, ?_⟩
        constructor
        · intro heq
          have := seal_inj h h' heq
          simpa using this
        · rintro ⟨h1, h2, h3, h4⟩
          rw [h1, h2, h3, h4]
      · left; right
        rw [sealOut, if_neg h']; decide
    · left; left
      rw [sealOut, if_neg h]; decide
  obtain ⟨s, t, x, y, hs, hx, ht, hy, dec⟩ := dec
  rw [hs, hx] at c1
  rw [ht, hy] at c2
  clear hs hx ht hy hbs hbs'
  unfold fVal at c1 c2 ⊢
  replace c1 := Lib.hid c1
  replace c2 := Lib.hid c2
  replace dec := Lib.hid dec
  go_enter Tryd.func6, Tryd.ntmps6
  go_wp2_with fail
  refine (c1.out _).mono ?_
  rintro en w1 ⟨rfl, b1⟩
  have A1 := A0.below b1 A0.lt
  have B1 := B0.below b1 B0.lt
  have hb1 := hb.trans (b1.mono hb.size)
  clear A0 B0 hb b1
  have m0 : w1.cell? ⟨w.heap.size + 1, 0, none⟩ = some (.int .i64 k') := B1.cell 0
  have m1 : w1.cell? ⟨w.heap.size + 1, 1, none⟩ = some (.int .i64 e') := B1.cell 1
  have m2 : w1.cell? ⟨w.heap.size + 1, 2, none⟩ = some (.int .i64 q') := B1.cell 2
  have m3 : w1.cell? ⟨w.heap.size + 1, 3, none⟩ = some (.string b') := B1.cell 3
  go_wp2_with fail
  refine (c2.out _).mono ?_
  rintro en w2 ⟨rfl, b2⟩
  have A2 := A1.below b2 A1.lt
  have B2 := B1.below b2 B1.lt
  have hb2 := hb1.trans (b2.mono hb1.size)
  have hL2 := hL.out.below hb2 hp
  clear A1 B1 hb1 b2 m0 m1 m2 m3
  by_cases hx : x = 0
  · by_cases hy : y = 0
    · obtain ⟨s12, s21, hiff⟩ : 12 ≤ s.size ∧ s.size ≤ 2021 ∧ (s.toList = t.toList ↔ (k = k' ∧ e = e' ∧ q = q' ∧ b.toList = b'.toList)) := by
        rcases dec.out with (h | h) | h
        · exact absurd hx h
        · exact absurd hy h
        · exact ⟨h.2.2.1, h.2.2.2.1, h.2.2.2.2⟩
      replace hiff := Lib.hid hiff
      go_wp2_with fail
      refine (fixed_any _ hL2).mono ?_
      rintro en w3 ⟨rfl, b3⟩
      have A3 := A2.below b3 A2.lt
      have B3 := B2.below b3 B2.lt
      have hb3 := hb2.trans (b3.mono hb2.size)
      clear A2 B2 hb2 b3 hL2
      have m0 : w3.cell? ⟨w.heap.size + 1, 0, none⟩ = some (.int .i64 k') := B3.cell 0
      have m1 : w3.cell? ⟨w.heap.size + 1, 1, none⟩ = some (.int .i64 e') := B3.cell 1
      have m2 : w3.cell? ⟨w.heap.size + 1, 2, none⟩ = some (.int .i64 q') := B3.cell 2
      have m3 : w3.cell? ⟨w.heap.size + 1, 3, none⟩ = some (.string b') := B3.cell 3
      have n0 : w3.cell? ⟨w.heap.size, 0, none⟩ = some (.int .i64 k) := A3.cell 0
      have n1 : w3.cell? ⟨w.heap.size, 1, none⟩ = some (.int .i64 e) := A3.cell 1
      have n2 : w3.cell? ⟨w.heap.size, 2, none⟩ = some (.int .i64 q) := A3.cell 2
      have n3 : w3.cell? ⟨w.heap.size, 3, none⟩ = some (.string b) := A3.cell 3
      by_cases hst : s.toList = t.toList
      · obtain ⟨h1, h2, h3, h4⟩ := hiff.out.1 hst
        have sT : (s.toList == t.toList) = true := by rw [hst]; exact beq_self_eq_true _
        have bT : (b.toList == b'.toList) = true := by rw [h4]; exact beq_self_eq_true _
        clear hst h4
        go_wp2_with fail
        go_ret
        first | exact ⟨rfl, hb3⟩ | exact ⟨congrArg (fun b => Ending.returned (Value.bool b)) (decide_eq_true (show (s.size : Int) ≤ 2021 by omega)), hb3⟩
      · have sT : (s.toList == t.toList) = false := beq_false_of_ne hst
        have hne := Lib.hid (fun h => hst (hiff.out.2 h))
        clear hst
        by_cases h1 : k = k'
        · by_cases h2 : e = e'
          · by_cases h3 : q = q'
            · have bT : (b.toList == b'.toList) = false := beq_false_of_ne (fun h4 => hne.out ⟨h1, h2, h3, h4⟩)
              go_wp2_with fail
              go_ret
              first | exact ⟨rfl, hb3⟩ | exact ⟨congrArg (fun b => Ending.returned (Value.bool b)) (decide_eq_true (show (s.size : Int) ≤ 2021 by omega)), hb3⟩
            · go_wp2_with fail
              go_ret
              first | exact ⟨rfl, hb3⟩ | exact ⟨congrArg (fun b => Ending.returned (Value.bool b)) (decide_eq_true (show (s.size : Int) ≤ 2021 by omega)), hb3⟩
          · go_wp2_with fail
            go_ret
            first | exact ⟨rfl, hb3⟩ | exact ⟨congrArg (fun b => Ending.returned (Value.bool b)) (decide_eq_true (show (s.size : Int) ≤ 2021 by omega)), hb3⟩
        · go_wp2_with fail
          go_ret
          first | exact ⟨rfl, hb3⟩ | exact ⟨congrArg (fun b => Ending.returned (Value.bool b)) (decide_eq_true (show (s.size : Int) ≤ 2021 by omega)), hb3⟩
    · go_wp2_with fail
      refine (fixed_any _ hL2).mono ?_
      rintro en w3 ⟨rfl, b3⟩
      have hb3 := hb2.trans (b3.mono hb2.size)
      go_wp2_with fail
      go_ret
      exact ⟨rfl, hb3⟩
  · go_wp2_with fail
    refine (fixed_any _ hL2).mono ?_
    rintro en w3 ⟨rfl, b3⟩
    have hb3 := hb2.trans (b3.mono hb2.size)
    go_wp2_with fail
    go_ret
    exact ⟨rfl, hb3⟩
end Go.Proofs.YtndmcbphdknihaaDoor.Frame

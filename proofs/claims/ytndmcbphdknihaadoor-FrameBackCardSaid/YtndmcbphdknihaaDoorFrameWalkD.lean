/- The document's Sealed, Seal. -/
import Derived.Test.YtndmcbphdknihaaDoorFrameWalkC
namespace Go.Proofs.YtndmcbphdknihaaDoor.Frame
open Go.RowKit Mem Wire

theorem sealed_bytes (s : ByteArray) : s ++ (⟨(Sip.sum key s.data.toList).toArray⟩ : ByteArray) = ⟨(sealed_ s.data.toList).toArray⟩ := by
  rw [sealed_]
  obtain ⟨⟨l⟩⟩ := s
  simp only [ByteArray.ext_iff, ByteArray.data_append]
  simp

set_option maxRecDepth 100000 in
set_option maxHeartbeats 1000000 in
theorem rsealed_any (s : ByteArray) (w : World) (hs : s.size ≤ 9223372036854775790) :
    Calls Tryd.prog 12 #[.string s] w fun e w' => e = .returned (.string ⟨(sealed_ s.data.toList).toArray⟩) ∧ Below w.heap.size w w' := by
  rw [← sealed_bytes]
  have c1 := fun W => rsum_key s W hs
  have sS : (⟨(Sip.sum key s.data.toList).toArray⟩ : ByteArray).size = 8 := Sip.sum_length _ _
  generalize (⟨(Sip.sum key s.data.toList).toArray⟩ : ByteArray) = S at c1 sS ⊢
  unfold keyB at c1
  replace c1 := Lib.hid c1
  go_enter Tryd.func12, Tryd.ntmps12
  go_wp2_with fail
  refine (c1.out _).mono ?_
  rintro en w1 ⟨rfl, b1⟩
  go_wp2_with fail
  go_ret
  exact ⟨rfl, b1⟩

set_option maxRecDepth 100000 in
set_option maxHeartbeats 1000000 in
theorem rseal_any (k e q : Int) (b : ByteArray) (w : World) :
    Calls Tryd.prog 8 #[fVal k e q b] w fun en w' => en = .returned (sealVal k e q b) ∧ Below w.heap.size w w' := by
  have hbs := Lib.size_eq b
  by_cases h : Ok k e q b.size
  · have hv : sealVal k e q b = .tuple #[.string ⟨(sealed_ (laid k e q b.data.toList)).toArray⟩, .int .i64 0] := by rw [sealVal, sealOut, if_pos (by rw [← hbs]; exact h)]
    have hl : (laid k e q b.data.toList).length ≤ 2036 := laid_length (by rw [← hbs]; exact h)
    obtain ⟨⟨k0, k1⟩, ⟨e0, e1⟩, ⟨q0, q1⟩, hn⟩ := h
    have nk : numOut k = (⟨(digits k.toNat).toArray⟩, 0) := by rw [numOut, if_pos (by simp [okNum]; omega)]
    have ne : numOut e = (⟨(digits e.toNat).toArray⟩, 0) := by rw [numOut, if_pos (by simp [okNum]; omega)]
    have nq : numOut q = (⟨(digits q.toNat).toArray⟩, 0) := by rw [numOut, if_pos (by simp [okNum]; omega)]
    have nb : textOut b = (⟨(digits b.size).toArray⟩ ++ b, 0) := by rw [textOut, if_pos (by omega)]
    have c1 := fun W => rnum_out k W
    have c2 := fun W => rnum_out e W
    have c3 := fun W => rnum_out q W
    have c4 := fun W => rtext_out b W
    rw [nk] at c1
    rw [ne] at c2
    rw [nq] at c3
    rw [nb] at c4
    obtain ⟨K, hK⟩ : ∃ z, z = (⟨(digits k.toNat).toArray⟩ : ByteArray) := ⟨_, rfl⟩
    obtain ⟨E, hE⟩ : ∃ z, z = (⟨(digits e.toNat).toArray⟩ : ByteArray) := ⟨_, rfl⟩
    obtain ⟨Q, hQ⟩ : ∃ z, z = (⟨(digits q.toNat).toArray⟩ : ByteArray) := ⟨_, rfl⟩
    obtain ⟨T, hT⟩ : ∃ z, z = (⟨(digits b.size).toArray⟩ ++ b : ByteArray) := ⟨_, rfl⟩
    rw [← hK] at c1
    rw [← hE] at c2
    rw [← hQ] at c3
    rw [← hT] at c4
    have sK : K.size ≤ 9 := by rw [hK]; exact digits_length9 _ (by omega)
    have sE : E.size ≤ 9 := by rw [hE]; exact digits_length9 _ (by omega)
    have sQ : Q.size ≤ 9 := by rw [hQ]; exact digits_length9 _ (by omega)
    have sT : T.size ≤ 2009 := by
      rw [hT, ByteArray.size_append]
      have := digits_length9 b.size (by omega)
      have e : (⟨(digits b.size).toArray⟩ : ByteArray).size = (digits b.size).length := rfl
      omega
    have hall : (laid k e q b.data.toList) = (K ++ E ++ Q ++ T).data.toList := by
      rw [hK, hE, hQ, hT, laid, text, Lib.size_eq b]
      simp only [ByteArray.data_append]
      simp
    have c5 := fun W => rsealed_any (K ++ E ++ Q ++ T) W (by rw [Lib.size_eq, ← hall]; omega)
    rw [← hall] at c5
    rw [hv]
    generalize (⟨(sealed_ (laid k e q b.data.toList)).toArray⟩ : ByteArray) = Z at c5 ⊢
    clear nk ne nq nb hK hE hQ hT hall hv hl hbs
    replace c1 := Lib.hid c1
    replace c2 := Lib.hid c2
    replace c3 := Lib.hid c3
    replace c4 := Lib.hid c4
    replace c5 := Lib.hid c5
    have b0 : Below w.heap.size w (w.alloc (.cells #[.int .i64 k, .int .i64 e, .int .i64 q, .string b] 23)) := (Below.refl _ w).alloc (Nat.le_refl _) _
    have h0 : Blk (w.alloc (.cells #[.int .i64 k, .int .i64 e, .int .i64 q, .string b] 23)) w.heap.size 23 #[.int .i64 k, .int .i64 e, .int .i64 q, .string b] := Blk.new w _ _
    unfold fVal
    go_enter Tryd.func8, Tryd.ntmps8
    go_wp2_with fail
    refine (c1.out _).mono ?_
    rintro en w1 ⟨rfl, b1⟩
    have h1 := h0.below b1 h0.lt
    replace b1 := b0.trans (b1.mono b0.size)
    clear h0 b0
    have m1 : w1.cell? ⟨w.heap.size, 1, none⟩ = some (.int .i64 e) := h1.cell 1
    go_wp2_with fail
    refine (c2.out _).mono ?_
    rintro en w2 ⟨rfl, b2⟩
    have h2 := h1.below b2 h1.lt
    replace b2 := b1.trans (b2.mono b1.size)
    clear h1 b1 m1
    have m2 : w2.cell? ⟨w.heap.size, 2, none⟩ = some (.int .i64 q) := h2.cell 2
    go_wp2_with fail
    refine (c3.out _).mono ?_
    rintro en w3 ⟨rfl, b3⟩
    have h3 := h2.below b3 h2.lt
    replace b3 := b2.trans (b3.mono b2.size)
    clear h2 b2 m2
    have m3 : w3.cell? ⟨w.heap.size, 3, none⟩ = some (.string b) := h3.cell 3
    go_wp2_with fail
    refine (c4.out _).mono ?_
    rintro en w4 ⟨rfl, b4⟩
    replace b4 := b3.trans (b4.mono b3.size)
    clear h3 b3 m3
    go_wp2_with fail
    refine (c5.out _).mono ?_
    rintro en w5 ⟨rfl, b5⟩
    replace b5 := b4.trans (b5.mono b4.size)
    clear b4
    go_wp2_with fail
    go_ret2
    exact ⟨rfl, b5⟩
  · have hv : sealVal k e q b = .tuple #[.string ⟨#[]⟩, .int .i64 170] := by rw [sealVal, sealOut, if_neg (by rw [← hbs]; exact h)]
    rw [hv]
    clear hv hbs
    unfold fVal
    have h' := Lib.hid h
    unfold Ok at h
    replace h := Lib.hid h
    have b0 : Below w.heap.size w (w.alloc (.cells #[.int .i64 k, .int .i64 e, .int .i64 q, .string b] 23)) := (Below.refl _ w).alloc (Nat.le_refl _) _
    go_enter Tryd.func8, Tryd.ntmps8
    go_wp2_with fail
    all_goals first
      | (exfalso; have := h.out; omega)
      | (go_ret2; exact ⟨rfl, b0⟩)
end Go.Proofs.YtndmcbphdknihaaDoor.Frame

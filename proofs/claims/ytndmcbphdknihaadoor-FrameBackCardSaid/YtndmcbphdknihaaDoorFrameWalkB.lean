/- The program's Seal: a message's bytes. -/
import Derived.Test.YtndmcbphdknihaaDoorFrameWalkA
namespace Go.Proofs.YtndmcbphdknihaaDoor.Frame
open Go.RowKit Mem Wire

/-- the key as the code bears it -/
def keyB : ByteArray := ⟨#[115, 116, 105, 108, 108, 97, 103, 101, 32, 108, 105, 110, 107, 32, 111, 107]⟩
theorem dsum_key (s : ByteArray) (w : World) (hs : s.size ≤ 9223372036854775807) :
    Calls Tryd.prog 15 #[.string keyB, .string s] w fun e w' => e = .returned (.tuple #[.string ⟨(Sip.sum key s.data.toList).toArray⟩, .int .i64 0]) ∧ Below w.heap.size w w' := Sip.dsum_any keyB s w rfl hs
theorem rsum_key (s : ByteArray) (w : World) (hs : s.size ≤ 9223372036854775790) :
    Calls Tryd.prog 25 #[.string keyB, .string s] w fun e w' => e = .returned (.tuple #[.string ⟨(Sip.sum key s.data.toList).toArray⟩, .int .i64 0]) ∧ Below w.heap.size w w' := Sip.rsum_any keyB s w rfl hs

set_option maxRecDepth 100000 in
set_option maxHeartbeats 1000000 in
theorem laid_any (k e q : Int) (b : ByteArray) (w : World) (h : Ok k e q b.size) :
    Calls Tryd.prog 14 #[fVal k e q b] w fun en w' => en = .returned (.string ⟨(laid k e q b.data.toList).toArray⟩) ∧ Below w.heap.size w w' := by
  obtain ⟨⟨k0, k1⟩, ⟨e0, e1⟩, ⟨q0, q1⟩, hn⟩ := h
  have nk : numOut k = (⟨(digits k.toNat).toArray⟩, 0) := by rw [numOut, if_pos (by simp [okNum]; omega)]
  have ne : numOut e = (⟨(digits e.toNat).toArray⟩, 0) := by rw [numOut, if_pos (by simp [okNum]; omega)]
  have nq : numOut q = (⟨(digits q.toNat).toArray⟩, 0) := by rw [numOut, if_pos (by simp [okNum]; omega)]
  have nb : textOut b = (⟨(digits b.size).toArray⟩ ++ b, 0) := by rw [textOut, if_pos (by omega)]
  have c1 := fun W => num_out k W
  have c2 := fun W => num_out e W
  have c3 := fun W => num_out q W
  have c4 := fun W => text_out b W
  rw [nk] at c1
  rw [ne] at c2
  rw [nq] at c3
  rw [nb] at c4
  obtain ⟨K, hK⟩ : ∃ z, z = (⟨(digits k.toNat).toArray⟩ : ByteArray) := ⟨_, rfl⟩
  obtain ⟨E, hE⟩ : ∃ z, z = (⟨(digits e.toNat).toArray⟩ : ByteArray) := ⟨_, rfl⟩
  obtain ⟨Q, hQ⟩ : ∃ z, z = (⟨(digits q.toNat).toArray⟩ : ByteArray) := ⟨_, rfl⟩
  obtain ⟨T, hT⟩ : ∃ z, z = (⟨(digits b.size).toArray⟩ ++ b : ByteArray) := ⟨_, rfl⟩
  rw [← hK] at c1
  rw [← hE] at c2
  rw [← hQ] at c3
  rw [← hT] at c4
  have sK : K.size ≤ 9 := by rw [hK]; exact digits_length9 _ (by omega)
  have sE : E.size ≤ 9 := by rw [hE]; exact digits_length9 _ (by omega)
  have sQ : Q.size ≤ 9 := by rw [hQ]; exact digits_length9 _ (by omega)
  have sT : T.size ≤ 2009 := by
    rw [hT, ByteArray.size_append]
    have := digits_length9 b.size (by omega)
    have e : (⟨(digits b.size).toArray⟩ : ByteArray).size = (digits b.size).length := rfl
    omega
  have hall : (⟨(laid k e q b.data.toList).toArray⟩ : ByteArray) = ⟨#[]⟩ ++ K ++ E ++ Q ++ T := by
    rw [hK, hE, hQ, hT, laid, text, Lib.size_eq b]
    simp only [ByteArray.ext_iff, ByteArray.data_append]
    simp
  rw [hall]
  clear nk ne nq nb hK hE hQ hT hall k0 k1 e0 e1 q0 q1 hn
  replace c1 := Lib.hid c1
  replace c2 := Lib.hid c2
  replace c3 := Lib.hid c3
  replace c4 := Lib.hid c4
  unfold fVal
  go_enter Tryd.func14, Tryd.ntmps14
  go_wp2_with fail
  obtain ⟨w1, hw⟩ : ∃ z, z = (w.alloc (.cells #[.int .i64 k, .int .i64 e, .int .i64 q, .string b] 23)).alloc (.cells #[.int .i64 k, .int .i64 e, .int .i64 q] 3) := ⟨_, rfl⟩
  rw [← hw]
  have h1 : Blk w1 w.heap.size 23 #[.int .i64 k, .int .i64 e, .int .i64 q, .string b] := by rw [hw]; exact (Blk.new w _ _).alloc _
  have h2 : Blk w1 (w.heap.size + 1) 3 #[.int .i64 k, .int .i64 e, .int .i64 q] := by
    have := Blk.new (w.alloc (.cells #[.int .i64 k, .int .i64 e, .int .i64 q, .string b] 23)) 3 #[.int .i64 k, .int .i64 e, .int .i64 q]
    rw [Sip.size_push] at this
    rw [hw]; exact this
  have b1 : Below w.heap.size w w1 := by rw [hw]; exact ((Below.refl _ w).alloc (Nat.le_refl _) _).alloc (by simp) _
  clear hw
  go_loopw [3, 18] (fun s i wr => ((i = .int .i64 0 ∧ s = .string ⟨#[]⟩) ∨ (i = .int .i64 1 ∧ s = .string (⟨#[]⟩ ++ K)) ∨ (i = .int .i64 2 ∧ s = .string (⟨#[]⟩ ++ K ++ E)) ∨ (i = .int .i64 3 ∧ s = .string (⟨#[]⟩ ++ K ++ E ++ Q))) ∧ Blk wr w.heap.size 23 #[.int .i64 k, .int .i64 e, .int .i64 q, .string b] ∧ Blk wr (w.heap.size + 1) 3 #[.int .i64 k, .int .i64 e, .int .i64 q] ∧ Below w.heap.size w wr) (fun _ i _ => 3 - (intOf i).toNat)
  case atStart => exact ⟨Or.inl ⟨rfl, rfl⟩, h1, h2, b1⟩
  case round =>
    obtain ⟨hi, r1, r2, hb⟩ := hrel
    clear h1 h2 b1
    have m0 : wr.cell? ⟨w.heap.size + 1, 0, none⟩ = some (.int .i64 k) := r2.cell 0
    have m1 : wr.cell? ⟨w.heap.size + 1, 1, none⟩ = some (.int .i64 e) := r2.cell 1
    have m2 : wr.cell? ⟨w.heap.size + 1, 2, none⟩ = some (.int .i64 q) := r2.cell 2
    have m3 : wr.cell? ⟨w.heap.size, 3, none⟩ = some (.string b) := r1.cell 3
    rcases hi with ⟨rfl, rfl⟩ | ⟨rfl, rfl⟩ | ⟨rfl, rfl⟩ | ⟨rfl, rfl⟩
    · go_wp2_with fail
      refine (c1.out _).mono ?_
      rintro en w2 ⟨rfl, b2⟩
      have r1' := r1.below b2 r1.lt
      have r2' := r2.below b2 r2.lt
      have hb' := hb.trans (b2.mono hb.size)
      clear r1 r2 hb
      go_wp2_with fail
      exact ⟨⟨Or.inr (Or.inl ⟨rfl, rfl⟩), r1', r2', hb'⟩, by simp [intOf]⟩
    · go_wp2_with fail
      refine (c2.out _).mono ?_
      rintro en w2 ⟨rfl, b2⟩
      have r1' := r1.below b2 r1.lt
      have r2' := r2.below b2 r2.lt
      have hb' := hb.trans (b2.mono hb.size)
      clear r1 r2 hb
      go_wp2_with fail
      exact ⟨⟨Or.inr (Or.inr (Or.inl ⟨rfl, rfl⟩)), r1', r2', hb'⟩, by simp [intOf]⟩
    · go_wp2_with fail
      refine (c3.out _).mono ?_
      rintro en w2 ⟨rfl, b2⟩
      have r1' := r1.below b2 r1.lt
      have r2' := r2.below b2 r2.lt
      have hb' := hb.trans (b2.mono hb.size)
      clear r1 r2 hb
      go_wp2_with fail
      exact ⟨⟨Or.inr (Or.inr (Or.inr ⟨rfl, rfl⟩)), r1', r2', hb'⟩, by simp [intOf]⟩
    · go_wp2_with fail
      refine (c4.out _).mono ?_
      rintro en w2 ⟨rfl, b2⟩
      have hb' := hb.trans (b2.mono hb.size)
      go_wp2_with fail
      go_ret
      exact ⟨rfl, hb'⟩

/-- what Seal answers, as a value -/
def sealVal (k e q : Int) (b : ByteArray) : Value := .tuple #[.string ⟨(sealOut k e q b.data.toList).1.toArray⟩, .int .i64 (sealOut k e q b.data.toList).2]

theorem laid_length {k e q : Int} {b : List UInt8} (h : Ok k e q b.length) : (laid k e q b).length ≤ 2036 := by
  obtain ⟨⟨k0, k1⟩, ⟨e0, e1⟩, ⟨q0, q1⟩, hn⟩ := h
  have h1 := digits_length9 k.toNat (by omega)
  have h2 := digits_length9 e.toNat (by omega)
  have h3 := digits_length9 q.toNat (by omega)
  have h4 := digits_length9 b.length (by omega)
  simp only [laid, text, List.length_append]
  omega

set_option maxRecDepth 100000 in
set_option maxHeartbeats 1000000 in
theorem seal_any (k e q : Int) (b : ByteArray) (w : World) :
    Calls Tryd.prog 7 #[fVal k e q b] w fun en w' => en = .returned (sealVal k e q b) ∧ Below w.heap.size w w' := by
  have c1 := fun W => may_any k e q b W
  have hbs := Lib.size_eq b
  by_cases h : Ok k e q b.size
  · have hv : sealVal k e q b = .tuple #[.string ⟨(sealed_ (laid k e q b.data.toList)).toArray⟩, .int .i64 0] := by rw [sealVal, sealOut, if_pos (by rw [← hbs]; exact h)]
    have hl : (laid k e q b.data.toList).length ≤ 2036 := laid_length (by rw [← hbs]; exact h)
    have c2 := fun W => laid_any k e q b W h
    obtain ⟨L, hL⟩ : ∃ z, z = (⟨(laid k e q b.data.toList).toArray⟩ : ByteArray) := ⟨_, rfl⟩
    have sL : L.size ≤ 2036 := by rw [hL]; exact hl
    have c3 := fun W => dsum_key L W (by omega)
    have hS : (⟨(sealed_ (laid k e q b.data.toList)).toArray⟩ : ByteArray) = L ++ ⟨(Sip.sum key L.data.toList).toArray⟩ := by
      rw [hL, sealed_]
      simp only [ByteArray.ext_iff, ByteArray.data_append]
      simp
    have sS : (⟨(Sip.sum key L.data.toList).toArray⟩ : ByteArray).size = 8 := Sip.sum_length _ _
    rw [hv, hS]
    rw [← hL] at c2
    generalize (⟨(Sip.sum key L.data.toList).toArray⟩ : ByteArray) = S at c3 sS ⊢
    rw [decide_eq_true h] at c1
    replace c1 := Lib.hid c1
    replace c2 := Lib.hid c2
    replace c3 := Lib.hid c3
    clear hbs h hv hl hL hS
    unfold fVal at c1 c2 ⊢
    go_enter Tryd.func7, Tryd.ntmps7
    go_wp2_with fail
    refine (c1.out _).mono ?_
    rintro en w1 ⟨rfl, b1⟩
    have r1 : Blk w1 w.heap.size 23 #[.int .i64 k, .int .i64 e, .int .i64 q, .string b] := (Blk.new w _ _).below b1 (by simp)
    have hb1 : Below w.heap.size w w1 := ((Below.refl _ w).alloc (Nat.le_refl _) _).trans (b1.mono (by simp))
    have m0 : w1.cell? ⟨w.heap.size, 0, none⟩ = some (.int .i64 k) := r1.cell 0
    have m1 : w1.cell? ⟨w.heap.size, 1, none⟩ = some (.int .i64 e) := r1.cell 1
    have m2 : w1.cell? ⟨w.heap.size, 2, none⟩ = some (.int .i64 q) := r1.cell 2
    have m3 : w1.cell? ⟨w.heap.size, 3, none⟩ = some (.string b) := r1.cell 3
    clear r1 b1
    go_wp2_with fail
    refine (c2.out _).mono ?_
    rintro en w2 ⟨rfl, b2⟩
    replace b2 := hb1.trans (b2.mono hb1.size)
    clear m0 m1 m2 m3 hb1
    go_wp2_with fail
    refine (c3.out _).mono ?_
    rintro en w3 ⟨rfl, b3⟩
    replace b3 := b2.trans (b3.mono b2.size)
    clear b2
    go_wp2_with fail
    go_ret2
    exact ⟨rfl, b3⟩
  · have hv : sealVal k e q b = .tuple #[.string ⟨#[]⟩, .int .i64 170] := by rw [sealVal, sealOut, if_neg (by rw [← hbs]; exact h)]
    rw [hv]
    rw [decide_eq_false h] at c1
    replace c1 := Lib.hid c1
    clear hbs h hv
    unfold fVal at c1 ⊢
    go_enter Tryd.func7, Tryd.ntmps7
    go_wp2_with fail
    refine (c1.out _).mono ?_
    rintro en w1 ⟨rfl, b1⟩
    have hb1 : Below w.heap.size w w1 := ((Below.refl _ w).alloc (Nat.le_refl _) _).trans (b1.mono (by simp))
    go_wp2_with fail
    go_ret2
    exact ⟨rfl, hb1⟩
end Go.Proofs.YtndmcbphdknihaaDoor.Frame

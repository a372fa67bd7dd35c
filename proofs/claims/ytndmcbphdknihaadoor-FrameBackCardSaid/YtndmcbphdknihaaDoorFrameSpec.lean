/- A message's bytes, plain laws: which messages may be, their bytes, which message any bytes are. -/
import Derived.Test.YtndmcbphdknihaaDoorWireSpecB
import Derived.Test.YtndmcbphdknihaaDoorSipSpecC
namespace Go.Proofs.YtndmcbphdknihaaDoor.Frame
open Go Wire

def key : List UInt8 := [115, 116, 105, 108, 108, 97, 103, 101, 32, 108, 105, 110, 107, 32, 111, 107]
/-- may a message be -/
def Ok (k e q : Int) (n : Nat) : Prop := (0 ≤ k ∧ k ≤ 7) ∧ (0 ≤ e ∧ e ≤ 1073741824) ∧ (0 ≤ q ∧ q ≤ 1073741824) ∧ n ≤ 2000
instance (k e q : Int) (n : Nat) : Decidable (Ok k e q n) := by unfold Ok; infer_instance
def text (l : List UInt8) : List UInt8 := digits l.length ++ l
/-- its bytes but the sum -/
def laid (k e q : Int) (b : List UInt8) : List UInt8 := digits k.toNat ++ (digits e.toNat ++ (digits q.toNat ++ text b))
def sealed_ (l : List UInt8) : List UInt8 := l ++ Sip.sum key l
abbrev Msg := Int × Int × Int × List UInt8
def sealOut (k e q : Int) (b : List UInt8) : List UInt8 × Int := if Ok k e q b.length then (sealed_ (laid k e q b), 0) else ([], 170)
/-- what is read of the bytes before the sum, within limits -/
def reads (m1 m2 m3 m4 : Int) (l : List UInt8) : Msg × Int :=
  let r1 := rdNum m1 (l, 0)
  let r2 := rdNum m2 r1.2
  let r3 := rdNum m3 r2.2
  let r4 := rdText m4 r3.2
  ((r1.1.1, r2.1.1, r3.1.1, r4.1.1), rdEnd r4.2)
def good (l : List UInt8) : Prop := 8 ≤ l.length ∧ sealed_ (l.take (l.length - 8)) = l
instance (l : List UInt8) : Decidable (good l) := by unfold good; infer_instance
def nil : Msg := (0, 0, 0, [])
def openOut (l : List UInt8) : Msg × Int :=
  if good l then (if (reads 7 1073741824 1073741824 2000 (l.take (l.length - 8))).2 = 0 then ((reads 7 1073741824 1073741824 2000 (l.take (l.length - 8))).1, 0) else (nil, 170)) else (nil, 171)

theorem sealed_length (l : List UInt8) : (sealed_ l).length = l.length + 8 := by rw [sealed_, List.length_append, Sip.sum_length]
theorem sealed_take (l : List UInt8) : (sealed_ l).take ((sealed_ l).length - 8) = l := by
  rw [sealed_length, Nat.add_sub_cancel, sealed_, List.take_left']
  rfl
theorem good_sealed (l : List UInt8) : good (sealed_ l) := ⟨by rw [sealed_length]; omega, by rw [sealed_take]⟩

theorem reads_laid {m1 m2 m3 m4 k e q : Int} {b : List UInt8} (h : Ok k e q b.length) (h1 : 7 ≤ m1) (h2 : 1073741824 ≤ m2) (h3 : 1073741824 ≤ m3) (h4 : 2000 ≤ m4) : reads m1 m2 m3 m4 (laid k e q b) = ((k, e, q, b), 0) := by
  obtain ⟨⟨k0, k1⟩, ⟨e0, e1⟩, ⟨q0, q1⟩, hn⟩ := h
  have r1 : rdNum m1 (laid k e q b, 0) = ((k, 0), (digits e.toNat ++ (digits q.toNat ++ text b), 0)) := by
    have := rdNum_ok m1 (scan_digits0 k.toNat (by omega) (digits e.toNat ++ (digits q.toNat ++ text b))) (by omega) (by omega)
    rwa [Int.toNat_of_nonneg k0] at this
  have r2 : rdNum m2 (digits e.toNat ++ (digits q.toNat ++ text b), 0) = ((e, 0), (digits q.toNat ++ text b, 0)) := by
    have := rdNum_ok m2 (scan_digits0 e.toNat (by omega) (digits q.toNat ++ text b)) (by omega) (by omega)
    rwa [Int.toNat_of_nonneg e0] at this
  have r3 : rdNum m3 (digits q.toNat ++ text b, 0) = ((q, 0), (text b, 0)) := by
    have := rdNum_ok m3 (scan_digits0 q.toNat (by omega) (text b)) (by omega) (by omega)
    rwa [Int.toNat_of_nonneg q0] at this
  have r4 : rdText m4 (text b, 0) = ((b, 0), ([], 0)) := rdText_ok (by simp [text]) (by omega) (by omega)
  simp only [reads, r1, r2, r3, r4]
  rfl

theorem end_live {st : Rd} (h : rdEnd st = 0) : st = ([], 0) := by
  unfold rdEnd at h
  split at h
  · next h1 => exact absurd h h1
  · next h1 =>
    have h2 : st.2 = 0 := by simpa using h1
    split at h
    · next h3 => exact Prod.ext h3 h2
    · cases h
theorem num_live {m : Int} {st : Rd} (h : (rdNum m st).2.2 = 0) : st.2 = 0 ∧ (rdNum m st).1.2 = 0 := by
  have hl := rdNum_latch m st
  refine ⟨?_, by rw [← hl.1]; exact h⟩
  by_cases h0 : st.2 = 0
  · exact h0
  · rw [rdNum_dead m h0] at h
    exact absurd h h0
theorem text_len {l t : List UInt8} {most : Int} {st : Rd} (h : rdText most (l, 0) = ((t, 0), st)) : (t.length : Int) ≤ most := by
  have hla := rdNum_latch (min most 65536) (l, 0)
  unfold rdText at h
  obtain ⟨⟨⟨n, e⟩, st1⟩, hr⟩ : ∃ x, rdNum (min most 65536) (l, 0) = x := ⟨_, rfl⟩
  rw [hr] at h hla
  simp only at h hla
  split at h
  · next h1 =>
    simp only [Prod.mk.injEq] at h
    exact absurd h.1.2 h1
  · next h1 =>
    have he : e = 0 := by simpa using h1
    subst he
    have h3 := (hla.2.1 rfl).2.1
    have h4 := (hla.2.1 rfl).1
    split at h
    · simp at h
    · simp only [Prod.mk.injEq] at h
      rw [← h.1.1, List.length_take]
      omega
theorem text_live {m : Int} {st : Rd} (h : (rdText m st).2.2 = 0) : st.2 = 0 ∧ (rdText m st).1.2 = 0 := by
  by_cases h0 : st.2 = 0
  · refine ⟨h0, ?_⟩
    unfold rdText at h ⊢
    simp only at h ⊢
    split
    · next h1 =>
      rw [if_pos h1] at h
      exact absurd h (by rw [(rdNum_latch (min m 65536) st).1]; exact h1)
    · next h1 =>
      rw [if_neg h1] at h
      split
      · next h2 => rw [if_pos h2] at h; exact absurd h (by simp)
      · rfl
  · rw [rdText_dead m h0] at h
    exact absurd h h0
theorem reads_only {m1 m2 m3 m4 k e q : Int} {b l : List UInt8} (h : reads m1 m2 m3 m4 l = ((k, e, q, b), 0)) : l = laid k e q b ∧ (0 ≤ k ∧ k ≤ m1) ∧ (0 ≤ e ∧ e ≤ m2) ∧ (0 ≤ q ∧ q ≤ m3) ∧ (b.length : Int) ≤ m4 := by
  unfold reads at h
  simp only [Prod.mk.injEq] at h
  obtain ⟨⟨hk, he, hq, hb⟩, hend⟩ := h
  have h4 := end_live hend
  have t4 := text_live (congrArg Prod.snd h4)
  have t3 := num_live t4.1
  have t2 := num_live t3.1
  have t1 := num_live t2.1
  have y1 := (rdNum_latch m1 (l, 0)).2.1 t1.2
  obtain ⟨⟨⟨k', e1⟩, st1⟩, hr1⟩ : ∃ x, rdNum m1 (l, 0) = x := ⟨_, rfl⟩
  rw [hr1] at hk he hq hb hend h4 t4 t3 t2 t1 y1
  simp only at hk he hq hb hend h4 t4 t3 t2 t1 y1
  obtain ⟨l1, z1⟩ := st1
  obtain rfl : z1 = 0 := t2.1
  obtain rfl : e1 = 0 := t1.2
  subst hk
  have y2 := (rdNum_latch m2 (l1, 0)).2.1 t2.2
  obtain ⟨⟨⟨e', e2⟩, st2⟩, hr2⟩ : ∃ x, rdNum m2 (l1, 0) = x := ⟨_, rfl⟩
  rw [hr2] at he hq hb hend h4 t4 t3 t2 y2
  simp only at he hq hb hend h4 t4 t3 t2 y2
  obtain ⟨l2, z2⟩ := st2
  obtain rfl : z2 = 0 := t3.1
  obtain rfl : e2 = 0 := t2.2
  subst he
  have y3 := (rdNum_latch m3 (l2, 0)).2.1 t3.2
  obtain ⟨⟨⟨q', e3⟩, st3⟩, hr3⟩ : ∃ x, rdNum m3 (l2, 0) = x := ⟨_, rfl⟩
  rw [hr3] at hq hb hend h4 t4 t3 y3
  simp only at hq hb hend h4 t4 t3 y3
  obtain ⟨l3, z3⟩ := st3
  obtain rfl : z3 = 0 := t4.1
  obtain rfl : e3 = 0 := t3.2
  subst hq
  obtain ⟨⟨⟨b', e4⟩, st4⟩, hr4⟩ : ∃ x, rdText m4 (l3, 0) = x := ⟨_, rfl⟩
  rw [hr4] at hb hend h4 t4
  simp only at hb hend h4 t4
  obtain rfl : e4 = 0 := t4.2
  subst hb h4
  obtain ⟨n1, s1, rfl, _, rfl, hs1⟩ := rdNum_inv hr1
  obtain ⟨n2, s2, rfl, _, hl2, hs2⟩ := rdNum_inv hr2
  obtain ⟨n3, s3, rfl, _, hl3, hs3⟩ := rdNum_inv hr3
  obtain ⟨s4, hl4, _, hs4⟩ := rdText_inv hr4
  have q1 : l1 = s1 := congrArg Prod.fst hs1
  have q2 : l2 = s2 := congrArg Prod.fst hs2
  have q3 : l3 = s3 := congrArg Prod.fst hs3
  have q4 : [] = s4 := congrArg Prod.fst hs4
  subst q1 q2 q3 q4
  refine ⟨?_, ⟨y1.1, y1.2.1⟩, ⟨y2.1, y2.2.1⟩, ⟨y3.1, y3.2.1⟩, text_len hr4⟩
  rw [hl2, hl3, hl4]
  simp [laid, text]
end Go.Proofs.YtndmcbphdknihaaDoor.Frame

/- A message's bytes: the document's way of opening comes to the same. -/
import Derived.Test.YtndmcbphdknihaaDoorFrameSpec
namespace Go.Proofs.YtndmcbphdknihaaDoor.Frame
open Go Wire

/-- the document's way to the same message: wide limits, and sealed anew -/
theorem openOut_wide {l : List UInt8} (hg : good l) {a b c : Int} {d : List UInt8} {r : Int} (hr : reads 1152921504606846976 1152921504606846976 1152921504606846976 65536 (l.take (l.length - 8)) = ((a, b, c, d), r)) :
    openOut l = if r = 0 ∧ (sealOut a b c d).2 = 0 ∧ (sealOut a b c d).1 = l then ((a, b, c, d), 0) else (nil, 170) := by
  have fwd : r = 0 ∧ (sealOut a b c d).2 = 0 ∧ (sealOut a b c d).1 = l → Ok a b c d.length ∧ l.take (l.length - 8) = laid a b c d := by
    rintro ⟨_, h2, h3⟩
    by_cases ho : Ok a b c d.length
    · refine ⟨ho, ?_⟩
      rw [sealOut, if_pos ho] at h3
      rw [← h3, sealed_take]
    · rw [sealOut, if_neg ho] at h2
      exact absurd h2 (by decide)
  rw [openOut, if_pos hg]
  by_cases hc : r = 0 ∧ (sealOut a b c d).2 = 0 ∧ (sealOut a b c d).1 = l
  · obtain ⟨ho, hl⟩ := fwd hc
    rw [if_pos hc, hl, reads_laid ho (by decide) (by decide) (by decide) (by decide), if_pos rfl]
  · rw [if_neg hc]
    split
    · next h0 =>
      exfalso
      obtain ⟨⟨⟨k, e, q, b'⟩, z⟩, hR⟩ : ∃ x : Msg × Int, reads 7 1073741824 1073741824 2000 (l.take (l.length - 8)) = x := ⟨_, rfl⟩
      rw [hR] at h0
      obtain rfl : z = 0 := h0
      obtain ⟨hl, hk, he, hq, hb⟩ := reads_only hR
      have ho : Ok k e q b'.length := ⟨hk, he, hq, by omega⟩
      rw [hl, reads_laid ho (by decide) (by decide) (by decide) (by decide)] at hr
      simp only [Prod.mk.injEq] at hr
      obtain ⟨⟨rfl, rfl, rfl, rfl⟩, rfl⟩ := hr
      apply hc
      rw [sealOut, if_pos ho]
      refine ⟨rfl, rfl, ?_⟩
      have := hg.2
      rw [hl] at this
      exact this
    · rfl
end Go.Proofs.YtndmcbphdknihaaDoor.Frame

/- The calls whose answers the document fixes (layer 17). -/
import Derived.Test.YtndmcbphdknihaaDoorFrameWalkE
namespace Go.Proofs.YtndmcbphdknihaaDoor.Frame
open Go.RowKit Mem Wire

theorem openOut_seal {k e q : Int} {b : List UInt8} (h : Ok k e q b.length) : openOut (sealed_ (laid k e q b)) = ((k, e, q, b), 0) := by
  rw [openOut, if_pos (good_sealed _), sealed_take, reads_laid h (by decide) (by decide) (by decide) (by decide), if_pos rfl]
theorem sum_nil : Sip.sum key [] ≠ [0, 0, 0, 0, 0, 0, 0, 0] := by decide +kernel
theorem open_zeros : openOut (List.replicate 8 0) = (nil, 171) := by
  rw [openOut, if_neg]
  intro h
  exact sum_nil (by simpa [sealed_] using h.2)
theorem open_eight : openOut (sealed_ [8, 0, 0, 0]) = (nil, 170) := by
  rw [openOut, if_pos (good_sealed _), sealed_take, if_neg (by decide)]
def ab : ByteArray := ⟨#[97, 98]⟩
theorem laid_ab : laid 7 300 1 ab.data.toList = [7, 172, 2, 1, 2, 97, 98] := by decide
theorem ok_ab : Ok 7 300 1 ab.data.toList.length := by decide

set_option maxRecDepth 100000 in
set_option maxHeartbeats 1000000 in
theorem fixed_any (w : World) (hL : Laid w) :
    Calls Tryd.prog 9 #[] w fun e w' => e = .returned (.bool true) ∧ Below w.heap.size w w' := by
  have hp := hL.pos
  obtain ⟨S0, hS0⟩ : ∃ z, z = (⟨(sealed_ (laid 7 300 1 ab.data.toList)).toArray⟩ : ByteArray) := ⟨_, rfl⟩
  have v1 : sealVal 7 300 1 ab = .tuple #[.string S0, .int .i64 0] := by rw [sealVal, sealOut, if_pos ok_ab, hS0]
  have v2 : openVal S0.data.toList = .tuple #[fVal 7 300 1 ab, .int .i64 0] := by rw [openVal, hS0, openOut_seal ok_ab]
  have v3 : openVal (List.replicate 8 0) = .tuple #[fVal 0 0 0 ⟨#[]⟩, .int .i64 171] := by rw [openVal, open_zeros]; rfl
  have v4 : sealVal 8 0 0 ⟨#[]⟩ = .tuple #[.string ⟨#[]⟩, .int .i64 170] := by rw [sealVal, sealOut, if_neg (by decide)]
  have sS : S0.size = 15 := by rw [hS0, Lib.size_eq]; rw [sealed_length, laid_ab]; rfl
  have hS7 : S0.extract 0 7 = ⟨#[7, 172, 2, 1, 2, 97, 98]⟩ := by
    rw [hS0, laid_ab, Lib.extract_eq]
    rfl
  have c1 := fun W => seal_any 7 300 1 ab W
  have c2 := fun W hL => open_any S0 W (by omega) hL
  have c3 := fun W hL => open_any ⟨(List.replicate 8 0).toArray⟩ W (by decide) hL
  have c4 := fun W => seal_any 8 0 0 ⟨#[]⟩ W
  have c5 := fun W => rsealed_any ⟨#[8, 0, 0, 0]⟩ W (by decide)
  obtain ⟨L, hLs⟩ : ∃ z, z = (⟨(sealed_ [8, 0, 0, 0]).toArray⟩ : ByteArray) := ⟨_, rfl⟩
  have v6 : openVal L.data.toList = .tuple #[fVal 0 0 0 ⟨#[]⟩, .int .i64 170] := by rw [openVal, hLs, open_eight]; rfl
  have sL : L.size = 12 := by rw [hLs, Lib.size_eq]; rw [sealed_length]; rfl
  have c6 := fun W hL => open_any L W (by omega) hL
  have e5 : (⟨(sealed_ (⟨#[8, 0, 0, 0]⟩ : ByteArray).data.toList).toArray⟩ : ByteArray) = L := by rw [hLs]
  rw [e5] at c5
  rw [v1] at c1
  rw [v2] at c2
  rw [show ((⟨(List.replicate 8 0).toArray⟩ : ByteArray)).data.toList = List.replicate 8 0 from rfl, v3] at c3
  rw [v4] at c4
  rw [v6] at c6
  obtain ⟨Z, hZ⟩ : ∃ z, z = (⟨(List.replicate 8 0).toArray⟩ : ByteArray) := ⟨_, rfl⟩
  rw [← hZ] at c3
  replace hZ := Lib.hid hZ
  unfold fVal ab at c1 c2
  unfold fVal at c3 c4 c6
  replace c1 := Lib.hid c1
  replace c2 := Lib.hid c2
  replace c3 := Lib.hid c3
  replace c4 := Lib.hid c4
  replace c5 := Lib.hid c5
  replace c6 := Lib.hid c6
  replace sS := Lib.hid sS
  replace sL := Lib.hid sL
  replace hS7 := Lib.hid hS7
  clear hS0 v1 v2 v3 v4 v6 hLs e5
  go_enter Tryd.func9, Tryd.ntmps9
  go_wp2_with fail
  have hf : Blk (w.alloc (.cells #[.int .i64 7, .int .i64 300, .int .i64 1, .string ⟨#[97, 98]⟩] 23)) w.heap.size 23 #[.int .i64 7, .int .i64 300, .int .i64 1, .string ⟨#[97, 98]⟩] := Blk.new w _ _
  have hb : Below w.heap.size w (w.alloc (.cells #[.int .i64 7, .int .i64 300, .int .i64 1, .string ⟨#[97, 98]⟩] 23)) := (Below.refl _ w).alloc (Nat.le_refl _) _
  refine (c1.out _).mono ?_
  rintro en w1 ⟨rfl, b1⟩
  have hf1 := hf.below b1 hf.lt
  replace hb := hb.trans (b1.mono hb.size)
  have hL1 : Laid w1 := hL.below hb hp
  replace hL := Lib.hid hL
  clear hf b1
  go_wp2_with fail
  refine (c2.out _ hL1).mono ?_
  rintro en w2 ⟨rfl, b2⟩
  have hf2 := hf1.below b2 hf1.lt
  replace hb := hb.trans (b2.mono hb.size)
  have hL2 := hL1.below b2 hL1.pos
  clear hf1 b2 hL1
  have sz := Sip.size_push w2 (.cells #[.int .i64 7, .int .i64 300, .int .i64 1, .string ⟨#[97, 98]⟩] 23)
  have mk := Sip.make8 (w2.alloc (.cells #[.int .i64 7, .int .i64 300, .int .i64 1, .string ⟨#[97, 98]⟩] 23))
  rw [sz] at mk
  have cv := Sip.zeros_str ((w2.alloc (.cells #[.int .i64 7, .int .i64 300, .int .i64 1, .string ⟨#[97, 98]⟩] 23)).alloc (.cells #[.int .u8 0, .int .u8 0, .int .u8 0, .int .u8 0, .int .u8 0, .int .u8 0, .int .u8 0, .int .u8 0] 5)) (w2.heap.size + 1) 8 (by rw [← sz]; exact heap_alloc_new _ _)
  rw [← hZ.out] at cv
  have hg2 : Blk ((w2.alloc (.cells #[.int .i64 7, .int .i64 300, .int .i64 1, .string ⟨#[97, 98]⟩] 23)).alloc (.cells #[.int .u8 0, .int .u8 0, .int .u8 0, .int .u8 0, .int .u8 0, .int .u8 0, .int .u8 0, .int .u8 0] 5)) w2.heap.size 23 #[.int .i64 7, .int .i64 300, .int .i64 1, .string ⟨#[97, 98]⟩] := (Blk.new w2 _ _).alloc _
  have hf2' := (hf2.alloc (.cells #[.int .i64 7, .int .i64 300, .int .i64 1, .string ⟨#[97, 98]⟩] 23)).alloc (.cells #[.int .u8 0, .int .u8 0, .int .u8 0, .int .u8 0, .int .u8 0, .int .u8 0, .int .u8 0, .int .u8 0] 5)
  have hb' := (hb.alloc hb.size (.cells #[.int .i64 7, .int .i64 300, .int .i64 1, .string ⟨#[97, 98]⟩] 23)).alloc (by rw [sz]; exact Nat.le_succ_of_le hb.size) (.cells #[.int .u8 0, .int .u8 0, .int .u8 0, .int .u8 0, .int .u8 0, .int .u8 0, .int .u8 0, .int .u8 0] 5)
  have hL3 : Laid ((w2.alloc (.cells #[.int .i64 7, .int .i64 300, .int .i64 1, .string ⟨#[97, 98]⟩] 23)).alloc (.cells #[.int .u8 0, .int .u8 0, .int .u8 0, .int .u8 0, .int .u8 0, .int .u8 0, .int .u8 0, .int .u8 0] 5)) := hL2.below (((Below.refl w2.heap.size w2).alloc (Nat.le_refl _) _).alloc (by rw [sz]; exact Nat.le_succ _) _) hL2.pos
  replace sz := Lib.hid sz
  have hfg := Lib.hid hf2.lt
  clear hf2 hb hL2
  go_wp2_with fail
  refine (c3.out _ hL3).mono ?_
  rintro en w3 ⟨rfl, b3⟩
  clear mk cv
  have hf3 := hf2'.below b3 hf2'.lt
  have hg3 := hg2.below b3 hg2.lt
  have hb3 := hb'.trans (b3.mono hb'.size)
  clear hf2' hg2 hb' hL3 b3
  replace hfg := hfg.out
  generalize w2.heap.size = gb at hg3 hfg ⊢
  go_wp2_with fail
  refine (c4.out _).mono ?_
  rintro en w4 ⟨rfl, b4⟩
  have hf4 := (hf3.alloc _).below b4 (hf3.alloc _).lt
  have hg4 := (hg3.alloc _).below b4 (hg3.alloc _).lt
  have hb4 := (hb3.alloc hb3.size _).trans (b4.mono (hb3.alloc hb3.size _).size)
  have hL4 := hL.out.below hb4 hp
  clear hf3 hg3 hb3 b4
  go_wp2_with fail
  refine (c5.out _).mono ?_
  rintro en w5 ⟨rfl, b5⟩
  have hf5 := hf4.below b5 hf4.lt
  have hg5 := hg4.below b5 hg4.lt
  have hb5 := hb4.trans (b5.mono hb4.size)
  have hL5 := hL.out.below hb5 hp
  clear hf4 hg4 hb4 b5 hL4
  go_wp2_with fail
  refine (c6.out _ hL5).mono ?_
  rintro en w6 ⟨rfl, b6⟩
  have hf6 := hf5.below b6 hf5.lt
  have hg6 := hg5.below b6 hg5.lt
  have hb6 := hb5.trans (b6.mono hb5.size)
  clear hf5 hg5 hb5 b6 hL5
  have m0 : (w6.alloc (.cells #[.int .i64 0, .int .i64 0, .int .i64 0, .string ⟨#[]⟩] 23)).cell? ⟨w.heap.size, 0, none⟩ = some (.int .i64 7) := (hf6.alloc _).cell 0
  have m1 : (w6.alloc (.cells #[.int .i64 0, .int .i64 0, .int .i64 0, .string ⟨#[]⟩] 23)).cell? ⟨w.heap.size, 1, none⟩ = some (.int .i64 300) := (hf6.alloc _).cell 1
  have m2 : (w6.alloc (.cells #[.int .i64 0, .int .i64 0, .int .i64 0, .string ⟨#[]⟩] 23)).cell? ⟨w.heap.size, 2, none⟩ = some (.int .i64 1) := (hf6.alloc _).cell 2
  have m3 : (w6.alloc (.cells #[.int .i64 0, .int .i64 0, .int .i64 0, .string ⟨#[]⟩] 23)).cell? ⟨w.heap.size, 3, none⟩ = some (.string ⟨#[97, 98]⟩) := (hf6.alloc _).cell 3
  have n0 : (w6.alloc (.cells #[.int .i64 0, .int .i64 0, .int .i64 0, .string ⟨#[]⟩] 23)).cell? ⟨gb, 0, none⟩ = some (.int .i64 7) := (hg6.alloc _).cell 0
  have n1 : (w6.alloc (.cells #[.int .i64 0, .int .i64 0, .int .i64 0, .string ⟨#[]⟩] 23)).cell? ⟨gb, 1, none⟩ = some (.int .i64 300) := (hg6.alloc _).cell 1
  have n2 : (w6.alloc (.cells #[.int .i64 0, .int .i64 0, .int .i64 0, .string ⟨#[]⟩] 23)).cell? ⟨gb, 2, none⟩ = some (.int .i64 1) := (hg6.alloc _).cell 2
  have n3 : (w6.alloc (.cells #[.int .i64 0, .int .i64 0, .int .i64 0, .string ⟨#[]⟩] 23)).cell? ⟨gb, 3, none⟩ = some (.string ⟨#[97, 98]⟩) := (hg6.alloc _).cell 3
  replace sS := sS.out
  replace hS7 := hS7.out
  go_wp2_with fail
  go_ret
  exact ⟨rfl, hb6.alloc hb6.size _⟩
end Go.Proofs.YtndmcbphdknihaaDoor.Frame

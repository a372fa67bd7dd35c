/- The walks of the laws FrameSeals, FrameOpens: they answer true, whatever the message, the bytes; nothing that was there turns. -/
import Derived.Test.YtndmcbphdknihaaDoorFrameFixed
namespace Go.Proofs.YtndmcbphdknihaaDoor.Frame
open Go.RowKit Mem Wire

set_option maxRecDepth 100000 in
set_option maxHeartbeats 1000000 in
theorem seals_any (k e q : Int) (b : ByteArray) (w : World) (hL : Laid w) :
    Calls Tryd.prog 3 #[fVal k e q b] w fun e w' => e = .returned (.bool true) ∧ Below w.heap.size w w' := by
  have hp := hL.pos
  have c1 := fun W => seal_any k e q b W
  have c2 := fun W => rseal_any k e q b W
  unfold sealVal at c1 c2
  generalize (⟨(sealOut k e q b.data.toList).1.toArray⟩ : ByteArray) = S at c1 c2
  generalize (sealOut k e q b.data.toList).2 = te at c1 c2
  unfold fVal at c1 c2 ⊢
  replace c1 := Lib.hid c1
  replace c2 := Lib.hid c2
  replace hL := Lib.hid hL
  have hf : Blk (w.alloc (.cells #[.int .i64 k, .int .i64 e, .int .i64 q, .string b] 23)) w.heap.size 23 #[.int .i64 k, .int .i64 e, .int .i64 q, .string b] := Blk.new w _ _
  have hb : Below w.heap.size w (w.alloc (.cells #[.int .i64 k, .int .i64 e, .int .i64 q, .string b] 23)) := (Below.refl _ w).alloc (Nat.le_refl _) _
  go_enter Tryd.func3, Tryd.ntmps3
  go_wp2_with fail
  refine (c1.out _).mono ?_
  rintro en w1 ⟨rfl, b1⟩
  have hf1 := hf.below b1 hf.lt
  have hb1 := hb.trans (b1.mono hb.size)
  clear hf b1 hb
  have m0 : w1.cell? ⟨w.heap.size, 0, none⟩ = some (.int .i64 k) := hf1.cell 0
  have m1 : w1.cell? ⟨w.heap.size, 1, none⟩ = some (.int .i64 e) := hf1.cell 1
  have m2 : w1.cell? ⟨w.heap.size, 2, none⟩ = some (.int .i64 q) := hf1.cell 2
  have m3 : w1.cell? ⟨w.heap.size, 3, none⟩ = some (.string b) := hf1.cell 3
  go_wp2_with fail
  refine (c2.out _).mono ?_
  rintro en w2 ⟨rfl, b2⟩
  have hb2 := hb1.trans (b2.mono hb1.size)
  have hL2 := hL.out.below hb2 hp
  clear m0 m1 m2 m3 b2 hb1 hf1
  go_wp2_with fail
  refine (fixed_any _ hL2).mono ?_
  rintro en w3 ⟨rfl, b3⟩
  have hb3 := hb2.trans (b3.mono hb2.size)
  clear b3 hb2 hL2
  go_wp2_with fail
  go_ret
  exact ⟨rfl, hb3⟩

set_option maxRecDepth 100000 in
set_option maxHeartbeats 1000000 in
theorem opens_any (s : ByteArray) (w : World) (hs : s.size ≤ 140737488355328) (hL : Laid w) :
    Calls Tryd.prog 4 #[.string s] w fun e w' => e = .returned (.bool true) ∧ Below w.heap.size w w' := by
  have hp := hL.pos
  have c1 := fun W hL => open_any s W (by omega) hL
  have c2 := fun W => ropen_any s W (by omega)
  have c3 := fun W => rsealed_any s W (by omega)
  obtain ⟨L, hLs⟩ : ∃ z, z = (⟨(sealed_ s.data.toList).toArray⟩ : ByteArray) := ⟨_, rfl⟩
  rw [← hLs] at c3
  have sL : L.size ≤ 140737488355336 := by rw [hLs, Lib.size_eq, sealed_length, ← Lib.size_eq s]; omega
  have c4 := fun W hL => open_any L W (by omega) hL
  have c5 := fun W => ropen_any L W (by omega)
  have hg : (openOut L.data.toList).2 ≠ 171 := by
    rw [hLs, openOut, if_pos (good_sealed _)]
    split <;> (intro h; cases h)
  unfold openVal fVal at c1 c2 c4 c5
  generalize (openOut s.data.toList).1.1 = k1 at c1 c2
  generalize (openOut s.data.toList).1.2.1 = e1 at c1 c2
  generalize (openOut s.data.toList).1.2.2.1 = q1 at c1 c2
  generalize (⟨(openOut s.data.toList).1.2.2.2.toArray⟩ : ByteArray) = b1 at c1 c2
  generalize (openOut s.data.toList).2 = r1 at c1 c2
  generalize (openOut L.data.toList).1.1 = k2 at c4 c5
  generalize (openOut L.data.toList).1.2.1 = e2 at c4 c5
  generalize (openOut L.data.toList).1.2.2.1 = q2 at c4 c5
  generalize (⟨(openOut L.data.toList).1.2.2.2.toArray⟩ : ByteArray) = b2 at c4 c5
  generalize (openOut L.data.toList).2 = te at c4 c5 hg
  replace c1 := Lib.hid c1
  replace c2 := Lib.hid c2
  replace c3 := Lib.hid c3
  replace c4 := Lib.hid c4
  replace c5 := Lib.hid c5
  replace hL := Lib.hid hL
  clear hLs
  go_enter Tryd.func4, Tryd.ntmps4
  go_wp2_with fail
  refine (c1.out _ hL.out).mono ?_
  rintro en w1 ⟨rfl, hb1⟩
  have a1 := Blk.new w1 23 #[.int .i64 k1, .int .i64 e1, .int .i64 q1, .string b1]
  replace hb1 := hb1.alloc hb1.size (.cells #[.int .i64 k1, .int .i64 e1, .int .i64 q1, .string b1] 23)
  go_wp2_with fail
  refine (c2.out _).mono ?_
  rintro en w2 ⟨rfl, b2⟩
  have a2 := a1.below b2 a1.lt
  have hb2 := hb1.trans (b2.mono hb1.size)
  clear a1 hb1 b2
  generalize w1.heap.size = ga at a2 ⊢
  have d2 := Blk.new w2 23 #[.int .i64 k1, .int .i64 e1, .int .i64 q1, .string b1]
  replace a2 := a2.alloc (.cells #[.int .i64 k1, .int .i64 e1, .int .i64 q1, .string b1] 23)
  replace hb2 := hb2.alloc hb2.size (.cells #[.int .i64 k1, .int .i64 e1, .int .i64 q1, .string b1] 23)
  go_wp2_with fail
  refine (c3.out _).mono ?_
  rintro en w3 ⟨rfl, b3⟩
  have a3 := a2.below b3 a2.lt
  have d3 := d2.below b3 d2.lt
  have hb3 := hb2.trans (b3.mono hb2.size)
  have hL3 := hL.out.below hb3 hp
  clear a2 d2 hb2 b3
  generalize w2.heap.size = gb at d3 ⊢
  go_wp2_with fail
  refine (c4.out _ hL3).mono ?_
  rintro en w4 ⟨rfl, b4⟩
  have a4 := (a3.below b4 a3.lt).alloc (.cells #[.int .i64 k2, .int .i64 e2, .int .i64 q2, .string b2] 23)
  have d4 := (d3.below b4 d3.lt).alloc (.cells #[.int .i64 k2, .int .i64 e2, .int .i64 q2, .string b2] 23)
  have hb4 := hb3.trans (b4.mono hb3.size)
  replace hb4 := hb4.alloc hb4.size (.cells #[.int .i64 k2, .int .i64 e2, .int .i64 q2, .string b2] 23)
  have s4 := Blk.new w4 23 #[.int .i64 k2, .int .i64 e2, .int .i64 q2, .string b2]
  clear a3 d3 hb3 b4 hL3
  go_wp2_with fail
  refine (c3.out _).mono ?_
  rintro en w5 ⟨rfl, b5⟩
  have a5 := a4.below b5 a4.lt
  have d5 := d4.below b5 d4.lt
  have s5 := s4.below b5 s4.lt
  have hb5 := hb4.trans (b5.mono hb4.size)
  clear a4 d4 s4 hb4 b5
  generalize w4.heap.size = gc at s5 ⊢
  go_wp2_with fail
  refine (c5.out _).mono ?_
  rintro en w6 ⟨rfl, b6⟩
  have a6 := (a5.below b6 a5.lt).alloc (.cells #[.int .i64 k2, .int .i64 e2, .int .i64 q2, .string b2] 23)
  have d6 := (d5.below b6 d5.lt).alloc (.cells #[.int .i64 k2, .int .i64 e2, .int .i64 q2, .string b2] 23)
  have s6 := (s5.below b6 s5.lt).alloc (.cells #[.int .i64 k2, .int .i64 e2, .int .i64 q2, .string b2] 23)
  have hb6 := hb5.trans (b6.mono hb5.size)
  replace hb6 := hb6.alloc hb6.size (.cells #[.int .i64 k2, .int .i64 e2, .int .i64 q2, .string b2] 23)
  have u6 := Blk.new w6 23 #[.int .i64 k2, .int .i64 e2, .int .i64 q2, .string b2]
  have hL6 := hL.out.below hb6 hp
  clear a5 d5 s5 hb5 b6
  go_wp2_with fail
  refine (fixed_any _ hL6).mono ?_
  rintro en w7 ⟨rfl, b7⟩
  have a7 := a6.below b7 a6.lt
  have d7 := d6.below b7 d6.lt
  have s7 := s6.below b7 s6.lt
  have u7 := u6.below b7 u6.lt
  have hb7 := hb6.trans (b7.mono hb6.size)
  clear a6 d6 s6 u6 hb6 b7 hL6
  generalize w6.heap.size = gd at u7 ⊢
  have ga0 : w7.cell? ⟨ga, 0, none⟩ = some (.int .i64 k1) := a7.cell 0
  have ga1 : w7.cell? ⟨ga, 1, none⟩ = some (.int .i64 e1) := a7.cell 1
  have ga2 : w7.cell? ⟨ga, 2, none⟩ = some (.int .i64 q1) := a7.cell 2
  have ga3 : w7.cell? ⟨ga, 3, none⟩ = some (.string b1) := a7.cell 3
  have gb0 : w7.cell? ⟨gb, 0, none⟩ = some (.int .i64 k1) := d7.cell 0
  have gb1 : w7.cell? ⟨gb, 1, none⟩ = some (.int .i64 e1) := d7.cell 1
  have gb2 : w7.cell? ⟨gb, 2, none⟩ = some (.int .i64 q1) := d7.cell 2
  have gb3 : w7.cell? ⟨gb, 3, none⟩ = some (.string b1) := d7.cell 3
  have gc0 : w7.cell? ⟨gc, 0, none⟩ = some (.int .i64 k2) := s7.cell 0
  have gc1 : w7.cell? ⟨gc, 1, none⟩ = some (.int .i64 e2) := s7.cell 1
  have gc2 : w7.cell? ⟨gc, 2, none⟩ = some (.int .i64 q2) := s7.cell 2
  have gc3 : w7.cell? ⟨gc, 3, none⟩ = some (.string b2) := s7.cell 3
  have gd0 : w7.cell? ⟨gd, 0, none⟩ = some (.int .i64 k2) := u7.cell 0
  have gd1 : w7.cell? ⟨gd, 1, none⟩ = some (.int .i64 e2) := u7.cell 1
  have gd2 : w7.cell? ⟨gd, 2, none⟩ = some (.int .i64 q2) := u7.cell 2
  have gd3 : w7.cell? ⟨gd, 3, none⟩ = some (.string b2) := u7.cell 3
  go_wp2_with fail
  go_ret
  refine ⟨?_, hb7⟩
  show Ending.returned (Value.bool (te != 171)) = _
  rw [show (te != 171) = true from bne_iff_ne.2 hg]
end Go.Proofs.YtndmcbphdknihaaDoor.Frame

/- The walk of the law WireCut: it answers true, whatever the number, the text and the place; nothing that was there turns. -/
import Derived.Test.YtkhnohiokclcfaaDoorWireOnlyW
namespace Go.Proofs.YtkhnohiokclcfaaDoor.Wire
open Go.RowKit Mem

/-- what is left of a number behind '& 0xffff' -/
theorem and_ffff (x : Int) : ∃ m : Nat, m ≤ 65535 ∧ bits BinOp.and IntKind.i64 x 65535 = (m : Int) := by
  refine ⟨(BitVec.ofInt 64 x &&& BitVec.ofInt 64 65535).toNat, ?_, ?_⟩
  · rw [BitVec.toNat_and]
    exact Nat.le_trans Nat.and_le_right (by decide)
  · show IntKind.i64.wrap _ = _
    have h : (BitVec.ofInt 64 x &&& BitVec.ofInt 64 65535).toNat ≤ 65535 := by
      rw [BitVec.toNat_and]
      exact Nat.le_trans Nat.and_le_right (by decide)
    have h2 := IntWalk.i64_in (((BitVec.ofInt 64 x &&& BitVec.ofInt 64 65535).toNat : Nat) : Int) ⟨by omega, by omega⟩
    exact h2

set_option maxRecDepth 100000 in
set_option maxHeartbeats 4000000 in
theorem cut_any (n : Int) (s : ByteArray) (p : Int) (w : World) (hs : s.size ≤ 140737488355328) (hL : Laid w) :
    Calls Tryd.prog 7 #[.int .i64 n, .string s, .int .i64 p] w fun e w' => e = .returned (.bool true) ∧ Below w.heap.size w w' := by
  have hp := hL.pos
  obtain ⟨q, hq, hqs, hq3⟩ : ∃ q : Nat, min (s.size : Int) 300 = (q : Int) ∧ q ≤ s.size ∧ q ≤ 300 := by
    by_cases h : s.size ≤ 300
    · exact ⟨s.size, by omega, by omega, h⟩
    · exact ⟨300, by omega, by omega, by omega⟩
  obtain ⟨S, hS⟩ : ∃ S : ByteArray, s.extract 0 q = S := ⟨_, rfl⟩
  have hSs : S.size = q := by rw [← hS, ByteArray.size_extract]; omega
  obtain ⟨b, hb⟩ : ∃ b : ByteArray, b = ⟨(digits S.size).toArray⟩ ++ S := ⟨_, rfl⟩
  have c2 := Lib.hid (fun W => hb ▸ text_ok S W (by omega))
  have hbd : b.data.toList = digits S.data.toList.length ++ S.data.toList := by rw [hb, text_bytes]
  have hSd : S.data.toList.length = S.size := (Lib.size_eq S).symm
  have hbl : b.size = (digits S.data.toList.length ++ S.data.toList).length := by rw [Lib.size_eq, hbd]
  have hb0 : 0 < b.size := by rw [hbl, List.length_append]; have := digits_pos S.data.toList.length; omega
  have hbu : b.size ≤ 400 := by rw [hbl, List.length_append]; have := digits_length9 S.data.toList.length (by omega); omega
  obtain ⟨m, hm, hand⟩ := and_ffff p
  obtain ⟨k, hk, hkb⟩ : ∃ k : Nat, (m : Int) % (b.size : Int) = (k : Int) ∧ k < b.size := ⟨m % b.size, rfl, Nat.mod_lt _ hb0⟩
  obtain ⟨st, hst, hst2⟩ := rdText_cut (b := S.data.toList) (most := 1048576) (k := k) (by omega) (by omega) (by rw [← hbl]; exact hkb)
  have hcb : (b.extract 0 k).data.toList = (digits S.data.toList.length ++ S.data.toList).take k := by rw [Lib.extract_data, hbd]; simp
  rw [← hcb] at hst
  have hcs : (b.extract 0 k).size ≤ 400 := by rw [ByteArray.size_extract]; omega
  have hend : rdEnd st = 32 := by rw [rdEnd_dead (by rw [hst2]; decide), hst2]
  have hst' := Lib.hid hst
  have hend' := Lib.hid hend
  have hb0I : (0 : Int) < (b.size : Int) := by omega
  have hbne : ((b.size : Int) == 0) = false := beq_eq_false_iff_ne.2 (by omega)
  have hand' := Lib.hid hand
  have hk' := Lib.hid hk
  have hq' := Lib.hid hq
  have hS' := Lib.hid hS
  clear hSs hb hbd hSd hbl hst hst2 hcb hend hand hk hq hS
  by_cases hn : okNum n = true
  · obtain ⟨h0, h1⟩ := okNum_le hn
    obtain ⟨x, rfl⟩ := Int.eq_ofNat_of_zero_le h0
    obtain ⟨a, ha⟩ : ∃ a : ByteArray, a = ⟨(digits x).toArray⟩ := ⟨_, rfl⟩
    have c1 := Lib.hid (ha ▸ num_ok x w (by omega))
    have had : a.data.toList = digits x := by rw [ha]
    have hal : a.size = (digits x).length := by rw [Lib.size_eq, had]
    have ha0 : 0 < a.size := by rw [hal]; exact digits_pos x
    have hau : a.size ≤ 9 := by rw [hal]; exact digits_length9 x (by omega)
    obtain ⟨j, hj, hja⟩ : ∃ j : Nat, (m : Int) % (a.size : Int) = (j : Int) ∧ j < a.size := ⟨m % a.size, rfl, Nat.mod_lt _ ha0⟩
    have hca : (a.extract 0 j).data.toList = (digits x).take j := by rw [Lib.extract_data, had]; simp
    have hsa : rdNum 4611686018427387903 ((a.extract 0 j).data.toList, 0) = ((0, 32), ((a.extract 0 j).data.toList, 32)) :=
      rdNum_bad _ (by rw [hca, scan_cut0 x j (by omega) (by rw [← hal]; exact hja)]) (by decide)
    have hsa' := Lib.hid hsa
    have has : (a.extract 0 j).size ≤ 9 := by rw [ByteArray.size_extract]; omega
    have ha0I : (0 : Int) < (a.size : Int) := by omega
    have hane : ((a.size : Int) == 0) = false := beq_eq_false_iff_ne.2 (by omega)
    clear ha had hal hca hsa h0
    have hand := hand'.out
    have hk := hk'.out
    have hq := hq'.out
    have hS := hS'.out
    go_enter Tryd.func7, Tryd.ntmps7
    go_wp2_with fail
    refine c1.out.mono ?_
    rintro e w1 ⟨rfl, hb1⟩
    go_wp2_with fail
    refine (c2.out _).mono ?_
    rintro e w2 ⟨rfl, hb2⟩
    have h2 := hb1.trans (hb2.mono hb1.size)
    clear hb1 hb2
    have hs2 := h2.size
    go_wp2_with fail
    refine (new_any _ _).mono ?_
    rintro e w3 ⟨rfl, hw3⟩
    have hr3 : IsRd w3 w2.heap.size ((b.extract 0 k).data.toList, 0) := by rw [← hw3]; exact IsRd.new w2 _ (by omega)
    have h3 : Below w.heap.size w w3 := by rw [← hw3]; exact h2.alloc hs2 _
    clear hw3
    have hL3 := hL.below h3 hp
    go_wp2_with fail
    refine (text_any _ _ 1048576 _ hr3 hL3).mono ?_
    rw [hst'.out]
    rintro e w4 ⟨rfl, hr4, g4⟩
    have h4 := h3.trans (Only.toBelow g4 hs2 h3.size)
    have hL4 := hL.below h4 hp
    go_wp2_with fail
    refine (end_any _ _ _ hr4 hL4).mono ?_
    unfold EndPost
    rw [hend'.out]
    rintro e w5 ⟨rfl, _, hb5⟩
    have h5 := h4.trans (hb5.mono h4.size)
    have hs5 := h5.size
    have hj2 := hj
    go_wp2_with fail
    refine (new_any _ _).mono ?_
    rintro e w6 ⟨rfl, hw6⟩
    have hr6 : IsRd w6 w5.heap.size ((a.extract 0 j).data.toList, 0) := by rw [← hw6]; exact IsRd.new w5 _ (by omega)
    have h6 : Below w.heap.size w w6 := by rw [← hw6]; exact h5.alloc hs5 _
    clear hw6
    have hL6 := hL.below h6 hp
    go_wp2_with fail
    refine (rd_any _ _ 4611686018427387903 _ hr6 hL6).mono ?_
    rw [hsa'.out]
    rintro e w7 ⟨rfl, _, g7⟩
    have h7 := h6.trans (Only.toBelow g7 hs5 h6.size)
    have hL7 := hL.below h7 hp
    go_wp2_with fail
    refine (fixed_any _ hL7).mono ?_
    rintro e w8 ⟨rfl, hb8⟩
    go_wp2_with fail
    go_ret
    exact ⟨rfl, h7.trans (hb8.mono h7.size)⟩
  · have c1 : Calls Tryd.prog 11 #[.int .i64 n] w fun e w' => e = .returned (.tuple #[.string ⟨#[]⟩, .int .i64 31]) ∧ w = w' := by
      rcases okNum_not hn with h0 | h0
      · exact num_neg n w h0
      · exact num_high n w h0
    have c1 := Lib.hid c1
    have hand := hand'.out
    have hk := hk'.out
    have hq := hq'.out
    have hS := hS'.out
    go_enter Tryd.func7, Tryd.ntmps7
    go_wp2_with fail
    refine c1.out.mono ?_
    rintro e w1 ⟨rfl, rfl⟩
    go_wp2_with fail
    refine (c2.out _).mono ?_
    rintro e w2 ⟨rfl, h2⟩
    have hs2 := h2.size
    go_wp2_with fail
    refine (new_any _ _).mono ?_
    rintro e w3 ⟨rfl, hw3⟩
    have hr3 : IsRd w3 w2.heap.size ((b.extract 0 k).data.toList, 0) := by rw [← hw3]; exact IsRd.new w2 _ (by omega)
    have h3 : Below w.heap.size w w3 := by rw [← hw3]; exact h2.alloc hs2 _
    clear hw3
    have hL3 := hL.below h3 hp
    go_wp2_with fail
    refine (text_any _ _ 1048576 _ hr3 hL3).mono ?_
    rw [hst'.out]
    rintro e w4 ⟨rfl, hr4, g4⟩
    have h4 := h3.trans (Only.toBelow g4 hs2 h3.size)
    have hL4 := hL.below h4 hp
    go_wp2_with fail
    refine (end_any _ _ _ hr4 hL4).mono ?_
    unfold EndPost
    rw [hend'.out]
    rintro e w5 ⟨rfl, _, hb5⟩
    have h5 := h4.trans (hb5.mono h4.size)
    have hL5 := hL.below h5 hp
    go_wp2_with fail
    refine (fixed_any _ hL5).mono ?_
    rintro e w6 ⟨rfl, hb6⟩
    go_wp2_with fail
    go_ret
    exact ⟨rfl, h5.trans (hb6.mono h5.size)⟩
end Go.Proofs.YtkhnohiokclcfaaDoor.Wire

/- The walk of the law WireLatched: it answers true, whatever the bytes and the limit; nothing that was there turns. -/
import Derived.Test.YtkhnohiokclcfaaDoorWireFixed
import Derived.Test.YtkhnohiokclcfaaDoorWireSpecB
namespace Go.Proofs.YtkhnohiokclcfaaDoor.Wire
open Go.RowKit Mem

set_option maxRecDepth 100000 in
set_option maxHeartbeats 4000000 in
theorem latched_any (s : ByteArray) (most : Int) (w : World) (hs : s.size ≤ 140737488355328) (hL : Laid w) :
    Calls Tryd.prog 10 #[.string s, .int .i64 most] w fun e w' => e = .returned (.bool true) ∧ Below w.heap.size w w' := by
  have hp := hL.pos
  have h1 : Below w.heap.size w (w.alloc (.cells #[.string s, .nilIface] 65)) := (Below.refl _ _).alloc (Nat.le_refl _) _
  have hL1 := hL.below h1 hp
  have hr1 := IsRd.new w s (by omega)
  obtain ⟨hla, hz, hnz⟩ := rdNum_latch most (s.data.toList, 0)
  have hcall := rd_any w.heap.size (s.data.toList, 0) most _ hr1 hL1
  obtain ⟨⟨⟨n, e⟩, st1⟩, hr⟩ : ∃ r, rdNum most (s.data.toList, 0) = r := ⟨_, rfl⟩
  rw [hr] at hla hz hnz hcall
  simp only at hla hz hnz
  have hcall' := Lib.hid hcall
  clear hcall hr hr1
  by_cases he : e = 0
  · subst he
    clear hla hz hnz
    go_enter Tryd.func10, Tryd.ntmps10
    go_wp2_with fail
    refine (new_any _ _).mono ?_
    rintro e w1 ⟨rfl, rfl⟩
    go_wp2_with fail
    refine hcall'.out.mono ?_
    rintro e w2 ⟨rfl, hr2, hg2⟩
    have h2 := h1.trans (Only.toBelow hg2 (Nat.le_refl _) (by simp))
    have hL2 := hL.below h2 hp
    go_wp2_with fail
    refine (fixed_any _ hL2).mono ?_
    rintro e w3 ⟨rfl, hb3⟩
    go_wp2_with fail
    go_ret
    exact ⟨rfl, h2.trans (hb3.mono h2.size)⟩
  · have hne : (e == 0) = false := by simpa using he
    have hst : st1.2 ≠ 0 := by rw [hla]; exact he
    have t1 := rdText_dead 1048576 hst
    have t2 := rdNums_dead 1048576 4611686018427387903 hst
    have t3 := rdNum_dead 4611686018427387903 hst
    have t4 := rdEnd_dead hst
    rw [hla] at t1 t2 t3 t4
    have T1 := Lib.hid t1
    have T2 := Lib.hid t2
    have T3 := Lib.hid t3
    have T4 := Lib.hid t4
    clear t1 t2 t3 t4 he hz hnz hla
    have hs1 := h1.size
    go_enter Tryd.func10, Tryd.ntmps10
    go_wp2_with fail
    refine (new_any _ _).mono ?_
    rintro e' w1 ⟨rfl, rfl⟩
    go_wp2_with fail
    refine hcall'.out.mono ?_
    rintro e' w2 ⟨rfl, hr2, hg2⟩
    have h2 := h1.trans (Only.toBelow hg2 (Nat.le_refl _) (by simp))
    have hL2 := hL.below h2 hp
    go_wp2_with fail
    refine (text_any _ st1 1048576 _ hr2 hL2).mono ?_
    rw [T1.out]
    rintro e' w3 ⟨rfl, hr3, hg3⟩
    have h3 := h2.trans (Only.toBelow hg3 (Nat.le_refl _) h2.size)
    have hL3 := hL.below h3 hp
    go_wp2_with fail
    refine (nums_rd _ st1 1048576 4611686018427387903 _ hr3 hL3 (by omega)).mono ?_
    rw [T2.out]
    rintro e' w4 ⟨A, k, c, rfl, hrow, _, hr4, hg4⟩
    have hk : k = 0 := by have := hrow.1; simpa using this.symm
    subst hk
    have h4 := h3.trans (Only.toBelow hg4 (Nat.le_refl _) h3.size)
    have hL4 := hL.below h4 hp
    go_wp2_with fail
    refine (rd_any _ st1 4611686018427387903 _ hr4 hL4).mono ?_
    rw [T3.out]
    rintro e' w5 ⟨rfl, hr5, hg5⟩
    have h5 := h4.trans (Only.toBelow hg5 (Nat.le_refl _) h4.size)
    have hL5 := hL.below h5 hp
    go_wp2_with fail
    refine (fixed_any _ hL5).mono ?_
    rintro e' w6 ⟨rfl, hb6⟩
    have h6 := h5.trans (hb6.mono h5.size)
    have hL6 := hL.below h6 hp
    have hr6 := hr5.below hb6 hr5.lt
    go_wp2_with fail
    refine (end_any _ st1 _ hr6 hL6).mono ?_
    unfold EndPost
    rw [T4.out]
    rintro e' w7 ⟨rfl, _, hb7⟩
    go_wp2_with fail
    go_ret
    exact ⟨rfl, h6.trans (hb7.mono h6.size)⟩
end Go.Proofs.YtkhnohiokclcfaaDoor.Wire

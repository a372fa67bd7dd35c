/- Planes: the document's map: Used, Free. -/
import Derived.Test.YteghmnlngkcgiaaDoorPlaneWalkE
namespace Go.Proofs.YteghmnlngkcgiaaDoor.Planes
open Go.RowKit Mem Sets

section
variable (g b : Nat) (D : List UInt8) (w : World)
set_option maxRecDepth 100000 in
set_option maxHeartbeats 1000000 in
theorem rused_any (h : RMap w g b D) (hD : D.length ≤ 4096) :
    Calls Tryd.prog 33 #[.pointer (some ⟨g, 0, none⟩)] w fun e w' => e = .returned (.string (setU D)) ∧ Below w.heap.size w w' := by
  have k3 : ∀ A c m W, Row W A m ((nz D D.length).map (Value.int .i64)) → m ≤ 4096 → Calls Tryd.prog 50 #[.slice A m c] W fun e w' => e = .returned (.tuple #[.string (setU D), .int .i64 0]) ∧ Below W.heap.size W w' := fun A c m W hr hm => by
    have h := rof_out A m c _ W hr (by omega)
    rw [ofOut_nz D hD] at h
    exact h
  generalize setU D = T at k3 ⊢
  replace k3 := Lib.hid k3
  generalize hG : w.heap.size = G at *
  replace hG := Lib.hid hG
  have o0 : (w.alloc (.cells #[] 3)).ownsRow G 3 1 (.slice (some ⟨w.heap.size, 0, none⟩) 0 0) (nz D 0).length ((nz D 0).map (Value.int .i64)) := World.ownsRow_made w #[] 0 (Nat.le_of_eq hG.out.symm) (by decide) rfl
  have b0 : Below G w (w.alloc (.cells #[] 3)) := (Below.refl _ w).alloc (Nat.le_of_eq hG.out.symm) _
  replace h := Lib.hid h
  go_enter Tryd.func33, Tryd.ntmps33
  go_wp2_with fail
  obtain ⟨i0, hinf, hz0, hz1, hz2⟩ := info_parts infoInt
  generalize Value.slice (some ⟨w.heap.size, 0, none⟩) 0 0 = bv at o0 ⊢
  generalize w.alloc (.cells #[] 3) = w1 at o0 b0 ⊢
  replace o0 := Lib.hid o0
  go_loopw [3, 4] (fun v y wr => ∃ j : Nat, j ≤ D.length ∧ y = .int .i64 (j : Int) ∧ wr.ownsRow G 3 1 v (nz D j).length ((nz D j).map (Value.int .i64)) ∧ Below G w wr) (fun _ y _ => D.length - (intOf y).toNat)
  case atStart => exact ⟨0, Nat.zero_le _, rfl, o0.out, b0⟩
  case round =>
    obtain ⟨j, hj, rfl, hown, hbel⟩ := hrel
    clear o0 b0
    have hw0 : G ≤ wr.heap.size := by have := hbel.size; rw [hG.out] at this; exact this
    have hR : RMap wr g b D := h.out.below (by rw [hG.out]; exact hbel)
    obtain ⟨c, hR1, _⟩ := id hR
    have m0 : wr.cell? ⟨g, 0, none⟩ = some (.slice (some ⟨b, 0, none⟩) D.length c) := hR1.cell 0
    clear hR1
    by_cases hlt : j < D.length
    · have mb := hR.byte hlt
      have hsucc := nz_succ D j
      have hle := nz_length D j
      clear hR
      by_cases hnz : byteAt D j = 0
      · rw [if_neg (fun h => h hnz), List.append_nil] at hsucc
        rw [← hsucc] at hown
        have e0 : ((byteAt D j).toNat : Int) = 0 := by rw [hnz]; rfl
        rw [e0] at mb
        replace hown := Lib.hid hown
        clear hnz hsucc hle e0
        go_wp2_with fail
        exact ⟨⟨j + 1, by omega, rfl, hown.out, hbel⟩, by simp [intOf]; omega⟩
      · rw [if_pos hnz] at hsucc
        have e0 : ¬ ((byteAt D j).toNat : Int) = 0 := fun e => hnz (UInt8.toNat_inj.1 (by show (byteAt D j).toNat = 0; omega))
        generalize nz D j = es at hown hsucc hle
        generalize ((byteAt D j).toNat : Int) = x at mb e0
        replace hsucc := Lib.hid hsucc
        clear hnz
        go_wp2_with (first
          | (at_builtin; refine wpList_append_own _ rfl (.tmp 25) (.tmp 27) _ rfl G 3 i0 (.int .i64 0) 1 8 Tryd.underlying57 hinf hz0 hz1 hz2 rfl (by decide) u3 es.length _ rfl (hown.alloc _) ⟨wr.heap.size, 0, none⟩ 1 1 [.int .i64 (j : Int)] rfl rfl (cell_one_new _ _ _) (by simp [Value.oneCell']) (by unfold maxLen; omega) (by omega) (by simp; omega) ?_; intro v1 w11 hown1 hg1 hn1))
        have hb11 := (hbel.alloc hw0 _).grown hg1 (by simp; omega) (fun k hk => (hown.lt k hk).1)
        have hres : w11.ownsRow G 3 1 v1 (nz D (j + 1)).length ((nz D (j + 1)).map (Value.int .i64)) := by
          rw [hsucc.out, List.length_append, List.map_append]
          exact hown1
        exact ⟨⟨j + 1, by omega, rfl, hres, hb11⟩, by simp [intOf]; omega⟩
    · obtain rfl : j = D.length := by omega
      obtain ⟨A, c1, rfl⟩ := own_slice hown
      have hr := Row.of_own hown
      have hm := Nat.le_trans (nz_length D D.length) hD
      generalize (nz D D.length).length = m at hr hm ⊢
      replace hr := Lib.hid hr
      clear hown hR
      go_wp2_with fail
      refine (k3.out A c1 m _ hr.out hm).mono ?_
      rintro en w2 ⟨rfl, b2⟩
      go_wp2_with fail
      go_ret
      exact ⟨rfl, hbel.trans (b2.mono hw0)⟩

set_option maxRecDepth 100000 in
set_option maxHeartbeats 1000000 in
theorem rfree_any (h : RMap w g b D) (hD : D.length ≤ 4096) (h1 : 1 ≤ D.length) :
    Calls Tryd.prog 34 #[.pointer (some ⟨g, 0, none⟩)] w fun e w' => e = .returned (.int .i64 (fr D (D.length - 1) : Int)) ∧ w' = w := by
  have hb := fun i (hi : i < D.length) => h.byte hi
  obtain ⟨c, hR1, _⟩ := h
  have m0 : w.cell? ⟨g, 0, none⟩ = some (.slice (some ⟨b, 0, none⟩) D.length c) := hR1.cell 0
  clear hR1
  replace hb := Lib.hid hb
  obtain ⟨F, hF⟩ : ∃ F, F = fr D (D.length - 1) := ⟨_, rfl⟩
  rw [← hF]
  replace hF := Lib.hid hF
  go_enter Tryd.func34, Tryd.ntmps34
  go_wp2_with fail
  go_loopw [3, 4] (fun v y wr => ∃ j : Nat, j + 1 ≤ D.length ∧ y = .int .i64 ((j + 1 : Nat) : Int) ∧ v = .int .i64 (fr D j : Int) ∧ wr = w) (fun _ y _ => D.length - (intOf y).toNat)
  case atStart => exact ⟨0, h1, rfl, rfl, rfl⟩
  case round =>
    obtain ⟨j, hj, rfl, rfl, rfl⟩ := hrel
    have hle := fr_le D j
    obtain ⟨k, hk⟩ : ∃ k, k = j + 1 := ⟨_, rfl⟩
    have hfr : fr D k = fr D j + if byteAt D k = 0 then 1 else 0 := by rw [hk]; rfl
    rw [← hk] at hj ⊢
    by_cases hlt : k < D.length
    · have mb := hb.out k hlt
      generalize hx : fr D j = x at hle hfr ⊢
      have hx4 : x ≤ 4096 := by omega
      replace hx := Lib.hid hx
      by_cases hnz : byteAt D k = 0
      · have e0 : ((byteAt D k).toNat : Int) = 0 := by rw [hnz]; rfl
        rw [if_pos hnz] at hfr
        rw [e0] at mb
        replace hfr := Lib.hid hfr
        replace hk := Lib.hid hk
        clear e0 hnz
        go_wp2_with fail
        exact ⟨⟨k, by omega, rfl, by rw [hfr.out]; rfl, trivial⟩, by simp [intOf]; omega⟩
      · have e0 : ¬ ((byteAt D k).toNat : Int) = 0 := fun e => hnz (UInt8.toNat_inj.1 (by show (byteAt D k).toNat = 0; omega))
        rw [if_neg hnz, Nat.add_zero] at hfr
        generalize ((byteAt D k).toNat : Int) = z at mb e0
        replace hfr := Lib.hid hfr
        replace hk := Lib.hid hk
        clear hnz
        go_wp2_with fail
        exact ⟨⟨k, by omega, rfl, by rw [hfr.out], trivial⟩, by simp [intOf]; omega⟩
    · obtain rfl : k = D.length := by omega
      have hF' : fr D j = F := by rw [hF.out, show D.length - 1 = j by omega]
      rw [hF']
      replace hk := Lib.hid hk
      clear hfr hF'
      go_wp2_with fail
      go_ret
      exact ⟨rfl, rfl⟩
end
end Go.Proofs.YteghmnlngkcgiaaDoor.Planes

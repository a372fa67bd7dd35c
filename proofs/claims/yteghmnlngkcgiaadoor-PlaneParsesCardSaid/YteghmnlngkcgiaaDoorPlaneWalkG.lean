/- Planes: the document's map: Put, Copy, Diff. -/
import Derived.Test.YteghmnlngkcgiaaDoorPlaneWalkF
namespace Go.Proofs.YteghmnlngkcgiaaDoor.Planes
open Go.RowKit Mem Sets

theorem elems_okSet (B : Nat) (s : ByteArray) : okSet B s = true ↔ ∀ x ∈ elems s.data.toList, 1 ≤ x ∧ x < (B : Int) := by
  rw [okSet_iff]
  constructor
  · intro h x hx
    obtain ⟨m, rfl, _, hm⟩ := mem_elems.1 hx
    have := h m hm
    omega
  · intro h m hm
    have h1 : (m : Int) ∈ elems s.data.toList := mem_elems.2 ⟨m, rfl, by
      show m < 8 * s.data.toList.length
      refine Classical.byContradiction fun hn => ?_
      unfold hasB at hm
      rw [has_beyond (by omega)] at hm
      exact Bool.noConfusion hm, hm⟩
    have := h _ h1
    omega
theorem infoByte' : (Tryd.prog.info? 5).map (fun i => (i.zero, i.size, i.bytes)) = some (some (.int .u8 0), 1, 1) := by kernel_rfl
theorem bytes_one (l : List UInt8) : ∀ u ∈ cellsOf l, u.oneCell' = true := fun u hu => by
  obtain ⟨x, _, rfl⟩ := List.mem_map.1 hu
  rfl
theorem andnot_put (c : UInt8) (p : Nat) (hp : p < 8) : bits .andNot .u8 (c.toNat : Int) ((2 ^ p : Nat) : Int) = ((clr c p).toNat : Int) := by
  have h : 2 ^ p < 2 ^ 8 := Nat.pow_lt_pow_right (by decide) hp
  rw [u8_andNot_nat _ _ c.toNat_lt h, clr, minus_nat, bit_toNat p hp]
theorem cells_set {l : List UInt8} {i : Nat} {c : UInt8} : (cellsOf l).set i (.int .u8 (c.toNat : Int)) = cellsOf (l.set i c) := by
  rw [cellsOf, cellsOf, List.map_set]

section
variable (g b : Nat) (D : List UInt8) (w : World)
set_option maxRecDepth 100000 in
set_option maxHeartbeats 2000000 in
theorem rput_no (p : Int) (s : ByteArray) (h : RMap w g b D) (hp : p ≤ 9223372036854775807) (hs : s.size ≤ 2000000) (hno : (isP p && okSet D.length s) = false) :
    Calls Tryd.prog 28 #[.pointer (some ⟨g, 0, none⟩), .int .i64 p, .string s] w fun e w' => e = .returned (.int .i64 91) ∧ Below w.heap.size w w' := by
  have k1 := fun W => ris_any p W hp
  by_cases hi : isP p = true
  · rw [hi] at k1
    have hok : okSet D.length s = false := by rw [hi, Bool.true_and] at hno; exact hno
    have k2 := fun W => rlist_any s W hs
    have hne := (not_congr (elems_okSet D.length s)).1 (by rw [hok]; decide)
    have hL := elems_length_le s.data.toList
    rw [← Lib.size_eq s] at hL
    generalize elems s.data.toList = L at k2 hne hL
    replace k1 := Lib.hid k1
    replace k2 := Lib.hid k2
    replace hne := Lib.hid hne
    replace h := Lib.hid h
    clear hno hok hi
    generalize hG : w.heap.size = G at *
    replace hG := Lib.hid hG
    go_enter Tryd.func28, Tryd.ntmps28
    go_wp2_with fail
    refine (k1.out _).mono ?_
    rintro en w' ⟨rfl, hw'⟩
    replace hw' := hw'.symm
    subst hw'
    go_wp2_with fail
    refine (k2.out _).mono ?_
    rintro en w1 ⟨v, rfl, ho, b1⟩
    obtain ⟨A, c, rfl⟩ := own_slice ho
    have hr := Row.of_own ho
    obtain ⟨cc, hR1, _⟩ := h.out.below b1
    have m0 : w1.cell? ⟨g, 0, none⟩ = some (.slice (some ⟨b, 0, none⟩) D.length cc) := hR1.cell 0
    rw [hG.out] at b1
    clear ho hR1
    replace hr := Lib.hid hr
    replace b1 := Lib.hid b1
    go_wp2_with fail
    go_loopw [8] (fun y wr => ∃ j : Nat, j ≤ L.length ∧ y = .int .i64 (j : Int) ∧ (∀ k x, k < j → L[k]? = some x → 1 ≤ x ∧ x < (D.length : Int)) ∧ ∃ q, wr = w1.drewN q) (fun y _ => L.length - (intOf y).toNat)
    case atStart => exact ⟨0, by omega, rfl, fun k x hk => absurd hk (by omega), 0, rfl⟩
    case round =>
      obtain ⟨j, hj, rfl, hall, q, rfl⟩ := hrel
      by_cases hlt : j < L.length
      · obtain ⟨ad, u, ha, hu, hc⟩ := hr.out.at_ hlt
        obtain ⟨X, hX, rfl⟩ := getMap_int hu
        subst ha
        have hc' : (w1.drewN q).cell? (ad.add j) = some (.int .i64 X) := hc
        have m0' : (w1.drewN q).cell? ⟨g, 0, none⟩ = some (.slice (some ⟨b, 0, none⟩) D.length cc) := m0
        have hk0 : (0 : Int) ≤ (j : Int) := by omega
        have hkI : (j : Int) < (L.length : Int) := by omega
        replace hall := Lib.hid hall
        replace hX := Lib.hid hX
        clear hu
        by_cases hX1 : X < 1
        · have d1 : decide (X < 1) = true := decide_eq_true hX1
          go_wp2_with fail
          go_quiet (fail)
          go_wp2_with fail
          go_ret
          exact ⟨rfl, below_drewN (below_drewN b1.out _) _⟩
        · have d1 : decide (X < 1) = false := decide_eq_false hX1
          by_cases hX2 : (D.length : Int) ≤ X
          · have d2 : decide ((D.length : Int) ≤ X) = true := decide_eq_true hX2
            go_wp2_with fail
            go_quiet (fail)
            go_wp2_with fail
            go_ret
            exact ⟨rfl, below_drewN (below_drewN b1.out _) _⟩
          · have d2 : decide ((D.length : Int) ≤ X) = false := decide_eq_false hX2
            go_wp2_with fail
            go_quiet (fail)
            go_wp2_with fail
            go_roundw
            case rel =>
              refine ⟨j + 1, by omega, by go_num, fun k x hk hx => ?_, _, rfl⟩
              by_cases e : k = j
              · subst e
                rw [hX.out] at hx
                injection hx with hx
                omega
              · exact hall.out k x (by omega) hx
            case measure => simp [intOf]; omega
      · obtain rfl : j = L.length := by omega
        refine absurd (fun x hx => ?_) hne.out
        obtain ⟨k, hk, hx⟩ := List.getElem_of_mem hx
        exact hall k x hk (by rw [List.getElem?_eq_getElem hk, hx])
  · have hi' : isP p = false := by simpa using hi
    rw [hi'] at k1
    replace k1 := Lib.hid k1
    clear hi hi' hno
    go_enter Tryd.func28, Tryd.ntmps28
    go_wp2_with fail
    refine (k1.out _).mono ?_
    rintro en w' ⟨rfl, hw'⟩
    replace hw' := hw'.symm
    subst hw'
    go_wp2_with fail
    go_ret
    exact ⟨rfl, Below.refl _ _⟩
end
end Go.Proofs.YteghmnlngkcgiaaDoor.Planes

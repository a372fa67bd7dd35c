/- Planes: the document's map: Put of what may be put; Copy, Diff. -/
import Derived.Test.YteghmnlngkcgiaaDoorPlaneWalkG
namespace Go.Proofs.YteghmnlngkcgiaaDoor.Planes
open Go.RowKit Mem Sets

section
variable (g b : Nat) (D : List UInt8) (w : World)
set_option maxRecDepth 100000 in
set_option maxHeartbeats 4000000 in
theorem rput_yes (p : Nat) (s : ByteArray) (h : RMap w g b D) (hD : D.length ≤ 4096) (hD1 : 1 ≤ D.length) (hp : p < 8) (hs : s.size ≤ 2000000) (hok : okSet D.length s = true) :
    Calls Tryd.prog 28 #[.pointer (some ⟨g, 0, none⟩), .int .i64 (p : Int), .string s] w fun e w' => e = .returned (.int .i64 0) ∧ (∃ b', RMap w' g b' (mk D.length (qp D p s D.length)) ∧ w.heap.size ≤ b') ∧ w.grownBy w' (some g) := by
  have k1 := fun W => ris_any (p : Int) W (by omega)
  rw [show isP (p : Int) = true by rw [isP_iff]; omega] at k1
  have k2 := fun W => rlist_any s W hs
  have hne := (elems_okSet D.length s).1 hok
  have hL := elems_length_le s.data.toList
  rw [← Lib.size_eq s] at hL
  generalize elems s.data.toList = L at k2 hne hL
  replace k1 := Lib.hid k1
  replace k2 := Lib.hid k2
  replace hne := Lib.hid hne
  replace h := Lib.hid h
  clear hok
  go_enter Tryd.func28, Tryd.ntmps28
  go_wp2_with fail
  refine (k1.out _).mono ?_
  rintro en w' ⟨rfl, hw'⟩
  replace hw' := hw'.symm
  subst hw'
  go_wp2_with fail
  refine (k2.out _).mono ?_
  rintro en w1 ⟨v, rfl, ho, b1⟩
  obtain ⟨A, c, rfl⟩ := own_slice ho
  have hr := Row.of_own ho
  have hR := h.out.below b1
  obtain ⟨cc, hR1, hR2, _⟩ := id hR
  have m0 : w1.cell? ⟨g, 0, none⟩ = some (.slice (some ⟨b, 0, none⟩) D.length cc) := hR1.cell 0
  clear ho k1 k2
  replace hR := Lib.hid hR
  replace hR1 := Lib.hid hR1
  replace hR2 := Lib.hid hR2
  replace hr := Lib.hid hr
  replace b1 := Lib.hid b1
  go_wp2_with fail
  go_loopw [8] (fun y wr => ∃ j : Nat, j ≤ L.length ∧ y = .int .i64 (j : Int) ∧ ∃ q, wr = w1.drewN q) (fun y _ => L.length - (intOf y).toNat)
  case atStart => exact ⟨0, by omega, rfl, 0, rfl⟩
  case round =>
    obtain ⟨j, hj, rfl, q, rfl⟩ := hrel
    by_cases hlt : j < L.length
    · obtain ⟨ad, u, ha, hu, hc⟩ := hr.out.at_ hlt
      obtain ⟨X, hX, rfl⟩ := getMap_int hu
      subst ha
      have hk0 : (0 : Int) ≤ (j : Int) := by omega
      have hkI : (j : Int) < (L.length : Int) := by omega
      obtain ⟨hX1, hX2⟩ := hne.out X (List.mem_of_getElem? hX)
      have d1 : decide (X < 1) = false := decide_eq_false (by omega)
      have d2 : decide ((D.length : Int) ≤ X) = false := decide_eq_false (by omega)
      replace hX := Lib.hid hX
      clear hu
      go_wp2_with fail
      go_quiet (fail)
      go_wp2_with fail
      go_roundw
      case rel => exact ⟨j + 1, by omega, by go_num, _, rfl⟩
      case measure => simp [intOf]; omega
    · obtain rfl : j = L.length := by omega
      obtain ⟨wq, hq⟩ : ∃ z, z = w1.drewN q := ⟨_, rfl⟩
      rw [← hq]
      have hRq : RMap wq g b D := by rw [hq]; exact hR.out
      have bq : Below w.heap.size w wq := by rw [hq]; exact below_drewN b1.out q
      clear hq m0 hR1 hR2 hR
      obtain ⟨H, hH⟩ : ∃ z, z = wq.heap.size := ⟨_, rfl⟩
      have hal : Below H wq (wq.alloc (.cells #[] 5)) := (Below.refl _ wq).alloc (Nat.le_of_eq hH) _
      have hRa : RMap (wq.alloc (.cells #[] 5)) g b D := hRq.below (by rw [← hH]; exact hal)
      obtain ⟨cd, hRa1, hRa2, _⟩ := hRa
      have m0 : (wq.alloc (.cells #[] 5)).cell? ⟨g, 0, none⟩ = some (.slice (some ⟨b, 0, none⟩) D.length cd) := hRa1.cell 0
      have own0 : (wq.alloc (.cells #[] 5)).ownsRow H 5 1 (.slice (some ⟨wq.heap.size, 0, none⟩) 0 0) 0 [] := World.ownsRow_made wq #[] 0 (Nat.le_of_eq hH) (by decide) rfl
      obtain ⟨i0, hinf, hz0, hz1, hz2⟩ := info_parts infoByte'
      have hal2 : H ≤ (wq.alloc (.cells #[] 5)).heap.size := by rw [hH]; exact hal.size
      clear hRa1
      replace bq := Lib.hid bq
      replace hRq := Lib.hid hRq
      go_wp2_with (first
        | (at_builtin; refine wpList_append_row _ (.tmp 39) (.tmp 43) _ rfl H 5 i0 (.int .u8 0) 1 Tryd.underlying34 hinf hz0 hz1 hz2 rfl (.slice (some ⟨wq.heap.size, 0, none⟩) 0 0) 0 [] rfl own0 (some ⟨b, 0, none⟩) D.length cd (cellsOf D) rfl hRa2 (bytes_one _) (by unfold maxLen; omega) (by omega) hal2 (by rfl) ?_; intro v8 w8 o8 g8 a8; have hb8 := hal.grown g8 hal2 (fun k hk => (own0.lt k hk).1)))
      rw [List.nil_append, Nat.zero_add] at o8
      obtain ⟨gb, cap, rfl, hgb, _⟩ := o8.form (by omega)
      have o9 : w8.ownsRow H 5 1 (.slice (some ⟨gb, 0, none⟩) D.length cap) D.length (cellsOf (mk D.length (qp D p s 0))) := by rw [qp_zero]; exact o8
      clear o8 g8 a8 m0 own0 hRa2 hal hal2
      replace o9 := Lib.hid o9
      replace hb8 := Lib.hid hb8
      have hgbH : H ≤ gb := hgb
      go_wp2_with fail
      go_loopw [10] (fun y wr => ∃ i : Nat, i ≤ D.length ∧ y = .int .i64 (i : Int) ∧ wr.ownsRow H 5 1 (.slice (some ⟨gb, 0, none⟩) D.length cap) D.length (cellsOf (mk D.length (qp D p s i))) ∧ Below H wq wr) (fun y _ => D.length - (intOf y).toNat)
      case atStart => exact ⟨0, Nat.zero_le _, rfl, o9.out, hb8.out⟩
      case round =>
        obtain ⟨i, hi, rfl, hown, hbel⟩ := hrel
        clear o9 hb8
        by_cases hilt : i < D.length
        · obtain ⟨cb, hcb⟩ : ∃ cb, (mk D.length (qp D p s i))[i]? = some cb := ⟨_, List.getElem?_eq_getElem (by rw [mk_length]; exact hilt)⟩
          have mB : wr.cell? ⟨gb, i, none⟩ = some (.int .u8 (cb.toNat : Int)) := by
            have h := hown.cells (g := gb) rfl i (.int .u8 (cb.toNat : Int)) (by rw [cellsOf, List.getElem?_map, hcb]; rfl)
            rw [add_lit, Nat.zero_add] at h
            exact h
          obtain ⟨own1, fB⟩ := own_put (i := i) (u := .int .u8 ((clr cb p).toNat : Int)) hown
          rw [cells_set] at own1
          have hbel1 : Below H wq (wr.setCell ⟨gb, i, none⟩ (.int .u8 ((clr cb p).toNat : Int))) := hbel.setCell hgbH _
          have mo := andnot_put cb p hp
          have hp2 : ((2 ^ p : Nat) : Int) = 2 ^ p := by rw [Int.natCast_pow]; rfl
          rw [hp2] at mo
          have hsh : IntKind.u8.wrap (2 ^ p) = 2 ^ p := by
            have h : 2 ^ p < 2 ^ 8 := Nat.pow_lt_pow_right (by decide) hp
            rw [← hp2, IntKind.wrap_u8]
            generalize 2 ^ p = Q at h ⊢
            omega
          have k5 := fun W => rhas_any s (i : Int) W (by omega)
          rw [hasI, decide_eq_true (by omega), Bool.true_and, Int.toNat_natCast, show has s.data.toList i = hasB s i from rfl] at k5
          have hadd := clr_add cb p hp
          generalize hc2 : clr cb p ||| UInt8.ofNat (2 ^ p) = c2 at hadd
          have hlt256 : c2.toNat < 256 := c2.toNat_lt
          have hadd2 : IntKind.u8.wrap (((clr cb p).toNat : Int) + 2 ^ p) = (c2.toNat : Int) := by
            rw [← hp2, IntKind.wrap_u8]
            generalize (clr cb p).toNat = Z at hadd ⊢
            generalize 2 ^ p = Q at hadd ⊢
            omega
          have hoff := qp_off (D := D) (p := p) (i := i) (s := s) hp hilt hcb
          have hon := qp_on (D := D) (p := p) (i := i) (s := s) hp hilt hcb
          rw [hc2] at hon
          replace hc2 := Lib.hid hc2
          clear hlt256 hadd hp2
          generalize clr cb p = c1 at own1 hbel1 mo hadd2 hoff hc2
          replace hoff := Lib.hid hoff
          replace hon := Lib.hid hon
          replace own1 := Lib.hid own1
          replace hbel1 := Lib.hid hbel1
          replace hbel := Lib.hid hbel
          replace hcb := Lib.hid hcb
          have hii : (i : Int) < (D.length : Int) := by omega
          have hi0 : (0 : Int) ≤ (i : Int) := by omega
          clear hown
          cases hset : hasB s i with
          | false =>
            rw [hset] at k5
            rw [hset] at hoff
            replace k5 := Lib.hid k5
            replace hoff := Lib.hid (hoff.out rfl)
            clear hset hon
            go_wp2_with fail
            go_still_tail 10, (by kernel_rfl)
            change wpList _ _ _ _ _ wr.drew
            go_wp2_with fail
            refine (k5.out _).mono ?_
            rintro en w3 ⟨rfl, hw3⟩
            have own3 : w3.ownsRow H 5 1 (.slice (some ⟨gb, 0, none⟩) D.length cap) D.length (cellsOf (mk D.length (qp D p s (i + 1)))) := by rw [hw3, ← hoff.out]; exact own1.out
            have hb3 : Below H wq w3 := by rw [hw3]; exact hbel1.out.drew
            replace own3 := Lib.hid own3
            replace hb3 := Lib.hid hb3
            clear hw3 own1 hbel1
            go_wp2_with fail
            go_roundw
            case rel => exact ⟨i + 1, by omega, by go_num, own3.out, hb3.out⟩
            case measure => simp [intOf]; omega
          | true =>
            rw [hset] at k5
            rw [hset] at hon
            replace k5 := Lib.hid k5
            replace hon := Lib.hid (hon.out rfl)
            clear hset hoff
            go_wp2_with fail
            go_still_tail 10, (by kernel_rfl)
            change wpList _ _ _ _ _ wr.drew
            go_wp2_with fail
            refine (k5.out _).mono ?_
            rintro en w3 ⟨rfl, hw3⟩
            have own3 : w3.ownsRow H 5 1 (.slice (some ⟨gb, 0, none⟩) D.length cap) D.length (cellsOf ((mk D.length (qp D p s i)).set i c1)) := by rw [hw3]; exact own1.out
            have hb3 : Below H wq w3 := by rw [hw3]; exact hbel1.out.drew
            have m3 : w3.cell? ⟨gb, i, none⟩ = some (.int .u8 (c1.toNat : Int)) := by
              have h := own3.cells (g := gb) rfl i (.int .u8 (c1.toNat : Int)) (by rw [cellsOf, List.getElem?_map, List.getElem?_set_self (by rw [mk_length]; exact hilt)]; rfl)
              rw [add_lit, Nat.zero_add] at h
              exact h
            obtain ⟨own4, f3⟩ := own_put (i := i) (u := .int .u8 (c2.toNat : Int)) own3
            rw [cells_set, List.set_set, hon.out] at own4
            have hb4 : Below H wq (w3.setCell ⟨gb, i, none⟩ (.int .u8 (c2.toNat : Int))) := hb3.setCell hgbH _
            replace own4 := Lib.hid own4
            replace hb4 := Lib.hid hb4
            clear hw3 own1 hbel1 own3 hb3 mB fB hon
            go_wp2_with fail
            go_still_tail 8, (by kernel_rfl)
            change wpList _ _ _ _ _ w3.drew
            go_wp2_with fail
            go_roundw
            case rel => exact ⟨i + 1, by omega, by go_num, own4.out, hb4.out.drew⟩
            case measure => simp [intOf]; omega
        · obtain rfl : i = D.length := by omega
          have hle1 : w.heap.size ≤ H := by rw [hH]; exact bq.out.size
          have hRr : RMap wr g b D := hRq.out.below (by rw [← hH]; exact hbel)
          obtain ⟨ce, hRr1, _⟩ := id hRr
          have mg := hRr1.cell 0
          have fg := hRr1.free 0
          have hgH : g < H := by rw [hH]; exact (hRq.out.lt).1
          have hlt' := hown.lt gb rfl
          have hR9 : RMap (wr.setCell ⟨g, 0, none⟩ (.slice (some ⟨gb, 0, none⟩) D.length cap)) g gb (mk D.length (qp D p s D.length)) := by
            refine ⟨cap, ?_, ?_, by omega, by simpa [World.setCell] using hlt'.2⟩
            · have h := hRr1.put 0 (.slice (some ⟨gb, 0, none⟩) D.length cap)
              rw [mk_length]
              exact h
            · have h := (Row.of_own hown).grown (Only.put (Only.refl wr (some g)) 0 (.slice (some ⟨gb, 0, none⟩) D.length cap)) (fun ad e => by injection e with e; subst e; intro e; injection e with e; have e' : gb = g := e; omega)
              rw [mk_length]
              exact h
          have hg9 : w.grownBy (wr.setCell ⟨g, 0, none⟩ (.slice (some ⟨gb, 0, none⟩) D.length cap)) (some g) :=
            Only.put (Only.of_below (bq.out.trans (hbel.mono hle1)) (some g)) 0 _
          have hgb9 : w.heap.size ≤ gb := by omega
          replace hR9 := Lib.hid hR9
          replace hg9 := Lib.hid hg9
          clear hown hbel hRr hRr1 hRq bq
          go_wp2_with fail
          go_ret
          exact ⟨rfl, ⟨gb, hR9.out, hgb9⟩, hg9.out⟩
end
end Go.Proofs.YteghmnlngkcgiaaDoor.Planes

/- The walk of the law WireReads: it answers true, whatever the bytes and the script; nothing that was there turns. -/
import Derived.Test.YtkhnohiokclcfaaDoorWireFixed
import Derived.Test.YtkhnohiokclcfaaDoorWireSpecB
namespace Go.Proofs.YtkhnohiokclcfaaDoor.Wire
open Go.RowKit Mem

/-- a script that came in: each read's three numbers -/
def Ops (w : World) (A : Option Addr) (n : Nat) : Prop :=
  ∀ k, k < n → ∃ (ad : Addr) (x y z : Int), A = some ad ∧ ad.block < w.heap.size ∧ w.cell? (ad.add (k * 3)) = some (.int .i64 x) ∧ w.cell? ⟨(ad.add (k * 3)).block, (ad.add (k * 3)).off + 1, none⟩ = some (.int .i64 y) ∧ w.cell? ⟨(ad.add (k * 3)).block, (ad.add (k * 3)).off + 2, none⟩ = some (.int .i64 z)
theorem Ops.below {w w' : World} {A : Option Addr} {n : Nat} (h : Ops w A n) (hb : Below w.heap.size w w') : Ops w' A n := fun k hk => by
  obtain ⟨ad, x, y, z, hA, hl, h1, h2, h3⟩ := h k hk
  exact ⟨ad, x, y, z, hA, Nat.lt_of_lt_of_le hl hb.size, (hb.cell (p := ad.add (k * 3)) (by rw [add_block]; exact hl)).trans h1, (hb.cell (p := ⟨(ad.add (k * 3)).block, _, none⟩) (by show (ad.add (k * 3)).block < _; rw [add_block]; exact hl)).trans h2, (hb.cell (p := ⟨(ad.add (k * 3)).block, _, none⟩) (by show (ad.add (k * 3)).block < _; rw [add_block]; exact hl)).trans h3⟩

set_option maxRecDepth 100000 in
set_option maxHeartbeats 8000000 in
theorem reads_any (s : ByteArray) (A : Option Addr) (n c : Nat) (w : World) (hs : s.size ≤ 140737488355328) (hn63 : n ≤ 9223372036854775807) (hr : Ops w A n) (hL : Laid w) :
    Calls Tryd.prog 8 #[.string s, .slice A n c] w fun e w' => e = .returned (.bool true) ∧ Below w.heap.size w w' := by
  have hp := hL.pos
  go_enter Tryd.func8, Tryd.ntmps8
  go_wp2_with fail
  refine (new_any _ _).mono ?_
  rintro e w1 ⟨rfl, hw1⟩
  have z1 : w1.heap.size = w.heap.size + 1 := by rw [← hw1]; simp
  have i1 : IsRd w1 w.heap.size (s.data.toList, 0) := by rw [← hw1]; exact IsRd.new w s (by omega)
  have i2 := IsRf.new w1 s (by omega)
  rw [z1] at i2
  have hw1' : Below w.heap.size w w1 := by rw [← hw1]; exact (Below.refl _ _).alloc (Nat.le_refl _) _
  clear hw1
  go_wp2_with fail
  go_loopw [7] (fun i wr => ∃ (k : Nat) (st : Rd), k ≤ n ∧ k ≤ 200 ∧ i = .int .i64 (k : Int) ∧ IsRd wr w.heap.size st ∧ IsRf wr (w.heap.size + 1) st ∧ Below w.heap.size w wr) (fun i _ => 200 - (intOf i).toNat)
  case atStart => exact ⟨0, (s.data.toList, 0), Nat.zero_le _, Nat.zero_le _, rfl, i1.below ((Below.refl _ _).alloc (Nat.le_refl _) _) (by omega), i2, hw1'.alloc (by omega) _⟩
  case round =>
    clear i1 i2 hw1' z1
    obtain ⟨k, st, hk, hk2, rfl, hd, hf, hb⟩ := hrel
    have hLr := hL.below hb hp
    have hsr : w.heap.size + 1 < wr.heap.size := hf.lt
    by_cases hlt : k < n ∧ k < 200
    · obtain ⟨hlt1, hlt2⟩ := hlt
      obtain ⟨ad, x, y, z, rfl, hal, h1, h2, h3⟩ := (hr.below hb) k hlt1
      have hkI : (k : Int) < 200 := by omega
      have hdO : ∀ o : Obj, IsRd (wr.alloc o) w.heap.size st := fun o => hd.below ((Below.refl _ _).alloc (Nat.le_refl _) o) hd.lt
      have hfO : ∀ o : Obj, IsRf (wr.alloc o) (w.heap.size + 1) st := fun o => hf.below ((Below.refl _ _).alloc (Nat.le_refl _) o) hf.lt
      have hLO : ∀ o : Obj, Laid (wr.alloc o) := fun o => hLr.below ((Below.refl _ _).alloc (Nat.le_refl _) o) hLr.pos
      have hbo : ∀ o : Obj, Below w.heap.size w (wr.alloc o) := fun o => hb.alloc (by omega) o
      have hdO := Lib.hid hdO
      have hfO := Lib.hid hfO
      have hLO := Lib.hid hLO
      have hbo := Lib.hid hbo
      clear hd hf hLr hal
      by_cases hx0 : x = 0
      · subst hx0
        obtain ⟨⟨⟨v, e1⟩, st2⟩, hsp⟩ : ∃ r, rdNum z st = r := ⟨_, rfl⟩
        have c1 := Lib.hid (fun W h1 h2 => hsp ▸ rd_any w.heap.size st z W h1 h2)
        have c2 := Lib.hid (fun W h1 => hsp ▸ rf_any (w.heap.size + 1) st z W h1)
        clear hsp
        go_wp2_with fail
        refine (c1.out _ (hdO.out _) (hLO.out _)).mono ?_
        rintro e w2 ⟨rfl, hdA, g2⟩
        have hboxA : Blk w2 wr.heap.size 44 #[.int .i64 0, .int .i64 y, .int .i64 z] := (Blk.new wr _ _).grown g2 (by simp; omega)
        have b1 : w2.cell? ⟨wr.heap.size, 1, none⟩ = some (.int .i64 y) := hboxA.cell 1
        have b2 : w2.cell? ⟨wr.heap.size, 2, none⟩ = some (.int .i64 z) := hboxA.cell 2
        have hfA := (hfO.out _).grown g2 (by simp)
        have hA := (hbo.out _).trans (Only.toBelow g2 (Nat.le_refl _) (by simp; omega))
        clear hboxA
        go_wp2_with fail
        refine (c2.out _ hfA).mono ?_
        rintro e w3 ⟨rfl, hfZ, g3⟩
        have hdZ := hdA.grown g3 (by simp)
        have hZ := hA.trans (Only.toBelow g3 (by omega) hA.size)
        go_wp2_with fail
        refine (end_any _ _ _ hdZ (hL.below hZ hp)).mono ?_
        rintro e w7 ⟨rfl, hd7, hb7⟩
        have h7 := hZ.trans (hb7.mono hZ.size)
        have hf7 := hfZ.below hb7 hfZ.lt
        go_wp2_with fail
        refine (rend_any _ _ _ hf7).mono ?_
        rintro e w8 ⟨rfl, hf8, hb8⟩
        have h8 := h7.trans (hb8.mono h7.size)
        have hd8 := hd7.below hb8 hd7.lt
        go_wp2_with fail
        go_roundw
        case rel => exact ⟨k + 1, _, by omega, by omega, by go_num, hd8, hf8, h8⟩
        case measure => simp [intOf]; omega
      · by_cases hx1 : x = 1
        · subst hx1
          obtain ⟨⟨⟨v, e1⟩, st2⟩, hsp⟩ : ∃ r, rdText z st = r := ⟨_, rfl⟩
          have c1 := Lib.hid (fun W h1 h2 => hsp ▸ text_any w.heap.size st z W h1 h2)
          have c2 := Lib.hid (fun W h1 => hsp ▸ rtext_any (w.heap.size + 1) st z W h1)
          clear hsp
          go_wp2_with fail
          refine (c1.out _ (hdO.out _) (hLO.out _)).mono ?_
          rintro e w2 ⟨rfl, hdA, g2⟩
          have hboxA : Blk w2 wr.heap.size 44 #[.int .i64 1, .int .i64 y, .int .i64 z] := (Blk.new wr _ _).grown g2 (by simp; omega)
          have b1 : w2.cell? ⟨wr.heap.size, 1, none⟩ = some (.int .i64 y) := hboxA.cell 1
          have b2 : w2.cell? ⟨wr.heap.size, 2, none⟩ = some (.int .i64 z) := hboxA.cell 2
          have hfA := (hfO.out _).grown g2 (by simp)
          have hA := (hbo.out _).trans (Only.toBelow g2 (Nat.le_refl _) (by simp; omega))
          clear hboxA
          go_wp2_with fail
          refine (c2.out _ hfA).mono ?_
          rintro e w3 ⟨rfl, hfZ, g3⟩
          have hdZ := hdA.grown g3 (by simp)
          have hZ := hA.trans (Only.toBelow g3 (by omega) hA.size)
          go_wp2_with fail
          refine (end_any _ _ _ hdZ (hL.below hZ hp)).mono ?_
          rintro e w7 ⟨rfl, hd7, hb7⟩
          have h7 := hZ.trans (hb7.mono hZ.size)
          have hf7 := hfZ.below hb7 hfZ.lt
          go_wp2_with fail
          refine (rend_any _ _ _ hf7).mono ?_
          rintro e w8 ⟨rfl, hf8, hb8⟩
          have h8 := h7.trans (hb8.mono h7.size)
          have hd8 := hd7.below hb8 hd7.lt
          go_wp2_with fail
          go_roundw
          case rel => exact ⟨k + 1, _, by omega, by omega, by go_num, hd8, hf8, h8⟩
          case measure => simp [intOf]; omega
        · by_cases hx2 : x = 2
          · subst hx2
            have hlen := rdNums_len y z st
            obtain ⟨⟨⟨v, e1⟩, st2⟩, hsp⟩ : ∃ r, rdNums y z st = r := ⟨_, rfl⟩
            have c1 := Lib.hid (fun W h1 h2 => hsp ▸ nums_rd w.heap.size st y z W h1 h2 (by omega))
            have c2 := Lib.hid (fun W h1 => hsp ▸ nums_rf (w.heap.size + 1) st y z W h1)
            rw [hsp] at hlen
            simp only at hlen
            clear hsp
            go_wp2_with fail
            refine (c1.out _ (hdO.out _) (hLO.out _)).mono ?_
            rintro e w2 ⟨A1, n1, k1, rfl, hrow1, hne1, hdA, g2⟩
            have hboxA : Blk w2 wr.heap.size 44 #[.int .i64 2, .int .i64 y, .int .i64 z] := (Blk.new wr _ _).grown g2 (by simp; omega)
            have b1 : w2.cell? ⟨wr.heap.size, 1, none⟩ = some (.int .i64 y) := hboxA.cell 1
            have b2 : w2.cell? ⟨wr.heap.size, 2, none⟩ = some (.int .i64 z) := hboxA.cell 2
            have hfA := (hfO.out _).grown g2 (by simp)
            have hA := (hbo.out _).trans (Only.toBelow g2 (Nat.le_refl _) (by simp; omega))
            clear hboxA
            go_wp2_with fail
            refine (c2.out _ hfA).mono ?_
            rintro e w3 ⟨A2, n2, k2, rfl, hrow2, hne2, hfZ, g3⟩
            have hdZ := hdA.grown g3 (by simp)
            have hrow1 := hrow1.grown g3 (fun ad' ha h => by have := hne1 ad' ha; simp at this h; omega)
            have hZ := hA.trans (Only.toBelow g3 (by omega) hA.size)
            have hn1 : n1 ≤ 9223372036854775807 := by have h1 := hrow1.1; rw [List.length_map] at h1; omega
            clear hne1 hne2
            go_wp2_with fail
            refine (same_any _ _ _ _ _ _ _ _ _ hrow1 hrow2 hn1).mono ?_
            unfold SamePost
            rw [decide_eq_true rfl]
            rintro e w6 ⟨rfl, q, rfl⟩
            have hdZ : IsRd (w3.drewN q) w.heap.size st2 := hdZ.below (below_drewN (Below.refl _ _) q) hdZ.lt
            have hfZ : IsRf (w3.drewN q) (w.heap.size + 1) st2 := hfZ.below (below_drewN (Below.refl _ _) q) hfZ.lt
            have hZ : Below w.heap.size w (w3.drewN q) := below_drewN hZ q
            go_wp2_with fail
            refine (end_any _ _ _ hdZ (hL.below hZ hp)).mono ?_
            rintro e w7 ⟨rfl, hd7, hb7⟩
            have h7 := hZ.trans (hb7.mono hZ.size)
            have hf7 := hfZ.below hb7 hfZ.lt
            go_wp2_with fail
            refine (rend_any _ _ _ hf7).mono ?_
            rintro e w8 ⟨rfl, hf8, hb8⟩
            have h8 := h7.trans (hb8.mono h7.size)
            have hd8 := hd7.below hb8 hd7.lt
            go_wp2_with fail
            go_roundw
            case rel => exact ⟨k + 1, _, by omega, by omega, by go_num, hd8, hf8, h8⟩
            case measure => simp [intOf]; omega
          · have e0 : (x == 0) = false := beq_eq_false_iff_ne.2 hx0
            have e1 : (x == 1) = false := beq_eq_false_iff_ne.2 hx1
            have e2 : (x == 2) = false := beq_eq_false_iff_ne.2 hx2
            clear hx0 hx1 hx2
            have hdZ := hdO.out (.cells #[.int .i64 x, .int .i64 y, .int .i64 z] 44)
            have hfZ := hfO.out (.cells #[.int .i64 x, .int .i64 y, .int .i64 z] 44)
            have hZ := hbo.out (.cells #[.int .i64 x, .int .i64 y, .int .i64 z] 44)
            go_wp2_with fail
            refine (end_any _ _ _ hdZ (hL.below hZ hp)).mono ?_
            rintro e w7 ⟨rfl, hd7, hb7⟩
            have h7 := hZ.trans (hb7.mono hZ.size)
            have hf7 := hfZ.below hb7 hfZ.lt
            go_wp2_with fail
            refine (rend_any _ _ _ hf7).mono ?_
            rintro e w8 ⟨rfl, hf8, hb8⟩
            have h8 := h7.trans (hb8.mono h7.size)
            have hd8 := hd7.below hb8 hd7.lt
            go_wp2_with fail
            go_roundw
            case rel => exact ⟨k + 1, _, by omega, by omega, by go_num, hd8, hf8, h8⟩
            case measure => simp [intOf]; omega
    · have hex : (k = n) ∨ ((k : Int) < (n : Int) ∧ ¬ (k : Int) < 200) := by omega
      rcases hex with rfl | ⟨hex1, hex2⟩
      all_goals
        go_wp2_with fail
        refine (fixed_any _ hLr).mono ?_
        rintro e w2 ⟨rfl, hb2⟩
        go_wp2_with fail
        go_ret
        exact ⟨rfl, hb.trans (hb2.mono hb.size)⟩
end Go.Proofs.YtkhnohiokclcfaaDoor.Wire

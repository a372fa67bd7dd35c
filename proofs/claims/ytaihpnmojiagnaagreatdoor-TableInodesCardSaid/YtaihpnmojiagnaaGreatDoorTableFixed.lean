/- The calls whose answers the document fixes. -/
import Derived.Test.YtaihpnmojiagnaaGreatDoorTableWalkI
namespace Go.Proofs.YtaihpnmojiagnaaGreatDoor.Table
open Go.RowKit Mem Wire

def fe : Ent := ⟨⟨#[97]⟩, 2⟩
def fi : Ino := ⟨1, true, 2, 0, 0⟩
def fs : Snp := ⟨⟨#[115]⟩, 1, 8, 0, 0⟩
theorem l_fe : lays entK [fe] = some [1, 1, 97, 2] := by kernel_rfl
theorem l_fi : lays inoK [fi] = some [1, 1, 1, 2, 0, 0] := by kernel_rfl
theorem l_fs : lays snpK [fs] = none := by kernel_rfl
theorem p_f1 : parseS entK [2, 1, 98, 2, 1, 97, 2] = none := by kernel_rfl
theorem p_fe : parseS entK [1, 1, 97, 2] = some [fe] := parse_of good_ent l_fe
theorem p_fi : parseS inoK [1, 1, 1, 2, 0, 0] = some [fi] := parse_of good_ino l_fi
theorem row_new (w : World) (t : TypeId) (cs : List Value) : Row (w.alloc (.cells ⟨cs⟩ t)) (some ⟨w.heap.size, 0, none⟩) cs.length cs :=
  ⟨rfl, fun k u h => ⟨_, rfl, cells_new w cs t k u h⟩⟩
section
variable (W : World)
theorem x1 : Calls Tryz.prog 12 #[.slice (some ⟨W.heap.size, 0, none⟩) 1 1] (W.alloc (.cells #[.string ⟨#[97]⟩, .int .i64 2] 65)) fun e w' => e = .returned (.tuple #[.string ⟨#[1, 1, 97, 2]⟩, .int .i64 0]) ∧ Below (W.heap.size + 1) (W.alloc (.cells #[.string ⟨#[97]⟩, .int .i64 2] 65)) w' := by
  have k := entries_out (some ⟨W.heap.size, 0, none⟩) 1 1 [fe] (W.alloc (.cells #[.string ⟨#[97]⟩, .int .i64 2] 65)) (row_new W 65 (entC fe)) rfl (fun _ _ => trivial) (by decide)
  rw [l_fe, show (W.alloc (.cells #[.string ⟨#[97]⟩, .int .i64 2] 65)).heap.size = W.heap.size + 1 by simp] at k
  exact k
theorem x4 : Calls Tryz.prog 6 #[.slice (some ⟨W.heap.size, 0, none⟩) 1 1] (W.alloc (.cells #[.int .i64 1, .bool true, .int .i64 2, .int .i64 0, .int .i64 0] 32)) fun e w' => e = .returned (.tuple #[.string ⟨#[1, 1, 1, 2, 0, 0]⟩, .int .i64 0]) ∧ Below (W.heap.size + 1) (W.alloc (.cells #[.int .i64 1, .bool true, .int .i64 2, .int .i64 0, .int .i64 0] 32)) w' := by
  have k := inodes_out (some ⟨W.heap.size, 0, none⟩) 1 1 [fi] (W.alloc (.cells #[.int .i64 1, .bool true, .int .i64 2, .int .i64 0, .int .i64 0] 32)) (row_new W 32 (inoC fi)) rfl (fun _ _ => trivial) (by decide)
  rw [l_fi, show (W.alloc (.cells #[.int .i64 1, .bool true, .int .i64 2, .int .i64 0, .int .i64 0] 32)).heap.size = W.heap.size + 1 by simp] at k
  exact k
theorem x5 : Calls Tryz.prog 17 #[.slice (some ⟨W.heap.size, 0, none⟩) 1 1] (W.alloc (.cells #[.string ⟨#[115]⟩, .int .i64 1, .int .i64 8, .int .i64 0, .int .i64 0] 67)) fun e w' => e = .returned (.tuple #[.string ⟨#[]⟩, .int .i64 120]) ∧ Below (W.heap.size + 1) (W.alloc (.cells #[.string ⟨#[115]⟩, .int .i64 1, .int .i64 8, .int .i64 0, .int .i64 0] 67)) w' := by
  have k := snaps_out (some ⟨W.heap.size, 0, none⟩) 1 1 [fs] (W.alloc (.cells #[.string ⟨#[115]⟩, .int .i64 1, .int .i64 8, .int .i64 0, .int .i64 0] 67)) (row_new W 67 (snpC fs)) rfl (fun _ _ => trivial) (by decide)
  rw [l_fs, show (W.alloc (.cells #[.string ⟨#[115]⟩, .int .i64 1, .int .i64 8, .int .i64 0, .int .i64 0] 67)).heap.size = W.heap.size + 1 by simp] at k
  exact k
theorem x2 (hL : Laid W) : Calls Tryz.prog 14 #[.string ⟨#[2, 1, 98, 2, 1, 97, 2]⟩] W fun e w' => ∃ A n c, e = .returned (.tuple #[.slice A n c, .int .i64 120]) ∧ Below W.heap.size W w' := by
  have k := parseEntries_any ⟨#[2, 1, 98, 2, 1, 97, 2]⟩ W hL (by decide)
  rw [p_f1] at k
  exact k.mono fun e w' ⟨A, n, c, h1, _, _, h4⟩ => ⟨A, n, c, h1, h4⟩
theorem x3 (hL : Laid W) : Calls Tryz.prog 14 #[.string ⟨#[1, 1, 97, 2]⟩] W fun e w' => ∃ A c, e = .returned (.tuple #[.slice A 1 c, .int .i64 0]) ∧ Row w' A 2 (entC fe) ∧ Below W.heap.size W w' := by
  have k := parseEntries_any ⟨#[1, 1, 97, 2]⟩ W hL (by decide)
  rw [p_fe] at k
  refine k.mono fun e w' ⟨A, n, c, h1, h2, h3, h4⟩ => ?_
  obtain rfl : n = 1 := h3.symm
  exact ⟨A, c, h1, row_of_own h2, h4⟩
theorem x6 (hL : Laid W) : Calls Tryz.prog 9 #[.string ⟨#[1, 1, 1, 2, 0, 0]⟩] W fun e w' => ∃ g c, e = .returned (.tuple #[.slice (some ⟨g, 0, none⟩) 1 c, .int .i64 0]) ∧ w'.cell? ⟨g, 1, none⟩ = some (.bool true) ∧ g < w'.heap.size ∧ Below W.heap.size W w' := by
  have k := parseInodes_any ⟨#[1, 1, 1, 2, 0, 0]⟩ W hL (by decide)
  rw [p_fi] at k
  refine k.mono fun e w' ⟨A, n, c, h1, h2, h3, h4⟩ => ?_
  obtain rfl : n = 1 := h3.symm
  have hr := row_of_own h2
  rcases h2.2 with ⟨h5, h6⟩ | ⟨g, cap, cur, hv, _, hg, _⟩
  · cases h6
  · injection hv with hA hn hc
    subst hA
    obtain ⟨ad, ha, hc⟩ := hr.2 1 (.bool true) rfl
    injection ha with ha
    subst ha
    rw [add_lit] at hc
    exact ⟨g, c, h1, hc, (Array.getElem?_eq_some_iff.1 hg).1, h4⟩
theorem x7 (A : Option Addr) (c : Nat) (hr : Row W A 2 (entC fe)) : Calls Tryz.prog 16 #[.slice A 1 c, .slice (some ⟨W.heap.size, 0, none⟩) 1 1] (W.alloc (.cells #[.string ⟨#[97]⟩, .int .i64 2] 65)) fun e w' => e = .returned (.bool true) ∧ ∃ q, w' = (W.alloc (.cells #[.string ⟨#[97]⟩, .int .i64 2] 65)).drewN q := by
  have k := ent_same A (some ⟨W.heap.size, 0, none⟩) 1 1 c 1 [fe] [fe] (W.alloc (.cells #[.string ⟨#[97]⟩, .int .i64 2] 65)) (hr.below ((Below.refl _ _).alloc (Nat.le_refl _) _)) rfl (row_new W 65 (entC fe)) rfl (by decide)
  rw [decide_eq_true rfl] at k
  exact k
theorem x8 : Calls Tryz.prog 29 #[.string ⟨#[97, 46, 98]⟩] W fun e w' => e = .returned (.bool true) ∧ Below W.heap.size W w' := by
  have k := name_any ⟨#[97, 46, 98]⟩ W
  rw [show nameOk ⟨#[97, 46, 98]⟩ = true by kernel_rfl] at k
  exact k
theorem x9 : Calls Tryz.prog 29 #[.string ⟨#[65]⟩] W fun e w' => e = .returned (.bool false) ∧ Below W.heap.size W w' := by
  have k := name_any ⟨#[65]⟩ W
  rw [show nameOk ⟨#[65]⟩ = false by kernel_rfl] at k
  exact k
theorem x10 : Calls Tryz.prog 29 #[.string ⟨#[46, 46]⟩] W fun e w' => e = .returned (.bool false) ∧ Below W.heap.size W w' := by
  have k := name_any ⟨#[46, 46]⟩ W
  rw [show nameOk ⟨#[46, 46]⟩ = false by kernel_rfl] at k
  exact k
end

set_option maxRecDepth 100000 in
set_option maxHeartbeats 8000000 in
theorem fixed_any (w : World) (hL : Laid w) : Calls Tryz.prog 11 #[] w fun e w' => e = .returned (.bool true) ∧ Below w.heap.size w w' := by
  have hp := hL.pos
  go_enter Tryz.func11, Tryz.ntmps11
  go_wp2_with fail
  refine (x1 w).mono ?_
  rintro e w1 ⟨rfl, b1⟩
  have hb : Below w.heap.size w w1 := ((Below.refl _ _).alloc (Nat.le_refl _) _).trans (b1.mono (by omega))
  clear b1
  have hL1 := hL.below hb hp
  have hs := hb.size
  replace hb := Lib.hid hb
  go_wp2_with fail
  refine (x2 w1 hL1).mono ?_
  rintro e w2 ⟨A2, n2, c2, rfl, b2⟩
  replace hb := Lib.hid (hb.out.trans (b2.mono hs))
  clear b2
  replace hL1 := hL.below hb.out hp
  replace hs := hb.out.size
  go_wp2_with fail
  refine (x3 w2 hL1).mono ?_
  rintro e w3 ⟨A3, c3, rfl, hr3, b3⟩
  replace hb := Lib.hid (hb.out.trans (b3.mono hs))
  clear b3
  replace hL1 := hL.below hb.out hp
  replace hs := hb.out.size
  replace hr3 := Lib.hid hr3
  go_wp2_with fail
  refine (x4 w3).mono ?_
  rintro e w4 ⟨rfl, b4⟩
  replace hr3 := Lib.hid ((hr3.out.below ((Below.refl _ _).alloc (Nat.le_refl _) _)).below (by rw [World.size_alloc]; exact b4))
  replace hb := Lib.hid ((hb.out.alloc hs _).trans (b4.mono (by omega)))
  clear b4
  replace hL1 := hL.below hb.out hp
  replace hs := hb.out.size
  go_wp2_with fail
  refine (x5 w4).mono ?_
  rintro e w5 ⟨rfl, b5⟩
  replace hr3 := Lib.hid ((hr3.out.below ((Below.refl _ _).alloc (Nat.le_refl _) _)).below (by rw [World.size_alloc]; exact b5))
  replace hb := Lib.hid ((hb.out.alloc hs _).trans (b5.mono (by omega)))
  clear b5
  replace hL1 := hL.below hb.out hp
  replace hs := hb.out.size
  go_wp2_with fail
  refine (x6 w5 hL1).mono ?_
  rintro e w6 ⟨g, c6, rfl, hc6, hg6, b6⟩
  replace hr3 := Lib.hid (hr3.out.below b6)
  replace hb := Lib.hid (hb.out.trans (b6.mono hs))
  clear b6 hL1
  replace hs := hb.out.size
  have k7 := Lib.hid (x7 w6 A3 c3 hr3.out)
  have hg7 := Lib.hid ((World.cell?_alloc_lt w6 (.cells #[.string ⟨#[97]⟩, .int .i64 2] 65) ⟨g, 1, none⟩ hg6).trans hc6)
  clear hc6
  go_wp2_with fail
  refine k7.out.mono ?_
  rintro e w7 ⟨rfl, q, rfl⟩
  have hc7 : (((w6.alloc (.cells #[.string ⟨#[97]⟩, .int .i64 2] 65)).drewN q)).cell? ⟨g, 1, none⟩ = some (.bool true) := hg7.out
  replace hb := Lib.hid (below_drewN (hb.out.alloc hs (.cells #[.string ⟨#[97]⟩, .int .i64 2] 65)) q)
  generalize ((w6.alloc (.cells #[.string ⟨#[97]⟩, .int .i64 2] 65)).drewN q) = w8 at hc7 hb ⊢
  replace hs := hb.out.size
  go_wp2_with fail
  refine (x8 w8).mono ?_
  rintro e w9 ⟨rfl, b9⟩
  replace hb := Lib.hid (hb.out.trans (b9.mono hs))
  clear b9 hc7
  replace hs := hb.out.size
  go_wp2_with fail
  refine (x9 w9).mono ?_
  rintro e w10 ⟨rfl, b10⟩
  replace hb := Lib.hid (hb.out.trans (b10.mono hs))
  clear b10
  replace hs := hb.out.size
  go_wp2_with fail
  refine (x10 w10).mono ?_
  rintro e w11 ⟨rfl, b11⟩
  replace hb := Lib.hid (hb.out.trans (b11.mono hs))
  clear b11
  go_wp2_with fail
  go_ret
  exact ⟨rfl, hb.out⟩
end Go.Proofs.YtaihpnmojiagnaaGreatDoor.Table

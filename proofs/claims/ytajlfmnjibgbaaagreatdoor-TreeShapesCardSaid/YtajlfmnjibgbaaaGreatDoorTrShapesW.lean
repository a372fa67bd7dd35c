/- The walk of the law TreeShapes. -/
import Derived.Test.YtajlfmnjibgbaaaGreatDoorTrFixed
import Derived.Test.YtajlfmnjibgbaaaGreatDoorTrDocA
namespace Go.Proofs.YtajlfmnjibgbaaaGreatDoor.Tr
open Go Go.RowKit Go.Maps Mem Disk Nv Vl
set_option maxRecDepth 100000 in
set_option maxHeartbeats 4000000 in
theorem treeshapes_any (size : Int) (w : World) : Calls Tryz.prog 5 #[.int .i64 size] w fun e w' => e = .returned (.bool true) ∧ Below w.heap.size w w' := by
  have kf := Lib.hid (fun W => treefix_any W)
  obtain ⟨x, y, k1, k2⟩ : ∃ x y : Int, (∀ W, Calls Tryz.prog 17 #[.int .i64 size] W fun e w' => e = .returned (.tuple #[.int .i64 x, .int .i64 y]) ∧ Below W.heap.size W w') ∧
      ∀ W, Calls Tryz.prog 18 #[.int .i64 size] W fun e w' => e = .returned (.tuple #[.int .i64 x, .int .i64 y]) ∧ Below W.heap.size W w' := by
    by_cases h : 0 ≤ size ∧ size ≤ 16384
    · obtain ⟨n, rfl⟩ := Int.eq_ofNat_of_zero_le h.1
      exact ⟨_, _, fun W => shape_ok n W (by omega), fun W => rshape_ok n W (by omega)⟩
    · exact ⟨0, 111, fun W => (shape_bad size W h).mono (by rintro e w' ⟨rfl, rfl⟩; exact ⟨rfl, Below.refl _ _⟩), fun W => (rshape_bad size W h).mono (by rintro e w' ⟨rfl, rfl⟩; exact ⟨rfl, Below.refl _ _⟩)⟩
  replace k1 := Lib.hid k1
  replace k2 := Lib.hid k2
  have hb := Below.refl w.heap.size w
  have hs := hb.size
  go_enter Tryz.func5, Tryz.ntmps5
  go_wp2_with fail
  refine (k1.out _).mono ?_
  rintro en w' ⟨rfl, b'⟩
  replace hb := hb.trans (b'.mono hs)
  clear b'
  replace hs := hb.size
  go_wp2_with fail
  refine (k2.out _).mono ?_
  rintro en w' ⟨rfl, b'⟩
  replace hb := hb.trans (b'.mono hs)
  clear b'
  replace hs := hb.size
  go_wp2_with fail
  refine (kf.out _).mono ?_
  rintro en w' ⟨rfl, b'⟩
  replace hb := hb.trans (b'.mono hs)
  clear b'
  replace hs := hb.size
  go_wp2_with fail
  go_ret
  exact ⟨rfl, hb⟩
end Go.Proofs.YtajlfmnjibgbaaaGreatDoor.Tr

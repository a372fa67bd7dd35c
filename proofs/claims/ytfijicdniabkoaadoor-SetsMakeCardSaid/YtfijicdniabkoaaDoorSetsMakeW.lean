/- The walk of the law SetsMake. -/
import Derived.Test.YtfijicdniabkoaaDoorSetLawsB
namespace Go.Proofs.YtfijicdniabkoaaDoor.Sets
open Go.RowKit Mem

set_option maxRecDepth 100000 in
set_option maxHeartbeats 1000000 in
theorem lawmake_any (a b : ByteArray) (w : World) (ha : a.size ≤ 140737488355328) (hb : b.size ≤ 140737488355328) :
    Calls Tryd.prog 5 #[.string a, .string b] w fun e w' => e = .returned (.bool true) ∧ Below w.heap.size w w' := by
  have hx := cut_le 3000 a
  have hy := cut_le 3000 b
  have k0 := Lib.hid (fun W => short_any a W ha)
  have k1 := Lib.hid (fun W => short_any b W hb)
  clear ha hb
  have hb := Below.refl w.heap.size w
  have hs := hb.size
  generalize cut 3000 a = x at hx k0
  generalize cut 3000 b = y at hy k1
  go_enter Tryd.func5, Tryd.ntmps5
  go_wp2_with fail
  refine (k0.out _).mono ?_
  rintro en w' ⟨rfl, rfl⟩
  go_wp2_with fail
  refine (k1.out _).mono ?_
  rintro en w' ⟨rfl, rfl⟩
  go_wp2_with fail
  refine (fixed_any _).mono ?_
  rintro en w' ⟨rfl, b'⟩
  replace hb := hb.trans (b'.mono hs)
  clear b'
  replace hs := hb.size
  go_wp2_with fail
  refine (and_b x y _ (by omega) (by omega)).mono ?_
  rintro en w' ⟨rfl, b'⟩
  replace hb := hb.trans (b'.mono hs)
  clear b'
  replace hs := hb.size
  go_wp2_with fail
  refine (make0_b x y _ (by omega) (by omega)).mono ?_
  rintro en w' ⟨rfl, b'⟩
  replace hb := hb.trans (b'.mono hs)
  clear b'
  replace hs := hb.size
  go_wp2_with fail
  refine (or_b x y _ (by omega) (by omega)).mono ?_
  rintro en w' ⟨rfl, b'⟩
  replace hb := hb.trans (b'.mono hs)
  clear b'
  replace hs := hb.size
  go_wp2_with fail
  refine (make1_b x y _ (by omega) (by omega)).mono ?_
  rintro en w' ⟨rfl, b'⟩
  replace hb := hb.trans (b'.mono hs)
  clear b'
  replace hs := hb.size
  go_wp2_with fail
  refine (minus_b x y _ (by omega) (by omega)).mono ?_
  rintro en w' ⟨rfl, b'⟩
  replace hb := hb.trans (b'.mono hs)
  clear b'
  replace hs := hb.size
  go_wp2_with fail
  refine (make2_b x y _ (by omega) (by omega)).mono ?_
  rintro en w' ⟨rfl, b'⟩
  replace hb := hb.trans (b'.mono hs)
  clear b'
  replace hs := hb.size
  go_wp2_with fail
  go_ret
  exact ⟨rfl, hb⟩
end Go.Proofs.YtfijicdniabkoaaDoor.Sets

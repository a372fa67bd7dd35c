/- The walk of the law SetsOf. -/
import Derived.Test.YtfijicdniabkoaaDoorSetLaws
namespace Go.Proofs.YtfijicdniabkoaaDoor.Sets
open Go.RowKit Mem

set_option maxRecDepth 100000 in
set_option maxHeartbeats 1000000 in
theorem lawof_any (A : Option Addr) (n c : Nat) (l : List Int) (w : World) (hr : Row w A n (l.map (Value.int .i64))) (hn : n ≤ maxLen) :
    Calls Tryd.prog 3 #[.slice A n c] w fun e w' => e = .returned (.bool true) ∧ Below w.heap.size w w' := by
  unfold maxLen at hn
  obtain ⟨⟨T, E⟩, hT⟩ : ∃ z : ByteArray × Int, z = (⟨(ofOut l).1.toArray⟩, (ofOut l).2) := ⟨_, rfl⟩
  have k1 := fun W hr => of_out A n c l W hr (by omega)
  have k2 := fun W hr => rof_out A n c l W hr (by omega)
  rw [show (⟨(ofOut l).1.toArray⟩ : ByteArray) = T from (congrArg Prod.fst hT).symm, show (ofOut l).2 = E from (congrArg Prod.snd hT).symm] at k1 k2
  have c1 := Lib.hid (k1 w hr)
  replace k2 := Lib.hid k2
  replace hr := Lib.hid hr
  replace hT := Lib.hid hT
  clear k1
  go_enter Tryd.func3, Tryd.ntmps3
  go_wp2_with fail
  refine c1.out.mono ?_
  rintro en w1 ⟨rfl, hb1⟩
  go_wp2_with fail
  refine (k2.out _ (hr.out.below hb1)).mono ?_
  rintro en w2 ⟨rfl, b2⟩
  replace hb1 := hb1.trans (b2.mono hb1.size)
  clear b2
  have hs1 := hb1.size
  go_wp2_with fail
  refine (fixed_any _).mono ?_
  rintro en w3 ⟨rfl, b3⟩
  replace hb1 := hb1.trans (b3.mono hs1)
  go_wp2_with fail
  go_ret
  exact ⟨rfl, hb1⟩
end Go.Proofs.YtfijicdniabkoaaDoor.Sets

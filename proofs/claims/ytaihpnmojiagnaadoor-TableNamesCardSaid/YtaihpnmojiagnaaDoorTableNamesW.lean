/- TableNames: whether a text may be a name is as the document says. (Printed by gentlaws.py.) -/
import Derived.Test.YtaihpnmojiagnaaDoorTableLaws
namespace Go.Proofs.YtaihpnmojiagnaaDoor.Table
open Go.RowKit Mem Wire

set_option maxRecDepth 100000 in
set_option maxHeartbeats 4000000 in
theorem names_any (s : ByteArray) (w : World) (hL : Laid w) (hs : s.size ≤ 140737488355328) :
    Calls Tryd.prog 3 #[.string s] w fun e w' => e = .returned (.bool true) ∧ Below w.heap.size w w' := by
  have k1 := Lib.hid (fun W => name_any s W hs)
  have k2 := Lib.hid (fun W => rname_any s W hs)
  generalize nameOk s = r at k1 k2
  go_enter Tryd.func3, Tryd.ntmps3
  go_wp2_with fail
  refine (fixed_any w hL).mono ?_
  rintro e w1 ⟨rfl, b1⟩
  have hz := b1.size
  go_wp2_with fail
  refine (k1.out w1).mono ?_
  rintro e w2 ⟨rfl, b2⟩
  have hb := b1.trans (b2.mono hz)
  clear b1 b2
  go_wp2_with fail
  refine (k2.out w2).mono ?_
  rintro e w3 ⟨rfl, hw⟩
  subst hw
  cases r
  all_goals go_wp2_with fail
  all_goals go_ret
  all_goals exact ⟨rfl, hb⟩
end Go.Proofs.YtaihpnmojiagnaaDoor.Table

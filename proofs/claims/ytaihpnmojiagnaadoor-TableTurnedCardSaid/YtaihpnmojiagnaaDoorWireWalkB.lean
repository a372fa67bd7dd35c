/- The contracts of the document's digits, Num and Text (stillageref03): they return the bytes that the plain functions have; memory that was there stays. -/
import Derived.Test.YtaihpnmojiagnaaDoorWireWalkA
import Derived.Deep.RegionHeld3
import Derived.Deep.DrawnRows
namespace Go.Proofs.YtaihpnmojiagnaaDoor.Wire
open Go.RowKit
attribute [local go_sem ↓] Go.wp_at_zero Go.wp_at_succ

/-- string(..) of one byte that lies in a block of its own -/
theorem conv_one (W : World) (g : Nat) (x : Int) (h0 : 0 ≤ x) (h1 : x < 256) (hc : W.cell? ⟨g, 0, none⟩ = some (.int .u8 x)) :
    (convert 87 9 (.slice (some ⟨g, 0, none⟩) 1 1)).run Tryd.prog W = .ok (.string ⟨[UInt8.ofNat x.toNat].toArray⟩) W := by
  refine run_convert_bytes_back W 87 9 5 ⟨g, 0, none⟩ 1 [UInt8.ofNat x.toNat] Tryd.underlying87 Tryd.underlying5 Tryd.underlying9 ?_
  intro j hj
  simp only [List.length_cons, List.length_nil] at hj
  have : j = 0 := by omega
  subst this
  have e : (⟨g, 0, none⟩ : Addr).add 0 = ⟨g, 0, none⟩ := rfl
  rw [e, hc]
  simp only [List.getElem_cons_zero, UInt8.toNat_ofNat']
  congr 2
  omega

theorem cell1_kept {w w1 : World} {v : Value} {t : TypeId} (hb : Below (w.alloc (.cells #[v] t)).drew.heap.size (w.alloc (.cells #[v] t)).drew w1) : w1.cell? ⟨w.heap.size, 0, none⟩ = some v := by
  rw [hb.cell (p := ⟨w.heap.size, 0, none⟩) (by simp)]
  simp

set_option maxRecDepth 100000 in
theorem text_long (s : ByteArray) (w : World) (hs : 65536 < s.size) :
    Calls Tryd.prog 39 #[.string s] w fun e w' => e = .returned (.tuple #[.string ⟨#[]⟩, .int .i64 31]) ∧ w = w' := by
  go_enter Tryd.func39, Tryd.ntmps39
  go_wp2
  go_ret2
  exact ⟨rfl, rfl⟩
set_option maxRecDepth 100000 in
theorem text_ok (s : ByteArray) (w : World) (hs : s.size ≤ 65536) :
    Calls Tryd.prog 39 #[.string s] w fun e w' => e = .returned (.tuple #[.string (⟨(digits s.size).toArray⟩ ++ s), .int .i64 0]) ∧ Below w.heap.size w w' := by
  have hl : (digits s.size).length ≤ 9 := digits_length9 _ (by omega)
  go_enter Tryd.func39, Tryd.ntmps39
  go_wp2_with fail
  refine (put_str s.size _ (by omega)).mono ?_
  rintro e w1 ⟨g, cap, rfl, _, hcv, hb⟩
  go_wp2
  go_ret2
  exact ⟨rfl, hb⟩
end Go.Proofs.YtaihpnmojiagnaaDoor.Wire

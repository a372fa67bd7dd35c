/- Alloc: Take, and what a pool tells. -/
import Derived.Test.YthclfljmnljhdaaDoorAllocWalkA
import Derived.Test.YthclfljmnljhdaaDoorAllocSpecB
import Derived.Deep.RegionHeld3
import Derived.Deep.DeepCutAuto
namespace Go.Proofs.YthclfljmnljhdaaDoor.Alloc
open Go.RowKit Mem Sets

section
variable (U T : ByteArray) (B N L g : Nat) (w : World)
set_option maxRecDepth 100000 in
set_option maxHeartbeats 1000000 in
theorem left_any (h : Pool w g U T B N L) : Calls Tryd.prog 15 #[.pointer (some ⟨g, 0, none⟩)] w fun e w' => e = .returned (.int .i64 (L : Int)) ∧ w' = w := by
  have m := h.cell 4
  clear h
  go_enter Tryd.func15, Tryd.ntmps15
  go_wp2_with fail
  go_ret
  exact ⟨rfl, rfl⟩
set_option maxRecDepth 100000 in
set_option maxHeartbeats 1000000 in
theorem taken_any (h : Pool w g U T B N L) : Calls Tryd.prog 16 #[.pointer (some ⟨g, 0, none⟩)] w fun e w' => e = .returned (.string T) ∧ w' = w := by
  have m := h.cell 1
  clear h
  go_enter Tryd.func16, Tryd.ntmps16
  go_wp2_with fail
  go_ret
  exact ⟨rfl, rfl⟩
set_option maxRecDepth 100000 in
set_option maxHeartbeats 1000000 in
theorem nexts_any (h : Pool w g U T B N L) : Calls Tryd.prog 17 #[.pointer (some ⟨g, 0, none⟩)] w fun e w' => e = .returned (.int .i64 (N : Int)) ∧ w' = w := by
  have m := h.cell 3
  clear h
  go_enter Tryd.func17, Tryd.ntmps17
  go_wp2_with fail
  go_ret
  exact ⟨rfl, rfl⟩

set_option maxRecDepth 100000 in
set_option maxHeartbeats 1000000 in
theorem seek_hit (b a e r : Nat) (h : Pool w g U T B N L) (hbox : w.cell? ⟨b, 0, none⟩ = some (.pointer (some ⟨g, 0, none⟩))) (he : e ≤ 4096) (hs : seek (fun m => !hasB U m) (e - a) a = some r) :
    Calls Tryd.prog 29 #[.int .i64 (a : Int), .int .i64 (e : Int), .pointer (some ⟨b, 0, none⟩)] w fun en w' => en = .returned (.bool true) ∧ w' = w.setCell ⟨g, 3, none⟩ (.int .i64 ((r : Int) + 1)) := by
  have k := Lib.hid (fun W => gap_some (r := r) (e := e) U a W (by omega) hs)
  have hr := (seek_some hs).2.1
  have hr2 := (seek_some hs).1
  have m0 := h.cell 0
  have m3 := h.cell 3
  have f3 := h.free 3
  clear h hs
  go_enter Tryd.func29, Tryd.ntmps29
  go_wp2_with fail
  refine (k.out _).mono ?_
  rintro en w' ⟨rfl, hw'⟩
  replace hw' := hw'.symm
  subst hw'
  go_wp2_with fail
  go_ret
  exact ⟨rfl, rfl⟩
set_option maxRecDepth 100000 in
set_option maxHeartbeats 1000000 in
theorem seek_miss (b a e : Nat) (h : Pool w g U T B N L) (hbox : w.cell? ⟨b, 0, none⟩ = some (.pointer (some ⟨g, 0, none⟩))) (he : e ≤ 4096) (hs : seek (fun m => !hasB U m) (e - a) a = none) :
    Calls Tryd.prog 29 #[.int .i64 (a : Int), .int .i64 (e : Int), .pointer (some ⟨b, 0, none⟩)] w fun en w' => en = .returned (.bool false) ∧ w' = w := by
  have k := Lib.hid (fun W => gap_none (e := e) U a W (by omega) hs)
  have m0 := h.cell 0
  clear h hs
  go_enter Tryd.func29, Tryd.ntmps29
  go_wp2_with fail
  refine (k.out _).mono ?_
  rintro en w' ⟨rfl, hw'⟩
  replace hw' := hw'.symm
  subst hw'
  go_wp2_with fail
  go_ret
  exact ⟨rfl, rfl⟩
set_option maxRecDepth 100000 in
set_option maxHeartbeats 1000000 in
theorem take_full (h : Pool w g U T B N 0) : Calls Tryd.prog 18 #[.pointer (some ⟨g, 0, none⟩)] w fun e w' => e = .returned (.tuple #[.int .i64 0, .int .i64 101]) ∧ w' = w.alloc (.cells #[.pointer (some ⟨g, 0, none⟩)] 31) := by
  have h1 := h.alloc (.cells #[.pointer (some ⟨g, 0, none⟩)] 31)
  have m4 := h1.cell 4
  have mb := (Boxed.new w 31 (.pointer (some ⟨g, 0, none⟩))).cell
  clear h h1
  go_enter Tryd.func18, Tryd.ntmps18
  go_wp2_with fail
  go_ret2
  exact ⟨rfl, rfl⟩
end
end Go.Proofs.YthclfljmnljhdaaDoor.Alloc

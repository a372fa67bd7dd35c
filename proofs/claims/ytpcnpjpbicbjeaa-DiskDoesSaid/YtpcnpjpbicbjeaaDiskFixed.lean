/- The laws' fixed. -/
import Derived.Test.YtpcnpjpbicbjeaaDiskHand
namespace Go.Proofs.Ytpcnpjpbicbjeaa.Disk
open Go Go.RowKit Go.Maps Mem

def xS : ByteArray := secB 120 64
def yS : ByteArray := secB 121 64
def f1 : Dk := (writeD (newD 2) 1 xS).1
def f2 : Dk := (writeD f1 0 yS).1
def f3 : Dk := (crashD f2 ⟨#[1]⟩).1
def f4 : Dk := reviveD f3
def f5 : Dk := (badD f4 1 true).1
theorem fa1 : (writeD (newD 2) 1 xS).2 = 0 := by kernel_rfl
theorem fa2 : (writeD f1 0 yS).2 = 0 := by kernel_rfl
theorem fa3 : readD f2 1 = (xS, 0) := by kernel_rfl
theorem fa4 : (⟨(imageD f2).toArray⟩ : ByteArray) = secB 0 128 := by kernel_rfl
theorem fa5 : (crashD f2 ⟨#[1]⟩).2 = 0 := by kernel_rfl
theorem fa6 : readD f3 0 = (⟨#[]⟩, 2) := by kernel_rfl
theorem fa7 : (⟨(imageD f4).toArray⟩ : ByteArray) = secB 0 64 ++ xS := by kernel_rfl
theorem fa8 : (badD f4 1 true).2 = 0 := by kernel_rfl
theorem fa9 : readD f5 1 = (⟨#[]⟩, 3) := by kernel_rfl
theorem fa10 : f5.steps = 2 := by kernel_rfl
theorem fa11 : writeD f5 0 ⟨#[]⟩ = (f5, 1) := by kernel_rfl
theorem sec_lit (c : UInt8) (more : Int) (N : Nat) (h : secL more = N) (w : World) : Calls Try.prog 10 #[.int .u8 (c.toNat : Int), .int .i64 more] w fun e w' => e = .returned (.string (secB c N)) ∧ Below w.heap.size w w' := by
  rw [← h]
  exact sector_any c more w
theorem sec_x (w : World) : Calls Try.prog 10 #[.int .u8 120, .int .i64 0] w fun e w' => e = .returned (.string xS) ∧ Below w.heap.size w w' := sec_lit 120 0 64 (by decide) w
theorem sec_y (w : World) : Calls Try.prog 10 #[.int .u8 121, .int .i64 0] w fun e w' => e = .returned (.string yS) ∧ Below w.heap.size w w' := sec_lit 121 0 64 (by decide) w
theorem sec_0 (w : World) : Calls Try.prog 10 #[.int .u8 0, .int .i64 0] w fun e w' => e = .returned (.string (secB 0 64)) ∧ Below w.heap.size w w' := sec_lit 0 0 64 (by decide) w
theorem sec_01 (w : World) : Calls Try.prog 10 #[.int .u8 0, .int .i64 64] w fun e w' => e = .returned (.string (secB 0 128)) ∧ Below w.heap.size w w' := sec_lit 0 64 128 (by decide) w
section
variable {X : Nat → Prop} {m : Nat} {w : World} {b : Nat}
theorem fx1 (h : Hd X m w b (newD 2)) (hm : m ≤ 4611686018427387904) : Calls Try.prog 12 #[.pointer (some ⟨b, 0, none⟩), .int .i64 1, .string xS] w fun e w' => e = .returned (.int .i64 0) ∧ Hd X (m + 1) w' b f1 ∧ KeepX X w w' := by
  have c := hwrite h hm 1 xS
  rw [fa1] at c
  exact c
theorem fx2 (h : Hd X m w b f1) (hm : m ≤ 4611686018427387904) : Calls Try.prog 12 #[.pointer (some ⟨b, 0, none⟩), .int .i64 0, .string yS] w fun e w' => e = .returned (.int .i64 0) ∧ Hd X (m + 1) w' b f2 ∧ KeepX X w w' := by
  have c := hwrite h hm 0 yS
  rw [fa2] at c
  exact c
theorem fx3 (h : Hd X m w b f2) : Calls Try.prog 13 #[.pointer (some ⟨b, 0, none⟩), .int .i64 1] w fun e w' => e = .returned (.tuple #[.string xS, .int .i64 0]) ∧ w' = w := by
  have c := hread h 1
  rw [fa3] at c
  exact c
theorem fx4 (h : Hd X m w b f2) : Calls Try.prog 17 #[.pointer (some ⟨b, 0, none⟩)] w fun e w' => e = .returned (.string (secB 0 128)) ∧ Hd X m w' b f2 ∧ Below w.heap.size w w' := by
  have c := himage h
  rw [fa4] at c
  exact c
theorem fx5 (h : Hd X m w b f2) : Calls Try.prog 18 #[.pointer (some ⟨b, 0, none⟩), .string ⟨#[1]⟩] w fun e w' => e = .returned (.int .i64 0) ∧ Hd X m w' b f3 ∧ KeepX X w w' := by
  have c := hcrash h ⟨#[1]⟩
  rw [fa5] at c
  exact c
theorem fx6 (h : Hd X m w b f3) : Calls Try.prog 13 #[.pointer (some ⟨b, 0, none⟩), .int .i64 0] w fun e w' => e = .returned (.tuple #[.string ⟨#[]⟩, .int .i64 2]) ∧ w' = w := by
  have c := hread h 0
  rw [fa6] at c
  exact c
theorem fx7 (h : Hd X m w b f4) : Calls Try.prog 17 #[.pointer (some ⟨b, 0, none⟩)] w fun e w' => e = .returned (.string (secB 0 64 ++ xS)) ∧ Hd X m w' b f4 ∧ Below w.heap.size w w' := by
  have c := himage h
  rw [fa7] at c
  exact c
theorem fx8 (h : Hd X m w b f4) (hm : m ≤ 4611686018427387904) : Calls Try.prog 15 #[.pointer (some ⟨b, 0, none⟩), .int .i64 1, .bool true] w fun e w' => e = .returned (.int .i64 0) ∧ Hd X (m + 1) w' b f5 ∧ KeepX X w w' := by
  have c := hbad h hm 1 true
  rw [fa8] at c
  exact c
theorem fx9 (h : Hd X m w b f5) : Calls Try.prog 13 #[.pointer (some ⟨b, 0, none⟩), .int .i64 1] w fun e w' => e = .returned (.tuple #[.string ⟨#[]⟩, .int .i64 3]) ∧ w' = w := by
  have c := hread h 1
  rw [fa9] at c
  exact c
theorem fx10 (h : Hd X m w b f5) : Calls Try.prog 25 #[.pointer (some ⟨b, 0, none⟩)] w fun e w' => e = .returned (.int .i64 2) ∧ w' = w := by
  have c := hsteps h
  rw [fa10] at c
  exact c
theorem fx11 (h : Hd X m w b f5) (hm : m ≤ 4611686018427387904) : Calls Try.prog 12 #[.pointer (some ⟨b, 0, none⟩), .int .i64 0, .string ⟨#[]⟩] w fun e w' => e = .returned (.int .i64 1) ∧ Hd X (m + 1) w' b f5 ∧ KeepX X w w' := by
  have c := hwrite h hm 0 ⟨#[]⟩
  rw [fa11] at c
  exact c
end
set_option maxRecDepth 100000 in
set_option maxHeartbeats 16000000 in
theorem fixed_any (w : World) : Calls Try.prog 14 #[] w fun e w' => e = .returned (.bool true) ∧ Below w.heap.size w w' := by
  have n0 := Lib.hid (fun W => new_no W 0 (by decide))
  have n2 := Lib.hid (hnew w 2 (by decide) (by decide))
  have z0 : (secB 0 64).size = 64 := by kernel_rfl
  have zx : xS.size = 64 := by kernel_rfl
  replace z0 : Hid _ := Lib.hid z0
  replace zx : Hid _ := Lib.hid zx
  go_enter Try.func14, Try.ntmps14
  go_wp2_with fail
  refine (n2.out).mono ?_
  rintro e w' ⟨b, rfl, h, hb⟩
  have hs := hb.size
  clear n2
  go_wp2_with fail
  refine (n0.out _).mono ?_
  rintro e w' ⟨rfl, hw'⟩
  replace hw' := hw'.symm
  subst hw'
  clear n0
  go_wp2_with fail
  refine (sec_x _).mono ?_
  rintro e w' ⟨rfl, b'⟩
  replace h := h.below b'
  replace hb := hb.trans (b'.mono hs)
  replace hs := hb.size
  clear b'
  go_wp2_with fail
  refine (fx1 h (by decide)).mono ?_
  rintro e w' ⟨rfl, h', k'⟩
  replace hb := hb.trans (k'.toBelow (fun i hi => hi) hs)
  replace hs := hb.size
  replace h := h'
  clear h' k'
  go_wp2_with fail
  refine (sec_y _).mono ?_
  rintro e w' ⟨rfl, b'⟩
  replace h := h.below b'
  replace hb := hb.trans (b'.mono hs)
  replace hs := hb.size
  clear b'
  go_wp2_with fail
  refine (fx2 h (by decide)).mono ?_
  rintro e w' ⟨rfl, h', k'⟩
  replace hb := hb.trans (k'.toBelow (fun i hi => hi) hs)
  replace hs := hb.size
  replace h := h'
  clear h' k'
  go_wp2_with fail
  refine (fx3 h).mono ?_
  rintro e w' ⟨rfl, hw'⟩
  replace hw' := hw'.symm
  subst hw'
  go_wp2_with fail
  refine (fx4 h).mono ?_
  rintro e w' ⟨rfl, h', b'⟩
  replace h := h'
  replace hb := hb.trans (b'.mono hs)
  replace hs := hb.size
  clear h' b'
  go_wp2_with fail
  refine (fx5 h).mono ?_
  rintro e w' ⟨rfl, h', k'⟩
  replace hb := hb.trans (k'.toBelow (fun i hi => hi) hs)
  replace hs := hb.size
  replace h := h'
  clear h' k'
  go_wp2_with fail
  refine (fx6 h).mono ?_
  rintro e w' ⟨rfl, hw'⟩
  replace hw' := hw'.symm
  subst hw'
  go_wp2_with fail
  refine (hrevive h).mono ?_
  rintro e w' ⟨rfl, h', k'⟩
  replace hb := hb.trans (k'.toBelow (fun i hi => hi) hs)
  replace hs := hb.size
  replace h : Hd _ _ _ _ f4 := h'
  clear h' k'
  go_wp2_with fail
  refine (fx7 h).mono ?_
  rintro e w' ⟨rfl, h', b'⟩
  replace h := h'
  replace hb := hb.trans (b'.mono hs)
  replace hs := hb.size
  clear h' b'
  go_wp2_with fail
  refine (fx8 h (by decide)).mono ?_
  rintro e w' ⟨rfl, h', k'⟩
  replace hb := hb.trans (k'.toBelow (fun i hi => hi) hs)
  replace hs := hb.size
  replace h := h'
  clear h' k'
  go_wp2_with fail
  refine (fx9 h).mono ?_
  rintro e w' ⟨rfl, hw'⟩
  replace hw' := hw'.symm
  subst hw'
  go_wp2_with fail
  refine (sec_x _).mono ?_
  rintro e w' ⟨rfl, b'⟩
  replace h := h.below b'
  replace hb := hb.trans (b'.mono hs)
  replace hs := hb.size
  clear b'
  go_wp2_with fail
  refine (sec_01 _).mono ?_
  rintro e w' ⟨rfl, b'⟩
  replace h := h.below b'
  replace hb := hb.trans (b'.mono hs)
  replace hs := hb.size
  clear b'
  go_wp2_with fail
  refine (sec_0 _).mono ?_
  rintro e w' ⟨rfl, b'⟩
  replace h := h.below b'
  replace hb := hb.trans (b'.mono hs)
  replace hs := hb.size
  clear b'
  go_wp2_with fail
  refine (sec_x _).mono ?_
  rintro e w' ⟨rfl, b'⟩
  replace h := h.below b'
  replace hb := hb.trans (b'.mono hs)
  replace hs := hb.size
  clear b'
  go_wp2_with fail
  refine (fx10 h).mono ?_
  rintro e w' ⟨rfl, hw'⟩
  replace hw' := hw'.symm
  subst hw'
  go_wp2_with fail
  refine (fx11 h (by decide)).mono ?_
  rintro e w' ⟨rfl, h', k'⟩
  replace hb := hb.trans (k'.toBelow (fun i hi => hi) hs)
  replace hs := hb.size
  replace h := h'
  clear h' k'
  go_wp2_with fail
  go_ret
  exact ⟨rfl, hb⟩
end Go.Proofs.Ytpcnpjpbicbjeaa.Disk

/- Planes: the calls whose answers the document fixes; the bound of a statement. -/
import Derived.Test.YteghmnlngkcgiaaDoorPlaneWalkI
namespace Go.Proofs.YteghmnlngkcgiaaDoor.Planes
open Go.RowKit Mem Sets

theorem fit_setOf {l : List UInt8} (h0 : byteAt l 0 = 0) : FitAll l.length (setOf l) := fun k hk => by
  refine ⟨leastB_setOf l k, fun m hm => ?_⟩
  rw [hasB_setOf l hk] at hm
  refine ⟨?_, ?_⟩
  · cases m with
    | zero =>
      rw [has_at, show (8 * 0 + k) / 8 = 0 by omega, h0] at hm
      simp at hm
    | succ m => omega
  · refine Classical.byContradiction fun hn => ?_
    rw [has_beyond (by omega)] at hm
    cases hm

def q1 : Pl := putP 8 none8 0 ⟨#[6]⟩
def q2 : Pl := copyP q1 0 3
def q3 : Pl := putP 8 q2 0 ⟨#[36]⟩
def q4 : Pl := putP 8 q3 0 ⟨#[0, 1]⟩
theorem f1 : FitAll 8 q1 := fit_put (fit_none8 8) _ _
theorem f2 : FitAll 8 q2 := fit_copy f1 _ _
theorem f3 : FitAll 8 q3 := fit_put f2 _ _
theorem f4 : FitAll 8 q4 := fit_put f3 _ _
theorem t4 : (⟨(textL 8 q4).toArray⟩ : ByteArray) = ⟨#[0, 8, 9, 0, 0, 1, 0, 0]⟩ := by kernel_rfl
section
variable (W : World) (g : Nat)
theorem x1 (h : PMap W g 8 none8) : Calls Tryd.prog 23 #[.pointer (some ⟨g, 0, none⟩)] W fun e w' => e = .returned (.int .i64 7) ∧ Below W.heap.size W w' := by
  have k := free_any g 8 none8 W h (fit_none8 8) (by decide)
  rw [show free 8 none8 = 7 by kernel_rfl] at k
  exact k
theorem x2 (h : PMap W g 8 none8) : Calls Tryd.prog 17 #[.pointer (some ⟨g, 0, none⟩), .int .i64 0, .string ⟨#[6]⟩] W fun e w' => e = .returned (.int .i64 0) ∧ PMap w' g 8 q1 ∧ W.grownBy w' (some g) := by
  have k := put_any g 8 none8 W 0 ⟨#[6]⟩ h (by decide) (by decide)
  rw [show putE 8 0 ⟨#[6]⟩ = 0 by kernel_rfl] at k
  exact k
theorem x3 (h : PMap W g 8 q1) : Calls Tryd.prog 19 #[.pointer (some ⟨g, 0, none⟩), .int .i64 0, .int .i64 3] W fun e w' => e = .returned (.int .i64 0) ∧ PMap w' g 8 q2 ∧ W.grownBy w' (some g) := by
  have k := copy_any g 8 q1 W 0 3 h
  rw [show copyE 0 3 = 0 by kernel_rfl] at k
  exact k
theorem x4 (h : PMap W g 8 q2) : Calls Tryd.prog 17 #[.pointer (some ⟨g, 0, none⟩), .int .i64 0, .string ⟨#[36]⟩] W fun e w' => e = .returned (.int .i64 0) ∧ PMap w' g 8 q3 ∧ W.grownBy w' (some g) := by
  have k := put_any g 8 q2 W 0 ⟨#[36]⟩ h (by decide) (by decide)
  rw [show putE 8 0 ⟨#[36]⟩ = 0 by kernel_rfl] at k
  exact k
theorem x5 (h : PMap W g 8 q3) : Calls Tryd.prog 26 #[.pointer (some ⟨g, 0, none⟩), .int .i64 3, .int .i64 0] W fun e w' => e = .returned (.tuple #[.string ⟨#[32]⟩, .string ⟨#[2]⟩, .int .i64 0]) ∧ Below W.heap.size W w' := by
  have k := diff_any g 8 q3 W 3 0 h f3 (by decide)
  rw [show copyE 3 0 = 0 by kernel_rfl, show diffS q3 3 0 = ⟨#[32]⟩ by kernel_rfl, show diffT q3 3 0 = ⟨#[2]⟩ by kernel_rfl] at k
  exact k
theorem x6 (h : PMap W g 8 q3) : Calls Tryd.prog 17 #[.pointer (some ⟨g, 0, none⟩), .int .i64 0, .string ⟨#[0, 1]⟩] W fun e w' => e = .returned (.int .i64 91) ∧ PMap w' g 8 q4 ∧ W.grownBy w' (some g) := by
  have k := put_any g 8 q3 W 0 ⟨#[0, 1]⟩ h (by decide) (by decide)
  rw [show putE 8 0 ⟨#[0, 1]⟩ = 91 by kernel_rfl] at k
  exact k
theorem x7 (h : PMap W g 8 q4) : Calls Tryd.prog 22 #[.pointer (some ⟨g, 0, none⟩), .int .i64 3] W fun e w' => e = .returned (.tuple #[.string ⟨#[6]⟩, .int .i64 0]) ∧ Below W.heap.size W w' := by
  have k := plane_any g 8 q4 W 3 h
  rw [show planeS q4 3 = ⟨#[6]⟩ by kernel_rfl, show planeE 3 = 0 by kernel_rfl] at k
  exact k
theorem x8 (h : PMap W g 8 q4) : Calls Tryd.prog 22 #[.pointer (some ⟨g, 0, none⟩), .int .i64 8] W fun e w' => e = .returned (.tuple #[.string ⟨#[]⟩, .int .i64 91]) ∧ Below W.heap.size W w' := by
  have k := plane_any g 8 q4 W 8 h
  rw [show planeS q4 8 = ⟨#[]⟩ by kernel_rfl, show planeE 8 = 91 by kernel_rfl] at k
  exact k
theorem x9 (h : PMap W g 8 q4) : Calls Tryd.prog 15 #[.pointer (some ⟨g, 0, none⟩)] W fun e w' => e = .returned (.string ⟨#[0, 8, 9, 0, 0, 1, 0, 0]⟩) ∧ Below W.heap.size W w' := by
  have k := text_any g 8 q4 W h f4 (by decide)
  rw [t4] at k
  exact k
def q5 : Pl := setOf [0, 8, 9, 0, 0, 1, 0, 0]
theorem x10 : Calls Tryd.prog 11 #[.string ⟨#[0, 8, 9, 0, 0, 1, 0, 0]⟩] W fun e w' => e = .returned (.tuple #[.pointer (some ⟨W.heap.size, 0, none⟩), .int .i64 0]) ∧ PMap w' W.heap.size 8 q5 ∧ Below W.heap.size W w' :=
  parse_ok ⟨#[0, 8, 9, 0, 0, 1, 0, 0]⟩ W (by kernel_rfl)
theorem x11 (h : PMap W g 8 q5) : Calls Tryd.prog 15 #[.pointer (some ⟨g, 0, none⟩)] W fun e w' => e = .returned (.string ⟨#[0, 8, 9, 0, 0, 1, 0, 0]⟩) ∧ Below W.heap.size W w' := by
  have k := text_any g 8 q5 W h (fit_setOf (l := [0, 8, 9, 0, 0, 1, 0, 0]) (by kernel_rfl)) (by decide)
  rw [show (⟨(textL 8 q5).toArray⟩ : ByteArray) = ⟨#[0, 8, 9, 0, 0, 1, 0, 0]⟩ by kernel_rfl] at k
  exact k
theorem x12 (h : PMap W g 8 q4) : Calls Tryd.prog 18 #[.pointer (some ⟨g, 0, none⟩)] W fun e w' => e = .returned (.string ⟨#[38]⟩) ∧ Below W.heap.size W w' := by
  have k := used_any g 8 q4 W h f4 (by decide)
  rw [show used q4 = ⟨#[38]⟩ by kernel_rfl] at k
  exact k
theorem x13 (h : PMap W g 8 q4) : Calls Tryd.prog 23 #[.pointer (some ⟨g, 0, none⟩)] W fun e w' => e = .returned (.int .i64 4) ∧ Below W.heap.size W w' := by
  have k := free_any g 8 q4 W h f4 (by decide)
  rw [show free 8 q4 = 4 by kernel_rfl] at k
  exact k
end

set_option maxRecDepth 100000 in
set_option maxHeartbeats 2000000 in
theorem fixed_any (w : World) :
    Calls Tryd.prog 13 #[] w fun e w' => e = .returned (.bool true) ∧ Below w.heap.size w w' := by
  have k0 := Lib.hid (new_ok 8 w (by decide))
  have k00 := Lib.hid (fun W => new_bad 7 W (by decide))
  have k1 := Lib.hid x1
  have k2 := Lib.hid x2
  have k3 := Lib.hid x3
  have k4 := Lib.hid x4
  have k5 := Lib.hid x5
  have k6 := Lib.hid x6
  have k7 := Lib.hid x7
  have k8 := Lib.hid x8
  have k9 := Lib.hid x9
  have k10 := Lib.hid x10
  have k11 := Lib.hid x11
  have k12 := Lib.hid x12
  have k13 := Lib.hid x13
  go_enter Tryd.func13, Tryd.ntmps13
  go_wp2_with fail
  refine k0.out.mono ?_
  rintro en w1 ⟨rfl, hp, hb⟩
  have hs := hb.size
  have le_hp : w.heap.size ≤ w.heap.size := Nat.le_refl _
  go_wp2_with fail
  refine (k00.out _).mono ?_
  rintro en w' ⟨rfl, hw'⟩
  replace hw' := hw'.symm
  subst hw'
  go_wp2_with fail
  refine (k1.out _ _ hp).mono ?_
  rintro en w' ⟨rfl, b'⟩
  replace hp := hp.below b'
  replace hb := hb.trans (b'.mono hs)
  clear b'
  replace hs := hb.size
  go_wp2_with fail
  refine (k2.out _ _ hp).mono ?_
  rintro en w' ⟨rfl, hp', g'⟩
  replace hb := hb.trans (Only.toBelow g' le_hp hs)
  replace hp := hp'
  clear g'
  replace hs := hb.size
  go_wp2_with fail
  refine (k3.out _ _ hp).mono ?_
  rintro en w' ⟨rfl, hp', g'⟩
  replace hb := hb.trans (Only.toBelow g' le_hp hs)
  replace hp := hp'
  clear g'
  replace hs := hb.size
  go_wp2_with fail
  refine (k4.out _ _ hp).mono ?_
  rintro en w' ⟨rfl, hp', g'⟩
  replace hb := hb.trans (Only.toBelow g' le_hp hs)
  replace hp := hp'
  clear g'
  replace hs := hb.size
  go_wp2_with fail
  refine (k5.out _ _ hp).mono ?_
  rintro en w' ⟨rfl, b'⟩
  replace hp := hp.below b'
  replace hb := hb.trans (b'.mono hs)
  clear b'
  replace hs := hb.size
  go_wp2_with fail
  refine (k6.out _ _ hp).mono ?_
  rintro en w' ⟨rfl, hp', g'⟩
  replace hb := hb.trans (Only.toBelow g' le_hp hs)
  replace hp := hp'
  clear g'
  replace hs := hb.size
  go_wp2_with fail
  refine (k7.out _ _ hp).mono ?_
  rintro en w' ⟨rfl, b'⟩
  replace hp := hp.below b'
  replace hb := hb.trans (b'.mono hs)
  clear b'
  replace hs := hb.size
  go_wp2_with fail
  refine (k8.out _ _ hp).mono ?_
  rintro en w' ⟨rfl, b'⟩
  replace hp := hp.below b'
  replace hb := hb.trans (b'.mono hs)
  clear b'
  replace hs := hb.size
  go_wp2_with fail
  refine (k9.out _ _ hp).mono ?_
  rintro en w' ⟨rfl, b'⟩
  replace hp := hp.below b'
  replace hb := hb.trans (b'.mono hs)
  clear b'
  replace hs := hb.size
  go_wp2_with fail
  refine (k10.out _).mono ?_
  rintro en w3 ⟨rfl, hq, b'⟩
  replace hp := hp.below b'
  replace hb := hb.trans (b'.mono hs)
  replace hs := hb.size
  clear b'
  go_wp2_with fail
  refine (k12.out _ _ hp).mono ?_
  rintro en w' ⟨rfl, b'⟩
  replace hp := hp.below b'
  replace hq := hq.below b'
  replace hb := hb.trans (b'.mono hs)
  clear b'
  replace hs := hb.size
  go_wp2_with fail
  refine (k13.out _ _ hp).mono ?_
  rintro en w' ⟨rfl, b'⟩
  replace hp := hp.below b'
  replace hq := hq.below b'
  replace hb := hb.trans (b'.mono hs)
  clear b'
  replace hs := hb.size
  go_wp2_with fail
  refine (k11.out _ _ hq).mono ?_
  rintro en w' ⟨rfl, b'⟩
  replace hp := hp.below b'
  replace hq := hq.below b'
  replace hb := hb.trans (b'.mono hs)
  clear b'
  replace hs := hb.size
  go_wp2_with fail
  refine (k9.out _ _ hp).mono ?_
  rintro en w' ⟨rfl, b'⟩
  replace hp := hp.below b'
  replace hq := hq.below b'
  replace hb := hb.trans (b'.mono hs)
  clear b'
  replace hs := hb.size
  go_wp2_with fail
  refine (k9.out _ _ hp).mono ?_
  rintro en w' ⟨rfl, b'⟩
  replace hp := hp.below b'
  replace hq := hq.below b'
  replace hb := hb.trans (b'.mono hs)
  clear b'
  replace hs := hb.size
  go_wp2_with fail
  go_ret
  exact ⟨rfl, hb⟩
/-- how many blocks, within what a statement can hold -/
def bnd (n : Int) : Nat := (max 8 (min n 300)).toNat
theorem bnd_int (n : Int) : (bnd n : Int) = max 8 (min n 300) := by unfold bnd; omega
theorem bnd_le (n : Int) : 8 ≤ bnd n ∧ bnd n ≤ 300 := by unfold bnd; omega
theorem bound_any (n : Int) (w : World) : Calls Tryd.prog 16 #[.int .i64 n] w fun e w' => e = .returned (.int .i64 (bnd n : Int)) ∧ w' = w := by
  rw [bnd_int]
  go_enter Tryd.func16, Tryd.ntmps16
  go_wp2_with fail
  go_ret
  exact ⟨rfl, rfl⟩
end Go.Proofs.YteghmnlngkcgiaaDoor.Planes

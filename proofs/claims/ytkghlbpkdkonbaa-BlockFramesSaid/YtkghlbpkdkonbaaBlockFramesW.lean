/- BlockFrames: the walk. -/
import Derived.Test.YtkghlbpkdkonbaaBlkFixed
namespace Go.Proofs.Ytkghlbpkdkonbaa.Vl
open Go Go.RowKit Go.Maps Mem Disk Nv
set_option maxRecDepth 100000 in
theorem frameV_unframe (p : ByteArray) : (frameV p).2 ≠ 0 ∨ ((frameV p).2 = 0 ∧ unframeV (frameV p).1 = (p, 0)) := by
  unfold frameV
  split
  · exact Or.inl (by decide)
  · next h => exact Or.inr ⟨rfl, unframe_frame (by omega)⟩
set_option maxRecDepth 100000 in
set_option maxHeartbeats 8000000 in
theorem blockframes_any (p s : ByteArray) (hp : p.size ≤ 9223372036854775807) (w : World) : Calls Try.prog 3 #[.string p, .string s] w fun e w' => e = .returned (.bool true) ∧ Below w.heap.size w w' := by
  have kf := Lib.hid (fun W => fixed_any W)
  have k1 := fun W => frame_any p W hp
  have k2 := fun W => rframe_any p W hp
  have k3 := Lib.hid (fun W => unframe_any s W)
  have k4 := Lib.hid (fun W => runframe_any s W)
  have hor := frameV_unframe p
  have k5 := fun W => unframe_any (frameV p).1 W
  generalize frameV p = E at k1 k2 hor k5
  obtain ⟨T, x⟩ := E
  generalize unframeV s = U at k3 k4
  obtain ⟨U1, U2⟩ := U
  simp only at hor k1 k2 k5
  replace k1 := Lib.hid k1
  replace k2 := Lib.hid k2
  have hb := Below.refl w.heap.size w
  have hs := hb.size
  have tb : (T.toList == T.toList) = true := beq_self_eq_true _
  have ub : (U1.toList == U1.toList) = true := beq_self_eq_true _
  have xb : (x == x) = true := beq_self_eq_true _
  have zb : (U2 == U2) = true := beq_self_eq_true _
  rcases hor with hx | ⟨rfl, hu⟩
  · have xn : (x != 0) = true := bne_iff_ne.2 hx
    generalize unframeV T = V at k5
    obtain ⟨V1, V2⟩ := V
    replace k5 := Lib.hid k5
    clear hx
    go_enter Try.func3, Try.ntmps3
    go_wp2_with fail
    refine (k1.out _).mono ?_
    rintro en w' ⟨rfl, b'⟩
    replace hb := hb.trans (b'.mono hs)
    clear b'
    replace hs := hb.size
    go_wp2_with fail
    refine (k2.out _).mono ?_
    rintro en w' ⟨rfl, b'⟩
    replace hb := hb.trans (b'.mono hs)
    clear b'
    replace hs := hb.size
    go_wp2_with fail
    refine (k3.out _).mono ?_
    rintro en w' ⟨rfl, b'⟩
    replace hb := hb.trans (b'.mono hs)
    clear b'
    replace hs := hb.size
    go_wp2_with fail
    refine (k4.out _).mono ?_
    rintro en w' ⟨rfl, b'⟩
    replace hb := hb.trans (b'.mono hs)
    clear b'
    replace hs := hb.size
    go_wp2_with fail
    refine (k5.out _).mono ?_
    rintro en w' ⟨rfl, b'⟩
    replace hb := hb.trans (b'.mono hs)
    clear b'
    replace hs := hb.size
    go_wp2_with fail
    refine (kf.out _).mono ?_
    rintro en w' ⟨rfl, b'⟩
    replace hb := hb.trans (b'.mono hs)
    clear b'
    replace hs := hb.size
    go_wp2_with fail
    go_ret
    exact ⟨rfl, hb⟩
  · have pb : (p.toList == p.toList) = true := beq_self_eq_true _
    rw [hu] at k5
    replace k5 := Lib.hid k5
    clear hu
    go_enter Try.func3, Try.ntmps3
    go_wp2_with fail
    refine (k1.out _).mono ?_
    rintro en w' ⟨rfl, b'⟩
    replace hb := hb.trans (b'.mono hs)
    clear b'
    replace hs := hb.size
    go_wp2_with fail
    refine (k2.out _).mono ?_
    rintro en w' ⟨rfl, b'⟩
    replace hb := hb.trans (b'.mono hs)
    clear b'
    replace hs := hb.size
    go_wp2_with fail
    refine (k3.out _).mono ?_
    rintro en w' ⟨rfl, b'⟩
    replace hb := hb.trans (b'.mono hs)
    clear b'
    replace hs := hb.size
    go_wp2_with fail
    refine (k4.out _).mono ?_
    rintro en w' ⟨rfl, b'⟩
    replace hb := hb.trans (b'.mono hs)
    clear b'
    replace hs := hb.size
    go_wp2_with fail
    refine (k5.out _).mono ?_
    rintro en w' ⟨rfl, b'⟩
    replace hb := hb.trans (b'.mono hs)
    clear b'
    replace hs := hb.size
    go_wp2_with fail
    refine (kf.out _).mono ?_
    rintro en w' ⟨rfl, b'⟩
    replace hb := hb.trans (b'.mono hs)
    clear b'
    replace hs := hb.size
    go_wp2_with fail
    go_ret
    exact ⟨rfl, hb⟩
end Go.Proofs.Ytkghlbpkdkonbaa.Vl

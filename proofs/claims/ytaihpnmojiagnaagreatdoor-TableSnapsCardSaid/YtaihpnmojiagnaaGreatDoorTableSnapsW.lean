/- TableSnaps: the bytes of lists, and the lists of bytes, are as the document says. (Printed by genlawsz.py.) -/
import Derived.Test.YtaihpnmojiagnaaGreatDoorTableGC
namespace Go.Proofs.YtaihpnmojiagnaaGreatDoor.Table
open Go.RowKit Mem Wire

set_option maxRecDepth 100000 in
set_option maxHeartbeats 8000000 in
theorem snaps_law (A : Option Addr) (n c : Nat) (l : List Snp) (s : ByteArray) (w : World) (hL : Laid w) (hr : Row w A (n * 5) (l.flatMap snpC)) (hln : l.length = n) (hnm : n ≤ 9223372036854775807) (hbig : ∀ x ∈ l, snpN x) (hs : s.size ≤ 140737488355328) :
    Calls Tryz.prog 5 #[.slice A n c, .string s] w fun e w' => e = .returned (.bool true) ∧ Below w.heap.size w w' := by
  have hp := hL.pos
  have k1 := fun W (h : Row W A (n * 5) (l.flatMap snpC)) => snaps_out A n c l W h hln (fun _ _ => trivial) hnm
  have k2 := fun W (h : Row W A (n * 5) (l.flatMap snpC)) => snp_rl A n c l W h hln hbig hnm
  have k3 := fun W (h : Laid W) => parseSnaps_any s W h (Nat.le_trans hs (by decide))
  have hpl : ∀ m, parseS snpK s.data.toList = some m → m.length ≤ 4096 := fun m hm => (lays_len_S (parse_inv hm)).2
  have k4 := fun W => snp_rparse s W hs
  rw [parse_eq good_snp] at k4
  generalize lays snpK l = lv at k1 k2
  generalize parseS snpK s.data.toList = p at k3 k4 hpl
  replace hpl := Lib.hid hpl
  replace hr := Lib.hid hr
  clear hln hbig
  replace k1 := Lib.hid k1
  replace k2 := Lib.hid k2
  replace k3 := Lib.hid k3
  replace k4 := Lib.hid k4
  have hb := Lib.hid (Below.refl w.heap.size w)
  have hz := hb.out.size
  cases lv
  all_goals
    go_enter Tryz.func5, Tryz.ntmps5
    go_wp2_with fail
    refine (k1.out _ hr.out).mono ?_
    unfold laysV
    rintro e w1 ⟨rfl, b1⟩
    have hr1 := Lib.hid (hr.out.below b1)
    replace hb := Lib.hid (hb.out.trans (b1.mono hz))
    replace hz := hb.out.size
    clear b1
    go_wp2_with fail
    refine (k2.out _ hr1.out).mono ?_
    unfold laysV
    rintro e w2 ⟨rfl, b2⟩
    replace hb := Lib.hid (hb.out.trans (b2.mono hz))
    replace hz := hb.out.size
    clear b2 hr1
    have hL2 := hL.below hb.out hp
    go_wp2_with fail
    refine (k3.out _ hL2).mono ?_
    rintro e w3 ⟨A3, n3, c3, rfl, ho3, hl3, b3⟩
    have hr3 := Lib.hid (row_of_own ho3)
    replace hl3 := Lib.hid hl3
    replace hb := Lib.hid (hb.out.trans (b3.mono hz))
    replace hz := hb.out.size
    clear b3 hL2 ho3
    cases p
    all_goals
      go_wp2_with fail
      refine (k4.out _).mono ?_
      rintro e w4 ⟨A4, n4, c4, rfl, ho4, hl4, b4⟩
      have hr4 := Lib.hid (row_of_own ho4)
      replace hl4 := Lib.hid hl4
      replace hr3 := Lib.hid (hr3.out.below b4)
      replace hb := Lib.hid (hb.out.trans (b4.mono hz))
      replace hz := hb.out.size
      clear b4 ho4
      have hL4 := hL.below hb.out hp
      go_wp2_with fail
      refine (fixed_any _ hL4).mono ?_
      rintro e w5 ⟨rfl, b5⟩
      replace hr3 := Lib.hid (hr3.out.below b5)
      replace hr4 := Lib.hid (hr4.out.below b5)
      replace hb := Lib.hid (hb.out.trans (b5.mono hz))
      replace hz := hb.out.size
      clear b5 hL4
      go_wp2_with fail
      refine (sS_same hr3.out hl3.out hr4.out hl4.out (by
        have h3 := hl3.out
        first
          | (have h5 := hpl.out _ rfl; simp only [Option.getD_some] at h3; omega)
          | (simp only [Option.getD_none, List.length_nil] at h3; omega))).mono ?_
      rintro e w6 ⟨rfl, b6⟩
      replace hb := Lib.hid (hb.out.trans (b6.mono hz))
      clear b6
      go_wp2_with fail
      go_ret
      exact ⟨rfl, hb.out⟩
end Go.Proofs.YtaihpnmojiagnaaGreatDoor.Table

/- TableOnly: what is parsed is laid as it was; bytes with more behind are none. (Printed by gentlaws.py.) -/
import Derived.Test.YtaihpnmojiagnaaDoorTableLaws
namespace Go.Proofs.YtaihpnmojiagnaaDoor.Table
open Go.RowKit Mem Wire

set_option maxRecDepth 100000 in
set_option maxHeartbeats 16000000 in
theorem only_any (s more : ByteArray) (w : World) (hL : Laid w) (hs : s.size ≤ 140737488355328) (hm : more.size ≤ 140737488355328) :
    Calls Tryd.prog 7 #[.string s, .string more] w fun e w' => e = .returned (.bool true) ∧ Below w.heap.size w w' := by
  have hp := hL.pos
  have hs9 : s.size ≤ 9223372036854775807 := by omega
  have hm9 : (s ++ more).size ≤ 9223372036854775807 := by rw [ByteArray.size_append]; omega
  obtain ⟨r1, e1⟩ : ∃ r, parseS inoK s.data.toList = r := ⟨_, rfl⟩
  obtain ⟨r2, e2⟩ : ∃ r, parseS entK s.data.toList = r := ⟨_, rfl⟩
  obtain ⟨r3, e3⟩ : ∃ r, parseS snpK s.data.toList = r := ⟨_, rfl⟩
  replace e1 := Lib.hid e1
  replace e2 := Lib.hid e2
  replace e3 := Lib.hid e3
  have hmore : (more.toList = [] ∨ ¬ more.toList = []) := Classical.em _
  go_enter Tryd.func7, Tryd.ntmps7
  rcases hmore with hme | hme
  all_goals
    have hmd := hme
    rw [Lib.toList_data] at hmd
    replace hmd := Lib.hid hmd
    first
      | (have hmb : (more.toList == []) = true := by rw [hme]; rfl)
      | (have hmb : (more.toList == []) = false := by simpa using hme)
    have hb := Lib.hid (Below.refl w.heap.size w)
    have hz := hb.out.size
    cases r1
    all_goals cases r2
    all_goals cases r3
    all_goals
      go_wp2_with fail
      have hL1 := hL.below hb.out hp
      first
        | (refine (pI_none hL1 hs9 e1.out).mono ?_; rintro e w1 ⟨A1, n1, c1, rfl, b1⟩)
        | (refine (pI_some hL1 hs9 e1.out).mono ?_; rintro e w1 ⟨A1, c1, rfl, hr1, b1⟩; replace hr1 := Lib.hid hr1)
      replace hb := Lib.hid (hb.out.trans (b1.mono hz))
      replace hz := hb.out.size
      clear b1
      clear hL1
      go_wp2_with fail
      have hL2 := hL.below hb.out hp
      first
        | (refine (pE_none hL2 hs9 e2.out).mono ?_; rintro e w2 ⟨A2, n2, c2, rfl, b2⟩)
        | (refine (pE_some hL2 hs9 e2.out).mono ?_; rintro e w2 ⟨A2, c2, rfl, hr2, b2⟩; replace hr2 := Lib.hid hr2)
      replace hb := Lib.hid (hb.out.trans (b2.mono hz))
      replace hz := hb.out.size
      try replace hr1 := Lib.hid (hr1.out.below b2)
      clear b2
      clear hL2
      go_wp2_with fail
      have hL3 := hL.below hb.out hp
      first
        | (refine (pS_none hL3 hs9 e3.out).mono ?_; rintro e w3 ⟨A3, n3, c3, rfl, b3⟩)
        | (refine (pS_some hL3 hs9 e3.out).mono ?_; rintro e w3 ⟨A3, c3, rfl, hr3, b3⟩; replace hr3 := Lib.hid hr3)
      replace hb := Lib.hid (hb.out.trans (b3.mono hz))
      replace hz := hb.out.size
      try replace hr1 := Lib.hid (hr1.out.below b3)
      try replace hr2 := Lib.hid (hr2.out.below b3)
      clear b3
      clear hL3
      try
        (have hgo1 := hr1.out
         clear hgo1
         go_wp2_with fail
         refine (oI_some hr1.out rfl (lays_I_big (parse_inv e1.out)) (by have := (ok_iff.mp (lays_some (parse_inv e1.out)).1).1; omega) (parse_inv e1.out)).mono ?_
         rintro e v1 ⟨rfl, d1⟩
         replace hb := Lib.hid (hb.out.trans (d1.mono hz))
         replace hz := hb.out.size
         try replace hr2 := Lib.hid (hr2.out.below d1)
         try replace hr3 := Lib.hid (hr3.out.below d1)
         clear d1
         clear hr1
         go_wp2_with fail
         have hM1 := hL.below hb.out hp
         first
           | (refine (pI_some hM1 hm9 (mI_same e1.out hmd.out)).mono ?_; rintro e u1 ⟨F1, f1, rfl, _, d1⟩)
           | (refine (pI_none hM1 hm9 (mI_more e1.out hmd.out)).mono ?_; rintro e u1 ⟨F1, g1, f1, rfl, d1⟩)
         replace hb := Lib.hid (hb.out.trans (d1.mono hz))
         replace hz := hb.out.size
         try replace hr2 := Lib.hid (hr2.out.below d1)
         try replace hr3 := Lib.hid (hr3.out.below d1)
         clear d1
         clear hM1)
      try
        (have hgo2 := hr2.out
         clear hgo2
         go_wp2_with fail
         refine (oE_some hr2.out rfl (lays_E_big (parse_inv e2.out)) (by have := (ok_iff.mp (lays_some (parse_inv e2.out)).1).1; omega) (parse_inv e2.out)).mono ?_
         rintro e v2 ⟨rfl, d2⟩
         replace hb := Lib.hid (hb.out.trans (d2.mono hz))
         replace hz := hb.out.size
         try replace hr3 := Lib.hid (hr3.out.below d2)
         clear d2
         clear hr2
         go_wp2_with fail
         have hM2 := hL.below hb.out hp
         first
           | (refine (pE_some hM2 hm9 (mE_same e2.out hmd.out)).mono ?_; rintro e u2 ⟨F2, f2, rfl, _, d2⟩)
           | (refine (pE_none hM2 hm9 (mE_more e2.out hmd.out)).mono ?_; rintro e u2 ⟨F2, g2, f2, rfl, d2⟩)
         replace hb := Lib.hid (hb.out.trans (d2.mono hz))
         replace hz := hb.out.size
         try replace hr3 := Lib.hid (hr3.out.below d2)
         clear d2
         clear hM2)
      try
        (have hgo3 := hr3.out
         clear hgo3
         go_wp2_with fail
         refine (oS_some hr3.out rfl (lays_S_big (parse_inv e3.out)) (by have := (ok_iff.mp (lays_some (parse_inv e3.out)).1).1; omega) (parse_inv e3.out)).mono ?_
         rintro e v3 ⟨rfl, d3⟩
         replace hb := Lib.hid (hb.out.trans (d3.mono hz))
         replace hz := hb.out.size
         clear d3
         clear hr3
         go_wp2_with fail
         have hM3 := hL.below hb.out hp
         first
           | (refine (pS_some hM3 hm9 (mS_same e3.out hmd.out)).mono ?_; rintro e u3 ⟨F3, f3, rfl, _, d3⟩)
           | (refine (pS_none hM3 hm9 (mS_more e3.out hmd.out)).mono ?_; rintro e u3 ⟨F3, g3, f3, rfl, d3⟩)
         replace hb := Lib.hid (hb.out.trans (d3.mono hz))
         replace hz := hb.out.size
         clear d3
         clear hM3)
      go_wp2_with fail
      refine (fixed_any _ (hL.below hb.out hp)).mono ?_
      rintro e wf ⟨rfl, bf⟩
      replace hb := Lib.hid (hb.out.trans (bf.mono hz))
      clear bf
      go_wp2_with fail
      go_ret
      exact ⟨rfl, hb.out⟩
end Go.Proofs.YtaihpnmojiagnaaDoor.Table

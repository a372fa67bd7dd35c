/- The document's Load, Reach. -/
import Derived.Test.YtajlfmnjibgbaaaGreatDoorTrDocE
namespace Go.Proofs.YtajlfmnjibgbaaaGreatDoor.Tr
open Go Go.RowKit Go.Maps Mem Disk Nv Vl
section
variable {X : Nat → Prop} {N m : Nat} {w : World} {k : Nat} {f : Rd}
set_option maxRecDepth 100000 in
set_option maxHeartbeats 8000000 in
theorem rload_any (h : DV X N m w k f) (hm : m ≤ 900000) (root size : Int) : Calls Tryz.prog 21 #[.pointer (some ⟨k, 0, none⟩), .agg #[.int .i64 root, .int .i64 size]] w fun e w' =>
    e = .returned (.tuple #[.string (loadR f root size).1, .int .i64 (loadR f root size).2]) ∧ DV X N m w' k f ∧ KeepX X w w' := by
  obtain ⟨V, P, hV, hP, hB, b0⟩ := boxed w root size
  have c0 : V.cell? ⟨P, 0, none⟩ = some (.int .i64 root) := hB.cell 0
  have c1 : V.cell? ⟨P, 1, none⟩ = some (.int .i64 size) := hB.cell 1
  have kr := Lib.hid (rread_any (h.below b0) hm true root size)
  have kb := Lib.hid (Keeps.of_below (fun i => ¬ X i) b0)
  obtain ⟨R, hR⟩ : ∃ R, R = loadR f root size := ⟨_, rfl⟩
  rw [← hR]
  unfold loadR at hR
  obtain ⟨T, hT⟩ : ∃ T, T = readT f true root size := ⟨_, rfl⟩
  rw [← hT] at kr hR
  replace hR := Lib.hid hR
  clear hT h hB b0
  go_enter Tryz.func21, Tryz.ntmps21
  go_upto_region 1 with fail
  rw [← hV, ← hP]
  clear hV hP
  go_wp2_with fail
  refine kr.out.mono ?_
  rintro e w1 ⟨t, rfl, r1, k1⟩
  have kx1 : KeepX X w w1 := kb.out.same k1
  have hdv := r1.dv
  obtain ⟨G, ov, v0, v1, v2, r1⟩ := r1
  have q5 : w1.cell? ⟨t, 5, none⟩ = some (.int .i64 T.e) := r1.blk.cell 5
  have q1 : w1.cell? ⟨t, 1, none⟩ = some (.string T.data) := r1.blk.cell 1
  clear c0 c1 kr kb k1 r1
  by_cases he : T.e = 0
  · have hR2 : R = (T.data, 0) := hR.out.trans (if_neg (fun q => q he))
    rw [he] at q5
    have fin := Lib.hid (And.intro hdv kx1)
    replace hR2 := Lib.hid hR2
    clear hdv kx1 hR he
    go_wp2_with fail
    go_ret2
    rw [hR2.out]
    exact ⟨rfl, fin.out⟩
  · have hR2 : R = (⟨#[]⟩, T.e) := hR.out.trans (if_pos he)
    have hen : (T.e != 0) = true := by simpa using he
    have fin := Lib.hid (And.intro hdv kx1)
    replace hR2 := Lib.hid hR2
    replace he := Lib.hid he
    clear hdv kx1 hR
    go_wp2_with fail
    go_quiet (fail)
    go_wp2_with fail
    go_ret2
    rw [hR2.out]
    exact ⟨rfl, by
      obtain ⟨h1, h2⟩ := fin.out
      exact ⟨h1.below (below_N _ _), h2.drewN _⟩⟩
set_option maxRecDepth 100000 in
set_option maxHeartbeats 8000000 in
theorem rreach_any (h : DV X N m w k f) (hm : m ≤ 900000) (root size : Int) : Calls Tryz.prog 22 #[.pointer (some ⟨k, 0, none⟩), .agg #[.int .i64 root, .int .i64 size]] w fun e w' =>
    ∃ v, e = .returned (.tuple #[v, .int .i64 (reachR f root size).2]) ∧ w'.ownsRow 0 3 1 v (reachR f root size).1.length (intV (reachR f root size).1) ∧ KeepX X w w' := by
  obtain ⟨V, P, hV, hP, hB, b0⟩ := boxed w root size
  have c0 : V.cell? ⟨P, 0, none⟩ = some (.int .i64 root) := hB.cell 0
  have c1 : V.cell? ⟨P, 1, none⟩ = some (.int .i64 size) := hB.cell 1
  have kr := Lib.hid (rread_any (h.below b0) hm false root size)
  have kb := Lib.hid (Keeps.of_below (fun i => ¬ X i) b0)
  obtain ⟨R, hR⟩ : ∃ R, R = reachR f root size := ⟨_, rfl⟩
  rw [← hR]
  unfold reachR at hR
  obtain ⟨T, hT⟩ : ∃ T, T = readT f false root size := ⟨_, rfl⟩
  rw [← hT] at kr hR
  replace hR := Lib.hid hR
  clear hT h hB b0
  go_enter Tryz.func22, Tryz.ntmps22
  go_upto_region 1 with fail
  rw [← hV, ← hP]
  clear hV hP
  go_wp2_with fail
  refine kr.out.mono ?_
  rintro e w1 ⟨t, rfl, r1, k1⟩
  have kx1 : KeepX X w w1 := kb.out.same k1
  obtain ⟨G, ov, v0, v1, v2, r1⟩ := r1
  have q5 : w1.cell? ⟨t, 5, none⟩ = some (.int .i64 T.e) := r1.blk.cell 5
  have q0 : w1.cell? ⟨t, 0, none⟩ = some ov := r1.blk.cell 0
  have ho := r1.ord
  clear c0 c1 kr kb k1 r1
  by_cases he : T.e = 0
  · have hR2 : R = (T.order, 0) := hR.out.trans (if_neg (fun q => q he))
    rw [he] at q5
    have fin := Lib.hid (And.intro ho kx1)
    replace hR2 := Lib.hid hR2
    clear ho kx1 hR he
    go_wp2_with fail
    go_ret2
    rw [hR2.out]
    exact ⟨_, rfl, fin.out⟩
  · have hR2 : R = ([], T.e) := hR.out.trans (if_pos he)
    have hen : (T.e != 0) = true := by simpa using he
    have fin := Lib.hid kx1
    replace hR2 := Lib.hid hR2
    replace he := Lib.hid he
    clear ho kx1 hR
    go_wp2_with fail
    go_quiet (fail)
    go_wp2_with fail
    go_ret2
    rw [hR2.out]
    exact ⟨_, rfl, World.ownsRow_nil _ _ _ _, fin.out.drewN _⟩
end
end Go.Proofs.YtajlfmnjibgbaaaGreatDoor.Tr

/- TableSizes: an inode takes at most 12 bytes, how many there are two; a list of none takes one. (Printed by gentlaws.py.) -/
import Derived.Test.YtaihpnmojiagnaaDoorTableLaws
namespace Go.Proofs.YtaihpnmojiagnaaDoor.Table
open Go.RowKit Mem Wire

theorem dg_le {x : Int} {k : Nat} (h : x.toNat < 128 ^ (k + 1)) : (dg x).length ≤ k + 1 := digits_length_pow k _ h
theorem ino_small {was x : Ino} {f : Bool} (_hi : inoK.inv was) (h : inoK.may was x f = true) : (inoK.put x).length ≤ 12 := by
  obtain ⟨h1, h2, h3⟩ := inoK_may h
  have h4 := blobOk_le h3
  have h5 := bit_le x.dir
  have a1 := dg_le (x := x.num) (k := 2) (by omega)
  have a2 := dg_le (x := bitOf x.dir) (k := 0) (by omega)
  have a3 := dg_le (x := x.links) (k := 2) (by omega)
  have a4 := dg_le (x := x.root) (k := 1) (by omega)
  have a5 := dg_le (x := x.size) (k := 2) (by omega)
  simp only [inoK, List.length_append]
  omega
theorem flat_small : ∀ (l : List Ino) (was : Ino) (f : Bool), inoK.inv was → okAll inoK was f l = true → (flat inoK l).length ≤ 12 * l.length
  | [], _, _, _, _ => by simp [flat]
  | x :: l, was, f, hi, h => by
    simp only [okAll, Bool.and_eq_true] at h
    have h1 := ino_small hi h.1
    have h2 := flat_small l x false (good_ino.step was x f hi h.1) h.2
    have e : flat inoK (x :: l) = inoK.put x ++ flat inoK l := by simp [flat]
    rw [e, List.length_append, List.length_cons]
    omega
theorem sizes_le {l : List Ino} {n : Nat} {T : ByteArray} (hn : l.length = n) (h : lays inoK l = some T.data.toList) : (T.size : Int) ≤ 2 + 12 * (n : Int) ∧ (n : Int) ≤ 4096 := by
  obtain ⟨h1, h2⟩ := lays_some h
  obtain ⟨h3, h4⟩ := ok_iff.mp h1
  have h5 := flat_small l _ _ good_ino.zero h4
  have h6 : (digits l.length).length ≤ 2 := digits_length_pow 1 _ (by omega)
  have h7 := Lib.size_eq T
  rw [← h2, bytes, List.length_append] at h7
  omega

set_option maxRecDepth 100000 in
set_option maxHeartbeats 16000000 in
theorem sizes_any (A1 A2 A3 : Option Addr) (n1 n2 n3 c1 c2 c3 : Nat) (l1 : List Ino) (l2 : List Ent) (l3 : List Snp) (w : World) (hL : Laid w)
    (hr1 : Row w A1 (n1 * 5) (l1.flatMap inoC)) (hn1 : l1.length = n1) (hm1 : n1 ≤ 9223372036854775807)
    (hr2 : Row w A2 (n2 * 2) (l2.flatMap entC)) (hn2 : l2.length = n2) (_hm2 : n2 ≤ 9223372036854775807) 
    (hr3 : Row w A3 (n3 * 5) (l3.flatMap snpC)) (hn3 : l3.length = n3) (_hm3 : n3 ≤ 9223372036854775807) :
    Calls Tryd.prog 5 #[.agg #[.slice A1 n1 c1, .slice A2 n2 c2, .slice A3 n3 c3]] w fun e w' => e = .returned (.bool true) ∧ Below w.heap.size w w' := by
  have hp := hL.pos
  have hg1 : ∀ x ∈ l1, inoBig x := fun _ _ => trivial
  have hg2 : ∀ x ∈ l2, entBig x := fun _ _ => trivial
  have hg3 : ∀ x ∈ l3, snpBig x := fun _ _ => trivial
  have q0 := Blk.new w 28 #[.slice A1 n1 c1, .slice A2 n2 c2, .slice A3 n3 c3]
  have hb0 : Below w.heap.size w (w.alloc (.cells #[.slice A1 n1 c1, .slice A2 n2 c2, .slice A3 n3 c3] 28)) := (Below.refl _ _).alloc (Nat.le_refl _) _
  have hz : w.heap.size + 1 ≤ (w.alloc (.cells #[.slice A1 n1 c1, .slice A2 n2 c2, .slice A3 n3 c3] 28)).heap.size := by simp
  have hL0 := hL.below hb0 hp
  replace hr1 := Lib.hid (hr1.below hb0)
  replace hr2 := Lib.hid (hr2.below hb0)
  replace hr3 := Lib.hid (hr3.below hb0)
  replace hn1 := Lib.hid hn1
  replace hn2 := Lib.hid hn2
  replace hn3 := Lib.hid hn3
  replace hg1 := Lib.hid hg1
  replace hg2 := Lib.hid hg2
  replace hg3 := Lib.hid hg3
  replace hb0 := Lib.hid hb0
  have e1 : lays inoK l1 = none ∨ ∃ T : ByteArray, lays inoK l1 = some T.data.toList := by
    cases h : lays inoK l1 with
    | none => exact Or.inl rfl
    | some bs => exact Or.inr ⟨⟨bs.toArray⟩, rfl⟩
  go_enter Tryd.func5, Tryd.ntmps5
  go_wp2_with fail
  generalize w.alloc (.cells #[.slice A1 n1 c1, .slice A2 n2 c2, .slice A3 n3 c3] 28) = w0 at q0 hb0 hz hL0 hr1 hr2 hr3 ⊢
  have hb := Lib.hid (Below.refl (w.heap.size + 1) w0)
  have k0 := q0.cell 0
  have k1 := q0.cell 1
  have k2 := q0.cell 2
  have x0 := k0
  have x1 := k1
  have x2 := k2
  replace k0 := Lib.hid k0
  replace k1 := Lib.hid k1
  replace k2 := Lib.hid k2
  replace q0 := Lib.hid q0
  rcases e1 with e1 | ⟨T1, e1⟩
  all_goals
    replace e1 := Lib.hid e1
    go_wp2_with fail
    first
      | (refine (oI_none hr1.out hn1.out hg1.out hm1 e1.out).mono ?_; rintro e v1 ⟨rfl, d1⟩)
      | (refine (oI_some hr1.out hn1.out hg1.out hm1 e1.out).mono ?_; rintro e v1 ⟨rfl, d1⟩)
    replace hb := Lib.hid (hb.out.trans (d1.mono hz))
    replace hz := Nat.le_trans hz d1.size
    try replace hr1 := Lib.hid (hr1.out.below d1)
    replace x0 := (hb.out.cell (p := ⟨w.heap.size, 0, none⟩) (Nat.lt_succ_self _)).trans k0.out
    replace x1 := (hb.out.cell (p := ⟨w.heap.size, 1, none⟩) (Nat.lt_succ_self _)).trans k1.out
    replace x2 := (hb.out.cell (p := ⟨w.heap.size, 2, none⟩) (Nat.lt_succ_self _)).trans k2.out
    clear d1
    go_wp2_with fail
    refine (oI_some (A := none) (n := 0) (c := 0) (l := []) (s := ⟨#[0]⟩) (Row.nil_ _) rfl (by simp) (by decide) (by kernel_rfl)).mono ?_
    rintro e y4 ⟨rfl, d4⟩
    replace hb := Lib.hid (hb.out.trans (d4.mono hz))
    replace hz := Nat.le_trans hz d4.size
    replace x0 := (hb.out.cell (p := ⟨w.heap.size, 0, none⟩) (Nat.lt_succ_self _)).trans k0.out
    replace x1 := (hb.out.cell (p := ⟨w.heap.size, 1, none⟩) (Nat.lt_succ_self _)).trans k1.out
    replace x2 := (hb.out.cell (p := ⟨w.heap.size, 2, none⟩) (Nat.lt_succ_self _)).trans k2.out
    clear d4
    go_wp2_with fail
    refine (oE_some (A := none) (n := 0) (c := 0) (l := []) (s := ⟨#[0]⟩) (Row.nil_ _) rfl (by simp) (by decide) (by kernel_rfl)).mono ?_
    rintro e y5 ⟨rfl, d5⟩
    replace hb := Lib.hid (hb.out.trans (d5.mono hz))
    replace hz := Nat.le_trans hz d5.size
    replace x0 := (hb.out.cell (p := ⟨w.heap.size, 0, none⟩) (Nat.lt_succ_self _)).trans k0.out
    replace x1 := (hb.out.cell (p := ⟨w.heap.size, 1, none⟩) (Nat.lt_succ_self _)).trans k1.out
    replace x2 := (hb.out.cell (p := ⟨w.heap.size, 2, none⟩) (Nat.lt_succ_self _)).trans k2.out
    clear d5
    go_wp2_with fail
    refine (oS_some (A := none) (n := 0) (c := 0) (l := []) (s := ⟨#[0]⟩) (Row.nil_ _) rfl (by simp) (by decide) (by kernel_rfl)).mono ?_
    rintro e y6 ⟨rfl, d6⟩
    replace hb := Lib.hid (hb.out.trans (d6.mono hz))
    replace hz := Nat.le_trans hz d6.size
    replace x0 := (hb.out.cell (p := ⟨w.heap.size, 0, none⟩) (Nat.lt_succ_self _)).trans k0.out
    replace x1 := (hb.out.cell (p := ⟨w.heap.size, 1, none⟩) (Nat.lt_succ_self _)).trans k1.out
    replace x2 := (hb.out.cell (p := ⟨w.heap.size, 2, none⟩) (Nat.lt_succ_self _)).trans k2.out
    clear d6
    go_wp2_with fail
    refine (fixed_any _ (hL0.below hb.out (by omega))).mono ?_
    rintro e wf ⟨rfl, bf⟩
    replace hb := Lib.hid (hb.out.trans (bf.mono hz))
    replace hz := Nat.le_trans hz bf.size
    replace x0 := (hb.out.cell (p := ⟨w.heap.size, 0, none⟩) (Nat.lt_succ_self _)).trans k0.out
    replace x1 := (hb.out.cell (p := ⟨w.heap.size, 1, none⟩) (Nat.lt_succ_self _)).trans k1.out
    replace x2 := (hb.out.cell (p := ⟨w.heap.size, 2, none⟩) (Nat.lt_succ_self _)).trans k2.out
    clear bf
    try (have ht := sizes_le hn1.out e1.out; have htn := ht.2; replace ht := ht.1)
    go_wp2_with fail
    go_ret
    exact ⟨rfl, hb0.out.trans (hb.out.mono (Nat.le_succ _))⟩
end Go.Proofs.YtaihpnmojiagnaaDoor.Table

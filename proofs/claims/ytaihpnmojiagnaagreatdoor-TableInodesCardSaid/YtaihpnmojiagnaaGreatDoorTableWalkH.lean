/- The document's comparing of lists. (Printed by gensame.py.) -/
import Derived.Test.YtaihpnmojiagnaaGreatDoorTableWalkG
import Derived.Laws.StructEq
import Derived.Deep.QuietTactic
import Derived.BigQuiet
namespace Go.Proofs.YtaihpnmojiagnaaGreatDoor.Table
open Go.RowKit Mem Wire

def SamePost (w : World) (b : Bool) (e : Ending) (w' : World) : Prop := e = .returned (.bool b) ∧ ∃ q, w' = w.drewN q
theorem ent_ext {x y : Ent} (h1 : x.name.toList = y.name.toList) (h2 : x.num = y.num) : x = y := by
  cases x; cases y
  simp only [Ent.mk.injEq] at *
  exact ⟨by rw [ByteArray.ext_iff, ← Array.toList_inj]; simpa [Lib.toList_data] using h1, h2⟩
theorem neq_ent (x y : Ent) (W : World) : (binOp .neq 65 (entV x) (entV y)).run Tryz.prog W = .ok (.bool (!(decide (x = y)))) W := by
  by_cases h : x = y
  · subst h
    unfold entV
    go_simp
  · rw [decide_eq_false h]
    unfold entV
    go_simp
    intros
    intro _
    exact h (ent_ext ‹_› ‹_›)
theorem ino_ext {x y : Ino} (h1 : x.num = y.num) (h2 : x.dir = y.dir) (h3 : x.links = y.links) (h4 : x.root = y.root) (h5 : x.size = y.size) : x = y := by
  cases x; cases y
  simp only [Ino.mk.injEq] at *
  exact ⟨h1, h2, h3, h4, h5⟩
theorem neq_ino (x y : Ino) (W : World) : (binOp .neq 32 (inoV x) (inoV y)).run Tryz.prog W = .ok (.bool (!(decide (x = y)))) W := by
  by_cases h : x = y
  · subst h
    unfold inoV
    go_simp
  · rw [decide_eq_false h]
    unfold inoV
    go_simp
    intros
    intro _
    exact h (ino_ext ‹_› ‹_› ‹_› ‹_› ‹_›)
theorem snp_ext {x y : Snp} (h1 : x.name.toList = y.name.toList) (h2 : x.id = y.id) (h3 : x.plane = y.plane) (h4 : x.root = y.root) (h5 : x.size = y.size) : x = y := by
  cases x; cases y
  simp only [Snp.mk.injEq] at *
  exact ⟨by rw [ByteArray.ext_iff, ← Array.toList_inj]; simpa [Lib.toList_data] using h1, h2, h3, h4, h5⟩
theorem neq_snp (x y : Snp) (W : World) : (binOp .neq 67 (snpV x) (snpV y)).run Tryz.prog W = .ok (.bool (!(decide (x = y)))) W := by
  by_cases h : x = y
  · subst h
    unfold snpV
    go_simp
  · rw [decide_eq_false h]
    unfold snpV
    go_simp
    intros
    intro _
    exact h (snp_ext ‹_› ‹_› ‹_› ‹_› ‹_›)

set_option maxRecDepth 100000 in
set_option maxHeartbeats 4000000 in
theorem ino_same (A B : Option Addr) (n m c d : Nat) (xs ys : List Ino) (w : World) (hx : Row w A (n * 5) (xs.flatMap inoC)) (hxn : xs.length = n) (hy : Row w B (m * 5) (ys.flatMap inoC)) (hym : ys.length = m) (hn : n ≤ 9223372036854775807) :
    Calls Tryz.prog 10 #[.slice A n c, .slice B m d] w (SamePost w (decide (xs = ys))) := by
  have hxl := Lib.hid hxn
  have hyl := Lib.hid hym
  clear hxn hym
  by_cases hnm : n = m
  · subst hnm
    have hne : ((n : Int) != (n : Int)) = false := by simp
    go_enter Tryz.func10, Tryz.ntmps10
    go_wp2_with fail
    go_loopw [5] (fun i wr => ∃ k q : Nat, k ≤ n ∧ i = .int .i64 (k : Int) ∧ xs.take k = ys.take k ∧ wr = w.drewN q) (fun i _ => n - (intOf i).toNat)
    case atStart => exact ⟨0, 0, Nat.zero_le _, rfl, by simp, rfl⟩
    case round =>
      obtain ⟨k, q, hk, rfl, hpre, rfl⟩ := hrel
      have hpre' := Lib.hid hpre
      clear hpre
      by_cases hlt : k < n
      · obtain ⟨x, hx1⟩ : ∃ x, xs[k]? = some x := ⟨_, List.getElem?_eq_getElem (by rw [hxl.out]; exact hlt)⟩
        obtain ⟨y, hy1⟩ : ∃ y, ys[k]? = some y := ⟨_, List.getElem?_eq_getElem (by rw [hyl.out]; exact hlt)⟩
        obtain ⟨ad, ha, hc⟩ := row_elem (sz := 5) (fun _ => rfl) (by decide) hx hx1
        obtain ⟨bd, hb, hd⟩ := row_elem (sz := 5) (fun _ => rfl) (by decide) hy hy1
        subst ha
        subst hb
        have cx0 : w.cell? (ad.add (k * 5)) = some (.int .i64 x.num) := hc 0 _ rfl
        have cx1 : w.cell? (⟨(ad.add (k * 5)).block, (ad.add (k * 5)).off + 1, none⟩) = some (.bool x.dir) := hc 1 _ rfl
        have cx2 : w.cell? (⟨(ad.add (k * 5)).block, (ad.add (k * 5)).off + 2, none⟩) = some (.int .i64 x.links) := hc 2 _ rfl
        have cx3 : w.cell? (⟨(ad.add (k * 5)).block, (ad.add (k * 5)).off + 3, none⟩) = some (.int .i64 x.root) := hc 3 _ rfl
        have cx4 : w.cell? (⟨(ad.add (k * 5)).block, (ad.add (k * 5)).off + 4, none⟩) = some (.int .i64 x.size) := hc 4 _ rfl
        have cy0 : w.cell? (bd.add (k * 5)) = some (.int .i64 y.num) := hd 0 _ rfl
        have cy1 : w.cell? (⟨(bd.add (k * 5)).block, (bd.add (k * 5)).off + 1, none⟩) = some (.bool y.dir) := hd 1 _ rfl
        have cy2 : w.cell? (⟨(bd.add (k * 5)).block, (bd.add (k * 5)).off + 2, none⟩) = some (.int .i64 y.links) := hd 2 _ rfl
        have cy3 : w.cell? (⟨(bd.add (k * 5)).block, (bd.add (k * 5)).off + 3, none⟩) = some (.int .i64 y.root) := hd 3 _ rfl
        have cy4 : w.cell? (⟨(bd.add (k * 5)).block, (bd.add (k * 5)).off + 4, none⟩) = some (.int .i64 y.size) := hd 4 _ rfl
        have hx2 := Lib.hid hx1
        have hy2 := Lib.hid hy1
        have hk0 : (0 : Int) ≤ (k : Int) := by omega
        have hkI : (k : Int) < (n : Int) := by omega
        have hq := Lib.hid (neq_ino x y)
        clear hx1 hy1 hc hd
        by_cases hxy : x = y
        · subst hxy
          have hq2 := hq.out
          rw [decide_eq_true rfl] at hq2
          unfold inoV at hq2
          go_wp2_with fail
          go_quiet (fail)
          go_wp2_with fail
          go_roundw
          case rel => exact ⟨k + 1, _, by omega, by go_num, by rw [take_snoc' hx2.out, take_snoc' hy2.out, hpre'.out], rfl⟩
          case measure => simp [intOf]; omega
        · have hq2 := hq.out
          rw [decide_eq_false hxy] at hq2
          unfold inoV at hq2
          have hxy' := Lib.hid hxy
          clear hxy
          go_wp2_with fail
          go_quiet (fail)
          go_wp2_with fail
          all_goals go_ret
          all_goals
            refine ⟨?_, _, World.drewN_drewN _ _ _⟩
            have : ¬ xs = ys := fun h => hxy'.out (by have h1 := hx2.out; rw [h, hy2.out] at h1; exact (Option.some.inj h1).symm)
            simp only [this, decide_false]
            rfl
      · obtain rfl : k = n := by omega
        have hxy : xs = ys := by
          have := hpre'.out
          rwa [List.take_of_length_le (by rw [hxl.out]; exact Nat.le_refl _), List.take_of_length_le (by rw [hyl.out]; exact Nat.le_refl _)] at this
        subst hxy
        go_wp2_with fail
        go_ret
        exact ⟨by simp, _, rfl⟩
  · have hne : ((n : Int) != (m : Int)) = true := by simp; omega
    go_enter Tryz.func10, Tryz.ntmps10
    go_wp2_with fail
    go_ret
    refine ⟨?_, 0, rfl⟩
    rw [decide_eq_false (fun h => hnm (by rw [← hxl.out, ← hyl.out, h]))]
    rfl

set_option maxRecDepth 100000 in
set_option maxHeartbeats 4000000 in
theorem ent_same (A B : Option Addr) (n m c d : Nat) (xs ys : List Ent) (w : World) (hx : Row w A (n * 2) (xs.flatMap entC)) (hxn : xs.length = n) (hy : Row w B (m * 2) (ys.flatMap entC)) (hym : ys.length = m) (hn : n ≤ 9223372036854775807) :
    Calls Tryz.prog 16 #[.slice A n c, .slice B m d] w (SamePost w (decide (xs = ys))) := by
  have hxl := Lib.hid hxn
  have hyl := Lib.hid hym
  clear hxn hym
  by_cases hnm : n = m
  · subst hnm
    have hne : ((n : Int) != (n : Int)) = false := by simp
    go_enter Tryz.func16, Tryz.ntmps16
    go_wp2_with fail
    go_loopw [5] (fun i wr => ∃ k q : Nat, k ≤ n ∧ i = .int .i64 (k : Int) ∧ xs.take k = ys.take k ∧ wr = w.drewN q) (fun i _ => n - (intOf i).toNat)
    case atStart => exact ⟨0, 0, Nat.zero_le _, rfl, by simp, rfl⟩
    case round =>
      obtain ⟨k, q, hk, rfl, hpre, rfl⟩ := hrel
      have hpre' := Lib.hid hpre
      clear hpre
      by_cases hlt : k < n
      · obtain ⟨x, hx1⟩ : ∃ x, xs[k]? = some x := ⟨_, List.getElem?_eq_getElem (by rw [hxl.out]; exact hlt)⟩
        obtain ⟨y, hy1⟩ : ∃ y, ys[k]? = some y := ⟨_, List.getElem?_eq_getElem (by rw [hyl.out]; exact hlt)⟩
        obtain ⟨ad, ha, hc⟩ := row_elem (sz := 2) (fun _ => rfl) (by decide) hx hx1
        obtain ⟨bd, hb, hd⟩ := row_elem (sz := 2) (fun _ => rfl) (by decide) hy hy1
        subst ha
        subst hb
        have cx0 : w.cell? (ad.add (k * 2)) = some (.string x.name) := hc 0 _ rfl
        have cx1 : w.cell? (⟨(ad.add (k * 2)).block, (ad.add (k * 2)).off + 1, none⟩) = some (.int .i64 x.num) := hc 1 _ rfl
        have cy0 : w.cell? (bd.add (k * 2)) = some (.string y.name) := hd 0 _ rfl
        have cy1 : w.cell? (⟨(bd.add (k * 2)).block, (bd.add (k * 2)).off + 1, none⟩) = some (.int .i64 y.num) := hd 1 _ rfl
        have hx2 := Lib.hid hx1
        have hy2 := Lib.hid hy1
        have hk0 : (0 : Int) ≤ (k : Int) := by omega
        have hkI : (k : Int) < (n : Int) := by omega
        have hq := Lib.hid (neq_ent x y)
        clear hx1 hy1 hc hd
        by_cases hxy : x = y
        · subst hxy
          have hq2 := hq.out
          rw [decide_eq_true rfl] at hq2
          unfold entV at hq2
          go_wp2_with fail
          go_quiet (fail)
          go_wp2_with fail
          go_roundw
          case rel => exact ⟨k + 1, _, by omega, by go_num, by rw [take_snoc' hx2.out, take_snoc' hy2.out, hpre'.out], rfl⟩
          case measure => simp [intOf]; omega
        · have hq2 := hq.out
          rw [decide_eq_false hxy] at hq2
          unfold entV at hq2
          have hxy' := Lib.hid hxy
          clear hxy
          go_wp2_with fail
          go_quiet (fail)
          go_wp2_with fail
          all_goals go_ret
          all_goals
            refine ⟨?_, _, World.drewN_drewN _ _ _⟩
            have : ¬ xs = ys := fun h => hxy'.out (by have h1 := hx2.out; rw [h, hy2.out] at h1; exact (Option.some.inj h1).symm)
            simp only [this, decide_false]
            rfl
      · obtain rfl : k = n := by omega
        have hxy : xs = ys := by
          have := hpre'.out
          rwa [List.take_of_length_le (by rw [hxl.out]; exact Nat.le_refl _), List.take_of_length_le (by rw [hyl.out]; exact Nat.le_refl _)] at this
        subst hxy
        go_wp2_with fail
        go_ret
        exact ⟨by simp, _, rfl⟩
  · have hne : ((n : Int) != (m : Int)) = true := by simp; omega
    go_enter Tryz.func16, Tryz.ntmps16
    go_wp2_with fail
    go_ret
    refine ⟨?_, 0, rfl⟩
    rw [decide_eq_false (fun h => hnm (by rw [← hxl.out, ← hyl.out, h]))]
    rfl

set_option maxRecDepth 100000 in
set_option maxHeartbeats 4000000 in
theorem snp_same (A B : Option Addr) (n m c d : Nat) (xs ys : List Snp) (w : World) (hx : Row w A (n * 5) (xs.flatMap snpC)) (hxn : xs.length = n) (hy : Row w B (m * 5) (ys.flatMap snpC)) (hym : ys.length = m) (hn : n ≤ 9223372036854775807) :
    Calls Tryz.prog 21 #[.slice A n c, .slice B m d] w (SamePost w (decide (xs = ys))) := by
  have hxl := Lib.hid hxn
  have hyl := Lib.hid hym
  clear hxn hym
  by_cases hnm : n = m
  · subst hnm
    have hne : ((n : Int) != (n : Int)) = false := by simp
    go_enter Tryz.func21, Tryz.ntmps21
    go_wp2_with fail
    go_loopw [5] (fun i wr => ∃ k q : Nat, k ≤ n ∧ i = .int .i64 (k : Int) ∧ xs.take k = ys.take k ∧ wr = w.drewN q) (fun i _ => n - (intOf i).toNat)
    case atStart => exact ⟨0, 0, Nat.zero_le _, rfl, by simp, rfl⟩
    case round =>
      obtain ⟨k, q, hk, rfl, hpre, rfl⟩ := hrel
      have hpre' := Lib.hid hpre
      clear hpre
      by_cases hlt : k < n
      · obtain ⟨x, hx1⟩ : ∃ x, xs[k]? = some x := ⟨_, List.getElem?_eq_getElem (by rw [hxl.out]; exact hlt)⟩
        obtain ⟨y, hy1⟩ : ∃ y, ys[k]? = some y := ⟨_, List.getElem?_eq_getElem (by rw [hyl.out]; exact hlt)⟩
        obtain ⟨ad, ha, hc⟩ := row_elem (sz := 5) (fun _ => rfl) (by decide) hx hx1
        obtain ⟨bd, hb, hd⟩ := row_elem (sz := 5) (fun _ => rfl) (by decide) hy hy1
        subst ha
        subst hb
        have cx0 : w.cell? (ad.add (k * 5)) = some (.string x.name) := hc 0 _ rfl
        have cx1 : w.cell? (⟨(ad.add (k * 5)).block, (ad.add (k * 5)).off + 1, none⟩) = some (.int .i64 x.id) := hc 1 _ rfl
        have cx2 : w.cell? (⟨(ad.add (k * 5)).block, (ad.add (k * 5)).off + 2, none⟩) = some (.int .i64 x.plane) := hc 2 _ rfl
        have cx3 : w.cell? (⟨(ad.add (k * 5)).block, (ad.add (k * 5)).off + 3, none⟩) = some (.int .i64 x.root) := hc 3 _ rfl
        have cx4 : w.cell? (⟨(ad.add (k * 5)).block, (ad.add (k * 5)).off + 4, none⟩) = some (.int .i64 x.size) := hc 4 _ rfl
        have cy0 : w.cell? (bd.add (k * 5)) = some (.string y.name) := hd 0 _ rfl
        have cy1 : w.cell? (⟨(bd.add (k * 5)).block, (bd.add (k * 5)).off + 1, none⟩) = some (.int .i64 y.id) := hd 1 _ rfl
        have cy2 : w.cell? (⟨(bd.add (k * 5)).block, (bd.add (k * 5)).off + 2, none⟩) = some (.int .i64 y.plane) := hd 2 _ rfl
        have cy3 : w.cell? (⟨(bd.add (k * 5)).block, (bd.add (k * 5)).off + 3, none⟩) = some (.int .i64 y.root) := hd 3 _ rfl
        have cy4 : w.cell? (⟨(bd.add (k * 5)).block, (bd.add (k * 5)).off + 4, none⟩) = some (.int .i64 y.size) := hd 4 _ rfl
        have hx2 := Lib.hid hx1
        have hy2 := Lib.hid hy1
        have hk0 : (0 : Int) ≤ (k : Int) := by omega
        have hkI : (k : Int) < (n : Int) := by omega
        have hq := Lib.hid (neq_snp x y)
        clear hx1 hy1 hc hd
        by_cases hxy : x = y
        · subst hxy
          have hq2 := hq.out
          rw [decide_eq_true rfl] at hq2
          unfold snpV at hq2
          go_wp2_with fail
          go_quiet (fail)
          go_wp2_with fail
          go_roundw
          case rel => exact ⟨k + 1, _, by omega, by go_num, by rw [take_snoc' hx2.out, take_snoc' hy2.out, hpre'.out], rfl⟩
          case measure => simp [intOf]; omega
        · have hq2 := hq.out
          rw [decide_eq_false hxy] at hq2
          unfold snpV at hq2
          have hxy' := Lib.hid hxy
          clear hxy
          go_wp2_with fail
          go_quiet (fail)
          go_wp2_with fail
          all_goals go_ret
          all_goals
            refine ⟨?_, _, World.drewN_drewN _ _ _⟩
            have : ¬ xs = ys := fun h => hxy'.out (by have h1 := hx2.out; rw [h, hy2.out] at h1; exact (Option.some.inj h1).symm)
            simp only [this, decide_false]
            rfl
      · obtain rfl : k = n := by omega
        have hxy : xs = ys := by
          have := hpre'.out
          rwa [List.take_of_length_le (by rw [hxl.out]; exact Nat.le_refl _), List.take_of_length_le (by rw [hyl.out]; exact Nat.le_refl _)] at this
        subst hxy
        go_wp2_with fail
        go_ret
        exact ⟨by simp, _, rfl⟩
  · have hne : ((n : Int) != (m : Int)) = true := by simp; omega
    go_enter Tryz.func21, Tryz.ntmps21
    go_wp2_with fail
    go_ret
    refine ⟨?_, 0, rfl⟩
    rw [decide_eq_false (fun h => hnm (by rw [← hxl.out, ← hyl.out, h]))]
    rfl
end Go.Proofs.YtaihpnmojiagnaaGreatDoor.Table

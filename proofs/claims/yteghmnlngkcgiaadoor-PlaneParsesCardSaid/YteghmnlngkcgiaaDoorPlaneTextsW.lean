/- The walk of the law PlaneTexts. -/
import Derived.Test.YteghmnlngkcgiaaDoorPlaneLaws
import Derived.Test.YteghmnlngkcgiaaDoorDoorP
namespace Go.Proofs.YteghmnlngkcgiaaDoor.Planes
open Go.RowKit Mem Sets

theorem textL_first {B : Nat} {P : Pl} (h : FitAll B P) : byteAt (textL B P) 0 = 0 := by
  refine Classical.byContradiction fun hn => ?_
  obtain ⟨p, hp, h1⟩ := (byte_nz _ _).1 hn
  rw [has_textL h hp] at h1
  have := ((h p hp).2 0 h1).1
  omega
theorem textB_size (B : Nat) (P : Pl) : (⟨(textL B P).toArray⟩ : ByteArray).size = B := by
  show (textL B P).toArray.size = B
  rw [List.size_toArray, textL_length]
theorem parse_text {B : Nat} {P : Pl} (w : World) (h : FitAll B P) (hB : 8 ≤ B ∧ B ≤ 4096) :
    Calls Tryd.prog 11 #[.string ⟨(textL B P).toArray⟩] w fun e w' => e = .returned (.tuple #[.pointer (some ⟨w.heap.size, 0, none⟩), .int .i64 0]) ∧ PMap w' w.heap.size B P ∧ Below w.heap.size w w' := by
  have hok : okText ⟨(textL B P).toArray⟩ = true := by
    unfold okText
    rw [Bool.and_eq_true, okB_iff, decide_eq_true_eq, textB_size]
    exact ⟨by omega, textL_first h⟩
  refine (parse_ok _ w hok).mono ?_
  rintro e w' ⟨h1, h2, h3⟩
  rw [textB_size] at h2
  exact ⟨h1, h2.congr fun k hk => setOf_textL h hk, h3⟩

set_option maxRecDepth 100000 in
set_option maxHeartbeats 2000000 in
theorem lawtexts_any (n : Int) (A : Option Addr) (len cap : Nat) (w : World) (hlen : len ≤ maxLen) (ho : Door.Ops4 (fun s => s.size ≤ 140737488355328) w A len) :
    Calls Tryd.prog 7 #[.int .i64 n, .slice A len cap] w fun e w' => e = .returned (.bool true) ∧ Below w.heap.size w w' := by
  unfold maxLen at hlen
  have k0 := Lib.hid (fun W => bound_any n W)
  obtain ⟨B1, B2⟩ := bnd_le n
  generalize bnd n = B at k0 B1 B2
  have k1 := Lib.hid (new_ok B w (by omega))
  obtain ⟨g, hg⟩ : ∃ g, g = w.heap.size := ⟨_, rfl⟩
  rw [← hg] at k1
  have le_hp : w.heap.size ≤ g := Nat.le_of_eq hg.symm
  replace hg := Lib.hid hg
  have hB : B ≤ 4096 := by omega
  replace ho := Lib.hid ho
  go_enter Tryd.func7, Tryd.ntmps7
  go_wp2_with fail
  refine (k0.out _).mono ?_
  rintro en w' ⟨rfl, hw'⟩
  replace hw' := hw'.symm
  subst hw'
  go_wp2_with fail
  refine k1.out.mono ?_
  rintro en w1 ⟨rfl, hp, hb⟩
  rw [hg.out] at hb
  go_wp2_with fail
  replace hp := Lib.hid hp
  replace hb := Lib.hid hb
  go_loopw [7] (fun y wr => ∃ (k : Nat) (P : Pl), k ≤ len ∧ y = .int .i64 (k : Int) ∧ FitAll B P ∧ PMap wr g B P ∧ Below w.heap.size w wr) (fun y _ => len - (intOf y).toNat)
  case atStart => exact ⟨0, none8, by omega, rfl, fit_none8 B, hp.out, hb.out⟩
  case round =>
    clear hp hb
    obtain ⟨k, P, hk, rfl, hf, hp, hb⟩ := hrel
    have hs := hb.size
    by_cases hlt : k < len ∧ k < 60
    · obtain ⟨hlt, h60⟩ := hlt
      obtain ⟨ad, x, y, z, s, rfl, hblk, _, my, _, ms, by_, _, hsz⟩ := ho.out.below hb k hlt
      have hk0 : (0 : Int) ≤ (k : Int) := by omega
      have hkI : (k : Int) < (len : Int) := by omega
      have d60 : decide ((k : Int) < 60) = true := decide_eq_true (by omega)
      have k2 := Lib.hid (fun W h => put_any g B P W y s h hsz hB)
      have hf2 := Lib.hid (fit_put hf y s)
      replace hp := Lib.hid hp
      clear hf
      go_wp2_with fail
      go_still_tail 11, (by kernel_rfl)
      change wpList _ _ _ _ _ wr.drew
      go_wp2_with fail
      refine (k2.out _ (show PMap wr.drew g B P from hp.out)).mono ?_
      rintro en w2 ⟨rfl, hp2, g2⟩
      replace hb := (show Below w.heap.size w wr.drew from hb.drew).trans (Only.toBelow g2 le_hp hs)
      clear g2 hp my ms hblk
      go_wp2_with fail
      exact ⟨⟨k + 1, _, by omega, rfl, hf2.out, hp2, hb⟩, by simp [intOf]; omega⟩
    · have hend : ¬ k < len ∨ k < len ∧ ¬ k < 60 := by omega
      have k2 := fun W h => text_any g B P W h hf hB
      have k3 := fun W => parse_text W hf ⟨B1, hB⟩ (P := P) (B := B)
      have hts := textB_size B P
      obtain ⟨T, hT⟩ : ∃ T : ByteArray, T = ⟨(textL B P).toArray⟩ := ⟨_, rfl⟩
      rw [← hT] at k2 k3 hts
      replace hT := Lib.hid hT
      have k4 := Lib.hid (fun W h => blocks_any g B P W h)
      have k5 := Lib.hid (fun W gg (k : Nat) (hk : k < 8) h => plane_good gg B P W k k rfl h hk)
      have k6 := Lib.hid (fun W gg h => clear_good gg B P W 0 0 rfl h hB (by decide))
      have k7 := Lib.hid (fun W gg h => put_any gg B (upd P 0 emptyB) W 1 ⟨#[2]⟩ h (by decide) hB)
      replace k2 := Lib.hid k2
      replace k3 := Lib.hid k3
      clear hlt hf
      have hlen : (T.size : Int) = (B : Int) := by omega
      rcases hend with hn | ⟨hlt, hn⟩
      focus
        go_wp2_with fail
        refine (k2.out _ hp).mono ?_
        rintro en w' ⟨rfl, b'⟩
        replace hp := hp.below b'
        replace hb := hb.trans (b'.mono hs)
        clear b'
        replace hs := hb.size
        have hp0 := hp
        go_wp2_with fail
        refine (k3.out _).mono ?_
        rintro en w3 ⟨rfl, hq, b'⟩
        replace hp := hp.below b'
        have le_hq := hb.size
        have ne_hp : some g ≠ some w'.heap.size := fun e => by have := Blk.lt hp0; injection e with e; omega
        generalize w'.heap.size = gg at hq le_hq ne_hp ⊢
        replace hb := hb.trans (b'.mono hs)
        replace hs := hb.size
        clear b' hp0
        go_wp2_with fail
        refine (k4.out _ hp).mono ?_
        rintro en w' ⟨rfl, hw'⟩
        replace hw' := hw'.symm
        subst hw'
        go_wp2_with fail
        replace hp := Lib.hid hp
        replace hq := Lib.hid hq
        replace hb := Lib.hid hb
        clear hs
        go_loopw [11] (fun y wr => ∃ i : Nat, i ≤ 8 ∧ y = .int .i64 (i : Int) ∧ PMap wr g B P ∧ PMap wr gg B P ∧ Below w.heap.size w wr) (fun y _ => 8 - (intOf y).toNat)
        case atStart => exact ⟨0, by omega, rfl, hp.out, hq.out, hb.out⟩
        case round =>
          clear hp hq hb
          obtain ⟨i, hi, rfl, hp, hq, hb⟩ := hrel
          have hs := hb.size
          by_cases hi8 : i < 8
          · have d8 : decide ((i : Int) < 8) = true := decide_eq_true (by omega)
            go_wp2_with fail
            refine (k5.out _ _ _ hi8 hp).mono ?_
            rintro en w' ⟨rfl, b'⟩
            replace hp := hp.below b'
            replace hq := hq.below b'
            replace hb := hb.trans (b'.mono hs)
            clear b'
            replace hs := hb.size
            go_wp2_with fail
            refine (k5.out _ _ _ hi8 hq).mono ?_
            rintro en w' ⟨rfl, b'⟩
            replace hp := hp.below b'
            replace hq := hq.below b'
            replace hb := hb.trans (b'.mono hs)
            clear b'
            replace hs := hb.size
            go_wp2_with fail
            exact ⟨⟨i + 1, by omega, rfl, hp, hq, hb⟩, by simp [intOf]; omega⟩
          · obtain rfl : i = 8 := by omega
            go_wp2_with fail
            refine (k6.out _ _ hq).mono ?_
            rintro en w' ⟨rfl, hp', g'⟩
            replace hp := hp.grown g' ne_hp
            replace hb := hb.trans (Only.toBelow g' le_hq hs)
            replace hq := hp'
            clear g'
            replace hs := hb.size
            go_wp2_with fail
            refine (k7.out _ _ hq).mono ?_
            rintro en w' ⟨rfl, hp', g'⟩
            replace hp := hp.grown g' ne_hp
            replace hb := hb.trans (Only.toBelow g' le_hq hs)
            replace hq := hp'
            clear g'
            replace hs := hb.size
            go_wp2_with fail
            refine (k2.out _ hp).mono ?_
            rintro en w' ⟨rfl, b'⟩
            replace hp := hp.below b'
            replace hb := hb.trans (b'.mono hs)
            clear b'
            replace hs := hb.size
            go_wp2_with fail
            refine (fixed_any _).mono ?_
            rintro en w' ⟨rfl, b'⟩
            replace hb := hb.trans (b'.mono hs)
            clear b'
            replace hs := hb.size
            go_wp2_with fail
            go_ret
            exact ⟨rfl, hb⟩
      focus
        have d60 : decide ((k : Int) < 60) = false := decide_eq_false (by omega)
        go_wp2_with fail
        refine (k2.out _ hp).mono ?_
        rintro en w' ⟨rfl, b'⟩
        replace hp := hp.below b'
        replace hb := hb.trans (b'.mono hs)
        clear b'
        replace hs := hb.size
        have hp0 := hp
        go_wp2_with fail
        refine (k3.out _).mono ?_
        rintro en w3 ⟨rfl, hq, b'⟩
        replace hp := hp.below b'
        have le_hq := hb.size
        have ne_hp : some g ≠ some w'.heap.size := fun e => by have := Blk.lt hp0; injection e with e; omega
        generalize w'.heap.size = gg at hq le_hq ne_hp ⊢
        replace hb := hb.trans (b'.mono hs)
        replace hs := hb.size
        clear b' hp0
        go_wp2_with fail
        refine (k4.out _ hp).mono ?_
        rintro en w' ⟨rfl, hw'⟩
        replace hw' := hw'.symm
        subst hw'
        go_wp2_with fail
        replace hp := Lib.hid hp
        replace hq := Lib.hid hq
        replace hb := Lib.hid hb
        clear hs
        go_loopw [11] (fun y wr => ∃ i : Nat, i ≤ 8 ∧ y = .int .i64 (i : Int) ∧ PMap wr g B P ∧ PMap wr gg B P ∧ Below w.heap.size w wr) (fun y _ => 8 - (intOf y).toNat)
        case atStart => exact ⟨0, by omega, rfl, hp.out, hq.out, hb.out⟩
        case round =>
          clear hp hq hb
          obtain ⟨i, hi, rfl, hp, hq, hb⟩ := hrel
          have hs := hb.size
          by_cases hi8 : i < 8
          · have d8 : decide ((i : Int) < 8) = true := decide_eq_true (by omega)
            go_wp2_with fail
            refine (k5.out _ _ _ hi8 hp).mono ?_
            rintro en w' ⟨rfl, b'⟩
            replace hp := hp.below b'
            replace hq := hq.below b'
            replace hb := hb.trans (b'.mono hs)
            clear b'
            replace hs := hb.size
            go_wp2_with fail
            refine (k5.out _ _ _ hi8 hq).mono ?_
            rintro en w' ⟨rfl, b'⟩
            replace hp := hp.below b'
            replace hq := hq.below b'
            replace hb := hb.trans (b'.mono hs)
            clear b'
            replace hs := hb.size
            go_wp2_with fail
            exact ⟨⟨i + 1, by omega, rfl, hp, hq, hb⟩, by simp [intOf]; omega⟩
          · obtain rfl : i = 8 := by omega
            go_wp2_with fail
            refine (k6.out _ _ hq).mono ?_
            rintro en w' ⟨rfl, hp', g'⟩
            replace hp := hp.grown g' ne_hp
            replace hb := hb.trans (Only.toBelow g' le_hq hs)
            replace hq := hp'
            clear g'
            replace hs := hb.size
            go_wp2_with fail
            refine (k7.out _ _ hq).mono ?_
            rintro en w' ⟨rfl, hp', g'⟩
            replace hp := hp.grown g' ne_hp
            replace hb := hb.trans (Only.toBelow g' le_hq hs)
            replace hq := hp'
            clear g'
            replace hs := hb.size
            go_wp2_with fail
            refine (k2.out _ hp).mono ?_
            rintro en w' ⟨rfl, b'⟩
            replace hp := hp.below b'
            replace hb := hb.trans (b'.mono hs)
            clear b'
            replace hs := hb.size
            go_wp2_with fail
            refine (fixed_any _).mono ?_
            rintro en w' ⟨rfl, b'⟩
            replace hb := hb.trans (b'.mono hs)
            clear b'
            replace hs := hb.size
            go_wp2_with fail
            go_ret
            exact ⟨rfl, hb⟩
end Go.Proofs.YteghmnlngkcgiaaDoor.Planes

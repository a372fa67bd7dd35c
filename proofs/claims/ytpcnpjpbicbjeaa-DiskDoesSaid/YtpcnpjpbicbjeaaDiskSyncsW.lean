/- DiskSyncs: the walk. -/
import Derived.Test.YtpcnpjpbicbjeaaDiskBadsW
import Derived.Test.YtpcnpjpbicbjeaaDiskPlainB
import Derived.Test.YtpcnpjpbicbjeaaDoorD
namespace Go.Proofs.Ytpcnpjpbicbjeaa.Disk
open Go Go.RowKit Go.Maps Mem Door
theorem sloose0 {X : Nat → Prop} {m : Nat} {w : World} {b : Nat} {d : Dk} (h : Hd X m w b d) (hL : d.L = []) : Calls Try.prog 16 #[.pointer (some ⟨b, 0, none⟩)] w fun e w' => e = .returned (.int .i64 0) ∧ w' = w := by
  have c := hloose h
  rw [hL] at c
  exact c
theorem simage {X : Nat → Prop} {m : Nat} {w : World} {b : Nat} {d : Dk} (h : Hd X m w b d) {I : ByteArray} (hI : img d = I) : Calls Try.prog 17 #[.pointer (some ⟨b, 0, none⟩)] w fun e w' => e = .returned (.string I) ∧ Below w.heap.size w w' := by
  refine (himage h).mono ?_
  rintro e w' ⟨rfl, _, hb⟩
  exact ⟨by rw [← hI]; rfl, hb⟩
theorem scrash {X : Nat → Prop} {m N : Nat} {w : World} {b : Nat} {d : Dk} {cur : Nat → ByteArray} {bad : Nat → Bool} (h : Hd X m w b d) (hs : St d N cur bad) (keep : ByteArray) :
    Calls Try.prog 18 #[.pointer (some ⟨b, 0, none⟩), .string keep] w fun e w' => e = .returned (.int .i64 0) ∧ Hd X m w' b (goesD d keep) ∧ KeepX X w w' := by
  have c := hcrash h keep
  rw [hs.crash keep] at c
  exact c
def AnyPost (X : Nat → Prop) (m : Nat) (N : Nat) (b : Nat) (w : World) (e : Ending) (w' : World) : Prop :=
  ∃ (r : Int) (d' : Dk) (cur' : Nat → ByteArray), e = .returned (.int .i64 r) ∧ Hd X (m + 1) w' b d' ∧ KeepX X w w' ∧ St d' N cur' (fun _ => false)
theorem swrite_any {X : Nat → Prop} {m N : Nat} {w : World} {b : Nat} {d : Dk} {cur : Nat → ByteArray} (h : Hd X m w b d) (hs : St d N cur (fun _ => false)) (hm : m ≤ 4611686018427387904) (n : Int) (s : ByteArray) (hz : s.size = 64) :
    Calls Try.prog 12 #[.pointer (some ⟨b, 0, none⟩), .int .i64 n, .string s] w (AnyPost X m N b w) := by
  by_cases hn : n < 0 ∨ (N : Int) ≤ n
  · exact (swrite_no h hs hm n hn s).mono fun e w' ⟨h1, h2, h3⟩ => ⟨_, _, _, h1, h2, h3, hs⟩
  · obtain ⟨k, rfl⟩ := Int.eq_ofNat_of_zero_le (show 0 ≤ n by omega)
    exact (swrite h hs hm k (by omega) rfl s hz).mono fun e w' ⟨h1, d', h2, h3, h4⟩ => ⟨_, _, _, h1, h2, h3, h4⟩
theorem drewB (w : World) : Below w.heap.size w w.drew := (Below.refl _ w).drew
set_option maxRecDepth 100000 in
set_option maxHeartbeats 4000000 in
theorem syncs_any (sec : Int) (A : Option Addr) (n c : Nat) (keep : ByteArray) (w : World) (hops : Ops6 (fun _ => True) w A n) :
    Calls Try.prog 5 #[.int .i64 sec, .slice A n c, .string keep] w fun e w' => e = .returned (.bool true) ∧ Below w.heap.size w w' := by
  obtain ⟨hN1, hN2⟩ := clampN_le sec
  have hmm := clampN_int sec
  generalize clampN sec = N at hN1 hN2 hmm
  have n2 := Lib.hid (hnew w N hN1 (by omega))
  replace hops := Lib.hid hops
  go_enter Try.func5, Try.ntmps5
  go_wp2_with fail
  refine (n2.out).mono ?_
  rintro e w' ⟨b, rfl, h, hb⟩
  have hs := hb.size
  clear n2 hmm
  go_wp2_with fail
  go_loopw [10] (fun t wr => ∃ (k : Nat) (d : Dk) (cur : Nat → ByteArray), k ≤ n ∧ k ≤ 200 ∧ t = .int .i64 (k : Int) ∧ Hd (fun i => i < w.heap.size) k wr b d ∧ St d N cur (fun _ => false) ∧ Below w.heap.size w wr) (fun t _ => n - (intOf t).toNat)
  case atStart => exact ⟨0, _, _, Nat.zero_le _, Nat.zero_le _, rfl, h, St.new N, hb⟩
  case round =>
    clear h hb hs
    obtain ⟨k, d, cur, hk, hk2, rfl, h, st, hb⟩ := hrel
    have hs := hb.size
    by_cases hgo : k < n ∧ k < 200
    · obtain ⟨hlt, hlt2⟩ := hgo
      obtain ⟨ad, x, y, cc, z, s, bb, rfl, _, _, hat⟩ := hops.out.at_ hlt
      replace hat := Lib.hid hat
      replace h := h.below (drewB wr)
      replace hb := hb.drew
      replace hs := hb.size
      obtain ⟨m1, m2⟩ := And.intro (hat.out _ hb).m1 (hat.out _ hb).m2
      have z1 : (0 : Int) ≤ (k : Int) := by omega
      have z2 : (k : Int) < (n : Int) := by omega
      replace h := Lib.hid h
      replace st := Lib.hid st
      replace hb := Lib.hid hb
      go_wp2_with fail
      go_region_held3 (fun w' => w'.cell? ⟨(ad.add (k * 6)).block, (ad.add (k * 6)).off + 1, none⟩ = some (.int .i64 y) ∧ w'.cell? ⟨(ad.add (k * 6)).block, (ad.add (k * 6)).off + 2, none⟩ = some (.int .u8 (cc.toNat : Int)))
        (first
          | exact ⟨m1, m2⟩
          | exact ⟨n1, n2⟩
          | exact ⟨o1, o2⟩
          | go_keep)
        (first
          | (go_at_call 10; refine (sec64 cc _).mono ?_; rintro e w1 ⟨rfl, b1⟩; have hb1 := Lib.hid (hb.out.trans (b1.mono hs)); obtain ⟨n1, n2⟩ := And.intro (hat.out _ hb1.out).m1 (hat.out _ hb1.out).m2)
          | (go_at_call 12; refine (swrite_any (h.out.below b1) st.out (by omega) y _ (secB_size _ _)).mono ?_; rintro e w2 ⟨r, d', cur', rfl, h', k', s'⟩; have hb2 := Lib.hid (hb1.out.trans (k'.toBelow (fun i hi => hi) hb1.out.size)); obtain ⟨o1, o2⟩ := And.intro (hat.out _ hb2.out).m1 (hat.out _ hb2.out).m2))
      go_wp2_with fail
      exact ⟨⟨k + 1, d', cur', hlt, hlt2, rfl, h', s', hb2.out⟩, by simp [intOf]; omega⟩
    · have hor : n ≤ k ∨ (k < n ∧ 200 ≤ k) := by omega
      clear hgo
      rcases hor with hge | ⟨hge, hge2⟩
      all_goals
        go_wp2_with fail
        refine (ssync h st (by omega)).mono ?_
        rintro en w' ⟨rfl, d', h', k', s', hL, hS⟩
        replace hb := hb.trans (k'.toBelow (fun i hi => hi) hs)
        replace hs := hb.size
        replace hL := Lib.hid hL
        replace hS := Lib.hid hS
        clear h st k'
        go_wp2_with fail
        refine (sloose0 h' hL.out).mono ?_
        rintro en w' ⟨rfl, hw'⟩
        replace hw' := hw'.symm
        subst hw'
        obtain ⟨I, hI⟩ : ∃ I, img d' = I := ⟨_, rfl⟩
        have hz2 : I.size = 64 * N := by
          have h1 := img_size h'.fit
          rw [hI, s'.len] at h1
          exact h1
        have hz3 : (I.size : Int) = 64 * (N : Int) := by rw [hz2]; simp
        have hparts := Lib.hid (fun k (hk : k < N) => by
          have h1 := img_part h'.fit (s'.stay hL.out hk)
          rw [hI] at h1
          exact h1)
        replace hI := Lib.hid hI
        go_wp2_with fail
        refine (simage h' hI.out).mono ?_
        rintro en w' ⟨rfl, b'⟩
        replace h' := h'.below b'
        replace hb := hb.trans (b'.mono hs)
        replace hs := hb.size
        clear b'
        go_wp2_with fail
        refine (scrash h' s' keep).mono ?_
        rintro en w' ⟨rfl, h2, k'⟩
        replace hb := hb.trans (k'.toBelow (fun i hi => hi) hs)
        replace hs := hb.size
        rw [goes_none hL.out] at h2
        clear h' k'
        go_wp2_with fail
        refine (simage h2 (show img _ = I from hI.out)).mono ?_
        rintro en w' ⟨rfl, b'⟩
        replace h2 := h2.below b'
        replace hb := hb.trans (b'.mono hs)
        replace hs := hb.size
        clear b'
        go_wp2_with fail
        refine (hrevive h2).mono ?_
        rintro en w' ⟨rfl, h, k'⟩
        replace hb := hb.trans (k'.toBelow (fun i hi => hi) hs)
        replace hs := hb.size
        have st := s'.revive
        clear h2 k'
        replace hz3 := Lib.hid hz3
        replace hz2 := Lib.hid hz2
        go_wp2_with fail
        go_loopw [12] (fun t wr => ∃ i : Nat, i ≤ N ∧ t = .int .i64 (i : Int) ∧ Hd (fun i => i < w.heap.size) (k + 1) wr b (reviveD { d' with dead := true, armed := 0 }) ∧ Below w.heap.size w wr) (fun t _ => N - (intOf t).toNat)
        case atStart => exact ⟨0, Nat.zero_le _, rfl, h, hb⟩
        case round =>
          clear h hb hs
          obtain ⟨i, hi, rfl, h, hb⟩ := hrel
          have hs := hb.size
          by_cases hlt : i < N
          · obtain ⟨S, hS'⟩ : ∃ S, cur i = S := ⟨_, rfl⟩
            have ex := hparts.out i hlt
            rw [hS'] at ex
            have e1 : (64 * (i : Int)).toNat = 64 * i := by omega
            have e2 : (64 * (i : Int) + 64).toNat = 64 * i + 64 := by omega
            have e3 : 64 * (i : Int) + 64 ≤ (I.size : Int) := by have := hz3.out; omega
            have kr := sread h st i hlt rfl S hS'
            replace hS' := Lib.hid hS'
            go_wp2_with fail
            refine (kr).mono ?_
            rintro en w' ⟨rfl, hw'⟩
            replace hw' := hw'.symm
            subst hw'
            go_wp2_with fail
            exact ⟨⟨i + 1, hlt, rfl, h, hb⟩, by simp [intOf]; omega⟩
          · obtain rfl : i = N := by omega
            go_wp2_with fail
            refine (fixed_any _).mono ?_
            rintro en w' ⟨rfl, b'⟩
            replace hb := hb.trans (b'.mono hs)
            go_wp2_with fail
            go_ret
            exact ⟨rfl, hb⟩
end Go.Proofs.Ytpcnpjpbicbjeaa.Disk

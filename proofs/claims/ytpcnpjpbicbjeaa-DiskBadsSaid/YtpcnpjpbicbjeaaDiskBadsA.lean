/- DiskBads: the walk. -/
import Derived.Test.YtpcnpjpbicbjeaaDiskBadsW
namespace Go.Proofs.Ytpcnpjpbicbjeaa.Disk
open Go Go.RowKit Go.Maps Mem
set_option maxRecDepth 100000 in
set_option maxHeartbeats 2000000 in
theorem bads_any (sec at_ : Int) (c : UInt8) (w : World) : Calls Try.prog 4 #[.int .i64 sec, .int .i64 at_, .int .u8 (c.toNat : Int)] w fun e w' => e = .returned (.bool true) ∧ Below w.heap.size w w' := by
  obtain ⟨hN1, hN2⟩ := clampN_le sec
  have hmm := clampN_int sec
  generalize clampN sec = N at hN1 hN2 hmm
  obtain ⟨mm, hm1, hm2⟩ := mask16 at_
  replace hm2 := Lib.hid hm2
  have n2 := Lib.hid (hnew w N hN1 (by omega))
  go_enter Try.func4, Try.ntmps4
  go_wp2_with fail
  refine (n2.out).mono ?_
  rintro e w' ⟨b, rfl, h, hb⟩
  have hs := hb.size
  clear n2 hmm
  go_wp2_with fail
  go_loopw [10] (fun t wr => ∃ k d, k ≤ N ∧ t = .int .i64 (k : Int) ∧ Hd (fun i => i < w.heap.size) k wr b d ∧ St d N (fun i => if i < k then secB (c + UInt8.ofNat i) 64 else zero64) (fun _ => false) ∧ Below w.heap.size w wr) (fun t _ => N - (intOf t).toNat)
  case atStart => exact ⟨0, _, Nat.zero_le _, rfl, h, (St.new N).mono (fun i _ => rfl) (fun _ _ => rfl), hb⟩
  case round =>
    clear h hb hs
    obtain ⟨k, d, hk, rfl, h, st, hb⟩ := hrel
    have hs := hb.size
    by_cases hlt : k < N
    · obtain ⟨ck, hck⟩ : ∃ ck, ck = c + UInt8.ofNat k := ⟨_, rfl⟩
      have e1 : ((c.toNat : Int) + (k : Int)) % 256 = (ck.toNat : Int) := by rw [hck]; exact u8_add c k
      replace hck := Lib.hid hck
      have e2 : IntKind.u8.wrap (k : Int) = (k : Int) := by show (k : Int) % 256 = k; omega
      go_wp2_with fail
      refine (sec64 ck _).mono ?_
      rintro en w' ⟨rfl, b'⟩
      replace h := h.below b'
      replace hb := hb.trans (b'.mono hs)
      replace hs := hb.size
      clear b'
      clear e1 e2
      go_wp2_with fail
      refine (swrite h st (by omega) k hlt rfl _ (secB_size _ _)).mono ?_
      rintro en w' ⟨rfl, d', h', k', s'⟩
      replace hb := hb.trans (k'.toBelow (fun i hi => hi) hs)
      replace hs := hb.size
      replace h := h'
      replace st := s'
      clear h' k' s'
      go_wp2_with fail
      refine ⟨⟨k + 1, _, hlt, rfl, h, st.mono (fun i _ => ?_) (fun _ _ => rfl), hb⟩, by simp [intOf]; omega⟩
      by_cases e : i = k
      · rw [if_pos e, if_pos (by omega), e, hck.out]
      · rw [if_neg e]
        by_cases e2 : i < k
        · rw [if_pos e2, if_pos (by omega)]
        · rw [if_neg e2, if_neg (by omega)]
    · obtain rfl : k = N := by omega
      replace st := st.mono (cur' := fun i => secB (c + UInt8.ofNat i) 64) (fun i hi => if_pos hi) (fun _ _ => rfl)
      have e3 : ((mm : Int)).tmod (k : Int) = ((mm % k : Nat) : Int) := rfl
      have hj : mm % k < k := Nat.mod_lt _ (by omega)
      replace hm2 := hm2.out
      generalize mm % k = j at e3 hj
      go_wp2_with fail
      refine (sbad h st (by omega) j hj true).mono ?_
      rintro en w' ⟨rfl, d', h', k', s'⟩
      replace hb := hb.trans (k'.toBelow (fun i hi => hi) hs)
      replace hs := hb.size
      replace h := h'
      replace st := s'
      clear h' k' s'
      go_wp2_with fail
      refine (sec_one _).mono ?_
      rintro en w' ⟨rfl, b'⟩
      replace h := h.below b'
      replace hb := hb.trans (b'.mono hs)
      replace hs := hb.size
      clear b'
      go_wp2_with fail
      refine (swrite_bad h st (by omega) j hj (if_pos rfl) _ (secB_size _ _)).mono ?_
      rintro en w' ⟨rfl, h', k'⟩
      replace hb := hb.trans (k'.toBelow (fun i hi => hi) hs)
      replace hs := hb.size
      replace h := h'
      clear h' k'
      go_wp2_with fail
      refine (ssync h st (by omega)).mono ?_
      rintro en w' ⟨rfl, d', h', k', s'⟩
      replace hb := hb.trans (k'.toBelow (fun i hi => hi) hs)
      replace hs := hb.size
      replace h := h'
      replace st := s'
      clear h' k' s'
      replace st := st.1
      clear e3 hm2
      go_wp2_with fail
      go_loopw [12] (fun t wr => ∃ i : Nat, i ≤ k ∧ t = .int .i64 (i : Int) ∧ Hd (fun i => i < w.heap.size) (k + 1 + 1 + 1) wr b d' ∧ Below w.heap.size w wr) (fun t _ => k - (intOf t).toNat)
      case atStart => exact ⟨0, Nat.zero_le _, rfl, h, hb⟩
      case round =>
        clear h hb hs
        obtain ⟨i, hi, rfl, h, hb⟩ := hrel
        have hs := hb.size
        by_cases hlt : i < k
        · by_cases hij : i = j
          · subst hij
            go_wp2_with fail
            refine (sread_bad h st i hlt (if_pos rfl)).mono ?_
            rintro en w' ⟨rfl, hw'⟩
            replace hw' := hw'.symm
            subst hw'
            go_wp2_with fail
            exact ⟨⟨i + 1, hlt, rfl, h, hb⟩, by simp [intOf]; omega⟩
          · obtain ⟨ck, hck⟩ : ∃ ck, ck = c + UInt8.ofNat i := ⟨_, rfl⟩
            have e1 : ((c.toNat : Int) + (i : Int)) % 256 = (ck.toNat : Int) := by rw [hck]; exact u8_add c i
            have q1 : ((i : Int) == (j : Int)) = false := by simp; omega
            have q2 : ((i : Int) != (j : Int)) = true := by simp; omega
            go_wp2_with fail
            refine (sread h st i hlt (if_neg hij) (secB ck 64) (by rw [hck])).mono ?_
            rintro en w' ⟨rfl, hw'⟩
            replace hw' := hw'.symm
            subst hw'
            replace hck := Lib.hid hck
            go_wp2_with fail
            refine (sec64 ck _).mono ?_
            rintro en w' ⟨rfl, b'⟩
            replace h := h.below b'
            replace hb := hb.trans (b'.mono hs)
            replace hs := hb.size
            clear b'
            go_wp2_with fail
            exact ⟨⟨i + 1, hlt, rfl, h, hb⟩, by simp [intOf]; omega⟩
        · obtain rfl : i = k := by omega
          go_wp2_with fail
          refine (sbad h st (by omega) j hj false).mono ?_
          rintro en w' ⟨rfl, d', h', k', s'⟩
          replace hb := hb.trans (k'.toBelow (fun i hi => hi) hs)
          replace hs := hb.size
          replace h := h'
          replace st := s'
          clear h' k' s'
          obtain ⟨ck, hck⟩ : ∃ ck, ck = c + UInt8.ofNat j := ⟨_, rfl⟩
          have e1 : ((c.toNat : Int) + (j : Int)) % 256 = (ck.toNat : Int) := by rw [hck]; exact u8_add c j
          go_wp2_with fail
          refine (sread h st j hj (if_pos rfl) (secB ck 64) (by rw [hck])).mono ?_
          rintro en w' ⟨rfl, hw'⟩
          replace hw' := hw'.symm
          subst hw'
          replace hck := Lib.hid hck
          go_wp2_with fail
          refine (sec64 ck _).mono ?_
          rintro en w' ⟨rfl, b'⟩
          replace h := h.below b'
          replace hb := hb.trans (b'.mono hs)
          replace hs := hb.size
          clear b'
          go_wp2_with fail
          refine (fixed_any _).mono ?_
          rintro en w' ⟨rfl, b'⟩
          replace hb := hb.trans (b'.mono hs)
          go_wp2_with fail
          go_ret
          exact ⟨rfl, hb⟩
end Go.Proofs.Ytpcnpjpbicbjeaa.Disk

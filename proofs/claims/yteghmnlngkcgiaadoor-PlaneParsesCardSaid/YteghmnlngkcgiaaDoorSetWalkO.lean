/- Sets: the document's Make. Printed by genmake.py. -/
import Derived.Test.YteghmnlngkcgiaaDoorSetWalkN
namespace Go.Proofs.YteghmnlngkcgiaaDoor.Sets
open Go.RowKit Mem

/-- the three ways to make a set of two -/
def way : Nat → Bool → Bool → Bool
  | 0, a, b => a && b
  | 1, a, b => a || b
  | _, a, b => a && !b
theorem way_beyond (k : Nat) : way k false false = false := by
  rcases k with _ | _ | k <;> rfl
theorem bsum_step (p : Nat → Bool) (t : Nat) (ht : t < 8) (h : p t = true) : IntKind.u8.wrap ((bsum p t : Nat) + 2 ^ t) = ((bsum p (t + 1) : Nat) : Int) := by
  have e : bsum p (t + 1) = bsum p t + 2 ^ t := by rw [bsum, if_pos h]
  have hl := bsum_lt p (t + 1)
  have h8 : 2 ^ (t + 1) ≤ 2 ^ 8 := Nat.pow_le_pow_right (by decide) (by omega)
  rw [e] at hl
  rw [IntKind.wrap_u8, e, Int.natCast_add, show ((2 ^ t : Nat) : Int) = 2 ^ t by rw [Int.natCast_pow]; rfl]
  have hp : ((2 ^ t : Nat) : Int) = 2 ^ t := by rw [Int.natCast_pow]; rfl
  rw [← hp]
  generalize 2 ^ t = P at hl h8 ⊢
  omega
theorem bsum_skip (p : Nat → Bool) (t : Nat) (h : p t = false) : ((bsum p t : Nat) : Int) = ((bsum p (t + 1) : Nat) : Int) := by
  rw [bsum, h]
  rfl
theorem mk_succ (n : Nat) (p : Nat → Bool) : mk (n + 1) p = mk n p ++ [byteOf fun t => p (8 * n + t)] := by
  rw [mk, mk, List.range_succ, List.map_append]
  rfl
theorem cellsOf_append (l r : List UInt8) : cellsOf (l ++ r) = cellsOf l ++ cellsOf r := by simp [cellsOf]

set_option maxRecDepth 100000 in
set_option maxHeartbeats 2000000 in
theorem rmake0_any (a b : ByteArray) (w : World) (ha : a.size ≤ 1000000) (hb : b.size ≤ 1000000) :
    Calls Tryd.prog 48 #[.string a, .string b, .int .i64 0] w fun e w' => e = .returned (.string ⟨(least (mk (max a.size b.size) fun m => way 0 (has a.data.toList m) (has b.data.toList m))).toArray⟩) ∧ Below w.heap.size w w' := by
  obtain ⟨n, hn⟩ : ∃ z, z = max a.size b.size := ⟨_, rfl⟩
  rw [← hn]
  obtain ⟨p, hp⟩ : ∃ p : Nat → Bool, p = fun m => way 0 (has a.data.toList m) (has b.data.toList m) := ⟨_, rfl⟩
  rw [← hp]
  replace hp := Lib.hid hp
  have hn20 : n ≤ 1000000 := by omega
  have hnn := Lib.hid hn
  clear hn
  go_enter Tryd.func48, Tryd.ntmps48
  go_wp2_with fail
  obtain ⟨i0, hinf, hz0, hz1, hz2⟩ := info_parts infoByte
  have o0 : (w.alloc (.cells #[] 5)).ownsRow w.heap.size 5 1 (.slice (some ⟨w.heap.size, 0, none⟩) 0 0) 0 (cellsOf (mk 0 p)) := World.ownsRow_made w #[] 0 (Nat.le_refl _) (by decide) rfl
  have b0 : Below w.heap.size w (w.alloc (.cells #[] 5)) := (Below.refl _ w).alloc (Nat.le_refl _) _
  generalize hbv : Value.slice (some ⟨w.heap.size, 0, none⟩) 0 0 = bv at o0 ⊢
  generalize w.alloc (.cells #[] 5) = w1 at o0 b0 ⊢
  replace hbv := Lib.hid hbv
  replace o0 := Lib.hid o0
  go_loopw [7, 8] (fun v y wr => ∃ i : Nat, i ≤ n ∧ y = .int .i64 (i : Int) ∧ wr.ownsRow w.heap.size 5 1 v i (cellsOf (mk i p)) ∧ (∃ g cp, v = .slice (some ⟨g, 0, none⟩) i cp) ∧ Below w.heap.size w wr) (fun _ y _ => n - (intOf y).toNat)
  case atStart => exact ⟨0, Nat.zero_le _, rfl, o0.out, ⟨_, _, hbv.out.symm⟩, b0⟩
  case round =>
    obtain ⟨i, hi, rfl, hown, hform, hbel⟩ := hrel
    clear o0 b0
    by_cases hlt : i < n
    · clear hform
      have hcond : i < a.size ∨ ¬ i < a.size ∧ i < b.size := by have := hnn.out; omega
      replace hown := Lib.hid hown
      rcases hcond with h1 | ⟨h1, h2⟩
      all_goals go_wp2_with fail
      all_goals go_loopw [9, 10] (fun c y wq => ∃ t q : Nat, t ≤ 8 ∧ y = .int .i64 (t : Int) ∧ c = .int .u8 (bsum (fun t => p (8 * i + t)) t : Nat) ∧ wq = wr.drewN q) (fun _ y _ => 8 - (intOf y).toNat)
      case atStart => exact ⟨0, 0, by omega, rfl, rfl, rfl⟩
      case atStart => exact ⟨0, 0, by omega, rfl, rfl, rfl⟩
      all_goals
        obtain ⟨t, q, ht, rfl, rfl, rfl⟩ := hrel
        by_cases ht8 : t < 8
        · obtain ⟨m, hm⟩ : ∃ m, m = 8 * i + t := ⟨_, rfl⟩
          have em : 8 * (i : Int) + (t : Int) = (m : Int) := by omega
          have kA := fun W => rhas_any a (m : Int) W (by omega)
          have kB := fun W => rhas_any b (m : Int) W (by omega)
          rw [hasI, decide_eq_true (by omega), Bool.true_and, Int.toNat_natCast] at kA kB
          have hpm : p (8 * i + t) = way 0 (has a.data.toList m) (has b.data.toList m) := by rw [hp.out, hm]
          cases hA : has a.data.toList m <;> cases hB : has b.data.toList m
          all_goals
            rw [hA] at kA hpm
            rw [hB] at kB hpm
            replace kA := Lib.hid kA
            replace kB := Lib.hid kB
            replace hpm := Lib.hid hpm
            replace hm := Lib.hid hm
            have hsh : IntKind.u8.wrap (2 ^ t) = 2 ^ t := by
              have h : 2 ^ t < 2 ^ 8 := Nat.pow_lt_pow_right (by decide) ht8
              have hp : ((2 ^ t : Nat) : Int) = 2 ^ t := by rw [Int.natCast_pow]; rfl
              rw [← hp, IntKind.wrap_u8]
              generalize 2 ^ t = P at h ⊢
              omega
            clear hA hB
            go_wp2_with fail
            refine (kA.out _).mono ?_
            rintro en w2 ⟨rfl, rfl⟩
            go_wp2_with fail
            refine (kB.out _).mono ?_
            rintro en w3 ⟨rfl, rfl⟩
            go_wp2_with fail
            first
              | exact ⟨⟨t + 1, q, by omega, rfl, congrArg (Value.int IntKind.u8) (bsum_step (fun t => p (8 * i + t)) t ht8 (hpm.out.trans rfl)), rfl⟩, by simp [intOf]; omega⟩
              | exact ⟨⟨t + 1, q, by omega, rfl, congrArg (Value.int IntKind.u8) (bsum_skip (fun t => p (8 * i + t)) t (hpm.out.trans rfl)), rfl⟩, by simp [intOf]; omega⟩
        · obtain rfl : t = 8 := by omega
          have e8 : ((bsum (fun t => p (8 * i + t)) 8 : Nat) : Int) = ((byteOf fun t => p (8 * i + t)).toNat : Int) := by
            rw [byteOf, UInt8.toNat_ofNat', Nat.mod_eq_of_lt (by have := bsum_lt (fun t => p (8 * i + t)) 8; omega)]
          obtain ⟨cb, hcb⟩ : ∃ cb, cb = byteOf fun t => p (8 * i + t) := ⟨_, rfl⟩
          rw [← hcb] at e8
          rw [e8]
          have hw0 := hbel.size
          have hmk : cellsOf (mk (i + 1) p) = cellsOf (mk i p) ++ [.int .u8 (cb.toNat : Int)] := by
            rw [mk_succ, cellsOf_append, ← hcb]
            rfl
          have hown2 : (wr.drewN q).ownsRow w.heap.size 5 1 u7 i (cellsOf (mk i p)) := hown.out
          obtain ⟨A4, c4, rfl⟩ := own_slice hown2
          replace hcb := Lib.hid hcb
          replace hmk := Lib.hid hmk
          clear e8
          have hsz : (wr.drewN q).heap.size = wr.heap.size := rfl
          go_wp2_with (first
            | (at_builtin; refine wpList_append_own _ rfl (.tmp 75) (.tmp 77) _ rfl w.heap.size 5 i0 (.int .u8 0) 1 1 Tryd.underlying34 hinf hz0 hz1 hz2 rfl (by decide) (.slice A4 i c4) i _ rfl (hown2.alloc _) ⟨wr.heap.size, 0, none⟩ 1 1 [.int .u8 (cb.toNat : Int)] rfl rfl (cell_one_new _ _ _) (by simp [Value.oneCell']) (by unfold maxLen; omega) (by omega) (by simp; omega) ?_; intro v1 w11 hown1 hg1 hn1))
          have hbel1 : Below w.heap.size w w11 := ((below_drewN hbel q).alloc hw0 _).grown hg1 (by simp; omega) (fun k hk => (hown2.lt k hk).1)
          rw [← hmk.out] at hown1
          obtain ⟨g5, c5, hv5, _, _⟩ := hown1.form (by omega)
          exact ⟨⟨i + 1, by omega, rfl, hown1, ⟨g5, c5, hv5⟩, hbel1⟩, by simp [intOf]; omega⟩
    · obtain rfl : i = n := by omega
      have hncond := hnn.out
      obtain ⟨g, cp, rfl⟩ := hform
      have hll : (mk i p).length = i := mk_length _ _
      have hcv := run_convert_bytes_back (P := Tryd.prog) wr 34 9 5 ⟨g, 0, none⟩ cp (mk i p) Tryd.underlying34 Tryd.underlying5 Tryd.underlying9 (fun j hj => hown.cells (g := g) rfl j _ (by rw [cellsOf, List.getElem?_map, List.getElem?_eq_getElem hj]; rfl))
      rw [hll] at hcv
      have k1 := rleast_any ⟨(mk i p).toArray⟩ wr (by show (mk i p).toArray.size ≤ _; simp [hll]; omega)
      have hll2 : (ByteArray.mk (mk i p).toArray).data.toList = mk i p := rfl
      rw [hll2] at k1
      obtain ⟨T, hT⟩ : ∃ T : ByteArray, T = ⟨(mk i p).toArray⟩ := ⟨_, rfl⟩
      rw [← hT] at k1 hcv
      obtain ⟨U, hU⟩ : ∃ U : ByteArray, U = ⟨(least (mk i p)).toArray⟩ := ⟨_, rfl⟩
      rw [← hU] at k1
      replace hT := Lib.hid hT
      replace hU := Lib.hid hU
      replace k1 := Lib.hid k1
      have hd1 : a.size ≤ i := by omega
      have hd2 : b.size ≤ i := by omega
      replace hnn := Lib.hid hncond
      clear hown hll hll2 hncond
      go_wp2_with fail
      refine k1.out.mono ?_
      rintro en w2 ⟨rfl, rfl⟩
      go_wp2_with fail
      go_ret
      rw [hU.out]
      exact ⟨rfl, hbel⟩

set_option maxRecDepth 100000 in
set_option maxHeartbeats 2000000 in
theorem rmake1_any (a b : ByteArray) (w : World) (ha : a.size ≤ 1000000) (hb : b.size ≤ 1000000) :
    Calls Tryd.prog 48 #[.string a, .string b, .int .i64 1] w fun e w' => e = .returned (.string ⟨(least (mk (max a.size b.size) fun m => way 1 (has a.data.toList m) (has b.data.toList m))).toArray⟩) ∧ Below w.heap.size w w' := by
  obtain ⟨n, hn⟩ : ∃ z, z = max a.size b.size := ⟨_, rfl⟩
  rw [← hn]
  obtain ⟨p, hp⟩ : ∃ p : Nat → Bool, p = fun m => way 1 (has a.data.toList m) (has b.data.toList m) := ⟨_, rfl⟩
  rw [← hp]
  replace hp := Lib.hid hp
  have hn20 : n ≤ 1000000 := by omega
  have hnn := Lib.hid hn
  clear hn
  go_enter Tryd.func48, Tryd.ntmps48
  go_wp2_with fail
  obtain ⟨i0, hinf, hz0, hz1, hz2⟩ := info_parts infoByte
  have o0 : (w.alloc (.cells #[] 5)).ownsRow w.heap.size 5 1 (.slice (some ⟨w.heap.size, 0, none⟩) 0 0) 0 (cellsOf (mk 0 p)) := World.ownsRow_made w #[] 0 (Nat.le_refl _) (by decide) rfl
  have b0 : Below w.heap.size w (w.alloc (.cells #[] 5)) := (Below.refl _ w).alloc (Nat.le_refl _) _
  generalize hbv : Value.slice (some ⟨w.heap.size, 0, none⟩) 0 0 = bv at o0 ⊢
  generalize w.alloc (.cells #[] 5) = w1 at o0 b0 ⊢
  replace hbv := Lib.hid hbv
  replace o0 := Lib.hid o0
  go_loopw [7, 8] (fun v y wr => ∃ i : Nat, i ≤ n ∧ y = .int .i64 (i : Int) ∧ wr.ownsRow w.heap.size 5 1 v i (cellsOf (mk i p)) ∧ (∃ g cp, v = .slice (some ⟨g, 0, none⟩) i cp) ∧ Below w.heap.size w wr) (fun _ y _ => n - (intOf y).toNat)
  case atStart => exact ⟨0, Nat.zero_le _, rfl, o0.out, ⟨_, _, hbv.out.symm⟩, b0⟩
  case round =>
    obtain ⟨i, hi, rfl, hown, hform, hbel⟩ := hrel
    clear o0 b0
    by_cases hlt : i < n
    · clear hform
      have hcond : i < a.size ∨ ¬ i < a.size ∧ i < b.size := by have := hnn.out; omega
      replace hown := Lib.hid hown
      rcases hcond with h1 | ⟨h1, h2⟩
      all_goals go_wp2_with fail
      all_goals go_loopw [9, 10] (fun c y wq => ∃ t q : Nat, t ≤ 8 ∧ y = .int .i64 (t : Int) ∧ c = .int .u8 (bsum (fun t => p (8 * i + t)) t : Nat) ∧ wq = wr.drewN q) (fun _ y _ => 8 - (intOf y).toNat)
      case atStart => exact ⟨0, 0, by omega, rfl, rfl, rfl⟩
      case atStart => exact ⟨0, 0, by omega, rfl, rfl, rfl⟩
      all_goals
        obtain ⟨t, q, ht, rfl, rfl, rfl⟩ := hrel
        by_cases ht8 : t < 8
        · obtain ⟨m, hm⟩ : ∃ m, m = 8 * i + t := ⟨_, rfl⟩
          have em : 8 * (i : Int) + (t : Int) = (m : Int) := by omega
          have kA := fun W => rhas_any a (m : Int) W (by omega)
          have kB := fun W => rhas_any b (m : Int) W (by omega)
          rw [hasI, decide_eq_true (by omega), Bool.true_and, Int.toNat_natCast] at kA kB
          have hpm : p (8 * i + t) = way 1 (has a.data.toList m) (has b.data.toList m) := by rw [hp.out, hm]
          cases hA : has a.data.toList m <;> cases hB : has b.data.toList m
          all_goals
            rw [hA] at kA hpm
            rw [hB] at kB hpm
            replace kA := Lib.hid kA
            replace kB := Lib.hid kB
            replace hpm := Lib.hid hpm
            replace hm := Lib.hid hm
            have hsh : IntKind.u8.wrap (2 ^ t) = 2 ^ t := by
              have h : 2 ^ t < 2 ^ 8 := Nat.pow_lt_pow_right (by decide) ht8
              have hp : ((2 ^ t : Nat) : Int) = 2 ^ t := by rw [Int.natCast_pow]; rfl
              rw [← hp, IntKind.wrap_u8]
              generalize 2 ^ t = P at h ⊢
              omega
            clear hA hB
            go_wp2_with fail
            refine (kA.out _).mono ?_
            rintro en w2 ⟨rfl, rfl⟩
            go_wp2_with fail
            refine (kB.out _).mono ?_
            rintro en w3 ⟨rfl, rfl⟩
            go_wp2_with fail
            first
              | exact ⟨⟨t + 1, q, by omega, rfl, congrArg (Value.int IntKind.u8) (bsum_step (fun t => p (8 * i + t)) t ht8 (hpm.out.trans rfl)), rfl⟩, by simp [intOf]; omega⟩
              | exact ⟨⟨t + 1, q, by omega, rfl, congrArg (Value.int IntKind.u8) (bsum_skip (fun t => p (8 * i + t)) t (hpm.out.trans rfl)), rfl⟩, by simp [intOf]; omega⟩
        · obtain rfl : t = 8 := by omega
          have e8 : ((bsum (fun t => p (8 * i + t)) 8 : Nat) : Int) = ((byteOf fun t => p (8 * i + t)).toNat : Int) := by
            rw [byteOf, UInt8.toNat_ofNat', Nat.mod_eq_of_lt (by have := bsum_lt (fun t => p (8 * i + t)) 8; omega)]
          obtain ⟨cb, hcb⟩ : ∃ cb, cb = byteOf fun t => p (8 * i + t) := ⟨_, rfl⟩
          rw [← hcb] at e8
          rw [e8]
          have hw0 := hbel.size
          have hmk : cellsOf (mk (i + 1) p) = cellsOf (mk i p) ++ [.int .u8 (cb.toNat : Int)] := by
            rw [mk_succ, cellsOf_append, ← hcb]
            rfl
          have hown2 : (wr.drewN q).ownsRow w.heap.size 5 1 u7 i (cellsOf (mk i p)) := hown.out
          obtain ⟨A4, c4, rfl⟩ := own_slice hown2
          replace hcb := Lib.hid hcb
          replace hmk := Lib.hid hmk
          clear e8
          have hsz : (wr.drewN q).heap.size = wr.heap.size := rfl
          go_wp2_with (first
            | (at_builtin; refine wpList_append_own _ rfl (.tmp 75) (.tmp 77) _ rfl w.heap.size 5 i0 (.int .u8 0) 1 1 Tryd.underlying34 hinf hz0 hz1 hz2 rfl (by decide) (.slice A4 i c4) i _ rfl (hown2.alloc _) ⟨wr.heap.size, 0, none⟩ 1 1 [.int .u8 (cb.toNat : Int)] rfl rfl (cell_one_new _ _ _) (by simp [Value.oneCell']) (by unfold maxLen; omega) (by omega) (by simp; omega) ?_; intro v1 w11 hown1 hg1 hn1))
          have hbel1 : Below w.heap.size w w11 := ((below_drewN hbel q).alloc hw0 _).grown hg1 (by simp; omega) (fun k hk => (hown2.lt k hk).1)
          rw [← hmk.out] at hown1
          obtain ⟨g5, c5, hv5, _, _⟩ := hown1.form (by omega)
          exact ⟨⟨i + 1, by omega, rfl, hown1, ⟨g5, c5, hv5⟩, hbel1⟩, by simp [intOf]; omega⟩
    · obtain rfl : i = n := by omega
      have hncond := hnn.out
      obtain ⟨g, cp, rfl⟩ := hform
      have hll : (mk i p).length = i := mk_length _ _
      have hcv := run_convert_bytes_back (P := Tryd.prog) wr 34 9 5 ⟨g, 0, none⟩ cp (mk i p) Tryd.underlying34 Tryd.underlying5 Tryd.underlying9 (fun j hj => hown.cells (g := g) rfl j _ (by rw [cellsOf, List.getElem?_map, List.getElem?_eq_getElem hj]; rfl))
      rw [hll] at hcv
      have k1 := rleast_any ⟨(mk i p).toArray⟩ wr (by show (mk i p).toArray.size ≤ _; simp [hll]; omega)
      have hll2 : (ByteArray.mk (mk i p).toArray).data.toList = mk i p := rfl
      rw [hll2] at k1
      obtain ⟨T, hT⟩ : ∃ T : ByteArray, T = ⟨(mk i p).toArray⟩ := ⟨_, rfl⟩
      rw [← hT] at k1 hcv
      obtain ⟨U, hU⟩ : ∃ U : ByteArray, U = ⟨(least (mk i p)).toArray⟩ := ⟨_, rfl⟩
      rw [← hU] at k1
      replace hT := Lib.hid hT
      replace hU := Lib.hid hU
      replace k1 := Lib.hid k1
      have hd1 : a.size ≤ i := by omega
      have hd2 : b.size ≤ i := by omega
      replace hnn := Lib.hid hncond
      clear hown hll hll2 hncond
      go_wp2_with fail
      refine k1.out.mono ?_
      rintro en w2 ⟨rfl, rfl⟩
      go_wp2_with fail
      go_ret
      rw [hU.out]
      exact ⟨rfl, hbel⟩

set_option maxRecDepth 100000 in
set_option maxHeartbeats 2000000 in
theorem rmake2_any (a b : ByteArray) (w : World) (ha : a.size ≤ 1000000) (hb : b.size ≤ 1000000) :
    Calls Tryd.prog 48 #[.string a, .string b, .int .i64 2] w fun e w' => e = .returned (.string ⟨(least (mk (max a.size b.size) fun m => way 2 (has a.data.toList m) (has b.data.toList m))).toArray⟩) ∧ Below w.heap.size w w' := by
  obtain ⟨n, hn⟩ : ∃ z, z = max a.size b.size := ⟨_, rfl⟩
  rw [← hn]
  obtain ⟨p, hp⟩ : ∃ p : Nat → Bool, p = fun m => way 2 (has a.data.toList m) (has b.data.toList m) := ⟨_, rfl⟩
  rw [← hp]
  replace hp := Lib.hid hp
  have hn20 : n ≤ 1000000 := by omega
  have hnn := Lib.hid hn
  clear hn
  go_enter Tryd.func48, Tryd.ntmps48
  go_wp2_with fail
  obtain ⟨i0, hinf, hz0, hz1, hz2⟩ := info_parts infoByte
  have o0 : (w.alloc (.cells #[] 5)).ownsRow w.heap.size 5 1 (.slice (some ⟨w.heap.size, 0, none⟩) 0 0) 0 (cellsOf (mk 0 p)) := World.ownsRow_made w #[] 0 (Nat.le_refl _) (by decide) rfl
  have b0 : Below w.heap.size w (w.alloc (.cells #[] 5)) := (Below.refl _ w).alloc (Nat.le_refl _) _
  generalize hbv : Value.slice (some ⟨w.heap.size, 0, none⟩) 0 0 = bv at o0 ⊢
  generalize w.alloc (.cells #[] 5) = w1 at o0 b0 ⊢
  replace hbv := Lib.hid hbv
  replace o0 := Lib.hid o0
  go_loopw [7, 8] (fun v y wr => ∃ i : Nat, i ≤ n ∧ y = .int .i64 (i : Int) ∧ wr.ownsRow w.heap.size 5 1 v i (cellsOf (mk i p)) ∧ (∃ g cp, v = .slice (some ⟨g, 0, none⟩) i cp) ∧ Below w.heap.size w wr) (fun _ y _ => n - (intOf y).toNat)
  case atStart => exact ⟨0, Nat.zero_le _, rfl, o0.out, ⟨_, _, hbv.out.symm⟩, b0⟩
  case round =>
    obtain ⟨i, hi, rfl, hown, hform, hbel⟩ := hrel
    clear o0 b0
    by_cases hlt : i < n
    · clear hform
      have hcond : i < a.size ∨ ¬ i < a.size ∧ i < b.size := by have := hnn.out; omega
      replace hown := Lib.hid hown
      rcases hcond with h1 | ⟨h1, h2⟩
      all_goals go_wp2_with fail
      all_goals go_loopw [9, 10] (fun c y wq => ∃ t q : Nat, t ≤ 8 ∧ y = .int .i64 (t : Int) ∧ c = .int .u8 (bsum (fun t => p (8 * i + t)) t : Nat) ∧ wq = wr.drewN q) (fun _ y _ => 8 - (intOf y).toNat)
      case atStart => exact ⟨0, 0, by omega, rfl, rfl, rfl⟩
      case atStart => exact ⟨0, 0, by omega, rfl, rfl, rfl⟩
      all_goals
        obtain ⟨t, q, ht, rfl, rfl, rfl⟩ := hrel
        by_cases ht8 : t < 8
        · obtain ⟨m, hm⟩ : ∃ m, m = 8 * i + t := ⟨_, rfl⟩
          have em : 8 * (i : Int) + (t : Int) = (m : Int) := by omega
          have kA := fun W => rhas_any a (m : Int) W (by omega)
          have kB := fun W => rhas_any b (m : Int) W (by omega)
          rw [hasI, decide_eq_true (by omega), Bool.true_and, Int.toNat_natCast] at kA kB
          have hpm : p (8 * i + t) = way 2 (has a.data.toList m) (has b.data.toList m) := by rw [hp.out, hm]
          cases hA : has a.data.toList m <;> cases hB : has b.data.toList m
          all_goals
            rw [hA] at kA hpm
            rw [hB] at kB hpm
            replace kA := Lib.hid kA
            replace kB := Lib.hid kB
            replace hpm := Lib.hid hpm
            replace hm := Lib.hid hm
            have hsh : IntKind.u8.wrap (2 ^ t) = 2 ^ t := by
              have h : 2 ^ t < 2 ^ 8 := Nat.pow_lt_pow_right (by decide) ht8
              have hp : ((2 ^ t : Nat) : Int) = 2 ^ t := by rw [Int.natCast_pow]; rfl
              rw [← hp, IntKind.wrap_u8]
              generalize 2 ^ t = P at h ⊢
              omega
            clear hA hB
            go_wp2_with fail
            refine (kA.out _).mono ?_
            rintro en w2 ⟨rfl, rfl⟩
            go_wp2_with fail
            refine (kB.out _).mono ?_
            rintro en w3 ⟨rfl, rfl⟩
            go_wp2_with fail
            first
              | exact ⟨⟨t + 1, q, by omega, rfl, congrArg (Value.int IntKind.u8) (bsum_step (fun t => p (8 * i + t)) t ht8 (hpm.out.trans rfl)), rfl⟩, by simp [intOf]; omega⟩
              | exact ⟨⟨t + 1, q, by omega, rfl, congrArg (Value.int IntKind.u8) (bsum_skip (fun t => p (8 * i + t)) t (hpm.out.trans rfl)), rfl⟩, by simp [intOf]; omega⟩
        · obtain rfl : t = 8 := by omega
          have e8 : ((bsum (fun t => p (8 * i + t)) 8 : Nat) : Int) = ((byteOf fun t => p (8 * i + t)).toNat : Int) := by
            rw [byteOf, UInt8.toNat_ofNat', Nat.mod_eq_of_lt (by have := bsum_lt (fun t => p (8 * i + t)) 8; omega)]
          obtain ⟨cb, hcb⟩ : ∃ cb, cb = byteOf fun t => p (8 * i + t) := ⟨_, rfl⟩
          rw [← hcb] at e8
          rw [e8]
          have hw0 := hbel.size
          have hmk : cellsOf (mk (i + 1) p) = cellsOf (mk i p) ++ [.int .u8 (cb.toNat : Int)] := by
            rw [mk_succ, cellsOf_append, ← hcb]
            rfl
          have hown2 : (wr.drewN q).ownsRow w.heap.size 5 1 u7 i (cellsOf (mk i p)) := hown.out
          obtain ⟨A4, c4, rfl⟩ := own_slice hown2
          replace hcb := Lib.hid hcb
          replace hmk := Lib.hid hmk
          clear e8
          have hsz : (wr.drewN q).heap.size = wr.heap.size := rfl
          go_wp2_with (first
            | (at_builtin; refine wpList_append_own _ rfl (.tmp 75) (.tmp 77) _ rfl w.heap.size 5 i0 (.int .u8 0) 1 1 Tryd.underlying34 hinf hz0 hz1 hz2 rfl (by decide) (.slice A4 i c4) i _ rfl (hown2.alloc _) ⟨wr.heap.size, 0, none⟩ 1 1 [.int .u8 (cb.toNat : Int)] rfl rfl (cell_one_new _ _ _) (by simp [Value.oneCell']) (by unfold maxLen; omega) (by omega) (by simp; omega) ?_; intro v1 w11 hown1 hg1 hn1))
          have hbel1 : Below w.heap.size w w11 := ((below_drewN hbel q).alloc hw0 _).grown hg1 (by simp; omega) (fun k hk => (hown2.lt k hk).1)
          rw [← hmk.out] at hown1
          obtain ⟨g5, c5, hv5, _, _⟩ := hown1.form (by omega)
          exact ⟨⟨i + 1, by omega, rfl, hown1, ⟨g5, c5, hv5⟩, hbel1⟩, by simp [intOf]; omega⟩
    · obtain rfl : i = n := by omega
      have hncond := hnn.out
      obtain ⟨g, cp, rfl⟩ := hform
      have hll : (mk i p).length = i := mk_length _ _
      have hcv := run_convert_bytes_back (P := Tryd.prog) wr 34 9 5 ⟨g, 0, none⟩ cp (mk i p) Tryd.underlying34 Tryd.underlying5 Tryd.underlying9 (fun j hj => hown.cells (g := g) rfl j _ (by rw [cellsOf, List.getElem?_map, List.getElem?_eq_getElem hj]; rfl))
      rw [hll] at hcv
      have k1 := rleast_any ⟨(mk i p).toArray⟩ wr (by show (mk i p).toArray.size ≤ _; simp [hll]; omega)
      have hll2 : (ByteArray.mk (mk i p).toArray).data.toList = mk i p := rfl
      rw [hll2] at k1
      obtain ⟨T, hT⟩ : ∃ T : ByteArray, T = ⟨(mk i p).toArray⟩ := ⟨_, rfl⟩
      rw [← hT] at k1 hcv
      obtain ⟨U, hU⟩ : ∃ U : ByteArray, U = ⟨(least (mk i p)).toArray⟩ := ⟨_, rfl⟩
      rw [← hU] at k1
      replace hT := Lib.hid hT
      replace hU := Lib.hid hU
      replace k1 := Lib.hid k1
      have hd1 : a.size ≤ i := by omega
      have hd2 : b.size ≤ i := by omega
      replace hnn := Lib.hid hncond
      clear hown hll hll2 hncond
      go_wp2_with fail
      refine k1.out.mono ?_
      rintro en w2 ⟨rfl, rfl⟩
      go_wp2_with fail
      go_ret
      rw [hU.out]
      exact ⟨rfl, hbel⟩
end Go.Proofs.YteghmnlngkcgiaaDoor.Sets

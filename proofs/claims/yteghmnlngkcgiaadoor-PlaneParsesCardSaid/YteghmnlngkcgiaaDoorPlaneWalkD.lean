/- Planes: Parse. -/
import Derived.Test.YteghmnlngkcgiaaDoorPlaneWalkC
namespace Go.Proofs.YteghmnlngkcgiaaDoor.Planes
open Go.RowKit Mem Sets

/-- the planes of a text, when so many are done -/
def pk (l : List UInt8) (k : Nat) : Pl := fun i => if i < k then setOf l i else emptyB
theorem pk_zero (l : List UInt8) : pk l 0 = none8 := funext fun i => if_neg (Nat.not_lt_zero i)
theorem pk_step (l : List UInt8) (k : Nat) : upd (pk l k) k (setOf l k) = pk l (k + 1) := funext fun i => by
  unfold upd pk
  by_cases h : i = k
  · subst h; rw [if_pos rfl, if_pos (by omega)]
  · rw [if_neg h]
    by_cases h2 : i < k
    · rw [if_pos h2, if_pos (by omega)]
    · rw [if_neg h2, if_neg (by omega)]
/-- a map's eight planes alone count -/
theorem PMap.congr {w : World} {g B : Nat} {P Q : Pl} (h : PMap w g B P) (e : ∀ k, k < 8 → P k = Q k) : PMap w g B Q := by
  unfold PMap Pl.cells at h ⊢
  rw [← e 0 (by decide), ← e 1 (by decide), ← e 2 (by decide), ← e 3 (by decide), ← e 4 (by decide), ← e 5 (by decide), ← e 6 (by decide), ← e 7 (by decide)]
  exact h
theorem pk_eight (l : List UInt8) (k : Nat) (hk : k < 8) : pk l 8 k = setOf l k := if_pos hk
/-- the blocks below a bound that have a bit -/
def blk (l : List UInt8) (p n : Nat) : List Int := ((List.range n).filter fun b => has l (8 * b + p)).map Int.ofNat
theorem blk_succ (l : List UInt8) (p n : Nat) : blk l p (n + 1) = blk l p n ++ (if has l (8 * n + p) = true then [(n : Int)] else []) := by
  unfold blk
  rw [List.range_succ, List.filter_append, List.map_append]
  congr 1
  by_cases h : has l (8 * n + p)
  · simp [h]
  · simp [h]
theorem blk_length (l : List UInt8) (p n : Nat) : (blk l p n).length ≤ n := by
  unfold blk
  rw [List.length_map]
  exact Nat.le_trans (List.length_filter_le _ _) (by simp)
theorem ofOut_blk (l : List UInt8) (p : Nat) (hl : l.length ≤ 4096) : ofOut (blk l p l.length) = ((setOf l p).data.toList, 0) := by
  have hm : (blk l p l.length).map Int.toNat = planeOf l p := by
    unfold blk planeOf
    rw [List.map_map]
    conv => rhs; rw [← List.map_id ((List.range l.length).filter fun b => has l (8 * b + p))]
    exact List.map_congr_left fun x _ => Int.toNat_natCast x
  rw [ofOut, if_neg, hm]
  · rfl
  · intro h
    obtain ⟨x, hx, hb⟩ := List.any_eq_true.1 h
    unfold blk at hx
    obtain ⟨y, hy, rfl⟩ := List.mem_map.1 hx
    have h1 := List.mem_range.1 (List.mem_filter.1 hy).1
    simp only [bad, Bool.or_eq_true, decide_eq_true_eq] at hb
    have : Int.ofNat y = (y : Int) := rfl
    omega
theorem of_blk (l : List UInt8) (p : Nat) (hl : l.length ≤ 4096) (A : Option Addr) (n c : Nat) (w : World) (hr : Row w A n ((blk l p l.length).map (Value.int .i64))) (hn : n ≤ 4096) :
    Calls Tryd.prog 35 #[.slice A n c] w fun e w' => e = .returned (.tuple #[.string (setOf l p), .int .i64 0]) ∧ Below w.heap.size w w' := by
  have h := of_out A n c _ w hr (by omega)
  rw [ofOut_blk l p hl] at h
  exact h
/-- may a text be a map -/
def okText (s : ByteArray) : Bool := okB s.size && decide (byteAt s.data.toList 0 = 0)

set_option maxRecDepth 100000 in
set_option maxHeartbeats 1000000 in
theorem parse_bad (s : ByteArray) (w : World) (h : okText s = false) :
    Calls Tryd.prog 11 #[.string s] w fun e w' => e = .returned (.tuple #[.pointer none, .int .i64 90]) ∧ Below w.heap.size w w' := by
  cases hb : okB s.size with
  | false =>
    have k1 := Lib.hid (new_bad s.size w hb)
    clear h hb
    go_enter Tryd.func11, Tryd.ntmps11
    go_wp2_with fail
    refine (k1.out).mono ?_
    rintro en w' ⟨rfl, hw'⟩
    replace hw' := hw'.symm
    subst hw'
    go_wp2_with fail
    go_ret2
    exact ⟨rfl, Below.refl _ _⟩
  | true =>
    obtain ⟨h1, h2⟩ := okB_iff.1 hb
    have k1 := Lib.hid (new_ok s.size w (by omega))
    have hlt : 0 < s.size := by omega
    have hne : ¬ ((s[0]'hlt).toNat : Int) = 0 := by
      intro e
      unfold okText at h
      rw [hb, Bool.true_and, decide_eq_false_iff_not] at h
      refine h ?_
      rw [byteAt, show s.data.toList[0]? = some s[0] by rw [Array.getElem?_toList, Array.getElem?_eq_getElem hlt]; rfl]
      exact UInt8.toNat_inj.1 (by show (s[0]'hlt).toNat = 0; omega)
    clear h hb
    go_enter Tryd.func11, Tryd.ntmps11
    go_wp2_with fail
    refine k1.out.mono ?_
    rintro en w1 ⟨rfl, _, b1⟩
    go_wp2_with fail
    go_ret2
    exact ⟨rfl, b1⟩

set_option maxRecDepth 100000 in
set_option maxHeartbeats 2000000 in
theorem parse_ok (s : ByteArray) (w : World) (h : okText s = true) :
    Calls Tryd.prog 11 #[.string s] w fun e w' => e = .returned (.tuple #[.pointer (some ⟨w.heap.size, 0, none⟩), .int .i64 0]) ∧ PMap w' w.heap.size s.size (setOf s.data.toList) ∧ Below w.heap.size w w' := by
  unfold okText at h
  rw [Bool.and_eq_true, okB_iff, decide_eq_true_eq] at h
  obtain ⟨⟨h1, h2⟩, h3⟩ := h
  obtain ⟨n, hn⟩ : ∃ n, n = s.size := ⟨_, rfl⟩
  have h1' : 8 ≤ n := by omega
  have h2' : n ≤ 4096 := by omega
  have k1 := Lib.hid (new_ok n w (by omega))
  rw [hn] at k1
  have hlt : 0 < s.size := by omega
  have h0 : ((s[0]'hlt).toNat : Int) = 0 := by
    rw [byteAt, show s.data.toList[0]? = some s[0] by rw [Array.getElem?_toList, Array.getElem?_eq_getElem hlt]; rfl] at h3
    have : (s[0]'hlt) = 0 := h3
    rw [this]
    rfl
  have hl : s.data.toList.length = s.size := (Lib.size_eq s).symm
  replace hl := Lib.hid hl
  have hnn : s.size ≤ 4096 := by omega
  clear h3 hn h1' h2' h1 h2
  generalize hG : w.heap.size = G at *
  replace hG := Lib.hid hG
  go_enter Tryd.func11, Tryd.ntmps11
  go_wp2_with fail
  refine k1.out.mono ?_
  rintro en w1 ⟨rfl, p1, b1⟩
  rw [← pk_zero s.data.toList] at p1
  replace p1 := Lib.hid p1
  go_wp2_with fail
  clear h0 k1
  go_loopw [21] (fun y wr => ∃ k : Nat, k ≤ 8 ∧ y = .int .i64 (k : Int) ∧ PMap wr G s.size (pk s.data.toList k) ∧ Below G w wr) (fun y _ => 8 - (intOf y).toNat)
  case atStart => exact ⟨0, by omega, rfl, p1.out, b1⟩
  case round =>
    obtain ⟨k, hk, rfl, hp, hbel⟩ := hrel
    clear p1 b1
    by_cases hlt8 : k < 8
    · replace hp := Lib.hid hp
      replace hbel := Lib.hid hbel
      have d8 : decide ((k : Int) < 8) = true := decide_eq_true (by omega)
      have k3 := Lib.hid (fun A c m W => of_blk s.data.toList k (by rw [hl.out]; exact hnn) A m c W)
      go_wp2_with fail
      obtain ⟨i0, hinf, hz0, hz1, hz2⟩ := info_parts infoInt
      have o0 : wr.ownsRow wr.heap.size 3 1 (.slice none 0 0) (blk s.data.toList k 0).length ((blk s.data.toList k 0).map (Value.int .i64)) := World.ownsRow_nil _ _ _ _
      generalize Value.slice none 0 0 = v0 at o0 ⊢
      replace o0 := Lib.hid o0
      generalize hH : wr.heap.size = H at *
      have hbH : Below H wr wr := Below.refl _ _
      have hHs : H ≤ wr.heap.size := by omega
      generalize hw0 : wr = w0 at *
      replace hH := Lib.hid hH
      replace hw0 := Lib.hid hw0
      go_loopw [7, 26] (fun v y wr => ∃ j : Nat, j ≤ s.size ∧ y = .int .i64 (j : Int) ∧ wr.ownsRow H 3 1 v (blk s.data.toList k j).length ((blk s.data.toList k j).map (Value.int .i64)) ∧ Below H w0 wr) (fun _ y _ => s.size - (intOf y).toNat)
      case atStart => exact ⟨0, Nat.zero_le _, rfl, o0.out, hbH⟩
      case round =>
        obtain ⟨j, hj, rfl, hown, hb⟩ := hrel
        have hw0' := hb.size
        have hHr : H ≤ wr.heap.size := by omega
        by_cases hlt : j < s.size
        · have hsucc := blk_succ s.data.toList k j
          have hle := blk_length s.data.toList k j
          have ea := Sets.and_one s[j].toNat k s[j].toNat_lt
          have hv : has s.data.toList (8 * j + k) = decide ((s[j].toNat / 2 ^ k) % 2 = 1) := by
            rw [has, show (8 * j + k) / 8 = j by omega, show (8 * j + k) % 8 = k by omega, Array.getElem?_toList, Array.getElem?_eq_getElem hlt]
            exact Nat.testBit_eq_decide_div_mod_eq
          rw [hv] at hsucc
          by_cases hbit : s[j].toNat / 2 ^ k % 2 = 1
          · rw [hbit] at ea
            rw [if_pos (decide_eq_true hbit)] at hsucc
            generalize blk s.data.toList k j = es at hown hsucc hle
            replace hsucc := Lib.hid hsucc
            clear hv hbit
            have ea' : bits .and .u8 ((s[j].toNat : Int) / 2 ^ k) 1 = 1 := ea
            clear ea
            go_wp2_with (first
              | (at_builtin; refine wpList_append_own _ rfl (.tmp 36) (.tmp 38) _ rfl H 3 i0 (.int .i64 0) 1 8 Tryd.underlying57 hinf hz0 hz1 hz2 rfl (by decide) u7 es.length _ rfl (hown.alloc _) ⟨wr.heap.size, 0, none⟩ 1 1 [.int .i64 (j : Int)] rfl rfl (cell_one_new _ _ _) (by simp [Value.oneCell']) (by unfold maxLen; omega) (by omega) (by simp; omega) ?_; intro v1 w11 hown1 hg1 hn1))
            have hb11 := (hb.alloc hHr _).grown hg1 (by simp; omega) (fun k hk => (hown.lt k hk).1)
            have hres : w11.ownsRow H 3 1 v1 (blk s.data.toList k (j + 1)).length ((blk s.data.toList k (j + 1)).map (Value.int .i64)) := by
              rw [hsucc.out, List.length_append, List.map_append]
              exact hown1
            go_roundw
            case rel => exact ⟨j + 1, by omega, rfl, hres, hb11⟩
            case measure => simp [intOf]; omega
          · have hbit0 : s[j].toNat / 2 ^ k % 2 = 0 := by omega
            rw [hbit0] at ea
            rw [if_neg (by rw [decide_eq_true_eq]; exact hbit), List.append_nil] at hsucc
            rw [← hsucc] at hown
            replace hown := Lib.hid hown
            have ea' : bits .and .u8 ((s[j].toNat : Int) / 2 ^ k) 1 = 0 := ea
            clear ea hv hbit hbit0 hsucc hle
            go_wp2_with fail
            go_roundw
            case rel => exact ⟨j + 1, by omega, rfl, hown.out, hb⟩
            case measure => simp [intOf]; omega
        · obtain rfl : j = s.size := by omega
          obtain ⟨A, c, rfl⟩ := own_slice hown
          have hr := Row.of_own hown
          have hLe : blk s.data.toList k s.size = blk s.data.toList k s.data.toList.length := by rw [hl.out]
          have hm : (blk s.data.toList k s.size).length ≤ 4096 := Nat.le_trans (blk_length _ _ _) hnn
          rw [hLe] at hr hm
          have hT := pk_step s.data.toList k
          have hpr : PMap wr G s.size (pk s.data.toList k) := Blk.below hp.out hb (by have h1 := Blk.lt hp.out; have h2 := hH.out; omega)
          have hb2 : Below G w wr := hbel.out.trans (hb.mono (by have h1 := Blk.lt hp.out; have h2 := hH.out; omega))
          rw [hLe]
          generalize (blk s.data.toList k s.data.toList.length).length = m at hr hm ⊢
          generalize setOf s.data.toList k = T at k3 hT
          replace hT := Lib.hid hT
          replace hr := Lib.hid hr
          replace hpr := Lib.hid hpr
          replace hb2 := Lib.hid hb2
          clear hown hLe hp hbel hb
          go_wp2_with fail
          go_region_with (refine (k3.out A c m _ (show Row wr.drew A m _ from hr.out) hm).mono ?_; rintro en w2 ⟨rfl, b2⟩; have h2 : PMap w2 G s.size (pk s.data.toList k) := PMap.below (show PMap wr.drew G s.size _ from hpr.out) b2; have m2 := h2.plane hlt8; have f2 := Blk.free h2 (1 + k))
          have h3 := h2.put hlt8 T
          rw [hT.out] at h3
          have hb3 : Below G w (w2.setCell ⟨G, 1 + k, none⟩ (.string T)) := ((show Below G w wr.drew from hb2.out.drew).trans (b2.mono (by have h1 := Blk.lt hpr.out; exact Nat.le_of_lt h1))).setCell (Nat.le_refl _) _
          clear hpr hb2 b2 h2 m2 f2 hr
          replace h3 := Lib.hid h3
          replace hb3 := Lib.hid hb3
          go_wp2_with fail
          exact ⟨⟨k + 1, by omega, rfl, h3.out, hb3.out⟩, by simp [intOf]; omega⟩
    · obtain rfl : k = 8 := by omega
      have hp' := hp.congr (pk_eight s.data.toList)
      replace hp' := Lib.hid hp'
      clear hp
      go_wp2_with fail
      go_ret2
      exact ⟨rfl, hp'.out, hbel⟩
end Go.Proofs.YteghmnlngkcgiaaDoor.Planes

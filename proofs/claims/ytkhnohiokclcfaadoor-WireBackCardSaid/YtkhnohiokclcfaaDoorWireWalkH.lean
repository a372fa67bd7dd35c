/- The contracts of the document's Nums (a read) and of stillageref01.Same. -/
import Derived.Test.YtkhnohiokclcfaaDoorWireWalkG
namespace Go.Proofs.YtkhnohiokclcfaaDoor.Wire
open Go.RowKit Mem

def RNumsPost (w : World) (b : Nat) (r : (List Int × Int) × Rd) (e : Ending) (w' : World) : Prop :=
  ∃ (A : Option Addr) (n c : Nat), e = .returned (.tuple #[.slice A n c, .int .i64 r.1.2]) ∧ Row w' A n (r.1.1.map (Value.int .i64)) ∧ (∀ ad, A = some ad → w.heap.size ≤ ad.block) ∧ IsRf w' b r.2 ∧ w.grownBy w' (some b)

set_option maxRecDepth 100000 in
set_option maxHeartbeats 2000000 in
theorem nums_rf (b : Nat) (st : Rd) (many most : Int) (w : World) (h : IsRf w b st) :
    Calls Tryd.prog 25 #[.pointer (some ⟨b, 0, none⟩), .int .i64 many, .int .i64 most] w (RNumsPost w b (rdNums many most st)) := by
  obtain ⟨i0, hi, hz0, hz1, hz2⟩ := info_parts infoInt
  obtain ⟨hla, hz, hnz⟩ := rdNum_latch (min many 65536) st
  have hsp : rdNums many most st = (if (rdNum (min many 65536) st).1.2 ≠ 0 then (([], (rdNum (min many 65536) st).1.2), (rdNum (min many 65536) st).2) else rdRow most (rdNum (min many 65536) st).1.1.toNat [] (rdNum (min many 65536) st).2) := rfl
  have hcall := rf_any b st (min many 65536) w h
  obtain ⟨⟨⟨n, en⟩, l1, e1⟩, hr⟩ : ∃ r, rdNum (min many 65536) st = r := ⟨_, rfl⟩
  rw [hr] at hla hz hnz hsp hcall
  simp only at hla hz hnz hsp
  have hsp' := Lib.hid hsp
  have hcall' := Lib.hid hcall
  clear hsp hcall hr
  by_cases he : en = 0
  · obtain ⟨hn0, _, _⟩ := hz he
    have hnb : n ≤ 65536 := by omega
    subst he
    subst hla
    obtain ⟨m, rfl⟩ := Int.eq_ofNat_of_zero_le hn0
    clear hz hnz
    go_enter Tryd.func25, Tryd.ntmps25
    go_wp2_with fail
    refine hcall'.out.mono ?_
    rintro e w1 ⟨rfl, hrd1, hg1⟩
    go_wp2_with fail
    go_loopw [10, 11] (fun v i wr => ∃ (k : Nat) (l : List Int) (st2 : Rd), k ≤ m ∧ i = .int .i64 (k : Int) ∧ l.length = k ∧ rdRow most m [] (l1, 0) = rdRow most (m - k) l st2 ∧
      wr.ownsRow w1.heap.size 3 1 v l.length (l.map (Value.int .i64)) ∧ IsRf wr b st2 ∧ w1.grownBy wr (some b)) (fun _ i _ => m - (intOf i).toNat)
    case atStart =>
      refine ⟨0, [], (l1, 0), Nat.zero_le _, rfl, rfl, rfl, ?_, hrd1.below ((Below.refl _ _).alloc (Nat.le_refl _) _) hrd1.lt, Only.alloc (Only.refl _ _) _⟩
      exact World.ownsRow_made _ _ 0 (Nat.le_refl _) (by unfold maxLen; omega) (by simp)
    case round =>
      obtain ⟨k, l, st2, hk, rfl, hll, hrow, hown, hrd, hg⟩ := hrel
      have hbl1 : b < w1.heap.size := hrd1.lt
      have hs1 := hg.size
      have hob : ∀ j, u10.ownBlock = some j → w1.heap.size ≤ j ∧ j < wr.heap.size := hown.lt
      have hll' := Lib.hid hll
      by_cases hlt : k < m
      · obtain ⟨hla, hz, hnz⟩ := rdNum_latch most st2
        have hstep : rdRow most (m - k) l st2 = if (rdNum most st2).1.2 ≠ 0 then (([], (rdNum most st2).1.2), (rdNum most st2).2) else rdRow most (m - (k + 1)) (l ++ [(rdNum most st2).1.1]) (rdNum most st2).2 := by
          rw [show m - k = (m - (k + 1)) + 1 by omega]; rfl
        have hcall := rf_any b st2 most wr hrd
        obtain ⟨⟨⟨x, en⟩, st3⟩, hr⟩ : ∃ r, rdNum most st2 = r := ⟨_, rfl⟩
        rw [hr] at hla hz hnz hstep hcall
        simp only at hla hz hnz hstep
        rw [hstep] at hrow
        have hrow' := Lib.hid hrow
        have hcall2 := Lib.hid hcall
        have hob' := Lib.hid hob
        clear hrow hcall hr hll hstep hob
        by_cases he : en = 0
        · subst he
          obtain ⟨hx0, _, hxt⟩ := hz rfl
          clear hz hnz hla
          go_wp2_with fail
          refine hcall2.out.mono ?_
          rintro e w2 ⟨rfl, hrd2, hg2⟩
          have hown2 : w2.ownsRow w1.heap.size 3 1 u10 l.length (l.map (Value.int .i64)) := hown.kept hg2 (Or.inr (fun e => by have := (hob'.out _ e).1; omega))
          have hs2 := hg2.size
          go_wp2_with (first
            | (at_builtin; refine wpList_append_own _ rfl (.tmp 39) (.tmp 41) _ rfl w1.heap.size 3 i0 (.int .i64 0) 1 8 Tryd.underlying22 hi hz0 hz1 hz2 rfl (by decide) u10 l.length _ rfl (hown2.alloc _) ⟨w2.heap.size, 0, none⟩ 1 1 [.int .i64 x] rfl rfl (cell_one_new _ _ _) (by simp [Value.oneCell']) (by rw [hll'.out]; unfold maxLen; omega) (by rw [hll'.out]; omega) (by simp; omega) ?_))
          intro v3 w3 hown3 hg3 _
          have hg3' : w1.grownBy w3 (some b) := Only.own (Only.alloc (Only.trans hg hg2) _) hg3 (fun j e => (hob'.out j e).1)
          have hrd3 : IsRf w3 b st3 := by
            obtain ⟨s', v', hk', r'⟩ := hrd2
            exact ⟨s', v', (hk'.alloc _).grown hg3 (fun e => by have := (hob'.out b e.symm).1; omega), r'⟩
          have hrd3' := Lib.hid hrd3
          clear hrd2
          go_wp2_with fail
          go_roundw
          case rel =>
            refine ⟨k + 1, l ++ [x], st3, by omega, by go_num, by rw [List.length_append, hll'.out]; rfl, ?_, ?_, hrd3'.out, hg3'⟩
            · rw [hrow'.out, if_neg (by simp)]
            · rw [List.length_append, List.map_append]
              exact hown3
          case measure => simp [intOf]; omega
        · have hne : (en != 0) = true := by simpa using he
          have he' := Lib.hid he
          clear he hz hnz
          go_wp2_with fail
          refine hcall2.out.mono ?_
          rintro e w2 ⟨rfl, hrd2, hg2⟩
          go_wp2_with fail
          go_ret2
          rw [hsp'.out, if_neg (by simp), show ((m : Int).toNat) = m from rfl, hrow'.out, if_pos he'.out]
          exact ⟨none, 0, 0, rfl, Row.nil_ _, by simp, hrd2, Only.trans hg1 (Only.trans hg hg2)⟩
      · obtain rfl : k = m := by omega
        have hown' := hown
        obtain ⟨A, c, rfl⟩ : ∃ A c, u10 = .slice A l.length c := by
          rcases hown.2 with ⟨hv, h0⟩ | ⟨g, cap, cur, hv, _⟩
          · exact ⟨none, 0, by rw [hv, h0]⟩
          · exact ⟨_, _, hv⟩
        have hrow' := Lib.hid hrow
        have hown2 := Lib.hid hown
        have hob' := Lib.hid hob
        clear hrow hown hown' hob hll
        go_wp2_with fail
        go_ret2
        rw [hsp'.out, if_neg (by simp), show ((k : Int).toNat) = k from rfl, hrow'.out, Nat.sub_self]
        refine ⟨A, l.length, c, rfl, Row.of_own hown2.out, fun ad ha => ?_, hrd, Only.trans hg1 hg⟩
        have := (hob'.out ad.block (by rw [ha]; rfl)).1
        have := hg1.size
        omega
  · have hne : (en != 0) = true := by simpa using he
    have he' := Lib.hid he
    clear he hz
    go_enter Tryd.func25, Tryd.ntmps25
    go_wp2_with fail
    refine hcall'.out.mono ?_
    rintro e w1 ⟨rfl, hrd, hg1⟩
    go_wp2_with fail
    go_ret2
    rw [hsp'.out, if_pos he'.out]
    exact ⟨none, 0, 0, rfl, Row.nil_ _, by simp, hrd, hg1⟩

/-- Same: two rows of numbers -/
def SamePost (w : World) (xs ys : List Int) (e : Ending) (w' : World) : Prop := e = .returned (.bool (decide (xs = ys))) ∧ ∃ q, w' = w.drewN q

set_option maxRecDepth 100000 in
set_option maxHeartbeats 2000000 in
theorem same_any (A B : Option Addr) (n m c d : Nat) (xs ys : List Int) (w : World) (hx : Row w A n (xs.map (Value.int .i64))) (hy : Row w B m (ys.map (Value.int .i64))) (hn : n ≤ 9223372036854775807) :
    Calls Tryd.prog 26 #[.slice A n c, .slice B m d] w (SamePost w xs ys) := by
  have hxl := Lib.hid (show xs.length = n by simpa using hx.1)
  have hyl := Lib.hid (show ys.length = m by simpa using hy.1)
  by_cases hnm : n = m
  · subst hnm
    have hne : ((n : Int) != (n : Int)) = false := by simp
    go_enter Tryd.func26, Tryd.ntmps26
    go_wp2_with fail
    go_loopw [5] (fun i wr => ∃ k q : Nat, k ≤ n ∧ i = .int .i64 (k : Int) ∧ xs.take k = ys.take k ∧ wr = w.drewN q) (fun i _ => n - (intOf i).toNat)
    case atStart => exact ⟨0, 0, Nat.zero_le _, rfl, by simp, rfl⟩
    case round =>
      obtain ⟨k, q, hk, rfl, hpre, rfl⟩ := hrel
      have hpre' := Lib.hid hpre
      clear hpre
      by_cases hlt : k < n
      · obtain ⟨ad, u, rfl, hu, hc⟩ := hx.at_ hlt
        obtain ⟨bd, v, rfl, hv, hd⟩ := hy.at_ hlt
        obtain ⟨x, hx1, rfl⟩ := getMap_some hu
        obtain ⟨y, hy1, rfl⟩ := getMap_some hv
        have hx2 := Lib.hid hx1
        have hy2 := Lib.hid hy1
        have hk0 : (0 : Int) ≤ (k : Int) := by omega
        have hkI : (k : Int) < (n : Int) := by omega
        clear hx1 hy1 hu hv
        by_cases hxy : x = y
        · subst hxy
          have hbne : (x != x) = false := by simp
          go_wp2_with fail
          go_quiet (fail)
          go_wp2_with fail
          go_roundw
          case rel => exact ⟨k + 1, _, by omega, by go_num, by rw [take_snoc_of hx2.out, take_snoc_of hy2.out, hpre'.out], rfl⟩
          case measure => simp [intOf]; omega
        · have hbne : (x != y) = true := by simpa using hxy
          have hxy' := Lib.hid hxy
          clear hxy
          go_wp2_with fail
          go_quiet (fail)
          go_wp2_with fail
          go_ret
          refine ⟨?_, _, World.drewN_drewN _ _ _⟩
          have : ¬ xs = ys := fun h => hxy'.out (by have h1 := hx2.out; rw [h, hy2.out] at h1; exact (Option.some.inj h1).symm)
          simp only [this, decide_false]
          rfl
      · obtain rfl : k = n := by omega
        go_wp2_with fail
        go_ret
        refine ⟨?_, _, rfl⟩
        have h1 := hpre'.out
        rw [List.take_of_length_le (by rw [hxl.out]; exact Nat.le_refl _), List.take_of_length_le (by rw [hyl.out]; exact Nat.le_refl _)] at h1
        simp only [h1, decide_true]
        rfl
  · have hne : ((n : Int) != (m : Int)) = true := by simp; omega
    have hnm' := Lib.hid hnm
    clear hnm
    go_enter Tryd.func26, Tryd.ntmps26
    go_wp2_with fail
    go_ret
    refine ⟨?_, 0, rfl⟩
    have : ¬ xs = ys := fun h => hnm'.out (by rw [← hxl.out, ← hyl.out, h])
    simp only [this, decide_false]
    rfl
end Go.Proofs.YtkhnohiokclcfaaDoor.Wire

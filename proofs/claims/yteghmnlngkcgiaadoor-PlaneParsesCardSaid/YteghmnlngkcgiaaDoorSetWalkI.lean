/- Sets: Of, the document's. -/
import Derived.Test.YteghmnlngkcgiaaDoorSetWalkH
import Derived.WalkSpells
namespace Go.Proofs.YteghmnlngkcgiaaDoor.Sets
open Go.RowKit Mem

/-- a store into a row of one's own -/
theorem own_put {w : World} {base g n cap i : Nat} {e : TypeId} {xs : List Value} {u : Value} (h : w.ownsRow base e 1 (.slice (some ⟨g, 0, none⟩) n cap) n xs) :
    (w.setCell ⟨g, i, none⟩ u).ownsRow base e 1 (.slice (some ⟨g, 0, none⟩) n cap) n (xs.set i u) ∧ w.frozen? ⟨g, i, none⟩ = false := by
  obtain ⟨h1, ⟨h2, _⟩ | ⟨g', cap', cur, hv, hb, hg, hnc, hm, hs, ht⟩⟩ := h
  · cases h2
  · injection hv with hv1 _ hv2
    injection hv1 with hv1
    obtain rfl : g = g' := congrArg Addr.block hv1
    obtain rfl : cap = cap' := hv2
    refine ⟨⟨by rw [List.length_set]; exact h1, Or.inr ⟨g, cap, cur.setIfInBounds i u, rfl, hb, heap_setCell_same w g i cur e u hg, hnc, hm, by rw [Array.size_setIfInBounds]; exact hs, ?_⟩⟩, frozen_of_row w g i cur e hg⟩
    rw [Array.toList_setIfInBounds, ← ht, List.take_set]
theorem own_slice {w : World} {base n : Nat} {e : TypeId} {v : Value} {xs : List Value} (h : w.ownsRow base e 1 v n xs) : ∃ A c, v = .slice A n c := by
  obtain ⟨_, ⟨h2, h3⟩ | ⟨g, cap, _, hv, _⟩⟩ := h
  · subst h3; exact ⟨_, _, h2⟩
  · exact ⟨_, _, hv⟩
theorem cellsOf_snoc (l : List UInt8) : cellsOf (l ++ [0]) = cellsOf l ++ [.int .u8 0] := by simp [cellsOf]
theorem mk_snoc (j : Nat) (p : Nat → Bool) (h : ∀ m, 8 * j ≤ m → p m = false) : mk j p ++ [0] = mk (j + 1) p := by
  rw [mk, mk, List.range_succ, List.map_append]
  congr 1
  have : byteOf (fun k => p (8 * j + k)) = 0 := byte_zero fun b hb => by rw [byteOf_bit _ _ hb]; exact h _ (by omega)
  simp [this]
theorem lenOf_snoc (l : List Nat) (x : Nat) : lenOf (l ++ [x]) = max (lenOf l) (x / 8 + 1) := by
  unfold lenOf
  rw [List.foldl_append]
  rfl
theorem lenOf_mem {l : List Nat} {x : Nat} (h : x ∈ l) : x / 8 < lenOf l := by
  have low : ∀ (l : List Nat) (a : Nat), a ≤ l.foldl (fun m x => max m (x / 8 + 1)) a ∧ ∀ x ∈ l, x / 8 + 1 ≤ l.foldl (fun m x => max m (x / 8 + 1)) a := by
    intro l
    induction l with
    | nil => intro a; exact ⟨Nat.le_refl _, fun x hx => by cases hx⟩
    | cons y l ih =>
      intro a
      rw [List.foldl_cons]
      obtain ⟨h1, h2⟩ := ih (max a (y / 8 + 1))
      refine ⟨by omega, fun x hx => ?_⟩
      rcases List.mem_cons.1 hx with rfl | hx
      · omega
      · exact h2 x hx
  exact (low l 0).2 x h

set_option maxRecDepth 100000 in
set_option maxHeartbeats 1000000 in
theorem rof_any (A : Option Addr) (n c : Nat) (l : List Int) (w : World) (hr : Row w A n (l.map (Value.int .i64))) (hn : n ≤ 9223372036854775807) (hok : l.any bad = false) :
    Calls Tryd.prog 50 #[.slice A n c] w fun e w' => e = .returned (.tuple #[.string ⟨(ofL (l.map Int.toNat)).toArray⟩, .int .i64 0]) ∧ Below w.heap.size w w' := by
  have hln : l.length = n := by have := hr.1; simpa using this
  have hgood : ∀ (k : Nat) (X : Int), l[k]? = some X → 0 ≤ X ∧ X ≤ 65535 := fun k X hX => by
    have h1 := List.any_eq_false.1 hok X (List.mem_of_getElem? hX)
    simp only [bad, Bool.or_eq_true, decide_eq_true_eq, not_or] at h1
    omega
  replace hgood := Lib.hid hgood
  replace hln := Lib.hid hln
  replace hr := Lib.hid hr
  clear hok
  go_enter Tryd.func50, Tryd.ntmps50
  go_wp2_with fail
  have o0 : (w.alloc (.cells #[] 5)).ownsRow w.heap.size 5 1 (.slice (some ⟨w.heap.size, 0, none⟩) 0 0) 0 (cellsOf (mk 0 fun m => decide (m ∈ (l.take 0).map Int.toNat))) := World.ownsRow_made w #[] 0 (Nat.le_refl _) (by decide) rfl
  have b0 : Below w.heap.size w (w.alloc (.cells #[] 5)) := (Below.refl _ w).alloc (Nat.le_refl _) _
  generalize hb : Value.slice (some ⟨w.heap.size, 0, none⟩) 0 0 = bv at o0 ⊢
  generalize w.alloc (.cells #[] 5) = w1 at o0 b0 ⊢
  replace hb := Lib.hid hb
  have hr1 := Lib.hid (hr.out.below b0)
  replace o0 := Lib.hid o0
  go_loop [5] (fun y => ∃ k : Nat, k ≤ n ∧ y = .int .i64 (k : Int)) (fun y => n - (intOf y).toNat)
  case atStart => exact ⟨0, Nat.zero_le _, rfl⟩
  case round =>
    obtain ⟨k, hk, rfl⟩ := hrel
    by_cases hlt : k < n
    · obtain ⟨ad, u, rfl, hu, hc⟩ := hr1.out.at_ hlt
      obtain ⟨X, hX, rfl⟩ := getMap_int hu
      obtain ⟨hX0, hX1⟩ := hgood.out k X hX
      have hd1 : decide (X < 0) = false := decide_eq_false (by omega)
      have hd2 : decide ((65535 : Int) < X) = false := decide_eq_false (by omega)
      replace hX := Lib.hid hX
      clear hu
      go_wp2_with fail
      go_round
      case rel => exact ⟨k + 1, by omega, by go_num⟩
      case measure => simp [intOf]; omega
    · obtain rfl : k = n := by omega
      go_wp2_with fail
      obtain ⟨i0, hinf, hz0, hz1, hz2⟩ := info_parts infoByte
      go_loopw [4, 6] (fun bv y wr => ∃ k' : Nat, k' ≤ k ∧ y = .int .i64 (k' : Int) ∧ wr.ownsRow w.heap.size 5 1 bv (lenOf ((l.take k').map Int.toNat)) (cellsOf (mk (lenOf ((l.take k').map Int.toNat)) fun m => decide (m ∈ (l.take k').map Int.toNat))) ∧ (∃ g cp, bv = .slice (some ⟨g, 0, none⟩) (lenOf ((l.take k').map Int.toNat)) cp) ∧ Below w.heap.size w wr) (fun _ y _ => k - (intOf y).toNat)
      case atStart => exact ⟨0, Nat.zero_le _, rfl, o0.out, ⟨_, _, hb.out.symm⟩, b0⟩
      case round =>
        obtain ⟨k', hk', rfl, hown, hform, hbel⟩ := hrel
        clear b0 o0 hr1
        have hrw := hr.out.below hbel
        by_cases hlt2 : k' < k
        · clear hform
          obtain ⟨ad, u, rfl, hu, hc⟩ := hrw.at_ hlt2
          obtain ⟨X, hX, rfl⟩ := getMap_int hu
          obtain ⟨hX0, hX1⟩ := hgood.out k' X hX
          obtain ⟨x, rfl⟩ := Int.eq_ofNat_of_zero_le hX0
          obtain ⟨i, hi⟩ : ∃ z, z = x / 8 := ⟨_, rfl⟩
          obtain ⟨j, hj⟩ : ∃ z, z = x % 8 := ⟨_, rfl⟩
          have ei : (x : Int) / 8 = (i : Int) := by rw [hi]; rfl
          have ej : (x : Int) % 8 = (j : Int) := by rw [hj]; rfl
          have hi13 : i ≤ 8191 := by omega
          have hj8 : j < 8 := by omega
          have hlen : lenOf ((l.take (k' + 1)).map Int.toNat) = max (lenOf ((l.take k').map Int.toNat)) (i + 1) := by
            rw [List.take_add_one, hX, List.map_append]
            show lenOf (_ ++ [((x : Nat) : Int).toNat]) = _
            rw [lenOf_snoc, Int.toNat_natCast, hi]
          have hp : (fun m => decide (m ∈ (l.take (k' + 1)).map Int.toNat)) = fun m => (fun m => decide (m ∈ (l.take k').map Int.toNat)) m || m == x := by
            funext y
            show decide (y ∈ (l.take (k' + 1)).map Int.toNat) = (decide (y ∈ (l.take k').map Int.toNat) || y == x)
            rw [Bool.eq_iff_iff, Bool.or_eq_true, decide_eq_true_eq, decide_eq_true_eq, beq_iff_eq, List.take_add_one, hX, List.map_append, List.mem_append]
            simp
          have hbey : ∀ m, 8 * lenOf ((l.take k').map Int.toNat) ≤ m → (fun m => decide (m ∈ (l.take k').map Int.toNat)) m = false := fun m hm => decide_eq_false (fun h => by have := lenOf_mem h; omega)
          generalize (fun m => decide (m ∈ (l.take k').map Int.toNat)) = p at hown hp hbey
          generalize lenOf ((l.take k').map Int.toNat) = q at hown hlen hbey
          replace hi := Lib.hid hi
          replace hj := Lib.hid hj
          replace hX := Lib.hid hX
          replace hlen := Lib.hid hlen
          replace hp := Lib.hid hp
          replace hbey := Lib.hid hbey
          replace hown := Lib.hid hown
          clear hu
          go_wp2_with fail
          go_loopw [4] (fun bv wq => ∃ z : Nat, q ≤ z ∧ z ≤ max q (i + 1) ∧ wq.ownsRow w.heap.size 5 1 bv z (cellsOf (mk z p)) ∧ Below w.heap.size w wq) (fun bv _ => match bv with | .slice _ z _ => i + 1 - z | _ => 0)
          case atStart => exact ⟨q, Nat.le_refl _, by omega, hown.out, hbel⟩
          case round =>
            obtain ⟨z, hz1', hz2', hownz, hbelz⟩ := hrel
            obtain ⟨A4, c4, rfl⟩ := own_slice hownz
            obtain ⟨ad', hae, hcz⟩ : ∃ ad', some ad = some ad' ∧ _ := (hr.out.below hbelz).2 k' (.int .i64 (x : Int)) (by rw [List.getElem?_map, hX.out]; rfl)
            injection hae with hae
            subst hae
            have hw0 := hbelz.size
            by_cases hle : z ≤ i
            · replace hz1' := Lib.hid hz1'
              replace hz2' := Lib.hid hz2'
              go_wp2_with (first
                | (at_builtin; refine wpList_append_own _ rfl (.tmp 40) (.tmp 41) _ rfl w.heap.size 5 i0 (.int .u8 0) 1 1 Tryd.underlying34 hinf hz0 hz1 hz2 rfl (by decide) (.slice A4 z c4) z _ rfl (hownz.alloc _) ⟨wr.heap.size, 0, none⟩ 1 1 [.int .u8 0] rfl rfl (cell_one_new _ _ _) (by simp [Value.oneCell']) (by unfold maxLen; omega) (by omega) (by simp; omega) ?_; intro v1 w11 hown1 hg1 hn1))
              obtain ⟨A5, c5, rfl⟩ := own_slice hown1
              refine ⟨⟨z + 1, by have := hz1'.out; omega, by omega, ?_, (hbelz.alloc hw0 _).grown hg1 (by simp; omega) (fun k hk => (hownz.lt k hk).1)⟩, ?_⟩
              · rw [← mk_snoc z p (fun m hm => hbey.out m (by have := hz1'.out; omega)), cellsOf_snoc]
                exact hown1
              · show i + 1 - (z + 1) < i + 1 - z
                omega
            · obtain ⟨g, cap, hv, _, _⟩ := hownz.form (by omega)
              injection hv with hv1 _ hv2
              subst hv1 hv2
              obtain ⟨cb, hcb⟩ : ∃ cb, (mk z p)[i]? = some cb := ⟨_, List.getElem?_eq_getElem (by rw [mk_length]; omega)⟩
              have mB : wr.cell? ⟨g, i, none⟩ = some (.int .u8 (cb.toNat : Int)) := by
                have h := hownz.cells (g := g) rfl i (.int .u8 (cb.toNat : Int)) (by rw [cellsOf, List.getElem?_map, hcb]; rfl)
                rwa [add_lit, Nat.zero_add] at h
              obtain ⟨cc, hcc⟩ : ∃ cc : UInt8, cc = cb ||| UInt8.ofNat (2 ^ j) := ⟨_, rfl⟩
              have hst := own_put (i := i) (u := .int .u8 (cc.toNat : Int)) hownz
              have fB := hst.2
              have hgB : w.heap.size ≤ g := (hownz.lt g rfl).1
              have hset : (cellsOf (mk z p)).set i (.int .u8 (cc.toNat : Int)) = cellsOf (mk z fun m => p m || m == x) := by
                rw [← mk_put z p x (by rw [← hi.out]; omega), put, ← hi.out, ← hj.out, hcb, cellsOf, cellsOf, List.map_set, hcc]
                rfl
              have hown' := hst.1
              rw [hset] at hown'
              have mo := or_put cb j hj8
              have hp2 : ((2 ^ j : Nat) : Int) = 2 ^ j := by rw [Int.natCast_pow]; rfl
              rw [hp2, ← hcc] at mo
              have hsh : IntKind.u8.wrap (2 ^ j) = 2 ^ j := by
                have h : 2 ^ j < 2 ^ 8 := Nat.pow_lt_pow_right (by decide) hj8
                rw [← hp2, IntKind.wrap_u8]
                generalize 2 ^ j = P at h ⊢
                omega
              have hbel' : Below w.heap.size w (wr.setCell ⟨g, i, none⟩ (.int .u8 (cc.toNat : Int))) := hbelz.setCell hgB _
              have hzi : (i : Int) < (z : Int) := by omega
              have hwi : IntKind.i64.wrap (i : Int) = (i : Int) := IntWalk.i64_in _ ⟨by omega, by omega⟩
              have ej2 : (x : Int).tmod 8 = (j : Int) := by rw [Int.tmod_eq_emod_of_nonneg (by omega)]; exact ej
              have hzl : z = max q (i + 1) := by omega
              have hdz : decide ((z : Int) ≤ (i : Int)) = false := decide_eq_false (by omega)
              replace hzl := Lib.hid hzl
              replace hz1' := Lib.hid hz1'
              replace hz2' := Lib.hid hz2'
              replace hcc := Lib.hid hcc
              replace hown' := Lib.hid hown'
              replace hbel' := Lib.hid hbel'
              replace hp2 := Lib.hid hp2
              replace hle := Lib.hid hle
              clear hst hset hcb hownz
              go_wp2_with fail
              go_still_tail 16, (by kernel_rfl)
              change wpList _ _ _ _ _ wr.drew
              go_wp2_with fail
              refine ⟨⟨k' + 1, by omega, rfl, ?_, ?_, hbel'.out.drew⟩, ?_⟩
              · rw [hlen.out, hp.out, ← hzl.out]
                exact hown'.out
              · rw [hlen.out, ← hzl.out]
                exact ⟨_, _, rfl⟩
              · simp [intOf]; omega
        · obtain rfl : k' = k := by omega
          obtain ⟨g, cp, rfl⟩ := hform
          have htk : l.take k' = l := List.take_of_length_le (by rw [hln.out]; exact Nat.le_refl _)
          rw [htk] at hown ⊢
          have hll : (mk (lenOf (l.map Int.toNat)) fun m => decide (m ∈ l.map Int.toNat)).length = lenOf (l.map Int.toNat) := mk_length _ _
          have hcv := run_convert_bytes_back (P := Tryd.prog) wr 34 9 5 ⟨g, 0, none⟩ cp (mk (lenOf (l.map Int.toNat)) fun m => decide (m ∈ l.map Int.toNat)) Tryd.underlying34 Tryd.underlying5 Tryd.underlying9 (fun j hj => hown.cells (g := g) rfl j _ (by rw [cellsOf, List.getElem?_map, List.getElem?_eq_getElem hj]; rfl))
          rw [hll] at hcv
          have hof : (⟨(ofL (l.map Int.toNat)).toArray⟩ : ByteArray) = ⟨(mk (lenOf (l.map Int.toNat)) fun m => decide (m ∈ l.map Int.toNat)).toArray⟩ := rfl
          rw [← hof] at hcv
          generalize hT : (⟨(ofL (l.map Int.toNat)).toArray⟩ : ByteArray) = T at hcv
          generalize lenOf (l.map Int.toNat) = q at hcv ⊢
          replace hT := Lib.hid hT
          clear hown hll hof htk hrw
          go_wp2_with fail
          go_ret2
          exact ⟨by rw [hT.out]; rfl, hbel⟩
end Go.Proofs.YteghmnlngkcgiaaDoor.Sets

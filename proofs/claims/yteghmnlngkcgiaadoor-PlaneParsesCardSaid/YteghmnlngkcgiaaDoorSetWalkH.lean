/- Sets: Of, the program's. -/
import Derived.Test.YteghmnlngkcgiaaDoorSetWalkG
import Derived.Test.YteghmnlngkcgiaaDoorSetSpecB
import Derived.Test.YteghmnlngkcgiaaDoorSetSpecD
namespace Go.Proofs.YteghmnlngkcgiaaDoor.Sets
open Go.RowKit Mem

/-- how many bytes the text of these numbers has -/
def lenOf (l : List Nat) : Nat := l.foldl (fun m x => max m (x / 8 + 1)) 0
/-- the text of numbers -/
def ofL (l : List Nat) : List UInt8 := mk (lenOf l) fun m => decide (m ∈ l)

set_option maxRecDepth 100000 in
set_option maxHeartbeats 1000000 in
theorem of_bad (A : Option Addr) (n c : Nat) (l : List Int) (w : World) (hr : Row w A n (l.map (Value.int .i64))) (hn : n ≤ 9223372036854775807) (hb : l.any bad = true) :
    Calls Tryd.prog 35 #[.slice A n c] w fun e w' => e = .returned (.tuple #[.string ⟨#[]⟩, .int .i64 10]) ∧ w' = w := by
  have k1 := contains_any A n c l w hr hn
  rw [hb] at k1
  replace k1 := Lib.hid k1
  clear hr hb
  go_enter Tryd.func35, Tryd.ntmps35
  go_wp2_with fail
  refine k1.out.mono ?_
  rintro e w2 ⟨rfl, rfl⟩
  go_wp2_with fail
  go_ret2
  exact ⟨rfl, rfl⟩

theorem lenOf_max {l : List Nat} {m : Nat} (hm : m ∈ l) (h : ∀ x ∈ l, x ≤ m) : lenOf l = m / 8 + 1 := by
  have key : ∀ (l : List Nat) (a : Nat), l.foldl (fun m x => max m (x / 8 + 1)) a = a ∨ (∃ x ∈ l, l.foldl (fun m x => max m (x / 8 + 1)) a = x / 8 + 1) := by
    intro l
    induction l with
    | nil => intro a; exact Or.inl rfl
    | cons y l ih =>
      intro a
      rw [List.foldl_cons]
      rcases ih (max a (y / 8 + 1)) with h1 | ⟨x, hx, h1⟩
      · rw [h1]
        rcases Nat.le_total a (y / 8 + 1) with h2 | h2
        · exact Or.inr ⟨y, List.mem_cons_self, Nat.max_eq_right h2⟩
        · exact Or.inl (Nat.max_eq_left h2)
      · exact Or.inr ⟨x, List.mem_cons_of_mem _ hx, h1⟩
  have low : ∀ (l : List Nat) (a : Nat), a ≤ l.foldl (fun m x => max m (x / 8 + 1)) a ∧ ∀ x ∈ l, x / 8 + 1 ≤ l.foldl (fun m x => max m (x / 8 + 1)) a := by
    intro l
    induction l with
    | nil => intro a; exact ⟨Nat.le_refl _, fun x hx => by cases hx⟩
    | cons y l ih =>
      intro a
      rw [List.foldl_cons]
      obtain ⟨h1, h2⟩ := ih (max a (y / 8 + 1))
      refine ⟨by omega, fun x hx => ?_⟩
      rcases List.mem_cons.1 hx with rfl | hx
      · omega
      · exact h2 x hx
  have h1 := (low l 0).2 m hm
  rcases key l 0 with h2 | ⟨x, hx, h2⟩
  · unfold lenOf; omega
  · have := h x hx
    unfold lenOf
    omega
def cellsOf (l : List UInt8) : List Value := l.map fun c => .int .u8 (c.toNat : Int)
theorem cells_at {l : List UInt8} {i : Nat} {c : UInt8} (h : l[i]? = some c) : (⟨cellsOf l⟩ : Array Value)[i]? = some (.int .u8 (c.toNat : Int)) := by
  rw [List.getElem?_toArray, cellsOf, List.getElem?_map, h]; rfl
theorem cells_put {l : List UInt8} {x : Nat} {c : UInt8} (h : l[x / 8]? = some c) : (⟨cellsOf l⟩ : Array Value).setIfInBounds (x / 8) (.int .u8 ((c ||| UInt8.ofNat (2 ^ (x % 8))).toNat : Int)) = ⟨cellsOf (put l x)⟩ := by
  apply Array.toList_inj.1
  rw [Array.toList_setIfInBounds]
  rw [put, h, cellsOf, cellsOf, List.map_set]
  rfl
theorem or_put (c : UInt8) (j : Nat) (hj : j < 8) : bits .or .u8 (c.toNat : Int) ((2 ^ j : Nat) : Int) = ((c ||| UInt8.ofNat (2 ^ j)).toNat : Int) := by
  have h : 2 ^ j < 2 ^ 8 := Nat.pow_lt_pow_right (by decide) hj
  rw [u8_or_nat _ _ c.toNat_lt h, UInt8.toNat_or, bit_toNat j hj]
theorem spot_none {w : World} {a : Addr} {u : Value} (h : w.cell? a = some u) : a.spot = none := by
  unfold World.cell? at h
  split at h
  · cases hs : a.spot with
    | none => rfl
    | some x => simp [hs] at h
  · simp at h
theorem maxOf_mem {l : List Int} (h : l ≠ []) : Lib.maxOf l ∈ l ∧ ∀ x ∈ l, x ≤ Lib.maxOf l := by
  have key : ∀ (l : List Int) (m : Int), (l.foldl max m = m ∨ l.foldl max m ∈ l) ∧ m ≤ l.foldl max m ∧ ∀ x ∈ l, x ≤ l.foldl max m := by
    intro l
    induction l with
    | nil => intro m; exact ⟨Or.inl rfl, Int.le_refl _, fun x hx => by cases hx⟩
    | cons y l ih =>
      intro m
      obtain ⟨h1, h2, h3⟩ := ih (max m y)
      rw [List.foldl_cons]
      refine ⟨?_, by omega, fun x hx => ?_⟩
      · rcases h1 with h1 | h1
        · rw [h1]
          rcases Int.le_total m y with h | h
          · right; rw [Int.max_eq_right h]; exact List.mem_cons_self
          · left; exact Int.max_eq_left h
        · right; exact List.mem_cons_of_mem _ h1
      · rcases List.mem_cons.1 hx with rfl | hx
        · omega
        · exact h3 x hx
  cases l with
  | nil => exact absurd rfl h
  | cons y l =>
    obtain ⟨h1, h2, h3⟩ := key (y :: l) y
    refine ⟨?_, h3⟩
    rcases h1 with h1 | h1
    · show (y :: l).foldl max y ∈ y :: l
      rw [h1]; exact List.mem_cons_self
    · exact h1

set_option maxRecDepth 100000 in
set_option maxHeartbeats 1000000 in
theorem of_nil (A : Option Addr) (c : Nat) (w : World) :
    Calls Tryd.prog 35 #[.slice A 0 c] w fun e w' => e = .returned (.tuple #[.string ⟨#[]⟩, .int .i64 0]) ∧ w' = w := by
  have k1 := Lib.hid (contains_any A 0 c [] w (Row.nil_ A) (by decide))
  go_enter Tryd.func35, Tryd.ntmps35
  go_wp2_with fail
  refine k1.out.mono ?_
  rintro e w2 ⟨rfl, rfl⟩
  go_wp2_with fail
  go_ret2
  exact ⟨rfl, rfl⟩

set_option maxRecDepth 100000 in
set_option maxHeartbeats 1000000 in
theorem of_some (A : Option Addr) (n c : Nat) (l : List Int) (w : World) (hr : Row w A n (l.map (Value.int .i64))) (hn : n ≤ 9223372036854775807) (h0 : 0 < n) (hok : l.any bad = false) :
    Calls Tryd.prog 35 #[.slice A n c] w fun e w' => e = .returned (.tuple #[.string ⟨(ofL (l.map Int.toNat)).toArray⟩, .int .i64 0]) ∧ Below w.heap.size w w' := by
  have hln : l.length = n := by have := hr.1; simpa using this
  have k1 := contains_any A n c l w hr hn
  rw [hok] at k1
  obtain ⟨ad, u, rfl, hu, hc⟩ := hr.at_ h0
  have hsp : ad.spot = none := by
    have := spot_none hc
    unfold Addr.add at this
    simpa using this
  obtain ⟨b, off, sp⟩ := ad
  obtain rfl : sp = none := hsp
  have k2 := Tryd.slices_Max_int b off n c l w h0 (by omega) hn (fun j hj => by
    obtain ⟨ad, ha, hcell⟩ := hr.2 j (.int .i64 (l[j]'hj)) (by rw [List.getElem?_map, List.getElem?_eq_getElem hj]; rfl)
    injection ha with ha
    rw [← ha, add_lit] at hcell
    rw [hcell, List.getD_eq_getElem?_getD, List.getElem?_eq_getElem hj]
    rfl)
  rw [List.take_of_length_le (by omega)] at k2
  obtain ⟨hmem, hmax⟩ := maxOf_mem (l := l) (by intro h; rw [h] at hln; simp at hln; omega)
  generalize Lib.maxOf l = M at k2 hmem hmax
  have hM : 0 ≤ M ∧ M ≤ 65535 := by
    have := List.any_eq_false.1 hok M hmem
    simp only [bad, Bool.or_eq_true, decide_eq_true_eq, not_or] at this
    omega
  obtain ⟨m, rfl⟩ := Int.eq_ofNat_of_zero_le hM.1
  have hm : m ≤ 65535 := by omega
  have hmi : (m : Int) / 8 = ((m / 8 : Nat) : Int) := rfl
  obtain ⟨q, hq⟩ : ∃ q, q = m / 8 + 1 := ⟨_, rfl⟩
  have hqi : (m : Int) / 8 + 1 = (q : Int) := by rw [hq]; omega
  have hq13 : q ≤ 8192 := by omega
  have mk1 := make_bytes w q (by omega)
  replace k1 := Lib.hid k1
  replace k2 := Lib.hid k2
  replace hr := Lib.hid hr
  replace hmax := Lib.hid hmax
  replace hmem := Lib.hid hmem
  replace hln := Lib.hid hln
  replace hok := Lib.hid hok
  replace hq := Lib.hid hq
  clear hu hc hM hmi
  go_enter Tryd.func35, Tryd.ntmps35
  go_wp2_with fail
  refine k1.out.mono ?_
  rintro e w2 ⟨rfl, rfl⟩
  go_wp2_with fail
  refine k2.out.mono ?_
  rintro e w3 ⟨rfl, rfl⟩
  go_wp2_with fail
  generalize hB : w3.heap.size = B
  have h0' : Blk (w3.alloc (.cells (zeros q) 5)) B 5 ⟨cellsOf (mk q fun m => decide (m ∈ (l.take 0).map Int.toNat))⟩ := by
    rw [← hB]
    have e : (⟨cellsOf (mk q fun m => decide (m ∈ (l.take 0).map Int.toNat))⟩ : Array Value) = zeros q := by
      rw [mk_congr (p' := fun _ => false) (fun m _ => by simp), mk_none, cellsOf, zeros]
      simp
    rw [e]
    exact Blk.new w3 _ _
  have b0 : Below w3.heap.size w3 (w3.alloc (.cells (zeros q) 5)) := (Below.refl _ w3).alloc (Nat.le_refl _) _
  rw [hB] at b0
  clear mk1
  generalize w3.alloc (.cells (zeros q) 5) = w4 at h0' b0 ⊢
  replace hB := Lib.hid hB
  go_loopw [19] (fun y wr => ∃ k : Nat, k ≤ n ∧ y = .int .i64 (k : Int) ∧ Blk wr B 5 ⟨cellsOf (mk q fun m => decide (m ∈ (l.take k).map Int.toNat))⟩ ∧ Below B w3 wr) (fun y _ => n - (intOf y).toNat)
  case atStart => exact ⟨0, Nat.zero_le _, rfl, h0', b0⟩
  case round =>
    obtain ⟨k, hk, rfl, hblk, hbel⟩ := hrel
    clear h0' b0
    by_cases hlt : k < n
    · obtain ⟨ad, u, ha, hu, hc⟩ := (hr.out.below (by rw [hB.out]; exact hbel)).at_ hlt
      injection ha with ha
      rw [← ha, add_lit] at hc
      obtain ⟨X, hX, rfl⟩ := getMap_int hu
      have hXb : 0 ≤ X ∧ X ≤ m := by
        have h1 := List.any_eq_false.1 hok.out X (List.mem_of_getElem? hX)
        simp only [bad, Bool.or_eq_true, decide_eq_true_eq, not_or] at h1
        exact ⟨by omega, hmax.out X (List.mem_of_getElem? hX)⟩
      obtain ⟨x, rfl⟩ := Int.eq_ofNat_of_zero_le hXb.1
      obtain ⟨i, hi⟩ : ∃ z, z = x / 8 := ⟨_, rfl⟩
      obtain ⟨j, hj⟩ : ∃ z, z = x % 8 := ⟨_, rfl⟩
      have ei : (x : Int) / 8 = (i : Int) := by rw [hi]; rfl
      have ej : (x : Int) % 8 = (j : Int) := by rw [hj]; rfl
      have hiq : i < q := by rw [hi, hq.out]; omega
      have hj8 : j < 8 := by omega
      obtain ⟨cb, hcb⟩ : ∃ cb, (mk q fun m => decide (m ∈ (l.take k).map Int.toNat))[i]? = some cb := ⟨_, List.getElem?_eq_getElem (by rw [mk_length]; exact hiq)⟩
      have mB : wr.cell? ⟨B, i, none⟩ = some (.int .u8 (cb.toNat : Int)) := (hblk.cell i).trans (cells_at hcb)
      have fB := hblk.free i
      have hstep : Blk (wr.setCell ⟨B, i, none⟩ (.int .u8 ((cb ||| UInt8.ofNat (2 ^ j)).toNat : Int))) B 5 ⟨cellsOf (mk q fun m => decide (m ∈ (l.take (k + 1)).map Int.toNat))⟩ := by
        have h := hblk.put i (.int .u8 ((cb ||| UInt8.ofNat (2 ^ j)).toNat : Int))
        rw [hi] at hcb h ⊢
        rw [hj] at h ⊢
        rw [cells_put hcb, mk_put _ _ _ (by rw [← hi]; exact hiq)] at h
        have hp : mk q (fun m => decide (m ∈ (l.take (k + 1)).map Int.toNat)) = mk q (fun m => decide (m ∈ (l.take k).map Int.toNat) || m == x) := mk_congr fun y _ => by
          rw [Bool.eq_iff_iff, Bool.or_eq_true, decide_eq_true_eq, decide_eq_true_eq, beq_iff_eq, List.take_add_one, hX, List.map_append, List.mem_append]
          simp
        rw [hp]
        exact h
      have mo := or_put cb j hj8
      have hp2 : ((2 ^ j : Nat) : Int) = 2 ^ j := by rw [Int.natCast_pow]; rfl
      rw [hp2] at mo
      have hsh : IntKind.u8.wrap (2 ^ j) = 2 ^ j := by
        have h : 2 ^ j < 2 ^ 8 := Nat.pow_lt_pow_right (by decide) hj8
        rw [← hp2, IntKind.wrap_u8]
        generalize 2 ^ j = P at h ⊢
        omega
      have hbel' : Below B w3 (wr.setCell ⟨B, i, none⟩ (.int .u8 ((cb ||| UInt8.ofNat (2 ^ j)).toNat : Int))) := hbel.setCell (Nat.le_refl _) _
      obtain ⟨cc, hcc⟩ : ∃ cc : UInt8, cc = cb ||| UInt8.ofNat (2 ^ j) := ⟨_, rfl⟩
      rw [← hcc] at hstep mo hbel'
      replace hcc := Lib.hid hcc
      have hiq' : (i : Int) < (q : Int) := by omega
      have hwi : IntKind.i64.wrap (i : Int) = (i : Int) := IntWalk.i64_in _ ⟨by omega, by omega⟩
      have ej2 : (x : Int).tmod 8 = (j : Int) := by rw [Int.tmod_eq_emod_of_nonneg (by omega)]; exact ej
      replace hi := Lib.hid hi
      replace hj := Lib.hid hj
      replace hX := Lib.hid hX
      replace hstep := Lib.hid hstep
      replace hbel' := Lib.hid hbel'
      replace hp2 := Lib.hid hp2
      replace hbel := Lib.hid hbel
      clear hblk hu hcb ha hXb hp2
      go_wp2_with fail
      go_still_tail 10, (by kernel_rfl)
      change wpList _ _ _ _ _ wr.drew
      go_wp2_with fail
      go_roundw
      case rel => exact ⟨k + 1, by omega, by go_num, hstep.out, hbel'.out.drew⟩
      case measure => simp [intOf]; omega
    · obtain rfl : k = n := by omega
      have htk : l.take k = l := List.take_of_length_le (by rw [hln.out]; exact Nat.le_refl _)
      rw [htk] at hblk
      have hlen : (mk q fun m => decide (m ∈ l.map Int.toNat)).length = q := mk_length _ _
      have c4 := least_any (mk q fun m => decide (m ∈ l.map Int.toNat)) B q wr (by rw [hlen]; omega) (fun j hj => (hblk.cell j).trans (cells_at (List.getElem?_eq_getElem hj)))
      have hls : least (mk q fun m => decide (m ∈ l.map Int.toNat)) = mk q fun m => decide (m ∈ l.map Int.toNat) :=
        mk_least (m := m) hq.out.symm (decide_eq_true (List.mem_map.2 ⟨(m : Int), hmem.out, Int.toNat_natCast m⟩))
      have hlo : lenOf (l.map Int.toNat) = q := by
        rw [hq.out]
        exact lenOf_max (List.mem_map.2 ⟨(m : Int), hmem.out, Int.toNat_natCast m⟩) (fun x hx => by
          obtain ⟨y, hy, rfl⟩ := List.mem_map.1 hx
          have := hmax.out y hy
          omega)
      have hof : ofL (l.map Int.toNat) = mk q fun m => decide (m ∈ l.map Int.toNat) := by rw [ofL, hlo]
      rw [hlen, hls, ← hof] at c4
      generalize hT : (⟨(ofL (l.map Int.toNat)).toArray⟩ : ByteArray) = T at c4
      replace hT := Lib.hid hT
      replace c4 := Lib.hid c4
      clear hblk hlen hls hlo hof htk
      go_wp2_with fail
      refine c4.out.mono ?_
      rintro e w5 ⟨rfl, rfl⟩
      go_wp2_with fail
      go_ret2
      exact ⟨by rw [hT.out]; rfl, by rw [hB.out]; exact hbel⟩
end Go.Proofs.YteghmnlngkcgiaaDoor.Sets

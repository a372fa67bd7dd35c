/- The tree's pointers. -/
import Derived.Test.YtajlfmnjibgbaaaGreatDoorTrWalkB
import Derived.Test.YtajlfmnjibgbaaaGreatDoorBlkNum
import Derived.BigRegion
import Derived.Test.YtajlfmnjibgbaaaGreatDoorRowz
namespace Go.Proofs.YtajlfmnjibgbaaaGreatDoor.Tr
open Go Go.RowKit Mem Disk Nv Vl
def intV (l : List Int) : List Value := l.map (Value.int .i64)
set_option maxRecDepth 100000 in
theorem intV_append (l r : List Int) : intV (l ++ r) = intV l ++ intV r := List.map_append
set_option maxRecDepth 100000 in
theorem intV_length (l : List Int) : (intV l).length = l.length := List.length_map _
set_option maxRecDepth 100000 in
theorem ptrs_length {s : ByteArray} {m : Nat} (h : s.size = 4 * m) : (ptrs s).length = m := by
  unfold ptrs
  rw [List.length_map, List.length_range, h]
  omega
set_option maxRecDepth 100000 in
theorem ptrs_get {s : ByteArray} {m k : Nat} (h : s.size = 4 * m) (hk : k < m) : (ptrs s)[k]? = some (val4 s (4 * k) : Int) := by
  unfold ptrs
  rw [List.getElem?_map, List.getElem?_range (by omega)]
  rfl
set_option maxRecDepth 100000 in
theorem get_at {s : ByteArray} {i : Nat} (h : i < s.size) : s.get! i = s[i] := by
  show s.data[i]! = s.data[i]
  rw [getElem!_def, Array.getElem?_eq_getElem h]
set_option maxRecDepth 100000 in
/-- four bytes, as the program lays them together -/
theorem or_four (c0 c1 c2 c3 : UInt8) : bits .or .i64 (bits .or .i64 (bits .or .i64 (IntKind.i64.wrap (c0.toNat : Int)) (IntKind.i64.wrap (IntKind.i64.wrap (c1.toNat : Int) * 256))) (IntKind.i64.wrap (IntKind.i64.wrap (c2.toNat : Int) * 65536))) (IntKind.i64.wrap (IntKind.i64.wrap (c3.toNat : Int) * 16777216)) = ((c0.toNat + 256 * c1.toNat + 65536 * c2.toNat + 16777216 * c3.toNat : Nat) : Int) := by
  have h0 := c0.toNat_lt
  have h1 := c1.toNat_lt
  have h2 := c2.toNat_lt
  have h3 := c3.toNat_lt
  have e1 := or_byte c0.toNat c1.toNat 1 (by omega) (by decide) c1.toNat_lt
  have e2 := or_byte (c0.toNat + 256 ^ 1 * c1.toNat) c2.toNat 2 (by omega) (by decide) c2.toNat_lt
  have e3 := or_byte (c0.toNat + 256 ^ 1 * c1.toNat + 256 ^ 2 * c2.toNat) c3.toNat 3 (by omega) (by decide) c3.toNat_lt
  rw [IntWalk.i64_in (c0.toNat : Int) (by omega), IntWalk.i64_in (c1.toNat : Int) (by omega), IntWalk.i64_in (c2.toNat : Int) (by omega), IntWalk.i64_in (c3.toNat : Int) (by omega)]
  rw [IntWalk.i64_in ((c1.toNat : Int) * 256) (by omega), IntWalk.i64_in ((c2.toNat : Int) * 65536) (by omega), IntWalk.i64_in ((c3.toNat : Int) * 16777216) (by omega)]
  refine (congrArg (fun x => bits .or .i64 (bits .or .i64 x _) _) (show bits .or .i64 (c0.toNat : Int) ((c1.toNat : Int) * 256) = _ from e1)).trans ?_
  refine (congrArg (fun x => bits .or .i64 x _) (show bits .or .i64 _ ((c2.toNat : Int) * 65536) = _ from e2)).trans ?_
  exact e3
set_option maxRecDepth 100000 in
set_option maxHeartbeats 8000000 in
theorem pointers_any (s : ByteArray) (m : Nat) (w : World) (hs : s.size = 4 * m) (hm : m ≤ 1000) :
    Calls Tryz.prog 98 #[.string s] w fun e w' => ∃ v, e = .returned v ∧ w'.ownsRow w.heap.size 3 1 v m (intV (ptrs s)) ∧ Below w.heap.size w w' := by
  obtain ⟨i0, hinf, hz0, hz1, hz2⟩ := info_parts infoInt
  have hsz : s.size ≤ 4000 := by omega
  replace hs := Lib.hid hs
  go_enter Tryz.func98, Tryz.ntmps98
  go_wp2_with fail
  go_loopw [3, 4] (fun lv iv wr => ∃ k p : Nat, k ≤ m ∧ Hid (p = 4 * k) ∧ iv = .int .i64 (p : Int) ∧ wr.ownsRow w.heap.size 3 1 lv k (intV ((ptrs s).take k)) ∧ Below w.heap.size w wr) (fun _ iv _ => 4 * m - (intOf iv).toNat)
  case atStart => exact ⟨0, 0, Nat.zero_le _, Lib.hid rfl, rfl, World.ownsRow_nil _ _ _ _, Below.refl _ _⟩
  case round =>
    obtain ⟨k, p, hk, hp, rfl, hown, hb⟩ := hrel
    have hbs := hb.size
    by_cases hlt : k < m
    · have hg := ptrs_get hs.out hlt
      have ht : (ptrs s).take (k + 1) = (ptrs s).take k ++ [(val4 s (4 * k) : Int)] := by rw [List.take_add_one, hg]; rfl
      have hp3 : p + 3 < s.size := by have := hp.out; have := hs.out; omega
      have hv : val4 s p = (s[p]).toNat + 256 * (s[p + 1]).toNat + 65536 * (s[p + 2]).toNat + 16777216 * (s[p + 3]).toNat := by
        unfold val4
        rw [get_at (by omega), get_at (by omega), get_at (by omega), get_at (by omega)]
      have hor := or_four s[p] s[p + 1] s[p + 2] s[p + 3]
      rw [← hv] at hor
      rw [← hp.out] at ht
      obtain ⟨V, hV⟩ : ∃ V, V = val4 s p := ⟨_, rfl⟩
      rw [← hV] at hor ht
      obtain ⟨b0, i0'⟩ : ∃ b, s[p] = b := ⟨_, rfl⟩
      obtain ⟨b1, i1⟩ : ∃ b, s[p + 1] = b := ⟨_, rfl⟩
      obtain ⟨b2, i2⟩ : ∃ b, s[p + 2] = b := ⟨_, rfl⟩
      obtain ⟨b3, i3⟩ : ∃ b, s[p + 3] = b := ⟨_, rfl⟩
      rw [i0', i1, i2, i3] at hor
      have hor : bits .or .i64 (bits .or .i64 (bits .or .i64 (IntKind.i64.wrap (b0.toNat : Int)) (IntKind.i64.wrap (IntKind.i64.wrap (b1.toNat : Int) * 256))) (IntKind.i64.wrap (IntKind.i64.wrap (b2.toNat : Int) * 65536))) (IntKind.i64.wrap (IntKind.i64.wrap (b3.toNat : Int) * 16777216)) = (V : Int) := hor
      have t2 : ((p : Int) + 2).toNat = p + 2 := by omega
      have t3 : ((p : Int) + 3).toNat = p + 3 := by omega
      have hxl : (intV ((ptrs s).take k)).length = k := by simpa using hown.1
      obtain ⟨X, hX⟩ : ∃ X, X = intV ((ptrs s).take k) := ⟨_, rfl⟩
      rw [← hX] at hown hxl
      have hstep : intV ((ptrs s).take (k + 1)) = X ++ [.int .i64 (V : Int)] := by rw [ht, intV_append, hX]; rfl
      have oa : (wr.alloc (.cells #[.int .i64 (V : Int)] 3)).drew.ownsRow w.heap.size 3 1 u3 k X := hown.alloc _
      have hba : Below w.heap.size w (wr.alloc (.cells #[.int .i64 (V : Int)] 3)).drew := (hb.alloc hbs _).drew
      have z0 : (0 : Int) ≤ (p : Int) := by omega
      have z1 : (p : Int) < (s.size : Int) := by omega
      have w1 : IntKind.i64.wrap ((p : Int) + 1) = ((p + 1 : Nat) : Int) := IntWalk.i64_in _ (by omega)
      have w2 : IntKind.i64.wrap ((p : Int) + 2) = ((p + 2 : Nat) : Int) := IntWalk.i64_in _ (by omega)
      have w3 : IntKind.i64.wrap ((p : Int) + 3) = ((p + 3 : Nat) : Int) := IntWalk.i64_in _ (by omega)
      have y1 : (p : Int) + 1 < (s.size : Int) := by omega
      have y2 : (p : Int) + 2 < (s.size : Int) := by omega
      have y3 : (p : Int) + 3 < (s.size : Int) := by omega
      have x1 : (0 : Int) ≤ (p : Int) + 1 := by omega
      have x2 : (0 : Int) ≤ (p : Int) + 2 := by omega
      have x3 : (0 : Int) ≤ (p : Int) + 3 := by omega
      replace hstep := Lib.hid hstep
      replace hX := Lib.hid hX
      replace hV := Lib.hid hV
      clear hv ht hg
      go_upto_region 5 with fail
      refine Late.start (S := fun _ => True) (T := fun _ => True) (late := []) (by kernel_rfl) ?_
      have hS : True := trivial
      have hT : True := trivial
      refine Late.take (i := 0) (oi := ?_) (v := ?_) ?_ (by kernel_rfl) (by kernel_rfl) (by kernel_rfl) (by kernel_rfl) ?_ ?_ (by assumption) (by assumption) ?_
      rotate_left 2
      focus (simp only [List.getElem?_toArray, List.getElem?_cons_zero]; rfl)
      focus exact fun _ _ _ h => h
      focus (refine Or.inl ⟨by kernel_rfl, ?_⟩; intro w hSw; clear hSw; go_simp; try with_reducible rfl)
      try simp only [Act.put, List.setIfInBounds_toArray, List.set_cons_zero, List.set_cons_succ]
      refine Late.take (i := 1) (oi := ?_) (v := ?_) ?_ (by kernel_rfl) (by kernel_rfl) (by kernel_rfl) (by kernel_rfl) ?_ ?_ (by assumption) (by assumption) ?_
      rotate_left 2
      focus (simp only [List.getElem?_toArray, List.getElem?_cons_succ, List.getElem?_cons_zero]; rfl)
      focus exact fun _ _ _ h => h
      focus (refine Or.inl ⟨by kernel_rfl, ?_⟩; intro w hSw; clear hSw; go_simp; try with_reducible rfl)
      try simp only [Act.put, List.setIfInBounds_toArray, List.set_cons_zero, List.set_cons_succ]
      refine Late.take (i := 2) (oi := ?_) (v := ?_) ?_ (by kernel_rfl) (by kernel_rfl) (by kernel_rfl) (by kernel_rfl) ?_ ?_ (by assumption) (by assumption) ?_
      rotate_left 2
      focus (simp only [List.getElem?_toArray, List.getElem?_cons_succ, List.getElem?_cons_zero]; rfl)
      focus exact fun _ _ _ h => h
      focus (refine Or.inl ⟨by kernel_rfl, ?_⟩; intro w hSw; clear hSw; go_simp; try with_reducible rfl)
      try simp only [Act.put, List.setIfInBounds_toArray, List.set_cons_zero, List.set_cons_succ]
      refine Late.take (i := 3) (oi := ?_) (v := ?_) ?_ (by kernel_rfl) (by kernel_rfl) (by kernel_rfl) (by kernel_rfl) ?_ ?_ (by assumption) (by assumption) ?_
      rotate_left 2
      focus (simp only [List.getElem?_toArray, List.getElem?_cons_succ, List.getElem?_cons_zero]; rfl)
      focus exact fun _ _ _ h => h
      focus (refine Or.inl ⟨by kernel_rfl, ?_⟩; intro w hSw; clear hSw; go_simp; try with_reducible rfl)
      try simp only [Act.put, List.setIfInBounds_toArray, List.set_cons_zero, List.set_cons_succ]
      refine Late.take (i := 4) (oi := ?_) (v := ?_) ?_ (by kernel_rfl) (by kernel_rfl) (by kernel_rfl) (by kernel_rfl) ?_ ?_ (by assumption) (by assumption) ?_
      rotate_left 2
      focus (simp only [List.getElem?_toArray, List.getElem?_cons_succ, List.getElem?_cons_zero]; rfl)
      focus exact fun _ _ _ h => h
      focus (refine Or.inl ⟨by kernel_rfl, ?_⟩; intro w hSw; clear hSw; go_simp; try with_reducible rfl)
      try simp only [Act.put, List.setIfInBounds_toArray, List.set_cons_zero, List.set_cons_succ]
      refine Late.take (i := 5) (oi := ?_) (v := ?_) ?_ (by kernel_rfl) (by kernel_rfl) (by kernel_rfl) (by kernel_rfl) ?_ ?_ (by assumption) (by assumption) ?_
      rotate_left 2
      focus (simp only [List.getElem?_toArray, List.getElem?_cons_succ, List.getElem?_cons_zero]; rfl)
      focus exact fun _ _ _ h => h
      focus (refine Or.inl ⟨by kernel_rfl, ?_⟩; intro w hSw; clear hSw; go_simp; try with_reducible rfl)
      try simp only [Act.put, List.setIfInBounds_toArray, List.set_cons_zero, List.set_cons_succ]
      refine Late.take (i := 6) (oi := ?_) (v := ?_) ?_ (by kernel_rfl) (by kernel_rfl) (by kernel_rfl) (by kernel_rfl) ?_ ?_ (by assumption) (by assumption) ?_
      rotate_left 2
      focus (simp only [List.getElem?_toArray, List.getElem?_cons_succ, List.getElem?_cons_zero]; rfl)
      focus exact fun _ _ _ h => h
      focus (refine Or.inl ⟨by kernel_rfl, ?_⟩; intro w hSw; clear hSw; go_simp; try with_reducible rfl)
      try simp only [Act.put, List.setIfInBounds_toArray, List.set_cons_zero, List.set_cons_succ]
      refine Late.take (i := 7) (oi := ?_) (v := ?_) ?_ (by kernel_rfl) (by kernel_rfl) (by kernel_rfl) (by kernel_rfl) ?_ ?_ (by assumption) (by assumption) ?_
      rotate_left 2
      focus (simp only [List.getElem?_toArray, List.getElem?_cons_succ, List.getElem?_cons_zero]; rfl)
      focus exact fun _ _ _ h => h
      focus (refine Or.inl ⟨by kernel_rfl, ?_⟩; intro w hSw; clear hSw; go_simp; try with_reducible rfl)
      try simp only [Act.put, List.setIfInBounds_toArray, List.set_cons_zero, List.set_cons_succ]
      refine Late.take (i := 8) (oi := ?_) (v := ?_) ?_ (by kernel_rfl) (by kernel_rfl) (by kernel_rfl) (by kernel_rfl) ?_ ?_ (by assumption) (by assumption) ?_
      rotate_left 2
      focus (simp only [List.getElem?_toArray, List.getElem?_cons_succ, List.getElem?_cons_zero]; rfl)
      focus exact fun _ _ _ h => h
      focus (refine Or.inl ⟨by kernel_rfl, ?_⟩; intro w hSw; clear hSw; go_simp; try with_reducible rfl)
      try simp only [Act.put, List.setIfInBounds_toArray, List.set_cons_zero, List.set_cons_succ]
      refine Late.take (i := 9) (oi := ?_) (v := ?_) ?_ (by kernel_rfl) (by kernel_rfl) (by kernel_rfl) (by kernel_rfl) ?_ ?_ (by assumption) (by assumption) ?_
      rotate_left 2
      focus (simp only [List.getElem?_toArray, List.getElem?_cons_succ, List.getElem?_cons_zero]; rfl)
      focus exact fun _ _ _ h => h
      focus (refine Or.inl ⟨by kernel_rfl, ?_⟩; intro w hSw; clear hSw; go_simp; try with_reducible rfl)
      try simp only [Act.put, List.setIfInBounds_toArray, List.set_cons_zero, List.set_cons_succ]
      refine Late.take (i := 10) (oi := ?_) (v := ?_) ?_ (by kernel_rfl) (by kernel_rfl) (by kernel_rfl) (by kernel_rfl) ?_ ?_ (by assumption) (by assumption) ?_
      rotate_left 2
      focus (simp only [List.getElem?_toArray, List.getElem?_cons_succ, List.getElem?_cons_zero]; rfl)
      focus exact fun _ _ _ h => h
      focus (refine Or.inl ⟨by kernel_rfl, ?_⟩; intro w hSw; clear hSw; go_simp; try with_reducible rfl)
      try simp only [Act.put, List.setIfInBounds_toArray, List.set_cons_zero, List.set_cons_succ]
      refine Late.take (i := 11) (oi := ?_) (v := ?_) ?_ (by kernel_rfl) (by kernel_rfl) (by kernel_rfl) (by kernel_rfl) ?_ ?_ (by assumption) (by assumption) ?_
      rotate_left 2
      focus (simp only [List.getElem?_toArray, List.getElem?_cons_succ, List.getElem?_cons_zero]; rfl)
      focus exact fun _ _ _ h => h
      focus (refine Or.inl ⟨by kernel_rfl, ?_⟩; intro w hSw; clear hSw; go_simp; try with_reducible rfl)
      try simp only [Act.put, List.setIfInBounds_toArray, List.set_cons_zero, List.set_cons_succ]
      refine Late.take (i := 12) (oi := ?_) (v := ?_) ?_ (by kernel_rfl) (by kernel_rfl) (by kernel_rfl) (by kernel_rfl) ?_ ?_ (by assumption) (by assumption) ?_
      rotate_left 2
      focus (simp only [List.getElem?_toArray, List.getElem?_cons_succ, List.getElem?_cons_zero]; rfl)
      focus exact fun _ _ _ h => h
      focus (refine Or.inl ⟨by kernel_rfl, ?_⟩; intro w hSw; clear hSw; go_simp; try with_reducible rfl)
      try simp only [Act.put, List.setIfInBounds_toArray, List.set_cons_zero, List.set_cons_succ]
      refine Late.take (i := 13) (oi := ?_) (v := ?_) ?_ (by kernel_rfl) (by kernel_rfl) (by kernel_rfl) (by kernel_rfl) ?_ ?_ (by assumption) (by assumption) ?_
      rotate_left 2
      focus (simp only [List.getElem?_toArray, List.getElem?_cons_succ, List.getElem?_cons_zero]; rfl)
      focus exact fun _ _ _ h => h
      focus (refine Or.inl ⟨by kernel_rfl, ?_⟩; intro w hSw; clear hSw; go_simp; try with_reducible rfl)
      try simp only [Act.put, List.setIfInBounds_toArray, List.set_cons_zero, List.set_cons_succ]
      refine Late.take (i := 14) (oi := ?_) (v := ?_) ?_ (by kernel_rfl) (by kernel_rfl) (by kernel_rfl) (by kernel_rfl) ?_ ?_ (by assumption) (by assumption) ?_
      rotate_left 2
      focus (simp only [List.getElem?_toArray, List.getElem?_cons_succ, List.getElem?_cons_zero]; rfl)
      focus exact fun _ _ _ h => h
      focus (refine Or.inl ⟨by kernel_rfl, ?_⟩; intro w hSw; clear hSw; go_simp; try with_reducible rfl)
      try simp only [Act.put, List.setIfInBounds_toArray, List.set_cons_zero, List.set_cons_succ]
      refine Late.take (i := 15) (oi := ?_) (v := ?_) ?_ (by kernel_rfl) (by kernel_rfl) (by kernel_rfl) (by kernel_rfl) ?_ ?_ (by assumption) (by assumption) ?_
      rotate_left 2
      focus (simp only [List.getElem?_toArray, List.getElem?_cons_succ, List.getElem?_cons_zero]; rfl)
      focus exact fun _ _ _ h => h
      focus (refine Or.inl ⟨by kernel_rfl, ?_⟩; intro w hSw; clear hSw; go_simp; try with_reducible rfl)
      try simp only [Act.put, List.setIfInBounds_toArray, List.set_cons_zero, List.set_cons_succ]
      refine Late.take (i := 16) (oi := ?_) (v := ?_) ?_ (by kernel_rfl) (by kernel_rfl) (by kernel_rfl) (by kernel_rfl) ?_ ?_ (by assumption) (by assumption) ?_
      rotate_left 2
      focus (simp only [List.getElem?_toArray, List.getElem?_cons_succ, List.getElem?_cons_zero]; rfl)
      focus exact fun _ _ _ h => h
      focus (refine Or.inl ⟨by kernel_rfl, ?_⟩; intro w hSw; clear hSw; go_simp; try with_reducible rfl)
      try simp only [Act.put, List.setIfInBounds_toArray, List.set_cons_zero, List.set_cons_succ]
      refine Late.take (i := 17) (oi := ?_) (v := ?_) ?_ (by kernel_rfl) (by kernel_rfl) (by kernel_rfl) (by kernel_rfl) ?_ ?_ (by assumption) (by assumption) ?_
      rotate_left 2
      focus (simp only [List.getElem?_toArray, List.getElem?_cons_succ, List.getElem?_cons_zero]; rfl)
      focus exact fun _ _ _ h => h
      focus (refine Or.inl ⟨by kernel_rfl, ?_⟩; intro w hSw; clear hSw; go_simp; try with_reducible rfl)
      try simp only [Act.put, List.setIfInBounds_toArray, List.set_cons_zero, List.set_cons_succ]
      refine Late.take (i := 18) (oi := ?_) (v := ?_) ?_ (by kernel_rfl) (by kernel_rfl) (by kernel_rfl) (by kernel_rfl) ?_ ?_ (by assumption) (by assumption) ?_
      rotate_left 2
      focus (simp only [List.getElem?_toArray, List.getElem?_cons_succ, List.getElem?_cons_zero]; rfl)
      focus exact fun _ _ _ h => h
      focus (refine Or.inl ⟨by kernel_rfl, ?_⟩; intro w hSw; clear hSw; go_simp; try with_reducible rfl)
      try simp only [Act.put, List.setIfInBounds_toArray, List.set_cons_zero, List.set_cons_succ]
      refine Late.take (i := 19) (oi := ?_) (v := ?_) ?_ (by kernel_rfl) (by kernel_rfl) (by kernel_rfl) (by kernel_rfl) ?_ ?_ (by assumption) (by assumption) ?_
      rotate_left 2
      focus (simp only [List.getElem?_toArray, List.getElem?_cons_succ, List.getElem?_cons_zero]; rfl)
      focus exact fun _ _ _ h => h
      focus (refine Or.inl ⟨by kernel_rfl, ?_⟩; intro w hSw; clear hSw; go_simp; try with_reducible rfl)
      try simp only [Act.put, List.setIfInBounds_toArray, List.set_cons_zero, List.set_cons_succ]
      refine Late.take (i := 20) (oi := ?_) (v := ?_) ?_ (by kernel_rfl) (by kernel_rfl) (by kernel_rfl) (by kernel_rfl) ?_ ?_ (by assumption) (by assumption) ?_
      rotate_left 2
      focus (simp only [List.getElem?_toArray, List.getElem?_cons_succ, List.getElem?_cons_zero]; rfl)
      focus exact fun _ _ _ h => h
      focus (refine Or.inl ⟨by kernel_rfl, ?_⟩; intro w hSw; clear hSw; go_simp; try with_reducible rfl)
      try simp only [Act.put, List.setIfInBounds_toArray, List.set_cons_zero, List.set_cons_succ]
      refine Late.take (i := 21) (oi := ?_) (v := ?_) ?_ (by kernel_rfl) (by kernel_rfl) (by kernel_rfl) (by kernel_rfl) ?_ ?_ (by assumption) (by assumption) ?_
      rotate_left 2
      focus (simp only [List.getElem?_toArray, List.getElem?_cons_succ, List.getElem?_cons_zero]; rfl)
      focus exact fun _ _ _ h => h
      focus (refine Or.inl ⟨by kernel_rfl, ?_⟩; intro w hSw; clear hSw; go_simp; try with_reducible rfl)
      try simp only [Act.put, List.setIfInBounds_toArray, List.set_cons_zero, List.set_cons_succ]
      refine Late.take (i := 22) (oi := ?_) (v := ?_) ?_ (by kernel_rfl) (by kernel_rfl) (by kernel_rfl) (by kernel_rfl) ?_ ?_ (by assumption) (by assumption) ?_
      rotate_left 2
      focus (simp only [List.getElem?_toArray, List.getElem?_cons_succ, List.getElem?_cons_zero]; rfl)
      focus exact fun _ _ _ h => h
      focus (refine Or.inl ⟨by kernel_rfl, ?_⟩; intro w hSw; clear hSw; go_simp; try with_reducible rfl)
      try simp only [Act.put, List.setIfInBounds_toArray, List.set_cons_zero, List.set_cons_succ]
      refine Late.take (i := 23) (oi := ?_) (v := ?_) ?_ (by kernel_rfl) (by kernel_rfl) (by kernel_rfl) (by kernel_rfl) ?_ ?_ (by assumption) (by assumption) ?_
      rotate_left 2
      focus (simp only [List.getElem?_toArray, List.getElem?_cons_succ, List.getElem?_cons_zero]; rfl)
      focus exact fun _ _ _ h => h
      focus (refine Or.inl ⟨by kernel_rfl, ?_⟩; intro w hSw; clear hSw; go_simp; try with_reducible rfl)
      try simp only [Act.put, List.setIfInBounds_toArray, List.set_cons_zero, List.set_cons_succ]
      refine Late.take (i := 24) (oi := ?_) (v := ?_) ?_ (by kernel_rfl) (by kernel_rfl) (by kernel_rfl) (by kernel_rfl) ?_ ?_ (by assumption) (by assumption) ?_
      rotate_left 2
      focus (simp only [List.getElem?_toArray, List.getElem?_cons_succ, List.getElem?_cons_zero]; rfl)
      focus exact fun _ _ _ h => h
      focus (refine Or.inl ⟨by kernel_rfl, ?_⟩; intro w hSw; clear hSw; go_simp; try with_reducible rfl)
      try simp only [Act.put, List.setIfInBounds_toArray, List.set_cons_zero, List.set_cons_succ]
      refine Late.take (i := 25) (oi := ?_) (v := ?_) ?_ (by kernel_rfl) (by kernel_rfl) (by kernel_rfl) (by kernel_rfl) ?_ ?_ (by assumption) (by assumption) ?_
      rotate_left 2
      focus (simp only [List.getElem?_toArray, List.getElem?_cons_succ, List.getElem?_cons_zero]; rfl)
      focus exact fun _ _ _ h => h
      focus (refine Or.inl ⟨by kernel_rfl, ?_⟩; intro w hSw; clear hSw; go_simp; try with_reducible rfl)
      try simp only [Act.put, List.setIfInBounds_toArray, List.set_cons_zero, List.set_cons_succ]
      refine Late.only (i := 26) (o := ?_) (by kernel_rfl) ?_ (fun K hK => ?_)
      rotate_left 1
      focus (simp only [List.getElem?_toArray, List.getElem?_cons_succ, List.getElem?_cons_zero]; rfl)
      go_simp
      refine hK.out _ _ hS (fun _ => trivial) ?_
      clear hK K
      try simp only [Act.put, List.setIfInBounds_toArray, List.set_cons_zero, List.set_cons_succ]
      have n1 : Row (wr.alloc (.cells #[.int .i64 (V : Int)] 3)).drew (some ⟨wr.heap.size, 0, none⟩) 1 [.int .i64 (V : Int)] := ⟨rfl, fun j u hj => by
        match j, hj with
        | 0, hj =>
          injection hj with hj
          subst hj
          exact ⟨_, rfl, (Blk.new wr 3 #[.int .i64 (V : Int)]).cell 0⟩
        | j + 1, hj => cases hj⟩
      refine Late.only (i := 27) (o := ?_) (by kernel_rfl) ?_ (fun K hK => ?_)
      rotate_left 1
      focus (simp only [List.getElem?_toArray, List.getElem?_cons_succ, List.getElem?_cons_zero]; rfl)
      rw [if_pos (by kernel_rfl)]
      refine wp_append_row (P := Tryz.prog) (w := (wr.alloc (.cells #[.int .i64 (V : Int)] 3)).drew) (.tmp 11) (.tmp 37) 41 rfl w.heap.size 3 i0 (.int .i64 0) 8 Tryz.underlying41 hinf hz0 hz1 hz2 rfl _ k X rfl oa (some ⟨wr.heap.size, 0, none⟩) 1 1 [.int .i64 (V : Int)] rfl n1 (by simp [Value.oneCell']) (by unfold maxLen; omega) (by omega) hba.size ?_
      intro v2 W2 o2 g2 _
      have hb2 := hba.grown g2 hba.size (fun j e => (oa.lt j e).1)
      rw [← hstep.out] at o2
      refine hK.out _ _ hS (fun _ => trivial) ?_
      clear hK K
      try simp only [Act.put, List.setIfInBounds_toArray, List.set_cons_zero, List.set_cons_succ]
      refine Late.take (i := 28) (oi := ?_) (v := ?_) ?_ (by kernel_rfl) (by kernel_rfl) (by kernel_rfl) (by kernel_rfl) ?_ ?_ (by assumption) (by assumption) ?_
      rotate_left 2
      focus (simp only [List.getElem?_toArray, List.getElem?_cons_succ, List.getElem?_cons_zero]; rfl)
      focus exact fun _ _ _ h => h
      focus (refine Or.inl ⟨by kernel_rfl, ?_⟩; intro w hSw; clear hSw; go_simp; try with_reducible rfl)
      try simp only [Act.put, List.setIfInBounds_toArray, List.set_cons_zero, List.set_cons_succ]
      refine Late.done (by kernel_rfl) ?_ _
      go_wp2_with fail
      exact ⟨⟨k + 1, p + 4, by omega, Lib.hid (by have := hp.out; omega), rfl, o2, hb2⟩, by have := hp.out; simp [intOf]; omega⟩
    · obtain rfl : k = m := by omega
      rw [List.take_of_length_le (Nat.le_of_eq (ptrs_length hs.out))] at hown
      have q : decide (p < s.size) = false := decide_eq_false (by have := hp.out; have := hs.out; omega)
      go_wp2_with fail
      go_ret
      exact ⟨_, rfl, hown, hb⟩
end Go.Proofs.YtajlfmnjibgbaaaGreatDoor.Tr

/- The tree's small functions: up, levels, Shape, piece, group, laid. -/
import Derived.Test.YtajlfmnjibgbaaaGreatDoorTrPl
import Derived.Test.YtajlfmnjibgbaaaGreatDoorMems
import Derived.Test.YtajlfmnjibgbaaaGreatDoorDiskWa
import Derived.WalkKit
import Derived.KernelRfl
import Derived.Lib.Hide
import Derived.BigRegion
import Derived.Maps.AppendAt
import Derived.OwnWalk
namespace Go.Proofs.YtajlfmnjibgbaaaGreatDoor.Tr
open Go Go.RowKit Mem Disk
set_option maxRecDepth 100000 in
theorem infoInt : (Tryz.prog.info? 3).map (fun i => (i.zero, i.size, i.bytes)) = some (some (.int .i64 0), 1, 8) := by kernel_rfl
set_option maxRecDepth 100000 in
theorem own_all (W : World) {base : Nat} (e : TypeId) (cs : Array Value) (n sz : Nat) (hb : base ≤ W.heap.size) (hm : n ≤ maxLen) (hs : cs.size = n * sz) : (W.alloc (.cells cs e)).ownsRow base e sz (.slice (some ⟨W.heap.size, 0, none⟩) n n) n cs.toList :=
  ⟨by rw [Array.length_toList, hs], Or.inr ⟨W.heap.size, n, cs, rfl, hb, heap_alloc_new W _, Nat.le_refl _, hm, hs, by rw [List.take_of_length_le (by rw [Array.length_toList, hs]; exact Nat.le_refl _)]⟩⟩
def natsV (l : List Nat) : List Value := l.map fun (n : Nat) => Value.int .i64 (n : Int)
set_option maxRecDepth 100000 in
theorem natsV_append (l r : List Nat) : natsV (l ++ r) = natsV l ++ natsV r := List.map_append
set_option maxRecDepth 100000 in
theorem natsV_length (l : List Nat) : (natsV l).length = l.length := List.length_map _
set_option maxRecDepth 100000 in
set_option maxHeartbeats 2000000 in
theorem up240_any (n : Nat) (w : World) (hn : n ≤ 1000000000) : Calls Tryz.prog 63 #[.int .i64 (n : Int), .int .i64 240] w fun e w' => e = .returned (.int .i64 (upN n 240 : Nat)) ∧ w' = w := by
  have e1 : ((upN n 240 : Nat) : Int) = ((n : Int) + 240 - 1) / 240 := by unfold upN; omega
  rw [e1]
  clear e1
  go_enter Tryz.func63, Tryz.ntmps63
  go_wp2_with fail
  go_ret
  exact ⟨rfl, rfl⟩
set_option maxRecDepth 100000 in
set_option maxHeartbeats 2000000 in
theorem up60_any (n : Nat) (w : World) (hn : n ≤ 1000000000) : Calls Tryz.prog 63 #[.int .i64 (n : Int), .int .i64 60] w fun e w' => e = .returned (.int .i64 (upN n 60 : Nat)) ∧ w' = w := by
  have e1 : ((upN n 60 : Nat) : Int) = ((n : Int) + 60 - 1) / 60 := by unfold upN; omega
  rw [e1]
  clear e1
  go_enter Tryz.func63, Tryz.ntmps63
  go_wp2_with fail
  go_ret
  exact ⟨rfl, rfl⟩
set_option maxRecDepth 100000 in
theorem lev_next {size k a : Nat} (hs : size ≤ 16384) (ha : (lev size)[k]? = some a) (h1 : 1 < a) : (lev size)[k + 1]? = some (upN a 60) ∧ (lev size).take (k + 2) = (lev size).take (k + 1) ++ [upN a 60] := by
  cases hb : (lev size)[k + 1]? with
  | none => have := (lev_last (by omega) ha).1 hb; omega
  | some b =>
    obtain rfl := (lev_succ (by omega) ha hb).1
    exact ⟨rfl, by rw [List.take_add_one, hb]; rfl⟩
set_option maxRecDepth 100000 in
theorem lev_end {size k : Nat} (hs : size ≤ 16384) (ha : (lev size)[k]? = some 1) : (lev size).take (k + 1) = lev size := by
  have := (lev_last (by omega) ha).2 rfl
  exact List.take_of_length_le (List.getElem?_eq_none_iff.1 this)
set_option maxRecDepth 100000 in
set_option maxHeartbeats 4000000 in
theorem levels_any (size : Nat) (w : World) (hs : size ≤ 16384) : Calls Tryz.prog 32 #[.int .i64 (size : Int)] w fun e w' => ∃ v, e = .returned v ∧ w'.ownsRow w.heap.size 3 1 v (lev size).length (natsV (lev size)) ∧ Below w.heap.size w w' := by
  have k1 := Lib.hid (fun W => up240_any size W (by omega))
  rcases Nat.eq_zero_or_pos size with h0 | h0
  · subst h0
    have e0 : upN 0 240 = 0 := rfl
    rw [e0] at k1
    clear e0 hs
    go_enter Tryz.func32, Tryz.ntmps32
    go_wp2_with fail
    refine (k1.out _).mono ?_
    rintro en w' ⟨rfl, hw'⟩
    replace hw' := hw'.symm
    subst hw'
    go_wp2_with fail
    go_ret
    exact ⟨_, rfl, World.ownsRow_nil _ _ _ _, Below.refl _ _⟩
  · have hl0 := lev_zeroth h0
    obtain ⟨a0, ha0⟩ : ∃ a, a = upN size 240 := ⟨_, rfl⟩
    rw [← ha0] at k1 hl0
    have hb0 := lev_mem hs hl0
    have ha00 : ((a0 : Int) == 0) = false := by simp; omega
    have ht0 : (lev size).take 1 = [a0] := by rw [List.take_add_one, hl0]; rfl
    replace ha0 := Lib.hid ha0
    replace hb0 := Lib.hid hb0
    go_enter Tryz.func32, Tryz.ntmps32
    go_wp2_with fail
    refine (k1.out _).mono ?_
    rintro en w' ⟨rfl, hw'⟩
    replace hw' := hw'.symm
    subst hw'
    go_wp2_with fail
    go_loopw [3, 4] (fun nv lv wr => ∃ (k a : Nat), (lev size)[k]? = some a ∧ nv = .int .i64 (a : Int) ∧ wr.ownsRow w.heap.size 3 1 lv (k + 1) (natsV ((lev size).take (k + 1))) ∧ Below w.heap.size w wr) (fun nv _ _ => (intOf nv).toNat)
    case atStart =>
      refine ⟨0, a0, hl0, rfl, ?_, (Below.refl _ w).alloc (Nat.le_refl _) _⟩
      rw [Nat.zero_add, ht0]
      exact own_all w 3 #[.int .i64 (a0 : Int)] 1 1 (Nat.le_refl _) (by decide) rfl
    case round =>
      clear hl0 ht0
      obtain ⟨k, a, hka, rfl, hown, hb⟩ := hrel
      have hab := lev_mem hs hka
      have hbs := hb.size
      have hk3 : k < 3 := by
        have := (List.getElem?_eq_some_iff.1 hka).1
        have := lev_len size
        omega
      by_cases h1 : 1 < a
      · obtain ⟨n1, n2⟩ := lev_next hs hka h1
        have k2 := Lib.hid (up60_any a wr (by omega))
        obtain ⟨c, hc⟩ : ∃ c, c = upN a 60 := ⟨_, rfl⟩
        have hca : c < a := by rw [hc]; unfold upN; omega
        rw [← hc] at k2 n1 n2
        have hxl : (natsV ((lev size).take (k + 1))).length = k + 1 := by simpa using hown.1
        obtain ⟨X, hX⟩ : ∃ X, X = natsV ((lev size).take (k + 1)) := ⟨_, rfl⟩
        rw [← hX] at hown hxl
        replace hc := Lib.hid hc
        replace n1 := Lib.hid n1
        replace n2 := Lib.hid n2
        replace hX := Lib.hid hX
        replace hka := Lib.hid hka
        have d1 : decide (1 < (a : Int)) = true := decide_eq_true (by omega)
        obtain ⟨i0, hinf, hz0, hz1, hz2⟩ := info_parts infoInt
        go_wp2_with fail
        refine (k2.out).mono ?_
        rintro en w' ⟨rfl, hw'⟩
        replace hw' := hw'.symm
        subst hw'
        go_wp2_with (first
          | (at_builtin; refine wpList_append_own_at _ rfl (.tmp 15) (.tmp 17) _ rfl w.heap.size 3 i0 (.int .i64 0) 1 8 Tryz.underlying41 hinf hz0 hz1 hz2 rfl (by decide) _ (k + 1) X rfl (hown.alloc _) ⟨wr.heap.size, 0, none⟩ 1 1 [.int .i64 (c : Int)] rfl rfl (cell_one_new _ _ _) (by simp [Value.oneCell']) (by unfold maxLen; omega) (by omega) (by simp; omega) ?_; intro v1 w11 hown1 hg1 hn1 ha1))
        have hb11 := (hb.alloc hbs _).grown hg1 (by simp; omega) (fun k hk => (hown.lt k hk).1)
        refine ⟨⟨k + 1, c, n1.out, rfl, ?_, hb11⟩, by simp [intOf]; omega⟩
        rw [n2.out, natsV_append, ← hX.out]
        exact hown1
      · obtain rfl : a = 1 := by omega
        have he := Lib.hid (lev_end hs hka)
        have hl : Hid (k + 1 = (lev size).length) := Lib.hid (by
          have := congrArg List.length he.out
          rw [List.length_take] at this
          have := (List.getElem?_eq_some_iff.1 hka).1
          omega)
        replace hown := Lib.hid hown
        replace hka := Lib.hid hka
        go_wp2_with fail
        go_ret
        refine ⟨_, rfl, ?_, hb⟩
        have := hown.out
        rwa [he.out, hl.out] at this
set_option maxRecDepth 100000 in
set_option maxHeartbeats 4000000 in
theorem shape_bad (size : Int) (w : World) (hs : ¬ (0 ≤ size ∧ size ≤ 16384)) : Calls Tryz.prog 17 #[.int .i64 size] w fun e w' => e = .returned (.tuple #[.int .i64 0, .int .i64 111]) ∧ w' = w := by
  by_cases h0 : size < 0
  · have d0 : decide (size < 0) = true := decide_eq_true h0
    clear hs
    go_enter Tryz.func17, Tryz.ntmps17
    go_wp2_with fail
    go_ret2
    exact ⟨rfl, rfl⟩
  · have h1 : 16384 < size := by omega
    have d0 : decide (size < 0) = false := decide_eq_false h0
    have d1 : decide (16384 < size) = true := decide_eq_true h1
    clear hs
    go_enter Tryz.func17, Tryz.ntmps17
    go_wp2_with fail
    go_ret2
    exact ⟨rfl, rfl⟩
set_option maxRecDepth 100000 in
theorem sum_take (l : List Nat) {k a : Nat} (h : l[k]? = some a) : (l.take (k + 1)).sum = (l.take k).sum + a := by
  rw [List.take_add_one, h]
  simp
set_option maxRecDepth 100000 in
theorem sum_take_le : ∀ (l : List Nat) (k : Nat), (l.take k).sum ≤ l.sum
  | [], k => by simp
  | a :: l, 0 => by simp
  | a :: l, k + 1 => by
    have := sum_take_le l k
    simp
    omega
set_option maxRecDepth 100000 in
set_option maxHeartbeats 4000000 in
theorem shape_ok (size : Nat) (w : World) (hs : size ≤ 16384) : Calls Tryz.prog 17 #[.int .i64 (size : Int)] w fun e w' => e = .returned (.tuple #[.int .i64 (shapeN size : Nat), .int .i64 0]) ∧ Below w.heap.size w w' := by
  have k1 := Lib.hid (fun W => levels_any size W hs)
  have d0 : decide ((size : Int) < 0) = false := decide_eq_false (by omega)
  have d1 : decide (16384 < (size : Int)) = false := decide_eq_false (by omega)
  have hsh := shape_le hs
  unfold shapeN at hsh
  have hl3 := lev_len size
  obtain ⟨L, hL⟩ : ∃ L, L = lev size := ⟨_, rfl⟩
  have eL : shapeN size = L.sum := by rw [hL]; rfl
  rw [← hL] at k1 hsh hl3
  rw [eL]
  clear eL hL hs
  go_enter Tryz.func17, Tryz.ntmps17
  go_wp2_with fail
  refine (k1.out _).mono ?_
  rintro e w1 ⟨v, rfl, hown, hb⟩
  obtain ⟨A, c, rfl⟩ := own_slice hown
  have hrow := Row.of_own hown
  have hlen : (natsV L).length = L.length := natsV_length L
  replace hown := Lib.hid hown
  go_wp2_with fail
  go_loopw [4, 16] (fun sv iv wr => ∃ k : Nat, k ≤ L.length ∧ iv = .int .i64 (k : Int) ∧ sv = .int .i64 ((L.take k).sum : Nat) ∧ wr = w1) (fun _ iv _ => L.length - (intOf iv).toNat)
  case atStart => exact ⟨0, Nat.zero_le _, rfl, by simp, rfl⟩
  case round =>
    obtain ⟨k, hk, rfl, rfl, rfl⟩ := hrel
    by_cases hlt : k < L.length
    · obtain ⟨ad, u, rfl, hu, hcell⟩ := hrow.at_ hlt
      unfold natsV at hu
      rw [List.getElem?_map] at hu
      cases hx : L[k]? with
      | none => rw [hx] at hu; cases hu
      | some a =>
        rw [hx] at hu
        injection hu with hu
        subst hu
        have hst := sum_take L hx
        have hle := sum_take_le L (k + 1)
        obtain ⟨S, hS⟩ : ∃ S, S = (L.take k).sum := ⟨_, rfl⟩
        rw [← hS] at hst ⊢
        have z1 : (0 : Int) ≤ (k : Int) := by omega
        have z2 : (k : Int) < (L.length : Int) := by omega
        replace hS := Lib.hid hS
        have hle2 : S + a ≤ 72 := by omega
        replace hst := Lib.hid hst
        clear hle hx
        go_wp2_with fail
        exact ⟨⟨k + 1, by omega, rfl, by rw [hst.out]; rfl, by trivial⟩, by simp [intOf]; omega⟩
    · obtain rfl : k = L.length := by omega
      rw [List.take_length]
      have z2 : decide ((L.length : Int) < (L.length : Int)) = false := decide_eq_false (by omega)
      go_wp2_with fail
      go_ret2
      exact ⟨rfl, hb⟩
set_option maxRecDepth 100000 in
theorem piece_none {s : ByteArray} {i : Nat} (h : s.size ≤ 240 * i) : piece s i = ⟨#[]⟩ := by
  have : (piece s i).size = 0 := by rw [piece_size]; omega
  apply ByteArray.ext
  exact Array.eq_empty_of_size_eq_zero this
set_option maxRecDepth 100000 in
theorem piece_some (s : ByteArray) (i : Nat) : s.extract (240 * i) (min s.size (240 * i + 240)) = piece s i := by
  unfold piece
  apply ByteArray.ext
  rw [ByteArray.data_extract, ByteArray.data_extract]
  rcases Nat.le_total s.size (240 * i + 240) with h | h
  · rw [Nat.min_eq_left h, Array.extract_eq_extract_right]
    show min _ _ = min _ _
    have : s.data.size = s.size := rfl
    omega
  · rw [Nat.min_eq_right h]
set_option maxRecDepth 100000 in
set_option maxHeartbeats 4000000 in
theorem piece_any (s : ByteArray) (i : Nat) (w : World) (hi : i ≤ 1000000) (hs : s.size ≤ 1000000000) : Calls Tryz.prog 33 #[.string s, .int .i64 (i : Int)] w fun e w' => e = .returned (.string (piece s i)) ∧ w' = w := by
  by_cases h : s.size ≤ 240 * i
  · rw [piece_none h]
    have d0 : decide ((s.size : Int) ≤ (i : Int) * 240) = true := decide_eq_true (by omega)
    go_enter Tryz.func33, Tryz.ntmps33
    go_wp2_with fail
    go_ret
    exact ⟨rfl, rfl⟩
  · have hp := piece_some s i
    obtain ⟨x, hx⟩ : ∃ x, x = 240 * i := ⟨_, rfl⟩
    obtain ⟨y, hy⟩ : ∃ y, y = min s.size (240 * i + 240) := ⟨_, rfl⟩
    rw [← hy, ← hx] at hp
    have ex : (i : Int) * 240 = (x : Int) := by rw [hx]; omega
    have h1 : x ≤ y := by omega
    have h2 : y ≤ s.size := by omega
    rw [← hp]
    have d0 : decide (s.size ≤ x) = false := decide_eq_false (by omega)
    have hy2 : y = min s.size (x + 240) := by omega
    replace hy2 := Lib.hid hy2
    clear hp h hx hy
    go_enter Tryz.func33, Tryz.ntmps33
    go_wp2_with fail
    · have := hy2.out
      go_ret
      rw [show y = ((x : Int) + 240).toNat by omega]
      exact ⟨rfl, rfl⟩
    · have := hy2.out
      go_ret
      rw [show y = s.size by omega]
      exact ⟨rfl, rfl⟩
end Go.Proofs.YtajlfmnjibgbaaaGreatDoor.Tr

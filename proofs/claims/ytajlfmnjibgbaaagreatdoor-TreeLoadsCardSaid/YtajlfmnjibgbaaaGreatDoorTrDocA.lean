/- The document's Cut, Rows, Shape. -/
import Derived.Test.YtajlfmnjibgbaaaGreatDoorTrWalkC
namespace Go.Proofs.YtajlfmnjibgbaaaGreatDoor.Tr
open Go Go.RowKit Mem Disk
set_option maxRecDepth 100000 in
set_option maxHeartbeats 4000000 in
theorem cut240_any (n : Nat) (w : World) (hn : n ≤ 1000000) : Calls Tryz.prog 64 #[.int .i64 (n : Int), .int .i64 240] w fun e w' => e = .returned (.int .i64 (upN n 240 : Nat)) ∧ w' = w := by
  obtain ⟨U, hU⟩ : ∃ U, U = upN n 240 := ⟨_, rfl⟩
  rw [← hU]
  have hU2 : n ≤ 240 * U ∧ 240 * U < n + 240 := by rw [hU]; unfold upN; omega
  clear hU
  go_enter Tryz.func64, Tryz.ntmps64
  go_wp2_with fail
  go_loopw [0, 5] (fun nv rv wr => ∃ k : Nat, k ≤ U ∧ nv = .int .i64 ((n : Int) - 240 * k) ∧ rv = .int .i64 (k : Int) ∧ wr = w) (fun _ rv _ => U - (intOf rv).toNat)
  case atStart => exact ⟨0, Nat.zero_le _, by simp, rfl, rfl⟩
  case round =>
    obtain ⟨k, hk, rfl, rfl, rfl⟩ := hrel
    obtain ⟨m, hm⟩ : ∃ m : Int, m = (n : Int) - 240 * k := ⟨_, rfl⟩
    rw [← hm]
    by_cases hlt : k < U
    · have hk6 : k ≤ 1000000 := by omega
      have d1 : 0 < m := by omega
      have d2 : m ≤ 1000000 := by omega
      have d3 : m - 240 = (n : Int) - 240 * ((k + 1 : Nat) : Int) := by omega
      replace hm := Lib.hid hm
      replace d3 := Lib.hid d3
      replace hU2 := Lib.hid hU2
      go_wp2_with fail
      exact ⟨⟨k + 1, by omega, by rw [← d3.out], rfl, by trivial⟩, by simp [intOf]; omega⟩
    · obtain rfl : k = U := by omega
      have d1 : decide (0 < m) = false := decide_eq_false (by omega)
      clear hm
      go_wp2_with fail
      go_ret
      exact ⟨rfl, rfl⟩
set_option maxRecDepth 100000 in
set_option maxHeartbeats 4000000 in
theorem cut60_any (n : Nat) (w : World) (hn : n ≤ 1000000) : Calls Tryz.prog 64 #[.int .i64 (n : Int), .int .i64 60] w fun e w' => e = .returned (.int .i64 (upN n 60 : Nat)) ∧ w' = w := by
  obtain ⟨U, hU⟩ : ∃ U, U = upN n 60 := ⟨_, rfl⟩
  rw [← hU]
  have hU2 : n ≤ 60 * U ∧ 60 * U < n + 60 := by rw [hU]; unfold upN; omega
  clear hU
  go_enter Tryz.func64, Tryz.ntmps64
  go_wp2_with fail
  go_loopw [0, 5] (fun nv rv wr => ∃ k : Nat, k ≤ U ∧ nv = .int .i64 ((n : Int) - 60 * k) ∧ rv = .int .i64 (k : Int) ∧ wr = w) (fun _ rv _ => U - (intOf rv).toNat)
  case atStart => exact ⟨0, Nat.zero_le _, by simp, rfl, rfl⟩
  case round =>
    obtain ⟨k, hk, rfl, rfl, rfl⟩ := hrel
    obtain ⟨m, hm⟩ : ∃ m : Int, m = (n : Int) - 60 * k := ⟨_, rfl⟩
    rw [← hm]
    by_cases hlt : k < U
    · have hk6 : k ≤ 1000000 := by omega
      have d1 : 0 < m := by omega
      have d2 : m ≤ 1000000 := by omega
      have d3 : m - 60 = (n : Int) - 60 * ((k + 1 : Nat) : Int) := by omega
      replace hm := Lib.hid hm
      replace d3 := Lib.hid d3
      replace hU2 := Lib.hid hU2
      go_wp2_with fail
      exact ⟨⟨k + 1, by omega, by rw [← d3.out], rfl, by trivial⟩, by simp [intOf]; omega⟩
    · obtain rfl : k = U := by omega
      have d1 : decide (0 < m) = false := decide_eq_false (by omega)
      clear hm
      go_wp2_with fail
      go_ret
      exact ⟨rfl, rfl⟩
set_option maxRecDepth 100000 in
set_option maxHeartbeats 4000000 in
theorem rows_any (size : Nat) (w : World) (hs : size ≤ 16384) : Calls Tryz.prog 37 #[.int .i64 (size : Int)] w fun e w' => ∃ v, e = .returned v ∧ w'.ownsRow w.heap.size 3 1 v (lev size).length (natsV (lev size)) ∧ Below w.heap.size w w' := by
  have k1 := Lib.hid (fun W => cut240_any size W (by omega))
  have o0 : (w.alloc (.cells #[] 3)).ownsRow w.heap.size 3 1 (.slice (some ⟨w.heap.size, 0, none⟩) 0 0) 0 (natsV []) := World.ownsRow_made w #[] 0 (Nat.le_refl _) (by decide) rfl
  have b0 : Below w.heap.size w (w.alloc (.cells #[] 3)) := (Below.refl _ w).alloc (Nat.le_refl _) _
  rcases Nat.eq_zero_or_pos size with h0 | h0
  · subst h0
    have e0 : upN 0 240 = 0 := rfl
    rw [e0] at k1
    clear e0 hs
    replace o0 := Lib.hid o0
    replace b0 := Lib.hid b0
    go_enter Tryz.func37, Tryz.ntmps37
    go_wp2_with fail
    refine (k1.out _).mono ?_
    rintro en w' ⟨rfl, hw'⟩
    replace hw' := hw'.symm
    subst hw'
    go_wp2_with fail
    go_loopw [3, 4] (fun lv nv wr => lv = .slice (some ⟨w.heap.size, 0, none⟩) 0 0 ∧ nv = .int .i64 0 ∧ wr = w.alloc (.cells #[] 3)) (fun _ _ _ => 0)
    case atStart => exact ⟨rfl, rfl, rfl⟩
    case round =>
      obtain ⟨rfl, rfl, rfl⟩ := hrel
      go_wp2_with fail
      go_ret
      exact ⟨_, rfl, o0.out, b0.out⟩
  · have hl0 := lev_zeroth h0
    obtain ⟨a0, ha0⟩ : ∃ a, a = upN size 240 := ⟨_, rfl⟩
    rw [← ha0] at k1 hl0
    replace ha0 := Lib.hid ha0
    replace o0 := Lib.hid o0
    replace b0 := Lib.hid b0
    go_enter Tryz.func37, Tryz.ntmps37
    go_wp2_with fail
    refine (k1.out _).mono ?_
    rintro en w' ⟨rfl, hw'⟩
    replace hw' := hw'.symm
    subst hw'
    go_wp2_with fail
    go_loopw [3, 4] (fun lv nv wr => ∃ (k a : Nat), (lev size)[k]? = some a ∧ nv = .int .i64 (a : Int) ∧ wr.ownsRow w.heap.size 3 1 lv k (natsV ((lev size).take k)) ∧ Below w.heap.size w wr) (fun _ nv _ => (intOf nv).toNat)
    case atStart => exact ⟨0, a0, hl0, rfl, o0.out, b0.out⟩
    case round =>
      clear hl0 o0 b0
      obtain ⟨k, a, hka, rfl, hown, hb⟩ := hrel
      have hab := lev_mem hs hka
      have hbs := hb.size
      have hk3 : k < 3 := by
        have := (List.getElem?_eq_some_iff.1 hka).1
        have := lev_len size
        omega
      have ht1 : natsV ((lev size).take (k + 1)) = natsV ((lev size).take k) ++ [.int .i64 (a : Int)] := by
        rw [List.take_add_one, hka, natsV_append]
        rfl
      have hxl : (natsV ((lev size).take k)).length = k := by simpa using hown.1
      obtain ⟨X, hX⟩ : ∃ X, X = natsV ((lev size).take k) := ⟨_, rfl⟩
      rw [← hX] at hown hxl ht1
      obtain ⟨i0, hinf, hz0, hz1, hz2⟩ := info_parts infoInt
      have d1 : 0 < (a : Int) := by omega
      replace hX := Lib.hid hX
      replace ht1 := Lib.hid ht1
      by_cases h1 : 1 < a
      · obtain ⟨n1, _⟩ := lev_next hs hka h1
        have k2 := Lib.hid (fun W => cut60_any a W (by omega))
        obtain ⟨c, hc⟩ : ∃ c, c = upN a 60 := ⟨_, rfl⟩
        have hca : c < a := by rw [hc]; unfold upN; omega
        rw [← hc] at k2 n1
        replace hc := Lib.hid hc
        replace n1 := Lib.hid n1
        replace hka := Lib.hid hka
        have d2 : ((a : Int) == 1) = false := by simp; omega
        go_wp2_with (first
          | (at_builtin; refine wpList_append_own_at _ rfl (.tmp 10) (.tmp 12) _ rfl w.heap.size 3 i0 (.int .i64 0) 1 8 Tryz.underlying41 hinf hz0 hz1 hz2 rfl (by decide) _ k X rfl (hown.alloc _) ⟨wr.heap.size, 0, none⟩ 1 1 [.int .i64 (a : Int)] rfl rfl (cell_one_new _ _ _) (by simp [Value.oneCell']) (by unfold maxLen; omega) (by omega) (by simp; omega) ?_; intro v1 w11 hown1 hg1 hn1 ha1))
        have hb11 := Lib.hid ((hb.alloc hbs _).grown hg1 (by simp; omega) (fun k hk => (hown.lt k hk).1))
        have ho11 := Lib.hid hown1
        clear hown hown1 hg1 hn1 ha1
        refine (k2.out _).mono ?_
        rintro e w' ⟨rfl, hw'⟩
        replace hw' := hw'.symm
        subst hw'
        go_wp2_with fail
        refine ⟨⟨k + 1, c, n1.out, rfl, ?_, hb11.out⟩, by simp [intOf]; omega⟩
        rw [ht1.out]
        exact ho11.out
      · obtain rfl : a = 1 := by omega
        have he := Lib.hid (lev_end hs hka)
        have hl : Hid (k + 1 = (lev size).length) := Lib.hid (by
          have := congrArg List.length he.out
          rw [List.length_take] at this
          have := (List.getElem?_eq_some_iff.1 hka).1
          omega)
        replace hka := Lib.hid hka
        go_wp2_with (first
          | (at_builtin; refine wpList_append_own_at _ rfl (.tmp 10) (.tmp 12) _ rfl w.heap.size 3 i0 (.int .i64 0) 1 8 Tryz.underlying41 hinf hz0 hz1 hz2 rfl (by decide) _ k X rfl (hown.alloc _) ⟨wr.heap.size, 0, none⟩ 1 1 [.int .i64 1] rfl rfl (cell_one_new _ _ _) (by simp [Value.oneCell']) (by unfold maxLen; omega) (by omega) (by simp; omega) ?_; intro v1 w11 hown1 hg1 hn1 ha1))
        have hb11 := (hb.alloc hbs _).grown hg1 (by simp; omega) (fun k hk => (hown.lt k hk).1)
        go_ret
        refine ⟨_, rfl, ?_, hb11⟩
        have : w11.ownsRow w.heap.size 3 1 v1 (k + 1) (natsV ((lev size).take (k + 1))) := by rw [ht1.out]; exact hown1
        rwa [he.out, hl.out] at this
end Go.Proofs.YtajlfmnjibgbaaaGreatDoor.Tr
/- The document's Shape. -/
namespace Go.Proofs.YtajlfmnjibgbaaaGreatDoor.Tr
open Go Go.RowKit Mem Disk
end Go.Proofs.YtajlfmnjibgbaaaGreatDoor.Tr

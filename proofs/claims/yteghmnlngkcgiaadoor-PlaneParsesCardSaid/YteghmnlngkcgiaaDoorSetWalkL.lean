/- Sets: the document's List. -/
import Derived.Test.YteghmnlngkcgiaaDoorSetWalkK
namespace Go.Proofs.YteghmnlngkcgiaaDoor.Sets
open Go.RowKit Mem

/-- the numbers of a text below a bound, the least first -/
def elemsTo (l : List UInt8) (n : Nat) : List Int := ((List.range n).filter (has l)).map Int.ofNat
def elems (l : List UInt8) : List Int := elemsTo l (8 * l.length)
theorem elemsTo_succ (l : List UInt8) (n : Nat) : elemsTo l (n + 1) = elemsTo l n ++ (if has l n then [(n : Int)] else []) := by
  unfold elemsTo
  rw [List.range_succ, List.filter_append, List.map_append]
  congr 1
  by_cases h : has l n
  · simp [h]
  · simp [h]
theorem elemsTo_length (l : List UInt8) (n : Nat) : (elemsTo l n).length ≤ n := by
  unfold elemsTo
  rw [List.length_map]
  exact Nat.le_trans (List.length_filter_le _ _) (by simp)
theorem infoInt : (Tryd.prog.info? 3).map (fun i => (i.zero, i.size, i.bytes)) = some (some (.int .i64 0), 1, 8) := by kernel_rfl

set_option maxRecDepth 100000 in
set_option maxHeartbeats 1000000 in
theorem rlist_any (s : ByteArray) (w : World) (hs : s.size ≤ 2000000) :
    Calls Tryd.prog 46 #[.string s] w fun e w' => ∃ v, e = .returned v ∧ w'.ownsRow w.heap.size 3 1 v (elems s.data.toList).length ((elems s.data.toList).map (Value.int .i64)) ∧ Below w.heap.size w w' := by
  have hsl := Lib.hid (Lib.size_eq s)
  go_enter Tryd.func46, Tryd.ntmps46
  go_wp2_with fail
  obtain ⟨i0, hinf, hz0, hz1, hz2⟩ := info_parts infoInt
  have o0 : (w.alloc (.cells #[] 3)).ownsRow w.heap.size 3 1 (.slice (some ⟨w.heap.size, 0, none⟩) 0 0) (elemsTo s.data.toList 0).length ((elemsTo s.data.toList 0).map (Value.int .i64)) := World.ownsRow_made w #[] 0 (Nat.le_refl _) (by decide) rfl
  have b0 : Below w.heap.size w (w.alloc (.cells #[] 3)) := (Below.refl _ w).alloc (Nat.le_refl _) _
  generalize Value.slice (some ⟨w.heap.size, 0, none⟩) 0 0 = bv at o0 ⊢
  generalize w.alloc (.cells #[] 3) = w1 at o0 b0 ⊢
  replace o0 := Lib.hid o0
  go_loopw [3, 4] (fun v y wr => ∃ k : Nat, k ≤ 8 * s.size ∧ y = .int .i64 (k : Int) ∧ wr.ownsRow w.heap.size 3 1 v (elemsTo s.data.toList k).length ((elemsTo s.data.toList k).map (Value.int .i64)) ∧ Below w.heap.size w wr) (fun _ y _ => 8 * s.size - (intOf y).toNat)
  case atStart => exact ⟨0, Nat.zero_le _, rfl, o0.out, b0⟩
  case round =>
    obtain ⟨k, hk, rfl, hown, hbel⟩ := hrel
    clear o0 b0
    have hle := elemsTo_length s.data.toList k
    have hw0 := hbel.size
    by_cases hlt : k < 8 * s.size
    · have c1 := rhas_any s (k : Int) wr (by omega)
      rw [hasI, decide_eq_true (by omega), Bool.true_and, Int.toNat_natCast] at c1
      have hsucc := elemsTo_succ s.data.toList k
      by_cases hh : has s.data.toList k = true
      · rw [hh] at c1
        rw [if_pos hh] at hsucc
        generalize elemsTo s.data.toList k = es at hown hsucc hle
        replace c1 := Lib.hid c1
        replace hsucc := Lib.hid hsucc
        replace hh := Lib.hid hh
        go_wp2_with fail
        refine c1.out.mono ?_
        rintro en w2 ⟨rfl, rfl⟩
        go_wp2_with (first
          | (at_builtin; refine wpList_append_own _ rfl (.tmp 16) (.tmp 18) _ rfl w.heap.size 3 i0 (.int .i64 0) 1 8 Tryd.underlying57 hinf hz0 hz1 hz2 rfl (by decide) u3 es.length _ rfl (hown.alloc _) ⟨w2.heap.size, 0, none⟩ 1 1 [.int .i64 (k : Int)] rfl rfl (cell_one_new _ _ _) (by simp [Value.oneCell']) (by unfold maxLen; omega) (by omega) (by simp; omega) ?_; intro v1 w11 hown1 hg1 hn1))
        have hb11 := (hbel.alloc hw0 _).grown hg1 (by simp; omega) (fun k hk => (hown.lt k hk).1)
        have hres : w11.ownsRow w.heap.size 3 1 v1 (elemsTo s.data.toList (k + 1)).length ((elemsTo s.data.toList (k + 1)).map (Value.int .i64)) := by
          rw [hsucc.out, List.length_append, List.map_append]
          exact hown1
        exact ⟨⟨k + 1, by omega, rfl, hres, hb11⟩, by simp [intOf]; omega⟩
      · have hf : has s.data.toList k = false := by simpa using hh
        rw [hf] at c1
        rw [if_neg hh, List.append_nil] at hsucc
        rw [← hsucc] at hown
        replace c1 := Lib.hid c1
        replace hown := Lib.hid hown
        clear hh hf hsucc hle
        go_wp2_with fail
        refine c1.out.mono ?_
        rintro en w2 ⟨rfl, rfl⟩
        go_wp2_with fail
        exact ⟨⟨k + 1, by omega, rfl, hown.out, hbel⟩, by simp [intOf]; omega⟩
    · obtain rfl : k = 8 * s.size := by omega
      have he : elemsTo s.data.toList (8 * s.size) = elems s.data.toList := by rw [elems, ← hsl.out]
      rw [he] at hown
      replace hown := Lib.hid hown
      clear he hle
      go_wp2_with fail
      go_ret
      exact ⟨_, rfl, hown.out, hbel⟩
end Go.Proofs.YteghmnlngkcgiaaDoor.Sets

/- Sets: Of, the program's: is a number out of bounds. -/
import Derived.Test.YteghmnlngkcgiaaDoorSetWalkD
namespace Go.Proofs.YteghmnlngkcgiaaDoor.Sets
open Go.RowKit Mem

/-- may a number not be in a set -/
def bad (x : Int) : Bool := decide (x < 0) || decide (65535 < x)

set_option maxRecDepth 100000 in
set_option maxHeartbeats 1000000 in
theorem of1_any (x : Int) (w : World) : Calls Tryd.prog 52 #[.int .i64 x] w fun e w' => e = .returned (.bool (bad x)) ∧ w' = w := by
  by_cases h : x < 0
  · rw [show bad x = true by rw [bad, decide_eq_true h, Bool.true_or]]
    go_enter Tryd.func52, Tryd.ntmps52
    go_wp2_with fail
    go_ret
    exact ⟨rfl, rfl⟩
  · by_cases h2 : 65535 < x
    · rw [show bad x = true by rw [bad, decide_eq_true h2, Bool.or_true]]
      go_enter Tryd.func52, Tryd.ntmps52
      go_wp2_with fail
      go_ret
      exact ⟨rfl, rfl⟩
    · rw [show bad x = false by rw [bad, decide_eq_false h, decide_eq_false h2]; rfl]
      go_enter Tryd.func52, Tryd.ntmps52
      go_wp2_with fail
      go_ret
      exact ⟨rfl, rfl⟩

theorem getMap_int {l : List Int} {k : Nat} {u : Value} (h : (l.map (Value.int .i64))[k]? = some u) : ∃ x, l[k]? = some x ∧ u = .int .i64 x := by
  rw [List.getElem?_map] at h
  cases hx : l[k]? with
  | none => rw [hx] at h; cases h
  | some x => rw [hx] at h; exact ⟨x, rfl, by injection h with h; exact h.symm⟩

set_option maxRecDepth 100000 in
set_option maxHeartbeats 1000000 in
theorem indexf_any (A : Option Addr) (n c : Nat) (l : List Int) (w : World) (hr : Row w A n (l.map (Value.int .i64))) (hn : n ≤ 9223372036854775807) :
    Calls Tryd.prog 60 #[.slice A n c, .func (.func 52) #[] #[]] w fun e w' => ∃ r : Int, e = .returned (.int .i64 r) ∧ (0 ≤ r ↔ l.any bad = true) ∧ w' = w := by
  have hln : l.length = n := by have := hr.1; simpa using this
  replace hln := Lib.hid hln
  go_enter Tryd.func60, Tryd.ntmps60
  go_wp2_with fail
  go_loop [8] (fun y => ∃ k : Nat, k ≤ n ∧ y = .int .i64 (k : Int) ∧ (l.take k).any bad = false) (fun y => n - (intOf y).toNat)
  case atStart => exact ⟨0, Nat.zero_le _, rfl, rfl⟩
  case round =>
    obtain ⟨k, hk, rfl, hno⟩ := hrel
    replace hno := Lib.hid hno
    by_cases hlt : k < n
    · obtain ⟨ad, u, rfl, hu, hc⟩ := hr.at_ hlt
      obtain ⟨x, hx, rfl⟩ := getMap_int hu
      have k1 := of1_any x w
      by_cases hb : bad x = true
      · rw [hb] at k1
        replace k1 := Lib.hid k1
        replace hb := Lib.hid hb
        replace hx := Lib.hid hx
        replace hr := Lib.hid hr
        clear hu
        go_wp2_with fail
        refine k1.out.mono ?_
        rintro e w2 ⟨rfl, rfl⟩
        go_wp2_with fail
        go_ret
        refine ⟨(k : Int), rfl, ⟨fun _ => ?_, fun _ => by omega⟩, rfl⟩
        exact List.any_eq_true.2 ⟨x, List.mem_of_getElem? hx.out, hb.out⟩
      · have hb' : bad x = false := by simpa using hb
        rw [hb'] at k1
        have hno2 : (l.take (k + 1)).any bad = false := by
          rw [List.take_add_one, hx, List.any_append, hno.out]
          simpa using hb'
        replace hno2 := Lib.hid hno2
        replace k1 := Lib.hid k1
        clear hu hb hb' hx
        go_wp2_with fail
        refine k1.out.mono ?_
        rintro e w2 ⟨rfl, rfl⟩
        go_wp2_with fail
        go_round
        case rel => exact ⟨k + 1, by omega, by go_num, hno2.out⟩
        case measure => simp [intOf]; omega
    · obtain rfl : k = n := by omega
      have hall : l.any bad = false := by
        have := hno.out
        rwa [List.take_of_length_le (by rw [hln.out]; exact Nat.le_refl _)] at this
      replace hall := Lib.hid hall
      replace hr := Lib.hid hr
      go_wp2_with fail
      go_ret
      refine ⟨-1, rfl, ⟨fun h => absurd h (by decide), fun h => ?_⟩, rfl⟩
      obtain ⟨x, h1, h2⟩ := h
      exact absurd h2 (List.any_eq_false.1 hall.out x h1)

set_option maxRecDepth 100000 in
set_option maxHeartbeats 1000000 in
theorem contains_any (A : Option Addr) (n c : Nat) (l : List Int) (w : World) (hr : Row w A n (l.map (Value.int .i64))) (hn : n ≤ 9223372036854775807) :
    Calls Tryd.prog 51 #[.slice A n c, .func (.func 52) #[] #[]] w fun e w' => e = .returned (.bool (l.any bad)) ∧ w' = w := by
  have k1 := Lib.hid (indexf_any A n c l w hr hn)
  clear hr
  go_enter Tryd.func51, Tryd.ntmps51
  go_wp2_with fail
  refine k1.out.mono ?_
  rintro e w2 ⟨r, rfl, hiff, rfl⟩
  replace hiff := Lib.hid hiff
  go_wp2_with fail
  go_ret
  refine ⟨?_, rfl⟩
  show Ending.returned (Value.bool (decide (0 ≤ r))) = _
  refine congrArg (fun b => Ending.returned (Value.bool b)) ?_
  rw [Bool.eq_iff_iff, decide_eq_true_eq]
  exact hiff.out
end Go.Proofs.YteghmnlngkcgiaaDoor.Sets

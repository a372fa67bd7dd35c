/- Alloc: the document's Pick; the calls whose answers the document fixes. -/
import Derived.Test.YthclfljmnljhdaaDoorAllocWalkE
import Derived.Test.YthclfljmnljhdaaDoorSetFixed
import Derived.IntWalk
namespace Go.Proofs.YthclfljmnljhdaaDoor.Alloc
open Go.RowKit Mem Sets

def RPickPost (w : World) (o : List Nat × Nat × Nat) (e : Ending) (w' : World) : Prop :=
  ∃ A c, e = .returned (.tuple #[.slice A o.1.length c, .int .i64 (o.2.1 : Int), .int .i64 (o.2.2 : Int)]) ∧ Row w' A o.1.length (ints o.1) ∧ Below w.heap.size w w'
theorem run_cut (A : Option Addr) (n c k : Nat) (hk : k ≤ c) (w : World) : (Instr.slice 24 (.slice A n c) none (some (.int .i64 (k : Int))) none).run Tryd.prog w = .ok (.slice A k c) w := by
  have h0 : ∀ a : Addr, a.add 0 = a := fun a => by simp [Addr.add]
  have hA : (if c = 0 then A else A.map (·.add (0 * 1))) = A := by
    split
    · rfl
    · cases A with
      | none => rfl
      | some a => simp [h0]
  have hkc : (k : Int) ≤ (c : Int) := by omega
  simp [go_sem, hkc, h0]
theorem row_take {w : World} {A : Option Addr} {n : Nat} {us : List Value} (h : Row w A n us) {k : Nat} (hk : k ≤ n) : Row w A k (us.take k) :=
  ⟨by rw [List.length_take, h.1]; omega, fun j u hu => h.2 j u (by
    rw [List.getElem?_take] at hu
    split at hu
    · exact hu
    · cases hu)⟩
theorem own_cap {w : World} {base n c : Nat} {e : TypeId} {A : Option Addr} {xs : List Value} (h : w.ownsRow base e 1 (.slice A n c) n xs) : n ≤ c := by
  rcases h.2 with ⟨h1, h2⟩ | ⟨g, cap, cur, hv, _, _, hc, _⟩
  · omega
  · injection hv with _ _ e3
    omega
theorem lastOf_take {l : List Nat} {k f : Nat} (h : k < l.length) : lastOf (l.take (k + 1)) f = l[k] + 1 := by
  rw [List.take_succ_eq_append_getElem h, lastOf_snoc]

set_option maxRecDepth 100000 in
set_option maxHeartbeats 2000000 in
theorem rpick_any (U : ByteArray) (B f m : Int) (w : World) :
    Calls Tryd.prog 8 #[.string U, .int .i64 B, .int .i64 f, .int .i64 m] w (RPickPost w (pickOut U B f m)) := by
  by_cases h1 : B < 8
  · rw [pickOut_bad (fun h => by have := okAt_iff.1 h.1; omega)]
    have d1 : decide (B < 8) = true := decide_eq_true h1
    clear h1
    go_enter Tryd.func8, Tryd.ntmps8
    go_wp2_with fail
    go_ret3
    exact ⟨none, 0, rfl, Row.nil_ _, Below.refl _ _⟩
  have d1 : decide (B < 8) = false := decide_eq_false h1
  by_cases h2 : 4096 < B
  · rw [pickOut_bad (fun h => by have := okAt_iff.1 h.1; omega)]
    have d2 : decide (4096 < B) = true := decide_eq_true h2
    go_enter Tryd.func8, Tryd.ntmps8
    go_wp2_with fail
    go_ret3
    exact ⟨none, 0, rfl, Row.nil_ _, Below.refl _ _⟩
  have d2 : decide (4096 < B) = false := decide_eq_false h2
  by_cases h3 : f < 1
  · rw [pickOut_bad (fun h => by have := okAt_iff.1 h.1; omega)]
    have d3 : decide (f < 1) = true := decide_eq_true h3
    go_enter Tryd.func8, Tryd.ntmps8
    go_wp2_with fail
    go_ret3
    exact ⟨none, 0, rfl, Row.nil_ _, Below.refl _ _⟩
  have d3 : decide (f < 1) = false := decide_eq_false h3
  by_cases h4 : B < f
  · rw [pickOut_bad (fun h => by have := okAt_iff.1 h.1; omega)]
    have d4 : decide (B < f) = true := decide_eq_true h4
    go_enter Tryd.func8, Tryd.ntmps8
    go_wp2_with fail
    go_ret3
    exact ⟨none, 0, rfl, Row.nil_ _, Below.refl _ _⟩
  have d4 : decide (B < f) = false := decide_eq_false h4
  by_cases h5 : m < 0
  · rw [pickOut_bad (fun h => by have := h.2; omega)]
    have d5 : decide (m < 0) = true := decide_eq_true h5
    go_enter Tryd.func8, Tryd.ntmps8
    go_wp2_with fail
    go_ret3
    exact ⟨none, 0, rfl, Row.nil_ _, Below.refl _ _⟩
  obtain ⟨b, rfl⟩ := Int.eq_ofNat_of_zero_le (show 0 ≤ B by omega)
  obtain ⟨a, rfl⟩ := Int.eq_ofNat_of_zero_le (show 0 ≤ f by omega)
  obtain ⟨n, rfl⟩ := Int.eq_ofNat_of_zero_le (show 0 ≤ m by omega)
  have d5 : decide ((n : Int) < 0) = false := decide_eq_false h5
  have hk : 8 ≤ b ∧ b ≤ 4096 ∧ 1 ≤ a ∧ a ≤ b := by omega
  clear h1 h2 h3 h4 h5
  have d6 : decide (b < 8) = false := decide_eq_false (by omega)
  have d7 : decide (4096 < b) = false := decide_eq_false (by omega)
  have d8 : decide (a < 1) = false := decide_eq_false (by omega)
  have d9 : decide (b < a) = false := decide_eq_false (by omega)
  have k1 := Lib.hid (rorder_any U b a w hk)
  have hlen := ord_le (U := U) hk
  have hlm : ∀ x ∈ ord U b a, x ≤ 4096 := fun x hx => by have := (ord_mem ⟨hk.2.2.1, hk.2.2.2⟩).1 hx; omega
  by_cases hn : n ≤ (ord U b a).length
  · rw [pickOut_ok hk hn]
    generalize ord U b a = l at k1 hlen hn hlm
    go_enter Tryd.func8, Tryd.ntmps8
    go_wp2_with fail
    refine k1.out.mono ?_
    rintro en w1 ⟨v, rfl, ho, hb⟩
    obtain ⟨A, c, rfl⟩ := own_slice ho
    have hr := Row.of_own ho
    have hc : l.length ≤ c := own_cap ho
    have hD : decide (l.length < n) = false := decide_eq_false (by omega)
    replace hlm := Lib.hid hlm
    clear ho k1
    cases n with
    | zero =>
      replace hr := Lib.hid hr
      rw [List.take_zero, lastOf_nil]
      go_wp2_with fail
      go_ret3
      exact ⟨none, 0, rfl, Row.nil_ _, hb⟩
    | succ n =>
      have hlast : lastOf (l.take (n + 1)) a = l[n] + 1 := lastOf_take hn
      have hcut := run_cut A l.length c (n + 1) (by omega)
      obtain ⟨ad, u, rfl, hu, hcell⟩ := hr.at_ (show n < l.length by omega)
      rw [List.getElem?_map, List.getElem?_eq_getElem (by omega)] at hu
      injection hu with hu
      subst hu
      have hx : l[n] ≤ 4096 := hlm.out _ (List.getElem_mem _)
      have hi1 : (n : Int) < (l.length : Int) := by omega
      have hi2 : n < l.length := by omega
      have hN : n + 1 ≤ 4096 := by omega
      generalize l[n] = x at hcell hx hlast
      replace hlast := Lib.hid hlast
      have htk := Lib.hid (row_take hr hn)
      clear hlm hr
      replace hn := Lib.hid hn
      go_wp2_with fail
      have w1s : IntKind.i64.wrap (((n + 1 : Nat) : Int) - 1) = (n : Int) := by
        rw [show ((n + 1 : Nat) : Int) - 1 = (n : Int) by omega]
        exact IntWalk.i64_in _ (by omega)
      have w2s : IntKind.i64.wrap ((x : Int) + 1) = (x : Int) + 1 := IntWalk.i64_in _ (by omega)
      go_quiet (fail)
      go_wp2_with fail
      go_ret3
      have hl1 : (l.take (n + 1)).length = n + 1 := by rw [List.length_take]; have := hn.out; omega
      refine ⟨some ad, c, ?_, ?_, below_drewN hb _⟩
      · show Ending.returned (.tuple #[.slice (some ad) (n + 1) c, .int .i64 ((x : Int) + 1), .int .i64 0]) = Ending.returned (.tuple #[.slice (some ad) (l.take (n + 1)).length c, .int .i64 ((lastOf (l.take (n + 1)) a : Nat) : Int), .int .i64 0])
        rw [hlast.out, hl1]
        rfl
      · show Row _ _ (l.take (n + 1)).length _
        rw [hl1, ints, List.map_take]
        exact htk.out
  · have hn' : (ord U b a).length < n := by omega
    rw [pickOut_full hk hn']
    generalize ord U b a = l at k1 hlen hn'
    clear hn hlm
    go_enter Tryd.func8, Tryd.ntmps8
    go_wp2_with fail
    refine k1.out.mono ?_
    rintro en w1 ⟨v, rfl, ho, hb⟩
    obtain ⟨A, c, rfl⟩ := own_slice ho
    clear ho k1
    go_wp2_with fail
    go_ret3
    exact ⟨none, 0, rfl, Row.nil_ _, hb⟩

/-! ### the calls whose answers the document fixes -/
theorem fx1 : ord ⟨#[10]⟩ 8 3 = [4, 5, 6, 7, 2] := by decide
theorem fx2 : ord ⟨#[10]⟩ 8 7 = [7, 2, 4, 5, 6] := by decide
theorem fxT : setB [7, 2] = ⟨#[132]⟩ := by decide
theorem p1 : pickOut ⟨#[10]⟩ 8 3 4 = ([4, 5, 6, 7], 8, 0) := by decide
theorem p2 : pickOut ⟨#[10]⟩ 8 3 5 = ([4, 5, 6, 7, 2], 3, 0) := by decide
theorem p3 : pickOut ⟨#[10]⟩ 8 3 6 = ([], 0, 101) := by decide
theorem p4 : pickOut ⟨#[]⟩ 7 1 1 = ([], 0, 100) := by decide
end Go.Proofs.YthclfljmnljhdaaDoor.Alloc

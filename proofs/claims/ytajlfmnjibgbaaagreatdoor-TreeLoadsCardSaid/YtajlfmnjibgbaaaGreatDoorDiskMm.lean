/- The disk's two maps in memory: loose sectors (a text a number), bad ones (a bool a number). -/
import Derived.Test.YtajlfmnjibgbaaaGreatDoorMems
import Derived.Test.YtajlfmnjibgbaaaGreatDoorDiskPl
import Derived.Test.YtajlfmnjibgbaaaGreatDoorProg
import Derived.Maps.StringElems
import Derived.Maps.OwnSet
import Derived.Maps.RangeWalk
import Derived.Maps.Views
import Derived.KernelRfl
import Derived.Lib.Hide
import Derived.WalkKit
import Derived.Laws.Shifts
import Derived.Laws.BitsAllLaws
import Derived.Deep.QuietTactic
import Derived.BigQuiet
namespace Go.Proofs.YtajlfmnjibgbaaaGreatDoor.Disk
open Go Go.RowKit Go.Maps Mem
open Go.MapKept (stamped_empty)
open Go.ChangeMaps (heap_setBlock_same)

set_option maxRecDepth 100000 in
theorem keyI : Keyed Tryz.prog 3 := int_keyed Tryz.underlying3
noncomputable abbrev rdS : Value → Option (DataW Unit × List MemPlace) := plainElem Tryz.prog 9
noncomputable abbrev rdB : Value → Option (DataW Unit × List MemPlace) := plainElem Tryz.prog 4
def kI (n : Nat) : Lit := .int .i64 (n : Int)
set_option maxRecDepth 100000 in
theorem kI_inj {m n : Nat} (h : kI m = kI n) : m = n := by
  unfold kI at h
  injection h with _ h
  omega
set_option maxRecDepth 100000 in
theorem kI_of {n : Nat} (h : n ≤ 9223372036854775807) : keyOf Tryz.prog 3 (.int .i64 (n : Int)) = some (kI n) := keyOf_int_mk Tryz.underlying3 (WalkArith.wf_i64 (by omega))
set_option maxRecDepth 100000 in
theorem zeroS (w : World) : (zeroValue 9).run Tryz.prog w = .ok (.string ⟨#[]⟩) w := by kernel_rfl
set_option maxRecDepth 100000 in
theorem zeroB (w : World) : (zeroValue 4).run Tryz.prog w = .ok (.bool false) w := by kernel_rfl

/-- block b is a map that holds the loose sectors of L -/
def MapS (w : World) (b : Nat) (L : List (Nat × ByteArray)) : Prop :=
  ∃ D : DataW Unit, w.ownsMap Tryz.prog 3 rdS b L.length D ∧ (∀ kl, Maps.has D kl = true ↔ ∃ n, kl = kI n ∧ (find L n).isSome = true) ∧ ∀ n s, find L n = some s → ∀ zd, D.atKey (kI n) zd = .lit (.string s.data.toList)
/-- block b is a map that holds the marks of bad sectors (at most m of them) -/
def MapB (w : World) (b m : Nat) (bad : Nat → Bool) : Prop :=
  ∃ D : DataW Unit, w.ownsMap Tryz.prog 3 rdB b m D ∧ ∀ n, D.atKey (kI n) (.lit (.bool false)) = .lit (.bool (bad n))

section
variable {w w' : World} {b m : Nat} {L : List (Nat × ByteArray)} {bad : Nat → Bool}
set_option maxRecDepth 100000 in
theorem MapS.lt (h : MapS w b L) : b < w.heap.size := by obtain ⟨D, h, _⟩ := h; exact h.lt
set_option maxRecDepth 100000 in
theorem MapB.lt (h : MapB w b m bad) : b < w.heap.size := by obtain ⟨D, h, _⟩ := h; exact h.lt
set_option maxRecDepth 100000 in
theorem MapS.keeps {F : Nat → Prop} (h : MapS w b L) (k : Keeps F w w') (hn : ¬ F b) : MapS w' b L := by obtain ⟨D, h, r⟩ := h; exact ⟨D, map_keeps h k hn, r⟩
set_option maxRecDepth 100000 in
theorem MapB.keeps {F : Nat → Prop} (h : MapB w b m bad) (k : Keeps F w w') (hn : ¬ F b) : MapB w' b m bad := by obtain ⟨D, h, r⟩ := h; exact ⟨D, map_keeps h k hn, r⟩
set_option maxRecDepth 100000 in
theorem MapS.new (w : World) : MapS (w.alloc (.map #[] 0)) w.heap.size [] :=
  ⟨.map [], World.ownsMap_made _ _ _ _, fun kl => ⟨(fun h => by cases h), (fun ⟨n, _, h⟩ => by cases h)⟩, (fun n s h => by cases h)⟩
set_option maxRecDepth 100000 in
theorem MapB.new (w : World) : MapB (w.alloc (.map #[] 0)) w.heap.size 0 (fun _ => false) :=
  ⟨.map [], World.ownsMap_made _ _ _ _, fun _ => atKey_of_not_has rfl _⟩
set_option maxRecDepth 100000 in
theorem bool_inv {v : Value} {z : DataW Unit × List MemPlace} (h : rdB v = some z) : ∃ x : Bool, v = .bool x ∧ z = (.lit (.bool x), []) := by
  unfold rdB plainElem at h
  rw [show Tryz.prog.underlying 4 = _ from Tryz.underlying4] at h
  cases v <;> simp at h
  exact ⟨_, rfl, h.symm⟩
set_option maxRecDepth 100000 in
theorem MapB.look (h : MapB w b m bad) (n : Nat) (hn : n ≤ 9223372036854775807) : (Instr.lookup 111 (.map (some b)) (.int .i64 (n : Int)) false).run Tryz.prog w = .ok (.bool (bad n)) w := by
  obtain ⟨D, ho, hD⟩ := h
  obtain ⟨v, ps, hrun, hv⟩ := ho.lookup keyI Tryz.underlying111 (zeroB w) (plainElem_bool Tryz.underlying4 false) (kI_of hn)
  obtain ⟨x, rfl, hx⟩ := bool_inv hv
  rw [hD n] at hx
  simp only [Prod.mk.injEq] at hx
  have : bad n = x := by
    have := hx.1
    injection this with this
    injection this
  rw [hrun, this]
set_option maxRecDepth 100000 in
theorem str_eq {s t : ByteArray} (h : (DataW.lit (.string s.data.toList) : DataW Unit) = .lit (.string t.data.toList)) : s = t := by
  injection h with h
  injection h with h
  rw [ByteArray.ext_iff, ← Array.toList_inj]
  exact h
set_option maxRecDepth 100000 in
theorem MapS.look (h : MapS w b L) (n : Nat) (hn : n ≤ 9223372036854775807) (c : Bool) :
    (Instr.lookup 110 (.map (some b)) (.int .i64 (n : Int)) c).run Tryz.prog w = .ok (if c then .tuple #[.string ((find L n).getD ⟨#[]⟩), .bool (find L n).isSome] else .string ((find L n).getD ⟨#[]⟩)) w := by
  obtain ⟨D, ho, hh, ha⟩ := h
  have key : ∀ (v : Value) (ps : List MemPlace), rdS v = some (D.atKey (kI n) (.lit (.string [])), ps) → v = .string ((find L n).getD ⟨#[]⟩) := fun v ps hv => by
    obtain ⟨s, rfl, hs, _⟩ := plainElem_string_inv Tryz.underlying9 hv
    simp only [Prod.mk.injEq] at hs
    cases hf : find L n with
    | some t =>
      rw [ha n t hf] at hs
      rw [str_eq hs.1]
      rfl
    | none =>
      have hno : Maps.has D (kI n) = false := by
        cases hq : Maps.has D (kI n) with
        | false => rfl
        | true =>
          obtain ⟨k, hk, hs2⟩ := (hh _).1 hq
          rw [← kI_inj hk, hf] at hs2
          cases hs2
      rw [atKey_of_not_has hno] at hs
      exact congrArg Value.string (str_eq (s := s) (t := ⟨#[]⟩) hs.1.symm)
  have hb : Maps.has D (kI n) = (find L n).isSome := by
    rw [Bool.eq_iff_iff, hh]
    exact ⟨fun ⟨k, hk, hs⟩ => by rw [kI_inj hk]; exact hs, fun hs => ⟨n, rfl, hs⟩⟩
  cases c with
  | true =>
    obtain ⟨v, ps, hrun, hv⟩ := ho.look_ok keyI Tryz.underlying110 (zeroS w) (plainElem_string Tryz.underlying9 (s := ⟨#[]⟩) (Nat.zero_le _)) (kI_of hn)
    rw [hrun, key v ps hv, hb]
    rfl
  | false =>
    obtain ⟨v, ps, hrun, hv⟩ := ho.lookup keyI Tryz.underlying110 (zeroS w) (plainElem_string Tryz.underlying9 (s := ⟨#[]⟩) (Nat.zero_le _)) (kI_of hn)
    rw [hrun, key v ps hv]
    rfl
set_option maxRecDepth 100000 in
theorem size_has {D : DataW Unit} (n : Nat) (hT : Tidy D) (d : DataW Unit) : Maps.size (D.put (kI n) d) = if Maps.has D (kI n) then Maps.size D else Maps.size D + 1 := size_put hT d
set_option maxRecDepth 100000 in
theorem MapS.store (h : MapS w b L) (n : Nat) (hn : n ≤ 9223372036854775807) (s : ByteArray) (hs : s.size ≤ 9223372036854775807) (hl : L.length < 9223372036854775807) :
    ∃ w', (Instr.mapUpdate 110 (.map (some b)) (.int .i64 (n : Int)) (.string s)).run Tryz.prog w = .ok () w' ∧ MapS w' b (putL L n s) ∧ w.grownBy w' (some b) := by
  obtain ⟨D, ho, hh, ha⟩ := h
  have hkl : WideAt.IsKeyLit (kI n) := trivial
  have hT := ho.tidy keyI
  obtain ⟨w', hrun, ho', ht⟩ := ho.store keyI Tryz.underlying110 (by unfold maxLen; exact hl) (kI_of hn) (plainElem_string Tryz.underlying9 (by unfold maxLen; exact hs))
  have hb : Maps.has D (kI n) = (find L n).isSome := by
    rw [Bool.eq_iff_iff, hh]
    exact ⟨fun ⟨k, hk, hs⟩ => by rw [kI_inj hk]; exact hs, fun hs => ⟨n, rfl, hs⟩⟩
  have hle := ho.size_le
  have hkeys := congrArg List.length (putL_keys L n s)
  rw [List.length_map] at hkeys
  refine ⟨w', hrun, ⟨_, (map_tight ho').mono ?_, fun kl => ?_, fun k t hk zd => ?_⟩, ht.grown⟩
  · rw [size_has n hT, hb, hkeys]
    cases (find L n).isSome
    · simp; exact hle
    · simp; exact hle
  · by_cases e : kl = kI n
    · subst e
      rw [has_put_same ho.isMap hkl]
      exact ⟨fun _ => ⟨n, rfl, by rw [find_putL, if_pos rfl]; rfl⟩, fun _ => rfl⟩
    · rw [has_put_other e, hh]
      constructor
      · rintro ⟨k, rfl, hs⟩
        exact ⟨k, rfl, by rw [find_putL, if_neg (fun h => e (by rw [h]))]; exact hs⟩
      · rintro ⟨k, rfl, hs⟩
        exact ⟨k, rfl, by rwa [find_putL, if_neg (fun h => e (by rw [h]))] at hs⟩
  · rw [find_putL] at hk
    by_cases e : k = n
    · subst e
      rw [if_pos rfl] at hk
      injection hk with hk
      rw [atKey_put_same ho.isMap hkl, hk]
    · rw [if_neg e] at hk
      rw [atKey_put_other (fun h => e (kI_inj h))]
      exact ha k t hk zd
set_option maxRecDepth 100000 in
theorem MapB.store (h : MapB w b m bad) (n : Nat) (hn : n ≤ 9223372036854775807) (x : Bool) (hm : m < 9223372036854775807) :
    ∃ w', (Instr.mapUpdate 111 (.map (some b)) (.int .i64 (n : Int)) (.bool x)).run Tryz.prog w = .ok () w' ∧ MapB w' b (m + 1) (fun k => if k = n then x else bad k) ∧ w.grownBy w' (some b) := by
  obtain ⟨D, ho, hD⟩ := h
  have hkl : WideAt.IsKeyLit (kI n) := trivial
  obtain ⟨w', hrun, ho', ht⟩ := ho.store keyI Tryz.underlying111 (by unfold maxLen; exact hm) (kI_of hn) (plainElem_bool Tryz.underlying4 x)
  refine ⟨w', hrun, ⟨_, ho', fun k => ?_⟩, ht.grown⟩
  by_cases e : k = n
  · subst e
    rw [atKey_put_same ho.isMap hkl]
    simp only [if_pos]
  · rw [atKey_put_other (fun h => e (kI_inj h))]
    simp only [if_neg e]
    exact hD k
set_option maxRecDepth 100000 in
theorem MapS.clear (h : MapS w b L) : ∃ w', (∀ ty, (Builtin.clear_ #[110] ty #[.map (some b)]).run Tryz.prog w = .ok (.tuple #[]) w') ∧ MapS w' b [] ∧ w.grownBy w' (some b) := by
  obtain ⟨D, ⟨es, clock, hb, F, hs, rfl⟩, _⟩ := h
  refine ⟨_, fun ty => by simp [Builtin.clear_, run_underlying Tryz.underlying110, MapKept.run_getObj_map hb, MapKept.run_setObj_map _ hb, Result.andThen]; rfl, ⟨.map [], ⟨#[], clock, heap_setBlock_same hb _, ⟨by simp, stamped_empty _, by simp⟩, Nat.le_refl _, rfl⟩, ?_, ?_⟩, ?_⟩
  · exact fun kl => ⟨(fun h => by cases h), (fun ⟨n, _, h⟩ => by cases h)⟩
  · exact fun n s h => by cases h
  · exact World.mapTurned.grown ⟨es, clock, _, _, hb, rfl⟩
end
end Go.Proofs.YtajlfmnjibgbaaaGreatDoor.Disk
/- Has: is a number in a set of bytes? The program's and the document's. -/
namespace Go.Proofs.YtajlfmnjibgbaaaGreatDoor.Disk
open Go Go.RowKit Mem

set_option maxRecDepth 100000 in
theorem and_one (c j : Nat) (hc : c < 256) : bits .and .u8 ((c : Int) / 2 ^ j) 1 = ((c / 2 ^ j % 2 : Nat) : Int) := by
  have e : ((c : Int) / 2 ^ j) = ((c / 2 ^ j : Nat) : Int) := by rw [Int.natCast_ediv, Int.natCast_pow]; rfl
  have hl : c / 2 ^ j < 256 := Nat.lt_of_le_of_lt (Nat.div_le_self _ _) hc
  rw [e, ← nat_mask1]
  exact u8_and_nat (c / 2 ^ j) 1 hl (by decide)

set_option maxRecDepth 100000 in
set_option maxHeartbeats 1000000 in
theorem has_any (s : ByteArray) (m : Nat) (w : World) (hn : m ≤ 9223372036854775807) :
    Calls Tryz.prog 61 #[.string s, .int .i64 (m : Int)] w fun e w' => e = .returned (.bool (hasN s m)) ∧ w' = w := by
  · obtain ⟨i, hi⟩ : ∃ z, z = m / 8 := ⟨_, rfl⟩
    obtain ⟨j, hj⟩ : ∃ z, z = m % 8 := ⟨_, rfl⟩
    have ei : (m : Int) / 8 = (i : Int) := by rw [hi]; rfl
    have ej : (m : Int) % 8 = (j : Int) := by rw [hj]; rfl
    have hi60 : i ≤ 1152921504606846976 := by omega
    have hj8 : j < 8 := by omega
    by_cases hlt : i < s.size
    · have hv : hasN s m = decide ((s[i].toNat / 2 ^ j) % 2 = 1) := by
        rw [hasN, ← hi, ← hj, Array.getElem?_toList, Array.getElem?_eq_getElem hlt]
        rfl
      have ea := and_one s[i].toNat j s[i].toNat_lt
      rw [hv]
      replace hi := Lib.hid hi
      replace hj := Lib.hid hj
      clear hv
      have h0 : (0 : Int) ≤ (m : Int) := by omega
      go_enter Tryz.func61, Tryz.ntmps61
      go_wp2_with fail
      go_ret
      refine ⟨?_, rfl⟩
      show Ending.returned (Value.bool (((s[i].toNat / 2 ^ j % 2 : Nat) : Int) == 1)) = _
      refine congrArg (fun b => Ending.returned (Value.bool b)) ?_
      rw [Bool.eq_iff_iff]
      simp only [beq_iff_eq, decide_eq_true_eq]
      omega
    · have hv : hasN s m = false := by
        rw [hasN, ← hi, List.getElem?_eq_none (by rw [← Lib.size_eq s]; omega)]
        have := Nat.zero_div (2 ^ (m % 8))
        show ((0 : Nat) / 2 ^ (m % 8) % 2 == 1) = false
        rw [this]; rfl
      rw [hv]
      replace hi := Lib.hid hi
      replace hj := Lib.hid hj
      clear hv
      have h0 : (0 : Int) ≤ (m : Int) := by omega
      have hd : decide ((i : Int) < (s.size : Int)) = false := decide_eq_false (by omega)
      go_enter Tryz.func61, Tryz.ntmps61
      go_wp2_with fail
      go_ret
      exact ⟨rfl, rfl⟩
set_option maxRecDepth 100000 in
set_option maxHeartbeats 1000000 in
theorem rhas_any (s : ByteArray) (m : Nat) (w : World) (hn : m ≤ 9223372036854775807) :
    Calls Tryz.prog 101 #[.string s, .int .i64 (m : Int)] w fun e w' => e = .returned (.bool (hasN s m)) ∧ w' = w := by
  · obtain ⟨i, hi⟩ : ∃ z, z = m / 8 := ⟨_, rfl⟩
    obtain ⟨j, hj⟩ : ∃ z, z = m % 8 := ⟨_, rfl⟩
    have ei : (m : Int) / 8 = (i : Int) := by rw [hi]; rfl
    have ej : (m : Int) % 8 = (j : Int) := by rw [hj]; rfl
    have hi60 : i ≤ 1152921504606846976 := by omega
    have hj8 : j < 8 := by omega
    by_cases hlt : i < s.size
    · have hv : hasN s m = decide ((s[i].toNat / 2 ^ j) % 2 = 1) := by
        rw [hasN, ← hi, ← hj, Array.getElem?_toList, Array.getElem?_eq_getElem hlt]
        rfl
      rw [hv]
      replace hi := Lib.hid hi
      replace hj := Lib.hid hj
      clear hv
      have h0 : (0 : Int) ≤ (m : Int) := by omega
      go_enter Tryz.func101, Tryz.ntmps101
      go_wp2_with fail
      go_ret
      refine ⟨?_, rfl⟩
      show Ending.returned (Value.bool ((wrap64 (s[i].toNat : Int) / 2 ^ j).tmod 2 == 1)) = _
      have hc := s[i].toNat_lt
      rw [IntWalk.wrap64_in _ ⟨by omega, by omega⟩, show ((s[i].toNat : Int) / 2 ^ j).tmod 2 = ((s[i].toNat / 2 ^ j % 2 : Nat) : Int) by rw [show ((s[i].toNat : Int) / 2 ^ j) = ((s[i].toNat / 2 ^ j : Nat) : Int) by rw [Int.natCast_ediv, Int.natCast_pow]; rfl]; rfl]
      refine congrArg (fun b => Ending.returned (Value.bool b)) ?_
      rw [Bool.eq_iff_iff]
      simp only [beq_iff_eq, decide_eq_true_eq]
      omega
    · have hv : hasN s m = false := by
        rw [hasN, ← hi, List.getElem?_eq_none (by rw [← Lib.size_eq s]; omega)]
        have := Nat.zero_div (2 ^ (m % 8))
        show ((0 : Nat) / 2 ^ (m % 8) % 2 == 1) = false
        rw [this]; rfl
      rw [hv]
      replace hi := Lib.hid hi
      replace hj := Lib.hid hj
      clear hv
      have h0 : (0 : Int) ≤ (m : Int) := by omega
      have hd : decide ((i : Int) < (s.size : Int)) = false := decide_eq_false (by omega)
      go_enter Tryz.func101, Tryz.ntmps101
      go_wp2_with fail
      go_ret
      exact ⟨rfl, rfl⟩
end Go.Proofs.YtajlfmnjibgbaaaGreatDoor.Disk

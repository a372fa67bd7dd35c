/- A region that draws its order, where cells that it loads are written at its end: the loads are taken first; the second condition on the world need not hold behind the operations (the late ones) that wait for those loads. -/
import Derived.Deep.RegionHeld3
import Derived.Test.YtajlfmnjibgbaaaGreatDoorMems
import Derived.Maps.AppendAt
import Derived.OwnWalk
namespace Go.Proofs.YtajlfmnjibgbaaaGreatDoor.Late
open Go

set_option maxRecDepth 100000 in
theorem gone {b : Bool} {p : Prop} (h : b = false) : b = true → p := fun h' => by rw [h] at h'; cases h'
/-- no late operation has come up -/
def Fresh (late : List Nat) (listed : Array Bool) : Prop := ∀ l ∈ late, listed.getD l true = false
set_option maxRecDepth 100000 in
theorem getD_set (x : Array Bool) (i l : Nat) (h : l ≠ i) : (x.setIfInBounds i true).getD l true = x.getD l true := by
  rw [Array.getD_eq_getD_getElem?, Array.getD_eq_getD_getElem?, Array.getElem?_setIfInBounds_ne (fun e => h e.symm)]
set_option maxRecDepth 100000 in
theorem Fresh.set {late : List Nat} {listed : Array Bool} {j : Nat} (h : Fresh late listed) (hj : late.contains j = false) : Fresh late (listed.setIfInBounds j true) := fun l hl => by
  rw [getD_set _ _ _ (fun e => by subst e; rw [List.contains_iff_mem.2 hl] at hj; cases hj)]
  exact h l hl
set_option maxRecDepth 100000 in
theorem Fresh.unset {late : List Nat} {listed : Array Bool} {j : Nat} (h : Fresh late (listed.setIfInBounds j true)) (hj : late.contains j = false) : Fresh late listed := fun l hl => by
  have := h l hl
  rwa [getD_set _ _ _ (fun e => by subst e; rw [List.contains_iff_mem.2 hl] at hj; cases hj)] at this

section
variable {P : Program} {ops : Array Oper} {Q : Exit → Act → World → Prop} {md : Region.Mode} {S T : World → Prop} {late : List Nat}

/-- whatever order is picked; S holds behind each operation, and T as long as no late one has come up -/
def wpAnyL (P : Program) (md : Region.Mode) (ops : Array Oper) (Q : Exit → Act → World → Prop) (S T : World → Prop) (late : List Nat) : Nat → Array Bool → Act → World → Prop
  | 0, listed, a, w => Region.ready md ops listed = [] ∧ Q .normal a w
  | fuel + 1, listed, a, w =>
    (Region.ready md ops listed = [] → Q .normal a w) ∧
    ∀ i ∈ Region.ready md ops listed, wpOp P ops Q i (fun a' w' => (S w' ∧ (Fresh late (listed.setIfInBounds i true) → T w')) ∧ wpAnyL P md ops Q S T late fuel (listed.setIfInBounds i true) a' w') a w

set_option maxRecDepth 100000 in
theorem wpAny_of_late : ∀ (fuel : Nat) (listed : Array Bool) (a : Act) (w : World), wpAnyL P md ops Q S T late fuel listed a w → wpAny P md ops Q fuel listed a w
  | 0, _, _, _, h => h
  | fuel + 1, _, _, _, h => ⟨h.1, fun i hi => wpOp_mono (fun a' w' h' => wpAny_of_late fuel _ a' w' h'.2) (h.2 i hi)⟩

/-- each late operation waits for number i -/
def waits (md : Region.Mode) (ops : Array Oper) (late : List Nat) (i : Nat) : Bool :=
  late.all fun j => match ops[j]? with
    | some oj => oj.after.any fun e => Region.binds md e && e.on == i
    | none => true
set_option maxRecDepth 100000 in
theorem waits_spec {i j : Nat} {oj : Oper} (h : waits md ops late i = true) (hj : ops[j]? = some oj) (hno : ∀ e ∈ oj.after, Region.binds md e = true → e.on ≠ i) : late.contains j = false := by
  cases hc : late.contains j with
  | false => rfl
  | true =>
    rw [List.contains_iff_mem] at hc
    have h1 := List.all_eq_true.1 h j hc
    simp only [hj] at h1
    obtain ⟨e, he, hb⟩ := Array.any_eq_true'.1 h1
    simp only [Bool.and_eq_true, beq_iff_eq] at hb
    exact absurd hb.2 (hno e he hb.1)

set_option maxRecDepth 100000 in
theorem first {R : World → Prop} {G : Array Bool → Prop} {i : Nat} {oi : Oper} {v : Value} (hi : ops[i]? = some oi) (hnow : late.contains i = false)
    (hGR : ∀ listed w, G listed → S w → (Fresh late listed → T w) → R w)
    (hGj : ∀ listed j oj, G listed → ops[j]? = some oj → (∀ e ∈ oj.after, Region.binds md e = true → e.on ≠ i) → G (listed.setIfInBounds j true))
    (hsel : ∀ (j : Nat) (o : Oper) cs b, ops[j]? = some o → o.op ≠ .select cs b)
    (hQ : ∀ c a w, Q (.panic c) (a.put oi.dst v) w → Q (.panic c) a w) :
    ∀ (fuel : Nat) (listed : Array Bool) (a : Act) (w : World),
      (∀ j oj, ops[j]? = some oj → j ≠ i → listed.getD j true = false → (∀ e ∈ oj.after, Region.binds md e = true → e.on ≠ i) → oi.apart ops oj = true) →
      i ∈ Region.ready md ops listed → YieldsIf P ops R oi v a → G listed → S w → (Fresh late listed → T w) →
      wpAnyL P md ops Q S T late fuel (listed.setIfInBounds i true) (a.put oi.dst v) w → wpAnyL P md ops Q S T late (fuel + 1) listed a w := by
  intro fuel
  induction fuel with
  | zero =>
    intro listed a w _ hr hy hG hS hT H
    refine ⟨fun h => (by rw [h] at hr; cases hr), fun j hj => ?_⟩
    by_cases hji : j = i
    · subst hji; exact hy.wpOp hi (hGR _ _ hG hS hT) ⟨⟨hS, fun hf => hT (hf.unset hnow)⟩, H⟩
    · have := ready_mono hj hji
      rw [H.1] at this
      cases this
  | succ fuel ih =>
    intro listed a w hfree hr hy hG hS hT H
    refine ⟨fun h => (by rw [h] at hr; cases hr), fun j hj => ?_⟩
    by_cases hji : j = i
    · subst hji; exact hy.wpOp hi (hGR _ _ hG hS hT) ⟨⟨hS, fun hf => hT (hf.unset hnow)⟩, H⟩
    · have h1 := H.2 j (ready_mono hj hji)
      obtain ⟨hjun, oj, hoj, hall⟩ := mem_ready.1 hj
      have hnot : ∀ e ∈ oj.after, Region.binds md e = true → e.on ≠ i := fun e he hb heq => by
        have h1 := hall e he hb
        have h0 := (mem_ready.1 hr).1
        rw [heq] at h1
        rcases Nat.lt_or_ge i listed.size with h' | h'
        · simp [h'] at h0 h1; rw [h0] at h1; cases h1
        · simp [Array.getElem?_eq_none h'] at h1
      have h2 := wpOp_putIf hoj (hfree j oj hoj hji hjun hnot) (fun cs b => hsel i oi cs b hi) (fun cs b => hsel j oj cs b hoj) hQ hy h1
      have hfree' : ∀ k ok, ops[k]? = some ok → k ≠ i → (listed.setIfInBounds j true).getD k true = false →
          (∀ e ∈ ok.after, Region.binds md e = true → e.on ≠ i) → oi.apart ops ok = true := fun k ok hk hki hun hno => by
        refine hfree k ok hk hki ?_ hno
        by_cases hjk : j = k
        · subst hjk; exact hjun
        · rw [getD_set_ne true hjk] at hun; exact hun
      have hc := Array.setIfInBounds_comm (xs := listed) true true hji
      refine wpOp_mono (fun a' w' h3 => ?_) h2
      have hT' : Fresh late (listed.setIfInBounds j true) → T w' := fun hf => h3.2.1.2 (by rw [← hc]; exact hf.set hnow)
      refine ⟨⟨h3.2.1.1, hT'⟩, ih (listed.setIfInBounds j true) a' w' hfree' (ready_mono hr (Ne.symm hji)) h3.1 (hGj _ j oj hG hoj hnot) h3.2.1.1 hT' ?_⟩
      rw [hc]
      exact h3.2.2

set_option maxRecDepth 100000 in
/-- number i, that needs S alone, is taken first -/
theorem take {i : Nat} {oi : Oper} {v : Value} {fuel : Nat} {listed : Array Bool} {a : Act} {w : World} (hi : ops[i]? = some oi)
    (hs : Region.noSelect ops = true) (hl : late.contains i = false) (hf : Region.free md ops listed i = true) (hr : (Region.ready md ops listed).contains i = true)
    (hQ : ∀ c a w, Q (.panic c) (a.put oi.dst v) w → Q (.panic c) a w) (hy : YieldsIf P ops S oi v a) (hS : S w) (hT : T w)
    (h : wpAnyL P md ops Q S T late fuel (listed.setIfInBounds i true) (a.put oi.dst v) w) : wpAnyL P md ops Q S T late (fuel + 1) listed a w :=
  first (R := S) (G := fun _ => True) hi hl (fun _ _ _ hS _ => hS) (fun _ _ _ _ _ _ => trivial) (Region.noSelect_spec hs) hQ fuel listed a w (Region.free_spec hi hf) (by simpa using hr) hy trivial hS (fun _ => hT) h
set_option maxRecDepth 100000 in
/-- number i, for which the late ones wait, is taken first: it may need T, too -/
theorem takeT {i : Nat} {oi : Oper} {v : Value} {fuel : Nat} {listed : Array Bool} {a : Act} {w : World} (hi : ops[i]? = some oi)
    (hs : Region.noSelect ops = true) (hl : late.contains i = false) (hw : waits md ops late i = true) (hfr : (late.all fun l => !listed.getD l true) = true) (hf : Region.free md ops listed i = true) (hr : (Region.ready md ops listed).contains i = true)
    (hQ : ∀ c a w, Q (.panic c) (a.put oi.dst v) w → Q (.panic c) a w) (hy : YieldsIf P ops T oi v a) (hS : S w) (hT : T w)
    (h : wpAnyL P md ops Q S T late fuel (listed.setIfInBounds i true) (a.put oi.dst v) w) : wpAnyL P md ops Q S T late (fuel + 1) listed a w :=
  first (R := T) (G := Fresh late) hi hl (fun _ _ hG _ hT => hT hG) (fun listed j oj hG hj hno => hG.set (waits_spec hw hj hno)) (Region.noSelect_spec hs) hQ fuel listed a w (Region.free_spec hi hf) (by simpa using hr) hy
    (fun l hl' => by have := List.all_eq_true.1 hfr l hl'; simpa using this) hS (fun _ => hT) h

def AllReady (P : Program) (md : Region.Mode) (ops : Array Oper) (Q : Exit → Act → World → Prop) (S T : World → Prop) (late : List Nat) (fuel : Nat) (listed : Array Bool) (a : Act) (w : World) (rs : List Nat) : Prop :=
  ∀ i ∈ rs, wpOp P ops Q i (fun a' w' => (S w' ∧ (Fresh late (listed.setIfInBounds i true) → T w')) ∧ wpAnyL P md ops Q S T late fuel (listed.setIfInBounds i true) a' w') a w
set_option maxRecDepth 100000 in
theorem AllReady.nil {fuel : Nat} {listed : Array Bool} {a : Act} {w : World} : AllReady P md ops Q S T late fuel listed a w [] := fun _ h => by cases h
set_option maxRecDepth 100000 in
theorem AllReady.cons {fuel : Nat} {listed : Array Bool} {a : Act} {w : World} {i : Nat} {o : Oper} {rs : List Nat} (ho : ops[i]? = some o)
    (h : ∀ K' : Act → World → Prop, Shut (∀ a w, S w → ((late.all fun l => !(listed.setIfInBounds i true).getD l true) = true → T w) → wpAnyL P md ops Q S T late fuel (listed.setIfInBounds i true) a w → K' a w) → if Region.wanted o (yielded ops a.tmps) = true then Oper.wp P o a w K' Q else K' (a.put o.dst undef) w)
    (hs : AllReady P md ops Q S T late fuel listed a w rs) : AllReady P md ops Q S T late fuel listed a w (i :: rs) := fun j hj => by
  rcases List.mem_cons.1 hj with rfl | hj
  · exact wpOp_step ho (fun K' hK => h K' (fun a w hS hT hW => hK a w ⟨⟨hS, fun hf => hT (List.all_eq_true.2 fun l hl => by rw [hf l hl]; rfl)⟩, hW⟩))
  · exact hs j hj
set_option maxRecDepth 100000 in
theorem ready {rs : List Nat} {fuel : Nat} {listed : Array Bool} {a : Act} {w : World} (hr : Region.ready md ops listed = rs) (hne : rs ≠ [])
    (h : AllReady P md ops Q S T late fuel listed a w rs) : wpAnyL P md ops Q S T late (fuel + 1) listed a w :=
  ⟨fun h0 => absurd (hr ▸ h0) hne, hr ▸ h⟩
set_option maxRecDepth 100000 in
/-- number i alone may come up -/
theorem only {fuel : Nat} {listed : Array Bool} {a : Act} {w : World} {i : Nat} {o : Oper} (hr : Region.ready md ops listed = [i]) (ho : ops[i]? = some o)
    (h : ∀ K' : Act → World → Prop, Shut (∀ a w, S w → ((late.all fun l => !(listed.setIfInBounds i true).getD l true) = true → T w) → wpAnyL P md ops Q S T late fuel (listed.setIfInBounds i true) a w → K' a w) → if Region.wanted o (yielded ops a.tmps) = true then Oper.wp P o a w K' Q else K' (a.put o.dst undef) w) :
    wpAnyL P md ops Q S T late (fuel + 1) listed a w := ready hr (by simp) (AllReady.cons ho h AllReady.nil)
set_option maxRecDepth 100000 in
theorem done {listed : Array Bool} {a : Act} {w : World} (hr : Region.ready md ops listed = []) (h : Q .normal a w) :
    ∀ fuel, wpAnyL P md ops Q S T late fuel listed a w
  | 0 => ⟨hr, h⟩
  | _ + 1 => ⟨fun _ => h, by rw [hr]; simp⟩
set_option maxRecDepth 100000 in
theorem start {id : Nat} {a : Act} {w : World} (hm : P.follows .mixedOrders = true)
    (h : wpAnyL P .any ops Q S T late ops.size (Array.replicate ops.size false) a w.drew) : (Code.region id ops true).wp P Q a w :=
  wp_region_any hm (wpAny_of_late _ _ _ _ h)
end
end Go.Proofs.YtajlfmnjibgbaaaGreatDoor.Late
/- append onto a row of the call's own, of a slice that reads as a list (a nil one too), guarded or not. -/
namespace Go.Proofs.YtajlfmnjibgbaaaGreatDoor.Mem
open Go.RowKit

section
variable {P : Program} {w : World}
set_option maxRecDepth 100000 in
theorem run_append_row (base : Nat) (t ty e : TypeId) (i : TypeInfo) (z : Value) (bytes : Nat) (ht : P.underlying t = some (.slice e)) (hi : P.info? e = some i) (hz : i.zero = some z)
    (hsize : i.size = 1) (hby : i.bytes = bytes) (hzs : z.cells.size = 1) {v : Value} {n : Nat} {xs : List Value} (hown : w.ownsRow base e 1 v n xs)
    {A : Option Addr} {m : Nat} {us : List Value} (c : Nat) (hr : Row w A m us) (h1 : ∀ u ∈ us, u.oneCell' = true)
    (h63 : n + m ≤ maxLen) (hbytes : (n + m) * bytes ≤ 140737488355328) (hbase : base ≤ w.heap.size) :
    ∃ v' w', (Builtin.append_ #[t, t] ty #[v, .slice A m c]).run P w = .ok v' w' ∧ w'.ownsRow base e 1 v' (n + m) (xs ++ us) ∧ w.grownBy w' v.ownBlock ∧ (v'.ownBlock = v.ownBlock ∨ v'.ownBlock = some w.heap.size) := by
  cases A with
  | some ad =>
    obtain ⟨v', w', hrun, h2, h3, _, h5⟩ := run_append_own_at (P := P) w base t ty e i z 1 bytes ht hi hz hsize hby hzs (by decide) v n xs hown ad m c us (by rw [hr.1, Nat.mul_one])
      (fun j u hu => by obtain ⟨ad', e', hc⟩ := hr.2 j u hu; injection e' with e'; subst e'; exact hc) h1 h63 hbytes hbase
    exact ⟨v', w', hrun, h2, h3, h5⟩
  | none =>
    have hus : us = [] := by
      cases us with
      | nil => rfl
      | cons u r => obtain ⟨ad, h, _⟩ := hr.2 0 u rfl; cases h
    subst hus
    have hm : m = 0 := hr.1.symm
    subst hm
    refine ⟨v, w, ?_, by simpa using hown, Only.refl w _, Or.inl rfl⟩
    rcases hown.2 with ⟨rfl, rfl⟩ | ⟨g, cap, cur, rfl, _, _, hnc, _⟩
    · simp [Builtin.append_, run_underlying ht, sizeOf, typeInfo, hi, Builtin.lenOf, Builtin.firstCells]
    · simp [Builtin.append_, run_underlying ht, sizeOf, typeInfo, hi, Builtin.lenOf, Builtin.firstCells, hnc, storeCells]

set_option maxRecDepth 100000 in
/-- at the operation: for a region that draws its order -/
theorem wp_append_row {o : Oper} {a : Act} {K : Act → World → Prop} {Q : Exit → Act → World → Prop} (s x : Operand) (t : TypeId)
    (ho : o.op = .call { callee := .builtin .append, args := #[s, x], argTypes := #[t, t] })
    (base : Nat) (e : TypeId) (i : TypeInfo) (z : Value) (bytes : Nat) (ht : P.underlying t = some (.slice e)) (hi : P.info? e = some i) (hz : i.zero = some z)
    (hsize : i.size = 1) (hby : i.bytes = bytes) (hzs : z.cells.size = 1)
    (v : Value) (n : Nat) (xs : List Value) (hs : a.eval s = v) (hown : w.ownsRow base e 1 v n xs)
    (A : Option Addr) (m c : Nat) (us : List Value) (hx : a.eval x = .slice A m c) (hr : Row w A m us) (h1 : ∀ u ∈ us, u.oneCell' = true)
    (h63 : n + m ≤ maxLen) (hbytes : (n + m) * bytes ≤ 140737488355328) (hbase : base ≤ w.heap.size)
    (h : ∀ v' w', w'.ownsRow base e 1 v' (n + m) (xs ++ us) → w.grownBy w' v.ownBlock → (v'.ownBlock = v.ownBlock ∨ v'.ownBlock = some w.heap.size) → K (a.put o.dst v') w') : o.wp P a w K Q := by
  obtain ⟨v', w', hrun, h2, h3, h4⟩ := run_append_row (P := P) base t o.type e i z bytes ht hi hz hsize hby hzs hown c hr h1 h63 hbytes hbase
  unfold Oper.wp execOp
  simp only [ho, resolve, invoke, builtin, Sem.run_bind, Sem.run_pure, Result.andThen_ok, List.map_toArray, List.map_cons, List.map_nil, hs, hx, hrun]
  exact h v' w' h2 h3 h4
end
set_option maxRecDepth 100000 in
theorem ints_one (l : List Int) : ∀ u ∈ l.map (Value.int .i64), u.oneCell' = true := fun u hu => by
  obtain ⟨x, _, rfl⟩ := List.mem_map.1 hu
  rfl
end Go.Proofs.YtajlfmnjibgbaaaGreatDoor.Mem

/- Alloc: blocks that are taken one by one: plain facts. -/
import Derived.Test.YthclfljmnljhdaaDoorAllocSpec
import Derived.Test.YthclfljmnljhdaaDoorSetLawsC
namespace Go.Proofs.YthclfljmnljhdaaDoor.Alloc
open Go.RowKit Mem Sets

/-- where the next one is sought behind these -/
def lastOf (l : List Nat) (f : Nat) : Nat := match l.getLast? with
  | some x => x + 1
  | none => f
theorem lastOf_nil (f : Nat) : lastOf [] f = f := rfl
theorem lastOf_snoc (l : List Nat) (x f : Nat) : lastOf (l ++ [x]) f = x + 1 := by simp [lastOf]
theorem lastOf_append (l r : List Nat) (f : Nat) : lastOf r (lastOf l f) = lastOf (l ++ r) f := by
  refine snocN (P := fun r => lastOf r (lastOf l f) = lastOf (l ++ r) f) (by simp [lastOf_nil]) (fun r x _ => ?_) r
  rw [lastOf_snoc, ← List.append_assoc, lastOf_snoc]
where
  snocN {P : List Nat → Prop} (h0 : P []) (h1 : ∀ l c, P l → P (l ++ [c])) (l : List Nat) : P l := by
    have : ∀ r : List Nat, P r.reverse := by
      intro r
      induction r with
      | nil => exact h0
      | cons c r ih => rw [List.reverse_cons]; exact h1 _ _ ih
    have h := this l.reverse
    rwa [List.reverse_reverse] at h
/-- what is used, with these -/
def withL (u : Nat → Bool) (l : List Nat) (m : Nat) : Bool := u m || decide (m ∈ l)
theorem withL_nil (u : Nat → Bool) : withL u [] = u := by
  funext m
  simp [withL]
theorem withL_snoc (u : Nat → Bool) (l : List Nat) (x m : Nat) : withL u (l ++ [x]) m = (withL u l m || decide (m = x)) := by
  unfold withL
  rw [Bool.eq_iff_iff]
  simp [or_assoc]
theorem withL_append (u : Nat → Bool) (l r : List Nat) : withL (withL u l) r = withL u (l ++ r) := by
  funext m
  unfold withL
  rw [Bool.eq_iff_iff]
  simp [or_assoc]
/-- behind k that were taken the others are free, in their order -/
theorem order_takes {u : Nat → Bool} {B f : Nat} (h1 : 1 ≤ f) (h2 : f ≤ B) : ∀ k, k ≤ (order u B f).length →
    1 ≤ lastOf ((order u B f).take k) f ∧ lastOf ((order u B f).take k) f ≤ B ∧ order (withL u ((order u B f).take k)) B (lastOf ((order u B f).take k) f) = (order u B f).drop k
  | 0, _ => by
    rw [List.take_zero, lastOf_nil, withL_nil, List.drop_zero]
    exact ⟨h1, h2, rfl⟩
  | k + 1, hk => by
    obtain ⟨i1, i2, i3⟩ := order_takes (u := u) h1 h2 k (by omega)
    have e : (order u B f).drop k = (order u B f)[k]'(by omega) :: (order u B f).drop (k + 1) := List.drop_eq_getElem_cons (by omega)
    rw [e] at i3
    have t : (order u B f).take (k + 1) = (order u B f).take k ++ [(order u B f)[k]'(by omega)] := by
      rw [List.take_succ_eq_append_getElem (by omega)]
    rw [t, lastOf_snoc]
    obtain ⟨a1, a2, _, a4, _⟩ := order_take i1 i2 i3 (withL_snoc u ((order u B f).take k) ((order u B f)[k]'(by omega)))
    exact ⟨by omega, by omega, a4⟩

/-! ### the set of numbers, as a text -/
def setB (l : List Nat) : ByteArray := ⟨(ofL l).toArray⟩
theorem hasB_set (l : List Nat) (m : Nat) : hasB (setB l) m = decide (m ∈ l) := has_ofL l m
theorem leastB_set (l : List Nat) : LeastB (setB l) := ofL_least l
theorem setB_nil : setB [] = ⟨#[]⟩ := rfl
theorem setB_snoc (l : List Nat) (n : Nat) : orB (setB l) (setB [n]) = setB (l ++ [n]) :=
  b_ext (leastB_or _ _) (leastB_set _) fun m => by
    rw [hasB_or, hasB_set, hasB_set, hasB_set, Bool.eq_iff_iff]
    simp
theorem lenOf_le {l : List Nat} {K : Nat} (h : ∀ x ∈ l, x < 8 * K) : lenOf l ≤ K := by
  by_cases he : l = []
  · rw [he]; exact Nat.zero_le _
  · obtain ⟨m, hm, hx⟩ := exists_max l he
    rw [lenOf_max hm hx]
    have := h m hm
    omega
theorem setB_size {l : List Nat} {K : Nat} (h : ∀ x ∈ l, x < 8 * K) : (setB l).size ≤ K := by
  have := lenOf_le h
  show (ofL l).toArray.size ≤ K
  rw [List.size_toArray, ofL, mk_length]
  exact this
theorem toNat_map (l : List Nat) : (l.map Int.ofNat).map Int.toNat = l := by
  rw [List.map_map]
  exact List.map_id'' (fun x => rfl) l
theorem ofOut_nat {l : List Nat} (h : ∀ x ∈ l, x ≤ 65535) : ofOut (l.map Int.ofNat) = (ofL l, 0) := by
  rw [ofOut, if_neg, toNat_map]
  rw [Bool.not_eq_true, List.any_eq_false]
  intro y hy
  obtain ⟨x, hx, rfl⟩ := List.mem_map.1 hy
  have := h x hx
  simp only [bad, Bool.or_eq_true, decide_eq_true_eq, not_or]
  show ¬ ((x : Int) < 0) ∧ ¬ ((65535 : Int) < (x : Int))
  omega
end Go.Proofs.YthclfljmnljhdaaDoor.Alloc

/- The document's tree, plain: how much it holds. -/
import Derived.Test.YtajlfmnjibgbaaaGreatDoorTrDoc
namespace Go.Proofs.YtajlfmnjibgbaaaGreatDoor.Tr
open Go
/-- a document's tree that holds no more than so much -/
structure TGood (b : Nat) (t : Tx) : Prop where
  len3 : t.levels.length = 3
  ord : t.order.length ≤ b
  lev : ∀ i, (t.levels.getD i []).length ≤ b
  data : t.data.size ≤ 240 * b
set_option maxRecDepth 100000 in
theorem TGood.more {b c : Nat} {t : Tx} (h : TGood b t) (hc : b ≤ c) : TGood c t := ⟨h.len3, Nat.le_trans h.ord hc, fun i => Nat.le_trans (h.lev i) hc, Nat.le_trans h.data (by omega)⟩
set_option maxRecDepth 100000 in
theorem TGood.zero : TGood 0 tx0 := ⟨rfl, Nat.le_refl _, fun i => by
  rcases i with _ | _ | _ | i
  · exact Nat.le_refl _
  · exact Nat.le_refl _
  · exact Nat.le_refl _
  · simp [tx0], Nat.zero_le _⟩
set_option maxRecDepth 100000 in
theorem TGood.err {b : Nat} {t : Tx} {e : Int} (h : TGood b t) : TGood b { t with e := e } := ⟨h.len3, h.ord, h.lev, h.data⟩
set_option maxRecDepth 100000 in
theorem lev_set {L : List (List Int)} {l i : Nat} {x : List Int} (hl : l < L.length) : (L.set l x).getD i [] = if i = l then x else L.getD i [] := by
  rw [List.getD_eq_getElem?_getD, List.getD_eq_getElem?_getD]
  by_cases h : i = l
  · subst h
    rw [if_pos rfl, List.getElem?_set_self hl]
    rfl
  · rw [if_neg h, List.getElem?_set_ne (fun e => h e.symm)]
set_option maxRecDepth 100000 in
theorem TGood.enter {b l : Nat} {t : Tx} (h : TGood b t) (hl : l < 3) (num : Int) : TGood (b + 1) (t.enter num l) := by
  refine ⟨?_, ?_, fun i => ?_, ?_⟩
  · show (t.levels.set l _).length = 3
    rw [List.length_set, h.len3]
  · show (t.order ++ [num]).length ≤ b + 1
    rw [List.length_append]
    have := h.ord
    simp
    omega
  · show ((t.levels.set l _).getD i []).length ≤ b + 1
    rw [lev_set (by rw [h.len3]; exact hl)]
    split
    · rw [List.length_append]
      have := h.lev l
      simp at this ⊢
      omega
    · have := h.lev i
      omega
  · have := h.data
    show t.data.size ≤ _
    omega
/-- how much a read adds at most -/
def mostR : Nat → Nat
  | 0 => 1
  | l + 1 => 1 + 60 * mostR l
set_option maxRecDepth 100000 in
theorem loopR_good {step : Nat → Tx → Int → Tx} {c : Nat} (hs : ∀ i t (num : Int) b, TGood b t → TGood (b + c) (step i t num)) (p : ByteArray) (base : Nat) :
    ∀ (k i : Nat) (t : Tx) (b : Nat), TGood b t → TGood (b + k * c) (loopR step p base k i t)
  | 0, i, t, b, h => by rw [Nat.zero_mul]; exact h
  | k + 1, i, t, b, h => by
    have := loopR_good hs p base k (i + 1) _ _ (hs (base + i) t (val4 p (4 * i) : Int) b h)
    rw [show b + (k + 1) * c = b + c + k * c by rw [Nat.add_mul]; omega]
    exact this
set_option maxRecDepth 100000 in
theorem readR_good (rd : Rd) (size : Nat) (ch : Bool) : ∀ (l at_ : Nat) (t : Tx) (num : Int) (b : Nat), l < 3 → TGood b t → TGood (b + mostR l) (readR rd size ch l at_ t num)
  | 0, at_, t, num, b, hl, h => by
    unfold readR
    split
    · exact h.more (by omega)
    · split
      · exact h.enter hl num
      · have h1 := h.enter hl num
        unfold gotR
        split
        · exact h1.err
        · split
          · exact h1.err
          · rename_i hsz
            refine ⟨h1.len3, h1.ord, h1.lev, ?_⟩
            show (t.data ++ (rd num).1).size ≤ 240 * (b + mostR 0)
            rw [ByteArray.size_append]
            have := h.data
            show _ ≤ 240 * (b + 1)
            omega
  | l + 1, at_, t, num, b, hl, h => by
    unfold readR
    split
    · exact h.more (by omega)
    · have h1 := h.enter hl num
      unfold nodeR
      split
      · exact h1.err.more (by unfold mostR; omega)
      · split
        · exact h1.err.more (by unfold mostR; omega)
        · refine (loopR_good (c := mostR l) (fun i t num b hb => readR_good rd size ch l i t num b (by omega) hb) _ _ _ _ _ _ h1).more ?_
          have hm : min 60 ((lev size).getD l 0 - 60 * at_) * mostR l ≤ 60 * mostR l := Nat.mul_le_mul_right _ (Nat.min_le_left _ _)
          show b + 1 + _ ≤ b + (1 + 60 * mostR l)
          omega
end Go.Proofs.YtajlfmnjibgbaaaGreatDoor.Tr

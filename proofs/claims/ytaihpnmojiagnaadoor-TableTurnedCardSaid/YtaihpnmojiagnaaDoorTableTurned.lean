/- Two things that stand the other way round are refused; stores into a list's elements. (Printed by genturn.py.) -/
import Derived.Test.YtaihpnmojiagnaaDoorTableLaws
namespace Go.Proofs.YtaihpnmojiagnaaDoor.Table
open Go.RowKit Mem Wire

theorem less_total : ∀ (x y : List UInt8), Op.bytesLess x y = true ∨ x = y ∨ Op.bytesLess y x = true
  | [], [] => Or.inr (Or.inl rfl)
  | [], b :: y => Or.inl rfl
  | a :: x, [] => Or.inr (Or.inr rfl)
  | a :: x, b :: y => by
    have h := less_total x y
    simp only [Op.bytesLess, Bool.or_eq_true, Bool.and_eq_true, decide_eq_true_eq, beq_iff_eq, List.cons.injEq]
    have ht : a < b ∨ a = b ∨ b < a := by
      rw [UInt8.lt_iff_toNat_lt, UInt8.lt_iff_toNat_lt, ← UInt8.toNat_inj]
      omega
    rcases ht with ht | rfl | ht
    · exact Or.inl (Or.inl ht)
    · rcases h with h | h | h
      · exact Or.inl (Or.inr ⟨rfl, h⟩)
      · exact Or.inr (Or.inl ⟨rfl, h⟩)
      · exact Or.inr (Or.inr (Or.inr ⟨rfl, h⟩))
    · exact Or.inr (Or.inr (Or.inl ht))
theorem above_one {x y : ByteArray} (h : above x y = true) (h2 : above y x = true) : False := by
  simp only [above, Bool.not_eq_true', Bool.or_eq_false_iff, beq_eq_false_iff_ne, ne_eq] at h h2
  rcases less_total x.toList y.toList with h3 | h3 | h3
  · rw [h.1] at h3; cases h3
  · exact h.2 h3
  · rw [h2.1] at h3; cases h3
theorem ent_turn {a b : Ent} (h : entK.may a b false = true) : entK.may b a false = false ∧ entK.may a a false = false := by
  obtain ⟨_, h2, _⟩ := entK_may h
  have h2 : above b.name a.name = true := by rcases h2 with h | h; · cases h
                                             · exact h
  constructor
  · refine Bool.eq_false_iff.mpr (fun h3 => ?_)
    obtain ⟨_, h4, _⟩ := entK_may h3
    rcases h4 with h | h4
    · cases h
    · exact above_one h2 h4
  · refine Bool.eq_false_iff.mpr (fun h3 => ?_)
    obtain ⟨_, h4, _⟩ := entK_may h3
    rcases h4 with h | h4
    · cases h
    · exact above_one h4 h4
theorem ino_turn {a b : Ino} (h : inoK.may a b false = true) : inoK.may b a false = false ∧ inoK.may a a false = false := by
  have h1 := (inoK_may h).1
  constructor
  · refine Bool.eq_false_iff.mpr (fun h3 => ?_)
    have := (inoK_may h3).1
    omega
  · refine Bool.eq_false_iff.mpr (fun h3 => ?_)
    have := (inoK_may h3).1
    omega
theorem okAll_pair {α : Type} {K : Kind α} : ∀ {l : List α} {was : α} {f : Bool} {k : Nat} {a b : α}, okAll K was f l = true → l[k]? = some a → l[k + 1]? = some b → K.may a b false = true
  | [], _, _, _, _, _, _, h, _ => by simp at h
  | x :: l, was, f, 0, a, b, h, h1, h2 => by
    simp only [okAll, Bool.and_eq_true] at h
    obtain rfl : x = a := by simpa using h1
    cases l with
    | nil => simp at h2
    | cons y l =>
      obtain rfl : y = b := by simpa using h2
      have := h.2
      simp only [okAll, Bool.and_eq_true] at this
      exact this.1
  | x :: l, was, f, k + 1, a, b, h, h1, h2 => by
    simp only [okAll, Bool.and_eq_true] at h
    exact okAll_pair h.2 (by simpa using h1) (by simpa using h2)
theorem pair_bad {α : Type} {K : Kind α} {l : List α} {k : Nat} {a b : α} (h1 : l[k]? = some a) (h2 : l[k + 1]? = some b) (h : K.may a b false = false) : lays K l = none :=
  lays_bad (Bool.eq_false_iff.mpr (fun ho => by rw [okAll_pair ho h1 h2] at h; cases h))
theorem mask16 (a : Int) : ∃ m : Nat, m ≤ 65535 ∧ bits .and .i64 a 65535 = (m : Int) := by
  refine ⟨(BitVec.ofInt 64 a &&& BitVec.ofInt 64 65535).toNat, ?_, ?_⟩
  · rw [BitVec.toNat_and]
    exact Nat.le_trans Nat.and_le_right (by decide)
  · have h : (BitVec.ofInt 64 a &&& BitVec.ofInt 64 65535).toNat ≤ 65535 := by
      rw [BitVec.toNat_and]
      exact Nat.le_trans Nat.and_le_right (by decide)
    show IntKind.i64.wrap ((BitVec.ofInt 64 a &&& BitVec.ofInt 64 65535).toNat : Int) = _
    rw [IntKind.wrap_i64]
    omega

theorem own_empty (W : World) (t : TypeId) (sz : Nat) : (W.alloc (.cells #[] t)).ownsRow W.heap.size t sz (.slice (some ⟨W.heap.size, 0, none⟩) 0 0) 0 [] :=
  ⟨by simp, Or.inr ⟨W.heap.size, 0, #[], rfl, Nat.le_refl _, heap_alloc_new W _, Nat.le_refl _, Nat.zero_le _, by simp, by simp⟩⟩
theorem row_cells {w : World} {ad : Addr} {n : Nat} {us : List Value} (h : Row w (some ad) n us) : ∀ j u, us[j]? = some u → w.cell? (ad.add j) = some u := fun j u hu => by
  obtain ⟨ad', e, hc⟩ := h.2 j u hu
  injection e with e
  subst e
  exact hc
theorem one_all {α : Type} {cs : α → List Value} (h : ∀ x, ∀ u ∈ cs x, u.oneCell' = true) {l : List α} : ∀ u ∈ l.flatMap cs, u.oneCell' = true := fun u hu => by
  obtain ⟨x, _, hx⟩ := List.mem_flatMap.1 hu
  exact h x u hx
/-- a list's cells lie in block g from its beginning -/
def Cells {α : Type} (cs : α → List Value) (sz : Nat) (t : TypeId) (w : World) (g : Nat) (l : List α) : Prop :=
  (∃ cur, Blk w g t cur) ∧ ∀ k x, l[k]? = some x → ∀ j v, (cs x)[j]? = some v → w.cell? ⟨g, k * sz + j, none⟩ = some v
section
variable {α : Type} {cs : α → List Value} {sz : Nat} {t : TypeId} {w w' : World} {g : Nat} {l : List α}
theorem Cells.of_own (hsz : ∀ x, (cs x).length = sz) (h0 : 0 < sz) {base n : Nat} {v : Value} (h : w.ownsRow base t sz v n (l.flatMap cs)) (hn : 0 < n) : ∃ g c, v = .slice (some ⟨g, 0, none⟩) n c ∧ base ≤ g ∧ Cells cs sz t w g l := by
  rcases h.2 with ⟨_, h1⟩ | ⟨g, cap, cur, hv, hb, hg, _⟩
  · omega
  · refine ⟨g, cap, hv, hb, ⟨cur, hg⟩, fun k x hx j u hu => ?_⟩
    have hr := row_of_own (hv ▸ h)
    obtain ⟨ad, ha, hc⟩ := row_elem hsz h0 hr hx
    injection ha with ha
    subst ha
    have := hc j u hu
    rw [add_add, add_lit, Nat.zero_add] at this
    exact this
theorem Cells.row (hsz : ∀ x, (cs x).length = sz) (h0 : 0 < sz) (h : Cells cs sz t w g l) : Row w (some ⟨g, 0, none⟩) (l.length * sz) (l.flatMap cs) := by
  refine ⟨?_, fun i u hu => ⟨_, rfl, ?_⟩⟩
  · clear h
    induction l with
    | nil => simp
    | cons x l ih => rw [List.flatMap_cons, List.length_append, ih, hsz, List.length_cons, Nat.add_mul]; omega
  · have hm : i % sz < sz := Nat.mod_lt _ h0
    have hi : i / sz * sz + i % sz = i := by rw [Nat.mul_comm]; exact Nat.div_add_mod i sz
    have h1 := flatMap_get hsz l (i / sz) (i % sz) hm
    rw [hi, hu] at h1
    obtain ⟨x, hx, hv⟩ := Option.bind_eq_some_iff.1 h1.symm
    have h2 := h.2 (i / sz) x hx (i % sz) u hv
    rw [hi] at h2
    rw [add_lit, Nat.zero_add]
    exact h2
theorem Cells.lt (h : Cells cs sz t w g l) : g < w.heap.size := by obtain ⟨⟨_, h⟩, _⟩ := h; exact h.lt
theorem Cells.free (h : Cells cs sz t w g l) (i : Nat) : w.frozen? ⟨g, i, none⟩ = false := by obtain ⟨⟨_, h⟩, _⟩ := h; exact h.free i
theorem Cells.below (h : Cells cs sz t w g l) (hb : Below w.heap.size w w') : Cells cs sz t w' g l := by
  have hlt := h.lt
  obtain ⟨⟨cur, h1⟩, h2⟩ := h
  exact ⟨⟨cur, h1.below hb hlt⟩, fun k x hx j v hv => (hb.cell (p := ⟨g, _, none⟩) hlt).trans (h2 k x hx j v hv)⟩
theorem cell_put (w : World) {g i j : Nat} (u : Value) {cur : Array Value} (h : Blk w g t cur) : (w.setCell ⟨g, i, none⟩ u).cell? ⟨g, j, none⟩ = if i = j then (if i < cur.size then some u else none) else w.cell? ⟨g, j, none⟩ := by
  rw [(h.put i u).cell j, h.cell j, Array.getElem?_setIfInBounds]
/-- one element is stored: two cells -/
theorem Cells.put2 {t : TypeId} {cs : α → List Value} (h : Cells cs 2 t w g l) {k : Nat} {x : α} {a b : Value} (hx : cs x = [a, b]) (hk : k < l.length) (hsz : ∀ x, (cs x).length = 2) : Cells cs 2 t ((w.setCell ⟨g, k * 2, none⟩ a).setCell ⟨g, k * 2 + 1, none⟩ b) g (l.set k x) := by
  obtain ⟨y, hy⟩ : ∃ y, l[k]? = some y := ⟨_, List.getElem?_eq_getElem hk⟩
  obtain ⟨⟨cur, h1⟩, h2⟩ := h
  have hc0 := h2 k y hy 0 ((cs y)[0]'(by rw [hsz]; decide)) (List.getElem?_eq_getElem _)
  have hc1 := h2 k y hy 1 ((cs y)[1]'(by rw [hsz]; decide)) (List.getElem?_eq_getElem _)
  rw [h1.cell, Nat.add_zero] at hc0
  rw [h1.cell] at hc1
  have l0 := (Array.getElem?_eq_some_iff.1 hc0).1
  have l1 := (Array.getElem?_eq_some_iff.1 hc1).1
  refine ⟨⟨_, (h1.put (k * 2) a).put (k * 2 + 1) b⟩, fun k' z hz j v hv => ?_⟩
  rw [cell_put _ b (h1.put (k * 2) a), cell_put _ a h1]
  rw [List.getElem?_set] at hz
  have hj : j < 2 := by rw [← hsz z]; exact (List.getElem?_eq_some_iff.1 hv).1
  by_cases hkk : k = k'
  · subst hkk
    rw [if_pos rfl, if_pos hk] at hz
    obtain rfl : x = z := by simpa using hz
    rw [hx] at hv
    rcases (show j = 0 ∨ j = 1 by omega) with rfl | rfl
    · rw [if_neg (by omega), if_pos (by omega), if_pos l0]
      exact hv
    · rw [if_pos rfl, if_pos (by rw [Array.size_setIfInBounds]; exact l1)]
      exact hv
  · rw [if_neg hkk] at hz
    rw [if_neg (by omega), if_neg (by omega)]
    exact h2 k' z hz j v hv
theorem Cells.put5 {t : TypeId} {cs : α → List Value} (h : Cells cs 5 t w g l) {k : Nat} {x : α} {a b c d e : Value} (hx : cs x = [a, b, c, d, e]) (hk : k < l.length) (hsz : ∀ x, (cs x).length = 5) :
    Cells cs 5 t (((((w.setCell ⟨g, k * 5, none⟩ a).setCell ⟨g, k * 5 + 1, none⟩ b).setCell ⟨g, k * 5 + 2, none⟩ c).setCell ⟨g, k * 5 + 3, none⟩ d).setCell ⟨g, k * 5 + 4, none⟩ e) g (l.set k x) := by
  obtain ⟨y, hy⟩ : ∃ y, l[k]? = some y := ⟨_, List.getElem?_eq_getElem hk⟩
  obtain ⟨⟨cur, h1⟩, h2⟩ := h
  have hc4 := h2 k y hy 4 ((cs y)[4]'(by rw [hsz]; decide)) (List.getElem?_eq_getElem _)
  rw [h1.cell] at hc4
  have l4 := (Array.getElem?_eq_some_iff.1 hc4).1
  have p1 := h1.put (k * 5) a
  have p2 := p1.put (k * 5 + 1) b
  have p3 := p2.put (k * 5 + 2) c
  have p4 := p3.put (k * 5 + 3) d
  refine ⟨⟨_, p4.put (k * 5 + 4) e⟩, fun k' z hz j v hv => ?_⟩
  rw [cell_put _ e p4, cell_put _ d p3, cell_put _ c p2, cell_put _ b p1, cell_put _ a h1]
  simp only [Array.size_setIfInBounds]
  rw [List.getElem?_set] at hz
  have hj : j < 5 := by rw [← hsz z]; exact (List.getElem?_eq_some_iff.1 hv).1
  by_cases hkk : k = k'
  · subst hkk
    rw [if_pos rfl, if_pos hk] at hz
    obtain rfl : x = z := by simpa using hz
    rw [hx] at hv
    rcases (show j = 0 ∨ j = 1 ∨ j = 2 ∨ j = 3 ∨ j = 4 by omega) with rfl | rfl | rfl | rfl | rfl
    · rw [if_neg (by omega), if_neg (by omega), if_neg (by omega), if_neg (by omega), if_pos (by omega), if_pos (by omega)]
      exact hv
    · rw [if_neg (by omega), if_neg (by omega), if_neg (by omega), if_pos (by omega), if_pos (by omega)]
      exact hv
    · rw [if_neg (by omega), if_neg (by omega), if_pos (by omega), if_pos (by omega)]
      exact hv
    · rw [if_neg (by omega), if_pos (by omega), if_pos (by omega)]
      exact hv
    · rw [if_pos (by omega), if_pos (by omega)]
      exact hv
  · rw [if_neg hkk] at hz
    rw [if_neg (by omega), if_neg (by omega), if_neg (by omega), if_neg (by omega), if_neg (by omega)]
    exact h2 k' z hz j v hv
end
end Go.Proofs.YtaihpnmojiagnaaDoor.Table

/- Planes: the document's map: a byte for each block; plain. -/
import Derived.Test.YteghmnlngkcgiaaDoorPlaneWalkD
namespace Go.Proofs.YteghmnlngkcgiaaDoor.Planes
open Go.RowKit Mem Sets

theorem byte_nz (D : List UInt8) (b : Nat) : byteAt D b ≠ 0 ↔ ∃ p, p < 8 ∧ has D (8 * b + p) = true := by
  constructor
  · intro h
    refine Classical.byContradiction fun hn => h (byte_zero fun j hj => ?_)
    have h1 : ¬ has D (8 * b + j) = true := fun e => hn ⟨j, hj, e⟩
    rw [has_at, show (8 * b + j) / 8 = b by omega, show (8 * b + j) % 8 = j by omega] at h1
    simpa using h1
  · rintro ⟨p, hp, h⟩ e
    rw [has_at, show (8 * b + p) / 8 = b by omega, e] at h
    simp at h
/-- the blocks below a bound that some plane has -/
def nz (D : List UInt8) (n : Nat) : List Int := ((List.range n).filter fun b => decide (byteAt D b ≠ 0)).map Int.ofNat
theorem nz_succ (D : List UInt8) (n : Nat) : nz D (n + 1) = nz D n ++ (if byteAt D n ≠ 0 then [(n : Int)] else []) := by
  unfold nz
  rw [List.range_succ, List.filter_append, List.map_append]
  congr 1
  by_cases h : byteAt D n ≠ 0
  · simp [h]
  · simp [h]
theorem nz_length (D : List UInt8) (n : Nat) : (nz D n).length ≤ n := by
  unfold nz
  rw [List.length_map]
  exact Nat.le_trans (List.length_filter_le _ _) (by simp)
def setU (D : List UInt8) : ByteArray := ⟨(ofL ((List.range D.length).filter fun b => decide (byteAt D b ≠ 0))).toArray⟩
theorem hasB_setU (D : List UInt8) (m : Nat) : hasB (setU D) m = true ↔ ∃ p, p < 8 ∧ has D (8 * m + p) = true := by
  unfold hasB setU
  rw [show ∀ l : List UInt8, (⟨l.toArray⟩ : ByteArray).data.toList = l from fun _ => rfl, has_ofL, decide_eq_true_eq, List.mem_filter, List.mem_range, decide_eq_true_eq, byte_nz]
  constructor
  · exact fun h => h.2
  · intro h
    refine ⟨?_, h⟩
    obtain ⟨p, hp, h⟩ := h
    refine Classical.byContradiction fun hn => ?_
    rw [has_beyond (by omega)] at h
    cases h
theorem ofOut_nats (l : List Nat) (h : ∀ x ∈ l, x ≤ 65535) : ofOut (l.map Int.ofNat) = (ofL l, 0) := by
  have hm : (l.map Int.ofNat).map Int.toNat = l := by
    rw [List.map_map]
    conv => rhs; rw [← List.map_id l]
    exact List.map_congr_left fun x _ => Int.toNat_natCast x
  rw [ofOut, if_neg, hm]
  intro hb
  obtain ⟨x, hx, hb⟩ := List.any_eq_true.1 hb
  obtain ⟨y, hy, rfl⟩ := List.mem_map.1 hx
  have h1 := h y hy
  simp only [bad, Bool.or_eq_true, decide_eq_true_eq] at hb
  have : Int.ofNat y = (y : Int) := rfl
  omega
theorem ofOut_nz (D : List UInt8) (hl : D.length ≤ 4096) : ofOut (nz D D.length) = ((setU D).data.toList, 0) :=
  ofOut_nats _ fun x hx => by have := List.mem_range.1 (List.mem_filter.1 hx).1; omega
theorem setU_textL {B : Nat} {P : Pl} (h : FitAll B P) : setU (textL B P) = used P := by
  refine b_ext (ofL_least _) (leastB_or _ _) fun m => ?_
  rw [Bool.eq_iff_iff, hasB_setU, used, used_has]
  constructor
  · rintro ⟨p, hp, h1⟩
    exact ⟨p, hp, by rw [← has_textL h hp]; exact h1⟩
  · rintro ⟨p, hp, h1⟩
    exact ⟨p, hp, by rw [has_textL h hp]; exact h1⟩
/-- how many from 1 on are free -/
def fr (D : List UInt8) : Nat → Nat
  | 0 => 0
  | n + 1 => fr D n + if byteAt D (n + 1) = 0 then 1 else 0
theorem fr_le (D : List UInt8) : ∀ n, fr D n ≤ n
  | 0 => Nat.le_refl 0
  | n + 1 => by
    have := fr_le D n
    unfold fr
    split <;> omega
theorem one_nz (D : List UInt8) (m : Nat) : one (hasB (setU D) m) = if byteAt D m = 0 then 0 else 1 := by
  unfold one
  by_cases h : byteAt D m = 0
  · rw [if_pos h, if_neg]
    rw [hasB_setU, ← byte_nz]
    exact fun hn => hn h
  · rw [if_neg h, if_pos]
    rw [hasB_setU, ← byte_nz]
    exact h
theorem fr_cnt (D : List UInt8) (h0 : byteAt D 0 = 0) : ∀ n, fr D n + cntTo (hasB (setU D)) (n + 1) = n
  | 0 => by
    rw [cntTo_succ, one_nz, if_pos h0]
    rfl
  | n + 1 => by
    have h := fr_cnt D h0 n
    rw [cntTo_succ, one_nz]
    unfold fr
    by_cases e : byteAt D (n + 1) = 0
    · rw [if_pos e, if_pos e]; omega
    · rw [if_neg e, if_neg e]; omega
theorem cnt_fit {B : Nat} {s : ByteArray} (h : Fit B s) : cnt s = cntTo (hasB s) B := by
  rw [cnt_to]
  have key : ∀ {a b : Nat}, a ≤ b → (∀ m, a ≤ m → m < b → hasB s m = false) → cntTo (hasB s) b = cntTo (hasB s) a := fun {a b} hab hm => by
    have := cntTo_skip (p := hasB s) (d := b - a) (a := a) (fun x h1 h2 => hm x h1 (by omega))
    rwa [show a + (b - a) = b by omega] at this
  rcases Nat.le_total (8 * s.size) B with hle | hle
  · exact (key hle fun m h1 _ => hasB_beyond h1).symm
  · refine key hle fun m h1 _ => ?_
    cases e : hasB s m with
    | false => rfl
    | true => have := (h.2 m e).2; omega
theorem free_eq {B : Nat} {P : Pl} (h : FitAll B P) (hB : 1 ≤ B) : (fr (textL B P) (B - 1) : Int) = free B P := by
  have hu : Fit B (used P) := usedTo_fit h 8 (by omega)
  have h0 : byteAt (textL B P) 0 = 0 := by
    refine Classical.byContradiction fun hn => ?_
    obtain ⟨p, hp, h1⟩ := (byte_nz _ _).1 hn
    rw [has_textL h hp] at h1
    have := ((h p hp).2 0 h1).1
    omega
  have h1 := fr_cnt (textL B P) h0 (B - 1)
  rw [show B - 1 + 1 = B by omega, setU_textL h, ← cnt_fit hu] at h1
  unfold free
  omega
theorem cnt_used_le {B : Nat} {P : Pl} (h : FitAll B P) : cnt (used P) ≤ B := by
  have hu : Fit B (used P) := usedTo_fit h 8 (by omega)
  rw [cnt_fit hu]
  exact cntTo_le _ _

/-! ### a plane is another set -/
/-- the bits when so many blocks are done -/
def qp (D : List UInt8) (p : Nat) (s : ByteArray) (i x : Nat) : Bool := if x % 8 = p ∧ x / 8 < i then hasB s (x / 8) else has D x
theorem qp_zero (D : List UInt8) (p : Nat) (s : ByteArray) : mk D.length (qp D p s 0) = D := by
  conv => rhs; rw [← mk_has D]
  exact mk_congr fun m _ => by unfold qp; rw [if_neg (by omega)]
theorem qp_all {B : Nat} {P : Pl} (h : FitAll B P) {p : Nat} (hp : p < 8) (s : ByteArray) : mk B (qp (textL B P) p s B) = textL B (upd P p (leastB s)) := by
  unfold textL
  refine mk_congr fun m hm => ?_
  unfold qp
  by_cases e : m % 8 = p
  · rw [if_pos ⟨e, by omega⟩, e, upd_same, hasB_leastB]
  · rw [if_neg (fun h => e h.1), upd_other _ _ e]
    have := has_textL h (show m % 8 < 8 by omega) (m / 8)
    rw [show 8 * (m / 8) + m % 8 = m by omega] at this
    exact this
/-- one bit off -/
def clr (c : UInt8) (p : Nat) : UInt8 := c &&& ~~~UInt8.ofNat (2 ^ p)
theorem clr_all : ∀ (c : Fin 256) (p : Fin 8), (UInt8.ofNat c.val &&& ~~~UInt8.ofNat (2 ^ p.val)).toNat + 2 ^ p.val = ((UInt8.ofNat c.val &&& ~~~UInt8.ofNat (2 ^ p.val)) ||| UInt8.ofNat (2 ^ p.val)).toNat := by decide +kernel
theorem clr_add (c : UInt8) (p : Nat) (hp : p < 8) : (clr c p).toNat + 2 ^ p = (clr c p ||| UInt8.ofNat (2 ^ p)).toNat := by
  have h := clr_all ⟨c.toNat, c.toNat_lt⟩ ⟨p, hp⟩
  simp only [UInt8.ofNat_toNat] at h
  exact h
theorem clr_bit_all : ∀ (c : Fin 256) (p j : Fin 8), (UInt8.ofNat c.val &&& ~~~UInt8.ofNat (2 ^ p.val)).toNat.testBit j.val = (c.val.testBit j.val && decide (j.val ≠ p.val)) := by decide +kernel
theorem clr_bit (c : UInt8) (p j : Nat) (hp : p < 8) (hj : j < 8) : (clr c p).toNat.testBit j = (c.toNat.testBit j && decide (j ≠ p)) := by
  have h := clr_bit_all ⟨c.toNat, c.toNat_lt⟩ ⟨p, hp⟩ ⟨j, hj⟩
  simp only [UInt8.ofNat_toNat] at h
  exact h
theorem set_ext {l : List UInt8} {i : Nat} {q : Nat → Bool} {c : UInt8} (hi : i < l.length) (h : ∀ m, m < 8 * l.length → q m = if m / 8 = i then c.toNat.testBit (m % 8) else has l m) : l.set i c = mk l.length q := by
  refine text_ext (by simp [mk_length]) fun m => ?_
  rw [has_mk]
  by_cases hm : m < 8 * l.length
  · rw [decide_eq_true hm, Bool.true_and, h m hm]
    unfold has
    by_cases e : m / 8 = i
    · rw [if_pos e, e, List.getElem?_set_self hi]
      rfl
    · rw [if_neg e, List.getElem?_set_ne (fun h => e h.symm)]
  · rw [decide_eq_false hm, Bool.false_and, has_beyond (by simp; omega)]
/-- the byte of block i is done: its bit is off -/
theorem qp_off {D : List UInt8} {p i : Nat} {s : ByteArray} {c : UInt8} (hp : p < 8) (hi : i < D.length) (hc : (mk D.length (qp D p s i))[i]? = some c) (hs : hasB s i = false) :
    (mk D.length (qp D p s i)).set i (clr c p) = mk D.length (qp D p s (i + 1)) := by
  have hl : (mk D.length (qp D p s i)).length = D.length := mk_length _ _
  have h := set_ext (l := mk D.length (qp D p s i)) (i := i) (c := clr c p) (q := qp D p s (i + 1)) (by rw [hl]; exact hi) (fun m hm => by
    rw [hl] at hm
    by_cases e : m / 8 = i
    · rw [if_pos e, clr_bit _ _ _ hp (Nat.mod_lt _ (by decide))]
      have hb : has (mk D.length (qp D p s i)) m = c.toNat.testBit (m % 8) := by rw [has, e, hc]; rfl
      rw [← hb, has_mk, decide_eq_true hm, Bool.true_and]
      unfold qp
      by_cases e2 : m % 8 = p
      · rw [if_pos ⟨e2, by omega⟩, if_neg (by omega), e, hs, decide_eq_false (by simpa using e2), Bool.and_false]
      · rw [if_neg (fun h => e2 h.1), if_neg (fun h => e2 h.1), decide_eq_true e2, Bool.and_true]
    · rw [if_neg e, has_mk, decide_eq_true hm, Bool.true_and]
      unfold qp
      by_cases e2 : m % 8 = p ∧ m / 8 < i
      · rw [if_pos e2, if_pos ⟨e2.1, by omega⟩]
      · rw [if_neg e2, if_neg (fun h => e2 ⟨h.1, by omega⟩)])
  rw [hl] at h
  exact h
theorem or_bit (c : UInt8) (p j : Nat) (hp : p < 8) : (c ||| UInt8.ofNat (2 ^ p)).toNat.testBit j = (c.toNat.testBit j || decide (j = p)) := by
  rw [UInt8.toNat_or, bit_toNat p hp, Nat.testBit_or, Nat.testBit_two_pow]
  congr 1
  exact decide_eq_decide.2 ⟨Eq.symm, Eq.symm⟩
theorem qp_on {D : List UInt8} {p i : Nat} {s : ByteArray} {c : UInt8} (hp : p < 8) (hi : i < D.length) (hc : (mk D.length (qp D p s i))[i]? = some c) (hs : hasB s i = true) :
    (mk D.length (qp D p s i)).set i (clr c p ||| UInt8.ofNat (2 ^ p)) = mk D.length (qp D p s (i + 1)) := by
  have hl : (mk D.length (qp D p s i)).length = D.length := mk_length _ _
  have h := set_ext (l := mk D.length (qp D p s i)) (i := i) (c := clr c p ||| UInt8.ofNat (2 ^ p)) (q := qp D p s (i + 1)) (by rw [hl]; exact hi) (fun m hm => by
    rw [hl] at hm
    by_cases e : m / 8 = i
    · rw [if_pos e, or_bit _ _ _ hp, clr_bit _ _ _ hp (Nat.mod_lt _ (by decide))]
      have hb : has (mk D.length (qp D p s i)) m = c.toNat.testBit (m % 8) := by rw [has, e, hc]; rfl
      rw [← hb, has_mk, decide_eq_true hm, Bool.true_and]
      unfold qp
      by_cases e2 : m % 8 = p
      · rw [if_pos ⟨e2, by omega⟩, if_neg (by omega), e, hs, decide_eq_true e2, Bool.or_true]
      · rw [if_neg (fun h => e2 h.1), if_neg (fun h => e2 h.1), decide_eq_true e2, decide_eq_false e2, Bool.and_true, Bool.or_false]
    · rw [if_neg e, has_mk, decide_eq_true hm, Bool.true_and]
      unfold qp
      by_cases e2 : m % 8 = p ∧ m / 8 < i
      · rw [if_pos e2, if_pos ⟨e2.1, by omega⟩]
      · rw [if_neg e2, if_neg (fun h => e2 ⟨h.1, by omega⟩)])
  rw [hl] at h
  exact h
end Go.Proofs.YteghmnlngkcgiaaDoor.Planes

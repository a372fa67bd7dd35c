/- The document's way through a tree comes to what the program's comes to, plain. -/
import Derived.Test.YtajlfmnjibgbaaaGreatDoorTrPl
namespace Go.Proofs.YtajlfmnjibgbaaaGreatDoor.Tr
open Go
structure Tx where
  order : List Int
  data : ByteArray
  levels : List (List Int)
  e : Int
def Tx.enter (t : Tx) (num : Int) (l : Nat) : Tx := { t with order := t.order ++ [num], levels := t.levels.set l (t.levels.getD l [] ++ [num]) }
def gotR (t : Tx) (n : Nat) (r : ByteArray × Int) : Tx := if r.2 ≠ 0 then { t with e := r.2 } else if r.1.size ≠ n then { t with e := 110 } else { t with data := t.data ++ r.1 }
def loopR (step : Nat → Tx → Int → Tx) (p : ByteArray) (base : Nat) : Nat → Nat → Tx → Tx
  | 0, _, t => t
  | k + 1, i, t => loopR step p base k (i + 1) (step (base + i) t (val4 p (4 * i) : Int))
def nodeR (step : Nat → Tx → Int → Tx) (rows at_ : Nat) (t : Tx) (r : ByteArray × Int) : Tx :=
  if r.2 ≠ 0 then { t with e := r.2 } else if r.1.size ≠ 4 * min 60 (rows - 60 * at_) then { t with e := 110 } else loopR step r.1 (60 * at_) (min 60 (rows - 60 * at_)) 0 t
def readR (rd : Rd) (size : Nat) (ch : Bool) : Nat → Nat → Tx → Int → Tx
  | 0, at_, t, num => if t.e ≠ 0 then t else if ch = false then t.enter num 0 else gotR (t.enter num 0) (min 240 (size - 240 * at_)) (rd num)
  | l + 1, at_, t, num => if t.e ≠ 0 then t else nodeR (readR rd size ch l) ((lev size).getD l 0) at_ (t.enter num (l + 1)) (rd num)
def tx0 : Tx := ⟨[], ⟨#[]⟩, [[], [], []], 0⟩
def readT (rd : Rd) (ch : Bool) (root size : Int) : Tx :=
  if ¬ blobOk root size then { tx0 with e := 110 } else if 0 < size then readR rd size.toNat ch ((lev size.toNat).length - 1) 0 tx0 root else tx0
def loadR (rd : Rd) (root size : Int) : ByteArray × Int := if (readT rd true root size).e ≠ 0 then (⟨#[]⟩, (readT rd true root size).e) else ((readT rd true root size).data, 0)
def reachR (rd : Rd) (root size : Int) : List Int × Int := if (readT rd false root size).e ≠ 0 then ([], (readT rd false root size).e) else ((readT rd false root size).order, 0)
set_option maxRecDepth 100000 in
theorem readR_stuck (rd : Rd) (size : Nat) (ch : Bool) (l at_ : Nat) (t : Tx) (num : Int) (h : t.e ≠ 0) : readR rd size ch l at_ t num = t := by
  cases l <;> (unfold readR; rw [if_pos h])
set_option maxRecDepth 100000 in
theorem loopR_stuck {step : Nat → Tx → Int → Tx} (hs : ∀ i t (num : Int), t.e ≠ 0 → step i t num = t) (p : ByteArray) (base : Nat) : ∀ (k i : Nat) (t : Tx), t.e ≠ 0 → loopR step p base k i t = t
  | 0, _, _, _ => rfl
  | k + 1, i, t, h => by rw [loopR, hs _ _ _ h, loopR_stuck hs p base k (i + 1) t h]
set_option maxRecDepth 100000 in
theorem loops_sim {step1 : Wk → Int → Wk × Int} {step2 : Nat → Tx → Int → Tx} {Q : Nat → Wk → Tx → Prop} (p : ByteArray) (base : Nat) (hQ : ∀ i w t, Q i w t → t.e = 0)
    (hs : ∀ i w t num, Q i w t → (step1 w num).2 = (step2 i t num).e ∧ ((step1 w num).2 = 0 → Q (i + 1) (step1 w num).1 (step2 i t num))) (hk : ∀ i t (num : Int), t.e ≠ 0 → step2 i t num = t) :
    ∀ (k j : Nat) (w : Wk) (t : Tx), Q (base + j) w t →
      (visits step1 ((List.range' j k).map fun i => ((val4 p (4 * i) : Nat) : Int)) w).2 = (loopR step2 p base k j t).e ∧
      ((visits step1 ((List.range' j k).map fun i => ((val4 p (4 * i) : Nat) : Int)) w).2 = 0 → Q (base + j + k) (visits step1 ((List.range' j k).map fun i => ((val4 p (4 * i) : Nat) : Int)) w).1 (loopR step2 p base k j t))
  | 0, j, w, t, h => ⟨(hQ _ _ _ h).symm, fun _ => h⟩
  | k + 1, j, w, t, h => by
    obtain ⟨h1, h2⟩ := hs _ w t ((val4 p (4 * j) : Nat) : Int) h
    rw [List.range'_succ, List.map_cons]
    unfold visits loopR
    by_cases he : (step1 w ((val4 p (4 * j) : Nat) : Int)).2 = 0
    · rw [if_neg (by simpa using he)]
      have := loops_sim p base hQ hs hk k (j + 1) _ _ (show Q (base + (j + 1)) _ _ from h2 he)
      rw [show base + (j + 1) + k = base + j + (k + 1) by omega] at this
      exact this
    · rw [if_pos he, loopR_stuck hk _ _ _ _ _ (by rw [← h1]; exact he)]
      exact ⟨h1, fun e => absurd e he⟩
section
variable {rd : Rd} {size : Nat} {ch : Bool}
/-- both ways at chunk i; what is below stands at c0, c1 -/
structure Q0 (size c0 c1 : Nat) (i : Nat) (w : Wk) (t : Tx) : Prop where
  order : w.order = t.order
  data : w.data = t.data
  e : t.e = 0
  left : w.left = size - 240 * i
  b0 : w.below.getD 0 0 = c0
  b1 : w.below.getD 1 0 = c1
  len : w.below.length = (lev size).length
set_option maxRecDepth 100000 in
theorem sim0 {c0 c1 i : Nat} {w : Wk} {t : Tx} {num : Int} (h : Q0 size c0 c1 i w t) : (visit rd ch 0 w num).2 = (readR rd size ch 0 i t num).e ∧ ((visit rd ch 0 w num).2 = 0 → Q0 size c0 c1 (i + 1) (visit rd ch 0 w num).1 (readR rd size ch 0 i t num)) := by
  have ho : (w.enter num 0).order = (t.enter num 0).order := by show w.order ++ [num] = t.order ++ [num]; rw [h.order]
  have hd : (w.enter num 0).data = (t.enter num 0).data := h.data
  have hl : w.left - min w.left 240 = size - 240 * (i + 1) := by rw [h.left]; omega
  rw [show visit rd ch 0 w num = chunkW rd ch (w.enter num 0) num from rfl, show readR rd size ch 0 i t num = if ch = false then t.enter num 0 else gotR (t.enter num 0) (min 240 (size - 240 * i)) (rd num) from if_neg (by simpa using h.e)]
  unfold chunkW
  cases ch with
  | false =>
    rw [if_pos rfl, if_pos rfl]
    exact ⟨h.e.symm, fun _ => ⟨ho, hd, h.e, hl, h.b0, h.b1, h.len⟩⟩
  | true =>
    rw [if_neg (by decide), if_neg (by decide)]
    have hm : min w.left 240 = min 240 (size - 240 * i) := by rw [h.left]; omega
    have hm' : min (w.enter num 0).left 240 = min 240 (size - 240 * i) := hm
    unfold gotW gotR
    rw [hm']
    by_cases h1 : (rd num).2 ≠ 0
    · rw [if_pos h1, if_pos h1]
      exact ⟨rfl, fun e => absurd e h1⟩
    · rw [if_neg h1, if_neg h1]
      by_cases h2 : (rd num).1.size ≠ min 240 (size - 240 * i)
      · rw [if_pos h2, if_pos h2]
        exact ⟨rfl, fun e => absurd e (show ¬ (110 : Int) = 0 by decide)⟩
      · rw [if_neg h2, if_neg h2]
        refine ⟨h.e.symm, fun _ => ⟨ho, ?_, h.e, ?_, h.b0, h.b1, h.len⟩⟩
        · show w.data ++ _ = t.data ++ _
          rw [h.data]
        · show w.left - _ = _
          rw [← hm]
          exact hl
set_option maxRecDepth 100000 in
theorem ptrs_range {p : ByteArray} {k : Nat} (h : p.size = 4 * k) : ptrs p = (List.range' 0 k).map fun i => ((val4 p (4 * i) : Nat) : Int) := by
  unfold ptrs
  rw [h, show 4 * k / 4 = k by omega, List.range_eq_range']
set_option maxRecDepth 100000 in
theorem set_getD {L : List Nat} {l x : Nat} (h : l < L.length) : (L.set l x).getD l 0 = x := by
  rw [List.getD_eq_getElem?_getD, List.getElem?_set_self h]
  rfl
set_option maxRecDepth 100000 in
theorem set_getD_ne {L : List Nat} {l k x : Nat} (h : l ≠ k) : (L.set l x).getD k 0 = L.getD k 0 := by
  rw [List.getD_eq_getElem?_getD, List.getD_eq_getElem?_getD, List.getElem?_set_ne h]
set_option maxRecDepth 100000 in
theorem rows0 (h : 0 < size) : (lev size).getD 0 0 = upN size 240 := by
  rw [List.getD_eq_getElem?_getD, lev_zeroth h]
  rfl
/-- both ways at a node of the first level above the chunks -/
def Q1 (size c1 : Nat) (i : Nat) (w : Wk) (t : Tx) : Prop := Q0 size (upN size 240 - 60 * i) c1 (60 * i) w t
set_option maxRecDepth 100000 in
theorem sim1 {c1 i : Nat} {w : Wk} {t : Tx} {num : Int} (h0 : 0 < size) (h : Q1 size c1 i w t) : (visit rd ch 1 w num).2 = (readR rd size ch 1 i t num).e ∧ ((visit rd ch 1 w num).2 = 0 → Q1 size c1 (i + 1) (visit rd ch 1 w num).1 (readR rd size ch 1 i t num)) := by
  have hlen : 0 < w.below.length := by
    rw [h.len]
    refine List.length_pos_iff.2 fun e => ?_
    have := lev_nil.1 e
    omega
  have hb : (w.enter num 1).below.getD 0 0 = upN size 240 - 60 * i := h.b0
  rw [show visit rd ch 1 w num = nodeW (visit rd ch 0) 0 (w.enter num 1) (rd num) from rfl, show readR rd size ch 1 i t num = nodeR (readR rd size ch 0) ((lev size).getD 0 0) i (t.enter num 1) (rd num) from if_neg (by simpa using h.e), rows0 h0]
  unfold nodeW nodeR
  rw [hb, Nat.min_comm 60]
  by_cases h1 : (rd num).2 ≠ 0
  · rw [if_pos h1, if_pos h1]
    exact ⟨rfl, fun e => absurd e h1⟩
  · rw [if_neg h1, if_neg h1]
    by_cases h2 : (rd num).1.size ≠ 4 * min (upN size 240 - 60 * i) 60
    · rw [if_pos h2, if_pos h2]
      exact ⟨rfl, fun e => absurd e (show ¬ (110 : Int) = 0 by decide)⟩
    · rw [if_neg h2, if_neg h2]
      have hs : (rd num).1.size = 4 * min (upN size 240 - 60 * i) 60 := by simpa using h2
      rw [ptrs_range hs]
      have := loops_sim (step1 := visit rd ch 0) (step2 := readR rd size ch 0) (rd num).1 (60 * i) (Q := Q0 size (upN size 240 - 60 * i - min (upN size 240 - 60 * i) 60) c1) (fun _ _ _ h => h.e) (fun i w t num h => sim0 (rd := rd) (ch := ch) h) (fun i t num => readR_stuck rd size ch 0 i t num)
        (min (upN size 240 - 60 * i) 60) 0 { w.enter num 1 with below := (w.enter num 1).below.set 0 (upN size 240 - 60 * i - min (upN size 240 - 60 * i) 60) } (t.enter num 1)
        ⟨by show w.order ++ [num] = t.order ++ [num]; rw [h.order], h.data, h.e, h.left, set_getD hlen, (set_getD_ne (by decide)).trans h.b1, by rw [List.length_set]; exact h.len⟩
      refine ⟨this.1, fun e => ?_⟩
      obtain ⟨q1, q2, q3, q4, q5, q6, q7⟩ := this.2 e
      refine ⟨q1, q2, q3, ?_, ?_, q6, q7⟩
      · rw [q4]
        unfold upN
        omega
      · rw [q5]
        omega
set_option maxRecDepth 100000 in
theorem sim2 {w : Wk} {t : Tx} {num : Int} (h0 : 0 < size) (h3 : 2 ≤ w.below.length) (h : Q0 size (upN size 240) ((lev size).getD 1 0) 0 w t) :
    (visit rd ch 2 w num).2 = (readR rd size ch 2 0 t num).e ∧ ((visit rd ch 2 w num).2 = 0 → (visit rd ch 2 w num).1.order = (readR rd size ch 2 0 t num).order ∧ (visit rd ch 2 w num).1.data = (readR rd size ch 2 0 t num).data) := by
  have hb : (w.enter num 2).below.getD 1 0 = (lev size).getD 1 0 := h.b1
  rw [show visit rd ch 2 w num = nodeW (visit rd ch 1) 1 (w.enter num 2) (rd num) from rfl, show readR rd size ch 2 0 t num = nodeR (readR rd size ch 1) ((lev size).getD 1 0) 0 (t.enter num 2) (rd num) from if_neg (by simpa using h.e)]
  generalize (lev size).getD 1 0 = c at hb h
  unfold nodeW nodeR
  rw [hb, Nat.mul_zero, Nat.sub_zero, Nat.min_comm 60]
  by_cases h1 : (rd num).2 ≠ 0
  · rw [if_pos h1, if_pos h1]
    exact ⟨rfl, fun e => absurd e h1⟩
  · rw [if_neg h1, if_neg h1]
    by_cases h2 : (rd num).1.size ≠ 4 * min c 60
    · rw [if_pos h2, if_pos h2]
      exact ⟨rfl, fun e => absurd e (show ¬ (110 : Int) = 0 by decide)⟩
    · rw [if_neg h2, if_neg h2]
      have hs : (rd num).1.size = 4 * min c 60 := by simpa using h2
      rw [ptrs_range hs]
      have := loops_sim (step1 := visit rd ch 1) (step2 := readR rd size ch 1) (rd num).1 0 (Q := Q1 size (c - min c 60)) (fun _ _ _ h => h.e) (fun i w t num h => sim1 (rd := rd) (ch := ch) h0 h) (fun i t num => readR_stuck rd size ch 1 i t num)
        (min c 60) 0 { w.enter num 2 with below := (w.enter num 2).below.set 1 (c - min c 60) } (t.enter num 2)
        ⟨by show w.order ++ [num] = t.order ++ [num]; rw [h.order], h.data, h.e, h.left, (set_getD_ne (by decide)).trans h.b0, set_getD h3, by rw [List.length_set]; exact h.len⟩
      exact ⟨this.1, fun e => ⟨(this.2 e).order, (this.2 e).data⟩⟩
set_option maxRecDepth 100000 in
theorem through_sim (h0 : 0 < size) (hs : size ≤ 16384) (root : Int) : (throughW rd ch root size).2 = (readR rd size ch ((lev size).length - 1) 0 tx0 root).e ∧ ((throughW rd ch root size).2 = 0 →
    (throughW rd ch root size).1.order = (readR rd size ch ((lev size).length - 1) 0 tx0 root).order ∧ (throughW rd ch root size).1.data = (readR rd size ch ((lev size).length - 1) 0 tx0 root).data) := by
  unfold throughW
  rw [if_neg (by omega)]
  have hl := lev_pos h0
  have q : Q0 size (upN size 240) ((lev size).getD 1 0) 0 (wk0 size) tx0 := ⟨rfl, rfl, rfl, rfl, rows0 h0, rfl, rfl⟩
  split at hl
  · rw [hl]
    have := sim0 (rd := rd) (ch := ch) (num := root) q
    exact ⟨this.1, fun e => ⟨(this.2 e).order, (this.2 e).data⟩⟩
  · split at hl
    · rw [hl]
      have := sim1 (rd := rd) (ch := ch) (num := root) (i := 0) h0 q
      exact ⟨this.1, fun e => ⟨(this.2 e).order, (this.2 e).data⟩⟩
    · rw [hl]
      exact sim2 (rd := rd) (ch := ch) (num := root) h0 (by show 2 ≤ (lev size).length; omega) q
set_option maxRecDepth 100000 in
theorem blob_pos {root s : Int} (h : blobOk root s) (hs : 0 < s) : ∃ n : Nat, s = (n : Int) ∧ 0 < n ∧ n ≤ 16384 := ⟨s.toNat, by have := h.1; omega, by omega, by have := h.2.1; omega⟩
set_option maxRecDepth 100000 in
theorem readT_no {root s : Int} (h : ¬ blobOk root s) : readT rd ch root s = { tx0 with e := 110 } := if_pos h
set_option maxRecDepth 100000 in
theorem readT_zero {root s : Int} (h : blobOk root s) (h0 : ¬ 0 < s) : readT rd ch root s = tx0 := (if_neg (fun f => f h)).trans (if_neg h0)
set_option maxRecDepth 100000 in
theorem readT_pos {root : Int} {n : Nat} (h : blobOk root (n : Int)) (h0 : 0 < n) : readT rd ch root (n : Int) = readR rd n ch ((lev n).length - 1) 0 tx0 root := (if_neg (fun f => f h)).trans (if_pos (by omega))
set_option maxRecDepth 100000 in
theorem loadR_eq (rd : Rd) (root s : Int) : loadR rd root s = loadV rd root s := by
  unfold loadR loadV
  by_cases hb : blobOk root s
  · rw [if_neg (show ¬ ¬ blobOk root s from fun f => f hb)]
    by_cases h0 : 0 < s
    · obtain ⟨n, rfl, h1, h2⟩ := blob_pos hb h0
      rw [readT_pos hb h1, Int.toNat_natCast]
      obtain ⟨e1, e2⟩ := through_sim (rd := rd) (ch := true) h1 h2 root
      rw [← e1]
      by_cases he : (throughW rd true root n).2 = 0
      · rw [if_neg (by simpa using he), if_neg (by simpa using he), (e2 he).2]
      · rw [if_pos he, if_pos he]
    · have hz : s.toNat = 0 := by omega
      have e : throughW rd true root 0 = (wk0 0, 0) := if_pos rfl
      rw [readT_zero hb h0, hz, e]
      rfl
  · rw [readT_no hb, if_pos hb]
    rfl
set_option maxRecDepth 100000 in
theorem reachR_eq (rd : Rd) (root s : Int) : reachR rd root s = reachV rd root s := by
  unfold reachR reachV
  by_cases hb : blobOk root s
  · rw [if_neg (show ¬ ¬ blobOk root s from fun f => f hb)]
    by_cases h0 : 0 < s
    · obtain ⟨n, rfl, h1, h2⟩ := blob_pos hb h0
      rw [readT_pos hb h1, Int.toNat_natCast]
      obtain ⟨e1, e2⟩ := through_sim (rd := rd) (ch := false) h1 h2 root
      rw [← e1]
      by_cases he : (throughW rd false root n).2 = 0
      · rw [if_neg (by simpa using he), if_neg (by simpa using he), (e2 he).1]
      · rw [if_pos he, if_pos he]
    · have hz : s.toNat = 0 := by omega
      have e : throughW rd false root 0 = (wk0 0, 0) := if_pos rfl
      rw [readT_zero hb h0, hz, e]
      rfl
  · rw [readT_no hb, if_pos hb]
    rfl
end
end Go.Proofs.YtajlfmnjibgbaaaGreatDoor.Tr

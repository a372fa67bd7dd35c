/- Bytes in blocks, plain: how many blocks each level has; a way through a blob's tree; bytes stored over a tree. -/
import Derived.Test.YtajlfmnjibgbaaaGreatDoorBlkPl
namespace Go.Proofs.YtajlfmnjibgbaaaGreatDoor.Tr
open Go
def upN (n each : Nat) : Nat := (n + each - 1) / each
/-- how many blocks each level has, the chunks first (of at most 864,000 bytes) -/
def lev (size : Nat) : List Nat :=
  if size = 0 then [] else if size ≤ 240 then [1] else if size ≤ 14400 then [upN size 240, 1] else [upN size 240, upN (upN size 240) 60, 1]
def shapeN (size : Nat) : Nat := (lev size).sum
set_option maxRecDepth 100000 in
theorem lev_pos {n : Nat} (h : 0 < n) : (lev n).length = if n ≤ 240 then 1 else if n ≤ 14400 then 2 else 3 := by
  unfold lev
  rw [if_neg (by omega)]
  split
  · rfl
  · split <;> rfl
set_option maxRecDepth 100000 in
theorem lev_nil {n : Nat} : lev n = [] ↔ n = 0 := by
  constructor
  · intro h
    rcases Nat.eq_zero_or_pos n with h0 | h0
    · exact h0
    · have := lev_pos h0
      rw [h] at this
      revert this
      split
      · simp
      · split <;> simp
  · rintro rfl; rfl
set_option maxRecDepth 100000 in
theorem lev_len (n : Nat) : (lev n).length ≤ 3 := by
  rcases Nat.eq_zero_or_pos n with rfl | h
  · decide
  · rw [lev_pos h]
    split
    · decide
    · split <;> decide
set_option maxRecDepth 100000 in
/-- the first level: the chunks -/
theorem lev_zeroth {n : Nat} (h : 0 < n) : (lev n)[0]? = some (upN n 240) := by
  unfold lev
  rw [if_neg (by omega)]
  split
  · rw [show upN n 240 = 1 by unfold upN; omega]; rfl
  · split <;> rfl
set_option maxRecDepth 100000 in
/-- each level above another one -/
theorem lev_succ {n l a b : Nat} (hn : n ≤ 864000) (ha : (lev n)[l]? = some a) (hb : (lev n)[l + 1]? = some b) : b = upN a 60 ∧ 1 < a := by
  unfold lev at ha hb
  split at ha
  · cases ha
  · rename_i h0
    rw [if_neg h0] at hb
    split at ha
    · rename_i h1
      rw [if_pos h1] at hb
      cases l <;> simp at hb
    · rename_i h1
      rw [if_neg h1] at hb
      split at ha
      · rename_i h2
        rw [if_pos h2] at hb
        rcases l with _ | _ | l
        · simp at ha hb
          subst ha; subst hb
          unfold upN; omega
        · simp at hb
        · simp at hb
      · rename_i h2
        rw [if_neg h2] at hb
        rcases l with _ | _ | _ | l
        · simp at ha hb
          subst ha; subst hb
          unfold upN; omega
        · simp at ha hb
          subst ha; subst hb
          unfold upN; omega
        · simp at hb
        · simp at hb
set_option maxRecDepth 100000 in
/-- the last level is one block, and only the last -/
theorem lev_last {n l a : Nat} (hn : n ≤ 864000) (ha : (lev n)[l]? = some a) : (lev n)[l + 1]? = none ↔ a = 1 := by
  constructor
  · intro hb
    unfold lev at ha hb
    split at ha
    · cases ha
    · rename_i h0
      rw [if_neg h0] at hb
      split at ha
      · rcases l with _ | l
        · simpa using ha.symm
        · simp at ha
      · rename_i h1
        rw [if_neg h1] at hb
        split at ha
        · rename_i h2
          rw [if_pos h2] at hb
          rcases l with _ | _ | l
          · simp at hb
          · simpa using ha.symm
          · simp at ha
        · rename_i h2
          rw [if_neg h2] at hb
          rcases l with _ | _ | _ | l
          · simp at hb
          · simp at hb
          · simpa using ha.symm
          · simp at ha
  · rintro rfl
    cases hb : (lev n)[l + 1]? with
    | none => rfl
    | some b => have := (lev_succ hn ha hb).2; omega
set_option maxRecDepth 100000 in
theorem lev_mem {n l a : Nat} (hn : n ≤ 16384) (ha : (lev n)[l]? = some a) : 1 ≤ a ∧ a ≤ 69 := by
  unfold lev at ha
  split at ha
  · cases ha
  · split at ha
    · rcases l with _ | l
      · simp at ha; omega
      · simp at ha
    · split at ha
      · rcases l with _ | _ | l
        · simp at ha; subst ha; unfold upN; omega
        · simp at ha; omega
        · simp at ha
      · rcases l with _ | _ | _ | l
        · simp at ha; subst ha; unfold upN; omega
        · simp at ha; subst ha; unfold upN; omega
        · simp at ha; omega
        · simp at ha
set_option maxRecDepth 100000 in
theorem shape_le {n : Nat} (hn : n ≤ 16384) : shapeN n ≤ 72 := by
  unfold shapeN lev
  split
  · decide
  · split
    · decide
    · split
      · simp [upN]; omega
      · simp [upN]; omega

/-! ### a way through a tree -/
/-- four bytes, the least first -/
def val4 (s : ByteArray) (i : Nat) : Nat := (s.get! i).toNat + 256 * (s.get! (i + 1)).toNat + 65536 * (s.get! (i + 2)).toNat + 16777216 * (s.get! (i + 3)).toNat
/-- a payload's pointers -/
def ptrs (s : ByteArray) : List Int := (List.range (s.size / 4)).map fun i => (val4 s (4 * i) : Int)
/-- how far a way has come -/
structure Wk where
  order : List Int
  nums : List (List Int)
  data : ByteArray
  left : Nat
  below : List Nat
def Wk.enter (w : Wk) (num : Int) (l : Nat) : Wk := { w with order := w.order ++ [num], nums := w.nums.set l (w.nums.getD l [] ++ [num]) }
abbrev Rd := Int → ByteArray × Int
def visits (step : Wk → Int → Wk × Int) : List Int → Wk → Wk × Int
  | [], w => (w, 0)
  | n :: l, w => if (step w n).2 ≠ 0 then step w n else visits step l (step w n).1
def gotW (w : Wk) (n : Nat) (r : ByteArray × Int) : Wk × Int :=
  if r.2 ≠ 0 then (w, r.2) else if r.1.size ≠ n then (w, 110) else ({ w with data := w.data ++ r.1 }, 0)
def chunkW (rd : Rd) (chunks : Bool) (w : Wk) (num : Int) : Wk × Int :=
  if chunks = false then ({ w with left := w.left - min w.left 240 }, 0) else gotW { w with left := w.left - min w.left 240 } (min w.left 240) (rd num)
def nodeW (step : Wk → Int → Wk × Int) (l : Nat) (w : Wk) (r : ByteArray × Int) : Wk × Int :=
  if r.2 ≠ 0 then (w, r.2) else if r.1.size ≠ 4 * min (w.below.getD l 0) 60 then (w, 110)
  else visits step (ptrs r.1) { w with below := w.below.set l (w.below.getD l 0 - min (w.below.getD l 0) 60) }
def visit (rd : Rd) (chunks : Bool) : Nat → Wk → Int → Wk × Int
  | 0, w, num => chunkW rd chunks (w.enter num 0) num
  | l + 1, w, num => nodeW (visit rd chunks l) l (w.enter num (l + 1)) (rd num)
def wk0 (size : Nat) : Wk := ⟨[], List.replicate (lev size).length [], ⟨#[]⟩, size, lev size⟩
/-- may a blob be one? -/
def blobOk (root size : Int) : Prop := 0 ≤ size ∧ size ≤ 16384 ∧ (root = 0 ↔ size = 0)
instance (r s : Int) : Decidable (blobOk r s) := inferInstanceAs (Decidable (_ ∧ _ ∧ _))
def throughW (rd : Rd) (chunks : Bool) (root : Int) (size : Nat) : Wk × Int :=
  if size = 0 then (wk0 size, 0) else visit rd chunks ((lev size).length - 1) (wk0 size) root
def loadV (rd : Rd) (root size : Int) : ByteArray × Int :=
  if ¬ blobOk root size then (⟨#[]⟩, 110) else if (throughW rd true root size.toNat).2 ≠ 0 then (⟨#[]⟩, (throughW rd true root size.toNat).2) else ((throughW rd true root size.toNat).1.data, 0)
def reachV (rd : Rd) (root size : Int) : List Int × Int :=
  if ¬ blobOk root size then ([], 110) else if (throughW rd false root size.toNat).2 ≠ 0 then ([], (throughW rd false root size.toNat).2) else ((throughW rd false root size.toNat).1.order, 0)

/-! ### bytes stored -/
def piece (s : ByteArray) (i : Nat) : ByteArray := s.extract (240 * i) (240 * i + 240)
def grp (l : List Nat) (i : Nat) : List Nat := (l.drop (60 * i)).take 60
def le4 (n : Nat) : List UInt8 := [UInt8.ofNat n, UInt8.ofNat (n / 256), UInt8.ofNat (n / 65536), UInt8.ofNat (n / 16777216)]
def enc4 (l : List Nat) : ByteArray := ⟨(l.flatMap le4).toArray⟩
def upd (f : Rd) (n : Nat) (p : ByteArray) : Rd := fun k => if k = (n : Int) then (p, 0) else f k
/-- a level is laid: what is kept is kept, else a block is taken -/
structure Lv where
  rd : Rd
  free : List Nat
  now : List Nat
def layR (pay : Nat → ByteArray) (keep : Nat → Option Nat) : Nat → Nat → Lv → Lv × Bool
  | 0, _, s => (s, true)
  | k + 1, i, s => match keep i with
    | some n => layR pay keep k (i + 1) { s with now := s.now ++ [n] }
    | none => match s.free with
      | [] => (s, false)
      | n :: q => layR pay keep k (i + 1) ⟨upd s.rd n (pay i), q, s.now ++ [n]⟩
def keep0 (data had : ByteArray) (was : List Nat) (i : Nat) : Option Nat := if piece data i = piece had i then some (was.getD i 0) else none
def keepU (alike : Bool) (now wasL wasU : List Nat) (i : Nat) : Option Nat :=
  if alike = true ∧ i < wasU.length ∧ enc4 (grp now i) = enc4 (grp wasL i) then some (wasU.getD i 0) else none
/-- the levels above -/
def storeUp (alike : Bool) (was : List (List Nat)) : List Nat → Nat → Lv → Lv × Bool
  | [], _, s => (s, true)
  | k :: ks, l, s =>
    let r := layR (fun i => enc4 (grp s.now i)) (keepU alike s.now (was.getD (l - 1) []) (was.getD l [])) k 0 { s with now := [] }
    if r.2 = false then r else storeUp alike was ks (l + 1) r.1
def storeW (rd : Rd) (free : List Nat) (had : ByteArray) (was : List (List Nat)) (data : ByteArray) : Lv × Bool :=
  match lev data.size with
  | [] => (⟨rd, free, []⟩, true)
  | k :: ks =>
    let r := layR (piece data) (keep0 data had (was.getD 0 [])) k 0 ⟨rd, free, []⟩
    if r.2 = false then r else storeUp (decide (was.length = ks.length + 1)) was ks 1 r.1
end Go.Proofs.YtajlfmnjibgbaaaGreatDoor.Tr
/- Bytes stored over a tree, plain: what is taken, what stands there then. -/
namespace Go.Proofs.YtajlfmnjibgbaaaGreatDoor.Tr
open Go
/-- how many of the places from i on are not kept -/
def countN (keep : Nat → Option Nat) : Nat → Nat → Nat
  | 0, _ => 0
  | k + 1, i => (if keep i = none then 1 else 0) + countN keep k (i + 1)
set_option maxRecDepth 100000 in
theorem countN_le (keep : Nat → Option Nat) : ∀ k i, countN keep k i ≤ k
  | 0, _ => Nat.le_refl _
  | k + 1, i => by
    have := countN_le keep k (i + 1)
    unfold countN
    split <;> omega
def Chg (rd rd' : Rd) (T : List Nat) : Prop := ∀ x : Int, (∀ n ∈ T, x ≠ (n : Int)) → rd' x = rd x
set_option maxRecDepth 100000 in
theorem Chg.refl (rd : Rd) (T : List Nat) : Chg rd rd T := fun _ _ => rfl
set_option maxRecDepth 100000 in
theorem Chg.trans {a b c : Rd} {T U : List Nat} (h : Chg a b T) (k : Chg b c U) : Chg a c (T ++ U) := fun x hx =>
  (k x fun n hn => hx n (List.mem_append_right _ hn)).trans (h x fun n hn => hx n (List.mem_append_left _ hn))
set_option maxRecDepth 100000 in
theorem Chg.mono {a b : Rd} {T U : List Nat} (h : Chg a b T) (hs : ∀ n ∈ T, n ∈ U) : Chg a b U := fun x hx => h x fun n hn => hx n (hs n hn)
set_option maxRecDepth 100000 in
theorem Chg.at_ {a b : Rd} {T : List Nat} (h : Chg a b T) {n : Nat} (hn : n ∉ T) : b n = a n := h n fun m hm e => hn (by
  have : n = m := by omega
  rwa [this])
set_option maxRecDepth 100000 in
theorem upd_at (f : Rd) (n : Nat) (p : ByteArray) : upd f n p n = (p, 0) := if_pos rfl
/-- a level as it was laid -/
structure LaidR (pay : Nat → ByteArray) (keep : Nat → Option Nat) (k i : Nat) (rd rd' : Rd) (news T : List Nat) : Prop where
  len : news.length = k
  tlen : T.length = countN keep k i
  chg : Chg rd rd' T
  each : ∀ j n, news[j]? = some n → keep (i + j) = some n ∨ (keep (i + j) = none ∧ n ∈ T ∧ rd' n = (pay (i + j), 0))
  all : ∀ n ∈ T, n ∈ news
  nodup : (∀ j j' n, j < i + k → j' < i + k → keep j = some n → keep j' = some n → j = j') → (∀ j n, j < i + k → keep j = some n → n ∉ T) → news.Nodup
/-- the levels above, as they were laid: from the lower level P on -/
inductive UpR (alike : Bool) (was : List (List Nat)) : Nat → List Nat → List Nat → Rd → Rd → List (List Nat) → List Nat → Prop
  | nil (l : Nat) (P : List Nat) (rd : Rd) : UpR alike was l [] P rd rd [] []
  | cons {l k : Nat} {ks P : List Nat} {rd rd1 rd2 : Rd} {news T1 T2 : List Nat} {nows : List (List Nat)}
      (h : LaidR (fun i => enc4 (grp P i)) (keepU alike P (was.getD (l - 1) []) (was.getD l [])) k 0 rd rd1 news T1) (r : UpR alike was (l + 1) ks news rd1 rd2 nows T2) :
      UpR alike was l (k :: ks) P rd rd2 (news :: nows) (T1 ++ T2)
def lastNow (P : List Nat) : List (List Nat) → List Nat
  | [] => P
  | n :: ns => lastNow n ns
section
variable {alike : Bool} {was : List (List Nat)} {l : Nat} {ks P : List Nat} {rd rd' : Rd} {nows : List (List Nat)} {T : List Nat}
set_option maxRecDepth 100000 in
theorem UpR.lens (h : UpR alike was l ks P rd rd' nows T) : nows.map List.length = ks := by
  induction h with
  | nil => rfl
  | cons h r ih => rw [List.map_cons, ih, h.len]
set_option maxRecDepth 100000 in
theorem UpR.chg (h : UpR alike was l ks P rd rd' nows T) : Chg rd rd' T := by
  induction h with
  | nil => exact Chg.refl _ _
  | cons h r ih => exact h.chg.trans ih
set_option maxRecDepth 100000 in
theorem keepU_mem {now wasL wasU : List Nat} {i n : Nat} (h : keepU alike now wasL wasU i = some n) : alike = true ∧ wasU[i]? = some n ∧ enc4 (grp now i) = enc4 (grp wasL i) := by
  unfold keepU at h
  split at h
  · rename_i h1
    refine ⟨h1.1, ?_, h1.2.2⟩
    injection h with h
    rw [← h, List.getD_eq_getElem?_getD, List.getElem?_eq_getElem h1.2.1, Option.getD_some]
  · cases h
set_option maxRecDepth 100000 in
theorem UpR.mem (h : UpR alike was l ks P rd rd' nows T) : ∀ j n, n ∈ nows.getD j [] → n ∈ T ∨ n ∈ was.getD (l + j) [] := by
  induction h with
  | nil => intro j n hn; simp at hn
  | @cons l k ks P rd rd1 rd2 news T1 T2 nows h r ih =>
    intro j n hn
    cases j with
    | zero =>
      obtain ⟨i, hi⟩ := List.mem_iff_getElem?.1 (show n ∈ news by simpa using hn)
      rcases h.each i n hi with h1 | ⟨_, h2, _⟩
      · exact Or.inr (List.mem_of_getElem? (keepU_mem h1).2.1)
      · exact Or.inl (List.mem_append_left _ h2)
    | succ j =>
      rcases ih j n (by simpa using hn) with h1 | h1
      · exact Or.inl (List.mem_append_right _ h1)
      · rw [show l + 1 + j = l + (j + 1) by omega] at h1
        exact Or.inr h1
set_option maxRecDepth 100000 in
theorem UpR.all (h : UpR alike was l ks P rd rd' nows T) : ∀ n ∈ T, n ∈ nows.flatten := by
  induction h with
  | nil => intro n hn; simp at hn
  | cons h r ih =>
    intro n hn
    rw [List.flatten_cons, List.mem_append]
    rcases List.mem_append.1 hn with h1 | h1
    · exact Or.inl (h.all n h1)
    · exact Or.inr (ih n h1)
set_option maxRecDepth 100000 in
theorem getD_mem_flatten {l n : Nat} (h : n ∈ was.getD l []) : n ∈ was.flatten := by
  rw [List.getD_eq_getElem?_getD] at h
  cases hw : was[l]? with
  | none => rw [hw] at h; simp at h
  | some L =>
    rw [hw] at h
    exact List.mem_flatten.2 ⟨L, List.mem_of_getElem? hw, h⟩
set_option maxRecDepth 100000 in
theorem nodup_level (h : was.flatten.Nodup) (l : Nat) : (was.getD l []).Nodup := by
  rw [List.getD_eq_getElem?_getD]
  cases hw : was[l]? with
  | none => simp
  | some L => exact (List.pairwise_flatten.1 h).1 L (List.mem_of_getElem? hw)
set_option maxRecDepth 100000 in
theorem nodup_apart (h : was.flatten.Nodup) {l l' n : Nat} (h1 : n ∈ was.getD l []) (h2 : n ∈ was.getD l' []) : l = l' := by
  rw [List.getD_eq_getElem?_getD] at h1 h2
  cases e1 : was[l]? with
  | none => rw [e1] at h1; simp at h1
  | some L =>
    cases e2 : was[l']? with
    | none => rw [e2] at h2; simp at h2
    | some L' =>
      rw [e1] at h1
      rw [e2] at h2
      simp only [Option.getD_some] at h1 h2
      have hp := List.pairwise_iff_getElem.1 (List.pairwise_flatten.1 h).2
      obtain ⟨i1, j1⟩ := List.getElem?_eq_some_iff.1 e1
      obtain ⟨i2, j2⟩ := List.getElem?_eq_some_iff.1 e2
      rcases Nat.lt_trichotomy l l' with hl | hl | hl
      · exact absurd rfl (hp l l' i1 i2 hl n (by rw [j1]; exact h1) n (by rw [j2]; exact h2))
      · exact hl
      · exact absurd rfl (hp l' l i2 i1 hl n (by rw [j2]; exact h2) n (by rw [j1]; exact h1))
end
end Go.Proofs.YtajlfmnjibgbaaaGreatDoor.Tr
/- Bytes stored over a tree, plain: the tree that stands there then. -/
namespace Go.Proofs.YtajlfmnjibgbaaaGreatDoor.Tr
open Go
/-- a tree of bytes, as it lies in blocks -/
structure TreeOk (rd : Rd) (data : ByteArray) (nums : List (List Nat)) : Prop where
  lens : nums.map List.length = lev data.size
  chunk : ∀ (i n : Nat), (nums.getD 0 [])[i]? = some n → rd n = (piece data i, 0)
  node : ∀ (l i n : Nat), (nums.getD (l + 1) [])[i]? = some n → rd n = (enc4 (grp (nums.getD l []) i), 0)
  nodup : nums.flatten.Nodup
  range : ∀ n ∈ nums.flatten, 1 ≤ n ∧ n < 65536
set_option maxRecDepth 100000 in
theorem TreeOk.nil (rd : Rd) : TreeOk rd ⟨#[]⟩ [] := ⟨rfl, fun i n h => by simp at h, fun l i n h => by simp at h, List.nodup_nil, fun n h => by simp at h⟩
set_option maxRecDepth 100000 in
theorem TreeOk.chg {rd rd' : Rd} {data : ByteArray} {nums : List (List Nat)} {T : List Nat} (h : TreeOk rd data nums) (hc : Chg rd rd' T) (hT : ∀ n ∈ T, n ∉ nums.flatten) : TreeOk rd' data nums :=
  ⟨h.lens, fun i n hi => by rw [hc.at_ fun hn => hT n hn (getD_mem_flatten (List.mem_of_getElem? hi))]; exact h.chunk i n hi,
    fun l i n hi => by rw [hc.at_ fun hn => hT n hn (getD_mem_flatten (List.mem_of_getElem? hi))]; exact h.node l i n hi, h.nodup, h.range⟩
section
variable {alike : Bool} {was : List (List Nat)} {l : Nat} {ks P : List Nat} {rd rd' : Rd} {nows : List (List Nat)} {T : List Nat}
set_option maxRecDepth 100000 in
theorem UpR.node (h : UpR alike was l ks P rd rd' nows T) (hl : 1 ≤ l) (hT : T.Nodup) (hd : ∀ n ∈ T, n ∉ was.flatten)
    (hw : ∀ (l i n : Nat), (was.getD (l + 1) [])[i]? = some n → rd n = (enc4 (grp (was.getD l []) i), 0)) :
    ∀ (j i n : Nat), (nows.getD j [])[i]? = some n → rd' n = (enc4 (grp ((P :: nows).getD j []) i), 0) := by
  induction h with
  | nil => intro j i n hn; simp at hn
  | @cons l k ks P rd rd1 rd2 news T1 T2 nows h r ih =>
    obtain ⟨t1, t2, t3⟩ := List.nodup_append.1 hT
    have hd1 : ∀ n ∈ T1, n ∉ was.flatten := fun n hn => hd n (List.mem_append_left _ hn)
    have hd2 : ∀ n ∈ T2, n ∉ was.flatten := fun n hn => hd n (List.mem_append_right _ hn)
    intro j i n hn
    cases j with
    | zero =>
      rw [show (P :: news :: nows).getD 0 [] = P from rfl]
      rw [show (news :: nows).getD 0 [] = news from rfl] at hn
      rcases h.each i n hn with h1 | ⟨_, h2, h3⟩
      · rw [Nat.zero_add] at h1
        obtain ⟨_, q1, q2⟩ := keepU_mem h1
        have hm := getD_mem_flatten (List.mem_of_getElem? q1)
        have q3 := hw (l - 1) i n (by rw [show l - 1 + 1 = l by omega]; exact q1)
        rw [r.chg.at_ fun hx => hd2 n hx hm, h.chg.at_ fun hx => hd1 n hx hm, q3, q2]
      · rw [Nat.zero_add] at h3
        rw [r.chg.at_ fun hx => t3 n h2 n hx rfl, h3]
    | succ j =>
      have := ih (by omega) t2 hd2 (fun l i n hi => by
        rw [h.chg.at_ fun hx => hd1 n hx (getD_mem_flatten (List.mem_of_getElem? hi))]
        exact hw l i n hi) j i n (by simpa using hn)
      simpa using this
set_option maxRecDepth 100000 in
theorem getD_of_flatten {nows : List (List Nat)} {n : Nat} (h : n ∈ nows.flatten) : ∃ j, n ∈ nows.getD j [] := by
  obtain ⟨L, h1, h2⟩ := List.mem_flatten.1 h
  obtain ⟨j, hj⟩ := List.mem_iff_getElem?.1 h1
  exact ⟨j, by rw [List.getD_eq_getElem?_getD, hj]; exact h2⟩
set_option maxRecDepth 100000 in
theorem UpR.memF (h : UpR alike was l ks P rd rd' nows T) {n : Nat} (hn : n ∈ nows.flatten) : n ∈ T ∨ ∃ j, n ∈ was.getD (l + j) [] := by
  obtain ⟨j, hj⟩ := getD_of_flatten hn
  exact (h.mem j n hj).imp id fun q => ⟨j, q⟩
set_option maxRecDepth 100000 in
theorem get_inj {L : List Nat} (h : L.Nodup) {i j n : Nat} (hi : L[i]? = some n) (hj : L[j]? = some n) : i = j := by
  obtain ⟨i1, i2⟩ := List.getElem?_eq_some_iff.1 hi
  obtain ⟨j1, j2⟩ := List.getElem?_eq_some_iff.1 hj
  have hp := List.pairwise_iff_getElem.1 h
  rcases Nat.lt_trichotomy i j with hl | hl | hl
  · exact absurd (i2.trans j2.symm) (hp i j i1 j1 hl)
  · exact hl
  · exact absurd (j2.trans i2.symm) (hp j i j1 i1 hl)
set_option maxRecDepth 100000 in
theorem UpR.nodup (h : UpR alike was l ks P rd rd' nows T) (hT : T.Nodup) (hd : ∀ n ∈ T, n ∉ was.flatten) (hw : was.flatten.Nodup) : nows.flatten.Nodup := by
  induction h with
  | nil => exact List.nodup_nil
  | @cons l k ks P rd rd1 rd2 news T1 T2 nows h r ih =>
    obtain ⟨t1, t2, t3⟩ := List.nodup_append.1 hT
    have hd1 : ∀ n ∈ T1, n ∉ was.flatten := fun n hn => hd n (List.mem_append_left _ hn)
    have hd2 : ∀ n ∈ T2, n ∉ was.flatten := fun n hn => hd n (List.mem_append_right _ hn)
    rw [List.flatten_cons]
    refine List.nodup_append.2 ⟨h.nodup (fun j j' n _ _ a b => get_inj (nodup_level hw l) (keepU_mem a).2.1 (keepU_mem b).2.1) (fun j n _ a hn => hd1 n hn (getD_mem_flatten (List.mem_of_getElem? (keepU_mem a).2.1))), ih t2 hd2, fun a ha b hb e => ?_⟩
    subst e
    obtain ⟨i, hi⟩ := List.mem_iff_getElem?.1 ha
    have qa : a ∈ T1 ∨ a ∈ was.getD l [] := (h.each i a hi).elim (fun q => Or.inr (List.mem_of_getElem? (keepU_mem q).2.1)) (fun q => Or.inl q.2.1)
    rcases qa with qa | qa
    · rcases r.memF hb with qb | ⟨j, qb⟩
      · exact t3 a qa a qb rfl
      · exact hd1 a qa (getD_mem_flatten qb)
    · rcases r.memF hb with qb | ⟨j, qb⟩
      · exact hd2 a qb (getD_mem_flatten qa)
      · have := nodup_apart hw qa qb
        omega
end
/-- bytes were stored: the blocks now, those that were taken -/
inductive StoreR (rd : Rd) (had : ByteArray) (was : List (List Nat)) (data : ByteArray) : Rd → List (List Nat) → List Nat → Prop
  | nothing (h : data.size = 0) : StoreR rd had was data rd [] []
  | made {k : Nat} {ks now0 T0 T1 : List Nat} {rd1 rd2 : Rd} {nows : List (List Nat)} (e : lev data.size = k :: ks) (h : LaidR (piece data) (keep0 data had (was.getD 0 [])) k 0 rd rd1 now0 T0)
      (r : UpR (decide (was.length = ks.length + 1)) was 1 ks now0 rd1 rd2 nows T1) : StoreR rd had was data rd2 (now0 :: nows) (T0 ++ T1)
def lastOf (nums : List (List Nat)) : List Nat := match nums with
  | [] => []
  | P :: nows => lastNow P nows
section
variable {rd rd' : Rd} {had data : ByteArray} {was nums : List (List Nat)} {T : List Nat}
set_option maxRecDepth 100000 in
theorem StoreR.chg (h : StoreR rd had was data rd' nums T) : Chg rd rd' T := by
  cases h with
  | nothing h => exact Chg.refl _ _
  | made e h r => exact h.chg.trans r.chg
set_option maxRecDepth 100000 in
theorem StoreR.all (h : StoreR rd had was data rd' nums T) : ∀ n ∈ T, n ∈ nums.flatten := by
  cases h with
  | nothing h => intro n hn; simp at hn
  | made e h r =>
    intro n hn
    rw [List.flatten_cons, List.mem_append]
    exact (List.mem_append.1 hn).imp (h.all n) (r.all n)
set_option maxRecDepth 100000 in
theorem up_lt {n a b i : Nat} (ha : a = upN n b) (hb : 0 < b) (hi : i < a) : b * i < n := by
  subst ha
  unfold upN at hi
  have := (Nat.lt_div_iff_mul_lt hb).1 hi
  rw [Nat.mul_comm] at this
  omega
set_option maxRecDepth 100000 in
/-- a chunk's piece is not empty -/
theorem piece_pos {k i : Nat} {ks : List Nat} (e : lev data.size = k :: ks) (hi : i < k) : 0 < (piece data i).size := by
  have h0 : 0 < data.size := by
    rcases Nat.eq_zero_or_pos data.size with h | h
    · rw [h] at e; cases e
    · exact h
  have h1 := lev_zeroth h0
  rw [e] at h1
  injection h1 with h1
  have h2 := up_lt h1 (by decide) hi
  unfold piece
  rw [ByteArray.size_extract]
  omega
set_option maxRecDepth 100000 in
theorem keep0_mem {P : List Nat} {i n : Nat} (hp : 0 < (piece data i).size) (hl : P.length = upN had.size 240) (h : keep0 data had P i = some n) : P[i]? = some n ∧ piece data i = piece had i := by
  unfold keep0 at h
  split at h
  · rename_i h1
    refine ⟨?_, h1⟩
    injection h with h
    have h2 : 240 * i < had.size := by
      rw [h1] at hp
      unfold piece at hp
      rw [ByteArray.size_extract] at hp
      omega
    have h3 : i < P.length := by rw [hl]; unfold upN; omega
    rw [← h, List.getD_eq_getElem?_getD, List.getElem?_eq_getElem h3, Option.getD_some]
  · cases h
set_option maxRecDepth 100000 in
theorem TreeOk.len0 (h : TreeOk rd had was) : (was.getD 0 []).length = upN had.size 240 := by
  have hl := h.lens
  cases was with
  | nil =>
    have : had.size = 0 := lev_nil.1 hl.symm
    rw [this]
    rfl
  | cons P w =>
    rw [List.map_cons] at hl
    have h0 : 0 < had.size := by
      rcases Nat.eq_zero_or_pos had.size with h | h
      · rw [h] at hl; cases hl
      · exact h
    have h1 := lev_zeroth h0
    rw [← hl] at h1
    injection h1 with h1
set_option maxRecDepth 100000 in
theorem StoreR.ok (h : StoreR rd had was data rd' nums T) (ht : TreeOk rd had was) (hT : T.Nodup) (hd : ∀ n ∈ T, n ∉ was.flatten) (hr : ∀ n ∈ T, 1 ≤ n ∧ n < 65536) :
    TreeOk rd' data nums ∧ ∀ n ∈ nums.flatten, n ∈ T ∨ n ∈ was.flatten := by
  cases h with
  | nothing h =>
    have e : data = ⟨#[]⟩ := by
      apply ByteArray.ext
      apply Array.eq_empty_of_size_eq_zero
      exact h
    subst e
    exact ⟨TreeOk.nil _, fun n hn => by simp at hn⟩
  | @made k ks now0 T0 T1 rd1 rd2 nows e h r =>
    obtain ⟨t1, t2, t3⟩ := List.nodup_append.1 hT
    have hd1 : ∀ n ∈ T0, n ∉ was.flatten := fun n hn => hd n (List.mem_append_left _ hn)
    have hd2 : ∀ n ∈ T1, n ∉ was.flatten := fun n hn => hd n (List.mem_append_right _ hn)
    have hw : ∀ (l i n : Nat), (was.getD (l + 1) [])[i]? = some n → rd1 n = (enc4 (grp (was.getD l []) i), 0) := fun l i n hi => by
      rw [h.chg.at_ fun hx => hd1 n hx (getD_mem_flatten (List.mem_of_getElem? hi))]
      exact ht.node l i n hi
    have hk : ∀ i n, i < k → keep0 data had (was.getD 0 []) i = some n → (was.getD 0 [])[i]? = some n ∧ piece data i = piece had i := fun i n hi => keep0_mem (piece_pos e hi) ht.len0
    have hlen := h.len
    have m0 : ∀ i n, now0[i]? = some n → n ∈ T0 ∨ (was.getD 0 [])[i]? = some n := fun i n hi => by
      have hik : i < k := by rw [← hlen]; exact (List.getElem?_eq_some_iff.1 hi).1
      rcases h.each i n hi with q | q
      · rw [Nat.zero_add] at q
        exact Or.inr (hk i n hik q).1
      · exact Or.inl q.2.1
    have memF : ∀ n ∈ (now0 :: nows).flatten, n ∈ T0 ++ T1 ∨ n ∈ was.flatten := fun n hn => by
      rw [List.flatten_cons, List.mem_append] at hn
      rcases hn with hn | hn
      · obtain ⟨i, hi⟩ := List.mem_iff_getElem?.1 hn
        exact (m0 i n hi).imp (List.mem_append_left _) fun q => getD_mem_flatten (List.mem_of_getElem? q)
      · exact (r.memF hn).imp (List.mem_append_right _) fun ⟨j, q⟩ => getD_mem_flatten q
    refine ⟨⟨?_, fun i n hi => ?_, fun l i n hi => ?_, ?_, fun n hn => ?_⟩, memF⟩
    · rw [List.map_cons, r.lens, h.len, e]
    · rw [show (now0 :: nows).getD 0 [] = now0 from rfl] at hi
      have hik : i < k := by rw [← hlen]; exact (List.getElem?_eq_some_iff.1 hi).1
      rcases h.each i n hi with q | ⟨_, q2, q3⟩
      · rw [Nat.zero_add] at q
        obtain ⟨q1, q2⟩ := hk i n hik q
        have hm := getD_mem_flatten (List.mem_of_getElem? q1)
        rw [r.chg.at_ fun hx => hd2 n hx hm, h.chg.at_ fun hx => hd1 n hx hm, ht.chunk i n q1, q2]
      · rw [Nat.zero_add] at q3
        rw [r.chg.at_ fun hx => t3 n q2 n hx rfl, q3]
    · exact r.node (Nat.le_refl _) t2 hd2 hw l i n (by simpa using hi)
    · rw [List.flatten_cons]
      refine List.nodup_append.2 ⟨?_, r.nodup t2 hd2 ht.nodup, fun a ha b hb eab => ?_⟩
      · exact h.nodup (fun j j' n a b qa qb => get_inj (nodup_level ht.nodup 0) (hk j n (by omega) qa).1 (hk j' n (by omega) qb).1) (fun j n a qa hn => hd1 n hn (getD_mem_flatten (List.mem_of_getElem? (hk j n (by omega) qa).1)))
      · subst eab
        obtain ⟨i, hi⟩ := List.mem_iff_getElem?.1 ha
        rcases m0 i a hi with qa | qa
        · rcases r.memF hb with qb | ⟨j, qb⟩
          · exact t3 a qa a qb rfl
          · exact hd1 a qa (getD_mem_flatten qb)
        · rcases r.memF hb with qb | ⟨j, qb⟩
          · exact hd2 a qb (getD_mem_flatten (List.mem_of_getElem? qa))
          · have := nodup_apart ht.nodup (List.mem_of_getElem? qa) qb
            omega
    · rcases memF n hn with q | q
      · exact hr n q
      · exact ht.range n q
end
end Go.Proofs.YtajlfmnjibgbaaaGreatDoor.Tr
/- A tree that lies in blocks is read as it was laid, plain. -/
namespace Go.Proofs.YtajlfmnjibgbaaaGreatDoor.Tr
open Go
def upF (ps : Nat → Nat) (l x : Nat) : Nat → Nat := fun k => if k = l then x else ps k
set_option maxRecDepth 100000 in
theorem upF_same (ps : Nat → Nat) (l x : Nat) : upF ps l x l = x := if_pos rfl
set_option maxRecDepth 100000 in
theorem upF_other (ps : Nat → Nat) {l k : Nat} (x : Nat) (h : k ≠ l) : upF ps l x k = ps k := if_neg h
set_option maxRecDepth 100000 in
theorem upF_up (ps : Nat → Nat) (l x y : Nat) : upF (upF ps l x) l y = upF ps l y := by
  funext k
  unfold upF
  split <;> rfl
set_option maxRecDepth 100000 in
theorem upF_self (ps : Nat → Nat) (l : Nat) : upF ps l (ps l) = ps := by
  funext k
  unfold upF
  split
  · rename_i h; rw [h]
  · rfl
def ints (l : List Nat) : List Int := l.map Int.ofNat
set_option maxRecDepth 100000 in
theorem ints_cons (n : Nat) (l : List Nat) : ints (n :: l) = (n : Int) :: ints l := rfl
set_option maxRecDepth 100000 in
theorem ints_append (l r : List Nat) : ints (l ++ r) = ints l ++ ints r := List.map_append
def stW (data : ByteArray) (nums : List (List Nat)) (chunks : Bool) (ps qs : Nat → Nat) (c : Nat) (ord : List Int) : Wk :=
  ⟨ord, nums.mapIdx fun l L => ints (L.take (ps l)), if chunks = true then data.extract 0 (240 * c) else ⟨#[]⟩, data.size - 240 * c, (lev data.size).mapIdx fun l n => n - qs l⟩
set_option maxRecDepth 100000 in
theorem extract_join (s : ByteArray) {a b : Nat} (h : a ≤ b) : s.extract 0 a ++ s.extract a b = s.extract 0 b := by
  apply ByteArray.ext
  rw [ByteArray.data_append, ByteArray.data_extract, ByteArray.data_extract, ByteArray.data_extract]
  apply Array.toList_inj.1
  simp only [Array.toList_append, Array.toList_extract, List.extract, List.drop_zero, Nat.sub_zero]
  rw [show b = a + (b - a) by omega, List.take_add, Nat.add_sub_cancel_left]
set_option maxRecDepth 100000 in
theorem extract_all (s : ByteArray) {a : Nat} (h : s.size ≤ a) : s.extract 0 a = s := by
  apply ByteArray.ext
  rw [ByteArray.data_extract]
  apply Array.toList_inj.1
  simp only [Array.toList_extract, List.extract, List.drop_zero, Nat.sub_zero]
  exact List.take_of_length_le (by simpa using h)
set_option maxRecDepth 100000 in
theorem piece_size (s : ByteArray) (i : Nat) : (piece s i).size = min (s.size - 240 * i) 240 := by
  unfold piece
  rw [ByteArray.size_extract]
  omega
set_option maxRecDepth 100000 in
theorem le4_length (n : Nat) : (le4 n).length = 4 := rfl
set_option maxRecDepth 100000 in
theorem enc4_size (l : List Nat) : (enc4 l).size = 4 * l.length := by
  show (l.flatMap le4).toArray.size = _
  rw [List.size_toArray]
  induction l with
  | nil => rfl
  | cons a l ih => rw [List.flatMap_cons, List.length_append, ih, le4_length, List.length_cons]; omega
set_option maxRecDepth 100000 in
theorem enc4_get {l : List Nat} : ∀ {i j n : Nat}, l[i]? = some n → j < 4 → (l.flatMap le4)[4 * i + j]? = (le4 n)[j]? := by
  induction l with
  | nil => intro i j n h; simp at h
  | cons a l ih =>
    intro i j n h hj
    rw [List.flatMap_cons]
    cases i with
    | zero =>
      simp at h
      subst h
      rw [List.getElem?_append_left (by rw [le4_length]; omega)]
      rw [Nat.mul_zero, Nat.zero_add]
    | succ i =>
      rw [List.getElem?_append_right (by rw [le4_length]; omega), le4_length, show 4 * (i + 1) + j - 4 = 4 * i + j by omega]
      exact ih (by simpa using h) hj
set_option maxRecDepth 100000 in
theorem getB {s : ByteArray} {i : Nat} {b : UInt8} (h : s.data.toList[i]? = some b) : s.get! i = b := by
  have h1 : s.data[i]? = some b := by rw [← Array.getElem?_toList]; exact h
  show s.data[i]! = b
  rw [getElem!_def, h1]
set_option maxRecDepth 100000 in
theorem val4_enc {l : List Nat} {i n : Nat} (h : l[i]? = some n) (hn : n < 4294967296) : val4 (enc4 l) (4 * i) = n := by
  have g : ∀ j, j < 4 → ∀ b, (le4 n)[j]? = some b → (enc4 l).get! (4 * i + j) = b := fun j hj b hb => getB (by
    show ((l.flatMap le4).toArray.toList)[4 * i + j]? = some b
    rw [List.toList_toArray, enc4_get h hj, hb])
  have g0 := g 0 (by decide) _ rfl
  have g1 := g 1 (by decide) _ rfl
  have g2 := g 2 (by decide) _ rfl
  have g3 := g 3 (by decide) _ rfl
  rw [Nat.add_zero] at g0
  unfold val4
  rw [g0, g1, g2, g3, UInt8.toNat_ofNat', UInt8.toNat_ofNat', UInt8.toNat_ofNat', UInt8.toNat_ofNat']
  omega
set_option maxRecDepth 100000 in
theorem ptrs_enc {l : List Nat} (h : ∀ n ∈ l, n < 4294967296) : ptrs (enc4 l) = ints l := by
  unfold ptrs ints
  rw [enc4_size, show 4 * l.length / 4 = l.length by omega]
  apply List.ext_getElem?
  intro i
  rw [List.getElem?_map, List.getElem?_map]
  cases hi : l[i]? with
  | none =>
    have := List.getElem?_eq_none_iff.1 hi
    rw [List.getElem?_eq_none (by simpa using this)]
    rfl
  | some n =>
    have hlt := (List.getElem?_eq_some_iff.1 hi).1
    rw [List.getElem?_range hlt, Option.map_some, Option.map_some, val4_enc hi (h n (List.mem_of_getElem? hi))]
    rfl
section
variable {rd : Rd} {data : ByteArray} {nums : List (List Nat)} {ch : Bool} {ps qs : Nat → Nat} {c : Nat} {ord : List Int}
set_option maxRecDepth 100000 in
theorem enter_stW {l n : Nat} {L : List Nat} (h : nums[l]? = some L) (hi : L[ps l]? = some n) :
    (stW data nums ch ps qs c ord).enter (n : Int) l = stW data nums ch (upF ps l (ps l + 1)) qs c (ord ++ [(n : Int)]) := by
  have hl : l < nums.length := (List.getElem?_eq_some_iff.1 h).1
  have e : (nums.mapIdx fun l L => ints (L.take (ps l))).set l ((nums.mapIdx fun l L => ints (L.take (ps l))).getD l [] ++ [(n : Int)]) = nums.mapIdx fun k L => ints (L.take (upF ps l (ps l + 1) k)) := by
    apply List.ext_getElem?
    intro k
    rw [List.getElem?_set, List.getElem?_mapIdx]
    by_cases hk : l = k
    · subst hk
      rw [if_pos rfl, if_pos (by simpa using hl), List.getElem?_mapIdx, h, List.getD_eq_getElem?_getD, List.getElem?_mapIdx, h, Option.map_some, Option.map_some, Option.getD_some, upF_same, List.take_add_one, hi, ints_append]
      rfl
    · rw [if_neg hk, List.getElem?_mapIdx, upF_other _ _ (fun e => hk e.symm)]
  unfold Wk.enter
  show (⟨_, _, _, _, _⟩ : Wk) = ⟨_, _, _, _, _⟩
  rw [show (stW data nums ch ps qs c ord).nums = nums.mapIdx fun l L => ints (L.take (ps l)) from rfl, e]
  rfl
set_option maxRecDepth 100000 in
theorem getD_some {l : Nat} {L : List Nat} {i n : Nat} (h : (nums.getD l [])[i]? = some n) (hL : L = nums.getD l []) : nums[l]? = some L := by
  subst hL
  rw [List.getD_eq_getElem?_getD] at h ⊢
  cases e : nums[l]? with
  | none => rw [e] at h; simp at h
  | some L => rfl
set_option maxRecDepth 100000 in
theorem visit0 (ht : TreeOk rd data nums) {i n : Nat} (hi : (nums.getD 0 [])[i]? = some n) (hp : ps 0 = i) :
    visit rd ch 0 (stW data nums ch ps qs i ord) (n : Int) = (stW data nums ch (upF ps 0 (i + 1)) qs (i + 1) (ord ++ [(n : Int)]), 0) := by
  rw [visit, enter_stW (getD_some hi rfl) (by rw [hp]; exact hi), hp]
  have hr := ht.chunk i n hi
  have hl : data.size - 240 * i - min (data.size - 240 * i) 240 = data.size - 240 * (i + 1) := by omega
  unfold chunkW
  cases ch with
  | false =>
    rw [if_pos rfl]
    unfold stW
    simp only [hl]
    rfl
  | true =>
    rw [if_neg (by decide), hr]
    unfold gotW
    rw [if_neg (by simp), if_neg (by
      simp only [ne_eq, Decidable.not_not]
      rw [piece_size]
      rfl)]
    unfold stW
    simp only [if_true, hl]
    rw [show 240 * (i + 1) = 240 * i + 240 by omega]
    unfold piece
    rw [extract_join _ (by omega)]
set_option maxRecDepth 100000 in
theorem visits0 (ht : TreeOk rd data nums) : ∀ (k i : Nat) (ps : Nat → Nat) (ord : List Int), ps 0 = i → i + k ≤ (nums.getD 0 []).length →
    ∃ ord', visits (visit rd ch 0) (ints (((nums.getD 0 []).drop i).take k)) (stW data nums ch ps qs i ord) = (stW data nums ch (upF ps 0 (i + k)) qs (i + k) ord', 0)
  | 0, i, ps, ord, hp, hk => ⟨ord, by rw [List.take_zero, Nat.add_zero, ← hp, upF_self]; rfl⟩
  | k + 1, i, ps, ord, hp, hk => by
    have hi : (nums.getD 0 [])[i]? = some ((nums.getD 0 [])[i]'(by omega)) := List.getElem?_eq_getElem (by omega)
    generalize (nums.getD 0 [])[i]'(by omega) = n at hi
    have hd : (nums.getD 0 []).drop i = n :: (nums.getD 0 []).drop (i + 1) := by
      obtain ⟨h1, h2⟩ := List.getElem?_eq_some_iff.1 hi
      rw [List.drop_eq_getElem_cons h1, h2]
    rw [hd, List.take_succ_cons, ints_cons]
    have h1 := visit0 (ch := ch) (qs := qs) (ord := ord) ht hi hp
    obtain ⟨ord', h2⟩ := visits0 ht k (i + 1) (upF ps 0 (i + 1)) (ord ++ [(n : Int)]) (upF_same _ _ _) (by omega)
    refine ⟨ord', ?_⟩
    rw [visits, h1]
    rw [if_neg (by simp), h2, upF_up, show i + 1 + k = i + (k + 1) by omega]
set_option maxRecDepth 100000 in
theorem TreeOk.len (ht : TreeOk rd data nums) (l : Nat) : (lev data.size)[l]? = nums[l]?.map List.length := by
  rw [← ht.lens, List.getElem?_map]
set_option maxRecDepth 100000 in
theorem getD_len {l : Nat} {L : List Nat} (h : nums[l]? = some L) : nums.getD l [] = L := by
  rw [List.getD_eq_getElem?_getD, h]
  rfl
set_option maxRecDepth 100000 in
/-- a node's group -/
theorem group_lt (ht : TreeOk rd data nums) (hd : data.size ≤ 16384) {l i n : Nat} (hi : (nums.getD (l + 1) [])[i]? = some n) : 60 * i < (nums.getD l []).length := by
  have h1 := getD_some hi rfl
  have h2 : nums[l]? = some (nums.getD l []) := by
    rw [List.getD_eq_getElem?_getD]
    have := (List.getElem?_eq_some_iff.1 h1).1
    rw [List.getElem?_eq_getElem (by omega)]
    rfl
  have h3 := ht.len l
  have h4 := ht.len (l + 1)
  rw [h2] at h3
  rw [h1] at h4
  have h5 := (lev_succ (by omega) h3 h4).1
  exact up_lt h5 (by decide) (List.getElem?_eq_some_iff.1 hi).1
set_option maxRecDepth 100000 in
theorem below_getD (l : Nat) {L : List Nat} (ht : TreeOk rd data nums) (h : nums[l]? = some L) : (stW data nums ch ps qs c ord).below.getD l 0 = L.length - qs l := by
  show ((lev data.size).mapIdx fun l n => n - qs l).getD l 0 = _
  rw [List.getD_eq_getElem?_getD, List.getElem?_mapIdx, ht.len, h]
  rfl
set_option maxRecDepth 100000 in
theorem below_set (l x : Nat) {L : List Nat} (ht : TreeOk rd data nums) (h : nums[l]? = some L) (y : Nat) (hy : y = L.length - x) :
    { (stW data nums ch ps qs c ord) with below := (stW data nums ch ps qs c ord).below.set l y } = stW data nums ch ps (upF qs l x) c ord := by
  have e : ((lev data.size).mapIdx fun l n => n - qs l).set l y = (lev data.size).mapIdx fun k n => n - upF qs l x k := by
    apply List.ext_getElem?
    intro k
    rw [List.getElem?_set, List.getElem?_mapIdx]
    by_cases hk : l = k
    · subst hk
      have h3 := ht.len l
      rw [h] at h3
      have hlt := (List.getElem?_eq_some_iff.1 h3).1
      rw [if_pos rfl, if_pos (by simpa using hlt), List.getElem?_mapIdx, h3, upF_same, hy]
      rfl
    · rw [if_neg hk, List.getElem?_mapIdx, upF_other _ _ (fun e => hk e.symm)]
  show (⟨_, _, _, _, ((lev data.size).mapIdx fun l n => n - qs l).set l y⟩ : Wk) = _
  rw [e]
  rfl
set_option maxRecDepth 100000 in
theorem grp_mem {L : List Nat} {i n : Nat} (h : n ∈ grp L i) : n ∈ L := List.mem_of_mem_drop (List.mem_of_mem_take h)
set_option maxRecDepth 100000 in
theorem grp_length (L : List Nat) (i : Nat) : (grp L i).length = min 60 (L.length - 60 * i) := by
  unfold grp
  rw [List.length_take, List.length_drop]
set_option maxRecDepth 100000 in
/-- a node is visited: its group is, with the state's counts turned -/
theorem node_stW (ht : TreeOk rd data nums) (hd : data.size ≤ 16384) {l i n : Nat} (hi : (nums.getD (l + 1) [])[i]? = some n) (hp : ps (l + 1) = i) (hq : qs l = 60 * i) :
    visit rd ch (l + 1) (stW data nums ch ps qs c ord) (n : Int) =
      visits (visit rd ch l) (ints (grp (nums.getD l []) i)) (stW data nums ch (upF ps (l + 1) (i + 1)) (upF qs l (min (nums.getD l []).length (60 * (i + 1)))) c (ord ++ [(n : Int)])) := by
  have hlt := group_lt ht hd hi
  have h2 : nums[l]? = some (nums.getD l []) := by
    rw [List.getD_eq_getElem?_getD]
    have := (List.getElem?_eq_some_iff.1 (getD_some hi rfl)).1
    rw [List.getElem?_eq_getElem (by omega)]
    rfl
  rw [visit, enter_stW (getD_some hi rfl) (by rw [hp]; exact hi), hp, ht.node l i n hi]
  unfold nodeW
  rw [if_neg (by simp), below_getD l ht h2, hq, if_neg (by
    simp only [ne_eq, Decidable.not_not]
    rw [enc4_size, grp_length]
    omega)]
  rw [below_set l (min (nums.getD l []).length (60 * (i + 1))) ht h2 _ (by omega)]
  rw [ptrs_enc fun m hm => by
    have := (ht.range m (getD_mem_flatten (grp_mem hm))).2
    omega]
set_option maxRecDepth 100000 in
theorem grp_eq {L : List Nat} {i : Nat} : grp L i = (L.drop (60 * i)).take (min L.length (60 * (i + 1)) - 60 * i) := by
  unfold grp
  rw [List.take_eq_take_iff, List.length_drop]
  omega
set_option maxRecDepth 100000 in
theorem visit1 (ht : TreeOk rd data nums) (hd : data.size ≤ 16384) {i n : Nat} (hi : (nums.getD 1 [])[i]? = some n) (hp : ps 1 = i) (h0 : ps 0 = 60 * i) (hq : qs 0 = 60 * i) :
    ∃ ord', visit rd ch 1 (stW data nums ch ps qs (60 * i) ord) (n : Int) =
      (stW data nums ch (upF (upF ps 1 (i + 1)) 0 (min (nums.getD 0 []).length (60 * (i + 1)))) (upF qs 0 (min (nums.getD 0 []).length (60 * (i + 1)))) (min (nums.getD 0 []).length (60 * (i + 1))) ord', 0) := by
  have hlt := group_lt ht hd hi
  rw [node_stW ht hd hi hp hq, grp_eq]
  obtain ⟨ord', h⟩ := visits0 (ch := ch) (qs := upF qs 0 (min (nums.getD 0 []).length (60 * (i + 1)))) ht (min (nums.getD 0 []).length (60 * (i + 1)) - 60 * i) (60 * i) (upF ps 1 (i + 1)) (ord ++ [(n : Int)]) (by rw [upF_other _ _ (by decide)]; exact h0) (by omega)
  refine ⟨ord', ?_⟩
  rw [h, show 60 * i + (min (nums.getD 0 []).length (60 * (i + 1)) - 60 * i) = min (nums.getD 0 []).length (60 * (i + 1)) by omega]
set_option maxRecDepth 100000 in
/-- how far the chunks are, behind so many nodes -/
theorem visits1 (ht : TreeOk rd data nums) (hd : data.size ≤ 16384) : ∀ (k i : Nat) (ps qs : Nat → Nat) (ord : List Int), ps 1 = i → ps 0 = min (nums.getD 0 []).length (60 * i) → qs 0 = min (nums.getD 0 []).length (60 * i) → i + k ≤ (nums.getD 1 []).length →
    ∃ ord' ps' qs', visits (visit rd ch 1) (ints (((nums.getD 1 []).drop i).take k)) (stW data nums ch ps qs (min (nums.getD 0 []).length (60 * i)) ord) = (stW data nums ch ps' qs' (min (nums.getD 0 []).length (60 * (i + k))) ord', 0) ∧ ps' 1 = i + k ∧ ps' 0 = min (nums.getD 0 []).length (60 * (i + k)) ∧ (∀ j, 2 ≤ j → ps' j = ps j)
  | 0, i, ps, qs, ord, hp, h0, hq, hk => ⟨ord, ps, qs, by rw [List.take_zero, Nat.add_zero]; exact (show visits (visit rd ch 1) [] _ = _ from by rw [visits]), hp, h0, fun _ _ => rfl⟩
  | k + 1, i, ps, qs, ord, hp, h0, hq, hk => by
    have hi : (nums.getD 1 [])[i]? = some ((nums.getD 1 [])[i]'(by omega)) := List.getElem?_eq_getElem (by omega)
    generalize (nums.getD 1 [])[i]'(by omega) = n at hi
    have hlt := group_lt ht hd hi
    have hm : min (nums.getD 0 []).length (60 * i) = 60 * i := by omega
    have hdr : (nums.getD 1 []).drop i = n :: (nums.getD 1 []).drop (i + 1) := by
      obtain ⟨h1, h2⟩ := List.getElem?_eq_some_iff.1 hi
      rw [List.drop_eq_getElem_cons h1, h2]
    rw [hdr, List.take_succ_cons, hm, ints_cons]
    rw [hm] at h0 hq
    obtain ⟨o1, h1⟩ := visit1 (ch := ch) (ord := ord) ht hd hi hp h0 hq
    obtain ⟨o2, ps', qs', h2, h3, h4, h5⟩ := visits1 ht hd k (i + 1) (upF (upF ps 1 (i + 1)) 0 (min (nums.getD 0 []).length (60 * (i + 1)))) (upF qs 0 (min (nums.getD 0 []).length (60 * (i + 1)))) o1
      (by rw [upF_other _ _ (by decide), upF_same]) (upF_same _ _ _) (upF_same _ _ _) (by omega)
    refine ⟨o2, ps', qs', ?_, by omega, by rw [h4, show i + 1 + k = i + (k + 1) by omega], fun j hj => by rw [h5 j hj, upF_other _ _ (by omega), upF_other _ _ (by omega)]⟩
    rw [visits, h1]
    rw [if_neg (by simp), h2, show i + 1 + k = i + (k + 1) by omega]
set_option maxRecDepth 100000 in
theorem stW_zero (ht : TreeOk rd data nums) : wk0 data.size = stW data nums ch (fun _ => 0) (fun _ => 0) 0 [] := by
  unfold wk0 stW
  have e1 : List.replicate (lev data.size).length ([] : List Int) = nums.mapIdx fun l L => ints (L.take 0) := by
    rw [← ht.lens, List.length_map]
    apply List.ext_getElem?
    intro k
    rw [List.getElem?_mapIdx, List.getElem?_replicate]
    split
    · rename_i h
      rw [List.getElem?_eq_getElem h]
      simp [ints]
    · rename_i h
      rw [List.getElem?_eq_none (by omega)]
      rfl
  have e2 : lev data.size = (lev data.size).mapIdx fun l n => n - 0 := by
    apply List.ext_getElem?
    intro k
    rw [List.getElem?_mapIdx]
    cases (lev data.size)[k]? <;> simp
  have e3 : (if ch = true then data.extract 0 (240 * 0) else ⟨#[]⟩) = (⟨#[]⟩ : ByteArray) := by
    split
    · apply ByteArray.ext
      rw [ByteArray.data_extract]
      simp
    · rfl
  rw [e1, ← e2, e3]
  simp
end
end Go.Proofs.YtajlfmnjibgbaaaGreatDoor.Tr
/- What is loaded and reached of a tree that lies in blocks, plain. -/
namespace Go.Proofs.YtajlfmnjibgbaaaGreatDoor.Tr
open Go
set_option maxRecDepth 100000 in
theorem flatten_set : ∀ (nums : List (List Int)) (l : Nat) (x : Int), l < nums.length → (nums.set l (nums.getD l [] ++ [x])).flatten.Perm (nums.flatten ++ [x])
  | [], l, x, h => by simp at h
  | L :: nums, 0, x, _ => by
    show ((L ++ [x]) ++ nums.flatten).Perm (L ++ nums.flatten ++ [x])
    rw [List.append_assoc, List.append_assoc]
    exact List.Perm.append_left L List.perm_append_comm
  | L :: nums, l + 1, x, h => by
    show (L ++ (nums.set l (nums.getD l [] ++ [x])).flatten).Perm (L ++ nums.flatten ++ [x])
    rw [List.append_assoc]
    exact List.Perm.append_left L (flatten_set nums l x (by simpa using h))
/-- a way goes on: what was met stands, in order and level by level -/
structure Grown (w w' : Wk) : Prop where
  len : w'.nums.length = w.nums.length
  perm : w.order.Perm w.nums.flatten → w'.order.Perm w'.nums.flatten
  more : ∃ t, w'.order = w.order ++ t
set_option maxRecDepth 100000 in
theorem Grown.refl (w : Wk) : Grown w w := ⟨rfl, id, [], by simp⟩
set_option maxRecDepth 100000 in
theorem Grown.trans {a b c : Wk} (h : Grown a b) (k : Grown b c) : Grown a c := by
  obtain ⟨t, ht⟩ := h.more
  obtain ⟨u, hu⟩ := k.more
  exact ⟨k.len.trans h.len, fun p => k.perm (h.perm p), t ++ u, by rw [hu, ht, List.append_assoc]⟩
set_option maxRecDepth 100000 in
theorem Grown.enter (w : Wk) (num : Int) {l : Nat} (hl : l < w.nums.length) : Grown w (w.enter num l) :=
  ⟨List.length_set, fun p => (List.Perm.append_right [num] p).trans (flatten_set w.nums l num hl).symm, [num], rfl⟩
set_option maxRecDepth 100000 in
theorem Grown.of {w w' : Wk} (h1 : w'.order = w.order) (h2 : w'.nums = w.nums) : Grown w w' := ⟨by rw [h2], fun p => by rw [h1, h2]; exact p, [], by rw [h1, List.append_nil]⟩
set_option maxRecDepth 100000 in
theorem chunkW_grown (rd : Rd) (ch : Bool) (w : Wk) (num : Int) : Grown w (chunkW rd ch w num).1 := by
  unfold chunkW
  split
  · exact Grown.of rfl rfl
  · unfold gotW
    split
    · exact Grown.of rfl rfl
    · split
      · exact Grown.of rfl rfl
      · exact Grown.of rfl rfl
set_option maxRecDepth 100000 in
theorem visits_grown {step : Wk → Int → Wk × Int} {K : Nat} (hs : ∀ w num, w.nums.length = K → Grown w (step w num).1) : ∀ (l : List Int) (w : Wk), w.nums.length = K → Grown w (visits step l w).1
  | [], w, _ => Grown.refl w
  | n :: l, w, hK => by
    unfold visits
    have h1 := hs w n hK
    split
    · exact h1
    · exact h1.trans (visits_grown hs l _ (h1.len.trans hK))
set_option maxRecDepth 100000 in
theorem visit_grown (rd : Rd) (ch : Bool) : ∀ (l : Nat) (w : Wk) (num : Int), l < w.nums.length → Grown (w.enter num l) (visit rd ch l w num).1
  | 0, w, num, _ => chunkW_grown rd ch _ num
  | l + 1, w, num, h => by
    unfold visit nodeW
    split
    · exact Grown.refl _
    · split
      · exact Grown.refl _
      · have h1 : Grown (w.enter num (l + 1)) { w.enter num (l + 1) with below := (w.enter num (l + 1)).below.set l ((w.enter num (l + 1)).below.getD l 0 - min ((w.enter num (l + 1)).below.getD l 0) 60) } := Grown.of rfl rfl
        refine h1.trans (visits_grown (K := w.nums.length) (fun w' n' h' => (Grown.enter w' n' (by omega)).trans (visit_grown rd ch l w' n' (by omega))) _ _ ?_)
        exact (Grown.enter w num h).len
section
variable {rd : Rd} {data : ByteArray} {nums : List (List Nat)} {ch : Bool}
/-- the root's number -/
def rootOf (nums : List (List Nat)) : Nat := (lastOf nums).getD 0 0
set_option maxRecDepth 100000 in
theorem len_one {L : List Nat} (h : L.length = 1) : ∃ r, L = [r] := by
  rcases L with _ | ⟨r, _ | ⟨x, L⟩⟩
  · simp at h
  · exact ⟨r, rfl⟩
  · simp at h
set_option maxRecDepth 100000 in
theorem through_ok (ht : TreeOk rd data nums) (hd : data.size ≤ 16384) (h0 : 0 < data.size) :
    ∃ ord ps qs, throughW rd ch (rootOf nums : Int) data.size = (stW data nums ch ps qs (nums.getD 0 []).length ord, 0) ∧ ∀ l, l < nums.length → ps l = (nums.getD l []).length := by
  have hlen : nums.length = (lev data.size).length := by rw [← ht.lens, List.length_map]
  have hz := stW_zero (ch := ch) ht
  have h3 := lev_len data.size
  unfold throughW
  rw [if_neg (by omega), ← hlen, hz]
  have last : ∀ {l : Nat} {L : List Nat}, nums[l]? = some L → nums[l + 1]? = none → L.length = 1 := fun {l L} h1 h2 => by
    have e1 := ht.len l
    have e2 := ht.len (l + 1)
    rw [h1] at e1
    rw [h2] at e2
    exact (lev_last (by omega) e1).1 e2
  have step : ∀ {l : Nat} {L M : List Nat}, nums[l]? = some L → nums[l + 1]? = some M → M.length = upN L.length 60 := fun {l L M} h1 h2 => by
    have e1 := ht.len l
    have e2 := ht.len (l + 1)
    rw [h1] at e1
    rw [h2] at e2
    exact (lev_succ (by omega) e1 e2).1
  rcases nums with _ | ⟨A, _ | ⟨B, _ | ⟨C, _ | ⟨D, rest⟩⟩⟩⟩
  · exfalso
    have := lev_nil.1 (List.length_eq_zero_iff.1 hlen.symm)
    omega
  · obtain ⟨r, rfl⟩ := len_one (last (l := 0) rfl rfl)
    refine ⟨_, _, _, visit0 ht (i := 0) rfl rfl, fun l hl => ?_⟩
    simp at hl
    subst hl
    rfl
  · obtain ⟨r, rfl⟩ := len_one (last (l := 1) rfl rfl)
    have h60 := step (l := 0) rfl rfl
    have h60' : A.length ≤ 60 := by simp [upN] at h60; omega
    obtain ⟨ord, h⟩ := visit1 (ch := ch) (ps := fun _ => 0) (qs := fun _ => 0) (ord := []) ht hd (i := 0) (n := r) rfl rfl rfl rfl
    rw [show min (List.getD [A, [r]] 0 []).length (60 * (0 + 1)) = A.length by show min A.length _ = _; omega] at h
    refine ⟨_, _, _, h, fun l hl => ?_⟩
    rcases l with _ | _ | l
    · rfl
    · rfl
    · simp only [List.length_cons, List.length_nil] at hl
      omega
  · obtain ⟨r, rfl⟩ := len_one (last (l := 2) rfl rfl)
    have h60 := step (l := 1) rfl rfl
    have hB : B.length ≤ 60 := by simp [upN] at h60; omega
    have hA := step (l := 0) rfl rfl
    have hA' : A.length ≤ 60 * B.length := by unfold upN at hA; omega
    have e := node_stW (ch := ch) (ps := fun _ => 0) (qs := fun _ => 0) (c := 0) (ord := []) ht hd (l := 1) (i := 0) (n := r) rfl rfl rfl
    obtain ⟨ord, ps, qs, h1, h2, h3, h4⟩ := visits1 (ch := ch) ht hd B.length 0 (upF (fun _ => 0) 2 1) (upF (fun _ => 0) 1 (min (List.getD [A, B, [r]] 1 []).length (60 * (0 + 1)))) [(r : Int)] rfl (by show 0 = min A.length (60 * 0); omega) (by show 0 = min A.length (60 * 0); omega) (by show 0 + B.length ≤ B.length; omega)
    rw [Nat.mul_zero, Nat.min_zero] at h1
    have eg : grp (List.getD [A, B, [r]] 1 []) 0 = ((List.getD [A, B, [r]] 1 []).drop 0).take B.length := by
      show (B.drop 0).take 60 = (B.drop 0).take B.length
      rw [List.drop_zero, List.take_of_length_le (by omega), List.take_of_length_le (Nat.le_refl _)]
    rw [eg] at e
    simp only [List.nil_append, Nat.reduceAdd, Nat.reduceMul, Nat.zero_add] at e h1 h2 h3
    have e5 : min (List.getD [A, B, [r]] 0 []).length (60 * B.length) = A.length := by show min A.length _ = _; omega
    rw [e5] at h1 h3
    refine ⟨ord, ps, qs, e.trans h1, fun l hl => ?_⟩
    rcases l with _ | _ | _ | l
    · rw [h3]
      rfl
    · rw [h2]
      rfl
    · rw [h4 2 (by omega)]
      rfl
    · simp only [List.length_cons, List.length_nil] at hl
      omega
  · simp at hlen
    omega
set_option maxRecDepth 100000 in
theorem stW_nums {ps qs : Nat → Nat} {c : Nat} {ord : List Int} (h : ∀ l, l < nums.length → ps l = (nums.getD l []).length) : (stW data nums ch ps qs c ord).nums = nums.map ints := by
  show (nums.mapIdx fun l L => ints (L.take (ps l))) = _
  apply List.ext_getElem?
  intro k
  rw [List.getElem?_mapIdx, List.getElem?_map]
  cases hk : nums[k]? with
  | none => rfl
  | some L =>
    have := h k (List.getElem?_eq_some_iff.1 hk).1
    rw [getD_len hk] at this
    rw [Option.map_some, Option.map_some, this, List.take_length]
/-- what is told of a tree that lies there -/
structure Told (rd : Rd) (data : ByteArray) (nums : List (List Nat)) (w : Wk) : Prop where
  nms : w.nums = nums.map ints
  perm : w.order.Perm (ints nums.flatten)
  head : 0 < data.size → ∃ t, w.order = (rootOf nums : Int) :: t
set_option maxRecDepth 100000 in
theorem flatten_ints (nums : List (List Nat)) : (nums.map ints).flatten = ints nums.flatten := by
  unfold ints
  rw [List.map_flatten]
set_option maxRecDepth 100000 in
theorem through_told (ht : TreeOk rd data nums) (hd : data.size ≤ 16384) : ∃ w, throughW rd ch (rootOf nums : Int) data.size = (w, 0) ∧ Told rd data nums w ∧ w.data = (if ch = true then data else ⟨#[]⟩) := by
  rcases Nat.eq_zero_or_pos data.size with h0 | h0
  · have hn : nums = [] := by
      have := ht.lens
      rw [h0] at this
      exact List.map_eq_nil_iff.1 this
    subst hn
    refine ⟨wk0 data.size, by unfold throughW; rw [if_pos h0], ⟨?_, ?_, fun h => by omega⟩, ?_⟩
    · rw [h0]; rfl
    · rw [h0]; exact List.Perm.refl _
    · show (⟨#[]⟩ : ByteArray) = _
      split
      · apply ByteArray.ext
        exact (Array.eq_empty_of_size_eq_zero h0).symm
      · rfl
  · obtain ⟨ord, ps, qs, h, hp⟩ := through_ok (ch := ch) ht hd h0
    have hnm := stW_nums (data := data) (ch := ch) (qs := qs) (c := (nums.getD 0 []).length) (ord := ord) hp
    refine ⟨_, h, ⟨hnm, ?_, fun _ => ?_⟩, ?_⟩
    · have hg : Grown ((wk0 data.size).enter (rootOf nums : Int) ((lev data.size).length - 1)) (throughW rd ch (rootOf nums : Int) data.size).1 := by
        unfold throughW
        rw [if_neg (by omega)]
        refine visit_grown rd ch _ _ _ ?_
        show _ < (List.replicate _ _).length
        rw [List.length_replicate]
        have : lev data.size ≠ [] := fun e => by have := lev_nil.1 e; omega
        have := List.length_pos_iff.2 this
        omega
      rw [h] at hg
      have hl : (lev data.size).length - 1 < (wk0 data.size).nums.length := by
        show _ < (List.replicate _ _).length
        rw [List.length_replicate]
        have : lev data.size ≠ [] := fun e => by have := lev_nil.1 e; omega
        have := List.length_pos_iff.2 this
        omega
      have := hg.perm ((Grown.enter (wk0 data.size) (rootOf nums : Int) hl).perm (by
        show ([] : List Int).Perm (List.replicate _ []).flatten
        rw [List.flatten_replicate_nil]))
      rw [hnm, flatten_ints] at this
      exact this
    · have hg : Grown ((wk0 data.size).enter (rootOf nums : Int) ((lev data.size).length - 1)) (throughW rd ch (rootOf nums : Int) data.size).1 := by
        unfold throughW
        rw [if_neg (by omega)]
        refine visit_grown rd ch _ _ _ ?_
        show _ < (List.replicate _ _).length
        rw [List.length_replicate]
        have : lev data.size ≠ [] := fun e => by have := lev_nil.1 e; omega
        have := List.length_pos_iff.2 this
        omega
      rw [h] at hg
      obtain ⟨t, ht2⟩ := hg.more
      exact ⟨t, ht2⟩
    · show (if ch = true then data.extract 0 (240 * (nums.getD 0 []).length) else ⟨#[]⟩) = _
      split
      · rw [ht.len0]
        exact extract_all _ (by unfold upN; omega)
      · rfl
set_option maxRecDepth 100000 in
theorem lastNow_mem : ∀ (nows : List (List Nat)) (P : List Nat), lastNow P nows ∈ P :: nows
  | [], P => by simp [lastNow]
  | n :: ns, P => List.mem_cons_of_mem _ (lastNow_mem ns n)
set_option maxRecDepth 100000 in
theorem root_mem (ht : TreeOk rd data nums) (hd : data.size ≤ 16384) (h0 : 0 < data.size) : rootOf nums ∈ nums.flatten := by
  cases nums with
  | nil =>
    have := lev_nil.1 ht.lens.symm
    omega
  | cons P nows =>
    have hm := lastNow_mem nows P
    obtain ⟨l, hl⟩ := List.mem_iff_getElem?.1 hm
    have h1 := ht.len l
    rw [hl] at h1
    have h2 := (lev_mem hd h1).1
    refine List.mem_flatten.2 ⟨_, hm, ?_⟩
    show (lastNow P nows).getD 0 0 ∈ _
    cases hL : lastNow P nows with
    | nil => rw [hL] at h2; simp at h2
    | cons x L => simp
set_option maxRecDepth 100000 in
theorem rootOf_zero (ht : TreeOk rd data nums) (hd : data.size ≤ 16384) : ((rootOf nums : Nat) : Int) = 0 ↔ (data.size : Int) = 0 := by
  constructor
  · intro h
    rcases Nat.eq_zero_or_pos data.size with h0 | h0
    · omega
    · have := (ht.range _ (root_mem ht hd h0)).1
      omega
  · intro h
    have hn : nums = [] := by
      have := ht.lens
      rw [show data.size = 0 by omega] at this
      exact List.map_eq_nil_iff.1 this
    subst hn
    rfl
set_option maxRecDepth 100000 in
theorem load_ok (ht : TreeOk rd data nums) (hd : data.size ≤ 16384) : loadV rd (rootOf nums : Int) (data.size : Int) = (data, 0) := by
  obtain ⟨w, h, _, h2⟩ := through_told (ch := true) ht hd
  unfold loadV
  rw [if_neg (by
    simp only [Classical.not_not]
    exact ⟨by omega, by omega, rootOf_zero ht hd⟩), show ((data.size : Int)).toNat = data.size by omega, h]
  rw [if_neg (by simp), h2, if_pos rfl]
end
end Go.Proofs.YtajlfmnjibgbaaaGreatDoor.Tr
/- What the tree's laws say of bytes stored, plain: how many blocks are taken. -/
namespace Go.Proofs.YtajlfmnjibgbaaaGreatDoor.Tr
open Go
set_option maxRecDepth 100000 in
theorem ints_inj {l r : List Nat} (h : ints l = ints r) : l = r := by
  have : (ints l).map Int.toNat = (ints r).map Int.toNat := by rw [h]
  unfold ints at this
  rw [List.map_map, List.map_map] at this
  have e : (Int.toNat ∘ Int.ofNat) = id := by funext n; rfl
  rw [e, List.map_id, List.map_id] at this
  exact this
set_option maxRecDepth 100000 in
theorem enc4_inj {l r : List Nat} (hl : ∀ n ∈ l, n < 65536) (hr : ∀ n ∈ r, n < 65536) (h : enc4 l = enc4 r) : l = r := by
  apply ints_inj
  rw [← ptrs_enc fun n hn => by have := hl n hn; omega, ← ptrs_enc fun n hn => by have := hr n hn; omega, h]
set_option maxRecDepth 100000 in
theorem nodup_le : ∀ {l r : List Nat}, l.Nodup → (∀ n ∈ l, n ∈ r) → l.length ≤ r.length
  | [], r, _, _ => Nat.zero_le _
  | n :: l, r, h, hs => by
    rw [List.nodup_cons] at h
    have hm : n ∈ r := hs n (by simp)
    have h1 : l.length ≤ (r.erase n).length := nodup_le h.2 fun m hm2 => by
      have hne : m ≠ n := fun e => h.1 (e ▸ hm2)
      exact (List.mem_erase_of_ne hne).2 (hs m (by simp [hm2]))
    rw [List.length_erase_of_mem hm] at h1
    have : 0 < r.length := List.length_pos_iff.2 (List.ne_nil_of_mem hm)
    simp only [List.length_cons]
    omega
section
variable {rd rd' : Rd} {had data : ByteArray} {was nums : List (List Nat)} {T : List Nat}
set_option maxRecDepth 100000 in
theorem TreeOk.count (h : TreeOk rd data nums) : nums.flatten.length = shapeN data.size := by
  rw [List.length_flatten, h.lens]
  rfl
/-! ### the same bytes -/
theorem countN_zero {keep : Nat → Option Nat} : ∀ {k i : Nat}, (∀ j, i ≤ j → j < i + k → keep j ≠ none) → countN keep k i = 0
  | 0, _, _ => rfl
  | k + 1, i, h => by
    unfold countN
    rw [if_neg (h i (by omega) (by omega)), countN_zero fun j h1 h2 => h j (by omega) (by omega)]
set_option maxRecDepth 100000 in
theorem countN_one {keep : Nat → Option Nat} {x : Nat} : ∀ {k i : Nat}, i ≤ x → x < i + k → keep x = none → (∀ j, i ≤ j → j < i + k → j ≠ x → keep j ≠ none) → countN keep k i = 1
  | 0, i, h1, h2, _, _ => by omega
  | k + 1, i, h1, h2, h3, h4 => by
    unfold countN
    by_cases hi : i = x
    · subst hi
      rw [if_pos h3, countN_zero fun j q1 q2 => h4 j (by omega) (by omega) (by omega)]
    · rw [if_neg (h4 i (by omega) (by omega) hi), countN_one (by omega) (by omega) h3 fun j q1 q2 q3 => h4 j (by omega) (by omega) q3]
set_option maxRecDepth 100000 in
theorem UpR.few {alike : Bool} {l : Nat} {ks P : List Nat} {nows : List (List Nat)} (h : UpR alike was l ks P rd rd' nows T) : T.length ≤ ks.sum := by
  induction h with
  | nil => exact Nat.zero_le _
  | @cons l k ks P rd rd1 rd2 news T1 T2 nows h r ih =>
    rw [List.length_append, List.sum_cons, h.tlen]
    have := countN_le (keepU alike P (was.getD (l - 1) []) (was.getD l [])) k 0
    omega
set_option maxRecDepth 100000 in
theorem keepU_yes {now wasL wasU : List Nat} {i : Nat} (hi : i < wasU.length) (he : enc4 (grp now i) = enc4 (grp wasL i)) : keepU true now wasL wasU i ≠ none := by
  unfold keepU
  rw [if_pos ⟨rfl, hi, he⟩]
  intro h
  cases h
set_option maxRecDepth 100000 in
/-- the levels above the same chunks are the same -/
theorem UpR.same {l : Nat} {ks P : List Nat} {nows : List (List Nat)} (h : UpR true was l ks P rd rd' nows T) (hl : 1 ≤ l) (hP : P = was.getD (l - 1) []) (hk : ∀ i, i < ks.length → ks[i]? = some (was.getD (l + i) []).length) : T = [] := by
  induction h with
  | nil => rfl
  | @cons l k ks P rd rd1 rd2 news T1 T2 nows h r ih =>
    have h0 := hk 0 (by simp)
    simp only [List.getElem?_cons_zero, Nat.add_zero, Option.some.injEq] at h0
    have c0 : ∀ j, j < k → keepU true P (was.getD (l - 1) []) (was.getD l []) j ≠ none := fun j hj => keepU_yes (by omega) (by rw [hP])
    have hT1 : T1 = [] := by
      apply List.length_eq_zero_iff.1
      rw [h.tlen]
      exact countN_zero fun j _ hj => c0 j (by omega)
    have hnews : news = was.getD l [] := by
      apply List.ext_getElem?
      intro i
      by_cases hi : i < k
      · have hi2 : i < news.length := by rw [h.len]; exact hi
        rcases h.each i _ (List.getElem?_eq_getElem hi2) with q | ⟨q, _, _⟩
        · rw [Nat.zero_add] at q
          rw [(keepU_mem q).2.1, List.getElem?_eq_getElem hi2]
        · rw [Nat.zero_add] at q
          exact absurd q (c0 i hi)
      · rw [List.getElem?_eq_none (by rw [h.len]; omega), List.getElem?_eq_none (by omega)]
    have hT2 := ih (by omega) (by rw [Nat.add_sub_cancel]; exact hnews) (fun i hi => by
      have := hk (i + 1) (by simp; omega)
      rw [List.getElem?_cons_succ] at this
      rw [this, show l + 1 + i = l + (i + 1) by omega])
    rw [hT1, hT2]
    rfl
/-- two rows that are others at one place alone -/
structure Diff (P L : List Nat) (j : Nat) : Prop where
  len : P.length = L.length
  lt : j < L.length
  ne : P[j]? ≠ L[j]?
  same : ∀ i, i ≠ j → P[i]? = L[i]?
set_option maxRecDepth 100000 in
theorem Diff.grp_ne {P L : List Nat} {j : Nat} (h : Diff P L j) : grp P (j / 60) ≠ grp L (j / 60) := fun e => by
  apply h.ne
  have g : ∀ M : List Nat, (grp M (j / 60))[j - 60 * (j / 60)]? = M[j]? := fun M => by
    unfold grp
    rw [List.getElem?_take_of_lt (by omega), List.getElem?_drop, show 60 * (j / 60) + (j - 60 * (j / 60)) = j by omega]
  rw [← g P, ← g L, e]
set_option maxRecDepth 100000 in
theorem Diff.grp_eq {P L : List Nat} {j i : Nat} (h : Diff P L j) (hi : i ≠ j / 60) : grp P i = grp L i := by
  apply List.ext_getElem?
  intro x
  unfold grp
  by_cases hx : x < 60
  · rw [List.getElem?_take_of_lt hx, List.getElem?_take_of_lt hx, List.getElem?_drop, List.getElem?_drop]
    exact h.same _ (by omega)
  · rw [List.getElem?_take_eq_none (by omega), List.getElem?_take_eq_none (by omega)]
set_option maxRecDepth 100000 in
theorem keepU_no {now wasL wasU : List Nat} {i : Nat} (he : enc4 (grp now i) ≠ enc4 (grp wasL i)) : keepU true now wasL wasU i = none := by
  unfold keepU
  rw [if_neg fun h => he h.2.2]
set_option maxRecDepth 100000 in
/-- one block of each level above is another one -/
theorem UpR.one {l : Nat} {ks P : List Nat} {nows : List (List Nat)} {j : Nat} (h : UpR true was l ks P rd rd' nows T) (hl : 1 ≤ l) (hP : Diff P (was.getD (l - 1) []) j)
    (hk : ∀ i, i < ks.length → ks[i]? = some (was.getD (l + i) []).length) (hu : ∀ i, l ≤ i → i < l + ks.length → (was.getD i []).length = upN (was.getD (i - 1) []).length 60)
    (hT : ∀ n ∈ T, n ∉ was.flatten) (hr : ∀ n ∈ T, n < 65536) (hw : ∀ n ∈ was.flatten, n < 65536) (hPr : ∀ n ∈ P, n < 65536) : T.length = ks.length := by
  induction h generalizing j with
  | nil => rfl
  | @cons l k ks P rd rd1 rd2 news T1 T2 nows h r ih =>
    have h0 := hk 0 (by simp)
    simp only [List.getElem?_cons_zero, Nat.add_zero, Option.some.injEq] at h0
    have hup := hu l (Nat.le_refl _) (by simp)
    have hjk : j / 60 < k := by
      have := hP.lt
      rw [h0, hup]
      unfold upN
      omega
    have hLr : ∀ n ∈ was.getD (l - 1) [], n < 65536 := fun n hn => hw n (getD_mem_flatten hn)
    have kn : keepU true P (was.getD (l - 1) []) (was.getD l []) (j / 60) = none := keepU_no fun e => hP.grp_ne (enc4_inj (fun n hn => hPr n (grp_mem hn)) (fun n hn => hLr n (grp_mem hn)) e)
    have ky : ∀ i, i < k → i ≠ j / 60 → keepU true P (was.getD (l - 1) []) (was.getD l []) i ≠ none := fun i hi hne => keepU_yes (by omega) (by rw [hP.grp_eq hne])
    have hT1 : T1.length = 1 := by
      rw [h.tlen]
      exact countN_one (x := j / 60) (Nat.zero_le _) (by omega) kn fun i _ hi hne => ky i (by omega) hne
    have hD : Diff news (was.getD l []) (j / 60) := by
      refine ⟨by rw [h.len, h0], by omega, fun e => ?_, fun i hi => ?_⟩
      · have hi2 : j / 60 < news.length := by rw [h.len]; exact hjk
        rcases h.each _ _ (List.getElem?_eq_getElem hi2) with q | ⟨_, q, _⟩
        · rw [Nat.zero_add, kn] at q
          cases q
        · rw [List.getElem?_eq_getElem hi2] at e
          exact hT _ (List.mem_append_left _ q) (getD_mem_flatten (List.mem_of_getElem? e.symm))
      · by_cases hik : i < k
        · have hi2 : i < news.length := by rw [h.len]; exact hik
          rcases h.each i _ (List.getElem?_eq_getElem hi2) with q | ⟨q, _, _⟩
          · rw [Nat.zero_add] at q
            rw [(keepU_mem q).2.1, List.getElem?_eq_getElem hi2]
          · rw [Nat.zero_add] at q
            exact absurd q (ky i hik hi)
        · rw [List.getElem?_eq_none (by rw [h.len]; omega), List.getElem?_eq_none (by omega)]
    have hnr : ∀ n ∈ news, n < 65536 := fun n hn => by
      obtain ⟨i, hi⟩ := List.mem_iff_getElem?.1 hn
      rcases h.each i n hi with q | ⟨_, q, _⟩
      · exact hw n (getD_mem_flatten (List.mem_of_getElem? (keepU_mem q).2.1))
      · exact hr n (List.mem_append_left _ q)
    have := ih (j := j / 60) (by omega) (by rw [Nat.add_sub_cancel]; exact hD) (fun i hi => by
      have := hk (i + 1) (by simp; omega)
      rw [List.getElem?_cons_succ] at this
      rw [this, show l + 1 + i = l + (i + 1) by omega]) (fun i h1 h2 => hu i (by omega) (by simp; omega)) (fun n hn => hT n (List.mem_append_right _ hn)) (fun n hn => hr n (List.mem_append_right _ hn)) hnr
    rw [List.length_append, hT1, this, List.length_cons]
    omega
/-! ### the laws' own -/
theorem TreeOk.level (h : TreeOk rd data nums) (l : Nat) (hl : l < (lev data.size).length) : (lev data.size)[l]? = some (nums.getD l []).length := by
  have h1 := h.len l
  have h2 : l < nums.length := by rw [← h.lens, List.length_map] at hl; exact hl
  rw [List.getElem?_eq_getElem h2] at h1
  rw [h1, List.getD_eq_getElem?_getD, List.getElem?_eq_getElem h2]
  rfl
set_option maxRecDepth 100000 in
theorem TreeOk.length (h : TreeOk rd data nums) : nums.length = (lev data.size).length := by rw [← h.lens, List.length_map]
end
end Go.Proofs.YtajlfmnjibgbaaaGreatDoor.Tr
/- What the tree's laws count, plain: blocks that two ways share; a byte that is another one. -/
namespace Go.Proofs.YtajlfmnjibgbaaaGreatDoor.Tr
open Go
section
variable {rd rd' : Rd} {had data : ByteArray} {was nums : List (List Nat)} {T : List Nat} {l old : List Int}
end
end Go.Proofs.YtajlfmnjibgbaaaGreatDoor.Tr

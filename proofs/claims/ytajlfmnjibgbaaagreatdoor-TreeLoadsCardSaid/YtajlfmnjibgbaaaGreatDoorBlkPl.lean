/- A ring of blocks: what comes behind each, and what ahead. Plain. -/
import Derived.Lib.Strings
import Derived.Test.YtajlfmnjibgbaaaGreatDoorNvPl
import Derived.Test.YtajlfmnjibgbaaaGreatDoorSipPl
namespace Go.Proofs.YtajlfmnjibgbaaaGreatDoor.Vl
def upd {α : Type} (f : Nat → α) (a : Nat) (x : α) : Nat → α := fun i => if i = a then x else f i
set_option maxRecDepth 100000 in
theorem upd_same {α : Type} (f : Nat → α) (a : Nat) (x : α) : upd f a x a = x := if_pos rfl
set_option maxRecDepth 100000 in
theorem upd_other {α : Type} (f : Nat → α) {a i : Nat} (x : α) (h : i ≠ a) : upd f a x i = f i := if_neg h
set_option maxRecDepth 100000 in
theorem map_upd {α : Type} (f : Nat → α) {a : Nat} (x : α) {l : List Nat} (h : a ∉ l) : l.map (upd f a x) = l.map f :=
  List.map_congr_left fun _ hi => upd_other f x (fun e => h (e ▸ hi))
structure Ring (r : Nat) (es : List Nat) (P N : Nat → Nat) : Prop where
  n : (r :: es).map N = es ++ [r]
  p : (es ++ [r]).map P = r :: es
  nodup : (r :: es).Nodup
section
variable {r x : Nat} {es A B : List Nat} {P N : Nat → Nat}
set_option maxRecDepth 100000 in
theorem Ring.one (r : Nat) : Ring r [] (fun _ => r) (fun _ => r) := ⟨rfl, rfl, by simp⟩
set_option maxRecDepth 100000 in
theorem snoc_of (r : Nat) : ∀ A : List Nat, ∃ A' a, r :: A = A' ++ [a]
  | [] => ⟨[], r, rfl⟩
  | b :: A => by
    obtain ⟨A', a, h⟩ := snoc_of b A
    exact ⟨r :: A', a, by rw [h]; rfl⟩
set_option maxRecDepth 100000 in
theorem cons_of (r : Nat) : ∀ B : List Nat, ∃ b B', B ++ [r] = b :: B'
  | [] => ⟨r, [], rfl⟩
  | b :: B => ⟨b, B ++ [r], rfl⟩
set_option maxRecDepth 100000 in
/-- what stands beside one -/
theorem Ring.beside (h : Ring r (A ++ x :: B) P N) : ∃ A' a b B', r :: A = A' ++ [a] ∧ B ++ [r] = b :: B' ∧ A'.map N = A ∧ N a = x ∧ N x = b ∧ B.map N = B' ∧ A.map P = A' ∧ P x = a ∧ P b = x ∧ B'.map P = B := by
  obtain ⟨A', a, hA⟩ := snoc_of r A
  obtain ⟨b, B', hB⟩ := cons_of r B
  have l1 : A'.length = A.length := by
    have := congrArg List.length hA
    simp at this
    omega
  have h1 : ((r :: A) ++ x :: B).map N = (A ++ [x]) ++ (B ++ [r]) := by simpa using h.n
  rw [hA, hB] at h1
  have h2 : (A'.map N ++ [N a]) ++ (N x :: B.map N) = (A ++ [x]) ++ (b :: B') := by simpa using h1
  obtain ⟨h3, h4⟩ := List.append_inj h2 (by simp [l1])
  obtain ⟨h5, h6⟩ := List.append_inj h3 (by simp [l1])
  injection h4 with h7 h8
  injection h6 with h9
  have k1 : (A ++ x :: (B ++ [r])).map P = (r :: A) ++ x :: B := by simpa using h.p
  rw [hA, hB] at k1
  have k2 : (A.map P ++ [P x]) ++ (P b :: B'.map P) = (A' ++ [a]) ++ (x :: B) := by simpa using k1
  obtain ⟨k3, k4⟩ := List.append_inj k2 (by simp [l1])
  obtain ⟨k5, k6⟩ := List.append_inj k3 (by simp [l1])
  injection k4 with k7 k8
  injection k6 with k9
  exact ⟨A', a, b, B', hA, hB, h5, h9, h7, h8, k5, k9, k7, k8⟩
set_option maxRecDepth 100000 in
theorem Ring.mem (h : Ring r (A ++ x :: B) P N) : P x ∈ r :: (A ++ B) ∧ N x ∈ r :: (A ++ B) := by
  obtain ⟨A', a, b, B', hA, hB, _, _, h3, _, _, h6, _⟩ := h.beside
  rw [h3, h6]
  constructor
  · have : a ∈ r :: A := by rw [hA]; simp
    simp at this ⊢
    rcases this with h | h
    · exact Or.inl h
    · exact Or.inr (Or.inl h)
  · have : b ∈ B ++ [r] := by rw [hB]; simp
    simp at this ⊢
    rcases this with h | h
    · exact Or.inr (Or.inr h)
    · exact Or.inl h
set_option maxRecDepth 100000 in
/-- one is taken out -/
theorem Ring.out (h : Ring r (A ++ x :: B) P N) : Ring r (A ++ B) (upd P (N x) (P x)) (upd N (P x) (N x)) := by
  obtain ⟨A', a, b, B', hA, hB, e1, e2, e3, e4, e5, e6, e7, e8⟩ := h.beside
  have hnd := h.nodup
  rw [e3, e6]
  have nd1 : (A' ++ [a] ++ x :: B).Nodup := by rw [← hA]; simpa using hnd
  have nd2 : (A ++ x :: (b :: B')).Nodup := by
    rw [← hB]
    have h1 : (r :: (A ++ x :: B)).Perm (A ++ x :: (B ++ [r])) := by
      have : A ++ x :: (B ++ [r]) = (A ++ x :: B) ++ [r] := by simp
      rw [this]
      exact (List.perm_append_singleton r _).symm
    exact h1.nodup_iff.1 hnd
  refine ⟨?_, ?_, ?_⟩
  · have ha1 : a ∉ A' := fun hm => by
      have h1 := (List.nodup_append.1 (List.nodup_append.1 nd1).1).2.2 a hm a (by simp)
      exact h1 rfl
    have ha2 : a ∉ B := fun hm => (List.nodup_append.1 nd1).2.2 a (by simp) a (List.mem_cons_of_mem _ hm) rfl
    have e : r :: (A ++ B) = A' ++ (a :: B) := by
      rw [← List.cons_append, hA, List.append_assoc]
      rfl
    have e' : (A ++ B) ++ [r] = A ++ (b :: B') := by rw [List.append_assoc, hB]
    rw [e, e', List.map_append, List.map_cons, upd_same, map_upd _ _ ha1, map_upd _ _ ha2, e1, e4]
  · have hb1 : b ∉ A := fun hm => (List.nodup_append.1 nd2).2.2 b hm b (by simp) rfl
    have hb2 : b ∉ B' := fun hm => by
      have h1 := (List.nodup_append.1 nd2).2.1
      exact (List.nodup_cons.1 (List.nodup_cons.1 h1).2).1 hm
    have e : r :: (A ++ B) = A' ++ (a :: B) := by
      rw [← List.cons_append, hA, List.append_assoc]
      rfl
    have e' : (A ++ B) ++ [r] = A ++ (b :: B') := by rw [List.append_assoc, hB]
    rw [e, e', List.map_append, List.map_cons, upd_same, map_upd _ _ hb1, map_upd _ _ hb2, e5, e8]
  · refine hnd.sublist ?_
    exact List.Sublist.cons_cons r (List.Sublist.append_left (List.sublist_cons_self x B) A)
set_option maxRecDepth 100000 in
/-- one comes first -/
theorem Ring.first (h : Ring r es P N) (hx : x ∉ r :: es) : Ring r (x :: es) (upd (upd P x r) (N r) x) (upd (upd N x (N r)) r x) := by
  obtain ⟨c, C, hc⟩ := cons_of r es
  have h1 := h.n
  have h2 := h.p
  have hnd := h.nodup
  rw [hc] at h1 h2
  rw [List.map_cons] at h1 h2
  injection h1 with h3 h4
  injection h2 with h5 h6
  have hxr : x ≠ r := fun e => hx (by rw [e]; simp)
  have hxe : x ∉ es := fun e => hx (List.mem_cons_of_mem _ e)
  have ndc : (c :: C).Nodup := by
    rw [← hc]
    exact (List.perm_append_singleton r es).symm.nodup_iff.1 hnd
  have hxc : x ∉ c :: C := by rw [← hc]; intro hm; simp at hm; rcases hm with h | h; exact hxe h; exact hxr h
  rw [h3]
  refine ⟨?_, ?_, ?_⟩
  · rw [List.map_cons, upd_same, List.map_cons, upd_other _ _ hxr, upd_same, map_upd _ _ (fun hm => (List.nodup_cons.1 hnd).1 hm), map_upd _ _ hxe, h4, List.cons_append, hc]
  · rw [List.cons_append, hc, List.map_cons, upd_other _ _ (fun e => hxc (by rw [e]; simp)), upd_same, List.map_cons, upd_same, map_upd _ _ (List.nodup_cons.1 ndc).1, map_upd _ _ (fun hm => hxc (List.mem_cons_of_mem _ hm)), h6]
  · refine List.nodup_cons.2 ⟨?_, List.nodup_cons.2 ⟨hxe, (List.nodup_cons.1 hnd).2⟩⟩
    intro hm
    rcases List.mem_cons.1 hm with e | e
    · exact hxr e.symm
    · exact (List.nodup_cons.1 hnd).1 e
set_option maxRecDepth 100000 in
/-- the last one -/
theorem Ring.last (h : Ring r (A ++ [x]) P N) : P r = x := by
  obtain ⟨A', a, b, B', hA, hB, e1, e2, e3, e4, e5, e6, e7, e8⟩ := h.beside
  have : b = r := by
    have := congrArg List.head? hB
    simpa using this.symm
  rw [← this]
  exact e7
set_option maxRecDepth 100000 in
theorem Ring.next (h : Ring r es P N) {i g : Nat} (hi : (r :: es)[i]? = some g) : (es ++ [r])[i]? = some (N g) := by
  rw [← h.n, List.getElem?_map, hi]
  rfl
end
end Go.Proofs.YtajlfmnjibgbaaaGreatDoor.Vl
/- A volume's blocks and its root in plain Lean: what each call makes of it and of its disk. No condition. -/
namespace Go.Proofs.YtajlfmnjibgbaaaGreatDoor.Vl
open Disk Nv

/-- the key of all sums -/
def keyB : ByteArray := ⟨#[115, 116, 105, 108, 108, 97, 103, 101, 32, 118, 111, 108, 117, 109, 101, 33]⟩
def sumB (s : ByteArray) : ByteArray := ⟨(Sip.sum keyB.data.toList s.data.toList).toArray⟩
/-- bytes, noughts up to a length, the sum -/
def sealB (s : ByteArray) (n : Nat) : ByteArray := (s ++ noughts (n - s.size)) ++ sumB (s ++ noughts (n - s.size))
def frameB (p : ByteArray) : ByteArray := sealB (num p.size 2 ++ p) 248
def frameV (p : ByteArray) : ByteArray × Int := if 240 < p.size then (⟨#[]⟩, 83) else (frameB p, 0)
def lenB (s : ByteArray) : Nat := val (s.extract 0 2)
def unframeV (s : ByteArray) : ByteArray × Int :=
  if s.size ≠ 256 then (⟨#[]⟩, 82) else if 240 < lenB s then (⟨#[]⟩, 82) else if frameB (s.extract 2 (2 + lenB s)) = s then (s.extract 2 (2 + lenB s), 0) else (⟨#[]⟩, 82)
def headR (text : ByteArray) (n : Nat) : ByteArray := (⟨#[82, 84]⟩ ++ num n 6) ++ ⟨#[UInt8.ofNat text.size]⟩
/-- a root's sector -/
def rootB (text : ByteArray) (n : Nat) : ByteArray := sealB (headR text n ++ text) 56
/-- a volume: its root, the root's number, what is kept (used last first), is the power gone? -/
structure Vo where
  text : ByteArray
  num : Nat
  L : List (Nat × ByteArray)
  dead : Bool
def tellV (v : Vo) (e : Int) : Vo := { v with dead := v.dead || e == 2 }
def dropK (L : List (Nat × ByteArray)) (k : Nat) : List (Nat × ByteArray) := L.filter fun p => p.1 ≠ k
def touchK (L : List (Nat × ByteArray)) (k : Nat) (s : ByteArray) : List (Nat × ByteArray) := (k, s) :: dropK L k
def putK (L : List (Nat × ByteArray)) (k : Nat) (s : ByteArray) : List (Nat × ByteArray) := (touchK L k s).take 32
def blocksD (d : Dk) : Nat := d.stays.length / 4
def mayV (d : Dk) (n : Int) : Prop := 1 ≤ n ∧ n < (blocksD d : Int)
instance (d : Dk) (n : Int) : Decidable (mayV d n) := inferInstanceAs (Decidable (_ ∧ _))
/-- a root is written, and synced -/
def keepsS (v : Vo) (text : ByteArray) (n : Nat) (s : Dk × Int) : Vo × Dk × Int := if s.2 ≠ 0 then (tellV v s.2, s) else (⟨text, n, v.L, v.dead⟩, s)
def keepsW (v : Vo) (text : ByteArray) (n : Nat) (x : Dk × Int) : Vo × Dk × Int := if x.2 ≠ 0 then (tellV v x.2, x) else keepsS v text n (syncD x.1)
def keepsV (v : Vo) (d : Dk) (text : ByteArray) (n : Nat) : Vo × Dk × Int := keepsW v text n (writeD d ((n % 2 : Nat) : Int) (rootB text n))
def readU (v : Vo) (n : Nat) (u : ByteArray × Int) : Vo × ByteArray × Int := if u.2 ≠ 0 then (v, ⟨#[]⟩, u.2) else ({ v with L := putK v.L n u.1 }, u.1, 0)
def readG (v : Vo) (n : Nat) (g : ByteArray × Int) : Vo × ByteArray × Int := if g.2 ≠ 0 then (tellV v g.2, ⟨#[]⟩, g.2) else readU v n (unframeV g.1)
def readF (v : Vo) (d : Dk) (n : Nat) : Option ByteArray → Vo × ByteArray × Int
  | some s => ({ v with L := touchK v.L n s }, s, 0)
  | none => readG v n (collectD d (4 * n) 4 0 ⟨#[]⟩)
def readV (v : Vo) (d : Dk) (n : Int) : Vo × ByteArray × Int :=
  if ¬ mayV d n then (v, ⟨#[]⟩, 81) else if v.dead = true then (v, ⟨#[]⟩, 2) else readF v d n.toNat (find v.L n.toNat)
/-- a block's sectors are written -/
def wloopV (v : Vo) (s : ByteArray) (n : Nat) : Nat → Nat → Dk → Vo × Dk × Int
  | 0, _, d => (v, d, 0)
  | k + 1, i, d => if (writeD d ((4 * n + i : Nat) : Int) (s.extract (64 * i) (64 * i + 64))).2 ≠ 0 then ({ tellV v (writeD d ((4 * n + i : Nat) : Int) (s.extract (64 * i) (64 * i + 64))).2 with L := dropK v.L n }, writeD d ((4 * n + i : Nat) : Int) (s.extract (64 * i) (64 * i + 64)))
    else wloopV v s n k (i + 1) (writeD d ((4 * n + i : Nat) : Int) (s.extract (64 * i) (64 * i + 64))).1
def writeX (n : Nat) (p : ByteArray) (x : Vo × Dk × Int) : Vo × Dk × Int := if x.2.2 ≠ 0 then x else ({ x.1 with L := putK x.1.L n p }, x.2)
def writeV (v : Vo) (d : Dk) (n : Int) (p : ByteArray) : Vo × Dk × Int :=
  if ¬ mayV d n then (v, d, 81) else if 240 < p.size then (v, d, 83) else if v.dead = true then (v, d, 2) else writeX n.toNat p (wloopV v (frameB p) n.toNat 4 0 d)
def goodD (d : Dk) : Prop := 8 ≤ blocksD d ∧ blocksD d ≤ 4096
instance (d : Dk) : Decidable (goodD d) := inferInstanceAs (Decidable (_ ∧ _))
def newV : Vo := ⟨⟨#[]⟩, 0, [], false⟩
def formatW (text : ByteArray) (x : Dk × Int) : Vo × Dk × Int := if x.2 ≠ 0 then (newV, x) else keepsV newV x.1 text 1
def formatV (d : Dk) (text : ByteArray) : Vo × Dk × Int :=
  if ¬ goodD d then (newV, d, 80) else if 40 < text.size then (newV, d, 83) else formatW text (writeD d 0 (noughts 64))

/-- what holds of what is kept -/
structure Kf (L : List (Nat × ByteArray)) : Prop where
  apart : L.Pairwise fun p q => p.1 ≠ q.1
  few : L.length ≤ 32
set_option maxRecDepth 100000 in
theorem Kf.nil : Kf [] := ⟨List.Pairwise.nil, Nat.zero_le _⟩
section
variable {L : List (Nat × ByteArray)} {k : Nat} {s : ByteArray}
set_option maxRecDepth 100000 in
theorem dropK_mem {p : Nat × ByteArray} : p ∈ dropK L k ↔ p ∈ L ∧ p.1 ≠ k := by unfold dropK; simp
set_option maxRecDepth 100000 in
theorem dropK_none (h : find L k = none) : dropK L k = L := by
  unfold dropK
  refine List.filter_eq_self.2 fun p hp => ?_
  have := find_none h p hp
  simpa using this
set_option maxRecDepth 100000 in
theorem Kf.drop (h : Kf L) (k : Nat) : Kf (dropK L k) := ⟨h.apart.filter _, Nat.le_trans (List.length_filter_le _ _) h.few⟩
set_option maxRecDepth 100000 in
theorem touch_apart (h : Kf L) (k : Nat) (s : ByteArray) : (touchK L k s).Pairwise fun p q => p.1 ≠ q.1 :=
  List.pairwise_cons.2 ⟨fun _ hq => fun e => (dropK_mem.1 hq).2 e.symm, (h.drop k).apart⟩
set_option maxRecDepth 100000 in
/-- where one stands -/
theorem find_split : ∀ {L : List (Nat × ByteArray)}, L.Pairwise (fun p q => p.1 ≠ q.1) → find L k = some s → ∃ A B, L = A ++ (k, s) :: B ∧ dropK L k = A ++ B
  | [], _, h => by cases h
  | p :: L, ha, h => by
    obtain ⟨h1, h2⟩ := List.pairwise_cons.1 ha
    rw [find_cons] at h
    by_cases e : p.1 = k
    · rw [if_pos e] at h
      injection h with h
      obtain ⟨a, b⟩ := p
      simp only at e h
      subst e h
      refine ⟨[], L, rfl, ?_⟩
      unfold dropK
      rw [List.filter_cons_of_neg (by simp)]
      exact List.filter_eq_self.2 fun q hq => by
        have := h1 q hq
        simp only [ne_eq, decide_eq_true_eq]
        exact fun e => this e.symm
    · rw [if_neg e] at h
      obtain ⟨A, B, rfl, h3⟩ := find_split h2 h
      refine ⟨p :: A, B, rfl, ?_⟩
      unfold dropK at h3 ⊢
      rw [List.filter_cons_of_pos (by simpa using e), h3]
      rfl
set_option maxRecDepth 100000 in
theorem Kf.touch (h : Kf L) (hf : find L k = some s) : Kf (touchK L k s) := by
  refine ⟨touch_apart h k s, ?_⟩
  obtain ⟨A, B, h1, h2⟩ := find_split h.apart hf
  have := h.few
  unfold touchK
  rw [h1, List.length_append, List.length_cons] at this
  rw [h2, List.length_cons, List.length_append]
  omega
set_option maxRecDepth 100000 in
theorem Kf.put (h : Kf L) (k : Nat) (s : ByteArray) : Kf (putK L k s) := ⟨(touch_apart h k s).sublist (List.take_sublist _ _), by unfold putK; rw [List.length_take]; omega⟩
set_option maxRecDepth 100000 in
theorem putK_same (h : Kf L) {t : ByteArray} (hf : find L k = some t) : putK L k s = touchK L k s := by
  obtain ⟨A, B, h1, h2⟩ := find_split h.apart hf
  have := h.few
  unfold putK touchK
  refine List.take_of_length_le ?_
  rw [h1, List.length_append, List.length_cons] at this
  rw [h2, List.length_cons, List.length_append]
  omega
set_option maxRecDepth 100000 in
theorem find_dropK (L : List (Nat × ByteArray)) (k m : Nat) : find (dropK L k) m = if m = k then none else find L m := by
  induction L with
  | nil => by_cases e : m = k <;> simp [e, dropK, find]
  | cons p L ih =>
    unfold dropK at ih ⊢
    by_cases hp : p.1 = k
    · rw [List.filter_cons_of_neg (by simpa using hp), ih, find_cons]
      by_cases e : m = k
      · rw [if_pos e, if_pos e]
      · rw [if_neg e, if_neg e, if_neg (fun e2 => e (e2.symm.trans hp))]
    · rw [List.filter_cons_of_pos (by simpa using hp), find_cons, ih, find_cons]
      by_cases e : p.1 = m
      · rw [if_pos e, if_pos e, if_neg (fun e2 => hp (e.trans e2))]
      · rw [if_neg e, if_neg e]
set_option maxRecDepth 100000 in
theorem find_touch (L : List (Nat × ByteArray)) (k m : Nat) (s : ByteArray) : find (touchK L k s) m = if m = k then some s else find L m := by
  unfold touchK
  rw [find_cons, find_dropK]
  by_cases e : m = k
  · rw [if_pos e.symm, if_pos e]
  · rw [if_neg (fun e2 => e e2.symm), if_neg e, if_neg e]
set_option maxRecDepth 100000 in
theorem find_take : ∀ (n : Nat) (L : List (Nat × ByteArray)) (m : Nat) (t : ByteArray), find (L.take n) m = some t → find L m = some t
  | 0, _, _, _, h => by cases h
  | n + 1, [], _, _, h => by cases h
  | n + 1, p :: L, m, t, h => by
    rw [List.take_succ_cons, find_cons] at h
    rw [find_cons]
    split
    · next e => rwa [if_pos e] at h
    · next e => rw [if_neg e] at h; exact find_take n L m t h
set_option maxRecDepth 100000 in
theorem find_put {m : Nat} {t : ByteArray} (h : find (putK L k s) m = some t) : (m = k ∧ t = s) ∨ (m ≠ k ∧ find L m = some t) := by
  have h1 := find_take 32 _ m t h
  rw [find_touch] at h1
  by_cases e : m = k
  · rw [if_pos e] at h1
    injection h1 with h1
    exact Or.inl ⟨e, h1.symm⟩
  · rw [if_neg e] at h1
    exact Or.inr ⟨e, h1⟩
end
set_option maxRecDepth 100000 in
theorem sealB_size {s : ByteArray} {n : Nat} (h : s.size ≤ n) : (sealB s n).size = n + 8 := by
  unfold sealB
  rw [ByteArray.size_append, ByteArray.size_append, noughts_size]
  have : (sumB (s ++ noughts (n - s.size))).size = 8 := by
    show (Sip.sum _ _).toArray.size = 8
    rw [List.size_toArray]
    exact Sip.sum_length _ _
  omega
set_option maxRecDepth 100000 in
theorem frameB_size {p : ByteArray} (h : p.size ≤ 240) : (frameB p).size = 256 := by
  unfold frameB
  rw [sealB_size]
  rw [ByteArray.size_append, num_size]
  omega
set_option maxRecDepth 100000 in
theorem headR_size (t : ByteArray) (n : Nat) : (headR t n).size = 9 := by
  unfold headR
  rw [ByteArray.size_append, ByteArray.size_append, num_size]
  rfl
set_option maxRecDepth 100000 in
theorem rootB_size {t : ByteArray} (h : t.size ≤ 40) (n : Nat) : (rootB t n).size = 64 := by
  unfold rootB
  rw [sealB_size]
  rw [ByteArray.size_append, headR_size]
  omega
set_option maxRecDepth 100000 in
theorem tellV_zero (v : Vo) : tellV v 0 = v := by
  unfold tellV
  rw [show ((0 : Int) == 2) = false from rfl, Bool.or_false]
end Go.Proofs.YtajlfmnjibgbaaaGreatDoor.Vl
/- Payloads and their blocks, roots and their sectors: there and back. Plain. -/
namespace Go.Proofs.YtajlfmnjibgbaaaGreatDoor.Vl
open Disk Nv
set_option maxRecDepth 100000 in
theorem frame_parts (p : ByteArray) : ∃ Z, frameB p = num p.size 2 ++ (p ++ Z) := ⟨noughts (248 - (num p.size 2 ++ p).size) ++ sumB ((num p.size 2 ++ p) ++ noughts (248 - (num p.size 2 ++ p).size)), by
  unfold frameB sealB
  simp only [ByteArray.append_assoc]⟩
set_option maxRecDepth 100000 in
theorem ext_mid (a b c : ByteArray) : (a ++ (b ++ c)).extract a.size (a.size + b.size) = b := by
  have h3 := ByteArray.extract_append_size_add' (a := a) (b := b ++ c) (i := 0) (j := b.size) (k := a.size) rfl
  rw [Nat.add_zero] at h3
  rw [h3]
  exact ByteArray.extract_append_eq_left rfl
set_option maxRecDepth 100000 in
theorem lenB_frame {p : ByteArray} (h : p.size ≤ 240) : lenB (frameB p) = p.size := by
  obtain ⟨Z, hZ⟩ := frame_parts p
  unfold lenB
  rw [hZ, ByteArray.extract_append_eq_left (num_size _ _).symm]
  exact val_num 2 _ (by omega)
set_option maxRecDepth 100000 in
theorem text_frame (p : ByteArray) : (frameB p).extract 2 (2 + p.size) = p := by
  obtain ⟨Z, hZ⟩ := frame_parts p
  have := ext_mid (num p.size 2) p Z
  rwa [num_size, ← hZ] at this
set_option maxRecDepth 100000 in
theorem unframe_frame {p : ByteArray} (h : p.size ≤ 240) : unframeV (frameB p) = (p, 0) := by
  unfold unframeV
  rw [if_neg (by rw [frameB_size h]; decide), lenB_frame h, if_neg (by omega), text_frame, if_pos rfl]
set_option maxRecDepth 100000 in
theorem unframe_err {s : ByteArray} (h : (unframeV s).2 ≠ 0) : unframeV s = (⟨#[]⟩, 82) := by
  unfold unframeV at h ⊢
  split
  · rfl
  · next h1 =>
    rw [if_neg h1] at h
    split
    · rfl
    · next h2 =>
      rw [if_neg h2] at h
      split
      · next h3 => rw [if_pos h3] at h; exact absurd rfl h
      · rfl
set_option maxRecDepth 100000 in
theorem toL_append (a b : ByteArray) : (a ++ b).data.toList = a.data.toList ++ b.data.toList := by rw [ByteArray.data_append, Array.toList_append]
end Go.Proofs.YtajlfmnjibgbaaaGreatDoor.Vl
/- A living volume over a disk whose power goes in no step: what its calls answer. Plain. -/
namespace Go.Proofs.YtajlfmnjibgbaaaGreatDoor.Vl
open Disk Nv
/-- a block's bytes: its four sectors -/
def blkC (cur : Nat → ByteArray) (n : Nat) : ByteArray := (((⟨#[]⟩ ++ cur (4 * n)) ++ cur (4 * n + 1)) ++ cur (4 * n + 2)) ++ cur (4 * n + 3)
set_option maxRecDepth 100000 in
theorem join_ext (s : ByteArray) (a b c : Nat) (h1 : a ≤ b) (h2 : b ≤ c) : s.extract a b ++ s.extract b c = s.extract a c := by
  rw [ByteArray.extract_append_extract]
  congr 1 <;> omega
set_option maxRecDepth 100000 in
theorem join4 {s : ByteArray} (h : s.size = 256) : (((⟨#[]⟩ ++ s.extract 0 64) ++ s.extract 64 128) ++ s.extract 128 192) ++ s.extract 192 256 = s := by
  rw [Nv.nil_append, join_ext s 0 64 128 (by decide) (by decide), join_ext s 0 128 192 (by decide) (by decide), join_ext s 0 192 256 (by decide) (by decide), ← h]
  exact ByteArray.extract_zero_size
/-- what a block's sectors are when bytes are written to it -/
def curW (cur : Nat → ByteArray) (s : ByteArray) (n i k : Nat) : Nat → ByteArray := fun j => if 4 * n + i ≤ j ∧ j < 4 * n + i + k then s.extract (64 * (j - 4 * n)) (64 * (j - 4 * n) + 64) else cur j
set_option maxRecDepth 100000 in
theorem blk_same {cur : Nat → ByteArray} {s : ByteArray} {n : Nat} (h : s.size = 256) : blkC (curW cur s n 0 4) n = s := by
  unfold blkC curW
  rw [if_pos (by omega), if_pos (by omega), if_pos (by omega), if_pos (by omega)]
  rw [show 4 * n - 4 * n = 0 by omega, show 4 * n + 1 - 4 * n = 1 by omega, show 4 * n + 2 - 4 * n = 2 by omega, show 4 * n + 3 - 4 * n = 3 by omega]
  exact join4 h
set_option maxRecDepth 100000 in
theorem blk_other {cur : Nat → ByteArray} {s : ByteArray} {n k : Nat} (h : k ≠ n) : blkC (curW cur s n 0 4) k = blkC cur k := by
  unfold blkC curW
  rw [if_neg (by omega), if_neg (by omega), if_neg (by omega), if_neg (by omega)]
set_option maxRecDepth 100000 in
theorem blk_congr {cur cur' : Nat → ByteArray} {k : Nat} (h : ∀ i, 4 * k ≤ i → i < 4 * k + 4 → cur i = cur' i) : blkC cur k = blkC cur' k := by
  unfold blkC
  rw [h _ (by omega) (by omega), h _ (by omega) (by omega), h _ (by omega) (by omega), h _ (by omega) (by omega)]
section
variable {N m : Nat} {v : Vo} {d : Dk} {cur : Nat → ByteArray}
set_option maxRecDepth 100000 in
theorem fn_blocks (h : Nv.Fn N m d) : blocksD d = N / 4 := by unfold blocksD; rw [h.len]
set_option maxRecDepth 100000 in
/-- bytes of 64 are written to each of a block's sectors -/
theorem ext64 {s : ByteArray} (hs : s.size = 256) {i : Nat} (hi : i < 4) : (s.extract (64 * i) (64 * i + 64)).size = 64 := by rw [ByteArray.size_extract]; omega
set_option maxRecDepth 100000 in
theorem st_wloop {s : ByteArray} (hs : s.size = 256) {n : Nat} : ∀ (k i : Nat) {d : Dk} {cur : Nat → ByteArray}, St d N cur (fun _ => false) → i + k ≤ 4 → 4 * n + 4 ≤ N →
    ∃ d', wloopV v s n k i d = (v, d', 0) ∧ St d' N (curW cur s n i k) (fun _ => false)
  | 0, i, d, cur, h, _, _ => ⟨d, rfl, h.mono (fun j _ => by unfold curW; rw [if_neg (by omega)]) (fun _ _ => rfl)⟩
  | k + 1, i, d, cur, h, hk, hN => by
    obtain ⟨h1, h2⟩ := h.write (n := 4 * n + i) (by omega) rfl (ext64 hs (i := i) (by omega))
    obtain ⟨d', h3, h4⟩ := st_wloop hs (n := n) k (i + 1) h2 (by omega) hN
    refine ⟨d', ?_, h4.mono (fun j _ => ?_) (fun _ _ => rfl)⟩
    · rw [wloopV, if_neg (fun hh => hh h1)]
      exact h3
    · unfold curW
      simp only
      by_cases e : j = 4 * n + i
      · subst e
        rw [if_neg (by omega), if_pos rfl, if_pos (by omega), show 4 * n + i - 4 * n = i by omega]
      · by_cases e2 : 4 * n + (i + 1) ≤ j ∧ j < 4 * n + (i + 1) + k
        · rw [if_pos e2, if_pos (by omega)]
        · rw [if_neg e2, if_neg e, if_neg (by omega)]
set_option maxRecDepth 100000 in
theorem fn_wloop {s : ByteArray} {n : Nat} : ∀ (k i : Nat) {m : Nat} {d : Dk}, Nv.Fn N m d → Nv.Fn N (m + k) (wloopV v s n k i d).2.1
  | 0, _, _, _, h => h
  | k + 1, i, m, d, h => by
    unfold wloopV
    split
    · exact (h.write _ _).more (by omega)
    · exact (fn_wloop k (i + 1) (h.write _ _)).more (by omega)
set_option maxRecDepth 100000 in
theorem fn_writeV (h : Nv.Fn N m d) (v : Vo) (n : Int) (p : ByteArray) : Nv.Fn N (m + 4) (writeV v d n p).2.1 := by
  unfold Vl.writeV
  split
  · exact h.more (by omega)
  · split
    · exact h.more (by omega)
    · split
      · exact h.more (by omega)
      · unfold writeX
        have := fn_wloop (v := v) (s := frameB p) (n := n.toNat) 4 0 h
        split
        · exact this
        · exact this
set_option maxRecDepth 100000 in
theorem fn_keepsV (h : Nv.Fn N m d) (v : Vo) (text : ByteArray) (n : Nat) : Nv.Fn N (m + 2) (keepsV v d text n).2.1 := by
  unfold Vl.keepsV keepsW
  split
  · exact (h.write _ _).more (by omega)
  · unfold keepsS
    split
    · exact ((h.write _ _).sync).more (by omega)
    · exact ((h.write _ _).sync).more (by omega)
set_option maxRecDepth 100000 in
theorem fn_formatV (h : Nv.Fn N m d) (text : ByteArray) : Nv.Fn N (m + 3) (formatV d text).2.1 := by
  unfold Vl.formatV
  split
  · exact h.more (by omega)
  · split
    · exact h.more (by omega)
    · unfold formatW
      split
      · exact (h.write _ _).more (by omega)
      · exact (fn_keepsV (h.write _ _) newV text 1).more (by omega)
/-- a root is written: the sector it stands in is another one -/
def curR (cur : Nat → ByteArray) (text : ByteArray) (n : Nat) : Nat → ByteArray := fun i => if i = n % 2 then rootB text n else cur i
set_option maxRecDepth 100000 in
theorem st_keepsV (h : St d N cur (fun _ => false)) (hf : Fit d) (h2 : 2 ≤ N) {text : ByteArray} (ht : text.size ≤ 40) (v : Vo) (n : Nat) :
    ∃ d', keepsV v d text n = (⟨text, n, v.L, v.dead⟩, d', 0) ∧ St d' N (curR cur text n) (fun _ => false) ∧ d'.L = [] ∧ d'.stays = (List.range N).map (curR cur text n) := by
  obtain ⟨h1, h3⟩ := h.write (n := n % 2) (by omega) rfl (rootB_size ht n)
  obtain ⟨h4, h5, h6, h7⟩ := h3.sync (hf.write _ _)
  refine ⟨(syncD (writeD d ((n % 2 : Nat) : Int) (rootB text n)).1).1, ?_, h5, h6, h7⟩
  unfold Vl.keepsV keepsW
  rw [if_neg (fun hh => hh h1)]
  unfold keepsS
  rw [if_neg (fun hh => hh h4)]
  exact Prod.ext rfl (Prod.ext rfl h4)
set_option maxRecDepth 100000 in
theorem st_writeV (h : St d N cur (fun _ => false)) (hN : d.stays.length = N) {n : Nat} (h1 : 1 ≤ n) (h2 : n < N / 4) {p : ByteArray} (hp : p.size ≤ 240) (hd : v.dead = false) :
    ∃ d', writeV v d (n : Int) p = ({ v with L := putK v.L n p }, d', 0) ∧ St d' N (curW cur (frameB p) n 0 4) (fun _ => false) := by
  obtain ⟨d', e1, e2⟩ := st_wloop (v := v) (frameB_size hp) (n := n) 4 0 h (by decide) (by omega)
  refine ⟨d', ?_, e2⟩
  unfold Vl.writeV
  have hmay : mayV d (n : Int) := by
    unfold mayV blocksD
    rw [hN]
    omega
  rw [if_neg (fun hh => hh hmay), if_neg (by omega), if_neg (by rw [hd]; decide), Int.toNat_natCast, e1]
  unfold writeX
  rw [if_neg (fun hh => hh rfl)]
set_option maxRecDepth 100000 in
theorem st_collect (h : St d N cur (fun _ => false)) {n : Nat} (hn : 4 * n + 4 ≤ N) : collectD d (4 * n) 4 0 ⟨#[]⟩ = (blkC cur n, 0) := by
  have r := fun i (hi : i < 4) => h.read (n := 4 * n + i) (by omega) rfl
  have r0 := r 0 (by decide)
  have r1 := r 1 (by decide)
  have r2 := r 2 (by decide)
  have r3 := r 3 (by decide)
  unfold collectD
  rw [r0, if_neg (fun hh => hh rfl)]
  unfold collectD
  rw [r1, if_neg (fun hh => hh rfl)]
  unfold collectD
  rw [r2, if_neg (fun hh => hh rfl)]
  unfold collectD
  rw [r3, if_neg (fun hh => hh rfl)]
  rfl
/-- what is kept is what the sectors say -/
def Coh (cur : Nat → ByteArray) (L : List (Nat × ByteArray)) : Prop := ∀ k s, find L k = some s → unframeV (blkC cur k) = (s, 0)
set_option maxRecDepth 100000 in
theorem Coh.nil : Coh cur [] := fun k s h => by cases h
set_option maxRecDepth 100000 in
theorem Coh.put {L : List (Nat × ByteArray)} {k : Nat} {s : ByteArray} (h : Coh cur L) (hs : unframeV (blkC cur k) = (s, 0)) : Coh cur (putK L k s) := fun j t hj => by
  rcases find_put hj with ⟨rfl, rfl⟩ | ⟨_, h2⟩
  · exact hs
  · exact h j t h2
set_option maxRecDepth 100000 in
theorem Coh.touch {L : List (Nat × ByteArray)} {k : Nat} {s : ByteArray} (h : Coh cur L) (hs : unframeV (blkC cur k) = (s, 0)) : Coh cur (touchK L k s) := fun j t hj => by
  rw [find_touch] at hj
  split at hj
  · next e => injection hj with hj; rw [e, ← hj]; exact hs
  · exact h j t hj
set_option maxRecDepth 100000 in
theorem Coh.write {L : List (Nat × ByteArray)} {n : Nat} {p : ByteArray} (h : Coh cur L) (hp : p.size ≤ 240) : Coh (curW cur (frameB p) n 0 4) (putK L n p) := fun j t hj => by
  rcases find_put hj with ⟨rfl, rfl⟩ | ⟨hne, h2⟩
  · rw [blk_same (frameB_size hp)]
    exact unframe_frame hp
  · rw [blk_other hne]
    exact h j t h2
set_option maxRecDepth 100000 in
theorem Coh.root {L : List (Nat × ByteArray)} {text : ByteArray} {n : Nat} (h : Coh cur L) (hk : ∀ k s, find L k = some s → 1 ≤ k) : Coh (curR cur text n) L := fun j t hj => by
  have := hk j t hj
  rw [blk_congr (cur' := cur) (fun i h1 _ => by unfold curR; rw [if_neg (by omega)])]
  exact h j t hj
set_option maxRecDepth 100000 in
/-- Read of a living volume: what the sectors say -/
theorem st_readV (h : St d N cur (fun _ => false)) (hN : d.stays.length = N) (hc : Coh cur v.L) (hd : v.dead = false) {n : Nat} (h1 : 1 ≤ n) (h2 : n < N / 4) :
    ∃ L', readV v d (n : Int) = ({ v with L := L' }, unframeV (blkC cur n)) ∧ Coh cur L' ∧ ∀ k s, find L' k = some s → k = n ∨ ∃ t, find v.L k = some t := by
  unfold Vl.readV
  have hmay : mayV d (n : Int) := by
    unfold mayV blocksD
    rw [hN]
    omega
  rw [if_neg (fun hh => hh hmay), if_neg (by rw [hd]; decide), Int.toNat_natCast]
  cases hf : find v.L n with
  | some s =>
    have hu := hc n s hf
    refine ⟨touchK v.L n s, by rw [hu]; rfl, hc.touch hu, fun k t hk => ?_⟩
    rw [find_touch] at hk
    split at hk
    · next e => exact Or.inl e
    · exact Or.inr ⟨t, hk⟩
  | none =>
    unfold readF readG
    rw [st_collect h (by omega), if_neg (fun hh => hh rfl)]
    unfold readU
    by_cases hz : (unframeV (blkC cur n)).2 = 0
    · rw [if_neg (fun hh => hh hz)]
      refine ⟨_, by rw [← hz], hc.put (Prod.ext rfl hz), fun k t hk => ?_⟩
      rcases find_put hk with ⟨rfl, _⟩ | ⟨_, h3⟩
      · exact Or.inl rfl
      · exact Or.inr ⟨t, h3⟩
    · rw [if_pos hz]
      refine ⟨v.L, ?_, hc, fun k t hk => Or.inr ⟨t, hk⟩⟩
      rw [unframe_err hz]
end
/-- a volume laid anew -/
def laidV (N : Nat) (text : ByteArray) : Dk := (formatV (newD N) text).2.1
def cur0 (text : ByteArray) : Nat → ByteArray := fun i => if i = 1 then rootB text 1 else noughts 64
set_option maxRecDepth 100000 in
theorem laidV_ok {N : Nat} (h1 : 32 ≤ N) (h2 : N ≤ 16384) {text : ByteArray} (ht : text.size ≤ 40) :
    (writeD (newD N) 0 (noughts 64)).2 = 0 ∧ formatV (newD N) text = (⟨text, 1, [], false⟩, laidV N text, 0) ∧ St (laidV N text) N (cur0 text) (fun _ => false) ∧ Nv.Fn N 3 (laidV N text) ∧ (laidV N text).L = [] ∧ (laidV N text).stays = (List.range N).map (cur0 text) := by
  have hfn := Nv.Fn.new (n := N) (by omega) h2
  obtain ⟨w1, w2⟩ := (St.new N).write (n := 0) (by omega) rfl (noughts_size 64)
  obtain ⟨d', e1, e2, e3, e4⟩ := st_keepsV w2 (hfn.fit.write _ _) (by omega) ht newV 1
  have hgood : goodD (newD N) := by
    unfold goodD blocksD
    rw [hfn.len]
    omega
  have ef : formatV (newD N) text = (⟨text, 1, [], false⟩, d', 0) := by
    unfold formatV
    rw [if_neg (fun hh => hh hgood), if_neg (by omega)]
    unfold formatW
    rw [if_neg (fun hh => hh w1)]
    exact e1
  have el : laidV N text = d' := by unfold laidV; rw [ef]
  have hcur : ∀ i, curR (fun i => if i = 0 then noughts 64 else ⟨(List.replicate 64 0).toArray⟩) text 1 i = cur0 text i := fun i => by
    unfold curR cur0
    by_cases h : i = 1
    · rw [if_pos h, if_pos h]
    · rw [if_neg h, if_neg h]
      by_cases h0 : i = 0
      · exact if_pos h0
      · exact if_neg h0
  have hfin := fn_formatV hfn text
  refine ⟨w1, by rw [el]; exact ef, by rw [el]; exact e2.mono (fun i _ => hcur i) (fun _ _ => rfl), hfin, by rw [el]; exact e3, by rw [el, e4]; exact List.map_congr_left fun i _ => hcur i⟩
end Go.Proofs.YtajlfmnjibgbaaaGreatDoor.Vl

/- A volume over a disk whose power may go in any step; BlockKeeps' notes. Plain. -/
import Derived.Test.YtkghlbpkdkonbaaBlkPl
import Derived.Test.YtkghlbpkdkonbaaDiskPl
namespace Go.Proofs.Ytkghlbpkdkonbaa.Vl
open Disk Nv
section
variable {d : Dk} {N m : Nat} {cur : Nat → ByteArray} {Q : Nat → ByteArray → Prop} {v : Vo}
set_option maxRecDepth 100000 in
theorem lv_st (h : Lv N cur Q d) : St { d with armed := 0 } N cur (fun _ => false) := ⟨h.dead, rfl, h.len, h.cur, h.good⟩
set_option maxRecDepth 100000 in
theorem lv_openV (h : Lv N cur Q d) (hg : 8 ≤ N / 4 ∧ N / 4 ≤ 4096) {t : ByteArray} {n : Nat} (h1 : 1 ≤ n) (h2 : n ≤ 1099511627776) (ht : t.size ≤ 40) (hc : cur (n % 2) = rootB t n) (ho : (parseV (cur ((n + 1) % 2)) ((n + 1) % 2)).2 < n) :
    openV d = (some ⟨t, n, [], false⟩, 0) := st_openV (lv_st h) h.len hg h1 h2 ht hc ho
set_option maxRecDepth 100000 in
theorem lv_readV (h : Lv N cur Q d) (hc : Coh cur v.L) (hd : v.dead = false) {n : Nat} (h1 : 1 ≤ n) (h2 : n < N / 4) :
    ∃ L', readV v d (n : Int) = ({ v with L := L' }, unframeV (blkC cur n)) ∧ Coh cur L' ∧ ∀ k s, find L' k = some s → k = n ∨ ∃ t, find v.L k = some t := by
  have := st_readV (lv_st h) h.len hc hd h1 h2
  exact this
set_option maxRecDepth 100000 in
theorem lv_wloop {s : ByteArray} (hs : s.size = 256) {n : Nat} (hQ : ∀ j t, 4 * n ≤ j → j < 4 * n + 4 → Q j t) : ∀ (k i : Nat) {m : Nat} {d : Dk} {cur : Nat → ByteArray}, Lv N cur Q d → Nv.Fn N m d → i + k ≤ 4 → 4 * n + 4 ≤ N →
    (∃ d', wloopV v s n k i d = (v, d', 0) ∧ Lv N (curW cur s n i k) Q d') ∨ ∃ v' d', wloopV v s n k i d = (v', d', 2) ∧ Gone N Q d'
  | 0, i, m, d, cur, h, _, _, _ => Or.inl ⟨d, rfl, h.eq (fun j _ => by unfold curW; rw [if_neg (by omega)])⟩
  | k + 1, i, m, d, cur, h, hf, hk, hN => by
    have hq : ∀ j t, j < N → (Q j t ∨ (j = 4 * n + i ∧ t = s.extract (64 * i) (64 * i + 64))) → Q j t := fun j t _ hq => hq.elim id (fun e => hQ j t (by omega) (by omega))
    rcases h.write hf.fit (n := 4 * n + i) (by omega) (ext64 hs (i := i) (by omega)) with ⟨h1, h2⟩ | ⟨h1, h2⟩
    · rw [wloopV, if_neg (fun hh => hh h1)]
      rcases lv_wloop hs hQ k (i + 1) (h2.mono hq) (hf.write _ _) (by omega) hN with ⟨d', h3, h4⟩ | ⟨v', d', h3, h4⟩
      · refine Or.inl ⟨d', h3, h4.eq (fun j _ => ?_)⟩
        unfold curW
        simp only
        by_cases e : j = 4 * n + i
        · subst e
          rw [if_neg (by omega), if_pos rfl, if_pos (by omega), show 4 * n + i - 4 * n = i by omega]
        · by_cases e2 : 4 * n + (i + 1) ≤ j ∧ j < 4 * n + (i + 1) + k
          · rw [if_pos e2, if_pos (by omega)]
          · rw [if_neg e2, if_neg e, if_neg (by omega)]
      · exact Or.inr ⟨v', d', h3, h4⟩
    · rw [wloopV, if_pos (by rw [h1]; decide)]
      exact Or.inr ⟨_, _, Prod.ext rfl (Prod.ext rfl h1), h2.mono hq⟩
set_option maxRecDepth 100000 in
theorem lv_writeV (h : Lv N cur Q d) (hf : Nv.Fn N m d) {n : Nat} (h1 : 1 ≤ n) (h2 : n < N / 4) {p : ByteArray} (hp : p.size ≤ 240) (hd : v.dead = false) (hQ : ∀ j t, 4 * n ≤ j → j < 4 * n + 4 → Q j t) :
    (∃ d', writeV v d (n : Int) p = ({ v with L := putK v.L n p }, d', 0) ∧ Lv N (curW cur (frameB p) n 0 4) Q d') ∨ ∃ v' d', writeV v d (n : Int) p = (v', d', 2) ∧ Gone N Q d' := by
  have hmay : mayV d (n : Int) := by
    unfold mayV blocksD
    rw [h.len]
    omega
  unfold Vl.writeV
  rw [if_neg (fun hh => hh hmay), if_neg (by omega), if_neg (by rw [hd]; decide), Int.toNat_natCast]
  rcases lv_wloop (v := v) (frameB_size hp) hQ 4 0 h hf (by decide) (by omega) with ⟨d', e1, e2⟩ | ⟨v', d', e1, e2⟩
  · refine Or.inl ⟨d', ?_, e2⟩
    rw [e1]
    unfold writeX
    rw [if_neg (fun hh => hh rfl)]
  · refine Or.inr ⟨v', d', ?_, e2⟩
    rw [e1]
    unfold writeX
    rw [if_pos (show (2 : Int) ≠ 0 by decide)]
set_option maxRecDepth 100000 in
theorem lv_commitV (h : Lv N cur Q d) (hf : Nv.Fn N m d) (hN : 2 ≤ N) {text : ByteArray} (ht : text.size ≤ 40) (hd : v.dead = false) (hn : v.num < 1099511627776) :
    (∃ d', commitV v d text = (⟨text, v.num + 1, v.L, v.dead⟩, d', 0) ∧ Lv N (curR cur text (v.num + 1)) (fun i t => t = curR cur text (v.num + 1) i) d') ∨
      ∃ v' d', commitV v d text = (v', d', 2) ∧ (Gone N Q d' ∨ Gone N (fun i t => t = cur i ∨ (i = (v.num + 1) % 2 ∧ t = rootB text (v.num + 1))) d') := by
  unfold Vl.commitV
  rw [if_neg (by omega), if_neg (by rw [hd]; decide), if_neg (by omega)]
  unfold commitS
  rcases (h.sync hf.fit).1 with ⟨h0, l1⟩ | ⟨h0, g1⟩
  · rw [if_neg (fun hh => hh h0)]
    unfold Vl.keepsV keepsW
    rcases l1.write hf.sync.fit (n := (v.num + 1) % 2) (by omega) (rootB_size ht (v.num + 1)) with ⟨h2, l2⟩ | ⟨h2, g2⟩
    · rw [if_neg (fun hh => hh h2)]
      unfold keepsS
      rcases (l2.sync (hf.sync.write _ _).fit).1 with ⟨h3, l3⟩ | ⟨h3, g3⟩
      · rw [if_neg (fun hh => hh h3)]
        exact Or.inl ⟨_, Prod.ext rfl (Prod.ext rfl h3), l3⟩
      · rw [if_pos (by rw [h3]; decide)]
        exact Or.inr ⟨_, _, Prod.ext rfl (Prod.ext rfl h3), Or.inr g3⟩
    · rw [if_pos (by rw [h2]; decide)]
      exact Or.inr ⟨_, _, Prod.ext rfl (Prod.ext rfl h2), Or.inr g2⟩
  · rw [if_pos (by rw [h0]; decide)]
    exact Or.inr ⟨_, _, Prod.ext rfl (Prod.ext rfl h0), Or.inl g1⟩
end
/-- what the law notes -/
structure No where
  root : ByteArray
  has : Nat → ByteArray
  now : Nat → ByteArray
  sure : Nat → Bool
  loose : Nat → Bool
/-- a Commit counts, of the blocks ahead of j -/
def countTo (n : No) (t : ByteArray) (j : Nat) : No :=
  ⟨t, fun k => if 1 ≤ k ∧ k < j ∧ n.loose k = true then n.now k else n.has k, n.now, fun k => if 1 ≤ k ∧ k < j ∧ n.loose k = true then true else n.sure k, fun k => if 1 ≤ k ∧ k < j then false else n.loose k⟩
/-- the power went: what was written since is no more sure, of the blocks ahead of j -/
def lostTo (n : No) (j : Nat) : No :=
  ⟨n.root, n.has, n.now, fun k => if 1 ≤ k ∧ k < j ∧ n.loose k = true then false else n.sure k, fun k => if 1 ≤ k ∧ k < j then false else n.loose k⟩
def wroteN (n : No) (k : Nat) (p : ByteArray) : No := { n with now := fun i => if i = k then p else n.now i, loose := fun i => if i = k then true else n.loose i }
/-- the root's sectors -/
structure Rt (t : ByteArray) (num : Nat) (cur : Nat → ByteArray) : Prop where
  r : cur (num % 2) = rootB t num
  o : (parseV (cur ((num + 1) % 2)) ((num + 1) % 2)).2 < num
  n1 : 1 ≤ num
  size : t.size ≤ 40
/-- what is sure, and was not written since -/
def Sure (n : No) (cur : Nat → ByteArray) : Prop := ∀ k, 1 ≤ k → k < 8 → n.loose k = false → n.sure k = true → unframeV (blkC cur k) = (n.has k, 0)
/-- what was written since -/
def Loose (n : No) (cur : Nat → ByteArray) : Prop := ∀ k, 1 ≤ k → k < 8 → n.loose k = true → unframeV (blkC cur k) = (n.now k, 0)
def Qn (n : No) (cur : Nat → ByteArray) : Nat → ByteArray → Prop := fun i t => t = cur i ∨ (4 ≤ i ∧ n.loose (i / 4) = true)
/-- the power went: whatever the sectors are then, there is a root, and what is sure is there -/
def Lost (n : No) (next : ByteArray) (most : Nat) (d : Dk) : Prop := ∃ Q, Gone 32 Q d ∧ ∀ cur, (∀ i, i < 32 → Q i (cur i)) →
  ∃ (t : ByteArray) (num : Nat), num ≤ most ∧ Rt t num cur ∧ ((t = n.root ∧ Sure n cur) ∨ (t = next ∧ t ≠ n.root ∧ Sure (countTo n t 8) cur))
section
variable {n : No} {cur cur' : Nat → ByteArray} {num most : Nat} {d : Dk} {t text : ByteArray}
set_option maxRecDepth 100000 in
theorem Rt.congr (h : Rt t num cur) (e : ∀ i, i < 2 → cur' i = cur i) : Rt t num cur' := ⟨(e _ (by omega)).trans h.r, by rw [e _ (by omega)]; exact h.o, h.n1, h.size⟩
set_option maxRecDepth 100000 in
theorem Sure.congr (h : Sure n cur) (e : ∀ i, 4 ≤ i → i < 32 → n.loose (i / 4) = false → cur' i = cur i) : Sure n cur' := fun k h1 h2 hl hs => by
  rw [blk_congr (cur' := cur) (fun i i1 i2 => e i (by omega) (by omega) (by rw [show i / 4 = k by omega]; exact hl))]
  exact h k h1 h2 hl hs
set_option maxRecDepth 100000 in
theorem lost_same (h : Gone 32 (Qn n cur) d) (hr : Rt n.root num cur) (hm : num ≤ most) (hs : Sure n cur) (next : ByteArray) : Lost n next most d := by
  refine ⟨_, h, fun c hc => ⟨n.root, num, hm, hr.congr (fun i hi => ?_), Or.inl ⟨rfl, hs.congr (fun i i1 i2 hl => ?_)⟩⟩⟩
  · rcases hc i (by omega) with e | e
    · exact e
    · omega
  · rcases hc i i2 with e | e
    · exact e
    · rw [hl] at e
      exact absurd e.2 (by decide)
set_option maxRecDepth 100000 in
theorem count_sure (hs : Sure n cur) (hl : Loose n cur) (t : ByteArray) : Sure (countTo n t 8) cur := fun k h1 h2 _ ks => by
  show unframeV (blkC cur k) = (if 1 ≤ k ∧ k < 8 ∧ n.loose k = true then n.now k else n.has k, 0)
  by_cases e : n.loose k = true
  · rw [if_pos ⟨h1, h2, e⟩]
    exact hl k h1 h2 e
  · rw [if_neg (fun hh => e hh.2.2)]
    have ks' : (if 1 ≤ k ∧ k < 8 ∧ n.loose k = true then true else n.sure k) = true := ks
    rw [if_neg (fun hh => e hh.2.2)] at ks'
    exact hs k h1 h2 (by simpa using e) ks'
set_option maxRecDepth 100000 in
theorem count_loose (t : ByteArray) {k : Nat} (h1 : 1 ≤ k) (h2 : k < 8) : (countTo n t 8).loose k = false := if_pos ⟨h1, h2⟩
set_option maxRecDepth 100000 in
theorem Rt.next (h : Rt t num cur) (hn : num < 1099511627776) (ht : text.size ≤ 40) : Rt text (num + 1) (curR cur text (num + 1)) := by
  refine ⟨by unfold curR; rw [if_pos rfl], ?_, by omega, ht⟩
  unfold curR
  rw [if_neg (by omega), show (num + 1 + 1) % 2 = num % 2 by omega, h.r, parse_root h.size h.n1 (by omega) rfl]
  show num < _
  omega
set_option maxRecDepth 100000 in
/-- the power went behind the first Sync of a Commit -/
theorem lost_root (h : Gone 32 (fun i t => t = cur i ∨ (i = (num + 1) % 2 ∧ t = rootB text (num + 1))) d) (hr : Rt n.root num cur) (hm : num + 1 ≤ most) (hn : num < 1099511627776) (ht : text.size ≤ 40) (hs : Sure n cur) (hl : Loose n cur) : Lost n text most d := by
  refine ⟨_, h, fun c hc => ?_⟩
  have far : ∀ i, i < 32 → i ≠ (num + 1) % 2 → c i = cur i := fun i hi hne => (hc i hi).elim id (fun e => absurd e.1 hne)
  have hs' : Sure n c := hs.congr (fun i i1 i2 _ => far i i2 (by omega))
  have hl' : Loose n c := fun k h1 h2 e => by
    rw [blk_congr (cur' := cur) (fun i i1 i2 => far i (by omega) (by omega))]
    exact hl k h1 h2 e
  rcases hc ((num + 1) % 2) (by omega) with e | ⟨_, e⟩
  · refine ⟨n.root, num, by omega, hr.congr (fun i hi => ?_), Or.inl ⟨rfl, hs'⟩⟩
    by_cases hi2 : i = (num + 1) % 2
    · rw [hi2]; exact e
    · exact far i (by omega) hi2
  · have hr2 : Rt text (num + 1) c := (hr.next hn ht).congr (fun i hi => by
      unfold curR
      by_cases hi2 : i = (num + 1) % 2
      · rw [if_pos hi2, hi2]; exact e
      · rw [if_neg hi2]; exact far i (by omega) hi2)
    by_cases et : text = n.root
    · exact ⟨text, num + 1, hm, hr2, Or.inl ⟨et, hs'⟩⟩
    · exact ⟨text, num + 1, hm, hr2, Or.inr ⟨rfl, et, count_sure hs' hl' text⟩⟩
set_option maxRecDepth 100000 in
theorem wrote_sure (hs : Sure n cur) (k : Nat) (p : ByteArray) : Sure (wroteN n k p) cur := fun j h1 h2 hl ks => by
  have hl' : (if j = k then true else n.loose j) = false := hl
  by_cases e : j = k
  · rw [if_pos e] at hl'; cases hl'
  · rw [if_neg e] at hl'
    exact hs j h1 h2 hl' ks
set_option maxRecDepth 100000 in
theorem wrote_blocks {k : Nat} {p : ByteArray} (hp : p.size ≤ 240) (hs : Sure n cur) (hl : Loose n cur) : Sure (wroteN n k p) (curW cur (frameB p) k 0 4) ∧ Loose (wroteN n k p) (curW cur (frameB p) k 0 4) := by
  refine ⟨fun j h1 h2 hl2 ks => ?_, fun j h1 h2 hl2 => ?_⟩
  · have hl' : (if j = k then true else n.loose j) = false := hl2
    by_cases e : j = k
    · rw [if_pos e] at hl'; cases hl'
    · rw [if_neg e] at hl'
      rw [blk_other e]
      exact hs j h1 h2 hl' ks
  · have hl' : (if j = k then true else n.loose j) = true := hl2
    show unframeV _ = (if j = k then p else n.now j, 0)
    by_cases e : j = k
    · subst e
      rw [blk_same (frameB_size hp), if_pos rfl]
      exact unframe_frame hp
    · rw [if_neg e] at hl' ⊢
      rw [blk_other e]
      exact hl j h1 h2 hl'
set_option maxRecDepth 100000 in
theorem wrote_root {k : Nat} (hk : 1 ≤ k) (h : Rt t num cur) (s : ByteArray) : Rt t num (curW cur s k 0 4) := h.congr (fun i hi => by unfold curW; rw [if_neg (by omega)])
set_option maxRecDepth 100000 in
theorem wrote_Q {k : Nat} {p s : ByteArray} {i : Nat} {x : ByteArray} (h : Qn (wroteN n k p) cur i x) (hk : 1 ≤ k) : Qn (wroteN n k p) (curW cur s k 0 4) i x := by
  rcases h with h | h
  · by_cases e : 4 * k + 0 ≤ i ∧ i < 4 * k + 0 + 4
    · exact Or.inr ⟨by omega, if_pos (by omega)⟩
    · exact Or.inl (by unfold curW; rw [if_neg e]; exact h)
  · exact Or.inr h
set_option maxRecDepth 100000 in
theorem wrote_may {k : Nat} {p : ByteArray} (hk : 1 ≤ k) (j : Nat) (x : ByteArray) (h1 : 4 * k ≤ j) (h2 : j < 4 * k + 4) : Qn (wroteN n k p) cur j x := Or.inr ⟨by omega, if_pos (by omega)⟩
set_option maxRecDepth 100000 in
theorem wrote_Q0 {k : Nat} {p : ByteArray} {i : Nat} {x : ByteArray} (h : Qn n cur i x) : Qn (wroteN n k p) cur i x := by
  rcases h with h | ⟨h1, h2⟩
  · exact Or.inl h
  · refine Or.inr ⟨h1, ?_⟩
    show (if i / 4 = k then true else n.loose (i / 4)) = true
    split
    · rfl
    · exact h2
set_option maxRecDepth 100000 in
/-- the power is back, nothing is loose -/
theorem lost_to (hs : Sure n cur) : Sure (lostTo n 8) cur := fun k h1 h2 _ ks => by
  have ks' : (if 1 ≤ k ∧ k < 8 ∧ n.loose k = true then false else n.sure k) = true := ks
  by_cases e : n.loose k = true
  · rw [if_pos ⟨h1, h2, e⟩] at ks'; cases ks'
  · rw [if_neg (fun hh => e hh.2.2)] at ks'
    exact hs k h1 h2 (by simpa using e) ks'
set_option maxRecDepth 100000 in
theorem lost_loose : Loose (lostTo n 8) cur := fun k h1 h2 hl => by
  have hl' : (if 1 ≤ k ∧ k < 8 then false else n.loose k) = true := hl
  rw [if_pos ⟨h1, h2⟩] at hl'
  cases hl'
set_option maxRecDepth 100000 in
theorem count_loose' (t : ByteArray) : Loose (countTo n t 8) cur := fun k h1 h2 hl => by
  rw [count_loose t h1 h2] at hl
  cases hl
end
end Go.Proofs.Ytkghlbpkdkonbaa.Vl

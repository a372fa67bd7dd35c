/- Words on memory: a slice value that reads as a list of cells (a nil one too); a block that is known whole; what stays where only some blocks turn. -/
import Derived.WalkKit
import Derived.Deep.AppendLies
import Derived.Deep.Draws
import Derived.Maps.OwnSet
namespace Go.Proofs.YtajlfmnjibgbaaaGreatDoor.Mem
open Go.RowKit

set_option maxRecDepth 100000 in
theorem add_block (a : Addr) (n : Nat) : (a.add n).block = a.block := by unfold Addr.add; split <;> rfl
set_option maxRecDepth 100000 in
theorem add_lit (b o k : Nat) : (⟨b, o, none⟩ : Addr).add k = ⟨b, o + k, none⟩ := by
  unfold Addr.add
  split
  · next h => subst h; rfl
  · rfl
set_option maxRecDepth 100000 in
theorem add_add (a : Addr) (i j : Nat) : (a.add i).add j = a.add (i + j) := by
  unfold Addr.add
  by_cases hi : i = 0 <;> by_cases hj : j = 0 <;> simp [hi, hj, Nat.add_assoc]

/-- the slice value '.slice A n _' holds the cells us, one for each element -/
def Row (w : World) (A : Option Addr) (n : Nat) (us : List Value) : Prop :=
  us.length = n ∧ ∀ k u, us[k]? = some u → ∃ ad, A = some ad ∧ w.cell? (ad.add k) = some u

section
variable {w w' : World} {A : Option Addr} {n : Nat} {us : List Value}
set_option maxRecDepth 100000 in
theorem Row.nil_ (A : Option Addr) : Row w A 0 [] := ⟨rfl, fun k u h => by simp at h⟩
set_option maxRecDepth 100000 in
theorem Row.at_ {k : Nat} (h : Row w A n us) (hk : k < n) : ∃ ad u, A = some ad ∧ us[k]? = some u ∧ w.cell? (ad.add k) = some u := by
  have hl : k < us.length := by rw [h.1]; exact hk
  obtain ⟨ad, ha, hc⟩ := h.2 k us[k] (List.getElem?_eq_getElem hl)
  exact ⟨ad, us[k], ha, List.getElem?_eq_getElem hl, hc⟩
set_option maxRecDepth 100000 in
theorem Row.keep (h : Row w A n us) (hk : ∀ p : Addr, p.block < w.heap.size → w'.cell? p = w.cell? p) : Row w' A n us :=
  ⟨h.1, fun k u hu => by
    obtain ⟨ad, ha, hc⟩ := h.2 k u hu
    exact ⟨ad, ha, (hk _ (World.block_lt_of_cell? w _ hc)).trans hc⟩⟩
set_option maxRecDepth 100000 in
theorem Row.below (h : Row w A n us) (hb : Below w.heap.size w w') : Row w' A n us := h.keep fun _ hp => hb.cell hp
set_option maxRecDepth 100000 in
theorem Row.of_own {base : Nat} {e : TypeId} {c : Nat} (h : w.ownsRow base e 1 (.slice A n c) n us) : Row w A n us := by
  refine ⟨by simpa using h.1, fun k u hu => ?_⟩
  have hn : 0 < n := by
    have h1 := (List.getElem?_eq_some_iff.1 hu).1
    have h2 := h.1
    omega
  obtain ⟨g, cap, hv, _, _⟩ := h.form hn
  have hA : A = some ⟨g, 0, none⟩ := by injection hv
  subst hA
  exact ⟨_, rfl, h.cells (g := g) rfl k u hu⟩
set_option maxRecDepth 100000 in
/-- only block g, and what is new, has turned: the cells lie elsewhere -/
theorem Row.grown (h : Row w A n us) {row : Option Nat} (hg : w.grownBy w' row) (hne : ∀ ad, A = some ad → some ad.block ≠ row) : Row w' A n us :=
  ⟨h.1, fun k u hu => by
    obtain ⟨ad, ha, hc⟩ := h.2 k u hu
    exact ⟨ad, ha, hg.cell hc (by rw [add_block]; exact hne ad ha)⟩⟩
end

/-- block g is just the cells cs of type t, none frozen -/
def Blk (w : World) (g : Nat) (t : TypeId) (cs : Array Value) : Prop := w.heap[g]? = some (.cells cs t (0, 0))
section
variable {w w' : World} {g : Nat} {t : TypeId} {cs : Array Value}
set_option maxRecDepth 100000 in
theorem Blk.lt (h : Blk w g t cs) : g < w.heap.size := (Array.getElem?_eq_some_iff.1 h).1
set_option maxRecDepth 100000 in
theorem Blk.cell (h : Blk w g t cs) (i : Nat) : w.cell? ⟨g, i, none⟩ = cs[i]? := cell_of_row w g i cs t (0, 0) h
set_option maxRecDepth 100000 in
theorem Blk.free (h : Blk w g t cs) (i : Nat) : w.frozen? ⟨g, i, none⟩ = false := frozen_of_row w g i cs t h
set_option maxRecDepth 100000 in
theorem Blk.new (w : World) (t : TypeId) (cs : Array Value) : Blk (w.alloc (.cells cs t)) w.heap.size t cs := heap_alloc_new w _
set_option maxRecDepth 100000 in
theorem Blk.alloc (h : Blk w g t cs) (o : Obj) : Blk (w.alloc o) g t cs := (Below.heap_alloc w o g h.lt).trans h
set_option maxRecDepth 100000 in
theorem Blk.put (h : Blk w g t cs) (i : Nat) (u : Value) : Blk (w.setCell ⟨g, i, none⟩ u) g t (cs.setIfInBounds i u) := heap_setCell_same w g i cs t u h
set_option maxRecDepth 100000 in
theorem Blk.far (h : Blk w g t cs) {p : Addr} (hp : g ≠ p.block) (u : Value) : Blk (w.setCell p u) g t cs := (Below.heap_setCell w p u g hp).trans h
set_option maxRecDepth 100000 in
theorem Blk.below {B : Nat} (h : Blk w g t cs) (hb : Below B w w') (hg : g < B) : Blk w' g t cs := (hb.block g hg).trans h
set_option maxRecDepth 100000 in
theorem Blk.grown {row : Option Nat} (h : Blk w g t cs) (hb : w.grownBy w' row) (hg : some g ≠ row) : Blk w' g t cs := (hb.block g h.lt hg).trans h
set_option maxRecDepth 100000 in
theorem Blk.drewN (h : Blk w g t cs) (k : Nat) : Blk (w.drewN k) g t cs := h
end

set_option maxRecDepth 100000 in
/-- 'grownBy', step by step: only block row has turned, and what is new -/
theorem Only.refl (w : World) (row : Option Nat) : w.grownBy w row := ⟨rfl, rfl, rfl, Nat.le_refl _, fun _ _ _ => rfl⟩
set_option maxRecDepth 100000 in
theorem Only.trans {a b c : World} {row : Option Nat} (h : a.grownBy b row) (k : b.grownBy c row) : a.grownBy c row :=
  ⟨k.os.trans h.os, k.tape.trans h.tape, k.output.trans h.output, Nat.le_trans h.size k.size, fun i hi hn => (k.block i (Nat.lt_of_lt_of_le hi h.size) hn).trans (h.block i hi hn)⟩
set_option maxRecDepth 100000 in
theorem Only.below {a b c : World} {row : Option Nat} {B : Nat} (h : a.grownBy b row) (k : Below B b c) (hB : a.heap.size ≤ B) : a.grownBy c row :=
  ⟨k.os.trans h.os, k.tape.trans h.tape, k.output.trans h.output, Nat.le_trans h.size k.size, fun i hi hn => (k.block i (Nat.lt_of_lt_of_le hi hB)).trans (h.block i hi hn)⟩
set_option maxRecDepth 100000 in
theorem Only.alloc {a b : World} {row : Option Nat} (h : a.grownBy b row) (o : Obj) : a.grownBy (b.alloc o) row :=
  Only.below h ((Below.refl b.heap.size b).alloc (Nat.le_refl _) o) h.size
set_option maxRecDepth 100000 in
theorem Only.drew {a b : World} {row : Option Nat} (h : a.grownBy b row) : a.grownBy b.drew row := ⟨h.os, h.tape, h.output, h.size, h.block⟩
set_option maxRecDepth 100000 in
theorem Only.drewN {a b : World} {row : Option Nat} (h : a.grownBy b row) (n : Nat) : a.grownBy (b.drewN n) row := ⟨h.os, h.tape, h.output, h.size, h.block⟩
set_option maxRecDepth 100000 in
theorem Only.put {a b : World} {g : Nat} (h : a.grownBy b (some g)) (i : Nat) (u : Value) : a.grownBy (b.setCell ⟨g, i, none⟩ u) (some g) :=
  ⟨h.os, h.tape, h.output, by simpa [World.setCell] using h.size, fun k hk hn => (Below.heap_setCell b ⟨g, i, none⟩ u k (fun e => hn (by rw [e]))).trans (h.block k hk hn)⟩
set_option maxRecDepth 100000 in
theorem Only.of_below {a b : World} (h : Below a.heap.size a b) (row : Option Nat) : a.grownBy b row := ⟨h.os, h.tape, h.output, h.size, fun i hi _ => h.block i hi⟩
set_option maxRecDepth 100000 in
/-- a block of one's own may turn: below it all is as it was -/
theorem Only.toBelow {a b : World} {g B : Nat} (h : a.grownBy b (some g)) (hB : B ≤ g) (hs : B ≤ a.heap.size) : Below B a b :=
  ⟨h.os, h.tape, h.output, h.size, fun k hk => h.block k (by omega) (fun e => by injection e; omega)⟩
set_option maxRecDepth 100000 in
/-- a row of one's own may turn, too -/
theorem Only.own {a b c : World} {row own : Option Nat} (h : a.grownBy b row) (k : b.grownBy c own) (ho : ∀ j, own = some j → a.heap.size ≤ j) : a.grownBy c row :=
  ⟨k.os.trans h.os, k.tape.trans h.tape, k.output.trans h.output, Nat.le_trans h.size k.size, fun i hi hn => (k.block i (Nat.lt_of_lt_of_le hi h.size) (fun e => by have := ho i e.symm; omega)).trans (h.block i hi hn)⟩
set_option maxRecDepth 100000 in
theorem below_drewN {B : Nat} {a w : World} (h : Below B a w) (n : Nat) : Below B a (w.drewN n) := ⟨h.os, h.tape, h.output, h.size, h.block⟩
end Go.Proofs.YtajlfmnjibgbaaaGreatDoor.Mem
/- What stays where only the blocks of a set turn, and what is new. -/
namespace Go.Proofs.YtajlfmnjibgbaaaGreatDoor.Mem
open Go.RowKit

/-- only blocks of F have turned, and what is new -/
structure Keeps (F : Nat → Prop) (w w' : World) : Prop where
  os : w'.os = w.os
  tape : w'.tape = w.tape
  output : w'.output = w.output
  size : w.heap.size ≤ w'.heap.size
  block : ∀ k, k < w.heap.size → ¬ F k → w'.heap[k]? = w.heap[k]?

section
variable {F G : Nat → Prop} {w w' w'' : World}
set_option maxRecDepth 100000 in
theorem Keeps.refl (F : Nat → Prop) (w : World) : Keeps F w w := ⟨rfl, rfl, rfl, Nat.le_refl _, fun _ _ _ => rfl⟩
set_option maxRecDepth 100000 in
/-- what turned second was among the first set, or new -/
theorem Keeps.trans (h : Keeps F w w') (k : Keeps G w' w'') (hG : ∀ i, G i → F i ∨ w.heap.size ≤ i) : Keeps F w w'' :=
  ⟨k.os.trans h.os, k.tape.trans h.tape, k.output.trans h.output, Nat.le_trans h.size k.size, fun i hi hn =>
    (k.block i (Nat.lt_of_lt_of_le hi h.size) (fun hg => (hG i hg).elim hn (fun h2 => by omega))).trans (h.block i hi hn)⟩
set_option maxRecDepth 100000 in
theorem Keeps.same (h : Keeps F w w') (k : Keeps F w' w'') : Keeps F w w'' := h.trans k fun _ hi => Or.inl hi
set_option maxRecDepth 100000 in
theorem Keeps.mono (h : Keeps F w w') (hF : ∀ i, F i → G i) : Keeps G w w' := ⟨h.os, h.tape, h.output, h.size, fun k hk hn => h.block k hk (fun hf => hn (hF k hf))⟩
set_option maxRecDepth 100000 in
theorem Keeps.of_below (F : Nat → Prop) (h : Below w.heap.size w w') : Keeps F w w' := ⟨h.os, h.tape, h.output, h.size, fun k hk _ => h.block k hk⟩
set_option maxRecDepth 100000 in
theorem Keeps.of_grown {row : Option Nat} (h : w.grownBy w' row) (hF : ∀ j, row = some j → F j) : Keeps F w w' :=
  ⟨h.os, h.tape, h.output, h.size, fun k hk hn => h.block k hk (fun e => hn (hF k e.symm))⟩
set_option maxRecDepth 100000 in
theorem Keeps.alloc (h : Keeps F w w') (o : Obj) : Keeps F w (w'.alloc o) := h.same (Keeps.of_below F ((Below.refl _ _).alloc (Nat.le_refl _) o))
set_option maxRecDepth 100000 in
theorem Keeps.drewN (h : Keeps F w w') (n : Nat) : Keeps F w (w'.drewN n) := ⟨h.os, h.tape, h.output, h.size, h.block⟩
set_option maxRecDepth 100000 in
theorem Keeps.put (h : Keeps F w w') {g : Nat} (hg : F g ∨ w.heap.size ≤ g) (i : Nat) (u : Value) : Keeps F w (w'.setCell ⟨g, i, none⟩ u) :=
  h.trans (G := fun j => j = g) (Keeps.of_grown (Only.put (Only.refl w' _) i u) (fun j e => by injection e with e; exact e.symm)) (fun j e => e ▸ hg)
set_option maxRecDepth 100000 in
theorem Keeps.toBelow {B : Nat} (h : Keeps F w w') (hF : ∀ i, F i → B ≤ i) (hB : B ≤ w.heap.size) : Below B w w' :=
  ⟨h.os, h.tape, h.output, h.size, fun k hk => h.block k (by omega) (fun hf => by have := hF k hf; omega)⟩
set_option maxRecDepth 100000 in
theorem Keeps.cell (h : Keeps F w w') {p : Addr} (hp : p.block < w.heap.size) (hn : ¬ F p.block) : w'.cell? p = w.cell? p := World.cell?_of_block (h.block _ hp hn)
set_option maxRecDepth 100000 in
theorem Keeps.frozen (h : Keeps F w w') {p : Addr} (hp : p.block < w.heap.size) (hn : ¬ F p.block) : w'.frozen? p = w.frozen? p := World.frozen?_of_block (h.block _ hp hn)
set_option maxRecDepth 100000 in
theorem Blk.keeps {g : Nat} {t : TypeId} {cs : Array Value} (h : Blk w g t cs) (k : Keeps F w w') (hn : ¬ F g) : Blk w' g t cs := (k.block g h.lt hn).trans h
set_option maxRecDepth 100000 in
theorem own_keeps {base n sz : Nat} {e : TypeId} {v : Value} {xs : List Value} (h : w.ownsRow base e sz v n xs) (k : Keeps F w w') (hn : ∀ j, v.ownBlock = some j → ¬ F j) : w'.ownsRow base e sz v n xs := by
  refine ⟨h.1, ?_⟩
  rcases h.2 with h1 | ⟨g, cap, cur, rfl, hb, hg, rest⟩
  · exact Or.inl h1
  · exact Or.inr ⟨g, cap, cur, rfl, hb, (k.block g (Array.getElem?_eq_some_iff.1 hg).1 (hn g rfl)).trans hg, rest⟩
set_option maxRecDepth 100000 in
theorem map_keeps {H : Type} {P : Program} {k : TypeId} {R : Value → Option (DataW H × List MemPlace)} {b n : Nat} {D : DataW H} (h : w.ownsMap P k R b n D) (hk : Keeps F w w') (hn : ¬ F b) : w'.ownsMap P k R b n D := by
  have hlt := h.lt
  obtain ⟨es, clock, hb, rest⟩ := h
  exact ⟨es, clock, (hk.block b hlt hn).trans hb, rest⟩
set_option maxRecDepth 100000 in
/-- as many entries as are read -/
theorem map_tight {H : Type} {P : Program} {k : TypeId} {R : Value → Option (DataW H × List MemPlace)} {b n : Nat} {D : DataW H} (h : w.ownsMap P k R b n D) : w.ownsMap P k R b (Maps.size D) D := by
  obtain ⟨es, clock, hb, F, hs, rfl⟩ := h
  refine ⟨es, clock, hb, F, ?_, rfl⟩
  rw [Maps.size_eq, length_sorted]
  simp
end
end Go.Proofs.YtajlfmnjibgbaaaGreatDoor.Mem

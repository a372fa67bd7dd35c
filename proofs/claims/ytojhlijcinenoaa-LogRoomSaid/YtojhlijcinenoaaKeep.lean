/- What stays where only the blocks of a set turn, and what is new. -/
import Derived.Test.YtojhlijcinenoaaWords
import Derived.Maps.OwnSet
namespace Go.Proofs.Ytojhlijcinenoaa.Mem
open Go.RowKit

/-- only blocks of F have turned, and what is new -/
structure Keeps (F : Nat → Prop) (w w' : World) : Prop where
  os : w'.os = w.os
  tape : w'.tape = w.tape
  output : w'.output = w.output
  size : w.heap.size ≤ w'.heap.size
  block : ∀ k, k < w.heap.size → ¬ F k → w'.heap[k]? = w.heap[k]?

section
variable {F G : Nat → Prop} {w w' w'' : World}
theorem Keeps.refl (F : Nat → Prop) (w : World) : Keeps F w w := ⟨rfl, rfl, rfl, Nat.le_refl _, fun _ _ _ => rfl⟩
/-- what turned second was among the first set, or new -/
theorem Keeps.trans (h : Keeps F w w') (k : Keeps G w' w'') (hG : ∀ i, G i → F i ∨ w.heap.size ≤ i) : Keeps F w w'' :=
  ⟨k.os.trans h.os, k.tape.trans h.tape, k.output.trans h.output, Nat.le_trans h.size k.size, fun i hi hn =>
    (k.block i (Nat.lt_of_lt_of_le hi h.size) (fun hg => (hG i hg).elim hn (fun h2 => by omega))).trans (h.block i hi hn)⟩
theorem Keeps.same (h : Keeps F w w') (k : Keeps F w' w'') : Keeps F w w'' := h.trans k fun _ hi => Or.inl hi
theorem Keeps.mono (h : Keeps F w w') (hF : ∀ i, F i → G i) : Keeps G w w' := ⟨h.os, h.tape, h.output, h.size, fun k hk hn => h.block k hk (fun hf => hn (hF k hf))⟩
theorem Keeps.of_below (F : Nat → Prop) (h : Below w.heap.size w w') : Keeps F w w' := ⟨h.os, h.tape, h.output, h.size, fun k hk _ => h.block k hk⟩
theorem Keeps.of_grown {row : Option Nat} (h : w.grownBy w' row) (hF : ∀ j, row = some j → F j) : Keeps F w w' :=
  ⟨h.os, h.tape, h.output, h.size, fun k hk hn => h.block k hk (fun e => hn (hF k e.symm))⟩
theorem Keeps.alloc (h : Keeps F w w') (o : Obj) : Keeps F w (w'.alloc o) := h.same (Keeps.of_below F ((Below.refl _ _).alloc (Nat.le_refl _) o))
theorem Keeps.drewN (h : Keeps F w w') (n : Nat) : Keeps F w (w'.drewN n) := ⟨h.os, h.tape, h.output, h.size, h.block⟩
theorem Keeps.put (h : Keeps F w w') {g : Nat} (hg : F g ∨ w.heap.size ≤ g) (i : Nat) (u : Value) : Keeps F w (w'.setCell ⟨g, i, none⟩ u) :=
  h.trans (G := fun j => j = g) (Keeps.of_grown (Only.put (Only.refl w' _) i u) (fun j e => by injection e with e; exact e.symm)) (fun j e => e ▸ hg)
theorem Keeps.toBelow {B : Nat} (h : Keeps F w w') (hF : ∀ i, F i → B ≤ i) (hB : B ≤ w.heap.size) : Below B w w' :=
  ⟨h.os, h.tape, h.output, h.size, fun k hk => h.block k (by omega) (fun hf => by have := hF k hf; omega)⟩
theorem Keeps.cell (h : Keeps F w w') {p : Addr} (hp : p.block < w.heap.size) (hn : ¬ F p.block) : w'.cell? p = w.cell? p := World.cell?_of_block (h.block _ hp hn)
theorem Keeps.frozen (h : Keeps F w w') {p : Addr} (hp : p.block < w.heap.size) (hn : ¬ F p.block) : w'.frozen? p = w.frozen? p := World.frozen?_of_block (h.block _ hp hn)
theorem Blk.keeps {g : Nat} {t : TypeId} {cs : Array Value} (h : Blk w g t cs) (k : Keeps F w w') (hn : ¬ F g) : Blk w' g t cs := (k.block g h.lt hn).trans h
theorem own_keeps {base n sz : Nat} {e : TypeId} {v : Value} {xs : List Value} (h : w.ownsRow base e sz v n xs) (k : Keeps F w w') (hn : ∀ j, v.ownBlock = some j → ¬ F j) : w'.ownsRow base e sz v n xs := by
  refine ⟨h.1, ?_⟩
  rcases h.2 with h1 | ⟨g, cap, cur, rfl, hb, hg, rest⟩
  · exact Or.inl h1
  · exact Or.inr ⟨g, cap, cur, rfl, hb, (k.block g (Array.getElem?_eq_some_iff.1 hg).1 (hn g rfl)).trans hg, rest⟩
theorem map_keeps {H : Type} {P : Program} {k : TypeId} {R : Value → Option (DataW H × List MemPlace)} {b n : Nat} {D : DataW H} (h : w.ownsMap P k R b n D) (hk : Keeps F w w') (hn : ¬ F b) : w'.ownsMap P k R b n D := by
  have hlt := h.lt
  obtain ⟨es, clock, hb, rest⟩ := h
  exact ⟨es, clock, (hk.block b hlt hn).trans hb, rest⟩
/-- as many entries as are read -/
theorem map_tight {H : Type} {P : Program} {k : TypeId} {R : Value → Option (DataW H × List MemPlace)} {b n : Nat} {D : DataW H} (h : w.ownsMap P k R b n D) : w.ownsMap P k R b (Maps.size D) D := by
  obtain ⟨es, clock, hb, F, hs, rfl⟩ := h
  refine ⟨es, clock, hb, F, ?_, rfl⟩
  rw [Maps.size_eq, length_sorted]
  simp
end
end Go.Proofs.Ytojhlijcinenoaa.Mem

/- The disk's contracts at a law: X: the blocks that are not the disk's and stay. -/
import Derived.Test.YtkghlbpkdkonbaaDiskWc
import Derived.Test.YtkghlbpkdkonbaaDiskPl
import Derived.Test.YtkghlbpkdkonbaaShelf
import Derived.Shelf.SlMaps.Clone
import Derived.Deep.RegionHeld3
namespace Go.Proofs.Ytkghlbpkdkonbaa.Disk
open Go Go.RowKit Go.Maps Mem

structure Hd (X : Nat → Prop) (m : Nat) (w : World) (b : Nat) (d : Dk) : Prop where
  own : ∃ F, IsDk F w b d ∧ ∀ i, F i → ¬ X i
  xlt : ∀ i, X i → i < w.heap.size
  fit : Fit d
  num : NumTo m d
/-- only what is not of X has turned -/
abbrev KeepX (X : Nat → Prop) (w w' : World) : Prop := Keeps (fun i => ¬ X i) w w'
section
variable {X Y : Nat → Prop} {m : Nat} {w w' w'' : World} {b : Nat} {d d' : Dk}
set_option maxRecDepth 100000 in
theorem KeepX.toBelow {B : Nat} (h : KeepX X w w') (hX : ∀ i, i < B → X i) (hB : B ≤ w.heap.size) : Below B w w' := Keeps.toBelow h (fun i hi => Nat.le_of_not_lt fun hlt => hi (hX i hlt)) hB
set_option maxRecDepth 100000 in
theorem Hd.mono (h : Hd X m w b d) (hX : ∀ i, Y i → X i) : Hd Y m w b d := by
  obtain ⟨⟨F, h1, h2⟩, h3, h4, h5⟩ := h
  exact ⟨⟨F, h1, fun i hi hy => h2 i hi (hX i hy)⟩, fun i hi => h3 i (hX i hi), h4, h5⟩
set_option maxRecDepth 100000 in
theorem Hd.num_ (h : Hd X m w b d) (hm : m ≤ 4611686018427387904) : Num d := ⟨Nat.le_trans h.num.steps hm, h.num.armed, Nat.le_trans h.num.marks hm⟩
set_option maxRecDepth 100000 in
theorem Hd.more {k : Nat} (h : Hd X m w b d) (hm : m ≤ k) : Hd X k w b d := ⟨h.own, h.xlt, h.fit, h.num.mono hm⟩
set_option maxRecDepth 100000 in
/-- what is new is no block of the disk's: X may grow by it -/
theorem Hd.also (h : Hd X m w b d) (hb : Below w.heap.size w w') (hY : ∀ i, Y i → X i ∨ (w.heap.size ≤ i ∧ i < w'.heap.size)) : Hd Y m w' b d := by
  obtain ⟨⟨F, h1, h2⟩, h3, h4, h5⟩ := h
  refine ⟨⟨F, h1.below hb, fun i hi hy => ?_⟩, fun i hi => ?_, h4, h5⟩
  · obtain ⟨_, _, _, _, _, hc⟩ := h1.core
    have hlt := hc.2.2.2.2.2.2.2.2 i hi
    rcases hY i hy with h | h
    · exact h2 i hi h
    · omega
  · rcases hY i hi with h | h
    · exact Nat.lt_of_lt_of_le (h3 i h) hb.size
    · exact h.2
set_option maxRecDepth 100000 in
theorem Hd.below (h : Hd X m w b d) (hb : Below w.heap.size w w') : Hd X m w' b d := h.also hb fun _ hi => Or.inl hi
set_option maxRecDepth 100000 in
/-- a block of X turns -/
theorem Hd.turn (h : Hd X m w b d) (hk : Keeps X w w') : Hd X m w' b d := by
  obtain ⟨⟨F, h1, h2⟩, h3, h4, h5⟩ := h
  exact ⟨⟨F, h1.keeps hk h2, h2⟩, fun i hi => Nat.lt_of_lt_of_le (h3 i hi) hk.size, h4, h5⟩
set_option maxRecDepth 100000 in
theorem Hd.step (h : Hd X m w b d) {F F' : Nat → Prop} (hF : ∀ i, F i → ¬ X i) (hd : IsDk F' w' b d') (hk : Keeps F w w') (hF' : ∀ i, F' i → F i ∨ w.heap.size ≤ i) (hfit : Fit d') {k : Nat} (hnum : NumTo k d') : Hd X k w' b d' ∧ KeepX X w w' :=
  ⟨⟨⟨F', hd, fun i hi hx => (hF' i hi).elim (fun h => hF i h hx) (fun h2 => by have := h.xlt i hx; omega)⟩, fun i hi => Nat.lt_of_lt_of_le (h.xlt i hi) hk.size, hfit, hnum⟩, hk.mono hF⟩
set_option maxRecDepth 100000 in
theorem KeepX.row (h : KeepX X w w') {base sz n : Nat} {e : TypeId} {v : Value} {xs : List Value} (ho : w.ownsRow base e sz v n xs) (hv : ∀ j, v.ownBlock = some j → X j) : w'.ownsRow base e sz v n xs := own_keeps ho h (fun j e hn => hn (hv j e))

set_option maxRecDepth 100000 in
theorem hread (h : Hd X m w b d) (n : Int) : Calls Try.prog 47 #[.pointer (some ⟨b, 0, none⟩), .int .i64 n] w fun e w' => e = .returned (.tuple #[.string (readD d n).1, .int .i64 (readD d n).2]) ∧ w' = w := by
  obtain ⟨F, h1, _⟩ := h.own
  exact read_any h1 h.fit n
set_option maxRecDepth 100000 in
theorem hsectors (h : Hd X m w b d) : Calls Try.prog 63 #[.pointer (some ⟨b, 0, none⟩)] w fun e w' => e = .returned (.int .i64 (d.stays.length : Int)) ∧ w' = w := by
  obtain ⟨F, h1, _⟩ := h.own
  exact sectors_any h1
set_option maxRecDepth 100000 in
theorem hsteps (h : Hd X m w b d) : Calls Try.prog 31 #[.pointer (some ⟨b, 0, none⟩)] w fun e w' => e = .returned (.int .i64 (d.steps : Int)) ∧ w' = w := by
  obtain ⟨F, h1, _⟩ := h.own
  exact steps_any h1
set_option maxRecDepth 100000 in
theorem hdead (h : Hd X m w b d) : Calls Try.prog 23 #[.pointer (some ⟨b, 0, none⟩)] w fun e w' => e = .returned (.bool d.dead) ∧ w' = w := by
  obtain ⟨F, h1, _⟩ := h.own
  exact dead_any h1
set_option maxRecDepth 100000 in
theorem hwrite (h : Hd X m w b d) (hm : m ≤ 4611686018427387904) (n : Int) (s : ByteArray) : Calls Try.prog 43 #[.pointer (some ⟨b, 0, none⟩), .int .i64 n, .string s] w fun e w' =>
    e = .returned (.int .i64 (writeD d n s).2) ∧ Hd X (m + 1) w' b (writeD d n s).1 ∧ KeepX X w w' := by
  obtain ⟨F, h1, h2⟩ := h.own
  refine (write_any h1 (h.num_ hm) h.fit n s).mono ?_
  rintro e w' ⟨rfl, F', h3, h4, h5⟩
  exact ⟨rfl, h.step h2 h3 h4 h5 (h.fit.write n s) (h.num.write n s)⟩
set_option maxRecDepth 100000 in
theorem hsync (h : Hd X m w b d) (hm : m ≤ 4611686018427387904) : Calls Try.prog 50 #[.pointer (some ⟨b, 0, none⟩)] w fun e w' =>
    e = .returned (.int .i64 (syncD d).2) ∧ Hd X (m + 1) w' b (syncD d).1 ∧ KeepX X w w' := by
  obtain ⟨F, h1, h2⟩ := h.own
  refine (sync_any h1 (h.num_ hm) h.fit).mono ?_
  rintro e w' ⟨rfl, h3, h4⟩
  exact ⟨rfl, h.step h2 h3 h4 (fun i hi => Or.inl hi) h.fit.sync h.num.sync⟩
set_option maxRecDepth 100000 in
theorem hbad (h : Hd X m w b d) (hm : m ≤ 4611686018427387904) (n : Int) (x : Bool) : Calls Try.prog 28 #[.pointer (some ⟨b, 0, none⟩), .int .i64 n, .bool x] w fun e w' =>
    e = .returned (.int .i64 (badD d n x).2) ∧ Hd X (m + 1) w' b (badD d n x).1 ∧ KeepX X w w' := by
  obtain ⟨F, h1, h2⟩ := h.own
  refine (bad_any h1 (h.num_ hm) h.fit n x).mono ?_
  rintro e w' ⟨rfl, h3, h4⟩
  exact ⟨rfl, h.step h2 h3 h4 (fun i hi => Or.inl hi) (h.fit.bad n x) (h.num.bad n x)⟩
set_option maxRecDepth 100000 in
theorem harm (h : Hd X m w b d) (n : Int) (hn : n ≤ 9223372036854775807) (keep : ByteArray) : Calls Try.prog 21 #[.pointer (some ⟨b, 0, none⟩), .int .i64 n, .string keep] w fun e w' =>
    e = .returned (.int .i64 (armD d n keep).2) ∧ Hd X m w' b (armD d n keep).1 ∧ KeepX X w w' := by
  obtain ⟨F, h1, h2⟩ := h.own
  refine (arm_any h1 n keep).mono ?_
  rintro e w' ⟨rfl, h3, h4⟩
  exact ⟨rfl, h.step h2 h3 h4 (fun i hi => Or.inl hi) (h.fit.arm n keep) (h.num.arm n hn keep)⟩
set_option maxRecDepth 100000 in
theorem hcrash (h : Hd X m w b d) (keep : ByteArray) : Calls Try.prog 22 #[.pointer (some ⟨b, 0, none⟩), .string keep] w fun e w' =>
    e = .returned (.int .i64 (crashD d keep).2) ∧ Hd X m w' b (crashD d keep).1 ∧ KeepX X w w' := by
  obtain ⟨F, h1, h2⟩ := h.own
  refine (crash_any h1 h.fit keep).mono ?_
  rintro e w' ⟨rfl, h3, h4⟩
  exact ⟨rfl, h.step h2 h3 h4 (fun i hi => Or.inl hi) (h.fit.crash keep) (h.num.crash keep)⟩
set_option maxRecDepth 100000 in
theorem hrevive (h : Hd X m w b d) : Calls Try.prog 24 #[.pointer (some ⟨b, 0, none⟩)] w fun e w' =>
    e = .returned (.tuple #[]) ∧ Hd X m w' b (reviveD d) ∧ KeepX X w w' := by
  obtain ⟨F, h1, h2⟩ := h.own
  refine (revive_any h1).mono ?_
  rintro e w' ⟨rfl, h3, h4⟩
  exact ⟨rfl, h.step h2 h3 h4 (fun i hi => Or.inl hi) h.fit.revive h.num.revive⟩
set_option maxRecDepth 100000 in
theorem hnew (w : World) (n : Nat) (h1 : 1 ≤ n) (h2 : n ≤ 16384) : Calls Try.prog 37 #[.int .i64 (n : Int)] w fun e w' => ∃ b, e = .returned (.tuple #[.pointer (some ⟨b, 0, none⟩), .int .i64 0]) ∧ Hd (fun i => i < w.heap.size) 0 w' b (newD n) ∧ Below w.heap.size w w' := by
  refine (new_any w n h1 h2).mono ?_
  rintro e w' ⟨F, b, rfl, hd, hF, hb⟩
  exact ⟨b, rfl, ⟨⟨F, hd, fun i hi hx => by have := hF i hi; omega⟩, fun i hi => Nat.lt_of_lt_of_le hi hb.size, newD_fit ⟨h1, h2⟩, NumTo.new n⟩, hb⟩
end
end Go.Proofs.Ytkghlbpkdkonbaa.Disk
/- Clone. -/
namespace Go.Proofs.Ytkghlbpkdkonbaa.Disk
open Go Go.RowKit Go.Maps Mem Go.Shelf

section
variable {w w' : World} {b m : Nat} {L : List (Nat × ByteArray)} {bad : Nat → Bool}
end
section
variable {w : World}
set_option maxRecDepth 100000 in
theorem own_base {base base' n sz : Nat} {e : TypeId} {v : Value} {xs : List Value} (h : w.ownsRow base e sz v n xs) (hb : base' ≤ base) : w.ownsRow base' e sz v n xs := by
  refine ⟨h.1, ?_⟩
  rcases h.2 with h1 | ⟨g, cap, cur, rfl, hg, rest⟩
  · exact Or.inl h1
  · exact Or.inr ⟨g, cap, cur, rfl, Nat.le_trans hb hg, rest⟩
set_option maxRecDepth 100000 in
theorem cells_of_own {n : Nat} {e : TypeId} {base g c : Nat} {us : List Value} (h : w.ownsRow base e 1 (.slice (some ⟨g, 0, none⟩) n c) n us) (j : Nat) (u : Value) (hu : us[j]? = some u) : w.cell? ⟨g, 0 + j, none⟩ = some u := by
  have := h.cells (g := g) rfl j u hu
  rwa [add_lit] at this
end
end Go.Proofs.Ytkghlbpkdkonbaa.Disk
/- Clone: the walk. -/
namespace Go.Proofs.Ytkghlbpkdkonbaa.Disk
open Go Go.RowKit Go.Maps Mem Go.Shelf

def ordI (d : Dk) : List Int := d.L.map fun p => (p.1 : Int)
set_option maxRecDepth 100000 in
theorem ordI_eq (d : Dk) : (d.L.map fun p => Value.int .i64 (p.1 : Int)) = (ordI d).map (Value.int .i64) := by unfold ordI; rw [List.map_map]; rfl
set_option maxRecDepth 100000 in
theorem below_blk {w w' : World} {g : Nat} {t : TypeId} {cs : Array Value} (h : Blk w g t cs) (hb : Below w.heap.size w w') : Blk w' g t cs := h.below hb h.lt
set_option maxRecDepth 100000 in
theorem own_up {w w' : World} {base n sz : Nat} {e : TypeId} {v : Value} {xs : List Value} (h : w.ownsRow base e sz v n xs) (hb : Below w.heap.size w w') : w'.ownsRow base e sz v n xs := own_keeps h (Keeps.of_below (fun _ => False) hb) (fun _ _ h => h)
set_option maxRecDepth 100000 in
theorem drewB' (w : World) : Below w.heap.size w w.drew := (Below.refl _ w).drew
set_option maxRecDepth 100000 in
/-- a store into one's own block leaves a row elsewhere -/
theorem own_far {w : World} {base n sz P i : Nat} {e : TypeId} {v u : Value} {xs : List Value} (h : w.ownsRow base e sz v n xs) (hn : ∀ j, v.ownBlock = some j → j ≠ P) : (w.setCell ⟨P, i, none⟩ u).ownsRow base e sz v n xs :=
  own_keeps h ((Keeps.refl (fun j => j = P) w).put (g := P) (Or.inl rfl) i u) hn
set_option maxRecDepth 100000 in
theorem MapS.far {w : World} {b P i : Nat} {L : List (Nat × ByteArray)} {u : Value} (h : MapS w b L) (hn : b ≠ P) : MapS (w.setCell ⟨P, i, none⟩ u) b L := h.keeps ((Keeps.refl (fun j => j = P) w).put (g := P) (Or.inl rfl) i u) hn
set_option maxRecDepth 100000 in
theorem MapB.far {w : World} {b m P i : Nat} {bad : Nat → Bool} {u : Value} (h : MapB w b m bad) (hn : b ≠ P) : MapB (w.setCell ⟨P, i, none⟩ u) b m bad := h.keeps ((Keeps.refl (fun j => j = P) w).put (g := P) (Or.inl rfl) i u) hn

section
variable {F : Nat → Prop} {w : World} {b : Nat} {d : Dk}
end
end Go.Proofs.Ytkghlbpkdkonbaa.Disk

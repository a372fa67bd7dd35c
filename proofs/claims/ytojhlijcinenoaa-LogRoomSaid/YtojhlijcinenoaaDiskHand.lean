/- The disk's contracts at a law: X: the blocks that are not the disk's and stay. -/
import Derived.Test.YtojhlijcinenoaaDiskWalkJ
import Derived.Test.YtojhlijcinenoaaDiskFitB
namespace Go.Proofs.Ytojhlijcinenoaa.Disk
open Go Go.RowKit Go.Maps Mem

structure Hd (X : Nat → Prop) (m : Nat) (w : World) (b : Nat) (d : Dk) : Prop where
  own : ∃ F, IsDk F w b d ∧ ∀ i, F i → ¬ X i
  xlt : ∀ i, X i → i < w.heap.size
  fit : Fit d
  num : NumTo m d
/-- only what is not of X has turned -/
abbrev KeepX (X : Nat → Prop) (w w' : World) : Prop := Keeps (fun i => ¬ X i) w w'
section
variable {X Y : Nat → Prop} {m : Nat} {w w' w'' : World} {b : Nat} {d d' : Dk}
theorem KeepX.toBelow {B : Nat} (h : KeepX X w w') (hX : ∀ i, i < B → X i) (hB : B ≤ w.heap.size) : Below B w w' := Keeps.toBelow h (fun i hi => Nat.le_of_not_lt fun hlt => hi (hX i hlt)) hB
theorem Hd.mono (h : Hd X m w b d) (hX : ∀ i, Y i → X i) : Hd Y m w b d := by
  obtain ⟨⟨F, h1, h2⟩, h3, h4, h5⟩ := h
  exact ⟨⟨F, h1, fun i hi hy => h2 i hi (hX i hy)⟩, fun i hi => h3 i (hX i hi), h4, h5⟩
theorem Hd.num_ (h : Hd X m w b d) (hm : m ≤ 4611686018427387904) : Num d := ⟨Nat.le_trans h.num.steps hm, h.num.armed, Nat.le_trans h.num.marks hm⟩
theorem Hd.more {k : Nat} (h : Hd X m w b d) (hm : m ≤ k) : Hd X k w b d := ⟨h.own, h.xlt, h.fit, h.num.mono hm⟩
/-- what is new is no block of the disk's: X may grow by it -/
theorem Hd.also (h : Hd X m w b d) (hb : Below w.heap.size w w') (hY : ∀ i, Y i → X i ∨ (w.heap.size ≤ i ∧ i < w'.heap.size)) : Hd Y m w' b d := by
  obtain ⟨⟨F, h1, h2⟩, h3, h4, h5⟩ := h
  refine ⟨⟨F, h1.below hb, fun i hi hy => ?_⟩, fun i hi => ?_, h4, h5⟩
  · obtain ⟨_, _, _, _, _, hc⟩ := h1.core
    have hlt := hc.2.2.2.2.2.2.2.2 i hi
    rcases hY i hy with h | h
    · exact h2 i hi h
    · omega
  · rcases hY i hi with h | h
    · exact Nat.lt_of_lt_of_le (h3 i h) hb.size
    · exact h.2
theorem Hd.below (h : Hd X m w b d) (hb : Below w.heap.size w w') : Hd X m w' b d := h.also hb fun _ hi => Or.inl hi
/-- a block of X turns -/
theorem Hd.turn (h : Hd X m w b d) (hk : Keeps X w w') : Hd X m w' b d := by
  obtain ⟨⟨F, h1, h2⟩, h3, h4, h5⟩ := h
  exact ⟨⟨F, h1.keeps hk h2, h2⟩, fun i hi => Nat.lt_of_lt_of_le (h3 i hi) hk.size, h4, h5⟩
theorem Hd.step (h : Hd X m w b d) {F F' : Nat → Prop} (hF : ∀ i, F i → ¬ X i) (hd : IsDk F' w' b d') (hk : Keeps F w w') (hF' : ∀ i, F' i → F i ∨ w.heap.size ≤ i) (hfit : Fit d') {k : Nat} (hnum : NumTo k d') : Hd X k w' b d' ∧ KeepX X w w' :=
  ⟨⟨⟨F', hd, fun i hi hx => (hF' i hi).elim (fun h => hF i h hx) (fun h2 => by have := h.xlt i hx; omega)⟩, fun i hi => Nat.lt_of_lt_of_le (h.xlt i hi) hk.size, hfit, hnum⟩, hk.mono hF⟩
theorem KeepX.row (h : KeepX X w w') {base sz n : Nat} {e : TypeId} {v : Value} {xs : List Value} (ho : w.ownsRow base e sz v n xs) (hv : ∀ j, v.ownBlock = some j → X j) : w'.ownsRow base e sz v n xs := own_keeps ho h (fun j e hn => hn (hv j e))

theorem hsectors (h : Hd X m w b d) : Calls Try.prog 29 #[.pointer (some ⟨b, 0, none⟩)] w fun e w' => e = .returned (.int .i64 (d.stays.length : Int)) ∧ w' = w := by
  obtain ⟨F, h1, _⟩ := h.own
  exact sectors_any h1
theorem hsteps (h : Hd X m w b d) : Calls Try.prog 7 #[.pointer (some ⟨b, 0, none⟩)] w fun e w' => e = .returned (.int .i64 (d.steps : Int)) ∧ w' = w := by
  obtain ⟨F, h1, _⟩ := h.own
  exact steps_any h1
theorem hwrite (h : Hd X m w b d) (hm : m ≤ 4611686018427387904) (n : Int) (s : ByteArray) : Calls Try.prog 22 #[.pointer (some ⟨b, 0, none⟩), .int .i64 n, .string s] w fun e w' =>
    e = .returned (.int .i64 (writeD d n s).2) ∧ Hd X (m + 1) w' b (writeD d n s).1 ∧ KeepX X w w' := by
  obtain ⟨F, h1, h2⟩ := h.own
  refine (write_any h1 (h.num_ hm) h.fit n s).mono ?_
  rintro e w' ⟨rfl, F', h3, h4, h5⟩
  exact ⟨rfl, h.step h2 h3 h4 h5 (h.fit.write n s) (h.num.write n s)⟩
theorem hsync (h : Hd X m w b d) (hm : m ≤ 4611686018427387904) : Calls Try.prog 24 #[.pointer (some ⟨b, 0, none⟩)] w fun e w' =>
    e = .returned (.int .i64 (syncD d).2) ∧ Hd X (m + 1) w' b (syncD d).1 ∧ KeepX X w w' := by
  obtain ⟨F, h1, h2⟩ := h.own
  refine (sync_any h1 (h.num_ hm) h.fit).mono ?_
  rintro e w' ⟨rfl, h3, h4⟩
  exact ⟨rfl, h.step h2 h3 h4 (fun i hi => Or.inl hi) h.fit.sync h.num.sync⟩
theorem hnew (w : World) (n : Nat) (h1 : 1 ≤ n) (h2 : n ≤ 16384) : Calls Try.prog 10 #[.int .i64 (n : Int)] w fun e w' => ∃ b, e = .returned (.tuple #[.pointer (some ⟨b, 0, none⟩), .int .i64 0]) ∧ Hd (fun i => i < w.heap.size) 0 w' b (newD n) ∧ Below w.heap.size w w' := by
  refine (new_any w n h1 h2).mono ?_
  rintro e w' ⟨F, b, rfl, hd, hF, hb⟩
  exact ⟨b, rfl, ⟨⟨F, hd, fun i hi hx => by have := hF i hi; omega⟩, fun i hi => Nat.lt_of_lt_of_le hi hb.size, newD_fit ⟨h1, h2⟩, NumTo.new n⟩, hb⟩
end
end Go.Proofs.Ytojhlijcinenoaa.Disk

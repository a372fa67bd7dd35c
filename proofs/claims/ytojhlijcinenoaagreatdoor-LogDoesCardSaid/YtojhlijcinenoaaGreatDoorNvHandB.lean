/- The log's Open, and its disk's calls, at a law; a living log's answers. -/
import Derived.Test.YtojhlijcinenoaaGreatDoorNvHand
import Derived.Test.YtojhlijcinenoaaGreatDoorNvWalkH
namespace Go.Proofs.YtojhlijcinenoaaGreatDoor.Nv
open Go Go.RowKit Go.Maps Mem Disk
section
variable {X Y : Nat → Prop} {N m : Nat} {w w' : World} {a b : Nat} {l l' : Lg} {d d' : Dk}
set_option maxRecDepth 100000 in
theorem Hl.hd (h : Hl X N m w a b l d) : Hd X m w b d := by
  obtain ⟨⟨F, ⟨G, v, h1⟩, h2⟩, h3, h4⟩ := h
  exact ⟨⟨G, h1.dk, fun i hi => h2 i (h1.fg i hi)⟩, h3, h4.fit, h4.num⟩
/-- Open at a law -/
def OHPost (X : Nat → Prop) (N m : Nat) (w : World) (b : Nat) (d : Dk) (r : Option Lg × Int) (e : Ending) (w' : World) : Prop :=
  Below w.heap.size w w' ∧ match r.1 with
    | none => e = .returned (.tuple #[.pointer none, .int .i64 r.2])
    | some l => ∃ a, e = .returned (.tuple #[.pointer (some ⟨a, 0, none⟩), .int .i64 0]) ∧ Hl X N m w' a b l d
set_option maxRecDepth 100000 in
theorem hlopen (h : Hd X m w b d) (hN : d.stays.length = N) : Calls Tryz.prog 17 #[.pointer (some ⟨b, 0, none⟩)] w (OHPost X N m w b d (openL d)) := by
  obtain ⟨⟨G, h1, h2⟩, h3, h4, h5⟩ := h
  refine (open_any h1 h4).mono ?_
  intro e w' hp
  obtain ⟨hb, hp⟩ := hp
  refine ⟨hb, ?_⟩
  cases hr : (openL d).1 with
  | none => rw [hr] at hp; exact hp
  | some l =>
    rw [hr] at hp
    obtain ⟨a, F', he, hpl, hF⟩ := hp
    exact ⟨a, he, ⟨F', hpl, fun i hi hx => (hF i hi).elim (fun hg => h2 i hg hx) (fun hle => by have := h3 i hx; omega)⟩, fun i hi => Nat.lt_of_lt_of_le (h3 i hi) hb.size, h4, h5, hN⟩
set_option maxRecDepth 100000 in
/-- a call of the disk's, under the log -/
theorem Hl.on {f m' : Nat} {args : Array Value} {v : Value} (h : Hl X N m w a b l d) (hfn : Fn N m' d') (k : ∀ G, IsDk G w b d → Calls Tryz.prog f args w fun e w' => e = .returned v ∧ ∃ G', IsDk G' w' b d' ∧ Keeps G w w' ∧ ∀ i, G' i → G i ∨ w.heap.size ≤ i) :
    Calls Tryz.prog f args w fun e w' => e = .returned v ∧ Hl X N m' w' a b l d' ∧ KeepX X w w' := by
  obtain ⟨⟨F, ⟨G, v, h1⟩, h2⟩, h3, h4⟩ := h
  refine (k G h1.dk).mono ?_
  rintro e w' ⟨rfl, G', hd, hk, hG⟩
  refine ⟨rfl, ⟨⟨_, (h1.disk hd hk hG).pl, fun i hi hx => ?_⟩, fun i hi => Nat.lt_of_lt_of_le (h3 i hi) hk.size, hfn⟩, hk.mono fun i hi => h2 i (h1.fg i hi)⟩
  rcases hi with hi | hi
  · exact h2 i hi hx
  · rcases hG i hi with hg | hg
    · exact h2 i (h1.fg i hg) hx
    · have := h3 i hx; omega
set_option maxRecDepth 100000 in
theorem hlcrash (h : Hl X N m w a b l d) (keep : ByteArray) : Calls Tryz.prog 13 #[.pointer (some ⟨b, 0, none⟩), .string keep] w fun e w' =>
    e = .returned (.int .i64 (crashD d keep).2) ∧ Hl X N m w' a b l (crashD d keep).1 ∧ KeepX X w w' :=
  h.on ⟨h.fn.fit.crash keep, h.fn.num.crash keep, by unfold crashD; split <;> first | exact h.fn.len | (show (applyK _ _ _ _).length = _; rw [applyK_length]; exact h.fn.len)⟩ fun G hd => (crash_any hd h.fn.fit keep).mono fun _ _ hp => ⟨hp.1, G, hp.2.1, hp.2.2, fun _ hi => Or.inl hi⟩
set_option maxRecDepth 100000 in
theorem hlrevive (h : Hl X N m w a b l d) : Calls Tryz.prog 15 #[.pointer (some ⟨b, 0, none⟩)] w fun e w' =>
    e = .returned (.tuple #[]) ∧ Hl X N m w' a b l (reviveD d) ∧ KeepX X w w' :=
  h.on ⟨h.fn.fit.revive, h.fn.num.revive, h.fn.len⟩ fun G hd => (revive_any hd).mono fun _ _ hp => ⟨hp.1, G, hp.2.1, hp.2.2, fun _ hi => Or.inl hi⟩
set_option maxRecDepth 100000 in
theorem hlarm (h : Hl X N m w a b l d) (n : Int) (hn : n ≤ 9223372036854775807) (keep : ByteArray) : Calls Tryz.prog 9 #[.pointer (some ⟨b, 0, none⟩), .int .i64 n, .string keep] w fun e w' =>
    e = .returned (.int .i64 (armD d n keep).2) ∧ Hl X N m w' a b l (armD d n keep).1 ∧ KeepX X w w' :=
  h.on ⟨h.fn.fit.arm n keep, h.fn.num.arm n hn keep, by unfold armD; split <;> first | exact h.fn.len | (split <;> exact h.fn.len)⟩ fun G hd => (arm_any hd n keep).mono fun _ _ hp => ⟨hp.1, G, hp.2.1, hp.2.2, fun _ hi => Or.inl hi⟩
set_option maxRecDepth 100000 in
theorem hlimage (h : Hl X N m w a b l d) : Calls Tryz.prog 23 #[.pointer (some ⟨b, 0, none⟩)] w fun e w' => e = .returned (.string ⟨(imageD d).toArray⟩) ∧ Below w.heap.size w w' :=
  (himage h.hd).mono fun _ _ hp => ⟨hp.1, hp.2.2⟩
end
end Go.Proofs.YtojhlijcinenoaaGreatDoor.Nv

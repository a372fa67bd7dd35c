/- Both logs side by side at a law. -/
import Derived.Test.YtojhlijcinenoaaGreatDoorNvHandB
import Derived.Test.YtojhlijcinenoaaGreatDoorNvRefF
import Derived.Test.YtojhlijcinenoaaGreatDoorDiskWd
namespace Go.Proofs.YtojhlijcinenoaaGreatDoor.Nv
open Go Go.RowKit Go.Maps Mem Disk
def TL (X : Nat → Prop) (N m : Nat) (w : World) (a b k c : Nat) (l : Lg) (d : Dk) (l' : Lg) (d' : Dk) : Prop :=
  ∃ F G, PL F w a b l d ∧ RL G w k c l' d' ∧ (∀ i, F i → ¬ G i) ∧ (∀ i, F i → ¬ X i) ∧ (∀ i, G i → ¬ X i) ∧ (∀ i, X i → i < w.heap.size) ∧ Fn N m d ∧ Fn N m d'
section
variable {X Y : Nat → Prop} {N m m' : Nat} {w w' : World} {a b k c : Nat} {l l' l2 : Lg} {d d' d2 : Dk}
set_option maxRecDepth 100000 in
theorem TL.more (h : TL X N m w a b k c l d l' d') (hm : m ≤ m') : TL X N m' w a b k c l d l' d' := by
  obtain ⟨F, G, h1, h2, h3, h4, h5, h6, h7, h8⟩ := h
  exact ⟨F, G, h1, h2, h3, h4, h5, h6, h7.more hm, h8.more hm⟩
set_option maxRecDepth 100000 in
theorem TL.also (h : TL X N m w a b k c l d l' d') (hb : Below w.heap.size w w') (hY : ∀ i, Y i → X i ∨ (w.heap.size ≤ i ∧ i < w'.heap.size)) : TL Y N m w' a b k c l d l' d' := by
  obtain ⟨F, G, h1, h2, h3, h4, h5, h6, h7, h8⟩ := h
  refine ⟨F, G, h1.below hb, h2.below hb, h3, fun i hi hy => ?_, fun i hi hy => ?_, fun i hi => ?_, h7, h8⟩
  · have := h1.lt i hi
    rcases hY i hy with h | h
    · exact h4 i hi h
    · omega
  · have := h2.lt i hi
    rcases hY i hy with h | h
    · exact h5 i hi h
    · omega
  · rcases hY i hi with h | h
    · exact Nat.lt_of_lt_of_le (h6 i h) hb.size
    · exact h.2
set_option maxRecDepth 100000 in
theorem TL.below (h : TL X N m w a b k c l d l' d') (hb : Below w.heap.size w w') : TL X N m w' a b k c l d l' d' := h.also hb fun _ hi => Or.inl hi
set_option maxRecDepth 100000 in
theorem TL.sub (h : TL X N m w a b k c l d l' d') (hY : ∀ i, Y i → X i) : TL Y N m w a b k c l d l' d' := h.also (Below.refl _ _) fun i hi => Or.inl (hY i hi)
set_option maxRecDepth 100000 in
/-- a block of X turns -/
theorem TL.turn (h : TL X N m w a b k c l d l' d') (hk : Keeps X w w') : TL X N m w' a b k c l d l' d' := by
  obtain ⟨F, G, h1, h2, h3, h4, h5, h6, h7, h8⟩ := h
  exact ⟨F, G, h1.keeps hk h4, h2.keeps hk h5, h3, h4, h5, fun i hi => Nat.lt_of_lt_of_le (h6 i hi) hk.size, h7, h8⟩
set_option maxRecDepth 100000 in
/-- a call of the first log -/
theorem TL.fst {f : Nat} {args : Array Value} {v : Value} (h : TL X N m w a b k c l d l' d') (hm : m ≤ m') (hfn : Fn N m' d2)
    (kk : ∀ F, PL F w a b l d → Calls Tryz.prog f args w fun e w' => e = .returned v ∧ ∃ F', PL F' w' a b l2 d2 ∧ Keeps F w w' ∧ ∀ i, F' i → F i ∨ w.heap.size ≤ i) :
    Calls Tryz.prog f args w fun e w' => e = .returned v ∧ TL X N m' w' a b k c l2 d2 l' d' ∧ KeepX X w w' := by
  obtain ⟨F, G, h1, h2, h3, h4, h5, h6, h7, h8⟩ := h
  refine (kk F h1).mono ?_
  rintro e w' ⟨rfl, F', q1, q2, q3⟩
  refine ⟨rfl, ⟨F', G, q1, h2.keeps q2 (fun i hg hf => h3 i hf hg), fun i hi hg => ?_, fun i hi hx => ?_, h5, fun i hi => Nat.lt_of_lt_of_le (h6 i hi) q2.size, hfn, h8.more hm⟩, q2.mono h4⟩
  · rcases q3 i hi with h | h
    · exact h3 i h hg
    · have := h2.lt i hg; omega
  · rcases q3 i hi with h | h
    · exact h4 i h hx
    · have := h6 i hx; omega
set_option maxRecDepth 100000 in
/-- a call of the document's log -/
theorem TL.snd {f : Nat} {args : Array Value} {v : Value} (h : TL X N m w a b k c l d l' d') (hm : m ≤ m') (hfn : Fn N m' d2)
    (kk : ∀ G, RL G w k c l' d' → Calls Tryz.prog f args w fun e w' => e = .returned v ∧ ∃ G', RL G' w' k c l2 d2 ∧ Keeps G w w' ∧ ∀ i, G' i → G i ∨ w.heap.size ≤ i) :
    Calls Tryz.prog f args w fun e w' => e = .returned v ∧ TL X N m' w' a b k c l d l2 d2 ∧ KeepX X w w' := by
  obtain ⟨F, G, h1, h2, h3, h4, h5, h6, h7, h8⟩ := h
  refine (kk G h2).mono ?_
  rintro e w' ⟨rfl, G', q1, q2, q3⟩
  refine ⟨rfl, ⟨F, G', h1.keeps q2 (fun i hf hg => h3 i hf hg), q1, fun i hf hi => ?_, h4, fun i hi hx => ?_, fun i hi => Nat.lt_of_lt_of_le (h6 i hi) q2.size, h7.more hm, hfn⟩, q2.mono h5⟩
  · rcases q3 i hi with h | h
    · exact h3 i hf h
    · have := h1.lt i hf; omega
  · rcases q3 i hi with h | h
    · exact h5 i h hx
    · have := h6 i hx; omega
set_option maxRecDepth 100000 in
/-- a call of the disk's, under the log -/
theorem PL.on {F : Nat → Prop} {f : Nat} {args : Array Value} {v : Value} (h : PL F w a b l d) (kk : ∀ G, IsDk G w b d → Calls Tryz.prog f args w fun e w' => e = .returned v ∧ ∃ G', IsDk G' w' b d2 ∧ Keeps G w w' ∧ ∀ i, G' i → G i ∨ w.heap.size ≤ i) :
    Calls Tryz.prog f args w fun e w' => e = .returned v ∧ ∃ F', PL F' w' a b l d2 ∧ Keeps F w w' ∧ ∀ i, F' i → F i ∨ w.heap.size ≤ i := by
  obtain ⟨G, v', h1⟩ := h
  refine (kk G h1.dk).mono ?_
  rintro e w' ⟨rfl, G', q1, q2, q3⟩
  exact ⟨rfl, _, (h1.disk q1 q2 q3).pl, q2.mono h1.fg, fun i hi => hi.elim Or.inl (fun hi => (q3 i hi).imp (h1.fg i) id)⟩
set_option maxRecDepth 100000 in
theorem RL.on {F : Nat → Prop} {f : Nat} {args : Array Value} {v : Value} (h : RL F w a b l d) (kk : ∀ G, IsRk G w b d → Calls Tryz.prog f args w fun e w' => e = .returned v ∧ ∃ G', IsRk G' w' b d2 ∧ Keeps G w w' ∧ ∀ i, G' i → G i ∨ w.heap.size ≤ i) :
    Calls Tryz.prog f args w fun e w' => e = .returned v ∧ ∃ F', RL F' w' a b l d2 ∧ Keeps F w w' ∧ ∀ i, F' i → F i ∨ w.heap.size ≤ i := by
  obtain ⟨G, v', h1⟩ := h
  refine (kk G h1.dk).mono ?_
  rintro e w' ⟨rfl, G', q1, q2, q3⟩
  exact ⟨rfl, _, (h1.disk q1 q2 q3).rl, q2.mono h1.fg, fun i hi => hi.elim Or.inl (fun hi => (q3 i hi).imp (h1.fg i) id)⟩
set_option maxRecDepth 100000 in
theorem Fn.crash (h : Fn N m d) (keep : ByteArray) : Fn N m (crashD d keep).1 :=
  ⟨h.fit.crash keep, h.num.crash keep, by unfold crashD; split <;> first | exact h.len | (show (applyK _ _ _ _).length = _; rw [applyK_length]; exact h.len)⟩
set_option maxRecDepth 100000 in
theorem Fn.revive (h : Fn N m d) : Fn N m (reviveD d) := ⟨h.fit.revive, h.num.revive, h.len⟩
set_option maxRecDepth 100000 in
theorem Fn.arm (h : Fn N m d) (n : Int) (hn : n ≤ 9223372036854775807) (keep : ByteArray) : Fn N m (armD d n keep).1 :=
  ⟨h.fit.arm n keep, h.num.arm n hn keep, by unfold armD; split <;> first | exact h.len | (split <;> exact h.len)⟩
set_option maxRecDepth 100000 in
theorem Fn.bad (h : Fn N m d) (n : Int) (x : Bool) : Fn N (m + 1) (badD d n x).1 :=
  ⟨h.fit.bad n x, h.num.bad n x, by unfold badD; split <;> first | exact h.len | (split <;> exact h.len)⟩
set_option maxRecDepth 100000 in
theorem tappend (h : TL X N m w a b k c l d l' d') (hm : m ≤ 900000) (hz : (enc l.list).size ≤ 64 * halfD d) (hll : l.list.length ≤ 1048575) (r : ByteArray) :
    Calls Tryz.prog 5 #[.pointer (some ⟨a, 0, none⟩), .string r] w fun e w' => e = .returned (.int .i64 (appendL l d r).2.2) ∧ TL X N (m + 30) w' a b k c (appendL l d r).1 (appendL l d r).2.1 l' d' ∧ KeepX X w w' := by
  have hfn : Fn N m d := by obtain ⟨F, G, h1, h2, h3, h4, h5, h6, h7, h8⟩ := h; exact h7
  exact h.fst (Nat.le_add_right _ _) (hfn.append l r) fun F hp => append_any hp hfn.fit hfn.num hm hz hll r
set_option maxRecDepth 100000 in
theorem uappend (h : TL X N m w a b k c l d l' d') (hm : m ≤ 900000) (hz : (enc l'.list).size ≤ 64 * halfD d') (hll : l'.list.length ≤ 1048575) (hg : l'.gen ≤ 1099511627776) (r : ByteArray) :
    Calls Tryz.prog 6 #[.pointer (some ⟨k, 0, none⟩), .string r] w fun e w' => e = .returned (.int .i64 (appendL l' d' r).2.2) ∧ TL X N (m + 30) w' a b k c l d (appendL l' d' r).1 (appendL l' d' r).2.1 ∧ KeepX X w w' := by
  have hfn : Fn N m d' := by obtain ⟨F, G, h1, h2, h3, h4, h5, h6, h7, h8⟩ := h; exact h8
  exact h.snd (Nat.le_add_right _ _) (hfn.append l' r) fun F hp => rappend_any hp hfn.fit hfn.num hm hz hll hg r
set_option maxRecDepth 100000 in
theorem tstart (h : TL X N m w a b k c l d l' d') (hm : m ≤ 900000) (g : Int) :
    Calls Tryz.prog 7 #[.pointer (some ⟨a, 0, none⟩), .int .i64 g] w fun e w' => e = .returned (.int .i64 (startL l d g).2.2) ∧ TL X N (m + 2) w' a b k c (startL l d g).1 (startL l d g).2.1 l' d' ∧ KeepX X w w' := by
  have hfn : Fn N m d := by obtain ⟨F, G, h1, h2, h3, h4, h5, h6, h7, h8⟩ := h; exact h7
  exact h.fst (Nat.le_add_right _ _) (hfn.start l g) fun F hp => start_any hp hfn.fit hfn.num hm g
set_option maxRecDepth 100000 in
theorem ustart (h : TL X N m w a b k c l d l' d') (hm : m ≤ 900000) (g : Int) :
    Calls Tryz.prog 8 #[.pointer (some ⟨k, 0, none⟩), .int .i64 g] w fun e w' => e = .returned (.int .i64 (startL l' d' g).2.2) ∧ TL X N (m + 2) w' a b k c l d (startL l' d' g).1 (startL l' d' g).2.1 ∧ KeepX X w w' := by
  have hfn : Fn N m d' := by obtain ⟨F, G, h1, h2, h3, h4, h5, h6, h7, h8⟩ := h; exact h8
  exact h.snd (Nat.le_add_right _ _) (hfn.start l' g) fun F hp => rstart_any hp hfn.fit hfn.num hm g
set_option maxRecDepth 100000 in
theorem tcrash (h : TL X N m w a b k c l d l' d') (keep : ByteArray) :
    Calls Tryz.prog 13 #[.pointer (some ⟨b, 0, none⟩), .string keep] w fun e w' => e = .returned (.int .i64 (crashD d keep).2) ∧ TL X N m w' a b k c l (crashD d keep).1 l' d' ∧ KeepX X w w' := by
  have hfn : Fn N m d := by obtain ⟨F, G, h1, h2, h3, h4, h5, h6, h7, h8⟩ := h; exact h7
  exact h.fst (Nat.le_refl _) (hfn.crash keep) fun F hp => PL.on hp fun G hd => (crash_any hd hfn.fit keep).mono fun _ _ hp => ⟨hp.1, G, hp.2.1, hp.2.2, fun _ hi => Or.inl hi⟩
set_option maxRecDepth 100000 in
theorem ucrash (h : TL X N m w a b k c l d l' d') (keep : ByteArray) :
    Calls Tryz.prog 14 #[.pointer (some ⟨c, 0, none⟩), .string keep] w fun e w' => e = .returned (.int .i64 (crashD d' keep).2) ∧ TL X N m w' a b k c l d l' (crashD d' keep).1 ∧ KeepX X w w' := by
  have hfn : Fn N m d' := by obtain ⟨F, G, h1, h2, h3, h4, h5, h6, h7, h8⟩ := h; exact h8
  exact h.snd (Nat.le_refl _) (hfn.crash keep) fun F hp => RL.on hp fun G hd => (rcrash_any hd hfn.fit keep).mono fun _ _ hp => ⟨hp.1, G, hp.2.1, hp.2.2, fun _ hi => Or.inl hi⟩
set_option maxRecDepth 100000 in
theorem trevive (h : TL X N m w a b k c l d l' d') :
    Calls Tryz.prog 15 #[.pointer (some ⟨b, 0, none⟩)] w fun e w' => e = .returned (.tuple #[]) ∧ TL X N m w' a b k c l (reviveD d) l' d' ∧ KeepX X w w' := by
  have hfn : Fn N m d := by obtain ⟨F, G, h1, h2, h3, h4, h5, h6, h7, h8⟩ := h; exact h7
  exact h.fst (Nat.le_refl _) hfn.revive fun F hp => PL.on hp fun G hd => (revive_any hd).mono fun _ _ hp => ⟨hp.1, G, hp.2.1, hp.2.2, fun _ hi => Or.inl hi⟩
set_option maxRecDepth 100000 in
theorem urevive (h : TL X N m w a b k c l d l' d') :
    Calls Tryz.prog 16 #[.pointer (some ⟨c, 0, none⟩)] w fun e w' => e = .returned (.tuple #[]) ∧ TL X N m w' a b k c l d l' (reviveD d') ∧ KeepX X w w' := by
  have hfn : Fn N m d' := by obtain ⟨F, G, h1, h2, h3, h4, h5, h6, h7, h8⟩ := h; exact h8
  exact h.snd (Nat.le_refl _) hfn.revive fun F hp => RL.on hp fun G hd => (rrevive_any hd).mono fun _ _ hp => ⟨hp.1, G, hp.2.1, hp.2.2, fun _ hi => Or.inl hi⟩
set_option maxRecDepth 100000 in
theorem tarm (h : TL X N m w a b k c l d l' d') (n : Int) (hn : n ≤ 9223372036854775807) (keep : ByteArray) :
    Calls Tryz.prog 9 #[.pointer (some ⟨b, 0, none⟩), .int .i64 n, .string keep] w fun e w' => e = .returned (.int .i64 (armD d n keep).2) ∧ TL X N m w' a b k c l (armD d n keep).1 l' d' ∧ KeepX X w w' := by
  have hfn : Fn N m d := by obtain ⟨F, G, h1, h2, h3, h4, h5, h6, h7, h8⟩ := h; exact h7
  exact h.fst (Nat.le_refl _) (hfn.arm n hn keep) fun F hp => PL.on hp fun G hd => (arm_any hd n keep).mono fun _ _ hp => ⟨hp.1, G, hp.2.1, hp.2.2, fun _ hi => Or.inl hi⟩
set_option maxRecDepth 100000 in
theorem uarm (h : TL X N m w a b k c l d l' d') (n : Int) (hn : n ≤ 9223372036854775807) (keep : ByteArray) :
    Calls Tryz.prog 10 #[.pointer (some ⟨c, 0, none⟩), .int .i64 n, .string keep] w fun e w' => e = .returned (.int .i64 (armD d' n keep).2) ∧ TL X N m w' a b k c l d l' (armD d' n keep).1 ∧ KeepX X w w' := by
  have hfn : Fn N m d' := by obtain ⟨F, G, h1, h2, h3, h4, h5, h6, h7, h8⟩ := h; exact h8
  exact h.snd (Nat.le_refl _) (hfn.arm n hn keep) fun F hp => RL.on hp fun G hd => (rarm_any hd n keep).mono fun _ _ hp => ⟨hp.1, G, hp.2.1, hp.2.2, fun _ hi => Or.inl hi⟩
set_option maxRecDepth 100000 in
theorem tbad (h : TL X N m w a b k c l d l' d') (hm : m ≤ 900000) (n : Int) (x : Bool) :
    Calls Tryz.prog 11 #[.pointer (some ⟨b, 0, none⟩), .int .i64 n, .bool x] w fun e w' => e = .returned (.int .i64 (badD d n x).2) ∧ TL X N (m + 1) w' a b k c l (badD d n x).1 l' d' ∧ KeepX X w w' := by
  have hfn : Fn N m d := by obtain ⟨F, G, h1, h2, h3, h4, h5, h6, h7, h8⟩ := h; exact h7
  exact h.fst (Nat.le_add_right _ _) (hfn.bad n x) fun F hp => PL.on hp fun G hd => (bad_any hd (hfn.num.num (by omega)) hfn.fit n x).mono fun _ _ hp => ⟨hp.1, G, hp.2.1, hp.2.2, fun _ hi => Or.inl hi⟩
set_option maxRecDepth 100000 in
theorem ubad (h : TL X N m w a b k c l d l' d') (hm : m ≤ 900000) (n : Int) (x : Bool) :
    Calls Tryz.prog 12 #[.pointer (some ⟨c, 0, none⟩), .int .i64 n, .bool x] w fun e w' => e = .returned (.int .i64 (badD d' n x).2) ∧ TL X N (m + 1) w' a b k c l d l' (badD d' n x).1 ∧ KeepX X w w' := by
  have hfn : Fn N m d' := by obtain ⟨F, G, h1, h2, h3, h4, h5, h6, h7, h8⟩ := h; exact h8
  exact h.snd (Nat.le_add_right _ _) (hfn.bad n x) fun F hp => RL.on hp fun G hd => rbad_any hd (by have := hfn.num.marks; omega) hfn.fit n x
end
end Go.Proofs.YtojhlijcinenoaaGreatDoor.Nv

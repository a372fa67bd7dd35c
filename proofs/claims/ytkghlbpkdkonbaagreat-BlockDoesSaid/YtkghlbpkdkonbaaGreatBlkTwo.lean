/- Both volumes side by side at a law. (gen_two.py) -/
import Derived.Test.YtkghlbpkdkonbaaGreatBlkDo
import Derived.Test.YtkghlbpkdkonbaaGreatBlkHand
namespace Go.Proofs.YtkghlbpkdkonbaaGreat.Vl
open Go Go.RowKit Go.Maps Mem Disk Nv
def TV (X : Nat → Prop) (N m : Nat) (w : World) (a b k c : Nat) (v : Vo) (d : Dk) (v' : Vo) (d' : Dk) : Prop :=
  ∃ F G, PV F w a b v d ∧ RV G w k c v' d' ∧ (∀ i, F i → ¬ G i) ∧ (∀ i, F i → ¬ X i) ∧ (∀ i, G i → ¬ X i) ∧ (∀ i, X i → i < w.heap.size) ∧ Nv.Fn N m d ∧ Nv.Fn N m d'
section
variable {X Y : Nat → Prop} {N m m' : Nat} {w w' : World} {a b k c : Nat} {v v' v2 : Vo} {d d' d2 : Dk}
set_option maxRecDepth 100000 in
theorem TV.more (h : TV X N m w a b k c v d v' d') (hm : m ≤ m') : TV X N m' w a b k c v d v' d' := by
  obtain ⟨F, G, h1, h2, h3, h4, h5, h6, h7, h8⟩ := h
  exact ⟨F, G, h1, h2, h3, h4, h5, h6, h7.more hm, h8.more hm⟩
set_option maxRecDepth 100000 in
theorem TV.also (h : TV X N m w a b k c v d v' d') (hb : Below w.heap.size w w') (hY : ∀ i, Y i → X i ∨ (w.heap.size ≤ i ∧ i < w'.heap.size)) : TV Y N m w' a b k c v d v' d' := by
  obtain ⟨F, G, h1, h2, h3, h4, h5, h6, h7, h8⟩ := h
  refine ⟨F, G, h1.below hb, h2.below hb, h3, fun i hi hy => ?_, fun i hi hy => ?_, fun i hi => ?_, h7, h8⟩
  · have := h1.lt i hi
    rcases hY i hy with h | h
    · exact h4 i hi h
    · omega
  · have := h2.lt i hi
    rcases hY i hy with h | h
    · exact h5 i hi h
    · omega
  · rcases hY i hi with h | h
    · exact Nat.lt_of_lt_of_le (h6 i h) hb.size
    · exact h.2
set_option maxRecDepth 100000 in
theorem TV.below (h : TV X N m w a b k c v d v' d') (hb : Below w.heap.size w w') : TV X N m w' a b k c v d v' d' := h.also hb fun _ hi => Or.inl hi
set_option maxRecDepth 100000 in
theorem TV.sub (h : TV X N m w a b k c v d v' d') (hY : ∀ i, Y i → X i) : TV Y N m w a b k c v d v' d' := h.also (Below.refl _ _) fun i hi => Or.inl (hY i hi)
set_option maxRecDepth 100000 in
/-- a block of X turns -/
theorem TV.turn (h : TV X N m w a b k c v d v' d') (hk : Keeps X w w') : TV X N m w' a b k c v d v' d' := by
  obtain ⟨F, G, h1, h2, h3, h4, h5, h6, h7, h8⟩ := h
  exact ⟨F, G, h1.keeps hk h4, h2.keeps hk h5, h3, h4, h5, fun i hi => Nat.lt_of_lt_of_le (h6 i hi) hk.size, h7, h8⟩
set_option maxRecDepth 100000 in
/-- a call of the first log -/
theorem TV.fst {f : Nat} {args : Array Value} {r : Value} (h : TV X N m w a b k c v d v' d') (hm : m ≤ m') (hfn : Nv.Fn N m' d2)
    (kk : ∀ F, PV F w a b v d → Calls Tryz.prog f args w fun e w' => e = .returned r ∧ ∃ F', PV F' w' a b v2 d2 ∧ Keeps F w w' ∧ ∀ i, F' i → F i ∨ w.heap.size ≤ i) :
    Calls Tryz.prog f args w fun e w' => e = .returned r ∧ TV X N m' w' a b k c v2 d2 v' d' ∧ KeepX X w w' := by
  obtain ⟨F, G, h1, h2, h3, h4, h5, h6, h7, h8⟩ := h
  refine (kk F h1).mono ?_
  rintro e w' ⟨rfl, F', q1, q2, q3⟩
  refine ⟨rfl, ⟨F', G, q1, h2.keeps q2 (fun i hg hf => h3 i hf hg), fun i hi hg => ?_, fun i hi hx => ?_, h5, fun i hi => Nat.lt_of_lt_of_le (h6 i hi) q2.size, hfn, h8.more hm⟩, q2.mono h4⟩
  · rcases q3 i hi with h | h
    · exact h3 i h hg
    · have := h2.lt i hg; omega
  · rcases q3 i hi with h | h
    · exact h4 i h hx
    · have := h6 i hx; omega
set_option maxRecDepth 100000 in
/-- a call of the document's log -/
theorem TV.snd {f : Nat} {args : Array Value} {r : Value} (h : TV X N m w a b k c v d v' d') (hm : m ≤ m') (hfn : Nv.Fn N m' d2)
    (kk : ∀ G, RV G w k c v' d' → Calls Tryz.prog f args w fun e w' => e = .returned r ∧ ∃ G', RV G' w' k c v2 d2 ∧ Keeps G w w' ∧ ∀ i, G' i → G i ∨ w.heap.size ≤ i) :
    Calls Tryz.prog f args w fun e w' => e = .returned r ∧ TV X N m' w' a b k c v d v2 d2 ∧ KeepX X w w' := by
  obtain ⟨F, G, h1, h2, h3, h4, h5, h6, h7, h8⟩ := h
  refine (kk G h2).mono ?_
  rintro e w' ⟨rfl, G', q1, q2, q3⟩
  refine ⟨rfl, ⟨F, G', h1.keeps q2 (fun i hf hg => h3 i hf hg), q1, fun i hf hi => ?_, h4, fun i hi hx => ?_, fun i hi => Nat.lt_of_lt_of_le (h6 i hi) q2.size, h7.more hm, hfn⟩, q2.mono h5⟩
  · rcases q3 i hi with h | h
    · exact h3 i hf h
    · have := h1.lt i hf; omega
  · rcases q3 i hi with h | h
    · exact h5 i h hx
    · have := h6 i hx; omega
set_option maxRecDepth 100000 in
theorem PV.on {F : Nat → Prop} {f : Nat} {args : Array Value} {r : Value} (h : PV F w a b v d) (kk : ∀ G, IsDk G w b d → Calls Tryz.prog f args w fun e w' => e = .returned r ∧ ∃ G', IsDk G' w' b d2 ∧ Keeps G w w' ∧ ∀ i, G' i → G i ∨ w.heap.size ≤ i) :
    Calls Tryz.prog f args w fun e w' => e = .returned r ∧ ∃ F', PV F' w' a b v d2 ∧ Keeps F w w' ∧ ∀ i, F' i → F i ∨ w.heap.size ≤ i := by
  obtain ⟨G, H, cc, h1⟩ := h
  refine (kk G h1.dk).mono ?_
  rintro e w' ⟨rfl, G', q1, q2, q3⟩
  exact ⟨rfl, _, (h1.disk q1 q2 q3).pv, q2.mono h1.fg, fun i hi => hi.elim Or.inl (fun hi => (q3 i hi).imp (h1.fg i) id)⟩
set_option maxRecDepth 100000 in
theorem RV.on {F : Nat → Prop} {f : Nat} {args : Array Value} {r : Value} (h : RV F w a b v d) (kk : ∀ G, IsRk G w b d → Calls Tryz.prog f args w fun e w' => e = .returned r ∧ ∃ G', IsRk G' w' b d2 ∧ Keeps G w w' ∧ ∀ i, G' i → G i ∨ w.heap.size ≤ i) :
    Calls Tryz.prog f args w fun e w' => e = .returned r ∧ ∃ F', RV F' w' a b v d2 ∧ Keeps F w w' ∧ ∀ i, F' i → F i ∨ w.heap.size ≤ i := by
  obtain ⟨G, kc, lv, h1⟩ := h
  refine (kk G h1.dk).mono ?_
  rintro e w' ⟨rfl, G', q1, q2, q3⟩
  exact ⟨rfl, _, (h1.disk q1 q2 q3).rv, q2.mono h1.fg, fun i hi => hi.elim Or.inl (fun hi => (q3 i hi).imp (h1.fg i) id)⟩
set_option maxRecDepth 100000 in
theorem fnCrash (h : Nv.Fn N m d) (keep : ByteArray) : Nv.Fn N m (crashD d keep).1 :=
  ⟨h.fit.crash keep, h.num.crash keep, by unfold crashD; split <;> first | exact h.len | (show (applyK _ _ _ _).length = _; rw [applyK_length]; exact h.len)⟩
set_option maxRecDepth 100000 in
theorem fnRevive (h : Nv.Fn N m d) : Nv.Fn N m (reviveD d) := ⟨h.fit.revive, h.num.revive, h.len⟩
set_option maxRecDepth 100000 in
theorem fnArm (h : Nv.Fn N m d) (n : Int) (hn : n ≤ 9223372036854775807) (keep : ByteArray) : Nv.Fn N m (armD d n keep).1 :=
  ⟨h.fit.arm n keep, h.num.arm n hn keep, by unfold armD; split <;> first | exact h.len | (split <;> exact h.len)⟩
set_option maxRecDepth 100000 in
theorem fnBad (h : Nv.Fn N m d) (n : Int) (x : Bool) : Nv.Fn N (m + 1) (badD d n x).1 :=
  ⟨h.fit.bad n x, h.num.bad n x, by unfold badD; split <;> first | exact h.len | (split <;> exact h.len)⟩
set_option maxRecDepth 100000 in
theorem vtwrite (h : TV X N m w a b k c v d v' d') (hm : m ≤ 900000) (n : Int) (p : ByteArray) (hp : p.size ≤ 9223372036854775807) :
    Calls Tryz.prog 7 #[.pointer (some ⟨a, 0, none⟩), .int .i64 n, .string p] w fun e w' => e = .returned (.int .i64 (writeV v d n p).2.2) ∧ TV X N (m + 4) w' a b k c (writeV v d n p).1 (writeV v d n p).2.1 v' d' ∧ KeepX X w w' := by
  have hfn : Nv.Fn N m d := by obtain ⟨F, G, h1, h2, h3, h4, h5, h6, h7, h8⟩ := h; exact h7
  exact h.fst (Nat.le_add_right _ _) (fn_writeV hfn v n p) fun F hp1 => by
    obtain ⟨G, H, cc, h1⟩ := hp1
    exact (vwrite_any h1 hfn.fit hfn.num hm n p hp).mono fun _ _ hp => ⟨hp.1, hp.2⟩
set_option maxRecDepth 100000 in
theorem vuwrite (h : TV X N m w a b k c v d v' d') (hK : Kf v'.L) (hm : m ≤ 900000) (n : Int) (p : ByteArray) (hp : p.size ≤ 9223372036854775807) :
    Calls Tryz.prog 8 #[.pointer (some ⟨k, 0, none⟩), .int .i64 n, .string p] w fun e w' => e = .returned (.int .i64 (writeV v' d' n p).2.2) ∧ TV X N (m + 4) w' a b k c v d (writeV v' d' n p).1 (writeV v' d' n p).2.1 ∧ KeepX X w w' := by
  have hfn : Nv.Fn N m d' := by obtain ⟨F, G, h1, h2, h3, h4, h5, h6, h7, h8⟩ := h; exact h8
  exact h.snd (Nat.le_add_right _ _) (fn_writeV hfn v' n p) fun F hp1 => (rvwrite_any hp1 hK hfn.fit hfn.num hm n p hp).mono fun _ _ hp => ⟨hp.1, hp.2⟩
set_option maxRecDepth 100000 in
theorem vtcommit (h : TV X N m w a b k c v d v' d') (hm : m ≤ 900000) (text : ByteArray) :
    Calls Tryz.prog 9 #[.pointer (some ⟨a, 0, none⟩), .string text] w fun e w' => e = .returned (.int .i64 (commitV v d text).2.2) ∧ TV X N (m + 3) w' a b k c (commitV v d text).1 (commitV v d text).2.1 v' d' ∧ KeepX X w w' := by
  have hfn : Nv.Fn N m d := by obtain ⟨F, G, h1, h2, h3, h4, h5, h6, h7, h8⟩ := h; exact h7
  exact h.fst (Nat.le_add_right _ _) (fn_commitV hfn v text) fun F hp1 => by
    obtain ⟨G, H, cc, h1⟩ := hp1
    exact (commit_any h1 hfn.fit hfn.num hm text).mono fun _ _ hp => ⟨hp.1, hp.2⟩
set_option maxRecDepth 100000 in
theorem vucommit (h : TV X N m w a b k c v d v' d') (hm : m ≤ 900000) (text : ByteArray) :
    Calls Tryz.prog 10 #[.pointer (some ⟨k, 0, none⟩), .string text] w fun e w' => e = .returned (.int .i64 (commitV v' d' text).2.2) ∧ TV X N (m + 3) w' a b k c v d (commitV v' d' text).1 (commitV v' d' text).2.1 ∧ KeepX X w w' := by
  have hfn : Nv.Fn N m d' := by obtain ⟨F, G, h1, h2, h3, h4, h5, h6, h7, h8⟩ := h; exact h8
  exact h.snd (Nat.le_add_right _ _) (fn_commitV hfn v' text) fun F hp1 => (rvcommit_any hp1 hfn.fit hfn.num hm text).mono fun _ _ hp => ⟨hp.1, hp.2⟩
set_option maxRecDepth 100000 in
theorem vtread (h : TV X N m w a b k c v d v' d') (n : Int) :
    Calls Tryz.prog 5 #[.pointer (some ⟨a, 0, none⟩), .int .i64 n] w fun e w' => e = .returned (.tuple #[.string (readV v d n).2.1, .int .i64 (readV v d n).2.2]) ∧ TV X N m w' a b k c (readV v d n).1 d v' d' ∧ KeepX X w w' := by
  have hfn : Nv.Fn N m d := by obtain ⟨F, G, h1, h2, h3, h4, h5, h6, h7, h8⟩ := h; exact h7
  exact h.fst (Nat.le_refl _) hfn fun F hp1 => by
    obtain ⟨G, H, cc, h1⟩ := hp1
    exact vread_any h1 hfn.fit n
set_option maxRecDepth 100000 in
theorem vuread (h : TV X N m w a b k c v d v' d') (hK : Kf v'.L) (hm : m ≤ 900000) (n : Int) :
    Calls Tryz.prog 6 #[.pointer (some ⟨k, 0, none⟩), .int .i64 n] w fun e w' => e = .returned (.tuple #[.string (readV v' d' n).2.1, .int .i64 (readV v' d' n).2.2]) ∧ TV X N m w' a b k c v d (readV v' d' n).1 d' ∧ KeepX X w w' := by
  have hfn : Nv.Fn N m d' := by obtain ⟨F, G, h1, h2, h3, h4, h5, h6, h7, h8⟩ := h; exact h8
  exact h.snd (Nat.le_refl _) hfn fun F hp1 => rvread_any hp1 hK hfn.fit (by have := hfn.num.marks; omega) n
set_option maxRecDepth 100000 in
theorem vtcrash (h : TV X N m w a b k c v d v' d') (keep : ByteArray) :
    Calls Tryz.prog 15 #[.pointer (some ⟨b, 0, none⟩), .string keep] w fun e w' => e = .returned (.int .i64 (crashD d keep).2) ∧ TV X N m w' a b k c v (crashD d keep).1 v' d' ∧ KeepX X w w' := by
  have hfn : Nv.Fn N m d := by obtain ⟨F, G, h1, h2, h3, h4, h5, h6, h7, h8⟩ := h; exact h7
  exact h.fst (Nat.le_refl _) (fnCrash hfn keep) fun F hp => PV.on hp fun G hd => (crash_any hd hfn.fit keep).mono fun _ _ hp => ⟨hp.1, G, hp.2.1, hp.2.2, fun _ hi => Or.inl hi⟩
set_option maxRecDepth 100000 in
theorem vucrash (h : TV X N m w a b k c v d v' d') (keep : ByteArray) :
    Calls Tryz.prog 16 #[.pointer (some ⟨c, 0, none⟩), .string keep] w fun e w' => e = .returned (.int .i64 (crashD d' keep).2) ∧ TV X N m w' a b k c v d v' (crashD d' keep).1 ∧ KeepX X w w' := by
  have hfn : Nv.Fn N m d' := by obtain ⟨F, G, h1, h2, h3, h4, h5, h6, h7, h8⟩ := h; exact h8
  exact h.snd (Nat.le_refl _) (fnCrash hfn keep) fun F hp => RV.on hp fun G hd => (rcrash_any hd hfn.fit keep).mono fun _ _ hp => ⟨hp.1, G, hp.2.1, hp.2.2, fun _ hi => Or.inl hi⟩
set_option maxRecDepth 100000 in
theorem vtrevive (h : TV X N m w a b k c v d v' d') :
    Calls Tryz.prog 17 #[.pointer (some ⟨b, 0, none⟩)] w fun e w' => e = .returned (.tuple #[]) ∧ TV X N m w' a b k c v (reviveD d) v' d' ∧ KeepX X w w' := by
  have hfn : Nv.Fn N m d := by obtain ⟨F, G, h1, h2, h3, h4, h5, h6, h7, h8⟩ := h; exact h7
  exact h.fst (Nat.le_refl _) (fnRevive hfn) fun F hp => PV.on hp fun G hd => (revive_any hd).mono fun _ _ hp => ⟨hp.1, G, hp.2.1, hp.2.2, fun _ hi => Or.inl hi⟩
set_option maxRecDepth 100000 in
theorem vurevive (h : TV X N m w a b k c v d v' d') :
    Calls Tryz.prog 18 #[.pointer (some ⟨c, 0, none⟩)] w fun e w' => e = .returned (.tuple #[]) ∧ TV X N m w' a b k c v d v' (reviveD d') ∧ KeepX X w w' := by
  have hfn : Nv.Fn N m d' := by obtain ⟨F, G, h1, h2, h3, h4, h5, h6, h7, h8⟩ := h; exact h8
  exact h.snd (Nat.le_refl _) (fnRevive hfn) fun F hp => RV.on hp fun G hd => (rrevive_any hd).mono fun _ _ hp => ⟨hp.1, G, hp.2.1, hp.2.2, fun _ hi => Or.inl hi⟩
set_option maxRecDepth 100000 in
theorem vtarm (h : TV X N m w a b k c v d v' d') (n : Int) (hn : n ≤ 9223372036854775807) (keep : ByteArray) :
    Calls Tryz.prog 11 #[.pointer (some ⟨b, 0, none⟩), .int .i64 n, .string keep] w fun e w' => e = .returned (.int .i64 (armD d n keep).2) ∧ TV X N m w' a b k c v (armD d n keep).1 v' d' ∧ KeepX X w w' := by
  have hfn : Nv.Fn N m d := by obtain ⟨F, G, h1, h2, h3, h4, h5, h6, h7, h8⟩ := h; exact h7
  exact h.fst (Nat.le_refl _) (fnArm hfn n hn keep) fun F hp => PV.on hp fun G hd => (arm_any hd n keep).mono fun _ _ hp => ⟨hp.1, G, hp.2.1, hp.2.2, fun _ hi => Or.inl hi⟩
set_option maxRecDepth 100000 in
theorem vuarm (h : TV X N m w a b k c v d v' d') (n : Int) (hn : n ≤ 9223372036854775807) (keep : ByteArray) :
    Calls Tryz.prog 12 #[.pointer (some ⟨c, 0, none⟩), .int .i64 n, .string keep] w fun e w' => e = .returned (.int .i64 (armD d' n keep).2) ∧ TV X N m w' a b k c v d v' (armD d' n keep).1 ∧ KeepX X w w' := by
  have hfn : Nv.Fn N m d' := by obtain ⟨F, G, h1, h2, h3, h4, h5, h6, h7, h8⟩ := h; exact h8
  exact h.snd (Nat.le_refl _) (fnArm hfn n hn keep) fun F hp => RV.on hp fun G hd => (rarm_any hd n keep).mono fun _ _ hp => ⟨hp.1, G, hp.2.1, hp.2.2, fun _ hi => Or.inl hi⟩
set_option maxRecDepth 100000 in
theorem vtbad (h : TV X N m w a b k c v d v' d') (hm : m ≤ 900000) (n : Int) (x : Bool) :
    Calls Tryz.prog 13 #[.pointer (some ⟨b, 0, none⟩), .int .i64 n, .bool x] w fun e w' => e = .returned (.int .i64 (badD d n x).2) ∧ TV X N (m + 1) w' a b k c v (badD d n x).1 v' d' ∧ KeepX X w w' := by
  have hfn : Nv.Fn N m d := by obtain ⟨F, G, h1, h2, h3, h4, h5, h6, h7, h8⟩ := h; exact h7
  exact h.fst (Nat.le_add_right _ _) (fnBad hfn n x) fun F hp => PV.on hp fun G hd => (bad_any hd (hfn.num.num (by omega)) hfn.fit n x).mono fun _ _ hp => ⟨hp.1, G, hp.2.1, hp.2.2, fun _ hi => Or.inl hi⟩
set_option maxRecDepth 100000 in
theorem vubad (h : TV X N m w a b k c v d v' d') (hm : m ≤ 900000) (n : Int) (x : Bool) :
    Calls Tryz.prog 14 #[.pointer (some ⟨c, 0, none⟩), .int .i64 n, .bool x] w fun e w' => e = .returned (.int .i64 (badD d' n x).2) ∧ TV X N (m + 1) w' a b k c v d v' (badD d' n x).1 ∧ KeepX X w w' := by
  have hfn : Nv.Fn N m d' := by obtain ⟨F, G, h1, h2, h3, h4, h5, h6, h7, h8⟩ := h; exact h8
  exact h.snd (Nat.le_add_right _ _) (fnBad hfn n x) fun F hp => RV.on hp fun G hd => rbad_any hd (by have := hfn.num.marks; omega) hfn.fit n x
set_option maxRecDepth 100000 in
theorem vtopen (h : TV X N m w a b k c v d v' d') : Calls Tryz.prog 19 #[.pointer (some ⟨b, 0, none⟩)] w fun e w' => Below w.heap.size w w' ∧ match (openV d).1 with
    | none => e = .returned (.tuple #[.pointer none, .int .i64 (openV d).2]) ∧ TV X N m w' a b k c v d v' d'
    | some v2 => ∃ a2, e = .returned (.tuple #[.pointer (some ⟨a2, 0, none⟩), .int .i64 (openV d).2]) ∧ TV X N m w' a2 b k c v2 d v' d' := by
  have h0 := h
  obtain ⟨F, G, ⟨F1, H1, c1, h1⟩, h2, h3, h4, h5, h6, h7, h8⟩ := h
  refine (vopen_any h1.dk h7.fit).mono ?_
  intro e w' hp
  obtain ⟨hb, hp⟩ := hp
  refine ⟨hb, ?_⟩
  cases hr : (openV d).1 with
  | none =>
    rw [hr] at hp
    exact ⟨hp, h0.below hb⟩
  | some v2 =>
    rw [hr] at hp
    obtain ⟨a2, F', he, hpl, hF⟩ := hp
    refine ⟨a2, he, F', G, hpl, h2.below hb, fun i hi hg => ?_, fun i hi hx => ?_, h5, fun i hi => Nat.lt_of_lt_of_le (h6 i hi) hb.size, h7, h8⟩
    · rcases hF i hi with h | h
      · exact h3 i (h1.fg i h) hg
      · have := h2.lt i hg; omega
    · rcases hF i hi with h | h
      · exact h4 i (h1.fg i h) hx
      · have := h6 i hx; omega
set_option maxRecDepth 100000 in
theorem vuopen (h : TV X N m w a b k c v d v' d') (hm : m ≤ 900000) : Calls Tryz.prog 20 #[.pointer (some ⟨c, 0, none⟩)] w fun e w' => Below w.heap.size w w' ∧ match (openV d').1 with
    | none => e = .returned (.tuple #[.pointer none, .int .i64 (openV d').2]) ∧ TV X N m w' a b k c v d v' d'
    | some v2 => ∃ k2, e = .returned (.tuple #[.pointer (some ⟨k2, 0, none⟩), .int .i64 (openV d').2]) ∧ TV X N m w' a b k2 c v d v2 d' := by
  have h0 := h
  obtain ⟨F, G, h1, ⟨G1, kc, lv, h2⟩, h3, h4, h5, h6, h7, h8⟩ := h
  refine (ropen_any h2.dk h8.fit (by have := h8.num.marks; omega)).mono ?_
  intro e w' hp
  obtain ⟨hb, hp⟩ := hp
  refine ⟨hb, ?_⟩
  cases hr : (openV d').1 with
  | none =>
    rw [hr] at hp
    exact ⟨hp, h0.below hb⟩
  | some v2 =>
    rw [hr] at hp
    obtain ⟨k2, G', he, hpl, hG⟩ := hp
    refine ⟨k2, he, F, G', h1.below hb, hpl, fun i hf hi => ?_, h4, fun i hi hx => ?_, fun i hi => Nat.lt_of_lt_of_le (h6 i hi) hb.size, h7, h8⟩
    · rcases hG i hi with h | h
      · exact h3 i hf (h2.fg i h)
      · have := h1.lt i hf; omega
    · rcases hG i hi with h | h
      · exact h5 i (h2.fg i h) hx
      · have := h6 i hx; omega
set_option maxRecDepth 100000 in
theorem vtimage (h : TV X N m w a b k c v d v' d') : Calls Tryz.prog 25 #[.pointer (some ⟨b, 0, none⟩)] w fun e w' => e = .returned (.string (img d)) ∧ Below w.heap.size w w' := by
  obtain ⟨F, G, ⟨F1, H1, c1, h1⟩, h2, h3, h4, h5, h6, h7, h8⟩ := h
  exact image_any h1.dk h7.fit
set_option maxRecDepth 100000 in
theorem vuimage (h : TV X N m w a b k c v d v' d') : Calls Tryz.prog 26 #[.pointer (some ⟨c, 0, none⟩)] w fun e w' => e = .returned (.string (img d')) ∧ w' = w := by
  obtain ⟨F, G, h1, ⟨G1, kc, lv, h2⟩, h3, h4, h5, h6, h7, h8⟩ := h
  exact rimage_any h2.dk h8.fit
set_option maxRecDepth 100000 in
theorem vtsteps (h : TV X N m w a b k c v d v' d') : Calls Tryz.prog 27 #[.pointer (some ⟨b, 0, none⟩)] w fun e w' => e = .returned (.int .i64 (d.steps : Int)) ∧ w' = w := by
  obtain ⟨F, G, ⟨F1, H1, c1, h1⟩, h2, h3, h4, h5, h6, h7, h8⟩ := h
  exact steps_any h1.dk
set_option maxRecDepth 100000 in
theorem vtroot (h : TV X N m w a b k c v d v' d') : Calls Tryz.prog 24 #[.pointer (some ⟨a, 0, none⟩)] w fun e w' => e = .returned (.tuple #[.string v.text, .int .i64 (v.num : Int)]) ∧ ∃ n, w' = w.drewN n := by
  obtain ⟨F, G, ⟨F1, H1, c1, h1⟩, h2, h3, h4, h5, h6, h7, h8⟩ := h
  exact vroot_any h1
/-- the cells of the document's that the law reads -/
structure UCells (w : World) (k c : Nat) (v' : Vo) (d' : Dk) : Prop where
  text : w.cell? ⟨k, 1, none⟩ = some (.string v'.text)
  num : w.cell? ⟨k, 2, none⟩ = some (.int .i64 (v'.num : Int))
  dead : w.cell? ⟨k, 4, none⟩ = some (.bool v'.dead)
  made : w.cell? ⟨c, 3, none⟩ = some (.int .i64 (d'.steps : Int))
set_option maxRecDepth 100000 in
theorem TV.ucells (h : TV X N m w a b k c v d v' d') : UCells w k c v' d' := by
  obtain ⟨F, G, h1, ⟨G1, kc, lv, h2⟩, h3, h4, h5, h6, h7, h8⟩ := h
  obtain ⟨e0, e1, e2, e3, e4⟩ := h2.cells
  have hm : w.cell? ⟨c, 3, none⟩ = some (.int .i64 (d'.steps : Int)) := by
    obtain ⟨sb, sc, lv, bv, B, hr⟩ := h2.dk
    exact hr.blk.cell 3
  exact ⟨e1, e2, e4, hm⟩
end
end Go.Proofs.YtkghlbpkdkonbaaGreat.Vl

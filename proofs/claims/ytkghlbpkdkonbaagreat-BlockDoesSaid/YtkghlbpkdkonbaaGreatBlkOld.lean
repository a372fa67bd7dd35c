/- The disk's and the volume's Clone beside both volumes; what is done to the old volume behind it. -/
import Derived.Test.YtkghlbpkdkonbaaGreatBlkTwo
import Derived.Test.YtkghlbpkdkonbaaGreatBlkCl
namespace Go.Proofs.YtkghlbpkdkonbaaGreat.Vl
open Go Go.RowKit Go.Maps Mem Disk Nv
section
variable {X Y : Nat → Prop} {N m m' : Nat} {w w' : World} {a b a2 b2 k c : Nat} {v v' vo vo2 : Vo} {d d' e1 e2 : Dk}
/-- the new disk beside the two volumes -/
def DCV (X : Nat → Prop) (N m : Nat) (w : World) (a b b2 k c : Nat) (v : Vo) (d : Dk) (v' : Vo) (d' : Dk) : Prop :=
  ∃ F2, IsDk F2 w b2 d ∧ (∀ i, F2 i → ¬ X i) ∧ TV (fun i => X i ∨ F2 i) N m w a b k c v d v' d'
/-- the old volume, and the new one beside the document's -/
def CLV (X : Nat → Prop) (N m : Nat) (w : World) (a b : Nat) (vo : Vo) (e1 : Dk) (a2 b2 k c : Nat) (v : Vo) (d : Dk) (v' : Vo) (d' : Dk) : Prop :=
  ∃ F0, PV F0 w a b vo e1 ∧ (∀ i, F0 i → ¬ X i) ∧ TV (fun i => X i ∨ F0 i) N m w a2 b2 k c v d v' d' ∧ Nv.Fn N m e1
set_option maxRecDepth 100000 in
theorem vtclone (h : TV X N m w a b k c v d v' d') : Calls Tryz.prog 22 #[.pointer (some ⟨b, 0, none⟩)] w fun e w' =>
    ∃ b2, e = .returned (.pointer (some ⟨b2, 0, none⟩)) ∧ Below w.heap.size w w' ∧ DCV X N m w' a b b2 k c v d v' d' := by
  have h0 := h
  obtain ⟨F, G, ⟨F1, H1, cc, h1⟩, h2, h3, h4, h5, h6, h7, h8⟩ := h
  refine (clone_any h1.dk h7.fit).mono ?_
  rintro e w' ⟨F2, b2, rfl, q1, q2, q3⟩
  refine ⟨b2, rfl, q3, F2, q1, fun i hi hx => ?_, h0.also q3 fun i hi => ?_⟩
  · have := q2 i hi; have := h6 i hx; omega
  · exact hi.imp id fun hi => ⟨q2 i hi, q1.blt i hi⟩
set_option maxRecDepth 100000 in
theorem vvclone (h : DCV X N m w a b b2 k c v d v' d') : Calls Tryz.prog 23 #[.pointer (some ⟨a, 0, none⟩), .pointer (some ⟨b2, 0, none⟩)] w fun e w' =>
    ∃ a2, e = .returned (.pointer (some ⟨a2, 0, none⟩)) ∧ KeepX X w w' ∧ CLV X N m w' a b v d a2 b2 k c v d v' d' := by
  obtain ⟨F2, q1, q2, F, G, ⟨G1, H1, cc, h1⟩, h2, h3, h4, h5, h6, h7, h8⟩ := h
  refine (vclone_any h1 b2).mono ?_
  rintro e w' ⟨u, rfl, a2, c2, H2, rfl, hB, hc2, hH2, ha2, hn, hc1, hk⟩
  have hs := hk.size
  have n2 : ∀ i, F2 i → ¬ H1 i := fun i hi hh => h4 i (h1.fh i hh) (Or.inr hi)
  have old : VC F G1 H1 w' a b cc v d := ⟨h1.dk.keeps hk h1.gh, h1.blk.keeps hk h1.ha, hc1, h1.fa, h1.fg, h1.fh, h1.ga, h1.ha, h1.gh, fun i hi => Nat.lt_of_lt_of_le (h1.lt i hi) hs⟩
  have new : VC (fun i => i = a2 ∨ F2 i ∨ H2 i) F2 H2 w' a2 b2 c2 v d := ⟨q1.keeps hk n2, hB, hc2, Or.inl rfl, fun i hi => Or.inr (Or.inl hi), fun i hi => Or.inr (Or.inr hi), fun hi => by have := q1.blt _ hi; omega, hn, fun i hi hh => by have := q1.blt i hi; have := hH2 i hh; omega, fun i hi => by
    rcases hi with rfl | hi | hi
    · exact hB.lt
    · exact Nat.lt_of_lt_of_le (q1.blt i hi) hs
    · exact hc2.lt i hi⟩
  have keepX : KeepX X w w' := hk.mono fun i hh hx => h4 i (h1.fh i hh) (Or.inl hx)
  refine ⟨a2, rfl, keepX, F, old.pv, fun i hi hx => h4 i hi (Or.inl hx), ⟨_, G, new.pv, h2.keeps hk (fun i hg hh => h3 i (h1.fh i hh) hg), fun i hi hg => ?_, fun i hi hx => ?_, fun i hg hx => ?_, fun i hx => ?_, h7, h8⟩, h7⟩
  · rcases hi with rfl | hi | hi
    · have := h2.lt _ hg; omega
    · exact h5 i hg (Or.inr hi)
    · have := h2.lt _ hg; have := hH2 i hi; omega
  · rcases hx with hx | hx
    · rcases hi with rfl | hi | hi
      · have := h6 _ (Or.inl hx); omega
      · exact q2 i hi hx
      · have := h6 _ (Or.inl hx); have := hH2 i hi; omega
    · rcases hi with rfl | hi | hi
      · have := h1.lt _ hx; omega
      · exact h4 i hx (Or.inr hi)
      · have := h1.lt _ hx; have := hH2 i hi; omega
  · rcases hx with hx | hx
    · exact h5 i hg (Or.inl hx)
    · exact h3 i hx hg
  · rcases hx with hx | hx
    · exact Nat.lt_of_lt_of_le (h6 i (Or.inl hx)) hs
    · exact Nat.lt_of_lt_of_le (h1.lt i hx) hs
set_option maxRecDepth 100000 in
/-- a call of the old one's -/
theorem CLV.old {f : Nat} {args : Array Value} {x : Value} (h : CLV X N m w a b vo e1 a2 b2 k c v d v' d') (hm : m ≤ m') (hfn : Nv.Fn N m' e2)
    (kk : ∀ F, PV F w a b vo e1 → Calls Tryz.prog f args w fun e w' => e = .returned x ∧ ∃ F', PV F' w' a b vo2 e2 ∧ Keeps F w w' ∧ ∀ i, F' i → F i ∨ w.heap.size ≤ i) :
    Calls Tryz.prog f args w fun e w' => e = .returned x ∧ CLV X N m' w' a b vo2 e2 a2 b2 k c v d v' d' ∧ KeepX X w w' := by
  obtain ⟨F0, h0, hx0, ⟨F, G, h1, h2, h3, h4, h5, h6, h7, h8⟩, hf⟩ := h
  refine (kk F0 h0).mono ?_
  rintro e w' ⟨rfl, F', q1, q2, q3⟩
  have hX : ∀ i, F' i → ¬ X i := fun i hi hx => (q3 i hi).elim (fun h => hx0 i h hx) (fun h => by have := h6 i (Or.inl hx); omega)
  refine ⟨rfl, ⟨F', q1, hX, ⟨F, G, h1.keeps q2 (fun i hi h => h4 i hi (Or.inr h)), h2.keeps q2 (fun i hi h => h5 i hi (Or.inr h)), h3, fun i hi hx => ?_, fun i hi hx => ?_, fun i hx => ?_, h7.more hm, h8.more hm⟩, hfn⟩, q2.mono hx0⟩
  · rcases hx with hx | hx
    · exact h4 i hi (Or.inl hx)
    · rcases q3 i hx with h | h
      · exact h4 i hi (Or.inr h)
      · have := h1.lt i hi; omega
  · rcases hx with hx | hx
    · exact h5 i hi (Or.inl hx)
    · rcases q3 i hx with h | h
      · exact h5 i hi (Or.inr h)
      · have := h2.lt i hi; omega
  · rcases hx with hx | hx
    · exact Nat.lt_of_lt_of_le (h6 i (Or.inl hx)) q2.size
    · exact q1.lt i hx
set_option maxRecDepth 100000 in
theorem CLV.fn (h : CLV X N m w a b vo e1 a2 b2 k c v d v' d') : Nv.Fn N m e1 := by
  obtain ⟨F0, h0, hx0, _, hf⟩ := h
  exact hf
set_option maxRecDepth 100000 in
theorem ovwrite (h : CLV X N m w a b vo e1 a2 b2 k c v d v' d') (hm : m ≤ 900000) (n : Int) (p : ByteArray) (hp : p.size ≤ 9223372036854775807) :
    Calls Tryz.prog 7 #[.pointer (some ⟨a, 0, none⟩), .int .i64 n, .string p] w fun e w' => e = .returned (.int .i64 (writeV vo e1 n p).2.2) ∧ CLV X N (m + 4) w' a b (writeV vo e1 n p).1 (writeV vo e1 n p).2.1 a2 b2 k c v d v' d' ∧ KeepX X w w' :=
  h.old (Nat.le_add_right _ _) (fn_writeV h.fn vo n p) fun F hp1 => by
    obtain ⟨G, H, cc, h1⟩ := hp1
    exact (vwrite_any h1 h.fn.fit h.fn.num hm n p hp).mono fun _ _ hp => ⟨hp.1, hp.2⟩
set_option maxRecDepth 100000 in
theorem ovcommit (h : CLV X N m w a b vo e1 a2 b2 k c v d v' d') (hm : m ≤ 900000) (text : ByteArray) :
    Calls Tryz.prog 9 #[.pointer (some ⟨a, 0, none⟩), .string text] w fun e w' => e = .returned (.int .i64 (commitV vo e1 text).2.2) ∧ CLV X N (m + 3) w' a b (commitV vo e1 text).1 (commitV vo e1 text).2.1 a2 b2 k c v d v' d' ∧ KeepX X w w' :=
  h.old (Nat.le_add_right _ _) (fn_commitV h.fn vo text) fun F hp1 => by
    obtain ⟨G, H, cc, h1⟩ := hp1
    exact (commit_any h1 h.fn.fit h.fn.num hm text).mono fun _ _ hp => ⟨hp.1, hp.2⟩
set_option maxRecDepth 100000 in
theorem ovcrash (h : CLV X N m w a b vo e1 a2 b2 k c v d v' d') (keep : ByteArray) :
    Calls Tryz.prog 15 #[.pointer (some ⟨b, 0, none⟩), .string keep] w fun e w' => e = .returned (.int .i64 (crashD e1 keep).2) ∧ CLV X N m w' a b vo (crashD e1 keep).1 a2 b2 k c v d v' d' ∧ KeepX X w w' :=
  h.old (Nat.le_refl _) (fnCrash h.fn keep) fun _ hp => PV.on hp fun G hd => (crash_any hd h.fn.fit keep).mono fun _ _ hp => ⟨hp.1, G, hp.2.1, hp.2.2, fun _ hi => Or.inl hi⟩
set_option maxRecDepth 100000 in
theorem CLV.tv (h : CLV X N m w a b vo e1 a2 b2 k c v d v' d') : TV X N m w a2 b2 k c v d v' d' := by
  obtain ⟨F0, h0, hx0, h1, hf⟩ := h
  exact h1.sub fun i hi => Or.inl hi
set_option maxRecDepth 100000 in
theorem TV.kf (h : TV X N m w a b k c v d v' d') : Kf v.L := by
  obtain ⟨F, G, h1, _⟩ := h
  exact h1.kf
set_option maxRecDepth 100000 in
theorem TV.fn1 (h : TV X N m w a b k c v d v' d') : Nv.Fn N m d := by
  obtain ⟨F, G, h1, h2, h3, h4, h5, h6, h7, h8⟩ := h
  exact h7
set_option maxRecDepth 100000 in
theorem vtdead (h : TV X N m w a b k c v d v' d') : Calls Tryz.prog 28 #[.pointer (some ⟨a, 0, none⟩)] w fun e w' => e = .returned (.bool v.dead) ∧ w' = w := by
  obtain ⟨F, G, ⟨F1, H1, c1, h1⟩, h2, h3, h4, h5, h6, h7, h8⟩ := h
  exact vdead_any h1
set_option maxRecDepth 100000 in
theorem KeepX.blkV {g : Nat} {t : TypeId} {cs : Array Value} (h : Blk w g t cs) (k : KeepX X w w') (hg : X g) : Blk w' g t cs := h.keeps k (fun hn => hn hg)
end
set_option maxRecDepth 100000 in
theorem pickV_ne {st : (ByteArray × Nat) × Int} (h : st.2 ≠ 0) (place : Nat) (r : ByteArray × Int) : (pickV st place r).2 ≠ 0 := by
  unfold pickV
  split
  · assumption
  · exact h
set_option maxRecDepth 100000 in
theorem openV_bad {d : Dk} (h : (openV d).1 = none) : (openV d).2 ≠ 0 := by
  unfold openV at h ⊢
  by_cases h1 : ¬ goodD d
  · rw [if_pos h1]
    decide
  · rw [if_neg h1] at h ⊢
    by_cases h2 : d.dead = true
    · rw [if_pos h2]
      decide
    · rw [if_neg h2] at h ⊢
      have h3 := pickV_ne (pickV_ne (st := ((⟨#[]⟩, 0), 80)) (by decide) 0 (readD d 0)) 1 (readD d 1)
      unfold openP at h ⊢
      split at h
      · next h4 =>
        rw [if_pos h4]
        exact h3
      · cases h
set_option maxRecDepth 100000 in
theorem openV_good {d : Dk} {v : Vo} (h : (openV d).1 = some v) : (openV d).2 = 0 := by
  unfold openV at h ⊢
  by_cases h1 : ¬ goodD d
  · rw [if_pos h1] at h
    cases h
  · rw [if_neg h1] at h ⊢
    by_cases h2 : d.dead = true
    · rw [if_pos h2] at h
      cases h
    · rw [if_neg h2] at h ⊢
      unfold openP at h ⊢
      split at h
      · cases h
      · next h4 => rw [if_neg h4]
end Go.Proofs.YtkghlbpkdkonbaaGreat.Vl

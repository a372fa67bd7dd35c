/- Both volumes at a law: the program's and the document's tell the same. -/
import Derived.Test.YtajlfmnjibgbaaaGreatDoorTrDocF
import Derived.Test.YtajlfmnjibgbaaaGreatDoorTrWy
import Derived.Test.YtajlfmnjibgbaaaGreatDoorTrLw
namespace Go.Proofs.YtajlfmnjibgbaaaGreatDoor.Tr
open Go Go.RowKit Go.Maps Mem Disk Nv Vl
section
variable {X Y G : Nat → Prop} {N m : Nat} {w w' : World} {a k : Nat} {f : Rd}
/-- what a write of any payload leaves -/
def updP (f : Rd) (n : Nat) (p : ByteArray) : Rd := if p.size ≤ 240 then upd f n p else f
def errP (p : ByteArray) : Int := if p.size ≤ 240 then 0 else 83
set_option maxRecDepth 100000 in
theorem writeV_long {v : Vo} {d : Dk} {n : Nat} {p : ByteArray} (hd : Nv.Fn N m d) (h1 : 1 ≤ n) (h2 : n < N / 4) (hp : ¬ p.size ≤ 240) : writeV v d (n : Int) p = (v, d, 83) := by
  unfold writeV
  rw [if_neg (fun hh => hh (show mayV d (n : Int) from ⟨by omega, by rw [fn_blocks hd]; omega⟩)), if_pos (by omega)]
set_option maxRecDepth 100000 in
theorem isv_writeP (h : IsV X N m w a f) (hm : m ≤ 900000) {n : Nat} (h1 : 1 ≤ n) (h2 : n < N / 4) {p : ByteArray} (hp : p.size ≤ 9223372036854775807) :
    Calls Tryz.prog 19 #[.pointer (some ⟨a, 0, none⟩), .int .i64 (n : Int), .string p] w fun e w' => e = .returned (.int .i64 (errP p)) ∧ IsV X N (m + 4) w' a (updP f n p) ∧ KeepX X w w' := by
  unfold errP updP
  by_cases hs : p.size ≤ 240
  · rw [if_pos hs, if_pos hs]
    exact isv_write h hm h1 h2 hs
  · rw [if_neg hs, if_neg hs]
    obtain ⟨b, v, d, cur, h, rfl⟩ := h
    have k := hvwrite h.h hm (n : Int) p hp
    rw [writeV_long h.h.fn h1 h2 hs] at k
    refine k.mono ?_
    rintro e w' ⟨rfl, h3, h4⟩
    exact ⟨rfl, ⟨b, v, d, cur, ⟨h3, h.st, h.coh, h.keys, h.live⟩, rfl⟩, h4⟩
set_option maxRecDepth 100000 in
theorem isd_writeP (h : IsD G N m w k f) (hm : m ≤ 900000) {n : Nat} (h1 : 1 ≤ n) (h2 : n < N / 4) {p : ByteArray} (hp : p.size ≤ 9223372036854775807) :
    Calls Tryz.prog 20 #[.pointer (some ⟨k, 0, none⟩), .int .i64 (n : Int), .string p] w fun e w' => e = .returned (.int .i64 (errP p)) ∧ ∃ G', IsD G' N (m + 4) w' k (updP f n p) ∧ Keeps G w w' ∧ ∀ i, G' i → G i ∨ w.heap.size ≤ i := by
  unfold errP updP
  obtain ⟨c, v, d, cur, q1, q2, q3, q4, q5, q6, rfl⟩ := h
  have kr := rvwrite_any q1 q5 q2.fit q2.num hm (n : Int) p hp
  have hfn := fn_writeV q2 v (n : Int) p
  by_cases hs : p.size ≤ 240
  · rw [if_pos hs, if_pos hs]
    obtain ⟨d', e1, e2⟩ := st_writeV (v := v) q3 q2.len h1 h2 hs q6
    rw [e1] at kr hfn
    refine kr.mono ?_
    rintro e w' ⟨rfl, G', r1, r2, r3⟩
    exact ⟨rfl, G', ⟨c, _, d', _, r1, hfn, e2, q4.write hs, q5.put _ _, q6, (rdC_write h1 h2 hs).symm⟩, r2, r3⟩
  · rw [if_neg hs, if_neg hs]
    rw [writeV_long q2 h1 h2 hs] at kr hfn
    refine kr.mono ?_
    rintro e w' ⟨rfl, G', r1, r2, r3⟩
    exact ⟨rfl, G', ⟨c, v, d, cur, r1, hfn, q3, q4, q5, q6, rfl⟩, r2, r3⟩
/-- both volumes; X: the law's own blocks -/
def BV (X : Nat → Prop) (N m : Nat) (w : World) (a k : Nat) (f : Rd) : Prop := ∃ G, IsV (fun i => X i ∨ G i) N m w a f ∧ IsD G N m w k f ∧ ∀ i, G i → ¬ X i
set_option maxRecDepth 100000 in
theorem BV.xlt (h : BV X N m w a k f) : ∀ i, X i → i < w.heap.size := by
  obtain ⟨G, h1, _⟩ := h
  exact fun i hi => h1.xlt i (Or.inl hi)
set_option maxRecDepth 100000 in
theorem BV.also (h : BV X N m w a k f) (hb : Below w.heap.size w w') (hY : ∀ i, Y i → X i ∨ (w.heap.size ≤ i ∧ i < w'.heap.size)) : BV Y N m w' a k f := by
  obtain ⟨G, h1, h2, h3⟩ := h
  refine ⟨G, h1.also hb fun i hi => ?_, h2.below hb, fun i hg hy => ?_⟩
  · rcases hi with hi | hi
    · exact (hY i hi).imp Or.inl id
    · exact Or.inl (Or.inr hi)
  · rcases hY i hy with q | q
    · exact h3 i hg q
    · have := h2.lt i hg
      omega
set_option maxRecDepth 100000 in
theorem BV.below (h : BV X N m w a k f) (hb : Below w.heap.size w w') : BV X N m w' a k f := h.also hb fun _ hi => Or.inl hi
set_option maxRecDepth 100000 in
theorem IsD.more {c : Nat} (h : IsD G N m w k f) (hc : m ≤ c) : IsD G N c w k f := by
  obtain ⟨b, v, d, cur, q1, q2, q⟩ := h
  exact ⟨b, v, d, cur, q1, q2.more hc, q⟩
set_option maxRecDepth 100000 in
/-- the program's volume turned -/
theorem BV.p {G : Nat → Prop} (h2 : IsD G N m w k f) (hk : KeepX (fun i => X i ∨ G i) w w') : IsD G N m w' k f ∧ KeepX X w w' :=
  ⟨h2.keeps hk (fun _ hg hn => hn (Or.inr hg)), hk.mono fun _ hn hx => hn (Or.inl hx)⟩
set_option maxRecDepth 100000 in
/-- the document's volume turned -/
theorem BV.d {f1 f2 : Rd} {c : Nat} {G G' : Nat → Prop} (h1 : IsV (fun i => X i ∨ G i) N m w a f1) (h2 : IsD G' N c w' k f2) (h3 : ∀ i, G i → ¬ X i) (hk : Keeps G w w') (hG : ∀ i, G' i → G i ∨ w.heap.size ≤ i) :
    IsV (fun i => X i ∨ G' i) N m w' a f1 ∧ (∀ i, G' i → ¬ X i) ∧ KeepX X w w' := by
  refine ⟨h1.step (hk.mono fun i hg => Or.inr hg) fun i hi => ?_, fun i hg hx => ?_, hk.mono fun i hg hx => h3 i hg hx⟩
  · rcases hi with hi | hi
    · exact Or.inl (Or.inl hi)
    · rcases hG i hi with q | q
      · exact Or.inl (Or.inr q)
      · exact Or.inr ⟨q, h2.lt i hi⟩
  · rcases hG i hg with q | q
    · exact h3 i q hx
    · have := h1.xlt i (Or.inl hx)
      omega
set_option maxRecDepth 100000 in
theorem bv_pload (h : BV X N m w a k f) (root size : Int) : Calls Tryz.prog 15 #[srcV a, .agg #[.int .i64 root, .int .i64 size]] w fun e w' =>
    e = .returned (.tuple #[.string (loadV f root size).1, .int .i64 (loadV f root size).2]) ∧ BV X N m w' a k f ∧ KeepX X w w' := by
  obtain ⟨G, h1, h2, h3⟩ := h
  refine (load_any h1 root size).mono ?_
  rintro e w' ⟨rfl, q1, q2⟩
  obtain ⟨r1, r2⟩ := BV.p h2 q2
  exact ⟨rfl, ⟨G, q1, r1, h3⟩, r2⟩
set_option maxRecDepth 100000 in
theorem bv_preach (h : BV X N m w a k f) (root size : Int) : Calls Tryz.prog 16 #[srcV a, .agg #[.int .i64 root, .int .i64 size]] w fun e w' =>
    ∃ v, e = .returned (.tuple #[v, .int .i64 (reachV f root size).2]) ∧ BV (fun i => X i ∨ v.ownBlock = some i) N m w' a k f ∧ w'.ownsRow 0 3 1 v (reachV f root size).1.length (intV (reachV f root size).1) ∧ KeepX X w w' := by
  obtain ⟨G, h1, h2, h3⟩ := h
  refine (reach_any h1 root size).mono ?_
  rintro e w' ⟨v, rfl, q1, q2, q3, q4⟩
  obtain ⟨r1, r2⟩ := BV.p h2 q4
  refine ⟨v, rfl, ⟨G, q1.sub fun i hi => ?_, r1, fun i hg hx => hx.elim (h3 i hg) (fun e => q3 i e (Or.inr hg))⟩, q2, r2⟩
  rcases hi with (hi | hi) | hi
  · exact Or.inl (Or.inl hi)
  · exact Or.inr hi
  · exact Or.inl (Or.inr hi)
set_option maxRecDepth 100000 in
/-- what is not the document's stays -/
theorem bv_out {G : Nat → Prop} (h2 : IsD G N m w k f) : DV (fun i => i < w.heap.size ∧ ¬ G i) N m w k f := ⟨G, h2, fun _ hg hn => hn.2 hg, fun _ hi => hi.1⟩
set_option maxRecDepth 100000 in
theorem bv_in {G : Nat → Prop} (h1 : IsV (fun i => X i ∨ G i) N m w a f) (h3 : ∀ i, G i → ¬ X i) (hd : DV (fun i => i < w.heap.size ∧ ¬ G i) N m w' k f) (hk : KeepX (fun i => i < w.heap.size ∧ ¬ G i) w w') : BV X N m w' a k f ∧ KeepX X w w' := by
  obtain ⟨G', g1, g2, g3⟩ := hd
  have k2 : Keeps G w w' := ⟨hk.os, hk.tape, hk.output, hk.size, fun i hi hn => hk.block i hi (fun hh => hh ⟨hi, hn⟩)⟩
  obtain ⟨r1, r2, r3⟩ := BV.d h1 g1 h3 k2 (fun i hg => by
    by_cases hi : i < w.heap.size
    · refine Or.inl (Classical.byContradiction fun hn => g2 i hg ⟨hi, hn⟩)
    · exact Or.inr (by omega))
  exact ⟨⟨G', r1, g1, r2⟩, r3⟩
set_option maxRecDepth 100000 in
theorem bv_rload (h : BV X N m w a k f) (hm : m ≤ 900000) (root size : Int) : Calls Tryz.prog 21 #[.pointer (some ⟨k, 0, none⟩), .agg #[.int .i64 root, .int .i64 size]] w fun e w' =>
    e = .returned (.tuple #[.string (loadV f root size).1, .int .i64 (loadV f root size).2]) ∧ BV X N m w' a k f ∧ KeepX X w w' := by
  obtain ⟨G, h1, h2, h3⟩ := h
  refine (rload_any (bv_out h2) hm root size).mono ?_
  rintro e w' ⟨rfl, q1, q2⟩
  rw [loadR_eq]
  obtain ⟨r1, r2⟩ := bv_in h1 h3 q1 q2
  exact ⟨rfl, r1, r2⟩
set_option maxRecDepth 100000 in
theorem bv_rreach (h : BV X N m w a k f) (hm : m ≤ 900000) (root size : Int) : Calls Tryz.prog 22 #[.pointer (some ⟨k, 0, none⟩), .agg #[.int .i64 root, .int .i64 size]] w fun e w' =>
    ∃ v, e = .returned (.tuple #[v, .int .i64 (reachV f root size).2]) ∧ w'.ownsRow 0 3 1 v (reachV f root size).1.length (intV (reachV f root size).1) ∧ KeepX X w w' := by
  obtain ⟨G, h1, h2, h3⟩ := h
  refine (rreach_any (bv_out h2) hm root size).mono ?_
  rintro e w' ⟨v, rfl, q1, q2⟩
  rw [reachR_eq] at q1 ⊢
  exact ⟨v, rfl, q1, ⟨q2.os, q2.tape, q2.output, q2.size, fun i hi hn => q2.block i hi (fun hh => hh ⟨hi, fun hg => hn (fun hx => h3 i hg hx)⟩)⟩⟩
set_option maxRecDepth 100000 in
theorem bv_laid {w0 w : World} {a b k c n : Nat} (h8 : 8 ≤ n ∧ n ≤ 300) (h : Bothv w0 w a b k c ⟨E0, 1, [], false⟩ (laidV (4 * n) E0)) (hb : Below w0.heap.size w0 w) : BV (fun i => i < w0.heap.size) (4 * n) 3 w a k (rd0 n) := by
  obtain ⟨F, G, h1, h2, h3, h4, h5⟩ := h
  obtain ⟨_, _, e3, e4, _⟩ := laidV_ok (N := 4 * n) (text := E0) (by omega) (by omega) (by decide)
  refine ⟨G, ⟨b, _, _, _, ⟨⟨⟨F, h1, fun i hi hx => ?_⟩, fun i hi => ?_, e4⟩, e3, Coh.nil, (fun k s hk => by cases hk), rfl⟩, rfl⟩, ⟨c, _, _, _, h2, e4, e3, Coh.nil, ⟨List.Pairwise.nil, Nat.zero_le _⟩, rfl, rfl⟩, fun i hg hx => ?_⟩
  · rcases hx with hx | hx
    · have := h3 i hi
      omega
    · exact h5 i hi hx
  · rcases hi with hi | hi
    · exact Nat.lt_of_lt_of_le hi hb.size
    · exact h2.lt i hi
  · have := h4 i hg
    omega
end
end Go.Proofs.YtajlfmnjibgbaaaGreatDoor.Tr

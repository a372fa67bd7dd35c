/- The volume's contracts at a law: X: the blocks that are not the volume's and stay; laid. -/
import Derived.Test.YtajlfmnjibgbaaaGreatDoorBlkRb
import Derived.Test.YtajlfmnjibgbaaaGreatDoorBlkPl
namespace Go.Proofs.YtajlfmnjibgbaaaGreatDoor.Vl
open Go Go.RowKit Go.Maps Mem Disk Nv
structure Hv (X : Nat → Prop) (N m : Nat) (w : World) (a b : Nat) (v : Vo) (d : Dk) : Prop where
  own : ∃ F, PV F w a b v d ∧ ∀ i, F i → ¬ X i
  xlt : ∀ i, X i → i < w.heap.size
  fn : Nv.Fn N m d
section
variable {X Y : Nat → Prop} {N m : Nat} {w w' : World} {a b : Nat} {v v' : Vo} {d d' : Dk}
set_option maxRecDepth 100000 in
theorem Hv.more {k : Nat} (h : Hv X N m w a b v d) (hk : m ≤ k) : Hv X N k w a b v d := ⟨h.own, h.xlt, h.fn.more hk⟩
set_option maxRecDepth 100000 in
theorem Hv.also (h : Hv X N m w a b v d) (hb : Below w.heap.size w w') (hY : ∀ i, Y i → X i ∨ (w.heap.size ≤ i ∧ i < w'.heap.size)) : Hv Y N m w' a b v d := by
  obtain ⟨⟨F, h1, h2⟩, h3, h4⟩ := h
  refine ⟨⟨F, h1.below hb, fun i hi hy => ?_⟩, fun i hi => ?_, h4⟩
  · have hlt := h1.lt i hi
    rcases hY i hy with h | h
    · exact h2 i hi h
    · omega
  · rcases hY i hi with h | h
    · exact Nat.lt_of_lt_of_le (h3 i h) hb.size
    · exact h.2
set_option maxRecDepth 100000 in
theorem Hv.below (h : Hv X N m w a b v d) (hb : Below w.heap.size w w') : Hv X N m w' a b v d := h.also hb fun _ hi => Or.inl hi
set_option maxRecDepth 100000 in
theorem Hv.sub (h : Hv X N m w a b v d) (hY : ∀ i, Y i → X i) : Hv Y N m w a b v d := by
  obtain ⟨⟨F, h1, h2⟩, h3, h4⟩ := h
  exact ⟨⟨F, h1, fun i hi hy => h2 i hi (hY i hy)⟩, fun i hi => h3 i (hY i hi), h4⟩
set_option maxRecDepth 100000 in
/-- a block of X turns -/
theorem Hv.turn (h : Hv X N m w a b v d) (hk : Keeps X w w') : Hv X N m w' a b v d := by
  obtain ⟨⟨F, h1, h2⟩, h3, h4⟩ := h
  exact ⟨⟨F, h1.keeps hk h2, h2⟩, fun i hi => Nat.lt_of_lt_of_le (h3 i hi) hk.size, h4⟩
set_option maxRecDepth 100000 in
theorem Hv.kf (h : Hv X N m w a b v d) : Kf v.L := by
  obtain ⟨⟨F, h1, h2⟩, h3, h4⟩ := h
  exact h1.kf
def HVPost (X : Nat → Prop) (N m : Nat) (w : World) (a b : Nat) (r : Vo × Dk × Int) (e : Ending) (w' : World) : Prop :=
  e = .returned (.int .i64 r.2.2) ∧ Hv X N m w' a b r.1 r.2.1 ∧ KeepX X w w'
set_option maxRecDepth 100000 in
theorem hand_of {F F' : Nat → Prop} (hF : ∀ i, F i → ¬ X i) (hX : ∀ i, X i → i < w.heap.size) (hp : PV F' w' a b v d) (hk : Keeps F w w') (h3 : ∀ i, F' i → F i ∨ w.heap.size ≤ i) (hfn : Nv.Fn N m d) : Hv X N m w' a b v d ∧ KeepX X w w' :=
  ⟨⟨⟨F', hp, fun i hi hx => (h3 i hi).elim (fun h => hF i h hx) (fun h => by have := hX i hx; omega)⟩, fun i hi => Nat.lt_of_lt_of_le (hX i hi) hk.size, hfn⟩, hk.mono hF⟩
set_option maxRecDepth 100000 in
theorem hvwrite (h : Hv X N m w a b v d) (hm : m ≤ 900000) (n : Int) (p : ByteArray) (hp : p.size ≤ 9223372036854775807) :
    Calls Tryz.prog 19 #[.pointer (some ⟨a, 0, none⟩), .int .i64 n, .string p] w (HVPost X N (m + 4) w a b (writeV v d n p)) := by
  obtain ⟨⟨F, ⟨G, H, c, h1⟩, h2⟩, h3, h4⟩ := h
  refine (vwrite_any h1 h4.fit h4.num hm n p hp).mono ?_
  rintro e w' ⟨rfl, F', h5, h6, h7⟩
  exact ⟨rfl, hand_of h2 h3 h5 h6 h7 (fn_writeV h4 v n p)⟩
set_option maxRecDepth 100000 in
theorem hvread (h : Hv X N m w a b v d) (n : Int) : Calls Tryz.prog 160 #[.pointer (some ⟨a, 0, none⟩), .int .i64 n] w fun e w' =>
    e = .returned (.tuple #[.string (readV v d n).2.1, .int .i64 (readV v d n).2.2]) ∧ Hv X N m w' a b (readV v d n).1 d ∧ KeepX X w w' := by
  obtain ⟨⟨F, ⟨G, H, c, h1⟩, h2⟩, h3, h4⟩ := h
  refine (vread_any h1 h4.fit n).mono ?_
  rintro e w' ⟨rfl, F', h5, h6, h7⟩
  exact ⟨rfl, hand_of h2 h3 h5 h6 h7 h4⟩
end
/-- both volumes, laid anew -/
def Bothv (w0 w : World) (a b k c : Nat) (v : Vo) (d : Dk) : Prop :=
  ∃ F G, PV F w a b v d ∧ RV G w k c v d ∧ (∀ i, F i → w0.heap.size ≤ i) ∧ (∀ i, G i → w0.heap.size ≤ i) ∧ ∀ i, F i → ¬ G i
set_option maxRecDepth 100000 in
theorem goodN {N : Nat} (h1 : 1 ≤ N) (h2 : N ≤ 16384) : goodD (newD N) ↔ 32 ≤ N := by
  unfold goodD blocksD
  rw [(Nv.Fn.new (n := N) h1 h2).len]
  omega
set_option maxRecDepth 100000 in
theorem Bothv.hand {w0 w : World} {a b k c N m : Nat} {v : Vo} {d : Dk} (h : Bothv w0 w a b k c v d) (hf : Nv.Fn N m d) (hb : Below w0.heap.size w0 w) : Hv (fun i => i < w0.heap.size) N m w a b v d := by
  obtain ⟨F, G, h1, h2, h3, h4, h5⟩ := h
  exact ⟨⟨F, h1, fun i hi hx => Nat.lt_irrefl _ (Nat.lt_of_lt_of_le hx (h3 i hi))⟩, fun i hi => Nat.lt_of_lt_of_le hi hb.size, hf⟩
end Go.Proofs.YtajlfmnjibgbaaaGreatDoor.Vl
/- The block laws' fixed. -/
namespace Go.Proofs.YtajlfmnjibgbaaaGreatDoor.Vl
open Go Go.RowKit Go.Maps Mem Disk Nv
section
variable {X Y : Nat → Prop} {N m : Nat} {w w' : World} {a b : Nat} {v v' : Vo} {d d' : Dk} {cur : Nat → ByteArray}
/-- a living volume at a law: what its sectors are; what is kept is right -/
structure Hs (X : Nat → Prop) (N m : Nat) (w : World) (a b : Nat) (v : Vo) (d : Dk) (cur : Nat → ByteArray) : Prop where
  h : Hv X N m w a b v d
  st : St d N cur (fun _ => false)
  coh : Coh cur v.L
  keys : ∀ k s, find v.L k = some s → 1 ≤ k
  live : v.dead = false
set_option maxRecDepth 100000 in
theorem Hs.below (h : Hs X N m w a b v d cur) (hb : Below w.heap.size w w') : Hs X N m w' a b v d cur := ⟨h.h.below hb, h.st, h.coh, h.keys, h.live⟩
set_option maxRecDepth 100000 in
theorem Hs.also (h : Hs X N m w a b v d cur) (hb : Below w.heap.size w w') (hY : ∀ i, Y i → X i ∨ (w.heap.size ≤ i ∧ i < w'.heap.size)) : Hs Y N m w' a b v d cur := ⟨h.h.also hb hY, h.st, h.coh, h.keys, h.live⟩
set_option maxRecDepth 100000 in
theorem Hs.sub (h : Hs X N m w a b v d cur) (hY : ∀ i, Y i → X i) : Hs Y N m w a b v d cur := ⟨h.h.sub hY, h.st, h.coh, h.keys, h.live⟩
set_option maxRecDepth 100000 in
theorem Hs.turn (h : Hs X N m w a b v d cur) (hk : Keeps X w w') : Hs X N m w' a b v d cur := ⟨h.h.turn hk, h.st, h.coh, h.keys, h.live⟩
set_option maxRecDepth 100000 in
theorem Hs.more {k : Nat} (h : Hs X N m w a b v d cur) (hk : m ≤ k) : Hs X N k w a b v d cur := ⟨h.h.more hk, h.st, h.coh, h.keys, h.live⟩
set_option maxRecDepth 100000 in
theorem hswrite (h : Hs X N m w a b v d cur) (hm : m ≤ 900000) {n : Nat} (h1 : 1 ≤ n) (h2 : n < N / 4) {p : ByteArray} (hp : p.size ≤ 240) :
    Calls Tryz.prog 19 #[.pointer (some ⟨a, 0, none⟩), .int .i64 (n : Int), .string p] w fun e w' => e = .returned (.int .i64 0) ∧ ∃ d', Hs X N (m + 4) w' a b { v with L := putK v.L n p } d' (curW cur (frameB p) n 0 4) ∧ KeepX X w w' := by
  obtain ⟨d', e1, e2⟩ := st_writeV h.st h.h.fn.len h1 h2 hp h.live
  have k := hvwrite h.h hm (n : Int) p (by omega)
  rw [e1] at k
  refine k.mono ?_
  rintro e w' ⟨rfl, h3, h4⟩
  exact ⟨rfl, d', ⟨h3, e2, h.coh.write hp, fun j s hj => (find_put hj).elim (fun q => by rw [q.1]; exact h1) (fun q => h.keys j s q.2), h.live⟩, h4⟩
set_option maxRecDepth 100000 in
theorem hsread (h : Hs X N m w a b v d cur) {n : Nat} (h1 : 1 ≤ n) (h2 : n < N / 4) :
    Calls Tryz.prog 160 #[.pointer (some ⟨a, 0, none⟩), .int .i64 (n : Int)] w fun e w' => e = .returned (.tuple #[.string (unframeV (blkC cur n)).1, .int .i64 (unframeV (blkC cur n)).2]) ∧ ∃ L', Hs X N m w' a b { v with L := L' } d cur ∧ KeepX X w w' := by
  obtain ⟨L', e1, e2, e3⟩ := st_readV h.st h.h.fn.len h.coh h.live h1 h2
  have k := hvread h.h (n : Int)
  rw [e1] at k
  refine k.mono ?_
  rintro e w' ⟨rfl, h3, h4⟩
  exact ⟨rfl, L', ⟨h3, h.st, e2, fun j s hj => (e3 j s hj).elim (fun q => by rw [q]; exact h1) (fun ⟨t, q⟩ => h.keys j t q), h.live⟩, h4⟩
end
set_option maxRecDepth 100000 in
theorem laid_hs {w0 w : World} {a b k c N : Nat} {text : ByteArray} (h1 : 32 ≤ N) (h2 : N ≤ 16384) (ht : text.size ≤ 40) (h : Bothv w0 w a b k c ⟨text, 1, [], false⟩ (laidV N text)) (hb : Below w0.heap.size w0 w) :
    Hs (fun i => i < w0.heap.size) N 3 w a b ⟨text, 1, [], false⟩ (laidV N text) (cur0 text) := by
  obtain ⟨_, _, e3, e4, _⟩ := laidV_ok h1 h2 ht
  exact ⟨h.hand e4 hb, e3, Coh.nil, (fun k s hk => by cases hk), rfl⟩
end Go.Proofs.YtajlfmnjibgbaaaGreatDoor.Vl

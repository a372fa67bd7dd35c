/- Store, Load, Reach at a law: a volume beside a pool of no used blocks, laid in the law's own world. -/
import Derived.Test.YtajlfmnjibgbaaaGreatDoorTrStoreW
import Derived.Test.YtajlfmnjibgbaaaGreatDoorBlkHf
namespace Go.Proofs.YtajlfmnjibgbaaaGreatDoor.Tr
open Go Go.RowKit Go.Maps Mem Disk Nv Vl
abbrev E0 : ByteArray := ⟨#[]⟩
/-- Y: the law's own blocks, that stay -/
structure LV (w0 : World) (Y : Nat → Prop) (m : Nat) (w : World) (a g : Nat) (f : Rd) (B j : Nat) : Prop where
  vp : VP (fun i => i < w0.heap.size ∨ Y i ∨ i = g) (4 * B) m w a f g E0 B j
  gb : w0.heap.size ≤ g
  yg : ¬ Y g
  bl : Below w0.heap.size w0 w
  jl : j ≤ (Alloc.ord E0 B 1).length
section
variable {w0 w w' : World} {Y Z : Nat → Prop} {m a g B j : Nat} {f : Rd} {had data : ByteArray} {was : List (List Nat)}
set_option maxRecDepth 100000 in
theorem LV.lt (h : LV w0 Y m w a g f B j) : g < w.heap.size := h.vp.p.lt
set_option maxRecDepth 100000 in
theorem LV.below (h : LV w0 Y m w a g f B j) (hb : Below w.heap.size w w') : LV w0 Y m w' a g f B j := ⟨h.vp.below hb, h.gb, h.yg, h.bl.trans (hb.mono h.bl.size), h.jl⟩
set_option maxRecDepth 100000 in
theorem LV.more {k : Nat} (h : LV w0 Y m w a g f B j) (hk : m ≤ k) : LV w0 Y k w a g f B j := ⟨h.vp.more hk, h.gb, h.yg, h.bl, h.jl⟩
set_option maxRecDepth 100000 in
theorem LV.sub (h : LV w0 Y m w a g f B j) (hs : ∀ i, Z i → Y i) : LV w0 Z m w a g f B j :=
  ⟨h.vp.sub (fun i hi => hi.imp id (fun q => q.imp (hs i) id)) (Or.inr (Or.inr rfl)), h.gb, fun hz => h.yg (hs g hz), h.bl, h.jl⟩
set_option maxRecDepth 100000 in
/-- new blocks are kept, too -/
theorem LV.also (h : LV w0 Y m w a g f B j) (hb : Below w.heap.size w w') (hZ : ∀ i, Z i → Y i ∨ (w.heap.size ≤ i ∧ i < w'.heap.size)) : LV w0 Z m w' a g f B j :=
  ⟨h.vp.also hb (fun i hi => by
    rcases hi with hi | hi | hi
    · exact Or.inl (Or.inl hi)
    · exact (hZ i hi).imp (fun q => Or.inr (Or.inl q)) id
    · exact Or.inl (Or.inr (Or.inr hi))) (Or.inr (Or.inr rfl)), h.gb, fun hz => by
    rcases hZ g hz with q | q
    · exact h.yg q
    · have := h.lt; omega, h.bl.trans (hb.mono h.bl.size), h.jl⟩
set_option maxRecDepth 100000 in
/-- what is free, now and later -/
theorem free_mem {n : Nat} (hB : 1 ≤ B) : n ∈ freeL E0 B j → 1 ≤ n ∧ n < B := fun h => by
  have := (Alloc.ord_mem (U := E0) (B := B) (f := 1) ⟨Nat.le_refl _, hB⟩).1 (List.mem_of_mem_drop h)
  exact ⟨this.1, this.2.1⟩
/-- bytes were stored: what there is then -/
structure Stored (f f' : Rd) (had : ByteArray) (was : List (List Nat)) (data : ByteArray) (B j j' : Nat) (nums : List (List Nat)) (T : List Nat) : Prop where
  r : StoreR f had was data f' nums T
  ok : TreeOk f' data nums
  nd : T.Nodup
  free : freeL E0 B j = T ++ freeL E0 B j'
  out : ∀ n ∈ T, n ∉ was.flatten
  mem : ∀ n ∈ nums.flatten, n ∈ T ∨ n ∈ was.flatten
  apart : ∀ n ∈ nums.flatten, n ∉ freeL E0 B j'
set_option maxRecDepth 100000 in
theorem Stored.small {f' : Rd} {j' : Nat} {nums : List (List Nat)} {T : List Nat} (h : Stored f f' had was data B j j' nums T) (hB : 8 ≤ B ∧ B ≤ 300) : ∀ n ∈ T, 1 ≤ n ∧ n < B := fun n hn => by
  refine free_mem (j := j) (by omega) ?_
  rw [h.free]
  exact List.mem_append_left _ hn
set_option maxRecDepth 100000 in
theorem Stored.left {f' : Rd} {j' : Nat} {nums : List (List Nat)} {T : List Nat} (h : Stored f f' had was data B j j' nums T) : (freeL E0 B j).length = T.length + (freeL E0 B j').length := by
  have := congrArg List.length h.free
  rwa [List.length_append] at this
set_option maxRecDepth 100000 in
theorem lv_load (h : LV w0 Y m w a g f B j) (root size : Int) : Calls Tryz.prog 15 #[srcV a, .agg #[.int .i64 root, .int .i64 size]] w fun e w' =>
    e = .returned (.tuple #[.string (loadV f root size).1, .int .i64 (loadV f root size).2]) ∧ LV w0 Y m w' a g f B j ∧ Keeps (fun i => ¬ Y i) w w' := by
  refine (load_any h.vp.v root size).mono ?_
  rintro e w' ⟨rfl, h1, h2⟩
  obtain ⟨U', q1, q2⟩ := h.vp.p
  exact ⟨rfl, ⟨⟨h1, ⟨U', Blk.keeps q1 h2 (fun hn => hn (Or.inr (Or.inr rfl))), q2⟩, Or.inr (Or.inr rfl)⟩, h.gb, h.yg, h.bl.trans (h2.toBelow (fun i hi => Or.inl hi) h.bl.size), h.jl⟩, h2.mono fun i hi hy => hi (Or.inr (Or.inl hy))⟩
set_option maxRecDepth 100000 in
theorem lv_reach (h : LV w0 Y m w a g f B j) (root size : Int) : Calls Tryz.prog 16 #[srcV a, .agg #[.int .i64 root, .int .i64 size]] w fun e w' =>
    ∃ v, e = .returned (.tuple #[v, .int .i64 (reachV f root size).2]) ∧ LV w0 (fun i => Y i ∨ v.ownBlock = some i) m w' a g f B j ∧ w'.ownsRow 0 3 1 v (reachV f root size).1.length (intV (reachV f root size).1) ∧ (∀ i, v.ownBlock = some i → ¬ Y i) ∧ Keeps (fun i => ¬ Y i) w w' := by
  refine (reach_any h.vp.v root size).mono ?_
  rintro e w' ⟨v, rfl, h1, h2, h3, h4⟩
  obtain ⟨U', q1, q2⟩ := h.vp.p
  refine ⟨v, rfl, ⟨⟨h1.sub fun i hi => ?_, ⟨U', Blk.keeps q1 h4 (fun hn => hn (Or.inr (Or.inr rfl))), q2⟩, Or.inr (Or.inr rfl)⟩, h.gb, fun hg => hg.elim h.yg (fun e => h3 g e (Or.inr (Or.inr rfl))), h.bl.trans (h4.toBelow (fun i hi => Or.inl hi) h.bl.size), h.jl⟩, h2, fun i e hy => h3 i e (Or.inr (Or.inl hy)), h4.mono fun i hi hy => hi (Or.inr (Or.inl hy))⟩
  rcases hi with hi | (hi | hi) | hi
  · exact Or.inl (Or.inl hi)
  · exact Or.inl (Or.inr (Or.inl hi))
  · exact Or.inr hi
  · exact Or.inl (Or.inr (Or.inr hi))
set_option maxRecDepth 100000 in
theorem lv_left (h : LV w0 Y m w a g f B j) : Calls Tryz.prog 14 #[.pointer (some ⟨g, 0, none⟩)] w fun e w' => e = .returned (.int .i64 ((freeL E0 B j).length : Int)) ∧ w' = w := by
  have := Alloc.left_at E0 B 1 j g w h.vp.p
  rw [show (Alloc.ord E0 B 1).length - j = (freeL E0 B j).length from List.length_drop.symm] at this
  exact this
end
end Go.Proofs.YtajlfmnjibgbaaaGreatDoor.Tr
/- The tree's laws: laid (two volumes, formatted), bytes (a beginning), a volume beside a pool, laid. -/
namespace Go.Proofs.YtajlfmnjibgbaaaGreatDoor.Tr
open Go Go.RowKit Go.Maps Mem Disk Nv Vl
set_option maxRecDepth 100000 in
set_option maxHeartbeats 4000000 in
theorem laid_both (n : Nat) (h8 : 8 ≤ n ∧ n ≤ 300) (w : World) : Calls Tryz.prog 10 #[.int .i64 (n : Int)] w fun e w' =>
    ∃ a b k c, e = .returned (.tuple #[.pointer (some ⟨a, 0, none⟩), .pointer (some ⟨k, 0, none⟩)]) ∧ Bothv w w' a b k c ⟨E0, 1, [], false⟩ (laidV (4 * n) E0) ∧ Below w.heap.size w w' := by
  obtain ⟨N, hN⟩ : ∃ N, N = 4 * n := ⟨_, rfl⟩
  rw [← hN]
  have hmm : max 8 (min (n : Int) 300) = (n : Int) := by omega
  have e3 : 4 * (n : Int) = (N : Int) := by omega
  have e3w : IntKind.i64.wrap (4 * (n : Int)) = (N : Int) := by rw [e3]; exact IntWalk.i64_in _ (by omega)
  have hN1 : 1 ≤ N := by omega
  have hN2 : N ≤ 1200 := by omega
  have h32 : 32 ≤ N := by omega
  clear hN h8
  have n1 := Lib.hid (fun W => new_any W N hN1 (by omega))
  have n2 := Lib.hid (fun W => rnew_any W N hN1 (by omega))
  have hf := Nv.Fn.new (n := N) hN1 (by omega)
  obtain ⟨z1, z2, _⟩ := laidV_ok (text := E0) h32 (by omega) (by decide)
  have hgood := (goodN hN1 (by omega)).2 h32
  have kn := fun G W b (h : IsDk G W b (newD N)) => format_yes h hf.fit hf.num (by omega) E0 hgood (by decide) z1 (by rw [z2])
  have kr := fun G W b (h : IsRk G W b (newD N)) => rformat_yes h hf.fit hf.num (by omega) E0 hgood (by decide) z1 (by rw [z2])
  rw [z2] at kn kr
  replace kn := Lib.hid kn
  replace kr := Lib.hid kr
  clear h32 hN1 hN2 hf z1 z2 hgood
  go_enter Tryz.func10, Tryz.ntmps10
  go_wp2_with fail
  refine (n1.out _).mono ?_
  rintro e w1 ⟨F, b, rfl, hd, hF, hb⟩
  replace hd := Lib.hid hd
  replace hF := Lib.hid hF
  replace hb := Lib.hid hb
  go_wp2_with fail
  refine (n2.out _).mono ?_
  rintro e w2 ⟨G, c, rfl, hr, hG, hb2⟩
  have hd2 := Lib.hid (hd.out.below hb2)
  have hb3 := Lib.hid (hb.out.trans (hb2.mono hb.out.size))
  have hFG := Lib.hid (fun i (hi : F i) (hg : G i) => Nat.lt_irrefl _ (Nat.lt_of_lt_of_le (hd.out.blt i hi) (hG i hg)))
  have hG2 := Lib.hid (fun i (hi : G i) => Nat.le_trans hb.out.size (hG i hi))
  replace hr := Lib.hid hr
  clear hd hG hb hb2 n1 n2 hmm e3 e3w
  go_wp2_with fail
  refine (kn.out _ _ _ hd2.out).mono ?_
  rintro e w3 ⟨a, F3, rfl, hp, kp, hF3⟩
  have hr3 := Lib.hid (hr.out.keeps kp (fun i hi hf => hFG.out i hf hi))
  have hb4 := Lib.hid (hb3.out.trans (Keeps.toBelow kp hF.out hb3.out.size))
  have hFG3 := Lib.hid (fun i (hi : F3 i) (hg : G i) => (hF3 i hi).elim (fun h => hFG.out i h hg) (fun h => Nat.lt_irrefl _ (Nat.lt_of_lt_of_le (hr.out.lt i hg) h)))
  have hF4 := Lib.hid (fun i (hi : F3 i) => (hF3 i hi).elim (fun h => hF.out i h) (fun h => Nat.le_trans hb3.out.size h))
  replace hp := Lib.hid hp
  clear hr kp hb3 hF3 hFG hF hd2 kn
  go_wp2_with fail
  refine (kr.out _ _ _ hr3.out).mono ?_
  rintro e w5 ⟨k, G5, rfl, hq, kq, hG5⟩
  have hp5 := Lib.hid (hp.out.keeps kq (fun i hi hg => hFG3.out i hi hg))
  have hb5 := Lib.hid (hb4.out.trans (Keeps.toBelow kq hG2.out hb4.out.size))
  have hFG5 := Lib.hid (fun i (hi : F3 i) (hg : G5 i) => (hG5 i hg).elim (fun h => hFG3.out i hi h) (fun h => Nat.lt_irrefl _ (Nat.lt_of_lt_of_le (hp.out.lt i hi) h)))
  have hG6 := Lib.hid (fun i (hi : G5 i) => (hG5 i hi).elim (fun h => hG2.out i h) (fun h => Nat.le_trans hb4.out.size h))
  replace hq := Lib.hid hq
  clear hp kq hb4 hG5 hFG3 hG2 hr3 kr
  go_wp2_with fail
  go_ret2
  exact ⟨a, b, k, c, rfl, ⟨F3, G5, hp5.out, hq.out, hF4.out, hG6.out, hFG5.out⟩, hb5.out⟩
/-- what a volume that was just laid tells -/
abbrev rd0 (n : Nat) : Rd := rdC (4 * n) (cur0 E0)
set_option maxRecDepth 100000 in
theorem isv_laid {w0 w : World} {a b k c n : Nat} (h8 : 8 ≤ n ∧ n ≤ 300) (h : Bothv w0 w a b k c ⟨E0, 1, [], false⟩ (laidV (4 * n) E0)) (hb : Below w0.heap.size w0 w) : IsV (fun i => i < w0.heap.size) (4 * n) 3 w a (rd0 n) :=
  ⟨b, _, _, _, laid_hs (by omega) (by omega) (by decide) h hb, rfl⟩
set_option maxRecDepth 100000 in
theorem new_pool (n : Nat) (h8 : 8 ≤ n ∧ n ≤ 300) (w : World) : Calls Tryz.prog 11 #[.string ⟨#[]⟩, .int .i64 (n : Int), .int .i64 1] w fun e w' => ∃ g, e = .returned (.tuple #[.pointer (some ⟨g, 0, none⟩), .int .i64 0]) ∧ w.heap.size ≤ g ∧ Alloc.PoolAt w' g E0 n 1 0 ∧ Below w.heap.size w w' := by
  refine (Alloc.new_ok E0 n 1 w ⟨h8.1, by omega, Nat.le_refl _, by omega⟩).mono ?_
  rintro e w' ⟨g, rfl, h1, h2, h3⟩
  exact ⟨g, rfl, h1, Alloc.poolAt_new ⟨h8.1, by omega, Nat.le_refl _, by omega⟩ (by decide) h2, h3⟩
set_option maxRecDepth 100000 in
/-- a volume, and a pool behind it -/
theorem lv_laid {w0 w w' : World} {a b k c n g : Nat} (h8 : 8 ≤ n ∧ n ≤ 300) (h : Bothv w0 w a b k c ⟨E0, 1, [], false⟩ (laidV (4 * n) E0)) (hb : Below w0.heap.size w0 w) (hg : w.heap.size ≤ g) (hp : Alloc.PoolAt w' g E0 n 1 0) (hb2 : Below w.heap.size w w') :
    LV w0 (fun _ => False) 3 w' a g (rd0 n) n 0 :=
  ⟨⟨(isv_laid h8 h hb).also hb2 fun i hi => by
      rcases hi with hi | hi | hi
      · exact Or.inl hi
      · exact hi.elim
      · subst hi
        exact Or.inr ⟨hg, hp.lt⟩, hp, Or.inr (Or.inr rfl)⟩, Nat.le_trans hb.size hg, id, hb.trans (hb2.mono hb.size), Nat.zero_le _⟩
end Go.Proofs.YtajlfmnjibgbaaaGreatDoor.Tr

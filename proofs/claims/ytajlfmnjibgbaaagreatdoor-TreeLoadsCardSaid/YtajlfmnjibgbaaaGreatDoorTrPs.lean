/- put: a payload is laid in a block that is taken. -/
import Derived.Test.YtajlfmnjibgbaaaGreatDoorTrVol
import Derived.Test.YtajlfmnjibgbaaaGreatDoorAllocW
import Derived.Test.YtajlfmnjibgbaaaGreatDoorTrWy
import Derived.Test.YtajlfmnjibgbaaaGreatDoorTrTr
import Derived.Test.YtajlfmnjibgbaaaGreatDoorTrPl
import Derived.Deep.RegionHeld3
import Derived.Laws.ResultCell
namespace Go.Proofs.YtajlfmnjibgbaaaGreatDoor.Tr
open Go Go.RowKit Go.Maps Mem Disk Nv Vl
set_option maxRecDepth 100000 in
theorem invWrite (x n s : Value) (w : World) : (invoke (.fn (.method "Write") #[]) #[.iface 23 x, n, s]).run Tryz.prog w = .ok (.enter 19 #[x, n, s]) w := by kernel_rfl
/-- a volume beside a pool (at g, of blocks 1 .. B-1 not in U, j of them taken); X: blocks that stay, but the pool's -/
structure VP (X : Nat → Prop) (N m : Nat) (w : World) (a : Nat) (f : Rd) (g : Nat) (U : ByteArray) (B j : Nat) : Prop where
  v : IsV X N m w a f
  p : Alloc.PoolAt w g U B 1 j
  xg : X g
/-- what is free -/
def freeL (U : ByteArray) (B j : Nat) : List Nat := (Alloc.ord U B 1).drop j
section
variable {X Y : Nat → Prop} {N m : Nat} {w w' : World} {a g B j : Nat} {f : Rd} {U : ByteArray}
set_option maxRecDepth 100000 in
theorem VP.below (h : VP X N m w a f g U B j) (hb : Below w.heap.size w w') : VP X N m w' a f g U B j := ⟨h.v.below hb, h.p.below hb, h.xg⟩
set_option maxRecDepth 100000 in
theorem VP.also (h : VP X N m w a f g U B j) (hb : Below w.heap.size w w') (hY : ∀ i, Y i → X i ∨ (w.heap.size ≤ i ∧ i < w'.heap.size)) (hg : Y g) : VP Y N m w' a f g U B j := ⟨h.v.also hb hY, h.p.below hb, hg⟩
set_option maxRecDepth 100000 in
theorem VP.sub (h : VP X N m w a f g U B j) (hY : ∀ i, Y i → X i) (hg : Y g) : VP Y N m w a f g U B j := ⟨h.v.sub hY, h.p, hg⟩
set_option maxRecDepth 100000 in
theorem VP.more {k : Nat} (h : VP X N m w a f g U B j) (hk : m ≤ k) : VP X N k w a f g U B j := ⟨h.v.more hk, h.p, h.xg⟩
/-- X's blocks stay, but the pool's -/
def KeepP (X : Nat → Prop) (g : Nat) (w w' : World) : Prop := Keeps (fun i => ¬ X i ∨ i = g) w w'
set_option maxRecDepth 100000 in
set_option maxHeartbeats 8000000 in
theorem put_no (h : VP X N m w a f g U B j) (hf : freeL U B j = []) (hj : j ≤ (Alloc.ord U B 1).length) (p : ByteArray) : Calls Tryz.prog 34 #[srcV a, .pointer (some ⟨g, 0, none⟩), .string p] w fun e w' =>
    e = .returned (.tuple #[.int .i64 0, .int .i64 112]) ∧ VP X N m w' a f g U B j ∧ Below w.heap.size w w' := by
  have hjl : j = (Alloc.ord U B 1).length := by
    have := List.drop_eq_nil_iff.1 hf
    omega
  have kt := Lib.hid (Alloc.take_over U B 1 j g w h.p hjl)
  replace h := Lib.hid h
  unfold srcV
  clear hf hj hjl
  go_enter Tryz.func34, Tryz.ntmps34
  go_wp2_with fail
  refine kt.out.mono ?_
  rintro e w1 ⟨rfl, b1⟩
  have fin := Lib.hid (And.intro (h.out.below b1) b1)
  clear b1 kt
  go_wp2_with fail
  go_ret2
  exact ⟨rfl, fin.out⟩
set_option maxRecDepth 100000 in
set_option maxHeartbeats 8000000 in
theorem put_yes (h : VP X N m w a f g U B j) (hB : 8 ≤ B ∧ B ≤ 4096) (hN : B ≤ N / 4) (hm : m ≤ 900000) {n : Nat} {q : List Nat} (hf : freeL U B j = n :: q) {p : ByteArray} (hp : p.size ≤ 240) : Calls Tryz.prog 34 #[srcV a, .pointer (some ⟨g, 0, none⟩), .string p] w fun e w' =>
    e = .returned (.tuple #[.int .i64 (n : Int), .int .i64 0]) ∧ VP X N (m + 4) w' a (upd f n p) g U B (j + 1) ∧ KeepP X g w w' := by
  have hjl : j < (Alloc.ord U B 1).length := by
    rcases Nat.lt_or_ge j (Alloc.ord U B 1).length with q1 | q1
    · exact q1
    · rw [freeL, List.drop_eq_nil_iff.2 q1] at hf; cases hf
  have hn : (Alloc.ord U B 1)[j] = n := by
    rw [freeL, List.drop_eq_getElem_cons hjl] at hf
    injection hf
  have hmem := (Alloc.ord_mem (U := U) (B := B) (f := 1) ⟨Nat.le_refl _, by omega⟩).1 (List.getElem_mem hjl)
  rw [hn] at hmem
  have kt := Alloc.take_next U B 1 j g w h.p ⟨hB.1, hB.2, Nat.le_refl _, by omega⟩ hjl
  rw [hn] at kt
  have inv := invWrite
  replace kt := Lib.hid kt
  replace h := Lib.hid h
  unfold srcV
  clear hf hn
  go_enter Tryz.func34, Tryz.ntmps34
  go_wp2_with fail
  refine kt.out.mono ?_
  rintro e w1 ⟨rfl, p1, g1⟩
  have kg : Keeps X w w1 := Keeps.of_grown g1 (fun i e => by injection e with e; subst e; exact h.out.xg)
  have k1 : KeepP X g w w1 := Keeps.of_grown g1 (fun i e => by injection e with e; exact Or.inr e.symm)
  have kw := Lib.hid (isv_write (h.out.v.turn kg) hm hmem.1 (by omega) hp)
  have hxg := Lib.hid h.out.xg
  replace k1 := Lib.hid k1
  replace p1 := Lib.hid p1
  clear g1 kg kt hmem h hjl
  go_wp2_with fail
  refine kw.out.mono ?_
  rintro e w2 ⟨rfl, v2, k2⟩
  have p2 : Alloc.PoolAt w2 g U B 1 (j + 1) := by
    obtain ⟨U', q1, q2⟩ := p1.out
    exact ⟨U', Blk.keeps q1 k2 (fun hn => hn hxg.out), q2⟩
  have fin := Lib.hid (And.intro (show VP X N (m + 4) w2 a (upd f n p) g U B (j + 1) from ⟨v2, p2, hxg.out⟩) (show KeepP X g w w2 from k1.out.same (k2.mono fun i hi => Or.inl hi)))
  clear v2 k2 p2 kw
  go_wp2_with fail
  go_ret2
  exact ⟨rfl, fin.out⟩
end
end Go.Proofs.YtajlfmnjibgbaaaGreatDoor.Tr
/- Store: its state in memory; a text that is too long. -/
namespace Go.Proofs.YtajlfmnjibgbaaaGreatDoor.Tr
open Go Go.RowKit Go.Maps Mem Disk Nv Vl
set_option maxRecDepth 100000 in
/-- the first result lies in memory, the second one in a slot -/
theorem results_blob {fn : Func} {p u : Tmp} (h : fn.results = #[.cell p 33, .tmp u]) (tmps : Array Value) (w : World) (g : Nat) (x y : Int)
    (hp : tmps.getD p undef = .pointer (some ⟨g, 0, none⟩)) (hg : Blk w g 33 #[.int .i64 x, .int .i64 y]) :
    (results fn tmps).run Tryz.prog w = .ok (.tuple #[.agg #[.int .i64 x, .int .i64 y], tmps.getD u undef]) w := by
  rw [results_cell_tmp h, hp]
  simp [asAddr, Result.andThen, run_loadVar_row w g 33 33 #[.int .i64 x, .int .i64 y] (0, 0) _ hg Tryz.underlying33 rfl (by kernel_rfl)]
set_option maxRecDepth 100000 in
theorem intV_ints (L : List Nat) : intV (ints L) = natsV L := by
  unfold intV ints natsV
  rw [List.map_map]
  rfl
/-- the old tree's rows -/
structure WasAt (w : World) (gn cn : Nat) (rs : List Value) (was : List (List Nat)) : Prop where
  rows : w.ownsRow 0 41 1 (.slice (some ⟨gn, 0, none⟩) rs.length cn) rs.length rs
  rlen : rs.length = was.length
  nums : ∀ (l : Nat) v L, rs[l]? = some v → was[l]? = some L → w.ownsRow 0 3 1 v L.length (natsV L)
/-- their blocks -/
def Fr (gn : Nat) (rs : List Value) (i : Nat) : Prop := i = gn ∨ ∃ v ∈ rs, v.ownBlock = some i
set_option maxRecDepth 100000 in
theorem WasAt.keeps {w w' : World} {gn cn : Nat} {rs : List Value} {was : List (List Nat)} {K : Nat → Prop} (h : WasAt w gn cn rs was) (k : Keeps K w w') (hn : ∀ i, Fr gn rs i → ¬ K i) : WasAt w' gn cn rs was :=
  ⟨own_keeps h.rows k (fun j e => by injection e with e; subst e; exact hn _ (Or.inl rfl)), h.rlen, fun l v L hl hL => own_keeps (h.nums l v L hl hL) k (fun j e => hn j (Or.inr ⟨v, List.mem_of_getElem? hl, e⟩))⟩
set_option maxRecDepth 100000 in
theorem WasAt.row {w : World} {gn cn : Nat} {rs : List Value} {was : List (List Nat)} (h : WasAt w gn cn rs was) {l : Nat} (hl : l < was.length) : ∃ v, rs[l]? = some v ∧ w.cell? ⟨gn, l, none⟩ = some v ∧ w.ownsRow 0 3 1 v (was.getD l []).length (natsV (was.getD l [])) := by
  have h1 : l < rs.length := by rw [h.rlen]; exact hl
  refine ⟨rs[l], List.getElem?_eq_getElem h1, ?_, ?_⟩
  · have := h.rows.cells (g := gn) rfl l rs[l] (List.getElem?_eq_getElem h1)
    rwa [add_lit, Nat.zero_add] at this
  · have h2 : was[l]? = some (was.getD l []) := by rw [List.getD_eq_getElem?_getD, List.getElem?_eq_getElem hl]; rfl
    exact h.nums l _ _ (List.getElem?_eq_getElem h1) h2
set_option maxRecDepth 100000 in
theorem WkAt.was {w : World} {p gn cn : Nat} {sv ov pv bv lv : Value} {ch : Bool} {rs : List Value} {wk : Wk} {was : List (List Nat)} (h : WkAt w p sv ch gn cn rs ov pv bv lv wk) (hw : wk.nums = was.map ints) : WasAt w gn cn rs was :=
  ⟨h.rows, by rw [h.rlen, hw, List.length_map], fun l v L hl hL => by
    have := h.nums l v (ints L) hl (by rw [hw, List.getElem?_map, hL]; rfl)
    rw [intV_ints, show (ints L).length = L.length from List.length_map _] at this
    exact this⟩
section
variable {X : Nat → Prop} {N m : Nat} {w : World} {a g B j : Nat} {f : Rd} {U : ByteArray}
end
/-- Store's own blocks: its result's, the old tree's rows, the shape's -/
def Own (Q gn : Nat) (rs : List Value) (shv : Value) (i : Nat) : Prop := i = Q ∨ Fr gn rs i ∨ shv.ownBlock = some i
/-- where Store stands: E: the blocks of the rows under way -/
structure StAt (X E : Nat → Prop) (N m : Nat) (w0 w : World) (a g : Nat) (U : ByteArray) (B j Q gn cn : Nat) (rs : List Value) (was : List (List Nat)) (shv : Value) (shp : List Nat) (f : Rd) : Prop where
  vp : VP (fun i => X i ∨ Own Q gn rs shv i ∨ E i) N m w a f g U B j
  xg : X g
  q : Blk w Q 33 #[.int .i64 0, .int .i64 0]
  was : WasAt w gn cn rs was
  shape : w.ownsRow 0 3 1 shv shp.length (natsV shp)
  far : ∀ i, Own Q gn rs shv i → ¬ X i
  farE : ∀ i, E i → ¬ X i
  apart : ∀ i, E i → ¬ Own Q gn rs shv i
  keep : KeepP X g w0 w
section
variable {X E E' K : Nat → Prop} {N m : Nat} {w0 w w' : World} {a g : Nat} {U : ByteArray} {B j Q gn cn : Nat} {rs : List Value} {was : List (List Nat)} {shv : Value} {shp : List Nat} {f : Rd}
set_option maxRecDepth 100000 in
/-- a row under way turns; new blocks come -/
theorem StAt.grow (h : StAt X E N m w0 w a g U B j Q gn cn rs was shv shp f) (k : Keeps K w w') (hK : ∀ i, K i → E i) (hE : ∀ i, E' i → E i ∨ (w.heap.size ≤ i ∧ i < w'.heap.size)) : StAt X E' N m w0 w' a g U B j Q gn cn rs was shv shp f := by
  have hxl := h.vp.v.xlt
  have kX : Keeps (fun i => X i ∨ Own Q gn rs shv i ∨ E i) w w' := k.mono fun i hi => Or.inr (Or.inr (hK i hi))
  refine ⟨⟨h.vp.v.step kX fun i hi => ?_, ?_, Or.inl h.xg⟩, h.xg, h.q.keeps k (fun hi => h.apart Q (hK Q hi) (Or.inl rfl)), h.was.keeps k (fun i hi hk => h.apart i (hK i hk) (Or.inr (Or.inl hi))), own_keeps h.shape k (fun i hi hk => h.apart i (hK i hk) (Or.inr (Or.inr hi))), h.far, fun i hi hx => ?_, fun i hi ho => ?_, h.keep.same (k.mono fun i hi => Or.inl (h.farE i (hK i hi)))⟩
  · rcases hi with hi | hi | hi
    · exact Or.inl (Or.inl hi)
    · exact Or.inl (Or.inr (Or.inl hi))
    · exact (hE i hi).imp (fun q => Or.inr (Or.inr q)) id
  · obtain ⟨U', q1, q2⟩ := h.vp.p
    exact ⟨U', Blk.keeps q1 k (fun hk => h.farE g (hK g hk) h.xg), q2⟩
  · rcases hE i hi with q | q
    · exact h.farE i q hx
    · have := hxl i (Or.inl hx); omega
  · rcases hE i hi with q | q
    · exact h.apart i q ho
    · have := hxl i (Or.inr (Or.inl ho)); omega
set_option maxRecDepth 100000 in
theorem StAt.below (h : StAt X E N m w0 w a g U B j Q gn cn rs was shv shp f) (hb : Below w.heap.size w w') : StAt X E N m w0 w' a g U B j Q gn cn rs was shv shp f := h.grow (Keeps.of_below (fun _ => False) hb) (fun _ h => h.elim) fun _ hi => Or.inl hi
set_option maxRecDepth 100000 in
/-- the pool's block is none of these -/
theorem StAt.pool (h : StAt X E N m w0 w a g U B j Q gn cn rs was shv shp f) : ∀ i, Own Q gn rs shv i ∨ E i → i ≠ g := fun i hi e => by
  subst e
  rcases hi with hi | hi
  · exact h.far _ hi h.xg
  · exact h.farE _ hi h.xg
set_option maxRecDepth 100000 in
/-- a payload is put -/
theorem StAt.put (h : StAt X E N m w0 w a g U B j Q gn cn rs was shv shp f) (hB : 8 ≤ B ∧ B ≤ 4096) (hN : B ≤ N / 4) (hm : m ≤ 900000) {n : Nat} {q : List Nat} (hf : freeL U B j = n :: q) {p : ByteArray} (hp : p.size ≤ 240) :
    Calls Tryz.prog 34 #[srcV a, .pointer (some ⟨g, 0, none⟩), .string p] w fun e w' =>
      e = .returned (.tuple #[.int .i64 (n : Int), .int .i64 0]) ∧ StAt X E N (m + 4) w0 w' a g U B (j + 1) Q gn cn rs was shv shp (upd f n p) ∧ Keeps (fun i => ¬ E i) w w' := by
  have hpg := h.pool
  refine (put_yes h.vp hB hN hm hf hp).mono ?_
  rintro e w' ⟨rfl, v1, k1⟩
  have out : ∀ i, Own Q gn rs shv i → ¬ (¬ (X i ∨ Own Q gn rs shv i ∨ E i) ∨ i = g) := fun i hi hn => hn.elim (fun hn => hn (Or.inr (Or.inl hi))) (hpg i (Or.inl hi))
  refine ⟨rfl, ⟨v1, h.xg, h.q.keeps k1 (out Q (Or.inl rfl)), h.was.keeps k1 (fun i hi => out i (Or.inr (Or.inl hi))), own_keeps h.shape k1 (fun i hi => out i (Or.inr (Or.inr hi))), h.far, h.farE, h.apart, h.keep.same (k1.mono fun i hi => hi.imp (fun hn hx => hn (Or.inl hx)) id)⟩, k1.mono fun i hi he => hi.elim (fun hn => hn (Or.inr (Or.inr he))) (hpg i (Or.inr he))⟩
set_option maxRecDepth 100000 in
theorem StAt.no (h : StAt X E N m w0 w a g U B j Q gn cn rs was shv shp f) (hf : freeL U B j = []) (hj : j ≤ (Alloc.ord U B 1).length) (p : ByteArray) :
    Calls Tryz.prog 34 #[srcV a, .pointer (some ⟨g, 0, none⟩), .string p] w fun e w' =>
      e = .returned (.tuple #[.int .i64 0, .int .i64 112]) ∧ StAt X E N m w0 w' a g U B j Q gn cn rs was shv shp f := by
  refine (put_no h.vp hf hj p).mono ?_
  rintro e w' ⟨rfl, _, b1⟩
  exact ⟨rfl, h.below b1⟩
set_option maxRecDepth 100000 in
/-- the result is laid -/
theorem StAt.done (h : StAt X E N m w0 w a g U B j Q gn cn rs was shv shp f) (x y : Int) : Blk ((w.setCell ⟨Q, 0, none⟩ (.int .i64 x)).setCell ⟨Q, 1, none⟩ (.int .i64 y)) Q 33 #[.int .i64 x, .int .i64 y] ∧
    VP X N m ((w.setCell ⟨Q, 0, none⟩ (.int .i64 x)).setCell ⟨Q, 1, none⟩ (.int .i64 y)) a f g U B j ∧ KeepP X g w0 ((w.setCell ⟨Q, 0, none⟩ (.int .i64 x)).setCell ⟨Q, 1, none⟩ (.int .i64 y)) := by
  have kq : Keeps (fun i => i = Q) w ((w.setCell ⟨Q, 0, none⟩ (.int .i64 x)).setCell ⟨Q, 1, none⟩ (.int .i64 y)) := ((Keeps.refl (fun i => i = Q) w).put (g := Q) (Or.inl rfl) 0 _).put (g := Q) (Or.inl rfl) 1 _
  refine ⟨(h.q.put 0 _).put 1 _, ⟨(h.vp.v.turn (kq.mono fun i e => Or.inr (Or.inl (Or.inl e)))).sub fun i hi => Or.inl hi, ?_, h.xg⟩, h.keep.same (kq.mono fun i e => Or.inl (fun hx => h.far i (Or.inl e) hx))⟩
  obtain ⟨U', q1, q2⟩ := h.vp.p
  exact ⟨U', Blk.keeps q1 kq (fun e => h.pool Q (Or.inl (Or.inl rfl)) e.symm), q2⟩
/-- where the first loop stands: k chunks are laid -/
structure L1At (X : Nat → Prop) (N m : Nat) (w0 w : World) (a g : Nat) (U : ByteArray) (B j0 j Q gn cn : Nat) (rs : List Value) (was : List (List Nat)) (shv : Value) (shp : List Nat) (nv : Value) (k : Nat) (s : Lv) : Prop where
  st : StAt X (fun i => nv.ownBlock = some i) N (m + 4 * (j - j0)) w0 w a g U B j Q gn cn rs was shv shp s.rd
  row : w.ownsRow 0 3 1 nv k (natsV s.now)
  j0 : j0 ≤ j
  jl : j ≤ (Alloc.ord U B 1).length
  free : s.free = freeL U B j
  small : ∀ x ∈ s.now, x < 65536
set_option maxRecDepth 100000 in
/-- a number is appended to the row under way -/
theorem L1At.app {m j0 k n : Nat} {nv v1 : Value} {s : Lv} {W : World} {o : Obj} (h : L1At X N m w0 w a g U B j0 j Q gn cn rs was shv shp nv k s) (hg : (w.alloc o).grownBy W nv.ownBlock) (ho : W.ownsRow 0 3 1 v1 (k + 1) (natsV s.now ++ [.int .i64 (n : Int)])) (hv : v1.ownBlock = nv.ownBlock ∨ v1.ownBlock = some (w.alloc o).heap.size) (hn : n < 65536) :
    L1At X N m w0 W a g U B j0 j Q gn cn rs was shv shp v1 (k + 1) { s with now := s.now ++ [n] } :=
  ⟨h.st.grow (alloc_keeps hg (fun i e => e)) (fun i e => e) (fun i e => by
    rcases hv with q | q
    · exact Or.inl (by rw [← q]; exact e)
    · have := (ho.lt i e).2
      rw [q] at e
      injection e with e
      simp at e
      exact Or.inr (by omega)), by
    show W.ownsRow 0 3 1 v1 (k + 1) (natsV (s.now ++ [n]))
    rw [natsV_append]
    exact ho, h.j0, h.jl, h.free, fun x hx => by
    rcases List.mem_append.1 hx with hx | hx
    · exact h.small x hx
    · rw [List.mem_singleton] at hx
      rw [hx]
      exact hn⟩
set_option maxRecDepth 100000 in
theorem free_small {x : Nat} {q : List Nat} {j : Nat} (h : freeL U B j = x :: q) (hB : 8 ≤ B ∧ B ≤ 4096) : x < 65536 := by
  have hm : x ∈ Alloc.ord U B 1 := List.mem_of_mem_drop (show x ∈ (Alloc.ord U B 1).drop j by
    have : x ∈ freeL U B j := by rw [h]; simp
    exact this)
  have := (Alloc.ord_mem (U := U) (B := B) (f := 1) ⟨Nat.le_refl _, by omega⟩).1 hm
  omega
set_option maxRecDepth 100000 in
/-- a payload was put -/
theorem L1At.put {m j0 k n : Nat} {nv : Value} {s : Lv} {q : List Nat} (h : L1At X N m w0 w a g U B j0 j Q gn cn rs was shv shp nv k s) (hB : 8 ≤ B ∧ B ≤ 4096) (hN : B ≤ N / 4) (hm : m ≤ 800000) (hf : s.free = n :: q) {p : ByteArray} (hp : p.size ≤ 240) :
    Calls Tryz.prog 34 #[srcV a, .pointer (some ⟨g, 0, none⟩), .string p] w fun e w' =>
      e = .returned (.tuple #[.int .i64 (n : Int), .int .i64 0]) ∧ L1At X N m w0 w' a g U B j0 (j + 1) Q gn cn rs was shv shp nv k ⟨upd s.rd n p, q, s.now⟩ := by
  have hf2 : freeL U B j = n :: q := by rw [← h.free]; exact hf
  have hjl : j < (Alloc.ord U B 1).length := by
    rcases Nat.lt_or_ge j (Alloc.ord U B 1).length with q1 | q1
    · exact q1
    · rw [freeL, List.drop_eq_nil_iff.2 q1] at hf2; cases hf2
  have hol := Alloc.ord_le (U := U) (B := B) (f := 1) ⟨hB.1, hB.2, Nat.le_refl _, by omega⟩
  refine (h.st.put hB hN (by omega) hf2 hp).mono ?_
  rintro e w' ⟨rfl, s1, k1⟩
  have := h.j0
  refine ⟨rfl, ⟨?_, own_keeps h.row k1 (fun i e hn => hn e), by omega, by omega, ?_, h.small⟩⟩
  · rw [show m + 4 * (j + 1 - j0) = m + 4 * (j - j0) + 4 by omega]
    exact s1
  · show q = freeL U B (j + 1)
    rw [freeL, List.drop_eq_getElem_cons hjl] at hf2
    injection hf2 with _ hf2
    exact hf2.symm
end
end Go.Proofs.YtajlfmnjibgbaaaGreatDoor.Tr
/- Store's state with two rows under way: the level below (whole), and the one that is laid. -/
namespace Go.Proofs.YtajlfmnjibgbaaaGreatDoor.Tr
open Go Go.RowKit Go.Maps Mem Disk Nv Vl
/-- where the inner loop stands: k blocks of the level are laid; P: the level below, at pv -/
structure L2At (X : Nat → Prop) (N m : Nat) (w0 w : World) (a g : Nat) (U : ByteArray) (B j0 j Q gn cn : Nat) (rs : List Value) (was : List (List Nat)) (shv : Value) (shp : List Nat) (pv : Value) (P : List Nat) (nv : Value) (k : Nat) (s : Lv) : Prop where
  st : StAt X (fun i => pv.ownBlock = some i ∨ nv.ownBlock = some i) N (m + 4 * (j - j0)) w0 w a g U B j Q gn cn rs was shv shp s.rd
  prow : w.ownsRow 0 3 1 pv P.length (natsV P)
  row : w.ownsRow 0 3 1 nv k (natsV s.now)
  two : ∀ i, pv.ownBlock = some i → nv.ownBlock ≠ some i
  j0 : j0 ≤ j
  jl : j ≤ (Alloc.ord U B 1).length
  free : s.free = freeL U B j
  small : ∀ x ∈ s.now, x < 65536
  psmall : ∀ x ∈ P, x < 65536
section
variable {X : Nat → Prop} {N m : Nat} {w0 w W : World} {a g : Nat} {U : ByteArray} {B j0 j Q gn cn k n : Nat} {rs : List Value} {was : List (List Nat)} {shv pv nv v1 : Value} {shp P : List Nat} {s : Lv}
set_option maxRecDepth 100000 in
theorem L1At.two (h : L1At X N m w0 w a g U B j0 j Q gn cn rs was shv shp pv k s) (hk : k = s.now.length) : L2At X N m w0 w a g U B j0 j Q gn cn rs was shv shp pv s.now (.slice none 0 0) 0 { s with now := [] } :=
  ⟨h.st.grow (Keeps.refl (fun _ => False) w) (fun _ h => h.elim) (fun _ hi => Or.inl (hi.elim id (fun e => by cases e))), by rw [← hk]; exact h.row, World.ownsRow_nil _ _ _ _, fun _ _ e => (by cases e), h.j0, h.jl, h.free, fun x hx => (by cases hx), h.small⟩
set_option maxRecDepth 100000 in
theorem L2At.one (h : L2At X N m w0 w a g U B j0 j Q gn cn rs was shv shp pv P nv k s) : L1At X N m w0 w a g U B j0 j Q gn cn rs was shv shp nv k s :=
  ⟨h.st.grow (Keeps.refl (fun _ => False) w) (fun _ h => h.elim) (fun _ hi => Or.inl (Or.inr hi)), h.row, h.j0, h.jl, h.free, h.small⟩
set_option maxRecDepth 100000 in
theorem L2At.below (h : L2At X N m w0 w a g U B j0 j Q gn cn rs was shv shp pv P nv k s) (hb : Below w.heap.size w W) : L2At X N m w0 W a g U B j0 j Q gn cn rs was shv shp pv P nv k s :=
  ⟨h.st.below hb, own_keeps h.prow (Keeps.of_below (fun _ => False) hb) (fun _ _ e => e), own_keeps h.row (Keeps.of_below (fun _ => False) hb) (fun _ _ e => e), h.two, h.j0, h.jl, h.free, h.small, h.psmall⟩
set_option maxRecDepth 100000 in
theorem L2At.app {o : Obj} (h : L2At X N m w0 w a g U B j0 j Q gn cn rs was shv shp pv P nv k s) (hg : (w.alloc o).grownBy W nv.ownBlock) (ho : W.ownsRow 0 3 1 v1 (k + 1) (natsV s.now ++ [.int .i64 (n : Int)])) (hv : v1.ownBlock = nv.ownBlock ∨ v1.ownBlock = some (w.alloc o).heap.size) (hn : n < 65536) :
    L2At X N m w0 W a g U B j0 j Q gn cn rs was shv shp pv P v1 (k + 1) { s with now := s.now ++ [n] } := by
  have kk : Keeps (fun i => nv.ownBlock = some i) w W := alloc_keeps hg (fun i e => e)
  have hnew : ∀ i, v1.ownBlock = some i → nv.ownBlock = some i ∨ (w.heap.size ≤ i ∧ i < W.heap.size) := fun i e => by
    rcases hv with q | q
    · exact Or.inl (by rw [← q]; exact e)
    · have := (ho.lt i e).2
      rw [q] at e
      injection e with e
      simp at e
      exact Or.inr (by omega)
  refine ⟨h.st.grow kk (fun i e => Or.inr e) (fun i hi => hi.elim (fun e => Or.inl (Or.inl e)) (fun e => (hnew i e).imp Or.inr id)), own_keeps h.prow kk h.two, ?_, fun i hi e => ?_, h.j0, h.jl, h.free, fun x hx => ?_, h.psmall⟩
  · show W.ownsRow 0 3 1 v1 (k + 1) (natsV (s.now ++ [n]))
    rw [natsV_append]
    exact ho
  · rcases hnew i e with q | q
    · exact h.two i hi q
    · have := (h.prow.lt i hi).2
      omega
  · rcases List.mem_append.1 hx with hx | hx
    · exact h.small x hx
    · rw [List.mem_singleton] at hx
      rw [hx]
      exact hn
set_option maxRecDepth 100000 in
theorem L2At.put {q : List Nat} (h : L2At X N m w0 w a g U B j0 j Q gn cn rs was shv shp pv P nv k s) (hB : 8 ≤ B ∧ B ≤ 4096) (hN : B ≤ N / 4) (hm : m ≤ 800000) (hf : s.free = n :: q) {p : ByteArray} (hp : p.size ≤ 240) :
    Calls Tryz.prog 34 #[srcV a, .pointer (some ⟨g, 0, none⟩), .string p] w fun e w' =>
      e = .returned (.tuple #[.int .i64 (n : Int), .int .i64 0]) ∧ L2At X N m w0 w' a g U B j0 (j + 1) Q gn cn rs was shv shp pv P nv k ⟨upd s.rd n p, q, s.now⟩ := by
  have hf2 : freeL U B j = n :: q := by rw [← h.free]; exact hf
  have hjl : j < (Alloc.ord U B 1).length := by
    rcases Nat.lt_or_ge j (Alloc.ord U B 1).length with q1 | q1
    · exact q1
    · rw [freeL, List.drop_eq_nil_iff.2 q1] at hf2; cases hf2
  have hol := Alloc.ord_le (U := U) (B := B) (f := 1) ⟨hB.1, hB.2, Nat.le_refl _, by omega⟩
  refine (h.st.put hB hN (by omega) hf2 hp).mono ?_
  rintro e w' ⟨rfl, s1, k1⟩
  have := h.j0
  refine ⟨rfl, ⟨?_, own_keeps h.prow k1 (fun i e hn => hn (Or.inl e)), own_keeps h.row k1 (fun i e hn => hn (Or.inr e)), h.two, by omega, by omega, ?_, h.small, h.psmall⟩⟩
  · rw [show m + 4 * (j + 1 - j0) = m + 4 * (j - j0) + 4 by omega]
    exact s1
  · show q = freeL U B (j + 1)
    rw [freeL, List.drop_eq_getElem_cons hjl] at hf2
    injection hf2 with _ hf2
    exact hf2.symm
end
end Go.Proofs.YtajlfmnjibgbaaaGreatDoor.Tr

/- What lays wants: a builder that keeps other blocks; the cells of lists; what a kind's fields are. -/
import Derived.Test.YtaihpnmojiagnaaGreatDoorTableWalkC
import Derived.Test.YtaihpnmojiagnaaGreatDoorBuilder
namespace Go.Proofs.YtaihpnmojiagnaaGreatDoor.Bld
open Go.RowKit Mem

set_option maxHeartbeats 2000000 in
set_option maxRecDepth 100000 in
/-- as writeString_any; blocks of other types stay -/
theorem writeString_keep (B b : Nat) (bs : List Value) (s : ByteArray) (w : World) (h : Is B b bs w) (hlen : bs.length + s.size ≤ 140737488355328) (hBw : B ≤ w.heap.size) :
    Calls Tryz.prog 40 #[.pointer (some ⟨b, 0, none⟩), .string s] w fun e w' => e = .returned (.tuple #[.int .i64 s.size, .nilIface]) ∧ Is B b (bs ++ Lib.strCells s) w' ∧ Below B w w' ∧ w.heap.size ≤ w'.heap.size ∧ ∀ g t cs, g ≠ b → t ≠ 5 → Blk w g t cs → Blk w' g t cs := by
  obtain ⟨i0, hi, hz0, hz1, hz2⟩ := info_parts infoByte
  go_enter Tryz.func40, Tryz.ntmps40
  go_wp2_with fail
  refine (check_any B b bs _ h).mono ?_
  rintro e w1 ⟨rfl, ⟨hB, v, hbk, hown, hne⟩, hg1⟩
  have c0 : w1.cell? ⟨b, 0, none⟩ = some (.pointer (some ⟨b, 0, none⟩)) := by rw [Lib.cell_of_heap hbk]; rfl
  have c1 : w1.cell? ⟨b, 1, none⟩ = some v := by rw [Lib.cell_of_heap hbk]; rfl
  have hb1 := below_of_own hg1 hB hBw
  have hs1 := hg1.size
  go_wp2_with (at_builtin; refine Lib.wpList_append_own_string _ rfl (.tmp 12) (.tmp 13) 88 9 rfl B 5 i0 Tryz.underlying88 Tryz.underlying9 hi hz0 hz1 hz2 v bs.length bs rfl hown s rfl (by unfold maxLen; omega) (by omega) (by omega) ?_)
  intro v' w2 hown' hgrow _
  have hlt : b < w1.heap.size := by
    rcases Nat.lt_or_ge b w1.heap.size with h' | h'
    · exact h'
    · simp [Array.getElem?_eq_none h'] at hbk
  have hb2 : w2.heap[b]? = some (.cells #[.pointer (some ⟨b, 0, none⟩), v] 90 (0, 0)) := by
    rw [hgrow.block b hlt (fun e => hne e.symm)]
    exact hbk
  have hkeep : ∀ g t cs, g ≠ b → t ≠ 5 → Blk w g t cs → Blk w2 g t cs := fun g t cs hgb ht hk => by
    have k1 : Blk w1 g t cs := hk.grown hg1 (fun e => hgb (Option.some.inj e))
    refine k1.grown hgrow (fun e => ?_)
    rcases hown.2 with ⟨rfl, _⟩ | ⟨g', cap, cur, rfl, _, hg', _⟩
    · cases e
    · obtain rfl : g = g' := by simpa [Value.ownBlock] using e
      unfold Blk at k1
      rw [hg'] at k1
      injection k1 with k1
      injection k1 with _ k1 _
      exact ht k1.symm
  have d0 : w2.cell? ⟨b, 0, none⟩ = some (.pointer (some ⟨b, 0, none⟩)) := by rw [Lib.cell_of_heap hb2]; rfl
  have d1 : w2.cell? ⟨b, 1, none⟩ = some v := by rw [Lib.cell_of_heap hb2]; rfl
  have f1 : w2.frozen? ⟨b, 1, none⟩ = false := Lib.frozen_of_heap hb2 1
  have hsz2 : w.heap.size ≤ w2.heap.size := Nat.le_trans hs1 hgrow.size
  replace hkeep := Lib.hid hkeep
  obtain ⟨ao, n', cap, rfl⟩ : ∃ ao n' cap, v' = .slice ao n' cap := by
    rcases hown'.2 with ⟨hv, _⟩ | ⟨g, cap, cur, hv, _⟩
    · exact ⟨_, _, _, hv⟩
    · exact ⟨_, _, _, hv⟩
  go_wp2
  go_ret2
  refine ⟨rfl, Or.inr ?_, ?_, by simpa [World.setCell] using hsz2, fun g t cs hgb ht hk => (hkeep.out g t cs hgb ht hk).far hgb _⟩
  · exact Lib.BuilderAt.put (T := 90) (e := 5) hB hb2 (bs' := bs ++ Lib.strCells s) (by simpa [Lib.strCells_length] using hown') (by decide)
  · exact (hb1.grown hgrow (by omega) (fun k hk => (hown.lt k hk).1)).setCell (p := ⟨b, 1, none⟩) hB _
theorem Is.lt {B b : Nat} {bs : List Value} {w : World} (h : Is B b bs w) : b < w.heap.size := by
  rcases h with h | h
  · exact Lib.BuilderAt.lt h
  · exact Lib.BuilderAt.lt h
/-- a block of another type may turn -/
theorem Is.far {B b g : Nat} {bs : List Value} {w w' : World} {t : TypeId} {cs : Array Value} (h : Is B b bs w) (hk : Blk w g t cs) (ht : t ≠ 5) (hgb : g ≠ b) (hg : w.grownBy w' (some g)) : Is B b bs w' := by
  have key : ∀ p, At B b p bs w → At B b p bs w' := fun p h => by
    have hlt := h.lt
    obtain ⟨hB, v, hbk, hown, hne⟩ := h
    refine ⟨hB, v, (hg.block b hlt (fun e => hgb (Option.some.inj e).symm)).trans hbk, hown.kept hg (Or.inr (fun e => ?_)), hne⟩
    rcases hown.2 with ⟨rfl, _⟩ | ⟨g', cap, cur, rfl, _, hg', _⟩
    · cases e
    · obtain rfl : g' = g := by simpa [Value.ownBlock] using e
      unfold Blk at hk
      rw [hg'] at hk
      injection hk with hk
      injection hk with _ hk _
      exact ht hk.symm
  rcases h with h | h
  · exact Or.inl (key _ h)
  · exact Or.inr (key _ h)
end Go.Proofs.YtaihpnmojiagnaaGreatDoor.Bld
namespace Go.Proofs.YtaihpnmojiagnaaGreatDoor.Table
open Go.RowKit Mem Wire

theorem as_int_int (v : Value) (w : World) : (Instr.typeAssert (.iface 3 v) 20 3 true).run Tryz.prog w = .ok (.tuple #[v, .bool true]) w := by kernel_rfl
theorem as_str_int (v : Value) (w : World) : (Instr.typeAssert (.iface 9 v) 20 3 true).run Tryz.prog w = .ok (.tuple #[.int .i64 0, .bool false]) w := by kernel_rfl
theorem as_str_str (v : Value) (w : World) : (Instr.typeAssert (.iface 9 v) 20 9 true).run Tryz.prog w = .ok (.tuple #[v, .bool true]) w := by kernel_rfl
def laysV : Option (List UInt8) → Value
  | some s => .tuple #[.string ⟨s.toArray⟩, .int .i64 0]
  | none => .tuple #[.string ⟨#[]⟩, .int .i64 120]
def inoC (x : Ino) : List Value := [.int .i64 x.num, .bool x.dir, .int .i64 x.links, .int .i64 x.root, .int .i64 x.size]
def entC (x : Ent) : List Value := [.string x.name, .int .i64 x.num]
def snpC (x : Snp) : List Value := [.string x.name, .int .i64 x.id, .int .i64 x.plane, .int .i64 x.root, .int .i64 x.size]
def inoBig (_ : Ino) : Prop := True
def entBig (_ : Ent) : Prop := True
def snpBig (_ : Snp) : Prop := True

theorem flatMap_get {α β : Type} {cs : α → List β} {sz : Nat} (hsz : ∀ x, (cs x).length = sz) : ∀ (l : List α) (k j : Nat), j < sz → (l.flatMap cs)[k * sz + j]? = (l[k]?).bind fun x => (cs x)[j]?
  | [], k, j, _ => by simp
  | x :: l, 0, j, h => by
    rw [List.flatMap_cons, Nat.zero_mul, Nat.zero_add, List.getElem?_append_left (by rw [hsz]; exact h)]
    rfl
  | x :: l, k + 1, j, h => by
    rw [List.flatMap_cons, List.getElem?_append_right (by rw [hsz, Nat.add_mul]; omega), hsz, show (k + 1) * sz + j - sz = k * sz + j by rw [Nat.add_mul]; omega, flatMap_get hsz l k j h]
    rfl
/-- the cells of a list's things -/
theorem row_elem {α : Type} {cs : α → List Value} {sz : Nat} (hsz : ∀ x, (cs x).length = sz) (h0 : 0 < sz) {w : World} {A : Option Addr} {n : Nat} {l : List α} (h : Row w A (n * sz) (l.flatMap cs)) {k : Nat} {x : α} (hx : l[k]? = some x) :
    ∃ ad, A = some ad ∧ ∀ j v, (cs x)[j]? = some v → w.cell? ((ad.add (k * sz)).add j) = some v := by
  have key : ∀ j v, (cs x)[j]? = some v → ∃ ad, A = some ad ∧ w.cell? (ad.add (k * sz + j)) = some v := fun j v hv => h.2 (k * sz + j) v (by
    rw [flatMap_get hsz l k j (by rw [← hsz x]; exact (List.getElem?_eq_some_iff.1 hv).1), hx]
    exact hv)
  obtain ⟨ad, ha, _⟩ := key 0 ((cs x)[0]'(by rw [hsz]; exact h0)) (List.getElem?_eq_getElem _)
  refine ⟨ad, ha, fun j v hv => ?_⟩
  obtain ⟨ad', ha', hc⟩ := key j v hv
  rw [ha] at ha'
  injection ha' with ha'
  subst ha'
  rw [add_add]
  exact hc

theorem strCells_of (l : List UInt8) : Lib.strCells ⟨l.toArray⟩ = Lib.byteCells l := rfl
theorem strCells_tx (s : ByteArray) : Lib.strCells (⟨(digits s.size).toArray⟩ ++ s) = Lib.byteCells (tx s) := by
  unfold Lib.strCells tx Lib.byteCells
  rw [ByteArray.data_append]
  simp
theorem okAll_step {α : Type} {K : Kind α} {l : List α} {k : Nat} {was x : α} {b : Bool} (hx : l[k]? = some x) (h : okAll K K.zero true l = okAll K was b (l.drop k)) :
    okAll K K.zero true l = (K.may was x b && okAll K x false (l.drop (k + 1))) := by
  rw [h, List.drop_eq_getElem_cons (List.getElem?_eq_some_iff.1 hx).1, (List.getElem?_eq_some_iff.1 hx).2]
  rfl
theorem lays_bad {α : Type} {K : Kind α} {l : List α} (h : okAll K K.zero true l = false) : lays K l = none := by
  unfold lays ok
  rw [h, Bool.and_false]
  rfl
theorem lays_long {α : Type} {K : Kind α} {l : List α} (h : 4096 < l.length) : lays K l = none := by
  unfold lays ok
  rw [decide_eq_false (by omega)]
  rfl
theorem lays_good {α : Type} {K : Kind α} {l : List α} (hl : l.length ≤ 4096) (h : okAll K K.zero true l = true) : lays K l = some (bytes K l) := lays_of (ok_iff.mpr ⟨hl, h⟩)
theorem take_snoc' {α : Type} {l : List α} {k : Nat} {x : α} (h : l[k]? = some x) : l.take (k + 1) = l.take k ++ [x] := by rw [List.take_add_one, h]; rfl
theorem flat_take {α : Type} {K : Kind α} {l : List α} {k : Nat} {x : α} (h : l[k]? = some x) : flat K (l.take (k + 1)) = flat K (l.take k) ++ K.put x := by rw [take_snoc' h, flat_snoc]

/-- under way: the builder, the block of the thing ahead, all else as it was -/
def Lay (B g : Nat) (t : TypeId) (W1 W : World) (cs : Array Value) (bs : List UInt8) : Prop := Bld.Is B B (Lib.byteCells bs) W ∧ Blk W g t cs ∧ Below B W1 W ∧ B < g
theorem Lay.below {B g : Nat} {t : TypeId} {W1 W W' : World} {cs : Array Value} {bs : List UInt8} (h : Lay B g t W1 W cs bs) (hb : Below W.heap.size W W') : Lay B g t W1 W' cs bs :=
  ⟨h.1.below hb, h.2.1.below hb h.2.1.lt, h.2.2.1.trans (hb.mono (by have := h.2.1.lt; have := h.2.2.2; omega)), h.2.2.2⟩
theorem Lay.put {B g : Nat} {t : TypeId} {W1 W : World} {cs : Array Value} {bs : List UInt8} (h : Lay B g t W1 W cs bs) (ht : t ≠ 5) (i : Nat) (u : Value) : Lay B g t W1 (W.setCell ⟨g, i, none⟩ u) (cs.setIfInBounds i u) bs := by
  have hB := h.2.2.2
  exact ⟨h.1.far h.2.1 ht (by omega) (Only.put (Only.refl W _) i u), h.2.1.put i u, h.2.2.1.setCell (p := ⟨g, i, none⟩) (Nat.le_of_lt hB) u, hB⟩
theorem fld_len {y : Fld} (h : Fld.ok y) : (Fld.b y).length ≤ 70000 := by
  cases y with
  | n x =>
    have := digits_length9 x.toNat (by simp only [Fld.ok] at h; omega)
    simp only [Fld.b, dg]
    omega
  | t s =>
    simp only [Fld.ok] at h
    have h1 := digits_length9 s.size (by omega)
    have h2 := Lib.size_eq s
    simp only [Fld.b, tx, List.length_append]
    omega
theorem flds_len : ∀ {l : List Fld}, (∀ y ∈ l, Fld.ok y) → (l.flatMap Fld.b).length ≤ 70000 * l.length
  | [], _ => by simp
  | y :: l, h => by
    have h1 := fld_len (h y (by simp))
    have h2 := flds_len (l := l) (fun z hz => h z (by simp [hz]))
    simp only [List.flatMap_cons, List.length_append, List.length_cons]
    omega
theorem flds_snoc {fs : List Fld} {j : Nat} {y : Fld} (h : fs[j]? = some y) : (fs.take (j + 1)).flatMap Fld.b = (fs.take j).flatMap Fld.b ++ y.b := by rw [take_snoc' h]; simp
theorem bc_len (l : List UInt8) : (Lib.byteCells l).length = l.length := by simp [Lib.byteCells]
theorem mk_size (l : List UInt8) : (⟨l.toArray⟩ : ByteArray).size = l.length := rfl
theorem fld_cells_n (m : Nat) : Lib.byteCells (Fld.b (.n (m : Int))) = Lib.strCells ⟨(digits m).toArray⟩ := rfl
theorem fld_cells_t (z : ByteArray) : Lib.byteCells (Fld.b (.t z)) = Lib.strCells (⟨(digits z.size).toArray⟩ ++ z) := (strCells_tx z).symm
theorem ino_ok {was x : Ino} {f : Bool} (hi : inoK.inv was) (h : inoK.may was x f = true) : ∀ y ∈ inoF x, Fld.ok y := by
  obtain ⟨h1, h2, h3⟩ := inoK_may h
  have h4 := blobOk_le h3
  have h5 := bit_le x.dir
  simp only [inoK] at hi
  simp only [inoF, List.forall_mem_cons, Fld.ok]
  refine ⟨by omega, by omega, by omega, by omega, by omega, by simp⟩
theorem ent_ok {was x : Ent} {f : Bool} (_hi : entK.inv was) (h : entK.may was x f = true) : ∀ y ∈ entF x, Fld.ok y := by
  obtain ⟨h1, h2, h3⟩ := entK_may h
  have h4 := nameOk_le h1
  simp only [entF, List.forall_mem_cons, Fld.ok]
  refine ⟨by omega, by omega, by simp⟩
theorem snp_ok {was x : Snp} {f : Bool} (hi : snpK.inv was) (h : snpK.may was x f = true) : ∀ y ∈ snpF x, Fld.ok y := by
  obtain ⟨h1, h2, h3, h6⟩ := snpK_may h
  have h4 := blobOk_le h6
  have h5 := nameOk_le h1
  simp only [snpK] at hi
  simp only [snpF, List.forall_mem_cons, Fld.ok]
  refine ⟨by omega, by omega, by omega, by omega, by omega, by simp⟩
end Go.Proofs.YtaihpnmojiagnaaGreatDoor.Table

/- Lists of inodes, names and snapshots that came in: their cells. -/
import Derived.Test.YtaihpnmojiagnaaGreatDoorDoor
import Derived.Test.YtaihpnmojiagnaaGreatDoorTableWalkF
import Derived.Deep.Slices
import Derived.Deep.Fields
import Derived.Lib.SmallJoins
namespace Go.Proofs.YtaihpnmojiagnaaGreatDoor.Door
open Go.RowKit Go.ChangeShapes Go.WideShapes Go.Deep Table

theorem list2 {α : Type} {l : List α} (h : l.length = 2) : ∃ a b, l = [a, b] := match l, h with | [a, b], _ => ⟨a, b, rfl⟩
theorem list5 {α : Type} {l : List α} (h : l.length = 5) : ∃ a b c d e, l = [a, b, c, d, e] := match l, h with | [a, b, c, d, e], _ => ⟨a, b, c, d, e, rfl⟩
section
variable {H : Type} {enc : TypeId × Value → H} {W : World} {base : Nat} {sp : Nat → Bool} {held : Bool}
/-- the fields of a struct that is read -/
theorem fields_read {t : TypeId} {fs : Array Field} {fuel : Nat} {cs : List Value} {x : DataW H × List MemPlace} (hs : Tryz.prog.underlying t = some (.struct fs)) (h : DataW.trod enc Tryz.prog W base sp held fuel t cs = some x) :
    cs.length = Tryz.prog.cellsOf t ∧ ∃ n, ∀ (i : Nat) (u : TypeId) (o : Nat), (fs[i]?.map fun f => (f.type, f.offset)) = some (u, o) → ∃ y, DataW.trod enc Tryz.prog W base sp held n u ((cs.drop o).take (Tryz.prog.cellsOf u)) = some y := by
  obtain ⟨xs, n, _, _, hl, hxl, hf⟩ := DataW.trod_struct hs h
  refine ⟨hl, n, fun i u o hi => ?_⟩
  obtain ⟨f, hf1, hf2⟩ := Option.map_eq_some_iff.1 hi
  have h1 := hf i f hf1
  have hlt : i < fs.size := (Array.getElem?_eq_some_iff.1 hf1).1
  rw [List.getElem?_eq_getElem (by omega)] at h1
  injection hf2 with e1 e2
  subst e1 e2
  exact ⟨_, h1⟩
theorem cells1 : Tryz.prog.cellsOf 3 = 1 ∧ Tryz.prog.cellsOf 4 = 1 ∧ Tryz.prog.cellsOf 9 = 1 ∧ Tryz.prog.cellsOf 30 = 2 ∧ Tryz.prog.cellsOf 32 = 5 ∧ Tryz.prog.cellsOf 65 = 2 ∧ Tryz.prog.cellsOf 67 = 5 := by
  refine ⟨?_, ?_, ?_, ?_, ?_, ?_, ?_⟩ <;> kernel_rfl
theorem blob_read {fuel : Nat} {cs : List Value} {x : DataW H × List MemPlace} (h : DataW.trod enc Tryz.prog W base sp held fuel 30 cs = some x) : ∃ a b : Int, cs = [.int .i64 a, .int .i64 b] := by
  obtain ⟨c1, c2, c3, c4, c5, c6, c7⟩ := cells1
  obtain ⟨fs, hs, h0, h1⟩ : ∃ fs : Array Field, Tryz.prog.underlying 30 = some (.struct fs) ∧ (fs[0]?.map fun f => (f.type, f.offset)) = some (3, 0) ∧ (fs[1]?.map fun f => (f.type, f.offset)) = some (3, 1) := ⟨_, Tryz.underlying30, by kernel_rfl, by kernel_rfl⟩
  obtain ⟨hl, n, hf⟩ := fields_read hs h
  rw [c4] at hl
  obtain ⟨v0, v1, rfl⟩ := list2 hl
  obtain ⟨y0, g0⟩ := hf 0 _ _ h0
  obtain ⟨y1, g1⟩ := hf 1 _ _ h1
  rw [c1] at g0 g1
  obtain ⟨a, ha, _⟩ := DataW.trod_int Tryz.underlying3 g0
  obtain ⟨b, hb, _⟩ := DataW.trod_int Tryz.underlying3 g1
  simp only [List.drop_zero, List.take_succ_cons, List.take_zero, List.cons.injEq, and_true, List.drop_succ_cons] at ha hb
  exact ⟨a, b, by rw [ha, hb]⟩
theorem ino_cells {fuel : Nat} {cs : List Value} {x : DataW H × List MemPlace} (h : DataW.trod enc Tryz.prog W base sp held fuel 32 cs = some x) : ∃ v : Ino, cs = inoC v := by
  obtain ⟨c1, c2, c3, c4, c5, c6, c7⟩ := cells1
  obtain ⟨fs, hs, h0, h1, h2, h3⟩ : ∃ fs : Array Field, Tryz.prog.underlying 32 = some (.struct fs) ∧ (fs[0]?.map fun f => (f.type, f.offset)) = some (3, 0) ∧ (fs[1]?.map fun f => (f.type, f.offset)) = some (4, 1) ∧ (fs[2]?.map fun f => (f.type, f.offset)) = some (3, 2) ∧ (fs[3]?.map fun f => (f.type, f.offset)) = some (30, 3) :=
    ⟨_, Tryz.underlying32, by kernel_rfl, by kernel_rfl, by kernel_rfl, by kernel_rfl⟩
  obtain ⟨hl, n, hf⟩ := fields_read hs h
  rw [c5] at hl
  obtain ⟨v0, v1, v2, v3, v4, rfl⟩ := list5 hl
  obtain ⟨y0, g0⟩ := hf 0 _ _ h0
  obtain ⟨y1, g1⟩ := hf 1 _ _ h1
  obtain ⟨y2, g2⟩ := hf 2 _ _ h2
  obtain ⟨y3, g3⟩ := hf 3 _ _ h3
  rw [c1] at g0 g2
  rw [c2] at g1
  rw [c4] at g3
  obtain ⟨a, ha, _⟩ := DataW.trod_int Tryz.underlying3 g0
  obtain ⟨b, hb, _⟩ := DataW.trod_bool Tryz.underlying4 g1
  obtain ⟨c, hc, _⟩ := DataW.trod_int Tryz.underlying3 g2
  obtain ⟨d, e, hd⟩ := blob_read g3
  simp only [List.drop_zero, List.take_succ_cons, List.take_zero, List.cons.injEq, and_true, List.drop_succ_cons] at ha hb hc hd
  exact ⟨⟨a, b, c, d, e⟩, by rw [ha, hb, hc, hd.1, hd.2]; rfl⟩
theorem ent_cells {fuel : Nat} {cs : List Value} {x : DataW H × List MemPlace} (h : DataW.trod enc Tryz.prog W base sp held fuel 65 cs = some x) : ∃ v : Ent, cs = entC v := by
  obtain ⟨c1, c2, c3, c4, c5, c6, c7⟩ := cells1
  obtain ⟨fs, hs, h0, h1⟩ : ∃ fs : Array Field, Tryz.prog.underlying 65 = some (.struct fs) ∧ (fs[0]?.map fun f => (f.type, f.offset)) = some (9, 0) ∧ (fs[1]?.map fun f => (f.type, f.offset)) = some (3, 1) := ⟨_, Tryz.underlying65, by kernel_rfl, by kernel_rfl⟩
  obtain ⟨hl, n, hf⟩ := fields_read hs h
  rw [c6] at hl
  obtain ⟨v0, v1, rfl⟩ := list2 hl
  obtain ⟨y0, g0⟩ := hf 0 _ _ h0
  obtain ⟨y1, g1⟩ := hf 1 _ _ h1
  rw [c3] at g0
  rw [c1] at g1
  obtain ⟨a, ha, _⟩ := DataW.trod_string Tryz.underlying9 g0
  obtain ⟨b, hb, _⟩ := DataW.trod_int Tryz.underlying3 g1
  simp only [List.drop_zero, List.take_succ_cons, List.take_zero, List.cons.injEq, and_true, List.drop_succ_cons] at ha hb
  exact ⟨⟨a, b⟩, by rw [ha, hb]; rfl⟩
theorem snp_cells {fuel : Nat} {cs : List Value} {x : DataW H × List MemPlace} (h : DataW.trod enc Tryz.prog W base sp held fuel 67 cs = some x) : ∃ v : Snp, cs = snpC v := by
  obtain ⟨c1, c2, c3, c4, c5, c6, c7⟩ := cells1
  obtain ⟨fs, hs, h0, h1, h2, h3⟩ : ∃ fs : Array Field, Tryz.prog.underlying 67 = some (.struct fs) ∧ (fs[0]?.map fun f => (f.type, f.offset)) = some (9, 0) ∧ (fs[1]?.map fun f => (f.type, f.offset)) = some (3, 1) ∧ (fs[2]?.map fun f => (f.type, f.offset)) = some (3, 2) ∧ (fs[3]?.map fun f => (f.type, f.offset)) = some (30, 3) :=
    ⟨_, Tryz.underlying67, by kernel_rfl, by kernel_rfl, by kernel_rfl, by kernel_rfl⟩
  obtain ⟨hl, n, hf⟩ := fields_read hs h
  rw [c7] at hl
  obtain ⟨v0, v1, v2, v3, v4, rfl⟩ := list5 hl
  obtain ⟨y0, g0⟩ := hf 0 _ _ h0
  obtain ⟨y1, g1⟩ := hf 1 _ _ h1
  obtain ⟨y2, g2⟩ := hf 2 _ _ h2
  obtain ⟨y3, g3⟩ := hf 3 _ _ h3
  rw [c3] at g0
  rw [c1] at g1 g2
  rw [c4] at g3
  obtain ⟨a, ha, _⟩ := DataW.trod_string Tryz.underlying9 g0
  obtain ⟨b, hb, _⟩ := DataW.trod_int Tryz.underlying3 g1
  obtain ⟨c, hc, _⟩ := DataW.trod_int Tryz.underlying3 g2
  obtain ⟨d, e, hd⟩ := blob_read g3
  simp only [List.drop_zero, List.take_succ_cons, List.take_zero, List.cons.injEq, and_true, List.drop_succ_cons] at ha hb hc hd
  exact ⟨⟨a, b, c, d, e⟩, by rw [ha, hb, hc, hd.1, hd.2]; rfl⟩

theorem row_of_elems {α : Type} {cs : α → List Value} {sz : Nat} (hsz : ∀ x, (cs x).length = sz) (h0 : 0 < sz) {w : World} {ad : Addr} {l : List α} (h : ∀ k x, l[k]? = some x → ∀ j v, (cs x)[j]? = some v → w.cell? ((ad.add (k * sz)).add j) = some v) :
    Mem.Row w (some ad) (l.length * sz) (l.flatMap cs) := by
  refine ⟨?_, fun i u hu => ⟨ad, rfl, ?_⟩⟩
  · clear h
    induction l with
    | nil => simp
    | cons x l ih => rw [List.flatMap_cons, List.length_append, ih, hsz, List.length_cons, Nat.add_mul]; omega
  · have hm : i % sz < sz := Nat.mod_lt _ h0
    have hi : i / sz * sz + i % sz = i := by rw [Nat.mul_comm]; exact Nat.div_add_mod i sz
    have h1 := flatMap_get hsz l (i / sz) (i % sz) hm
    rw [hi, hu] at h1
    obtain ⟨x, hx, hv⟩ := Option.bind_eq_some_iff.1 h1.symm
    have h2 := h (i / sz) x hx (i % sz) u hv
    rw [Mem.add_add, hi] at h2
    exact h2
/-- a list that came in -/
theorem list_read {α : Type} (cs : α → List Value) (sz : Nat) (hsz : ∀ x, (cs x).length = sz) (h0 : 0 < sz) {t e : TypeId} (ht : Tryz.prog.underlying t = some (.slice e)) (hc : Tryz.prog.cellsOf e = sz)
    (hel : ∀ (fuel : Nat) (us : List Value) (x : DataW H × List MemPlace), DataW.trod enc Tryz.prog W base sp held fuel e us = some x → ∃ v, us = cs v) {fuel : Nat} {v : Value} {x : DataW H × List MemPlace}
    (h : DataW.trod enc Tryz.prog W base sp held fuel t [v] = some x) : ∃ (A : Option Addr) (n c : Nat) (l : List α), v = .slice A n c ∧ n ≤ maxLen ∧ Mem.Row W A (n * sz) (l.flatMap cs) ∧ l.length = n := by
  rcases open_slice ht h with ⟨hcs, _⟩ | ⟨a, len, cap, m, n, D, Pl, hcs, _, hl, hm, hmm, _, hi⟩
  · exact ⟨none, 0, 0, [], List.singleton_inj.1 hcs, Nat.zero_le _, by rw [Nat.zero_mul]; exact Mem.Row.nil_ _, rfl⟩
  · have hx : ∀ m', m' ≤ len → ∃ l : List α, l.length = m' ∧ ∀ k y, l[k]? = some y → ∀ j u, (cs y)[j]? = some u → W.cell? ((a.add (k * sz)).add j) = some u := by
      intro m'
      induction m' with
      | zero => exact fun _ => ⟨[], rfl, fun k y h => by simp at h⟩
      | succ m' ih =>
        intro hle
        obtain ⟨l, hll, hel2⟩ := ih (by omega)
        obtain ⟨us, h1, h2⟩ := hi m' (by rw [hmm]; split <;> omega)
        rw [hc] at h1
        obtain ⟨y, rfl⟩ := hel _ _ _ h2
        obtain ⟨_, _, hat⟩ := World.cells?_some h1
        refine ⟨l ++ [y], by simp [hll], fun k z hz j u hu => ?_⟩
        by_cases hk : k < l.length
        · rw [List.getElem?_append_left hk] at hz
          exact hel2 k z hz j u hu
        · rw [List.getElem?_append_right (by omega)] at hz
          have hk2 : k - l.length = 0 := by
            have := (List.getElem?_eq_some_iff.1 hz).1
            simp at this
            omega
          rw [hk2] at hz
          obtain rfl : y = z := by simpa using hz
          obtain rfl : k = m' := by omega
          rw [hat j (by rw [← hsz y]; exact (List.getElem?_eq_some_iff.1 hu).1)]
          exact hu
    obtain ⟨l, hll, hel2⟩ := hx len (Nat.le_refl _)
    refine ⟨some a, len, cap, l, List.singleton_inj.1 hcs, by omega, ?_, hll⟩
    have hr := row_of_elems hsz h0 hel2
    rw [hll] at hr
    exact hr
theorem read_inos {fuel : Nat} {v : Value} {x : DataW H × List MemPlace} (h : DataW.trod enc Tryz.prog W base sp held fuel 22 [v] = some x) : ∃ (A : Option Addr) (n c : Nat) (l : List Ino), v = .slice A n c ∧ n ≤ maxLen ∧ Mem.Row W A (n * 5) (l.flatMap inoC) ∧ l.length = n :=
  list_read inoC 5 (fun _ => rfl) (by decide) Tryz.underlying22 cells1.2.2.2.2.1 (fun _ _ _ h => ino_cells h) h
theorem read_ents {fuel : Nat} {v : Value} {x : DataW H × List MemPlace} (h : DataW.trod enc Tryz.prog W base sp held fuel 35 [v] = some x) : ∃ (A : Option Addr) (n c : Nat) (l : List Ent), v = .slice A n c ∧ n ≤ maxLen ∧ Mem.Row W A (n * 2) (l.flatMap entC) ∧ l.length = n :=
  list_read entC 2 (fun _ => rfl) (by decide) Tryz.underlying35 cells1.2.2.2.2.2.1 (fun _ _ _ h => ent_cells h) h
theorem read_snps {fuel : Nat} {v : Value} {x : DataW H × List MemPlace} (h : DataW.trod enc Tryz.prog W base sp held fuel 41 [v] = some x) : ∃ (A : Option Addr) (n c : Nat) (l : List Snp), v = .slice A n c ∧ n ≤ maxLen ∧ Mem.Row W A (n * 5) (l.flatMap snpC) ∧ l.length = n :=
  list_read snpC 5 (fun _ => rfl) (by decide) Tryz.underlying41 cells1.2.2.2.2.2.2 (fun _ _ _ h => snp_cells h) h
end
end Go.Proofs.YtaihpnmojiagnaaGreatDoor.Door

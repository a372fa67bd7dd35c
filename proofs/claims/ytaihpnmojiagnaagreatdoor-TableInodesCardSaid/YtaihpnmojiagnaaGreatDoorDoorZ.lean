/- Lists that came in, with what is known of their names' sizes. -/
import Derived.Test.YtaihpnmojiagnaaGreatDoorDoorT
import Derived.Test.YtaihpnmojiagnaaGreatDoorTableGC
namespace Go.Proofs.YtaihpnmojiagnaaGreatDoor.Door
open Go.RowKit Go.ChangeShapes Go.WideShapes Go.Deep Table

theorem name_le {s : ByteArray} (h : s.size ≤ maxLen) : s.size ≤ 9223372036854775807 := by unfold maxLen at h; exact h
section
variable {H : Type} {enc : TypeId × Value → H} {W : World} {base : Nat} {sp : Nat → Bool} {held : Bool}
theorem ent_cellsP {fuel : Nat} {cs : List Value} {x : DataW H × List MemPlace} (h : DataW.trod enc Tryz.prog W base sp held fuel 65 cs = some x) : ∃ v : Ent, cs = entC v ∧ entN v := by
  obtain ⟨c1, c2, c3, c4, c5, c6, c7⟩ := cells1
  obtain ⟨fs, hs, h0, h1⟩ : ∃ fs : Array Field, Tryz.prog.underlying 65 = some (.struct fs) ∧ (fs[0]?.map fun f => (f.type, f.offset)) = some (9, 0) ∧ (fs[1]?.map fun f => (f.type, f.offset)) = some (3, 1) := ⟨_, Tryz.underlying65, by kernel_rfl, by kernel_rfl⟩
  obtain ⟨hl, n, hf⟩ := fields_read hs h
  rw [c6] at hl
  obtain ⟨v0, v1, rfl⟩ := list2 hl
  obtain ⟨y0, g0⟩ := hf 0 _ _ h0
  obtain ⟨y1, g1⟩ := hf 1 _ _ h1
  rw [c3] at g0
  rw [c1] at g1
  obtain ⟨a, ha, _, hsz⟩ := DataW.trod_string Tryz.underlying9 g0
  obtain ⟨b, hb, _⟩ := DataW.trod_int Tryz.underlying3 g1
  simp only [List.drop_zero, List.take_succ_cons, List.take_zero, List.cons.injEq, and_true, List.drop_succ_cons] at ha hb
  exact ⟨⟨a, b⟩, by rw [ha, hb]; rfl, name_le hsz⟩
theorem snp_cellsP {fuel : Nat} {cs : List Value} {x : DataW H × List MemPlace} (h : DataW.trod enc Tryz.prog W base sp held fuel 67 cs = some x) : ∃ v : Snp, cs = snpC v ∧ snpN v := by
  obtain ⟨c1, c2, c3, c4, c5, c6, c7⟩ := cells1
  obtain ⟨fs, hs, h0, h1, h2, h3⟩ : ∃ fs : Array Field, Tryz.prog.underlying 67 = some (.struct fs) ∧ (fs[0]?.map fun f => (f.type, f.offset)) = some (9, 0) ∧ (fs[1]?.map fun f => (f.type, f.offset)) = some (3, 1) ∧ (fs[2]?.map fun f => (f.type, f.offset)) = some (3, 2) ∧ (fs[3]?.map fun f => (f.type, f.offset)) = some (30, 3) :=
    ⟨_, Tryz.underlying67, by kernel_rfl, by kernel_rfl, by kernel_rfl, by kernel_rfl⟩
  obtain ⟨hl, n, hf⟩ := fields_read hs h
  rw [c7] at hl
  obtain ⟨v0, v1, v2, v3, v4, rfl⟩ := list5 hl
  obtain ⟨y0, g0⟩ := hf 0 _ _ h0
  obtain ⟨y1, g1⟩ := hf 1 _ _ h1
  obtain ⟨y2, g2⟩ := hf 2 _ _ h2
  obtain ⟨y3, g3⟩ := hf 3 _ _ h3
  rw [c3] at g0
  rw [c1] at g1 g2
  rw [c4] at g3
  obtain ⟨a, ha, _, hsz⟩ := DataW.trod_string Tryz.underlying9 g0
  obtain ⟨b, hb, _⟩ := DataW.trod_int Tryz.underlying3 g1
  obtain ⟨c, hc, _⟩ := DataW.trod_int Tryz.underlying3 g2
  obtain ⟨d, e, hd⟩ := blob_read g3
  simp only [List.drop_zero, List.take_succ_cons, List.take_zero, List.cons.injEq, and_true, List.drop_succ_cons] at ha hb hc hd
  exact ⟨⟨a, b, c, d, e⟩, by rw [ha, hb, hc, hd.1, hd.2]; rfl, name_le hsz⟩

theorem list_readP {α : Type} (N : α → Prop) (cs : α → List Value) (sz : Nat) (hsz : ∀ x, (cs x).length = sz) (h0 : 0 < sz) {t e : TypeId} (ht : Tryz.prog.underlying t = some (.slice e)) (hc : Tryz.prog.cellsOf e = sz)
    (hel : ∀ (fuel : Nat) (us : List Value) (x : DataW H × List MemPlace), DataW.trod enc Tryz.prog W base sp held fuel e us = some x → ∃ v, us = cs v ∧ N v) {fuel : Nat} {v : Value} {x : DataW H × List MemPlace}
    (h : DataW.trod enc Tryz.prog W base sp held fuel t [v] = some x) : ∃ (A : Option Addr) (n c : Nat) (l : List α), v = .slice A n c ∧ n ≤ maxLen ∧ Mem.Row W A (n * sz) (l.flatMap cs) ∧ l.length = n ∧ ∀ x ∈ l, N x := by
  rcases open_slice ht h with ⟨hcs, _⟩ | ⟨a, len, cap, m, n, D, Pl, hcs, _, hl, hm, hmm, _, hi⟩
  · exact ⟨none, 0, 0, [], List.singleton_inj.1 hcs, Nat.zero_le _, by rw [Nat.zero_mul]; exact Mem.Row.nil_ _, rfl, by simp⟩
  · have hx : ∀ m', m' ≤ len → ∃ l : List α, l.length = m' ∧ (∀ x ∈ l, N x) ∧ ∀ k y, l[k]? = some y → ∀ j u, (cs y)[j]? = some u → W.cell? ((a.add (k * sz)).add j) = some u := by
      intro m'
      induction m' with
      | zero => exact fun _ => ⟨[], rfl, by simp, fun k y h => by simp at h⟩
      | succ m' ih =>
        intro hle
        obtain ⟨l, hll, hnn, hel2⟩ := ih (by omega)
        obtain ⟨us, h1, h2⟩ := hi m' (by rw [hmm]; split <;> omega)
        rw [hc] at h1
        obtain ⟨y, rfl, hny⟩ := hel _ _ _ h2
        obtain ⟨_, _, hat⟩ := World.cells?_some h1
        refine ⟨l ++ [y], by simp [hll], (fun x hx => (List.mem_append.1 hx).elim (hnn x) (fun h => List.mem_singleton.1 h ▸ hny)), fun k z hz j u hu => ?_⟩
        by_cases hk : k < l.length
        · rw [List.getElem?_append_left hk] at hz
          exact hel2 k z hz j u hu
        · rw [List.getElem?_append_right (by omega)] at hz
          have hk2 : k - l.length = 0 := by
            have := (List.getElem?_eq_some_iff.1 hz).1
            simp at this
            omega
          rw [hk2] at hz
          obtain rfl : y = z := by simpa using hz
          obtain rfl : k = m' := by omega
          rw [hat j (by rw [← hsz y]; exact (List.getElem?_eq_some_iff.1 hu).1)]
          exact hu
    obtain ⟨l, hll, hnn, hel2⟩ := hx len (Nat.le_refl _)
    refine ⟨some a, len, cap, l, List.singleton_inj.1 hcs, by omega, ?_, hll, hnn⟩
    have hr := row_of_elems hsz h0 hel2
    rw [hll] at hr
    exact hr
set_option maxRecDepth 100000 in
theorem open_inos {v : Value} {d : DataW H} {p : List MemPlace} (hv : Value.okWide Tryz.prog W .any base 22 v) (h : DataW.Trod enc Tryz.prog W 0 (fun _ => true) true 22 v d p) :
    ∃ (A : Option Addr) (n c : Nat) (l : List Ino), v = .slice A n c ∧ n ≤ 9223372036854775807 ∧ Mem.Row W A (n * 5) (l.flatMap inoC) ∧ l.length = n ∧ ∀ x ∈ l, inoN x := by
  obtain ⟨a0, len, cap, rfl⟩ := okWide_slice Tryz.underlying22 hv
  obtain ⟨fuel, hf⟩ := h
  obtain ⟨A, n, c, l, h1, h2, h3, h4⟩ := list_readP inoN inoC 5 (fun _ => rfl) (by decide) Tryz.underlying22 cells1.2.2.2.2.1 (fun _ _ _ h => (ino_cells h).imp fun _ h => ⟨h, trivial⟩) (v := .slice a0 len cap) hf
  unfold maxLen at h2
  exact ⟨A, n, c, l, h1, h2, h3, h4⟩
set_option maxRecDepth 100000 in
theorem open_ents {v : Value} {d : DataW H} {p : List MemPlace} (hv : Value.okWide Tryz.prog W .any base 35 v) (h : DataW.Trod enc Tryz.prog W 0 (fun _ => true) true 35 v d p) :
    ∃ (A : Option Addr) (n c : Nat) (l : List Ent), v = .slice A n c ∧ n ≤ 9223372036854775807 ∧ Mem.Row W A (n * 2) (l.flatMap entC) ∧ l.length = n ∧ ∀ x ∈ l, entN x := by
  obtain ⟨a0, len, cap, rfl⟩ := okWide_slice Tryz.underlying35 hv
  obtain ⟨fuel, hf⟩ := h
  obtain ⟨A, n, c, l, h1, h2, h3, h4⟩ := list_readP entN entC 2 (fun _ => rfl) (by decide) Tryz.underlying35 cells1.2.2.2.2.2.1 (fun _ _ _ h => ent_cellsP h) (v := .slice a0 len cap) hf
  unfold maxLen at h2
  exact ⟨A, n, c, l, h1, h2, h3, h4⟩
set_option maxRecDepth 100000 in
theorem open_snps {v : Value} {d : DataW H} {p : List MemPlace} (hv : Value.okWide Tryz.prog W .any base 41 v) (h : DataW.Trod enc Tryz.prog W 0 (fun _ => true) true 41 v d p) :
    ∃ (A : Option Addr) (n c : Nat) (l : List Snp), v = .slice A n c ∧ n ≤ 9223372036854775807 ∧ Mem.Row W A (n * 5) (l.flatMap snpC) ∧ l.length = n ∧ ∀ x ∈ l, snpN x := by
  obtain ⟨a0, len, cap, rfl⟩ := okWide_slice Tryz.underlying41 hv
  obtain ⟨fuel, hf⟩ := h
  obtain ⟨A, n, c, l, h1, h2, h3, h4⟩ := list_readP snpN snpC 5 (fun _ => rfl) (by decide) Tryz.underlying41 cells1.2.2.2.2.2.2 (fun _ _ _ h => snp_cellsP h) (v := .slice a0 len cap) hf
  unfold maxLen at h2
  exact ⟨A, n, c, l, h1, h2, h3, h4⟩
end
end Go.Proofs.YtaihpnmojiagnaaGreatDoor.Door

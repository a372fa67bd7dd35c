/- A script of calls that came in: four cells each, the last a text. -/
import Derived.Test.YteghmnlngkcgiaaDoorDoor
import Derived.Deep.Slices
import Derived.Deep.Fields
namespace Go.Proofs.YteghmnlngkcgiaaDoor.Door
open Go.RowKit Go.ChangeShapes Go.WideShapes Go.Deep

/-- the cells of a script of n calls, of whose texts Q holds -/
def Ops4 (Q : ByteArray → Prop) (W : World) (A : Option Addr) (n : Nat) : Prop :=
  ∀ k, k < n → ∃ (ad : Addr) (x y z : Int) (s : ByteArray), A = some ad ∧ (ad.add (k * 4)).block < W.heap.size ∧ W.cell? (ad.add (k * 4)) = some (.int .i64 x) ∧ W.cell? ⟨(ad.add (k * 4)).block, (ad.add (k * 4)).off + 1, none⟩ = some (.int .i64 y) ∧
    W.cell? ⟨(ad.add (k * 4)).block, (ad.add (k * 4)).off + 2, none⟩ = some (.int .i64 z) ∧ W.cell? ⟨(ad.add (k * 4)).block, (ad.add (k * 4)).off + 3, none⟩ = some (.string s) ∧ y ≤ 9223372036854775807 ∧ z ≤ 9223372036854775807 ∧ Q s
theorem Ops4.mono {Q R : ByteArray → Prop} {W : World} {A : Option Addr} {n : Nat} (h : Ops4 Q W A n) (hQ : ∀ s, Q s → R s) : Ops4 R W A n := fun k hk => by
  obtain ⟨ad, x, y, z, s, h1, h2, h3, h4, h5, h6, h7, h8, h9⟩ := h k hk
  exact ⟨ad, x, y, z, s, h1, h2, h3, h4, h5, h6, h7, h8, hQ s h9⟩
theorem Ops4.below {Q : ByteArray → Prop} {W W' : World} {A : Option Addr} {n : Nat} (h : Ops4 Q W A n) (hb : Below W.heap.size W W') : Ops4 Q W' A n := fun k hk => by
  obtain ⟨ad, x, y, z, s, h1, h2, h3, h4, h5, h6, h7⟩ := h k hk
  refine ⟨ad, x, y, z, s, h1, Nat.lt_of_lt_of_le h2 hb.size, ?_, ?_, ?_, ?_, h7⟩
  · exact (hb.cell h2).trans h3
  · exact (hb.cell (p := ⟨(ad.add (k * 4)).block, _, none⟩) h2).trans h4
  · exact (hb.cell (p := ⟨(ad.add (k * 4)).block, _, none⟩) h2).trans h5
  · exact (hb.cell (p := ⟨(ad.add (k * 4)).block, _, none⟩) h2).trans h6
/-- a text stands in what was given -/
def Holds {H : Type} (d : DataW H) (s : ByteArray) : Prop := ∃ elems spare parts, d = .slice elems spare ∧ .agg parts ∈ elems ∧ parts[3]? = some (.lit (.string s.data.toList))

theorem cellsOp : Tryd.prog.cellsOf 49 = 4 := by kernel_rfl
theorem opFields : ∃ fs : Array Field, Tryd.prog.underlying 49 = some (.struct fs) ∧ oneCellFields Tryd.prog fs = true ∧ (fs[0]?.map (·.type)) = some 3 ∧ (fs[1]?.map (·.type)) = some 3 ∧ (fs[2]?.map (·.type)) = some 3 ∧ (fs[3]?.map (·.type)) = some 9 :=
  ⟨_, Tryd.underlying49, by kernel_rfl, by kernel_rfl, by kernel_rfl, by kernel_rfl, by kernel_rfl⟩

set_option maxRecDepth 100000 in
theorem open_ops4 {H : Type} {enc : TypeId × Value → H} {W : World} {base : Nat} {v : Value} {d : DataW H} {p : List MemPlace} (hv : Value.okWide Tryd.prog W .any base 47 v) (h : DataW.Trod enc Tryd.prog W 0 (fun _ => true) true 47 v d p) :
    ∃ (A : Option Addr) (n c : Nat), v = .slice A n c ∧ n ≤ maxLen ∧ Ops4 (Holds d) W A n := by
  obtain ⟨a0, len, cap, rfl⟩ := okWide_slice Tryd.underlying47 hv
  obtain ⟨fuel, hf⟩ := h
  obtain ⟨fs, hs, hone, f0, f1, f2, f3⟩ := opFields
  rcases open_slice Tryd.underlying47 hf with ⟨hcs, _⟩ | ⟨a, len', cap', m, n, D, Pl, hcs, hb, hl, hm, hmm, hd, hi⟩
  · simp only [Value.cells] at hcs
    obtain ⟨rfl, rfl, rfl⟩ : a0 = none ∧ len = 0 ∧ cap = 0 := by simpa using hcs
    exact ⟨none, 0, 0, rfl, Nat.zero_le _, fun k hk => absurd hk (by omega)⟩
  · simp only [Value.cells] at hcs
    obtain ⟨rfl, rfl, rfl⟩ : a0 = some a ∧ len = len' ∧ cap = cap' := by simpa using hcs
    refine ⟨some a, len, cap, rfl, by omega, fun k hk => ?_⟩
    have hkm : k < m := by rw [hmm]; split <;> omega
    obtain ⟨cs', hc, ht⟩ := hi k hkm
    rw [cellsOp] at hc
    obtain ⟨ys, n', _, hx, hlen, hyl, hfld⟩ := DataW.trod_struct hs ht
    rw [cellsOp] at hlen
    obtain ⟨_, hcl, hat⟩ := World.cells?_some hc
    have one : ∀ j (_ : j < 4), (cs'.drop j).take 1 = [cs'[j]'(by omega)] := fun j hj => by
      rw [List.drop_eq_getElem_cons (by omega)]
      rfl
    have fld : ∀ j, j < 4 → (fs[j]?.map (·.type)) = some 3 → ∃ x : Int, W.cell? ((a.add (k * 4)).add j) = some (.int .i64 x) ∧ x ≤ 9223372036854775807 := by
      intro j hj hft
      obtain ⟨f, hf1, hf2⟩ := Option.map_eq_some_iff.1 hft
      obtain ⟨ho, hk1⟩ := hone_of hone j f hf1
      have h1 := hfld j f hf1
      rw [ho, hk1, hf2] at h1
      have hjl : j < fs.size := (Array.getElem?_eq_some_iff.1 hf1).1
      have hys : ys[j]? = some (ys[j]'(by omega)) := List.getElem?_eq_getElem (by omega)
      rw [hys] at h1
      obtain ⟨x, hx, _, hw⟩ := DataW.trod_int Tryd.underlying3 h1
      refine ⟨x, ?_, (bounds_i64 hw).2⟩
      rw [hat j (by omega)]
      rw [one j hj] at hx
      rw [List.getElem?_eq_getElem (by omega)]
      simpa using hx
    obtain ⟨x, hx0, _⟩ := fld 0 (by omega) f0
    obtain ⟨y, hy, by_⟩ := fld 1 (by omega) f1
    obtain ⟨z, hz, bz⟩ := fld 2 (by omega) f2
    obtain ⟨s, hs3, hd3⟩ : ∃ s : ByteArray, W.cell? ((a.add (k * 4)).add 3) = some (.string s) ∧ Holds d s := by
      obtain ⟨f, hf1, hf2⟩ := Option.map_eq_some_iff.1 f3
      obtain ⟨ho, hk1⟩ := hone_of hone 3 f hf1
      have h1 := hfld 3 f hf1
      rw [ho, hk1, hf2] at h1
      have hjl : 3 < fs.size := (Array.getElem?_eq_some_iff.1 hf1).1
      have hys : ys[3]? = some (ys[3]'(by omega)) := List.getElem?_eq_getElem (by omega)
      rw [hys] at h1
      obtain ⟨s, hs1, hs2, _⟩ := DataW.trod_string Tryd.underlying9 h1
      refine ⟨s, ?_, (List.range len).map D, _, ys.map (·.1), congrArg (·.1) hd, ?_, ?_⟩
      · rw [hat 3 (by omega)]
        rw [one 3 (by omega)] at hs1
        rw [List.getElem?_eq_getElem (by omega)]
        simpa using hs1
      · exact List.mem_map.2 ⟨k, List.mem_range.2 hk, congrArg (·.1) hx⟩
      · rw [List.getElem?_map, hys, Option.map_some]
        exact congrArg some (congrArg (·.1) hs2)
    have e0 : (a.add (k * 4)).add 0 = a.add (k * 4) := by simp [Addr.add]
    rw [e0] at hx0
    exact ⟨a, x, y, z, s, rfl, World.block_lt_of_cell? W _ hx0, hx0, hy, hz, hs3, by_, bz, hd3⟩
theorem weights_all {H : Type} {P : Program} {e : TypeId} : ∀ {l : List (DataW H)} {d : DataW H}, d ∈ l → ∀ n ∈ d.weights P e, n ∈ DataW.weightsAll P e l
  | a :: l, d, hd, n, hn => by
    rw [DataW.weightsAll, List.mem_append]
    rcases List.mem_cons.1 hd with rfl | hd
    · exact Or.inl hn
    · exact Or.inr (weights_all hd n hn)
theorem ops_size {H : Type} {ts : List TypeId} {ds : List (DataW H)} {d : DataW H} {s : ByteArray} (h : (DataW.weightsEach Tryd.prog ts ds).all (· ≤ reachBytes) = true) {j : Nat} (ht : ts[j]? = some 47) (hd : ds[j]? = some d) (hs : Holds d s) : s.size ≤ 140737488355328 := by
  obtain ⟨elems, spare, parts, rfl, hm, hp⟩ := hs
  obtain ⟨fs, hfs, _, _, _, _, f3⟩ := opFields
  have h3 : s.data.toList.length ∈ DataW.weights Tryd.prog 49 (.agg parts : DataW H) := by
    rw [DataW.weights, hfs]
    refine DataW.weights_mem_each (j := 3) (t := 9) (d := .lit (.string s.data.toList)) ?_ hp _ (by simp [DataW.weights])
    rw [List.getElem?_map, Array.getElem?_toList]
    exact f3
  have hm2 : s.data.toList.length ∈ DataW.weights Tryd.prog 47 (.slice elems spare : DataW H) := by
    rw [DataW.weights, show Tryd.prog.underlying 47 = _ from Tryd.underlying47]
    exact List.mem_cons_of_mem _ (List.mem_append_left _ (weights_all hm _ h3))
  have h1 := List.all_eq_true.1 h _ (DataW.weights_mem_each ht hd _ hm2)
  have h2 := reachBytes_lt
  have h4 := Lib.size_eq s
  simp only [decide_eq_true_eq] at h1
  omega
end Go.Proofs.YteghmnlngkcgiaaDoor.Door

/- A slice of records that came in, field by field. -/
import Derived.Test.YtkghlbpkdkonbaaGreatMems
import Derived.Deep.Slices
import Derived.Deep.Fields
import Derived.ProofKit
import Derived.OpenShut
import Derived.SizedLaws
import Derived.Lib.Strings
import Derived.ChangeArms
namespace Go.Proofs.YtkghlbpkdkonbaaGreat.Recs
open Go Go.RowKit Go.ChangeShapes Go.WideShapes Go.Deep

/-- a record's field, among what was given -/
def Part {H : Type} (d : DataW H) (j : Nat) (x : DataW H) : Prop := ∃ elems spare parts, d = .slice elems spare ∧ .agg parts ∈ elems ∧ parts[j]? = some x
set_option maxRecDepth 100000 in
theorem open_recs {P : Program} {H : Type} {enc : TypeId × Value → H} {W : World} {base : Nat} {v : Value} {d : DataW H} {p : List MemPlace} {T E : TypeId} {nf : Nat} {fs : Array Field}
    (hT : P.underlying T = some (.slice E)) (hE : P.underlying E = some (.struct fs)) (hone : oneCellFields P fs = true) (hc : P.cellsOf E = nf) (hfs : fs.size = nf)
    (hv : Value.okWide P W .any base T v) (h : DataW.Trod enc P W 0 (fun _ => true) true T v d p) :
    ∃ (A : Option Addr) (n c : Nat), v = .slice A n c ∧ n ≤ maxLen ∧ ∀ k, k < n → ∃ ad : Addr, A = some ad ∧ ∀ j f, fs[j]? = some f →
      ∃ (u : Value) (fuel : Nat) (x : DataW H × List MemPlace), W.cell? ((ad.add (k * nf)).add j) = some u ∧ DataW.trod enc P W 0 (fun _ => true) true fuel f.type [u] = some x ∧ Part d j x.1 := by
  obtain ⟨a0, len, cap, rfl⟩ := okWide_slice hT hv
  obtain ⟨fuel, hf⟩ := h
  rcases open_slice hT hf with ⟨hcs, _⟩ | ⟨a, len', cap', m, n, D, Pl, hcs, hb, hl, hm, hmm, hd, hi⟩
  · simp only [Value.cells] at hcs
    obtain ⟨rfl, rfl, rfl⟩ : a0 = none ∧ len = 0 ∧ cap = 0 := by simpa using hcs
    exact ⟨none, 0, 0, rfl, Nat.zero_le _, fun k hk => absurd hk (by omega)⟩
  · simp only [Value.cells] at hcs
    obtain ⟨rfl, rfl, rfl⟩ : a0 = some a ∧ len = len' ∧ cap = cap' := by simpa using hcs
    refine ⟨some a, len, cap, rfl, by omega, fun k hk => ⟨a, rfl, fun j f hjf => ?_⟩⟩
    have hkm : k < m := by rw [hmm]; split <;> omega
    obtain ⟨cs', hc', ht⟩ := hi k hkm
    rw [hc] at hc'
    obtain ⟨ys, n', _, hx, hlen, hyl, hfld⟩ := DataW.trod_struct hE ht
    rw [hc] at hlen
    obtain ⟨_, hcl, hat⟩ := World.cells?_some hc'
    have hj : j < nf := by have := (Array.getElem?_eq_some_iff.1 hjf).1; omega
    obtain ⟨ho, hk1⟩ := hone_of hone j f hjf
    have h1 := hfld j f hjf
    have hys : ys[j]? = some (ys[j]'(by omega)) := List.getElem?_eq_getElem (by omega)
    have e1 : (cs'.drop j).take 1 = [cs'[j]'(by omega)] := by
      rw [List.drop_eq_getElem_cons (by omega)]
      rfl
    rw [ho, hk1, hys, e1] at h1
    refine ⟨cs'[j]'(by omega), n', _, ?_, h1, (List.range len).map D, _, ys.map (·.1), congrArg (·.1) hd, ?_, ?_⟩
    · rw [hat j (by omega), List.getElem?_eq_getElem (by omega)]
    · exact List.mem_map.2 ⟨k, List.mem_range.2 hk, congrArg (·.1) hx⟩
    · rw [List.getElem?_map, hys, Option.map_some]
set_option maxRecDepth 100000 in
theorem weights_all {H : Type} {P : Program} {e : TypeId} : ∀ {l : List (DataW H)} {d : DataW H}, d ∈ l → ∀ n ∈ d.weights P e, n ∈ DataW.weightsAll P e l
  | a :: l, d, hd, n, hn => by
    rw [DataW.weightsAll, List.mem_append]
    rcases List.mem_cons.1 hd with rfl | hd
    · exact Or.inl hn
    · exact Or.inr (weights_all hd n hn)
set_option maxRecDepth 100000 in
/-- a record's text is within the reach -/
theorem part_size {P : Program} {H : Type} {ts : List TypeId} {ds : List (DataW H)} {d : DataW H} {s : ByteArray} {T E S : TypeId} {fs : Array Field} {f : Field} {j : Nat}
    (hT : P.underlying T = some (.slice E)) (hE : P.underlying E = some (.struct fs)) (hjf : fs[j]? = some f) (hft : f.type = S)
    (h : (DataW.weightsEach P ts ds).all (· ≤ reachBytes) = true) {i : Nat} (ht : ts[i]? = some T) (hd : ds[i]? = some d) (hs : Part d j (.lit (.string s.data.toList))) : s.size ≤ 140737488355328 := by
  obtain ⟨elems, spare, parts, rfl, hm, hp⟩ := hs
  have h3 : s.data.toList.length ∈ DataW.weights P E (.agg parts : DataW H) := by
    rw [DataW.weights, hE]
    refine DataW.weights_mem_each (j := j) (t := S) (d := .lit (.string s.data.toList)) ?_ hp _ (by simp [DataW.weights])
    rw [List.getElem?_map, Array.getElem?_toList, hjf, Option.map_some, hft]
  have hm2 : s.data.toList.length ∈ DataW.weights P T (.slice elems spare : DataW H) := by
    rw [DataW.weights, hT]
    exact List.mem_cons_of_mem _ (List.mem_append_left _ (weights_all hm _ h3))
  have h1 := List.all_eq_true.1 h _ (DataW.weights_mem_each ht hd _ hm2)
  have h2 := reachBytes_lt
  have h4 := Lib.size_eq s
  simp only [decide_eq_true_eq] at h1
  omega
section
variable {P : Program} {H : Type} {enc : TypeId × Value → H} {W : World} {fuel : Nat} {t : TypeId} {u : Value} {x : DataW H × List MemPlace}
set_option maxRecDepth 100000 in
theorem one_int (ht : P.underlying t = some (.int .i64)) (h : DataW.trod enc P W 0 (fun _ => true) true fuel t [u] = some x) : ∃ z : Int, u = .int .i64 z ∧ -9223372036854775808 ≤ z ∧ z ≤ 9223372036854775807 := by
  obtain ⟨z, h1, _, hw⟩ := DataW.trod_int ht h
  injection h1 with h1
  exact ⟨z, h1, (bounds_i64 hw).1, (bounds_i64 hw).2⟩
set_option maxRecDepth 100000 in
theorem one_u8 (ht : P.underlying t = some (.int .u8)) (h : DataW.trod enc P W 0 (fun _ => true) true fuel t [u] = some x) : ∃ c : UInt8, u = .int .u8 (c.toNat : Int) := by
  obtain ⟨z, h1, _, hw⟩ := DataW.trod_int ht h
  injection h1 with h1
  have hb := bounds_u8 hw
  exact ⟨UInt8.ofNat z.toNat, by rw [h1, UInt8.toNat_ofNat']; congr 1; omega⟩
set_option maxRecDepth 100000 in
theorem one_bool (ht : P.underlying t = some .bool) (h : DataW.trod enc P W 0 (fun _ => true) true fuel t [u] = some x) : ∃ b : Bool, u = .bool b := by
  obtain ⟨b, h1, _⟩ := DataW.trod_bool ht h
  injection h1 with h1
  exact ⟨b, h1⟩
set_option maxRecDepth 100000 in
theorem one_string (ht : P.underlying t = some .string) (h : DataW.trod enc P W 0 (fun _ => true) true fuel t [u] = some x) : ∃ s : ByteArray, u = .string s ∧ x.1 = .lit (.string s.data.toList) := by
  obtain ⟨s, h1, h2, _⟩ := DataW.trod_string ht h
  injection h1 with h1
  exact ⟨s, h1, by rw [h2]⟩
end
end Go.Proofs.YtkghlbpkdkonbaaGreat.Recs

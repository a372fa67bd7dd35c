/- What was asked, opened: a set, three numbers. -/
import Derived.Test.YthclfljmnljhdaaDoorDoor
import Derived.Test.YthclfljmnljhdaaDoorAllocPicksW
import Derived.Lib.SmallJoins
namespace Go.Proofs.YthclfljmnljhdaaDoor.Door
open Go.RowKit Go.ChangeShapes Go.WideShapes

set_option maxRecDepth 100000 in
theorem open_ask {H : Type} {enc : TypeId × Value → H} {W : World} {base : Nat} {v : Value} {d : DataW H} {p : List MemPlace} (hv : Value.okWide Tryd.prog W .any base 23 v) (h : DataW.Trod enc Tryd.prog W 0 (fun _ => true) true 23 v d p) :
    ∃ (U : ByteArray) (B f m : Int) (r : List (DataW H)), v = Alloc.askVal U B f m ∧ (-9223372036854775808 ≤ f ∧ f ≤ 9223372036854775807) ∧ d = .agg (.lit (.string U.data.toList) :: r) := by
  obtain ⟨v0, v1, v2, v3, y0, y1, y2, y3, n, rfl, hd, _, h0, h1, h2, h3⟩ := Go.Joins.open_agg4 Tryd.underlying23 (by kernel_rfl) (by kernel_rfl) hv h
  obtain ⟨U, hU, hy0, _⟩ := DataW.trod_string Tryd.underlying9 h0
  obtain ⟨B, hB, _⟩ := DataW.trod_int Tryd.underlying3 h1
  obtain ⟨f, hf, _, wf⟩ := DataW.trod_int Tryd.underlying3 h2
  obtain ⟨m, hm, _⟩ := DataW.trod_int Tryd.underlying3 h3
  injection hU with hU _
  injection hB with hB _
  injection hf with hf _
  injection hm with hm _
  subst hU hB hf hm
  exact ⟨U, B, f, m, _, rfl, bounds_i64 wf, by rw [hd, hy0]⟩
theorem ask_size {H : Type} {ts : List TypeId} {ds r : List (DataW H)} {U : ByteArray} (h : (DataW.weightsEach Tryd.prog ts ds).all (· ≤ reachBytes) = true) {j : Nat} (ht : ts[j]? = some 23) (hd : ds[j]? = some (.agg (.lit (.string U.data.toList) :: r))) : U.size ≤ 140737488355328 := by
  have hm : U.data.toList.length ∈ DataW.weights Tryd.prog 23 (.agg (.lit (.string U.data.toList) :: r) : DataW H) := by
    rw [DataW.weights, show Tryd.prog.underlying 23 = _ from Tryd.underlying23]
    simp [DataW.weightsEach, DataW.weights]
  have h1 := List.all_eq_true.1 h _ (DataW.weights_mem_each ht hd _ hm)
  have h2 := reachBytes_lt
  have h3 := Lib.size_eq U
  simp only [decide_eq_true_eq] at h1
  omega
end Go.Proofs.YthclfljmnljhdaaDoor.Door

/- Image. -/
import Derived.Test.YtojhlijcinenoaaDoorDiskWalkE
import Derived.Test.YtojhlijcinenoaaDoorShelf
import Derived.Lib.Join
namespace Go.Proofs.YtojhlijcinenoaaDoor.Disk
open Go Go.RowKit Go.Maps Mem

set_option maxRecDepth 100000 in
theorem join_nil (L : List (List UInt8)) : Lib.join L [] = L.flatMap id := by
  cases L with
  | nil => rfl
  | cons x r => rw [Lib.join_cons, Lib.joinTail]; simp
section
variable {F : Nat → Prop} {w w' : World} {b : Nat} {d d' : Dk}
set_option maxRecDepth 100000 in
theorem image_len {l : List ByteArray} (h : ∀ s ∈ l, s.size = 64) : (l.flatMap fun s => s.data.toList).length = 64 * l.length := by
  induction l with
  | nil => rfl
  | cons s l ih =>
    rw [List.flatMap_cons, List.length_append, ih (fun t ht => h t (List.mem_cons_of_mem _ ht)), List.length_cons]
    have := h s List.mem_cons_self
    rw [← Lib.size_eq s, this]
    omega
set_option maxRecDepth 100000 in
set_option maxHeartbeats 4000000 in
theorem image_any (h : IsDk F w b d) (hf : Fit d) : Calls Tryd.prog 26 #[.pointer (some ⟨b, 0, none⟩)] w fun e w' => e = .returned (.string ⟨(imageD d).toArray⟩) ∧ Below w.heap.size w w' := by
  obtain ⟨sb, lb, bb, sc, ov, h⟩ := h.core
  have h1 := h.1
  have h2 := h.2.1
  have c0 : w.cell? ⟨b, 0, none⟩ = some (.slice (some ⟨sb, 0, none⟩) d.stays.length sc) := h1.cell 0
  have hfew := hf.few
  obtain ⟨hbase, hlt⟩ := h2.lt sb rfl
  have hcap : d.stays.length ≤ sc := by
    rcases h2.2 with ⟨e, _⟩ | ⟨g, cap, cur, hv, _, _, hle, _⟩
    · cases e
    · injection hv with _ _ hv
      rw [hv]; exact hle
  have ej : Lib.join (d.stays.map fun s => s.data.toList) [] = imageD d := by rw [join_nil, imageD, List.flatMap_map]; rfl
  have k := Tryd.strings_Join sb 0 sc d.stays ⟨#[]⟩ w (fun j x hx => by
    have := h2.cells (g := sb) rfl j (.string x) (by rw [List.getElem?_map, hx]; rfl)
    rw [add_lit] at this
    exact this) hlt (by omega) hcap (by
    show (Lib.join (d.stays.map fun s => s.data.toList) []).length ≤ _
    rw [ej, imageD, image_len hf.each]; omega)
  rw [show Lib.join (d.stays.map (·.data.toList)) (ByteArray.mk #[]).data.toList = imageD d from ej] at k
  replace k := Lib.hid k
  clear ej h1 h2 h hfew hf
  go_enter Tryd.func26, Tryd.ntmps26
  go_wp2_with fail
  refine k.out.mono ?_
  rintro e w1 ⟨rfl, hb⟩
  go_wp2_with fail
  go_ret
  exact ⟨rfl, hb⟩
end
end Go.Proofs.YtojhlijcinenoaaDoor.Disk

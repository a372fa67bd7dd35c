/- Image. -/
import Derived.Test.YtojhlijcinenoaaDiskWalkE
import Derived.Test.YtojhlijcinenoaaShelf
import Derived.Lib.Join
namespace Go.Proofs.Ytojhlijcinenoaa.Disk
open Go Go.RowKit Go.Maps Mem

theorem join_nil (L : List (List UInt8)) : Lib.join L [] = L.flatMap id := by
  cases L with
  | nil => rfl
  | cons x r => rw [Lib.join_cons, Lib.joinTail]; simp
section
variable {F : Nat → Prop} {w w' : World} {b : Nat} {d d' : Dk}
theorem image_len {l : List ByteArray} (h : ∀ s ∈ l, s.size = 64) : (l.flatMap fun s => s.data.toList).length = 64 * l.length := by
  induction l with
  | nil => rfl
  | cons s l ih =>
    rw [List.flatMap_cons, List.length_append, ih (fun t ht => h t (List.mem_cons_of_mem _ ht)), List.length_cons]
    have := h s List.mem_cons_self
    rw [← Lib.size_eq s, this]
    omega
end
end Go.Proofs.Ytojhlijcinenoaa.Disk

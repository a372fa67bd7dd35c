/- The three lists that came in as one argument. -/
import Derived.Test.YtaihpnmojiagnaaDoorDoorT
namespace Go.Proofs.YtaihpnmojiagnaaDoor.Door
open Go.RowKit Go.ChangeShapes Go.WideShapes Go.Deep Table

set_option maxRecDepth 100000 in
theorem open_lists {H : Type} {enc : TypeId × Value → H} {W : World} {base : Nat} {v : Value} {d : DataW H} {p : List MemPlace} (hv : Value.okWide Tryd.prog W .any base 28 v) (h : DataW.Trod enc Tryd.prog W 0 (fun _ => true) true 28 v d p) :
    ∃ (A1 A2 A3 : Option Addr) (n1 n2 n3 c1 c2 c3 : Nat) (l1 : List Ino) (l2 : List Ent) (l3 : List Snp), v = .agg #[.slice A1 n1 c1, .slice A2 n2 c2, .slice A3 n3 c3] ∧
      (Mem.Row W A1 (n1 * 5) (l1.flatMap inoC) ∧ l1.length = n1 ∧ n1 ≤ 9223372036854775807) ∧ (Mem.Row W A2 (n2 * 2) (l2.flatMap entC) ∧ l2.length = n2 ∧ n2 ≤ 9223372036854775807) ∧ (Mem.Row W A3 (n3 * 5) (l3.flatMap snpC) ∧ l3.length = n3 ∧ n3 ≤ 9223372036854775807) := by
  obtain ⟨v0, v1, v2, y0, y1, y2, n, rfl, _, _, h0, h1, h2⟩ := Go.Joins.open_agg3 Tryd.underlying28 (by kernel_rfl) (by kernel_rfl) hv h
  obtain ⟨A1, n1, c1, l1, rfl, m1, r1, e1⟩ := read_inos h0
  obtain ⟨A2, n2, c2, l2, rfl, m2, r2, e2⟩ := read_ents h1
  obtain ⟨A3, n3, c3, l3, rfl, m3, r3, e3⟩ := read_snps h2
  unfold maxLen at m1 m2 m3
  exact ⟨A1, A2, A3, n1, n2, n3, c1, c2, c3, l1, l2, l3, rfl, ⟨r1, e1, m1⟩, ⟨r2, e2, m2⟩, ⟨r3, e3, m3⟩⟩
end Go.Proofs.YtaihpnmojiagnaaDoor.Door

/- A message that came in, opened. -/
import Derived.Test.YtndmcbphdknihaaDoorDoor
import Derived.Test.YtndmcbphdknihaaDoorFrameWalkA
import Derived.Lib.SmallJoins
namespace Go.Proofs.YtndmcbphdknihaaDoor.Door
open Go.RowKit Go.ChangeShapes Go.WideShapes

set_option maxRecDepth 100000 in
theorem open_frame {H : Type} {enc : TypeId × Value → H} {W : World} {base : Nat} {v : Value} {d : DataW H} {p : List MemPlace} (hv : Value.okWide Tryd.prog W .any base 23 v) (h : DataW.Trod enc Tryd.prog W 0 (fun _ => true) true 23 v d p) :
    ∃ (k e q : Int) (b : ByteArray), v = Frame.fVal k e q b := by
  obtain ⟨v0, v1, v2, v3, y0, y1, y2, y3, n, rfl, _, _, h0, h1, h2, h3⟩ := Go.Joins.open_agg4 Tryd.underlying23 (by kernel_rfl) (by kernel_rfl) hv h
  obtain ⟨k, hk, _⟩ := DataW.trod_int Tryd.underlying3 h0
  obtain ⟨e, he, _⟩ := DataW.trod_int Tryd.underlying3 h1
  obtain ⟨q, hq, _⟩ := DataW.trod_int Tryd.underlying3 h2
  obtain ⟨b, hb, _⟩ := DataW.trod_string Tryd.underlying9 h3
  injection hk with hk _
  injection he with he _
  injection hq with hq _
  injection hb with hb _
  subst hk he hq hb
  exact ⟨k, e, q, b, rfl⟩
end Go.Proofs.YtndmcbphdknihaaDoor.Door

/- a script of calls of a volume that came in: five cells each. -/
import Derived.Test.YtkghlbpkdkonbaaGreatDoor
import Derived.Test.YtkghlbpkdkonbaaGreatRecs
namespace Go.Proofs.YtkghlbpkdkonbaaGreat.Door
open Go.RowKit Go.ChangeShapes Go.WideShapes Go.Deep Recs

/-- a call's cells, at whatever world that has kept them -/
structure Op5 (ad : Addr) (x y : Int) (s t : ByteArray) (b : Bool) (W : World) : Prop where
  m0 : W.cell? ad = some (.int .i64 x)
  m1 : W.cell? ⟨ad.block, ad.off + 1, none⟩ = some (.int .i64 y)
  m2 : W.cell? ⟨ad.block, ad.off + 2, none⟩ = some (.string s)
  m3 : W.cell? ⟨ad.block, ad.off + 3, none⟩ = some (.string t)
  m4 : W.cell? ⟨ad.block, ad.off + 4, none⟩ = some (.bool b)
set_option maxRecDepth 100000 in
theorem Op5.below {ad : Addr} {x y : Int} {s t : ByteArray} {b : Bool} {W W' : World} (h : Op5 ad x y s t b W) (hb : Below W.heap.size W W') : Op5 ad x y s t b W' := by
  have hl := World.block_lt_of_cell? W _ h.m0
  refine ⟨(hb.cell hl).trans h.m0, ?_, ?_, ?_, ?_⟩
  · exact (hb.cell (p := ⟨ad.block, _, none⟩) hl).trans h.m1
  · exact (hb.cell (p := ⟨ad.block, _, none⟩) hl).trans h.m2
  · exact (hb.cell (p := ⟨ad.block, _, none⟩) hl).trans h.m3
  · exact (hb.cell (p := ⟨ad.block, _, none⟩) hl).trans h.m4
/-- the cells of a script of n calls, of whose texts Q (the first), R (the second) hold -/
def Ops5 (Q R : ByteArray → Prop) (W : World) (A : Option Addr) (n : Nat) : Prop :=
  ∀ k, k < n → ∃ (ad : Addr) (x y : Int) (s t : ByteArray) (b : Bool), A = some ad ∧ Op5 (ad.add (k * 5)) x y s t b W ∧ (-9223372036854775808 ≤ y ∧ y ≤ 9223372036854775807) ∧ Q s ∧ R t
set_option maxRecDepth 100000 in
theorem Ops5.mono {Q R Q' R' : ByteArray → Prop} {W : World} {A : Option Addr} {n : Nat} (h : Ops5 Q R W A n) (hQ : ∀ s, Q s → Q' s) (hR : ∀ s, R s → R' s) : Ops5 Q' R' W A n := fun k hk => by
  obtain ⟨ad, x, y, s, t, b, h1, h2, h3, h4, h5⟩ := h k hk
  exact ⟨ad, x, y, s, t, b, h1, h2, h3, hQ s h4, hR t h5⟩
set_option maxRecDepth 100000 in
theorem Ops5.at_ {Q R : ByteArray → Prop} {W : World} {A : Option Addr} {n k : Nat} (h : Ops5 Q R W A n) (hk : k < n) :
    ∃ (ad : Addr) (x y : Int) (s t : ByteArray) (b : Bool), A = some ad ∧ (-9223372036854775808 ≤ y ∧ y ≤ 9223372036854775807) ∧ Q s ∧ R t ∧ ∀ W', Below W.heap.size W W' → Op5 (ad.add (k * 5)) x y s t b W' := by
  obtain ⟨ad, x, y, s, t, b, h1, h2, h3, h4, h5⟩ := h k hk
  exact ⟨ad, x, y, s, t, b, h1, h3, h4, h5, fun W' hb => h2.below hb⟩
set_option maxRecDepth 100000 in
theorem opFields : ∃ fs : Array Field, Tryz.prog.underlying 30 = some (.struct fs) ∧ oneCellFields Tryz.prog fs = true ∧ fs.size = 5 ∧ (fs[0]?.map (·.type)) = some 3 ∧ (fs[1]?.map (·.type)) = some 3 ∧ (fs[2]?.map (·.type)) = some 9 ∧ (fs[3]?.map (·.type)) = some 9 ∧ (fs[4]?.map (·.type)) = some 4 :=
  ⟨_, Tryz.underlying30, by kernel_rfl, by kernel_rfl, by kernel_rfl, by kernel_rfl, by kernel_rfl, by kernel_rfl, by kernel_rfl⟩
set_option maxRecDepth 100000 in
theorem open_ops5 {H : Type} {enc : TypeId × Value → H} {W : World} {base : Nat} {v : Value} {d : DataW H} {p : List MemPlace} (hv : Value.okWide Tryz.prog W .any base 22 v) (h : DataW.Trod enc Tryz.prog W 0 (fun _ => true) true 22 v d p) :
    ∃ (A : Option Addr) (n c : Nat), v = .slice A n c ∧ n ≤ maxLen ∧ Ops5 (fun s => Part d 2 (.lit (.string s.data.toList))) (fun s => Part d 3 (.lit (.string s.data.toList))) W A n := by
  obtain ⟨fs, hs, hone, hfs, f0, f1, f2, f3, f4⟩ := opFields
  obtain ⟨A, n, c, rfl, hn, hk⟩ := open_recs Tryz.underlying22 hs hone (by kernel_rfl) hfs hv h
  refine ⟨A, n, c, rfl, hn, fun k hkn => ?_⟩
  obtain ⟨ad, rfl, hc⟩ := hk k hkn
  have fld : ∀ j t, fs[j]?.map (·.type) = some t → ∃ (u : Value) (fuel : Nat) (x : DataW H × List MemPlace), W.cell? ((ad.add (k * 5)).add j) = some u ∧ DataW.trod enc Tryz.prog W 0 (fun _ => true) true fuel t [u] = some x ∧ Part d j x.1 := fun j t hj => by
    obtain ⟨f, hf1, rfl⟩ := Option.map_eq_some_iff.1 hj
    exact hc j f hf1
  obtain ⟨u0, _, _, a0, b0, _⟩ := fld 0 _ f0
  obtain ⟨u1, _, _, a1, b1, _⟩ := fld 1 _ f1
  obtain ⟨u2, _, _, a2, b2, p2⟩ := fld 2 _ f2
  obtain ⟨u3, _, _, a3, b3, p3⟩ := fld 3 _ f3
  obtain ⟨u4, _, _, a4, b4, _⟩ := fld 4 _ f4
  obtain ⟨x, rfl, _⟩ := one_int Tryz.underlying3 b0
  obtain ⟨y, rfl, hy⟩ := one_int Tryz.underlying3 b1
  obtain ⟨s, rfl, hs2⟩ := one_string Tryz.underlying9 b2
  obtain ⟨t, rfl, hs3⟩ := one_string Tryz.underlying9 b3
  obtain ⟨b, rfl⟩ := one_bool Tryz.underlying4 b4
  have e0 : (ad.add (k * 5)).add 0 = ad.add (k * 5) := by simp [Addr.add]
  rw [e0] at a0
  rw [hs2] at p2
  rw [hs3] at p3
  exact ⟨ad, x, y, s, t, b, rfl, ⟨a0, a1, a2, a3, a4⟩, hy, p2, p3⟩
end Go.Proofs.YtkghlbpkdkonbaaGreat.Door

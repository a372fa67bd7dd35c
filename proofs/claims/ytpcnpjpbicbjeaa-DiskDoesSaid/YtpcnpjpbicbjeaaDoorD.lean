/- A script of calls of a disk that came in: six cells each. -/
import Derived.Test.YtpcnpjpbicbjeaaDoor
import Derived.Test.YtpcnpjpbicbjeaaRecs
namespace Go.Proofs.Ytpcnpjpbicbjeaa.Door
open Go.RowKit Go.ChangeShapes Go.WideShapes Go.Deep Recs

/-- the cells of a script of n calls, of whose texts Q holds -/
def Ops6 (Q : ByteArray → Prop) (W : World) (A : Option Addr) (n : Nat) : Prop :=
  ∀ k, k < n → ∃ (ad : Addr) (x y : Int) (c : UInt8) (z : Int) (s : ByteArray) (b : Bool), A = some ad ∧ (ad.add (k * 6)).block < W.heap.size ∧ W.cell? (ad.add (k * 6)) = some (.int .i64 x) ∧ W.cell? ⟨(ad.add (k * 6)).block, (ad.add (k * 6)).off + 1, none⟩ = some (.int .i64 y) ∧
    W.cell? ⟨(ad.add (k * 6)).block, (ad.add (k * 6)).off + 2, none⟩ = some (.int .u8 (c.toNat : Int)) ∧ W.cell? ⟨(ad.add (k * 6)).block, (ad.add (k * 6)).off + 3, none⟩ = some (.int .i64 z) ∧ W.cell? ⟨(ad.add (k * 6)).block, (ad.add (k * 6)).off + 4, none⟩ = some (.string s) ∧
    W.cell? ⟨(ad.add (k * 6)).block, (ad.add (k * 6)).off + 5, none⟩ = some (.bool b) ∧ y ≤ 9223372036854775807 ∧ Q s
theorem Ops6.mono {Q R : ByteArray → Prop} {W : World} {A : Option Addr} {n : Nat} (h : Ops6 Q W A n) (hQ : ∀ s, Q s → R s) : Ops6 R W A n := fun k hk => by
  obtain ⟨ad, x, y, c, z, s, b, h1, h2, h3, h4, h5, h6, h7, h8, h9, h10⟩ := h k hk
  exact ⟨ad, x, y, c, z, s, b, h1, h2, h3, h4, h5, h6, h7, h8, h9, hQ s h10⟩
theorem Ops6.below {Q : ByteArray → Prop} {W W' : World} {A : Option Addr} {n : Nat} (h : Ops6 Q W A n) (hb : Below W.heap.size W W') : Ops6 Q W' A n := fun k hk => by
  obtain ⟨ad, x, y, c, z, s, b, h1, h2, h3, h4, h5, h6, h7, h8, h9⟩ := h k hk
  refine ⟨ad, x, y, c, z, s, b, h1, Nat.lt_of_lt_of_le h2 hb.size, ?_, ?_, ?_, ?_, ?_, ?_, h9⟩
  · exact (hb.cell h2).trans h3
  · exact (hb.cell (p := ⟨(ad.add (k * 6)).block, _, none⟩) h2).trans h4
  · exact (hb.cell (p := ⟨(ad.add (k * 6)).block, _, none⟩) h2).trans h5
  · exact (hb.cell (p := ⟨(ad.add (k * 6)).block, _, none⟩) h2).trans h6
  · exact (hb.cell (p := ⟨(ad.add (k * 6)).block, _, none⟩) h2).trans h7
  · exact (hb.cell (p := ⟨(ad.add (k * 6)).block, _, none⟩) h2).trans h8
theorem opFields : ∃ fs : Array Field, Try.prog.underlying 30 = some (.struct fs) ∧ oneCellFields Try.prog fs = true ∧ fs.size = 6 ∧ (fs[0]?.map (·.type)) = some 3 ∧ (fs[1]?.map (·.type)) = some 3 ∧ (fs[2]?.map (·.type)) = some 5 ∧ (fs[3]?.map (·.type)) = some 3 ∧ (fs[4]?.map (·.type)) = some 9 ∧ (fs[5]?.map (·.type)) = some 4 :=
  ⟨_, Try.underlying30, by kernel_rfl, by kernel_rfl, by kernel_rfl, by kernel_rfl, by kernel_rfl, by kernel_rfl, by kernel_rfl, by kernel_rfl⟩
set_option maxRecDepth 100000 in
theorem open_ops6 {H : Type} {enc : TypeId × Value → H} {W : World} {base : Nat} {v : Value} {d : DataW H} {p : List MemPlace} (hv : Value.okWide Try.prog W .any base 22 v) (h : DataW.Trod enc Try.prog W 0 (fun _ => true) true 22 v d p) :
    ∃ (A : Option Addr) (n c : Nat), v = .slice A n c ∧ n ≤ maxLen ∧ Ops6 (fun s => Part d 4 (.lit (.string s.data.toList))) W A n := by
  obtain ⟨fs, hs, hone, hfs, f0, f1, f2, f3, f4, f5⟩ := opFields
  obtain ⟨A, n, c, rfl, hn, hk⟩ := open_recs Try.underlying22 hs hone (by kernel_rfl) hfs hv h
  refine ⟨A, n, c, rfl, hn, fun k hkn => ?_⟩
  obtain ⟨ad, rfl, hc⟩ := hk k hkn
  have fld : ∀ j t, fs[j]?.map (·.type) = some t → ∃ (u : Value) (fuel : Nat) (x : DataW H × List MemPlace), W.cell? ((ad.add (k * 6)).add j) = some u ∧ DataW.trod enc Try.prog W 0 (fun _ => true) true fuel t [u] = some x ∧ Part d j x.1 := fun j t hj => by
    obtain ⟨f, hf1, rfl⟩ := Option.map_eq_some_iff.1 hj
    exact hc j f hf1
  obtain ⟨u0, _, _, a0, b0, _⟩ := fld 0 _ f0
  obtain ⟨u1, _, _, a1, b1, _⟩ := fld 1 _ f1
  obtain ⟨u2, _, _, a2, b2, _⟩ := fld 2 _ f2
  obtain ⟨u3, _, _, a3, b3, _⟩ := fld 3 _ f3
  obtain ⟨u4, _, _, a4, b4, p4⟩ := fld 4 _ f4
  obtain ⟨u5, _, _, a5, b5, _⟩ := fld 5 _ f5
  obtain ⟨x, rfl, _⟩ := one_int Try.underlying3 b0
  obtain ⟨y, rfl, _, hy⟩ := one_int Try.underlying3 b1
  obtain ⟨c2, rfl⟩ := one_u8 Try.underlying5 b2
  obtain ⟨z, rfl, _⟩ := one_int Try.underlying3 b3
  obtain ⟨s, rfl, hs4⟩ := one_string Try.underlying9 b4
  obtain ⟨b, rfl⟩ := one_bool Try.underlying4 b5
  have e0 : (ad.add (k * 6)).add 0 = ad.add (k * 6) := by simp [Addr.add]
  rw [e0] at a0
  rw [hs4] at p4
  exact ⟨ad, x, y, c2, z, s, b, rfl, World.block_lt_of_cell? W _ a0, a0, a1, a2, a3, a4, a5, hy, p4⟩
/-- a call's cells, at whatever world that has kept them -/
structure Op6 (ad : Addr) (x y : Int) (c : UInt8) (z : Int) (s : ByteArray) (b : Bool) (W : World) : Prop where
  m0 : W.cell? ad = some (.int .i64 x)
  m1 : W.cell? ⟨ad.block, ad.off + 1, none⟩ = some (.int .i64 y)
  m2 : W.cell? ⟨ad.block, ad.off + 2, none⟩ = some (.int .u8 (c.toNat : Int))
  m3 : W.cell? ⟨ad.block, ad.off + 3, none⟩ = some (.int .i64 z)
  m4 : W.cell? ⟨ad.block, ad.off + 4, none⟩ = some (.string s)
  m5 : W.cell? ⟨ad.block, ad.off + 5, none⟩ = some (.bool b)
theorem Ops6.at_ {Q : ByteArray → Prop} {W : World} {A : Option Addr} {n k : Nat} (h : Ops6 Q W A n) (hk : k < n) :
    ∃ (ad : Addr) (x y : Int) (c : UInt8) (z : Int) (s : ByteArray) (b : Bool), A = some ad ∧ y ≤ 9223372036854775807 ∧ Q s ∧ ∀ W', Below W.heap.size W W' → Op6 (ad.add (k * 6)) x y c z s b W' := by
  obtain ⟨ad, x, y, c, z, s, b, h1, h2, h3, h4, h5, h6, h7, h8, h9, h10⟩ := h k hk
  refine ⟨ad, x, y, c, z, s, b, h1, h9, h10, fun W' hb => ⟨?_, ?_, ?_, ?_, ?_, ?_⟩⟩
  · exact (hb.cell h2).trans h3
  · exact (hb.cell (p := ⟨(ad.add (k * 6)).block, _, none⟩) h2).trans h4
  · exact (hb.cell (p := ⟨(ad.add (k * 6)).block, _, none⟩) h2).trans h5
  · exact (hb.cell (p := ⟨(ad.add (k * 6)).block, _, none⟩) h2).trans h6
  · exact (hb.cell (p := ⟨(ad.add (k * 6)).block, _, none⟩) h2).trans h7
  · exact (hb.cell (p := ⟨(ad.add (k * 6)).block, _, none⟩) h2).trans h8
end Go.Proofs.Ytpcnpjpbicbjeaa.Door

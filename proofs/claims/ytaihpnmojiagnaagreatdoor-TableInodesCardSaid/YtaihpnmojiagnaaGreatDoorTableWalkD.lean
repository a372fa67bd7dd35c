/- What the closures read. -/
import Derived.Test.YtaihpnmojiagnaaGreatDoorTableWalkC
namespace Go.Proofs.YtaihpnmojiagnaaGreatDoor.Table
open Go.RowKit Mem Wire

/-- under way: the reader, the result's block (five cells or two), all else as it was -/
def Way (w W : World) (b g : Nat) (t : TypeId) (cs : Array Value) (st : Rd) : Prop := IsRd W b st ∧ Laid W ∧ Blk W g t cs ∧ w.grownBy W (some b) ∧ w.heap.size ≤ g ∧ b < w.heap.size ∧ b ≠ 0 ∧ 0 < w.heap.size
theorem Way.start {w : World} {b : Nat} {st : Rd} (h : IsRd w b st) (hL : Laid w) (hb2 : b ≠ 0) (t : TypeId) (cs : Array Value) : Way w (w.alloc (.cells cs t)) b w.heap.size t cs st :=
  ⟨h.below ((Below.refl w.heap.size w).alloc (Nat.le_refl _) _) h.lt, hL.below ((Below.refl w.heap.size w).alloc (Nat.le_refl _) _) hL.pos, Blk.new _ _ _, Only.alloc (Only.refl w _) _, Nat.le_refl _, h.lt, hb2, hL.pos⟩
theorem Way.read {w W W' : World} {b g : Nat} {t : TypeId} {cs : Array Value} {st st' : Rd} (h : Way w W b g t cs st) (h' : IsRd W' b st') (g' : W.grownBy W' (some b)) : Way w W' b g t cs st' := by
  obtain ⟨_, h2, h3, h4, h5, h6, h7, h8⟩ := h
  exact ⟨h', h2.grown g' (fun e => h7 (Option.some.inj e).symm), h3.grown g' (fun e => by injection e; omega), Only.trans h4 g', h5, h6, h7, h8⟩
theorem Way.put {w W : World} {b g : Nat} {t : TypeId} {cs : Array Value} {st : Rd} (h : Way w W b g t cs st) (i : Nat) (u : Value) : Way w (W.setCell ⟨g, i, none⟩ u) b g t (cs.setIfInBounds i u) st := by
  obtain ⟨h1, h2, h3, h4, h5, h6, h7, h8⟩ := h
  have g' : W.grownBy (W.setCell ⟨g, i, none⟩ u) (some g) := Only.put (Only.refl W _) i u
  exact ⟨h1.grown g' (fun e => by injection e; omega), h2.grown g' (fun e => by injection e with e; omega), h3.put i u, Only.own h4 g' (fun j hj => by injection hj with hj; omega), h5, h6, h7, h8⟩

def ReadPost (w : World) (b : Nat) (v : Value) (st : Rd) (e : Ending) (w' : World) : Prop := e = .returned v ∧ IsRd w' b st ∧ w.grownBy w' (some b)

set_option maxRecDepth 100000 in
set_option maxHeartbeats 4000000 in
theorem ent_read (b : Nat) (st : Rd) (w : World) (h : IsRd w b st) (hL : Laid w) (hb2 : b ≠ 0) : Calls Tryz.prog 58 #[.pointer (some ⟨b, 0, none⟩)] w (ReadPost w b (entV (entK.read st).1) (entK.read st).2) := by
  have hw := Way.start h hL hb2 65 #[.string ⟨#[]⟩, .int .i64 0]
  have hl := h.lt
  replace hw := Lib.hid hw
  generalize hg : w.heap.size = g at hw
  replace hg := Lib.hid hg
  clear h hL
  go_enter Tryz.func58, Tryz.ntmps58
  go_wp2_with fail
  refine (text_16 b st _ hw.out.1 hw.out.2.1).mono ?_
  rintro e w0 ⟨rfl, h1, g1⟩
  replace hw := Lib.hid (hw.out.read h1 g1)
  clear h1 g1
  go_wp2_with fail
  refine (num_any b _ 65535 _ hw.out.1 hw.out.2.1).mono ?_
  rintro e w1 ⟨rfl, h1, g1⟩
  replace hw := Lib.hid (hw.out.read h1 g1)
  clear h1 g1
  have c0 := hw.out.2.2.1.cell 0
  have f0 := hw.out.2.2.1.free 0
  have c1 := hw.out.2.2.1.cell 1
  have f1 := hw.out.2.2.1.free 1
  rw [← hg.out] at c0 f0 c1 f1
  go_wp2_with fail
  have e := hg.out
  subst e
  have q := ((hw.out.put 0 (.string (entK.read st).1.name)).put 1 (.int .i64 (entK.read st).1.num))
  refine bodyPost_ret (v := entV (entK.read st).1) ?_ rfl ⟨rfl, q.1, q.2.2.2.1⟩
  exact results_row (p := 2) (ty := 65) (by rfl) _ _ w.heap.size 65 _ (0, 0) _ (by rfl) q.2.2.1 Tryz.underlying65 rfl (by kernel_rfl)

set_option maxRecDepth 100000 in
set_option maxHeartbeats 4000000 in
theorem ino_read (b : Nat) (st : Rd) (w : World) (h : IsRd w b st) (hL : Laid w) (hb2 : b ≠ 0) : Calls Tryz.prog 47 #[.pointer (some ⟨b, 0, none⟩)] w (ReadPost w b (inoV (inoK.read st).1) (inoK.read st).2) := by
  have hw := Way.start h hL hb2 32 #[.int .i64 0, .bool false, .int .i64 0, .int .i64 0, .int .i64 0]
  have hl := h.lt
  replace hw := Lib.hid hw
  generalize hg : w.heap.size = g at hw
  replace hg := Lib.hid hg
  clear h hL
  go_enter Tryz.func47, Tryz.ntmps47
  go_wp2_with fail
  refine (num_any b st 65535 _ hw.out.1 hw.out.2.1).mono ?_
  rintro e w0 ⟨rfl, h1, g1⟩
  replace hw := Lib.hid (hw.out.read h1 g1)
  clear h1 g1
  go_wp2_with fail
  refine (num_any b _ 1 _ hw.out.1 hw.out.2.1).mono ?_
  rintro e w1 ⟨rfl, h1, g1⟩
  replace hw := Lib.hid (hw.out.read h1 g1)
  clear h1 g1
  go_wp2_with fail
  refine (num_any b _ 65535 _ hw.out.1 hw.out.2.1).mono ?_
  rintro e w2 ⟨rfl, h1, g1⟩
  replace hw := Lib.hid (hw.out.read h1 g1)
  clear h1 g1
  go_wp2_with fail
  refine (readBlob_any b _ _ hw.out.1 hw.out.2.1 hb2).mono ?_
  rintro e w3 ⟨rfl, h1, g1⟩
  replace hw := Lib.hid (hw.out.read h1 g1)
  clear h1 g1
  have c0 := hw.out.2.2.1.cell 0
  have f0 := hw.out.2.2.1.free 0
  have c1 := hw.out.2.2.1.cell 1
  have f1 := hw.out.2.2.1.free 1
  have c2 := hw.out.2.2.1.cell 2
  have f2 := hw.out.2.2.1.free 2
  have c3 := hw.out.2.2.1.cell 3
  have f3 := hw.out.2.2.1.free 3
  have c4 := hw.out.2.2.1.cell 4
  have f4 := hw.out.2.2.1.free 4
  rw [← hg.out] at c0 f0 c1 f1 c2 f2 c3 f3 c4 f4
  unfold blobV
  go_wp2_with fail
  have e := hg.out
  subst e
  have q := (((((hw.out.put 0 (.int .i64 (inoK.read st).1.num)).put 1 (.bool (inoK.read st).1.dir)).put 2 (.int .i64 (inoK.read st).1.links)).put 3 (.int .i64 (inoK.read st).1.root)).put 4 (.int .i64 (inoK.read st).1.size))
  refine bodyPost_ret (v := inoV (inoK.read st).1) ?_ rfl ⟨rfl, q.1, q.2.2.2.1⟩
  exact results_row (p := 2) (ty := 32) (by rfl) _ _ w.heap.size 32 _ (0, 0) _ (by rfl) q.2.2.1 Tryz.underlying32 rfl (by kernel_rfl)

set_option maxRecDepth 100000 in
set_option maxHeartbeats 4000000 in
theorem snp_read (b : Nat) (st : Rd) (w : World) (h : IsRd w b st) (hL : Laid w) (hb2 : b ≠ 0) : Calls Tryz.prog 63 #[.pointer (some ⟨b, 0, none⟩)] w (ReadPost w b (snpV (snpK.read st).1) (snpK.read st).2) := by
  have hw := Way.start h hL hb2 67 #[.string ⟨#[]⟩, .int .i64 0, .int .i64 0, .int .i64 0, .int .i64 0]
  have hl := h.lt
  replace hw := Lib.hid hw
  generalize hg : w.heap.size = g at hw
  replace hg := Lib.hid hg
  clear h hL
  go_enter Tryz.func63, Tryz.ntmps63
  go_wp2_with fail
  refine (text_16 b st _ hw.out.1 hw.out.2.1).mono ?_
  rintro e w0 ⟨rfl, h1, g1⟩
  replace hw := Lib.hid (hw.out.read h1 g1)
  clear h1 g1
  go_wp2_with fail
  refine (num_any b _ 1099511627776 _ hw.out.1 hw.out.2.1).mono ?_
  rintro e w1 ⟨rfl, h1, g1⟩
  replace hw := Lib.hid (hw.out.read h1 g1)
  clear h1 g1
  go_wp2_with fail
  refine (num_any b _ 7 _ hw.out.1 hw.out.2.1).mono ?_
  rintro e w2 ⟨rfl, h1, g1⟩
  replace hw := Lib.hid (hw.out.read h1 g1)
  clear h1 g1
  go_wp2_with fail
  refine (readBlob_any b _ _ hw.out.1 hw.out.2.1 hb2).mono ?_
  rintro e w3 ⟨rfl, h1, g1⟩
  replace hw := Lib.hid (hw.out.read h1 g1)
  clear h1 g1
  have c0 := hw.out.2.2.1.cell 0
  have f0 := hw.out.2.2.1.free 0
  have c1 := hw.out.2.2.1.cell 1
  have f1 := hw.out.2.2.1.free 1
  have c2 := hw.out.2.2.1.cell 2
  have f2 := hw.out.2.2.1.free 2
  have c3 := hw.out.2.2.1.cell 3
  have f3 := hw.out.2.2.1.free 3
  have c4 := hw.out.2.2.1.cell 4
  have f4 := hw.out.2.2.1.free 4
  rw [← hg.out] at c0 f0 c1 f1 c2 f2 c3 f3 c4 f4
  unfold blobV
  go_wp2_with fail
  have e := hg.out
  subst e
  have q := (((((hw.out.put 0 (.string (snpK.read st).1.name)).put 1 (.int .i64 (snpK.read st).1.id)).put 2 (.int .i64 (snpK.read st).1.plane)).put 3 (.int .i64 (snpK.read st).1.root)).put 4 (.int .i64 (snpK.read st).1.size))
  refine bodyPost_ret (v := snpV (snpK.read st).1) ?_ rfl ⟨rfl, q.1, q.2.2.2.1⟩
  exact results_row (p := 2) (ty := 67) (by rfl) _ _ w.heap.size 67 _ (0, 0) _ (by rfl) q.2.2.1 Tryz.underlying67 rfl (by kernel_rfl)

end Go.Proofs.YtaihpnmojiagnaaGreatDoor.Table

/- What the closures lay of a thing and read of bytes; the three forms. -/
import Derived.Test.YtaihpnmojiagnaaGreatDoorTableWalkB
import Derived.Test.YtaihpnmojiagnaaGreatDoorLate
import Derived.Laws.EntriesVeiled
namespace Go.Proofs.YtaihpnmojiagnaaGreatDoor.Table
open Go.RowKit Mem Wire

/-- a field that is laid -/
inductive Fld where
  | n (x : Int)
  | t (s : ByteArray)
def Fld.v : Fld → Value
  | .n x => .iface 3 (.int .i64 x)
  | .t s => .iface 9 (.string s)
def Fld.b : Fld → List UInt8
  | .n x => dg x
  | .t s => tx s
/-- what Num and Text take -/
def Fld.ok : Fld → Prop
  | .n x => 0 ≤ x ∧ x ≤ 4611686018427387903
  | .t s => s.size ≤ 65536
def inoF (x : Ino) : List Fld := [.n x.num, .n (bitOf x.dir), .n x.links, .n x.root, .n x.size]
def entF (x : Ent) : List Fld := [.t x.name, .n x.num]
def snpF (x : Snp) : List Fld := [.t x.name, .n x.id, .n x.plane, .n x.root, .n x.size]
theorem inoF_put (x : Ino) : (inoF x).flatMap Fld.b = inoK.put x := by simp [inoF, inoK, Fld.b]
theorem entF_put (x : Ent) : (entF x).flatMap Fld.b = entK.put x := by simp [entF, entK, Fld.b]
theorem snpF_put (x : Snp) : (snpF x).flatMap Fld.b = snpK.put x := by simp [snpF, snpK, Fld.b]

theorem blk_at {w : World} {g g' : Nat} {t : TypeId} {cs : Array Value} (h : Blk w g t cs) (e : g = g') : Blk w g' t cs := e ▸ h
/-- the fields' slice that a closure hands back -/
def PutPost (w : World) (l : List Fld) (e : Ending) (w' : World) : Prop :=
  ∃ g, e = .returned (.slice (some ⟨g, 0, none⟩) l.length l.length) ∧ Blk w' g 20 ⟨l.map Fld.v⟩ ∧ w.heap.size ≤ g ∧ Below w.heap.size w w'

theorem alloc5 {w : World} {b : Nat} {v0 v1 v2 v3 v4 : Value} (h : w.cell? ⟨b, 0, none⟩ = some v0 ∧ w.cell? ⟨b, 1, none⟩ = some v1 ∧ w.cell? ⟨b, 2, none⟩ = some v2 ∧ w.cell? ⟨b, 3, none⟩ = some v3 ∧ w.cell? ⟨b, 4, none⟩ = some v4) (hlt : b < w.heap.size) (o : Obj) :
    (w.alloc o).cell? ⟨b, 0, none⟩ = some v0 ∧ (w.alloc o).cell? ⟨b, 1, none⟩ = some v1 ∧ (w.alloc o).cell? ⟨b, 2, none⟩ = some v2 ∧ (w.alloc o).cell? ⟨b, 3, none⟩ = some v3 ∧ (w.alloc o).cell? ⟨b, 4, none⟩ = some v4 := by
  obtain ⟨h0, h1, h2, h3, h4⟩ := h
  exact ⟨(World.cell?_alloc_lt _ _ _ hlt).trans h0, (World.cell?_alloc_lt _ _ _ hlt).trans h1, (World.cell?_alloc_lt _ _ _ hlt).trans h2, (World.cell?_alloc_lt _ _ _ hlt).trans h3, (World.cell?_alloc_lt _ _ _ hlt).trans h4⟩

set_option maxRecDepth 100000 in
set_option maxHeartbeats 4000000 in
theorem ino_put (x : Ino) (w : World) : Calls Tryz.prog 45 #[inoV x] w (PutPost w (inoF x)) := by
  have kb := Lib.hid (fun W => bit_any x.dir W)
  unfold inoV
  go_enter Tryz.func45, Tryz.ntmps45
  go_wp2_with fail
  refine Late.start (S := fun w' => w'.cell? ⟨w.heap.size, 0, none⟩ = some (.int .i64 x.num) ∧ w'.cell? ⟨w.heap.size, 1, none⟩ = some (.bool x.dir) ∧ w'.cell? ⟨w.heap.size, 2, none⟩ = some (.int .i64 x.links) ∧ w'.cell? ⟨w.heap.size, 3, none⟩ = some (.int .i64 x.root) ∧ w'.cell? ⟨w.heap.size, 4, none⟩ = some (.int .i64 x.size)) (T := fun _ => True) (late := []) (by kernel_rfl) ?_
  have q := Blk.new w 32 #[.int .i64 x.num, .bool x.dir, .int .i64 x.links, .int .i64 x.root, .int .i64 x.size]
  have hb : Below w.heap.size w (w.alloc (.cells #[.int .i64 x.num, .bool x.dir, .int .i64 x.links, .int .i64 x.root, .int .i64 x.size] 32)).drew := ((Below.refl _ w).alloc (Nat.le_refl _) _).drew
  have hz : w.heap.size + 1 = (w.alloc (.cells #[.int .i64 x.num, .bool x.dir, .int .i64 x.links, .int .i64 x.root, .int .i64 x.size] 32)).drew.heap.size := by simp
  generalize (w.alloc (.cells #[.int .i64 x.num, .bool x.dir, .int .i64 x.links, .int .i64 x.root, .int .i64 x.size] 32)) = W at *
  have hS : W.drew.cell? ⟨w.heap.size, 0, none⟩ = some (.int .i64 x.num) ∧ W.drew.cell? ⟨w.heap.size, 1, none⟩ = some (.bool x.dir) ∧ W.drew.cell? ⟨w.heap.size, 2, none⟩ = some (.int .i64 x.links) ∧ W.drew.cell? ⟨w.heap.size, 3, none⟩ = some (.int .i64 x.root) ∧ W.drew.cell? ⟨w.heap.size, 4, none⟩ = some (.int .i64 x.size) := ⟨q.cell 0, q.cell 1, q.cell 2, q.cell 3, q.cell 4⟩
  have tt : True := trivial
  replace hz := Lib.hid hz
  replace hb := Lib.hid hb
  clear q
  refine Late.take (i := 0) (oi := ?_) (v := ?_) ?_ (by kernel_rfl) (by kernel_rfl) (by kernel_rfl) (by kernel_rfl) ?_ ?_ (by assumption) (by assumption) ?_
  rotate_left 2
  focus (simp only [List.getElem?_toArray, List.getElem?_cons_zero]; rfl)
  focus exact fun _ _ _ h => h
  focus (refine Or.inl ⟨by rfl, ?_⟩; intro w hSw; (try dsimp only at hSw); go_split_ands; go_simp; try with_reducible rfl)
  try simp only [Act.put, List.setIfInBounds_toArray, List.set_cons_zero, List.set_cons_succ]
  refine Late.take (i := 1) (oi := ?_) (v := ?_) ?_ (by kernel_rfl) (by kernel_rfl) (by kernel_rfl) (by kernel_rfl) ?_ ?_ (by assumption) (by assumption) ?_
  rotate_left 2
  focus (simp only [List.getElem?_toArray, List.getElem?_cons_succ, List.getElem?_cons_zero]; rfl)
  focus exact fun _ _ _ h => h
  focus (refine Or.inl ⟨by rfl, ?_⟩; intro w hSw; (try dsimp only at hSw); go_split_ands; go_simp; try with_reducible rfl)
  try simp only [Act.put, List.setIfInBounds_toArray, List.set_cons_zero, List.set_cons_succ]
  refine Late.take (i := 2) (oi := ?_) (v := ?_) ?_ (by kernel_rfl) (by kernel_rfl) (by kernel_rfl) (by kernel_rfl) ?_ ?_ (by assumption) (by assumption) ?_
  rotate_left 2
  focus (simp only [List.getElem?_toArray, List.getElem?_cons_succ, List.getElem?_cons_zero]; rfl)
  focus exact fun _ _ _ h => h
  focus (refine Or.inl ⟨by rfl, ?_⟩; intro w hSw; (try dsimp only at hSw); go_split_ands; go_simp; try with_reducible rfl)
  try simp only [Act.put, List.setIfInBounds_toArray, List.set_cons_zero, List.set_cons_succ]
  refine Late.take (i := 3) (oi := ?_) (v := ?_) ?_ (by kernel_rfl) (by kernel_rfl) (by kernel_rfl) (by kernel_rfl) ?_ ?_ (by assumption) (by assumption) ?_
  rotate_left 2
  focus (simp only [List.getElem?_toArray, List.getElem?_cons_succ, List.getElem?_cons_zero]; rfl)
  focus exact fun _ _ _ h => h
  focus (refine Or.inl ⟨by rfl, ?_⟩; intro w hSw; (try dsimp only at hSw); go_split_ands; go_simp; try with_reducible rfl)
  try simp only [Act.put, List.setIfInBounds_toArray, List.set_cons_zero, List.set_cons_succ]
  refine Late.take (i := 4) (oi := ?_) (v := ?_) ?_ (by kernel_rfl) (by kernel_rfl) (by kernel_rfl) (by kernel_rfl) ?_ ?_ (by assumption) (by assumption) ?_
  rotate_left 2
  focus (simp only [List.getElem?_toArray, List.getElem?_cons_succ, List.getElem?_cons_zero]; rfl)
  focus exact fun _ _ _ h => h
  focus (refine Or.inl ⟨by rfl, ?_⟩; intro w hSw; (try dsimp only at hSw); go_split_ands; go_simp; try with_reducible rfl)
  try simp only [Act.put, List.setIfInBounds_toArray, List.set_cons_zero, List.set_cons_succ]
  refine Late.take (i := 7) (oi := ?_) (v := ?_) ?_ (by kernel_rfl) (by kernel_rfl) (by kernel_rfl) (by kernel_rfl) ?_ ?_ (by assumption) (by assumption) ?_
  rotate_left 2
  focus (simp only [List.getElem?_toArray, List.getElem?_cons_succ, List.getElem?_cons_zero]; rfl)
  focus exact fun _ _ _ h => h
  focus (refine Or.inl ⟨by rfl, ?_⟩; intro w hSw; (try dsimp only at hSw); go_split_ands; go_simp; try with_reducible rfl)
  try simp only [Act.put, List.setIfInBounds_toArray, List.set_cons_zero, List.set_cons_succ]
  refine Late.take (i := 8) (oi := ?_) (v := ?_) ?_ (by kernel_rfl) (by kernel_rfl) (by kernel_rfl) (by kernel_rfl) ?_ ?_ (by assumption) (by assumption) ?_
  rotate_left 2
  focus (simp only [List.getElem?_toArray, List.getElem?_cons_succ, List.getElem?_cons_zero]; rfl)
  focus exact fun _ _ _ h => h
  focus (refine Or.inl ⟨by rfl, ?_⟩; intro w hSw; (try dsimp only at hSw); go_split_ands; go_simp; try with_reducible rfl)
  try simp only [Act.put, List.setIfInBounds_toArray, List.set_cons_zero, List.set_cons_succ]
  refine Late.take (i := 9) (oi := ?_) (v := ?_) ?_ (by kernel_rfl) (by kernel_rfl) (by kernel_rfl) (by kernel_rfl) ?_ ?_ (by assumption) (by assumption) ?_
  rotate_left 2
  focus (simp only [List.getElem?_toArray, List.getElem?_cons_succ, List.getElem?_cons_zero]; rfl)
  focus exact fun _ _ _ h => h
  focus (refine Or.inl ⟨by rfl, ?_⟩; intro w hSw; (try dsimp only at hSw); go_split_ands; go_simp; try with_reducible rfl)
  try simp only [Act.put, List.setIfInBounds_toArray, List.set_cons_zero, List.set_cons_succ]
  refine Late.take (i := 10) (oi := ?_) (v := ?_) ?_ (by kernel_rfl) (by kernel_rfl) (by kernel_rfl) (by kernel_rfl) ?_ ?_ (by assumption) (by assumption) ?_
  rotate_left 2
  focus (simp only [List.getElem?_toArray, List.getElem?_cons_succ, List.getElem?_cons_zero]; rfl)
  focus exact fun _ _ _ h => h
  focus (refine Or.inl ⟨by rfl, ?_⟩; intro w hSw; (try dsimp only at hSw); go_split_ands; go_simp; try with_reducible rfl)
  try simp only [Act.put, List.setIfInBounds_toArray, List.set_cons_zero, List.set_cons_succ]
  refine Late.take (i := 11) (oi := ?_) (v := ?_) ?_ (by kernel_rfl) (by kernel_rfl) (by kernel_rfl) (by kernel_rfl) ?_ ?_ (by assumption) (by assumption) ?_
  rotate_left 2
  focus (simp only [List.getElem?_toArray, List.getElem?_cons_succ, List.getElem?_cons_zero]; rfl)
  focus exact fun _ _ _ h => h
  focus (refine Or.inl ⟨by rfl, ?_⟩; intro w hSw; (try dsimp only at hSw); go_split_ands; go_simp; try with_reducible rfl)
  try simp only [Act.put, List.setIfInBounds_toArray, List.set_cons_zero, List.set_cons_succ]
  refine Late.take (i := 12) (oi := ?_) (v := ?_) ?_ (by kernel_rfl) (by kernel_rfl) (by kernel_rfl) (by kernel_rfl) ?_ ?_ (by assumption) (by assumption) ?_
  rotate_left 2
  focus (simp only [List.getElem?_toArray, List.getElem?_cons_succ, List.getElem?_cons_zero]; rfl)
  focus exact fun _ _ _ h => h
  focus (refine Or.inl ⟨by rfl, ?_⟩; intro w hSw; (try dsimp only at hSw); go_split_ands; go_simp; try with_reducible rfl)
  try simp only [Act.put, List.setIfInBounds_toArray, List.set_cons_zero, List.set_cons_succ]
  refine Late.take (i := 13) (oi := ?_) (v := ?_) ?_ (by kernel_rfl) (by kernel_rfl) (by kernel_rfl) (by kernel_rfl) ?_ ?_ (by assumption) (by assumption) ?_
  rotate_left 2
  focus (simp only [List.getElem?_toArray, List.getElem?_cons_succ, List.getElem?_cons_zero]; rfl)
  focus exact fun _ _ _ h => h
  focus (refine Or.inl ⟨by rfl, ?_⟩; intro w hSw; (try dsimp only at hSw); go_split_ands; go_simp; try with_reducible rfl)
  try simp only [Act.put, List.setIfInBounds_toArray, List.set_cons_zero, List.set_cons_succ]
  refine Late.take (i := 14) (oi := ?_) (v := ?_) ?_ (by kernel_rfl) (by kernel_rfl) (by kernel_rfl) (by kernel_rfl) ?_ ?_ (by assumption) (by assumption) ?_
  rotate_left 2
  focus (simp only [List.getElem?_toArray, List.getElem?_cons_succ, List.getElem?_cons_zero]; rfl)
  focus exact fun _ _ _ h => h
  focus (refine Or.inl ⟨by rfl, ?_⟩; intro w hSw; (try dsimp only at hSw); go_split_ands; go_simp; try with_reducible rfl)
  try simp only [Act.put, List.setIfInBounds_toArray, List.set_cons_zero, List.set_cons_succ]
  refine Late.take (i := 15) (oi := ?_) (v := ?_) ?_ (by kernel_rfl) (by kernel_rfl) (by kernel_rfl) (by kernel_rfl) ?_ ?_ (by assumption) (by assumption) ?_
  rotate_left 2
  focus (simp only [List.getElem?_toArray, List.getElem?_cons_succ, List.getElem?_cons_zero]; rfl)
  focus exact fun _ _ _ h => h
  focus (refine Or.inl ⟨by rfl, ?_⟩; intro w hSw; (try dsimp only at hSw); go_split_ands; go_simp; try with_reducible rfl)
  try simp only [Act.put, List.setIfInBounds_toArray, List.set_cons_zero, List.set_cons_succ]
  refine Late.take (i := 16) (oi := ?_) (v := ?_) ?_ (by kernel_rfl) (by kernel_rfl) (by kernel_rfl) (by kernel_rfl) ?_ ?_ (by assumption) (by assumption) ?_
  rotate_left 2
  focus (simp only [List.getElem?_toArray, List.getElem?_cons_succ, List.getElem?_cons_zero]; rfl)
  focus exact fun _ _ _ h => h
  focus (refine Or.inl ⟨by rfl, ?_⟩; intro w hSw; (try dsimp only at hSw); go_split_ands; go_simp; try with_reducible rfl)
  try simp only [Act.put, List.setIfInBounds_toArray, List.set_cons_zero, List.set_cons_succ]
  refine Late.take (i := 17) (oi := ?_) (v := ?_) ?_ (by kernel_rfl) (by kernel_rfl) (by kernel_rfl) (by kernel_rfl) ?_ ?_ (by assumption) (by assumption) ?_
  rotate_left 2
  focus (simp only [List.getElem?_toArray, List.getElem?_cons_succ, List.getElem?_cons_zero]; rfl)
  focus exact fun _ _ _ h => h
  focus (refine Or.inl ⟨by rfl, ?_⟩; intro w hSw; (try dsimp only at hSw); go_split_ands; go_simp; try with_reducible rfl)
  try simp only [Act.put, List.setIfInBounds_toArray, List.set_cons_zero, List.set_cons_succ]
  refine Late.only (i := 5) (o := ?_) (by kernel_rfl) ?_ (fun K hK => ?_)
  rotate_left 1
  focus (simp only [List.getElem?_toArray, List.getElem?_cons_succ, List.getElem?_cons_zero]; rfl)
  go_simp
  go_at_call 46
  refine (kb.out _).mono ?_
  rintro e W' ⟨rfl, hw'⟩
  subst hw'
  refine hK.out _ _ hS (fun _ => trivial) ?_
  clear hK K
  try simp only [Act.put, List.setIfInBounds_toArray, List.set_cons_zero, List.set_cons_succ]
  refine Late.take (i := 6) (oi := ?_) (v := ?_) ?_ (by kernel_rfl) (by kernel_rfl) (by kernel_rfl) (by kernel_rfl) ?_ ?_ (by assumption) (by assumption) ?_
  rotate_left 2
  focus (simp only [List.getElem?_toArray, List.getElem?_cons_succ, List.getElem?_cons_zero]; rfl)
  focus exact fun _ _ _ h => h
  focus (refine Or.inl ⟨by rfl, ?_⟩; intro w hSw; (try dsimp only at hSw); go_split_ands; go_simp; try with_reducible rfl)
  try simp only [Act.put, List.setIfInBounds_toArray, List.set_cons_zero, List.set_cons_succ]
  refine Late.only (i := 18) (o := ?_) (by kernel_rfl) ?_ (fun K hK => ?_)
  rotate_left 1
  focus (simp only [List.getElem?_toArray, List.getElem?_cons_succ, List.getElem?_cons_zero]; rfl)
  go_simp
  have hlt : w.heap.size < W.drew.heap.size := by have := hz.out; omega
  have q2 : Blk (W.drew.alloc (.cells ⟨(inoF x).map Fld.v⟩ 20)) W.drew.heap.size 20 ⟨(inoF x).map Fld.v⟩ := Blk.new _ _ _
  have hS2 := alloc5 hS hlt (.cells ⟨(inoF x).map Fld.v⟩ 20)
  have hb2 : Below w.heap.size w (W.drew.alloc (.cells ⟨(inoF x).map Fld.v⟩ 20)) := hb.out.alloc (Nat.le_of_lt hlt) _
  change K _ (W.drew.alloc (.cells ⟨(inoF x).map Fld.v⟩ 20))
  generalize W.drew.alloc (.cells ⟨(inoF x).map Fld.v⟩ 20) = W2 at *
  refine hK.out _ _ hS2 (fun _ => trivial) ?_
  clear hK K
  try simp only [Act.put, List.setIfInBounds_toArray, List.set_cons_zero, List.set_cons_succ]
  replace hS := hS2
  refine Late.take (i := 19) (oi := ?_) (v := ?_) ?_ (by kernel_rfl) (by kernel_rfl) (by kernel_rfl) (by kernel_rfl) ?_ ?_ (by assumption) (by assumption) ?_
  rotate_left 2
  focus (simp only [List.getElem?_toArray, List.getElem?_cons_succ, List.getElem?_cons_zero]; rfl)
  focus exact fun _ _ _ h => h
  focus (refine Or.inl ⟨by rfl, ?_⟩; intro w hSw; (try dsimp only at hSw); go_split_ands; go_simp; try with_reducible rfl)
  try simp only [Act.put, List.setIfInBounds_toArray, List.set_cons_zero, List.set_cons_succ]
  refine Late.done (by kernel_rfl) ?_ _
  go_wp2_with fail
  go_ret
  exact ⟨_, rfl, q2, Nat.le_of_lt hlt, hb2⟩

set_option maxRecDepth 100000 in
set_option maxHeartbeats 4000000 in
theorem ent_put (x : Ent) (w : World) : Calls Tryz.prog 57 #[entV x] w (PutPost w (entF x)) := by
  unfold entV
  go_enter Tryz.func57, Tryz.ntmps57
  go_wp2_with fail
  go_ret
  refine ⟨w.heap.size + 1, rfl, ?_, Nat.le_succ _, ((Below.refl _ _).alloc (Nat.le_refl _) _).alloc (by simp) _⟩
  exact blk_at (Blk.new _ _ _) (by simp)

set_option maxRecDepth 100000 in
set_option maxHeartbeats 4000000 in
theorem snp_put (x : Snp) (w : World) : Calls Tryz.prog 62 #[snpV x] w (PutPost w (snpF x)) := by
  unfold snpV
  go_enter Tryz.func62, Tryz.ntmps62
  go_wp2_with fail
  go_ret
  refine ⟨w.heap.size + 1, rfl, ?_, Nat.le_succ _, ((Below.refl _ _).alloc (Nat.le_refl _) _).alloc (by simp) _⟩
  exact blk_at (Blk.new _ _ _) (by simp)

/-- a form: its three functions -/
def formV (a b c : Nat) : Value := .agg #[.func (.func a) #[] #[], .func (.func b) #[] #[], .func (.func c) #[] #[]]
set_option maxRecDepth 100000 in
set_option maxHeartbeats 4000000 in
theorem ino_form (w : World) : Calls Tryz.prog 23 #[] w fun e w' => e = .returned (formV 43 45 47) ∧ Below w.heap.size w w' := by
  go_enter Tryz.func23, Tryz.ntmps23
  go_wp2_with fail
  refine bodyPost_ret (v := formV 43 45 47) ?_ rfl ⟨rfl, ?_⟩
  · exact results_row (p := 0) (ty := 52) (by rfl) _ _ w.heap.size 52 _ (0, 0) _ (by rfl) (Blk.new _ _ _) Tryz.underlying52 rfl (by kernel_rfl)
  · exact (Below.refl _ _).alloc (Nat.le_refl _) _

set_option maxRecDepth 100000 in
set_option maxHeartbeats 4000000 in
theorem ent_form (w : World) : Calls Tryz.prog 31 #[] w fun e w' => e = .returned (formV 56 57 58) ∧ Below w.heap.size w w' := by
  go_enter Tryz.func31, Tryz.ntmps31
  go_wp2_with fail
  refine bodyPost_ret (v := formV 56 57 58) ?_ rfl ⟨rfl, ?_⟩
  · exact results_row (p := 0) (ty := 74) (by rfl) _ _ w.heap.size 74 _ (0, 0) _ (by rfl) (Blk.new _ _ _) Tryz.underlying74 rfl (by kernel_rfl)
  · exact (Below.refl _ _).alloc (Nat.le_refl _) _

set_option maxRecDepth 100000 in
set_option maxHeartbeats 4000000 in
theorem snp_form (w : World) : Calls Tryz.prog 37 #[] w fun e w' => e = .returned (formV 61 62 63) ∧ Below w.heap.size w w' := by
  go_enter Tryz.func37, Tryz.ntmps37
  go_wp2_with fail
  refine bodyPost_ret (v := formV 61 62 63) ?_ rfl ⟨rfl, ?_⟩
  · exact results_row (p := 0) (ty := 84) (by rfl) _ _ w.heap.size 84 _ (0, 0) _ (by rfl) (Blk.new _ _ _) Tryz.underlying84 rfl (by kernel_rfl)
  · exact (Below.refl _ _).alloc (Nat.le_refl _) _
end Go.Proofs.YtaihpnmojiagnaaGreatDoor.Table

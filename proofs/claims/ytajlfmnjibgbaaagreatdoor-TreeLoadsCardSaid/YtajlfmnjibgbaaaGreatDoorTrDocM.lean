/- The document's tree in memory, beside the document's volume (printed by gen_docm.py). -/
import Derived.Test.YtajlfmnjibgbaaaGreatDoorTrDocG
import Derived.Test.YtajlfmnjibgbaaaGreatDoorTrVol
import Derived.Test.YtajlfmnjibgbaaaGreatDoorTrVisit
import Derived.Test.YtajlfmnjibgbaaaGreatDoorTrWalkC
namespace Go.Proofs.YtajlfmnjibgbaaaGreatDoor.Tr
open Go Go.RowKit Go.Maps Mem Disk Nv Vl
abbrev lvT (T : Tx) (i : Nat) : List Int := T.levels.getD i []
/-- X: blocks that stay; G: the volume's -/
structure RWat (X G : Nat → Prop) (N m : Nat) (w : World) (k t : Nat) (ov v0 v1 v2 : Value) (f : Rd) (T : Tx) : Prop where
  vol : IsD G N m w k f
  blk : Blk w t 105 #[ov, .string T.data, v0, v1, v2, .int .i64 T.e]
  ord : w.ownsRow 0 3 1 ov T.order.length (intV T.order)
  r0 : w.ownsRow 0 3 1 v0 (lvT T 0).length (intV (lvT T 0))
  r1 : w.ownsRow 0 3 1 v1 (lvT T 1).length (intV (lvT T 1))
  r2 : w.ownsRow 0 3 1 v2 (lvT T 2).length (intV (lvT T 2))
  gX : ∀ i, G i → ¬ X i
  tX : ¬ X t
  tG : ¬ G t
  oF : ∀ i, ov.ownBlock = some i → ¬ X i ∧ ¬ G i ∧ i ≠ t
  vF : ∀ v, (v = v0 ∨ v = v1 ∨ v = v2) → ∀ i, v.ownBlock = some i → ¬ X i ∧ ¬ G i ∧ i ≠ t ∧ ov.ownBlock ≠ some i
  xlt : ∀ i, X i → i < w.heap.size
def RW (X : Nat → Prop) (N m : Nat) (w : World) (k t : Nat) (f : Rd) (T : Tx) : Prop := ∃ G ov v0 v1 v2, RWat X G N m w k t ov v0 v1 v2 f T
section
variable {X G K : Nat → Prop} {N m : Nat} {w w' W : World} {k t : Nat} {ov v0 v1 v2 v3 : Value} {f : Rd} {T : Tx} {num : Int}
set_option maxRecDepth 100000 in
theorem RWat.keeps (h : RWat X G N m w k t ov v0 v1 v2 f T) (kk : Keeps K w w') (hG : ∀ i, G i → ¬ K i) (ht : ¬ K t) (ho : ∀ i, ov.ownBlock = some i → ¬ K i) (hv : ∀ v, (v = v0 ∨ v = v1 ∨ v = v2) → ∀ i, v.ownBlock = some i → ¬ K i) :
    RWat X G N m w' k t ov v0 v1 v2 f T :=
  ⟨h.vol.keeps kk hG, h.blk.keeps kk ht, own_keeps h.ord kk ho, own_keeps h.r0 kk (hv v0 (Or.inl rfl)), own_keeps h.r1 kk (hv v1 (Or.inr (Or.inl rfl))), own_keeps h.r2 kk (hv v2 (Or.inr (Or.inr rfl))), h.gX, h.tX, h.tG, h.oF, h.vF, fun i hi => Nat.lt_of_lt_of_le (h.xlt i hi) kk.size⟩
set_option maxRecDepth 100000 in
theorem RWat.below (h : RWat X G N m w k t ov v0 v1 v2 f T) (hb : Below w.heap.size w w') : RWat X G N m w' k t ov v0 v1 v2 f T :=
  h.keeps (Keeps.of_below (fun _ => False) hb) (fun _ _ e => e) (fun e => e) (fun _ _ e => e) (fun _ _ _ _ e => e)
set_option maxRecDepth 100000 in
theorem RW.below (h : RW X N m w k t f T) (hb : Below w.heap.size w w') : RW X N m w' k t f T := by
  obtain ⟨G, ov, v0, v1, v2, h⟩ := h
  exact ⟨G, ov, v0, v1, v2, h.below hb⟩
set_option maxRecDepth 100000 in
theorem rw_read (h : RWat X G N m w k t ov v0 v1 v2 f T) (hm : m ≤ 900000) (n : Int) : Calls Tryz.prog 102 #[.pointer (some ⟨k, 0, none⟩), .int .i64 n] w fun e w' =>
    e = .returned (.tuple #[.string (f n).1, .int .i64 (f n).2]) ∧ (∃ G', RWat X G' N m w' k t ov v0 v1 v2 f T) ∧ KeepX X w w' := by
  refine (isd_read h.vol hm n).mono ?_
  rintro e w' ⟨rfl, G', h1, h2, h3⟩
  have hlt := h.blk.lt
  refine ⟨rfl, ⟨G', h1, h.blk.keeps h2 h.tG, own_keeps h.ord h2 (fun i e => (h.oF i e).2.1), own_keeps h.r0 h2 (fun i e => (h.vF v0 (Or.inl rfl) i e).2.1), own_keeps h.r1 h2 (fun i e => (h.vF v1 (Or.inr (Or.inl rfl)) i e).2.1), own_keeps h.r2 h2 (fun i e => (h.vF v2 (Or.inr (Or.inr rfl)) i e).2.1), fun i hi hx => ?_, h.tX, fun hg => ?_, fun i e => ⟨(h.oF i e).1, fun hg => ?_, (h.oF i e).2.2⟩, fun v hv i e => ⟨(h.vF v hv i e).1, fun hg => ?_, (h.vF v hv i e).2.2⟩, fun i hi => Nat.lt_of_lt_of_le (h.xlt i hi) h2.size⟩, h2.mono fun i hg hx => h.gX i hg hx⟩
  · rcases h3 i hi with q | q
    · exact h.gX i q hx
    · have := h.xlt i hx
      omega
  · rcases h3 t hg with q | q
    · exact h.tG q
    · omega
  · rcases h3 i hg with q | q
    · exact (h.oF i e).2.1 q
    · have := (h.ord.lt i e).2
      omega
  · rcases h3 i hg with q | q
    · exact (h.vF v hv i e).2.1 q
    · rcases hv with rfl | rfl | rfl
      · have := (h.r0.lt i e).2
        omega
      · have := (h.r1.lt i e).2
        omega
      · have := (h.r2.lt i e).2
        omega
set_option maxRecDepth 100000 in
/-- a number is appended to the order -/
theorem RWat.order {o : Obj} (h : RWat X G N m w k t ov v0 v1 v2 f T) (hg : (w.alloc o).grownBy W ov.ownBlock) (ho : W.ownsRow 0 3 1 v3 (T.order.length + 1) (intV T.order ++ [.int .i64 num])) (hv : v3.ownBlock = ov.ownBlock ∨ v3.ownBlock = some (w.alloc o).heap.size) :
    RWat X G N m (W.setCell ⟨t, 0, none⟩ v3) k t v3 v0 v1 v2 f { T with order := T.order ++ [num] } ∧ KeepX X w (W.setCell ⟨t, 0, none⟩ v3) := by
  have kk : Keeps (fun i => ov.ownBlock = some i) w W := alloc_keeps hg (fun i e => e)
  have kt : Keeps (fun i => i = t) W (W.setCell ⟨t, 0, none⟩ v3) := (Keeps.refl (fun i => i = t) W).put (g := t) (Or.inl rfl) 0 _
  have ka : Keeps (fun i => ov.ownBlock = some i ∨ i = t) w (W.setCell ⟨t, 0, none⟩ v3) := (kk.mono fun i e => Or.inl e).same (kt.mono fun i e => Or.inr e)
  have hlt := h.blk.lt
  have hnew : ∀ i, v3.ownBlock = some i → ov.ownBlock = some i ∨ (w.heap.size ≤ i ∧ i < W.heap.size) := fun i e => by
    rcases hv with q | q
    · exact Or.inl (by rw [← q]; exact e)
    · have := (ho.lt i e).2
      rw [q] at e
      injection e with e
      simp at e
      exact Or.inr (by omega)
  have ovt : ov.ownBlock ≠ some t := fun e => (h.oF t e).2.2 rfl
  refine ⟨⟨h.vol.keeps ka (fun i hi hk => hk.elim (fun e => (h.oF i e).2.1 hi) (fun e => h.tG (e ▸ hi))), ?_, ?_, own_keeps h.r0 ka (fun i e hk => hk.elim (fun q => (h.vF v0 (Or.inl rfl) i e).2.2.2 q) (fun q => (h.vF v0 (Or.inl rfl) i e).2.2.1 q)), own_keeps h.r1 ka (fun i e hk => hk.elim (fun q => (h.vF v1 (Or.inr (Or.inl rfl)) i e).2.2.2 q) (fun q => (h.vF v1 (Or.inr (Or.inl rfl)) i e).2.2.1 q)), own_keeps h.r2 ka (fun i e hk => hk.elim (fun q => (h.vF v2 (Or.inr (Or.inr rfl)) i e).2.2.2 q) (fun q => (h.vF v2 (Or.inr (Or.inr rfl)) i e).2.2.1 q)), h.gX, h.tX, h.tG, fun i e => ?_, fun v hv2 i e => ⟨(h.vF v hv2 i e).1, (h.vF v hv2 i e).2.1, (h.vF v hv2 i e).2.2.1, fun q => ?_⟩, fun i hi => Nat.lt_of_lt_of_le (h.xlt i hi) ka.size⟩, ka.mono fun i hk hx => hk.elim (fun e => (h.oF i e).1 hx) (fun e => h.tX (e ▸ hx))⟩
  · exact (h.blk.keeps kk ovt).put 0 v3
  · show (W.setCell ⟨t, 0, none⟩ v3).ownsRow 0 3 1 v3 (T.order ++ [num]).length (intV (T.order ++ [num]))
    rw [intV_append, List.length_append]
    exact own_keeps ho kt (fun i e q => by
      rcases hnew i e with q2 | q2
      · exact (h.oF i q2).2.2 q
      · omega)
  · rcases hnew i e with q | q
    · exact h.oF i q
    · refine ⟨fun hx => ?_, fun hg => ?_, by omega⟩
      · have := h.xlt i hx
        omega
      · have := h.vol.lt i hg
        omega
  · rcases hnew i q with q2 | q2
    · exact (h.vF v hv2 i e).2.2.2 q2
    · rcases hv2 with rfl | rfl | rfl
      · have := (h.r0.lt i e).2
        omega
      · have := (h.r1.lt i e).2
        omega
      · have := (h.r2.lt i e).2
        omega
set_option maxRecDepth 100000 in
/-- a number is appended to level 0, in a new row -/
theorem RWat.level0 (h : RWat X G N m w k t ov v0 v1 v2 f T) (hl : T.levels.length = 3) (hb : Below w.heap.size w W) (ho : W.ownsRow w.heap.size 3 1 v3 ((lvT T 0).length + 1) (intV (lvT T 0) ++ [.int .i64 num])) :
    RWat X G N m (W.setCell ⟨t, 2, none⟩ v3) k t ov v3 v1 v2 f { T with levels := T.levels.set 0 (lvT T 0 ++ [num]) } ∧ KeepX X w (W.setCell ⟨t, 2, none⟩ v3) := by
  have kb : Keeps (fun _ => False) w W := Keeps.of_below _ hb
  have kt : Keeps (fun i => i = t) W (W.setCell ⟨t, 2, none⟩ v3) := (Keeps.refl (fun i => i = t) W).put (g := t) (Or.inl rfl) 2 _
  have ka : Keeps (fun i => i = t) w (W.setCell ⟨t, 2, none⟩ v3) := (kb.mono fun i e => e.elim).same kt
  have hlt := h.blk.lt
  refine ⟨⟨h.vol.keeps ka (fun i hi e => h.tG (e ▸ hi)), (h.blk.keeps kb (fun e => e)).put 2 v3, own_keeps h.ord ka (fun i e q => (h.oF i e).2.2 q), ?_, ?_, ?_, h.gX, h.tX, h.tG, h.oF, fun v hv i e => ?_, fun i hi => Nat.lt_of_lt_of_le (h.xlt i hi) ka.size⟩, ka.mono fun i e hx => h.tX (e ▸ hx)⟩
  · show (W.setCell ⟨t, 2, none⟩ v3).ownsRow 0 3 1 v3 ((T.levels.set 0 (lvT T 0 ++ [num])).getD 0 []).length (intV ((T.levels.set 0 (lvT T 0 ++ [num])).getD 0 []))
    rw [lev_set (by rw [hl]; decide), if_pos rfl, intV_append, List.length_append]
    exact own_keeps (own_base ho (Nat.zero_le _)) kt (fun i e q => by have := (ho.lt i e).1; omega)
  · show (W.setCell ⟨t, 2, none⟩ v3).ownsRow 0 3 1 v1 ((T.levels.set 0 (lvT T 0 ++ [num])).getD 1 []).length (intV ((T.levels.set 0 (lvT T 0 ++ [num])).getD 1 []))
    rw [lev_set (by rw [hl]; decide), if_neg (by decide)]
    exact own_keeps (own_keeps h.r1 kb (fun _ _ e => e)) kt (fun i e q => (h.vF v1 (Or.inr (Or.inl rfl)) i e).2.2.1 q)
  · show (W.setCell ⟨t, 2, none⟩ v3).ownsRow 0 3 1 v2 ((T.levels.set 0 (lvT T 0 ++ [num])).getD 2 []).length (intV ((T.levels.set 0 (lvT T 0 ++ [num])).getD 2 []))
    rw [lev_set (by rw [hl]; decide), if_neg (by decide)]
    exact own_keeps (own_keeps h.r2 kb (fun _ _ e => e)) kt (fun i e q => (h.vF v2 (Or.inr (Or.inr rfl)) i e).2.2.1 q)
  · have hnew : v = v3 → ¬ X i ∧ ¬ G i ∧ i ≠ t ∧ ov.ownBlock ≠ some i := fun e3 => by
      subst e3
      have h1 := (ho.lt i e).1
      refine ⟨fun hx => ?_, fun hg => ?_, by omega, fun q => ?_⟩
      · have := h.xlt i hx
        omega
      · have := h.vol.lt i hg
        omega
      · have := (h.ord.lt i q).2
        omega
    rcases hv with hv | hv | hv
    · exact hnew hv
    · exact h.vF v (Or.inr (Or.inl hv)) i e
    · exact h.vF v (Or.inr (Or.inr hv)) i e
set_option maxRecDepth 100000 in
/-- a number is appended to level 1, in a new row -/
theorem RWat.level1 (h : RWat X G N m w k t ov v0 v1 v2 f T) (hl : T.levels.length = 3) (hb : Below w.heap.size w W) (ho : W.ownsRow w.heap.size 3 1 v3 ((lvT T 1).length + 1) (intV (lvT T 1) ++ [.int .i64 num])) :
    RWat X G N m (W.setCell ⟨t, 3, none⟩ v3) k t ov v0 v3 v2 f { T with levels := T.levels.set 1 (lvT T 1 ++ [num]) } ∧ KeepX X w (W.setCell ⟨t, 3, none⟩ v3) := by
  have kb : Keeps (fun _ => False) w W := Keeps.of_below _ hb
  have kt : Keeps (fun i => i = t) W (W.setCell ⟨t, 3, none⟩ v3) := (Keeps.refl (fun i => i = t) W).put (g := t) (Or.inl rfl) 3 _
  have ka : Keeps (fun i => i = t) w (W.setCell ⟨t, 3, none⟩ v3) := (kb.mono fun i e => e.elim).same kt
  have hlt := h.blk.lt
  refine ⟨⟨h.vol.keeps ka (fun i hi e => h.tG (e ▸ hi)), (h.blk.keeps kb (fun e => e)).put 3 v3, own_keeps h.ord ka (fun i e q => (h.oF i e).2.2 q), ?_, ?_, ?_, h.gX, h.tX, h.tG, h.oF, fun v hv i e => ?_, fun i hi => Nat.lt_of_lt_of_le (h.xlt i hi) ka.size⟩, ka.mono fun i e hx => h.tX (e ▸ hx)⟩
  · show (W.setCell ⟨t, 3, none⟩ v3).ownsRow 0 3 1 v0 ((T.levels.set 1 (lvT T 1 ++ [num])).getD 0 []).length (intV ((T.levels.set 1 (lvT T 1 ++ [num])).getD 0 []))
    rw [lev_set (by rw [hl]; decide), if_neg (by decide)]
    exact own_keeps (own_keeps h.r0 kb (fun _ _ e => e)) kt (fun i e q => (h.vF v0 (Or.inl rfl) i e).2.2.1 q)
  · show (W.setCell ⟨t, 3, none⟩ v3).ownsRow 0 3 1 v3 ((T.levels.set 1 (lvT T 1 ++ [num])).getD 1 []).length (intV ((T.levels.set 1 (lvT T 1 ++ [num])).getD 1 []))
    rw [lev_set (by rw [hl]; decide), if_pos rfl, intV_append, List.length_append]
    exact own_keeps (own_base ho (Nat.zero_le _)) kt (fun i e q => by have := (ho.lt i e).1; omega)
  · show (W.setCell ⟨t, 3, none⟩ v3).ownsRow 0 3 1 v2 ((T.levels.set 1 (lvT T 1 ++ [num])).getD 2 []).length (intV ((T.levels.set 1 (lvT T 1 ++ [num])).getD 2 []))
    rw [lev_set (by rw [hl]; decide), if_neg (by decide)]
    exact own_keeps (own_keeps h.r2 kb (fun _ _ e => e)) kt (fun i e q => (h.vF v2 (Or.inr (Or.inr rfl)) i e).2.2.1 q)
  · have hnew : v = v3 → ¬ X i ∧ ¬ G i ∧ i ≠ t ∧ ov.ownBlock ≠ some i := fun e3 => by
      subst e3
      have h1 := (ho.lt i e).1
      refine ⟨fun hx => ?_, fun hg => ?_, by omega, fun q => ?_⟩
      · have := h.xlt i hx
        omega
      · have := h.vol.lt i hg
        omega
      · have := (h.ord.lt i q).2
        omega
    rcases hv with hv | hv | hv
    · exact h.vF v (Or.inl hv) i e
    · exact hnew hv
    · exact h.vF v (Or.inr (Or.inr hv)) i e
set_option maxRecDepth 100000 in
/-- a number is appended to level 2, in a new row -/
theorem RWat.level2 (h : RWat X G N m w k t ov v0 v1 v2 f T) (hl : T.levels.length = 3) (hb : Below w.heap.size w W) (ho : W.ownsRow w.heap.size 3 1 v3 ((lvT T 2).length + 1) (intV (lvT T 2) ++ [.int .i64 num])) :
    RWat X G N m (W.setCell ⟨t, 4, none⟩ v3) k t ov v0 v1 v3 f { T with levels := T.levels.set 2 (lvT T 2 ++ [num]) } ∧ KeepX X w (W.setCell ⟨t, 4, none⟩ v3) := by
  have kb : Keeps (fun _ => False) w W := Keeps.of_below _ hb
  have kt : Keeps (fun i => i = t) W (W.setCell ⟨t, 4, none⟩ v3) := (Keeps.refl (fun i => i = t) W).put (g := t) (Or.inl rfl) 4 _
  have ka : Keeps (fun i => i = t) w (W.setCell ⟨t, 4, none⟩ v3) := (kb.mono fun i e => e.elim).same kt
  have hlt := h.blk.lt
  refine ⟨⟨h.vol.keeps ka (fun i hi e => h.tG (e ▸ hi)), (h.blk.keeps kb (fun e => e)).put 4 v3, own_keeps h.ord ka (fun i e q => (h.oF i e).2.2 q), ?_, ?_, ?_, h.gX, h.tX, h.tG, h.oF, fun v hv i e => ?_, fun i hi => Nat.lt_of_lt_of_le (h.xlt i hi) ka.size⟩, ka.mono fun i e hx => h.tX (e ▸ hx)⟩
  · show (W.setCell ⟨t, 4, none⟩ v3).ownsRow 0 3 1 v0 ((T.levels.set 2 (lvT T 2 ++ [num])).getD 0 []).length (intV ((T.levels.set 2 (lvT T 2 ++ [num])).getD 0 []))
    rw [lev_set (by rw [hl]; decide), if_neg (by decide)]
    exact own_keeps (own_keeps h.r0 kb (fun _ _ e => e)) kt (fun i e q => (h.vF v0 (Or.inl rfl) i e).2.2.1 q)
  · show (W.setCell ⟨t, 4, none⟩ v3).ownsRow 0 3 1 v1 ((T.levels.set 2 (lvT T 2 ++ [num])).getD 1 []).length (intV ((T.levels.set 2 (lvT T 2 ++ [num])).getD 1 []))
    rw [lev_set (by rw [hl]; decide), if_neg (by decide)]
    exact own_keeps (own_keeps h.r1 kb (fun _ _ e => e)) kt (fun i e q => (h.vF v1 (Or.inr (Or.inl rfl)) i e).2.2.1 q)
  · show (W.setCell ⟨t, 4, none⟩ v3).ownsRow 0 3 1 v3 ((T.levels.set 2 (lvT T 2 ++ [num])).getD 2 []).length (intV ((T.levels.set 2 (lvT T 2 ++ [num])).getD 2 []))
    rw [lev_set (by rw [hl]; decide), if_pos rfl, intV_append, List.length_append]
    exact own_keeps (own_base ho (Nat.zero_le _)) kt (fun i e q => by have := (ho.lt i e).1; omega)
  · have hnew : v = v3 → ¬ X i ∧ ¬ G i ∧ i ≠ t ∧ ov.ownBlock ≠ some i := fun e3 => by
      subst e3
      have h1 := (ho.lt i e).1
      refine ⟨fun hx => ?_, fun hg => ?_, by omega, fun q => ?_⟩
      · have := h.xlt i hx
        omega
      · have := h.vol.lt i hg
        omega
      · have := (h.ord.lt i q).2
        omega
    rcases hv with hv | hv | hv
    · exact h.vF v (Or.inl hv) i e
    · exact h.vF v (Or.inr (Or.inl hv)) i e
    · exact hnew hv
set_option maxRecDepth 100000 in
/-- the error is laid -/
theorem RWat.err (h : RWat X G N m w k t ov v0 v1 v2 f T) (e : Int) : RWat X G N m (w.setCell ⟨t, 5, none⟩ (.int .i64 e)) k t ov v0 v1 v2 f { T with e := e } ∧ KeepX X w (w.setCell ⟨t, 5, none⟩ (.int .i64 e)) := by
  have kt : Keeps (fun i => i = t) w (w.setCell ⟨t, 5, none⟩ (.int .i64 e)) := (Keeps.refl (fun i => i = t) w).put (g := t) (Or.inl rfl) 5 _
  exact ⟨⟨h.vol.keeps kt (fun i hi q => h.tG (q ▸ hi)), h.blk.put 5 _, own_keeps h.ord kt (fun i q r => (h.oF i q).2.2 r), own_keeps h.r0 kt (fun i q r => (h.vF v0 (Or.inl rfl) i q).2.2.1 r), own_keeps h.r1 kt (fun i q r => (h.vF v1 (Or.inr (Or.inl rfl)) i q).2.2.1 r), own_keeps h.r2 kt (fun i q r => (h.vF v2 (Or.inr (Or.inr rfl)) i q).2.2.1 r), h.gX, h.tX, h.tG, h.oF, h.vF, fun i hi => Nat.lt_of_lt_of_le (h.xlt i hi) kt.size⟩, kt.mono fun i q hx => h.tX (q ▸ hx)⟩
set_option maxRecDepth 100000 in
/-- bytes are added -/
theorem RWat.add (h : RWat X G N m w k t ov v0 v1 v2 f T) (p : ByteArray) : RWat X G N m (w.setCell ⟨t, 1, none⟩ (.string (T.data ++ p))) k t ov v0 v1 v2 f { T with data := T.data ++ p } ∧ KeepX X w (w.setCell ⟨t, 1, none⟩ (.string (T.data ++ p))) := by
  have kt : Keeps (fun i => i = t) w (w.setCell ⟨t, 1, none⟩ (.string (T.data ++ p))) := (Keeps.refl (fun i => i = t) w).put (g := t) (Or.inl rfl) 1 _
  exact ⟨⟨h.vol.keeps kt (fun i hi q => h.tG (q ▸ hi)), h.blk.put 1 _, own_keeps h.ord kt (fun i q r => (h.oF i q).2.2 r), own_keeps h.r0 kt (fun i q r => (h.vF v0 (Or.inl rfl) i q).2.2.1 r), own_keeps h.r1 kt (fun i q r => (h.vF v1 (Or.inr (Or.inl rfl)) i q).2.2.1 r), own_keeps h.r2 kt (fun i q r => (h.vF v2 (Or.inr (Or.inr rfl)) i q).2.2.1 r), h.gX, h.tX, h.tG, h.oF, h.vF, fun i hi => Nat.lt_of_lt_of_le (h.xlt i hi) kt.size⟩, kt.mono fun i q hx => h.tX (q ▸ hx)⟩
end
set_option maxRecDepth 100000 in
theorem val_four (p : ByteArray) (i : Nat) (h : 4 * i + 4 ≤ p.size) : Nv.val (p.extract (4 * i) (4 * i + 4)) = val4 p (4 * i) := by
  have hs : p.size = p.data.size := rfl
  have e : (p.extract (4 * i) (4 * i + 4)).data.toList = [p.get! (4 * i), p.get! (4 * i + 1), p.get! (4 * i + 2), p.get! (4 * i + 3)] := by
    apply List.ext_getElem?
    intro x
    rw [ByteArray.data_extract, Array.getElem?_toList, Array.getElem?_extract]
    have hg : ∀ y, y < p.size → p.data[y]? = some (p.get! y) := fun y hy => by
      rw [Array.getElem?_eq_getElem hy]
      congr 1
      show _ = p.data[y]!
      rw [getElem!_pos p.data y hy]
    rcases x with _ | _ | _ | _ | x
    · rw [if_pos (by omega), hg _ (by omega)]; rfl
    · rw [if_pos (by omega), hg _ (by omega)]; rfl
    · rw [if_pos (by omega), hg _ (by omega)]; rfl
    · rw [if_pos (by omega), hg _ (by omega)]; rfl
    · rw [if_neg (by omega)]; simp
  unfold Nv.val
  rw [e]
  simp only [Nv.valL, val4]
  omega
end Go.Proofs.YtajlfmnjibgbaaaGreatDoor.Tr

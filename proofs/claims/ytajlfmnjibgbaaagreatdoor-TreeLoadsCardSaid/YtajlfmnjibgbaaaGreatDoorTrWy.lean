/- A way through a tree, in memory, beside a volume. -/
import Derived.Test.YtajlfmnjibgbaaaGreatDoorTrVol
import Derived.Test.YtajlfmnjibgbaaaGreatDoorTrBs
import Derived.Test.YtajlfmnjibgbaaaGreatDoorTrWalkC
import Derived.Test.YtajlfmnjibgbaaaGreatDoorTrPl
namespace Go.Proofs.YtajlfmnjibgbaaaGreatDoor.Tr
open Go Go.RowKit Go.Maps Mem Disk Nv Vl
/-- no block stands twice -/
def Apart (l : List (Option Nat)) : Prop := ∀ (i j k : Nat), i ≠ j → l[i]? = some (some k) → l[j]? ≠ some (some k)
set_option maxRecDepth 100000 in
theorem Apart.set {l : List (Option Nat)} {n i : Nat} {o : Option Nat} (h : Apart l) (hn : ∀ k, some k ∈ l → k < n) (ho : l[i]? = some o ∨ ∀ k, o = some k → n ≤ k) : Apart (l.set i o) := by
  intro a b k hab h1 h2
  rw [List.getElem?_set] at h1 h2
  have old : ∀ x, i ≠ x → l[x]? = some (some k) → (if i < l.length then some o else none) = some (some k) → False := fun x hx hlx ho2 => by
    split at ho2
    · injection ho2 with ho2
      rcases ho with q | q
      · rw [ho2] at q
        exact h i x k hx q hlx
      · have q1 := q k ho2
        have q2 := hn k (List.mem_of_getElem? hlx)
        omega
    · cases ho2
  by_cases ha : i = a
  · rw [if_pos ha] at h1
    rw [if_neg (by omega)] at h2
    exact old b (by omega) h2 h1
  · rw [if_neg ha] at h1
    by_cases hb : i = b
    · rw [if_pos hb] at h2
      exact old a ha h1 h2
    · rw [if_neg hb] at h2
      exact h a b k hab h1 h2
set_option maxRecDepth 100000 in
theorem own_apart {w : World} {base n sz base' n' sz' i : Nat} {e e' : TypeId} {v v' : Value} {xs xs' : List Value} (h : w.ownsRow base e sz v n xs) (h' : w.ownsRow base' e' sz' v' n' xs') (he : e ≠ e') (hi : v.ownBlock = some i) : v'.ownBlock ≠ some i := fun hi' => by
  rcases h.2 with ⟨rfl, _⟩ | ⟨g, cap, cur, rfl, _, hg, _⟩
  · cases hi
  · rcases h'.2 with ⟨rfl, _⟩ | ⟨g', cap', cur', rfl, _, hg', _⟩
    · cases hi'
    · have e1 : g = i := by injection hi
      have e2 : g' = i := by injection hi'
      subst e1
      subst e2
      rw [hg] at hg'
      injection hg' with hg'
      injection hg' with _ hg' _
      exact he hg'
/-- the cells of a way's own block -/
def wkc (sv : Value) (ch : Bool) (rv ov pv bv lv : Value) (left : Nat) : Array Value := #[sv, .bool ch, rv, ov, pv, bv, .int .i64 (left : Int), lv]
def blocksOf (ov lv : Value) (rs : List Value) : List (Option Nat) := ov.ownBlock :: lv.ownBlock :: rs.map Value.ownBlock
structure WkAt (w : World) (p : Nat) (sv : Value) (ch : Bool) (gn cn : Nat) (rs : List Value) (ov pv bv lv : Value) (wk : Wk) : Prop where
  blk : Blk w p 83 (wkc sv ch (.slice (some ⟨gn, 0, none⟩) rs.length cn) ov pv bv lv wk.left)
  hp : pv = .pointer none ∨ pv = .pointer (some ⟨p, 4, none⟩)
  rows : w.ownsRow 0 41 1 (.slice (some ⟨gn, 0, none⟩) rs.length cn) rs.length rs
  rlen : rs.length = wk.nums.length
  nums : ∀ (l : Nat) v L, rs[l]? = some v → wk.nums[l]? = some L → w.ownsRow 0 3 1 v L.length (intV L)
  ord : w.ownsRow 0 3 1 ov wk.order.length (intV wk.order)
  buf : w.ownsRow 0 5 1 bv wk.data.size (Lib.strCells wk.data)
  low : w.ownsRow 0 3 1 lv wk.below.length (natsV wk.below)
  apart : Apart (blocksOf ov lv rs)
/-- its blocks -/
def Fw (p gn : Nat) (bv ov lv : Value) (rs : List Value) (i : Nat) : Prop := i = p ∨ i = gn ∨ bv.ownBlock = some i ∨ some i ∈ blocksOf ov lv rs
section
variable {w w' W : World} {p gn cn : Nat} {sv ov pv bv lv v' : Value} {ch : Bool} {rs : List Value} {wk : Wk} {K : Nat → Prop}
set_option maxRecDepth 100000 in
theorem mem_rows {rs : List Value} {ov lv : Value} {l : Nat} {v : Value} (h : rs[l]? = some v) : v.ownBlock ∈ blocksOf ov lv rs := by
  unfold blocksOf
  exact List.mem_cons_of_mem _ (List.mem_cons_of_mem _ (List.mem_map.2 ⟨v, List.mem_of_getElem? h, rfl⟩))
set_option maxRecDepth 100000 in
theorem WkAt.num (h : WkAt w p sv ch gn cn rs ov pv bv lv wk) {l : Nat} {v : Value} (hl : rs[l]? = some v) : ∃ L, wk.nums[l]? = some L ∧ w.ownsRow 0 3 1 v L.length (intV L) := by
  have := (List.getElem?_eq_some_iff.1 hl).1
  rw [h.rlen] at this
  exact ⟨_, List.getElem?_eq_getElem this, h.nums l v _ hl (List.getElem?_eq_getElem this)⟩
set_option maxRecDepth 100000 in
theorem WkAt.lt (h : WkAt w p sv ch gn cn rs ov pv bv lv wk) : ∀ i, Fw p gn bv ov lv rs i → i < w.heap.size := by
  intro i hi
  rcases hi with rfl | rfl | hi | hi
  · exact h.blk.lt
  · exact (h.rows.lt i rfl).2
  · exact (h.buf.lt i hi).2
  · unfold blocksOf at hi
    rcases List.mem_cons.1 hi with hi | hi
    · exact (h.ord.lt i hi.symm).2
    · rcases List.mem_cons.1 hi with hi | hi
      · exact (h.low.lt i hi.symm).2
      · obtain ⟨v, hv, e⟩ := List.mem_map.1 hi
        obtain ⟨l, hl⟩ := List.mem_iff_getElem?.1 hv
        obtain ⟨L, _, ho⟩ := h.num hl
        exact (ho.lt i e).2
set_option maxRecDepth 100000 in
theorem WkAt.keeps (h : WkAt w p sv ch gn cn rs ov pv bv lv wk) (k : Keeps K w w') (hn : ∀ i, Fw p gn bv ov lv rs i → ¬ K i) : WkAt w' p sv ch gn cn rs ov pv bv lv wk :=
  ⟨h.blk.keeps k (hn p (Or.inl rfl)), h.hp, own_keeps h.rows k (fun j e => by injection e with e; subst e; exact hn _ (Or.inr (Or.inl rfl))), h.rlen,
    fun l v L hl hL => own_keeps (h.nums l v L hl hL) k (fun j e => hn j (Or.inr (Or.inr (Or.inr (e ▸ mem_rows hl))))),
    own_keeps h.ord k (fun j e => hn j (Or.inr (Or.inr (Or.inr (e ▸ List.mem_cons_self))))), own_keeps h.buf k (fun j e => hn j (Or.inr (Or.inr (Or.inl e)))),
    own_keeps h.low k (fun j e => hn j (Or.inr (Or.inr (Or.inr (e ▸ List.mem_cons_of_mem _ List.mem_cons_self))))), h.apart⟩
set_option maxRecDepth 100000 in
theorem WkAt.below (h : WkAt w p sv ch gn cn rs ov pv bv lv wk) (hb : Below w.heap.size w w') : WkAt w' p sv ch gn cn rs ov pv bv lv wk := h.keeps (Keeps.of_below (fun _ => False) hb) (fun _ _ h => h)
set_option maxRecDepth 100000 in
/-- the rows of numbers lie apart from the others -/
theorem WkAt.far (h : WkAt w p sv ch gn cn rs ov pv bv lv wk) {base n : Nat} {v : Value} {xs : List Value} (ho : w.ownsRow base 3 1 v n xs) : (∀ i, v.ownBlock = some i → i ≠ p) ∧ (∀ i, v.ownBlock = some i → i ≠ gn) ∧ ∀ i, v.ownBlock = some i → bv.ownBlock ≠ some i :=
  ⟨fun i hi => own_ne ho h.blk (by decide) i hi, fun i hi e => own_apart ho h.rows (by decide) hi (by rw [e]; rfl), fun i hi => own_apart ho h.buf (by decide) hi⟩
set_option maxRecDepth 100000 in
theorem WkAt.pgn (h : WkAt w p sv ch gn cn rs ov pv bv lv wk) : gn ≠ p := own_ne h.rows h.blk (by decide) gn rfl
set_option maxRecDepth 100000 in
theorem WkAt.pbv (h : WkAt w p sv ch gn cn rs ov pv bv lv wk) : ∀ i, bv.ownBlock = some i → i ≠ p := own_ne h.buf h.blk (by decide)
set_option maxRecDepth 100000 in
theorem WkAt.gbv (h : WkAt w p sv ch gn cn rs ov pv bv lv wk) : bv.ownBlock ≠ some gn := own_apart h.rows h.buf (by decide) rfl
set_option maxRecDepth 100000 in
theorem WkAt.all (h : WkAt w p sv ch gn cn rs ov pv bv lv wk) : ∀ k, some k ∈ blocksOf ov lv rs → k < w.heap.size := fun k hk => h.lt k (Or.inr (Or.inr (Or.inr hk)))
set_option maxRecDepth 100000 in
/-- the way's next block stands in its order -/
theorem WkAt.reord {num : Int} (h : WkAt w p sv ch gn cn rs ov pv bv lv wk) (k1 : Keeps (fun i => ov.ownBlock = some i) w W) (o1 : W.ownsRow 0 3 1 v' (wk.order.length + 1) (intV (wk.order ++ [num]))) (r1 : v'.ownBlock = ov.ownBlock ∨ ∀ i, v'.ownBlock = some i → w.heap.size ≤ i) :
    WkAt (W.setCell ⟨p, 3, none⟩ v') p sv ch gn cn rs v' pv bv lv { wk with order := wk.order ++ [num] } ∧ Keeps (Fw p gn bv ov lv rs) w (W.setCell ⟨p, 3, none⟩ v') ∧ ∀ i, Fw p gn bv v' lv rs i → Fw p gn bv ov lv rs i ∨ w.heap.size ≤ i := by
  obtain ⟨f1, f2, f3⟩ := h.far h.ord
  have hB : Blk W p 83 _ := h.blk.keeps k1 (fun e => f1 p e rfl)
  have hap := h.apart
  have a0 : ∀ j, j ≠ 0 → ∀ i, ov.ownBlock = some i → (blocksOf ov lv rs)[j]? ≠ some (some i) := fun j hj i hi => hap 0 j i (fun e => hj e.symm) (by rw [← hi]; rfl)
  have o1' : W.ownsRow 0 3 1 v' (wk.order ++ [num]).length (intV (wk.order ++ [num])) := by rw [List.length_append]; exact o1
  have farp : ∀ i, v'.ownBlock = some i → i ≠ p := own_ne o1 hB (by decide)
  have kk : Keeps (fun j => j = p) W (W.setCell ⟨p, 3, none⟩ v') := (Keeps.refl (fun j => j = p) W).put (g := p) (Or.inl rfl) 3 v'
  have nrow : ∀ (l : Nat) (v : Value), rs[l]? = some v → ∀ i, v.ownBlock = some i → ov.ownBlock ≠ some i := fun l v hl i hi ho => a0 (l + 2) (by omega) i ho (by show (rs.map Value.ownBlock)[l]? = _; rw [List.getElem?_map, hl, Option.map_some, hi])
  have nlow : ∀ i, lv.ownBlock = some i → ov.ownBlock ≠ some i := fun i hi ho => a0 1 (by omega) i ho (by show some lv.ownBlock = _; rw [hi])
  refine ⟨⟨hB.put 3 v', h.hp, own_keeps (own_keeps h.rows k1 (fun j e => by injection e with e; subst e; exact fun q => f2 _ q rfl)) kk (fun j e he => h.pgn (by injection e with e; exact e.trans he)), h.rlen, fun l v L hl hL => ?_, own_keeps o1' kk (fun j e => farp j e),
    own_keeps (own_keeps h.buf k1 (fun j e q => f3 j q e)) kk (fun j e => h.pbv j e), own_keeps (own_keeps h.low k1 nlow) kk (fun j e => (h.far h.low).1 j e), ?_⟩, ?_, fun i hi => ?_⟩
  · have ho := h.nums l v L hl hL
    exact own_keeps (own_keeps ho k1 (nrow l v hl)) kk (fun j e => (h.far ho).1 j e)
  · have := hap.set (i := 0) (n := w.heap.size) (o := v'.ownBlock) h.all (r1.imp (fun e => by rw [e]; rfl) id)
    exact this
  · exact (k1.mono (fun i e => Or.inr (Or.inr (Or.inr (e ▸ List.mem_cons_self))))).same (kk.mono fun i e => Or.inl e)
  · rcases hi with hi | hi | hi | hi
    · exact Or.inl (Or.inl hi)
    · exact Or.inl (Or.inr (Or.inl hi))
    · exact Or.inl (Or.inr (Or.inr (Or.inl hi)))
    · rcases List.mem_cons.1 hi with hi | hi
      · rcases r1 with q | q
        · rw [q] at hi
          exact Or.inl (Or.inr (Or.inr (Or.inr (hi ▸ List.mem_cons_self))))
        · exact Or.inr (q i hi.symm)
      · exact Or.inl (Or.inr (Or.inr (Or.inr (List.mem_cons_of_mem _ hi))))
set_option maxRecDepth 100000 in
/-- .. and in its level -/
theorem WkAt.renum {num : Int} {l : Nat} {v : Value} {L : List Int} (h : WkAt w p sv ch gn cn rs ov pv bv lv wk) (hl : rs[l]? = some v) (hL : wk.nums[l]? = some L) (k1 : Keeps (fun i => v.ownBlock = some i) w W) (o1 : W.ownsRow 0 3 1 v' (L.length + 1) (intV (L ++ [num])))
    (r1 : v'.ownBlock = v.ownBlock ∨ ∀ i, v'.ownBlock = some i → w.heap.size ≤ i) :
    WkAt (W.setCell ⟨gn, l, none⟩ v') p sv ch gn cn (rs.set l v') ov pv bv lv { wk with nums := wk.nums.set l (L ++ [num]) } ∧ Keeps (Fw p gn bv ov lv rs) w (W.setCell ⟨gn, l, none⟩ v') ∧ ∀ i, Fw p gn bv ov lv (rs.set l v') i → Fw p gn bv ov lv rs i ∨ w.heap.size ≤ i := by
  have hv := h.nums l v L hl hL
  obtain ⟨f1, f2, f3⟩ := h.far hv
  have hap := h.apart
  have hll : (blocksOf ov lv rs)[l + 2]? = some v.ownBlock := by show (rs.map Value.ownBlock)[l]? = _; rw [List.getElem?_map, hl]; rfl
  have a0 : ∀ j, j ≠ l + 2 → ∀ i, v.ownBlock = some i → (blocksOf ov lv rs)[j]? ≠ some (some i) := fun j hj i hi => hap (l + 2) j i (fun e => hj e.symm) (by rw [hll, hi])
  have hR : W.ownsRow 0 41 1 (.slice (some ⟨gn, 0, none⟩) rs.length cn) rs.length rs := own_keeps h.rows k1 (fun j e => by injection e with e; subst e; exact fun q => f2 _ q rfl)
  obtain ⟨hR2, _⟩ := own_put (i := l) (u := v') hR
  have kk : Keeps (fun j => j = gn) W (W.setCell ⟨gn, l, none⟩ v') := (Keeps.refl (fun j => j = gn) W).put (g := gn) (Or.inl rfl) l v'
  have farg : ∀ i, v'.ownBlock = some i → i ≠ gn := fun i hi e => own_apart o1 hR (by decide) hi (by rw [e]; rfl)
  refine ⟨⟨?_, h.hp, by rw [List.length_set]; exact hR2, by rw [List.length_set, List.length_set]; exact h.rlen, fun j u M hj hM => ?_, ?_, ?_, ?_, ?_⟩, ?_, fun i hi => ?_⟩
  · rw [List.length_set]
    exact (h.blk.keeps k1 (fun e => f1 p e rfl)).keeps kk (fun e => h.pgn e.symm)
  · rw [List.getElem?_set] at hj hM
    by_cases hjl : l = j
    · rw [if_pos hjl] at hj hM
      split at hj
      · split at hM
        · injection hj with hj
          injection hM with hM
          subst hj
          subst hM
          rw [List.length_append]
          exact own_keeps o1 kk farg
        · cases hM
      · cases hj
    · rw [if_neg hjl] at hj hM
      have ho := h.nums j u M hj hM
      exact own_keeps (own_keeps ho k1 (fun i hi hv2 => a0 (j + 2) (by omega) i hv2 (by show (rs.map Value.ownBlock)[j]? = _; rw [List.getElem?_map, hj, Option.map_some, hi]))) kk (fun i hi => (h.far ho).2.1 i hi)
  · exact own_keeps (own_keeps h.ord k1 (fun i hi hv2 => a0 0 (by omega) i hv2 (by show some ov.ownBlock = _; rw [hi]))) kk (fun i hi => (h.far h.ord).2.1 i hi)
  · exact own_keeps (own_keeps h.buf k1 (fun i hi q => f3 i q hi)) kk (fun i hi e => h.gbv (by rw [← e]; exact hi))
  · exact own_keeps (own_keeps h.low k1 (fun i hi hv2 => a0 1 (by omega) i hv2 (by show some lv.ownBlock = _; rw [hi]))) kk (fun i hi => (h.far h.low).2.1 i hi)
  · have := hap.set (i := l + 2) (n := w.heap.size) (o := v'.ownBlock) h.all (r1.imp (fun e => by rw [e]; exact hll) id)
    have e : blocksOf ov lv (rs.set l v') = (blocksOf ov lv rs).set (l + 2) v'.ownBlock := by
      unfold blocksOf
      rw [List.map_set]
      rfl
    rw [e]
    exact this
  · exact (k1.mono (fun i e => Or.inr (Or.inr (Or.inr (e ▸ mem_rows hl))))).same (kk.mono fun i e => Or.inr (Or.inl e))
  · rcases hi with hi | hi | hi | hi
    · exact Or.inl (Or.inl hi)
    · exact Or.inl (Or.inr (Or.inl hi))
    · exact Or.inl (Or.inr (Or.inr (Or.inl hi)))
    · unfold blocksOf at hi
      rcases List.mem_cons.1 hi with hi | hi
      · exact Or.inl (Or.inr (Or.inr (Or.inr (hi ▸ List.mem_cons_self))))
      · rcases List.mem_cons.1 hi with hi | hi
        · exact Or.inl (Or.inr (Or.inr (Or.inr (hi ▸ List.mem_cons_of_mem _ List.mem_cons_self))))
        · obtain ⟨u, hu, e⟩ := List.mem_map.1 hi
          rcases List.mem_or_eq_of_mem_set hu with hu | hu
          · obtain ⟨j, hj⟩ := List.mem_iff_getElem?.1 hu
            exact Or.inl (Or.inr (Or.inr (Or.inr (e ▸ mem_rows hj))))
          · subst hu
            rcases r1 with q | q
            · rw [q] at e
              exact Or.inl (Or.inr (Or.inr (Or.inr (e ▸ mem_rows hl))))
            · exact Or.inr (q i e)
set_option maxRecDepth 100000 in
/-- how many bytes are to come -/
theorem WkAt.releft (h : WkAt w p sv ch gn cn rs ov pv bv lv wk) (x : Nat) : WkAt (w.setCell ⟨p, 6, none⟩ (.int .i64 (x : Int))) p sv ch gn cn rs ov pv bv lv { wk with left := x } ∧ Keeps (Fw p gn bv ov lv rs) w (w.setCell ⟨p, 6, none⟩ (.int .i64 (x : Int))) := by
  have kk : Keeps (fun j => j = p) w (w.setCell ⟨p, 6, none⟩ (.int .i64 (x : Int))) := (Keeps.refl (fun j => j = p) w).put (g := p) (Or.inl rfl) 6 _
  exact ⟨⟨h.blk.put 6 _, h.hp, own_keeps h.rows kk (fun j e he => h.pgn (by injection e with e; exact e.trans he)), h.rlen, fun l v L hl hL => own_keeps (h.nums l v L hl hL) kk (fun j e => (h.far (h.nums l v L hl hL)).1 j e),
    own_keeps h.ord kk (fun j e => (h.far h.ord).1 j e), own_keeps h.buf kk (fun j e => h.pbv j e), own_keeps h.low kk (fun j e => (h.far h.low).1 j e), h.apart⟩, kk.mono fun i e => Or.inl e⟩
set_option maxRecDepth 100000 in
/-- a chunk was written to its bytes -/
theorem WkAt.redata {s : ByteArray} (h : WkAt w p sv ch gn cn rs ov pv bv lv wk) (hB : Blk w' p 83 (wkc sv ch (.slice (some ⟨gn, 0, none⟩) rs.length cn) ov (.pointer (some ⟨p, 4, none⟩)) v' lv wk.left)) (o1 : w'.ownsRow 0 5 1 v' (wk.data ++ s).size (Lib.strCells (wk.data ++ s)))
    (k1 : Keeps (fun i => i = p ∨ bv.ownBlock = some i) w w') (r1 : ∀ i, v'.ownBlock = some i → bv.ownBlock = some i ∨ w.heap.size ≤ i) :
    WkAt w' p sv ch gn cn rs ov (.pointer (some ⟨p, 4, none⟩)) v' lv { wk with data := wk.data ++ s } ∧ Keeps (Fw p gn bv ov lv rs) w w' ∧ ∀ i, Fw p gn v' ov lv rs i → Fw p gn bv ov lv rs i ∨ w.heap.size ≤ i := by
  refine ⟨⟨hB, Or.inr rfl, own_keeps h.rows k1 (fun j e he => ?_), h.rlen, fun l v L hl hL => own_keeps (h.nums l v L hl hL) k1 (fun j e he => ?_), own_keeps h.ord k1 (fun j e he => ?_), o1, own_keeps h.low k1 (fun j e he => ?_), h.apart⟩, k1.mono (fun i hi => hi.imp id fun e => Or.inr (Or.inl e)), fun i hi => ?_⟩
  · have e1 : gn = j := by injection e
    rcases he with he | he
    · exact h.pgn (e1.trans he)
    · exact h.gbv (by rw [e1]; exact he)
  · rcases he with he | he
    · exact (h.far (h.nums l v L hl hL)).1 j e he
    · exact (h.far (h.nums l v L hl hL)).2.2 j e he
  · rcases he with he | he
    · exact (h.far h.ord).1 j e he
    · exact (h.far h.ord).2.2 j e he
  · rcases he with he | he
    · exact (h.far h.low).1 j e he
    · exact (h.far h.low).2.2 j e he
  · rcases hi with hi | hi | hi | hi
    · exact Or.inl (Or.inl hi)
    · exact Or.inl (Or.inr (Or.inl hi))
    · exact (r1 i hi).imp (fun e => Or.inr (Or.inr (Or.inl e))) id
    · exact Or.inl (Or.inr (Or.inr (Or.inr hi)))
set_option maxRecDepth 100000 in
theorem natsV_set (l : List Nat) (i x : Nat) : (natsV l).set i (.int .i64 (x : Int)) = natsV (l.set i x) := by
  unfold natsV
  rw [List.map_set]
set_option maxRecDepth 100000 in
/-- how many blocks of a level were not met yet -/
theorem WkAt.relow {gl cl l : Nat} (h : WkAt w p sv ch gn cn rs ov pv bv (.slice (some ⟨gl, 0, none⟩) wk.below.length cl) wk) (x : Nat) :
    WkAt (w.setCell ⟨gl, l, none⟩ (.int .i64 (x : Int))) p sv ch gn cn rs ov pv bv (.slice (some ⟨gl, 0, none⟩) wk.below.length cl) { wk with below := wk.below.set l x } ∧ Keeps (Fw p gn bv ov (.slice (some ⟨gl, 0, none⟩) wk.below.length cl) rs) w (w.setCell ⟨gl, l, none⟩ (.int .i64 (x : Int))) := by
  have kk : Keeps (fun j => j = gl) w (w.setCell ⟨gl, l, none⟩ (.int .i64 (x : Int))) := (Keeps.refl (fun j => j = gl) w).put (g := gl) (Or.inl rfl) l _
  obtain ⟨f1, f2, f3⟩ := h.far h.low
  have hap := h.apart
  have a1 : ∀ j, j ≠ 1 → (blocksOf ov (.slice (some ⟨gl, 0, none⟩) wk.below.length cl) rs)[j]? ≠ some (some gl) := fun j hj => hap 1 j gl (fun e => hj e.symm) rfl
  obtain ⟨o2, _⟩ := own_put (i := l) (u := .int .i64 (x : Int)) h.low
  rw [natsV_set] at o2
  refine ⟨⟨h.blk.keeps kk (fun e => f1 gl rfl e.symm), h.hp, own_keeps h.rows kk (fun j e he => f2 gl rfl (by injection e with e; exact (e.trans he).symm)), h.rlen, fun j v L hl hL => own_keeps (h.nums j v L hl hL) kk (fun i e he => ?_), own_keeps h.ord kk (fun i e he => ?_), own_keeps h.buf kk (fun i e he => f3 gl rfl (by rw [← he]; exact e)), ?_, h.apart⟩, kk.mono fun i e => Or.inr (Or.inr (Or.inr ?_))⟩
  · exact a1 (j + 2) (by omega) (by show (rs.map Value.ownBlock)[j]? = _; rw [List.getElem?_map, hl, Option.map_some, e, he])
  · exact a1 0 (by omega) (by show some ov.ownBlock = _; rw [e, he])
  · show (w.setCell ⟨gl, l, none⟩ (.int .i64 (x : Int))).ownsRow 0 3 1 _ (wk.below.set l x).length _
    rw [List.length_set]
    exact o2
  · rw [e]
    exact List.mem_cons_of_mem _ List.mem_cons_self
end
end Go.Proofs.YtajlfmnjibgbaaaGreatDoor.Tr
/- A way through a tree beside its volume: its steps; what holds of its numbers. -/
namespace Go.Proofs.YtajlfmnjibgbaaaGreatDoor.Tr
open Go Go.RowKit Go.Maps Mem Disk Nv Vl
section
variable {X Y Y' : Nat → Prop} {N m : Nat} {w w' : World} {a : Nat} {f : Rd}
set_option maxRecDepth 100000 in
/-- blocks of X turn, new ones come, X grows by some of these -/
theorem IsV.step (h : IsV Y N m w a f) (hk : Keeps Y w w') (hY : ∀ i, Y' i → Y i ∨ (w.heap.size ≤ i ∧ i < w'.heap.size)) : IsV Y' N m w' a f := by
  obtain ⟨b, v, d, cur, ⟨⟨⟨F, h1, h2⟩, h3, h4⟩, h5, h6, h7, h8⟩, rfl⟩ := h
  refine ⟨b, v, d, cur, ⟨⟨⟨F, h1.keeps hk h2, fun i hi hy => ?_⟩, fun i hi => ?_, h4⟩, h5, h6, h7, h8⟩, rfl⟩
  · have hlt := h1.lt i hi
    rcases hY i hy with q | q
    · exact h2 i hi q
    · omega
  · rcases hY i hi with q | q
    · exact Nat.lt_of_lt_of_le (h3 i q) hk.size
    · exact q.2
end
/-- the source, as an interface's value -/
def srcV (a : Nat) : Value := .iface 23 (.pointer (some ⟨a, 0, none⟩))
/-- a way at p beside its volume at a; X: the blocks that stay -/
def TW (X : Nat → Prop) (N m : Nat) (w : World) (p a : Nat) (ch : Bool) (wk : Wk) (f : Rd) : Prop :=
  ∃ gn cn rs ov pv bv lv, WkAt w p (srcV a) ch gn cn rs ov pv bv lv wk ∧ (∀ i, Fw p gn bv ov lv rs i → ¬ X i) ∧ IsV (fun i => X i ∨ Fw p gn bv ov lv rs i) N m w a f
section
variable {X Y : Nat → Prop} {N m : Nat} {w w' : World} {p a gn cn gn' cn' : Nat} {ch : Bool} {wk wk' : Wk} {f : Rd} {rs rs' : List Value} {ov pv bv lv ov' pv' bv' lv' : Value}
set_option maxRecDepth 100000 in
/-- the way's own blocks turn -/
theorem tw_step (hF : ∀ i, Fw p gn bv ov lv rs i → ¬ X i) (hv : IsV (fun i => X i ∨ Fw p gn bv ov lv rs i) N m w a f) (h' : WkAt w' p (srcV a) ch gn' cn' rs' ov' pv' bv' lv' wk') (k : Keeps (Fw p gn bv ov lv rs) w w')
    (hn : ∀ i, Fw p gn' bv' ov' lv' rs' i → Fw p gn bv ov lv rs i ∨ w.heap.size ≤ i) : TW X N m w' p a ch wk' f ∧ KeepX X w w' := by
  refine ⟨⟨gn', cn', rs', ov', pv', bv', lv', h', fun i hi hx => ?_, hv.step (k.mono fun i hi => Or.inr hi) fun i hi => ?_⟩, k.mono hF⟩
  · rcases hn i hi with q | q
    · exact hF i q hx
    · have := hv.xlt i (Or.inl hx)
      omega
  · rcases hi with hi | hi
    · exact Or.inl (Or.inl hi)
    · exact (hn i hi).imp Or.inr fun q => ⟨q, h'.lt i hi⟩
set_option maxRecDepth 100000 in
theorem TW.also (h : TW X N m w p a ch wk f) (hb : Below w.heap.size w w') (hY : ∀ i, Y i → X i ∨ (w.heap.size ≤ i ∧ i < w'.heap.size)) : TW Y N m w' p a ch wk f := by
  obtain ⟨gn, cn, rs, ov, pv, bv, lv, h1, h2, h3⟩ := h
  refine ⟨gn, cn, rs, ov, pv, bv, lv, h1.below hb, fun i hi hy => ?_, h3.also hb fun i hi => ?_⟩
  · have := h1.lt i hi
    rcases hY i hy with q | q
    · exact h2 i hi q
    · omega
  · rcases hi with hi | hi
    · exact (hY i hi).imp Or.inl id
    · exact Or.inl (Or.inr hi)
set_option maxRecDepth 100000 in
theorem TW.below (h : TW X N m w p a ch wk f) (hb : Below w.heap.size w w') : TW X N m w' p a ch wk f := h.also hb fun _ hi => Or.inl hi
set_option maxRecDepth 100000 in
theorem TW.sub (h : TW X N m w p a ch wk f) (hY : ∀ i, Y i → X i) : TW Y N m w p a ch wk f := h.also (Below.refl _ _) fun i hi => Or.inl (hY i hi)
set_option maxRecDepth 100000 in
theorem TW.xlt (h : TW X N m w p a ch wk f) : ∀ i, X i → i < w.heap.size := by
  obtain ⟨gn, cn, rs, ov, pv, bv, lv, h1, h2, h3⟩ := h
  exact fun i hi => h3.xlt i (Or.inl hi)
set_option maxRecDepth 100000 in
theorem tw_read (h : TW X N m w p a ch wk f) (n : Int) : Calls Tryz.prog 160 #[.pointer (some ⟨a, 0, none⟩), .int .i64 n] w fun e w' =>
    e = .returned (.tuple #[.string (f n).1, .int .i64 (f n).2]) ∧ TW X N m w' p a ch wk f ∧ KeepX X w w' := by
  obtain ⟨gn, cn, rs, ov, pv, bv, lv, h1, h2, h3⟩ := h
  refine (isv_read h3 n).mono ?_
  rintro e w' ⟨rfl, q1, q2⟩
  exact ⟨rfl, ⟨gn, cn, rs, ov, pv, bv, lv, h1.keeps q2 (fun i hi hn => hn (Or.inr hi)), h2, q1⟩, q2.mono fun i hi hx => hi (Or.inl hx)⟩
set_option maxRecDepth 100000 in
theorem tw_write {s : ByteArray} (h : TW X N m w p a ch wk f) (hs : wk.data.size + s.size ≤ 140737488355328) : Calls Tryz.prog 90 #[.pointer (some ⟨p, 4, none⟩), .string s] w fun e w' =>
    e = .returned (.tuple #[.int .i64 s.size, .nilIface]) ∧ TW X N m w' p a ch { wk with data := wk.data ++ s } f ∧ KeepX X w w' := by
  obtain ⟨gn, cn, rs, ov, pv, bv, lv, h1, h2, h3⟩ := h
  have hl : (Lib.strCells wk.data).length = wk.data.size := Lib.strCells_length _
  refine (Bin.writeString_any 0 (Lib.strCells wk.data) s h1.blk h1.hp (by rw [hl]; exact h1.buf) (fun e => h1.pbv p e rfl) (by rw [hl]; exact hs) (Nat.zero_le _)).mono ?_
  rintro e w' ⟨rfl, v', q1, q2, q3, q4, q5⟩
  have q2' : w'.ownsRow 0 5 1 v' (wk.data ++ s).size (Lib.strCells (wk.data ++ s)) := by
    rw [hl] at q2
    rw [ByteArray.size_append, show Lib.strCells (wk.data ++ s) = Lib.strCells wk.data ++ Lib.strCells s by
      unfold Lib.strCells
      rw [ByteArray.data_append, Array.toList_append, List.map_append]]
    exact q2
  obtain ⟨r1, r2, r3⟩ := h1.redata q1 q2' q4 q5
  exact ⟨rfl, tw_step h2 h3 r1 r2 r3⟩
end
/-! ### its numbers stay small -/
structure Good (B : Nat) (wk : Wk) : Prop where
  order : wk.order.length ≤ B
  nums : ∀ L ∈ wk.nums, L.length ≤ B
  data : wk.data.size + wk.left ≤ 16384
  below : ∀ b ∈ wk.below, b ≤ 16384
/-- how many blocks a block of a level has below it, at most, and itself -/
def most : Nat → Nat
  | 0 => 1
  | l + 1 => 1 + 60 * most l
set_option maxRecDepth 100000 in
theorem Good.more {B C : Nat} {wk : Wk} (h : Good B wk) (hc : B ≤ C) : Good C wk := ⟨Nat.le_trans h.order hc, fun L hL => Nat.le_trans (h.nums L hL) hc, h.data, h.below⟩
set_option maxRecDepth 100000 in
theorem Good.enter {B : Nat} {wk : Wk} (h : Good B wk) (num : Int) (l : Nat) : Good (B + 1) (wk.enter num l) := by
  refine ⟨?_, fun L hL => ?_, h.data, h.below⟩
  · show (wk.order ++ [num]).length ≤ _
    rw [List.length_append]
    have := h.order
    simp
    omega
  · rcases List.mem_or_eq_of_mem_set hL with q | q
    · have := h.nums L q
      omega
    · subst q
      rw [List.length_append, List.length_singleton]
      have : (wk.nums.getD l []).length ≤ B := by
        rw [List.getD_eq_getElem?_getD]
        cases hg : wk.nums[l]? with
        | none => simp
        | some M => exact h.nums M (List.mem_of_getElem? hg)
      omega
set_option maxRecDepth 100000 in
theorem Good.set {B : Nat} {wk : Wk} (h : Good B wk) (l x : Nat) (hx : x ≤ 16384) : Good B { wk with below := wk.below.set l x } :=
  ⟨h.order, h.nums, h.data, fun b hb => (List.mem_or_eq_of_mem_set hb).elim (h.below b) (fun e => by rw [e]; exact hx)⟩
set_option maxRecDepth 100000 in
theorem Good.getD {B : Nat} {wk : Wk} (h : Good B wk) (l : Nat) : wk.below.getD l 0 ≤ 16384 := by
  rw [List.getD_eq_getElem?_getD]
  cases hg : wk.below[l]? with
  | none => simp
  | some x => exact h.below x (List.mem_of_getElem? hg)
set_option maxRecDepth 100000 in
theorem visits_good {step : Wk → Int → Wk × Int} {c : Nat} (hs : ∀ B wk num, Good B wk → Good (B + c) (step wk num).1) : ∀ (l : List Int) (B : Nat) (wk : Wk), Good B wk → Good (B + l.length * c) (visits step l wk).1
  | [], B, wk, h => h.more (Nat.le_add_right _ _)
  | n :: l, B, wk, h => by
    have h1 := hs B wk n h
    unfold visits
    split
    · refine h1.more ?_
      rw [List.length_cons, Nat.add_mul]
      omega
    · refine (visits_good hs l _ _ h1).more ?_
      rw [List.length_cons, Nat.add_mul]
      omega
set_option maxRecDepth 100000 in
theorem visit_good (rd : Rd) (ch : Bool) : ∀ (l B : Nat) (wk : Wk) (num : Int), Good B wk → Good (B + most l) (visit rd ch l wk num).1
  | 0, B, wk, num, h => by
    have h1 := h.enter num 0
    have hd := h1.data
    unfold visit chunkW
    split
    · exact ⟨h1.order, h1.nums, by show (wk.enter num 0).data.size + ((wk.enter num 0).left - _) ≤ _; omega, h1.below⟩
    · unfold gotW
      split
      · exact ⟨h1.order, h1.nums, by show (wk.enter num 0).data.size + ((wk.enter num 0).left - _) ≤ _; omega, h1.below⟩
      · split
        · exact ⟨h1.order, h1.nums, by show (wk.enter num 0).data.size + ((wk.enter num 0).left - _) ≤ _; omega, h1.below⟩
        · rename_i q
          refine ⟨h1.order, h1.nums, ?_, h1.below⟩
          show ((wk.enter num 0).data ++ (rd num).1).size + ((wk.enter num 0).left - _) ≤ _
          rw [ByteArray.size_append]
          have : (rd num).1.size = min (wk.enter num 0).left 240 := by simpa using q
          omega
  | l + 1, B, wk, num, h => by
    have h1 := h.enter num (l + 1)
    have hm : B + 1 ≤ B + most (l + 1) := by unfold most; omega
    unfold visit nodeW
    split
    · exact h1.more hm
    · split
      · exact h1.more hm
      · rename_i q1 q2
        have hsz : (rd num).1.size = 4 * min ((wk.enter num (l + 1)).below.getD l 0) 60 := by simpa using q2
        have hl : (ptrs (rd num).1).length ≤ 60 := by rw [ptrs_length hsz]; omega
        have h2 := h1.set l ((wk.enter num (l + 1)).below.getD l 0 - min ((wk.enter num (l + 1)).below.getD l 0) 60) (by have := h1.getD l; omega)
        refine (visits_good (fun B wk num h => visit_good rd ch l B wk num h) (ptrs (rd num).1) (B + 1) _ h2).more ?_
        have h3 := Nat.mul_le_mul_right (most l) hl
        rw [show most (l + 1) = 1 + 60 * most l from rfl]
        omega
set_option maxRecDepth 100000 in
theorem visit_lens (rd : Rd) (ch : Bool) : ∀ (l : Nat) (wk : Wk) (num : Int), l < wk.nums.length → (visit rd ch l wk num).1.nums.length = wk.nums.length := fun l wk num h => by
  rw [(visit_grown rd ch l wk num h).len]
  exact List.length_set
set_option maxRecDepth 100000 in
theorem visits_low {step : Wk → Int → Wk × Int} (hs : ∀ wk num, (step wk num).1.below.length = wk.below.length) : ∀ (l : List Int) (wk : Wk), (visits step l wk).1.below.length = wk.below.length
  | [], wk => rfl
  | n :: l, wk => by
    unfold visits
    split
    · exact hs wk n
    · rw [visits_low hs l]
      exact hs wk n
set_option maxRecDepth 100000 in
theorem visit_low (rd : Rd) (ch : Bool) : ∀ (l : Nat) (wk : Wk) (num : Int), (visit rd ch l wk num).1.below.length = wk.below.length
  | 0, wk, num => by
    unfold visit chunkW
    split
    · rfl
    · unfold gotW
      split
      · rfl
      · split <;> rfl
  | l + 1, wk, num => by
    unfold visit nodeW
    split
    · rfl
    · split
      · rfl
      · rw [visits_low fun wk num => visit_low rd ch l wk num]
        exact List.length_set
end Go.Proofs.YtajlfmnjibgbaaaGreatDoor.Tr

/- Rows of eight texts, of eight Bools. -/
import Derived.Test.YtkghlbpkdkonbaaBlkFixed
import Derived.Test.YtkghlbpkdkonbaaBlkGone
import Derived.BigRegion
import Derived.BigQuiet
namespace Go.Proofs.Ytkghlbpkdkonbaa.Vl
open Go Go.RowKit Go.Maps Mem Disk Nv
def hasC (f : Nat → ByteArray) : Array Value := #[.string (f 0), .string (f 1), .string (f 2), .string (f 3), .string (f 4), .string (f 5), .string (f 6), .string (f 7)]
def isC (f : Nat → Bool) : Array Value := #[.bool (f 0), .bool (f 1), .bool (f 2), .bool (f 3), .bool (f 4), .bool (f 5), .bool (f 6), .bool (f 7)]
def setF {α : Type} (f : Nat → α) (n : Nat) (s : α) : Nat → α := fun i => if i = n then s else f i
set_option maxRecDepth 100000 in
theorem setF_same {α : Type} (f : Nat → α) (n : Nat) (s : α) : setF f n s n = s := if_pos rfl
set_option maxRecDepth 100000 in
theorem setF_other {α : Type} {f : Nat → α} {n k : Nat} {s : α} (h : k ≠ n) : setF f n s k = f k := if_neg h
set_option maxRecDepth 100000 in
theorem hasC_get (f : Nat → ByteArray) : ∀ {k : Nat}, k < 8 → (hasC f)[k]? = some (.string (f k))
  | 0, _ => rfl
  | 1, _ => rfl
  | 2, _ => rfl
  | 3, _ => rfl
  | 4, _ => rfl
  | 5, _ => rfl
  | 6, _ => rfl
  | 7, _ => rfl
  | k + 8, h => by omega
set_option maxRecDepth 100000 in
theorem isC_get (f : Nat → Bool) : ∀ {k : Nat}, k < 8 → (isC f)[k]? = some (.bool (f k))
  | 0, _ => rfl
  | 1, _ => rfl
  | 2, _ => rfl
  | 3, _ => rfl
  | 4, _ => rfl
  | 5, _ => rfl
  | 6, _ => rfl
  | 7, _ => rfl
  | k + 8, h => by omega
set_option maxRecDepth 100000 in
theorem hasC_put (f : Nat → ByteArray) (s : ByteArray) : ∀ {n : Nat}, n < 8 → (hasC f).setIfInBounds n (.string s) = hasC (setF f n s)
  | 0, _ => rfl
  | 1, _ => rfl
  | 2, _ => rfl
  | 3, _ => rfl
  | 4, _ => rfl
  | 5, _ => rfl
  | 6, _ => rfl
  | 7, _ => rfl
  | n + 8, h => by omega
set_option maxRecDepth 100000 in
theorem isC_put (f : Nat → Bool) (s : Bool) : ∀ {n : Nat}, n < 8 → (isC f).setIfInBounds n (.bool s) = isC (setF f n s)
  | 0, _ => rfl
  | 1, _ => rfl
  | 2, _ => rfl
  | 3, _ => rfl
  | 4, _ => rfl
  | 5, _ => rfl
  | 6, _ => rfl
  | 7, _ => rfl
  | n + 8, h => by omega
set_option maxRecDepth 100000 in
theorem infoT8 : (Try.prog.info? 9).map (fun i => (i.zero, i.size, i.bytes)) = some (some (.string ⟨#[]⟩), 1, 16) := by kernel_rfl
set_option maxRecDepth 100000 in
theorem infoB8 : (Try.prog.info? 4).map (fun i => (i.zero, i.size, i.bytes)) = some (some (.bool false), 1, 1) := by kernel_rfl
def hasO : Obj := .cells (hasC fun _ => ⟨#[]⟩) 9
def isO : Obj := .cells (isC fun _ => false) 4
set_option maxRecDepth 100000 in
theorem makeT8 (W : World) : (Instr.makeSlice 27 (.int .i64 8) (.int .i64 8)).run Try.prog W = .ok (.slice (some ⟨W.heap.size, 0, none⟩) 8 8) (W.alloc hasO) := by
  obtain ⟨i0, hi, hz0, hz1, hz2⟩ := info_parts infoT8
  have h := run_make (P := Try.prog) (w := W) 27 9 i0 (.string ⟨#[]⟩) Try.underlying27 hi hz0 .i64 .i64 8 8 (by decide) (by decide) (by rw [hz2]; decide) (by decide)
  rw [hz1, show madeCells (Value.string ⟨#[]⟩).cells (Int.toNat 8 * 1) = hasC (fun _ => ⟨#[]⟩) by kernel_rfl] at h
  exact h
set_option maxRecDepth 100000 in
theorem makeB8 (W : World) : (Instr.makeSlice 35 (.int .i64 8) (.int .i64 8)).run Try.prog W = .ok (.slice (some ⟨W.heap.size, 0, none⟩) 8 8) (W.alloc isO) := by
  obtain ⟨i0, hi, hz0, hz1, hz2⟩ := info_parts infoB8
  have h := run_make (P := Try.prog) (w := W) 35 4 i0 (.bool false) Try.underlying35 hi hz0 .i64 .i64 8 8 (by decide) (by decide) (by rw [hz2]; decide) (by decide)
  rw [hz1, show madeCells (Value.bool false).cells (Int.toNat 8 * 1) = isC (fun _ => false) by kernel_rfl] at h
  exact h
end Go.Proofs.Ytkghlbpkdkonbaa.Vl
/- BlockKeeps' notes in memory. -/
namespace Go.Proofs.Ytkghlbpkdkonbaa.Vl
open Go Go.RowKit Go.Maps Mem Disk Nv
def noC (t : ByteArray) (hh hn hs hl : Nat) : Array Value := #[.string t, .slice (some ⟨hh, 0, none⟩) 8 8, .slice (some ⟨hn, 0, none⟩) 8 8, .slice (some ⟨hs, 0, none⟩) 8 8, .slice (some ⟨hl, 0, none⟩) 8 8]
/-- the notes at g, their rows -/
structure Nm (w : World) (g hh hn hs hl : Nat) (n : No) : Prop where
  b : Blk w g 51 (noC n.root hh hn hs hl)
  b1 : Blk w hh 9 (hasC n.has)
  b2 : Blk w hn 9 (hasC n.now)
  b3 : Blk w hs 4 (isC n.sure)
  b4 : Blk w hl 4 (isC n.loose)
  d12 : hh ≠ hn
  d34 : hs ≠ hl
set_option maxRecDepth 100000 in
theorem blk_ne {w : World} {x y : Nat} {s t : TypeId} {xs ys : Array Value} (h : Blk w x s xs) (k : Blk w y t ys) (hn : s ≠ t) : x ≠ y := fun e => by
  rw [e] at h
  have h2 := h.symm.trans k
  injection h2 with h2
  injection h2 with _ h2
  exact hn h2
def isNm (g hh hn hs hl : Nat) (i : Nat) : Prop := i = g ∨ i = hh ∨ i = hn ∨ i = hs ∨ i = hl
def no0 : No := ⟨⟨#[]⟩, fun _ => ⟨#[]⟩, fun _ => ⟨#[]⟩, fun _ => false, fun _ => false⟩
section
variable {w w' : World} {g hh hn hs hl : Nat} {n : No}
set_option maxRecDepth 100000 in
theorem Nm.keeps {K : Nat → Prop} (h : Nm w g hh hn hs hl n) (k : Keeps K w w') (hK : ∀ i, isNm g hh hn hs hl i → ¬ K i) : Nm w' g hh hn hs hl n :=
  ⟨h.b.keeps k (hK _ (Or.inl rfl)), h.b1.keeps k (hK _ (Or.inr (Or.inl rfl))), h.b2.keeps k (hK _ (Or.inr (Or.inr (Or.inl rfl)))), h.b3.keeps k (hK _ (Or.inr (Or.inr (Or.inr (Or.inl rfl))))), h.b4.keeps k (hK _ (Or.inr (Or.inr (Or.inr (Or.inr rfl))))), h.d12, h.d34⟩
set_option maxRecDepth 100000 in
theorem Nm.below (h : Nm w g hh hn hs hl n) (hb : Below w.heap.size w w') : Nm w' g hh hn hs hl n := h.keeps (Keeps.of_below (fun _ => False) hb) (fun _ _ h => h)
set_option maxRecDepth 100000 in
theorem Nm.lt (h : Nm w g hh hn hs hl n) : ∀ i, isNm g hh hn hs hl i → i < w.heap.size := fun i hi => by
  rcases hi with rfl | rfl | rfl | rfl | rfl
  · exact h.b.lt
  · exact h.b1.lt
  · exact h.b2.lt
  · exact h.b3.lt
  · exact h.b4.lt
set_option maxRecDepth 100000 in
theorem Nm.apart (h : Nm w g hh hn hs hl n) : g ≠ hh ∧ g ≠ hn ∧ g ≠ hs ∧ g ≠ hl ∧ hh ≠ hs ∧ hh ≠ hl ∧ hn ≠ hs ∧ hn ≠ hl :=
  ⟨blk_ne h.b h.b1 (by decide), blk_ne h.b h.b2 (by decide), blk_ne h.b h.b3 (by decide), blk_ne h.b h.b4 (by decide), blk_ne h.b1 h.b3 (by decide), blk_ne h.b1 h.b4 (by decide), blk_ne h.b2 h.b3 (by decide), blk_ne h.b2 h.b4 (by decide)⟩
set_option maxRecDepth 100000 in
theorem Nm.cells (h : Nm w g hh hn hs hl n) : w.cell? ⟨g, 0, none⟩ = some (.string n.root) ∧ w.cell? ⟨g, 1, none⟩ = some (.slice (some ⟨hh, 0, none⟩) 8 8) ∧ w.cell? ⟨g, 2, none⟩ = some (.slice (some ⟨hn, 0, none⟩) 8 8) ∧ w.cell? ⟨g, 3, none⟩ = some (.slice (some ⟨hs, 0, none⟩) 8 8) ∧ w.cell? ⟨g, 4, none⟩ = some (.slice (some ⟨hl, 0, none⟩) 8 8) :=
  ⟨h.b.cell 0, h.b.cell 1, h.b.cell 2, h.b.cell 3, h.b.cell 4⟩
set_option maxRecDepth 100000 in
theorem Nm.put0 (h : Nm w g hh hn hs hl n) (t : ByteArray) : Nm (w.setCell ⟨g, 0, none⟩ (.string t)) g hh hn hs hl { n with root := t } := by
  obtain ⟨a1, a2, a3, a4, _⟩ := h.apart
  exact ⟨h.b.put 0 _, h.b1.far (p := ⟨g, 0, none⟩) a1.symm _, h.b2.far (p := ⟨g, 0, none⟩) a2.symm _, h.b3.far (p := ⟨g, 0, none⟩) a3.symm _, h.b4.far (p := ⟨g, 0, none⟩) a4.symm _, h.d12, h.d34⟩
set_option maxRecDepth 100000 in
theorem Nm.put1 (h : Nm w g hh hn hs hl n) {k : Nat} (hk : k < 8) (t : ByteArray) : Nm (w.setCell ⟨hh, k, none⟩ (.string t)) g hh hn hs hl { n with has := setF n.has k t } := by
  obtain ⟨a1, a2, a3, a4, a5, a6, a7, a8⟩ := h.apart
  exact ⟨h.b.far (p := ⟨hh, k, none⟩) a1 _, by have := h.b1.put k (.string t); rwa [hasC_put n.has t hk] at this, h.b2.far (p := ⟨hh, k, none⟩) h.d12.symm _, h.b3.far (p := ⟨hh, k, none⟩) a5.symm _, h.b4.far (p := ⟨hh, k, none⟩) a6.symm _, h.d12, h.d34⟩
set_option maxRecDepth 100000 in
theorem Nm.put2 (h : Nm w g hh hn hs hl n) {k : Nat} (hk : k < 8) (t : ByteArray) : Nm (w.setCell ⟨hn, k, none⟩ (.string t)) g hh hn hs hl { n with now := setF n.now k t } := by
  obtain ⟨a1, a2, a3, a4, a5, a6, a7, a8⟩ := h.apart
  exact ⟨h.b.far (p := ⟨hn, k, none⟩) a2 _, h.b1.far (p := ⟨hn, k, none⟩) h.d12 _, by have := h.b2.put k (.string t); rwa [hasC_put n.now t hk] at this, h.b3.far (p := ⟨hn, k, none⟩) a7.symm _, h.b4.far (p := ⟨hn, k, none⟩) a8.symm _, h.d12, h.d34⟩
set_option maxRecDepth 100000 in
theorem Nm.put3 (h : Nm w g hh hn hs hl n) {k : Nat} (hk : k < 8) (t : Bool) : Nm (w.setCell ⟨hs, k, none⟩ (.bool t)) g hh hn hs hl { n with sure := setF n.sure k t } := by
  obtain ⟨a1, a2, a3, a4, a5, a6, a7, a8⟩ := h.apart
  exact ⟨h.b.far (p := ⟨hs, k, none⟩) a3 _, h.b1.far (p := ⟨hs, k, none⟩) a5 _, h.b2.far (p := ⟨hs, k, none⟩) a7 _, by have := h.b3.put k (.bool t); rwa [isC_put n.sure t hk] at this, h.b4.far (p := ⟨hs, k, none⟩) h.d34.symm _, h.d12, h.d34⟩
set_option maxRecDepth 100000 in
theorem Nm.put4 (h : Nm w g hh hn hs hl n) {k : Nat} (hk : k < 8) (t : Bool) : Nm (w.setCell ⟨hl, k, none⟩ (.bool t)) g hh hn hs hl { n with loose := setF n.loose k t } := by
  obtain ⟨a1, a2, a3, a4, a5, a6, a7, a8⟩ := h.apart
  exact ⟨h.b.far (p := ⟨hl, k, none⟩) a4 _, h.b1.far (p := ⟨hl, k, none⟩) a6 _, h.b2.far (p := ⟨hl, k, none⟩) a8 _, h.b3.far (p := ⟨hl, k, none⟩) h.d34 _, by have := h.b4.put k (.bool t); rwa [isC_put n.loose t hk] at this, h.d12, h.d34⟩
set_option maxRecDepth 100000 in
theorem Nm.eq {n' : No} (h : Nm w g hh hn hs hl n) (e : n = n') : Nm w g hh hn hs hl n' := e ▸ h
set_option maxRecDepth 100000 in
theorem countTo_one (n : No) (t : ByteArray) : countTo n t 1 = { n with root := t } := by
  have e : ∀ k, ¬ (1 ≤ k ∧ k < 1) := fun k h => by omega
  unfold countTo
  congr 1
  · funext k; exact if_neg (fun h => e k ⟨h.1, h.2.1⟩)
  · funext k; exact if_neg (fun h => e k ⟨h.1, h.2.1⟩)
  · funext k; exact if_neg (e k)
set_option maxRecDepth 100000 in
theorem lostTo_one (n : No) : lostTo n 1 = n := by
  have e : ∀ k, ¬ (1 ≤ k ∧ k < 1) := fun k h => by omega
  unfold lostTo
  obtain ⟨a, b, c, d, f⟩ := n
  congr 1
  · funext k; exact if_neg (fun h => e k ⟨h.1, h.2.1⟩)
  · funext k; exact if_neg (e k)
set_option maxRecDepth 100000 in
theorem countTo_at (n : No) (t : ByteArray) (k : Nat) : (countTo n t k).loose k = n.loose k ∧ (countTo n t k).now k = n.now k := ⟨if_neg (by omega), rfl⟩
set_option maxRecDepth 100000 in
theorem lostTo_at (n : No) (k : Nat) : (lostTo n k).loose k = n.loose k ∧ (lostTo n k).sure k = n.sure k := ⟨if_neg (by omega), if_neg (by omega)⟩
set_option maxRecDepth 100000 in
theorem countTo_no (n : No) (t : ByteArray) {k : Nat} (hl : n.loose k = false) : countTo n t (k + 1) = countTo n t k := by
  unfold countTo
  congr 1
  · funext i
    by_cases e : i = k
    · subst e; rw [if_neg (by rw [hl]; simp), if_neg (by omega)]
    · simp only [show (i < k + 1) ↔ (i < k) by omega]
  · funext i
    by_cases e : i = k
    · subst e; rw [if_neg (by rw [hl]; simp), if_neg (by omega)]
    · simp only [show (i < k + 1) ↔ (i < k) by omega]
  · funext i
    by_cases e : i = k
    · subst e
      rw [if_neg (show ¬ (1 ≤ i ∧ i < i) by omega)]
      split
      · exact hl.symm
      · rfl
    · simp only [show (i < k + 1) ↔ (i < k) by omega]
set_option maxRecDepth 100000 in
theorem countTo_yes (n : No) (t : ByteArray) {k : Nat} (hk : 1 ≤ k) (hl : n.loose k = true) : countTo n t (k + 1) = { countTo n t k with has := setF (countTo n t k).has k (n.now k), sure := setF (countTo n t k).sure k true, loose := setF (countTo n t k).loose k false } := by
  unfold countTo setF
  congr 1
  · funext i
    by_cases e : i = k
    · subst e; rw [if_pos ⟨hk, by omega, hl⟩, if_pos rfl]
    · rw [if_neg e]; simp only [show (i < k + 1) ↔ (i < k) by omega]
  · funext i
    by_cases e : i = k
    · subst e; rw [if_pos ⟨hk, by omega, hl⟩, if_pos rfl]
    · rw [if_neg e]; simp only [show (i < k + 1) ↔ (i < k) by omega]
  · funext i
    by_cases e : i = k
    · subst e; rw [if_pos ⟨hk, by omega⟩, if_pos rfl]
    · rw [if_neg e]; simp only [show (i < k + 1) ↔ (i < k) by omega]
set_option maxRecDepth 100000 in
theorem lostTo_no (n : No) {k : Nat} (hl : n.loose k = false) : lostTo n (k + 1) = lostTo n k := by
  unfold lostTo
  congr 1
  · funext i
    by_cases e : i = k
    · subst e; rw [if_neg (by rw [hl]; simp), if_neg (by omega)]
    · simp only [show (i < k + 1) ↔ (i < k) by omega]
  · funext i
    by_cases e : i = k
    · subst e
      rw [if_neg (show ¬ (1 ≤ i ∧ i < i) by omega)]
      split
      · exact hl.symm
      · rfl
    · simp only [show (i < k + 1) ↔ (i < k) by omega]
set_option maxRecDepth 100000 in
theorem lostTo_yes (n : No) {k : Nat} (hk : 1 ≤ k) (hl : n.loose k = true) : lostTo n (k + 1) = { lostTo n k with sure := setF (lostTo n k).sure k false, loose := setF (lostTo n k).loose k false } := by
  unfold lostTo setF
  congr 1
  · funext i
    by_cases e : i = k
    · subst e; rw [if_pos ⟨hk, by omega, hl⟩, if_pos rfl]
    · rw [if_neg e]; simp only [show (i < k + 1) ↔ (i < k) by omega]
  · funext i
    by_cases e : i = k
    · subst e; rw [if_pos ⟨hk, by omega⟩, if_pos rfl]
    · rw [if_neg e]; simp only [show (i < k + 1) ↔ (i < k) by omega]
end
end Go.Proofs.Ytkghlbpkdkonbaa.Vl
/- BlockKeeps' notes: newNotes. (gen_notes.py) -/
namespace Go.Proofs.Ytkghlbpkdkonbaa.Vl
open Go Go.RowKit Go.Maps Mem Disk Nv
set_option maxRecDepth 100000 in
theorem pushSize_ (w : World) (o : Obj) : (w.alloc o).heap.size = w.heap.size + 1 := by show (w.heap.push o).size = _; exact Array.size_push _
set_option maxRecDepth 100000 in
theorem pushAt (w : World) (n : Nat) (o : Obj) (h : w.heap.size = n) : (w.alloc o).heap[n]? = some o := by
  have := heap_alloc_new w o
  rwa [h] at this
def NewPost (B : World) (v : Value) (w' : World) : Prop := ∃ g hh hn hs hl, v = .pointer (some ⟨g, 0, none⟩) ∧ Nm w' g hh hn hs hl no0 ∧ (∀ i, isNm g hh hn hs hl i → B.heap.size ≤ i) ∧ Below B.heap.size B w'
set_option maxRecDepth 100000 in
theorem new_leaf {B W : World} (hb : Below B.heap.size B W) {a1 a2 a3 a4 : Nat} (b1 : Blk W a1 9 (hasC fun _ => ⟨#[]⟩)) (b2 : Blk W a2 9 (hasC fun _ => ⟨#[]⟩)) (b3 : Blk W a3 4 (isC fun _ => false)) (b4 : Blk W a4 4 (isC fun _ => false)) (h1 : B.heap.size ≤ a1 ∧ B.heap.size ≤ a2 ∧ B.heap.size ≤ a3 ∧ B.heap.size ≤ a4 ∧ a1 ≠ a2 ∧ a3 ≠ a4) {g : Nat} (hg : W.heap.size = g) :
    NewPost B (.pointer (some ⟨g, 0, none⟩)) (W.alloc (.cells (noC ⟨#[]⟩ a1 a2 a3 a4) 51)).drew := by
  obtain ⟨q1, q2, q3, q4, q5, q6⟩ := h1
  subst hg
  refine ⟨W.heap.size, a1, a2, a3, a4, rfl, ⟨Blk.new W _ _, b1.alloc _, b2.alloc _, b3.alloc _, b4.alloc _, q5, q6⟩, fun i hi => ?_, (hb.alloc hb.size _).drew⟩
  have := hb.size
  rcases hi with rfl | rfl | rfl | rfl | rfl <;> omega
set_option maxRecDepth 100000 in
set_option maxHeartbeats 32000000 in
theorem newnotes_any (w : World) : Calls Try.prog 19 #[] w fun e w' => ∃ v, e = .returned v ∧ NewPost w v w' := by
  have MH := makeT8 w.drew
  have MI := makeB8 w.drew
  have MHH := makeT8 (w.alloc hasO).drew
  rw [show (w.alloc hasO).drew.heap.size = w.heap.size + 1 by show (w.alloc hasO).heap.size = _; simp only [pushSize_]] at MHH
  have MIH := makeB8 (w.alloc hasO).drew
  rw [show (w.alloc hasO).drew.heap.size = w.heap.size + 1 by show (w.alloc hasO).heap.size = _; simp only [pushSize_]] at MIH
  have MHI := makeT8 (w.alloc isO).drew
  rw [show (w.alloc isO).drew.heap.size = w.heap.size + 1 by show (w.alloc isO).heap.size = _; simp only [pushSize_]] at MHI
  have MII := makeB8 (w.alloc isO).drew
  rw [show (w.alloc isO).drew.heap.size = w.heap.size + 1 by show (w.alloc isO).heap.size = _; simp only [pushSize_]] at MII
  have MIHH := makeB8 ((w.alloc hasO).alloc hasO).drew
  rw [show ((w.alloc hasO).alloc hasO).drew.heap.size = w.heap.size + 2 by show ((w.alloc hasO).alloc hasO).heap.size = _; simp only [pushSize_]] at MIHH
  have MHHI := makeT8 ((w.alloc hasO).alloc isO).drew
  rw [show ((w.alloc hasO).alloc isO).drew.heap.size = w.heap.size + 2 by show ((w.alloc hasO).alloc isO).heap.size = _; simp only [pushSize_]] at MHHI
  have MIHI := makeB8 ((w.alloc hasO).alloc isO).drew
  rw [show ((w.alloc hasO).alloc isO).drew.heap.size = w.heap.size + 2 by show ((w.alloc hasO).alloc isO).heap.size = _; simp only [pushSize_]] at MIHI
  have MHIH := makeT8 ((w.alloc isO).alloc hasO).drew
  rw [show ((w.alloc isO).alloc hasO).drew.heap.size = w.heap.size + 2 by show ((w.alloc isO).alloc hasO).heap.size = _; simp only [pushSize_]] at MHIH
  have MIIH := makeB8 ((w.alloc isO).alloc hasO).drew
  rw [show ((w.alloc isO).alloc hasO).drew.heap.size = w.heap.size + 2 by show ((w.alloc isO).alloc hasO).heap.size = _; simp only [pushSize_]] at MIIH
  have MHII := makeT8 ((w.alloc isO).alloc isO).drew
  rw [show ((w.alloc isO).alloc isO).drew.heap.size = w.heap.size + 2 by show ((w.alloc isO).alloc isO).heap.size = _; simp only [pushSize_]] at MHII
  have MIHHI := makeB8 (((w.alloc hasO).alloc hasO).alloc isO).drew
  rw [show (((w.alloc hasO).alloc hasO).alloc isO).drew.heap.size = w.heap.size + 3 by show (((w.alloc hasO).alloc hasO).alloc isO).heap.size = _; simp only [pushSize_]] at MIHHI
  have MIHIH := makeB8 (((w.alloc hasO).alloc isO).alloc hasO).drew
  rw [show (((w.alloc hasO).alloc isO).alloc hasO).drew.heap.size = w.heap.size + 3 by show (((w.alloc hasO).alloc isO).alloc hasO).heap.size = _; simp only [pushSize_]] at MIHIH
  have MHHII := makeT8 (((w.alloc hasO).alloc isO).alloc isO).drew
  rw [show (((w.alloc hasO).alloc isO).alloc isO).drew.heap.size = w.heap.size + 3 by show (((w.alloc hasO).alloc isO).alloc isO).heap.size = _; simp only [pushSize_]] at MHHII
  have MIIHH := makeB8 (((w.alloc isO).alloc hasO).alloc hasO).drew
  rw [show (((w.alloc isO).alloc hasO).alloc hasO).drew.heap.size = w.heap.size + 3 by show (((w.alloc isO).alloc hasO).alloc hasO).heap.size = _; simp only [pushSize_]] at MIIHH
  have MHIHI := makeT8 (((w.alloc isO).alloc hasO).alloc isO).drew
  rw [show (((w.alloc isO).alloc hasO).alloc isO).drew.heap.size = w.heap.size + 3 by show (((w.alloc isO).alloc hasO).alloc isO).heap.size = _; simp only [pushSize_]] at MHIHI
  have MHIIH := makeT8 (((w.alloc isO).alloc isO).alloc hasO).drew
  rw [show (((w.alloc isO).alloc isO).alloc hasO).drew.heap.size = w.heap.size + 3 by show (((w.alloc isO).alloc isO).alloc hasO).heap.size = _; simp only [pushSize_]] at MHIIH
  have BHHII := Lib.hid (show Below w.heap.size w ((((w.alloc hasO).alloc hasO).alloc isO).alloc isO) from ((((Below.refl _ w).alloc (Nat.le_refl _) hasO).alloc (by simp only [pushSize_]; omega) hasO).alloc (by simp only [pushSize_]; omega) isO).alloc (by simp only [pushSize_]; omega) isO)
  have SHHII := Lib.hid (show ((((w.alloc hasO).alloc hasO).alloc isO).alloc isO).heap.size = w.heap.size + 4 by simp only [pushSize_])
  have LHHII0 : Blk ((((w.alloc hasO).alloc hasO).alloc isO).alloc isO) (w.heap.size) 9 (hasC fun _ => ⟨#[]⟩) := Blk.alloc (Blk.alloc (Blk.alloc (pushAt w _ _ (rfl)) _) _) _
  have LHHII1 : Blk ((((w.alloc hasO).alloc hasO).alloc isO).alloc isO) (w.heap.size + 1) 9 (hasC fun _ => ⟨#[]⟩) := Blk.alloc (Blk.alloc (pushAt (w.alloc hasO) _ _ (by simp only [pushSize_])) _) _
  have LHHII2 : Blk ((((w.alloc hasO).alloc hasO).alloc isO).alloc isO) (w.heap.size + 2) 4 (isC fun _ => false) := Blk.alloc (pushAt ((w.alloc hasO).alloc hasO) _ _ (by simp only [pushSize_])) _
  have LHHII3 : Blk ((((w.alloc hasO).alloc hasO).alloc isO).alloc isO) (w.heap.size + 3) 4 (isC fun _ => false) := pushAt (((w.alloc hasO).alloc hasO).alloc isO) _ _ (by simp only [pushSize_])
  have BHIHI := Lib.hid (show Below w.heap.size w ((((w.alloc hasO).alloc isO).alloc hasO).alloc isO) from ((((Below.refl _ w).alloc (Nat.le_refl _) hasO).alloc (by simp only [pushSize_]; omega) isO).alloc (by simp only [pushSize_]; omega) hasO).alloc (by simp only [pushSize_]; omega) isO)
  have SHIHI := Lib.hid (show ((((w.alloc hasO).alloc isO).alloc hasO).alloc isO).heap.size = w.heap.size + 4 by simp only [pushSize_])
  have LHIHI0 : Blk ((((w.alloc hasO).alloc isO).alloc hasO).alloc isO) (w.heap.size) 9 (hasC fun _ => ⟨#[]⟩) := Blk.alloc (Blk.alloc (Blk.alloc (pushAt w _ _ (rfl)) _) _) _
  have LHIHI1 : Blk ((((w.alloc hasO).alloc isO).alloc hasO).alloc isO) (w.heap.size + 1) 4 (isC fun _ => false) := Blk.alloc (Blk.alloc (pushAt (w.alloc hasO) _ _ (by simp only [pushSize_])) _) _
  have LHIHI2 : Blk ((((w.alloc hasO).alloc isO).alloc hasO).alloc isO) (w.heap.size + 2) 9 (hasC fun _ => ⟨#[]⟩) := Blk.alloc (pushAt ((w.alloc hasO).alloc isO) _ _ (by simp only [pushSize_])) _
  have LHIHI3 : Blk ((((w.alloc hasO).alloc isO).alloc hasO).alloc isO) (w.heap.size + 3) 4 (isC fun _ => false) := pushAt (((w.alloc hasO).alloc isO).alloc hasO) _ _ (by simp only [pushSize_])
  have BHIIH := Lib.hid (show Below w.heap.size w ((((w.alloc hasO).alloc isO).alloc isO).alloc hasO) from ((((Below.refl _ w).alloc (Nat.le_refl _) hasO).alloc (by simp only [pushSize_]; omega) isO).alloc (by simp only [pushSize_]; omega) isO).alloc (by simp only [pushSize_]; omega) hasO)
  have SHIIH := Lib.hid (show ((((w.alloc hasO).alloc isO).alloc isO).alloc hasO).heap.size = w.heap.size + 4 by simp only [pushSize_])
  have LHIIH0 : Blk ((((w.alloc hasO).alloc isO).alloc isO).alloc hasO) (w.heap.size) 9 (hasC fun _ => ⟨#[]⟩) := Blk.alloc (Blk.alloc (Blk.alloc (pushAt w _ _ (rfl)) _) _) _
  have LHIIH1 : Blk ((((w.alloc hasO).alloc isO).alloc isO).alloc hasO) (w.heap.size + 1) 4 (isC fun _ => false) := Blk.alloc (Blk.alloc (pushAt (w.alloc hasO) _ _ (by simp only [pushSize_])) _) _
  have LHIIH2 : Blk ((((w.alloc hasO).alloc isO).alloc isO).alloc hasO) (w.heap.size + 2) 4 (isC fun _ => false) := Blk.alloc (pushAt ((w.alloc hasO).alloc isO) _ _ (by simp only [pushSize_])) _
  have LHIIH3 : Blk ((((w.alloc hasO).alloc isO).alloc isO).alloc hasO) (w.heap.size + 3) 9 (hasC fun _ => ⟨#[]⟩) := pushAt (((w.alloc hasO).alloc isO).alloc isO) _ _ (by simp only [pushSize_])
  have BIHHI := Lib.hid (show Below w.heap.size w ((((w.alloc isO).alloc hasO).alloc hasO).alloc isO) from ((((Below.refl _ w).alloc (Nat.le_refl _) isO).alloc (by simp only [pushSize_]; omega) hasO).alloc (by simp only [pushSize_]; omega) hasO).alloc (by simp only [pushSize_]; omega) isO)
  have SIHHI := Lib.hid (show ((((w.alloc isO).alloc hasO).alloc hasO).alloc isO).heap.size = w.heap.size + 4 by simp only [pushSize_])
  have LIHHI0 : Blk ((((w.alloc isO).alloc hasO).alloc hasO).alloc isO) (w.heap.size) 4 (isC fun _ => false) := Blk.alloc (Blk.alloc (Blk.alloc (pushAt w _ _ (rfl)) _) _) _
  have LIHHI1 : Blk ((((w.alloc isO).alloc hasO).alloc hasO).alloc isO) (w.heap.size + 1) 9 (hasC fun _ => ⟨#[]⟩) := Blk.alloc (Blk.alloc (pushAt (w.alloc isO) _ _ (by simp only [pushSize_])) _) _
  have LIHHI2 : Blk ((((w.alloc isO).alloc hasO).alloc hasO).alloc isO) (w.heap.size + 2) 9 (hasC fun _ => ⟨#[]⟩) := Blk.alloc (pushAt ((w.alloc isO).alloc hasO) _ _ (by simp only [pushSize_])) _
  have LIHHI3 : Blk ((((w.alloc isO).alloc hasO).alloc hasO).alloc isO) (w.heap.size + 3) 4 (isC fun _ => false) := pushAt (((w.alloc isO).alloc hasO).alloc hasO) _ _ (by simp only [pushSize_])
  have BIHIH := Lib.hid (show Below w.heap.size w ((((w.alloc isO).alloc hasO).alloc isO).alloc hasO) from ((((Below.refl _ w).alloc (Nat.le_refl _) isO).alloc (by simp only [pushSize_]; omega) hasO).alloc (by simp only [pushSize_]; omega) isO).alloc (by simp only [pushSize_]; omega) hasO)
  have SIHIH := Lib.hid (show ((((w.alloc isO).alloc hasO).alloc isO).alloc hasO).heap.size = w.heap.size + 4 by simp only [pushSize_])
  have LIHIH0 : Blk ((((w.alloc isO).alloc hasO).alloc isO).alloc hasO) (w.heap.size) 4 (isC fun _ => false) := Blk.alloc (Blk.alloc (Blk.alloc (pushAt w _ _ (rfl)) _) _) _
  have LIHIH1 : Blk ((((w.alloc isO).alloc hasO).alloc isO).alloc hasO) (w.heap.size + 1) 9 (hasC fun _ => ⟨#[]⟩) := Blk.alloc (Blk.alloc (pushAt (w.alloc isO) _ _ (by simp only [pushSize_])) _) _
  have LIHIH2 : Blk ((((w.alloc isO).alloc hasO).alloc isO).alloc hasO) (w.heap.size + 2) 4 (isC fun _ => false) := Blk.alloc (pushAt ((w.alloc isO).alloc hasO) _ _ (by simp only [pushSize_])) _
  have LIHIH3 : Blk ((((w.alloc isO).alloc hasO).alloc isO).alloc hasO) (w.heap.size + 3) 9 (hasC fun _ => ⟨#[]⟩) := pushAt (((w.alloc isO).alloc hasO).alloc isO) _ _ (by simp only [pushSize_])
  have BIIHH := Lib.hid (show Below w.heap.size w ((((w.alloc isO).alloc isO).alloc hasO).alloc hasO) from ((((Below.refl _ w).alloc (Nat.le_refl _) isO).alloc (by simp only [pushSize_]; omega) isO).alloc (by simp only [pushSize_]; omega) hasO).alloc (by simp only [pushSize_]; omega) hasO)
  have SIIHH := Lib.hid (show ((((w.alloc isO).alloc isO).alloc hasO).alloc hasO).heap.size = w.heap.size + 4 by simp only [pushSize_])
  have LIIHH0 : Blk ((((w.alloc isO).alloc isO).alloc hasO).alloc hasO) (w.heap.size) 4 (isC fun _ => false) := Blk.alloc (Blk.alloc (Blk.alloc (pushAt w _ _ (rfl)) _) _) _
  have LIIHH1 : Blk ((((w.alloc isO).alloc isO).alloc hasO).alloc hasO) (w.heap.size + 1) 4 (isC fun _ => false) := Blk.alloc (Blk.alloc (pushAt (w.alloc isO) _ _ (by simp only [pushSize_])) _) _
  have LIIHH2 : Blk ((((w.alloc isO).alloc isO).alloc hasO).alloc hasO) (w.heap.size + 2) 9 (hasC fun _ => ⟨#[]⟩) := Blk.alloc (pushAt ((w.alloc isO).alloc isO) _ _ (by simp only [pushSize_])) _
  have LIIHH3 : Blk ((((w.alloc isO).alloc isO).alloc hasO).alloc hasO) (w.heap.size + 3) 9 (hasC fun _ => ⟨#[]⟩) := pushAt (((w.alloc isO).alloc isO).alloc hasO) _ _ (by simp only [pushSize_])
  go_enter Try.func19, Try.ntmps19
  go_upto_region 1 with fail
  go_cut [0] (fun s wx => NewPost w s wx)
  case first =>
    go_region
    all_goals (go_wp2_with fail; go_meet)
    all_goals (first | exact new_leaf BHHII.out (by assumption) (by assumption) (by assumption) (by assumption) (by omega) SHHII.out | exact new_leaf BHIHI.out (by assumption) (by assumption) (by assumption) (by assumption) (by omega) SHIHI.out | exact new_leaf BHIIH.out (by assumption) (by assumption) (by assumption) (by assumption) (by omega) SHIIH.out | exact new_leaf BIHHI.out (by assumption) (by assumption) (by assumption) (by assumption) (by omega) SIHHI.out | exact new_leaf BIHIH.out (by assumption) (by assumption) (by assumption) (by assumption) (by omega) SIHIH.out | exact new_leaf BIIHH.out (by assumption) (by assumption) (by assumption) (by assumption) (by omega) SIIHH.out)
  case rest =>
  go_wp2_with fail
  go_ret
  exact ⟨_, rfl, hcut⟩
end Go.Proofs.Ytkghlbpkdkonbaa.Vl
/- BlockKeeps' notes: counts. -/
namespace Go.Proofs.Ytkghlbpkdkonbaa.Vl
open Go Go.RowKit Go.Maps Mem Disk Nv
set_option maxRecDepth 100000 in
set_option maxHeartbeats 8000000 in
theorem counts_any {w : World} {g hh hn hs hl : Nat} {n : No} (h : Nm w g hh hn hs hl n) (t : ByteArray) : Calls Try.prog 20 #[.pointer (some ⟨g, 0, none⟩), .string t] w fun e w' =>
    e = .returned (.tuple #[]) ∧ Nm w' g hh hn hs hl (countTo n t 8) ∧ Keeps (isNm g hh hn hs hl) w w' := by
  obtain ⟨c0, c1, c2, c3, c4⟩ := h.cells
  have f0 := h.b.free 0
  have st : Nm (w.setCell ⟨g, 0, none⟩ (.string t)) g hh hn hs hl (countTo n t 1) := (h.put0 t).eq (countTo_one n t).symm
  have kk : Keeps (isNm g hh hn hs hl) w (w.setCell ⟨g, 0, none⟩ (.string t)) := (Keeps.refl _ w).put (g := g) (Or.inl (Or.inl rfl)) 0 _
  replace st := Lib.hid st
  replace kk := Lib.hid kk
  clear h
  go_enter Try.func20, Try.ntmps20
  go_wp2_with fail
  clear c0 c1 c2 c3 c4 f0
  generalize w.setCell ⟨g, 0, none⟩ (.string t) = w1 at st kk ⊢
  go_loopw [4] (fun t1 wr => ∃ k : Nat, 1 ≤ k ∧ k ≤ 8 ∧ t1 = .int .i64 (k : Int) ∧ Nm wr g hh hn hs hl (countTo n t k) ∧ Keeps (isNm g hh hn hs hl) w wr) (fun t1 _ => 8 - (intOf t1).toNat)
  case atStart => exact ⟨1, Nat.le_refl _, by decide, rfl, st.out, kk.out⟩
  case round =>
    clear st kk
    obtain ⟨k, hk1, hk8, rfl, st, kk⟩ := hrel
    by_cases hlt : k < 8
    · have y0 : (0 : Int) ≤ (k : Int) := by omega
      have y8 : (k : Int) < 8 := by omega
      obtain ⟨c0, c1, c2, c3, c4⟩ := st.cells
      have l1 := (st.b4.cell k).trans (isC_get _ hlt)
      rw [(countTo_at n t k).1] at l1
      rcases hi : n.loose k with _ | _
      · have st' := Lib.hid (st.eq (countTo_no n t hi).symm)
        replace kk := Lib.hid kk
        rw [hi] at l1
        clear st hi
        go_wp2_with fail
        exact ⟨⟨k + 1, by omega, by omega, rfl, st'.out, kk.out⟩, by simp [intOf]; omega⟩
      · have n1 := (st.b2.cell k).trans (hasC_get _ hlt)
        have h1 := (st.b1.cell k).trans (hasC_get _ hlt)
        have h2 := st.b1.free k
        have n1' : wr.cell? ⟨hn, k, none⟩ = some (.string (n.now k)) := n1
        have st1 := st.put1 hlt (n.now k)
        have kk1 := kk.put (g := hh) (Or.inl (Or.inr (Or.inl rfl))) k (.string (n.now k))
        rw [hi] at l1
        clear n1
        replace st1 := Lib.hid (show Nm (wr.setCell ⟨hh, k, none⟩ (.string (n.now k))).drew g hh hn hs hl { countTo n t k with has := setF (countTo n t k).has k (n.now k) } from st1.below (Below.refl _ _).drew)
        replace kk1 := Lib.hid (show Keeps (isNm g hh hn hs hl) w (wr.setCell ⟨hh, k, none⟩ (.string (n.now k))).drew from ⟨kk1.os, kk1.tape, kk1.output, kk1.size, kk1.block⟩)
        clear st kk
        go_wp2_with fail
        go_region
        clear c0 c1 c2 c3 c4 l1 n1' h1 h2
        have st2 := st1.out
        have kk2 := kk1.out
        clear st1 kk1
        generalize (wr.setCell ⟨hh, k, none⟩ (.string (n.now k))).drew = w2 at st2 kk2 ⊢
        obtain ⟨c0, c1, c2, c3, c4⟩ := st2.cells
        have s1 := (st2.b3.cell k).trans (isC_get _ hlt)
        have s2 := st2.b3.free k
        have st3 := st2.put3 hlt true
        have kk3 := kk2.put (g := hs) (Or.inl (Or.inr (Or.inr (Or.inr (Or.inl rfl))))) k (.bool true)
        obtain ⟨e0, e1, e2, e3, e4⟩ := st3.cells
        have l1 := (st3.b4.cell k).trans (isC_get _ hlt)
        have l2 := st3.b4.free k
        have st4 := Lib.hid ((st3.put4 hlt false).eq (countTo_yes n t hk1 hi).symm)
        have kk4 := Lib.hid (kk3.put (g := hl) (Or.inl (Or.inr (Or.inr (Or.inr (Or.inr rfl))))) k (.bool false))
        clear st2 kk2 st3 kk3 hi
        go_wp2_with fail
        exact ⟨⟨k + 1, by omega, by omega, rfl, st4.out, kk4.out⟩, by simp [intOf]; omega⟩
    · obtain rfl : k = 8 := by omega
      replace st := Lib.hid st
      replace kk := Lib.hid kk
      go_wp2_with fail
      go_end0
      exact ⟨rfl, st.out, kk.out⟩
end Go.Proofs.Ytkghlbpkdkonbaa.Vl
/- BlockKeeps' notes: holds; a volume whose disk's power may go. -/
namespace Go.Proofs.Ytkghlbpkdkonbaa.Vl
open Go Go.RowKit Go.Maps Mem Disk Nv
/-- a living volume at a law, over a disk whose power may go -/
structure Hk (X : Nat → Prop) (N m : Nat) (w : World) (a b : Nat) (v : Vo) (d : Dk) (cur : Nat → ByteArray) (Q : Nat → ByteArray → Prop) : Prop where
  h : Hv X N m w a b v d
  lv : Lv N cur Q d
  coh : Coh cur v.L
  keys : ∀ k s, find v.L k = some s → 1 ≤ k
  live : v.dead = false
def XK (B g hh hn hs hl : Nat) (i : Nat) : Prop := i < B ∨ isNm g hh hn hs hl i
section
variable {X Y : Nat → Prop} {N m : Nat} {w w' : World} {a b B g hh hn hs hl : Nat} {v v' : Vo} {d d' : Dk} {cur : Nat → ByteArray} {Q : Nat → ByteArray → Prop} {n : No}
set_option maxRecDepth 100000 in
theorem Hk.turn (h : Hk X N m w a b v d cur Q) (hk : Keeps X w w') : Hk X N m w' a b v d cur Q := ⟨h.h.turn hk, h.lv, h.coh, h.keys, h.live⟩
set_option maxRecDepth 100000 in
theorem Hk.below (h : Hk X N m w a b v d cur Q) (hb : Below w.heap.size w w') : Hk X N m w' a b v d cur Q := ⟨h.h.below hb, h.lv, h.coh, h.keys, h.live⟩
set_option maxRecDepth 100000 in
theorem hkread (h : Hk X N m w a b v d cur Q) {n : Nat} (h1 : 1 ≤ n) (h2 : n < N / 4) :
    Calls Try.prog 15 #[.pointer (some ⟨a, 0, none⟩), .int .i64 (n : Int)] w fun e w' => e = .returned (.tuple #[.string (unframeV (blkC cur n)).1, .int .i64 (unframeV (blkC cur n)).2]) ∧ ∃ L', Hk X N m w' a b { v with L := L' } d cur Q ∧ KeepX X w w' := by
  obtain ⟨L', e1, e2, e3⟩ := lv_readV h.lv h.coh h.live h1 h2
  have k := hvread h.h (n : Int)
  rw [e1] at k
  refine k.mono ?_
  rintro e w' ⟨rfl, h3, h4⟩
  exact ⟨rfl, L', ⟨h3, h.lv, e2, fun j s hj => (e3 j s hj).elim (fun q => by rw [q]; exact h1) (fun ⟨t, q⟩ => h.keys j t q), h.live⟩, h4⟩
/-- where holds stands -/
structure HoldAt (B : Nat) (w0 : World) (m k : Nat) (w : World) (a b g hh hn hs hl : Nat) (v : Vo) (t : ByteArray) (num : Nat) (d : Dk) (cur : Nat → ByteArray) (Q : Nat → ByteArray → Prop) (n : No) : Prop where
  h : Hk (XK B g hh hn hs hl) 32 m w a b v d cur Q
  rt : v.text = t ∧ v.num = num
  nm : Nm w g hh hn hs hl (lostTo n k)
  hb : Below B w0 w
  lt : B ≤ w.heap.size
set_option maxRecDepth 100000 in
theorem HoldAt.read {w0 : World} {k j num : Nat} {t : ByteArray} (st : HoldAt B w0 m j w a b g hh hn hs hl v t num d cur Q n) (h1 : 1 ≤ k) (h2 : k < 8) :
    Calls Try.prog 15 #[.pointer (some ⟨a, 0, none⟩), .int .i64 (k : Int)] w fun e w' => e = .returned (.tuple #[.string (unframeV (blkC cur k)).1, .int .i64 (unframeV (blkC cur k)).2]) ∧ ∃ v', HoldAt B w0 m j w' a b g hh hn hs hl v' t num d cur Q n := by
  refine (hkread st.h h1 (show k < 32 / 4 from h2)).mono ?_
  rintro e w' ⟨rfl, L', h3, h4⟩
  exact ⟨rfl, _, h3, st.rt, st.nm.keeps h4 (fun i hi hn => hn (Or.inr hi)), st.hb.trans (h4.toBelow (fun i hi => Or.inl hi) st.lt), Nat.le_trans st.lt h4.size⟩
set_option maxRecDepth 100000 in
/-- a block written since is no more sure -/
theorem HoldAt.eq {w0 : World} {k j num : Nat} {t : ByteArray} (st : HoldAt B w0 m j w a b g hh hn hs hl v t num d cur Q n) (e : lostTo n j = lostTo n k) : HoldAt B w0 m k w a b g hh hn hs hl v t num d cur Q n := ⟨st.h, st.rt, e ▸ st.nm, st.hb, st.lt⟩
set_option maxRecDepth 100000 in
theorem HoldAt.loose {w0 : World} {k num : Nat} {t : ByteArray} (st : HoldAt B w0 m k w a b g hh hn hs hl v t num d cur Q n) (hg : ∀ i, isNm g hh hn hs hl i → B ≤ i) (h1 : 1 ≤ k) (h2 : k < 8) (hl1 : n.loose k = true) :
    HoldAt B w0 m (k + 1) ((w.setCell ⟨hs, k, none⟩ (.bool false)).setCell ⟨hl, k, none⟩ (.bool false)) a b g hh hn hs hl v t num d cur Q n := by
  have kk : Keeps (isNm g hh hn hs hl) w ((w.setCell ⟨hs, k, none⟩ (.bool false)).setCell ⟨hl, k, none⟩ (.bool false)) := ((Keeps.refl _ w).put (g := hs) (Or.inl (Or.inr (Or.inr (Or.inr (Or.inl rfl))))) k (.bool false)).put (g := hl) (Or.inl (Or.inr (Or.inr (Or.inr (Or.inr rfl))))) k (.bool false)
  exact ⟨st.h.turn (kk.mono (fun i hi => Or.inr hi)), st.rt, ((st.nm.put3 h2 false).put4 h2 false).eq (lostTo_yes n h1 hl1).symm, st.hb.trans (kk.toBelow (fun i hi => hg i hi) st.lt), Nat.le_trans st.lt kk.size⟩
end
set_option maxRecDepth 100000 in
set_option maxHeartbeats 16000000 in
theorem holds_any {m a b B g hh hn hs hl num : Nat} {w : World} {v : Vo} {t : ByteArray} {d : Dk} {cur : Nat → ByteArray} {Q : Nat → ByteArray → Prop} {n : No} (h0 : HoldAt B w m 1 w a b g hh hn hs hl v t num d cur Q n) (hg : ∀ i, isNm g hh hn hs hl i → B ≤ i) (hsr : Sure n cur) :
    Calls Try.prog 25 #[.pointer (some ⟨g, 0, none⟩), .pointer (some ⟨a, 0, none⟩)] w fun e w' => e = .returned (.bool true) ∧ ∃ v', HoldAt B w m 8 w' a b g hh hn hs hl v' t num d cur Q n := by
  replace h0 := Lib.hid h0
  replace hsr := Lib.hid hsr
  replace hg := Lib.hid hg
  go_enter Try.func25, Try.ntmps25
  go_wp2_with fail
  go_loopw [5] (fun t1 wr => ∃ (k : Nat) (v : Vo), 1 ≤ k ∧ k ≤ 8 ∧ t1 = .int .i64 (k : Int) ∧ HoldAt B w m k wr a b g hh hn hs hl v t num d cur Q n) (fun t1 _ => 8 - (intOf t1).toNat)
  case atStart => exact ⟨1, _, Nat.le_refl _, by decide, rfl, h0.out⟩
  case round =>
    clear h0
    obtain ⟨k, v, hk1, hk8, rfl, st⟩ := hrel
    by_cases hlt : k < 8
    · have y0 : (0 : Int) ≤ (k : Int) := by omega
      have y8 : (k : Int) < 8 := by omega
      obtain ⟨c0, c1, c2, c3, c4⟩ := st.nm.cells
      have l1 := (st.nm.b4.cell k).trans (isC_get _ hlt)
      rw [(lostTo_at n k).1] at l1
      rcases hi : n.loose k with _ | _
      · have st1 := st.eq (lostTo_no n hi).symm
        have kr := Lib.hid (st1.read hk1 hlt)
        rw [hi] at l1
        clear st st1
        rcases hj : n.sure k with _ | _
        · generalize unframeV (blkC cur k) = U at kr
          obtain ⟨U1, U2⟩ := U
          go_wp2_with fail
          refine kr.out.mono ?_
          rintro e w2 ⟨rfl, v2, st⟩
          obtain ⟨e0, e1, e2, e3, e4⟩ := st.nm.cells
          have s1 := (st.nm.b3.cell k).trans (isC_get _ hlt)
          rw [lostTo_no n hi, (lostTo_at n k).2, hj] at s1
          replace st := Lib.hid st
          clear kr c0 c1 c2 c3 c4 l1 hi hj
          go_wp2_with fail
          exact ⟨⟨k + 1, v2, by omega, by omega, rfl, st.out⟩, by simp [intOf]; omega⟩
        · rw [hsr.out k hk1 hlt hi hj] at kr
          replace kr := Lib.hid kr.out
          have tb : ((n.has k).toList == (n.has k).toList) = true := beq_self_eq_true _
          go_wp2_with fail
          refine kr.out.mono ?_
          rintro e w2 ⟨rfl, v2, st⟩
          obtain ⟨e0, e1, e2, e3, e4⟩ := st.nm.cells
          have s1 := (st.nm.b3.cell k).trans (isC_get _ hlt)
          have h1 : w2.cell? ⟨hh, k, none⟩ = some (.string (n.has k)) := (st.nm.b1.cell k).trans (hasC_get _ hlt)
          rw [lostTo_no n hi, (lostTo_at n k).2, hj] at s1
          replace st := Lib.hid st
          clear kr c0 c1 c2 c3 c4 l1 hi hj
          go_wp2_with fail
          exact ⟨⟨k + 1, v2, by omega, by omega, rfl, st.out⟩, by simp [intOf]; omega⟩
      · have s1 := (st.nm.b3.cell k).trans (isC_get _ hlt)
        have s2 := st.nm.b3.free k
        have nm3 := st.nm.put3 hlt false
        obtain ⟨e0, e1, e2, e3, e4⟩ := nm3.cells
        have l3 := (nm3.b4.cell k).trans (isC_get _ hlt)
        have l4 := nm3.b4.free k
        have st1 := st.loose hg.out hk1 hlt hi
        have kr := Lib.hid (st1.read hk1 hlt)
        rw [hi] at l1
        clear st st1 nm3
        generalize unframeV (blkC cur k) = U at kr
        obtain ⟨U1, U2⟩ := U
        go_wp2_with fail
        refine kr.out.mono ?_
        rintro e w2 ⟨rfl, v2, st⟩
        obtain ⟨f0, f1, f2, f3, f4⟩ := st.nm.cells
        have r1 : w2.cell? ⟨hs, k, none⟩ = some (.bool false) := by
          refine (st.nm.b3.cell k).trans ((isC_get _ hlt).trans ?_)
          rw [lostTo_yes n hk1 hi]
          exact congrArg (fun x => some (Value.bool x)) (setF_same _ _ _)
        replace st := Lib.hid st
        clear kr c0 c1 c2 c3 c4 l1 hi e0 e1 e2 e3 e4 l3 l4 s1 s2
        go_wp2_with fail
        exact ⟨⟨k + 1, v2, by omega, by omega, rfl, st.out⟩, by simp [intOf]; omega⟩
    · obtain rfl : k = 8 := by omega
      replace st := Lib.hid st
      go_wp2_with fail
      go_ret
      exact ⟨rfl, v, st.out⟩
end Go.Proofs.Ytkghlbpkdkonbaa.Vl
/- The disk's power under a volume; what a script's call comes to. -/
namespace Go.Proofs.Ytkghlbpkdkonbaa.Vl
open Go Go.RowKit Go.Maps Mem Disk Nv
section
variable {X Y : Nat → Prop} {N m m' : Nat} {w w' : World} {a b : Nat} {v v' : Vo} {d d' : Dk}
set_option maxRecDepth 100000 in
/-- the disk under a volume is called -/
theorem Hv.disk (h : Hv X N m w a b v d) {f : FuncId} {args : Array Value} {r : Ending} (hop : ∀ G, IsDk G w b d → Calls Try.prog f args w fun e w' => e = r ∧ IsDk G w' b d' ∧ Keeps G w w') (hfn : Nv.Fn N m' d') :
    Calls Try.prog f args w fun e w' => e = r ∧ Hv X N m' w' a b v d' ∧ KeepX X w w' := by
  obtain ⟨⟨F, ⟨G, H, c, h1⟩, h2⟩, h3, h4⟩ := h
  refine (hop G h1.dk).mono ?_
  rintro e w' ⟨rfl, h5, h6⟩
  exact ⟨rfl, hand_of h2 h3 (h1.disk h5 h6 (fun _ hi => Or.inl hi)).pv (h6.mono h1.fg) (fun i hi => Or.inl (hi.elim id (h1.fg i))) hfn⟩
set_option maxRecDepth 100000 in
theorem fn_len {d d' : Dk} (h : Nv.Fn N m d) (hf : Fit d') (hn : NumTo m d') (hl : d'.stays.length = d.stays.length) : Nv.Fn N m d' := ⟨hf, hn, hl.trans h.len⟩
set_option maxRecDepth 100000 in
theorem armD_stays (d : Dk) (n : Int) (keep : ByteArray) : (armD d n keep).1.stays.length = d.stays.length := by
  unfold armD
  split
  · rfl
  · split <;> rfl
set_option maxRecDepth 100000 in
theorem crashD_stays (d : Dk) (keep : ByteArray) : (crashD d keep).1.stays.length = d.stays.length := by
  unfold crashD
  split
  · rfl
  · show (applyK _ _ _ _).length = _
    rw [applyK_length]
set_option maxRecDepth 100000 in
theorem hvarm (h : Hv X N m w a b v d) (n : Int) (hn : n ≤ 9223372036854775807) (keep : ByteArray) : Calls Try.prog 21 #[.pointer (some ⟨b, 0, none⟩), .int .i64 n, .string keep] w fun e w' => e = .returned (.int .i64 (armD d n keep).2) ∧ Hv X N m w' a b v (armD d n keep).1 ∧ KeepX X w w' :=
  h.disk (fun _ h1 => arm_any h1 n keep) (fn_len h.fn (h.fn.fit.arm n keep) (h.fn.num.arm n hn keep) (armD_stays d n keep))
set_option maxRecDepth 100000 in
theorem hvcrash (h : Hv X N m w a b v d) (keep : ByteArray) : Calls Try.prog 22 #[.pointer (some ⟨b, 0, none⟩), .string keep] w fun e w' => e = .returned (.int .i64 (crashD d keep).2) ∧ Hv X N m w' a b v (crashD d keep).1 ∧ KeepX X w w' :=
  h.disk (fun _ h1 => crash_any h1 h.fn.fit keep) (fn_len h.fn (h.fn.fit.crash keep) (h.fn.num.crash keep) (crashD_stays d keep))
set_option maxRecDepth 100000 in
theorem hvrevive (h : Hv X N m w a b v d) : Calls Try.prog 24 #[.pointer (some ⟨b, 0, none⟩)] w fun e w' => e = .returned (.tuple #[]) ∧ Hv X N m w' a b v (reviveD d) ∧ KeepX X w w' :=
  h.disk (fun _ h1 => revive_any h1) (fn_len h.fn h.fn.fit.revive h.fn.num.revive rfl)
set_option maxRecDepth 100000 in
theorem hvdead (h : Hv X N m w a b v d) : Calls Try.prog 23 #[.pointer (some ⟨b, 0, none⟩)] w fun e w' => e = .returned (.bool d.dead) ∧ w' = w := by
  obtain ⟨⟨F, ⟨G, H, c, h1⟩, h2⟩, h3, h4⟩ := h
  exact dead_any h1.dk
end
/-- where the law's loop stands -/
structure KpAt (w : World) (j : Nat) (W : World) (a b g hh hn hs hl : Nat) (n : No) (num : Nat) (v : Vo) (d : Dk) (cur : Nat → ByteArray) : Prop where
  h : Hk (XK w.heap.size g hh hn hs hl) 32 (3 + 4 * j) W a b v d cur (Qn n cur)
  tx : v.text = n.root
  nu : v.num = num
  few : num ≤ j + 1
  rt : Rt n.root num cur
  sr : Sure n cur
  ls : Loose n cur
  nm : Nm W g hh hn hs hl n
  hb : Below w.heap.size w W
  gg : ∀ i, isNm g hh hn hs hl i → w.heap.size ≤ i
/-- the power is gone behind a call of the script -/
structure MdAt (w : World) (j : Nat) (W : World) (a b g hh hn hs hl : Nat) (n : No) (next : ByteArray) (v : Vo) (d : Dk) : Prop where
  h : Hv (XK w.heap.size g hh hn hs hl) 32 (3 + 4 * (j + 1)) W a b v d
  nm : Nm W g hh hn hs hl n
  hb : Below w.heap.size w W
  gg : ∀ i, isNm g hh hn hs hl i → w.heap.size ≤ i
  dead : d.dead = true
  lost : Lost n next (j + 2) d
set_option maxRecDepth 100000 in
theorem mask7 (a : Int) : ∃ m : Nat, m < 8 ∧ bits .and .i64 a 7 = (m : Int) := by
  have h : (BitVec.ofInt 64 a &&& BitVec.ofInt 64 7).toNat ≤ 7 := by
    rw [BitVec.toNat_and]
    exact Nat.le_trans Nat.and_le_right (by decide)
  refine ⟨(BitVec.ofInt 64 a &&& BitVec.ofInt 64 7).toNat, by omega, ?_⟩
  show IntKind.i64.wrap ((BitVec.ofInt 64 a &&& BitVec.ofInt 64 7).toNat : Int) = _
  rw [IntKind.wrap_i64]
  omega
section
variable {w W W' : World} {j m a b g hh hn hs hl num P : Nat} {n : No} {v v' : Vo} {d d' : Dk} {cur : Nat → ByteArray} {s : ByteArray}
/-- also the call's own block stays -/
def XP (B g hh hn hs hl P : Nat) (i : Nat) : Prop := XK B g hh hn hs hl i ∨ i = P
set_option maxRecDepth 100000 in
theorem KpAt.op (st : KpAt w j W a b g hh hn hs hl n num v d cur) (hb : Below W.heap.size W W') (h1 : W.heap.size ≤ P) (h2 : P < W'.heap.size) : Hv (XP w.heap.size g hh hn hs hl P) 32 (3 + 4 * j) W' a b v d :=
  st.h.h.also hb fun _ hi => hi.elim Or.inl fun e => Or.inr ⟨e ▸ h1, e ▸ h2⟩
set_option maxRecDepth 100000 in
theorem KpAt.next (st : KpAt w j W a b g hh hn hs hl n num v d cur) (hb : Below W.heap.size W W') : KpAt w (j + 1) W' a b g hh hn hs hl n num v d cur :=
  ⟨⟨(st.h.h.below hb).more (by omega), st.h.lv, st.h.coh, st.h.keys, st.h.live⟩, st.tx, st.nu, Nat.le_succ_of_le st.few, st.rt, st.sr, st.ls, st.nm.below hb, st.hb.trans (hb.mono st.hb.size), st.gg⟩
set_option maxRecDepth 100000 in
/-- a block was written -/
theorem KpAt.wrote (st : KpAt w j W a b g hh hn hs hl n num v d cur) {k : Nat} (hk1 : 1 ≤ k) (hp : s.size ≤ 240) (l1 : Lv 32 (curW cur (frameB s) k 0 4) (Qn (wroteN n k s) cur) d')
    (h5 : Hv (XK w.heap.size g hh hn hs hl) 32 (3 + 4 * j) W' a b { v with L := putK v.L k s } d') (nm5 : Nm W' g hh hn hs hl (wroteN n k s)) (hb5 : Below w.heap.size w W') :
    KpAt w j W' a b g hh hn hs hl (wroteN n k s) num { v with L := putK v.L k s } d' (curW cur (frameB s) k 0 4) := by
  obtain ⟨w1, w2⟩ := wrote_blocks (k := k) hp st.sr st.ls
  exact ⟨⟨h5, l1.mono (fun i x _ hq => wrote_Q hq hk1), st.h.coh.write hp, fun i t hi => (find_put hi).elim (fun q => by rw [q.1]; exact hk1) (fun q => st.h.keys i t q.2), st.h.live⟩, st.tx, st.nu, st.few, wrote_root hk1 st.rt _, w1, w2, nm5, hb5, st.gg⟩
set_option maxRecDepth 100000 in
/-- the disk turned, its sectors did not -/
theorem KpAt.disk (st : KpAt w j W a b g hh hn hs hl n num v d cur) (l1 : Lv 32 cur (Qn n cur) d') (h5 : Hv (XK w.heap.size g hh hn hs hl) 32 (3 + 4 * j) W' a b v d') (nm5 : Nm W' g hh hn hs hl n) (hb5 : Below w.heap.size w W') : KpAt w j W' a b g hh hn hs hl n num v d' cur :=
  ⟨⟨h5, l1, st.h.coh, st.h.keys, st.h.live⟩, st.tx, st.nu, st.few, st.rt, st.sr, st.ls, nm5, hb5, st.gg⟩
set_option maxRecDepth 100000 in
/-- a root was committed -/
theorem KpAt.root (st : KpAt w j W a b g hh hn hs hl n num v d cur) (hf : num ≤ j) (hj : j ≤ 1000) (ht : s.size ≤ 40) (l1 : Lv 32 (curR cur s (num + 1)) (fun i x => x = curR cur s (num + 1) i) d')
    (h5 : Hv (XK w.heap.size g hh hn hs hl) 32 (3 + 4 * j) W' a b ⟨s, num + 1, v.L, v.dead⟩ d') (nm5 : Nm W' g hh hn hs hl (countTo n s 8)) (hb5 : Below w.heap.size w W') :
    KpAt w j W' a b g hh hn hs hl (countTo n s 8) (num + 1) ⟨s, num + 1, v.L, v.dead⟩ d' (curR cur s (num + 1)) := by
  have hcs := count_sure st.sr st.ls s
  exact ⟨⟨h5, l1.mono (fun _ _ _ hq => Or.inl hq), st.h.coh.root st.h.keys, st.h.keys, st.h.live⟩, rfl, rfl, by omega, st.rt.next (by omega) ht, hcs.congr (fun i i1 _ _ => by unfold curR; rw [if_neg (by omega)]), count_loose' s, nm5, hb5, st.gg⟩
set_option maxRecDepth 100000 in
/-- the power is back: the volume was opened anew -/
theorem HoldAt.kp {w7 : World} {t : ByteArray} (h : HoldAt w.heap.size w7 (3 + 4 * j) 8 W a b g hh hn hs hl v t num d cur (fun i x => x = cur i) n) (ht : t = n.root) (few : num ≤ j + 1) (rt : Rt t num cur) (sr : Sure n cur) (hb : Below w.heap.size w W) (gg : ∀ i, isNm g hh hn hs hl i → w.heap.size ≤ i) :
    KpAt w j W a b g hh hn hs hl (lostTo n 8) num v d cur :=
  ⟨⟨h.h.h, h.h.lv.mono (fun _ _ _ hq => Or.inl hq), h.h.coh, h.h.keys, h.h.live⟩, h.rt.1.trans ht, h.rt.2, few, ht ▸ rt, lost_to sr, lost_loose, h.nm, hb, gg⟩
set_option maxRecDepth 100000 in
theorem xp_sub : ∀ i, XK w.heap.size g hh hn hs hl i → XP w.heap.size g hh hn hs hl P i := fun _ hi => Or.inl hi
set_option maxRecDepth 100000 in
theorem Nm.hold {B : Nat} (h : Nm W g hh hn hs hl n) (k : KeepX (XP B g hh hn hs hl P) W W') : Nm W' g hh hn hs hl n := h.keeps k (fun _ hi hn => hn (Or.inl (Or.inr hi)))
set_option maxRecDepth 100000 in
theorem KeepX.low {B : Nat} (k : KeepX (XP B g hh hn hs hl P) W W') (hB : B ≤ W.heap.size) : Below B W W' := Disk.KeepX.toBelow k (fun _ hi => Or.inl (Or.inl hi)) hB
end
end Go.Proofs.Ytkghlbpkdkonbaa.Vl

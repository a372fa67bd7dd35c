/- The disk's contracts at a law: X: the blocks that are not the disk's and stay. -/
import Derived.Test.YtkghlbpkdkonbaaGreatDiskWc
import Derived.Test.YtkghlbpkdkonbaaGreatDiskPl
import Derived.Test.YtkghlbpkdkonbaaGreatShelf
import Derived.Shelf.SlMaps.Clone
import Derived.Deep.RegionHeld3
namespace Go.Proofs.YtkghlbpkdkonbaaGreat.Disk
open Go Go.RowKit Go.Maps Mem

structure Hd (X : Nat → Prop) (m : Nat) (w : World) (b : Nat) (d : Dk) : Prop where
  own : ∃ F, IsDk F w b d ∧ ∀ i, F i → ¬ X i
  xlt : ∀ i, X i → i < w.heap.size
  fit : Fit d
  num : NumTo m d
/-- only what is not of X has turned -/
abbrev KeepX (X : Nat → Prop) (w w' : World) : Prop := Keeps (fun i => ¬ X i) w w'
section
variable {X Y : Nat → Prop} {m : Nat} {w w' w'' : World} {b : Nat} {d d' : Dk}
set_option maxRecDepth 100000 in
theorem KeepX.toBelow {B : Nat} (h : KeepX X w w') (hX : ∀ i, i < B → X i) (hB : B ≤ w.heap.size) : Below B w w' := Keeps.toBelow h (fun i hi => Nat.le_of_not_lt fun hlt => hi (hX i hlt)) hB
set_option maxRecDepth 100000 in
theorem Hd.mono (h : Hd X m w b d) (hX : ∀ i, Y i → X i) : Hd Y m w b d := by
  obtain ⟨⟨F, h1, h2⟩, h3, h4, h5⟩ := h
  exact ⟨⟨F, h1, fun i hi hy => h2 i hi (hX i hy)⟩, fun i hi => h3 i (hX i hi), h4, h5⟩
set_option maxRecDepth 100000 in
theorem Hd.num_ (h : Hd X m w b d) (hm : m ≤ 4611686018427387904) : Num d := ⟨Nat.le_trans h.num.steps hm, h.num.armed, Nat.le_trans h.num.marks hm⟩
set_option maxRecDepth 100000 in
theorem Hd.more {k : Nat} (h : Hd X m w b d) (hm : m ≤ k) : Hd X k w b d := ⟨h.own, h.xlt, h.fit, h.num.mono hm⟩
set_option maxRecDepth 100000 in
/-- what is new is no block of the disk's: X may grow by it -/
theorem Hd.also (h : Hd X m w b d) (hb : Below w.heap.size w w') (hY : ∀ i, Y i → X i ∨ (w.heap.size ≤ i ∧ i < w'.heap.size)) : Hd Y m w' b d := by
  obtain ⟨⟨F, h1, h2⟩, h3, h4, h5⟩ := h
  refine ⟨⟨F, h1.below hb, fun i hi hy => ?_⟩, fun i hi => ?_, h4, h5⟩
  · obtain ⟨_, _, _, _, _, hc⟩ := h1.core
    have hlt := hc.2.2.2.2.2.2.2.2 i hi
    rcases hY i hy with h | h
    · exact h2 i hi h
    · omega
  · rcases hY i hi with h | h
    · exact Nat.lt_of_lt_of_le (h3 i h) hb.size
    · exact h.2
set_option maxRecDepth 100000 in
theorem Hd.below (h : Hd X m w b d) (hb : Below w.heap.size w w') : Hd X m w' b d := h.also hb fun _ hi => Or.inl hi
set_option maxRecDepth 100000 in
/-- a block of X turns -/
theorem Hd.turn (h : Hd X m w b d) (hk : Keeps X w w') : Hd X m w' b d := by
  obtain ⟨⟨F, h1, h2⟩, h3, h4, h5⟩ := h
  exact ⟨⟨F, h1.keeps hk h2, h2⟩, fun i hi => Nat.lt_of_lt_of_le (h3 i hi) hk.size, h4, h5⟩
set_option maxRecDepth 100000 in
theorem Hd.step (h : Hd X m w b d) {F F' : Nat → Prop} (hF : ∀ i, F i → ¬ X i) (hd : IsDk F' w' b d') (hk : Keeps F w w') (hF' : ∀ i, F' i → F i ∨ w.heap.size ≤ i) (hfit : Fit d') {k : Nat} (hnum : NumTo k d') : Hd X k w' b d' ∧ KeepX X w w' :=
  ⟨⟨⟨F', hd, fun i hi hx => (hF' i hi).elim (fun h => hF i h hx) (fun h2 => by have := h.xlt i hx; omega)⟩, fun i hi => Nat.lt_of_lt_of_le (h.xlt i hi) hk.size, hfit, hnum⟩, hk.mono hF⟩
set_option maxRecDepth 100000 in
theorem KeepX.row (h : KeepX X w w') {base sz n : Nat} {e : TypeId} {v : Value} {xs : List Value} (ho : w.ownsRow base e sz v n xs) (hv : ∀ j, v.ownBlock = some j → X j) : w'.ownsRow base e sz v n xs := own_keeps ho h (fun j e hn => hn (hv j e))

set_option maxRecDepth 100000 in
theorem hread (h : Hd X m w b d) (n : Int) : Calls Tryz.prog 35 #[.pointer (some ⟨b, 0, none⟩), .int .i64 n] w fun e w' => e = .returned (.tuple #[.string (readD d n).1, .int .i64 (readD d n).2]) ∧ w' = w := by
  obtain ⟨F, h1, _⟩ := h.own
  exact read_any h1 h.fit n
set_option maxRecDepth 100000 in
theorem himage (h : Hd X m w b d) : Calls Tryz.prog 25 #[.pointer (some ⟨b, 0, none⟩)] w fun e w' => e = .returned (.string ⟨(imageD d).toArray⟩) ∧ Hd X m w' b d ∧ Below w.heap.size w w' := by
  obtain ⟨F, h1, _⟩ := h.own
  refine (image_any h1 h.fit).mono ?_
  rintro e w' ⟨rfl, hb⟩
  exact ⟨rfl, h.below hb, hb⟩
set_option maxRecDepth 100000 in
theorem hsectors (h : Hd X m w b d) : Calls Tryz.prog 91 #[.pointer (some ⟨b, 0, none⟩)] w fun e w' => e = .returned (.int .i64 (d.stays.length : Int)) ∧ w' = w := by
  obtain ⟨F, h1, _⟩ := h.own
  exact sectors_any h1
set_option maxRecDepth 100000 in
theorem hsteps (h : Hd X m w b d) : Calls Tryz.prog 27 #[.pointer (some ⟨b, 0, none⟩)] w fun e w' => e = .returned (.int .i64 (d.steps : Int)) ∧ w' = w := by
  obtain ⟨F, h1, _⟩ := h.own
  exact steps_any h1
set_option maxRecDepth 100000 in
theorem hwrite (h : Hd X m w b d) (hm : m ≤ 4611686018427387904) (n : Int) (s : ByteArray) : Calls Tryz.prog 48 #[.pointer (some ⟨b, 0, none⟩), .int .i64 n, .string s] w fun e w' =>
    e = .returned (.int .i64 (writeD d n s).2) ∧ Hd X (m + 1) w' b (writeD d n s).1 ∧ KeepX X w w' := by
  obtain ⟨F, h1, h2⟩ := h.own
  refine (write_any h1 (h.num_ hm) h.fit n s).mono ?_
  rintro e w' ⟨rfl, F', h3, h4, h5⟩
  exact ⟨rfl, h.step h2 h3 h4 h5 (h.fit.write n s) (h.num.write n s)⟩
set_option maxRecDepth 100000 in
theorem hsync (h : Hd X m w b d) (hm : m ≤ 4611686018427387904) : Calls Tryz.prog 53 #[.pointer (some ⟨b, 0, none⟩)] w fun e w' =>
    e = .returned (.int .i64 (syncD d).2) ∧ Hd X (m + 1) w' b (syncD d).1 ∧ KeepX X w w' := by
  obtain ⟨F, h1, h2⟩ := h.own
  refine (sync_any h1 (h.num_ hm) h.fit).mono ?_
  rintro e w' ⟨rfl, h3, h4⟩
  exact ⟨rfl, h.step h2 h3 h4 (fun i hi => Or.inl hi) h.fit.sync h.num.sync⟩
set_option maxRecDepth 100000 in
theorem hbad (h : Hd X m w b d) (hm : m ≤ 4611686018427387904) (n : Int) (x : Bool) : Calls Tryz.prog 13 #[.pointer (some ⟨b, 0, none⟩), .int .i64 n, .bool x] w fun e w' =>
    e = .returned (.int .i64 (badD d n x).2) ∧ Hd X (m + 1) w' b (badD d n x).1 ∧ KeepX X w w' := by
  obtain ⟨F, h1, h2⟩ := h.own
  refine (bad_any h1 (h.num_ hm) h.fit n x).mono ?_
  rintro e w' ⟨rfl, h3, h4⟩
  exact ⟨rfl, h.step h2 h3 h4 (fun i hi => Or.inl hi) (h.fit.bad n x) (h.num.bad n x)⟩
set_option maxRecDepth 100000 in
theorem harm (h : Hd X m w b d) (n : Int) (hn : n ≤ 9223372036854775807) (keep : ByteArray) : Calls Tryz.prog 11 #[.pointer (some ⟨b, 0, none⟩), .int .i64 n, .string keep] w fun e w' =>
    e = .returned (.int .i64 (armD d n keep).2) ∧ Hd X m w' b (armD d n keep).1 ∧ KeepX X w w' := by
  obtain ⟨F, h1, h2⟩ := h.own
  refine (arm_any h1 n keep).mono ?_
  rintro e w' ⟨rfl, h3, h4⟩
  exact ⟨rfl, h.step h2 h3 h4 (fun i hi => Or.inl hi) (h.fit.arm n keep) (h.num.arm n hn keep)⟩
set_option maxRecDepth 100000 in
theorem hcrash (h : Hd X m w b d) (keep : ByteArray) : Calls Tryz.prog 15 #[.pointer (some ⟨b, 0, none⟩), .string keep] w fun e w' =>
    e = .returned (.int .i64 (crashD d keep).2) ∧ Hd X m w' b (crashD d keep).1 ∧ KeepX X w w' := by
  obtain ⟨F, h1, h2⟩ := h.own
  refine (crash_any h1 h.fit keep).mono ?_
  rintro e w' ⟨rfl, h3, h4⟩
  exact ⟨rfl, h.step h2 h3 h4 (fun i hi => Or.inl hi) (h.fit.crash keep) (h.num.crash keep)⟩
set_option maxRecDepth 100000 in
theorem hrevive (h : Hd X m w b d) : Calls Tryz.prog 17 #[.pointer (some ⟨b, 0, none⟩)] w fun e w' =>
    e = .returned (.tuple #[]) ∧ Hd X m w' b (reviveD d) ∧ KeepX X w w' := by
  obtain ⟨F, h1, h2⟩ := h.own
  refine (revive_any h1).mono ?_
  rintro e w' ⟨rfl, h3, h4⟩
  exact ⟨rfl, h.step h2 h3 h4 (fun i hi => Or.inl hi) h.fit.revive h.num.revive⟩
set_option maxRecDepth 100000 in
theorem hnew (w : World) (n : Nat) (h1 : 1 ≤ n) (h2 : n ≤ 16384) : Calls Tryz.prog 29 #[.int .i64 (n : Int)] w fun e w' => ∃ b, e = .returned (.tuple #[.pointer (some ⟨b, 0, none⟩), .int .i64 0]) ∧ Hd (fun i => i < w.heap.size) 0 w' b (newD n) ∧ Below w.heap.size w w' := by
  refine (new_any w n h1 h2).mono ?_
  rintro e w' ⟨F, b, rfl, hd, hF, hb⟩
  exact ⟨b, rfl, ⟨⟨F, hd, fun i hi hx => by have := hF i hi; omega⟩, fun i hi => Nat.lt_of_lt_of_le hi hb.size, newD_fit ⟨h1, h2⟩, NumTo.new n⟩, hb⟩
end
end Go.Proofs.YtkghlbpkdkonbaaGreat.Disk
/- Clone. -/
namespace Go.Proofs.YtkghlbpkdkonbaaGreat.Disk
open Go Go.RowKit Go.Maps Mem Go.Shelf

set_option maxRecDepth 100000 in
set_option maxHeartbeats 2000000 in
theorem clone_mapS (b : Nat) (es : Array MapEntry) (clock : Nat) (w : World) (hb : w.heap[b]? = some (.map es clock)) :
    Calls Tryz.prog 69 #[.map (some b)] w fun e w' => e = .returned (.map (some w.heap.size)) ∧ w' = w.alloc (.map es clock) := by
  have hq := fun w => run_eql_map_nil_sl (P := Tryz.prog) w 86 _ _ (some b) Tryz.underlying86
  go_enter Tryz.func69, Tryz.ntmps69
  go_wp2_with fail
  rw [run_callFunc_extern Tryz.func92 (by kernel_rfl) (by kernel_rfl) (by kernel_rfl) (e := Extern.MapsClone.clone) (by kernel_rfl), run_maps_clone_sl w 86 hb]
  simp only [Result.andThen]
  rw [Oper.upon_value]
  go_wp2_with fail
  rw [run_typeAssert_map_sl _ 86 20 _ _ _ Tryz.underlying86]
  simp only [Result.andThen]
  rw [Oper.upon_value]
  go_wp2_with fail
  go_ret
  exact ⟨rfl, rfl⟩
set_option maxRecDepth 100000 in
set_option maxHeartbeats 2000000 in
theorem clone_mapB (b : Nat) (es : Array MapEntry) (clock : Nat) (w : World) (hb : w.heap[b]? = some (.map es clock)) :
    Calls Tryz.prog 70 #[.map (some b)] w fun e w' => e = .returned (.map (some w.heap.size)) ∧ w' = w.alloc (.map es clock) := by
  have hq := fun w => run_eql_map_nil_sl (P := Tryz.prog) w 87 _ _ (some b) Tryz.underlying87
  go_enter Tryz.func70, Tryz.ntmps70
  go_wp2_with fail
  rw [run_callFunc_extern Tryz.func92 (by kernel_rfl) (by kernel_rfl) (by kernel_rfl) (e := Extern.MapsClone.clone) (by kernel_rfl), run_maps_clone_sl w 87 hb]
  simp only [Result.andThen]
  rw [Oper.upon_value]
  go_wp2_with fail
  rw [run_typeAssert_map_sl _ 87 20 _ _ _ Tryz.underlying87]
  simp only [Result.andThen]
  rw [Oper.upon_value]
  go_wp2_with fail
  go_ret
  exact ⟨rfl, rfl⟩
section
variable {w w' : World} {b m : Nat} {L : List (Nat × ByteArray)} {bad : Nat → Bool}
set_option maxRecDepth 100000 in
theorem cloneS (h : MapS w b L) : Calls Tryz.prog 69 #[.map (some b)] w fun e w' => ∃ g, e = .returned (.map (some g)) ∧ MapS w' g L ∧ Below w.heap.size w w' ∧ w.heap.size ≤ g := by
  obtain ⟨D, ⟨es, clock, hb, F, hs, hD⟩, r⟩ := h
  refine (clone_mapS b es clock w hb).mono ?_
  rintro e w' ⟨rfl, rfl⟩
  exact ⟨_, rfl, ⟨D, ⟨es, clock, (MapKept.heap_alloc w _).1, F, hs, hD⟩, r⟩, (Below.refl _ w).alloc (Nat.le_refl _) _, Nat.le_refl _⟩
set_option maxRecDepth 100000 in
theorem cloneB (h : MapB w b m bad) : Calls Tryz.prog 70 #[.map (some b)] w fun e w' => ∃ g, e = .returned (.map (some g)) ∧ MapB w' g m bad ∧ Below w.heap.size w w' ∧ w.heap.size ≤ g := by
  obtain ⟨D, ⟨es, clock, hb, F, hs, hD⟩, r⟩ := h
  refine (clone_mapB b es clock w hb).mono ?_
  rintro e w' ⟨rfl, rfl⟩
  exact ⟨_, rfl, ⟨D, ⟨es, clock, (MapKept.heap_alloc w _).1, F, hs, hD⟩, r⟩, (Below.refl _ w).alloc (Nat.le_refl _) _, Nat.le_refl _⟩
end
section
variable {w : World}
set_option maxRecDepth 100000 in
theorem own_base {base base' n sz : Nat} {e : TypeId} {v : Value} {xs : List Value} (h : w.ownsRow base e sz v n xs) (hb : base' ≤ base) : w.ownsRow base' e sz v n xs := by
  refine ⟨h.1, ?_⟩
  rcases h.2 with h1 | ⟨g, cap, cur, rfl, hg, rest⟩
  · exact Or.inl h1
  · exact Or.inr ⟨g, cap, cur, rfl, Nat.le_trans hb hg, rest⟩
set_option maxRecDepth 100000 in
theorem cells_of_own {n : Nat} {e : TypeId} {base g c : Nat} {us : List Value} (h : w.ownsRow base e 1 (.slice (some ⟨g, 0, none⟩) n c) n us) (j : Nat) (u : Value) (hu : us[j]? = some u) : w.cell? ⟨g, 0 + j, none⟩ = some u := by
  have := h.cells (g := g) rfl j u hu
  rwa [add_lit] at this
set_option maxRecDepth 100000 in
theorem clone_strs {base g n c : Nat} {l : List ByteArray} (h : w.ownsRow base 9 1 (.slice (some ⟨g, 0, none⟩) n c) n (l.map Value.string)) (h1 : 1 ≤ n) (h2 : n * 16 ≤ 140737488355328) :
    Calls Tryz.prog 67 #[.slice (some ⟨g, 0, none⟩) n c] w fun e w' => ∃ g' c', e = .returned (.slice (some ⟨g', 0, none⟩) n c') ∧ w'.ownsRow w.heap.size 9 1 (.slice (some ⟨g', 0, none⟩) n c') n (l.map Value.string) ∧ Below w.heap.size w w' := by
  have hl : l.length = n := by have := h.1; simpa using this
  refine (Tryz.slices_Clone_string g 0 n c l w (by omega) h2 (fun j hj => cells_of_own h j _ (by rw [List.getElem?_map, List.getElem?_eq_getElem hj, List.getD_eq_getElem?_getD, List.getElem?_eq_getElem hj]; rfl))).mono ?_
  rintro e w' ⟨v', rfl, ho, _, hb⟩
  rw [List.take_of_length_le (by omega)] at ho
  obtain ⟨g', c', hv, _⟩ := ho.form (by omega)
  subst hv
  exact ⟨g', c', rfl, ho, hb⟩
set_option maxRecDepth 100000 in
theorem clone_ints {base n : Nat} {v : Value} {l : List Int} (h : w.ownsRow base 3 1 v n (l.map (Value.int .i64))) (h2 : n * 8 ≤ 140737488355328) :
    Calls Tryz.prog 68 #[v] w fun e w' => ∃ A' c', e = .returned (.slice A' n c') ∧ w'.ownsRow w.heap.size 3 1 (.slice A' n c') n (l.map (Value.int .i64)) ∧ Below w.heap.size w w' := by
  have hl : l.length = n := by have := h.1; simpa using this
  rcases h.2 with ⟨rfl, hn⟩ | ⟨g, cap, cur, rfl, _⟩
  · subst hn
    refine (Tryz.slices_Clone_int_nil 0 0 w).mono ?_
    rintro e w' ⟨rfl, rfl⟩
    exact ⟨_, _, rfl, ⟨h.1, Or.inl ⟨rfl, rfl⟩⟩, Below.refl _ _⟩
  · refine (Tryz.slices_Clone_int g 0 n cap l w (by omega) h2 (fun j hj => cells_of_own h j _ (by rw [List.getElem?_map, List.getElem?_eq_getElem hj, List.getD_eq_getElem?_getD, List.getElem?_eq_getElem hj]; rfl))).mono ?_
    rintro e w' ⟨v', rfl, ho, _, hb⟩
    rw [List.take_of_length_le (by omega)] at ho
    obtain ⟨A', c', rfl⟩ := own_slice ho
    exact ⟨A', c', rfl, ho, hb⟩
end
end Go.Proofs.YtkghlbpkdkonbaaGreat.Disk
/- Clone: the walk. -/
namespace Go.Proofs.YtkghlbpkdkonbaaGreat.Disk
open Go Go.RowKit Go.Maps Mem Go.Shelf

def ordI (d : Dk) : List Int := d.L.map fun p => (p.1 : Int)
set_option maxRecDepth 100000 in
theorem ordI_eq (d : Dk) : (d.L.map fun p => Value.int .i64 (p.1 : Int)) = (ordI d).map (Value.int .i64) := by unfold ordI; rw [List.map_map]; rfl
set_option maxRecDepth 100000 in
theorem below_blk {w w' : World} {g : Nat} {t : TypeId} {cs : Array Value} (h : Blk w g t cs) (hb : Below w.heap.size w w') : Blk w' g t cs := h.below hb h.lt
set_option maxRecDepth 100000 in
theorem own_up {w w' : World} {base n sz : Nat} {e : TypeId} {v : Value} {xs : List Value} (h : w.ownsRow base e sz v n xs) (hb : Below w.heap.size w w') : w'.ownsRow base e sz v n xs := own_keeps h (Keeps.of_below (fun _ => False) hb) (fun _ _ h => h)
set_option maxRecDepth 100000 in
theorem drewB' (w : World) : Below w.heap.size w w.drew := (Below.refl _ w).drew
set_option maxRecDepth 100000 in
/-- a store into one's own block leaves a row elsewhere -/
theorem own_far {w : World} {base n sz P i : Nat} {e : TypeId} {v u : Value} {xs : List Value} (h : w.ownsRow base e sz v n xs) (hn : ∀ j, v.ownBlock = some j → j ≠ P) : (w.setCell ⟨P, i, none⟩ u).ownsRow base e sz v n xs :=
  own_keeps h ((Keeps.refl (fun j => j = P) w).put (g := P) (Or.inl rfl) i u) hn
set_option maxRecDepth 100000 in
theorem MapS.far {w : World} {b P i : Nat} {L : List (Nat × ByteArray)} {u : Value} (h : MapS w b L) (hn : b ≠ P) : MapS (w.setCell ⟨P, i, none⟩ u) b L := h.keeps ((Keeps.refl (fun j => j = P) w).put (g := P) (Or.inl rfl) i u) hn
set_option maxRecDepth 100000 in
theorem MapB.far {w : World} {b m P i : Nat} {bad : Nat → Bool} {u : Value} (h : MapB w b m bad) (hn : b ≠ P) : MapB (w.setCell ⟨P, i, none⟩ u) b m bad := h.keeps ((Keeps.refl (fun j => j = P) w).put (g := P) (Or.inl rfl) i u) hn

section
variable {F : Nat → Prop} {w : World} {b : Nat} {d : Dk}
set_option maxRecDepth 100000 in
set_option maxHeartbeats 8000000 in
theorem clone_any (h : IsDk F w b d) (hf : Fit d) : Calls Tryz.prog 22 #[.pointer (some ⟨b, 0, none⟩)] w fun e w' =>
    ∃ F2 b2, e = .returned (.pointer (some ⟨b2, 0, none⟩)) ∧ IsDk F2 w' b2 d ∧ (∀ i, F2 i → w.heap.size ≤ i) ∧ Below w.heap.size w w' := by
  obtain ⟨sb, lb, bb, sc, ov, h⟩ := h.core
  obtain ⟨A, oc, rfl⟩ := own_slice h.2.2.2.2.1
  obtain ⟨h1, h2, h3, h4, h5, h6, h7, h8, h9⟩ := h
  have hfew := hf.few
  have hL := hf.len
  have c0 : w.cell? ⟨b, 0, none⟩ = some (.slice (some ⟨sb, 0, none⟩) d.stays.length sc) := h1.cell 0
  have c1 : w.cell? ⟨b, 1, none⟩ = some (.map (some lb)) := h1.cell 1
  have c2 : w.cell? ⟨b, 2, none⟩ = some (.slice A d.L.length oc) := h1.cell 2
  have c3 : w.cell? ⟨b, 3, none⟩ = some (.map (some bb)) := h1.cell 3
  have c4 : w.cell? ⟨b, 4, none⟩ = some (.int .i64 (d.steps : Int)) := h1.cell 4
  have c5 : w.cell? ⟨b, 5, none⟩ = some (.int .i64 (d.armed : Int)) := h1.cell 5
  have c6 : w.cell? ⟨b, 6, none⟩ = some (.string d.keep) := h1.cell 6
  have c7 : w.cell? ⟨b, 7, none⟩ = some (.bool d.dead) := h1.cell 7
  rw [ordI_eq] at h5
  obtain ⟨N, hN⟩ : ∃ N, N = d.stays.length := ⟨_, rfl⟩
  obtain ⟨M, hM⟩ : ∃ M, M = d.L.length := ⟨_, rfl⟩
  rw [← hN] at c0 h2 hfew
  rw [← hM] at c2 h5 hL
  have hbl := h1.lt
  replace h1 := Lib.hid h1
  replace h2 := Lib.hid h2
  replace h3 := Lib.hid h3
  replace h4 := Lib.hid h4
  replace h5 := Lib.hid h5
  replace hN := Lib.hid hN
  replace hM := Lib.hid hM
  clear h6 h7 h8 h9 hf
  go_enter Tryz.func22, Tryz.ntmps22
  go_upto_region 2 with fail
  obtain ⟨P, hP⟩ : ∃ P, P = w.heap.size := ⟨_, rfl⟩
  obtain ⟨W, hW⟩ : ∃ W, W = w.alloc (.cells #[.slice (some ⟨sb, 0, none⟩) N sc, .map (some lb), .slice A M oc, .map (some bb), .int .i64 (d.steps : Int), .int .i64 (d.armed : Int), .string d.keep, .bool d.dead] 89) := ⟨_, rfl⟩
  have hWb : Below w.heap.size w W := by rw [hW]; exact (Below.refl _ w).alloc (Nat.le_refl _) _
  have hB : Blk W P 89 #[.slice (some ⟨sb, 0, none⟩) N sc, .map (some lb), .slice A M oc, .map (some bb), .int .i64 (d.steps : Int), .int .i64 (d.armed : Int), .string d.keep, .bool d.dead] := by rw [hW, hP]; exact Blk.new w _ _
  rw [← hW, ← hP]
  have hPb : P ≠ b := by omega
  have hb0 : Below w.heap.size w W.drew := hWb.drew
  have hs0 : w.heap.size ≤ W.drew.heap.size := hb0.size
  have hB0 : Blk W.drew P 89 #[.slice (some ⟨sb, 0, none⟩) N sc, .map (some lb), .slice A M oc, .map (some bb), .int .i64 (d.steps : Int), .int .i64 (d.armed : Int), .string d.keep, .bool d.dead] := hB
  have o1 := own_up h2.out hb0
  have o2 := own_up h5.out hb0
  have hD0 := below_blk h1.out hb0
  have c0 : W.drew.cell? ⟨b, 0, none⟩ = some (.slice (some ⟨sb, 0, none⟩) N sc) := by rw [hN.out]; exact hD0.cell 0
  have c2 : W.drew.cell? ⟨b, 2, none⟩ = some (.slice A M oc) := by rw [hM.out]; exact hD0.cell 2
  have hPw : w.heap.size ≤ P := Nat.le_of_eq hP.symm
  clear hW hP hWb hB c1 c3 c4 c5 c6 c7
  have hPl := hB0.lt
  have kS := clone_strs o1 (by omega) (by omega)
  go_region_held3 (fun w' => w'.cell? ⟨b, 0, none⟩ = some (.slice (some ⟨sb, 0, none⟩) N sc) ∧ w'.cell? ⟨b, 2, none⟩ = some (.slice A M oc))
    (first
      | exact ⟨c0, c2⟩
      | exact ⟨n0, n2⟩
      | exact ⟨m0, m2⟩
      | go_keep)
    (first
      | (go_at_call 67; refine kS.mono ?_; rintro e w1 ⟨g1, k1, rfl, p1, b1⟩; have hD1 := below_blk hD0 b1; have hB1 := below_blk hB0 b1; have o21 := own_up o2 b1; obtain ⟨n0, n2⟩ := And.intro ((b1.cell (p := ⟨b, 0, none⟩) hD0.lt).trans c0) ((b1.cell (p := ⟨b, 2, none⟩) hD0.lt).trans c2))
      | (go_at_call 68; refine (clone_ints o21 (by omega)).mono ?_; rintro e w2 ⟨A2, k2, rfl, p2, b2⟩; have hD2 := below_blk hD1 b2; have hB2 := below_blk hB1 b2; have p12 := own_up p1 b2; obtain ⟨m0, m2⟩ := And.intro ((b2.cell (p := ⟨b, 0, none⟩) hD1.lt).trans n0) ((b2.cell (p := ⟨b, 2, none⟩) hD1.lt).trans n2); have q0 : w2.cell? ⟨P, 0, none⟩ = some (.slice (some ⟨sb, 0, none⟩) N sc) := hB2.cell 0; have f0 := hB2.free 0; have q2 : (w2.setCell ⟨P, 0, none⟩ (.slice (some ⟨g1, 0, none⟩) N k1)).cell? ⟨P, 2, none⟩ = some (.slice A M oc) := (hB2.put 0 _).cell 2; have f2 := hB2.free 2; have q3 : w2.cell? ⟨P, 2, none⟩ = some (.slice A M oc) := hB2.cell 2))
  have b02 := ((hb0.trans (b1.mono hs0)).trans (b2.mono (Nat.le_trans hs0 b1.size)))
  have pS := own_far (i := 2) (u := .slice A2 M k2) (own_far (i := 0) (u := .slice (some ⟨g1, 0, none⟩) N k1) p12 (P := P) (own_ne p12 hB2 (by decide))) (P := P) (own_ne p12 hB2 (by decide))
  have pO := own_far (i := 2) (u := .slice A2 M k2) (own_far (i := 0) (u := .slice (some ⟨g1, 0, none⟩) N k1) p2 (P := P) (own_ne p2 hB2 (by decide))) (P := P) (own_ne p2 hB2 (by decide))
  have hBV : Blk ((w2.setCell ⟨P, 0, none⟩ (.slice (some ⟨g1, 0, none⟩) N k1)).setCell ⟨P, 2, none⟩ (.slice A2 M k2)) P 89 #[.slice (some ⟨g1, 0, none⟩) N k1, .map (some lb), .slice A2 M k2, .map (some bb), .int .i64 (d.steps : Int), .int .i64 (d.armed : Int), .string d.keep, .bool d.dead] := (hB2.put 0 _).put 2 _
  have hbV := (b02.setCell (p := ⟨P, 0, none⟩) hPw (.slice (some ⟨g1, 0, none⟩) N k1)).setCell (p := ⟨P, 2, none⟩) hPw (.slice A2 M k2)
  have bs2 : w.heap.size ≤ W.drew.heap.size := hs0
  replace pS := own_base pS (base' := 0) (Nat.zero_le _)
  replace pO := own_base pO (base' := 0) (Nat.zero_le _)
  have g1w : w.heap.size ≤ g1 := Nat.le_trans hs0 (p1.lt g1 rfl).1
  have a2w : ∀ j, (Value.slice A2 M k2).ownBlock = some j → w.heap.size ≤ j := fun j e => Nat.le_trans (Nat.le_trans hs0 b1.size) (p2.lt j e).1
  clear q0 q2 q3 f0 f2 n0 n2 m0 m2 c0 c2 hB0 hB1 hB2 hD0 hD1 hD2 o1 o2 o21 p1 p12 p2 kS b02 b1 b2 hb0 hs0 hPl bs2
  generalize (w2.setCell ⟨P, 0, none⟩ (.slice (some ⟨g1, 0, none⟩) N k1)).setCell ⟨P, 2, none⟩ (.slice A2 M k2) = V at *
  have hDV := below_blk h1.out hbV.drew
  have mS := h3.out.keeps (Keeps.of_below (fun _ => False) hbV.drew) (fun h => h)
  have mB := h4.out.keeps (Keeps.of_below (fun _ => False) hbV.drew) (fun h => h)
  replace hbV := hbV.drew
  have hsV := hbV.size
  replace pS := own_up pS (drewB' V)
  replace pO := own_up pO (drewB' V)
  replace hBV := below_blk hBV (drewB' V)
  have c1 : V.drew.cell? ⟨b, 1, none⟩ = some (.map (some lb)) := hDV.cell 1
  have c3 : V.drew.cell? ⟨b, 3, none⟩ = some (.map (some bb)) := hDV.cell 3
  replace a2w := Lib.hid a2w
  go_wp2_with fail
  go_region_held3 (fun w' => w'.cell? ⟨b, 1, none⟩ = some (.map (some lb)) ∧ w'.cell? ⟨b, 3, none⟩ = some (.map (some bb)))
    (first
      | exact ⟨c1, c3⟩
      | exact ⟨n1, n3⟩
      | exact ⟨m1, m3⟩
      | go_keep)
    (first
      | (go_at_call 69; refine (cloneS mS).mono ?_; rintro e w3 ⟨gS, rfl, mS3, b3, l3⟩; have mB3 := mB.keeps (Keeps.of_below (fun _ => False) b3) (fun h => h); have hB3 := below_blk hBV b3; obtain ⟨n1, n3⟩ := And.intro ((b3.cell (p := ⟨b, 1, none⟩) hDV.lt).trans c1) ((b3.cell (p := ⟨b, 3, none⟩) hDV.lt).trans c3); have hD3 := below_blk hDV b3; have hb3 := hbV.trans (b3.mono hsV); have pS3 := own_up pS b3; have pO3 := own_up pO b3)
      | (go_at_call 70; refine (cloneB mB3).mono ?_; rintro e w4 ⟨gB, rfl, mB4, b4, l4⟩; have mS4 := mS3.keeps (Keeps.of_below (fun _ => False) b4) (fun h => h); have hB4 := below_blk hB3 b4; obtain ⟨m1, m3⟩ := And.intro ((b4.cell (p := ⟨b, 1, none⟩) hD3.lt).trans n1) ((b4.cell (p := ⟨b, 3, none⟩) hD3.lt).trans n3); have hb4 := hb3.trans (b4.mono hb3.size); have pS4 := own_up pS3 b4; have pO4 := own_up pO3 b4; have q1 : w4.cell? ⟨P, 1, none⟩ = some (.map (some lb)) := hB4.cell 1; have f1 := hB4.free 1; have q3 : w4.cell? ⟨P, 3, none⟩ = some (.map (some bb)) := hB4.cell 3; have f3 := hB4.free 3))
  have hgS := mS3.lt
  have hgB := mB4.lt
  have hPl3 := hBV.lt
  have hPS : gS ≠ P := by omega
  have hPB : gB ≠ P := by have := b3.size; omega
  have hSB : gS ≠ gB := by omega
  have hgS2 : w.heap.size ≤ gS := by omega
  have hgB2 : w.heap.size ≤ gB := by have := b3.size; omega
  have pS5 := own_far (i := 3) (u := .map (some gB)) (own_far (i := 1) (u := .map (some gS)) pS4 (P := P) (own_ne pS4 hB4 (by decide))) (P := P) (own_ne pS4 hB4 (by decide))
  have pO5 := own_far (i := 3) (u := .map (some gB)) (own_far (i := 1) (u := .map (some gS)) pO4 (P := P) (own_ne pO4 hB4 (by decide))) (P := P) (own_ne pO4 hB4 (by decide))
  have mS5 := (mS4.far (i := 1) (u := .map (some gS)) hPS).far (i := 3) (u := .map (some gB)) hPS
  have mB5 := (mB4.far (i := 1) (u := .map (some gS)) hPB).far (i := 3) (u := .map (some gB)) hPB
  have hB5 : Blk ((w4.setCell ⟨P, 1, none⟩ (.map (some gS))).setCell ⟨P, 3, none⟩ (.map (some gB))) P 89 #[.slice (some ⟨g1, 0, none⟩) N k1, .map (some gS), .slice A2 M k2, .map (some gB), .int .i64 (d.steps : Int), .int .i64 (d.armed : Int), .string d.keep, .bool d.dead] := (hB4.put 1 _).put 3 _
  have hb5 := (hb4.setCell (p := ⟨P, 1, none⟩) hPw (.map (some gS))).setCell (p := ⟨P, 3, none⟩) hPw (.map (some gB))
  have hG5 := hb4.size
  clear q1 q3 f1 f3 n1 n3 m1 m3 c1 c3 hDV hD3 mS mB mS3 mB3 mS4 mB4 pS pO pS3 pO3 pS4 pO4 hBV hB3 hB4 hb3 hb4 hbV hsV b3 b4 l3 l4 hgS hPl3 hPB hPS hPb h1 h2 h3 h4 h5
  have hlS := mS5.lt
  have hlB := mB5.lt
  have hl1 := (pS5.lt g1 rfl).2
  have hlO := fun j e => (pO5.lt j e).2
  have hlP := hB5.lt
  generalize (w4.setCell ⟨P, 1, none⟩ (.map (some gS))).setCell ⟨P, 3, none⟩ (.map (some gB)) = U at *
  replace hlO := Lib.hid hlO
  replace pS5 := Lib.hid pS5
  replace pO5 := Lib.hid pO5
  replace mS5 := Lib.hid mS5
  replace mB5 := Lib.hid mB5
  replace hB5 := Lib.hid hB5
  go_wp2_with fail
  go_ret
  refine ⟨fun i => w.heap.size ≤ i ∧ i < U.heap.size, P, rfl, ⟨g1, gS, gB, k1, .slice A2 M k2, ?_, ?_, mS5.out, mB5.out, ?_, hSB, ⟨⟨hPw, hlP⟩, ⟨g1w, hl1⟩, ⟨hgS2, hlS⟩, ⟨hgB2, hlB⟩⟩, fun j e => ⟨a2w.out j e, hlO.out j e⟩, fun i hi => hi.2⟩, fun i hi => hi.1, hb5⟩
  · rw [← hN.out]; exact hB5.out
  · rw [← hN.out]; exact pS5.out
  · rw [← hM.out, ordI_eq]; exact pO5.out
end
end Go.Proofs.YtkghlbpkdkonbaaGreat.Disk

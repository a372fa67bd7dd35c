/- A map from numbers to blocks of entries, in memory. -/
import Derived.Test.YtajlfmnjibgbaaaGreatDoorDiskMm
import Derived.Test.YtajlfmnjibgbaaaGreatDoorBlkPl
import Derived.BigRegion
import Derived.Deep.QuietTactic
import Derived.BigQuiet
import Derived.Deep.DeepCutAuto
namespace Go.Proofs.YtajlfmnjibgbaaaGreatDoor.Vl
open Go Go.RowKit Go.Maps Mem Disk
open Go.MapKept (stamped_empty)
open Go.ChangeMaps (heap_setBlock_same)

/-- an entry's pointer, as a number -/
def rdE : Value → Option (DataW Unit × List MemPlace)
  | .pointer (some ⟨g, 0, none⟩) => some (.lit (.int .i64 (g : Int)), [])
  | .pointer none => some (.lit (.int .i64 (-1)), [])
  | _ => none
set_option maxRecDepth 100000 in
theorem rdE_inv {v : Value} {z : DataW Unit × List MemPlace} (h : rdE v = some z) : (∃ g : Nat, v = .pointer (some ⟨g, 0, none⟩) ∧ z = (.lit (.int .i64 (g : Int)), [])) ∨ (v = .pointer none ∧ z = (.lit (.int .i64 (-1)), [])) := by
  unfold rdE at h
  split at h
  · injection h with h; exact Or.inl ⟨_, rfl, h.symm⟩
  · injection h with h; exact Or.inr ⟨rfl, h.symm⟩
  · cases h
set_option maxRecDepth 100000 in
theorem litE {x y : Int} (h : (DataW.lit (.int .i64 x) : DataW Unit) = .lit (.int .i64 y)) : x = y := by
  injection h with h
  injection h
def ptrE : Option Nat → Value
  | some g => .pointer (some ⟨g, 0, none⟩)
  | none => .pointer none
set_option maxRecDepth 100000 in
theorem zeroE (w : World) : (zeroValue 126).run Tryz.prog w = .ok (.pointer none) w := by kernel_rfl
/-- block b is a map of n entries: M -/
def MapE (w : World) (b n : Nat) (M : Nat → Option Nat) : Prop :=
  ∃ D : DataW Unit, w.ownsMap Tryz.prog 3 rdE b n D ∧ Maps.size D = n ∧ (∀ kl, Maps.has D kl = true ↔ ∃ k, kl = kI k ∧ (M k).isSome = true) ∧ ∀ k g, M k = some g → ∀ zd, D.atKey (kI k) zd = .lit (.int .i64 (g : Int))
section
variable {w w' : World} {b n : Nat} {M : Nat → Option Nat}
set_option maxRecDepth 100000 in
theorem MapE.lt (h : MapE w b n M) : b < w.heap.size := by obtain ⟨D, h, _⟩ := h; exact h.lt
set_option maxRecDepth 100000 in
theorem MapE.keeps {F : Nat → Prop} (h : MapE w b n M) (k : Keeps F w w') (hn : ¬ F b) : MapE w' b n M := by obtain ⟨D, h, r⟩ := h; exact ⟨D, map_keeps h k hn, r⟩
set_option maxRecDepth 100000 in
theorem MapE.new (w : World) : MapE (w.alloc (.map #[] 0)) w.heap.size 0 (fun _ => none) :=
  ⟨.map [], World.ownsMap_made _ _ _ _, rfl, fun kl => ⟨(fun h => by cases h), (fun ⟨n, _, h⟩ => by cases h)⟩, (fun n s h => by cases h)⟩
set_option maxRecDepth 100000 in
theorem MapE.ne_blk (h : MapE w b n M) {g : Nat} {t : TypeId} {cs : Array Value} (hB : Blk w g t cs) : g ≠ b := by
  obtain ⟨D, ⟨es, clock, hb, _⟩, _⟩ := h
  intro e
  subst e
  have : some (Obj.cells cs t (0, 0)) = some (Obj.map es clock) := hB.symm.trans hb
  cases this
set_option maxRecDepth 100000 in
theorem MapE.eq {M' : Nat → Option Nat} (h : MapE w b n M) (e : ∀ k, M k = M' k) : MapE w b n M' := by rw [← funext e]; exact h
set_option maxRecDepth 100000 in
theorem MapE.len (h : MapE w b n M) (ty : TypeId) : (Builtin.len_ #[128] ty #[.map (some b)]).run Tryz.prog w = .ok (.int .i64 (n : Int)) w := by
  obtain ⟨D, ho, hs, _⟩ := h
  have := ho.len Tryz.underlying128 ty
  rwa [hs] at this
set_option maxRecDepth 100000 in
theorem MapE.look (h : MapE w b n M) (k : Nat) (hk : k ≤ 9223372036854775807) :
    (Instr.lookup 128 (.map (some b)) (.int .i64 (k : Int)) true).run Tryz.prog w = .ok (.tuple #[ptrE (M k), .bool (M k).isSome]) w := by
  obtain ⟨D, ho, _, hh, ha⟩ := h
  obtain ⟨v, ps, hrun, hv⟩ := ho.look_ok keyI Tryz.underlying128 (zeroE w) (zd := .lit (.int .i64 (-1))) (zp := []) rfl (kI_of hk)
  have hb : Maps.has D (kI k) = (M k).isSome := by
    rw [Bool.eq_iff_iff, hh]
    exact ⟨fun ⟨j, hj, hs⟩ => by rw [kI_inj hj]; exact hs, fun hs => ⟨k, rfl, hs⟩⟩
  rw [hrun, hb]
  have key : v = ptrE (M k) := by
    cases hm : M k with
    | some g =>
      rw [ha k g hm] at hv
      rcases rdE_inv hv with ⟨g', rfl, e⟩ | ⟨rfl, e⟩
      · have := litE (congrArg Prod.fst e)
        rw [show g = g' by omega]
        rfl
      · have := litE (congrArg Prod.fst e)
        omega
    | none =>
      rw [atKey_of_not_has (by rw [hb, hm]; rfl)] at hv
      rcases rdE_inv hv with ⟨g', rfl, e⟩ | ⟨rfl, e⟩
      · have := litE (congrArg Prod.fst e)
        omega
      · rfl
  rw [key]
set_option maxRecDepth 100000 in
theorem MapE.store (h : MapE w b n M) (k : Nat) (hk : k ≤ 9223372036854775807) (g : Nat) (hn : n < 9223372036854775807) (hno : M k = none) :
    ∃ w', (Instr.mapUpdate 128 (.map (some b)) (.int .i64 (k : Int)) (.pointer (some ⟨g, 0, none⟩))).run Tryz.prog w = .ok () w' ∧ MapE w' b (n + 1) (upd M k (some g)) ∧ w.grownBy w' (some b) := by
  obtain ⟨D, ho, hs, hh, ha⟩ := h
  have hkl : WideAt.IsKeyLit (kI k) := trivial
  have hT := ho.tidy keyI
  obtain ⟨w', hrun, ho', ht⟩ := ho.store keyI Tryz.underlying128 (by unfold maxLen; exact hn) (kI_of hk) (show rdE (.pointer (some ⟨g, 0, none⟩)) = some (.lit (.int .i64 (g : Int)), []) from rfl)
  have hb : Maps.has D (kI k) = false := by
    cases hq : Maps.has D (kI k) with
    | false => rfl
    | true =>
      obtain ⟨j, hj, h2⟩ := (hh _).1 hq
      rw [← kI_inj hj, hno] at h2
      cases h2
  have hsz : Maps.size (D.put (kI k) (.lit (.int .i64 (g : Int)))) = n + 1 := by
    rw [size_put hT, hb, hs]
    rfl
  refine ⟨w', hrun, ⟨_, hsz ▸ map_tight ho', hsz, fun kl => ?_, fun j t hj zd => ?_⟩, ht.grown⟩
  · by_cases e : kl = kI k
    · subst e
      rw [has_put_same ho.isMap hkl]
      exact ⟨fun _ => ⟨k, rfl, by rw [upd_same]; rfl⟩, fun _ => rfl⟩
    · rw [has_put_other e, hh]
      constructor
      · rintro ⟨j, rfl, hs⟩
        exact ⟨j, rfl, by rw [upd_other _ _ (fun h => e (by rw [h]))]; exact hs⟩
      · rintro ⟨j, rfl, hs⟩
        exact ⟨j, rfl, by rwa [upd_other _ _ (fun h => e (by rw [h]))] at hs⟩
  · by_cases e : j = k
    · subst e
      rw [upd_same] at hj
      injection hj with hj
      rw [atKey_put_same ho.isMap hkl, hj]
    · rw [upd_other _ _ e] at hj
      rw [atKey_put_other (fun h => e (kI_inj h))]
      exact ha j t hj zd
set_option maxRecDepth 100000 in
theorem MapE.drop (h : MapE w b n M) (k : Nat) (hk : k ≤ 9223372036854775807) (hyes : (M k).isSome = true) :
    ∃ w', (∀ ty, (Builtin.delete_ #[128, 3] ty #[.map (some b), .int .i64 (k : Int)]).run Tryz.prog w = .ok (.tuple #[]) w') ∧ MapE w' b (n - 1) (upd M k none) ∧ w.grownBy w' (some b) := by
  obtain ⟨D, ho, hs, hh, ha⟩ := h
  have hT := ho.tidy keyI
  have hb : Maps.has D (kI k) = true := (hh _).2 ⟨k, rfl, hyes⟩
  obtain ⟨w', hrun, ho', ht⟩ := ho.drop keyI Tryz.underlying128 (kI_of hk) 3
  have hsz : Maps.size (D.del (kI k)) = n - 1 := by
    have := size_del (k := kI k) hT
    rw [hb, if_pos rfl] at this
    omega
  refine ⟨w', fun ty => ?_, ⟨_, hsz ▸ map_tight ho', hsz, fun kl => ?_, fun j t hj zd => ?_⟩, ht.grown⟩
  · obtain ⟨w2, hrun2, ho2, ht2⟩ := ho.drop keyI Tryz.underlying128 (kI_of hk) ty
    have e : (Builtin.delete_ #[128, 3] ty #[.map (some b), .int .i64 (k : Int)]).run Tryz.prog w = (Builtin.delete_ #[128, 3] 3 #[.map (some b), .int .i64 (k : Int)]).run Tryz.prog w := rfl
    rw [e, hrun]
  · by_cases e : kl = kI k
    · subst e
      rw [has_del_same]
      exact ⟨fun h => (by cases h), fun ⟨j, hj, h2⟩ => by rw [← kI_inj hj, upd_same] at h2; cases h2⟩
    · rw [has_del_other e, hh]
      constructor
      · rintro ⟨j, rfl, hs⟩
        exact ⟨j, rfl, by rw [upd_other _ _ (fun h => e (by rw [h]))]; exact hs⟩
      · rintro ⟨j, rfl, hs⟩
        exact ⟨j, rfl, by rwa [upd_other _ _ (fun h => e (by rw [h]))] at hs⟩
  · by_cases e : j = k
    · subst e
      rw [upd_same] at hj
      cases hj
    · rw [upd_other _ _ e] at hj
      rw [atKey_del_other (fun h => e (kI_inj h))]
      exact ha j t hj zd
end
end Go.Proofs.YtajlfmnjibgbaaaGreatDoor.Vl
/- The cache in memory: a map, and a ring of entries. -/
namespace Go.Proofs.YtajlfmnjibgbaaaGreatDoor.Vl
open Go Go.RowKit Go.Maps Mem Disk

def ptr (g : Nat) : Value := .pointer (some ⟨g, 0, none⟩)
def ent (k : Nat) (s : ByteArray) (p n : Nat) : Array Value := #[.int .i64 (k : Int), .string s, .pointer (some ⟨p, 0, none⟩), .pointer (some ⟨n, 0, none⟩)]
/-- the blocks of S are entries -/
def Ents (S : Nat → Prop) (w : World) (K : Nat → Nat) (T : Nat → ByteArray) (P N : Nat → Nat) : Prop := ∀ g, S g → Blk w g 133 (ent (K g) (T g) (P g) (N g))
section
variable {S F G H : Nat → Prop} {w w' : World} {K : Nat → Nat} {T : Nat → ByteArray} {P N : Nat → Nat} {c m r x k : Nat} {es : List Nat} {L : List (Nat × ByteArray)} {s : ByteArray}
set_option maxRecDepth 100000 in
theorem Ents.keeps (h : Ents S w K T P N) (hk : Keeps G w w') (hn : ∀ g, S g → ¬ G g) : Ents S w' K T P N := fun g hg => (h g hg).keeps hk (hn g hg)
set_option maxRecDepth 100000 in
theorem Ents.sub (h : Ents S w K T P N) (hs : ∀ g, H g → S g) : Ents H w K T P N := fun g hg => h g (hs g hg)
set_option maxRecDepth 100000 in
theorem Ents.setN (h : Ents S w K T P N) (a b : Nat) : Ents S (w.setCell ⟨a, 3, none⟩ (.pointer (some ⟨b, 0, none⟩))) K T P (upd N a b) := fun g hg => by
  by_cases e : g = a
  · subst e
    rw [upd_same]
    exact (h g hg).put 3 _
  · rw [upd_other _ _ e]
    exact (h g hg).far e _
set_option maxRecDepth 100000 in
theorem Ents.setP (h : Ents S w K T P N) (a b : Nat) : Ents S (w.setCell ⟨a, 2, none⟩ (.pointer (some ⟨b, 0, none⟩))) K T (upd P a b) N := fun g hg => by
  by_cases e : g = a
  · subst e
    rw [upd_same]
    exact (h g hg).put 2 _
  · rw [upd_other _ _ e]
    exact (h g hg).far e _
set_option maxRecDepth 100000 in
theorem Ents.setT (h : Ents S w K T P N) (a : Nat) (s : ByteArray) : Ents S (w.setCell ⟨a, 1, none⟩ (.string s)) K (upd T a s) P N := fun g hg => by
  by_cases e : g = a
  · subst e
    rw [upd_same]
    exact (h g hg).put 1 _
  · rw [upd_other _ _ e]
    exact (h g hg).far e _
set_option maxRecDepth 100000 in
theorem Ents.cells (h : Ents S w K T P N) {g : Nat} (hg : S g) : w.cell? ⟨g, 0, none⟩ = some (.int .i64 (K g : Int)) ∧ w.cell? ⟨g, 1, none⟩ = some (.string (T g)) ∧ w.cell? ⟨g, 2, none⟩ = some (.pointer (some ⟨P g, 0, none⟩)) ∧ w.cell? ⟨g, 3, none⟩ = some (.pointer (some ⟨N g, 0, none⟩)) :=
  ⟨(h g hg).cell 0, (h g hg).cell 1, (h g hg).cell 2, (h g hg).cell 3⟩
set_option maxRecDepth 100000 in
theorem Ents.free (h : Ents S w K T P N) {g : Nat} (hg : S g) (i : Nat) : w.frozen? ⟨g, i, none⟩ = false := (h g hg).free i
def outW (w : World) (p n : Nat) : World := ((w.setCell ⟨p, 3, none⟩ (.pointer (some ⟨n, 0, none⟩))).setCell ⟨n, 2, none⟩ (.pointer (some ⟨p, 0, none⟩))).drew
def firstW (w : World) (r x n : Nat) : World := ((((w.setCell ⟨x, 2, none⟩ (.pointer (some ⟨r, 0, none⟩))).setCell ⟨x, 3, none⟩ (.pointer (some ⟨n, 0, none⟩))).setCell ⟨r, 3, none⟩ (.pointer (some ⟨x, 0, none⟩))).setCell ⟨n, 2, none⟩ (.pointer (some ⟨x, 0, none⟩))).drew.drew
set_option maxRecDepth 100000 in
theorem Ents.out (h : Ents S w K T P N) (p n : Nat) : Ents S (outW w p n) K T (upd P n p) (upd N p n) := (h.setN p n).setP n p
set_option maxRecDepth 100000 in
theorem Ents.first (h : Ents S w K T P N) (r x n : Nat) : Ents S (firstW w r x n) K T (upd (upd P x r) n x) (upd (upd N x n) r x) := (((h.setP x r).setN x n).setN r x).setP n x
set_option maxRecDepth 100000 in
theorem Keeps.drew (h : Keeps G w w') : Keeps G w w'.drew := ⟨h.os, h.tape, h.output, h.size, h.block⟩
set_option maxRecDepth 100000 in
theorem keeps_out (w : World) {p n : Nat} (hp : G p) (hn : G n) : Keeps G w (outW w p n) := Keeps.drew (((Keeps.refl G w).put (Or.inl hp) 3 _).put (Or.inl hn) 2 _)
set_option maxRecDepth 100000 in
theorem keeps_first (w : World) {r x n : Nat} (hr : G r) (hx : G x) (hn : G n) : Keeps G w (firstW w r x n) := Keeps.drew (Keeps.drew (((((Keeps.refl G w).put (Or.inl hx) 2 _).put (Or.inl hx) 3 _).put (Or.inl hr) 3 _).put (Or.inl hn) 2 _))
set_option maxRecDepth 100000 in
set_option maxHeartbeats 4000000 in
theorem out_any (h : Ents S w K T P N) (hx : S x) (hp : S (P x)) (hn : S (N x)) (c : Value) : Calls Tryz.prog 70 #[c, .pointer (some ⟨x, 0, none⟩)] w fun e w' => e = .returned (.tuple #[]) ∧ w' = outW w (P x) (N x) := by
  obtain ⟨_, _, c2, c3⟩ := h.cells hx
  have d3 := (h.cells hp).2.2.2
  have d2 := (h.cells hn).2.2.1
  have f3 := h.free hp 3
  have f2 := h.free hn 2
  unfold outW
  obtain ⟨o3, ho3⟩ : ∃ v, v = N (P x) := ⟨_, rfl⟩
  obtain ⟨o2, ho2⟩ : ∃ v, v = P (N x) := ⟨_, rfl⟩
  rw [← ho3] at d3
  rw [← ho2] at d2
  clear ho3 ho2 h hp hn hx
  generalize P x = p at *
  generalize N x = n at *
  go_enter Tryz.func70, Tryz.ntmps70
  go_wp2_with fail
  go_region
  all_goals (go_wp2_with fail; go_end0; exact ⟨rfl, rfl⟩)
set_option maxRecDepth 100000 in
set_option maxHeartbeats 4000000 in
theorem first_any_ {n : Nat} {kv sv pv nv : Value} (hx : Blk w x 133 #[kv, sv, pv, nv]) (hr : w.cell? ⟨r, 3, none⟩ = some (.pointer (some ⟨n, 0, none⟩))) (fr : w.frozen? ⟨r, 3, none⟩ = false) {ov : Value} (hn : w.cell? ⟨n, 2, none⟩ = some ov) (fn : w.frozen? ⟨n, 2, none⟩ = false)
    (hxr : x ≠ r) (hxn : x ≠ n) (hc : w.cell? ⟨c, 2, none⟩ = some (.pointer (some ⟨r, 0, none⟩))) :
    Calls Tryz.prog 71 #[.pointer (some ⟨c, 0, none⟩), .pointer (some ⟨x, 0, none⟩)] w fun e w' => e = .returned (.tuple #[]) ∧ w' = firstW w r x n := by
  have x2 := hx.cell 2
  have x3 := hx.cell 3
  have fx2 := hx.free 2
  have fx3 := hx.free 3
  unfold firstW
  clear hx
  have hrx : r ≠ x := fun e => hxr e.symm
  have hnx : n ≠ x := fun e => hxn e.symm
  go_enter Tryz.func71, Tryz.ntmps71
  go_wp2_with fail
  go_region
  all_goals (go_wp2_with fail)
  all_goals (go_region; go_wp2_with fail; go_end0; exact ⟨rfl, rfl⟩)
set_option maxRecDepth 100000 in
/-- one comes first: its block, and those that were there -/
theorem Ents.comes {n : Nat} {pv nv : Value} (h : Ents S w K T P N) (hn : ¬ S x) (hx : Blk w x 133 #[.int .i64 (k : Int), .string s, pv, nv]) : Ents (fun g => g = x ∨ S g) (firstW w r x n) (upd K x k) (upd T x s) (upd (upd P x r) n x) (upd (upd N x n) r x) := by
  have h2 : Ents (fun g => g = x ∨ S g) ((w.setCell ⟨x, 2, none⟩ (.pointer (some ⟨r, 0, none⟩))).setCell ⟨x, 3, none⟩ (.pointer (some ⟨n, 0, none⟩))) (upd K x k) (upd T x s) (upd P x r) (upd N x n) := fun g hg => by
    by_cases e : g = x
    · subst e
      rw [upd_same, upd_same, upd_same, upd_same]
      exact (hx.put 2 _).put 3 _
    · rw [upd_other _ _ e, upd_other _ _ e, upd_other _ _ e, upd_other _ _ e]
      exact ((h g (hg.resolve_left e)).far e _).far e _
  exact (h2.setN r x).setP n x
end
def lk (K : Nat → Nat) (T : Nat → ByteArray) (g : Nat) : Nat × ByteArray := (K g, T g)
def findE (es : List Nat) (K : Nat → Nat) (k : Nat) : Option Nat := es.find? fun g => K g == k
section
variable {es A B : List Nat} {K : Nat → Nat} {T : Nat → ByteArray} {k x : Nat}
set_option maxRecDepth 100000 in
theorem findE_lk : ∀ es : List Nat, find (es.map (lk K T)) k = (findE es K k).map T
  | [] => rfl
  | g :: es => by
    rw [List.map_cons, find_cons, findE_lk es]
    unfold findE
    rw [List.find?_cons]
    by_cases e : K g = k
    · rw [if_pos (show (lk K T g).1 = k from e), show (K g == k) = true by simpa using e]
      rfl
    · rw [if_neg (show ¬ (lk K T g).1 = k from e), show (K g == k) = false by simpa using e]
set_option maxRecDepth 100000 in
theorem findE_some (h : findE es K k = some x) : ∃ A B, es = A ++ x :: B ∧ K x = k := by
  obtain ⟨h1, A, B, h2, _⟩ := List.find?_eq_some_iff_append.1 h
  exact ⟨A, B, h2, by simpa using h1⟩
set_option maxRecDepth 100000 in
theorem findE_drop (hn : ((A ++ x :: B).map K).Nodup) (j : Nat) : findE (A ++ B) K j = upd (findE (A ++ x :: B) K) (K x) none j := by
  rw [List.map_append, List.map_cons] at hn
  have h1 := List.nodup_append.1 hn
  have hA : ∀ g ∈ A, K g ≠ K x := fun g hg => h1.2.2 (K g) (List.mem_map_of_mem hg) (K x) List.mem_cons_self
  have hB : ∀ g ∈ B, K g ≠ K x := fun g hg e => (List.nodup_cons.1 h1.2.1).1 (e ▸ List.mem_map_of_mem hg)
  by_cases e : j = K x
  · subst e
    rw [upd_same]
    refine List.find?_eq_none.2 fun g hg => ?_
    rcases List.mem_append.1 hg with h | h
    · simpa using hA g h
    · simpa using hB g h
  · rw [upd_other _ _ e]
    unfold findE
    rw [List.find?_append, List.find?_append, List.find?_cons, show (K x == j) = false by simpa using fun h => e h.symm]
set_option maxRecDepth 100000 in
theorem findE_cons (j : Nat) : findE (x :: es) K j = upd (findE es K) (K x) (some x) j := by
  unfold findE
  rw [List.find?_cons]
  by_cases e : j = K x
  · subst e
    rw [upd_same, show (K x == K x) = true by simp]
  · rw [upd_other _ _ e, show (K x == j) = false by simpa using fun h => e h.symm]
set_option maxRecDepth 100000 in
theorem dropK_lk (hn : ((A ++ x :: B).map K).Nodup) : dropK ((A ++ x :: B).map (lk K T)) (K x) = (A ++ B).map (lk K T) := by
  rw [List.map_append, List.map_cons] at hn
  have h1 := List.nodup_append.1 hn
  have hA : ∀ g ∈ A, K g ≠ K x := fun g hg => h1.2.2 (K g) (List.mem_map_of_mem hg) (K x) List.mem_cons_self
  have hB : ∀ g ∈ B, K g ≠ K x := fun g hg e => (List.nodup_cons.1 h1.2.1).1 (e ▸ List.mem_map_of_mem hg)
  have one : ∀ l : List Nat, (∀ g ∈ l, K g ≠ K x) → (l.map (lk K T)).filter (fun p => decide (p.1 ≠ K x)) = l.map (lk K T) := fun l hl => List.filter_eq_self.2 fun p hp => by
    obtain ⟨g, hg, rfl⟩ := List.mem_map.1 hp
    exact decide_eq_true (hl g hg)
  unfold dropK
  rw [List.map_append, List.map_cons, List.filter_append, List.filter_cons_of_neg (by simp [lk]), one A hA, one B hB, List.map_append]
end
/-- the cache at c: its map m, its ring's root r, its entries es -/
structure CC (F : Nat → Prop) (w : World) (c m r : Nat) (es : List Nat) (K : Nat → Nat) (T : Nat → ByteArray) (P N : Nat → Nat) : Prop where
  blk : Blk w c 130 #[.int .i64 32, .map (some m), .pointer (some ⟨r, 0, none⟩)]
  each : Ents (fun g => g ∈ r :: es) w K T P N
  ring : Ring r es P N
  map : MapE w m es.length (findE es K)
  kn : (es.map K).Nodup
  few : es.length ≤ 33
  kb : ∀ g, K g ≤ 9223372036854775807
  fc : F c
  fm : F m
  fe : ∀ g, g ∈ r :: es → F g
  lt : ∀ i, F i → i < w.heap.size
def IsCache (F : Nat → Prop) (w : World) (c : Nat) (L : List (Nat × ByteArray)) : Prop := ∃ m r es K T P N, CC F w c m r es K T P N ∧ L = es.map (lk K T) ∧ L.length ≤ 32
section
variable {S F G H : Nat → Prop} {w w' : World} {K : Nat → Nat} {T : Nat → ByteArray} {P N : Nat → Nat} {c m r x k : Nat} {es A B : List Nat} {L : List (Nat × ByteArray)} {s : ByteArray}
set_option maxRecDepth 100000 in
theorem CC.keeps (h : CC F w c m r es K T P N) (hk : Keeps G w w') (hn : ∀ i, F i → ¬ G i) : CC F w' c m r es K T P N :=
  ⟨h.blk.keeps hk (hn c h.fc), h.each.keeps hk (fun g hg => hn g (h.fe g hg)), h.ring, h.map.keeps hk (hn m h.fm), h.kn, h.few, h.kb, h.fc, h.fm, h.fe, fun i hi => Nat.lt_of_lt_of_le (h.lt i hi) hk.size⟩
set_option maxRecDepth 100000 in
theorem IsCache.keeps (h : IsCache F w c L) (hk : Keeps G w w') (hn : ∀ i, F i → ¬ G i) : IsCache F w' c L := by
  obtain ⟨m, r, es, K, T, P, N, h1, h2⟩ := h
  exact ⟨m, r, es, K, T, P, N, h1.keeps hk hn, h2⟩
set_option maxRecDepth 100000 in
theorem IsCache.below (h : IsCache F w c L) (hb : Below w.heap.size w w') : IsCache F w' c L := h.keeps (Keeps.of_below (fun _ => False) hb) (fun _ _ h => h)
set_option maxRecDepth 100000 in
theorem IsCache.lt (h : IsCache F w c L) : ∀ i, F i → i < w.heap.size := by
  obtain ⟨m, r, es, K, T, P, N, h1, h2⟩ := h
  exact h1.lt
set_option maxRecDepth 100000 in
theorem IsCache.at_ (h : IsCache F w c L) : F c := by
  obtain ⟨m, r, es, K, T, P, N, h1, h2⟩ := h
  exact h1.fc
set_option maxRecDepth 100000 in
theorem IsCache.kf (h : IsCache F w c L) : Kf L := by
  obtain ⟨m, r, es, K, T, P, N, h1, h2, h3⟩ := h
  refine ⟨?_, h3⟩
  rw [h2]
  have := h1.kn
  unfold List.Nodup at this
  rw [List.pairwise_map] at this ⊢
  exact this
set_option maxRecDepth 100000 in
theorem CC.noc (h : CC F w c m r es K T P N) {g : Nat} (hg : g ∈ r :: es) : g ≠ c := fun e => by
  have h1 := h.each g hg
  subst e
  have h2 := h1.symm.trans h.blk
  injection h2 with h2
  injection h2 with _ h2
  exact absurd h2 (by decide)
set_option maxRecDepth 100000 in
theorem CC.nom (h : CC F w c m r es K T P N) {g : Nat} (hg : g ∈ r :: es) : g ≠ m := h.map.ne_blk (h.each g hg)
set_option maxRecDepth 100000 in
theorem CC.mc (h : CC F w c m r es K T P N) : c ≠ m := h.map.ne_blk h.blk
set_option maxRecDepth 100000 in
theorem CC.cells (h : CC F w c m r es K T P N) : w.cell? ⟨c, 0, none⟩ = some (.int .i64 32) ∧ w.cell? ⟨c, 1, none⟩ = some (.map (some m)) ∧ w.cell? ⟨c, 2, none⟩ = some (.pointer (some ⟨r, 0, none⟩)) := ⟨h.blk.cell 0, h.blk.cell 1, h.blk.cell 2⟩
set_option maxRecDepth 100000 in
/-- entries turn: what lies elsewhere stays -/
theorem CC.turn (h : CC F w c m r es K T P N) {S : Nat → Prop} (hS : ∀ g, S g → g ∈ r :: es) (hk : Keeps S w w') : Blk w' c 130 #[.int .i64 32, .map (some m), .pointer (some ⟨r, 0, none⟩)] ∧ MapE w' m es.length (findE es K) ∧ (∀ i, F i → i < w'.heap.size) ∧ Keeps F w w' :=
  ⟨h.blk.keeps hk (fun e => h.noc (hS _ e) rfl), h.map.keeps hk (fun e => h.nom (hS _ e) rfl), fun i hi => Nat.lt_of_lt_of_le (h.lt i hi) hk.size, hk.mono (fun i hi => h.fe i (hS i hi))⟩
end
end Go.Proofs.YtajlfmnjibgbaaaGreatDoor.Vl
/- The cache's calls: Get, Drop, Put, New. -/
namespace Go.Proofs.YtajlfmnjibgbaaaGreatDoor.Vl
open Go Go.RowKit Go.Maps Mem Disk
section
variable {S F G H : Nat → Prop} {w w' : World} {K : Nat → Nat} {T T' : Nat → ByteArray} {P N P' N' : Nat → Nat} {c m r x k : Nat} {es A B : List Nat} {L : List (Nat × ByteArray)} {s : ByteArray}
set_option maxRecDepth 100000 in
theorem mid_mem {A B : List Nat} {x g r : Nat} (h : g ∈ r :: (A ++ B)) : g ∈ r :: (A ++ x :: B) := by
  simp at h ⊢
  rcases h with h | h | h
  · exact Or.inl h
  · exact Or.inr (Or.inl h)
  · exact Or.inr (Or.inr (Or.inr h))
set_option maxRecDepth 100000 in
theorem mid_at {A B : List Nat} {x r : Nat} : x ∈ r :: (A ++ x :: B) := by simp
set_option maxRecDepth 100000 in
theorem Ring.notin (h : Ring r (A ++ x :: B) P N) : x ∉ r :: (A ++ B) := by
  have hn := h.nodup
  intro hm
  have h1 : (r :: (A ++ x :: B)).Perm (x :: r :: (A ++ B)) := by
    refine (List.Perm.cons r (List.perm_middle)).trans ?_
    exact List.Perm.swap x r (A ++ B)
  exact (List.nodup_cons.1 (h1.nodup_iff.1 hn)).1 hm
set_option maxRecDepth 100000 in
theorem CC.out (h : CC F w c m r (A ++ x :: B) K T P N) : Calls Tryz.prog 70 #[.pointer (some ⟨c, 0, none⟩), .pointer (some ⟨x, 0, none⟩)] w fun e w' => e = .returned (.tuple #[]) ∧
    Ring r (A ++ B) (upd P (N x) (P x)) (upd N (P x) (N x)) ∧ Ents (fun g => g ∈ r :: (A ++ x :: B)) w' K T (upd P (N x) (P x)) (upd N (P x) (N x)) ∧ Keeps (fun g => g ∈ r :: (A ++ x :: B)) w w' := by
  obtain ⟨hp, hn⟩ := h.ring.mem
  refine (out_any h.each mid_at (mid_mem hp) (mid_mem hn) _).mono ?_
  rintro e w' ⟨rfl, rfl⟩
  exact ⟨rfl, h.ring.out, h.each.out _ _, keeps_out w (mid_mem hp) (mid_mem hn)⟩
set_option maxRecDepth 100000 in
theorem find_same {f : Nat → Nat} (hk : findE es f (f x) = some x) (A B : List Nat) (he : es = A ++ x :: B) (hn : (es.map f).Nodup) (j : Nat) : findE es f j = findE (x :: (A ++ B)) f j := by
  subst he
  rw [findE_cons]
  by_cases e : j = f x
  · subst e
    rw [upd_same]
    exact hk
  · rw [upd_other _ _ e, findE_drop hn, upd_other _ _ e]
set_option maxRecDepth 100000 in
/-- taken out, and put first again -/
theorem CC.again (h : CC F w c m r (A ++ x :: B) K T P N) (hk : findE (A ++ x :: B) K (K x) = some x) {w1 : World} (hr : Ring r (A ++ B) P' N') (he : Ents (fun g => g ∈ r :: (A ++ x :: B)) w1 K T' P' N') (hw : Keeps (fun g => g ∈ r :: (A ++ x :: B)) w w1) :
    Calls Tryz.prog 71 #[.pointer (some ⟨c, 0, none⟩), .pointer (some ⟨x, 0, none⟩)] w1 fun e w' => e = .returned (.tuple #[]) ∧ (∃ P2 N2, CC F w' c m r (x :: (A ++ B)) K T' P2 N2) ∧ Keeps F w w' := by
  obtain ⟨b1, m1, l1, k1⟩ := h.turn (fun g hg => hg) hw
  have hrr : r ∈ r :: (A ++ x :: B) := List.mem_cons_self
  have hx := h.ring.notin
  have hnr : N' r ∈ r :: (A ++ B) := by
    have := hr.next (i := 0) (g := r) rfl
    have h2 := List.mem_of_getElem? this
    simp at h2 ⊢
    rcases h2 with h | h | h
    · exact Or.inr (Or.inl h)
    · exact Or.inr (Or.inr h)
    · exact Or.inl h
  have hxr : x ≠ r := fun e => hx (by rw [e]; exact List.mem_cons_self)
  have hxn : x ≠ N' r := fun e => hx (e ▸ hnr)
  refine (first_any_ (n := N' r) (he x mid_at) (he.cells hrr).2.2.2 (he.free hrr 3) (he.cells (mid_mem hnr)).2.2.1 (he.free (mid_mem hnr) 2) hxr hxn (b1.cell 2)).mono ?_
  rintro e w' ⟨rfl, rfl⟩
  have kk : Keeps (fun g => g ∈ r :: (A ++ x :: B)) w (firstW w1 r x (N' r)) := hw.same (keeps_first w1 hrr mid_at (mid_mem hnr))
  obtain ⟨b2, m2, l2, k2⟩ := h.turn (fun g hg => hg) kk
  have hlen : (A ++ x :: B).length = (x :: (A ++ B)).length := by simp; omega
  have hsub : ∀ g, g ∈ r :: x :: (A ++ B) → g ∈ r :: (A ++ x :: B) := fun g hg => by
    simp at hg ⊢
    rcases hg with h | h | h | h
    · exact Or.inl h
    · exact Or.inr (Or.inr (Or.inl h))
    · exact Or.inr (Or.inl h)
    · exact Or.inr (Or.inr (Or.inr h))
  refine ⟨rfl, ⟨_, _, b2, (he.first r x (N' r)).sub hsub, hr.first hx, ?_, ?_, ?_, h.kb, h.fc, h.fm, fun g hg => h.fe g (hsub g hg), l2⟩, k2⟩
  · rw [← hlen]
    exact m2.eq (find_same hk A B rfl h.kn)
  · have hp : (A ++ x :: B).Perm (x :: (A ++ B)) := List.perm_middle
    exact (hp.map K).nodup_iff.1 h.kn
  · rw [← hlen]; exact h.few
set_option maxRecDepth 100000 in
theorem findE_iff (h : L = es.map (lk K T)) : find L k = (findE es K k).map T := by rw [h]; exact findE_lk es
set_option maxRecDepth 100000 in
set_option maxHeartbeats 4000000 in
/-- Get of one that is there -/
theorem cget_yes (h : IsCache F w c L) (hk : k ≤ 9223372036854775807) (hf : find L k = some s) : Calls Tryz.prog 161 #[.pointer (some ⟨c, 0, none⟩), .int .i64 (k : Int)] w fun e w' =>
    e = .returned (.tuple #[.string s, .bool true]) ∧ IsCache F w' c (touchK L k s) ∧ Keeps F w w' := by
  obtain ⟨m, r, es, K, T, P, N, h, hL, h32⟩ := h
  have hq := findE_iff (k := k) hL
  rw [hf] at hq
  obtain ⟨x, hx⟩ : ∃ x, findE es K k = some x := by
    cases hh : findE es K k with
    | none => rw [hh] at hq; cases hq
    | some x => exact ⟨x, rfl⟩
  have hT : T x = s := by rw [hx] at hq; injection hq with hq; exact hq.symm
  obtain ⟨A, B, rfl, rfl⟩ := findE_some hx
  have ml := h.map.look (K x) hk
  rw [hx] at ml
  obtain ⟨_, c1, _⟩ := h.cells
  have ko := h.out
  have ka := fun w1 (hr : Ring r (A ++ B) (upd P (N x) (P x)) (upd N (P x) (N x))) he hw => h.again hx (w1 := w1) (T' := T) hr he hw
  have hd := dropK_lk (T := T) h.kn
  have fin : ∀ w', (∃ P2 N2, CC F w' c m r (x :: (A ++ B)) K T P2 N2) → IsCache F w' c (touchK L (K x) s) ∧ ∀ g, g = x → w'.cell? ⟨g, 1, none⟩ = some (.string s) := by
    rintro w' ⟨P2, N2, h2⟩
    refine ⟨⟨m, r, _, K, T, P2, N2, h2, ?_, ?_⟩, fun g hg => ?_⟩
    · unfold touchK
      rw [hL, hd, List.map_cons, ← hT]
      rfl
    · unfold touchK
      rw [hL, hd, List.length_cons, List.length_map]
      rw [hL, List.length_map] at h32
      simp at h32 ⊢
      omega
    · rw [hg, ← hT]
      exact (h2.each x (by simp)).cell 1
  replace ml := Lib.hid ml
  replace ko := Lib.hid ko
  replace ka := Lib.hid ka
  replace fin := Lib.hid fin
  have ml' : (Instr.lookup 128 (.map (some m)) (.int .i64 (K x : Int)) true).run Tryz.prog w = .ok (.tuple #[.pointer (some ⟨x, 0, none⟩), .bool true]) w := ml.out
  clear h hL h32 hq hf hx hT hd ml
  generalize K x = k at *
  go_enter Tryz.func161, Tryz.ntmps161
  go_wp2_with fail
  refine ko.out.mono ?_
  rintro e w1 ⟨rfl, r1, e1, k1⟩
  have kk := Lib.hid (ka.out w1 r1 e1 k1)
  clear r1 e1 k1
  go_wp2_with fail
  refine kk.out.mono ?_
  rintro e w2 ⟨rfl, c2, k2⟩
  obtain ⟨f1, f2⟩ := fin.out w2 c2
  have c3 := f2 x rfl
  replace k2 := Lib.hid k2
  replace f1 := Lib.hid f1
  clear f2 c2
  go_wp2_with fail
  go_ret2
  exact ⟨rfl, f1.out, k2.out⟩
set_option maxRecDepth 100000 in
set_option maxHeartbeats 4000000 in
theorem cget_no (h : IsCache F w c L) (hk : k ≤ 9223372036854775807) (hf : find L k = none) : Calls Tryz.prog 161 #[.pointer (some ⟨c, 0, none⟩), .int .i64 (k : Int)] w fun e w' =>
    e = .returned (.tuple #[.string ⟨#[]⟩, .bool false]) ∧ w' = w := by
  obtain ⟨m, r, es, K, T, P, N, h, hL, h32⟩ := h
  have hq := findE_iff (k := k) hL
  rw [hf] at hq
  have hx : findE es K k = none := by
    cases hh : findE es K k with
    | none => rfl
    | some x => rw [hh] at hq; cases hq
  have ml := h.map.look k hk
  rw [hx] at ml
  obtain ⟨_, c1, _⟩ := h.cells
  have ml' : (Instr.lookup 128 (.map (some m)) (.int .i64 (k : Int)) true).run Tryz.prog w = .ok (.tuple #[.pointer none, .bool false]) w := ml
  clear h hL h32 hq hf hx ml
  go_enter Tryz.func161, Tryz.ntmps161
  go_wp2_with fail
  go_ret2
  exact ⟨rfl, rfl⟩
set_option maxRecDepth 100000 in
set_option maxHeartbeats 4000000 in
/-- Drop of one that is there -/
theorem CC.drop (h : CC F w c m r (A ++ x :: B) K T P N) (hx : findE (A ++ x :: B) K (K x) = some x) : Calls Tryz.prog 42 #[.pointer (some ⟨c, 0, none⟩), .int .i64 (K x : Int)] w fun e w' =>
    e = .returned (.bool true) ∧ (∃ P2 N2, CC F w' c m r (A ++ B) K T P2 N2) ∧ Keeps F w w' ∧ w'.cell? ⟨x, 0, none⟩ = some (.int .i64 (K x : Int)) := by
  have hk := h.kb x
  have ml := h.map.look (K x) hk
  rw [hx] at ml
  obtain ⟨_, c1, _⟩ := h.cells
  have ko := h.out
  have ml' : (Instr.lookup 128 (.map (some m)) (.int .i64 (K x : Int)) true).run Tryz.prog w = .ok (.tuple #[.pointer (some ⟨x, 0, none⟩), .bool true]) w := ml
  have kn := h.kn
  have fin : ∀ w1 w2, Ring r (A ++ B) (upd P (N x) (P x)) (upd N (P x) (N x)) → Ents (fun g => g ∈ r :: (A ++ x :: B)) w1 K T (upd P (N x) (P x)) (upd N (P x) (N x)) → Keeps (fun g => g ∈ r :: (A ++ x :: B)) w w1 → MapE w2 m ((A ++ x :: B).length - 1) (upd (findE (A ++ x :: B) K) (K x) none) → w1.grownBy w2 (some m) →
      (∃ P2 N2, CC F w2 c m r (A ++ B) K T P2 N2) ∧ Keeps F w w2 ∧ w2.cell? ⟨x, 0, none⟩ = some (.int .i64 (K x : Int)) := by
    intro w1 w2 hr he hw hm hg
    obtain ⟨b1, m1, l1, k1⟩ := h.turn (fun g hg => hg) hw
    have kk : Keeps (fun g => g = m) w1 w2 := Keeps.of_grown hg (fun j e => by injection e with e; exact e.symm)
    have e2 : Ents (fun g => g ∈ r :: (A ++ x :: B)) w2 K T (upd P (N x) (P x)) (upd N (P x) (N x)) := he.keeps kk (fun g hg => h.nom hg)
    have one : ∃ P2 N2, CC F w2 c m r (A ++ B) K T P2 N2 := by
      refine ⟨_, _, b1.keeps kk h.mc, e2.sub (fun g hg => mid_mem hg), hr, ?_, ?_, ?_, h.kb, h.fc, h.fm, fun g hg => h.fe g (mid_mem hg), fun i hi => Nat.lt_of_lt_of_le (l1 i hi) kk.size⟩
      · have hl : (A ++ x :: B).length - 1 = (A ++ B).length := by simp
        rw [hl] at hm
        exact hm.eq (fun j => (findE_drop kn j).symm)
      · exact kn.sublist ((List.Sublist.append_left (List.sublist_cons_self x B) A).map K)
      · have := h.few
        simp at this ⊢
        omega
    exact ⟨one, k1.same (kk.mono (fun i e => e ▸ h.fm)), (e2 x mid_at).cell 0⟩
  have mm := fun w1 (hw : Keeps (fun g => g ∈ r :: (A ++ x :: B)) w w1) => (h.turn (fun g hg => hg) hw).2.1.drop (K x) hk (by rw [hx]; rfl)
  have cc := fun w1 (hw : Keeps (fun g => g ∈ r :: (A ++ x :: B)) w w1) => (h.turn (fun g hg => hg) hw).1.cell 1
  replace ko := Lib.hid ko
  replace fin := Lib.hid fin
  replace mm := Lib.hid mm
  replace cc := Lib.hid cc
  clear h hx kn ml
  generalize K x = k at *
  go_enter Tryz.func42, Tryz.ntmps42
  go_wp2_with fail
  refine ko.out.mono ?_
  rintro e w1 ⟨rfl, r1, e1, k1⟩
  have d1 : w1.cell? ⟨c, 1, none⟩ = some (.map (some m)) := cc.out w1 k1
  obtain ⟨w2, hrun, hm, hg⟩ := mm.out w1 k1
  have fn := Lib.hid (fin.out w1 w2 r1 e1 k1 hm hg)
  clear r1 e1 k1 hm hg
  go_wp2_with fail
  go_ret
  exact ⟨rfl, fn.out⟩
end
end Go.Proofs.YtajlfmnjibgbaaaGreatDoor.Vl
/- The cache's calls: Put, New. -/
namespace Go.Proofs.YtajlfmnjibgbaaaGreatDoor.Vl
open Go Go.RowKit Go.Maps Mem Disk
section
variable {S F G H : Nat → Prop} {w w' : World} {K : Nat → Nat} {T T' : Nat → ByteArray} {P N P' N' : Nat → Nat} {c m r x k : Nat} {es A B : List Nat} {L : List (Nat × ByteArray)} {s : ByteArray}
set_option maxRecDepth 100000 in
theorem CC.setT (h : CC F w c m r es K T P N) (hx : x ∈ r :: es) (s : ByteArray) : CC F (w.setCell ⟨x, 1, none⟩ (.string s)) c m r es K (upd T x s) P N ∧ Keeps F w (w.setCell ⟨x, 1, none⟩ (.string s)) := by
  obtain ⟨b1, m1, l1, k1⟩ := h.turn (S := fun g => g ∈ r :: es) (fun g hg => hg) ((Keeps.refl _ w).put (g := x) (Or.inl hx) 1 (.string s))
  exact ⟨⟨b1, h.each.setT x s, h.ring, m1, h.kn, h.few, h.kb, h.fc, h.fm, h.fe, l1⟩, k1⟩
set_option maxRecDepth 100000 in
theorem lk_upd (K : Nat → Nat) (T : Nat → ByteArray) {l : List Nat} (hx : x ∉ l) (k : Nat) (s : ByteArray) : l.map (lk (upd K x k) (upd T x s)) = l.map (lk K T) :=
  List.map_congr_left fun g hg => by
    have e : g ≠ x := fun e => hx (e ▸ hg)
    unfold lk
    rw [upd_other _ _ e, upd_other _ _ e]
set_option maxRecDepth 100000 in
theorem lk_updT (K : Nat → Nat) (T : Nat → ByteArray) {l : List Nat} (hx : x ∉ l) (s : ByteArray) : l.map (lk K (upd T x s)) = l.map (lk K T) :=
  List.map_congr_left fun g hg => by
    have e : g ≠ x := fun e => hx (e ▸ hg)
    unfold lk
    rw [upd_other _ _ e]
set_option maxRecDepth 100000 in
set_option maxHeartbeats 4000000 in
/-- Put of a key that is there -/
theorem cput_yes {t : ByteArray} (h : IsCache F w c L) (hk : k ≤ 9223372036854775807) (hf : find L k = some t) (s : ByteArray) : Calls Tryz.prog 43 #[.pointer (some ⟨c, 0, none⟩), .int .i64 (k : Int), .string s] w fun e w' =>
    e = .returned (.tuple #[.int .i64 0, .bool false]) ∧ IsCache F w' c (putK L k s) ∧ Keeps F w w' := by
  rw [putK_same h.kf hf]
  obtain ⟨m, r, es, K, T, P, N, h, hL, h32⟩ := h
  have hq := findE_iff (k := k) hL
  rw [hf] at hq
  obtain ⟨x, hx⟩ : ∃ x, findE es K k = some x := by
    cases hh : findE es K k with
    | none => rw [hh] at hq; cases hq
    | some x => exact ⟨x, rfl⟩
  obtain ⟨A, B, rfl, rfl⟩ := findE_some hx
  have ml := h.map.look (K x) hk
  rw [hx] at ml
  obtain ⟨_, c1, _⟩ := h.cells
  obtain ⟨h1, k1⟩ := h.setT (x := x) mid_at s
  have x1 := (h.each.cells (g := x) mid_at).2.1
  have fx := h.each.free (g := x) mid_at 1
  have ko := h1.out
  have ka := fun w1 (hr : Ring r (A ++ B) (upd P (N x) (P x)) (upd N (P x) (N x))) he hw => h1.again hx (w1 := w1) (T' := upd T x s) hr he hw
  have hd := dropK_lk (T := T) h.kn
  have hnx := h.ring.notin
  have fin : ∀ w', (∃ P2 N2, CC F w' c m r (x :: (A ++ B)) K (upd T x s) P2 N2) → IsCache F w' c (touchK L (K x) s) := by
    rintro w' ⟨P2, N2, h2⟩
    refine ⟨m, r, _, K, _, P2, N2, h2, ?_, ?_⟩
    · unfold touchK
      rw [hL, hd, List.map_cons, lk_updT K T (fun hm => hnx (List.mem_cons_of_mem _ hm))]
      unfold lk
      rw [upd_same]
    · unfold touchK
      rw [hL, hd, List.length_cons, List.length_map]
      rw [hL, List.length_map] at h32
      simp at h32 ⊢
      omega
  replace ko := Lib.hid ko
  replace ka := Lib.hid ka
  replace fin := Lib.hid fin
  replace k1 := Lib.hid k1
  have ml' : (Instr.lookup 128 (.map (some m)) (.int .i64 (K x : Int)) true).run Tryz.prog w = .ok (.tuple #[.pointer (some ⟨x, 0, none⟩), .bool true]) w := ml
  clear h hL h32 hq hf hx hd ml h1 hnx
  generalize K x = k at *
  go_enter Tryz.func43, Tryz.ntmps43
  go_wp2_with fail
  refine ko.out.mono ?_
  rintro e w1 ⟨rfl, r1, e1, k2⟩
  have kk := Lib.hid (ka.out w1 r1 e1 k2)
  clear r1 e1 k2
  go_wp2_with fail
  refine kk.out.mono ?_
  rintro e w2 ⟨rfl, c2, k2⟩
  have f1 := Lib.hid (fin.out w2 c2)
  replace k2 := Lib.hid (k1.out.same k2)
  clear c2
  go_wp2_with fail
  go_ret2
  exact ⟨rfl, f1.out, k2.out⟩
set_option maxRecDepth 100000 in
theorem findE_congr {K K' : Nat → Nat} {j : Nat} : ∀ {es : List Nat}, (∀ g ∈ es, K g = K' g) → findE es K j = findE es K' j
  | [], _ => rfl
  | g :: es, h => by
    have ih := findE_congr (j := j) (fun g hg => h g (List.mem_cons_of_mem _ hg))
    unfold findE at ih ⊢
    rw [List.find?_cons, List.find?_cons, ih, h g List.mem_cons_self]
set_option maxRecDepth 100000 in
theorem CC.made (h : CC F w c m r es K T P N) (hlen : es.length ≤ 32) (hk : k ≤ 9223372036854775807) (hno : findE es K k = none) (s : ByteArray) :
    ∃ w2, (Instr.mapUpdate 128 (.map (some m)) (.int .i64 (k : Int)) (.pointer (some ⟨w.heap.size, 0, none⟩))).run Tryz.prog (w.alloc (.cells #[.int .i64 (k : Int), .string s, .pointer none, .pointer none] 133)) = .ok () w2 ∧ (w2.cell? ⟨c, 1, none⟩ = some (.map (some m))) ∧
      Calls Tryz.prog 71 #[.pointer (some ⟨c, 0, none⟩), .pointer (some ⟨w.heap.size, 0, none⟩)] w2 fun e w' => e = .returned (.tuple #[]) ∧
        (∃ P2 N2, CC (fun i => F i ∨ i = w.heap.size) w' c m r (w.heap.size :: es) (upd K w.heap.size k) (upd T w.heap.size s) P2 N2) ∧ Keeps F w w' := by
  have hb : Below w.heap.size w (w.alloc (.cells #[.int .i64 (k : Int), .string s, .pointer none, .pointer none] 133)) := (Below.refl _ w).alloc (Nat.le_refl _) _
  have hx1 : Blk (w.alloc (.cells #[.int .i64 (k : Int), .string s, .pointer none, .pointer none] 133)) w.heap.size 133 #[.int .i64 (k : Int), .string s, .pointer none, .pointer none] := Blk.new w _ _
  have kb := Keeps.of_below F hb
  have h1 := h.keeps (Keeps.of_below (fun _ => False) hb) (fun _ _ h => h)
  have hlt := h.lt
  have hfe := h.fe
  have hne : ∀ i, F i → i ≠ w.heap.size := fun i hi e => by have := hlt i hi; omega
  generalize hw1 : w.alloc (.cells #[.int .i64 (k : Int), .string s, .pointer none, .pointer none] 133) = w1 at h1 hx1 kb ⊢
  clear hw1 hb
  generalize hxx : w.heap.size = x at *
  have hx : x ∉ r :: es := fun hm => hne x (hfe x hm) rfl
  obtain ⟨w2, hrun, hm, hg⟩ := h1.map.store k hk x (by omega) hno
  have k2 : Keeps (fun g => g = m) w1 w2 := Keeps.of_grown hg (fun j e => by injection e with e; exact e.symm)
  have b2 := h1.blk.keeps k2 h1.mc
  have e2 : Ents (fun g => g ∈ r :: es) w2 K T P N := h1.each.keeps k2 (fun g hg => h1.nom hg)
  have x2 := hx1.keeps k2 (h1.map.ne_blk hx1)
  have hrr : r ∈ r :: es := List.mem_cons_self
  have hnr : N r ∈ r :: es := by
    have h2 := List.mem_of_getElem? (h.ring.next (i := 0) (g := r) rfl)
    simp at h2 ⊢
    exact h2.symm
  have hxr : x ≠ r := fun e => hx (by rw [e]; exact List.mem_cons_self)
  have hxn : x ≠ N r := fun e => hx (e ▸ hnr)
  refine ⟨w2, hrun, b2.cell 1, (first_any_ (n := N r) x2 (e2.cells hrr).2.2.2 (e2.free hrr 3) (e2.cells hnr).2.2.1 (e2.free hnr 2) hxr hxn (b2.cell 2)).mono ?_⟩
  rintro e w' ⟨rfl, rfl⟩
  have e3 := Ents.comes (n := N r) (r := r) e2 hx x2
  have k3 : Keeps (fun g => g = x ∨ g ∈ r :: es) w2 (firstW w2 r x (N r)) := keeps_first w2 (Or.inr hrr) (Or.inl rfl) (Or.inr hnr)
  have hsz := Nat.le_trans k2.size k3.size
  refine ⟨rfl, ⟨_, _, b2.keeps k3 (fun hh => hh.elim (fun e => hne c h.fc e) (fun hm => h.noc hm rfl)), e3.sub (fun g hg => ?_), h.ring.first hx, ?_, ?_, ?_, fun g => ?_, Or.inl h.fc, Or.inl h.fm, fun g hg => ?_, fun i hi => ?_⟩, ?_⟩
  · simp at hg ⊢
    rcases hg with h | h | h
    · exact Or.inr (Or.inl h)
    · exact Or.inl h
    · exact Or.inr (Or.inr h)
  · have hm3 := hm.keeps k3 (fun hh => hh.elim (fun e => hne m h.fm e) (fun hmm => h.nom hmm rfl))
    refine hm3.eq fun j => ?_
    rw [findE_cons, upd_same]
    have : findE es (upd K x k) = findE es K := funext fun j => findE_congr fun g hg => upd_other _ _ (fun e => hx (e ▸ List.mem_cons_of_mem _ hg))
    rw [this]
  · rw [List.map_cons, upd_same, map_upd _ _ (fun hm => hx (List.mem_cons_of_mem _ hm))]
    refine List.nodup_cons.2 ⟨fun hm => ?_, h.kn⟩
    obtain ⟨g, hg, e⟩ := List.mem_map.1 hm
    have := List.find?_eq_none.1 hno g hg
    simp [e] at this
  · show es.length + 1 ≤ 33
    omega
  · by_cases e : g = x
    · rw [e, upd_same]; exact hk
    · rw [upd_other _ _ e]; exact h.kb g
  · rcases List.mem_cons.1 hg with e | hg
    · exact Or.inl (hfe g (e ▸ List.mem_cons_self))
    · rcases List.mem_cons.1 hg with e | hg
      · exact Or.inr e
      · exact Or.inl (hfe g (List.mem_cons_of_mem _ hg))
  · rcases hi with hi | hi
    · exact Nat.lt_of_lt_of_le (h1.lt i hi) hsz
    · rw [hi]; exact Nat.lt_of_lt_of_le hx1.lt hsz
  · exact (kb.same (k2.mono (fun i e => e ▸ h.fm))).trans k3 (fun i hi => hi.elim (fun e => Or.inr (by omega)) (fun hm => Or.inl (hfe i hm)))
set_option maxRecDepth 100000 in
theorem below_N (w : World) (n : Nat) : Below w.heap.size w (w.drewN n) := below_drewN (Below.refl _ w) n
set_option maxRecDepth 100000 in
set_option maxHeartbeats 8000000 in
/-- Put of a new key -/
theorem cput_no (h : IsCache F w c L) (hk : k ≤ 9223372036854775807) (hf : find L k = none) (s : ByteArray) : Calls Tryz.prog 43 #[.pointer (some ⟨c, 0, none⟩), .int .i64 (k : Int), .string s] w fun e w' =>
    ∃ (z : Int) (y : Bool) (F' : Nat → Prop), e = .returned (.tuple #[.int .i64 z, .bool y]) ∧ IsCache F' w' c (putK L k s) ∧ Keeps F w w' ∧ ∀ i, F' i → F i ∨ w.heap.size ≤ i := by
  obtain ⟨m, r, es, K, T, P, N, h, hL, h32⟩ := h
  have hq := findE_iff (k := k) hL
  rw [hf] at hq
  have hx : findE es K k = none := by
    cases hh : findE es K k with
    | none => rfl
    | some x => rw [hh] at hq; cases hq
  have hel : es.length ≤ 32 := by rw [hL, List.length_map] at h32; exact h32
  have ml := h.map.look k hk
  rw [hx] at ml
  obtain ⟨_, c1, _⟩ := h.cells
  have ml' : (Instr.lookup 128 (.map (some m)) (.int .i64 (k : Int)) true).run Tryz.prog w = .ok (.tuple #[.pointer none, .bool false]) w := ml
  have bd : ∀ W, (Instr.build 133 #[(0, .int .i64 (k : Int)), (1, .string s)]).run Tryz.prog W = .ok (.agg #[.int .i64 (k : Int), .string s, .pointer none, .pointer none]) W := fun W => run_build W _ _ _ (by kernel_rfl)
  obtain ⟨w2, hrun, d1, kf⟩ := h.made hel hk hx s
  have hnx : w.heap.size ∉ r :: es := fun hm => by have := h.lt _ (h.fe _ hm); omega
  have hb : Below w.heap.size w (w.alloc (.cells #[.int .i64 (k : Int), .string s, .pointer none, .pointer none] 133)) := (Below.refl _ w).alloc (Nat.le_refl _) _
  have e1 : (w.alloc (.cells #[.int .i64 (k : Int), .string s, .pointer none, .pointer none] 133)).cell? ⟨c, 1, none⟩ = some (.map (some m)) := (hb.cell (p := ⟨c, 1, none⟩) (h.lt c h.fc)).trans c1
  have hput : putK L k s = ((k, s) :: es.map (lk K T)).take 32 := by
    unfold putK touchK
    rw [dropK_none hf, hL]
  rw [hput]
  have hlk : ∀ l : List Nat, w.heap.size ∉ l → (w.heap.size :: l).map (lk (upd K w.heap.size k) (upd T w.heap.size s)) = (k, s) :: l.map (lk K T) := fun l hl => by
    rw [List.map_cons, lk_upd K T hl]
    unfold lk
    rw [upd_same, upd_same]
  have fin : ∀ w3 (P2 N2 : Nat → Nat), CC (fun i => F i ∨ i = w.heap.size) w3 c m r (w.heap.size :: es) (upd K w.heap.size k) (upd T w.heap.size s) P2 N2 → Keeps F w w3 → es.length + 1 ≤ 32 →
      ∃ F', IsCache F' w3 c (((k, s) :: es.map (lk K T)).take 32) ∧ Keeps F w w3 ∧ ∀ i, F' i → F i ∨ w.heap.size ≤ i := by
    intro w3 P2 N2 h3 k3 hle
    have hL2 : ((k, s) :: es.map (lk K T)).take 32 = (w.heap.size :: es).map (lk (upd K w.heap.size k) (upd T w.heap.size s)) := by
      rw [hlk es (fun hm => hnx (List.mem_cons_of_mem _ hm))]
      exact List.take_of_length_le (by rw [List.length_cons, List.length_map]; exact hle)
    exact ⟨_, ⟨m, r, _, _, _, P2, N2, h3, hL2, by rw [List.length_take]; omega⟩, k3, fun i hi => hi.imp id (fun e => Nat.le_of_eq e.symm)⟩
  have fin2 : ∀ w3 (P2 N2 : Nat → Nat), CC (fun i => F i ∨ i = w.heap.size) w3 c m r (w.heap.size :: es) (upd K w.heap.size k) (upd T w.heap.size s) P2 N2 → Keeps F w w3 → ¬ es.length + 1 ≤ 32 →
      ∃ (y : Nat) (z : Int), w3.cell? ⟨c, 2, none⟩ = some (.pointer (some ⟨r, 0, none⟩)) ∧ w3.cell? ⟨r, 2, none⟩ = some (.pointer (some ⟨y, 0, none⟩)) ∧ w3.cell? ⟨y, 0, none⟩ = some (.int .i64 z) ∧
        Calls Tryz.prog 42 #[.pointer (some ⟨c, 0, none⟩), .int .i64 z] w3 fun e w' => e = .returned (.bool true) ∧ w'.cell? ⟨y, 0, none⟩ = some (.int .i64 z) ∧
          ∃ F', IsCache F' w' c (((k, s) :: es.map (lk K T)).take 32) ∧ Keeps F w w' ∧ ∀ i, F' i → F i ∨ w.heap.size ≤ i := by
    intro w3 P2 N2 h3 k3 hle
    have h33 := h3.few
    rw [List.length_cons] at h33
    have hes : es ≠ [] := fun e => by rw [e] at hle; exact hle (by decide)
    obtain ⟨A', y, rfl⟩ : ∃ A' y, es = A' ++ [y] := ⟨_, _, (List.dropLast_concat_getLast hes).symm⟩
    have hy : y ∈ r :: (w.heap.size :: (A' ++ [y])) := by simp
    have hlast := Ring.last (A := w.heap.size :: A') (x := y) h3.ring
    have hc2 := h3.cells.2.2
    have hr2 := (h3.each.cells (g := r) List.mem_cons_self).2.2.1
    rw [hlast] at hr2
    have hy0 := (h3.each.cells hy).1
    have hfy : findE (w.heap.size :: A' ++ y :: []) (upd K w.heap.size k) (upd K w.heap.size k y) = some y := by
      have hn := h3.kn
      refine List.find?_eq_some_iff_append.2 ⟨by simp, w.heap.size :: A', [], rfl, fun g hg => ?_⟩
      have h1 : ((w.heap.size :: A') ++ [y]).map (upd K w.heap.size k) = (w.heap.size :: A').map (upd K w.heap.size k) ++ [upd K w.heap.size k y] := by rw [List.map_append]; rfl
      rw [← List.cons_append, h1] at hn
      have := (List.nodup_append.1 hn).2.2 _ (List.mem_map_of_mem hg) _ (List.mem_singleton.2 rfl)
      simpa using this
    have kd := CC.drop (A := w.heap.size :: A') (x := y) (B := []) h3 hfy
    refine ⟨y, _, hc2, hr2, hy0, kd.mono ?_⟩
    rintro e w' ⟨rfl, ⟨P4, N4, h4⟩, k4, hy4⟩
    have hyx : w.heap.size ∉ A' := fun hm => hnx (List.mem_cons_of_mem _ (List.mem_append_left _ hm))
    have hL2 : ((k, s) :: (A' ++ [y]).map (lk K T)).take 32 = (w.heap.size :: A' ++ []).map (lk (upd K w.heap.size k) (upd T w.heap.size s)) := by
      have hl : A'.length = 31 := by
        rw [List.length_append] at h33 hle
        simp at h33 hle
        omega
      rw [List.append_nil, hlk A' hyx, List.map_append, ← List.cons_append]
      exact List.take_left' (by rw [List.length_cons, List.length_map, hl])
    refine ⟨rfl, hy4, _, ⟨m, r, _, _, _, P4, N4, h4, hL2, by rw [List.length_take]; omega⟩, k3.trans k4 (fun i hi => hi.imp id (fun e => Nat.le_of_eq e.symm)), fun i hi => hi.imp id (fun e => Nat.le_of_eq e.symm)⟩
  replace kf := Lib.hid kf
  replace fin := Lib.hid fin
  replace fin2 := Lib.hid fin2
  replace hput := Lib.hid hput
  clear h hL h32 hq hf hx ml hb hlk hnx
  by_cases hle : es.length + 1 ≤ 32
  · have q1 : decide (((es.length + 1 : Nat) : Int) ≤ 32) = true := decide_eq_true (by omega)
    go_enter Tryz.func43, Tryz.ntmps43
    go_wp2_with fail
    refine kf.out.mono ?_
    rintro e w3 ⟨rfl, ⟨P2, N2, h3⟩, k3⟩
    have ln := fun n => (h3.keeps (Keeps.of_below (fun _ => False) (below_N w3 n)) (fun _ _ h => h)).map.len
    obtain ⟨c0, c1', c2'⟩ := h3.cells
    have fn := fun n => fin.out (w3.drewN n) P2 N2 (h3.keeps (Keeps.of_below (fun _ => False) (below_N w3 n)) (fun _ _ h => h)) (k3.drewN n) hle
    replace fn := Lib.hid fn
    replace ln := Lib.hid ln
    clear h3 k3
    go_wp2_with fail
    refine wp_region_quiet_lit (by kernel_rfl) (by kernel_rfl) ?_
    iterate 4 (quiet_step (fail))
    refine wpQuiet_step (fun K hK => ?_)
    go_simp
    refine ⟨.int .i64 ((es.length + 1 : Nat) : Int), fun n => ?_, hK _ ?_⟩
    · rw [ln.out]
      exact ⟨rfl, rfl⟩
    clear hK K
    repeat (quiet_step (fail))
    refine wpQuiet_nil ?_
    intro _ hw'
    obtain ⟨nq, hw''⟩ := hw'
    subst hw''
    go_wp2_with fail
    go_ret2
    obtain ⟨F', f1, f2, f3⟩ := fn.out nq
    exact ⟨0, false, F', rfl, f1, f2, f3⟩
  · have q1 : decide (((es.length + 1 : Nat) : Int) ≤ 32) = false := decide_eq_false (by omega)
    go_enter Tryz.func43, Tryz.ntmps43
    go_wp2_with fail
    refine kf.out.mono ?_
    rintro e w3 ⟨rfl, ⟨P2, N2, h3⟩, k3⟩
    have ln := fun n => (h3.keeps (Keeps.of_below (fun _ => False) (below_N w3 n)) (fun _ _ h => h)).map.len
    obtain ⟨c0, c1', c2'⟩ := h3.cells
    have fn := fun n => fin2.out (w3.drewN n) P2 N2 (h3.keeps (Keeps.of_below (fun _ => False) (below_N w3 n)) (fun _ _ h => h)) (k3.drewN n) hle
    replace fn := Lib.hid fn
    replace ln := Lib.hid ln
    clear h3 k3
    go_wp2_with fail
    refine wp_region_quiet_lit (by kernel_rfl) (by kernel_rfl) ?_
    iterate 4 (quiet_step (fail))
    refine wpQuiet_step (fun K hK => ?_)
    go_simp
    refine ⟨.int .i64 ((es.length + 1 : Nat) : Int), fun n => ?_, hK _ ?_⟩
    · rw [ln.out]
      exact ⟨rfl, rfl⟩
    clear hK K
    repeat (quiet_step (fail))
    refine wpQuiet_nil ?_
    intro _ hw'
    obtain ⟨nq, hw''⟩ := hw'
    subst hw''
    obtain ⟨y, z, g1, g2, g3, g4⟩ := fn.out nq
    replace g4 := Lib.hid g4
    go_wp2_with fail
    refine g4.out.mono ?_
    rintro e w4 ⟨rfl, y0, F', f1, f2, f3⟩
    replace f1 := Lib.hid f1
    replace f2 := Lib.hid f2
    replace f3 := Lib.hid f3
    go_wp2_with fail
    go_ret2
    exact ⟨z, true, F', rfl, f1.out, f2.out, f3.out⟩
end
end Go.Proofs.YtajlfmnjibgbaaaGreatDoor.Vl
/- The cache's calls: Drop, Put, Get of any key; New. -/
namespace Go.Proofs.YtajlfmnjibgbaaaGreatDoor.Vl
open Go Go.RowKit Go.Maps Mem Disk
section
variable {F G H : Nat → Prop} {w w' : World} {c k : Nat} {L : List (Nat × ByteArray)} {s : ByteArray}
set_option maxRecDepth 100000 in
theorem cput_any (h : IsCache F w c L) (hk : k ≤ 9223372036854775807) (s : ByteArray) : Calls Tryz.prog 43 #[.pointer (some ⟨c, 0, none⟩), .int .i64 (k : Int), .string s] w fun e w' =>
    ∃ (z : Int) (y : Bool) (F' : Nat → Prop), e = .returned (.tuple #[.int .i64 z, .bool y]) ∧ IsCache F' w' c (putK L k s) ∧ Keeps F w w' ∧ ∀ i, F' i → F i ∨ w.heap.size ≤ i := by
  cases hf : find L k with
  | none => exact cput_no h hk hf s
  | some t =>
    refine (cput_yes h hk hf s).mono ?_
    rintro e w' ⟨rfl, h1, h2⟩
    exact ⟨_, _, F, rfl, h1, h2, fun i hi => Or.inl hi⟩
set_option maxRecDepth 100000 in
set_option maxHeartbeats 4000000 in
theorem cdrop_any (h : IsCache F w c L) (hk : k ≤ 9223372036854775807) : Calls Tryz.prog 42 #[.pointer (some ⟨c, 0, none⟩), .int .i64 (k : Int)] w fun e w' =>
    e = .returned (.bool (find L k).isSome) ∧ IsCache F w' c (dropK L k) ∧ Keeps F w w' := by
  have h' := h
  obtain ⟨m, r, es, K, T, P, N, h, hL, h32⟩ := h
  have hq := findE_iff (k := k) hL
  cases hx : findE es K k with
  | some x =>
    rw [hx] at hq
    obtain ⟨A, B, rfl, rfl⟩ := findE_some hx
    refine (h.drop hx).mono ?_
    rintro e w' ⟨rfl, ⟨P2, N2, h2⟩, k2, _⟩
    refine ⟨by rw [hq]; rfl, ⟨m, r, _, K, T, P2, N2, h2, ?_, ?_⟩, k2⟩
    · rw [hL, dropK_lk h.kn]
    · exact Nat.le_trans (List.length_filter_le _ _) h32
  | none =>
    rw [hx] at hq
    have hq' : find L k = none := hq
    rw [dropK_none hq', hq']
    have ml := h.map.look k hk
    rw [hx] at ml
    obtain ⟨_, c1, _⟩ := h.cells
    have ml' : (Instr.lookup 128 (.map (some m)) (.int .i64 (k : Int)) true).run Tryz.prog w = .ok (.tuple #[.pointer none, .bool false]) w := ml
    replace h' := Lib.hid h'
    clear h hL h32 hq hx ml hq'
    go_enter Tryz.func42, Tryz.ntmps42
    go_wp2_with fail
    go_ret
    exact ⟨rfl, h'.out, Keeps.refl _ _⟩
set_option maxRecDepth 100000 in
set_option maxHeartbeats 8000000 in
theorem cnew_any (w : World) : Calls Tryz.prog 93 #[.int .i64 32] w fun e w' =>
    ∃ c F, e = .returned (.tuple #[.pointer (some ⟨c, 0, none⟩), .int .i64 0]) ∧ IsCache F w' c [] ∧ (∀ i, F i → w.heap.size ≤ i) ∧ Below w.heap.size w w' := by
  have m1 := run_makeMap (P := Tryz.prog) 128 w
  have bd1 : ∀ W, (Instr.build 133 #[]).run Tryz.prog W = .ok (.agg #[.int .i64 0, .string ⟨#[]⟩, .pointer none, .pointer none]) W := fun W => run_build W _ _ _ (by kernel_rfl)
  have bd2 : ∀ W, (Instr.build 130 #[(0, .int .i64 32), (1, .map (some w.heap.size)), (2, .pointer (some ⟨w.heap.size + 1, 0, none⟩))]).run Tryz.prog W = .ok (.agg #[.int .i64 32, .map (some w.heap.size), .pointer (some ⟨w.heap.size + 1, 0, none⟩)]) W := fun W => run_build W _ _ _ (by kernel_rfl)
  go_enter Tryz.func93, Tryz.ntmps93
  go_upto_region 4 with fail
  obtain ⟨w1, hw1⟩ : ∃ w1, w1 = w.alloc (.map #[] 0) := ⟨_, rfl⟩
  obtain ⟨w2, hw2⟩ : ∃ w2, w2 = w1.alloc (.cells #[.int .i64 0, .string ⟨#[]⟩, .pointer none, .pointer none] 133) := ⟨_, rfl⟩
  obtain ⟨w3, hw3⟩ : ∃ w3, w3 = w2.alloc (.cells #[.int .i64 32, .map (some w.heap.size), .pointer (some ⟨w.heap.size + 1, 0, none⟩)] 130) := ⟨_, rfl⟩
  rw [← hw1, ← hw2, ← hw3]
  have s1 : w1.heap.size = w.heap.size + 1 := by rw [hw1]; simp
  have s2 : w2.heap.size = w.heap.size + 2 := by rw [hw2]; simp; omega
  have s3 : w3.heap.size = w.heap.size + 3 := by rw [hw3]; simp; omega
  have b1 : Below w.heap.size w w1 := by rw [hw1]; exact (Below.refl _ w).alloc (Nat.le_refl _) _
  have b2 : Below w1.heap.size w1 w2 := by rw [hw2]; exact (Below.refl _ w1).alloc (Nat.le_refl _) _
  have b3 : Below w2.heap.size w2 w3 := by rw [hw3]; exact (Below.refl _ w2).alloc (Nat.le_refl _) _
  have n1 : MapE w1 w.heap.size 0 (fun _ => none) := by rw [hw1]; exact MapE.new w
  have n2 : Blk w2 (w.heap.size + 1) 133 #[.int .i64 0, .string ⟨#[]⟩, .pointer none, .pointer none] := by rw [hw2, ← s1]; exact Blk.new w1 _ _
  have n3 : Blk w3 (w.heap.size + 2) 130 #[.int .i64 32, .map (some w.heap.size), .pointer (some ⟨w.heap.size + 1, 0, none⟩)] := by rw [hw3, ← s2]; exact Blk.new w2 _ _
  have n1' := (n1.keeps (Keeps.of_below (fun _ => False) b2) (fun h => h)).keeps (Keeps.of_below (fun _ => False) b3) (fun h => h)
  have n2' := n2.below b3 (by omega)
  have bb : Below w.heap.size w w3 := (b1.trans (b2.mono b1.size)).trans (b3.mono (by omega))
  clear n1 n2 b1 b2 b3 hw1 hw2 hw3 bd1 bd2 m1 s1 s2 w1 w2
  generalize hg : w.heap.size = g at *
  have c2 := n3.cell 2
  have r2 := n2'.cell 2
  have r3 := n2'.cell 3
  have f2 := n2'.free 2
  have f3 := n2'.free 3
  have fin : CC (fun i => i = g ∨ i = g + 1 ∨ i = g + 2) ((w3.setCell ⟨g + 1, 2, none⟩ (.pointer (some ⟨g + 1, 0, none⟩))).setCell ⟨g + 1, 3, none⟩ (.pointer (some ⟨g + 1, 0, none⟩))).drew (g + 2) g (g + 1) [] (fun _ => 0) (fun _ => ⟨#[]⟩) (fun _ => g + 1) (fun _ => g + 1) := by
    have kk : Keeps (fun i => i = g + 1) w3 ((w3.setCell ⟨g + 1, 2, none⟩ (.pointer (some ⟨g + 1, 0, none⟩))).setCell ⟨g + 1, 3, none⟩ (.pointer (some ⟨g + 1, 0, none⟩))).drew := Keeps.drew (((Keeps.refl (fun i => i = g + 1) w3).put (Or.inl rfl) 2 _).put (Or.inl rfl) 3 _)
    refine ⟨n3.keeps kk (by omega), fun q hq => ?_, Ring.one _, ?_, List.nodup_nil, Nat.zero_le _, fun _ => Nat.zero_le _, Or.inr (Or.inr rfl), Or.inl rfl, fun q hq => ?_, fun i hi => ?_⟩
    · obtain rfl : q = g + 1 := by simpa using hq
      exact (n2'.put 2 _).put 3 _
    · exact (n1'.keeps kk (by omega)).eq fun _ => rfl
    · obtain rfl : q = g + 1 := by simpa using hq
      exact Or.inr (Or.inl rfl)
    · refine Nat.lt_of_lt_of_le ?_ kk.size
      rcases hi with h | h | h <;> omega
  have b4 : Below g w ((w3.setCell ⟨g + 1, 2, none⟩ (.pointer (some ⟨g + 1, 0, none⟩))).setCell ⟨g + 1, 3, none⟩ (.pointer (some ⟨g + 1, 0, none⟩))).drew := ((bb.setCell (p := ⟨g + 1, 2, none⟩) (Nat.le_succ g) _).setCell (p := ⟨g + 1, 3, none⟩) (Nat.le_succ g) _).drew
  replace fin := Lib.hid fin
  replace b4 := Lib.hid b4
  replace hg := Lib.hid hg
  clear n1' n2' n3 bb s3
  go_region
  go_wp2_with fail
  go_ret2
  exact ⟨g + 2, rfl, _, ⟨g, g + 1, [], _, _, _, _, fin.out, rfl, Nat.zero_le _⟩, fun i hi => by have := hg.out; omega, by rw [hg.out]; exact b4.out⟩
end
end Go.Proofs.YtajlfmnjibgbaaaGreatDoor.Vl

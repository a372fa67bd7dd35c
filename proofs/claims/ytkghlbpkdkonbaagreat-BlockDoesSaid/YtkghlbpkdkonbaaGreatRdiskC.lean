/- The document's disk: Write. -/
import Derived.Test.YtkghlbpkdkonbaaGreatRdiskB
namespace Go.Proofs.YtkghlbpkdkonbaaGreat.Disk
open Go Go.RowKit Go.Maps Mem

section
variable {P : Program} {w : World}
set_option maxRecDepth 100000 in
/-- append of a row of the call's own, nil too -/
theorem run_append_ownrow (base : Nat) (t ty e : TypeId) (i : TypeInfo) (z : Value) (size bytes : Nat) (ht : P.underlying t = some (.slice e)) (hi : P.info? e = some i) (hz : i.zero = some z)
    (hsize : i.size = size) (hby : i.bytes = bytes) (hzs : z.cells.size = size) (hsz : 0 < size) {v : Value} {n : Nat} {xs : List Value} (hown : w.ownsRow base e size v n xs)
    {base2 : Nat} {v2 : Value} {m : Nat} {us : List Value} (hr : w.ownsRow base2 e size v2 m us) (h1 : ∀ u ∈ us, u.oneCell' = true)
    (h63 : n + m ≤ maxLen) (hbytes : (n + m) * bytes ≤ 140737488355328) (hbase : base ≤ w.heap.size) :
    ∃ v' w', (Builtin.append_ #[t, t] ty #[v, v2]).run P w = .ok v' w' ∧ w'.ownsRow base e size v' (n + m) (xs ++ us) ∧ w.grownBy w' v.ownBlock ∧ (v'.ownBlock = v.ownBlock ∨ v'.ownBlock = some w.heap.size) := by
  rcases hr.2 with ⟨rfl, rfl⟩ | ⟨g, cap, cur, rfl, hb, hg, hle, hmx, hs, htk⟩
  · have hus : us = [] := by
      have := hr.1
      cases us with
      | nil => rfl
      | cons u r => simp at this
    subst hus
    refine ⟨v, w, ?_, by simpa using hown, Only.refl w _, Or.inl rfl⟩
    rcases hown.2 with ⟨rfl, rfl⟩ | ⟨g, cap, cur, rfl, _, _, hnc, _⟩
    · simp [Builtin.append_, run_underlying ht, sizeOf, typeInfo, hi, Builtin.lenOf, Builtin.firstCells]
    · simp [Builtin.append_, run_underlying ht, sizeOf, typeInfo, hi, Builtin.lenOf, Builtin.firstCells, hnc, storeCells]
  · obtain ⟨v', w', hrun, h2, h3, _, h5⟩ := run_append_own_at (P := P) w base t ty e i z size bytes ht hi hz hsize hby hzs hsz v n xs hown ⟨g, 0, none⟩ m cap us (by rw [hr.1])
      (fun j u hu => hr.cells (g := g) rfl j u hu) h1 h63 hbytes hbase
    exact ⟨v', w', hrun, h2, h3, h5⟩
set_option maxRecDepth 100000 in
theorem wpList_append_ownrow (w : World) {ops : Array Oper} {rest : List Oper} {o : Oper} {a : Act} {Q : Exit → Act → World → Prop} (s x : Operand) (t : TypeId)
    (ho : o.op = .call { callee := .builtin .append, args := #[s, x], argTypes := #[t, t] })
    (base : Nat) (e : TypeId) (i : TypeInfo) (z : Value) (size bytes : Nat) (ht : P.underlying t = some (.slice e)) (hi : P.info? e = some i) (hz : i.zero = some z)
    (hsize : i.size = size) (hby : i.bytes = bytes) (hzs : z.cells.size = size) (hsz : 0 < size)
    (v : Value) (n : Nat) (xs : List Value) (hs : a.eval s = v) (hown : w.ownsRow base e size v n xs)
    (base2 : Nat) (v2 : Value) (m : Nat) (us : List Value) (hx : a.eval x = v2) (hr : w.ownsRow base2 e size v2 m us) (h1 : ∀ u ∈ us, u.oneCell' = true)
    (h63 : n + m ≤ maxLen) (hbytes : (n + m) * bytes ≤ 140737488355328) (hbase : base ≤ w.heap.size) (hw : Region.wanted o (yielded ops a.tmps) = true)
    (h : ∀ v' w', w'.ownsRow base e size v' (n + m) (xs ++ us) → w.grownBy w' v.ownBlock → (v'.ownBlock = v.ownBlock ∨ v'.ownBlock = some w.heap.size) → wpList P ops Q rest (a.put o.dst v') w') : wpList P ops Q (o :: rest) a w := by
  refine wpList_step fun K hK => ?_
  rw [if_pos hw]
  obtain ⟨v', w', hrun, h2, h3, h4⟩ := run_append_ownrow (P := P) base t o.type e i z size bytes ht hi hz hsize hby hzs hsz hown hr h1 h63 hbytes hbase
  unfold Oper.wp execOp
  simp only [ho, resolve, invoke, builtin, Sem.run_bind, Sem.run_pure, Result.andThen_ok, List.map_toArray, List.map_cons, List.map_nil, hs, hx, hrun]
  exact hK _ _ (h v' w' h2 h3 h4)
end
set_option maxRecDepth 100000 in
theorem infoL : (Tryz.prog.info? 123).map (fun i => (i.zero, i.size, i.bytes)) = some (some (.agg #[.int .i64 0, .string ⟨#[]⟩]), 2, 24) := by kernel_rfl
set_option maxRecDepth 100000 in
theorem pairs_one (L : List (Nat × ByteArray)) : ∀ u ∈ pairs L, u.oneCell' = true := fun u hu => by
  obtain ⟨p, _, hp⟩ := List.mem_flatMap.1 hu
  simp only [List.mem_cons, List.not_mem_nil, or_false] at hp
  rcases hp with rfl | rfl <;> rfl
/-- a list, the first k of it looked at -/
def upd (n : Nat) (s : ByteArray) (k : Nat) (L : List (Nat × ByteArray)) : List (Nat × ByteArray) := (L.take k).map (fun p => if p.1 = n then (n, s) else p) ++ L.drop k
set_option maxRecDepth 100000 in
theorem upd_zero (n : Nat) (s : ByteArray) (L : List (Nat × ByteArray)) : upd n s 0 L = L := by simp [upd]
set_option maxRecDepth 100000 in
theorem upd_all (n : Nat) (s : ByteArray) (L : List (Nat × ByteArray)) : upd n s L.length L = L.map fun p => if p.1 = n then (n, s) else p := by simp [upd]
set_option maxRecDepth 100000 in
theorem upd_length (n : Nat) (s : ByteArray) (k : Nat) (L : List (Nat × ByteArray)) : (upd n s k L).length = L.length := by simp [upd]; omega
set_option maxRecDepth 100000 in
theorem upd_at {n : Nat} {s : ByteArray} {k : Nat} {L : List (Nat × ByteArray)} {p : Nat × ByteArray} (hp : L[k]? = some p) : (upd n s k L)[k]? = some p := by
  have hk := (List.getElem?_eq_some_iff.1 hp).1
  unfold upd
  rw [List.getElem?_append_right (by simp; omega)]
  simp only [List.length_map, List.length_take, List.getElem?_drop]
  rw [show k + (k - min k L.length) = k by omega]
  exact hp
set_option maxRecDepth 100000 in
theorem upd_succ {n : Nat} {s : ByteArray} {k : Nat} {L : List (Nat × ByteArray)} {p : Nat × ByteArray} (hp : L[k]? = some p) : upd n s (k + 1) L = (upd n s k L).set k (if p.1 = n then (n, s) else p) := by
  have hk := (List.getElem?_eq_some_iff.1 hp).1
  unfold upd
  rw [take_succ_of hp, List.map_append, List.append_assoc, List.set_append_right _ _ (by simp; omega)]
  have e : L.drop k = p :: L.drop (k + 1) := by
    rw [List.drop_eq_getElem_cons hk]
    have := (List.getElem?_eq_some_iff.1 hp).2
    rw [this]
  rw [e]
  simp [show k - min k L.length = 0 by omega]
set_option maxRecDepth 100000 in
theorem set_same {α : Type} {l : List α} {k : Nat} {p : α} (h : l[k]? = some p) : l.set k p = l := by
  apply List.ext_getElem?
  intro i
  rw [List.getElem?_set]
  split
  · next e => subst e; rw [if_pos (List.getElem?_eq_some_iff.1 h).1]; exact h.symm
  · rfl
set_option maxRecDepth 100000 in
theorem pairs_set : ∀ (L : List (Nat × ByteArray)) (k : Nat) (m : Nat) (t s : ByteArray), L[k]? = some (m, t) → (pairs L).set (k * 2 + 1) (.string s) = pairs (L.set k (m, s))
  | [], k, m, t, s, h => by simp at h
  | q :: L, 0, m, t, s, h => by
    injection h with h
    subst h
    rfl
  | q :: L, k + 1, m, t, s, h => by
    have h' : L[k]? = some (m, t) := h
    have e : ∀ (q : Nat × ByteArray) (L : List (Nat × ByteArray)), pairs (q :: L) = .int .i64 (q.1 : Int) :: .string q.2 :: pairs L := fun _ _ => rfl
    rw [List.set_cons_succ, e, e, show (k + 1) * 2 + 1 = (k * 2 + 1) + 1 + 1 by omega, List.set_cons_succ, List.set_cons_succ, pairs_set L k m t s h']
/-- was one of the first k of it? -/
def seen (n k : Nat) (L : List (Nat × ByteArray)) : Bool := (L.take k).any fun p => p.1 == n
set_option maxRecDepth 100000 in
theorem seen_succ {n k : Nat} {L : List (Nat × ByteArray)} {p : Nat × ByteArray} (hp : L[k]? = some p) : seen n (k + 1) L = (seen n k L || p.1 == n) := by
  unfold seen
  rw [take_succ_of hp, List.any_append]
  simp
set_option maxRecDepth 100000 in
theorem seen_all (n : Nat) (L : List (Nat × ByteArray)) : seen n L.length L = (find L n).isSome := by
  unfold seen
  rw [List.take_length, find]
  rw [Option.isSome_map, List.isSome_find?]
set_option maxRecDepth 100000 in
theorem putL_seen (n : Nat) (s : ByteArray) (L : List (Nat × ByteArray)) : putL L n s = if seen n L.length L = true then upd n s L.length L else upd n s L.length L ++ [(n, s)] := by
  rw [seen_all, upd_all]
  unfold putL
  split
  · rfl
  · next h =>
    have hn : find L n = none := by cases hf : find L n with | none => rfl | some t => rw [hf] at h; exact absurd rfl h
    congr 1
    refine (List.map_congr_left (g := id) (fun p hp => ?_)).symm ▸ (List.map_id L).symm
    rw [if_neg (find_none hn p hp)]
    rfl
end Go.Proofs.YtkghlbpkdkonbaaGreat.Disk

/- The strings.Builder within a walk's own block: copyCheck, WriteString, String. -/
import Derived.Test.YtajlfmnjibgbaaaGreatDoorBuilder
import Derived.Test.YtajlfmnjibgbaaaGreatDoorMems
import Derived.Lib.SmallJoins
import Derived.Lib.UnsafeStr
import Derived.Shelf.RegionOpen
namespace Go.Proofs.YtajlfmnjibgbaaaGreatDoor.Bin
open Go Go.RowKit Mem
set_option maxRecDepth 100000 in
theorem liesIn : liesAt Tryz.prog Tryz.prog.depth 83 (8 / Tryz.prog.cellsOf 83) 4 81 1 = true := by kernel_rfl
set_option maxRecDepth 100000 in
theorem infoByte : (Tryz.prog.info? 5).map (fun i => (i.zero, i.size, i.bytes)) = some (some (.int .u8 0), 1, 1) := by kernel_rfl
set_option maxRecDepth 100000 in
theorem sizeBuilder : (Tryz.prog.info? 81).map (·.size) = some 2 := by kernel_rfl
section
variable {w : World} {a : Nat} {c0 c1 c2 c3 p v c6 c7 : Value}
set_option maxRecDepth 100000 in
theorem shape_of (h : Blk w a 83 #[c0, c1, c2, c3, p, v, c6, c7]) : w.shape? a = some (83, 8) := by
  have h' : w.heap[a]? = some (.cells #[c0, c1, c2, c3, p, v, c6, c7] 83 (0, 0)) := h
  simp [World.shape?, h']
set_option maxHeartbeats 1000000 in
set_option maxRecDepth 100000 in
theorem check_any (h : Blk w a 83 #[c0, c1, c2, c3, p, v, c6, c7]) (hp : p = .pointer none ∨ p = .pointer (some ⟨a, 4, none⟩)) :
    Calls Tryz.prog 110 #[.pointer (some ⟨a, 4, none⟩)] w fun e w' => e = .returned (.tuple #[]) ∧ Blk w' a 83 #[c0, c1, c2, c3, .pointer (some ⟨a, 4, none⟩), v, c6, c7] ∧ w.grownBy w' (some a) := by
  obtain ⟨j, hj, hjs⟩ := Option.map_eq_some_iff.1 sizeBuilder
  have hn := fun W => Lib.run_neq_ptr_same (P := Tryz.prog) W ⟨a, 4, none⟩ Tryz.underlying79 hj
  have h4 : w.cell? ⟨a, 4, none⟩ = some p := h.cell 4
  rcases hp with rfl | rfl
  · have hsh := shape_of h
    have hfz := h.free 4
    have q1 := Lib.run_to_unsafe w ⟨a, 4, none⟩ Tryz.underlying79 Tryz.underlying188 hj (by rw [hjs]; decide) hsh (show (4 : Nat) < 8 by decide)
    have q2 := run_callFunc_extern Tryz.func122 (by kernel_rfl) (by kernel_rfl) (by kernel_rfl) (e := Extern.AbiNoEscape.same) (by kernel_rfl)
    have q3 := fun x => Lib.run_noEscape (P := Tryz.prog) w x
    have q4 := Lib.run_from_unsafe w ⟨a, 4, none⟩ Tryz.underlying188 Tryz.underlying79 hj hsh liesIn
    have fin : Blk (w.setCell ⟨a, 4, none⟩ (.pointer (some ⟨a, 4, none⟩))) a 83 #[c0, c1, c2, c3, .pointer (some ⟨a, 4, none⟩), v, c6, c7] := h.put 4 _
    have fin2 : w.grownBy (w.setCell ⟨a, 4, none⟩ (.pointer (some ⟨a, 4, none⟩))) (some a) := Only.put (Only.refl w (some a)) 4 _
    replace fin := Lib.hid fin
    replace fin2 := Lib.hid fin2
    clear h
    go_enter Tryz.func110, Tryz.ntmps110
    go_wp2
    go_end0
    exact ⟨rfl, fin.out, fin2.out⟩
  · have fin := Lib.hid h
    clear h
    go_enter Tryz.func110, Tryz.ntmps110
    go_wp2
    go_end0
    exact ⟨rfl, fin.out, Only.refl _ _⟩
end
section
variable {P : Program} (w : World)
set_option maxRecDepth 100000 in
/-- 'append(b, s...)' by its string: where the row lies then -/
theorem append_own_string_at (base : Nat) (t u ty e : TypeId) (i : TypeInfo) (ht : P.underlying t = some (.slice e)) (hu : P.underlying u = some .string) (hi : P.info? e = some i) (hz : i.zero = some (.int .u8 0))
    (hsize : i.size = 1) (hby : i.bytes = 1) (v : Value) (n : Nat) (xs : List Value) (hown : w.ownsRow base e 1 v n xs) (s : ByteArray)
    (h63 : n + s.size ≤ maxLen) (hbytes : n + s.size ≤ 140737488355328) (hbase : base ≤ w.heap.size) :
    ∃ v' w', (Builtin.append_ #[t, u] ty #[v, .string s]).run P w = .ok v' w' ∧ w'.ownsRow base e 1 v' (n + s.size) (xs ++ Lib.strCells s) ∧ w.grownBy w' v.ownBlock ∧ (v'.ownBlock = v.ownBlock ∨ v'.ownBlock = some w.heap.size) := by
  obtain ⟨v', w', hr, h2, h3, h4⟩ := Lib.run_append_own_string (P := P) w base t u ty e i ht hu hi hz hsize hby v n xs hown s h63 hbytes hbase
  have hsmall : n + s.size ≤ 9223372036854775807 := by simp only [maxLen] at h63; omega
  have hxl : xs.length = n := by simpa using hown.1
  refine ⟨v', w', hr, h2, h3, ?_⟩
  rcases hown.2 with ⟨rfl, rfl⟩ | ⟨g, cap, cur, rfl, hbg, hg, hnc, hcm, hcs, htake⟩
  · by_cases hm : s.size = 0
    · rw [h4.2 ⟨rfl, hm⟩]
      exact Or.inl rfl
    · have hr' := run_append_nil_string (P := P) w t u ty e i (.int .u8 0) ht hu hi hz s (by omega) (by omega) (by rw [hby]; omega)
      rw [hr] at hr'
      injection hr' with e1 e2
      rw [e1]
      exact Or.inr rfl
  · by_cases hroom : n + s.size ≤ cap
    · have hcs' : cur.size = cap := by simpa using hcs
      have hr' := Lib.run_append_room_string (P := P) w t u ty e i ht hu hi hsize g n cap cur hg s hroom (by omega)
      rw [hr] at hr'
      injection hr' with e1 e2
      rw [e1]
      exact Or.inl rfl
    · have holds : ∀ j u, xs[j]? = some u → w.cell? ((⟨g, 0, none⟩ : Addr).add j) = some u := hown.cells (g := g) rfl
      have hr' := Lib.run_append_grow_string (P := P) w t u ty e i (.int .u8 0) ht hu hi hz ⟨g, 0, none⟩ n cap xs (by rw [hsize]; simpa using hxl) holds s (by omega) (by omega) (by rw [hby]; exact growslice_fits (by omega) (by omega))
      rw [hr] at hr'
      injection hr' with e1 e2
      rw [e1]
      exact Or.inr rfl
set_option maxRecDepth 100000 in
theorem wpList_append_own_string_at {ops : Array Oper} {rest : List Oper} {o : Oper} {a : Act} {Q : Exit → Act → World → Prop} (hgd : o.guard = none) (sl x : Operand) (t u : TypeId)
    (ho : o.op = .call { callee := .builtin .append, args := #[sl, x], argTypes := #[t, u] })
    (base : Nat) (e : TypeId) (i : TypeInfo) (ht : P.underlying t = some (.slice e)) (hu : P.underlying u = some .string) (hi : P.info? e = some i) (hz : i.zero = some (.int .u8 0))
    (hsize : i.size = 1) (hby : i.bytes = 1)
    (v : Value) (n : Nat) (xs : List Value) (hs : a.eval sl = v) (hown : w.ownsRow base e 1 v n xs) (s : ByteArray) (hx : a.eval x = .string s)
    (h63 : n + s.size ≤ maxLen) (hbytes : n + s.size ≤ 140737488355328) (hbase : base ≤ w.heap.size)
    (h : ∀ v' w', w'.ownsRow base e 1 v' (n + s.size) (xs ++ Lib.strCells s) → w.grownBy w' v.ownBlock → (v'.ownBlock = v.ownBlock ∨ v'.ownBlock = some w.heap.size) → wpList P ops Q rest (a.put o.dst v') w') : wpList P ops Q (o :: rest) a w := by
  refine wpList_plain hgd fun K hK => ?_
  obtain ⟨v', w', hr, h2, h3, h4⟩ := append_own_string_at (P := P) w base t u o.type e i ht hu hi hz hsize hby v n xs hown s h63 hbytes hbase
  unfold Oper.wp execOp
  simp only [ho, resolve, invoke, builtin, Sem.run_bind, Sem.run_pure, Result.andThen_ok, List.map_toArray, List.map_cons, List.map_nil, hs, hx, hr]
  exact hK _ _ (h v' w' h2 h3 h4)
end
section
variable {w : World} {a : Nat} {c0 c1 c2 c3 p v c6 c7 : Value}
set_option maxHeartbeats 2000000 in
set_option maxRecDepth 100000 in
theorem writeString_any (B : Nat) (bs : List Value) (s : ByteArray) (h : Blk w a 83 #[c0, c1, c2, c3, p, v, c6, c7]) (hp : p = .pointer none ∨ p = .pointer (some ⟨a, 4, none⟩)) (hown : w.ownsRow B 5 1 v bs.length bs) (hne : v.ownBlock ≠ some a)
    (hlen : bs.length + s.size ≤ 140737488355328) (hBw : B ≤ w.heap.size) :
    Calls Tryz.prog 90 #[.pointer (some ⟨a, 4, none⟩), .string s] w fun e w' => e = .returned (.tuple #[.int .i64 s.size, .nilIface]) ∧
      ∃ v', Blk w' a 83 #[c0, c1, c2, c3, .pointer (some ⟨a, 4, none⟩), v', c6, c7] ∧ w'.ownsRow B 5 1 v' (bs.length + s.size) (bs ++ Lib.strCells s) ∧ v'.ownBlock ≠ some a ∧
        Keeps (fun i => i = a ∨ v.ownBlock = some i) w w' ∧ ∀ i, v'.ownBlock = some i → v.ownBlock = some i ∨ w.heap.size ≤ i := by
  obtain ⟨i0, hi, hz0, hz1, hz2⟩ := info_parts infoByte
  have halt := h.lt
  go_enter Tryz.func90, Tryz.ntmps90
  go_wp2_with fail
  refine (check_any h hp).mono ?_
  rintro e w1 ⟨rfl, hb1, hg1⟩
  have k5 : w1.cell? ⟨a, 5, none⟩ = some v := hb1.cell 5
  have k1 := Keeps.of_grown (F := fun i => i = a ∨ v.ownBlock = some i) hg1 (fun j e => Or.inl (by injection e with e; exact e.symm))
  have own1 := own_keeps hown (Keeps.of_grown (F := fun i => i = a) hg1 (fun j e => by injection e with e; exact e.symm)) (fun j e he => hne (by rw [e, he]))
  have hs1 := hg1.size
  replace k1 := Lib.hid k1
  replace hb1 := Lib.hid hb1
  clear h hown
  go_wp2_with (at_builtin; refine wpList_append_own_string_at _ rfl (.tmp 12) (.tmp 13) 36 9 rfl B 5 i0 Tryz.underlying36 Tryz.underlying9 hi hz0 hz1 hz2 v bs.length bs rfl own1 s rfl (by unfold maxLen; omega) (by omega) (by omega) ?_)
  intro v' w2 hown' hgrow hnew
  have hb2 : Blk w2 a 83 #[c0, c1, c2, c3, .pointer (some ⟨a, 4, none⟩), v, c6, c7] := hb1.out.grown hgrow (fun e => hne e.symm)
  have d5 : w2.cell? ⟨a, 5, none⟩ = some v := hb2.cell 5
  have f5 := hb2.free 5
  have ha1 := hb1.out.lt
  have hna : v'.ownBlock ≠ some a := fun e => by
    rcases hnew with q | q
    · exact hne (by rw [← q, e])
    · rw [e] at q
      injection q with q
      omega
  have fin := Lib.hid (show Blk (w2.setCell ⟨a, 5, none⟩ v') a 83 #[c0, c1, c2, c3, .pointer (some ⟨a, 4, none⟩), v', c6, c7] from hb2.put 5 _)
  have kk2 : Keeps (fun i => i = a ∨ v.ownBlock = some i) w w2 := k1.out.same (Keeps.of_grown hgrow (fun j e => Or.inr e))
  have kk := Lib.hid (kk2.put (g := a) (Or.inl (Or.inl rfl)) 5 v')
  have ow := Lib.hid (own_keeps hown' ((Keeps.refl (fun j => j = a) w2).put (g := a) (Or.inl rfl) 5 v') (fun j e he => hna (by rw [e, he])))
  have far := Lib.hid (show ∀ i, v'.ownBlock = some i → v.ownBlock = some i ∨ w.heap.size ≤ i from fun i e => by
    rcases hnew with q | q
    · exact Or.inl (by rw [← q, e])
    · rw [e] at q
      injection q with q
      exact Or.inr (by omega))
  clear hb2 kk2 hown' hgrow hnew hb1 k1 own1
  obtain ⟨ao, n', cap, rfl⟩ : ∃ ao n' cap, v' = .slice ao n' cap := by
    rcases ow.out.2 with ⟨hv, _⟩ | ⟨g, cap, cur, hv, _⟩
    · exact ⟨_, _, _, hv⟩
    · exact ⟨_, _, _, hv⟩
  go_wp2
  go_ret2
  exact ⟨rfl, _, fin.out, ow.out, hna, kk.out, far.out⟩
end
end Go.Proofs.YtajlfmnjibgbaaaGreatDoor.Bin
/- The text of the builder within a walk's own block. -/
namespace Go.Proofs.YtajlfmnjibgbaaaGreatDoor.Bin
open Go Go.RowKit Mem
set_option maxRecDepth 100000 in
theorem keeps_freeze (w : World) (g n : Nat) : Keeps (fun i => i = g) w (w.freeze ⟨g, 0, none⟩ n) := by
  unfold World.freeze
  split
  · exact Keeps.refl _ _
  · exact ⟨rfl, rfl, rfl, by simp, fun k hk hn => by
      simp only [Array.getElem?_modify]
      rw [if_neg (fun e => hn e.symm)]⟩
set_option maxRecDepth 100000 in
theorem cellsU8 : Tryz.prog.cellsOf 5 = 1 := by kernel_rfl
section
variable {w : World} {a : Nat} {c0 c1 c2 c3 p v c6 c7 : Value}
set_option maxHeartbeats 4000000 in
set_option maxRecDepth 100000 in
theorem string_any (s : ByteArray) (h : Blk w a 83 #[c0, c1, c2, c3, p, v, c6, c7]) (hown : w.ownsRow 0 5 1 v s.size (Lib.strCells s)) (hne : v.ownBlock ≠ some a) (hs : s.size ≤ 1000000) :
    Calls Tryz.prog 31 #[.pointer (some ⟨a, 4, none⟩)] w fun e w' => e = .returned (.string s) ∧ Keeps (fun i => v.ownBlock = some i) w w' := by
  have c5 : w.drew.cell? ⟨a, 5, none⟩ = some v := h.cell 5
  have mixed : Tryz.prog.follows Departure.mixedOrders = true := by kernel_rfl
  have kd : Keeps (fun i => v.ownBlock = some i) w w.drew := (Keeps.refl _ w).drewN 1
  rcases hown.2 with ⟨rfl, hz⟩ | ⟨g, cap, cur, rfl, hbg, hg, hnc, hcm, hcs, htake⟩
  · have hs0 : s = ⟨#[]⟩ := by
      apply ByteArray.ext
      exact Array.eq_empty_of_size_eq_zero hz
    subst hs0
    have hUS := fun (W : World) (q : Option Addr) => Lib.run_unsafeString_none (P := Tryz.prog) W 120 3 9 q
    have hSD : (Builtin.unsafeSliceData_ #[36] 120 #[.slice none 0 0]).run Tryz.prog w.drew = .ok (.pointer none) w.drew := rfl
    replace kd := Lib.hid kd
    clear hown hne h hz
    go_enter Tryz.func31, Tryz.ntmps31
    go_wp2
    go_region_o
    all_goals (go_wp2; go_ret; exact ⟨rfl, kd.out⟩)
  · by_cases h0 : s.size = 0
    · have hs0 : s = ⟨#[]⟩ := by
        apply ByteArray.ext
        exact Array.eq_empty_of_size_eq_zero h0
      subst hs0
      have hUS := fun (W : World) (q : Option Addr) => Lib.run_unsafeString_none (P := Tryz.prog) W 120 3 9 q
      rcases Nat.eq_zero_or_pos cap with hc | hc
      · subst hc
        have hg' : w.drew.heap[g]? = some (.cells cur 5 (0, 0)) := hg
        have hSD : (Builtin.unsafeSliceData_ #[36] 120 #[.slice (some ⟨g, 0, none⟩) 0 0]).run Tryz.prog w.drew = .ok (.pointer (some ⟨w.drew.heap.size, 0, none⟩)) (w.drew.alloc (.view ⟨g, 0, none⟩ 5)) :=
          Lib.run_unsafeSliceData_zero w.drew _ _ 5 Tryz.underlying120 ⟨g, 0, none⟩ 0 (5, cur.size) (by simp [World.shape?, hg'])
        have c2' : (w.drew.alloc (.view ⟨g, 0, none⟩ 5)).cell? ⟨a, 5, none⟩ = some (.slice (some ⟨g, 0, none⟩) 0 0) := (Blk.alloc (w := w.drew) h _).cell 5
        have c3' : (w.alloc (.view ⟨g, 0, none⟩ 5)).drew.cell? ⟨a, 5, none⟩ = some (.slice (some ⟨g, 0, none⟩) 0 0) := c2'
        have fin := Lib.hid (kd.alloc (.view ⟨g, 0, none⟩ 5))
        clear hown hne h hg hg' htake hcs hnc kd
        go_enter Tryz.func31, Tryz.ntmps31
        go_wp2
        go_region_o
        all_goals (go_wp2; go_ret; exact ⟨rfl, fin.out⟩)
      · have hSD : (Builtin.unsafeSliceData_ #[36] 120 #[.slice (some ⟨g, 0, none⟩) 0 cap]).run Tryz.prog w.drew = .ok (.pointer (some ⟨g, 0, none⟩)) w.drew := Lib.run_unsafeSliceData_row _ _ _ _ _ _ (by omega)
        replace kd := Lib.hid kd
        clear hown hne h hg htake hcs hnc hc
        go_enter Tryz.func31, Tryz.ntmps31
        go_wp2
        go_region_o
        all_goals (go_wp2; go_ret; exact ⟨rfl, kd.out⟩)
    · have hll : s.data.toList.length = s.size := by rw [Array.length_toList]; rfl
      have hcs' : cur.size = cap := by simpa using hcs
      have hg' : w.drew.heap[g]? = some (.cells cur 5 (0, 0)) := hg
      have hSD : (Builtin.unsafeSliceData_ #[36] 120 #[.slice (some ⟨g, 0, none⟩) s.size cap]).run Tryz.prog w.drew = .ok (.pointer (some ⟨g, 0, none⟩)) w.drew := Lib.run_unsafeSliceData_row _ _ _ _ _ _ (by omega)
      have hUS := Lib.run_unsafeString_row (P := Tryz.prog) w.drew 120 3 9 5 Tryz.underlying120 cellsU8 g cur.size (by simp [World.shape?, hg']) s.data.toList (by intro e; rw [e] at hll; exact h0 hll.symm) (by omega) (by omega) (fun j x hx => by
        have := hown.cells (g := g) rfl j (.int .u8 x.toNat) (by unfold Lib.strCells; rw [List.getElem?_map, hx]; rfl)
        exact this)
      rw [hll, Array.toArray_toList] at hUS
      have fin := Lib.hid (kd.same (show Keeps (fun i => (Value.slice (some ⟨g, 0, none⟩) s.size cap).ownBlock = some i) w.drew (w.drew.freeze ⟨g, 0, none⟩ s.size) from (keeps_freeze w.drew g s.size).mono (fun i e => by rw [e]; rfl)))
      replace hUS : (Builtin.unsafeString_ #[120, 3] 9 #[.pointer (some ⟨g, 0, none⟩), .int .i64 (s.size : Int)]).run Tryz.prog w.drew = .ok (.string s) (w.drew.freeze ⟨g, 0, none⟩ s.size) := hUS
      clear hown hne h hg hg' htake hcs hcs' hnc hll kd h0
      go_enter Tryz.func31, Tryz.ntmps31
      go_wp2
      go_region_o
      all_goals (go_wp2; go_ret; exact ⟨rfl, fin.out⟩)
end
end Go.Proofs.YtajlfmnjibgbaaaGreatDoor.Bin

/- A root's sector. -/
import Derived.Test.YtkghlbpkdkonbaaGreatBlkWalkA
import Derived.Test.YtkghlbpkdkonbaaGreatLate
import Derived.Test.YtkghlbpkdkonbaaGreatAppendRow
import Derived.Lib.AppendStr
import Derived.Lib.SmallJoins
import Derived.ArgAppend
import Derived.Deep.DeepCutAuto
namespace Go.Proofs.YtkghlbpkdkonbaaGreat.Vl
open Go Go.RowKit Go.Maps Mem Disk Nv
set_option maxRecDepth 100000 in
/-- append(b, text...), as one operation -/
theorem wp_append_str {P : Program} {o : Oper} {a : Act} {w : World} {K : Act → World → Prop} {Q : Exit → Act → World → Prop} (sl x : Operand) (t u : TypeId)
    (ho : o.op = .call { callee := .builtin .append, args := #[sl, x], argTypes := #[t, u] })
    (base : Nat) (e : TypeId) (i : TypeInfo) (ht : P.underlying t = some (.slice e)) (hu : P.underlying u = some .string) (hi : P.info? e = some i) (hz : i.zero = some (.int .u8 0))
    (hsize : i.size = 1) (hby : i.bytes = 1)
    (v : Value) (n : Nat) (xs : List Value) (hs : a.eval sl = v) (hown : w.ownsRow base e 1 v n xs) (s : ByteArray) (hx : a.eval x = .string s)
    (h63 : n + s.size ≤ maxLen) (hbytes : n + s.size ≤ 140737488355328) (hbase : base ≤ w.heap.size)
    (h : ∀ v' w', w'.ownsRow base e 1 v' (n + s.size) (xs ++ Lib.strCells s) → w.grownBy w' v.ownBlock → (v' = .slice none 0 0 ↔ v = .slice none 0 0 ∧ s.size = 0) → K (a.put o.dst v') w') : Oper.wp P o a w K Q := by
  obtain ⟨v', w', hr, h2, h3, h4⟩ := Lib.run_append_own_string (P := P) w base t u o.type e i ht hu hi hz hsize hby v n xs hown s h63 hbytes hbase
  unfold Oper.wp execOp
  simp only [ho, resolve, invoke, builtin, Sem.run_bind, Sem.run_pure, Result.andThen_ok, List.map_toArray, List.map_cons, List.map_nil, hs, hx, hr]
  exact h v' w' h2 h3 h4
set_option maxRecDepth 100000 in
theorem headR_bytes (t : ByteArray) (n : Nat) : [Value.int .u8 82, .int .u8 84] ++ bytesP n 6 ++ [.int .u8 ((UInt8.ofNat t.size).toNat : Int)] = Lib.byteCells (headR t n).data.toList := by
  unfold headR
  rw [toL_append, toL_append]
  simp [Lib.byteCells, bytesP, num]
set_option maxRecDepth 100000 in
set_option maxHeartbeats 8000000 in
theorem rootsec_any (t : ByteArray) (n : Nat) (ht : t.size ≤ 40) (w : World) : Calls Tryz.prog 88 #[.agg #[.string t, .int .i64 (n : Int)]] w fun e w' => e = .returned (.string (rootB t n)) ∧ Below w.heap.size w w' := by
  obtain ⟨i0, hinf, hz0, hz1, hz2⟩ := info_parts infoU8x
  obtain ⟨V0, hV0⟩ : ∃ V0, V0 = w.alloc (.cells #[.string t, .int .i64 (n : Int)] 65) := ⟨_, rfl⟩
  have B0 : Blk V0 w.heap.size 65 #[.string t, .int .i64 (n : Int)] := by rw [hV0]; exact Blk.new w _ _
  have b0 : Below w.heap.size w V0 := by rw [hV0]; exact (Below.refl _ w).alloc (Nat.le_refl _) _
  go_enter Tryz.func88, Tryz.ntmps88
  go_upto_region 1 with fail
  rw [← hV0]
  have cvt := Joins.run_convert_bytes_const_at (P := Tryz.prog) V0 72 5 #[.int .u8 82, .int .u8 84] 2 2 V0.heap.size rfl Tryz.underlying72 Tryz.underlying5
  have cvt' : (convert 72 72 (.slice (some ⟨V0.heap.size, 0, none⟩) 2 2)).run Tryz.prog (V0.alloc (.cells #[.int .u8 82, .int .u8 84] 5)) = .ok (.slice (some ⟨V0.heap.size, 0, none⟩) 2 2) (V0.alloc (.cells #[.int .u8 82, .int .u8 84] 5 (2, 3))) := cvt
  have g0 : (V0.alloc (.cells #[.int .u8 82, .int .u8 84] 5 (2, 3))).cell? ⟨V0.heap.size, 0, none⟩ = some (.int .u8 82) := Joins.cell_alloc_mark_at V0 _ _ _ _ 0 rfl
  have g1 : (V0.alloc (.cells #[.int .u8 82, .int .u8 84] 5 (2, 3))).cell? ⟨V0.heap.size, 1, none⟩ = some (.int .u8 84) := Joins.cell_alloc_mark_at V0 _ _ _ _ 1 rfl
  have b1 : Below w.heap.size w (V0.alloc (.cells #[.int .u8 82, .int .u8 84] 5 (2, 3))) := b0.alloc b0.size _
  have B1 := B0.alloc (.cells #[.int .u8 82, .int .u8 84] 5 (2, 3))
  have hgl : V0.heap.size < (V0.alloc (.cells #[.int .u8 82, .int .u8 84] 5 (2, 3))).heap.size := by simp
  replace g0 := Lib.hid g0
  replace g1 := Lib.hid g1
  replace b1 := Lib.hid b1
  replace B1 := Lib.hid B1
  replace hgl := Lib.hid hgl
  clear hV0 B0 b0 cvt
  go_wp2_with fail
  generalize V0.alloc (.cells #[.int .u8 82, .int .u8 84] 5 (2, 3)) = V1 at g0 g1 b1 B1 hgl ⊢
  generalize V0.heap.size = g at g0 g1 hgl ⊢
  go_loopw [3, 7] (fun v i wr => ∃ k : Nat, k ≤ 6 ∧ i = .int .i64 (k : Int) ∧ ((k = 0 ∧ v = .slice (some ⟨g, 0, none⟩) 2 2 ∧ wr.cell? ⟨g, 0, none⟩ = some (.int .u8 82) ∧ wr.cell? ⟨g, 1, none⟩ = some (.int .u8 84) ∧ g < wr.heap.size) ∨ ∃ (A : Option Addr) (c : Nat), v = .slice A (2 + k) c ∧ wr.ownsRow w.heap.size 5 1 (.slice A (2 + k) c) (2 + k) ([.int .u8 82, .int .u8 84] ++ bytesP n k)) ∧ Below w.heap.size w wr ∧ Blk wr w.heap.size 65 #[.string t, .int .i64 (n : Int)]) (fun _ i _ => 6 - (intOf i).toNat)
  case atStart => exact ⟨0, Nat.zero_le _, rfl, Or.inl ⟨rfl, rfl, g0.out, g1.out, hgl.out⟩, b1.out, B1.out⟩
  case round =>
    clear g0 g1 b1 B1 hgl
    obtain ⟨k, hk, rfl, hor, hb, hB⟩ := hrel
    have hs := hb.size
    have c1 := hB.cell 1
    by_cases hlt : k < 6
    · obtain ⟨cc, hcc⟩ : ∃ cc, cc = UInt8.ofNat (n / 2 ^ (8 * k)) := ⟨_, rfl⟩
      have e1 : ((n : Int) / 2 ^ (8 * k)) % 256 = (cc.toNat : Int) := by
        rw [hcc, UInt8.toNat_ofNat']
        have e : ((n : Int) / 2 ^ (8 * k)) = ((n / 2 ^ (8 * k) : Nat) : Int) := by rw [Int.natCast_ediv, Int.natCast_pow]; rfl
        rw [e]
        omega
      have hbs := bytesP_succ n k
      rw [← hcc] at hbs
      have hba := hb.alloc hs (.cells #[.int .u8 (cc.toNat : Int)] 5)
      have hBa := hB.alloc (.cells #[.int .u8 (cc.toNat : Int)] 5)
      replace hcc := Lib.hid hcc
      replace hbs := Lib.hid hbs
      rcases hor with ⟨rfl, rfl, q0, q1, hgl⟩ | ⟨A, c, rfl, o⟩
      · have p0 : (wr.alloc (.cells #[.int .u8 (cc.toNat : Int)] 5)).cell? ⟨g, 0, none⟩ = some (.int .u8 82) := (World.cell?_of_block (Below.heap_alloc wr _ g hgl)).trans q0
        have p1 : (wr.alloc (.cells #[.int .u8 (cc.toNat : Int)] 5)).cell? ⟨g, 1, none⟩ = some (.int .u8 84) := (World.cell?_of_block (Below.heap_alloc wr _ g hgl)).trans q1
        have e1' : (n : Int) % 256 = (cc.toNat : Int) := by rw [← e1]; simp
        replace p0 := Lib.hid p0
        replace p1 := Lib.hid p1
        replace hba := Lib.hid hba
        replace hBa := Lib.hid hBa
        clear hb hB q0 q1
        go_wp2_with (first
          | (at_builtin; refine wpList_append_grows _ rfl (.tmp 10) (.tmp 17) _ rfl 5 i0 (.int .u8 0) 1 1 Tryz.underlying72 hinf hz0 hz1 hz2 rfl (by decide) (some ⟨g, 0, none⟩) 2 2 [.int .u8 82, .int .u8 84] rfl (fun h => by cases h) rfl (fun b hb j u hj => by
                injection hb with hb
                subst hb
                match j, hj with
                | 0, hj => injection hj with hj; rw [← hj]; exact p0.out
                | 1, hj => injection hj with hj; rw [← hj]; exact p1.out
                | j + 2, hj => cases hj) ⟨wr.heap.size, 0, none⟩ 1 1 [.int .u8 (cc.toNat : Int)] rfl rfl (cell_one_new _ _ _) (by simp [Value.oneCell']) (by omega) (by unfold maxLen; omega) (by omega) ?_; intro v1 w11 o2 g1))
        obtain ⟨A1, c1, rfl⟩ := own_slice o2
        have hle : w.heap.size ≤ (wr.alloc (.cells #[.int .u8 (cc.toNat : Int)] 5)).heap.size := Nat.le_trans hs (by simp)
        have o3 := Joins.ownsRow_le o2 hle
        rw [show [Value.int .u8 82, .int .u8 84] ++ [.int .u8 (cc.toNat : Int)] = [.int .u8 82, .int .u8 84] ++ bytesP n (0 + 1) from by rw [hbs.out]; rfl] at o3
        exact ⟨⟨1, by omega, rfl, Or.inr ⟨A1, c1, rfl, o3⟩, hba.out.grown g1 hba.out.size (fun j hj => by cases hj), hBa.out.grown g1 (by simp)⟩, by simp [intOf]⟩
      · have oa := o.alloc (.cells #[.int .u8 (cc.toNat : Int)] 5)
        have hne := own_ne oa hBa (by decide)
        replace oa := Lib.hid oa
        replace hba := Lib.hid hba
        replace hBa := Lib.hid hBa
        replace hne := Lib.hid hne
        clear o hb hB
        go_wp2_with (first
          | (at_builtin; refine wpList_append_own _ rfl (.tmp 10) (.tmp 17) _ rfl w.heap.size 5 i0 (.int .u8 0) 1 1 Tryz.underlying72 hinf hz0 hz1 hz2 rfl (by decide) (.slice A (2 + k) c) (2 + k) _ rfl oa.out ⟨wr.heap.size, 0, none⟩ 1 1 [.int .u8 (cc.toNat : Int)] rfl rfl (cell_one_new _ _ _) (by simp [Value.oneCell']) (by unfold maxLen; omega) (by omega) (by simp; omega) ?_; intro v1 w11 o2 g1 n1))
        obtain ⟨A1, c1, rfl⟩ := own_slice o2
        rw [List.append_assoc, ← hbs.out] at o2
        exact ⟨⟨k + 1, hlt, rfl, Or.inr ⟨A1, c1, rfl, o2⟩, hba.out.grown g1 hba.out.size (fun j hj => (oa.out.lt j hj).1), hBa.out.grown g1 (fun e => hne.out _ e.symm rfl)⟩, by simp [intOf]; omega⟩
    · obtain rfl : k = 6 := by omega
      obtain ⟨A, c, rfl, o⟩ := hor.resolve_left (fun h => absurd h.1 (by decide))
      obtain ⟨sz, hsz⟩ : ∃ sz, sz = UInt8.ofNat t.size := ⟨_, rfl⟩
      have e2 : IntKind.u8.wrap (t.size : Int) = (sz.toNat : Int) := by
        show (t.size : Int) % 256 = _
        rw [hsz, UInt8.toNat_ofNat']
        omega
      have hR : [Value.int .u8 82, .int .u8 84] ++ bytesP n 6 ++ [.int .u8 (sz.toNat : Int)] = Lib.byteCells (headR t n).data.toList := by rw [hsz]; exact headR_bytes t n
      have kf := fun W => filled_any (headR t n ++ t) 56 W (by rw [ByteArray.size_append, headR_size]; omega) (by decide)
      have hroot : sealB (headR t n ++ t) 56 = rootB t n := rfl
      rw [hroot] at kf
      obtain ⟨Y, hY⟩ : ∃ Y, Y = headR t n ++ t := ⟨_, rfl⟩
      rw [← hY] at kf
      have hYr : ([Value.int .u8 82, .int .u8 84] ++ bytesP n 6 ++ [.int .u8 (sz.toNat : Int)]) ++ Lib.strCells t = Lib.byteCells Y.data.toList := by
        rw [hR, hY, toL_append]
        unfold Lib.byteCells Lib.strCells
        rw [List.map_append]
      have hYs : Y.data.toList.length = 9 + t.size := by
        have : Y.size = 9 + t.size := by rw [hY, ByteArray.size_append, headR_size]
        show Y.size = _
        omega
      generalize hRR : rootB t n = R at kf
      replace hRR := Lib.hid hRR
      replace kf := Lib.hid kf
      replace hYr := Lib.hid hYr
      replace hY := Lib.hid hY
      replace hsz := Lib.hid hsz
      have o0 : wr.drew.ownsRow w.heap.size 5 1 (.slice A 8 c) 8 ([.int .u8 82, .int .u8 84] ++ bytesP n 6) := o
      have hb0 : Below w.heap.size w wr.drew := hb.drew
      have hB0 : Blk wr.drew w.heap.size 65 #[.string t, .int .i64 (n : Int)] := hB
      clear hR hroot o hb hB c1 hs
      go_upto_region 7 with fail
      refine Late.start (S := fun W' => W'.cell? ⟨w.heap.size, 0, none⟩ = some (.string t)) (T := fun _ => True) (late := []) (by kernel_rfl) ?_
      generalize wr.drew = V at o0 hb0 hB0 ⊢
      have hT : True := trivial
      have hS : V.cell? ⟨w.heap.size, 0, none⟩ = some (.string t) := hB0.cell 0
      refine Late.take (i := 0) (oi := ?_) (v := ?_) ?_ (by kernel_rfl) (by kernel_rfl) (by kernel_rfl) (by kernel_rfl) ?_ ?_ (by assumption) (by assumption) ?_
      rotate_left 2
      focus (simp only [List.getElem?_toArray, List.getElem?_cons_zero]; rfl)
      focus exact fun _ _ _ h => h
      focus (refine Or.inl ⟨by kernel_rfl, ?_⟩; intro w hSw; clear hSw; go_simp; try with_reducible rfl)
      try simp only [Act.put, List.setIfInBounds_toArray, List.set_cons_zero, List.set_cons_succ]
      refine Late.take (i := 1) (oi := ?_) (v := ?_) ?_ (by kernel_rfl) (by kernel_rfl) (by kernel_rfl) (by kernel_rfl) ?_ ?_ (by assumption) (by assumption) ?_
      rotate_left 2
      focus (simp only [List.getElem?_toArray, List.getElem?_cons_succ, List.getElem?_cons_zero]; rfl)
      focus exact fun _ _ _ h => h
      focus (refine Or.inl ⟨by kernel_rfl, ?_⟩; intro w hSw; clear hSw; go_simp; try with_reducible rfl)
      try simp only [Act.put, List.setIfInBounds_toArray, List.set_cons_zero, List.set_cons_succ]
      refine Late.take (i := 2) (oi := ?_) (v := ?_) ?_ (by kernel_rfl) (by kernel_rfl) (by kernel_rfl) (by kernel_rfl) ?_ ?_ (by assumption) (by assumption) ?_
      rotate_left 2
      focus (simp only [List.getElem?_toArray, List.getElem?_cons_succ, List.getElem?_cons_zero]; rfl)
      focus exact fun _ _ _ h => h
      focus (refine Or.inl ⟨by rfl, ?_⟩; intro w hSw; (try dsimp only at hSw); go_split_ands; go_simp; try with_reducible rfl)
      try simp only [Act.put, List.setIfInBounds_toArray, List.set_cons_zero, List.set_cons_succ]
      refine Late.take (i := 3) (oi := ?_) (v := ?_) ?_ (by kernel_rfl) (by kernel_rfl) (by kernel_rfl) (by kernel_rfl) ?_ ?_ (by assumption) (by assumption) ?_
      rotate_left 2
      focus (simp only [List.getElem?_toArray, List.getElem?_cons_succ, List.getElem?_cons_zero]; rfl)
      focus exact fun _ _ _ h => h
      focus (refine Or.inl ⟨by kernel_rfl, ?_⟩; intro w hSw; clear hSw; go_simp; try with_reducible rfl)
      try simp only [Act.put, List.setIfInBounds_toArray, List.set_cons_zero, List.set_cons_succ]
      refine Late.take (i := 4) (oi := ?_) (v := ?_) ?_ (by kernel_rfl) (by kernel_rfl) (by kernel_rfl) (by kernel_rfl) ?_ ?_ (by assumption) (by assumption) ?_
      rotate_left 2
      focus (simp only [List.getElem?_toArray, List.getElem?_cons_succ, List.getElem?_cons_zero]; rfl)
      focus exact fun _ _ _ h => h
      focus (refine Or.inl ⟨by kernel_rfl, ?_⟩; intro w hSw; clear hSw; go_simp; try with_reducible rfl)
      try simp only [Act.put, List.setIfInBounds_toArray, List.set_cons_zero, List.set_cons_succ]
      refine Late.take (i := 7) (oi := ?_) (v := ?_) ?_ (by kernel_rfl) (by kernel_rfl) (by kernel_rfl) (by kernel_rfl) ?_ ?_ (by assumption) (by assumption) ?_
      rotate_left 2
      focus (simp only [List.getElem?_toArray, List.getElem?_cons_succ, List.getElem?_cons_zero]; rfl)
      focus exact fun _ _ _ h => h
      focus (refine Or.inl ⟨by kernel_rfl, ?_⟩; intro w hSw; clear hSw; go_simp; try with_reducible rfl)
      try simp only [Act.put, List.setIfInBounds_toArray, List.set_cons_zero, List.set_cons_succ]
      refine Late.take (i := 8) (oi := ?_) (v := ?_) ?_ (by kernel_rfl) (by kernel_rfl) (by kernel_rfl) (by kernel_rfl) ?_ ?_ (by assumption) (by assumption) ?_
      rotate_left 2
      focus (simp only [List.getElem?_toArray, List.getElem?_cons_succ, List.getElem?_cons_zero]; rfl)
      focus exact fun _ _ _ h => h
      focus (refine Or.inl ⟨by rfl, ?_⟩; intro w hSw; (try dsimp only at hSw); go_split_ands; go_simp; try with_reducible rfl)
      try simp only [Act.put, List.setIfInBounds_toArray, List.set_cons_zero, List.set_cons_succ]
      refine Late.only (i := 5) (o := ?_) (by kernel_rfl) ?_ (fun K hK => ?_)
      rotate_left 1
      focus (simp only [List.getElem?_toArray, List.getElem?_cons_succ, List.getElem?_cons_zero]; rfl)
      go_simp
      have n1 : Row (V.alloc (.cells #[.int .u8 (sz.toNat : Int)] 5)) (some ⟨V.heap.size, 0, none⟩) 1 [.int .u8 (sz.toNat : Int)] := ⟨rfl, fun k u hk => by
        match k, hk with
        | 0, hk =>
          injection hk with hk
          subst hk
          exact ⟨_, rfl, (Blk.new V 5 #[.int .u8 (sz.toNat : Int)]).cell 0⟩
        | k + 1, hk => cases hk⟩
      have o1 := o0.alloc (.cells #[.int .u8 (sz.toNat : Int)] 5)
      have hb1 := hb0.alloc hb0.size (.cells #[.int .u8 (sz.toNat : Int)] 5)
      have hB1 := hB0.alloc (.cells #[.int .u8 (sz.toNat : Int)] 5)
      have hne := own_ne o1 hB1 (by decide)
      have hS1 := hB1.cell 0
      refine hK.out _ _ hS1 (fun _ => trivial) ?_
      clear hK K
      try simp only [Act.put, List.setIfInBounds_toArray, List.set_cons_zero, List.set_cons_succ]
      generalize V.alloc (.cells #[.int .u8 (sz.toNat : Int)] 5) = V1 at n1 o1 hb1 hB1 hS1 ⊢
      generalize V.heap.size = gg at n1 ⊢
      clear hS
      refine Late.only (i := 6) (o := ?_) (by kernel_rfl) ?_ (fun K hK => ?_)
      rotate_left 1
      focus (simp only [List.getElem?_toArray, List.getElem?_cons_succ, List.getElem?_cons_zero]; rfl)
      rw [if_pos (by kernel_rfl)]
      refine wp_append_row (P := Tryz.prog) (w := V1) (.tmp 20) (.tmp 25) 72 rfl w.heap.size 5 i0 (.int .u8 0) 1 Tryz.underlying72 hinf hz0 hz1 hz2 rfl (.slice A 8 c) 8 _ rfl o1 (some ⟨gg, 0, none⟩) 1 1 [.int .u8 (sz.toNat : Int)] rfl n1 (by simp [Value.oneCell']) (by unfold maxLen; omega) (by omega) hb1.size ?_
      intro v2 V2 o2 g2 _
      obtain ⟨A2, c2, rfl⟩ := own_slice o2
      have hb2 := hb1.grown g2 hb1.size (fun j e => (o1.lt j e).1)
      have hB2 := hB1.grown g2 (fun e => hne _ e.symm rfl)
      have hne2 := own_ne o2 hB2 (by decide)
      have hS2 := hB2.cell 0
      refine hK.out _ _ hS2 (fun _ => trivial) ?_
      clear hK K
      try simp only [Act.put, List.setIfInBounds_toArray, List.set_cons_zero, List.set_cons_succ]
      clear g2 o1 hb1 hB1 hne hS1 n1
      refine Late.only (i := 9) (o := ?_) (by kernel_rfl) ?_ (fun K hK => ?_)
      rotate_left 1
      focus (simp only [List.getElem?_toArray, List.getElem?_cons_succ, List.getElem?_cons_zero]; rfl)
      rw [if_pos (by kernel_rfl)]
      refine wp_append_str (P := Tryz.prog) (w := V2) (.tmp 26) (.tmp 28) 72 9 rfl w.heap.size 5 i0 Tryz.underlying72 Tryz.underlying9 hinf hz0 hz1 hz2 (.slice A2 9 c2) 9 _ rfl o2 t rfl (by unfold maxLen; omega) (by omega) hb2.size ?_
      intro v3 V3 o3 g3 _
      obtain ⟨A3, c3, rfl⟩ := own_slice o3
      have hb3 := hb2.grown g3 hb2.size (fun j e => (o2.lt j e).1)
      have hS3 := (hB2.grown g3 (fun e => hne2 _ e.symm rfl)).cell 0
      rw [hYr.out] at o3
      refine hK.out _ _ hS3 (fun _ => trivial) ?_
      clear hK K
      try simp only [Act.put, List.setIfInBounds_toArray, List.set_cons_zero, List.set_cons_succ]
      clear g3 o2 hb2 hB2 hne2 hS2
      have hcv : (convert 72 9 (.slice A3 (9 + t.size) c3)).run Tryz.prog V3 = .ok (.string Y) V3 := by
        obtain ⟨g, cap, hv, _⟩ := o3.form (by omega)
        injection hv with hv _ hv2
        subst hv hv2
        have := run_convert_bytes_back (P := Tryz.prog) V3 72 9 5 ⟨g, 0, none⟩ c3 Y.data.toList Tryz.underlying72 Tryz.underlying5 Tryz.underlying9 (fun j hj => o3.cells (g := g) rfl j _ (by rw [List.getElem?_eq_getElem (by simpa [Lib.byteCells] using hj)]; simp [Lib.byteCells]))
        rwa [hYs] at this
      clear o3
      refine Late.only (i := 10) (o := ?_) (by kernel_rfl) ?_ (fun K hK => ?_)
      rotate_left 1
      focus (simp only [List.getElem?_toArray, List.getElem?_cons_succ, List.getElem?_cons_zero]; rfl)
      go_simp
      refine hK.out _ _ hS3 (fun _ => trivial) ?_
      clear hK K
      try simp only [Act.put, List.setIfInBounds_toArray, List.set_cons_zero, List.set_cons_succ]
      refine Late.only (i := 11) (o := ?_) (by kernel_rfl) ?_ (fun K hK => ?_)
      rotate_left 1
      focus (simp only [List.getElem?_toArray, List.getElem?_cons_succ, List.getElem?_cons_zero]; rfl)
      go_simp
      refine (kf.out _).mono ?_
      rintro e V4 ⟨rfl, hb4⟩
      have hb5 := hb3.trans (hb4.mono hb3.size)
      have hS4 := (hb4.cell (World.block_lt_of_cell? V3 _ hS3)).trans hS3
      refine hK.out _ _ hS4 (fun _ => trivial) ?_
      clear hK K
      try simp only [Act.put, List.setIfInBounds_toArray, List.set_cons_zero, List.set_cons_succ]
      clear hS3 hb3 hb4
      refine Late.take (i := 12) (oi := ?_) (v := ?_) ?_ (by kernel_rfl) (by kernel_rfl) (by kernel_rfl) (by kernel_rfl) ?_ ?_ (by assumption) (by assumption) ?_
      rotate_left 2
      focus (simp only [List.getElem?_toArray, List.getElem?_cons_succ, List.getElem?_cons_zero]; rfl)
      focus exact fun _ _ _ h => h
      focus (refine Or.inl ⟨by kernel_rfl, ?_⟩; intro w hSw; clear hSw; go_simp; try with_reducible rfl)
      try simp only [Act.put, List.setIfInBounds_toArray, List.set_cons_zero, List.set_cons_succ]
      refine Late.done (by kernel_rfl) ?_ _
      go_wp2_with fail
      go_ret
      exact ⟨by rw [hRR.out]; rfl, hb5⟩
end Go.Proofs.YtkghlbpkdkonbaaGreat.Vl

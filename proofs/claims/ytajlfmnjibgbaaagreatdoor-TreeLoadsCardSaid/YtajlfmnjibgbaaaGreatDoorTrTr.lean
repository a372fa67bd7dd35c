/- through: a blob's tree is gone through. -/
import Derived.Test.YtajlfmnjibgbaaaGreatDoorTrVisit
import Derived.Test.YtajlfmnjibgbaaaGreatDoorTrBs
namespace Go.Proofs.YtajlfmnjibgbaaaGreatDoor.Tr
open Go Go.RowKit Go.Maps Mem Disk Nv Vl
def nilRows (n : Nat) : List Value := List.replicate n (.slice none 0 0)
set_option maxRecDepth 100000 in
theorem makeRows (W : World) (n : Nat) (hn : n ≤ 3) : (Instr.makeSlice 78 (.int .i64 (n : Int)) (.int .i64 (n : Int))).run Tryz.prog W = .ok (.slice (some ⟨W.heap.size, 0, none⟩) n n) (W.alloc (.cells (nilRows n).toArray 41)) := by
  obtain ⟨i0, hi, hz0, hz1, hz2⟩ := info_parts infoRow
  have h := run_make (P := Tryz.prog) (w := W) 78 41 i0 (.slice none 0 0) Tryz.underlying78 hi hz0 .i64 .i64 (n : Int) (n : Int) (by omega) (by omega) (by rw [hz2]; omega) (by omega)
  have hc : n = 0 ∨ n = 1 ∨ n = 2 ∨ n = 3 := by omega
  rw [hz1, Int.toNat_natCast, show madeCells (Value.slice none 0 0).cells (n * 1) = (nilRows n).toArray by rcases hc with rfl | rfl | rfl | rfl <;> kernel_rfl] at h
  exact h
set_option maxRecDepth 100000 in
theorem wk0_good {n : Nat} (hn : n ≤ 16384) : Good 0 (wk0 n) :=
  ⟨Nat.le_refl _, fun L hL => by
    have := List.eq_of_mem_replicate hL
    rw [this]
    exact Nat.le_refl _, by show 0 + n ≤ _; omega, fun b hb => by
    obtain ⟨i, hi⟩ := List.mem_iff_getElem?.1 hb
    have := (lev_mem hn hi).2
    omega⟩
section
variable {X : Nat → Prop} {N m : Nat} {w : World} {a : Nat} {f : Rd}
set_option maxRecDepth 100000 in
set_option maxHeartbeats 8000000 in
theorem through_bad (root size : Int) (ch : Bool) (sv : Value) (w : World) (hnb : ¬ blobOk root size) :
    Calls Tryz.prog 30 #[sv, .agg #[.int .i64 root, .int .i64 size], .bool ch] w fun e w' => e = .returned (.tuple #[.pointer none, .int .i64 110]) ∧ Below w.heap.size w w' := by
  obtain ⟨P, hP⟩ : ∃ P, P = w.heap.size := ⟨_, rfl⟩
  obtain ⟨V, hV⟩ : ∃ V, V = w.alloc (.cells #[.int .i64 root, .int .i64 size] 33) := ⟨_, rfl⟩
  have hB : Blk V P 33 #[.int .i64 root, .int .i64 size] := by rw [hV, hP]; exact Blk.new w _ _
  have b0 := Lib.hid (show Below w.heap.size w V by rw [hV]; exact (Below.refl _ w).alloc (Nat.le_refl _) _)
  have c0 : V.cell? ⟨P, 0, none⟩ = some (.int .i64 root) := hB.cell 0
  have c1 : V.cell? ⟨P, 1, none⟩ = some (.int .i64 size) := hB.cell 1
  clear hB
  by_cases h1 : size < 0
  · have d1 : decide (size < 0) = true := decide_eq_true h1
    clear hnb
    go_enter Tryz.func30, Tryz.ntmps30
    go_upto_region 1 with fail
    rw [← hV, ← hP]
    clear hV hP
    go_wp2_with fail
    go_ret2
    exact ⟨rfl, b0.out⟩
  · have d1 : decide (size < 0) = false := decide_eq_false h1
    by_cases h2 : 16384 < size
    · have d2 : decide (16384 < size) = true := decide_eq_true h2
      clear hnb
      go_enter Tryz.func30, Tryz.ntmps30
      go_upto_region 1 with fail
      rw [← hV, ← hP]
      clear hV hP
      go_wp2_with fail
      go_ret2
      exact ⟨rfl, b0.out⟩
    · have d2 : decide (16384 < size) = false := decide_eq_false h2
      have d3 : ((root == 0) == (size == 0)) = false := by
        have hne : ¬ (root = 0 ↔ size = 0) := fun h => hnb ⟨by omega, by omega, h⟩
        by_cases q1 : root = 0
        · have q2 : ¬ size = 0 := fun h => hne ⟨fun _ => h, fun _ => q1⟩
          simp [q1, q2]
        · have q2 : size = 0 := Classical.byContradiction fun h => hne ⟨fun h' => absurd h' q1, fun h' => absurd h' h⟩
          simp [q1, q2]
      have d4 : ((root == 0) != (size == 0)) = true := by rw [bne, d3]; rfl
      clear hnb
      go_enter Tryz.func30, Tryz.ntmps30
      go_upto_region 1 with fail
      rw [← hV, ← hP]
      clear hV hP
      go_wp2_with fail
      go_ret2
      exact ⟨rfl, b0.out⟩
set_option maxRecDepth 100000 in
set_option maxHeartbeats 16000000 in
theorem through_any (h : IsV X N m w a f) (root : Int) (n : Nat) (ch : Bool) (hok : blobOk root (n : Int)) :
    Calls Tryz.prog 30 #[srcV a, .agg #[.int .i64 root, .int .i64 (n : Int)], .bool ch] w fun e w' => ∃ p, e = .returned (.tuple #[.pointer (some ⟨p, 0, none⟩), .int .i64 (throughW f ch root n).2]) ∧ TW X N m w' p a ch (throughW f ch root n).1 f ∧ KeepX X w w' := by
  obtain ⟨hk1, hk2, hk3⟩ := hok
  have hn16 : n ≤ 16384 := by omega
  obtain ⟨P, hP⟩ : ∃ P, P = w.heap.size := ⟨_, rfl⟩
  obtain ⟨V, hV⟩ : ∃ V, V = w.alloc (.cells #[.int .i64 root, .int .i64 (n : Int)] 33) := ⟨_, rfl⟩
  have hB : Blk V P 33 #[.int .i64 root, .int .i64 (n : Int)] := by rw [hV, hP]; exact Blk.new w _ _
  have b0 := Lib.hid (show Below w.heap.size w V by rw [hV]; exact (Below.refl _ w).alloc (Nat.le_refl _) _)
  have c0 : V.cell? ⟨P, 0, none⟩ = some (.int .i64 root) := hB.cell 0
  have c1 : V.cell? ⟨P, 1, none⟩ = some (.int .i64 (n : Int)) := hB.cell 1
  have d1 : decide ((n : Int) < 0) = false := decide_eq_false (by omega)
  have d2 : decide (16384 < (n : Int)) = false := decide_eq_false (by omega)
  obtain ⟨t, e1⟩ : ∃ t, (root == 0) = t := ⟨_, rfl⟩
  have e2 : ((n : Int) == 0) = t := by
    rw [← e1]
    by_cases q1 : root = 0
    · rw [beq_iff_eq.2 q1, beq_iff_eq.2 (hk3.1 q1)]
    · rw [beq_eq_false_iff_ne.2 q1, beq_eq_false_iff_ne.2 (fun h => q1 (hk3.2 h))]
  have d3 : (t != t) = false := bne_self_eq_false _
  have kl := Lib.hid (levels_any n V hn16)
  have hl3 := lev_len n
  obtain ⟨LK, hK⟩ : ∃ LK, LK = (lev n).length := ⟨_, rfl⟩
  rw [← hK] at hl3 kl
  replace hB := Lib.hid hB
  replace h := Lib.hid h
  replace hK := Lib.hid hK
  obtain ⟨R, hR⟩ : ∃ R, R = throughW f ch root n := ⟨_, rfl⟩
  rw [← hR]
  replace hR := Lib.hid hR
  replace hn16 := Lib.hid hn16
  clear hk1 hk2 hk3
  unfold srcV
  go_enter Tryz.func30, Tryz.ntmps30
  go_upto_region 1 with fail
  rw [← hV, ← hP]
  clear hV hP
  go_upto_region 4 with (refine kl.out.mono ?_; rintro e W1 ⟨v, rfl, o1, b1⟩; obtain ⟨A1, cc1, rfl⟩ := own_slice o1)
  have bb1 := Lib.hid (b0.out.trans (b1.mono b0.out.size))
  have hB1 := hB.out.below b1 hB.out.lt
  have hw1 : W1.drew.heap.size = W1.heap.size := rfl
  have mk := makeRows W1.drew LK hl3
  have hS : W1.drew.cell? ⟨P, 1, none⟩ = some (.int .i64 (n : Int)) := hB1.cell 1
  have o1' : W1.ownsRow 0 3 1 (.slice A1 LK cc1) LK (natsV (lev n)) := own_base o1 (Nat.zero_le _)
  have o1lt := Lib.hid (fun j e => Nat.le_trans b0.out.size (o1.lt j e).1)
  replace o1' := Lib.hid o1'
  clear c0 c1 d1 d2 d3 e1 e2 kl b0 b1 o1
  refine Late.start (S := fun W => W.cell? ⟨P, 1, none⟩ = some (.int .i64 (n : Int))) (T := fun _ => True) (late := []) (by kernel_rfl) ?_
  have hT : True := trivial
  refine Late.take (i := 0) (oi := ?_) (v := ?_) ?_ (by kernel_rfl) (by kernel_rfl) (by kernel_rfl) (by kernel_rfl) ?_ ?_ (by assumption) (by assumption) ?_
  rotate_left 2
  focus (simp only [List.getElem?_toArray, List.getElem?_cons_zero]; rfl)
  focus exact fun _ _ _ h => h
  focus (refine Or.inl ⟨by kernel_rfl, ?_⟩; intro w hSw; clear hSw; go_simp; try with_reducible rfl)
  try simp only [Act.put, List.setIfInBounds_toArray, List.set_cons_zero, List.set_cons_succ]
  refine Late.take (i := 1) (oi := ?_) (v := ?_) ?_ (by kernel_rfl) (by kernel_rfl) (by kernel_rfl) (by kernel_rfl) ?_ ?_ (by assumption) (by assumption) ?_
  rotate_left 2
  focus (simp only [List.getElem?_toArray, List.getElem?_cons_succ, List.getElem?_cons_zero]; rfl)
  focus exact fun _ _ _ h => h
  focus (refine Or.inl ⟨by kernel_rfl, ?_⟩; intro w hSw; clear hSw; go_simp; try with_reducible rfl)
  try simp only [Act.put, List.setIfInBounds_toArray, List.set_cons_zero, List.set_cons_succ]
  refine Late.take (i := 2) (oi := ?_) (v := ?_) ?_ (by kernel_rfl) (by kernel_rfl) (by kernel_rfl) (by kernel_rfl) ?_ ?_ (by assumption) (by assumption) ?_
  rotate_left 2
  focus (simp only [List.getElem?_toArray, List.getElem?_cons_succ, List.getElem?_cons_zero]; rfl)
  focus exact fun _ _ _ h => h
  focus (refine Or.inl ⟨by kernel_rfl, ?_⟩; intro w hSw; clear hSw; go_simp; try with_reducible rfl)
  try simp only [Act.put, List.setIfInBounds_toArray, List.set_cons_zero, List.set_cons_succ]
  refine Late.take (i := 3) (oi := ?_) (v := ?_) ?_ (by kernel_rfl) (by kernel_rfl) (by kernel_rfl) (by kernel_rfl) ?_ ?_ (by assumption) (by assumption) ?_
  rotate_left 2
  focus (simp only [List.getElem?_toArray, List.getElem?_cons_succ, List.getElem?_cons_zero]; rfl)
  focus exact fun _ _ _ h => h
  focus (refine Or.inl ⟨by rfl, ?_⟩; intro w hSw; (try dsimp only at hSw); go_split_ands; go_simp; try with_reducible rfl)
  try simp only [Act.put, List.setIfInBounds_toArray, List.set_cons_zero, List.set_cons_succ]
  refine Late.take (i := 4) (oi := ?_) (v := ?_) ?_ (by kernel_rfl) (by kernel_rfl) (by kernel_rfl) (by kernel_rfl) ?_ ?_ (by assumption) (by assumption) ?_
  rotate_left 2
  focus (simp only [List.getElem?_toArray, List.getElem?_cons_succ, List.getElem?_cons_zero]; rfl)
  focus exact fun _ _ _ h => h
  focus (refine Or.inl ⟨by kernel_rfl, ?_⟩; intro w hSw; clear hSw; go_simp; try with_reducible rfl)
  try simp only [Act.put, List.setIfInBounds_toArray, List.set_cons_zero, List.set_cons_succ]
  refine Late.take (i := 5) (oi := ?_) (v := ?_) ?_ (by kernel_rfl) (by kernel_rfl) (by kernel_rfl) (by kernel_rfl) ?_ ?_ (by assumption) (by assumption) ?_
  rotate_left 2
  focus (simp only [List.getElem?_toArray, List.getElem?_cons_succ, List.getElem?_cons_zero]; rfl)
  focus exact fun _ _ _ h => h
  focus (refine Or.inl ⟨by kernel_rfl, ?_⟩; intro w hSw; clear hSw; go_simp; try with_reducible rfl)
  try simp only [Act.put, List.setIfInBounds_toArray, List.set_cons_zero, List.set_cons_succ]
  refine Late.take (i := 7) (oi := ?_) (v := ?_) ?_ (by kernel_rfl) (by kernel_rfl) (by kernel_rfl) (by kernel_rfl) ?_ ?_ (by assumption) (by assumption) ?_
  rotate_left 2
  focus (simp only [List.getElem?_toArray, List.getElem?_cons_succ, List.getElem?_cons_zero]; rfl)
  focus exact fun _ _ _ h => h
  focus (refine Or.inl ⟨by kernel_rfl, ?_⟩; intro w hSw; clear hSw; go_simp; try with_reducible rfl)
  try simp only [Act.put, List.setIfInBounds_toArray, List.set_cons_zero, List.set_cons_succ]
  refine Late.only (i := 6) (o := ?_) (by kernel_rfl) ?_ (fun K hK => ?_)
  rotate_left 1
  focus (simp only [List.getElem?_toArray, List.getElem?_cons_succ, List.getElem?_cons_zero]; rfl)
  go_simp
  have bdA : Below W1.heap.size W1 (W1.alloc (.cells (nilRows LK).toArray 41)).drew := ((Below.refl _ W1).alloc (Nat.le_refl _) _).drew
  have hBA := hB1.below bdA hB1.lt
  have hSA : (W1.alloc (.cells (nilRows LK).toArray 41)).drew.cell? ⟨P, 1, none⟩ = some (.int .i64 (n : Int)) := hBA.cell 1
  refine hK.out _ _ hSA (fun _ => hT) ?_
  clear hK K
  try simp only [Act.put, List.setIfInBounds_toArray, List.set_cons_zero, List.set_cons_succ]
  have rowG : (W1.alloc (.cells (nilRows LK).toArray 41)).drew.ownsRow 0 41 1 (.slice (some ⟨W1.heap.size, 0, none⟩) LK LK) LK (nilRows LK) := own_all W1 41 (nilRows LK).toArray LK 1 (Nat.zero_le _) (by unfold maxLen; omega) (by unfold nilRows; simp)
  have hgs : (W1.alloc (.cells (nilRows LK).toArray 41)).drew.heap.size = W1.heap.size + 1 := by simp
  have o1A : (W1.alloc (.cells (nilRows LK).toArray 41)).drew.ownsRow 0 3 1 (.slice A1 LK cc1) LK (natsV (lev n)) := own_keeps o1'.out (Keeps.of_below (fun _ => False) bdA) (fun _ _ h => h)
  generalize (W1.alloc (.cells (nilRows LK).toArray 41)).drew = V1 at bdA hBA hSA rowG hgs o1A ⊢
  refine Late.take (i := 8) (oi := ?_) (v := ?_) ?_ (by kernel_rfl) (by kernel_rfl) (by kernel_rfl) (by kernel_rfl) ?_ ?_ (by assumption) (by assumption) ?_
  rotate_left 2
  focus (simp only [List.getElem?_toArray, List.getElem?_cons_succ, List.getElem?_cons_zero]; rfl)
  focus exact fun _ _ _ h => h
  focus (refine Or.inl ⟨by kernel_rfl, ?_⟩; intro w hSw; clear hSw; go_simp; try with_reducible rfl)
  try simp only [Act.put, List.setIfInBounds_toArray, List.set_cons_zero, List.set_cons_succ]
  refine Late.only (i := 9) (o := ?_) (by kernel_rfl) ?_ (fun K hK => ?_)
  rotate_left 1
  focus (simp only [List.getElem?_toArray, List.getElem?_cons_succ, List.getElem?_cons_zero]; rfl)
  go_simp
  have bdB : Below V1.heap.size V1 (V1.alloc (.cells #[.iface 23 (.pointer (some ⟨a, 0, none⟩)), .bool ch, .slice (some ⟨W1.heap.size, 0, none⟩) LK LK, .slice none 0 0, .pointer none, .slice none 0 0, .int .i64 (n : Int), .slice A1 LK cc1] 83)) := (Below.refl _ V1).alloc (Nat.le_refl _) _
  have hBB := hBA.below bdB hBA.lt
  have hSB : (V1.alloc (.cells #[.iface 23 (.pointer (some ⟨a, 0, none⟩)), .bool ch, .slice (some ⟨W1.heap.size, 0, none⟩) LK LK, .slice none 0 0, .pointer none, .slice none 0 0, .int .i64 (n : Int), .slice A1 LK cc1] 83)).cell? ⟨P, 1, none⟩ = some (.int .i64 (n : Int)) := hBB.cell 1
  refine hK.out _ _ hSB (fun _ => hT) ?_
  clear hK K
  try simp only [Act.put, List.setIfInBounds_toArray, List.set_cons_zero, List.set_cons_succ]
  refine Late.take (i := 10) (oi := ?_) (v := ?_) ?_ (by kernel_rfl) (by kernel_rfl) (by kernel_rfl) (by kernel_rfl) ?_ ?_ (by assumption) (by assumption) ?_
  rotate_left 2
  focus (simp only [List.getElem?_toArray, List.getElem?_cons_succ, List.getElem?_cons_zero]; rfl)
  focus exact fun _ _ _ h => h
  focus (refine Or.inl ⟨by kernel_rfl, ?_⟩; intro w hSw; clear hSw; go_simp; try with_reducible rfl)
  try simp only [Act.put, List.setIfInBounds_toArray, List.set_cons_zero, List.set_cons_succ]
  refine Late.done (by kernel_rfl) ?_ _
  have hgl : W1.heap.size < V1.heap.size := by omega
  generalize hV2 : V1.alloc (.cells #[.iface 23 (.pointer (some ⟨a, 0, none⟩)), .bool ch, .slice (some ⟨W1.heap.size, 0, none⟩) LK LK, .slice none 0 0, .pointer none, .slice none 0 0, .int .i64 (n : Int), .slice A1 LK cc1] 83) = V2 at bdB hBB hSB ⊢
  obtain ⟨p, hp⟩ : ∃ p, p = W1.heap.size + 1 := ⟨_, rfl⟩
  rw [← hp]
  have hW : Blk V2 p 83 (wkc (srcV a) ch (.slice (some ⟨W1.heap.size, 0, none⟩) LK LK) (.slice none 0 0) (.pointer none) (.slice none 0 0) (.slice A1 LK cc1) n) := by rw [← hV2, hp, ← hgs]; exact Blk.new V1 _ _
  have hnl : (nilRows LK).length = LK := by unfold nilRows; rw [List.length_replicate]
  have at0 : WkAt V2 p (srcV a) ch W1.heap.size LK (nilRows LK) (.slice none 0 0) (.pointer none) (.slice none 0 0) (.slice A1 LK cc1) (wk0 n) := by
    refine ⟨by rw [hnl]; exact hW, Or.inl rfl, by rw [hnl]; exact own_keeps rowG (Keeps.of_below (fun _ => False) bdB) (fun _ _ h => h), ?_, fun l v L hl hL => ?_, World.ownsRow_nil _ _ _ _, World.ownsRow_nil _ _ _ _, ?_, ?_⟩
    · rw [hnl, hK.out]
      exact List.length_replicate.symm
    · rw [List.eq_of_mem_replicate (List.mem_of_getElem? hl), List.eq_of_mem_replicate (List.mem_of_getElem? hL)]
      exact World.ownsRow_nil _ _ _ _
    · show V2.ownsRow 0 3 1 _ (lev n).length (natsV (lev n))
      rw [← hK.out]
      exact own_keeps o1A (Keeps.of_below (fun _ => False) bdB) (fun _ _ h => h)
    · intro i j k hij h1 h2
      have none0 : ∀ x : Nat, x ≠ 1 → (blocksOf (.slice none 0 0) (.slice A1 LK cc1) (nilRows LK))[x]? ≠ some (some k) := fun x hx hk => by
        rcases x with _ | _ | x
        · cases hk
        · exact hx rfl
        · have hk' : ((nilRows LK).map Value.ownBlock)[x]? = some (some k) := hk
          rw [List.getElem?_map] at hk'
          cases hr : (nilRows LK)[x]? with
          | none => rw [hr] at hk'; cases hk'
          | some v =>
            rw [hr, List.eq_of_mem_replicate (List.mem_of_getElem? hr)] at hk'
            cases hk'
      by_cases hi : i = 1
      · exact none0 j (fun e => hij (hi.trans e.symm)) h2
      · exact none0 i hi h1
  have bb2 : Below w.heap.size w V2 := (bb1.out.trans (bdA.mono bb1.out.size)).trans (bdB.mono (Nat.le_trans bb1.out.size bdA.size))
  have tw0 : TW X N m V2 p a ch (wk0 n) f := by
    have hlt := h.out.xlt
    have hFw : ∀ i, Fw p W1.heap.size (.slice none 0 0) (.slice none 0 0) (.slice A1 LK cc1) (nilRows LK) i → w.heap.size ≤ i := fun i hi => by
      have hs1 := bb1.out.size
      rcases hi with hi | hi | hi | hi
      · omega
      · omega
      · cases hi
      · rcases List.mem_cons.1 hi with hi | hi
        · cases hi
        · rcases List.mem_cons.1 hi with hi | hi
          · have := o1lt.out i hi.symm
            omega
          · obtain ⟨v, hv, e⟩ := List.mem_map.1 hi
            rw [List.eq_of_mem_replicate hv] at e
            cases e
    exact ⟨_, _, _, _, _, _, _, at0, fun i hi hx => by have := hFw i hi; have := hlt i hx; omega, h.out.also bb2 fun i hi => hi.imp id fun q => ⟨hFw i q, at0.lt i q⟩⟩
  have kx2 : KeepX X w V2 := Keeps.of_below _ bb2
  have r0 : V2.cell? ⟨P, 0, none⟩ = some (.int .i64 root) := hBB.cell 0
  replace tw0 := Lib.hid tw0
  replace kx2 := Lib.hid kx2
  clear at0 hW hp hgl hV2 bdB hBB hSB hBA hSA rowG hgs o1A bdA bb2 hS mk hw1
  rcases Nat.eq_zero_or_pos n with hz | hz
  · subst hz
    have e0 : LK = 0 := hK.out
    subst e0
    have hR2 : R = (wk0 0, 0) := hR.out
    replace hR2 := Lib.hid hR2
    go_wp2_with fail
    go_ret2
    rw [hR2.out]
    exact ⟨p, rfl, tw0.out, kx2.out⟩
  · have hK0 : 0 < LK := by
      rw [hK.out]
      refine List.length_pos_iff.2 fun e => ?_
      have := lev_nil.1 e
      omega
    have hR2 : R = visit f ch (LK - 1) (wk0 n) root := by
      rw [hR.out, hK.out]
      exact if_neg (by omega)
    have hmost : 0 + most (LK - 1) ≤ 100000 := by
      have : LK = 1 ∨ LK = 2 ∨ LK = 3 := by omega
      rcases this with rfl | rfl | rfl <;> decide
    have hlen : LK - 1 < (wk0 n).nums.length := by
      show _ < (List.replicate _ _).length
      rw [List.length_replicate, ← hK.out]
      omega
    have hlo : (wk0 n).below.length = (wk0 n).nums.length := by
      show (lev n).length = (List.replicate _ _).length
      rw [List.length_replicate]
    have kv := Lib.hid (visit_any f ch (LK - 1) X N m V2 p a (wk0 n) 0 tw0.out (wk0_good hn16.out) hmost hlen hlo (by omega) root)
    obtain ⟨l, hl⟩ : ∃ l, l = LK - 1 := ⟨_, rfl⟩
    rw [← hl] at kv hR2
    have hli : (LK : Int) - 1 = (l : Int) := by omega
    have hkz : ((LK : Int) == 0) = false := by simp; omega
    rw [← hR2] at kv
    clear hmost hlen hlo hl hR2
    go_wp2_with fail
    refine kv.out.mono ?_
    rintro e W4 ⟨rfl, t4, k4⟩
    have kx4 := Lib.hid (kx2.out.same k4)
    replace t4 := Lib.hid t4
    clear k4 kv
    go_wp2_with fail
    go_ret2
    exact ⟨p, rfl, t4.out, kx4.out⟩
end
end Go.Proofs.YtajlfmnjibgbaaaGreatDoor.Tr
/- Load, Reach, put. -/
namespace Go.Proofs.YtajlfmnjibgbaaaGreatDoor.Tr
open Go Go.RowKit Go.Maps Mem Disk Nv Vl
section
variable {X : Nat → Prop} {N m : Nat} {w : World} {a p : Nat} {f : Rd} {ch : Bool} {wk : Wk}
set_option maxRecDepth 100000 in
theorem TW.isv (h : TW X N m w p a ch wk f) : IsV X N m w a f := by
  obtain ⟨gn, cn, rs, ov, pv, bv, lv, h1, h2, h3⟩ := h
  exact h3.sub fun i hi => Or.inl hi
set_option maxRecDepth 100000 in
theorem tw_string (h : TW X N m w p a ch wk f) (hs : wk.data.size ≤ 1000000) : Calls Tryz.prog 31 #[.pointer (some ⟨p, 4, none⟩)] w fun e w' => e = .returned (.string wk.data) ∧ IsV X N m w' a f ∧ KeepX X w w' := by
  obtain ⟨gn, cn, rs, ov, pv, bv, lv, h1, h2, h3⟩ := h
  refine (Bin.string_any wk.data h1.blk h1.buf (fun e => h1.pbv p e rfl) hs).mono ?_
  rintro e w' ⟨rfl, k⟩
  have kf : Keeps (fun i => X i ∨ Fw p gn bv ov lv rs i) w w' := k.mono fun i hi => Or.inr (Or.inr (Or.inr (Or.inl hi)))
  exact ⟨rfl, (h3.turn kf).sub fun i hi => Or.inl hi, k.mono fun i hi hx => h2 i (Or.inr (Or.inr (Or.inl hi))) hx⟩
set_option maxRecDepth 100000 in
theorem through_good (f : Rd) (ch : Bool) (root : Int) {n : Nat} (hn : n ≤ 16384) : Good 100000 (throughW f ch root n).1 := by
  unfold throughW
  split
  · exact (wk0_good hn).more (by decide)
  · have hl := lev_len n
    refine (visit_good f ch ((lev n).length - 1) 0 (wk0 n) root (wk0_good hn)).more ?_
    have : (lev n).length - 1 = 0 ∨ (lev n).length - 1 = 1 ∨ (lev n).length - 1 = 2 := by omega
    rcases this with e | e | e <;> rw [e] <;> decide
set_option maxRecDepth 100000 in
theorem boxed (w : World) (root size : Int) : ∃ V P, V = w.alloc (.cells #[.int .i64 root, .int .i64 size] 33) ∧ P = w.heap.size ∧ Blk V P 33 #[.int .i64 root, .int .i64 size] ∧ Below w.heap.size w V :=
  ⟨_, _, rfl, rfl, Blk.new w _ _, (Below.refl _ w).alloc (Nat.le_refl _) _⟩
set_option maxRecDepth 100000 in
set_option maxHeartbeats 8000000 in
theorem load_any (h : IsV X N m w a f) (root size : Int) : Calls Tryz.prog 15 #[srcV a, .agg #[.int .i64 root, .int .i64 size]] w fun e w' =>
    e = .returned (.tuple #[.string (loadV f root size).1, .int .i64 (loadV f root size).2]) ∧ IsV X N m w' a f ∧ KeepX X w w' := by
  obtain ⟨V, P, hV, hP, hB, b0⟩ := boxed w root size
  have c0 : V.cell? ⟨P, 0, none⟩ = some (.int .i64 root) := hB.cell 0
  have c1 : V.cell? ⟨P, 1, none⟩ = some (.int .i64 size) := hB.cell 1
  by_cases hok : blobOk root size
  · obtain ⟨n, rfl⟩ := Int.eq_ofNat_of_zero_le hok.1
    have hn : n ≤ 16384 := by have := hok.2.1; omega
    have kt := through_any (h.below b0) root n true hok
    have hg := through_good f true root hn
    have hr : loadV f root (n : Int) = if (throughW f true root n).2 ≠ 0 then (⟨#[]⟩, (throughW f true root n).2) else ((throughW f true root n).1.data, 0) := by
      unfold loadV
      rw [if_neg (fun hh => hh hok), Int.toNat_natCast]
    obtain ⟨R, hR⟩ : ∃ R, R = loadV f root (n : Int) := ⟨_, rfl⟩
    rw [hr] at hR
    rw [show loadV f root (n : Int) = R by rw [hr, hR]]
    generalize throughW f true root n = T at kt hg hR
    obtain ⟨wk, er⟩ := T
    have hd := Lib.hid hg.data
    have kb := Lib.hid (Keeps.of_below (fun i => ¬ X i) b0)
    replace kt := Lib.hid kt
    replace hR := Lib.hid hR
    clear hg h hok hn hB b0 hr
    unfold srcV at kt ⊢
    go_enter Tryz.func15, Tryz.ntmps15
    go_upto_region 1 with fail
    rw [← hV, ← hP]
    clear hV hP
    go_wp2_with fail
    refine kt.out.mono ?_
    rintro e w1 ⟨p, rfl, t1, k1⟩
    have kx1 : KeepX X w w1 := kb.out.same k1
    clear c0 c1 kt kb k1
    by_cases he : er = 0
    · subst he
      have ks := Lib.hid (tw_string t1 (by have := hd.out; omega))
      have hR2 := Lib.hid (hR.out.trans (if_neg (by simp)))
      replace kx1 := Lib.hid kx1
      clear t1 hR
      go_wp2_with fail
      refine ks.out.mono ?_
      rintro e w2 ⟨rfl, v2, k2⟩
      have kx2 := Lib.hid (kx1.out.same k2)
      replace v2 := Lib.hid v2
      clear k2 ks
      go_wp2_with fail
      go_ret2
      rw [hR2.out]
      exact ⟨rfl, v2.out, kx2.out⟩
    · have hR2 := Lib.hid (hR.out.trans (if_pos he))
      have hen : (er != 0) = true := by simpa using he
      have v1 := Lib.hid t1.isv
      replace kx1 := Lib.hid kx1
      clear t1 hR he
      go_wp2_with fail
      go_ret2
      rw [hR2.out]
      exact ⟨rfl, v1.out, kx1.out⟩
  · have kt := Lib.hid (through_bad root size true (srcV a) V hok)
    have hR : loadV f root size = (⟨#[]⟩, 110) := by unfold loadV; rw [if_pos hok]
    rw [hR]
    have hb0 := Lib.hid b0
    have hv := Lib.hid (h.below b0)
    clear h hok hB b0 hR
    unfold srcV at kt ⊢
    go_enter Tryz.func15, Tryz.ntmps15
    go_upto_region 1 with fail
    rw [← hV, ← hP]
    clear hV hP
    go_wp2_with fail
    refine kt.out.mono ?_
    rintro e w1 ⟨rfl, b1⟩
    have kx1 := Lib.hid (Keeps.of_below (fun i => ¬ X i) (hb0.out.trans (b1.mono hb0.out.size)))
    have v1 := Lib.hid (hv.out.below b1)
    clear c0 c1 kt b1
    go_wp2_with fail
    go_ret2
    exact ⟨rfl, v1.out, kx1.out⟩
/-- what is reached, as a row of its own -/
def ReachPost (X : Nat → Prop) (N m : Nat) (w : World) (a : Nat) (f : Rd) (r : List Int × Int) (e : Ending) (w' : World) : Prop :=
  ∃ v, e = .returned (.tuple #[v, .int .i64 r.2]) ∧ IsV (fun i => X i ∨ v.ownBlock = some i) N m w' a f ∧ w'.ownsRow 0 3 1 v r.1.length (intV r.1) ∧ (∀ i, v.ownBlock = some i → ¬ X i) ∧ KeepX X w w'
set_option maxRecDepth 100000 in
set_option maxHeartbeats 8000000 in
theorem reach_any (h : IsV X N m w a f) (root size : Int) : Calls Tryz.prog 16 #[srcV a, .agg #[.int .i64 root, .int .i64 size]] w (ReachPost X N m w a f (reachV f root size)) := by
  obtain ⟨V, P, hV, hP, hB, b0⟩ := boxed w root size
  have c0 : V.cell? ⟨P, 0, none⟩ = some (.int .i64 root) := hB.cell 0
  have c1 : V.cell? ⟨P, 1, none⟩ = some (.int .i64 size) := hB.cell 1
  by_cases hok : blobOk root size
  · obtain ⟨n, rfl⟩ := Int.eq_ofNat_of_zero_le hok.1
    have hn : n ≤ 16384 := by have := hok.2.1; omega
    have kt := through_any (h.below b0) root n false hok
    have hr : reachV f root (n : Int) = if (throughW f false root n).2 ≠ 0 then ([], (throughW f false root n).2) else ((throughW f false root n).1.order, 0) := by
      unfold reachV
      rw [if_neg (fun hh => hh hok), Int.toNat_natCast]
    obtain ⟨R, hR⟩ : ∃ R, R = reachV f root (n : Int) := ⟨_, rfl⟩
    rw [hr] at hR
    rw [show reachV f root (n : Int) = R by rw [hr, hR]]
    generalize throughW f false root n = T at kt hR
    obtain ⟨wk, er⟩ := T
    have kb := Lib.hid (Keeps.of_below (fun i => ¬ X i) b0)
    replace kt := Lib.hid kt
    replace hR := Lib.hid hR
    clear h hok hn hB b0 hr
    unfold srcV at kt ⊢
    go_enter Tryz.func16, Tryz.ntmps16
    go_upto_region 1 with fail
    rw [← hV, ← hP]
    clear hV hP
    go_wp2_with fail
    refine kt.out.mono ?_
    rintro e w1 ⟨p, rfl, t1, k1⟩
    have kx1 : KeepX X w w1 := kb.out.same k1
    clear c0 c1 kt kb k1
    by_cases he : er = 0
    · subst he
      have hR2 := Lib.hid (hR.out.trans (if_neg (by simp)))
      obtain ⟨gn, cn, rs, ov, pv, bv, lv, h1, h2, h3⟩ := t1
      have d3 : w1.cell? ⟨p, 3, none⟩ = some ov := h1.blk.cell 3
      have fin := Lib.hid (show ReachPost X N m w a f R (.returned (.tuple #[ov, .int .i64 0])) w1 by
        rw [hR2.out]
        exact ⟨ov, rfl, h3.sub (fun i (hi : X i ∨ ov.ownBlock = some i) => hi.imp id (fun (e : ov.ownBlock = some i) => Or.inr (Or.inr (Or.inr (by rw [← e]; exact List.mem_cons_self))))), h1.ord, fun i (hi : ov.ownBlock = some i) => h2 i (Or.inr (Or.inr (Or.inr (by rw [← hi]; exact List.mem_cons_self)))), kx1⟩)
      clear h1 h2 h3 kx1 hR
      go_wp2_with fail
      go_ret2
      exact fin.out
    · have hR2 := Lib.hid (hR.out.trans (if_pos he))
      have hen : (er != 0) = true := by simpa using he
      have fin := Lib.hid (show ReachPost X N m w a f R (.returned (.tuple #[.slice none 0 0, .int .i64 er])) w1 by
        rw [hR2.out]
        exact ⟨_, rfl, t1.isv.sub fun i hi => hi.elim id (fun e => by cases e), World.ownsRow_nil _ _ _ _, fun i hi => (by cases hi), kx1⟩)
      clear t1 hR he kx1
      go_wp2_with fail
      go_ret2
      exact fin.out
  · have kt := Lib.hid (through_bad root size false (srcV a) V hok)
    have hR : reachV f root size = ([], 110) := by unfold reachV; rw [if_pos hok]
    rw [hR]
    have hb0 := Lib.hid b0
    have hv := Lib.hid (h.below b0)
    clear h hok hB b0 hR
    unfold srcV at kt ⊢
    go_enter Tryz.func16, Tryz.ntmps16
    go_upto_region 1 with fail
    rw [← hV, ← hP]
    clear hV hP
    go_wp2_with fail
    refine kt.out.mono ?_
    rintro e w1 ⟨rfl, b1⟩
    have fin := Lib.hid (show ReachPost X N m w a f ([], 110) (.returned (.tuple #[.slice none 0 0, .int .i64 110])) w1 from ⟨_, rfl, (hv.out.below b1).sub fun i hi => hi.elim id (fun e => by cases e), World.ownsRow_nil _ _ _ _, fun i hi => (by cases hi), Keeps.of_below (fun i => ¬ X i) (hb0.out.trans (b1.mono hb0.out.size))⟩)
    clear c0 c1 kt b1
    go_wp2_with fail
    go_ret2
    exact fin.out
end
end Go.Proofs.YtajlfmnjibgbaaaGreatDoor.Tr

/- The document's bytes of lists: Inodes, Entries, Snaps. (Printed by genrlays.py.) -/
import Derived.Test.YtaihpnmojiagnaaGreatDoorTableGA
import Derived.Test.YtaihpnmojiagnaaGreatDoorTableLaws
namespace Go.Proofs.YtaihpnmojiagnaaGreatDoor.Table
open Go.RowKit Mem Wire

theorem row_new' (w : World) (t : TypeId) (cs : List Value) (n : Nat) (h : cs.length = n) : Row (w.alloc (.cells ⟨cs⟩ t)) (some ⟨w.heap.size, 0, none⟩) n cs := h ▸ row_new w t cs
theorem above_no {x y : ByteArray} (h : above x y = false) : (Op.bytesLess x.toList y.toList || x.toList == y.toList) = true := by
  revert h
  unfold above
  cases (Op.bytesLess x.toList y.toList || x.toList == y.toList) <;> simp
theorem above_yes {x y : ByteArray} (h : above x y = true) : (Op.bytesLess x.toList y.toList || x.toList == y.toList) = false := by
  revert h
  unfold above
  cases (Op.bytesLess x.toList y.toList || x.toList == y.toList) <;> simp
theorem put_len {α : Type} {K : Kind α} {T D : ByteArray} {l : List α} {k : Nat} {x : α} {bs : List UInt8} (hx : l[k]? = some x) (hT : T.data.toList = bs ++ flat K (l.take k)) (hD : D.data.toList = K.put x) : (T ++ D).data.toList = bs ++ flat K (l.take (k + 1)) := by
  rw [app_list hT hD, flat_take hx, List.append_assoc]
theorem dgs_len : ∀ {l : List Int}, (∀ y ∈ l, 0 ≤ y ∧ y ≤ 4611686018427387903) → (l.flatMap dg).length ≤ 9 * l.length
  | [], _ => by simp
  | y :: l, h => by
    have h1 := h y (by simp)
    have h2 := digits_length9 y.toNat (by omega)
    have h3 := dgs_len (l := l) (fun z hz => h z (by simp [hz]))
    simp only [List.flatMap_cons, List.length_append, List.length_cons, dg] at h3 ⊢
    omega

set_option maxRecDepth 100000 in
set_option maxHeartbeats 8000000 in
theorem ino_rlays (A : Option Addr) (n c : Nat) (l : List Ino) (w : World) (hr : Row w A (n * 5) (l.flatMap inoC)) (hln : l.length = n) (hnm : n ≤ 9223372036854775807) :
    Calls Tryz.prog 7 #[.slice A n c] w fun e w' => e = .returned (laysV (lays inoK l)) ∧ Below w.heap.size w w' := by
  by_cases hlong : 4096 < n
  · rw [lays_long (by rw [hln]; exact hlong)]
    clear hr hln
    go_enter Tryz.func7, Tryz.ntmps7
    go_wp2_with fail
    go_ret2
    exact ⟨rfl, Below.refl _ _⟩
  · have hn9 : (digits n).length ≤ 9 := digits_length9 n (by omega)
    replace hln := Lib.hid hln
    have kn := Lib.hid (rnums_any (some ⟨w.heap.size, 0, none⟩) 1 1 [(n : Int)] (w.alloc (.cells #[.int .i64 (n : Int)] 3)) (row_new w 3 [.int .i64 (n : Int)]) (by intro y hy; rw [List.mem_singleton.1 hy]; omega) (by decide))
    go_enter Tryz.func7, Tryz.ntmps7
    go_wp2_with fail
    refine kn.out.mono ?_
    rintro e W1 ⟨T0, rfl, hT0, b1⟩
    have hb1 : Below w.heap.size w W1 := ((Below.refl _ _).alloc (Nat.le_refl _) _).trans (b1.mono (by simp))
    clear b1
    replace hT0 := Lib.hid (show T0.data.toList = digits n by rw [hT0]; simp [dg])
    have hT0s : T0.size ≤ 9 := by rw [Lib.size_eq, hT0.out]; exact hn9
    replace hb1 := Lib.hid hb1
    replace hr := Lib.hid hr
    go_wp2_with fail
    go_loopw [4, 5, 6] (fun s last i wr => ∃ (k : Nat) (was : Ino) (T : ByteArray), k ≤ n ∧ i = .int .i64 (k : Int) ∧ s = .string T ∧ last = .int .i64 was.num ∧ inoK.inv was ∧ okAll inoK inoK.zero true l = okAll inoK was ((k : Int) == 0) (l.drop k) ∧ 
      T.data.toList = digits n ++ flat inoK (l.take k) ∧ T.size ≤ 9 + 350000 * k ∧ Below w.heap.size w wr) (fun _ _ i _ => n - (intOf i).toNat)
    case atStart => exact ⟨0, inoK.zero, T0, Nat.zero_le _, rfl, rfl, rfl, good_ino.zero, rfl, by rw [hT0.out]; simp [flat], by omega, hb1.out⟩
    case round =>
      obtain ⟨k, was, T, hk, rfl, rfl, rfl, hinv, hok, hT, hTs, hb⟩ := hrel
      have hz := hb.size
      replace hT := Lib.hid hT
      replace hinv := Lib.hid hinv
      replace hok := Lib.hid hok
      by_cases hlt : k < n
      · obtain ⟨x, hx⟩ : ∃ x, l[k]? = some x := ⟨_, List.getElem?_eq_getElem (by rw [hln.out]; exact hlt)⟩
        have hrr := hr.out.below hb
        obtain ⟨ad, ha, hc⟩ := row_elem (sz := 5) (fun _ => rfl) (by decide) hrr hx
        subst ha
        have hstep := Lib.hid (okAll_step hx hok.out)
        obtain ⟨num, dir, links, root, size⟩ := x
        have ce0 : wr.cell? (ad.add (k * 5)) = some (.int .i64 num) := hc 0 _ rfl
        have ce1 : wr.cell? (⟨(ad.add (k * 5)).block, (ad.add (k * 5)).off + 1, none⟩) = some (.bool dir) := hc 1 _ rfl
        have ce2 : wr.cell? (⟨(ad.add (k * 5)).block, (ad.add (k * 5)).off + 2, none⟩) = some (.int .i64 links) := hc 2 _ rfl
        have ce3 : wr.cell? (⟨(ad.add (k * 5)).block, (ad.add (k * 5)).off + 3, none⟩) = some (.int .i64 root) := hc 3 _ rfl
        have ce4 : wr.cell? (⟨(ad.add (k * 5)).block, (ad.add (k * 5)).off + 4, none⟩) = some (.int .i64 size) := hc 4 _ rfl
        have qx := Blk.new wr 32 #[.int .i64 num, .bool dir, .int .i64 links, .int .i64 root, .int .i64 size]
        have hb2 : Below w.heap.size w (wr.alloc (.cells #[.int .i64 num, .bool dir, .int .i64 links, .int .i64 root, .int .i64 size] 32)) := hb.alloc hz _
        have hz2 : wr.heap.size + 1 = (wr.alloc (.cells #[.int .i64 num, .bool dir, .int .i64 links, .int .i64 root, .int .i64 size] 32)).heap.size := by simp
        replace hx := Lib.hid hx
        replace hb := Lib.hid hb
        replace hb2 := Lib.hid hb2
        replace qx := Lib.hid qx
        replace hz2 := Lib.hid hz2
        go_upto_region 9 with fail
        generalize (wr.alloc (.cells #[.int .i64 num, .bool dir, .int .i64 links, .int .i64 root, .int .i64 size] 32)) = W2 at qx hb2 hz2 ⊢
        have hbx : wr.heap.size < W2.heap.size := by have := hz2.out; omega
        have hz3 : w.heap.size ≤ W2.heap.size := by omega
        generalize wr.heap.size = bx at qx hbx ⊢
        have cx0 : W2.cell? ⟨bx, 0, none⟩ = some (.int .i64 num) := qx.out.cell 0
        have cx1 : W2.cell? ⟨bx, 1, none⟩ = some (.bool dir) := qx.out.cell 1
        have cx2 : W2.cell? ⟨bx, 2, none⟩ = some (.int .i64 links) := qx.out.cell 2
        have cx3 : W2.cell? ⟨bx, 3, none⟩ = some (.int .i64 root) := qx.out.cell 3
        have cx4 : W2.cell? ⟨bx, 4, none⟩ = some (.int .i64 size) := qx.out.cell 4
        clear hrr hc hz2 ce0 ce1 ce2 ce3 ce4
        have kb := Lib.hid (fun W => rblob_any root size W)
        unfold blobV at kb
        skip
        skip
        go_wp2_with fail
        all_goals first
          | (refine (kb.out _).mono ?_)
          | (go_ret2; refine ⟨?_, hb2.out⟩; rw [lays_bad (by rw [hstep.out, show inoK.may was ⟨num, dir, links, root, size⟩ ((k : Int) == 0) = false from Bool.eq_false_iff.mpr (fun h => by have h := inoK_may h; simp only at h; omega)]; rfl)]; rfl)
        rintro e W3 ⟨rfl, b3⟩
        have q3 := qx.out.below b3 hbx
        have hb3 := Lib.hid (hb2.out.trans (b3.mono hz3))
        have hz4 : w.heap.size ≤ W3.heap.size := Nat.le_trans hz3 b3.size
        have hb4 : bx < W3.heap.size := q3.lt
        clear b3 cx0 cx1 cx2 cx3 cx4
        replace q3 := Lib.hid q3
        have cy0 : W3.cell? ⟨bx, 0, none⟩ = some (.int .i64 num) := q3.out.cell 0
        have cy1 : W3.cell? ⟨bx, 1, none⟩ = some (.bool dir) := q3.out.cell 1
        have cy2 : W3.cell? ⟨bx, 2, none⟩ = some (.int .i64 links) := q3.out.cell 2
        have cy3 : W3.cell? ⟨bx, 3, none⟩ = some (.int .i64 root) := q3.out.cell 3
        have cy4 : W3.cell? ⟨bx, 4, none⟩ = some (.int .i64 size) := q3.out.cell 4
        have hmay : inoK.may was ⟨num, dir, links, root, size⟩ ((k : Int) == 0) = blobOk root size := by
          rw [Bool.eq_iff_iff]
          simp only [inoK, Bool.and_eq_true, decide_eq_true_eq]
          constructor
          · exact fun h => h.2
          · exact fun h => ⟨⟨by omega, by omega⟩, h⟩
        generalize hbo : blobOk root size = bo at hmay ⊢
        replace hmay := Lib.hid hmay
        replace hbo := Lib.hid hbo
        cases bo
        · go_wp2_with fail
          go_ret2
          refine ⟨?_, hb3.out⟩
          rw [lays_bad (by rw [hstep.out, hmay.out]; rfl)]
          rfl
        · have hfo := ino_ok hinv.out hmay.out
          simp only [inoF, List.forall_mem_cons, Fld.ok] at hfo
          have hall : ∀ y ∈ [num, bitOf dir, links, root, size], 0 ≤ y ∧ y ≤ 4611686018427387903 := by
            simp only [List.forall_mem_cons]
            exact ⟨hfo.1, hfo.2.1, hfo.2.2.1, hfo.2.2.2.1, hfo.2.2.2.2.1, by simp⟩
          have hput : ([num, bitOf dir, links, root, size].flatMap dg) = inoK.put ⟨num, dir, links, root, size⟩ := by simp [inoK]
          have hinv2 := Lib.hid (good_ino.step was _ _ hinv.out hmay.out)
          clear hfo
          cases dir
          all_goals
            replace hall := hall
            have kn2 := Lib.hid (fun (b : Int) (hb : ∀ y ∈ [num, b, links, root, size], 0 ≤ y ∧ y ≤ 4611686018427387903) => rnums_any (some ⟨W3.heap.size, 0, none⟩) 5 5 [num, b, links, root, size] (W3.alloc (.cells #[.int .i64 num, .int .i64 b, .int .i64 links, .int .i64 root, .int .i64 size] 3)) (row_new' W3 3 [.int .i64 num, .int .i64 b, .int .i64 links, .int .i64 root, .int .i64 size] 5 rfl) hb (by decide))
            replace hput := Lib.hid hput
            replace hall := Lib.hid hall
            go_wp2_with fail
            refine (kn2.out _ hall.out).mono ?_
            rintro e W5 ⟨E5, rfl, hD5, b5⟩
            have hb7 := Lib.hid ((hb3.out.alloc hz4 _).trans (b5.mono (by simp; omega)))
            clear b5
            have hDD := Lib.hid (hD5.trans hput.out)
            have hDs2 : E5.size ≤ 350000 := by have := dgs_len hall.out; rw [Lib.size_eq, hD5]; simp only [List.length_cons, List.length_nil] at this; omega
            replace hD5 := Lib.hid hD5
            have hok2 := hstep.out
            rw [hmay.out, Bool.true_and] at hok2
            have hkz : ((((k + 1 : Nat) : Int) == 0) = false) := by simp; omega
            replace hkz := Lib.hid hkz
            replace hok2 := Lib.hid hok2
            go_wp2_with fail
            go_roundw
            case rel => exact ⟨k + 1, _, T ++ E5, by omega, by go_num, rfl, rfl, hinv2.out, by rw [hkz.out]; exact hok2.out, put_len hx.out hT.out hDD.out, by rw [ByteArray.size_append]; omega, hb7.out⟩
            case measure => simp [intOf]; omega
      · obtain rfl : k = n := by omega
        have hfull : l.take k = l := List.take_of_length_le (by rw [hln.out]; exact Nat.le_refl _)
        have hokk := Lib.hid (show okAll inoK inoK.zero true l = true by rw [hok.out, List.drop_of_length_le (by rw [hln.out]; exact Nat.le_refl _)]; rfl)
        replace hb := Lib.hid hb
        replace hfull := Lib.hid hfull
        go_wp2_with fail
        go_ret2
        refine ⟨?_, hb.out⟩
        rw [lays_good (by rw [hln.out]; omega) hokk.out, bytes, hln.out]
        have hTT := hT.out
        rw [hfull.out] at hTT
        rw [← hTT]
        rfl

set_option maxRecDepth 100000 in
set_option maxHeartbeats 8000000 in
theorem ent_rlays (A : Option Addr) (n c : Nat) (l : List Ent) (w : World) (hr : Row w A (n * 2) (l.flatMap entC)) (hln : l.length = n) (hbig : ∀ x ∈ l, x.name.size ≤ 9223372036854775807) (hnm : n ≤ 9223372036854775807) :
    Calls Tryz.prog 13 #[.slice A n c] w fun e w' => e = .returned (laysV (lays entK l)) ∧ Below w.heap.size w w' := by
  by_cases hlong : 4096 < n
  · rw [lays_long (by rw [hln]; exact hlong)]
    clear hr hln hbig
    go_enter Tryz.func13, Tryz.ntmps13
    go_wp2_with fail
    go_ret2
    exact ⟨rfl, Below.refl _ _⟩
  · replace hbig := Lib.hid hbig
    have hn9 : (digits n).length ≤ 9 := digits_length9 n (by omega)
    replace hln := Lib.hid hln
    have kn := Lib.hid (rnums_any (some ⟨w.heap.size, 0, none⟩) 1 1 [(n : Int)] (w.alloc (.cells #[.int .i64 (n : Int)] 3)) (row_new w 3 [.int .i64 (n : Int)]) (by intro y hy; rw [List.mem_singleton.1 hy]; omega) (by decide))
    go_enter Tryz.func13, Tryz.ntmps13
    go_wp2_with fail
    refine kn.out.mono ?_
    rintro e W1 ⟨T0, rfl, hT0, b1⟩
    have hb1 : Below w.heap.size w W1 := ((Below.refl _ _).alloc (Nat.le_refl _) _).trans (b1.mono (by simp))
    clear b1
    replace hT0 := Lib.hid (show T0.data.toList = digits n by rw [hT0]; simp [dg])
    have hT0s : T0.size ≤ 9 := by rw [Lib.size_eq, hT0.out]; exact hn9
    replace hb1 := Lib.hid hb1
    replace hr := Lib.hid hr
    go_wp2_with fail
    go_loopw [4, 5] (fun s i wr => ∃ (k : Nat) (was : Ent) (T : ByteArray), k ≤ n ∧ i = .int .i64 (k : Int) ∧ s = .string T ∧ entK.inv was ∧ okAll entK entK.zero true l = okAll entK was ((k : Int) == 0) (l.drop k) ∧ (k = 0 ∨ l[k - 1]? = some was) ∧
      T.data.toList = digits n ++ flat entK (l.take k) ∧ T.size ≤ 9 + 350000 * k ∧ Below w.heap.size w wr) (fun _ i _ => n - (intOf i).toNat)
    case atStart => exact ⟨0, entK.zero, T0, Nat.zero_le _, rfl, rfl, good_ent.zero, rfl, Or.inl rfl, by rw [hT0.out]; simp [flat], by omega, hb1.out⟩
    case round =>
      obtain ⟨k, was, T, hk, rfl, rfl, hinv, hok, hprev, hT, hTs, hb⟩ := hrel
      have hz := hb.size
      replace hT := Lib.hid hT
      replace hinv := Lib.hid hinv
      replace hok := Lib.hid hok
      replace hprev := Lib.hid hprev
      by_cases hlt : k < n
      · obtain ⟨x, hx⟩ : ∃ x, l[k]? = some x := ⟨_, List.getElem?_eq_getElem (by rw [hln.out]; exact hlt)⟩
        have hrr := hr.out.below hb
        obtain ⟨ad, ha, hc⟩ := row_elem (sz := 2) (fun _ => rfl) (by decide) hrr hx
        subst ha
        have hstep := Lib.hid (okAll_step hx hok.out)
        have hsz := hbig.out x (List.mem_of_getElem? hx)
        obtain ⟨name, num⟩ := x
        have ce0 : wr.cell? (ad.add (k * 2)) = some (.string name) := hc 0 _ rfl
        have ce1 : wr.cell? (⟨(ad.add (k * 2)).block, (ad.add (k * 2)).off + 1, none⟩) = some (.int .i64 num) := hc 1 _ rfl
        have qx := Blk.new wr 65 #[.string name, .int .i64 num]
        have hb2 : Below w.heap.size w (wr.alloc (.cells #[.string name, .int .i64 num] 65)) := hb.alloc hz _
        have hz2 : wr.heap.size + 1 = (wr.alloc (.cells #[.string name, .int .i64 num] 65)).heap.size := by simp
        replace hx := Lib.hid hx
        replace hb := Lib.hid hb
        replace hb2 := Lib.hid hb2
        replace qx := Lib.hid qx
        replace hz2 := Lib.hid hz2
        have hpv : (k = 0) ∨ wr.cell? (ad.add ((k - 1) * 2)) = some (.string was.name) := by
          rcases hprev.out with h | h
          · exact Or.inl h
          · obtain ⟨ad', ha', hc'⟩ := row_elem (sz := 2) (fun _ => rfl) (by decide) hrr h
            injection ha' with ha'
            subst ha'
            exact Or.inr (hc' 0 _ rfl)
        have hadl : (ad.add (k * 2)).block < wr.heap.size := World.block_lt_of_cell? wr _ ce0
        replace hpv := Lib.hid (hpv.imp id (fun h => (World.cell?_alloc_lt wr (.cells #[.string name, .int .i64 num] 65) _ (by rw [add_block] at hadl ⊢; exact hadl)).trans h))
        go_upto_region 8 with fail
        generalize (wr.alloc (.cells #[.string name, .int .i64 num] 65)) = W2 at qx hb2 hz2 hpv ⊢
        have hbx : wr.heap.size < W2.heap.size := by have := hz2.out; omega
        have hz3 : w.heap.size ≤ W2.heap.size := by omega
        generalize wr.heap.size = bx at qx hbx ⊢
        have cx0 : W2.cell? ⟨bx, 0, none⟩ = some (.string name) := qx.out.cell 0
        have cx1 : W2.cell? ⟨bx, 1, none⟩ = some (.int .i64 num) := qx.out.cell 1
        clear hrr hc hz2 ce0 ce1
        have knm := Lib.hid (fun W => rname_any name W hsz)
        generalize hnm : nameOk name = nm at knm
        replace hnm := Lib.hid hnm
        cases nm
        · go_wp2_with fail
          go_quiet ((go_at_call 32; exact Calls.quiet_of_same (knm.out _)))
          go_wp2_with fail
          go_ret2
          refine ⟨?_, below_drewN hb2.out _⟩
          rw [lays_bad (by rw [hstep.out, show entK.may was ⟨name, num⟩ ((k : Int) == 0) = false from Bool.eq_false_iff.mpr (fun h => by have h := entK_may h; simp only at h; rw [hnm.out] at h; cases h.1)]; rfl)]
          rfl
        rcases Nat.eq_zero_or_pos k with hk0 | hk0
        · subst hk0
          by_cases hn1 : num < 1
          · go_wp2_with fail
            go_quiet ((go_at_call 32; exact Calls.quiet_of_same (knm.out _)))
            go_wp2_with fail
            go_ret2
            refine ⟨?_, below_drewN hb2.out _⟩
            rw [lays_bad (by rw [hstep.out, show entK.may was ⟨name, num⟩ (((0 : Nat) : Int) == 0) = false from Bool.eq_false_iff.mpr (fun h => by have h := entK_may h; simp only at h; omega)]; rfl)]
            rfl
          have d1 : decide (num < 1) = false := decide_eq_false hn1
          by_cases hn2 : 65535 < num
          · have d2 : decide (65535 < num) = true := decide_eq_true hn2
            go_wp2_with fail
            go_quiet ((go_at_call 32; exact Calls.quiet_of_same (knm.out _)))
            go_wp2_with fail
            go_ret2
            refine ⟨?_, below_drewN hb2.out _⟩
            rw [lays_bad (by rw [hstep.out, show entK.may was ⟨name, num⟩ (((0 : Nat) : Int) == 0) = false from Bool.eq_false_iff.mpr (fun h => by have h := entK_may h; simp only at h; omega)]; rfl)]
            rfl
          have d2 : decide (65535 < num) = false := decide_eq_false hn2
          go_wp2_with fail
          go_quiet ((go_at_call 32; exact Calls.quiet_of_same (knm.out _)))
          have hmay : entK.may was ⟨name, num⟩ (((0 : Nat) : Int) == 0) = true := by
            simp only [entK, Bool.and_eq_true, Bool.or_eq_true, decide_eq_true_eq]
            exact ⟨⟨hnm.out, by first | exact Or.inl rfl | exact Or.inr hab.out⟩, by omega⟩
          have hfo := ent_ok hinv.out hmay
          simp only [entF, List.forall_mem_cons, Fld.ok] at hfo
          replace hmay := Lib.hid hmay
          have hall : ∀ y ∈ [num], 0 ≤ y ∧ y ≤ 4611686018427387903 := by
            simp only [List.forall_mem_cons]
            exact ⟨hfo.2.1, by simp⟩
          have hnz := hfo.1
          have hput : tx name ++ ([num].flatMap dg) = entK.put ⟨name, num⟩ := by simp [entK]
          have hinv2 := Lib.hid (good_ent.step was _ _ hinv.out hmay.out)
          clear hfo
          have q3 := Lib.hid (qx.out.drewN nq)
          have hb3 := Lib.hid (below_drewN hb2.out nq)
          have hz4 : w.heap.size ≤ (W2.drewN nq).heap.size := hz3
          have hbx3 : bx < (W2.drewN nq).heap.size := hbx
          generalize W2.drewN nq = W3 at q3 hb3 hz4 hbx3 ⊢
          clear cx0 cx1
          have cy0 : W3.cell? ⟨bx, 0, none⟩ = some (.string name) := q3.out.cell 0
          have cy1 : W3.cell? ⟨bx, 1, none⟩ = some (.int .i64 num) := q3.out.cell 1
          have kt := fun W => rtext_ok name W hnz
          obtain ⟨Z, hZ⟩ : ∃ Z : ByteArray, Z = ⟨(digits name.size).toArray⟩ ++ name := ⟨_, rfl⟩
          rw [← hZ] at kt
          have hZt : Z.data.toList = tx name := by rw [hZ, ByteArray.data_append, Array.toList_append]; rfl
          have hZs : Z.size ≤ 70000 := by rw [hZ, ByteArray.size_append, mk_size]; have := digits_length9 name.size (by omega); omega
          replace kt := Lib.hid kt
          clear hZ
          replace hZt := Lib.hid hZt
          go_wp2_with fail
          refine (kt.out _).mono ?_
          rintro e W4 ⟨rfl, b4⟩
          have q4 := q3.out.below b4 (by omega)
          have hb5 := Lib.hid (hb3.out.trans (b4.mono hz4))
          have hz5 : w.heap.size ≤ W4.heap.size := Nat.le_trans hz4 b4.size
          clear b4 cy0 cy1
          have hb6 : bx < W4.heap.size := q4.lt
          replace q4 := Lib.hid q4
          have cz0 : W4.cell? ⟨bx, 0, none⟩ = some (.string name) := q4.out.cell 0
          have cz1 : W4.cell? ⟨bx, 1, none⟩ = some (.int .i64 num) := q4.out.cell 1
          replace hall := hall
          have kn2 := Lib.hid (fun (b : Int) (hb : ∀ y ∈ [num], 0 ≤ y ∧ y ≤ 4611686018427387903) => rnums_any (some ⟨W4.heap.size, 0, none⟩) 1 1 [num] (W4.alloc (.cells #[.int .i64 num] 3)) (row_new' W4 3 [.int .i64 num] 1 rfl) hb (by decide))
          replace hput := Lib.hid hput
          replace hall := Lib.hid hall
          go_wp2_with fail
          refine (kn2.out 0 hall.out).mono ?_
          rintro e W5 ⟨E5, rfl, hD5, b5⟩
          have hb7 := Lib.hid ((hb5.out.alloc hz5 _).trans (b5.mono (by simp; omega)))
          clear b5
          have hDD := Lib.hid ((app_list hZt.out hD5).trans hput.out)
          have hDs : E5.size ≤ 9 * 1 := by rw [Lib.size_eq, hD5]; exact dgs_len hall.out
          have hDs2 : (Z ++ E5).size ≤ 350000 := by rw [ByteArray.size_append]; omega
          replace hD5 := Lib.hid hD5
          have hok2 := hstep.out
          rw [hmay.out, Bool.true_and] at hok2
          have hkz : ((((0 + 1 : Nat) : Int) == 0) = false) := by rfl
          replace hkz := Lib.hid hkz
          replace hok2 := Lib.hid hok2
          go_wp2_with fail
          go_roundw
          case rel => exact ⟨0 + 1, _, T ++ (Z ++ E5), by omega, by go_num, rfl, hinv2.out, by rw [hkz.out]; exact hok2.out, Or.inr (by rw [Nat.add_sub_cancel]; exact hx.out), put_len hx.out hT.out hDD.out, by rw [ByteArray.size_append]; omega, hb7.out⟩
          case measure => simp [intOf]; omega
        · have hkI : (0 : Int) < (k : Int) := by omega
          have dk : decide ((0 : Int) < (k : Int)) = true := decide_eq_true hkI
          have cp := hpv.out.resolve_left (by omega)
          have ck1 : (0 : Int) ≤ (k : Int) - 1 := by omega
          have ck2 : (k : Int) - 1 < (n : Int) := by omega
          have ck3 : ((k : Int) - 1).toNat = k - 1 := by omega
          have ck4 : (1 : Int) ≤ (k : Int) := by omega
          cases hab : above name was.name
          · have hab2 : (Op.bytesLess name.toList was.name.toList || name.toList == was.name.toList) = true := above_no hab
            replace hab := Lib.hid hab
            go_wp2_with fail
            go_quiet ((go_at_call 32; exact Calls.quiet_of_same (knm.out _)))
            go_wp2_with fail
            go_ret2
            refine ⟨?_, below_drewN hb2.out _⟩
            rw [lays_bad (by rw [hstep.out, show entK.may was ⟨name, num⟩ ((k : Int) == 0) = false from Bool.eq_false_iff.mpr (fun h => by have h := entK_may h; simp only at h; exact h.2.1.elim (fun h1 => by have := beq_iff_eq.mp h1; omega) (fun h1 => by rw [hab.out] at h1; cases h1))]; rfl)]
            rfl
          · have hab2 : (Op.bytesLess name.toList was.name.toList || name.toList == was.name.toList) = false := above_yes hab
            replace hab := Lib.hid hab
            by_cases hn1 : num < 1
            · go_wp2_with fail
              go_quiet ((go_at_call 32; exact Calls.quiet_of_same (knm.out _)))
              go_wp2_with fail
              go_ret2
              refine ⟨?_, below_drewN hb2.out _⟩
              rw [lays_bad (by rw [hstep.out, show entK.may was ⟨name, num⟩ ((k : Int) == 0) = false from Bool.eq_false_iff.mpr (fun h => by have h := entK_may h; simp only at h; omega)]; rfl)]
              rfl
            have d1 : decide (num < 1) = false := decide_eq_false hn1
            by_cases hn2 : 65535 < num
            · have d2 : decide (65535 < num) = true := decide_eq_true hn2
              go_wp2_with fail
              go_quiet ((go_at_call 32; exact Calls.quiet_of_same (knm.out _)))
              go_wp2_with fail
              go_ret2
              refine ⟨?_, below_drewN hb2.out _⟩
              rw [lays_bad (by rw [hstep.out, show entK.may was ⟨name, num⟩ ((k : Int) == 0) = false from Bool.eq_false_iff.mpr (fun h => by have h := entK_may h; simp only at h; omega)]; rfl)]
              rfl
            have d2 : decide (65535 < num) = false := decide_eq_false hn2
            go_wp2_with fail
            go_quiet ((go_at_call 32; exact Calls.quiet_of_same (knm.out _)))
            have hmay : entK.may was ⟨name, num⟩ ((k : Int) == 0) = true := by
              simp only [entK, Bool.and_eq_true, Bool.or_eq_true, decide_eq_true_eq]
              exact ⟨⟨hnm.out, by first | exact Or.inl rfl | exact Or.inr hab.out⟩, by omega⟩
            have hfo := ent_ok hinv.out hmay
            simp only [entF, List.forall_mem_cons, Fld.ok] at hfo
            replace hmay := Lib.hid hmay
            have hall : ∀ y ∈ [num], 0 ≤ y ∧ y ≤ 4611686018427387903 := by
              simp only [List.forall_mem_cons]
              exact ⟨hfo.2.1, by simp⟩
            have hnz := hfo.1
            have hput : tx name ++ ([num].flatMap dg) = entK.put ⟨name, num⟩ := by simp [entK]
            have hinv2 := Lib.hid (good_ent.step was _ _ hinv.out hmay.out)
            clear hfo
            have q3 := Lib.hid (qx.out.drewN nq)
            have hb3 := Lib.hid (below_drewN hb2.out nq)
            have hz4 : w.heap.size ≤ (W2.drewN nq).heap.size := hz3
            have hbx3 : bx < (W2.drewN nq).heap.size := hbx
            generalize W2.drewN nq = W3 at q3 hb3 hz4 hbx3 ⊢
            clear cx0 cx1
            have cy0 : W3.cell? ⟨bx, 0, none⟩ = some (.string name) := q3.out.cell 0
            have cy1 : W3.cell? ⟨bx, 1, none⟩ = some (.int .i64 num) := q3.out.cell 1
            have kt := fun W => rtext_ok name W hnz
            obtain ⟨Z, hZ⟩ : ∃ Z : ByteArray, Z = ⟨(digits name.size).toArray⟩ ++ name := ⟨_, rfl⟩
            rw [← hZ] at kt
            have hZt : Z.data.toList = tx name := by rw [hZ, ByteArray.data_append, Array.toList_append]; rfl
            have hZs : Z.size ≤ 70000 := by rw [hZ, ByteArray.size_append, mk_size]; have := digits_length9 name.size (by omega); omega
            replace kt := Lib.hid kt
            clear hZ
            replace hZt := Lib.hid hZt
            go_wp2_with fail
            refine (kt.out _).mono ?_
            rintro e W4 ⟨rfl, b4⟩
            have q4 := q3.out.below b4 (by omega)
            have hb5 := Lib.hid (hb3.out.trans (b4.mono hz4))
            have hz5 : w.heap.size ≤ W4.heap.size := Nat.le_trans hz4 b4.size
            clear b4 cy0 cy1
            have hb6 : bx < W4.heap.size := q4.lt
            replace q4 := Lib.hid q4
            have cz0 : W4.cell? ⟨bx, 0, none⟩ = some (.string name) := q4.out.cell 0
            have cz1 : W4.cell? ⟨bx, 1, none⟩ = some (.int .i64 num) := q4.out.cell 1
            replace hall := hall
            have kn2 := Lib.hid (fun (b : Int) (hb : ∀ y ∈ [num], 0 ≤ y ∧ y ≤ 4611686018427387903) => rnums_any (some ⟨W4.heap.size, 0, none⟩) 1 1 [num] (W4.alloc (.cells #[.int .i64 num] 3)) (row_new' W4 3 [.int .i64 num] 1 rfl) hb (by decide))
            replace hput := Lib.hid hput
            replace hall := Lib.hid hall
            go_wp2_with fail
            refine (kn2.out 0 hall.out).mono ?_
            rintro e W5 ⟨E5, rfl, hD5, b5⟩
            have hb7 := Lib.hid ((hb5.out.alloc hz5 _).trans (b5.mono (by simp; omega)))
            clear b5
            have hDD := Lib.hid ((app_list hZt.out hD5).trans hput.out)
            have hDs : E5.size ≤ 9 * 1 := by rw [Lib.size_eq, hD5]; exact dgs_len hall.out
            have hDs2 : (Z ++ E5).size ≤ 350000 := by rw [ByteArray.size_append]; omega
            replace hD5 := Lib.hid hD5
            have hok2 := hstep.out
            rw [hmay.out, Bool.true_and] at hok2
            have hkz : ((((k + 1 : Nat) : Int) == 0) = false) := by simp; omega
            replace hkz := Lib.hid hkz
            replace hok2 := Lib.hid hok2
            go_wp2_with fail
            go_roundw
            case rel => exact ⟨k + 1, _, T ++ (Z ++ E5), by omega, by go_num, rfl, hinv2.out, by rw [hkz.out]; exact hok2.out, Or.inr (by rw [Nat.add_sub_cancel]; exact hx.out), put_len hx.out hT.out hDD.out, by rw [ByteArray.size_append]; omega, hb7.out⟩
            case measure => simp [intOf]; omega
      · obtain rfl : k = n := by omega
        have hfull : l.take k = l := List.take_of_length_le (by rw [hln.out]; exact Nat.le_refl _)
        have hokk := Lib.hid (show okAll entK entK.zero true l = true by rw [hok.out, List.drop_of_length_le (by rw [hln.out]; exact Nat.le_refl _)]; rfl)
        replace hb := Lib.hid hb
        replace hfull := Lib.hid hfull
        go_wp2_with fail
        go_ret2
        refine ⟨?_, hb.out⟩
        rw [lays_good (by rw [hln.out]; omega) hokk.out, bytes, hln.out]
        have hTT := hT.out
        rw [hfull.out] at hTT
        rw [← hTT]
        rfl

set_option maxRecDepth 100000 in
set_option maxHeartbeats 8000000 in
theorem snp_rlays (A : Option Addr) (n c : Nat) (l : List Snp) (w : World) (hr : Row w A (n * 5) (l.flatMap snpC)) (hln : l.length = n) (hbig : ∀ x ∈ l, x.name.size ≤ 9223372036854775807) (hnm : n ≤ 9223372036854775807) :
    Calls Tryz.prog 18 #[.slice A n c] w fun e w' => e = .returned (laysV (lays snpK l)) ∧ Below w.heap.size w w' := by
  by_cases hlong : 4096 < n
  · rw [lays_long (by rw [hln]; exact hlong)]
    clear hr hln hbig
    go_enter Tryz.func18, Tryz.ntmps18
    go_wp2_with fail
    go_ret2
    exact ⟨rfl, Below.refl _ _⟩
  · replace hbig := Lib.hid hbig
    have hn9 : (digits n).length ≤ 9 := digits_length9 n (by omega)
    replace hln := Lib.hid hln
    have kn := Lib.hid (rnums_any (some ⟨w.heap.size, 0, none⟩) 1 1 [(n : Int)] (w.alloc (.cells #[.int .i64 (n : Int)] 3)) (row_new w 3 [.int .i64 (n : Int)]) (by intro y hy; rw [List.mem_singleton.1 hy]; omega) (by decide))
    go_enter Tryz.func18, Tryz.ntmps18
    go_wp2_with fail
    refine kn.out.mono ?_
    rintro e W1 ⟨T0, rfl, hT0, b1⟩
    have hb1 : Below w.heap.size w W1 := ((Below.refl _ _).alloc (Nat.le_refl _) _).trans (b1.mono (by simp))
    clear b1
    replace hT0 := Lib.hid (show T0.data.toList = digits n by rw [hT0]; simp [dg])
    have hT0s : T0.size ≤ 9 := by rw [Lib.size_eq, hT0.out]; exact hn9
    replace hb1 := Lib.hid hb1
    replace hr := Lib.hid hr
    go_wp2_with fail
    go_loopw [4, 5, 6] (fun s last i wr => ∃ (k : Nat) (was : Snp) (T : ByteArray), k ≤ n ∧ i = .int .i64 (k : Int) ∧ s = .string T ∧ last = .int .i64 was.id ∧ snpK.inv was ∧ okAll snpK snpK.zero true l = okAll snpK was ((k : Int) == 0) (l.drop k) ∧ 
      T.data.toList = digits n ++ flat snpK (l.take k) ∧ T.size ≤ 9 + 350000 * k ∧ Below w.heap.size w wr) (fun _ _ i _ => n - (intOf i).toNat)
    case atStart => exact ⟨0, snpK.zero, T0, Nat.zero_le _, rfl, rfl, rfl, good_snp.zero, rfl, by rw [hT0.out]; simp [flat], by omega, hb1.out⟩
    case round =>
      obtain ⟨k, was, T, hk, rfl, rfl, rfl, hinv, hok, hT, hTs, hb⟩ := hrel
      have hz := hb.size
      replace hT := Lib.hid hT
      replace hinv := Lib.hid hinv
      replace hok := Lib.hid hok
      by_cases hlt : k < n
      · obtain ⟨x, hx⟩ : ∃ x, l[k]? = some x := ⟨_, List.getElem?_eq_getElem (by rw [hln.out]; exact hlt)⟩
        have hrr := hr.out.below hb
        obtain ⟨ad, ha, hc⟩ := row_elem (sz := 5) (fun _ => rfl) (by decide) hrr hx
        subst ha
        have hstep := Lib.hid (okAll_step hx hok.out)
        have hsz := hbig.out x (List.mem_of_getElem? hx)
        obtain ⟨name, id, plane, root, size⟩ := x
        have ce0 : wr.cell? (ad.add (k * 5)) = some (.string name) := hc 0 _ rfl
        have ce1 : wr.cell? (⟨(ad.add (k * 5)).block, (ad.add (k * 5)).off + 1, none⟩) = some (.int .i64 id) := hc 1 _ rfl
        have ce2 : wr.cell? (⟨(ad.add (k * 5)).block, (ad.add (k * 5)).off + 2, none⟩) = some (.int .i64 plane) := hc 2 _ rfl
        have ce3 : wr.cell? (⟨(ad.add (k * 5)).block, (ad.add (k * 5)).off + 3, none⟩) = some (.int .i64 root) := hc 3 _ rfl
        have ce4 : wr.cell? (⟨(ad.add (k * 5)).block, (ad.add (k * 5)).off + 4, none⟩) = some (.int .i64 size) := hc 4 _ rfl
        have qx := Blk.new wr 67 #[.string name, .int .i64 id, .int .i64 plane, .int .i64 root, .int .i64 size]
        have hb2 : Below w.heap.size w (wr.alloc (.cells #[.string name, .int .i64 id, .int .i64 plane, .int .i64 root, .int .i64 size] 67)) := hb.alloc hz _
        have hz2 : wr.heap.size + 1 = (wr.alloc (.cells #[.string name, .int .i64 id, .int .i64 plane, .int .i64 root, .int .i64 size] 67)).heap.size := by simp
        replace hx := Lib.hid hx
        replace hb := Lib.hid hb
        replace hb2 := Lib.hid hb2
        replace qx := Lib.hid qx
        replace hz2 := Lib.hid hz2
        go_upto_region 9 with fail
        generalize (wr.alloc (.cells #[.string name, .int .i64 id, .int .i64 plane, .int .i64 root, .int .i64 size] 67)) = W2 at qx hb2 hz2 ⊢
        have hbx : wr.heap.size < W2.heap.size := by have := hz2.out; omega
        have hz3 : w.heap.size ≤ W2.heap.size := by omega
        generalize wr.heap.size = bx at qx hbx ⊢
        have cx0 : W2.cell? ⟨bx, 0, none⟩ = some (.string name) := qx.out.cell 0
        have cx1 : W2.cell? ⟨bx, 1, none⟩ = some (.int .i64 id) := qx.out.cell 1
        have cx2 : W2.cell? ⟨bx, 2, none⟩ = some (.int .i64 plane) := qx.out.cell 2
        have cx3 : W2.cell? ⟨bx, 3, none⟩ = some (.int .i64 root) := qx.out.cell 3
        have cx4 : W2.cell? ⟨bx, 4, none⟩ = some (.int .i64 size) := qx.out.cell 4
        clear hrr hc hz2 ce0 ce1 ce2 ce3 ce4
        have knm := Lib.hid (fun W => rname_any name W hsz)
        have kb := Lib.hid (fun W => rblob_any root size W)
        unfold blobV at kb
        generalize hnm : nameOk name = nm at knm
        replace hnm := Lib.hid hnm
        go_wp2_with fail
        refine (knm.out _).mono ?_
        rintro e W2' ⟨rfl, hww⟩
        subst hww
        cases nm
        · go_wp2_with fail
          go_ret2
          refine ⟨?_, hb2.out⟩
          rw [lays_bad (by rw [hstep.out, show snpK.may was ⟨name, id, plane, root, size⟩ ((k : Int) == 0) = false from Bool.eq_false_iff.mpr (fun h => by have h := (snpK_may h).1; simp only at h; rw [hnm.out] at h; cases h)]; rfl)]
          rfl
        go_wp2_with fail
        all_goals first
          | (refine (kb.out _).mono ?_)
          | (go_ret2; refine ⟨?_, hb2.out⟩; rw [lays_bad (by rw [hstep.out, show snpK.may was ⟨name, id, plane, root, size⟩ ((k : Int) == 0) = false from Bool.eq_false_iff.mpr (fun h => by have h := snpK_may h; simp only at h; omega)]; rfl)]; rfl)
        rintro e W3 ⟨rfl, b3⟩
        have q3 := qx.out.below b3 hbx
        have hb3 := Lib.hid (hb2.out.trans (b3.mono hz3))
        have hz4 : w.heap.size ≤ W3.heap.size := Nat.le_trans hz3 b3.size
        have hb4 : bx < W3.heap.size := q3.lt
        clear b3 cx0 cx1 cx2 cx3 cx4
        replace q3 := Lib.hid q3
        have cy0 : W3.cell? ⟨bx, 0, none⟩ = some (.string name) := q3.out.cell 0
        have cy1 : W3.cell? ⟨bx, 1, none⟩ = some (.int .i64 id) := q3.out.cell 1
        have cy2 : W3.cell? ⟨bx, 2, none⟩ = some (.int .i64 plane) := q3.out.cell 2
        have cy3 : W3.cell? ⟨bx, 3, none⟩ = some (.int .i64 root) := q3.out.cell 3
        have cy4 : W3.cell? ⟨bx, 4, none⟩ = some (.int .i64 size) := q3.out.cell 4
        have hmay : snpK.may was ⟨name, id, plane, root, size⟩ ((k : Int) == 0) = blobOk root size := by
          rw [Bool.eq_iff_iff]
          simp only [snpK, Bool.and_eq_true, decide_eq_true_eq]
          constructor
          · exact fun h => h.2
          · exact fun h => ⟨⟨⟨hnm.out, by omega⟩, by omega⟩, h⟩
        generalize hbo : blobOk root size = bo at hmay ⊢
        replace hmay := Lib.hid hmay
        replace hbo := Lib.hid hbo
        cases bo
        · go_wp2_with fail
          go_ret2
          refine ⟨?_, hb3.out⟩
          rw [lays_bad (by rw [hstep.out, hmay.out]; rfl)]
          rfl
        · have hfo := snp_ok hinv.out hmay.out
          simp only [snpF, List.forall_mem_cons, Fld.ok] at hfo
          have hall : ∀ y ∈ [id, plane, root, size], 0 ≤ y ∧ y ≤ 4611686018427387903 := by
            simp only [List.forall_mem_cons]
            exact ⟨hfo.2.1, hfo.2.2.1, hfo.2.2.2.1, hfo.2.2.2.2.1, by simp⟩
          have hnz := hfo.1
          have hput : tx name ++ ([id, plane, root, size].flatMap dg) = snpK.put ⟨name, id, plane, root, size⟩ := by simp [snpK]
          have hinv2 := Lib.hid (good_snp.step was _ _ hinv.out hmay.out)
          clear hfo
          have kt := fun W => rtext_ok name W hnz
          obtain ⟨Z, hZ⟩ : ∃ Z : ByteArray, Z = ⟨(digits name.size).toArray⟩ ++ name := ⟨_, rfl⟩
          rw [← hZ] at kt
          have hZt : Z.data.toList = tx name := by rw [hZ, ByteArray.data_append, Array.toList_append]; rfl
          have hZs : Z.size ≤ 70000 := by rw [hZ, ByteArray.size_append, mk_size]; have := digits_length9 name.size (by omega); omega
          replace kt := Lib.hid kt
          clear hZ
          replace hZt := Lib.hid hZt
          go_wp2_with fail
          refine (kt.out _).mono ?_
          rintro e W4 ⟨rfl, b4⟩
          have q4 := q3.out.below b4 (by omega)
          have hb5 := Lib.hid (hb3.out.trans (b4.mono hz4))
          have hz5 : w.heap.size ≤ W4.heap.size := Nat.le_trans hz4 b4.size
          clear b4 cy0 cy1 cy2 cy3 cy4
          have hb6 : bx < W4.heap.size := q4.lt
          replace q4 := Lib.hid q4
          have cz0 : W4.cell? ⟨bx, 0, none⟩ = some (.string name) := q4.out.cell 0
          have cz1 : W4.cell? ⟨bx, 1, none⟩ = some (.int .i64 id) := q4.out.cell 1
          have cz2 : W4.cell? ⟨bx, 2, none⟩ = some (.int .i64 plane) := q4.out.cell 2
          have cz3 : W4.cell? ⟨bx, 3, none⟩ = some (.int .i64 root) := q4.out.cell 3
          have cz4 : W4.cell? ⟨bx, 4, none⟩ = some (.int .i64 size) := q4.out.cell 4
          replace hall := hall
          have kn2 := Lib.hid (fun (b : Int) (hb : ∀ y ∈ [id, plane, root, size], 0 ≤ y ∧ y ≤ 4611686018427387903) => rnums_any (some ⟨W4.heap.size, 0, none⟩) 4 4 [id, plane, root, size] (W4.alloc (.cells #[.int .i64 id, .int .i64 plane, .int .i64 root, .int .i64 size] 3)) (row_new' W4 3 [.int .i64 id, .int .i64 plane, .int .i64 root, .int .i64 size] 4 rfl) hb (by decide))
          replace hput := Lib.hid hput
          replace hall := Lib.hid hall
          go_wp2_with fail
          refine (kn2.out 0 hall.out).mono ?_
          rintro e W5 ⟨E5, rfl, hD5, b5⟩
          have hb7 := Lib.hid ((hb5.out.alloc hz5 _).trans (b5.mono (by simp; omega)))
          clear b5
          have hDD := Lib.hid ((app_list hZt.out hD5).trans hput.out)
          have hDs : E5.size ≤ 9 * 4 := by rw [Lib.size_eq, hD5]; exact dgs_len hall.out
          have hDs2 : (Z ++ E5).size ≤ 350000 := by rw [ByteArray.size_append]; omega
          replace hD5 := Lib.hid hD5
          have hok2 := hstep.out
          rw [hmay.out, Bool.true_and] at hok2
          have hkz : ((((k + 1 : Nat) : Int) == 0) = false) := by simp; omega
          replace hkz := Lib.hid hkz
          replace hok2 := Lib.hid hok2
          go_wp2_with fail
          go_roundw
          case rel => exact ⟨k + 1, _, T ++ (Z ++ E5), by omega, by go_num, rfl, rfl, hinv2.out, by rw [hkz.out]; exact hok2.out, put_len hx.out hT.out hDD.out, by rw [ByteArray.size_append]; omega, hb7.out⟩
          case measure => simp [intOf]; omega
      · obtain rfl : k = n := by omega
        have hfull : l.take k = l := List.take_of_length_le (by rw [hln.out]; exact Nat.le_refl _)
        have hokk := Lib.hid (show okAll snpK snpK.zero true l = true by rw [hok.out, List.drop_of_length_le (by rw [hln.out]; exact Nat.le_refl _)]; rfl)
        replace hb := Lib.hid hb
        replace hfull := Lib.hid hfull
        go_wp2_with fail
        go_ret2
        refine ⟨?_, hb.out⟩
        rw [lays_good (by rw [hln.out]; omega) hokk.out, bytes, hln.out]
        have hTT := hT.out
        rw [hfull.out] at hTT
        rw [← hTT]
        rfl
end Go.Proofs.YtaihpnmojiagnaaGreatDoor.Table

/- SipHash: the sum of bytes by a key, the program's and the document's. -/
import Derived.Test.YtkghlbpkdkonbaaGreatSipWalkE
import Derived.Test.YtkghlbpkdkonbaaGreatSipPl
import Derived.BigRegion
import Derived.Lib.UnsafeStr
import Derived.WalkSpells
import Derived.Deep.DeepCutAuto
namespace Go.Proofs.YtkghlbpkdkonbaaGreat.Sip
open Go.RowKit Mem

set_option maxRecDepth 100000 in
set_option maxHeartbeats 1000000 in
theorem dsum_any (key s : ByteArray) (w0 : World) (hk : key.size = 16) (hs : s.size ≤ 9223372036854775807) :
    Calls Tryz.prog 104 #[.string key, .string s] w0 fun e w' => e = .returned (.tuple #[.string ⟨(sum key.data.toList s.data.toList).toArray⟩, .int .i64 0]) ∧ Below w0.heap.size w0 w' := by
  have hsum : sum key.data.toList s.data.toList = finish (feed (start (word (key.data.toList.take 8)) (word (key.data.toList.drop 8))) (s.size / 8) s.data.toList) (word (s.data.toList.drop (8 * (s.size / 8))) + s.size % 256 * 72057594037927936) := by
    rw [Lib.size_eq s]; rfl
  rw [hsum]
  have k1 := Lib.hid (fun W => new_key key W hk)
  have bd := start_bd (word (key.data.toList.take 8)) (word (key.data.toList.drop 8))
  generalize start (word (key.data.toList.take 8)) (word (key.data.toList.drop 8)) = v at k1 bd ⊢
  have bd2 := Lib.hid (feed_bd (s.size / 8) v s.data.toList bd)
  have hs := Lib.hid hs
  clear hk hsum
  go_enter Tryz.func104, Tryz.ntmps104
  go_wp2_with fail
  refine (k1.out w0).mono ?_
  rintro e w1 ⟨rfl, h1, b1⟩
  have hb := Lib.hid bd
  clear bd
  go_wp2_with fail
  refine (write_new w0.heap.size v s w1 h1 hb.out.1 hb.out.2.1 hb.out.2.2.1 hb.out.2.2.2 hs.out).mono ?_
  rintro e w2 ⟨rfl, ⟨r, hr, h2⟩, g2⟩
  have b2 : Below w0.heap.size w0 w2 := b1.grown g2 b1.size (fun k hk => by injection hk; omega)
  have hr7 : r.size ≤ 7 := by
    rw [Lib.size_eq r, hr, List.length_drop, ← Lib.size_eq s]; omega
  have k3 := hsum_any w0.heap.size (feed v (s.size / 8) s.data.toList) r s.size w2 h2 bd2.out hr7 hs.out
  rw [hr] at k3
  have k3 := Lib.hid k3
  clear hr hr7 h1 h2 g2
  go_wp2_with fail
  refine k3.out.mono ?_
  rintro e w3 ⟨rfl, b3⟩
  have b3 : Below w0.heap.size w0 w3 := b2.trans (b3.mono b2.size)
  go_wp2_with fail
  go_ret2
  exact ⟨rfl, b3⟩

set_option maxRecDepth 100000 in
theorem make_small (W : World) (p : Nat) (hp : p ≤ 7) : (Instr.makeSlice 72 (.int .i64 (p : Int)) (.int .i64 (p : Int))).run Tryz.prog W = .ok (.slice (some ⟨W.heap.size, 0, none⟩) p p) (W.alloc (.cells (Array.replicate p (.int .u8 0)) 5)) := by
  obtain ⟨i0, hi, hz0, hz1, hz2⟩ := info_parts infoByte
  have h := run_make (P := Tryz.prog) (w := W) 72 5 i0 (.int .u8 0) Tryz.underlying72 hi hz0 .i64 .i64 (p : Int) (p : Int) (by omega) (by omega) (by rw [hz2]; omega) (by omega)
  have hc : p = 0 ∨ p = 1 ∨ p = 2 ∨ p = 3 ∨ p = 4 ∨ p = 5 ∨ p = 6 ∨ p = 7 := by omega
  rw [hz1, Int.toNat_natCast, show madeCells (Value.int .u8 0).cells (p * 1) = Array.replicate p (.int .u8 0) by rcases hc with rfl | rfl | rfl | rfl | rfl | rfl | rfl | rfl <;> kernel_rfl] at h
  exact h
set_option maxRecDepth 100000 in
theorem zeros_str (W : World) (b p : Nat) (h : W.heap[b]? = some (.cells (Array.replicate p (.int .u8 0)) 5)) : (convert 72 9 (.slice (some ⟨b, 0, none⟩) p p)).run Tryz.prog W = .ok (.string ⟨(List.replicate p 0).toArray⟩) W := by
  have := run_convert_bytes_back (P := Tryz.prog) W 72 9 5 ⟨b, 0, none⟩ p (List.replicate p 0) Tryz.underlying72 Tryz.underlying5 Tryz.underlying9 (fun j hj => by
    rw [add_lit, cell_of_row W b _ _ _ _ h]
    simp at hj
    simp [hj])
  rwa [List.length_replicate] at this
set_option maxRecDepth 100000 in
theorem one_str (W : World) (b : Nat) (c : UInt8) (h : W.heap[b]? = some (.cells #[.int .u8 (c.toNat : Int)] 5)) : (convert 72 9 (.slice (some ⟨b, 0, none⟩) 1 1)).run Tryz.prog W = .ok (.string ⟨[c].toArray⟩) W :=
  run_convert_bytes_back (P := Tryz.prog) W 72 9 5 ⟨b, 0, none⟩ 1 [c] Tryz.underlying72 Tryz.underlying5 Tryz.underlying9 (fun j hj => by
    rw [add_lit, cell_of_row W b _ _ _ _ h]
    simp at hj
    simp [hj])

set_option maxRecDepth 100000 in
theorem bytes8_take (x j : Nat) (hj : j < 8) : (bytes8 x).take (j + 1) = (bytes8 x).take j ++ [UInt8.ofNat (x / 256 ^ j)] := by
  rw [List.take_add_one]
  congr 1
  simp [bytes8, hj]
set_option maxRecDepth 100000 in
theorem byte_of (n : Nat) : Lib.byteCells [UInt8.ofNat n] = [.int .u8 ((n : Int) % 256)] := by
  simp only [Lib.byteCells, List.map_cons, List.map_nil, UInt8.toNat_ofNat']
  congr 2
set_option maxRecDepth 100000 in
theorem size_push (w : World) (o : Obj) : (w.alloc o).heap.size = w.heap.size + 1 := by simp

set_option maxRecDepth 100000 in
set_option maxHeartbeats 1000000 in
theorem rsum_any (key s : ByteArray) (w0 : World) (hk : key.size = 16) (hs : s.size ≤ 9223372036854775790) :
    Calls Tryz.prog 99 #[.string key, .string s] w0 fun e w' => e = .returned (.tuple #[.string ⟨(sum key.data.toList s.data.toList).toArray⟩, .int .i64 0]) ∧ Below w0.heap.size w0 w' := by
  have k1 : ∀ W : World, Calls Tryz.prog 105 #[.string (key.extract 0 8)] W fun e w' => e = .returned (.int .u64 (word (key.data.toList.take 8) : Nat)) ∧ w' = W := by
    intro W
    have := rword_any (key.extract 0 8) W (key_left key hk).2
    rwa [(key_left key hk).1] at this
  have k2 : ∀ W : World, Calls Tryz.prog 105 #[.string (key.extract 8 16)] W fun e w' => e = .returned (.int .u64 (word (key.data.toList.drop 8) : Nat)) ∧ w' = W := by
    intro W
    have := rword_any (key.extract 8 16) W (key_right key hk).2
    rwa [(key_right key hk).1] at this
  have bk : word (key.data.toList.take 8) < 18446744073709551616 := word8_lt _ (by rw [List.length_take]; omega)
  have bl : word (key.data.toList.drop 8) < 18446744073709551616 := word8_lt _ (by rw [List.length_drop, ← Lib.size_eq key]; omega)
  have hsum : sum key.data.toList s.data.toList = finish (feed (start (word (key.data.toList.take 8)) (word (key.data.toList.drop 8))) (s.size / 8) s.data.toList) (word (s.data.toList.drop (8 * (s.size / 8))) + s.size % 256 * 72057594037927936) := by
    rw [Lib.size_eq s]; rfl
  rw [hsum]
  clear hsum
  generalize word (key.data.toList.take 8) = k at k1 bk ⊢
  generalize word (key.data.toList.drop 8) = l at k2 bl ⊢
  have e1 : bits .xor .u64 (k : Int) 8317987319222330741 = ((uxor k 0x736f6d6570736575 : Nat) : Int) := uxor_eq k 0x736f6d6570736575 bk (by decide)
  have e2 : bits .xor .u64 (l : Int) 7237128888997146477 = ((uxor l 0x646f72616e646f6d : Nat) : Int) := uxor_eq l 0x646f72616e646f6d bl (by decide)
  have e3 : bits .xor .u64 (k : Int) 7816392313619706465 = ((uxor k 0x6c7967656e657261 : Nat) : Int) := uxor_eq k 0x6c7967656e657261 bk (by decide)
  have e4 : bits .xor .u64 (l : Int) 8387220255154660723 = ((uxor l 0x7465646279746573 : Nat) : Int) := uxor_eq l 0x7465646279746573 bl (by decide)
  have bd := start_bd k l
  have hsz : start k l = ⟨uxor k 0x736f6d6570736575, uxor l 0x646f72616e646f6d, uxor k 0x6c7967656e657261, uxor l 0x7465646279746573⟩ := rfl
  rw [hsz] at bd ⊢
  clear hsz
  generalize uxor k 0x736f6d6570736575 = a at e1 bd ⊢
  generalize uxor l 0x646f72616e646f6d = b at e2 bd ⊢
  generalize uxor k 0x6c7967656e657261 = c at e3 bd ⊢
  generalize uxor l 0x7465646279746573 = d at e4 bd ⊢
  have bd := Lib.hid bd
  have hs := Lib.hid hs
  have k1' := Lib.hid k1
  have k2' := Lib.hid k2
  clear bk bl k1 k2
  go_enter Tryz.func99, Tryz.ntmps99
  go_wp2_with fail
  refine wp_region_quiet_lit (by kernel_rfl) (by kernel_rfl) ?_
  quiet_step (fail)
  quiet_step (fail)
  quiet_step (exact Calls.quiet_of_same (k1'.out _))
  quiet_step (fail)
  quiet_step (fail)
  quiet_step (exact Calls.quiet_of_same (k2'.out _))
  quiet_step (fail)
  quiet_step (fail)
  refine wpQuiet_nil ?_
  intro w1 hw'
  have b1 : Below w0.heap.size w0 w1 := by obtain ⟨nq, hw''⟩ := hw'; rw [hw'']; exact below_drewN (Below.refl _ _) nq
  have s1 : w1.heap.size = w0.heap.size := by obtain ⟨nq, hw''⟩ := hw'; rw [hw'']; rfl
  clear hw'
  go_wp2_with fail
  obtain ⟨w2, hw⟩ : ∃ x, x = w1.alloc (.cells #[.int .u64 (a : Int), .int .u64 (b : Int), .int .u64 (c : Int), .int .u64 (d : Int)] 143) := ⟨_, rfl⟩
  rw [← hw]
  have h2 : Blk w2 w0.heap.size 143 #[.int .u64 (a : Int), .int .u64 (b : Int), .int .u64 (c : Int), .int .u64 (d : Int)] := by rw [hw, ← s1]; exact Blk.new w1 _ _
  have b2 : Below w0.heap.size w0 w2 := by rw [hw]; exact b1.alloc (by omega) _
  have s2 := h2.lt
  clear hw s1 b1
  obtain ⟨p, hp⟩ : ∃ z, z = 7 - s.size % 8 := ⟨_, rfl⟩
  obtain ⟨cc, hcc⟩ : ∃ z, z = UInt8.ofNat (s.size % 256) := ⟨_, rfl⟩
  have hp7 : p ≤ 7 := by omega
  have ep : 7 - (s.size : Int) % 8 = (p : Int) := by omega
  have ec : (s.size : Int) % 256 = (cc.toNat : Int) := by rw [hcc, UInt8.toNat_ofNat']; omega
  have hpad : pads s.size = List.replicate p 0 ++ [cc] := by rw [hp, hcc]; rfl
  obtain ⟨R, hR⟩ : ∃ z, z = Obj.cells (Array.replicate p (.int .u8 0)) 5 := ⟨_, rfl⟩
  obtain ⟨O, hO⟩ : ∃ z, z = Obj.cells #[.int .u8 (cc.toNat : Int)] 5 := ⟨_, rfl⟩
  obtain ⟨PB, hPB⟩ : ∃ z, z = (⟨(List.replicate p 0).toArray⟩ : ByteArray) := ⟨_, rfl⟩
  obtain ⟨CB, hCB⟩ : ∃ z, z = (⟨[cc].toArray⟩ : ByteArray) := ⟨_, rfl⟩
  have hPs : PB.size ≤ 7 := by rw [hPB]; simpa [ByteArray.size] using hp7
  have hCs : CB.size = 1 := by rw [hCB]; rfl
  have oR : ∀ W : World, W.heap[w2.heap.size]? = some R → (convert 72 9 (.slice (some ⟨w2.heap.size, 0, none⟩) p p)).run Tryz.prog W = .ok (.string PB) W := fun W h => by rw [hPB]; exact zeros_str W _ p (h.trans (by rw [hR]))
  have oR1 : ∀ W : World, W.heap[w2.heap.size + 1]? = some R → (convert 72 9 (.slice (some ⟨w2.heap.size + 1, 0, none⟩) p p)).run Tryz.prog W = .ok (.string PB) W := fun W h => by rw [hPB]; exact zeros_str W _ p (h.trans (by rw [hR]))
  have oO : ∀ W : World, W.heap[w2.heap.size]? = some O → (convert 72 9 (.slice (some ⟨w2.heap.size, 0, none⟩) 1 1)).run Tryz.prog W = .ok (.string CB) W := fun W h => by rw [hCB]; exact one_str W _ cc (h.trans (by rw [hO]))
  have oO1 : ∀ W : World, W.heap[w2.heap.size + 1]? = some O → (convert 72 9 (.slice (some ⟨w2.heap.size + 1, 0, none⟩) 1 1)).run Tryz.prog W = .ok (.string CB) W := fun W h => by rw [hCB]; exact one_str W _ cc (h.trans (by rw [hO]))
  have M1 : (Instr.makeSlice 72 (.int .i64 (p : Int)) (.int .i64 (p : Int))).run Tryz.prog w2.drew = .ok (.slice (some ⟨w2.heap.size, 0, none⟩) p p) (w2.alloc R).drew := by rw [hR]; exact make_small w2.drew p hp7
  have M2 : (Instr.makeSlice 72 (.int .i64 (p : Int)) (.int .i64 (p : Int))).run Tryz.prog (w2.alloc O).drew = .ok (.slice (some ⟨w2.heap.size + 1, 0, none⟩) p p) ((w2.alloc O).alloc R).drew := by
    rw [hR]
    have h := make_small (w2.alloc O).drew p hp7
    rw [show (w2.alloc O).drew.heap.size = w2.heap.size + 1 from size_push w2 O] at h
    exact h
  have R1 := oR (w2.alloc R).drew (heap_alloc_new w2 R)
  have R2 := oR ((w2.alloc R).alloc O).drew ((Below.heap_alloc _ O _ (by simp)).trans (heap_alloc_new w2 R))
  have R3 := oR1 ((w2.alloc O).alloc R).drew (size_push w2 O ▸ heap_alloc_new (w2.alloc O) R)
  have O1 := oO (w2.alloc O).drew (heap_alloc_new w2 O)
  have O2 := oO ((w2.alloc O).alloc R).drew ((Below.heap_alloc _ R _ (by simp)).trans (heap_alloc_new w2 O))
  have O3 := oO1 ((w2.alloc R).alloc O).drew (size_push w2 R ▸ heap_alloc_new (w2.alloc R) O)
  have bW1 : Below w2.heap.size w2 ((w2.alloc O).alloc R).drew := (((Below.refl _ w2).alloc (Nat.le_refl _) O).alloc (by simp) R).drew
  have bW2 : Below w2.heap.size w2 ((w2.alloc R).alloc O).drew := (((Below.refl _ w2).alloc (Nat.le_refl _) R).alloc (by simp) O).drew
  have hall : s ++ (PB ++ CB) = ⟨(s.data.toList ++ pads s.size).toArray⟩ := by
    rw [hpad, hPB, hCB]
    obtain ⟨⟨l⟩⟩ := s
    simp only [ByteArray.ext_iff, ByteArray.data_append]
    simp
  subst hO
  have hs0 := hs.out
  clear oR oR1 oO oO1 hp hcc hpad hR hPB hCB
  have hall := Lib.hid hall
  have bW1 := Lib.hid bW1
  have bW2 := Lib.hid bW2
  go_upto_region 6 with fail
  go_cut [1] (fun s1 wx => s1 = .string ⟨(s.data.toList ++ pads s.size).toArray⟩ ∧ Below w2.heap.size w2 wx)
  case first =>
    go_region
    all_goals (go_wp2_with fail; go_meet; first | exact ⟨rfl, bW1.out⟩ | exact ⟨rfl, bW2.out⟩)
  case rest =>
  obtain ⟨rfl, b3⟩ := hcut
  have h3 : Blk _ w0.heap.size 143 #[.int .u64 (a : Int), .int .u64 (b : Int), .int .u64 (c : Int), .int .u64 (d : Int)] := h2.below b3 s2
  have b3 : Below w0.heap.size w0 _ := b2.trans (b3.mono b2.size)
  clear M1 M2 R1 R2 R3 O1 O2 O3 hall ep ec hs0 hp7 h2 b2 bW1 bW2 hPs hCs
  have hn8 := pads_length s.size
  have hlen := Lib.size_eq s
  obtain ⟨T, hT⟩ : ∃ z, z = (⟨(s.data.toList ++ pads s.size).toArray⟩ : ByteArray) := ⟨_, rfl⟩
  rw [← hT]
  have hTl : T.data.toList = s.data.toList ++ pads s.size := by rw [hT]
  have hTs : T.size = 8 * (s.size / 8 + 1) := by rw [Lib.size_eq T, hTl, List.length_append, ← hlen, hn8]; omega
  have hq : 8 * (s.size / 8 + 1) ≤ 9223372036854775800 := by have := hs.out; omega
  have hfeed := feed_pads ⟨a, b, c, d⟩ s.data.toList
  rw [← hlen, ← hTl] at hfeed
  obtain ⟨q, hqe⟩ : ∃ z, z = s.size / 8 + 1 := ⟨_, rfl⟩
  rw [← hqe] at hTs hq hfeed
  have hfeed := Lib.hid hfeed
  have hTs' := Lib.hid hTs
  have hT' := Lib.hid hT
  clear hn8 hlen hT hTl hqe hTs
  go_wp2_with fail
  go_loopw [10] (fun y wr => ∃ k : Nat, k ≤ q ∧ y = .int .i64 ((8 * k : Nat) : Int) ∧ Blk wr w0.heap.size 143 ⟨words (feed ⟨a, b, c, d⟩ k T.data.toList)⟩ ∧ Below w0.heap.size w0 wr) (fun y _ => 8 * q - (intOf y).toNat)
  case atStart => exact ⟨0, Nat.zero_le _, rfl, h3, b3⟩
  case round =>
    obtain ⟨k, hk, rfl, hr, hb⟩ := hrel
    clear h3 b3
    obtain ⟨fa, fb, fc, fd⟩ := feed_bd k ⟨a, b, c, d⟩ T.data.toList bd.out
    have hnx : feed ⟨a, b, c, d⟩ (k + 1) T.data.toList = take (feed ⟨a, b, c, d⟩ k T.data.toList) (word ((T.data.toList.drop (8 * k)).take 8)) := feed_succ _ _ _
    generalize hv : feed ⟨a, b, c, d⟩ k T.data.toList = v at hr fa fb fc fd hnx
    replace hv := Lib.hid hv
    by_cases hlt : k < q
    · obtain ⟨j, hj⟩ : ∃ z, z = 8 * k := ⟨_, rfl⟩
      have hjT : j + 8 ≤ T.size := by rw [hj, hTs'.out]; omega
      have hT63 : T.size ≤ 9223372036854775800 := by rw [hTs'.out]; exact hq
      have hw8 : word ((T.data.toList.drop j).take 8) < 18446744073709551616 := word8_lt _ (by rw [List.length_take]; omega)
      have kw : ∀ W : World, Calls Tryz.prog 105 #[.string (T.extract j (j + 8))] W fun e w' => e = .returned (.int .u64 (word ((T.data.toList.drop j).take 8) : Nat)) ∧ w' = W := by
        intro W
        have := rword_any (T.extract j (j + 8)) W (by rw [ByteArray.size_extract]; omega)
        rwa [Lib.extract_data, show j + 8 - j = 8 by omega] at this
      rw [← hj] at hnx ⊢
      generalize word ((T.data.toList.drop j).take 8) = m at hw8 kw hnx
      replace kw := Lib.hid kw
      replace hj := Lib.hid hj
      replace hnx := Lib.hid hnx
      replace hb := Lib.hid hb
      have m0 : wr.cell? ⟨w0.heap.size, 0, none⟩ = some (.int .u64 (v.a : Int)) := hr.cell 0
      have m1 : wr.cell? ⟨w0.heap.size, 1, none⟩ = some (.int .u64 (v.b : Int)) := hr.cell 1
      have m2 : wr.cell? ⟨w0.heap.size, 2, none⟩ = some (.int .u64 (v.c : Int)) := hr.cell 2
      have m3 : wr.cell? ⟨w0.heap.size, 3, none⟩ = some (.int .u64 (v.d : Int)) := hr.cell 3
      have f3 := hr.free 3
      obtain ⟨d1, hd1⟩ : ∃ z, z = uxor v.d m := ⟨_, rfl⟩
      have ed1 : bits .xor .u64 (v.d : Int) (m : Int) = (d1 : Int) := by rw [hd1]; exact uxor_eq _ _ fd hw8
      have ld1 : d1 < 18446744073709551616 := by rw [hd1]; exact uxor_lt _ _
      replace hd1 := Lib.hid hd1
      clear hk fd
      go_wp2_with fail
      refine (kw.out wr).mono ?_
      rintro e w5 ⟨rfl, rfl⟩
      go_wp2_with fail
      obtain ⟨w6, hw6⟩ : ∃ z, z = w5.setCell ⟨w0.heap.size, 3, none⟩ (.int .u64 (d1 : Int)) := ⟨_, rfl⟩
      rw [← hw6]
      have h6 : Blk w6 w0.heap.size 143 ⟨words ⟨v.a, v.b, v.c, d1⟩⟩ := by rw [hw6]; exact hr.put 3 _
      have b6 : Below w0.heap.size w0 w6 := by rw [hw6]; exact Below.setCell hb.out (Nat.le_refl _) _
      have r1 := rround_any ⟨v.a, v.b, v.c, d1⟩ w6 fa fb fc ld1
      have l1 := round_lt ⟨v.a, v.b, v.c, d1⟩
      clear hw6 m0 m1 m2 m3 f3 hr hb
      refine r1.mono ?_
      rintro e w7 ⟨rfl, b7⟩
      have h7 : Blk w7 w0.heap.size 143 ⟨words ⟨v.a, v.b, v.c, d1⟩⟩ := h6.below b7 h6.lt
      replace b7 : Below w0.heap.size w0 w7 := b6.trans (b7.mono b6.size)
      clear h6 b6 r1
      go_wp2_with fail
      have r2 := rround_any (round ⟨v.a, v.b, v.c, d1⟩) w7 l1.1 l1.2.1 l1.2.2.1 l1.2.2.2
      have l2 := round_lt (round ⟨v.a, v.b, v.c, d1⟩)
      have hz : take v m = ⟨uxor (round (round ⟨v.a, v.b, v.c, d1⟩)).a m, (round (round ⟨v.a, v.b, v.c, d1⟩)).b, (round (round ⟨v.a, v.b, v.c, d1⟩)).c, (round (round ⟨v.a, v.b, v.c, d1⟩)).d⟩ := by rw [hd1.out]; rfl
      generalize round (round ⟨v.a, v.b, v.c, d1⟩) = z at r2 l2 hz
      unfold vVal at r2 ⊢
      obtain ⟨a1, ha1⟩ : ∃ x, x = uxor z.a m := ⟨_, rfl⟩
      have ea1 : bits .xor .u64 (z.a : Int) (m : Int) = (a1 : Int) := by rw [ha1]; exact uxor_eq _ _ l2.1 hw8
      rw [← ha1] at hz
      replace hz := Lib.hid hz
      clear ha1
      refine r2.mono ?_
      rintro e w8 ⟨rfl, b8⟩
      have h8 : Blk w8 w0.heap.size 143 ⟨words ⟨v.a, v.b, v.c, d1⟩⟩ := h7.below b8 h7.lt
      replace b8 : Below w0.heap.size w0 w8 := b7.trans (b8.mono b7.size)
      have m0 : w8.cell? ⟨w0.heap.size, 0, none⟩ = some (.int .u64 (v.a : Int)) := h8.cell 0
      have m1 : w8.cell? ⟨w0.heap.size, 1, none⟩ = some (.int .u64 (v.b : Int)) := h8.cell 1
      have m2 : w8.cell? ⟨w0.heap.size, 2, none⟩ = some (.int .u64 (v.c : Int)) := h8.cell 2
      have m3 : w8.cell? ⟨w0.heap.size, 3, none⟩ = some (.int .u64 (d1 : Int)) := h8.cell 3
      have f0 := h8.free 0
      have f1 := h8.free 1
      have f2 := h8.free 2
      have f3 := h8.free 3
      clear h7 b7 r2
      replace h8 := Lib.hid h8
      replace b8 := Lib.hid b8
      go_wp2_with fail
      refine ⟨⟨k + 1, by omega, ?_, ?_, ?_⟩, ?_⟩
      · rw [hj.out]
        exact congrArg (Value.int IntKind.i64) (by omega)
      · rw [hnx.out, hz.out]
        exact ((((h8.out.put 0 _).put 1 _).put 2 _).put 3 _).put 0 _
      · exact Below.setCell (Below.setCell (Below.setCell (Below.setCell (Below.setCell b8.out (Nat.le_refl _) _) (Nat.le_refl _) _) (Nat.le_refl _) _) (Nat.le_refl _) _) (Nat.le_refl _) _
      · have := hj.out
        simp [intOf]
        omega
    · obtain rfl : k = q := by omega
      have hfin : finish (feed ⟨a, b, c, d⟩ (s.size / 8) s.data.toList) (word (s.data.toList.drop (8 * (s.size / 8))) + s.size % 256 * 72057594037927936) = bytes8 (fold4 (round (round (round (round ⟨v.a, v.b, uxor v.c 255, v.d⟩))))) := by
        have h := hfeed.out
        rw [hv.out] at h
        rw [h]
        rfl
      replace hfin := Lib.hid hfin
      clear hnx
      have hT : T.size = 8 * k := hTs'.out
      have m0 : wr.cell? ⟨w0.heap.size, 0, none⟩ = some (.int .u64 (v.a : Int)) := hr.cell 0
      have m1 : wr.cell? ⟨w0.heap.size, 1, none⟩ = some (.int .u64 (v.b : Int)) := hr.cell 1
      have m2 : wr.cell? ⟨w0.heap.size, 2, none⟩ = some (.int .u64 (v.c : Int)) := hr.cell 2
      have m3 : wr.cell? ⟨w0.heap.size, 3, none⟩ = some (.int .u64 (v.d : Int)) := hr.cell 3
      have f2 := hr.free 2
      obtain ⟨c1, hc1⟩ : ∃ z, z = uxor v.c 255 := ⟨_, rfl⟩
      have ec1 : bits .xor .u64 (v.c : Int) 255 = (c1 : Int) := by rw [hc1]; exact uxor_eq _ 255 fc (by decide)
      have lc1 : c1 < 18446744073709551616 := by rw [hc1]; exact uxor_lt _ _
      rw [← hc1] at hfin
      clear hc1
      replace hb := Lib.hid hb
      go_wp2_with fail
      obtain ⟨w5, hw5⟩ : ∃ z, z = wr.setCell ⟨w0.heap.size, 2, none⟩ (.int .u64 (c1 : Int)) := ⟨_, rfl⟩
      rw [← hw5]
      have h5 : Blk w5 w0.heap.size 143 ⟨words ⟨v.a, v.b, c1, v.d⟩⟩ := by rw [hw5]; exact hr.put 2 _
      have b5 : Below w0.heap.size w0 w5 := by rw [hw5]; exact Below.setCell hb.out (Nat.le_refl _) _
      clear hw5 m0 m1 m2 m3 f2 hr hb
      have r1 := rround_any ⟨v.a, v.b, c1, v.d⟩ w5 fa fb lc1 fd
      have l1 := round_lt ⟨v.a, v.b, c1, v.d⟩
      generalize hx1 : round ⟨v.a, v.b, c1, v.d⟩ = x1 at r1 l1
      refine r1.mono ?_
      rintro e w6 ⟨rfl, b6⟩
      have h6 := h5.below b6 h5.lt
      replace b6 : Below w0.heap.size w0 w6 := b5.trans (b6.mono b5.size)
      clear h5 b5 r1
      replace hx1 := Lib.hid hx1
      go_wp2_with fail
      have r2 := rround_any x1 w6 l1.1 l1.2.1 l1.2.2.1 l1.2.2.2
      have l2 := round_lt x1
      generalize hx2 : round x1 = x2 at r2 l2
      refine r2.mono ?_
      rintro e w7 ⟨rfl, b7⟩
      have h7 := h6.below b7 h6.lt
      replace b7 : Below w0.heap.size w0 w7 := b6.trans (b7.mono b6.size)
      clear h6 b6 r2
      replace hx2 := Lib.hid hx2
      go_wp2_with fail
      have r3 := rround_any x2 w7 l2.1 l2.2.1 l2.2.2.1 l2.2.2.2
      have l3 := round_lt x2
      generalize hx3 : round x2 = x3 at r3 l3
      refine r3.mono ?_
      rintro e w8 ⟨rfl, b8⟩
      have h8 := h7.below b8 h7.lt
      replace b8 : Below w0.heap.size w0 w8 := b7.trans (b8.mono b7.size)
      clear h7 b7 r3
      replace hx3 := Lib.hid hx3
      go_wp2_with fail
      have r4 := rround_any x3 w8 l3.1 l3.2.1 l3.2.2.1 l3.2.2.2
      have l4 := round_lt x3
      generalize hx4 : round x3 = x4 at r4 l4
      refine r4.mono ?_
      rintro e w9 ⟨rfl, b9⟩
      have h9 := h8.below b9 h8.lt
      replace b9 : Below w0.heap.size w0 w9 := b8.trans (b9.mono b8.size)
      clear h8 b8 r4
      replace hx4 := Lib.hid hx4
      unfold vVal
      have m0 : w9.cell? ⟨w0.heap.size, 0, none⟩ = some (.int .u64 (v.a : Int)) := h9.cell 0
      have m1 : w9.cell? ⟨w0.heap.size, 1, none⟩ = some (.int .u64 (v.b : Int)) := h9.cell 1
      have m2 : w9.cell? ⟨w0.heap.size, 2, none⟩ = some (.int .u64 (c1 : Int)) := h9.cell 2
      have m3 : w9.cell? ⟨w0.heap.size, 3, none⟩ = some (.int .u64 (v.d : Int)) := h9.cell 3
      have f0 := h9.free 0
      have f1 := h9.free 1
      have f2 := h9.free 2
      have f3 := h9.free 3
      replace h9 := Lib.hid h9
      replace b9 := Lib.hid b9
      obtain ⟨x, hx⟩ : ∃ z, z = fold4 x4 := ⟨_, rfl⟩
      have y1 := uxor_eq x4.a x4.b l4.1 l4.2.1
      have y2 := uxor_eq (uxor x4.a x4.b) x4.c (uxor_lt _ _) l4.2.2.1
      have y3 : bits .xor .u64 ((uxor (uxor x4.a x4.b) x4.c : Nat) : Int) (x4.d : Int) = (x : Int) := by rw [hx]; exact uxor_eq (uxor (uxor x4.a x4.b) x4.c) x4.d (uxor_lt _ _) l4.2.2.2
      have hxl : x < 18446744073709551616 := by rw [hx]; exact uxor_lt _ _
      have hfx : finish (feed ⟨a, b, c, d⟩ (s.size / 8) s.data.toList) (word (s.data.toList.drop (8 * (s.size / 8))) + s.size % 256 * 72057594037927936) = bytes8 x := by
        rw [hfin.out, hx1.out, hx2.out, hx3.out, hx4.out, hx]
      replace hfx := Lib.hid hfx
      clear hx l1 l2 l3 l4
      go_wp2_with fail
      obtain ⟨w10, hw⟩ : ∃ z, z = ((((w9.setCell ⟨w0.heap.size, 0, none⟩ (.int .u64 (x4.a : Int))).setCell ⟨w0.heap.size, 1, none⟩ (.int .u64 (x4.b : Int))).setCell ⟨w0.heap.size, 2, none⟩ (.int .u64 (x4.c : Int))).setCell ⟨w0.heap.size, 3, none⟩ (.int .u64 (x4.d : Int))) := ⟨_, rfl⟩
      have hs10 : w9.heap.size = w10.heap.size := by rw [hw]; simp [World.setCell]
      rw [← hw, hs10]
      have b10 : Below w0.heap.size w0 w10 := by rw [hw]; exact Below.setCell (Below.setCell (Below.setCell (Below.setCell b9.out (Nat.le_refl _) _) (Nat.le_refl _) _) (Nat.le_refl _) _) (Nat.le_refl _) _
      have o10 : (w10.alloc (.cells #[] 5)).ownsRow w0.heap.size 5 1 (.slice (some ⟨w10.heap.size, 0, none⟩) 0 0) 0 (Lib.byteCells ((bytes8 x).take 0)) := World.ownsRow_made w10 #[] 0 b10.size (by decide) rfl
      have b11 : Below w0.heap.size w0 (w10.alloc (.cells #[] 5)) := b10.alloc b10.size _
      clear hw hs10 b10 m0 m1 m2 m3 f0 f1 f2 f3 y1 y2 y3 hT
      obtain ⟨i0, hi, hz0, hz1, hz2⟩ := info_parts infoByte
      go_loopw [12, 13, 14] (fun y bv i wq => ∃ (j xx : Nat), j ≤ 8 ∧ xx < 18446744073709551616 ∧ xx = x / 256 ^ j ∧ y = .int .u64 (xx : Int) ∧ i = .int .i64 (j : Int) ∧ wq.ownsRow w0.heap.size 5 1 bv j (Lib.byteCells ((bytes8 x).take j)) ∧ Below w0.heap.size w0 wq) (fun _ _ i _ => 8 - (intOf i).toNat)
      case atStart => exact ⟨0, x, by omega, hxl, by simp, rfl, rfl, o10, b11⟩
      case round =>
        obtain ⟨j, xx, hj8, hxx, hxe, rfl, rfl, hown, hb⟩ := hrel
        clear o10 b11
        replace hxe := Lib.hid hxe
        have hlw : w0.heap.size ≤ wr.heap.size := hb.size
        by_cases hlt : j < 8
        · go_wp2_with (first
            | (at_builtin; refine wpList_append_own _ rfl (.tmp 98) (.tmp 102) _ rfl w0.heap.size 5 i0 (.int .u8 0) 1 1 Tryz.underlying72 hi hz0 hz1 hz2 rfl (by decide) u13 j _ rfl (hown.alloc _) ⟨wr.heap.size, 0, none⟩ 1 1 [.int .u8 ((xx : Int) % 256)] rfl rfl (cell_one_new _ _ _) (by simp [Value.oneCell']) (by unfold maxLen; omega) (by omega) (by simp; omega) ?_; intro v1 w11 hown1 hg1 hn1))
          refine ⟨⟨j + 1, xx / 256, by omega, by omega, ?_, rfl, rfl, ?_, ?_⟩, ?_⟩
          · rw [hxe.out, Nat.div_div_eq_div_mul, Nat.pow_succ]
          · rw [bytes8_take x j hlt, ← hxe.out, Lib.byteCells_append, byte_of]
            exact hown1
          · exact (hb.alloc hlw _).grown hg1 (by simp; omega) (fun k hk => (hown.lt k hk).1)
          · simp [intOf]; omega
        · obtain rfl : j = 8 := by omega
          have ht8 : (bytes8 x).take 8 = bytes8 x := List.take_of_length_le (by simp [bytes8])
          rw [ht8] at hown
          obtain ⟨g, cap, rfl, _, _⟩ := hown.form (by omega)
          have hl8 : (bytes8 x).length = 8 := by simp [bytes8]
          have hcv := run_convert_bytes_back (P := Tryz.prog) wr 72 9 5 ⟨g, 0, none⟩ cap (bytes8 x) Tryz.underlying72 Tryz.underlying5 Tryz.underlying9 (fun j hj => hown.cells (g := g) rfl j _ (by simp [Lib.byteCells, List.getElem?_eq_getElem hj]))
          rw [hl8] at hcv
          clear ht8 hl8 hown
          go_wp2_with fail
          go_ret2
          rw [hfx.out]
          exact ⟨rfl, hb⟩
end Go.Proofs.YtkghlbpkdkonbaaGreat.Sip

/- A root of a sector. -/
import Derived.Test.YtkghlbpkdkonbaaGreatBlkWalkB
namespace Go.Proofs.YtkghlbpkdkonbaaGreat.Vl
open Go Go.RowKit Go.Maps Mem Disk Nv
set_option maxRecDepth 100000 in
theorem results_cell1 {P : Program} {fn : Func} {p : Tmp} {ty : TypeId} (h : fn.results = #[.cell p ty]) (tmps : Array Value) {w : World} {g : Nat} {t : TypeId} {cs : Array Value} (hB : Blk w g t cs) {d : TypeDesc}
    (hp : tmps.getD p undef = .pointer (some ⟨g, 0, none⟩)) (hu : P.underlying ty = some d) (hd : (match d with | .struct _ | .array _ _ => true | _ => false) = true) (hi : (P.info? ty).map (·.size) = some cs.size) :
    (results fn tmps).run P w = .ok (.agg cs) w := results_cell_row h tmps w g t cs (0, 0) d hp hB hu hd hi
set_option maxRecDepth 100000 in
theorem idx_get {s : ByteArray} {i : Nat} {c : UInt8} (h : s.data.toList[i]? = some c) (hi : i < s.size) : s[i] = c := by
  have : s.data.toList[i]? = some s[i] := by rw [Array.getElem?_toList]; exact Array.getElem?_eq_getElem hi
  rw [this] at h
  exact Option.some.inj h
set_option maxRecDepth 100000 in
set_option maxHeartbeats 16000000 in
theorem parse_any (s : ByteArray) (p : Nat) (hs : s.size = 64) (w : World) : Calls Tryz.prog 62 #[.string s, .int .i64 (p : Int)] w fun e w' => e = .returned (.agg #[.string (parseV s p).1, .int .i64 ((parseV s p).2 : Int)]) ∧ Below w.heap.size w w' := by
  obtain ⟨U, hU⟩ : ∃ U, U = parseV s p := ⟨_, rfl⟩
  rw [← hU]
  obtain ⟨c8, h8⟩ : ∃ c8, s.data.toList[8]? = some c8 := ⟨_, List.getElem?_eq_getElem (by show 8 < s.size; omega)⟩
  have i8 := idx_get h8 (by omega)
  have hl : lenR s = c8.toNat := by unfold lenR; rw [h8]; rfl
  have hw8 : wrap64 (c8.toNat : Int) = ((lenR s : Nat) : Int) := by rw [hl]; have := c8.toNat_lt; unfold wrap64; omega
  have bd0 : ∀ W, (Instr.build 65 #[]).run Tryz.prog W = .ok (.agg #[.string ⟨#[]⟩, .int .i64 0]) W := fun W => run_build W _ _ _ (by kernel_rfl)
  obtain ⟨W0, hW0⟩ : ∃ W0, W0 = w.alloc (.cells #[.string ⟨#[]⟩, .int .i64 0] 65) := ⟨_, rfl⟩
  have B0 : Blk W0 w.heap.size 65 #[.string ⟨#[]⟩, .int .i64 0] := by rw [hW0]; exact Blk.new w _ _
  have b0 : Below w.heap.size w W0 := by rw [hW0]; exact (Below.refl _ w).alloc (Nat.le_refl _) _
  have hlt0 := B0.lt
  by_cases h40 : 40 < lenR s
  · have q1 : decide (40 < ((lenR s : Nat) : Int)) = true := decide_eq_true (by omega)
    have e1 : U = (⟨#[]⟩, 0) := hU.trans (if_pos h40)
    generalize lenR s = n at hw8 q1
    have x0 := B0.cell 0
    have x1 := B0.cell 1
    have f0 := B0.free 0
    have f1 := B0.free 1
    replace hU := Lib.hid hU
    replace e1 := Lib.hid e1
    replace B0 := Lib.hid B0
    replace b0 := Lib.hid b0
    clear h40 hl
    go_enter Tryz.func62, Tryz.ntmps62
    go_upto_region 1 with fail
    rw [← hW0]
    clear hW0
    go_upto_region 2 with fail
    rw [hw8]
    go_wp2_with fail
    have B2 := (B0.out.put 0 (.string ⟨#[]⟩)).put 1 (.int .i64 0)
    have b2 : Below w.heap.size w ((W0.setCell ⟨w.heap.size, 0, none⟩ (.string ⟨#[]⟩)).setCell ⟨w.heap.size, 1, none⟩ (.int .i64 0)) := (b0.out.setCell (p := ⟨w.heap.size, 0, none⟩) (Nat.le_refl _) _).setCell (p := ⟨w.heap.size, 1, none⟩) (Nat.le_refl _) _
    refine bodyPost_ret (results_cell1 rfl _ B2 rfl Tryz.underlying65 rfl (by kernel_rfl)) rfl ⟨by rw [e1.out]; rfl, b2⟩
  · have q1 : decide (40 < ((lenR s : Nat) : Int)) = false := decide_eq_false (by omega)
    have hU2 : U = if 1 ≤ numR s ∧ numR s ≤ 1099511627776 ∧ numR s % 2 = p ∧ rootB (textR s) (numR s) = s then (textR s, numR s) else (⟨#[]⟩, 0) := hU.trans (if_neg h40)
    have ht : (textR s).size ≤ 40 := by unfold textR; rw [ByteArray.size_extract]; omega
    have htx : textR s = s.extract 9 (9 + lenR s) := rfl
    have ksec := fun W => rootsec_any (textR s) (numR s) ht W
    have hnv : numR s = valL ((s.data.toList.drop 2).take 6) := by
      unfold numR val
      rw [ByteArray.data_extract, Array.toList_extract, List.extract_eq_take_drop]
    have hlt6 : numR s < 281474976710656 := by
      have := val_lt (s := s.extract 2 8) (n := 6) (by rw [ByteArray.size_extract]; omega)
      exact this
    generalize lenR s = n at hw8 q1 htx h40
    obtain ⟨X, hX⟩ : ∃ X, X = textR s := ⟨_, rfl⟩
    rw [← hX] at htx ht hU2 ksec
    obtain ⟨M, hM⟩ : ∃ M, M = numR s := ⟨_, rfl⟩
    rw [← hM] at hnv hU2 ksec hlt6
    have bd1 : ∀ W, (Instr.build 65 #[(0, .string X)]).run Tryz.prog W = .ok (.agg #[.string X, .int .i64 0]) W := fun W => run_build W _ _ _ (by kernel_rfl)
    obtain ⟨W1, hW1⟩ : ∃ W1, W1 = W0.alloc (.cells #[.string X, .int .i64 0] 65) := ⟨_, rfl⟩
    have B1' : Blk W1 W0.heap.size 65 #[.string X, .int .i64 0] := by rw [hW1]; exact Blk.new W0 _ _
    have B0' : Blk W1 w.heap.size 65 #[.string ⟨#[]⟩, .int .i64 0] := by rw [hW1]; exact B0.alloc _
    have b1' : Below w.heap.size w W1 := by rw [hW1]; exact b0.alloc b0.size _
    have ug : w.heap.size < W0.heap.size := hlt0
    replace hU := Lib.hid hU
    replace hU2 := Lib.hid hU2
    replace htx := htx.symm
    replace hX := Lib.hid hX
    replace hM := Lib.hid hM
    replace hnv := Lib.hid hnv
    replace ksec := Lib.hid ksec
    replace B1' := Lib.hid B1'
    replace B0' := Lib.hid B0'
    replace b1' := Lib.hid b1'
    replace ht := Lib.hid ht
    clear B0 b0
    go_enter Tryz.func62, Tryz.ntmps62
    go_upto_region 1 with fail
    rw [← hW0]
    replace hW0 := Lib.hid hW0
    go_upto_region 2 with fail
    rw [hw8]
    go_upto_region 5 with fail
    rw [← hW1]
    clear htx hW1 bd1 hw8 q1
    generalize W0.heap.size = g at *
    go_wp2_with fail
    go_loopw [19] (fun i wr => ∃ k : Nat, k ≤ 6 ∧ i = .int .i64 (k : Int) ∧ Blk wr g 65 #[.string X, .int .i64 (valL ((s.data.toList.drop 2).take k) : Nat)] ∧ Blk wr w.heap.size 65 #[.string ⟨#[]⟩, .int .i64 0] ∧ Below w.heap.size w wr) (fun i _ => 6 - (intOf i).toNat)
    case atStart => exact ⟨0, Nat.zero_le _, rfl, B1'.out, B0'.out, b1'.out⟩
    case round =>
      clear B1' B0' b1' W1
      obtain ⟨k, hk, rfl, B1, B0, hb⟩ := hrel
      by_cases hlt : k < 6
      · obtain ⟨c, hc⟩ : ∃ c, s.data.toList[2 + k]? = some c := ⟨_, List.getElem?_eq_getElem (by show 2 + k < s.size; omega)⟩
        have ik := idx_get hc (by omega)
        have hc2 : (s.data.toList.drop 2)[k]? = some c := by rw [List.getElem?_drop]; exact hc
        have hl8 : ((s.data.toList.drop 2).take k).length = k := by
          have hsz : s.data.toList.length = 64 := hs
          rw [List.length_take, List.length_drop]; omega
        have hstep : valL ((s.data.toList.drop 2).take (k + 1)) = valL ((s.data.toList.drop 2).take k) + 256 ^ k * c.toNat := by
          rw [List.take_add_one, hc2]
          simp only [Option.toList]
          rw [valL_snoc, hl8]
        have hwl : valL ((s.data.toList.drop 2).take k) < 256 ^ k := by have := valL_lt ((s.data.toList.drop 2).take k); rwa [hl8] at this
        have hor := or_byte' (valL ((s.data.toList.drop 2).take k)) c.toNat k hwl (by omega) c.toNat_lt
        rw [← hstep] at hor
        have B1n : Blk (wr.setCell ⟨g, 1, none⟩ (.int .i64 (valL ((s.data.toList.drop 2).take (k + 1)) : Nat))) g 65 #[.string X, .int .i64 (valL ((s.data.toList.drop 2).take (k + 1)) : Nat)] := B1.put 1 _
        have B0n : Blk (wr.setCell ⟨g, 1, none⟩ (.int .i64 (valL ((s.data.toList.drop 2).take (k + 1)) : Nat))) w.heap.size 65 #[.string ⟨#[]⟩, .int .i64 0] := B0.far (p := ⟨g, 1, none⟩) (by show w.heap.size ≠ g; omega) _
        have hbn : Below w.heap.size w (wr.setCell ⟨g, 1, none⟩ (.int .i64 (valL ((s.data.toList.drop 2).take (k + 1)) : Nat))) := hb.setCell (p := ⟨g, 1, none⟩) (Nat.le_of_lt ug) _
        have z1 := B1.cell 1
        have f1 := B1.free 1
        have fin : ∃ k' : Nat, k' ≤ 6 ∧ Value.int .i64 ((k : Int) + 1) = .int .i64 (k' : Int) ∧ Blk (wr.setCell ⟨g, 1, none⟩ (.int .i64 (valL ((s.data.toList.drop 2).take (k + 1)) : Nat))).drew g 65 #[.string X, .int .i64 (valL ((s.data.toList.drop 2).take k') : Nat)] ∧ Blk (wr.setCell ⟨g, 1, none⟩ (.int .i64 (valL ((s.data.toList.drop 2).take (k + 1)) : Nat))).drew w.heap.size 65 #[.string ⟨#[]⟩, .int .i64 0] ∧ Below w.heap.size w (wr.setCell ⟨g, 1, none⟩ (.int .i64 (valL ((s.data.toList.drop 2).take (k + 1)) : Nat))).drew := ⟨k + 1, hlt, rfl, B1n, B0n, hbn.drew⟩
        generalize valL ((s.data.toList.drop 2).take (k + 1)) = v1 at hor fin
        generalize valL ((s.data.toList.drop 2).take k) = v0 at hor z1
        replace fin := Lib.hid fin
        replace hor := Lib.hid hor
        have hk8 : k = 0 ∨ k = 1 ∨ k = 2 ∨ k = 3 ∨ k = 4 ∨ k = 5 := by omega
        clear B1 B0 hb hc hc2 hl8 hstep hwl B1n B0n hbn
        have one : ∀ (x : Int), bits .or .i64 (v0 : Int) x = (v1 : Int) → True := fun _ _ => trivial
        clear one
        rcases hk8 with rfl | rfl | rfl | rfl | rfl | rfl
        · have hor' : bits .or .i64 (v0 : Int) (wrap64 (wrap64 (c.toNat : Int))) = (v1 : Int) := by
            have := hor.out
            rwa [show ((256 ^ 0 : Nat) : Int) = 1 from rfl, Int.mul_one] at this
          go_wp2_with fail
          go_region
          go_wp2_with fail
          exact ⟨fin.out, by simp [intOf]⟩
        · have hor' : bits .or .i64 (v0 : Int) (wrap64 (wrap64 (c.toNat : Int) * 256)) = (v1 : Int) := hor.out
          go_wp2_with fail
          go_region
          go_wp2_with fail
          exact ⟨fin.out, by simp [intOf]⟩
        · have hor' : bits .or .i64 (v0 : Int) (wrap64 (wrap64 (c.toNat : Int) * 65536)) = (v1 : Int) := hor.out
          go_wp2_with fail
          go_region
          go_wp2_with fail
          exact ⟨fin.out, by simp [intOf]⟩
        · have hor' : bits .or .i64 (v0 : Int) (wrap64 (wrap64 (c.toNat : Int) * 16777216)) = (v1 : Int) := hor.out
          go_wp2_with fail
          go_region
          go_wp2_with fail
          exact ⟨fin.out, by simp [intOf]⟩
        · have hor' : bits .or .i64 (v0 : Int) (wrap64 (wrap64 (c.toNat : Int) * 4294967296)) = (v1 : Int) := hor.out
          go_wp2_with fail
          go_region
          go_wp2_with fail
          exact ⟨fin.out, by simp [intOf]⟩
        · have hor' : bits .or .i64 (v0 : Int) (wrap64 (wrap64 (c.toNat : Int) * 1099511627776)) = (v1 : Int) := hor.out
          go_wp2_with fail
          go_region
          go_wp2_with fail
          exact ⟨fin.out, by simp [intOf]⟩
      · obtain rfl : k = 6 := by omega
        rw [← hnv.out] at B1
        have z0 := B1.cell 0
        have z1 := B1.cell 1
        have tm1 : (M : Int).tmod 2 = ((M % 2 : Nat) : Int) := rfl
        have tm2 : (M : Int) % 2 = ((M % 2 : Nat) : Int) := by omega
        by_cases h1 : M < 1
        · have hno : ¬ (1 ≤ M ∧ M ≤ 1099511627776 ∧ M % 2 = p ∧ rootB X M = s) := fun hh => by omega
          have q2 : decide ((M : Int) < 1) = true := decide_eq_true (by omega)
          have e1 := Lib.hid (hU2.out.trans (if_neg hno))
          have x0 := B0.cell 0
          have x1 := B0.cell 1
          have f0 := B0.free 0
          have f1 := B0.free 1
          have B2 : Blk ((wr.setCell ⟨w.heap.size, 0, none⟩ (.string ⟨#[]⟩)).setCell ⟨w.heap.size, 1, none⟩ (.int .i64 0)) w.heap.size 65 #[.string ⟨#[]⟩, .int .i64 0] := (B0.put 0 (.string ⟨#[]⟩)).put 1 (.int .i64 0)
          have b2 : Below w.heap.size w ((wr.setCell ⟨w.heap.size, 0, none⟩ (.string ⟨#[]⟩)).setCell ⟨w.heap.size, 1, none⟩ (.int .i64 0)) := (hb.setCell (p := ⟨w.heap.size, 0, none⟩) (Nat.le_refl _) _).setCell (p := ⟨w.heap.size, 1, none⟩) (Nat.le_refl _) _
          replace B2 := Lib.hid B2
          replace b2 := Lib.hid b2
          clear B1 B0 hb hno h1 tm1 tm2
          go_wp2_with fail
          refine bodyPost_ret (results_cell1 rfl _ B2.out rfl Tryz.underlying65 rfl (by kernel_rfl)) rfl ⟨by rw [e1.out]; rfl, b2.out⟩
        have q2 : decide ((M : Int) < 1) = false := decide_eq_false (by omega)
        by_cases h2 : 1099511627776 < M
        · have hno : ¬ (1 ≤ M ∧ M ≤ 1099511627776 ∧ M % 2 = p ∧ rootB X M = s) := fun hh => by omega
          have q3 : decide (1099511627776 < (M : Int)) = true := decide_eq_true (by omega)
          have e1 := Lib.hid (hU2.out.trans (if_neg hno))
          have x0 := B0.cell 0
          have x1 := B0.cell 1
          have f0 := B0.free 0
          have f1 := B0.free 1
          have B2 : Blk ((wr.setCell ⟨w.heap.size, 0, none⟩ (.string ⟨#[]⟩)).setCell ⟨w.heap.size, 1, none⟩ (.int .i64 0)) w.heap.size 65 #[.string ⟨#[]⟩, .int .i64 0] := (B0.put 0 (.string ⟨#[]⟩)).put 1 (.int .i64 0)
          have b2 : Below w.heap.size w ((wr.setCell ⟨w.heap.size, 0, none⟩ (.string ⟨#[]⟩)).setCell ⟨w.heap.size, 1, none⟩ (.int .i64 0)) := (hb.setCell (p := ⟨w.heap.size, 0, none⟩) (Nat.le_refl _) _).setCell (p := ⟨w.heap.size, 1, none⟩) (Nat.le_refl _) _
          replace B2 := Lib.hid B2
          replace b2 := Lib.hid b2
          clear B1 B0 hb hno h2 tm1 tm2
          go_wp2_with fail
          refine bodyPost_ret (results_cell1 rfl _ B2.out rfl Tryz.underlying65 rfl (by kernel_rfl)) rfl ⟨by rw [e1.out]; rfl, b2.out⟩
        have q3 : decide (1099511627776 < (M : Int)) = false := decide_eq_false (by omega)
        by_cases h3 : M % 2 = p
        · have q4 : (((M % 2 : Nat) : Int) != (p : Int)) = false := by simp [h3]
          have hgl := B1.lt
          have hwl := B0.lt
          have hk := hU2.out
          rw [← h3] at hk
          obtain ⟨T, hT⟩ : ∃ T, T = rootB X M := ⟨_, rfl⟩
          rw [← hT] at ksec
          replace hT := Lib.hid hT
          by_cases h4 : rootB X M = s
          · have e1 := Lib.hid (hU2.out.trans (if_pos ⟨by omega, by omega, h3, h4⟩))
            have t3 : (T.toList == s.toList) = true := by rw [hT.out, h4]; exact beq_self_eq_true _
            generalize M % 2 = m2 at *
            clear h3 h4 hk
            replace B1 := Lib.hid B1
            replace B0 := Lib.hid B0
            replace hb := Lib.hid hb
            go_wp2_with fail
            refine (ksec.out _).mono ?_
            rintro e w2 ⟨rfl, hb2⟩
            have B1 := B1.out.below hb2 hgl
            have B0 := B0.out.below hb2 hwl
            have hb := hb.out.trans (hb2.mono hb.out.size)
            have z0 := B1.cell 0
            have z1 := B1.cell 1
            have x0 := B0.cell 0
            have x1 := B0.cell 1
            have f0 := B0.free 0
            have f1 := B0.free 1
            have B2 : Blk ((w2.setCell ⟨w.heap.size, 0, none⟩ (.string X)).setCell ⟨w.heap.size, 1, none⟩ (.int .i64 (M : Int))) w.heap.size 65 #[.string X, .int .i64 (M : Int)] := (B0.put 0 (.string X)).put 1 (.int .i64 (M : Int))
            have b2 : Below w.heap.size w ((w2.setCell ⟨w.heap.size, 0, none⟩ (.string X)).setCell ⟨w.heap.size, 1, none⟩ (.int .i64 (M : Int))) := (hb.setCell (p := ⟨w.heap.size, 0, none⟩) (Nat.le_refl _) _).setCell (p := ⟨w.heap.size, 1, none⟩) (Nat.le_refl _) _
            replace B2 := Lib.hid B2
            replace b2 := Lib.hid b2
            clear B1 B0 hb hb2
            go_wp2_with fail
            refine bodyPost_ret (results_cell1 rfl _ B2.out rfl Tryz.underlying65 rfl (by kernel_rfl)) rfl ⟨by rw [e1.out], b2.out⟩
          · have hno : ¬ (1 ≤ M ∧ M ≤ 1099511627776 ∧ M % 2 = p ∧ rootB X M = s) := fun hh => h4 hh.2.2.2
            have e1 := Lib.hid (hU2.out.trans (if_neg hno))
            have t3 : (T.toList == s.toList) = false := by
              rw [beq_eq_false_iff_ne]
              exact fun e => h4 (hT.out.symm.trans (bytes_inj e))
            generalize M % 2 = m2 at *
            clear h3 h4 hk hno
            replace B1 := Lib.hid B1
            replace B0 := Lib.hid B0
            replace hb := Lib.hid hb
            go_wp2_with fail
            refine (ksec.out _).mono ?_
            rintro e w2 ⟨rfl, hb2⟩
            have B0 := B0.out.below hb2 hwl
            have hb := hb.out.trans (hb2.mono hb.out.size)
            have x0 := B0.cell 0
            have x1 := B0.cell 1
            have f0 := B0.free 0
            have f1 := B0.free 1
            have B2 : Blk ((w2.setCell ⟨w.heap.size, 0, none⟩ (.string ⟨#[]⟩)).setCell ⟨w.heap.size, 1, none⟩ (.int .i64 0)) w.heap.size 65 #[.string ⟨#[]⟩, .int .i64 0] := (B0.put 0 (.string ⟨#[]⟩)).put 1 (.int .i64 0)
            have b2 : Below w.heap.size w ((w2.setCell ⟨w.heap.size, 0, none⟩ (.string ⟨#[]⟩)).setCell ⟨w.heap.size, 1, none⟩ (.int .i64 0)) := (hb.setCell (p := ⟨w.heap.size, 0, none⟩) (Nat.le_refl _) _).setCell (p := ⟨w.heap.size, 1, none⟩) (Nat.le_refl _) _
            replace B2 := Lib.hid B2
            replace b2 := Lib.hid b2
            clear B0 hb hb2
            go_wp2_with fail
            refine bodyPost_ret (results_cell1 rfl _ B2.out rfl Tryz.underlying65 rfl (by kernel_rfl)) rfl ⟨by rw [e1.out]; rfl, b2.out⟩
        · have hno : ¬ (1 ≤ M ∧ M ≤ 1099511627776 ∧ M % 2 = p ∧ rootB X M = s) := fun hh => h3 hh.2.2.1
          have q4 : (((M % 2 : Nat) : Int) != (p : Int)) = true := bne_iff_ne.2 (by omega)
          have e1 := Lib.hid (hU2.out.trans (if_neg hno))
          have x0 := B0.cell 0
          have x1 := B0.cell 1
          have f0 := B0.free 0
          have f1 := B0.free 1
          have B2 : Blk ((wr.setCell ⟨w.heap.size, 0, none⟩ (.string ⟨#[]⟩)).setCell ⟨w.heap.size, 1, none⟩ (.int .i64 0)) w.heap.size 65 #[.string ⟨#[]⟩, .int .i64 0] := (B0.put 0 (.string ⟨#[]⟩)).put 1 (.int .i64 0)
          have b2 : Below w.heap.size w ((wr.setCell ⟨w.heap.size, 0, none⟩ (.string ⟨#[]⟩)).setCell ⟨w.heap.size, 1, none⟩ (.int .i64 0)) := (hb.setCell (p := ⟨w.heap.size, 0, none⟩) (Nat.le_refl _) _).setCell (p := ⟨w.heap.size, 1, none⟩) (Nat.le_refl _) _
          replace B2 := Lib.hid B2
          replace b2 := Lib.hid b2
          generalize M % 2 = m2 at *
          clear B1 B0 hb hno h3
          go_wp2_with fail
          refine bodyPost_ret (results_cell1 rfl _ B2.out rfl Tryz.underlying65 rfl (by kernel_rfl)) rfl ⟨by rw [e1.out]; rfl, b2.out⟩
end Go.Proofs.YtkghlbpkdkonbaaGreat.Vl

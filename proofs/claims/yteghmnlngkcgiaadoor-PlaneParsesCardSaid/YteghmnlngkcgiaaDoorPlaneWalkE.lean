/- Planes: the document's map: New, Parse, has, Plane, Used, Free. -/
import Derived.Test.YteghmnlngkcgiaaDoorPlaneSpecB
namespace Go.Proofs.YteghmnlngkcgiaaDoor.Planes
open Go.RowKit Mem Sets

/-- the document's map at g: its bytes lie in block b -/
def RMap (w : World) (g b : Nat) (D : List UInt8) : Prop :=
  ∃ c, Blk w g 53 #[.slice (some ⟨b, 0, none⟩) D.length c] ∧ Row w (some ⟨b, 0, none⟩) D.length (cellsOf D) ∧ b ≠ g ∧ b < w.heap.size
section
variable {w w' : World} {g b : Nat} {D : List UInt8}
theorem RMap.lt (h : RMap w g b D) : g < w.heap.size ∧ b < w.heap.size := by
  obtain ⟨c, h1, _, _, h2⟩ := h
  exact ⟨h1.lt, h2⟩
theorem RMap.below (h : RMap w g b D) (k : Below w.heap.size w w') : RMap w' g b D := by
  obtain ⟨c, h1, h2, h3, h4⟩ := h
  exact ⟨c, h1.below k h1.lt, h2.below k, h3, Nat.lt_of_lt_of_le h4 k.size⟩
theorem RMap.grown {row : Option Nat} (h : RMap w g b D) (k : w.grownBy w' row) (hg : some g ≠ row) (hb : some b ≠ row) : RMap w' g b D := by
  obtain ⟨c, h1, h2, h3, h4⟩ := h
  exact ⟨c, h1.grown k hg, h2.grown k (fun ad e => by injection e with e; subst e; exact hb), h3, Nat.lt_of_lt_of_le h4 k.size⟩
theorem RMap.byte (h : RMap w g b D) {i : Nat} (hi : i < D.length) : w.cell? ⟨b, i, none⟩ = some (.int .u8 ((byteAt D i).toNat : Int)) := by
  obtain ⟨c, _, h2, _⟩ := h
  obtain ⟨ad, ha, hc⟩ := h2.2 i (.int .u8 ((byteAt D i).toNat : Int)) (by rw [cellsOf, List.getElem?_map, byteAt, List.getElem?_eq_getElem hi]; rfl)
  injection ha with ha
  subst ha
  rw [add_lit, Nat.zero_add] at hc
  exact hc
end

theorem ris_any (p : Int) (w : World) (hp : p ≤ 9223372036854775807) : Calls Tryd.prog 45 #[.int .i64 p] w fun e w' => e = .returned (.bool (isP p)) ∧ w' = w := by
  by_cases h : isP p = true
  · rw [h]
    obtain ⟨h0, h8⟩ := isP_iff.1 h
    have d0 : decide (0 ≤ p) = true := decide_eq_true h0
    have h7 : p ≤ 7 := by omega
    have d7 : decide (p ≤ 7) = true := decide_eq_true h7
    clear h h8
    go_enter Tryd.func45, Tryd.ntmps45
    go_wp2_with fail
    go_ret
    exact ⟨rfl, rfl⟩
  · have h' : isP p = false := by simpa using h
    rw [h']
    by_cases h0 : 0 ≤ p
    · have h7 : ¬ p ≤ 7 := fun h7 => h (isP_iff.2 (by omega))
      have d0 : decide (0 ≤ p) = true := decide_eq_true h0
      have d7 : decide (p ≤ 7) = false := decide_eq_false h7
      clear h h' 
      go_enter Tryd.func45, Tryd.ntmps45
      go_wp2_with fail
      go_ret
      exact ⟨rfl, rfl⟩
    · have d0 : decide (0 ≤ p) = false := decide_eq_false h0
      clear h h'
      go_enter Tryd.func45, Tryd.ntmps45
      go_wp2_with fail
      go_ret
      exact ⟨rfl, rfl⟩
theorem zeros_cells (B : Nat) : (⟨cellsOf (List.replicate B 0)⟩ : Array Value) = zeros B := by
  rw [cellsOf, zeros]
  simp
theorem row_of_blk {w : World} {b : Nat} {t : TypeId} {l : List Value} (h : Blk w b t ⟨l⟩) : Row w (some ⟨b, 0, none⟩) l.length l :=
  ⟨rfl, fun k u hu => ⟨_, rfl, by rw [add_lit, Nat.zero_add, h.cell]; simpa using hu⟩⟩
theorem cellsOf_length (l : List UInt8) : (cellsOf l).length = l.length := by simp [cellsOf]

set_option maxRecDepth 100000 in
set_option maxHeartbeats 1000000 in
theorem rnew_bad (B : Int) (w : World) (h : okB B = false) :
    Calls Tryd.prog 10 #[.int .i64 B] w fun e w' => e = .returned (.tuple #[.pointer none, .int .i64 90]) ∧ w' = w := by
  by_cases h1 : B < 8
  · have d1 : decide (B < 8) = true := decide_eq_true h1
    clear h
    go_enter Tryd.func10, Tryd.ntmps10
    go_wp2_with fail
    go_ret2
    exact ⟨rfl, rfl⟩
  · have d1 : decide (B < 8) = false := decide_eq_false h1
    have h2 : 4096 < B := Classical.byContradiction fun h2 => by
      rw [okB_iff.2 (by omega)] at h
      cases h
    have d2 : decide (4096 < B) = true := decide_eq_true h2
    clear h
    go_enter Tryd.func10, Tryd.ntmps10
    go_wp2_with fail
    go_ret2
    exact ⟨rfl, rfl⟩
set_option maxRecDepth 100000 in
set_option maxHeartbeats 1000000 in
theorem rnew_ok (B : Nat) (w : World) (h : 8 ≤ B ∧ B ≤ 4096) :
    Calls Tryd.prog 10 #[.int .i64 (B : Int)] w fun e w' => ∃ g b, e = .returned (.tuple #[.pointer (some ⟨g, 0, none⟩), .int .i64 0]) ∧ RMap w' g b (List.replicate B 0) ∧ w.heap.size ≤ g ∧ w.heap.size ≤ b ∧ Below w.heap.size w w' := by
  obtain ⟨h1, h2⟩ := h
  have a1 : 8 ≤ (B : Int) := by omega
  have a2 : (B : Int) ≤ 4096 := by omega
  have mk1 := make_bytes w B (by omega)
  go_enter Tryd.func10, Tryd.ntmps10
  go_wp2_with fail
  go_ret2
  clear mk1
  have hb : Blk (w.alloc (.cells (zeros B) 5)) w.heap.size 5 ⟨cellsOf (List.replicate B 0)⟩ := by rw [zeros_cells]; exact Blk.new w _ _
  have b1 : Below w.heap.size w (w.alloc (.cells (zeros B) 5)) := (Below.refl _ w).alloc (Nat.le_refl _) _
  have hlt := hb.lt
  have hsz : (w.alloc (.cells (zeros B) 5)).heap.size = w.heap.size + 1 := by simp
  generalize w.alloc (.cells (zeros B) 5) = w1 at hb b1 hlt hsz ⊢
  refine ⟨w.heap.size + 1, w.heap.size, rfl, ⟨B, ?_, ?_, ?_, ?_⟩, ?_, Nat.le_refl _, b1.alloc (by omega) _⟩
  · have := Blk.new w1 53 #[.slice (some ⟨w.heap.size, 0, none⟩) B B]
    rw [List.length_replicate, ← hsz]
    exact this
  · have h := row_of_blk (hb.alloc (.cells #[.slice (some ⟨w.heap.size, 0, none⟩) B B] 53))
    rw [cellsOf_length] at h
    exact h
  · omega
  · simp; omega
  · omega

theorem bytes_conv (t : ByteArray) (w : World) : ∃ (cap : Nat) (w' : World), (convert 9 34 (.string t)).run Tryd.prog w = .ok (.slice (some ⟨w.heap.size, 0, none⟩) t.size cap) w' ∧ Below w.heap.size w w' :=
  ⟨grownCap w t.size 0 5, _, run_bytes_of_string w 9 34 5 t Tryd.underlying9 Tryd.underlying34 Tryd.underlying5, (Below.refl _ w).drew.alloc (Nat.le_refl _) _⟩
set_option maxRecDepth 100000 in
set_option maxHeartbeats 1000000 in
theorem rparse_any (s : ByteArray) (w : World) (hs : s.size ≤ 140737488355328) :
    Calls Tryd.prog 12 #[.string s] w fun e w' => (∃ v, e = .returned (.tuple #[v, .int .i64 (if okText s = true then 0 else 90)])) ∧ Below w.heap.size w w' := by
  unfold okText
  by_cases h1 : s.size < 8
  · rw [if_neg (by rw [Bool.and_eq_true, okB_iff]; omega)]
    have d1 : decide ((s.size : Int) < 8) = true := decide_eq_true (by omega)
    go_enter Tryd.func12, Tryd.ntmps12
    go_wp2_with fail
    go_ret2
    exact ⟨⟨_, rfl⟩, Below.refl _ _⟩
  · have d1 : decide ((s.size : Int) < 8) = false := decide_eq_false (by omega)
    by_cases h2 : 4096 < s.size
    · rw [if_neg (by rw [Bool.and_eq_true, okB_iff]; omega)]
      have d2 : decide (4096 < (s.size : Int)) = true := decide_eq_true (by omega)
      go_enter Tryd.func12, Tryd.ntmps12
      go_wp2_with fail
      go_ret2
      exact ⟨⟨_, rfl⟩, Below.refl _ _⟩
    · have d2 : decide (4096 < (s.size : Int)) = false := decide_eq_false (by omega)
      have hlt : 0 < s.size := by omega
      have he : byteAt s.data.toList 0 = s[0] := by rw [byteAt, show s.data.toList[0]? = some s[0] by rw [Array.getElem?_toList, Array.getElem?_eq_getElem hlt]; rfl]; rfl
      rw [show okB (s.size : Int) = true by rw [okB_iff]; omega, Bool.true_and, he]
      by_cases h3 : s[0] = 0
      · rw [if_pos (decide_eq_true h3)]
        have h0 : ((s[0]'hlt).toNat : Int) = 0 := by rw [h3]; rfl
        obtain ⟨cap, w1, cv, b1⟩ := bytes_conv s w
        clear he h3 h1 h2
        replace b1 := Lib.hid b1
        go_enter Tryd.func12, Tryd.ntmps12
        go_wp2_with fail
        go_ret2
        exact ⟨⟨_, rfl⟩, b1.out.alloc b1.out.size _⟩
      · rw [if_neg (by rw [decide_eq_true_eq]; exact h3)]
        have h0 : ¬ ((s[0]'hlt).toNat : Int) = 0 := fun e => h3 (UInt8.toNat_inj.1 (by show (s[0]'hlt).toNat = 0; omega))
        clear he h3 h1 h2
        go_enter Tryd.func12, Tryd.ntmps12
        go_wp2_with fail
        go_ret2
        exact ⟨⟨_, rfl⟩, Below.refl _ _⟩

section
variable (g b : Nat) (D : List UInt8) (w : World)
theorem shr_one (c p : Nat) : ((c : Int) / 2 ^ p).tmod 2 = ((c / 2 ^ p % 2 : Nat) : Int) := by
  have e : ((c : Int) / 2 ^ p) = ((c / 2 ^ p : Nat) : Int) := by rw [Int.natCast_ediv, Int.natCast_pow]; rfl
  rw [e, Int.tmod_eq_emod_of_nonneg (Int.natCast_nonneg _)]
  exact (Int.natCast_emod _ _).symm
set_option maxRecDepth 100000 in
set_option maxHeartbeats 1000000 in
theorem rhasp_any (p i : Nat) (h : RMap w g b D) (hp : p < 8) (hi : i < D.length) :
    Calls Tryd.prog 49 #[.pointer (some ⟨g, 0, none⟩), .int .i64 (p : Int), .int .i64 (i : Int)] w fun e w' => e = .returned (.bool (has D (8 * i + p))) ∧ w' = w := by
  have mi := h.byte hi
  obtain ⟨c, h1, _⟩ := h
  have m0 := h1.cell 0
  have hv : has D (8 * i + p) = decide ((byteAt D i).toNat / 2 ^ p % 2 = 1) := by
    rw [has_at, show (8 * i + p) / 8 = i by omega, show (8 * i + p) % 8 = p by omega]
    exact Nat.testBit_eq_decide_div_mod_eq
  have hc : (byteAt D i).toNat < 256 := (byteAt D i).toNat_lt
  rw [hv]
  generalize (byteAt D i).toNat = x at mi hc ⊢
  have e := shr_one x p
  generalize x / 2 ^ p % 2 = y at e ⊢
  clear hv h1
  go_enter Tryd.func49, Tryd.ntmps49
  go_wp2_with fail
  go_ret
  refine ⟨?_, rfl⟩
  show Ending.returned (Value.bool ((y : Int) == 1)) = _
  refine congrArg (fun b => Ending.returned (Value.bool b)) ?_
  rw [Bool.eq_iff_iff]
  simp only [beq_iff_eq, decide_eq_true_eq]
  omega

set_option maxRecDepth 100000 in
set_option maxHeartbeats 1000000 in
theorem rplane_any (p : Int) (h : RMap w g b D) (hD : D.length ≤ 4096) (hp : p ≤ 9223372036854775807) :
    Calls Tryd.prog 32 #[.pointer (some ⟨g, 0, none⟩), .int .i64 p] w fun e w' => e = .returned (.tuple #[.string (planeS (setOf D) p), .int .i64 (planeE p)]) ∧ Below w.heap.size w w' := by
  have k1 := fun W => ris_any p W hp
  unfold planeS planeE
  by_cases hi : isP p = true
  · rw [if_pos hi, if_pos hi]
    rw [hi] at k1
    obtain ⟨q0, q8⟩ := isP_iff.1 hi
    obtain ⟨k, rfl⟩ := Int.eq_ofNat_of_zero_le q0
    rw [Int.toNat_natCast]
    have hk : k < 8 := by omega
    have k3 : ∀ A c m W, Row W A m ((blk D k D.length).map (Value.int .i64)) → m ≤ 4096 → Calls Tryd.prog 50 #[.slice A m c] W fun e w' => e = .returned (.tuple #[.string (setOf D k), .int .i64 0]) ∧ Below W.heap.size W w' := fun A c m W hr hm => by
      have h := rof_out A m c _ W hr (by omega)
      rw [ofOut_blk D k hD] at h
      exact h
    generalize setOf D k = T at k3 ⊢
    replace k1 := Lib.hid k1
    replace k3 := Lib.hid k3
    clear hi q0 q8
    generalize hG : w.heap.size = G at *
    replace hG := Lib.hid hG
    have o0 : (w.alloc (.cells #[] 3)).ownsRow G 3 1 (.slice (some ⟨w.heap.size, 0, none⟩) 0 0) (blk D k 0).length ((blk D k 0).map (Value.int .i64)) := World.ownsRow_made w #[] 0 (Nat.le_of_eq hG.out.symm) (by decide) rfl
    have b0 : Below G w (w.alloc (.cells #[] 3)) := (Below.refl _ w).alloc (Nat.le_of_eq hG.out.symm) _
    replace h := Lib.hid h
    go_enter Tryd.func32, Tryd.ntmps32
    go_wp2_with fail
    refine (k1.out _).mono ?_
    rintro en w' ⟨rfl, hw'⟩
    replace hw' := hw'.symm
    subst hw'
    go_wp2_with fail
    obtain ⟨i0, hinf, hz0, hz1, hz2⟩ := info_parts infoInt
    generalize Value.slice (some ⟨w.heap.size, 0, none⟩) 0 0 = bv at o0 ⊢
    generalize w.alloc (.cells #[] 3) = w1 at o0 b0 ⊢
    replace o0 := Lib.hid o0
    go_loopw [6, 7] (fun v y wr => ∃ j : Nat, j ≤ D.length ∧ y = .int .i64 (j : Int) ∧ wr.ownsRow G 3 1 v (blk D k j).length ((blk D k j).map (Value.int .i64)) ∧ Below G w wr) (fun _ y _ => D.length - (intOf y).toNat)
    case atStart => exact ⟨0, Nat.zero_le _, rfl, o0.out, b0⟩
    case round =>
      obtain ⟨j, hj, rfl, hown, hbel⟩ := hrel
      clear o0 b0
      have hw0 : G ≤ wr.heap.size := by have := hbel.size; rw [hG.out] at this; exact this
      have hR : RMap wr g b D := h.out.below (by rw [hG.out]; exact hbel)
      obtain ⟨c, hR1, _⟩ := id hR
      have m0 : wr.cell? ⟨g, 0, none⟩ = some (.slice (some ⟨b, 0, none⟩) D.length c) := hR1.cell 0
      clear hR1
      by_cases hlt : j < D.length
      · have k2 := rhasp_any g b D wr k j hR hk hlt
        have hsucc := blk_succ D k j
        have hle := blk_length D k j
        clear hR
        by_cases hbit : has D (8 * j + k) = true
        · rw [hbit] at k2
          rw [if_pos hbit] at hsucc
          generalize blk D k j = es at hown hsucc hle
          replace hsucc := Lib.hid hsucc
          replace k2 := Lib.hid k2
          clear hbit
          go_wp2_with fail
          refine k2.out.mono ?_
          rintro en w2 ⟨rfl, rfl⟩
          go_wp2_with (first
            | (at_builtin; refine wpList_append_own _ rfl (.tmp 27) (.tmp 29) _ rfl G 3 i0 (.int .i64 0) 1 8 Tryd.underlying57 hinf hz0 hz1 hz2 rfl (by decide) u6 es.length _ rfl (hown.alloc _) ⟨w2.heap.size, 0, none⟩ 1 1 [.int .i64 (j : Int)] rfl rfl (cell_one_new _ _ _) (by simp [Value.oneCell']) (by unfold maxLen; omega) (by omega) (by simp; omega) ?_; intro v1 w11 hown1 hg1 hn1))
          have hb11 := (hbel.alloc hw0 _).grown hg1 (by simp; omega) (fun k hk => (hown.lt k hk).1)
          have hres : w11.ownsRow G 3 1 v1 (blk D k (j + 1)).length ((blk D k (j + 1)).map (Value.int .i64)) := by
            rw [hsucc.out, List.length_append, List.map_append]
            exact hown1
          exact ⟨⟨j + 1, by omega, rfl, hres, hb11⟩, by simp [intOf]; omega⟩
        · have hf : has D (8 * j + k) = false := by simpa using hbit
          rw [hf] at k2
          rw [if_neg hbit, List.append_nil] at hsucc
          rw [← hsucc] at hown
          replace k2 := Lib.hid k2
          replace hown := Lib.hid hown
          clear hbit hf hsucc hle
          go_wp2_with fail
          refine k2.out.mono ?_
          rintro en w2 ⟨rfl, rfl⟩
          go_wp2_with fail
          exact ⟨⟨j + 1, by omega, rfl, hown.out, hbel⟩, by simp [intOf]; omega⟩
      · obtain rfl : j = D.length := by omega
        obtain ⟨A, c1, rfl⟩ := own_slice hown
        have hr := Row.of_own hown
        have hm := Nat.le_trans (blk_length D k D.length) hD
        generalize (blk D k D.length).length = m at hr hm ⊢
        replace hr := Lib.hid hr
        clear hown hR
        go_wp2_with fail
        refine (k3.out A c1 m _ hr.out hm).mono ?_
        rintro en w2 ⟨rfl, b2⟩
        go_wp2_with fail
        go_ret2
        exact ⟨rfl, hbel.trans (b2.mono hw0)⟩
  · have hi' : isP p = false := by simpa using hi
    rw [if_neg hi, if_neg hi]
    rw [hi'] at k1
    replace k1 := Lib.hid k1
    clear hi hi'
    go_enter Tryd.func32, Tryd.ntmps32
    go_wp2_with fail
    refine (k1.out _).mono ?_
    rintro en w' ⟨rfl, hw'⟩
    replace hw' := hw'.symm
    subst hw'
    go_wp2_with fail
    go_ret2
    exact ⟨rfl, Below.refl _ _⟩
end
end Go.Proofs.YteghmnlngkcgiaaDoor.Planes

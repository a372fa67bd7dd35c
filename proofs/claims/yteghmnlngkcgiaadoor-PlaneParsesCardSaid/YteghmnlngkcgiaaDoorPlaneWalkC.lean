/- Planes: Text. -/
import Derived.Test.YteghmnlngkcgiaaDoorPlaneWalkB
namespace Go.Proofs.YteghmnlngkcgiaaDoor.Planes
open Go.RowKit Mem Sets

/-- the bits that are set when so many planes are done; and of the next one those of a list -/
def qk (P : Pl) (k x : Nat) : Bool := decide (x % 8 < k) && hasB (P (x % 8)) (x / 8)
def qi (P : Pl) (k : Nat) (L : List Int) (x : Nat) : Bool := qk P k x || (decide (x % 8 = k) && decide (((x / 8 : Nat) : Int) ∈ L))
theorem qk_zero (B : Nat) (P : Pl) : mk B (qk P 0) = List.replicate B 0 := by
  rw [mk_congr (p' := fun _ => false) (fun m _ => by simp [qk]), mk_none]
theorem qk_eight (B : Nat) (P : Pl) : mk B (qk P 8) = textL B P := mk_congr fun m _ => by
  unfold qk
  rw [decide_eq_true (by omega), Bool.true_and]
theorem qi_nil (B : Nat) (P : Pl) (k : Nat) : mk B (qi P k []) = mk B (qk P k) := mk_congr fun m _ => by simp [qi]
theorem qi_all (B : Nat) (P : Pl) (k : Nat) : mk B (qi P k (elems (P k).data.toList)) = mk B (qk P (k + 1)) := mk_congr fun m _ => by
  unfold qi qk
  by_cases h : m % 8 = k
  · subst h
    have e : decide (((m / 8 : Nat) : Int) ∈ elems (P (m % 8)).data.toList) = hasB (P (m % 8)) (m / 8) := by
      have h1 := hasI_mem (P (m % 8)).data.toList ((m / 8 : Nat) : Int)
      rw [← h1, hasI, decide_eq_true (by omega), Bool.true_and, Int.toNat_natCast]
      rfl
    rw [e, decide_eq_false (by omega), decide_eq_true rfl, decide_eq_true (by omega)]
    simp
  · by_cases h2 : m % 8 < k
    · rw [decide_eq_true h2, decide_eq_false h, decide_eq_true (show m % 8 < k + 1 by omega)]
      simp
    · rw [decide_eq_false h2, decide_eq_false h, decide_eq_false (show ¬ m % 8 < k + 1 by omega)]
      simp
theorem qi_step (B : Nat) (P : Pl) {k b : Nat} {L : List Int} (hk : k < 8) (hb : b < B) : put (mk B (qi P k L)) (8 * b + k) = mk B (qi P k (L ++ [(b : Int)])) := by
  rw [mk_put _ _ _ (by omega)]
  refine mk_congr fun m _ => ?_
  unfold qi
  rw [Bool.or_assoc]
  congr 1
  rw [Bool.eq_iff_iff, Bool.or_eq_true, Bool.and_eq_true, Bool.and_eq_true, decide_eq_true_eq, decide_eq_true_eq, decide_eq_true_eq, beq_iff_eq, List.mem_append, List.mem_singleton]
  constructor
  · rintro (⟨h1, h2⟩ | rfl)
    · exact ⟨h1, Or.inl h2⟩
    · exact ⟨by omega, Or.inr (by omega)⟩
  · rintro ⟨h1, h2 | h2⟩
    · exact Or.inl ⟨h1, h2⟩
    · exact Or.inr (by omega)

set_option maxRecDepth 100000 in
set_option maxHeartbeats 2000000 in
theorem text_any (g B : Nat) (P : Pl) (w : World) (h : PMap w g B P) (hf : FitAll B P) (hB : B ≤ 4096) :
    Calls Tryd.prog 15 #[.pointer (some ⟨g, 0, none⟩)] w fun e w' => e = .returned (.string ⟨(textL B P).toArray⟩) ∧ Below w.heap.size w w' := by
  have mk1 := make_bytes w B (by omega)
  have hz : ∀ k, k < 8 → (P k).size ≤ 512 := fun k hk => (hf k hk).size (by omega)
  have hel : ∀ k, k < 8 → ∀ X ∈ elems (P k).data.toList, ∃ x : Nat, X = (x : Int) ∧ x < B := fun k hk X hX => by
    obtain ⟨m, rfl, _, hm⟩ := mem_elems.1 hX
    exact ⟨m, rfl, ((hf k hk).2 m hm).2⟩
  have hb0 : Below w.heap.size w (w.alloc (.cells (zeros B) 5)) := (Below.refl _ w).alloc (Nat.le_refl _) _
  obtain ⟨c0, c1, c2, c3, c4, c5, c6, c7, c8⟩ := (h.below hb0).all
  have c0' := h.blocks
  clear h hf
  replace hz := Lib.hid hz
  replace hel := Lib.hid hel
  go_enter Tryd.func15, Tryd.ntmps15
  go_wp2_with fail
  have hv : ∀ k : Nat, k < 8 → ∀ w : World, (Instr.index 54 (.agg #[.string (P 0), .string (P 1), .string (P 2), .string (P 3), .string (P 4), .string (P 5), .string (P 6), .string (P 7)]) (.int .i64 (k : Int))).run Tryd.prog w = .ok (.string (P k)) w := fun k hk => vals_index P hk
  generalize (#[.string (P 0), .string (P 1), .string (P 2), .string (P 3), .string (P 4), .string (P 5), .string (P 6), .string (P 7)] : Array Value) = V at hv ⊢
  replace hv := Lib.hid hv
  have h0' : Blk (w.alloc (.cells (zeros B) 5)) w.heap.size 5 ⟨cellsOf (mk B (qk P 0))⟩ := by
    have e : (⟨cellsOf (mk B (qk P 0))⟩ : Array Value) = zeros B := by
      rw [qk_zero, cellsOf, zeros]
      simp
    rw [e]
    exact Blk.new w _ _
  generalize hG : w.heap.size = G at *
  clear mk1 c0 c0' c1 c2 c3 c4 c5 c6 c7 c8
  generalize w.alloc (.cells (zeros B) 5) = w1 at h0' hb0 ⊢
  replace hG := Lib.hid hG
  go_loopw [17] (fun y wr => ∃ k : Nat, k ≤ 8 ∧ y = .int .i64 (k : Int) ∧ Blk wr G 5 ⟨cellsOf (mk B (qk P k))⟩ ∧ Below G w wr) (fun y _ => 8 - (intOf y).toNat)
  case atStart => exact ⟨0, by omega, rfl, h0', hb0⟩
  case round =>
    obtain ⟨k, hk, rfl, hblk, hbel⟩ := hrel
    clear h0' hb0
    by_cases hlt : k < 8
    · have hi := hv.out k hlt
      have k1 := fun W => list_any (P k) W (Nat.le_trans (hz.out k hlt) (by decide))
      have hel1 := hel.out k hlt
      have hstep1 := qi_all B P k
      have hL := elems_length_le (P k).data.toList
      have hz1 := hz.out k hlt
      have hsz1 := Lib.size_eq (P k)
      generalize hL' : elems (P k).data.toList = L at k1 hel1 hstep1 hL
      generalize (P k).data.toList.length = ln at hL hsz1
      generalize P k = pk at k1 hi hz1 hsz1
      replace hL' := Lib.hid hL'
      replace hstep1 := Lib.hid hstep1
      replace hel1 := Lib.hid hel1
      replace k1 := Lib.hid k1
      replace hblk := Lib.hid hblk
      replace hbel := Lib.hid hbel
      go_wp2_with fail
      refine (k1.out _).mono ?_
      rintro en w2 ⟨v, rfl, ho, b2⟩
      obtain ⟨A, c, rfl⟩ := own_slice ho
      have hr := Row.of_own ho
      have hAG : ∀ ad, A = some ad → some ad.block ≠ some G := fun ad e => by
        subst e
        have h1 := (ho.lt _ rfl).1
        have h2 := hblk.out.lt
        intro e
        injection e with e
        omega
      have hblk2 := hblk.out.below b2 hblk.out.lt
      have hbel2 := hbel.out.trans (b2.mono (by have := hbel.out.size; rw [hG.out] at this; exact this))
      replace hblk2 := Lib.hid hblk2
      replace hbel2 := Lib.hid hbel2
      replace hr := Lib.hid hr
      replace hAG := Lib.hid hAG
      clear hblk hbel b2 ho
      have hLl : L.length ≤ 4096 := by omega
      go_wp2_with fail
      go_loopw [24] (fun y wr => ∃ j : Nat, j ≤ L.length ∧ y = .int .i64 (j : Int) ∧ Blk wr G 5 ⟨cellsOf (mk B (qi P k (L.take j)))⟩ ∧ w2.grownBy wr (some G)) (fun y _ => L.length - (intOf y).toNat)
      case atStart => exact ⟨0, by omega, rfl, by rw [List.take_zero, qi_nil]; exact hblk2.out, Only.refl _ _⟩
      case round =>
        obtain ⟨j, hj, rfl, hblk, hgr⟩ := hrel
        by_cases hjl : j < L.length
        · obtain ⟨ad, u, ha, hu, hc⟩ := (hr.out.grown hgr hAG.out).at_ hjl
          subst ha
          obtain ⟨X, hX, rfl⟩ := getMap_int hu
          obtain ⟨b, rfl, hbB⟩ := hel1.out X (List.mem_of_getElem? hX)
          obtain ⟨cb, hcb⟩ : ∃ cb, (mk B (qi P k (L.take j)))[b]? = some cb := ⟨_, List.getElem?_eq_getElem (by rw [mk_length]; exact hbB)⟩
          have mB : wr.cell? ⟨G, b, none⟩ = some (.int .u8 (cb.toNat : Int)) := (hblk.cell b).trans (cells_at hcb)
          have fB := hblk.free b
          have hstep : Blk (wr.setCell ⟨G, b, none⟩ (.int .u8 ((cb ||| UInt8.ofNat (2 ^ k)).toNat : Int))) G 5 ⟨cellsOf (mk B (qi P k (L.take (j + 1))))⟩ := by
            have h := hblk.put b (.int .u8 ((cb ||| UInt8.ofNat (2 ^ k)).toNat : Int))
            have hq := cells_put (x := 8 * b + k) (c := cb) (l := mk B (qi P k (L.take j))) (by rw [show (8 * b + k) / 8 = b by omega]; exact hcb)
            rw [show (8 * b + k) / 8 = b by omega, show (8 * b + k) % 8 = k by omega, qi_step B P hlt hbB, ← take_snoc_of hX] at hq
            rw [hq] at h
            exact h
          have mo := or_put cb k hlt
          have hp2 : ((2 ^ k : Nat) : Int) = 2 ^ k := by rw [Int.natCast_pow]; rfl
          rw [hp2] at mo
          have hsh : IntKind.u8.wrap (2 ^ k) = 2 ^ k := by
            have h : 2 ^ k < 2 ^ 8 := Nat.pow_lt_pow_right (by decide) hlt
            rw [← hp2, IntKind.wrap_u8]
            generalize 2 ^ k = Q at h ⊢
            omega
          have hgr' := Only.put hgr b (.int .u8 ((cb ||| UInt8.ofNat (2 ^ k)).toNat : Int))
          obtain ⟨cc, hcc⟩ : ∃ cc : UInt8, cc = cb ||| UInt8.ofNat (2 ^ k) := ⟨_, rfl⟩
          rw [← hcc] at hstep mo hgr'
          have hbi : (b : Int) < (B : Int) := by omega
          replace hcc := Lib.hid hcc
          replace hX := Lib.hid hX
          replace hstep := Lib.hid hstep
          replace hgr' := Lib.hid hgr'
          replace hgr := Lib.hid hgr
          clear hblk hu hcb hp2
          go_wp2_with fail
          go_still_tail 8, (by kernel_rfl)
          change wpList _ _ _ _ _ wr.drew
          go_wp2_with fail
          go_roundw
          case rel => exact ⟨j + 1, by omega, by go_num, hstep.out, Only.drew hgr'.out⟩
          case measure => simp [intOf]; omega
        · obtain rfl : j = L.length := by omega
          rw [List.take_length, hstep1.out] at hblk
          have hb3 := hbel2.out.trans (Only.toBelow hgr (Nat.le_refl G) (by have := hblk2.out.lt; omega))
          replace hblk := Lib.hid hblk
          replace hb3 := Lib.hid hb3
          clear hgr
          go_wp2_with fail
          exact ⟨⟨k + 1, by omega, rfl, hblk.out, hb3.out⟩, by simp [intOf]; omega⟩
    · obtain rfl : k = 8 := by omega
      rw [qk_eight] at hblk
      have hll : (textL B P).length = B := textL_length B P
      have hcv := run_convert_bytes_back (P := Tryd.prog) wr 34 9 5 ⟨G, 0, none⟩ B (textL B P) Tryd.underlying34 Tryd.underlying5 Tryd.underlying9 (fun j hj => by rw [add_lit, Nat.zero_add]; exact (hblk.cell j).trans (cells_at (List.getElem?_eq_getElem hj)))
      rw [hll] at hcv
      obtain ⟨T, hT⟩ : ∃ T : ByteArray, T = ⟨(textL B P).toArray⟩ := ⟨_, rfl⟩
      rw [← hT] at hcv
      replace hT := Lib.hid hT
      clear hblk hll
      go_wp2_with fail
      go_ret
      rw [hG.out, hT.out]
      exact ⟨rfl, hbel⟩
end Go.Proofs.YteghmnlngkcgiaaDoor.Planes

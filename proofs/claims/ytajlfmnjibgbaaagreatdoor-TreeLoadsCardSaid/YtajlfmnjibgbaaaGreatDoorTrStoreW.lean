/- Store: bytes are stored over a tree. -/
import Derived.Test.YtajlfmnjibgbaaaGreatDoorTrPs
namespace Go.Proofs.YtajlfmnjibgbaaaGreatDoor.Tr
open Go Go.RowKit Go.Maps Mem Disk Nv Vl
/-- what Store comes to, by the plain store's outcome r -/
def StorePost (X : Nat → Prop) (N m : Nat) (w : World) (a g : Nat) (U : ByteArray) (B j size : Nat) (r : Lv × Bool) (e : Ending) (w' : World) : Prop :=
  ∃ j', j ≤ j' ∧ j' ≤ (Alloc.ord U B 1).length ∧ r.1.free = freeL U B j' ∧ VP X N (m + 4 * (j' - j)) w' a r.1.rd g U B j' ∧ KeepP X g w w' ∧
    e = .returned (.tuple #[.agg #[.int .i64 (if r.2 = true then (r.1.now.getD 0 0 : Nat) else 0 : Int), .int .i64 (if r.2 = true then (size : Int) else 0)], .int .i64 (if r.2 = true then 0 else 112)])
section
variable {X : Nat → Prop} {N m : Nat} {w : World} {a g B j : Nat} {f : Rd} {U : ByteArray} {had data : ByteArray} {was : List (List Nat)}
set_option maxRecDepth 100000 in
theorem get_getD {M : List Nat} {i : Nat} (h : i < M.length) : M[i]? = some (M.getD i 0) := by
  rw [List.getD_eq_getElem?_getD, List.getElem?_eq_getElem h]
  rfl
set_option maxRecDepth 100000 in
set_option maxHeartbeats 32000000 in
theorem store_any (h : VP X N m w a f g U B j) (hB : 8 ≤ B ∧ B ≤ 4096) (hN : B ≤ N / 4) (hm : m ≤ 800000) (hj : j ≤ (Alloc.ord U B 1).length) (hd : data.size ≤ 16384) (hh : had.size ≤ 16384) (ht : TreeOk f had was) :
    Calls Tryz.prog 13 #[srcV a, .agg #[.int .i64 (rootOf was : Nat), .int .i64 (had.size : Int)], .string data, .pointer (some ⟨g, 0, none⟩)] w (StorePost X N m w a g U B j data.size (storeW f (freeL U B j) had was data)) := by
  obtain ⟨wk, hth, told, hdat⟩ := through_told (ch := true) ht hh
  rw [if_pos rfl] at hdat
  have hok : blobOk (rootOf was : Nat) (had.size : Int) := ⟨by omega, by omega, rootOf_zero ht hh⟩
  obtain ⟨R, hR⟩ : ∃ R, R = storeW f (freeL U B j) had was data := ⟨_, rfl⟩
  rw [← hR]
  replace hR := Lib.hid hR
  obtain ⟨root, hroot⟩ : ∃ r, r = rootOf was := ⟨_, rfl⟩
  rw [← hroot] at hth hok ⊢
  obtain ⟨n, hn⟩ : ∃ n, n = had.size := ⟨_, rfl⟩
  rw [← hn] at hth hok ⊢
  have d0 : decide (16384 < (data.size : Int)) = false := decide_eq_false (by omega)
  obtain ⟨P, hP⟩ : ∃ P, P = w.heap.size := ⟨_, rfl⟩
  obtain ⟨V, hV⟩ : ∃ V, V = (w.alloc (.cells #[.int .i64 (root : Int), .int .i64 (n : Int)] 33)).alloc (.cells #[.int .i64 0, .int .i64 0] 33) := ⟨_, rfl⟩
  have bd : Below w.heap.size w V := by rw [hV]; exact ((Below.refl _ w).alloc (Nat.le_refl _) _).alloc (by simp) _
  have hBP : Blk V P 33 #[.int .i64 (root : Int), .int .i64 (n : Int)] := by
    rw [hV, hP]
    exact (Blk.new w 33 #[.int .i64 (root : Int), .int .i64 (n : Int)]).alloc _
  have hBQ : Blk V (P + 1) 33 #[.int .i64 0, .int .i64 0] := by
    have := Blk.new (w.alloc (.cells #[.int .i64 (root : Int), .int .i64 (n : Int)] 33)) 33 #[.int .i64 0, .int .i64 0]
    rw [hV, hP]
    simpa using this
  have hVs : V.heap.size = P + 2 := by rw [hV, hP]; simp
  have p0 : V.cell? ⟨P, 0, none⟩ = some (.int .i64 (root : Int)) := hBP.cell 0
  have p1 : V.cell? ⟨P, 1, none⟩ = some (.int .i64 (n : Int)) := hBP.cell 1
  have v0 : IsV (fun i => X i ∨ i = P + 1) N m V a f := h.v.also bd fun i hi => hi.imp id fun e => by omega
  have kt := through_any v0 (root : Int) n true hok
  rw [hth] at kt
  have g0 := Lib.hid (h.p.below bd)
  replace kt := Lib.hid kt
  replace bd := Lib.hid bd
  replace hBQ := Lib.hid hBQ
  have hxg := Lib.hid h.xg
  have hxlt := Lib.hid h.v.xlt
  replace told := Lib.hid told
  replace hdat := Lib.hid hdat
  replace ht := Lib.hid ht
  replace hroot := Lib.hid hroot
  replace hn := Lib.hid hn
  clear hBP v0 hok hth h
  unfold srcV at kt ⊢
  go_enter Tryz.func13, Tryz.ntmps13
  go_upto_region 1 with fail
  rw [← hP]
  rw [← hV]
  have hP' := Lib.hid hP
  clear hV hP
  go_wp2_with fail
  refine kt.out.mono ?_
  rintro e w1 ⟨p, rfl, t1, k1⟩
  have hBQ1 := Lib.hid (hBQ.out.keeps k1 (fun hn => hn (Or.inr rfl)))
  have g1 := Lib.hid (show Alloc.PoolAt w1 g U B 1 j by
    obtain ⟨U', q1, q2⟩ := g0.out
    exact ⟨U', Blk.keeps q1 k1 (fun hn => hn (Or.inl hxg.out)), q2⟩)
  have kx1 := Lib.hid (show Keeps (fun i => ¬ X i) w w1 from (Keeps.of_below _ bd.out).same (k1.mono fun i hi hx => hi (Or.inl hx)))
  clear p0 p1 kt k1 g0 hBQ bd
  obtain ⟨gn, cn, rs, ov, pv, bv, lv, h1, h2, h3⟩ := t1
  have hBW : Blk w1.drew p 83 _ := h1.blk
  have m2 : w1.drew.cell? ⟨p, 2, none⟩ = some (.slice (some ⟨gn, 0, none⟩) rs.length cn) := hBW.cell 2
  have ks := Bin.string_any (w := w1.drew) wk.data hBW h1.buf (fun e => h1.pbv p e rfl) (by rw [hdat.out]; omega)
  rw [hdat.out] at ks
  have pbv := Lib.hid h1.pbv
  replace hBW := Lib.hid hBW
  replace h1 := Lib.hid h1
  replace h2 := Lib.hid h2
  replace h3 := Lib.hid h3
  replace ks := Lib.hid ks
  obtain ⟨RN, hRN⟩ : ∃ RN, RN = rs.length := ⟨_, rfl⟩
  rw [← hRN] at m2
  replace hRN := Lib.hid hRN
  go_wp2_with fail
  go_region_held3 (fun w' => w'.cell? ⟨p, 2, none⟩ = some (.slice (some ⟨gn, 0, none⟩) RN cn))
    (first
      | exact m2
      | exact n2
      | go_keep)
    (first
      | (go_at_call 31; refine ks.out.mono ?_; rintro e w2 ⟨rfl, k2⟩; have n2 : w2.cell? ⟨p, 2, none⟩ = some (.slice (some ⟨gn, 0, none⟩) RN cn) := (by rw [hRN.out]; exact (hBW.out.keeps k2 (fun e => pbv.out p e rfl)).cell 2)))
  have kl := Lib.hid (levels_any data.size w2 hd)
  obtain ⟨SK, hSK⟩ : ∃ SK, SK = (lev data.size).length := ⟨_, rfl⟩
  rw [← hSK] at kl
  replace hSK := Lib.hid hSK
  have k2' : Keeps (fun i => bv.ownBlock = some i) w1 w2 := (Keeps.of_below _ ((Below.refl _ w1).drew)).same k2
  replace k2' := Lib.hid k2'
  clear m2 n2 k2 ks
  go_wp2_with fail
  refine kl.out.mono ?_
  rintro e w3 ⟨v, rfl, o3, b3⟩
  obtain ⟨A3, c3, rfl⟩ := own_slice o3
  have st : StAt X (fun _ => False) N m w w3 a g U B j (P + 1) gn cn rs was (.slice A3 SK c3) (lev data.size) f := by
    have hxl := h3.out.xlt
    have hFX := h2.out
    have s2 := k2'.out.size
    have hbvX : ∀ i, X i → ¬ bv.ownBlock = some i := fun i hi e => hFX i (Or.inr (Or.inr (Or.inl e))) (Or.inl hi)
    have hPX : ∀ i, X i → i ≠ P + 1 := fun i hi e => by have := hxlt.out i hi; have := hP'.out; omega
    have hFr : ∀ i, Fr gn rs i → Fw p gn bv ov lv rs i := fun i hi => by
      rcases hi with hi | ⟨u, hu, e⟩
      · exact Or.inr (Or.inl hi)
      · obtain ⟨l, hl⟩ := List.mem_iff_getElem?.1 hu
        exact Or.inr (Or.inr (Or.inr (e ▸ mem_rows hl)))
    have hbvFr : ∀ i, Fr gn rs i → ¬ bv.ownBlock = some i := fun i hi e => by
      rcases hi with hi | ⟨u, hu, e2⟩
      · exact h1.out.gbv (by rw [← hi]; exact e)
      · obtain ⟨l, hl⟩ := List.mem_iff_getElem?.1 hu
        obtain ⟨L, _, ho⟩ := h1.out.num hl
        exact (h1.out.far ho).2.2 i e2 e
    have v2 : IsV (fun i => (X i ∨ i = P + 1) ∨ Fw p gn bv ov lv rs i) N m w2 a f := h3.out.turn (k2'.out.mono fun i hi => Or.inr (Or.inr (Or.inr (Or.inl hi))))
    have gp2 : Alloc.PoolAt w2 g U B 1 j := by
      obtain ⟨U', q1, q2⟩ := g1.out
      exact ⟨U', Blk.keeps q1 k2'.out (hbvX g hxg.out), q2⟩
    refine ⟨⟨v2.also b3 fun i hi => ?_, gp2.below b3, Or.inl hxg.out⟩, hxg.out, (hBQ1.out.keeps k2'.out (fun e => hFX (P + 1) (Or.inr (Or.inr (Or.inl e))) (Or.inr rfl))).below b3 (by have := hBQ1.out.lt; omega), ?_, ?_, fun i hi hx => ?_, fun i hi => hi.elim, fun i hi => hi.elim, ?_⟩
    · rcases hi with hi | (hi | hi | hi) | hi
      · exact Or.inl (Or.inl (Or.inl hi))
      · exact Or.inl (Or.inl (Or.inr hi))
      · exact Or.inl (Or.inr (hFr i hi))
      · exact Or.inr (o3.lt i hi)
      · exact hi.elim
    · exact ((h1.out.was told.out.nms).keeps k2'.out hbvFr).keeps (Keeps.of_below (fun _ => False) b3) (fun _ _ h => h)
    · rw [← hSK.out]
      exact own_base o3 (Nat.zero_le _)
    · rcases hi with hi | hi | hi
      · exact hPX i hx hi
      · exact hFX i (hFr i hi) (Or.inl hx)
      · have := (o3.lt i hi).1
        have := hxl i (Or.inl (Or.inl hx))
        omega
    · exact ((kx1.out.same (k2'.out.mono fun i e hx => hbvX i hx e)).same (Keeps.of_below _ b3)).mono fun i hi => Or.inl hi
  replace st := Lib.hid st
  clear h1 h2 h3 o3 b3 hBQ1 g1 kx1 k2' kl pbv hBW told hxlt hP' hVs
  rcases Nat.eq_zero_or_pos data.size with hz | hz
  · have hl0 : lev data.size = [] := lev_nil.2 hz
    have hS0 : SK = 0 := by rw [hSK.out, hl0]; rfl
    subst hS0
    have hR2 := Lib.hid (show R = (⟨f, freeL U B j, []⟩, true) by rw [hR.out]; unfold storeW; rw [hl0])
    have q0 : w3.cell? ⟨P + 1, 0, none⟩ = some (.int .i64 0) := st.out.q.cell 0
    have q1 : w3.cell? ⟨P + 1, 1, none⟩ = some (.int .i64 0) := st.out.q.cell 1
    have f0 := st.out.q.free 0
    have f1 := st.out.q.free 1
    replace hl0 := Lib.hid hl0
    replace hz := Lib.hid hz
    go_wp2_with fail
    obtain ⟨d1, d2, d3⟩ := st.out.done 0 0
    refine bodyPost_ret (v := .tuple #[.agg #[.int .i64 0, .int .i64 0], .int .i64 0]) ?_ rfl ?_
    · exact results_blob (p := 8) (u := 9) (by rfl) _ _ (P + 1) 0 0 (by rfl) d1
    · rw [hR2.out]
      refine ⟨j, Nat.le_refl _, hj, rfl, ?_, d3, ?_⟩
      · rw [Nat.sub_self, Nat.mul_zero, Nat.add_zero]
        exact d2
      · rw [hz.out]
        rfl
  · obtain ⟨K0, ks, hlv⟩ : ∃ K0 ks, lev data.size = K0 :: ks := by
      cases hl : lev data.size with
      | nil => have := lev_nil.1 hl; omega
      | cons a b => exact ⟨a, b, rfl⟩
    have hK0 := lev_mem hd (show (lev data.size)[0]? = some K0 by rw [hlv]; rfl)
    have hSK1 : 1 ≤ SK := by rw [hSK.out, hlv]; simp
    obtain ⟨RR, hRR⟩ : ∃ RR, RR = layR (piece data) (keep0 data had (was.getD 0 [])) K0 0 ⟨f, freeL U B j, []⟩ := ⟨_, rfl⟩
    have hR2 : R = if RR.2 = false then RR else storeUp (decide (was.length = ks.length + 1)) was ks 1 RR.1 := by
      rw [hR.out]
      unfold storeW
      rw [hlv, hRR]
    have sh0 := st.out.shape
    rw [← hSK.out] at sh0
    obtain ⟨g3, c3', e3, _, _⟩ := sh0.form (by omega)
    injection e3 with e3a e3b e3c
    subst e3a
    have cs0 : w3.cell? ⟨g3, 0, none⟩ = some (.int .i64 (K0 : Int)) := by
      have := sh0.cells (g := g3) rfl 0 (.int .i64 (K0 : Int)) (by rw [hlv]; rfl)
      rwa [add_lit, Nat.zero_add] at this
    have hskz : ((SK : Int) == 0) = false := by simp; omega
    have l1 : L1At X N m w w3 a g U B j j (P + 1) gn cn rs was (.slice (some ⟨g3, 0, none⟩) SK c3) (lev data.size) (.slice none 0 0) 0 ⟨f, freeL U B j, []⟩ := by
      refine ⟨?_, World.ownsRow_nil _ _ _ _, Nat.le_refl _, hj, rfl, fun x hx => by cases hx⟩
      rw [Nat.sub_self, Nat.mul_zero, Nat.add_zero]
      exact st.out.grow (Keeps.refl (fun _ => False) w3) (fun _ h => h) (fun i e => by cases e)
    replace l1 := Lib.hid l1
    replace hR2 := Lib.hid hR2
    replace hRR := Lib.hid hRR
    replace hlv := Lib.hid hlv
    clear st hR sh0
    have z0 : (1 : Int) ≤ (SK : Int) := by omega
    go_wp2_with fail
    go_loopw [15, 58] (fun nv iv wr => ∃ (k j' : Nat) (s : Lv), k ≤ K0 ∧ iv = .int .i64 (k : Int) ∧ L1At X N m w wr a g U B j j' (P + 1) gn cn rs was (.slice (some ⟨g3, 0, none⟩) SK c3) (lev data.size) nv k s ∧ layR (piece data) (keep0 data had (was.getD 0 [])) (K0 - k) k s = RR) (fun _ iv _ => K0 - (intOf iv).toNat)
    case atStart => exact ⟨0, j, ⟨f, freeL U B j, []⟩, Nat.zero_le _, rfl, l1.out, by rw [Nat.sub_zero]; exact hRR.out.symm⟩
    case round =>
      clear l1 cs0
      obtain ⟨k, j', s, hk, rfl, l1, hrest⟩ := hrel
      by_cases hlt : k < K0
      · as_aux_lemma =>
          obtain ⟨d, hd2⟩ : ∃ d, K0 - k = d + 1 := ⟨K0 - k - 1, by omega⟩
          have hd3 : K0 - (k + 1) = d := by omega
          rw [hd2] at hrest
          have hpp := piece_pos (data := data) hlv.out hlt
          have hps := piece_size data k
          have kp1 := Lib.hid (fun W => piece_any data k W (by omega) (by omega))
          have kp2 := Lib.hid (fun W => piece_any had k W (by omega) (by omega))
          have hlen0 := ht.out.len0
          have hkm := fun n (h : keep0 data had (was.getD 0 []) k = some n) => keep0_mem hpp hlen0 h
          have hk0 : keep0 data had (was.getD 0 []) k = if piece data k = piece had k then some ((was.getD 0 []).getD k 0) else none := rfl
          unfold layR at hrest
          obtain ⟨s1, hs1⟩ : ∃ s1, s1 = piece data k := ⟨_, rfl⟩
          obtain ⟨s2, hs2⟩ : ∃ s2, s2 = piece had k := ⟨_, rfl⟩
          rw [← hs1] at kp1 hps hrest
          rw [← hs2] at kp2
          rw [← hs1, ← hs2] at hk0
          have z1 : (k : Int) < (K0 : Int) := by omega
          have hps2 : s1.size ≤ 240 := by omega
          replace hs1 := Lib.hid hs1
          replace hs2 := Lib.hid hs2
          replace hpp := Lib.hid hpp
          replace hlen0 := Lib.hid hlen0
          replace hps := Lib.hid hps
          obtain ⟨i0, hinf, hz0, hz1, hz2⟩ := info_parts infoInt
          have hnl : (natsV s.now).length = k := by simpa using l1.row.1
          by_cases he : s1 = s2
          · subst he
            rw [if_pos rfl] at hk0
            obtain ⟨x, hx⟩ : ∃ x, x = (was.getD 0 []).getD k 0 := ⟨_, rfl⟩
            rw [← hx] at hk0
            obtain ⟨hw0, _⟩ := hkm x hk0
            rw [hk0] at hrest
            have hw1 : 0 < was.length := by
              rcases Nat.eq_zero_or_pos was.length with q | q
              · rw [List.length_eq_zero_iff.1 q] at hw0; cases hw0
              · exact q
            obtain ⟨v0, hv0, hc0, ho0⟩ := l1.st.was.row hw1
            have hkl := (List.getElem?_eq_some_iff.1 hw0).1
            have hxs := Lib.hid (ht.out.range x (getD_mem_flatten (List.mem_of_getElem? hw0))).2
            obtain ⟨g0, c0, e0, _, _⟩ := ho0.form (by omega)
            subst e0
            have cx : wr.cell? ⟨g0, k, none⟩ = some (.int .i64 (x : Int)) := by
              have := ho0.cells (g := g0) rfl k (.int .i64 (x : Int)) (by unfold natsV; rw [List.getElem?_map, hw0]; rfl)
              rwa [add_lit, Nat.zero_add] at this
            have hRN0 : 0 < RN := by rw [hRN.out, l1.st.was.rlen]; exact hw1
            obtain ⟨L0, hL0⟩ : ∃ L0, L0 = (was.getD 0 []).length := ⟨_, rfl⟩
            rw [← hL0] at hkl
            have hc0' : wr.cell? ⟨gn, 0, none⟩ = some (.slice (some ⟨g0, 0, none⟩) L0 c0) := by rw [hL0]; exact hc0
            have hbe : (s1.toList == s1.toList) = true := beq_self_eq_true _
            have y1 : (0 : Int) < (RN : Int) := by omega
            have y2 : (k : Int) < (L0 : Int) := by omega
            have hrow := l1.row
            obtain ⟨Y, hY⟩ : ∃ Y, Y = natsV s.now := ⟨_, rfl⟩
            rw [← hY] at hrow hnl
            replace l1 := Lib.hid l1
            replace hrest := Lib.hid hrest
            replace hY := Lib.hid hY
            replace hx := Lib.hid hx
            replace hL0 := Lib.hid hL0
            clear hkm hk0 hw0 hw1 hv0 hc0 ho0
            go_wp2_with fail
            refine (kp1.out _).mono ?_
            rintro en w' ⟨rfl, hw'⟩
            replace hw' := hw'.symm
            subst hw'
            go_wp2_with fail
            refine (kp2.out _).mono ?_
            rintro en w' ⟨rfl, hw'⟩
            replace hw' := hw'.symm
            subst hw'
            go_wp2_with (first
              | (at_builtin; refine wpList_append_own_at _ rfl (.tmp 69) (.tmp 76) _ rfl 0 3 i0 (.int .i64 0) 1 8 Tryz.underlying41 hinf hz0 hz1 hz2 rfl (by decide) _ k Y rfl (hrow.alloc _) ⟨wr.heap.size, 0, none⟩ 1 1 [.int .i64 (x : Int)] rfl rfl (cell_one_new _ _ _) (by simp [Value.oneCell']) (by unfold maxLen; omega) (by omega) (Nat.zero_le _) ?_; intro v1 w11 hown1 hg1 hn1 ha1))
            have l2 := l1.out.app (n := x) (s := s) hg1 (by rw [← hY.out]; exact hown1) ha1 hxs.out
            exact ⟨⟨k + 1, j', _, by omega, rfl, l2, by rw [hd3]; exact hrest.out⟩, by simp [intOf]; omega⟩
          · rw [if_neg he] at hk0
            rw [hk0] at hrest
            have hbe : (s1.toList == s2.toList) = false := beq_eq_false_iff_ne.2 (fun h => he (by
              apply ByteArray.ext
              rw [Lib.toList_data, Lib.toList_data] at h
              exact Array.toList_inj.1 h))
            clear hkm hk0 he
            cases hf : s.free with
            | nil =>
              rw [hf] at hrest
              have hRR2 : RR = (s, false) := hrest.symm
              have hR3 := Lib.hid (show R = (s, false) by rw [hR2.out, hRR2]; rfl)
              have kn := Lib.hid (l1.st.no (by rw [← l1.free]; exact hf) l1.jl s1)
              have hjj := Lib.hid (And.intro l1.j0 (And.intro l1.jl l1.free))
              unfold srcV at kn
              clear l1 hrest hRR2 hf hnl
              go_wp2_with fail
              refine (kp1.out _).mono ?_
              rintro en w' ⟨rfl, hw'⟩
              replace hw' := hw'.symm
              subst hw'
              go_wp2_with fail
              refine (kp2.out _).mono ?_
              rintro en w' ⟨rfl, hw'⟩
              replace hw' := hw'.symm
              subst hw'
              go_wp2_with fail
              refine kn.out.mono ?_
              rintro e w5 ⟨rfl, st5⟩
              have q0 : w5.cell? ⟨P + 1, 0, none⟩ = some (.int .i64 0) := st5.q.cell 0
              have q1 : w5.cell? ⟨P + 1, 1, none⟩ = some (.int .i64 0) := st5.q.cell 1
              have f0 := st5.q.free 0
              have f1 := st5.q.free 1
              replace st5 := Lib.hid st5
              clear kn
              go_wp2_with fail
              obtain ⟨d1, d2, d3⟩ := st5.out.done 0 0
              refine bodyPost_ret (v := .tuple #[.agg #[.int .i64 0, .int .i64 0], .int .i64 112]) ?_ rfl ?_
              · exact results_blob (p := 8) (u := 9) (by rfl) _ _ (P + 1) 0 0 (by rfl) d1
              · rw [hR3.out]
                exact ⟨j', hjj.out.1, hjj.out.2.1, hjj.out.2.2, d2, d3, rfl⟩
            | cons x q =>
              rw [hf] at hrest
              have hxs := Lib.hid (free_small (x := x) (q := q) (by rw [← l1.free]; exact hf) hB)
              have kq := l1.put hB hN hm hf (p := s1) hps2
              unfold srcV at kq
              replace kq := Lib.hid kq
              replace hrest := Lib.hid hrest
              clear l1 hf
              go_wp2_with fail
              refine (kp1.out _).mono ?_
              rintro en w' ⟨rfl, hw'⟩
              replace hw' := hw'.symm
              subst hw'
              go_wp2_with fail
              refine (kp2.out _).mono ?_
              rintro en w' ⟨rfl, hw'⟩
              replace hw' := hw'.symm
              subst hw'
              go_wp2_with fail
              refine kq.out.mono ?_
              rintro e w5 ⟨rfl, l5⟩
              have hrow := l5.row
              have hrow' : w5.ownsRow 0 3 1 u15 k (natsV s.now) := hrow
              obtain ⟨Y, hY⟩ : ∃ Y, Y = natsV s.now := ⟨_, rfl⟩
              rw [← hY] at hrow' hnl
              replace l5 := Lib.hid l5
              replace hY := Lib.hid hY
              clear kq hrow
              go_wp2_with (first
                | (at_builtin; refine wpList_append_own_at _ rfl (.tmp 89) (.tmp 91) _ rfl 0 3 i0 (.int .i64 0) 1 8 Tryz.underlying41 hinf hz0 hz1 hz2 rfl (by decide) _ k Y rfl (hrow'.alloc _) ⟨w5.heap.size, 0, none⟩ 1 1 [.int .i64 (x : Int)] rfl rfl (cell_one_new _ _ _) (by simp [Value.oneCell']) (by unfold maxLen; omega) (by omega) (Nat.zero_le _) ?_; intro v1 w11 hown1 hg1 hn1 ha1))
              have l2 := l5.out.app (n := x) hg1 (by show w11.ownsRow 0 3 1 v1 (k + 1) (natsV s.now ++ _); rw [← hY.out]; exact hown1) ha1 hxs.out
              exact ⟨⟨k + 1, j' + 1, _, by omega, rfl, l2, by rw [hd3]; exact hrest.out⟩, by simp [intOf]; omega⟩
      · obtain rfl : k = K0 := by omega
        rw [Nat.sub_self] at hrest
        have hRR2 : RR = (s, true) := hrest.symm
        have hR3 : R = storeUp (decide (was.length = ks.length + 1)) was ks 1 s := by rw [hR2.out, hRR2]; rfl
        have hlk : (lev data.size).length = ks.length + 1 := by rw [hlv.out]; rfl
        have hdr1 : (lev data.size).drop 1 = ks := by rw [hlv.out]; rfl
        rw [← hlk, ← hdr1] at hR3
        have hk0l : (lev data.size)[1 - 1]? = some k := by rw [hlv.out]; rfl
        have hq : decide ((k : Int) < (k : Int)) = false := decide_eq_false (by omega)
        replace hR3 := Lib.hid hR3
        replace l1 := Lib.hid l1
        replace hk0l := Lib.hid hk0l
        clear hrest hRR2 hdr1 hlk hR2 hRR
        go_wp2_with fail
        go_loopw [15, 20] (fun nv iv wr => ∃ (l n j' : Nat) (s : Lv), 1 ≤ l ∧ l ≤ SK ∧ iv = .int .i64 (l : Int) ∧ L1At X N m w wr a g U B j j' (P + 1) gn cn rs was (.slice (some ⟨g3, 0, none⟩) SK c3) (lev data.size) nv n s ∧ (lev data.size)[l - 1]? = some n ∧ storeUp (decide (was.length = (lev data.size).length)) was ((lev data.size).drop l) l s = R) (fun _ iv _ => SK - (intOf iv).toNat)
        case atStart => exact ⟨1, k, j', s, Nat.le_refl _, hSK1, rfl, l1.out, hk0l.out, hR3.out.symm⟩
        case round =>
          clear l1 hR3 hk0l
          obtain ⟨l, n, j', s, hl1, hl2, rfl, l1, hln, hrest⟩ := hrel
          by_cases hlt : l < SK
          · as_aux_lemma =>
              have hl3 : l < 3 := by
                have := lev_len data.size
                have := hSK.out
                omega
              obtain ⟨Kl, hKl⟩ : ∃ Kl, (lev data.size)[l]? = some Kl := ⟨_, List.getElem?_eq_getElem (by rw [← hSK.out]; exact hlt)⟩
              have hup := lev_succ (l := l - 1) (by omega) hln (by rw [show l - 1 + 1 = l by omega]; exact hKl)
              have hKb := lev_mem hd hKl
              have hnb := lev_mem hd hln
              have hdr : (lev data.size).drop l = Kl :: (lev data.size).drop (l + 1) := by
                obtain ⟨e1, e2⟩ := List.getElem?_eq_some_iff.1 hKl
                rw [List.drop_eq_getElem_cons e1, e2]
              have hnn : n = s.now.length := by have := l1.row.1; rw [natsV_length] at this; omega
              obtain ⟨al, hal⟩ : ∃ al, al = decide (was.length = (lev data.size).length) := ⟨_, rfl⟩
              rw [← hal, hdr] at hrest
              unfold storeUp at hrest
              obtain ⟨RL, hRL⟩ : ∃ RL, RL = layR (fun i => enc4 (grp s.now i)) (keepU al s.now (was.getD (l - 1) []) (was.getD l [])) Kl 0 { s with now := [] } := ⟨_, rfl⟩
              rw [← hRL] at hrest
              have hrest2 : (if RL.2 = false then RL else storeUp al was ((lev data.size).drop (l + 1)) (l + 1) RL.1) = R := hrest
              have l2 := l1.two hnn
              have csl : wr.cell? ⟨g3, l, none⟩ = some (.int .i64 (Kl : Int)) := by
                have hs := l1.st.shape
                rw [← hSK.out] at hs
                have := hs.cells (g := g3) rfl l (.int .i64 (Kl : Int)) (by unfold natsV; rw [List.getElem?_map, hKl]; rfl)
                rwa [add_lit, Nat.zero_add] at this
              have z2 : (l : Int) < (SK : Int) := by omega
              have z3 : (0 : Int) ≤ (l : Int) := by omega
              replace l2 := Lib.hid l2
              replace hRL := Lib.hid hRL
              replace hrest2 := Lib.hid hrest2
              replace hKl := Lib.hid hKl
              replace hnn := Lib.hid hnn
              replace hup := Lib.hid hup
              replace hal := Lib.hid hal
              clear l1 hrest hdr hln
              go_wp2_with fail
              go_loopw [21, 104] (fun nv2 iv2 wr2 => ∃ (i j2 : Nat) (s2 : Lv), i ≤ Kl ∧ iv2 = .int .i64 (i : Int) ∧ L2At X N m w wr2 a g U B j j2 (P + 1) gn cn rs was (.slice (some ⟨g3, 0, none⟩) SK c3) (lev data.size) u15 s.now nv2 i s2 ∧ layR (fun i => enc4 (grp s.now i)) (keepU al s.now (was.getD (l - 1) []) (was.getD l [])) (Kl - i) i s2 = RL) (fun _ iv2 _ => Kl - (intOf iv2).toNat)
              case atStart => exact ⟨0, j', { s with now := [] }, Nat.zero_le _, rfl, l2.out, by rw [Nat.sub_zero]; exact hRL.out.symm⟩
              case round =>
                clear l2
                obtain ⟨i, j2, s2, hi, rfl, l2, hr2⟩ := hrel
                by_cases hli : i < Kl
                · as_aux_lemma =>
                    obtain ⟨d, hd2⟩ : ∃ d, Kl - i = d + 1 := ⟨Kl - i - 1, by omega⟩
                    have hd3 : Kl - (i + 1) = d := by omega
                    rw [hd2] at hr2
                    have h60 : 60 * i < s.now.length := by
                      have h1 := hup.out.1
                      have h2 := hnn.out
                      unfold upN at h1
                      omega
                    have hgl := grp_length s.now i
                    obtain ⟨E, hE⟩ : ∃ E, E = enc4 (grp s.now i) := ⟨_, rfl⟩
                    have hEs : E.size ≤ 240 := by rw [hE, enc4_size]; omega
                    have kg := Lib.hid (group_any s.now i _ l2.prow h60 (by have := hnn.out; omega))
                    have kd : ∀ (u : Value) (W : World), IsPart W (natsV (grp s.now i)) u → Calls Tryz.prog 35 #[u] W fun e w' => e = .returned (.string E) ∧ Below W.heap.size W w' := fun u W hu => by
                      rw [hE]
                      exact laid_any (grp s.now i) W hu (by omega) (by omega) (fun x hx => by have := l2.psmall x (grp_mem hx); omega)
                    replace kd := Lib.hid kd
                    obtain ⟨i0, hinf, hz0, hz1, hz2⟩ := info_parts infoInt
                    have hnl : (natsV s2.now).length = i := by simpa using l2.row.1
                    have z5 : (i : Int) < (Kl : Int) := by omega
                    have hi69 : i < 69 := by omega
                    have hKe : keepU al s.now (was.getD (l - 1) []) (was.getD l []) i = if al = true ∧ i < (was.getD l []).length ∧ E = enc4 (grp (was.getD (l - 1) []) i) then some ((was.getD l []).getD i 0) else none := by rw [hE]; rfl
                    have hr3 : (match keepU al s.now (was.getD (l - 1) []) (was.getD l []) i with
                      | some n => layR (fun i => enc4 (grp s.now i)) (keepU al s.now (was.getD (l - 1) []) (was.getD l [])) d (i + 1) { s2 with now := s2.now ++ [n] }
                      | none => match s2.free with
                        | [] => (s2, false)
                        | n :: q => layR (fun i => enc4 (grp s.now i)) (keepU al s.now (was.getD (l - 1) []) (was.getD l [])) d (i + 1) ⟨upd s2.rd n (enc4 (grp s.now i)), q, s2.now ++ [n]⟩) = RL := hr2
                    rw [← hE] at hr3
                    clear hr2 hup
                    have hrl := l2.st.was.rlen
                    rw [← hRN.out] at hrl
                    by_cases hal2 : al = true
                    · have hRS : was.length = SK := by
                        rw [hal2] at hal
                        have := of_decide_eq_true hal.out.symm
                        rw [hSK.out]
                        exact this
                      by_cases hiw : i < (was.getD l []).length
                      · have hlw : l < was.length := by omega
                        have q1 := ht.out.level l (by rw [← ht.out.length]; exact hlw)
                        have q2 := ht.out.level (l - 1) (by rw [← ht.out.length]; omega)
                        have hup2 := (lev_succ (l := l - 1) (by omega) q2 (by rw [show l - 1 + 1 = l by omega]; exact q1)).1
                        have h60b := up_lt hup2 (by decide) hiw
                        have hm69 := (lev_mem hh q2).2
                        have hwr : ∀ x ∈ was.getD (l - 1) [], x < 65536 := fun x hx => (ht.out.range x (getD_mem_flatten hx)).2
                        have hgl2 := grp_length (was.getD (l - 1) []) i
                        obtain ⟨E2, hE2⟩ : ∃ E2, E2 = enc4 (grp (was.getD (l - 1) []) i) := ⟨_, rfl⟩
                        have kd2 : ∀ (u : Value) (W : World), IsPart W (natsV (grp (was.getD (l - 1) []) i)) u → Calls Tryz.prog 35 #[u] W fun e w' => e = .returned (.string E2) ∧ Below W.heap.size W w' := fun u W hu => by
                          rw [hE2]
                          exact laid_any (grp (was.getD (l - 1) []) i) W hu (by omega) (by omega) (fun x hx => by have := hwr x (grp_mem hx); omega)
                        replace kd2 := Lib.hid kd2
                        rw [← hE2] at hKe
                        have y1 : ((RN : Int) == (SK : Int)) = true := by simp; omega
                        have y2 : (l : Int) < (RN : Int) := by omega
                        obtain ⟨L0, hL0⟩ : ∃ L0, L0 = (was.getD l []).length := ⟨_, rfl⟩
                        obtain ⟨L1, hL1⟩ : ∃ L1, L1 = (was.getD (l - 1) []).length := ⟨_, rfl⟩
                        obtain ⟨lq, hlq⟩ : ∃ lq, lq = l - 1 := ⟨_, rfl⟩
                        have hlq1 : IntKind.i64.wrap ((l : Int) - 1) = (lq : Int) := by
                          rw [show (l : Int) - 1 = (lq : Int) by omega]
                          exact IntWalk.i64_in _ (by omega)
                        have hlq2 : (l : Int) - 1 = (lq : Int) := by omega
                        have y4 : (lq : Int) < (RN : Int) := by omega
                        have y5 : (0 : Int) ≤ (lq : Int) := by omega
                        have hiw2 : (was.getD l [])[i]? = some ((was.getD l []).getD i 0) := get_getD hiw
                        obtain ⟨x, hx⟩ : ∃ x, x = (was.getD l []).getD i 0 := ⟨_, rfl⟩
                        have hxs := Lib.hid (ht.out.range x (getD_mem_flatten (List.mem_of_getElem? (by rw [hx]; exact hiw2)))).2
                        rw [← hx] at hKe hiw2
                        rw [← hL0] at hiw hKe
                        have y3 : (i : Int) < (L0 : Int) := by omega
                        have kg2 : ∀ (A : Option Addr) (c : Nat) (W : World), W.ownsRow 0 3 1 (.slice A L1 c) L1 (natsV (was.getD (l - 1) [])) → Calls Tryz.prog 36 #[.slice A L1 c, .int .i64 (i : Int)] W fun e w' => ∃ u, e = .returned u ∧ IsPart W (natsV (grp (was.getD (l - 1) []) i)) u ∧ w' = W := fun A c W ho => group_any (was.getD (l - 1) []) i W ho h60b (by omega)
                        replace kg2 := Lib.hid kg2
                        clear hwr hgl2 hup2 q1 q2 hm69 hrl
                        replace h60b := Lib.hid h60b
                        replace hL0 := Lib.hid hL0
                        replace hL1 := Lib.hid hL1
                        replace l2 := Lib.hid l2
                        replace hE := Lib.hid hE
                        replace hE2 := Lib.hid hE2
                        replace hx := Lib.hid hx
                        replace hlq := Lib.hid hlq
                        replace hiw2 := Lib.hid hiw2
                        by_cases hEE : E = E2
                        · as_aux_lemma =>
                            rw [if_pos ⟨hal2, hiw, hEE⟩] at hKe
                            rw [hKe] at hr3
                            clear hKe
                            have hbe : (E.toList == E2.toList) = true := by rw [hEE]; exact beq_self_eq_true _
                            replace hr3 := Lib.hid hr3
                            replace hEE := Lib.hid hEE
                            go_wp2_with fail
                            refine kg.out.mono ?_
                            rintro e w5 ⟨u, rfl, hu, hw5⟩
                            replace hw5 := hw5.symm
                            subst hw5
                            have kd1 := Lib.hid (kd.out u _ hu)
                            clear hu kg kd
                            go_wp2_with fail
                            refine kd1.out.mono ?_
                            rintro e wz ⟨rfl, bz⟩
                            clear kd1
                            replace l2 := Lib.hid (l2.out.below bz)
                            clear bz
                            obtain ⟨vl, _, hcl, hol⟩ := l2.out.st.was.row hlw
                            rw [← hL0.out] at hol
                            obtain ⟨gl, cl, rfl, _, _⟩ := hol.form (by omega)
                            have hcx : wz.cell? ⟨gl, i, none⟩ = some (.int .i64 (x : Int)) := by
                              have := hol.cells (g := gl) rfl i (.int .i64 (x : Int)) (by unfold natsV; rw [List.getElem?_map, hiw2.out]; rfl)
                              rwa [add_lit, Nat.zero_add] at this
                            obtain ⟨vm, _, hcm, hom⟩ := l2.out.st.was.row (l := l - 1) (by omega)
                            rw [← hL1.out] at hom
                            obtain ⟨Am, cm, rfl⟩ := own_slice hom
                            have kg3 := Lib.hid (kg2.out Am cm wz hom)
                            rw [← hlq.out] at hcm
                            clear hol hom kg2
                            go_wp2_with fail
                            refine kg3.out.mono ?_
                            rintro e w6 ⟨u2, rfl, hu2, hw6⟩
                            replace hw6 := hw6.symm
                            subst hw6
                            have kd3 := Lib.hid (kd2.out u2 _ hu2)
                            clear hu2 kg3 kd2 hcm
                            go_wp2_with fail
                            refine kd3.out.mono ?_
                            rintro e wz2 ⟨rfl, bz2⟩
                            replace hcl := (bz2.cell (World.block_lt_of_cell? _ _ hcl)).trans hcl
                            replace hcx := (bz2.cell (World.block_lt_of_cell? _ _ hcx)).trans hcx
                            replace l2 := Lib.hid (l2.out.below bz2)
                            clear kd3 bz2
                            obtain ⟨Y, hY⟩ : ∃ Y, Y = natsV s2.now := ⟨_, rfl⟩
                            have hrow' : wz2.ownsRow 0 3 1 u21 i (natsV s2.now) := l2.out.row
                            rw [← hY] at hrow' hnl
                            replace hY := Lib.hid hY
                            go_wp2_with (first
                              | (at_builtin; refine wpList_append_own_at _ rfl (.tmp 137) (.tmp 145) _ rfl 0 3 i0 (.int .i64 0) 1 8 Tryz.underlying41 hinf hz0 hz1 hz2 rfl (by decide) _ i Y rfl (hrow'.alloc _) ⟨wz2.heap.size, 0, none⟩ 1 1 [.int .i64 (x : Int)] rfl rfl (cell_one_new _ _ _) (by simp [Value.oneCell']) (by unfold maxLen; omega) (by omega) (Nat.zero_le _) ?_; intro v1 w11 hown1 hg1 hn1 ha1))
                            have l6 := l2.out.app (n := x) (s := s2) hg1 (by show w11.ownsRow 0 3 1 v1 (i + 1) (natsV s2.now ++ _); rw [← hY.out]; exact hown1) ha1 hxs.out
                            exact ⟨⟨i + 1, j2, _, by omega, rfl, l6, by rw [hd3]; exact hr3.out⟩, by simp [intOf]; omega⟩
                        · as_aux_lemma =>
                            rw [if_neg (fun h => hEE h.2.2)] at hKe
                            rw [hKe] at hr3
                            clear hKe
                            have hbe : (E.toList == E2.toList) = false := beq_eq_false_iff_ne.2 (fun h => hEE (by
                              apply ByteArray.ext
                              rw [Lib.toList_data, Lib.toList_data] at h
                              exact Array.toList_inj.1 h))
                            replace hr3 := Lib.hid hr3
                            clear hEE
                            go_wp2_with fail
                            refine kg.out.mono ?_
                            rintro e w5 ⟨u, rfl, hu, hw5⟩
                            replace hw5 := hw5.symm
                            subst hw5
                            have kd1 := Lib.hid (kd.out u _ hu)
                            clear hu kg kd
                            go_wp2_with fail
                            refine kd1.out.mono ?_
                            rintro e wz ⟨rfl, bz⟩
                            clear kd1
                            replace l2 := Lib.hid (l2.out.below bz)
                            clear bz
                            obtain ⟨vl, _, hcl, hol⟩ := l2.out.st.was.row hlw
                            rw [← hL0.out] at hol
                            obtain ⟨gl, cl, rfl, _, _⟩ := hol.form (by omega)
                            have hcx : wz.cell? ⟨gl, i, none⟩ = some (.int .i64 (x : Int)) := by
                              have := hol.cells (g := gl) rfl i (.int .i64 (x : Int)) (by unfold natsV; rw [List.getElem?_map, hiw2.out]; rfl)
                              rwa [add_lit, Nat.zero_add] at this
                            obtain ⟨vm, _, hcm, hom⟩ := l2.out.st.was.row (l := l - 1) (by omega)
                            rw [← hL1.out] at hom
                            obtain ⟨Am, cm, rfl⟩ := own_slice hom
                            have kg3 := Lib.hid (kg2.out Am cm wz hom)
                            rw [← hlq.out] at hcm
                            clear hol hom kg2
                            go_wp2_with fail
                            refine kg3.out.mono ?_
                            rintro e w6 ⟨u2, rfl, hu2, hw6⟩
                            replace hw6 := hw6.symm
                            subst hw6
                            have kd3 := Lib.hid (kd2.out u2 _ hu2)
                            clear hu2 kg3 kd2 hcm
                            go_wp2_with fail
                            refine kd3.out.mono ?_
                            rintro e wz2 ⟨rfl, bz2⟩
                            replace hcl := (bz2.cell (World.block_lt_of_cell? _ _ hcl)).trans hcl
                            replace hcx := (bz2.cell (World.block_lt_of_cell? _ _ hcx)).trans hcx
                            replace l2 := Lib.hid (l2.out.below bz2)
                            clear kd3 bz2
                            go_wp2_with fail
                            cases hf : s2.free with
                            | nil =>
                              have hr4 := hr3.out
                              rw [hf] at hr4
                              have hRL2 : RL = (s2, false) := hr4.symm
                              have hR4 := Lib.hid (show R = (s2, false) by rw [← hrest2.out, hRL2]; rfl)
                              have kn := l2.out.st.no (by rw [← l2.out.free]; exact hf) l2.out.jl E
                              have hjj := Lib.hid (And.intro l2.out.j0 (And.intro l2.out.jl l2.out.free))
                              unfold srcV at kn
                              clear l2 hr3 hr4 hRL2 hf hnl
                              refine kn.mono ?_
                              rintro e w9 ⟨rfl, st5⟩
                              have q0 : w9.cell? ⟨P + 1, 0, none⟩ = some (.int .i64 0) := st5.q.cell 0
                              have q1 : w9.cell? ⟨P + 1, 1, none⟩ = some (.int .i64 0) := st5.q.cell 1
                              have f0 := st5.q.free 0
                              have f1 := st5.q.free 1
                              replace st5 := Lib.hid st5
                              clear kn
                              go_wp2_with fail
                              obtain ⟨d1, d2, d3⟩ := st5.out.done 0 0
                              refine bodyPost_ret (v := .tuple #[.agg #[.int .i64 0, .int .i64 0], .int .i64 112]) ?_ rfl ?_
                              · exact results_blob (p := 8) (u := 9) (by rfl) _ _ (P + 1) 0 0 (by rfl) d1
                              · rw [hR4.out]
                                exact ⟨j2, hjj.out.1, hjj.out.2.1, hjj.out.2.2, d2, d3, rfl⟩
                            | cons x q =>
                              have hr4 := hr3.out
                              rw [hf] at hr4
                              have hxs := Lib.hid (free_small (x := x) (q := q) (by rw [← l2.out.free]; exact hf) hB)
                              have kq := l2.out.put hB hN hm hf (p := E) hEs
                              unfold srcV at kq
                              replace hr4 := Lib.hid hr4
                              clear l2 hf hr3
                              refine kq.mono ?_
                              rintro e w9 ⟨rfl, l5⟩
                              have hrow := l5.row
                              obtain ⟨Y, hY⟩ : ∃ Y, Y = natsV s2.now := ⟨_, rfl⟩
                              have hrow' : w9.ownsRow 0 3 1 u21 i (natsV s2.now) := hrow
                              rw [← hY] at hrow' hnl
                              replace l5 := Lib.hid l5
                              replace hY := Lib.hid hY
                              clear kq hrow
                              go_wp2_with (first
                                | (at_builtin; refine wpList_append_own_at _ rfl (.tmp 158) (.tmp 160) _ rfl 0 3 i0 (.int .i64 0) 1 8 Tryz.underlying41 hinf hz0 hz1 hz2 rfl (by decide) _ i Y rfl (hrow'.alloc _) ⟨w9.heap.size, 0, none⟩ 1 1 [.int .i64 (x : Int)] rfl rfl (cell_one_new _ _ _) (by simp [Value.oneCell']) (by unfold maxLen; omega) (by omega) (Nat.zero_le _) ?_; intro v1 w11 hown1 hg1 hn1 ha1))
                              have l6 := l5.out.app (n := x) hg1 (by show w11.ownsRow 0 3 1 v1 (i + 1) (natsV s2.now ++ _); rw [← hY.out]; exact hown1) ha1 hxs.out
                              exact ⟨⟨i + 1, j2 + 1, _, by omega, rfl, l6, by rw [hd3]; exact hr4.out⟩, by simp [intOf]; omega⟩
                      · as_aux_lemma =>
                          rw [if_neg (fun h => hiw h.2.1)] at hKe
                          rw [hKe] at hr3
                          have hlw : l < was.length := by omega
                          have y1 : ((RN : Int) == (SK : Int)) = true := by simp; omega
                          have y2 : (l : Int) < (RN : Int) := by omega
                          obtain ⟨L0, hL0⟩ : ∃ L0, L0 = (was.getD l []).length := ⟨_, rfl⟩
                          rw [← hL0] at hiw
                          have y3 : decide ((i : Int) < (L0 : Int)) = false := decide_eq_false (by omega)
                          clear hKe hrl
                          replace l2 := Lib.hid l2
                          replace hr3 := Lib.hid hr3
                          replace hE := Lib.hid hE
                          go_wp2_with fail
                          refine kg.out.mono ?_
                          rintro e w5 ⟨u, rfl, hu, hw5⟩
                          replace hw5 := hw5.symm
                          subst hw5
                          have kd1 := Lib.hid (kd.out u _ hu)
                          clear hu kg kd
                          go_wp2_with fail
                          refine kd1.out.mono ?_
                          rintro e wz ⟨rfl, bz⟩
                          clear kd1
                          replace l2 := Lib.hid (l2.out.below bz)
                          clear bz
                          obtain ⟨vl, _, hcl, hol⟩ := l2.out.st.was.row hlw
                          obtain ⟨Al, cl, rfl⟩ := own_slice hol
                          rw [← hL0] at hcl
                          replace hL0 := Lib.hid hL0
                          clear hol hlw
                          go_wp2_with fail
                          cases hf : s2.free with
                          | nil =>
                            have hr4 := hr3.out
                            rw [hf] at hr4
                            have hRL2 : RL = (s2, false) := hr4.symm
                            have hR4 := Lib.hid (show R = (s2, false) by rw [← hrest2.out, hRL2]; rfl)
                            have kn := l2.out.st.no (by rw [← l2.out.free]; exact hf) l2.out.jl E
                            have hjj := Lib.hid (And.intro l2.out.j0 (And.intro l2.out.jl l2.out.free))
                            unfold srcV at kn
                            clear l2 hr3 hr4 hRL2 hf hnl
                            refine kn.mono ?_
                            rintro e w9 ⟨rfl, st5⟩
                            have q0 : w9.cell? ⟨P + 1, 0, none⟩ = some (.int .i64 0) := st5.q.cell 0
                            have q1 : w9.cell? ⟨P + 1, 1, none⟩ = some (.int .i64 0) := st5.q.cell 1
                            have f0 := st5.q.free 0
                            have f1 := st5.q.free 1
                            replace st5 := Lib.hid st5
                            clear kn
                            go_wp2_with fail
                            obtain ⟨d1, d2, d3⟩ := st5.out.done 0 0
                            refine bodyPost_ret (v := .tuple #[.agg #[.int .i64 0, .int .i64 0], .int .i64 112]) ?_ rfl ?_
                            · exact results_blob (p := 8) (u := 9) (by rfl) _ _ (P + 1) 0 0 (by rfl) d1
                            · rw [hR4.out]
                              exact ⟨j2, hjj.out.1, hjj.out.2.1, hjj.out.2.2, d2, d3, rfl⟩
                          | cons x q =>
                            have hr4 := hr3.out
                            rw [hf] at hr4
                            have hxs := Lib.hid (free_small (x := x) (q := q) (by rw [← l2.out.free]; exact hf) hB)
                            have kq := l2.out.put hB hN hm hf (p := E) hEs
                            unfold srcV at kq
                            replace hr4 := Lib.hid hr4
                            clear l2 hf hr3
                            refine kq.mono ?_
                            rintro e w9 ⟨rfl, l5⟩
                            have hrow := l5.row
                            obtain ⟨Y, hY⟩ : ∃ Y, Y = natsV s2.now := ⟨_, rfl⟩
                            have hrow' : w9.ownsRow 0 3 1 u21 i (natsV s2.now) := hrow
                            rw [← hY] at hrow' hnl
                            replace l5 := Lib.hid l5
                            replace hY := Lib.hid hY
                            clear kq hrow
                            go_wp2_with (first
                              | (at_builtin; refine wpList_append_own_at _ rfl (.tmp 158) (.tmp 160) _ rfl 0 3 i0 (.int .i64 0) 1 8 Tryz.underlying41 hinf hz0 hz1 hz2 rfl (by decide) _ i Y rfl (hrow'.alloc _) ⟨w9.heap.size, 0, none⟩ 1 1 [.int .i64 (x : Int)] rfl rfl (cell_one_new _ _ _) (by simp [Value.oneCell']) (by unfold maxLen; omega) (by omega) (Nat.zero_le _) ?_; intro v1 w11 hown1 hg1 hn1 ha1))
                            have l6 := l5.out.app (n := x) hg1 (by show w11.ownsRow 0 3 1 v1 (i + 1) (natsV s2.now ++ _); rw [← hY.out]; exact hown1) ha1 hxs.out
                            exact ⟨⟨i + 1, j2 + 1, _, by omega, rfl, l6, by rw [hd3]; exact hr4.out⟩, by simp [intOf]; omega⟩
                    · as_aux_lemma =>
                        rw [if_neg (fun h => hal2 h.1)] at hKe
                        rw [hKe] at hr3
                        have y1 : ((RN : Int) == (SK : Int)) = false := by
                          have h1 : ¬ was.length = SK := fun e => hal2 (by rw [hal.out]; exact decide_eq_true (by rw [e]; exact hSK.out))
                          simp
                          omega
                        clear hKe hal2 hrl
                        replace l2 := Lib.hid l2
                        replace hr3 := Lib.hid hr3
                        replace hE := Lib.hid hE
                        go_wp2_with fail
                        refine kg.out.mono ?_
                        rintro e w5 ⟨u, rfl, hu, hw5⟩
                        replace hw5 := hw5.symm
                        subst hw5
                        have kd1 := Lib.hid (kd.out u _ hu)
                        clear hu kg kd
                        go_wp2_with fail
                        refine kd1.out.mono ?_
                        rintro e wz ⟨rfl, bz⟩
                        clear kd1
                        replace l2 := Lib.hid (l2.out.below bz)
                        clear bz
                        go_wp2_with fail
                        cases hf : s2.free with
                        | nil =>
                          have hr4 := hr3.out
                          rw [hf] at hr4
                          have hRL2 : RL = (s2, false) := hr4.symm
                          have hR4 := Lib.hid (show R = (s2, false) by rw [← hrest2.out, hRL2]; rfl)
                          have kn := l2.out.st.no (by rw [← l2.out.free]; exact hf) l2.out.jl E
                          have hjj := Lib.hid (And.intro l2.out.j0 (And.intro l2.out.jl l2.out.free))
                          unfold srcV at kn
                          clear l2 hr3 hr4 hRL2 hf hnl
                          refine kn.mono ?_
                          rintro e w9 ⟨rfl, st5⟩
                          have q0 : w9.cell? ⟨P + 1, 0, none⟩ = some (.int .i64 0) := st5.q.cell 0
                          have q1 : w9.cell? ⟨P + 1, 1, none⟩ = some (.int .i64 0) := st5.q.cell 1
                          have f0 := st5.q.free 0
                          have f1 := st5.q.free 1
                          replace st5 := Lib.hid st5
                          clear kn
                          go_wp2_with fail
                          obtain ⟨d1, d2, d3⟩ := st5.out.done 0 0
                          refine bodyPost_ret (v := .tuple #[.agg #[.int .i64 0, .int .i64 0], .int .i64 112]) ?_ rfl ?_
                          · exact results_blob (p := 8) (u := 9) (by rfl) _ _ (P + 1) 0 0 (by rfl) d1
                          · rw [hR4.out]
                            exact ⟨j2, hjj.out.1, hjj.out.2.1, hjj.out.2.2, d2, d3, rfl⟩
                        | cons x q =>
                          have hr4 := hr3.out
                          rw [hf] at hr4
                          have hxs := Lib.hid (free_small (x := x) (q := q) (by rw [← l2.out.free]; exact hf) hB)
                          have kq := l2.out.put hB hN hm hf (p := E) hEs
                          unfold srcV at kq
                          replace hr4 := Lib.hid hr4
                          clear l2 hf hr3
                          refine kq.mono ?_
                          rintro e w9 ⟨rfl, l5⟩
                          have hrow := l5.row
                          obtain ⟨Y, hY⟩ : ∃ Y, Y = natsV s2.now := ⟨_, rfl⟩
                          have hrow' : w9.ownsRow 0 3 1 u21 i (natsV s2.now) := hrow
                          rw [← hY] at hrow' hnl
                          replace l5 := Lib.hid l5
                          replace hY := Lib.hid hY
                          clear kq hrow
                          go_wp2_with (first
                            | (at_builtin; refine wpList_append_own_at _ rfl (.tmp 158) (.tmp 160) _ rfl 0 3 i0 (.int .i64 0) 1 8 Tryz.underlying41 hinf hz0 hz1 hz2 rfl (by decide) _ i Y rfl (hrow'.alloc _) ⟨w9.heap.size, 0, none⟩ 1 1 [.int .i64 (x : Int)] rfl rfl (cell_one_new _ _ _) (by simp [Value.oneCell']) (by unfold maxLen; omega) (by omega) (Nat.zero_le _) ?_; intro v1 w11 hown1 hg1 hn1 ha1))
                          have l6 := l5.out.app (n := x) hg1 (by show w11.ownsRow 0 3 1 v1 (i + 1) (natsV s2.now ++ _); rw [← hY.out]; exact hown1) ha1 hxs.out
                          exact ⟨⟨i + 1, j2 + 1, _, by omega, rfl, l6, by rw [hd3]; exact hr4.out⟩, by simp [intOf]; omega⟩
                · as_aux_lemma =>
                    obtain rfl : i = Kl := by omega
                    rw [Nat.sub_self] at hr2
                    have hRL2 : RL = (s2, true) := hr2.symm
                    have hR5 : R = storeUp al was ((lev data.size).drop (l + 1)) (l + 1) s2 := by rw [← hrest2.out, hRL2]; rfl
                    rw [hal.out] at hR5
                    have l7 := l2.one
                    have hq6 : decide ((i : Int) < (i : Int)) = false := decide_eq_false (by omega)
                    replace l7 := Lib.hid l7
                    replace hR5 := Lib.hid hR5
                    clear hr2 hRL2 l2
                    go_wp2_with fail
                    exact ⟨⟨l + 1, i, j2, s2, by omega, by omega, rfl, l7.out, by rw [Nat.add_sub_cancel]; exact hKl.out, hR5.out.symm⟩, by simp [intOf]; omega⟩
          · as_aux_lemma =>
              obtain rfl : l = SK := by omega
              have hn1 : n = 1 := (lev_last (by omega) hln).1 (by
                rw [show l - 1 + 1 = l by omega, hSK.out]
                exact List.getElem?_eq_none (Nat.le_refl _))
              subst hn1
              have hR3 : R = (s, true) := by
                rw [List.drop_of_length_le (by rw [hSK.out]; exact Nat.le_refl _)] at hrest
                exact hrest.symm
              have hrow := l1.row
              have hnl : (natsV s.now).length = 1 := by simpa using hrow.1
              rw [natsV_length] at hnl
              obtain ⟨r, hr⟩ := len_one hnl
              obtain ⟨g5, c5, e5, _, _⟩ := hrow.form (by decide)
              subst e5
              have cr : wr.cell? ⟨g5, 0, none⟩ = some (.int .i64 (r : Int)) := by
                have := hrow.cells (g := g5) rfl 0 (.int .i64 (r : Int)) (by rw [hr]; rfl)
                rwa [add_lit, Nat.zero_add] at this
              have q0 : wr.cell? ⟨P + 1, 0, none⟩ = some (.int .i64 0) := l1.st.q.cell 0
              have q1 : wr.cell? ⟨P + 1, 1, none⟩ = some (.int .i64 0) := l1.st.q.cell 1
              have f0 := l1.st.q.free 0
              have f1 := l1.st.q.free 1
              have hq2 : decide ((l : Int) < (l : Int)) = false := decide_eq_false (by omega)
              replace l1 := Lib.hid l1
              replace hR3 := Lib.hid hR3
              replace hr := Lib.hid hr
              clear hrest hrow hnl hln
              go_wp2_with fail
              obtain ⟨d1, d2, d3⟩ := l1.out.st.done (r : Int) (data.size : Int)
              refine bodyPost_ret (v := .tuple #[.agg #[.int .i64 (r : Int), .int .i64 (data.size : Int)], .int .i64 0]) ?_ rfl ?_
              · exact results_blob (p := 8) (u := 9) (by rfl) _ _ (P + 1) (r : Int) (data.size : Int) (by rfl) d1
              · rw [hR3.out]
                refine ⟨j', l1.out.j0, l1.out.jl, l1.out.free, d2, d3, ?_⟩
                show _ = Ending.returned (.tuple #[.agg #[.int .i64 ((s.now.getD 0 0 : Nat) : Int), .int .i64 (data.size : Int)], .int .i64 0])
                rw [hr.out]
                rfl
end
end Go.Proofs.YtajlfmnjibgbaaaGreatDoor.Tr

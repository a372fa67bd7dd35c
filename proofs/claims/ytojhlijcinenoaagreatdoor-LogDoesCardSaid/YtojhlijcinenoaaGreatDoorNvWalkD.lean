/- The log's Append. -/
import Derived.Test.YtojhlijcinenoaaGreatDoorNvWalkC
namespace Go.Proofs.YtojhlijcinenoaaGreatDoor.Nv
open Go Go.RowKit Go.Maps Mem Disk

set_option maxRecDepth 100000 in
theorem rest_head (B : ByteArray) (i : Nat) (h : 64 * i < B.size) : (B.extract (64 * i) B.size).extract 0 (min (B.size - 64 * i) 64) = B.extract (64 * i) (64 * i + 64) := by
  apply ByteArray.ext
  rw [ByteArray.data_extract, ByteArray.data_extract, ByteArray.data_extract]
  apply Array.toList_inj.1
  rw [Array.toList_extract, Array.toList_extract, Array.toList_extract, List.extract_eq_take_drop, List.extract_eq_take_drop, List.extract_eq_take_drop, List.drop_zero, List.take_take]
  have hs : B.data.toList.length = B.size := rfl
  apply List.ext_getElem?
  intro j
  simp only [List.getElem?_take, List.getElem?_drop]
  by_cases hj : j < 64
  · by_cases hj2 : 64 * i + j < B.size
    · rw [if_pos (by omega), if_pos (by omega)]
    · rw [List.getElem?_eq_none (by omega)]
      simp
  · rw [if_neg (by omega), if_neg (by omega)]
set_option maxRecDepth 100000 in
theorem rest_tail (B : ByteArray) (i : Nat) : (B.extract (64 * i) B.size).extract (min (B.size - 64 * i) 64) (B.extract (64 * i) B.size).size = B.extract (64 * (i + 1)) B.size := by
  apply ByteArray.ext
  rw [ByteArray.data_extract, ByteArray.data_extract, ByteArray.data_extract]
  apply Array.toList_inj.1
  rw [Array.toList_extract, Array.toList_extract, Array.toList_extract, List.extract_eq_take_drop, List.extract_eq_take_drop, List.extract_eq_take_drop, ByteArray.size_extract]
  have hs : B.data.toList.length = B.size := rfl
  apply List.ext_getElem?
  intro j
  simp only [List.getElem?_take, List.getElem?_drop]
  by_cases h : 64 * (i + 1) ≤ B.size
  · rw [show min (B.size - 64 * i) 64 = 64 by omega]
    by_cases hj : 64 * (i + 1) + j < B.size
    · rw [if_pos (by omega), if_pos (by omega), if_pos (by omega)]
      congr 1
      omega
    · rw [if_neg (by omega), if_neg (by omega)]
  · rw [if_neg (by omega)]
    split
    · exact (List.getElem?_eq_none (by omega)).symm
    · rfl
set_option maxRecDepth 100000 in
theorem rest_size (B : ByteArray) (i : Nat) (h : 64 * i ≤ B.size) : (B.extract (64 * i) B.size).size = B.size - 64 * i := by
  rw [ByteArray.size_extract]; omega
set_option maxRecDepth 100000 in
theorem ck_size (B : ByteArray) (i : Nat) : (B.extract (64 * i) (64 * i + 64)).size = min (B.size - 64 * i) 64 := by
  rw [ByteArray.size_extract]; omega
set_option maxRecDepth 100000 in
theorem wloop_succ (l : Lg) (fs : Nat) (B : ByteArray) (k i : Nat) (d : Dk) {R : Dk × Int} (hR : R = writeD d ((fs + i : Nat) : Int) (sect B i)) :
    wloop l fs B (k + 1) i d = if R.2 ≠ 0 then (tell l R.2, R) else wloop l fs B k (i + 1) R.1 := by
  rw [hR]
  rfl
set_option maxRecDepth 100000 in
theorem ext_empty {B : ByteArray} {n : Nat} (h : B.size ≤ n) : B.extract n B.size = ⟨#[]⟩ := by
  apply ByteArray.ext
  rw [ByteArray.data_extract]
  apply Array.toList_inj.1
  rw [Array.toList_extract, List.extract_eq_take_drop, show B.size - n = 0 by omega, List.take_zero]
set_option maxRecDepth 100000 in
theorem headsL_ok {l : Lg} {d : Dk} {g u : Nat} (h : (headsL l d g u).2.2 = 0) : (headsL l d g u).1 = l := by
  unfold headsL at h ⊢
  split at h
  · next h1 => exact absurd h h1
  · next h1 =>
    rw [if_neg h1]
    show tell l _ = l
    have h2 : (syncD (writeD d 0 (headB g u)).1).2 = 0 := h
    rw [h2, tell_zero]
set_option maxRecDepth 100000 in
theorem drewX (w : World) : Below w.heap.size w w.drew := (Below.refl _ w).drew
/-- a text that is not empty, in the walk's words -/
def RSne (s : ByteArray) : Prop := (s.toList == []) = false ∧ (!s.toList.isEmpty) = true
set_option maxRecDepth 100000 in
theorem rsne {s : ByteArray} (h : 0 < s.size) : RSne s := by
  have h1 : s.toList ≠ [] := fun e => by
    have h2 := Lib.toList_data s
    rw [e] at h2
    have h3 : s.data.toList.length = 0 := by rw [← h2]; rfl
    have h4 : s.size = 0 := h3
    omega
  exact ⟨beq_false_of_ne h1, by simpa using h1⟩
section
variable {F G K : Nat → Prop} {w w' : World} {a b m : Nat} {v : Value} {l l' : Lg} {d d' : Dk}
set_option maxRecDepth 100000 in
/-- other records, in a row of one's own -/
theorem PCore.relist (h : PCore F G w a b v l d) {H : Nat} {v2 : Value} {l2 : Lg} (ho : w'.ownsRow H 9 1 v2 l2.list.length (l2.list.map Value.string)) (hH : ∀ i, F i → i < H)
    (hB : Blk w' a 62 (lgc b v2 l2)) (kk : Keeps (fun j => j = a) w w') : PL (fun i => F i ∨ v2.ownBlock = some i) w' a b l2 d ∧ Keeps F w w' := by
  refine ⟨⟨G, v2, h.dk.keeps kk (fun i hi e => h.ga (e ▸ hi)), hB, own_base ho (Nat.zero_le _), Or.inl h.fa, fun j e => Or.inr e, fun i hi => Or.inl (h.fg i hi), h.ga, fun j e hg => ?_, fun i hi => ?_⟩, kk.mono (fun i e => e ▸ h.fa)⟩
  · have := (ho.lt j e).1
    have := hH j (h.fg j hg)
    omega
  · rcases hi with hi | hi
    · exact Nat.lt_of_lt_of_le (h.lt i hi) kk.size
    · exact (ho.lt i hi).2
set_option maxRecDepth 100000 in
theorem npost_stay (h : PL F w a b l d) (x : Int) {n : Nat} : NPost F w a b (l, d, x) (.returned (.int .i64 x)) (w.drewN n) :=
  ⟨rfl, F, h.below (below_drewN (Below.refl _ w) n), (Keeps.refl F w).drewN n, fun _ hi => Or.inl hi⟩
set_option maxRecDepth 100000 in
theorem npost_same (h : PL F w a b l d) (x : Int) : NPost F w a b (l, d, x) (.returned (.int .i64 x)) w :=
  ⟨rfl, F, h, Keeps.refl F w, fun _ hi => Or.inl hi⟩
set_option maxRecDepth 100000 in
set_option maxHeartbeats 2000000 in
theorem append_any (h : PL F w a b l d) (hf : Fit d) (hn : NumTo m d) (hm : m ≤ 900000) (hz : (enc l.list).size ≤ 64 * halfD d) (hll : l.list.length ≤ 1048575) (r : ByteArray) :
    Calls Tryz.prog 5 #[.pointer (some ⟨a, 0, none⟩), .string r] w (NPost F w a b (appendL l d r)) := by
  have hfew := hf.few
  have hH : halfD d ≤ 8192 := by unfold halfD; omega
  unfold appendL
  by_cases h1 : 1300 < r.size
  · rw [if_pos h1]
    have q1 : decide (1300 < (r.size : Int)) = true := decide_eq_true (by omega)
    have fin := Lib.hid (npost_same h 71)
    clear h hf hn
    go_enter Tryz.func5, Tryz.ntmps5
    go_wp2_with fail
    go_ret
    exact fin.out
  · rw [if_neg h1]
    have q1 : decide (1300 < (r.size : Int)) = false := decide_eq_false (by omega)
    have hr13 : r.size ≤ 1300 := by omega
    clear h1
    have c4 : w.cell? ⟨a, 4, none⟩ = some (.bool l.dead) := by obtain ⟨_, _, hc⟩ := h; exact hc.cells.2.2.2.2
    rcases Bool.eq_false_or_eq_true l.dead with hd | hd
    · rw [hd] at c4
      rw [if_pos hd]
      replace hd := Lib.hid hd
      have fin := Lib.hid (npost_same h 2)
      clear h hf hn
      go_enter Tryz.func5, Tryz.ntmps5
      go_wp2_with fail
      go_ret
      exact fin.out
    · rw [hd] at c4
      rw [if_neg (by rw [hd]; decide)]
      replace hd := Lib.hid hd
      have kr := room_any h hf (by omega)
      by_cases h3 : roomL l d < 2 + (r.size : Int)
      · rw [if_pos h3]
        have q3 : decide (roomL l d < 2 + (r.size : Int)) = true := decide_eq_true h3
        have fin := Lib.hid (fun n => npost_stay h 72 (n := n))
        generalize roomL l d = RM at kr q3
        replace kr := Lib.hid kr
        clear h hf hn h3
        go_enter Tryz.func5, Tryz.ntmps5
        go_wp2_with fail
        refine kr.out.mono ?_
        rintro en w1 ⟨rfl, n1, rfl⟩
        go_wp2_with fail
        go_ret
        exact fin.out n1
      · rw [if_neg h3]
        have q3 : decide (roomL l d < 2 + (r.size : Int)) = false := decide_eq_false h3
        have hroom : (enc l.list).size + 2 + r.size ≤ 64 * halfD d := by unfold roomL at h3; omega
        have hfs : firstL l.gen d ≤ 8193 := by
          unfold firstL
          have : l.gen % 2 < 2 := Nat.mod_lt _ (by decide)
          have h2 : l.gen % 2 * halfD d ≤ 1 * halfD d := Nat.mul_le_mul_right _ (by omega)
          omega
        obtain ⟨B, hB⟩ : ∃ B, B = enc (l.list ++ [r]) := ⟨_, rfl⟩
        have hBs : B.size = (enc l.list).size + 2 + r.size := by rw [hB, enc_snoc, ByteArray.size_append, enc1_size]; omega
        have hBe : (enc l.list ++ num r.size 2) ++ r = B := by rw [hB, enc_snoc, enc1, ByteArray.append_assoc]
        unfold appendTo
        rw [← hB]
        obtain ⟨WL, hWL⟩ : ∃ WL, WL = wloop l (firstL l.gen d) B (many B - (enc l.list).size / 64) ((enc l.list).size / 64) d := ⟨_, rfl⟩
        rw [← hWL]
        obtain ⟨T, hT⟩ : ∃ T, T = laidOut l r B.size WL := ⟨_, rfl⟩
        rw [← hT]
        obtain ⟨f0, hf0⟩ : ∃ f0, f0 = (enc l.list).size / 64 := ⟨_, rfl⟩
        have hfq : ((enc l.list).size : Int) / 64 = (f0 : Int) := by omega
        have hfB : 64 * f0 ≤ B.size := by omega
        have kp := Lib.hid (fun W => put_any r.size 2 (by decide) W)
        have k1 := fun W (hW : PL F W a b l d) => first_any hW hf l.gen
        have z2 : (num r.size 2).size ≤ 2 := Nat.le_of_eq (num_size _ _)
        rw [← hf0] at hWL
        obtain ⟨E, hE⟩ : ∃ E, E = enc l.list := ⟨_, rfl⟩
        have c2 : ∀ W, PL F W a b l d → W.cell? ⟨a, 2, none⟩ = some (.string E) := fun W hW => by rw [hE]; obtain ⟨_, _, hc⟩ := hW; exact hc.cells.2.2.1
        rw [← hE] at hz hroom hBs hBe hfq
        have hEz : E.size ≤ 524288 := by omega
        have hBz : B.size ≤ 524288 := by omega
        generalize num r.size 2 = P2 at kp z2 hBe
        have hn1 : ¬ 9223372036854775807 < E.size + P2.size := by omega
        have hn2 : ¬ 9223372036854775807 < E.size + P2.size + r.size := by omega
        have hn3 : ¬ 9223372036854775807 < (E ++ P2).size + r.size := by rw [ByteArray.size_append]; omega
        replace hBe := Lib.hid hBe
        replace hB := Lib.hid hB
        replace hBs := Lib.hid hBs
        replace hWL := Lib.hid hWL
        replace hT := Lib.hid hT
        replace hE := Lib.hid hE
        replace hf0 := Lib.hid hf0
        replace kr := Lib.hid kr
        replace c2 := Lib.hid c2
        replace k1 := Lib.hid k1
        replace h := Lib.hid h
        clear h3 hroom
        generalize roomL l d = RM at kr q3
        have hb := Below.refl w.heap.size w
        go_enter Tryz.func5, Tryz.ntmps5
        go_wp2_with fail
        refine kr.out.mono ?_
        rintro en w1 ⟨rfl, n1, rfl⟩
        replace hb := below_drewN hb n1
        have c2w := c2.out _ (h.out.below hb)
        go_upto_region 8 with fail
        clear c2w
        replace hb := hb.drew
        have hs := hb.size
        have e0 : (w.drewN n1).drew.cell? ⟨a, 2, none⟩ = some (.string E) := c2.out _ (h.out.below hb)
        go_region_held3 (fun w' => w'.cell? ⟨a, 2, none⟩ = some (.string E))
          (first
            | exact e0
            | exact n0
            | go_keep)
          (first
            | (go_at_call 36; refine (kp.out _).mono ?_; rintro e w2 ⟨rfl, b2⟩; have hb2 := Lib.hid (hb.trans (b2.mono hs)); have n0 := c2.out _ (h.out.below hb2.out)))
        rw [hBe.out]
        clear e0 n0
        have t1 : ((f0 : Int) * 64).toNat = 64 * f0 := by omega
        have t2 : (f0 : Int) * 64 ≤ (B.size : Int) := by omega
        have t3 : 0 ≤ (f0 : Int) * 64 := by omega
        have hf14 : f0 ≤ 8192 := by omega
        have hmany : many B ≤ 8193 := by unfold many; omega
        have hfm : f0 ≤ many B := by unfold many; omega
        replace hmany := Lib.hid hmany
        replace hfm := Lib.hid hfm
        have st := Lib.hid (show ∃ F', PL F' w2 a b l d ∧ Keeps F w w2 ∧ ∀ i, F' i → F i ∨ w.heap.size ≤ i from ⟨F, h.out.below hb2.out, Keeps.of_below F hb2.out, fun _ hi => Or.inl hi⟩)
        go_wp2_with fail
        clear t1 t2 t3
        go_loopw [7, 8] (fun v t wr => ∃ (i : Nat) (d2 : Dk), f0 ≤ i ∧ i ≤ many B ∧ t = .int .i64 (i : Int) ∧ v = .string (B.extract (64 * i) B.size) ∧ (∃ F', PL F' wr a b l d2 ∧ Keeps F w wr ∧ ∀ i, F' i → F i ∨ w.heap.size ≤ i) ∧ Fit d2 ∧ NumTo (m + (i - f0)) d2 ∧ d2.stays.length = d.stays.length ∧ WL = wloop l (firstL l.gen d) B (many B - i) i d2) (fun _ t _ => many B - (intOf t).toNat)
        case atStart => exact ⟨f0, d, Nat.le_refl _, hfm.out, rfl, rfl, st.out, hf, by simpa using hn, rfl, hWL.out⟩
        case round =>
          clear st
          obtain ⟨i, d2, hi0, hi1, rfl, rfl, ⟨F2, hp, kk, hF2⟩, hf2, hn2', hlen, hWi⟩ := hrel
          by_cases hlt : 64 * i < B.size
          · have hk : many B - i = (many B - (i + 1)) + 1 := by unfold many; omega
            have hfs2 : firstL l.gen d2 = firstL l.gen d := by unfold firstL halfD; rw [hlen]
            have hRz := rest_size B i (by omega)
            have hck := ck_size B i
            have hrh := rest_head B i hlt
            have hrt := rest_tail B i
            obtain ⟨nn, hnn⟩ : ∃ nn, nn = min (B.size - 64 * i) 64 := ⟨_, rfl⟩
            rw [← hnn] at hck hrh hrt
            obtain ⟨zz, hzz⟩ : ∃ zz, zz = 64 - nn := ⟨_, rfl⟩
            have hSC : B.extract (64 * i) (64 * i + 64) ++ noughts zz = sect B i := by unfold sect; rw [hck, hzz]
            obtain ⟨SC, hSCe⟩ : ∃ SC, SC = sect B i := ⟨_, rfl⟩
            rw [← hSCe] at hSC
            obtain ⟨R, hR⟩ : ∃ R, R = writeD d2 ((firstL l.gen d + i : Nat) : Int) SC := ⟨_, rfl⟩
            have hstep := wloop_succ l (firstL l.gen d) B (many B - (i + 1)) i d2 (R := R) (by rw [hR, hSCe])
            rw [hk, hstep] at hWi
            have hw := fun W G' (hd : IsDk G' W b d2) => write_any hd (hn2'.num (by omega)) hf2 ((firstL l.gen d + i : Nat) : Int) SC
            rw [← hR] at hw
            have hfR : Fit R.1 := by rw [hR]; exact hf2.write _ _
            have hnR : NumTo (m + (i + 1 - f0)) R.1 := by rw [hR]; exact (hn2'.write _ _).mono (by omega)
            have hlR : R.1.stays.length = d.stays.length := by rw [hR, writeD_len, hlen]
            have kz := Lib.hid (fun W => noughts_any zz (by omega) W)
            have kf : ∀ W F', PL F' W a b l d2 → Calls Tryz.prog 39 #[.pointer (some ⟨a, 0, none⟩), .int .i64 (l.gen : Int)] W fun e w' => e = .returned (.int .i64 (firstL l.gen d : Int)) ∧ w' = W := fun W F' hW => by
              have := first_any hW hf2 l.gen
              rw [hfs2] at this
              exact this
            generalize hfse : firstL l.gen d = fs at *
            replace hfse := Lib.hid hfse
            have hRS0 : RSne (B.extract (64 * i) B.size) := rsne (by omega)
            generalize hRSe : B.extract (64 * i) B.size = RS at *
            replace hRSe := Lib.hid hRSe
            generalize hCe : B.extract (64 * i) (64 * i + 64) = C at *
            replace hCe := Lib.hid hCe
            have hZz : (noughts zz).size = zz := noughts_size _
            generalize noughts zz = Z at *
            have hmin : min (RS.size : Int) 64 = (nn : Int) := by omega
            have hsub : 64 - (nn : Int) = (zz : Int) := by omega
            have ho1 : ¬ 9223372036854775807 < C.size + Z.size := by omega
            have l1 : (nn : Int) ≤ (RS.size : Int) := by omega
            have l2 : (0 : Int) ≤ (nn : Int) := by omega
            have s1 : IntKind.i64.wrap ((fs : Int) + (i : Int)) = ((fs + i : Nat) : Int) := by rw [IntWalk.i64_in _ (by omega)]; simp
            have s2 : IntKind.i64.wrap ((64 : Int) - (nn : Int)) = (zz : Int) := by rw [IntWalk.i64_in _ (by omega)]; exact hsub
            obtain ⟨hne1, hne2⟩ := hRS0
            replace hrh := Lib.hid hrh
            replace hrt := Lib.hid hrt
            replace hRz := Lib.hid hRz
            replace hck := Lib.hid hck
            replace hZz := Lib.hid hZz
            replace hnn := Lib.hid hnn
            replace hzz := Lib.hid hzz
            replace hSC := Lib.hid hSC
            replace hSCe := Lib.hid hSCe
            replace hR := Lib.hid hR
            replace kf := Lib.hid kf
            replace hp := Lib.hid hp
            replace hF2 := Lib.hid hF2
            replace kk := Lib.hid kk
            replace hlR := Lib.hid hlR
            replace hlen := Lib.hid hlen
            replace hk := Lib.hid hk
            clear hstep hn2' hf2 hfs2 hsub
            by_cases hz : R.2 = 0
            · rw [if_neg (fun hh => hh hz)] at hWi
              rw [hz] at hw
              replace hWi := Lib.hid hWi
              replace hw := Lib.hid hw
              replace hz := Lib.hid hz
              replace s1 := Lib.hid s1
              go_upto_region 14 with fail
              have hrh' := hrh.out
              clear hmin hn1 hn2 hn3 hne1 hne2
              go_region_held3 (fun _ => True)
                (first
                  | exact trivial
                  | go_keep)
                (first
                  | (go_at_call 37; refine (kz.out _).mono ?_; rintro e w3 ⟨rfl, b3⟩))
              rw [hSC.out]
              clear hrh' ho1 s2
              have b03 := (drewX wr).trans b3
              have kk3 := kk.out.same (Keeps.of_below F b03)
              have hF3 : ∀ i, F2 i → F i ∨ w.heap.size ≤ i := hF2.out
              have hp3 := hp.out.below b03
              clear b03 b3
              go_upto_region 15 with fail
              have kk4 : Keeps F w w3.drew := kk3.drewN 1
              obtain ⟨G4, v4, hp4⟩ := hp3.below (drewX w3)
              have e0 : w3.drew.cell? ⟨a, 0, none⟩ = some (.pointer (some ⟨b, 0, none⟩)) := hp4.cells.1
              have e1 : w3.drew.cell? ⟨a, 1, none⟩ = some (.int .i64 (l.gen : Int)) := hp4.cells.2.1
              have s1' := s1.out
              replace hp4 := Lib.hid hp4
              replace kk4 := Lib.hid kk4
              replace hF3 := Lib.hid hF3
              clear hp3 kk3
              go_region_held3 (fun w' => w'.cell? ⟨a, 0, none⟩ = some (.pointer (some ⟨b, 0, none⟩)) ∧ w'.cell? ⟨a, 1, none⟩ = some (.int .i64 (l.gen : Int)))
                (first
                  | exact ⟨e0, e1⟩
                  | exact ⟨n0, n1⟩
                  | exact ⟨o0, o1⟩
                  | go_keep)
                (first
                  | (go_at_call 39; refine (kf.out _ _ hp4.out.pl).mono ?_; rintro e w4 ⟨rfl, hw4⟩; replace hw4 := hw4.symm; subst hw4)
                  | (go_at_call 22; refine (hw.out _ _ hp4.out.dk).mono ?_; rintro e w5 ⟨rfl, G5, hd5, kk5, hG5⟩; have h5 := Lib.hid (hp4.out.disk hd5 kk5 hG5); obtain ⟨n0, n1⟩ := And.intro h5.out.cells.1 h5.out.cells.2.1; have f5 := Lib.hid (kk5.mono hp4.out.fg); have g5 := Lib.hid hG5)
                  | (go_at_call 38; refine (told_any h5.out.pl _).mono ?_; rintro e w6 ⟨rfl, h6, k6⟩; obtain ⟨o0, o1⟩ : w6.cell? ⟨a, 0, none⟩ = some (.pointer (some ⟨b, 0, none⟩)) ∧ w6.cell? ⟨a, 1, none⟩ = some (.int .i64 (l.gen : Int)) := (by obtain ⟨_, _, hc⟩ := h6; exact ⟨hc.cells.1, hc.cells.2.1⟩)))
              have hF5 : ∀ i, (F2 i ∨ G5 i) → F i ∨ w.heap.size ≤ i := fun i hi => hi.elim (hF3.out i) (fun hi => (g5.out i hi).elim (fun hg => hF3.out i (hp4.out.fg i hg)) (fun hle => Or.inr (Nat.le_trans kk4.out.size hle)))
              have kk6 : Keeps F w w6 := (kk4.out.trans f5.out hF3.out).trans k6 hF5
              clear e0 e1 n0 n1 o0 o1 h5 f5 g5 k6 kk4 hp4 hd5 kk5 hG5
              replace hF5 := Lib.hid hF5
              replace kk6 := Lib.hid kk6
              clear s1' s1
              rw [tell_zero] at h6
              replace h6 := Lib.hid h6
              have hrt' := hrt.out
              go_wp2_with fail
              exact ⟨⟨i + 1, R.1, by omega, by unfold many; omega, rfl, rfl, ⟨_, h6.out, kk6.out, hF5.out⟩, hfR, hnR, hlR.out, hWi.out⟩, by simp [intOf]; unfold many; omega⟩
            · rw [if_pos hz] at hWi
              have hz' : (R.2 != 0) = true := by simpa using hz
              replace hWi := Lib.hid hWi
              replace hw := Lib.hid hw
              replace hz := Lib.hid hz
              replace s1 := Lib.hid s1
              go_upto_region 14 with fail
              have hrh' := hrh.out
              clear hmin hn1 hn2 hn3 hne1 hne2
              go_region_held3 (fun _ => True)
                (first
                  | exact trivial
                  | go_keep)
                (first
                  | (go_at_call 37; refine (kz.out _).mono ?_; rintro e w3 ⟨rfl, b3⟩))
              rw [hSC.out]
              clear hrh' ho1 s2
              have b03 := (drewX wr).trans b3
              have kk3 := kk.out.same (Keeps.of_below F b03)
              have hF3 : ∀ i, F2 i → F i ∨ w.heap.size ≤ i := hF2.out
              have hp3 := hp.out.below b03
              clear b03 b3
              go_upto_region 15 with fail
              have kk4 : Keeps F w w3.drew := kk3.drewN 1
              obtain ⟨G4, v4, hp4⟩ := hp3.below (drewX w3)
              have e0 : w3.drew.cell? ⟨a, 0, none⟩ = some (.pointer (some ⟨b, 0, none⟩)) := hp4.cells.1
              have e1 : w3.drew.cell? ⟨a, 1, none⟩ = some (.int .i64 (l.gen : Int)) := hp4.cells.2.1
              have s1' := s1.out
              replace hp4 := Lib.hid hp4
              replace kk4 := Lib.hid kk4
              replace hF3 := Lib.hid hF3
              clear hp3 kk3
              go_region_held3 (fun w' => w'.cell? ⟨a, 0, none⟩ = some (.pointer (some ⟨b, 0, none⟩)) ∧ w'.cell? ⟨a, 1, none⟩ = some (.int .i64 (l.gen : Int)))
                (first
                  | exact ⟨e0, e1⟩
                  | exact ⟨n0, n1⟩
                  | exact ⟨o0, o1⟩
                  | go_keep)
                (first
                  | (go_at_call 39; refine (kf.out _ _ hp4.out.pl).mono ?_; rintro e w4 ⟨rfl, hw4⟩; replace hw4 := hw4.symm; subst hw4)
                  | (go_at_call 22; refine (hw.out _ _ hp4.out.dk).mono ?_; rintro e w5 ⟨rfl, G5, hd5, kk5, hG5⟩; have h5 := Lib.hid (hp4.out.disk hd5 kk5 hG5); obtain ⟨n0, n1⟩ := And.intro h5.out.cells.1 h5.out.cells.2.1; have f5 := Lib.hid (kk5.mono hp4.out.fg); have g5 := Lib.hid hG5)
                  | (go_at_call 38; refine (told_any h5.out.pl _).mono ?_; rintro e w6 ⟨rfl, h6, k6⟩; obtain ⟨o0, o1⟩ : w6.cell? ⟨a, 0, none⟩ = some (.pointer (some ⟨b, 0, none⟩)) ∧ w6.cell? ⟨a, 1, none⟩ = some (.int .i64 (l.gen : Int)) := (by obtain ⟨_, _, hc⟩ := h6; exact ⟨hc.cells.1, hc.cells.2.1⟩)))
              have hF5 : ∀ i, (F2 i ∨ G5 i) → F i ∨ w.heap.size ≤ i := fun i hi => hi.elim (hF3.out i) (fun hi => (g5.out i hi).elim (fun hg => hF3.out i (hp4.out.fg i hg)) (fun hle => Or.inr (Nat.le_trans kk4.out.size hle)))
              have kk6 : Keeps F w w6 := (kk4.out.trans f5.out hF3.out).trans k6 hF5
              clear e0 e1 n0 n1 o0 o1 h5 f5 g5 k6 kk4 hp4 hd5 kk5 hG5
              replace hF5 := Lib.hid hF5
              replace kk6 := Lib.hid kk6
              clear s1' s1
              have hTW : T = (tell l R.2, R) := by
                rw [hT.out, hWi.out]
                unfold laidOut
                exact if_pos hz.out
              replace h6 := Lib.hid h6
              replace hTW := Lib.hid hTW
              go_wp2_with fail
              go_ret
              rw [hTW.out]
              exact ⟨rfl, _, h6.out, kk6.out, hF5.out⟩
          · have him : i = many B := by unfold many at hi1 ⊢; omega
            rw [him, Nat.sub_self] at hWi
            have hWi' : WL = (l, d2, 0) := hWi
            have hem : B.extract (64 * i) B.size = ⟨#[]⟩ := ext_empty (by omega)
            rw [hem]
            have hT2 : T = headed l r B.size (synced l d2) := by rw [hT.out, hWi']; rfl
            obtain ⟨S2, hS2⟩ : ∃ S2, S2 = syncD d2 := ⟨_, rfl⟩
            have hT3 : T = if S2.2 ≠ 0 then (tell l S2.2, S2) else kept l r (headsL l S2.1 l.gen B.size) := by rw [hT2, hS2]; rfl
            have hfS : Fit S2.1 := by rw [hS2]; exact hf2.sync
            have hnS : NumTo (m + (i - f0) + 1) S2.1 := by rw [hS2]; exact hn2'.sync
            have hsy := fun W G' (hd : IsDk G' W b d2) => sync_any hd (hn2'.num (by have := hmany.out; omega)) hf2
            rw [← hS2] at hsy
            obtain ⟨G2, v2, hp⟩ := hp
            have e0 : wr.cell? ⟨a, 0, none⟩ = some (.pointer (some ⟨b, 0, none⟩)) := hp.cells.1
            replace hS2 := Lib.hid hS2
            replace hT2 := Lib.hid hT2
            replace hWi' := Lib.hid hWi'
            replace hem := Lib.hid hem
            replace hlen := Lib.hid hlen
            replace hp := Lib.hid hp
            replace kk := Lib.hid kk
            replace hF2 := Lib.hid hF2
            replace him := Lib.hid him
            have hmb : m + (i - f0) + 1 ≤ 950000 := by have := hmany.out; have := him.out; omega
            clear hWi hn2' hf2 hlt
            by_cases hz : S2.2 = 0
            · rw [if_neg (fun hh => hh hz)] at hT3
              rw [hz] at hsy
              replace hsy := Lib.hid hsy
              replace hz := Lib.hid hz
              replace hT3 := Lib.hid hT3
              go_wp2_with fail
              refine (hsy.out _ _ hp.out.dk).mono ?_
              rintro en w3 ⟨rfl, hd3, k3⟩
              have h3 := hp.out.disk hd3 k3 (fun i hi => Or.inl hi)
              have kk3 := kk.out.trans (k3.mono hp.out.fg) hF2.out
              have hF3 : ∀ i, (F2 i ∨ G2 i) → F i ∨ w.heap.size ≤ i := fun i hi => hi.elim (hF2.out i) (fun hi => hF2.out i (hp.out.fg i hi))
              clear hd3 k3 e0
              replace h3 := Lib.hid h3
              replace kk3 := Lib.hid kk3
              replace hF3 := Lib.hid hF3
              go_wp2_with fail
              refine (told_any h3.out.pl _).mono ?_
              rintro en w4 ⟨rfl, h4, k4⟩
              have kk4 := kk3.out.trans k4 hF3.out
              replace kk4 := Lib.hid kk4
              clear k4 h3 kk3
              rw [tell_zero] at h4
              have kh := heads_any h4 hfS hnS (by omega) l.gen B.size
              have hHl := headsL_ok (l := l) (d := S2.1) (g := l.gen) (u := B.size)
              obtain ⟨HH, hHH⟩ : ∃ HH, HH = headsL l S2.1 l.gen B.size := ⟨_, rfl⟩
              rw [← hHH] at kh hHl
              have e1 : w4.cell? ⟨a, 1, none⟩ = some (.int .i64 (l.gen : Int)) := by obtain ⟨_, _, hc⟩ := h4; exact hc.cells.2.1
              have hT4 : T = kept l r HH := by rw [hT3.out, hHH]
              replace hHH := Lib.hid hHH
              replace hT4 := Lib.hid hT4
              replace kh := Lib.hid kh
              clear h4
              by_cases hq : HH.2.2 = 0
              · have hTH : T = ({ l with list := l.list ++ [r] }, HH.2) := by rw [hT4.out]; unfold kept; exact if_neg (fun hh => hh hq)
                have hHl1 := hHl hq
                clear hHl
                replace hTH := Lib.hid hTH
                replace hHl1 := Lib.hid hHl1
                have kh2 := kh.out.mono (fun e w' (hh : NPost _ _ _ _ HH e w') => And.intro (hh.1.trans (show Ending.returned (.int .i64 HH.2.2) = .returned (.int .i64 0) by rw [hq])) hh.2)
                replace kh := Lib.hid kh2
                clear kh2
                replace hq := Lib.hid hq
                go_wp2_with fail
                refine kh.out.mono ?_
                rintro en w5 ⟨rfl, F5, h5, k5, hF5⟩
                rw [hHl1.out] at h5
                have kk5 := kk4.out.trans k5 hF3.out
                have hF6 : ∀ i, F5 i → F i ∨ w.heap.size ≤ i := fun i hi => (hF5 i hi).elim (hF3.out i) (fun hle => Or.inr (Nat.le_trans kk4.out.size hle))
                obtain ⟨G5, v5, h5⟩ := h5
                obtain ⟨A5, c5, rfl⟩ := own_slice h5.row
                have c2a := h5.cells.2.2.1
                have f2a := h5.blk.free 2
                have k6 := (Keeps.refl (fun j => j = a) w5).put (g := a) (Or.inl rfl) 2 (.string B)
                have row6 := own_keeps h5.row k6 h5.va
                have blk6 : Blk (w5.setCell ⟨a, 2, none⟩ (.string B)) a 62 #[.pointer (some ⟨b, 0, none⟩), .int .i64 (l.gen : Int), .string B, .slice A5 l.list.length c5, .bool l.dead] := h5.blk.put 2 (.string B)
                have c3a : (w5.setCell ⟨a, 2, none⟩ (.string B)).cell? ⟨a, 3, none⟩ = some (.slice A5 l.list.length c5) := blk6.cell 3
                have kc := clone_row row6 (by omega)
                have hH6 : ∀ i, F5 i → i < (w5.setCell ⟨a, 2, none⟩ (.string B)).heap.size := fun i hi => Nat.lt_of_lt_of_le (h5.lt i hi) k6.size
                generalize hw6 : w5.setCell ⟨a, 2, none⟩ (.string B) = w6 at k6 row6 blk6 c3a kc hH6
                replace h5 := Lib.hid h5
                replace kk5 := Lib.hid kk5
                replace hF6 := Lib.hid hF6
                replace k6 := Lib.hid k6
                replace blk6 := Lib.hid blk6
                replace kc := Lib.hid kc
                replace hH6 := Lib.hid hH6
                clear k5 hF5 row6 kh
                obtain ⟨i0, hinf, hz0, hz1, hz2⟩ := info_parts infoS
                go_wp2_with fail
                refine kc.out.mono ?_
                rintro en w7 ⟨A7, c7, rfl, o7, b7⟩
                have blk7 := below_blk blk6.out b7
                have hs7 := b7.size
                have o7a := o7.alloc (.cells #[.string r] 9)
                have blk7a := blk7.alloc (.cells #[.string r] 9)
                have k7 := k6.out.same (Keeps.of_below _ (b7.alloc b7.size (.cells #[.string r] 9)))
                have hal : a < w6.heap.size := blk6.out.lt
                have hoa : some a ≠ (Value.slice A7 l.list.length c7).ownBlock := fun e => by have := (o7.lt a e.symm).1; omega
                replace o7a := Lib.hid o7a
                replace blk7a := Lib.hid blk7a
                replace k7 := Lib.hid k7
                clear o7 b7 blk7 k6
                go_wp2_with (first
                  | (at_builtin; refine wpList_append_own _ rfl (.tmp 117) (.tmp 119) _ rfl w6.heap.size 9 i0 (.string ⟨#[]⟩) 1 16 Tryz.underlying45 hinf hz0 hz1 hz2 rfl (by decide) (.slice A7 l.list.length c7) l.list.length _ rfl o7a.out ⟨w7.heap.size, 0, none⟩ 1 1 [.string r] rfl rfl (cell_one_new _ _ _) (by simp [Value.oneCell']) (by unfold maxLen; omega) (by omega) (by simp; omega) ?_; intro v8 w8 o8 g8 n8; obtain ⟨A8, c8, rfl⟩ := own_slice o8; have blk8 := blk7a.out.grown g8 hoa; have c3b : w8.cell? ⟨a, 3, none⟩ = some (.slice A5 l.list.length c5) := blk8.cell 3; have f3b := blk8.free 3; have o8h := Lib.hid o8; have g8h := Lib.hid g8; have blk8h := Lib.hid blk8; clear o8 g8 n8 blk8))
                have hA8 : ∀ j, (Value.slice A8 (l.list.length + 1) c8).ownBlock = some j → w6.heap.size ≤ j := fun j e => (o8h.out.lt j e).1
                have o9 := own_far (P := a) (i := 3) (u := .slice A8 (l.list.length + 1) c8) o8h.out (fun j e => by have := hA8 j e; omega)
                have hB9 := blk8h.out.put 3 (.slice A8 (l.list.length + 1) c8)
                have h56 : w5.heap.size ≤ w6.heap.size := by rw [← hw6]; simp
                have k9 := (k7.out.trans (Keeps.of_grown (F := fun j => (Value.slice A7 l.list.length c7).ownBlock = some j) g8h.out (fun j e => e)) (fun j e => Or.inr (by have := (o7a.out.lt j e).1; omega))).put (g := a) (Or.inl rfl) 3 (.slice A8 (l.list.length + 1) c8)
                have hl2 : (⟨l.gen, l.list ++ [r], l.dead⟩ : Lg).list.length = l.list.length + 1 := by simp
                have fin := PCore.relist (v2 := .slice A8 (l.list.length + 1) c8) (l2 := ⟨l.gen, l.list ++ [r], l.dead⟩) h5.out (by rw [hl2, List.map_append]; exact o9) hH6.out (by
                  have e : lgc b (.slice A8 (l.list.length + 1) c8) ⟨l.gen, l.list ++ [r], l.dead⟩ = #[.pointer (some ⟨b, 0, none⟩), .int .i64 (l.gen : Int), .string B, .slice A8 (l.list.length + 1) c8, .bool l.dead] := by rw [hB.out]; rfl
                  rw [e]
                  exact hB9) k9
                have kk9 := kk5.out.trans fin.2 hF6.out
                have hF9 : ∀ i, (F5 i ∨ (Value.slice A8 (l.list.length + 1) c8).ownBlock = some i) → F i ∨ w.heap.size ≤ i := fun i hi => hi.elim (hF6.out i) (fun e => Or.inr (by have := hA8 i e; have := kk5.out.size; omega))
                have p9 := fin.1
                replace kk9 := Lib.hid kk9
                replace hF9 := Lib.hid hF9
                replace p9 := Lib.hid p9
                clear fin k9 hl2 hB9 o9 hA8 o8h g8h blk8h c3b f3b
                go_wp2_with fail
                go_ret
                rw [hTH.out]
                exact ⟨by rw [hq.out]; rfl, _, p9.out, kk9.out, hF9.out⟩
              · have hTH : T = HH := by rw [hT4.out]; unfold kept; exact if_pos hq
                have hq' : (HH.2.2 != 0) = true := by simpa using hq
                replace hTH := Lib.hid hTH
                replace hHl := Lib.hid hHl
                clear hq
                go_wp2_with fail
                refine kh.out.mono ?_
                rintro en w5 ⟨rfl, F5, h5, k5, hF5⟩
                have kk5 := kk4.out.trans k5 hF3.out
                have hF6 : ∀ i, F5 i → F i ∨ w.heap.size ≤ i := fun i hi => (hF5 i hi).elim (hF3.out i) (fun hle => Or.inr (Nat.le_trans kk4.out.size hle))
                replace h5 := Lib.hid h5
                replace kk5 := Lib.hid kk5
                replace hF6 := Lib.hid hF6
                clear k5 hF5
                go_wp2_with fail
                go_ret
                rw [hTH.out]
                exact ⟨rfl, _, h5.out, kk5.out, hF6.out⟩
            · rw [if_pos hz] at hT3
              have hz' : (S2.2 != 0) = true := by simpa using hz
              replace hsy := Lib.hid hsy
              replace hz := Lib.hid hz
              replace hT3 := Lib.hid hT3
              go_wp2_with fail
              refine (hsy.out _ _ hp.out.dk).mono ?_
              rintro en w3 ⟨rfl, hd3, k3⟩
              have h3 := hp.out.disk hd3 k3 (fun i hi => Or.inl hi)
              have kk3 := kk.out.trans (k3.mono hp.out.fg) hF2.out
              have hF3 : ∀ i, (F2 i ∨ G2 i) → F i ∨ w.heap.size ≤ i := fun i hi => hi.elim (hF2.out i) (fun hi => hF2.out i (hp.out.fg i hi))
              clear hd3 k3 e0
              replace h3 := Lib.hid h3
              replace kk3 := Lib.hid kk3
              replace hF3 := Lib.hid hF3
              go_wp2_with fail
              refine (told_any h3.out.pl _).mono ?_
              rintro en w4 ⟨rfl, h4, k4⟩
              have kk4 := kk3.out.trans k4 hF3.out
              replace kk4 := Lib.hid kk4
              clear k4 h3 kk3
              replace h4 := Lib.hid h4
              go_wp2_with fail
              go_ret
              rw [hT3.out]
              exact ⟨rfl, _, h4.out, kk4.out, hF3.out⟩
end
end Go.Proofs.YtojhlijcinenoaaGreatDoor.Nv

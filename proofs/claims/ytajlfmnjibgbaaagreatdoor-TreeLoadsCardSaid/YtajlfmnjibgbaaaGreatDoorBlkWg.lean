/- The volume's Read. -/
import Derived.Test.YtajlfmnjibgbaaaGreatDoorBlkWd
import Derived.Test.YtajlfmnjibgbaaaGreatDoorBuilder
namespace Go.Proofs.YtajlfmnjibgbaaaGreatDoor.Vl
open Go Go.RowKit Go.Maps Mem Disk Nv
set_option maxRecDepth 100000 in
theorem keeps_at {B : Nat} {w w' : World} (h : Below B w w') : Keeps (fun i => B ≤ i) w w' := ⟨h.os, h.tape, h.output, h.size, fun k _ hn => h.block k (by omega)⟩
set_option maxRecDepth 100000 in
theorem is_keeps {B b : Nat} {bs : List Value} {w w' : World} {F : Nat → Prop} (h : Bld.Is B b bs w) (hk : Keeps F w w') (hF : ∀ i, F i → i < B) : Bld.Is B b bs w' := by
  have key : ∀ p, Bld.At B b p bs w → Bld.At B b p bs w' := fun p h => by
    have hlt := h.lt
    obtain ⟨hB, v, hbk, hown, hne⟩ := h
    exact ⟨hB, v, (hk.block b hlt (fun hf => by have := hF b hf; omega)).trans hbk, own_keeps hown hk (fun j e hf => by have := hF j hf; have := (hown.lt j e).1; omega), hne⟩
  rcases h with h | h
  · exact Or.inl (key _ h)
  · exact Or.inr (key _ h)
section
variable {F G H K : Nat → Prop} {w w' : World} {a b c m : Nat} {v v' : Vo} {d d' : Dk}
/-- what Read comes to -/
def VRead (F : Nat → Prop) (w : World) (a b : Nat) (d : Dk) (r : Vo × ByteArray × Int) (e : Ending) (w' : World) : Prop :=
  e = .returned (.tuple #[.string r.2.1, .int .i64 r.2.2]) ∧ ∃ F', PV F' w' a b r.1 d ∧ Keeps F w w' ∧ ∀ i, F' i → F i ∨ w.heap.size ≤ i
set_option maxRecDepth 100000 in
theorem vread_same (h : PV F w a b v d) (s : ByteArray) (x : Int) : VRead F w a b d (v, s, x) (.returned (.tuple #[.string s, .int .i64 x])) w := ⟨rfl, F, h, Keeps.refl _ _, fun _ hi => Or.inl hi⟩
set_option maxRecDepth 100000 in
set_option maxHeartbeats 16000000 in
theorem vread_any (h : VC F G H w a b c v d) (hf : Fit d) (n : Int) : Calls Tryz.prog 160 #[.pointer (some ⟨a, 0, none⟩), .int .i64 n] w (VRead F w a b d (readV v d n)) := by
  have km := Lib.hid (vmay_any h hf n)
  obtain ⟨Z, hZ⟩ : ∃ Z, Z = readV v d n := ⟨_, rfl⟩
  rw [← hZ]
  obtain ⟨_, _, _, c3, c4⟩ := h.cells
  by_cases hmay : mayV d n
  · have q1 : decide (mayV d n) = true := decide_eq_true hmay
    rw [q1] at km
    rcases Bool.eq_false_or_eq_true v.dead with hd | hd
    · have e1 := Lib.hid (hZ.trans ((if_neg (fun hh => hh hmay)).trans (if_pos hd)))
      rw [hd] at c4
      have fin := Lib.hid (vread_same h.pv ⟨#[]⟩ 2)
      clear h hf hZ hd q1 hmay
      go_enter Tryz.func160, Tryz.ntmps160
      go_wp2_with fail
      refine (km.out).mono ?_
      rintro en w' ⟨rfl, hw'⟩
      replace hw' := hw'.symm
      subst hw'
      go_wp2_with fail
      go_ret2
      rw [e1.out]
      exact fin.out
    · rw [hd] at c4
      have hd' : ¬ v.dead = true := by rw [hd]; decide
      obtain ⟨k, rfl⟩ := Int.eq_ofNat_of_zero_le (show 0 ≤ n by have := hmay.1; omega)
      have hk : k < 4097 := by
        have h1 := hmay.2
        have h2 := hf.few
        unfold blocksD at h1
        omega
      have e1 : Z = readF v d k (find v.L k) := hZ.trans ((if_neg (fun hh => hh hmay)).trans (if_neg hd'))
      cases hfd : find v.L k with
      | some s =>
        have e2 := Lib.hid (show Z = ({ v with L := touchK v.L k s }, s, 0) from e1.trans (by rw [hfd]; rfl))
        have kg := Lib.hid (cget_yes h.ca (by omega) hfd)
        replace h := Lib.hid h
        clear hf hZ hd q1 hmay e1 hd' hfd
        go_enter Tryz.func160, Tryz.ntmps160
        go_wp2_with fail
        refine (km.out).mono ?_
        rintro en w' ⟨rfl, hw'⟩
        replace hw' := hw'.symm
        subst hw'
        go_wp2_with fail
        refine kg.out.mono ?_
        rintro e w1 ⟨rfl, h1, k1⟩
        have hv := Lib.hid (h.out.cache h1 k1 (fun i hi => Or.inl hi))
        have kk := Lib.hid (k1.mono h.out.fh)
        have hfh := Lib.hid h.out.fh
        clear h1 k1
        go_wp2_with fail
        go_ret2
        exact ⟨by rw [e2.out]; rfl, _, by rw [e2.out]; exact hv.out.pv, kk.out, fun i (hi : F i ∨ H i) => Or.inl (hi.elim id (hfh.out i))⟩
      | none =>
        have e2 : Z = readG v k (collectD d (4 * k) 4 0 ⟨#[]⟩) := e1.trans (by rw [hfd]; rfl)
        have kg := Lib.hid (cget_no h.ca (by omega) hfd)
        have hlt := Lib.hid h.lt
        have hfh := Lib.hid h.fh
        have n1 := Bld.fresh w
        have b1 : Below w.heap.size w (w.alloc (.cells #[.pointer none, .slice none 0 0] 81)) := (Below.refl _ w).alloc (Nat.le_refl _) _
        have h1 := h.below b1
        have kk1 := Keeps.of_below F b1
        replace e2 := Lib.hid e2
        replace n1 := Lib.hid n1
        replace h1 := Lib.hid h1
        replace kk1 := Lib.hid kk1
        replace hf := Lib.hid hf
        clear hZ hd q1 hmay e1 hd' hfd h b1
        go_enter Tryz.func160, Tryz.ntmps160
        go_wp2_with fail
        refine (km.out).mono ?_
        rintro en w' ⟨rfl, hw'⟩
        replace hw' := hw'.symm
        subst hw'
        go_wp2_with fail
        refine (kg.out).mono ?_
        rintro en w' ⟨rfl, hw'⟩
        replace hw' := hw'.symm
        subst hw'
        go_wp2_with fail
        clear c3 c4
        generalize w.alloc (.cells #[.pointer none, .slice none 0 0] 81) = V at n1 h1 kk1 ⊢
        go_loopw [35] (fun i wr => ∃ (j : Nat) (acc : ByteArray), j ≤ 4 ∧ i = .int .i64 (j : Int) ∧ collectD d (4 * k) 4 0 ⟨#[]⟩ = collectD d (4 * k) (4 - j) j acc ∧ acc.size = 64 * j ∧ Bld.Is w.heap.size w.heap.size (Lib.strCells acc) wr ∧ VC F G H wr a b c v d ∧ Keeps F w wr) (fun i _ => 4 - (intOf i).toNat)
        case atStart => exact ⟨0, ⟨#[]⟩, Nat.zero_le _, rfl, rfl, rfl, n1.out, h1.out, kk1.out⟩
        case round =>
          clear n1 h1 kk1 V
          obtain ⟨j, acc, hj, rfl, hcol, hsz, hI, hv, kk⟩ := hrel
          have hsw := kk.size
          by_cases hlt4 : j < 4
          · have kr := read_any hv.dk hf.out ((4 * k + j : Nat) : Int)
            have hrs := fun h0 => (readD_size hf.out (n := ((4 * k + j : Nat) : Int)) h0).1
            have c0 := hv.cells.1
            have a1 : 4 * (k : Int) + (j : Int) = ((4 * k + j : Nat) : Int) := by omega
            have hstep : collectD d (4 * k) (4 - j) j acc = if (readD d ((4 * k + j : Nat) : Int)).2 ≠ 0 then (acc, (readD d ((4 * k + j : Nat) : Int)).2) else collectD d (4 * k) (4 - (j + 1)) (j + 1) (acc ++ (readD d ((4 * k + j : Nat) : Int)).1) := by
              rw [show 4 - j = (4 - (j + 1)) + 1 by omega]
              rfl
            rw [hstep] at hcol
            have hnb : 4 * k + j ≤ 20000 := by omega
            generalize 4 * k + j = nb at kr hrs a1 hcol hnb
            generalize readD d (nb : Int) = R at kr hrs hcol
            replace hI := Lib.hid hI
            replace hv := Lib.hid hv
            replace kk := Lib.hid kk
            replace kr := Lib.hid kr
            by_cases hz : R.2 = 0
            · rw [if_neg (fun hh => hh hz)] at hcol
              rw [hz] at kr
              have hs64 := hrs hz
              replace hcol := Lib.hid hcol
              replace hz := Lib.hid hz
              clear hstep hrs
              go_wp2_with fail
              refine kr.out.mono ?_
              rintro e w1 ⟨rfl, hw1⟩
              replace hw1 := hw1.symm
              subst hw1
              go_wp2_with fail
              refine (vtold_any hv.out 0).mono ?_
              rintro e w2 ⟨rfl, h2, k2⟩
              rw [tellV_zero] at h2
              have kk2 := kk.out.same k2
              have I2 := is_keeps hI.out k2 hlt.out
              have hs2 := kk2.size
              have kws := Lib.hid (Bld.writeString_any w.heap.size w.heap.size (Lib.strCells acc) R.1 w2 I2 (by rw [Lib.strCells_length]; omega) hs2)
              replace h2 := Lib.hid h2
              replace kk2 := Lib.hid kk2
              clear k2 I2 hv kk hI c0
              go_wp2_with fail
              refine kws.out.mono ?_
              rintro e w3 ⟨rfl, I3, b3⟩
              have kb := keeps_at b3
              have h3 := h2.out.keeps kb (fun i hi hle => by have := hlt.out i hi; omega)
              have kk3 := kk2.out.trans kb (fun i hi => Or.inr hi)
              have e3 : Lib.strCells acc ++ Lib.strCells R.1 = Lib.strCells (acc ++ R.1) := by
                unfold Lib.strCells
                rw [toL_append, List.map_append]
              rw [e3] at I3
              have fin : ∃ (j' : Nat) (acc' : ByteArray), j' ≤ 4 ∧ Value.int .i64 ((j : Int) + 1) = .int .i64 (j' : Int) ∧ collectD d (4 * k) 4 0 ⟨#[]⟩ = collectD d (4 * k) (4 - j') j' acc' ∧ acc'.size = 64 * j' ∧ Bld.Is w.heap.size w.heap.size (Lib.strCells acc') w3 ∧ VC F G H w3 a b c v d ∧ Keeps F w w3 :=
                ⟨j + 1, acc ++ R.1, hlt4, rfl, hcol.out, by rw [ByteArray.size_append]; omega, I3, h3, kk3⟩
              replace fin := Lib.hid fin
              clear I3 b3 kb h3 kk3 e3
              go_wp2_with fail
              exact ⟨fin.out, by simp [intOf]; omega⟩
            · rw [if_pos hz] at hcol
              have e4 : Z = (tellV v R.2, ⟨#[]⟩, R.2) := by rw [e2.out, hcol]; exact if_pos hz
              have hz' : (R.2 != 0) = true := bne_iff_ne.2 hz
              replace e4 := Lib.hid e4
              clear hcol hstep hrs hz
              go_wp2_with fail
              refine kr.out.mono ?_
              rintro e w1 ⟨rfl, hw1⟩
              replace hw1 := hw1.symm
              subst hw1
              go_wp2_with fail
              refine (vtold_any hv.out _).mono ?_
              rintro e w2 ⟨rfl, h2, k2⟩
              have kk2 := Lib.hid (kk.out.same k2)
              replace h2 := Lib.hid h2.pv
              clear k2 hI
              go_wp2_with fail
              go_ret2
              exact ⟨by rw [e4.out]; rfl, F, by rw [e4.out]; exact h2.out, kk2.out, fun i hi => Or.inl hi⟩
          · obtain rfl : j = 4 := by omega
            have hcol2 : collectD d (4 * k) 4 0 ⟨#[]⟩ = (acc, 0) := hcol
            have e3 : Z = readU v k (unframeV acc) := by rw [e2.out, hcol2]; exact if_neg (fun hh => hh rfl)
            have kst := Lib.hid (Tryz.Builder_String_any w.heap.size w.heap.size acc.data.toList wr hI hsw)
            have ku := Lib.hid (fun W => unframe_any acc W)
            have eacc : (⟨acc.data.toList.toArray⟩ : ByteArray) = acc := by simp
            obtain ⟨U, hU⟩ : ∃ U, U = unframeV acc := ⟨_, rfl⟩
            rw [← hU] at ku e3
            rw [eacc] at kst
            replace hU := Lib.hid hU
            replace hv := Lib.hid hv
            replace kk := Lib.hid kk
            clear hcol hcol2 hI eacc
            by_cases hz : U.2 = 0
            · have e4 : Z = ({ v with L := putK v.L k U.1 }, U.1, 0) := e3.trans (if_neg (fun hh => hh hz))
              rw [hz] at ku
              replace e4 := Lib.hid e4
              replace hz := Lib.hid hz
              clear e3
              go_wp2_with fail
              refine kst.out.mono ?_
              rintro e w1 ⟨rfl, b1⟩
              have kb := keeps_at b1
              have h1 := Lib.hid (hv.out.keeps kb (fun i hi hle => by have := hlt.out i hi; omega))
              have kk1 := Lib.hid (kk.out.trans kb (fun i hi => Or.inr hi))
              clear b1 kb
              go_wp2_with fail
              refine (ku.out _).mono ?_
              rintro e w2 ⟨rfl, b2⟩
              have h2 := Lib.hid (h1.out.below b2)
              have kk2 := Lib.hid (kk1.out.same (Keeps.of_below F b2))
              clear b2 h1 kk1
              have kp := Lib.hid (cput_any h2.out.ca (k := k) (by omega) U.1)
              have d3 := h2.out.cells.2.2.2.1
              go_wp2_with fail
              refine kp.out.mono ?_
              rintro e w3 ⟨z, y, H3, rfl, hc3, k3, hH3⟩
              have h3 := Lib.hid (h2.out.cache hc3 k3 hH3)
              have kk3 := Lib.hid (kk2.out.same (k3.mono h2.out.fh))
              have s2 := kk2.out.size
              have hF3 := Lib.hid (show ∀ i, (F i ∨ H3 i) → F i ∨ w.heap.size ≤ i from fun i hi => hi.elim Or.inl (fun hg => (hH3 i hg).imp (hfh.out i) (fun q => Nat.le_trans s2 q)))
              clear hc3 k3 hH3 h2 kk2 d3
              go_wp2_with fail
              go_ret2
              exact ⟨by rw [e4.out]; rfl, _, by rw [e4.out]; exact h3.out.pv, kk3.out, hF3.out⟩
            · have e4 : Z = (v, ⟨#[]⟩, U.2) := e3.trans (if_pos hz)
              have hz' : (U.2 != 0) = true := bne_iff_ne.2 hz
              replace e4 := Lib.hid e4
              clear e3 hz
              go_wp2_with fail
              refine kst.out.mono ?_
              rintro e w1 ⟨rfl, b1⟩
              have kb := keeps_at b1
              have h1 := Lib.hid (hv.out.keeps kb (fun i hi hle => by have := hlt.out i hi; omega))
              have kk1 := Lib.hid (kk.out.trans kb (fun i hi => Or.inr hi))
              clear b1 kb
              go_wp2_with fail
              refine (ku.out _).mono ?_
              rintro e w2 ⟨rfl, b2⟩
              have h2 := Lib.hid (h1.out.below b2)
              have kk2 := Lib.hid (kk1.out.same (Keeps.of_below F b2))
              clear b2 h1 kk1
              go_wp2_with fail
              go_ret2
              exact ⟨by rw [e4.out]; rfl, F, by rw [e4.out]; exact h2.out.pv, kk2.out, fun i hi => Or.inl hi⟩
  · have q1 : decide (mayV d n) = false := decide_eq_false hmay
    rw [q1] at km
    have e1 := Lib.hid (hZ.trans (if_pos hmay))
    have fin := Lib.hid (vread_same h.pv ⟨#[]⟩ 81)
    clear h hf hZ q1 hmay
    go_enter Tryz.func160, Tryz.ntmps160
    go_wp2_with fail
    refine (km.out).mono ?_
    rintro en w' ⟨rfl, hw'⟩
    replace hw' := hw'.symm
    subst hw'
    go_wp2_with fail
    go_ret2
    rw [e1.out]
    exact fin.out
end
end Go.Proofs.YtajlfmnjibgbaaaGreatDoor.Vl
/- The volume's Write. -/
namespace Go.Proofs.YtajlfmnjibgbaaaGreatDoor.Vl
open Go Go.RowKit Go.Maps Mem Disk Nv
section
variable {F G H K : Nat → Prop} {w w' : World} {a b c m : Nat} {v v' : Vo} {d d' : Dk}
/-- where Write's loop stands -/
def WAt (F : Nat → Prop) (H : Nat → Prop) (w : World) (a b c m : Nat) (v : Vo) (s : ByteArray) (k : Nat) (Y : Vo × Dk × Int) (j : Nat) (wr : World) : Prop :=
  ∃ (d' : Dk) (F' G' : Nat → Prop), Y = wloopV v s k (4 - j) j d' ∧ VC F' G' H wr a b c v d' ∧ Fit d' ∧ NumTo (m + j) d' ∧ Keeps F w wr ∧ (∀ i, F' i → F i ∨ w.heap.size ≤ i) ∧ ∀ i, H i → F i
set_option maxRecDepth 100000 in
set_option maxHeartbeats 16000000 in
theorem vwrite_any (h : VC F G H w a b c v d) (hf : Fit d) (hn : NumTo m d) (hm : m ≤ 900000) (n : Int) (p : ByteArray) (hp : p.size ≤ 9223372036854775807) :
    Calls Tryz.prog 19 #[.pointer (some ⟨a, 0, none⟩), .int .i64 n, .string p] w (VPost F w a b (writeV v d n p)) := by
  have km := Lib.hid (vmay_any h hf n)
  have kf := frame_any p w hp
  obtain ⟨Z, hZ⟩ : ∃ Z, Z = writeV v d n p := ⟨_, rfl⟩
  rw [← hZ]
  obtain ⟨_, _, _, _, c4⟩ := h.cells
  by_cases hmay : mayV d n
  · have q1 : decide (mayV d n) = true := decide_eq_true hmay
    rw [q1] at km
    have hZ1 : Z = if 240 < p.size then (v, d, 83) else if v.dead = true then (v, d, 2) else writeX n.toNat p (wloopV v (frameB p) n.toNat 4 0 d) := hZ.trans (if_neg (fun hh => hh hmay))
    by_cases h240 : 240 < p.size
    · rw [show frameV p = (⟨#[]⟩, 83) from if_pos h240] at kf
      have e1 := Lib.hid (hZ1.trans (if_pos h240))
      replace kf := Lib.hid kf
      replace h := Lib.hid h
      clear hf hZ hZ1 q1 hmay h240 hn c4
      go_enter Tryz.func19, Tryz.ntmps19
      go_wp2_with fail
      refine (km.out).mono ?_
      rintro en w' ⟨rfl, hw'⟩
      replace hw' := hw'.symm
      subst hw'
      go_wp2_with fail
      refine kf.out.mono ?_
      rintro e w1 ⟨rfl, hb⟩
      have h1 := Lib.hid (h.out.below hb)
      replace hb := Lib.hid hb
      go_wp2_with fail
      go_ret
      rw [e1.out]
      exact ⟨rfl, F, h1.out.pv, Keeps.of_below F hb.out, fun i hi => Or.inl hi⟩
    · rw [show frameV p = (frameB p, 0) from if_neg h240] at kf
      have hs := frameB_size (p := p) (by omega)
      have hZ2 : Z = if v.dead = true then (v, d, 2) else writeX n.toNat p (wloopV v (frameB p) n.toNat 4 0 d) := hZ1.trans (if_neg h240)
      generalize frameB p = s at kf hs hZ2
      replace kf := Lib.hid kf
      rcases Bool.eq_false_or_eq_true v.dead with hd | hd
      · have e1 := Lib.hid (hZ2.trans (if_pos hd))
        replace h := Lib.hid h
        rw [hd] at c4
        clear hf hZ hZ1 hZ2 q1 hmay h240 hn
        go_enter Tryz.func19, Tryz.ntmps19
        go_wp2_with fail
        refine (km.out).mono ?_
        rintro en w' ⟨rfl, hw'⟩
        replace hw' := hw'.symm
        subst hw'
        go_wp2_with fail
        refine kf.out.mono ?_
        rintro e w1 ⟨rfl, hb⟩
        have h1 := h.out.below hb
        have d4 := h1.cells.2.2.2.2
        rw [hd] at d4
        replace h1 := Lib.hid h1
        replace hb := Lib.hid hb
        replace hd := Lib.hid hd
        go_wp2_with fail
        go_ret
        rw [e1.out]
        exact ⟨rfl, F, h1.out.pv, Keeps.of_below F hb.out, fun i hi => Or.inl hi⟩
      · obtain ⟨k, rfl⟩ := Int.eq_ofNat_of_zero_le (show 0 ≤ n by have := hmay.1; omega)
        have hk : k < 4097 := by
          have h1 := hmay.2
          have h2 := hf.few
          unfold blocksD at h1
          omega
        have hZ3 : Z = writeX k p (wloopV v s k 4 0 d) := hZ2.trans (if_neg (by rw [hd]; decide))
        obtain ⟨Y, hY⟩ : ∃ Y, Y = wloopV v s k 4 0 d := ⟨_, rfl⟩
        rw [← hY] at hZ3
        have st0 : ∀ w1, Below w.heap.size w w1 → WAt F H w a b c m v s k Y 0 w1 := fun w1 hb => ⟨d, F, G, hY, h.below hb, hf, hn, Keeps.of_below F hb, fun i hi => Or.inl hi, h.fh⟩
        have hd4 : ∀ w1, Below w.heap.size w w1 → w1.cell? ⟨a, 4, none⟩ = some (.bool false) := fun w1 hb => by
          have := (h.below hb).cells.2.2.2.2
          rwa [hd] at this
        replace st0 := Lib.hid st0
        replace hd4 := Lib.hid hd4
        replace hZ3 := Lib.hid hZ3
        clear hf hZ hZ1 hZ2 q1 hmay hn hY h c4 hd
        go_enter Tryz.func19, Tryz.ntmps19
        go_wp2_with fail
        refine (km.out).mono ?_
        rintro en w' ⟨rfl, hw'⟩
        replace hw' := hw'.symm
        subst hw'
        go_wp2_with fail
        refine kf.out.mono ?_
        rintro e w1 ⟨rfl, hb⟩
        have d4 := hd4.out w1 hb
        have st := Lib.hid (st0.out w1 hb)
        clear hb hd4 st0
        go_wp2_with fail
        clear d4
        go_loopw [29] (fun i wr => ∃ j : Nat, j ≤ 4 ∧ i = .int .i64 (j : Int) ∧ WAt F H w a b c m v s k Y j wr) (fun i _ => 4 - (intOf i).toNat)
        case atStart => exact ⟨0, Nat.zero_le _, rfl, st.out⟩
        case round =>
          clear st
          obtain ⟨j, hj, rfl, d1, F1, G1, hY1, hv, hf1, hn1, kk, hF1, hHF⟩ := hrel
          have hsw := kk.size
          by_cases hlt4 : j < 4
          · have c0 := hv.cells.1
            have a1 : 4 * (k : Int) + (j : Int) = ((4 * k + j : Nat) : Int) := by omega
            have a2 : (j : Int) * 64 = ((64 * j : Nat) : Int) := by omega
            have a3 : ((j : Int) + 1) * 64 = ((64 * j + 64 : Nat) : Int) := by omega
            have hw := fun W G' (hd : IsDk G' W b d1) => write_any hd (hn1.num_ (by omega)) hf1 ((4 * k + j : Nat) : Int) (s.extract (64 * j) (64 * j + 64))
            have hfR := hf1.write ((4 * k + j : Nat) : Int) (s.extract (64 * j) (64 * j + 64))
            have hnR := hn1.write ((4 * k + j : Nat) : Int) (s.extract (64 * j) (64 * j + 64))
            have hstep : Y = if (writeD d1 ((4 * k + j : Nat) : Int) (s.extract (64 * j) (64 * j + 64))).2 ≠ 0 then ({ tellV v (writeD d1 ((4 * k + j : Nat) : Int) (s.extract (64 * j) (64 * j + 64))).2 with L := dropK v.L k }, writeD d1 ((4 * k + j : Nat) : Int) (s.extract (64 * j) (64 * j + 64))) else wloopV v s k (4 - (j + 1)) (j + 1) (writeD d1 ((4 * k + j : Nat) : Int) (s.extract (64 * j) (64 * j + 64))).1 := by
              rw [hY1, show 4 - j = (4 - (j + 1)) + 1 by omega]
              rfl
            have hnb : 4 * k + j ≤ 20000 := by omega
            obtain ⟨x0, hx0⟩ : ∃ x, x = 64 * j := ⟨_, rfl⟩
            obtain ⟨x1, hx1⟩ : ∃ x, x = 64 * j + 64 := ⟨_, rfl⟩
            obtain ⟨nb, hnbe⟩ : ∃ x, x = 4 * k + j := ⟨_, rfl⟩
            rw [← hx1] at a3 hw hfR hnR hstep
            rw [← hx0] at a2 hw hfR hnR hstep
            rw [← hnbe] at a1 hw hfR hnR hstep hnb
            have vv1 : IntKind.i64.wrap ((j : Int) * 64) = (x0 : Int) := by rw [a2]; exact IntWalk.i64_in _ (by omega)
            have vv2 : IntKind.i64.wrap ((j : Int) + 1) = (j : Int) + 1 := IntWalk.i64_in _ (by omega)
            have vv3 : IntKind.i64.wrap (((j : Int) + 1) * 64) = (x1 : Int) := by rw [a3]; exact IntWalk.i64_in _ (by omega)
            have vv4 : IntKind.i64.wrap (4 * (k : Int)) = 4 * (k : Int) := IntWalk.i64_in _ (by omega)
            have vv5 : IntKind.i64.wrap (4 * (k : Int) + (j : Int)) = (nb : Int) := by rw [a1]; exact IntWalk.i64_in _ (by omega)
            have l1 : (x0 : Int) ≤ (x1 : Int) := by omega
            have l2 : (x1 : Int) ≤ (s.size : Int) := by omega
            have l5 : (0 : Int) ≤ (x0 : Int) := by omega
            have hsl : ∀ W, (Instr.slice 9 (.string s) (some (.int .i64 (x0 : Int))) (some (.int .i64 (x1 : Int))) none).run Tryz.prog W = .ok (.string (s.extract x0 x1)) W := fun W => run_slice_string (P := Tryz.prog) W 9 s .i64 .i64 (x0 : Int) (x1 : Int) Tryz.underlying9 l5 l1 l2
            have l6 : (x1 : Int) ≤ 256 := by omega
            clear l2 a1 a2 a3
            generalize writeD d1 (nb : Int) (s.extract x0 x1) = R at hw hfR hnR hstep
            have hlt := hv.lt
            have c0d : wr.drew.cell? ⟨a, 0, none⟩ = some (.pointer (some ⟨b, 0, none⟩)) := c0
            have hvd := hv.below ((Below.refl _ wr).drew)
            have kkd := kk.drewN 1
            have kkd' : Keeps F w wr.drew := kkd
            replace hw := Lib.hid hw
            replace hfR := Lib.hid hfR
            replace hnR := Lib.hid hnR
            replace hvd := Lib.hid hvd
            replace kkd' := Lib.hid kkd'
            replace hlt := Lib.hid hlt
            replace hF1 := Lib.hid hF1
            replace hHF := Lib.hid hHF
            replace hfg := Lib.hid hv.fg
            clear hv kk kkd c0 hf1 hn1 hY1 hx0 hx1 hnbe
            by_cases hz : R.2 = 0
            · have e1 := Lib.hid (hstep.trans (if_neg (fun hh => hh hz)))
              rw [hz] at hw
              replace hz := Lib.hid hz
              clear hstep
              go_wp2_with fail
              go_region_held3 (fun w' => w'.cell? ⟨a, 0, none⟩ = some (.pointer (some ⟨b, 0, none⟩)))
                (first
                  | exact c0d
                  | exact s4
                  | exact s5
                  | go_keep)
                (first
                  | (go_at_call 41; refine (hw.out _ _ hvd.out.dk).mono ?_; rintro e w4 ⟨rfl, G4, hd4, kk4, hG4⟩; have h4 := Lib.hid (hvd.out.disk hd4 kk4 hG4); have s4 := h4.out.cells.1; have f4 := Lib.hid (show Keeps F w w4 from kkd'.out.trans (kk4.mono hfg.out) hF1.out); have g4 := Lib.hid hG4)
                  | (go_at_call 40; refine (vtold_any h4.out _).mono ?_; rintro e w5 ⟨rfl, h5, k5⟩; have s5 := h5.cells.1))
              have hF5 := Lib.hid (show ∀ i, (F1 i ∨ G4 i) → F i ∨ w.heap.size ≤ i from fun i hi => hi.elim (hF1.out i) (fun hg => (g4.out i hg).elim (fun q => hF1.out i (hfg.out i q)) (fun q => Or.inr (Nat.le_trans kkd'.out.size q))))
              have kk5 := Lib.hid (f4.out.trans k5 hF5.out)
              clear s4 h4 f4 g4 k5 vv1 vv2 vv3 vv4 vv5 hsl
              rw [tellV_zero] at h5
              have fin : ∃ j' : Nat, j' ≤ 4 ∧ Value.int .i64 ((j : Int) + 1) = .int .i64 (j' : Int) ∧ WAt F H w a b c m v s k Y j' w5 :=
                ⟨j + 1, hlt4, rfl, R.1, _, G4, e1.out, h5, hfR.out, hnR.out, kk5.out, hF5.out, hHF.out⟩
              replace fin := Lib.hid fin
              clear h5 s5
              go_wp2_with fail
              exact ⟨fin.out, by simp [intOf]; omega⟩
            · have e1 := hstep.trans (if_pos hz)
              have hz' : (R.2 != 0) = true := bne_iff_ne.2 hz
              have e2 : Z = ({ tellV v R.2 with L := dropK v.L k }, R) := by rw [hZ3.out, e1]; exact if_pos hz
              replace e2 := Lib.hid e2
              clear hstep e1 hz
              go_wp2_with fail
              go_region_held3 (fun w' => w'.cell? ⟨a, 0, none⟩ = some (.pointer (some ⟨b, 0, none⟩)))
                (first
                  | exact c0d
                  | exact s4
                  | exact s5
                  | go_keep)
                (first
                  | (go_at_call 41; refine (hw.out _ _ hvd.out.dk).mono ?_; rintro e w4 ⟨rfl, G4, hd4, kk4, hG4⟩; have h4 := Lib.hid (hvd.out.disk hd4 kk4 hG4); have s4 := h4.out.cells.1; have f4 := Lib.hid (show Keeps F w w4 from kkd'.out.trans (kk4.mono hfg.out) hF1.out); have g4 := Lib.hid hG4)
                  | (go_at_call 40; refine (vtold_any h4.out _).mono ?_; rintro e w5 ⟨rfl, h5, k5⟩; have s5 := h5.cells.1))
              have hF5 := Lib.hid (show ∀ i, (F1 i ∨ G4 i) → F i ∨ w.heap.size ≤ i from fun i hi => hi.elim (hF1.out i) (fun hg => (g4.out i hg).elim (fun q => hF1.out i (hfg.out i q)) (fun q => Or.inr (Nat.le_trans kkd'.out.size q))))
              have kk5 := Lib.hid (f4.out.trans k5 hF5.out)
              clear s4 h4 f4 g4 k5 vv1 vv2 vv3 vv4 vv5 hsl
              have c3 := h5.cells.2.2.2.1
              have kd := Lib.hid (cdrop_any h5.ca (k := k) (by omega))
              replace h5 := Lib.hid h5
              clear s5
              go_wp2_with fail
              refine kd.out.mono ?_
              rintro e w6 ⟨rfl, hc6, k6⟩
              have h6 := Lib.hid ((h5.out.cache hc6 k6 (fun i hi => Or.inl hi)).pv)
              have kk6 := Lib.hid (kk5.out.same (k6.mono hHF.out))
              have hF6 := Lib.hid (show ∀ i, ((F1 i ∨ G4 i) ∨ H i) → F i ∨ w.heap.size ≤ i from fun i hi => hi.elim (hF5.out i) (fun q => Or.inl (hHF.out i q)))
              clear hc6 k6 c3 h5
              go_wp2_with fail
              go_ret
              exact ⟨by rw [e2.out]; rfl, _, by rw [e2.out]; exact h6.out, kk6.out, hF6.out⟩
          · obtain rfl : j = 4 := by omega
            have hY2 : Y = (v, d1, 0) := hY1
            have e2 : Z = ({ v with L := putK v.L k p }, d1, 0) := by rw [hZ3.out, hY2]; exact if_neg (fun hh => hh rfl)
            have c3 := hv.cells.2.2.2.1
            have kp := Lib.hid (cput_any hv.ca (k := k) (by omega) p)
            replace e2 := Lib.hid e2
            replace hv := Lib.hid hv
            replace kk := Lib.hid kk
            replace hF1 := Lib.hid hF1
            replace hHF := Lib.hid hHF
            clear hY1 hY2 hf1 hn1
            go_wp2_with fail
            refine kp.out.mono ?_
            rintro e w3 ⟨z, y, H3, rfl, hc3, k3, hH3⟩
            have h3 := Lib.hid ((hv.out.cache hc3 k3 hH3).pv)
            have kk3 := Lib.hid (kk.out.same (k3.mono hHF.out))
            have s2 := kk.out.size
            have hF3 := Lib.hid (show ∀ i, (F1 i ∨ H3 i) → F i ∨ w.heap.size ≤ i from fun i hi => hi.elim (hF1.out i) (fun hg => (hH3 i hg).imp (hHF.out i) (fun q => Nat.le_trans s2 q)))
            clear hc3 k3 hH3 c3
            go_wp2_with fail
            go_ret
            exact ⟨by rw [e2.out]; rfl, _, by rw [e2.out]; exact h3.out, kk3.out, hF3.out⟩
  · have q1 : decide (mayV d n) = false := decide_eq_false hmay
    rw [q1] at km
    have e1 := Lib.hid (hZ.trans (if_pos hmay))
    have fin := Lib.hid (vpost_same h.pv 81)
    clear h hf hZ q1 hmay hn kf
    go_enter Tryz.func19, Tryz.ntmps19
    go_wp2_with fail
    refine (km.out).mono ?_
    rintro en w' ⟨rfl, hw'⟩
    replace hw' := hw'.symm
    subst hw'
    go_wp2_with fail
    go_ret
    rw [e1.out]
    exact fin.out
end
end Go.Proofs.YtajlfmnjibgbaaaGreatDoor.Vl
/- Open of a volume. -/
namespace Go.Proofs.YtajlfmnjibgbaaaGreatDoor.Vl
open Go Go.RowKit Go.Maps Mem Disk Nv
def VOpen (G : Nat → Prop) (w : World) (b : Nat) (d : Dk) (r : Option Vo × Int) (e : Ending) (w' : World) : Prop :=
  Below w.heap.size w w' ∧ match r.1 with
    | none => e = .returned (.tuple #[.pointer none, .int .i64 r.2])
    | some v => ∃ (a : Nat) (F : Nat → Prop), e = .returned (.tuple #[.pointer (some ⟨a, 0, none⟩), .int .i64 r.2]) ∧ PV F w' a b v d ∧ ∀ i, F i → G i ∨ w.heap.size ≤ i
section
variable {F G H K : Nat → Prop} {w w' : World} {a b c m : Nat} {v v' : Vo} {d d' : Dk}
set_option maxRecDepth 100000 in
theorem VOpen.none (w : World) {w' : World} (hb : Below w.heap.size w w') {r : Option Vo × Int} {x : Int} (h : r = (.none, x)) : VOpen G w b d r (.returned (.tuple #[.pointer .none, .int .i64 x])) w' := by
  subst h
  exact ⟨hb, rfl⟩
end
end Go.Proofs.YtajlfmnjibgbaaaGreatDoor.Vl

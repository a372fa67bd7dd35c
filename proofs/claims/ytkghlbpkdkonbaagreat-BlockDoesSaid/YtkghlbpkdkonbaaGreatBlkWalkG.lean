/- The volume's Read. -/
import Derived.Test.YtkghlbpkdkonbaaGreatBlkWalkF
import Derived.Test.YtkghlbpkdkonbaaGreatBuilder
namespace Go.Proofs.YtkghlbpkdkonbaaGreat.Vl
open Go Go.RowKit Go.Maps Mem Disk Nv
set_option maxRecDepth 100000 in
theorem keeps_at {B : Nat} {w w' : World} (h : Below B w w') : Keeps (fun i => B ≤ i) w w' := ⟨h.os, h.tape, h.output, h.size, fun k _ hn => h.block k (by omega)⟩
set_option maxRecDepth 100000 in
theorem is_keeps {B b : Nat} {bs : List Value} {w w' : World} {F : Nat → Prop} (h : Bld.Is B b bs w) (hk : Keeps F w w') (hF : ∀ i, F i → i < B) : Bld.Is B b bs w' := by
  have key : ∀ p, Bld.At B b p bs w → Bld.At B b p bs w' := fun p h => by
    have hlt := h.lt
    obtain ⟨hB, v, hbk, hown, hne⟩ := h
    exact ⟨hB, v, (hk.block b hlt (fun hf => by have := hF b hf; omega)).trans hbk, own_keeps hown hk (fun j e hf => by have := hF j hf; have := (hown.lt j e).1; omega), hne⟩
  rcases h with h | h
  · exact Or.inl (key _ h)
  · exact Or.inr (key _ h)
section
variable {F G H K : Nat → Prop} {w w' : World} {a b c m : Nat} {v v' : Vo} {d d' : Dk}
/-- what Read comes to -/
def VRead (F : Nat → Prop) (w : World) (a b : Nat) (d : Dk) (r : Vo × ByteArray × Int) (e : Ending) (w' : World) : Prop :=
  e = .returned (.tuple #[.string r.2.1, .int .i64 r.2.2]) ∧ ∃ F', PV F' w' a b r.1 d ∧ Keeps F w w' ∧ ∀ i, F' i → F i ∨ w.heap.size ≤ i
set_option maxRecDepth 100000 in
theorem vread_same (h : PV F w a b v d) (s : ByteArray) (x : Int) : VRead F w a b d (v, s, x) (.returned (.tuple #[.string s, .int .i64 x])) w := ⟨rfl, F, h, Keeps.refl _ _, fun _ hi => Or.inl hi⟩
set_option maxRecDepth 100000 in
set_option maxHeartbeats 16000000 in
theorem vread_any (h : VC F G H w a b c v d) (hf : Fit d) (n : Int) : Calls Tryz.prog 5 #[.pointer (some ⟨a, 0, none⟩), .int .i64 n] w (VRead F w a b d (readV v d n)) := by
  have km := Lib.hid (vmay_any h hf n)
  obtain ⟨Z, hZ⟩ : ∃ Z, Z = readV v d n := ⟨_, rfl⟩
  rw [← hZ]
  obtain ⟨_, _, _, c3, c4⟩ := h.cells
  by_cases hmay : mayV d n
  · have q1 : decide (mayV d n) = true := decide_eq_true hmay
    rw [q1] at km
    rcases Bool.eq_false_or_eq_true v.dead with hd | hd
    · have e1 := Lib.hid (hZ.trans ((if_neg (fun hh => hh hmay)).trans (if_pos hd)))
      rw [hd] at c4
      have fin := Lib.hid (vread_same h.pv ⟨#[]⟩ 2)
      clear h hf hZ hd q1 hmay
      go_enter Tryz.func5, Tryz.ntmps5
      go_wp2_with fail
      refine (km.out).mono ?_
      rintro en w' ⟨rfl, hw'⟩
      replace hw' := hw'.symm
      subst hw'
      go_wp2_with fail
      go_ret2
      rw [e1.out]
      exact fin.out
    · rw [hd] at c4
      have hd' : ¬ v.dead = true := by rw [hd]; decide
      obtain ⟨k, rfl⟩ := Int.eq_ofNat_of_zero_le (show 0 ≤ n by have := hmay.1; omega)
      have hk : k < 4097 := by
        have h1 := hmay.2
        have h2 := hf.few
        unfold blocksD at h1
        omega
      have e1 : Z = readF v d k (find v.L k) := hZ.trans ((if_neg (fun hh => hh hmay)).trans (if_neg hd'))
      cases hfd : find v.L k with
      | some s =>
        have e2 := Lib.hid (show Z = ({ v with L := touchK v.L k s }, s, 0) from e1.trans (by rw [hfd]; rfl))
        have kg := Lib.hid (cget_yes h.ca (by omega) hfd)
        replace h := Lib.hid h
        clear hf hZ hd q1 hmay e1 hd' hfd
        go_enter Tryz.func5, Tryz.ntmps5
        go_wp2_with fail
        refine (km.out).mono ?_
        rintro en w' ⟨rfl, hw'⟩
        replace hw' := hw'.symm
        subst hw'
        go_wp2_with fail
        refine kg.out.mono ?_
        rintro e w1 ⟨rfl, h1, k1⟩
        have hv := Lib.hid (h.out.cache h1 k1 (fun i hi => Or.inl hi))
        have kk := Lib.hid (k1.mono h.out.fh)
        have hfh := Lib.hid h.out.fh
        clear h1 k1
        go_wp2_with fail
        go_ret2
        exact ⟨by rw [e2.out]; rfl, _, by rw [e2.out]; exact hv.out.pv, kk.out, fun i (hi : F i ∨ H i) => Or.inl (hi.elim id (hfh.out i))⟩
      | none =>
        have e2 : Z = readG v k (collectD d (4 * k) 4 0 ⟨#[]⟩) := e1.trans (by rw [hfd]; rfl)
        have kg := Lib.hid (cget_no h.ca (by omega) hfd)
        have hlt := Lib.hid h.lt
        have hfh := Lib.hid h.fh
        have n1 := Bld.fresh w
        have b1 : Below w.heap.size w (w.alloc (.cells #[.pointer none, .slice none 0 0] 74)) := (Below.refl _ w).alloc (Nat.le_refl _) _
        have h1 := h.below b1
        have kk1 := Keeps.of_below F b1
        replace e2 := Lib.hid e2
        replace n1 := Lib.hid n1
        replace h1 := Lib.hid h1
        replace kk1 := Lib.hid kk1
        replace hf := Lib.hid hf
        clear hZ hd q1 hmay e1 hd' hfd h b1
        go_enter Tryz.func5, Tryz.ntmps5
        go_wp2_with fail
        refine (km.out).mono ?_
        rintro en w' ⟨rfl, hw'⟩
        replace hw' := hw'.symm
        subst hw'
        go_wp2_with fail
        refine (kg.out).mono ?_
        rintro en w' ⟨rfl, hw'⟩
        replace hw' := hw'.symm
        subst hw'
        go_wp2_with fail
        clear c3 c4
        generalize w.alloc (.cells #[.pointer none, .slice none 0 0] 74) = V at n1 h1 kk1 ⊢
        go_loopw [35] (fun i wr => ∃ (j : Nat) (acc : ByteArray), j ≤ 4 ∧ i = .int .i64 (j : Int) ∧ collectD d (4 * k) 4 0 ⟨#[]⟩ = collectD d (4 * k) (4 - j) j acc ∧ acc.size = 64 * j ∧ Bld.Is w.heap.size w.heap.size (Lib.strCells acc) wr ∧ VC F G H wr a b c v d ∧ Keeps F w wr) (fun i _ => 4 - (intOf i).toNat)
        case atStart => exact ⟨0, ⟨#[]⟩, Nat.zero_le _, rfl, rfl, rfl, n1.out, h1.out, kk1.out⟩
        case round =>
          clear n1 h1 kk1 V
          obtain ⟨j, acc, hj, rfl, hcol, hsz, hI, hv, kk⟩ := hrel
          have hsw := kk.size
          by_cases hlt4 : j < 4
          · have kr := read_any hv.dk hf.out ((4 * k + j : Nat) : Int)
            have hrs := fun h0 => (readD_size hf.out (n := ((4 * k + j : Nat) : Int)) h0).1
            have c0 := hv.cells.1
            have a1 : 4 * (k : Int) + (j : Int) = ((4 * k + j : Nat) : Int) := by omega
            have hstep : collectD d (4 * k) (4 - j) j acc = if (readD d ((4 * k + j : Nat) : Int)).2 ≠ 0 then (acc, (readD d ((4 * k + j : Nat) : Int)).2) else collectD d (4 * k) (4 - (j + 1)) (j + 1) (acc ++ (readD d ((4 * k + j : Nat) : Int)).1) := by
              rw [show 4 - j = (4 - (j + 1)) + 1 by omega]
              rfl
            rw [hstep] at hcol
            have hnb : 4 * k + j ≤ 20000 := by omega
            generalize 4 * k + j = nb at kr hrs a1 hcol hnb
            generalize readD d (nb : Int) = R at kr hrs hcol
            replace hI := Lib.hid hI
            replace hv := Lib.hid hv
            replace kk := Lib.hid kk
            replace kr := Lib.hid kr
            by_cases hz : R.2 = 0
            · rw [if_neg (fun hh => hh hz)] at hcol
              rw [hz] at kr
              have hs64 := hrs hz
              replace hcol := Lib.hid hcol
              replace hz := Lib.hid hz
              clear hstep hrs
              go_wp2_with fail
              refine kr.out.mono ?_
              rintro e w1 ⟨rfl, hw1⟩
              replace hw1 := hw1.symm
              subst hw1
              go_wp2_with fail
              refine (vtold_any hv.out 0).mono ?_
              rintro e w2 ⟨rfl, h2, k2⟩
              rw [tellV_zero] at h2
              have kk2 := kk.out.same k2
              have I2 := is_keeps hI.out k2 hlt.out
              have hs2 := kk2.size
              have kws := Lib.hid (Bld.writeString_any w.heap.size w.heap.size (Lib.strCells acc) R.1 w2 I2 (by rw [Lib.strCells_length]; omega) hs2)
              replace h2 := Lib.hid h2
              replace kk2 := Lib.hid kk2
              clear k2 I2 hv kk hI c0
              go_wp2_with fail
              refine kws.out.mono ?_
              rintro e w3 ⟨rfl, I3, b3⟩
              have kb := keeps_at b3
              have h3 := h2.out.keeps kb (fun i hi hle => by have := hlt.out i hi; omega)
              have kk3 := kk2.out.trans kb (fun i hi => Or.inr hi)
              have e3 : Lib.strCells acc ++ Lib.strCells R.1 = Lib.strCells (acc ++ R.1) := by
                unfold Lib.strCells
                rw [toL_append, List.map_append]
              rw [e3] at I3
              have fin : ∃ (j' : Nat) (acc' : ByteArray), j' ≤ 4 ∧ Value.int .i64 ((j : Int) + 1) = .int .i64 (j' : Int) ∧ collectD d (4 * k) 4 0 ⟨#[]⟩ = collectD d (4 * k) (4 - j') j' acc' ∧ acc'.size = 64 * j' ∧ Bld.Is w.heap.size w.heap.size (Lib.strCells acc') w3 ∧ VC F G H w3 a b c v d ∧ Keeps F w w3 :=
                ⟨j + 1, acc ++ R.1, hlt4, rfl, hcol.out, by rw [ByteArray.size_append]; omega, I3, h3, kk3⟩
              replace fin := Lib.hid fin
              clear I3 b3 kb h3 kk3 e3
              go_wp2_with fail
              exact ⟨fin.out, by simp [intOf]; omega⟩
            · rw [if_pos hz] at hcol
              have e4 : Z = (tellV v R.2, ⟨#[]⟩, R.2) := by rw [e2.out, hcol]; exact if_pos hz
              have hz' : (R.2 != 0) = true := bne_iff_ne.2 hz
              replace e4 := Lib.hid e4
              clear hcol hstep hrs hz
              go_wp2_with fail
              refine kr.out.mono ?_
              rintro e w1 ⟨rfl, hw1⟩
              replace hw1 := hw1.symm
              subst hw1
              go_wp2_with fail
              refine (vtold_any hv.out _).mono ?_
              rintro e w2 ⟨rfl, h2, k2⟩
              have kk2 := Lib.hid (kk.out.same k2)
              replace h2 := Lib.hid h2.pv
              clear k2 hI
              go_wp2_with fail
              go_ret2
              exact ⟨by rw [e4.out]; rfl, F, by rw [e4.out]; exact h2.out, kk2.out, fun i hi => Or.inl hi⟩
          · obtain rfl : j = 4 := by omega
            have hcol2 : collectD d (4 * k) 4 0 ⟨#[]⟩ = (acc, 0) := hcol
            have e3 : Z = readU v k (unframeV acc) := by rw [e2.out, hcol2]; exact if_neg (fun hh => hh rfl)
            have kst := Lib.hid (Tryz.Builder_String_any w.heap.size w.heap.size acc.data.toList wr hI hsw)
            have ku := Lib.hid (fun W => unframe_any acc W)
            have eacc : (⟨acc.data.toList.toArray⟩ : ByteArray) = acc := by simp
            obtain ⟨U, hU⟩ : ∃ U, U = unframeV acc := ⟨_, rfl⟩
            rw [← hU] at ku e3
            rw [eacc] at kst
            replace hU := Lib.hid hU
            replace hv := Lib.hid hv
            replace kk := Lib.hid kk
            clear hcol hcol2 hI eacc
            by_cases hz : U.2 = 0
            · have e4 : Z = ({ v with L := putK v.L k U.1 }, U.1, 0) := e3.trans (if_neg (fun hh => hh hz))
              rw [hz] at ku
              replace e4 := Lib.hid e4
              replace hz := Lib.hid hz
              clear e3
              go_wp2_with fail
              refine kst.out.mono ?_
              rintro e w1 ⟨rfl, b1⟩
              have kb := keeps_at b1
              have h1 := Lib.hid (hv.out.keeps kb (fun i hi hle => by have := hlt.out i hi; omega))
              have kk1 := Lib.hid (kk.out.trans kb (fun i hi => Or.inr hi))
              clear b1 kb
              go_wp2_with fail
              refine (ku.out _).mono ?_
              rintro e w2 ⟨rfl, b2⟩
              have h2 := Lib.hid (h1.out.below b2)
              have kk2 := Lib.hid (kk1.out.same (Keeps.of_below F b2))
              clear b2 h1 kk1
              have kp := Lib.hid (cput_any h2.out.ca (k := k) (by omega) U.1)
              have d3 := h2.out.cells.2.2.2.1
              go_wp2_with fail
              refine kp.out.mono ?_
              rintro e w3 ⟨z, y, H3, rfl, hc3, k3, hH3⟩
              have h3 := Lib.hid (h2.out.cache hc3 k3 hH3)
              have kk3 := Lib.hid (kk2.out.same (k3.mono h2.out.fh))
              have s2 := kk2.out.size
              have hF3 := Lib.hid (show ∀ i, (F i ∨ H3 i) → F i ∨ w.heap.size ≤ i from fun i hi => hi.elim Or.inl (fun hg => (hH3 i hg).imp (hfh.out i) (fun q => Nat.le_trans s2 q)))
              clear hc3 k3 hH3 h2 kk2 d3
              go_wp2_with fail
              go_ret2
              exact ⟨by rw [e4.out]; rfl, _, by rw [e4.out]; exact h3.out.pv, kk3.out, hF3.out⟩
            · have e4 : Z = (v, ⟨#[]⟩, U.2) := e3.trans (if_pos hz)
              have hz' : (U.2 != 0) = true := bne_iff_ne.2 hz
              replace e4 := Lib.hid e4
              clear e3 hz
              go_wp2_with fail
              refine kst.out.mono ?_
              rintro e w1 ⟨rfl, b1⟩
              have kb := keeps_at b1
              have h1 := Lib.hid (hv.out.keeps kb (fun i hi hle => by have := hlt.out i hi; omega))
              have kk1 := Lib.hid (kk.out.trans kb (fun i hi => Or.inr hi))
              clear b1 kb
              go_wp2_with fail
              refine (ku.out _).mono ?_
              rintro e w2 ⟨rfl, b2⟩
              have h2 := Lib.hid (h1.out.below b2)
              have kk2 := Lib.hid (kk1.out.same (Keeps.of_below F b2))
              clear b2 h1 kk1
              go_wp2_with fail
              go_ret2
              exact ⟨by rw [e4.out]; rfl, F, by rw [e4.out]; exact h2.out.pv, kk2.out, fun i hi => Or.inl hi⟩
  · have q1 : decide (mayV d n) = false := decide_eq_false hmay
    rw [q1] at km
    have e1 := Lib.hid (hZ.trans (if_pos hmay))
    have fin := Lib.hid (vread_same h.pv ⟨#[]⟩ 81)
    clear h hf hZ q1 hmay
    go_enter Tryz.func5, Tryz.ntmps5
    go_wp2_with fail
    refine (km.out).mono ?_
    rintro en w' ⟨rfl, hw'⟩
    replace hw' := hw'.symm
    subst hw'
    go_wp2_with fail
    go_ret2
    rw [e1.out]
    exact fin.out
end
end Go.Proofs.YtkghlbpkdkonbaaGreat.Vl

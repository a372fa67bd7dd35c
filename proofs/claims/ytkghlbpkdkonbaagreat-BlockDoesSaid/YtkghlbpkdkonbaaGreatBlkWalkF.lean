/- The volume's made, Format. -/
import Derived.Test.YtkghlbpkdkonbaaGreatBlkWalkE
namespace Go.Proofs.YtkghlbpkdkonbaaGreat.Vl
open Go Go.RowKit Go.Maps Mem Disk Nv
section
variable {F G H K : Nat → Prop} {w w' : World} {a b c m : Nat} {v v' : Vo} {d d' : Dk}
set_option maxRecDepth 100000 in
set_option maxHeartbeats 4000000 in
theorem made_no (h : IsDk G w b d) (hf : Fit d) (hg : ¬ goodD d) : Calls Tryz.prog 61 #[.pointer (some ⟨b, 0, none⟩)] w fun e w' => e = .returned (.tuple #[.pointer none, .int .i64 80]) ∧ w' = w := by
  have ks := sectors_any h
  have hfew := hf.few
  have e1 : (d.stays.length : Int) / 4 = (blocksD d : Int) := by unfold blocksD; omega
  have hB : blocksD d < 8 := by
    have hm : blocksD d ≤ 4096 := by unfold blocksD; omega
    unfold goodD at hg
    omega
  generalize blocksD d = B at e1 hB
  generalize d.stays.length = N at ks e1
  replace ks := Lib.hid ks
  clear h hf hg hfew
  have q1 : decide ((B : Int) < 8) = true := decide_eq_true (by omega)
  go_enter Tryz.func61, Tryz.ntmps61
  go_wp2_with fail
  refine (ks.out).mono ?_
  rintro en w' ⟨rfl, hw'⟩
  replace hw' := hw'.symm
  subst hw'
  go_wp2_with fail
  go_ret2
  exact ⟨rfl, rfl⟩
set_option maxRecDepth 100000 in
set_option maxHeartbeats 4000000 in
theorem made_yes (h : IsDk G w b d) (hf : Fit d) (hg : goodD d) : Calls Tryz.prog 61 #[.pointer (some ⟨b, 0, none⟩)] w fun e w' => ∃ (a c : Nat) (F H : Nat → Prop), e = .returned (.tuple #[.pointer (some ⟨a, 0, none⟩), .int .i64 0]) ∧ w.heap.size ≤ a ∧ VC F G H w' a b c newV d ∧ Below w.heap.size w w' ∧ ∀ i, F i → G i ∨ w.heap.size ≤ i := by
  have ks := sectors_any h
  have kn := Lib.hid (cnew_any w)
  have hfew := hf.few
  have e1 : (d.stays.length : Int) / 4 = (blocksD d : Int) := by unfold blocksD; omega
  have hB : 8 ≤ blocksD d ∧ blocksD d ≤ 4096 := hg
  generalize blocksD d = B at e1 hB
  have q1 : decide ((B : Int) < 8) = false := decide_eq_false (by omega)
  have q2 : decide (4096 < (B : Int)) = false := decide_eq_false (by omega)
  generalize d.stays.length = N at ks e1
  replace ks := Lib.hid ks
  replace h := Lib.hid h
  have bd : ∀ W c, (Instr.build 68 #[(0, .pointer (some ⟨b, 0, none⟩)), (2, .pointer (some ⟨c, 0, none⟩))]).run Tryz.prog W = .ok (.agg #[.pointer (some ⟨b, 0, none⟩), .string ⟨#[]⟩, .int .i64 0, .pointer (some ⟨c, 0, none⟩), .bool false]) W := fun W c => run_build W _ _ _ (by kernel_rfl)
  clear hf hg hfew
  go_enter Tryz.func61, Tryz.ntmps61
  go_wp2_with fail
  refine (ks.out).mono ?_
  rintro en w' ⟨rfl, hw'⟩
  replace hw' := hw'.symm
  subst hw'
  go_wp2_with fail
  refine kn.out.mono ?_
  rintro e w1 ⟨c, H, rfl, hc, hH, hb⟩
  have hd1 := h.out.below hb
  have B2 := Blk.new w1 68 #[.pointer (some ⟨b, 0, none⟩), .string ⟨#[]⟩, .int .i64 0, .pointer (some ⟨c, 0, none⟩), .bool false]
  have b2 : Below w1.heap.size w1 (w1.alloc (.cells #[.pointer (some ⟨b, 0, none⟩), .string ⟨#[]⟩, .int .i64 0, .pointer (some ⟨c, 0, none⟩), .bool false] 68)) := (Below.refl _ w1).alloc (Nat.le_refl _) _
  have hG := h.out.blt
  have fin : VC (fun i => G i ∨ H i ∨ i = w1.heap.size) G H (w1.alloc (.cells #[.pointer (some ⟨b, 0, none⟩), .string ⟨#[]⟩, .int .i64 0, .pointer (some ⟨c, 0, none⟩), .bool false] 68)) w1.heap.size b c newV d := by
    refine ⟨hd1.below b2, B2, hc.below b2, Or.inr (Or.inr rfl), fun i hi => Or.inl hi, fun i hi => Or.inr (Or.inl hi), fun hi => ?_, fun hi => ?_, fun i hi hh => ?_, fun i hi => ?_⟩
    · have := hG _ hi
      have := hb.size
      omega
    · have := hc.lt _ hi
      omega
    · have := hG _ hi
      have := hH _ hh
      omega
    · refine Nat.lt_of_lt_of_le ?_ (Nat.le_refl _)
      rcases hi with hi | hi | hi
      · exact Nat.lt_of_lt_of_le (hG i hi) (Nat.le_trans hb.size b2.size)
      · exact Nat.lt_of_lt_of_le (hc.lt i hi) b2.size
      · rw [hi]; exact B2.lt
  have hF : ∀ i, (G i ∨ H i ∨ i = w1.heap.size) → G i ∨ w.heap.size ≤ i := fun i hi => by
    rcases hi with hi | hi | hi
    · exact Or.inl hi
    · exact Or.inr (hH i hi)
    · rw [hi]; exact Or.inr hb.size
  have bb := Lib.hid (hb.trans (b2.mono hb.size))
  have hle := Lib.hid hb.size
  replace fin := Lib.hid fin
  replace hF := Lib.hid hF
  clear hd1 B2 b2 hG hc hH hb
  go_wp2_with fail
  go_ret2
  exact ⟨_, c, _, H, rfl, hle.out, fin.out, bb.out, hF.out⟩
set_option maxRecDepth 100000 in
set_option maxHeartbeats 4000000 in
theorem format_no (h : IsDk G w b d) (hf : Fit d) (text : ByteArray) (hg : ¬ (goodD d ∧ text.size ≤ 40)) : Calls Tryz.prog 31 #[.pointer (some ⟨b, 0, none⟩), .string text] w fun e w' => e = .returned (.tuple #[.pointer none, .int .i64 (formatV d text).2.2]) ∧ Below w.heap.size w w' := by
  obtain ⟨Z, hZ⟩ : ∃ Z, Z = (formatV d text).2.2 := ⟨_, rfl⟩
  rw [← hZ]
  by_cases hgood : goodD d
  · have h40 : 40 < text.size := by
      have : ¬ text.size ≤ 40 := fun hh => hg ⟨hgood, hh⟩
      omega
    have q1 : decide (40 < (text.size : Int)) = true := decide_eq_true (by omega)
    have e1 : Z = 83 := by rw [hZ]; unfold formatV; rw [if_neg (fun hh => hh hgood), if_pos h40]
    have km := Lib.hid (made_yes h hf hgood)
    replace e1 := Lib.hid e1
    clear h hf hg hgood h40 hZ
    go_enter Tryz.func31, Tryz.ntmps31
    go_wp2_with fail
    refine km.out.mono ?_
    rintro e w1 ⟨a, c, F, H, rfl, _, _, hb, _⟩
    replace hb := Lib.hid hb
    go_wp2_with fail
    go_ret2
    exact ⟨by rw [e1.out]; rfl, hb.out⟩
  · have e1 : Z = 80 := by rw [hZ]; unfold formatV; rw [if_pos hgood]
    have km := Lib.hid (made_no h hf hgood)
    replace e1 := Lib.hid e1
    clear h hf hg hgood hZ
    go_enter Tryz.func31, Tryz.ntmps31
    go_wp2_with fail
    refine (km.out).mono ?_
    rintro en w' ⟨rfl, hw'⟩
    replace hw' := hw'.symm
    subst hw'
    go_wp2_with fail
    go_ret2
    exact ⟨by rw [e1.out]; rfl, Below.refl _ _⟩
set_option maxRecDepth 100000 in
set_option maxHeartbeats 4000000 in
/-- Format of a disk that takes all: the volume -/
theorem format_yes (h : IsDk G w b d) (hf : Fit d) (hn : NumTo m d) (hm : m ≤ 900000) (text : ByteArray) (hg : goodD d) (ht : text.size ≤ 40) (h0 : (writeD d 0 (noughts 64)).2 = 0) (h1 : (formatV d text).2.2 = 0) :
    Calls Tryz.prog 31 #[.pointer (some ⟨b, 0, none⟩), .string text] w fun e w' => ∃ (a : Nat) (F : Nat → Prop), e = .returned (.tuple #[.pointer (some ⟨a, 0, none⟩), .int .i64 0]) ∧ PV F w' a b (formatV d text).1 (formatV d text).2.1 ∧ Keeps G w w' ∧ ∀ i, F i → G i ∨ w.heap.size ≤ i := by
  have km := Lib.hid (made_yes h hf hg)
  have hG := Lib.hid h.blt
  have kz := Lib.hid (fun W => noughts_any 64 (by decide) W)
  have hw := fun W G' (hd : IsDk G' W b d) => write_any hd (hn.num_ (by omega)) hf 0 (noughts 64)
  have q1 : decide (40 < (text.size : Int)) = false := decide_eq_false (by omega)
  have hfR := hf.write 0 (noughts 64)
  have hnR := hn.write 0 (noughts 64)
  have e1 : formatV d text = keepsV newV (writeD d 0 (noughts 64)).1 text 1 := by unfold formatV; rw [if_neg (fun hh => hh hg), if_neg (by omega)]; exact if_neg (fun hh => hh h0)
  rw [h0] at hw
  generalize noughts 64 = Z64 at kz hw hfR hnR e1
  generalize (writeD d 0 Z64).1 = d1 at hw hfR hnR e1
  obtain ⟨Z, hZ⟩ : ∃ Z, Z = formatV d text := ⟨_, rfl⟩
  rw [← hZ] at h1 e1 ⊢
  have bd : ∀ W, (Instr.build 65 #[(0, .string text), (1, .int .i64 1)]).run Tryz.prog W = .ok (.agg #[.string text, .int .i64 1]) W := fun W => run_build W _ _ _ (by kernel_rfl)
  replace hw := Lib.hid hw
  replace hfR := Lib.hid hfR
  replace hnR := Lib.hid hnR
  replace e1 := Lib.hid e1
  replace h1 := Lib.hid h1
  clear hZ h hf hn hg h0
  go_enter Tryz.func31, Tryz.ntmps31
  go_wp2_with fail
  refine km.out.mono ?_
  rintro e w1 ⟨a, c, F, H, rfl, _, hv, hb, hF⟩
  have kk1 := Lib.hid (Keeps.of_below G hb)
  replace hv := Lib.hid hv
  replace hF := Lib.hid hF
  clear hb
  go_wp2_with fail
  refine (kz.out _).mono ?_
  rintro e w2 ⟨rfl, b2⟩
  have hv2 := Lib.hid (hv.out.below b2)
  have kk2 := Lib.hid (kk1.out.same (Keeps.of_below G (b2.mono (Nat.le_refl _) |> fun h => (show Below w1.heap.size w1 w2 from h))))
  clear b2 hv
  go_wp2_with fail
  refine (hw.out _ _ hv2.out.dk).mono ?_
  rintro e w3 ⟨rfl, G3, hd3, k3, hG3⟩
  have hv3 := Lib.hid (hv2.out.disk hd3 k3 hG3)
  have kk3 := Lib.hid (kk2.out.same k3)
  have s2 := kk2.out.size
  have hF3 := Lib.hid (show ∀ i, (F i ∨ G3 i) → G i ∨ w.heap.size ≤ i from fun i hi => hi.elim (hF.out i) (fun hg => (hG3 i hg).imp id (fun q => Nat.le_trans s2 q)))
  have kp := Lib.hid (keeps_any hv3.out hfR.out hnR.out (by omega) text ht 1)
  clear hd3 k3 hG3 hv2
  go_wp2_with fail
  refine kp.out.mono ?_
  intro en w4 hp
  rw [← e1.out] at hp
  obtain ⟨rfl, F4, h4, k4, q4⟩ := hp
  have kk4 := Lib.hid (kk3.out.trans k4 hF3.out)
  have hF4 := Lib.hid (into hF3.out kk3.out.size q4)
  replace h4 := Lib.hid h4
  clear k4 q4 kk3
  rw [h1.out]
  go_wp2_with fail
  go_ret2
  exact ⟨a, F4, rfl, h4.out, kk4.out, hF4.out⟩
end
end Go.Proofs.YtkghlbpkdkonbaaGreat.Vl

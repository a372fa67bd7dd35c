/- The document's disk: New; both disks side by side. -/
import Derived.Test.YtkghlbpkdkonbaaGreatRdiskG
import Derived.Test.YtkghlbpkdkonbaaGreatDiskPl
namespace Go.Proofs.YtkghlbpkdkonbaaGreat.Disk
open Go Go.RowKit Go.Maps Mem
/-- k noughts -/
def zeroB_ (k : Nat) : ByteArray := ⟨(List.replicate k 0).toArray⟩
set_option maxRecDepth 100000 in
theorem zeroB_size (k : Nat) : (zeroB_ k).size = k := by simp [zeroB_, ByteArray.size]
set_option maxRecDepth 100000 in
theorem chunk_zero {n i : Nat} (h : i < n) : chunk (zeroB_ (64 * n)) i = zero64 := by
  unfold chunk zeroB_ zero64
  apply ByteArray.ext
  rw [ByteArray.data_extract]
  apply Array.toList_inj.1
  rw [Array.toList_extract, List.extract_eq_take_drop, List.drop_replicate, List.take_replicate]
  congr 1
  omega
set_option maxRecDepth 100000 in
theorem openD_zero (n : Nat) : openD (zeroB_ (64 * n)) = newD n := by
  have e : openS (zeroB_ (64 * n)) n n = List.replicate n zero64 := by
    unfold openS
    apply List.ext_getElem
    · simp
    · intro i h1 h2
      simp at h1
      simp [h1, chunk_zero]
  unfold openD openTo
  rw [zeroB_size, show 64 * n / 64 = n by omega, e]
  rfl
set_option maxRecDepth 100000 in
theorem infoU8 : (Tryz.prog.info? 5).map (fun i => (i.zero, i.size, i.bytes)) = some (some (.int .u8 0), 1, 1) := by kernel_rfl
set_option maxRecDepth 100000 in
theorem zero_row {w2 : World} {B g N : Nat} (hrow : w2.ownsRow B 5 1 (.slice (some ⟨g, 0, none⟩) N N) N (madeCells (Value.int .u8 0).cells (N * 1)).toList) :
    (convert 72 9 (.slice (some ⟨g, 0, none⟩) N N)).run Tryz.prog w2 = .ok (.string (zeroB_ N)) w2 := by
  have hcv := run_convert_bytes_back (P := Tryz.prog) w2 72 9 5 ⟨g, 0, none⟩ N (List.replicate N 0) Tryz.underlying72 Tryz.underlying5 Tryz.underlying9 (fun j hj => by
    have hj' : j < N := by simpa using hj
    rw [hrow.cells (g := g) rfl j (.int .u8 0) (by simp [madeCells, hj', Value.cells, Nat.mod_one])]
    simp)
  rw [List.length_replicate] at hcv
  exact hcv
set_option maxRecDepth 100000 in
set_option maxHeartbeats 8000000 in
theorem rnew_any (w : World) (n : Nat) (h1 : 1 ≤ n) (h2 : n ≤ 16384) :
    Calls Tryz.prog 30 #[.int .i64 (n : Int)] w fun e w' => ∃ F b, e = .returned (.tuple #[.pointer (some ⟨b, 0, none⟩), .int .i64 0]) ∧ IsRk F w' b (newD n) ∧ (∀ i, F i → w.heap.size ≤ i) ∧ Below w.heap.size w w' := by
  obtain ⟨i0, hinf, hz0, hz1, hz2⟩ := info_parts infoU8
  obtain ⟨N, hN⟩ : ∃ N : Nat, N = 64 * n := ⟨_, rfl⟩
  have hNI : (N : Int) = 64 * (n : Int) := by omega
  have hN2 : N ≤ 1048576 := by omega
  have ko := fun W => ropen_yes (zeroB_ N) W (by rw [zeroB_size]; omega) (by rw [zeroB_size]; omega) (by rw [zeroB_size]; omega)
  have hOD : openD (zeroB_ N) = newD n := by rw [hN, openD_zero]
  rw [hOD] at ko
  have d1 : decide ((n : Int) < 1) = false := decide_eq_false (by omega)
  have d2 : decide (16384 < (n : Int)) = false := decide_eq_false (by omega)
  replace ko := Lib.hid ko
  replace hN := Lib.hid hN
  replace hNI := Lib.hid hNI
  clear hOD
  go_enter Tryz.func30, Tryz.ntmps30
  go_wp2_with (first | (at_make; refine wpList_make_full _ rfl _ _ _ rfl w.heap.size 5 i0 (.int .u8 0) 1 Tryz.underlying72 hinf hz0 hz1 .i64 .i64 _ _ N rfl rfl hNI.out.symm hNI.out.symm (by rw [hz2]; omega) (by unfold maxLen; omega) (Nat.le_refl _) ?_; intro w2 ho2 hg2; have hcv := zero_row ho2; have hb2 : Below w.heap.size w w2 := ⟨hg2.os, hg2.tape, hg2.output, hg2.size, fun k hk => hg2.block k hk (by simp)⟩; clear ho2 hg2; replace hb2 := Lib.hid hb2))
  refine (ko.out _).mono ?_
  rintro e w3 ⟨F, b, rfl, hr, hF, hb3⟩
  have hs2 := hb2.out.size
  have hF2 := Lib.hid (fun i hi => Nat.le_trans hs2 (hF i hi) : ∀ i, F i → w.heap.size ≤ i)
  replace hr := Lib.hid hr
  have hb := Lib.hid (hb2.out.trans (hb3.mono hs2))
  clear hF hb3 hcv
  go_wp2_with fail
  go_ret2
  exact ⟨F, b, rfl, hr.out, hF2.out, hb.out⟩
set_option maxRecDepth 100000 in
set_option maxHeartbeats 8000000 in
theorem rnew_no (w : World) (n : Int) (h : ¬ (1 ≤ n ∧ n ≤ 16384)) :
    Calls Tryz.prog 30 #[.int .i64 n] w fun e w' => e = .returned (.tuple #[.pointer none, .int .i64 60]) ∧ w' = w := by
  by_cases h1 : n < 1
  · have d1 : decide (n < 1) = true := decide_eq_true h1
    clear h
    go_enter Tryz.func30, Tryz.ntmps30
    go_wp2_with fail
    go_ret2
    exact ⟨rfl, rfl⟩
  · have h2 : 16384 < n := by omega
    have d1 : decide (n < 1) = false := decide_eq_false h1
    clear h
    go_enter Tryz.func30, Tryz.ntmps30
    go_wp2_with fail
    go_ret2
    exact ⟨rfl, rfl⟩

/-- both disks, side by side: X: blocks that are neither's and stay -/
def Two (X : Nat → Prop) (m : Nat) (w : World) (b c : Nat) (d d' : Dk) : Prop :=
  ∃ F G, IsDk F w b d ∧ IsRk G w c d' ∧ (∀ i, F i → ¬ G i) ∧ (∀ i, F i → ¬ X i) ∧ (∀ i, G i → ¬ X i) ∧ (∀ i, X i → i < w.heap.size) ∧ (Fit d ∧ NumTo m d) ∧ (Fit d' ∧ NumTo m d')
section
variable {X Y : Nat → Prop} {m m' : Nat} {w w' : World} {b c : Nat} {d d' d2 : Dk}
set_option maxRecDepth 100000 in
theorem IsDk.blt {F : Nat → Prop} (h : IsDk F w b d) : ∀ i, F i → i < w.heap.size := by
  obtain ⟨_, _, _, _, _, hc⟩ := h.core
  exact hc.2.2.2.2.2.2.2.2
set_option maxRecDepth 100000 in
theorem Two.mono (h : Two X m w b c d d') (hX : ∀ i, Y i → X i) : Two Y m w b c d d' := by
  obtain ⟨F, G, h1, h2, h3, h4, h5, h6, h7, h8⟩ := h
  exact ⟨F, G, h1, h2, h3, fun i hi hy => h4 i hi (hX i hy), fun i hi hy => h5 i hi (hX i hy), fun i hi => h6 i (hX i hi), h7, h8⟩
set_option maxRecDepth 100000 in
theorem Two.more (h : Two X m w b c d d') (hm : m ≤ m') : Two X m' w b c d d' := by
  obtain ⟨F, G, h1, h2, h3, h4, h5, h6, h7, h8⟩ := h
  exact ⟨F, G, h1, h2, h3, h4, h5, h6, ⟨h7.1, h7.2.mono hm⟩, ⟨h8.1, h8.2.mono hm⟩⟩
set_option maxRecDepth 100000 in
theorem Two.also (h : Two X m w b c d d') (hb : Below w.heap.size w w') (hY : ∀ i, Y i → X i ∨ (w.heap.size ≤ i ∧ i < w'.heap.size)) : Two Y m w' b c d d' := by
  obtain ⟨F, G, h1, h2, h3, h4, h5, h6, h7, h8⟩ := h
  refine ⟨F, G, h1.below hb, h2.below hb, h3, fun i hi hy => ?_, fun i hi hy => ?_, fun i hi => ?_, h7, h8⟩
  · have := h1.blt i hi
    rcases hY i hy with h | h
    · exact h4 i hi h
    · omega
  · have := h2.lt i hi
    rcases hY i hy with h | h
    · exact h5 i hi h
    · omega
  · rcases hY i hi with h | h
    · exact Nat.lt_of_lt_of_le (h6 i h) hb.size
    · exact h.2
set_option maxRecDepth 100000 in
theorem Two.below (h : Two X m w b c d d') (hb : Below w.heap.size w w') : Two X m w' b c d d' := h.also hb fun _ hi => Or.inl hi
set_option maxRecDepth 100000 in
/-- the program's disk is called -/
theorem Two.prog (h : Two X m w b c d d') {f : FuncId} {args : Array Value} {r : Ending} (hop : ∀ F, IsDk F w b d → Fit d → NumTo m d → Calls Tryz.prog f args w fun e w' => e = r ∧ ∃ F', IsDk F' w' b d2 ∧ Keeps F w w' ∧ ∀ i, F' i → F i ∨ w.heap.size ≤ i)
    (hf : Fit d → Fit d2) (hn : NumTo m d → NumTo m' d2) (hm : m ≤ m') : Calls Tryz.prog f args w fun e w' => e = r ∧ Two X m' w' b c d2 d' ∧ KeepX X w w' := by
  obtain ⟨F, G, h1, h2, h3, h4, h5, h6, h7, h8⟩ := h
  refine (hop F h1 h7.1 h7.2).mono ?_
  rintro e w' ⟨rfl, F', q1, q2, q3⟩
  refine ⟨rfl, ⟨F', G, q1, h2.keeps q2 (fun i hg hf => h3 i hf hg), fun i hi hg => ?_, fun i hi hx => ?_, h5, fun i hi => Nat.lt_of_lt_of_le (h6 i hi) q2.size, ⟨hf h7.1, hn h7.2⟩, ⟨h8.1, h8.2.mono hm⟩⟩, q2.mono h4⟩
  · rcases q3 i hi with h | h
    · exact h3 i h hg
    · have := h2.lt i hg; omega
  · rcases q3 i hi with h | h
    · exact h4 i h hx
    · have := h6 i hx; omega
set_option maxRecDepth 100000 in
/-- the document's disk is called -/
theorem Two.ref (h : Two X m w b c d d') {f : FuncId} {args : Array Value} {r : Ending} (hop : ∀ G, IsRk G w c d' → Fit d' → NumTo m d' → Calls Tryz.prog f args w fun e w' => e = r ∧ ∃ G', IsRk G' w' c d2 ∧ Keeps G w w' ∧ ∀ i, G' i → G i ∨ w.heap.size ≤ i)
    (hf : Fit d' → Fit d2) (hn : NumTo m d' → NumTo m' d2) (hm : m ≤ m') : Calls Tryz.prog f args w fun e w' => e = r ∧ Two X m' w' b c d d2 ∧ KeepX X w w' := by
  obtain ⟨F, G, h1, h2, h3, h4, h5, h6, h7, h8⟩ := h
  refine (hop G h2 h8.1 h8.2).mono ?_
  rintro e w' ⟨rfl, G', q1, q2, q3⟩
  refine ⟨rfl, ⟨F, G', h1.keeps q2 (fun i hf hg => h3 i hf hg), q1, fun i hi hg => ?_, h4, fun i hi hx => ?_, fun i hi => Nat.lt_of_lt_of_le (h6 i hi) q2.size, ⟨h7.1, h7.2.mono hm⟩, ⟨hf h8.1, hn h8.2⟩⟩, q2.mono h5⟩
  · rcases q3 i hg with h | h
    · exact h3 i hi h
    · have := h1.blt i hi; omega
  · rcases q3 i hi with h | h
    · exact h5 i h hx
    · have := h6 i hx; omega
end
end Go.Proofs.YtkghlbpkdkonbaaGreat.Disk

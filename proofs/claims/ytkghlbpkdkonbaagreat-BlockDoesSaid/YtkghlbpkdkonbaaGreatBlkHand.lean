/- The volume's contracts at a law: X: the blocks that are not the volume's and stay; laid. -/
import Derived.Test.YtkghlbpkdkonbaaGreatBlkRb
import Derived.Test.YtkghlbpkdkonbaaGreatBlkPl
namespace Go.Proofs.YtkghlbpkdkonbaaGreat.Vl
open Go Go.RowKit Go.Maps Mem Disk Nv
structure Hv (X : Nat → Prop) (N m : Nat) (w : World) (a b : Nat) (v : Vo) (d : Dk) : Prop where
  own : ∃ F, PV F w a b v d ∧ ∀ i, F i → ¬ X i
  xlt : ∀ i, X i → i < w.heap.size
  fn : Nv.Fn N m d
section
variable {X Y : Nat → Prop} {N m : Nat} {w w' : World} {a b : Nat} {v v' : Vo} {d d' : Dk}
set_option maxRecDepth 100000 in
theorem Hv.more {k : Nat} (h : Hv X N m w a b v d) (hk : m ≤ k) : Hv X N k w a b v d := ⟨h.own, h.xlt, h.fn.more hk⟩
set_option maxRecDepth 100000 in
theorem Hv.also (h : Hv X N m w a b v d) (hb : Below w.heap.size w w') (hY : ∀ i, Y i → X i ∨ (w.heap.size ≤ i ∧ i < w'.heap.size)) : Hv Y N m w' a b v d := by
  obtain ⟨⟨F, h1, h2⟩, h3, h4⟩ := h
  refine ⟨⟨F, h1.below hb, fun i hi hy => ?_⟩, fun i hi => ?_, h4⟩
  · have hlt := h1.lt i hi
    rcases hY i hy with h | h
    · exact h2 i hi h
    · omega
  · rcases hY i hi with h | h
    · exact Nat.lt_of_lt_of_le (h3 i h) hb.size
    · exact h.2
set_option maxRecDepth 100000 in
theorem Hv.below (h : Hv X N m w a b v d) (hb : Below w.heap.size w w') : Hv X N m w' a b v d := h.also hb fun _ hi => Or.inl hi
set_option maxRecDepth 100000 in
theorem Hv.sub (h : Hv X N m w a b v d) (hY : ∀ i, Y i → X i) : Hv Y N m w a b v d := by
  obtain ⟨⟨F, h1, h2⟩, h3, h4⟩ := h
  exact ⟨⟨F, h1, fun i hi hy => h2 i hi (hY i hy)⟩, fun i hi => h3 i (hY i hi), h4⟩
set_option maxRecDepth 100000 in
/-- a block of X turns -/
theorem Hv.turn (h : Hv X N m w a b v d) (hk : Keeps X w w') : Hv X N m w' a b v d := by
  obtain ⟨⟨F, h1, h2⟩, h3, h4⟩ := h
  exact ⟨⟨F, h1.keeps hk h2, h2⟩, fun i hi => Nat.lt_of_lt_of_le (h3 i hi) hk.size, h4⟩
set_option maxRecDepth 100000 in
theorem Hv.kf (h : Hv X N m w a b v d) : Kf v.L := by
  obtain ⟨⟨F, h1, h2⟩, h3, h4⟩ := h
  exact h1.kf
def HVPost (X : Nat → Prop) (N m : Nat) (w : World) (a b : Nat) (r : Vo × Dk × Int) (e : Ending) (w' : World) : Prop :=
  e = .returned (.int .i64 r.2.2) ∧ Hv X N m w' a b r.1 r.2.1 ∧ KeepX X w w'
set_option maxRecDepth 100000 in
theorem hand_of {F F' : Nat → Prop} (hF : ∀ i, F i → ¬ X i) (hX : ∀ i, X i → i < w.heap.size) (hp : PV F' w' a b v d) (hk : Keeps F w w') (h3 : ∀ i, F' i → F i ∨ w.heap.size ≤ i) (hfn : Nv.Fn N m d) : Hv X N m w' a b v d ∧ KeepX X w w' :=
  ⟨⟨⟨F', hp, fun i hi hx => (h3 i hi).elim (fun h => hF i h hx) (fun h => by have := hX i hx; omega)⟩, fun i hi => Nat.lt_of_lt_of_le (hX i hi) hk.size, hfn⟩, hk.mono hF⟩
set_option maxRecDepth 100000 in
theorem hvwrite (h : Hv X N m w a b v d) (hm : m ≤ 900000) (n : Int) (p : ByteArray) (hp : p.size ≤ 9223372036854775807) :
    Calls Tryz.prog 7 #[.pointer (some ⟨a, 0, none⟩), .int .i64 n, .string p] w (HVPost X N (m + 4) w a b (writeV v d n p)) := by
  obtain ⟨⟨F, ⟨G, H, c, h1⟩, h2⟩, h3, h4⟩ := h
  refine (vwrite_any h1 h4.fit h4.num hm n p hp).mono ?_
  rintro e w' ⟨rfl, F', h5, h6, h7⟩
  exact ⟨rfl, hand_of h2 h3 h5 h6 h7 (fn_writeV h4 v n p)⟩
set_option maxRecDepth 100000 in
theorem hvcommit (h : Hv X N m w a b v d) (hm : m ≤ 900000) (text : ByteArray) :
    Calls Tryz.prog 9 #[.pointer (some ⟨a, 0, none⟩), .string text] w (HVPost X N (m + 3) w a b (commitV v d text)) := by
  obtain ⟨⟨F, ⟨G, H, c, h1⟩, h2⟩, h3, h4⟩ := h
  refine (commit_any h1 h4.fit h4.num hm text).mono ?_
  rintro e w' ⟨rfl, F', h5, h6, h7⟩
  exact ⟨rfl, hand_of h2 h3 h5 h6 h7 (fn_commitV h4 v text)⟩
set_option maxRecDepth 100000 in
theorem hvread (h : Hv X N m w a b v d) (n : Int) : Calls Tryz.prog 5 #[.pointer (some ⟨a, 0, none⟩), .int .i64 n] w fun e w' =>
    e = .returned (.tuple #[.string (readV v d n).2.1, .int .i64 (readV v d n).2.2]) ∧ Hv X N m w' a b (readV v d n).1 d ∧ KeepX X w w' := by
  obtain ⟨⟨F, ⟨G, H, c, h1⟩, h2⟩, h3, h4⟩ := h
  refine (vread_any h1 h4.fit n).mono ?_
  rintro e w' ⟨rfl, F', h5, h6, h7⟩
  exact ⟨rfl, hand_of h2 h3 h5 h6 h7 h4⟩
set_option maxRecDepth 100000 in
theorem hvroot (h : Hv X N m w a b v d) : Calls Tryz.prog 24 #[.pointer (some ⟨a, 0, none⟩)] w fun e w' => e = .returned (.tuple #[.string v.text, .int .i64 (v.num : Int)]) ∧ ∃ n, w' = w.drewN n := by
  obtain ⟨⟨F, ⟨G, H, c, h1⟩, h2⟩, h3, h4⟩ := h
  exact vroot_any h1
set_option maxRecDepth 100000 in
theorem hvblocks (h : Hv X N m w a b v d) : Calls Tryz.prog 66 #[.pointer (some ⟨a, 0, none⟩)] w fun e w' => e = .returned (.int .i64 ((N / 4 : Nat) : Int)) ∧ w' = w := by
  obtain ⟨⟨F, ⟨G, H, c, h1⟩, h2⟩, h3, h4⟩ := h
  have := vblocks_any h1 h4.fit
  rwa [fn_blocks h4] at this
set_option maxRecDepth 100000 in
/-- opened anew, over the same disk: the old one is there, too -/
theorem hvopen (h : Hv X N m w a b v d) {v' : Vo} (ho : openV d = (some v', 0)) : Calls Tryz.prog 19 #[.pointer (some ⟨b, 0, none⟩)] w fun e w' =>
    ∃ a', e = .returned (.tuple #[.pointer (some ⟨a', 0, none⟩), .int .i64 0]) ∧ Hv X N m w' a' b v' d ∧ Below w.heap.size w w' := by
  obtain ⟨⟨F, ⟨G, H, c, h1⟩, h2⟩, h3, h4⟩ := h
  have k := vopen_any h1.dk h4.fit
  rw [ho] at k
  refine k.mono ?_
  rintro e w' ⟨hb, a', F', rfl, h5, h6⟩
  exact ⟨a', rfl, ⟨⟨F', h5, fun i hi hx => (h6 i hi).elim (fun hg => h2 i (h1.fg i hg) hx) (fun hle => by have := h3 i hx; omega)⟩, fun i hi => Nat.lt_of_lt_of_le (h3 i hi) hb.size, h4⟩, hb⟩
end
set_option maxRecDepth 100000 in
theorem results_tmp5 {fn : Func} {t1 t2 t3 t4 t5 : Tmp} (h : fn.results = #[.tmp t1, .tmp t2, .tmp t3, .tmp t4, .tmp t5]) (tmps : Array Value) (P : Program) (w : World) :
    (results fn tmps).run P w = .ok (.tuple #[tmps.getD t1 undef, tmps.getD t2 undef, tmps.getD t3 undef, tmps.getD t4 undef, tmps.getD t5 undef]) w := by
  simp [results, h]
def clamp400 (s : Int) : Nat := (max 1 (min s 400)).toNat
set_option maxRecDepth 100000 in
theorem clamp400_le (s : Int) : 1 ≤ clamp400 s ∧ clamp400 s ≤ 400 := by unfold clamp400; omega
set_option maxRecDepth 100000 in
theorem clamp400_int (s : Int) : max 1 (min s 400) = (clamp400 s : Int) := by unfold clamp400; omega
/-- both volumes, laid anew -/
def Bothv (w0 w : World) (a b k c : Nat) (v : Vo) (d : Dk) : Prop :=
  ∃ F G, PV F w a b v d ∧ RV G w k c v d ∧ (∀ i, F i → w0.heap.size ≤ i) ∧ (∀ i, G i → w0.heap.size ≤ i) ∧ ∀ i, F i → ¬ G i
set_option maxRecDepth 100000 in
theorem goodN {N : Nat} (h1 : 1 ≤ N) (h2 : N ≤ 16384) : goodD (newD N) ↔ 32 ≤ N := by
  unfold goodD blocksD
  rw [(Nv.Fn.new (n := N) h1 h2).len]
  omega
set_option maxRecDepth 100000 in
set_option maxHeartbeats 4000000 in
theorem laid_no (sec : Int) (text : ByteArray) (w : World) (hno : ¬ (32 ≤ clamp400 sec ∧ text.size ≤ 40)) : Calls Tryz.prog 4 #[.int .i64 sec, .string text] w fun e w' =>
    ∃ b c, e = .returned (.tuple #[.pointer (some ⟨b, 0, none⟩), .pointer none, .pointer (some ⟨c, 0, none⟩), .pointer none, .bool true]) ∧ Below w.heap.size w w' := by
  obtain ⟨hN1, hN2⟩ := clamp400_le sec
  have hmm := clamp400_int sec
  generalize clamp400 sec = N at hN1 hN2 hmm hno
  have n1 := Lib.hid (fun W => new_any W N hN1 (by omega))
  have n2 := Lib.hid (fun W => rnew_any W N hN1 (by omega))
  have hf := Nv.Fn.new (n := N) hN1 (by omega)
  have hg : ¬ (goodD (newD N) ∧ text.size ≤ 40) := by rw [goodN hN1 (by omega)]; exact hno
  have kn := fun G W b (h : IsDk G W b (newD N)) => format_no h hf.fit text hg
  have kr := fun G W b (h : IsRk G W b (newD N)) => rformat_no h hf.fit text hg
  generalize (formatV (newD N) text).2.2 = z at kn kr
  replace kn := Lib.hid kn
  replace kr := Lib.hid kr
  clear hno hN1 hN2 hf hg
  go_enter Tryz.func4, Tryz.ntmps4
  go_wp2_with fail
  refine (n1.out _).mono ?_
  rintro e w1 ⟨F, b, rfl, hd, hF, hb⟩
  replace hd := Lib.hid hd
  replace hF := Lib.hid hF
  replace hb := Lib.hid hb
  go_wp2_with fail
  refine (n2.out _).mono ?_
  rintro e w2 ⟨G, c, rfl, hr, hG, hb2⟩
  have hd2 := Lib.hid (hd.out.below hb2)
  have hb3 := Lib.hid (hb.out.trans (hb2.mono hb.out.size))
  replace hr := Lib.hid hr
  clear hd hF hG hb hb2 n1 n2 hmm
  go_wp2_with fail
  refine (kn.out _ _ _ hd2.out).mono ?_
  rintro e w3 ⟨rfl, b3⟩
  have hr3 := Lib.hid (hr.out.below b3)
  have hb4 := Lib.hid (hb3.out.trans (b3.mono hb3.out.size))
  clear kn hd2 hr hb3 b3
  go_wp2_with fail
  refine (kr.out _ _ _ hr3.out).mono ?_
  rintro e w4 ⟨rfl, b4⟩
  have hb5 := Lib.hid (hb4.out.trans (b4.mono hb4.out.size))
  clear kr hr3 b4
  go_wp2_with fail
  (try simp only [Exit.inBlock, Exit.then])
  refine bodyPost_ret (results_tmp5 rfl _ _ _) rfl ?_
  exact ⟨b, c, by simp, hb5.out⟩
set_option maxRecDepth 100000 in
set_option maxHeartbeats 4000000 in
theorem laid_yes (sec : Int) (text : ByteArray) (w : World) (h32 : 32 ≤ clamp400 sec) (ht : text.size ≤ 40) : Calls Tryz.prog 4 #[.int .i64 sec, .string text] w fun e w' =>
    ∃ a b k c, e = .returned (.tuple #[.pointer (some ⟨b, 0, none⟩), .pointer (some ⟨a, 0, none⟩), .pointer (some ⟨c, 0, none⟩), .pointer (some ⟨k, 0, none⟩), .bool true]) ∧ Bothv w w' a b k c ⟨text, 1, [], false⟩ (laidV (clamp400 sec) text) ∧ Below w.heap.size w w' := by
  obtain ⟨hN1, hN2⟩ := clamp400_le sec
  have hmm := clamp400_int sec
  generalize clamp400 sec = N at hN1 hN2 hmm h32 ⊢
  have n1 := Lib.hid (fun W => new_any W N hN1 (by omega))
  have n2 := Lib.hid (fun W => rnew_any W N hN1 (by omega))
  have hf := Nv.Fn.new (n := N) hN1 (by omega)
  obtain ⟨z1, z2, _⟩ := laidV_ok h32 (by omega) ht
  have hgood := (goodN hN1 (by omega)).2 h32
  have kn := fun G W b (h : IsDk G W b (newD N)) => format_yes h hf.fit hf.num (by omega) text hgood ht z1 (by rw [z2])
  have kr := fun G W b (h : IsRk G W b (newD N)) => rformat_yes h hf.fit hf.num (by omega) text hgood ht z1 (by rw [z2])
  rw [z2] at kn kr
  replace kn := Lib.hid kn
  replace kr := Lib.hid kr
  clear h32 hN1 hN2 hf z1 z2 hgood
  go_enter Tryz.func4, Tryz.ntmps4
  go_wp2_with fail
  refine (n1.out _).mono ?_
  rintro e w1 ⟨F, b, rfl, hd, hF, hb⟩
  replace hd := Lib.hid hd
  replace hF := Lib.hid hF
  replace hb := Lib.hid hb
  go_wp2_with fail
  refine (n2.out _).mono ?_
  rintro e w2 ⟨G, c, rfl, hr, hG, hb2⟩
  have hd2 := Lib.hid (hd.out.below hb2)
  have hb3 := Lib.hid (hb.out.trans (hb2.mono hb.out.size))
  have hFG := Lib.hid (fun i (hi : F i) (hg : G i) => Nat.lt_irrefl _ (Nat.lt_of_lt_of_le (hd.out.blt i hi) (hG i hg)))
  have hG2 := Lib.hid (fun i (hi : G i) => Nat.le_trans hb.out.size (hG i hi))
  replace hr := Lib.hid hr
  clear hd hG hb hb2 n1 n2 hmm
  go_wp2_with fail
  refine (kn.out _ _ _ hd2.out).mono ?_
  rintro e w3 ⟨a, F3, rfl, hp, kp, hF3⟩
  have hr3 := Lib.hid (hr.out.keeps kp (fun i hi hf => hFG.out i hf hi))
  have hb4 := Lib.hid (hb3.out.trans (Keeps.toBelow kp hF.out hb3.out.size))
  have hFG3 := Lib.hid (fun i (hi : F3 i) (hg : G i) => (hF3 i hi).elim (fun h => hFG.out i h hg) (fun h => Nat.lt_irrefl _ (Nat.lt_of_lt_of_le (hr.out.lt i hg) h)))
  have hF4 := Lib.hid (fun i (hi : F3 i) => (hF3 i hi).elim (fun h => hF.out i h) (fun h => Nat.le_trans hb3.out.size h))
  replace hp := Lib.hid hp
  clear hr kp hb3 hF3 hFG hF hd2 kn
  go_wp2_with fail
  refine (kr.out _ _ _ hr3.out).mono ?_
  rintro e w5 ⟨k, G5, rfl, hq, kq, hG5⟩
  have hp5 := Lib.hid (hp.out.keeps kq (fun i hi hg => hFG3.out i hi hg))
  have hb5 := Lib.hid (hb4.out.trans (Keeps.toBelow kq hG2.out hb4.out.size))
  have hFG5 := Lib.hid (fun i (hi : F3 i) (hg : G5 i) => (hG5 i hg).elim (fun h => hFG3.out i hi h) (fun h => Nat.lt_irrefl _ (Nat.lt_of_lt_of_le (hp.out.lt i hi) h)))
  have hG6 := Lib.hid (fun i (hi : G5 i) => (hG5 i hi).elim (fun h => hG2.out i h) (fun h => Nat.le_trans hb4.out.size h))
  replace hq := Lib.hid hq
  clear hp kq hb4 hG5 hFG3 hG2 hr3 kr
  go_wp2_with fail
  (try simp only [Exit.inBlock, Exit.then])
  refine bodyPost_ret (results_tmp5 rfl _ _ _) rfl ?_
  exact ⟨a, b, k, c, rfl, ⟨F3, G5, hp5.out, hq.out, hF4.out, hG6.out, hFG5.out⟩, hb5.out⟩
set_option maxRecDepth 100000 in
theorem Bothv.hand {w0 w : World} {a b k c N m : Nat} {v : Vo} {d : Dk} (h : Bothv w0 w a b k c v d) (hf : Nv.Fn N m d) (hb : Below w0.heap.size w0 w) : Hv (fun i => i < w0.heap.size) N m w a b v d := by
  obtain ⟨F, G, h1, h2, h3, h4, h5⟩ := h
  exact ⟨⟨F, h1, fun i hi hx => Nat.lt_irrefl _ (Nat.lt_of_lt_of_le hx (h3 i hi))⟩, fun i hi => Nat.lt_of_lt_of_le hi hb.size, hf⟩
end Go.Proofs.YtkghlbpkdkonbaaGreat.Vl

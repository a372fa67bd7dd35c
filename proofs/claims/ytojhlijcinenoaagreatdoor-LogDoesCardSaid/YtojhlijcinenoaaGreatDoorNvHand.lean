/- The log's contracts at a law: X: the blocks that are not the log's and stay; laid. -/
import Derived.Test.YtojhlijcinenoaaGreatDoorNvRefC
import Derived.Test.YtojhlijcinenoaaGreatDoorNvPl
import Derived.Test.YtojhlijcinenoaaGreatDoorNvWalkE
import Derived.Test.YtojhlijcinenoaaGreatDoorDiskWd
import Derived.Test.YtojhlijcinenoaaGreatDoorRdiskH
namespace Go.Proofs.YtojhlijcinenoaaGreatDoor.Nv
open Go Go.RowKit Go.Maps Mem Disk
structure Hl (X : Nat → Prop) (N m : Nat) (w : World) (a b : Nat) (l : Lg) (d : Dk) : Prop where
  own : ∃ F, PL F w a b l d ∧ ∀ i, F i → ¬ X i
  xlt : ∀ i, X i → i < w.heap.size
  fn : Fn N m d
section
variable {X Y : Nat → Prop} {N m : Nat} {w w' : World} {a b : Nat} {l l' : Lg} {d d' : Dk}
set_option maxRecDepth 100000 in
theorem Hl.more {k : Nat} (h : Hl X N m w a b l d) (hk : m ≤ k) : Hl X N k w a b l d := ⟨h.own, h.xlt, h.fn.more hk⟩
set_option maxRecDepth 100000 in
theorem Hl.also (h : Hl X N m w a b l d) (hb : Below w.heap.size w w') (hY : ∀ i, Y i → X i ∨ (w.heap.size ≤ i ∧ i < w'.heap.size)) : Hl Y N m w' a b l d := by
  obtain ⟨⟨F, h1, h2⟩, h3, h4⟩ := h
  refine ⟨⟨F, h1.below hb, fun i hi hy => ?_⟩, fun i hi => ?_, h4⟩
  · have hlt := h1.lt i hi
    rcases hY i hy with h | h
    · exact h2 i hi h
    · omega
  · rcases hY i hi with h | h
    · exact Nat.lt_of_lt_of_le (h3 i h) hb.size
    · exact h.2
set_option maxRecDepth 100000 in
theorem Hl.below (h : Hl X N m w a b l d) (hb : Below w.heap.size w w') : Hl X N m w' a b l d := h.also hb fun _ hi => Or.inl hi
set_option maxRecDepth 100000 in
/-- a block of X turns -/
theorem Hl.turn (h : Hl X N m w a b l d) (hk : Keeps X w w') : Hl X N m w' a b l d := by
  obtain ⟨⟨F, h1, h2⟩, h3, h4⟩ := h
  exact ⟨⟨F, h1.keeps hk h2, h2⟩, fun i hi => Nat.lt_of_lt_of_le (h3 i hi) hk.size, h4⟩
/-- a call of the log's at a law -/
def HPost (X : Nat → Prop) (N m : Nat) (w : World) (a b : Nat) (r : Lg × Dk × Int) (e : Ending) (w' : World) : Prop :=
  e = .returned (.int .i64 r.2.2) ∧ Hl X N m w' a b r.1 r.2.1 ∧ KeepX X w w'
set_option maxRecDepth 100000 in
theorem NPost.hand {F : Nat → Prop} {r : Lg × Dk × Int} {e : Ending} (hF : ∀ i, F i → ¬ X i) (hX : ∀ i, X i → i < w.heap.size) (hfn : Fn N m r.2.1) (h : NPost F w a b r e w') : HPost X N m w a b r e w' := by
  obtain ⟨rfl, F', h1, h2, h3⟩ := h
  exact ⟨rfl, ⟨⟨F', h1, fun i hi hx => (h3 i hi).elim (fun h => hF i h hx) (fun h => by have := hX i hx; omega)⟩, fun i hi => Nat.lt_of_lt_of_le (hX i hi) h2.size, hfn⟩, h2.mono hF⟩
set_option maxRecDepth 100000 in
theorem hlappend (h : Hl X N m w a b l d) (hm : m ≤ 900000) (hz : (enc l.list).size ≤ 64 * halfD d) (hll : l.list.length ≤ 1048575) (r : ByteArray) :
    Calls Tryz.prog 5 #[.pointer (some ⟨a, 0, none⟩), .string r] w (HPost X N (m + 30) w a b (appendL l d r)) := by
  obtain ⟨⟨F, h1, h2⟩, h3, h4⟩ := h
  exact (append_any h1 h4.fit h4.num hm hz hll r).mono fun e w' hp => hp.hand h2 h3 (h4.append l r)
set_option maxRecDepth 100000 in
theorem hlstart (h : Hl X N m w a b l d) (hm : m ≤ 900000) (g : Int) :
    Calls Tryz.prog 7 #[.pointer (some ⟨a, 0, none⟩), .int .i64 g] w (HPost X N (m + 2) w a b (startL l d g)) := by
  obtain ⟨⟨F, h1, h2⟩, h3, h4⟩ := h
  exact (start_any h1 h4.fit h4.num hm g).mono fun e w' hp => hp.hand h2 h3 (h4.start l g)
set_option maxRecDepth 100000 in
theorem hlroom (h : Hl X N m w a b l d) (hz : (enc l.list).size ≤ 1048576) : Calls Tryz.prog 27 #[.pointer (some ⟨a, 0, none⟩)] w fun e w' => e = .returned (.int .i64 (roomL l d)) ∧ ∃ n, w' = w.drewN n := by
  obtain ⟨⟨F, h1, h2⟩, h3, h4⟩ := h
  exact room_any h1 h4.fit hz
set_option maxRecDepth 100000 in
theorem hlsteps (h : Hl X N m w a b l d) : Calls Tryz.prog 25 #[.pointer (some ⟨b, 0, none⟩)] w fun e w' => e = .returned (.int .i64 (d.steps : Int)) ∧ w' = w := by
  obtain ⟨⟨F, ⟨G, v, h1⟩, h2⟩, h3, h4⟩ := h
  exact steps_any h1.dk
set_option maxRecDepth 100000 in
theorem hlrecords (h : Hl X N m w a b l d) (hl : l.list.length ≤ 1048576) : Calls Tryz.prog 30 #[.pointer (some ⟨a, 0, none⟩)] w fun e w' =>
    ∃ A c, e = .returned (.slice A l.list.length c) ∧ w'.ownsRow w.heap.size 9 1 (.slice A l.list.length c) l.list.length (l.list.map Value.string) ∧ Below w.heap.size w w' := by
  obtain ⟨⟨F, h1, h2⟩, h3, h4⟩ := h
  exact records_any h1 hl
set_option maxRecDepth 100000 in
theorem hlgen (h : Hl X N m w a b l d) : Calls Tryz.prog 26 #[.pointer (some ⟨a, 0, none⟩)] w fun e w' => e = .returned (.int .i64 (l.gen : Int)) ∧ w' = w := by
  obtain ⟨⟨F, h1, h2⟩, h3, h4⟩ := h
  exact gen_any h1
set_option maxRecDepth 100000 in
theorem hldead (h : Hl X N m w a b l d) : Calls Tryz.prog 29 #[.pointer (some ⟨a, 0, none⟩)] w fun e w' => e = .returned (.bool l.dead) ∧ w' = w := by
  obtain ⟨⟨F, h1, h2⟩, h3, h4⟩ := h
  exact dead_any_ h1
end
set_option maxRecDepth 100000 in
/-- five results, each in a slot -/
theorem results_tmp5 {fn : Func} {t1 t2 t3 t4 t5 : Tmp} (h : fn.results = #[.tmp t1, .tmp t2, .tmp t3, .tmp t4, .tmp t5]) (tmps : Array Value) (P : Program) (w : World) :
    (results fn tmps).run P w = .ok (.tuple #[tmps.getD t1 undef, tmps.getD t2 undef, tmps.getD t3 undef, tmps.getD t4 undef, tmps.getD t5 undef]) w := by
  simp [results, h]
def clamp100 (s : Int) : Nat := (max 1 (min s 100)).toNat
set_option maxRecDepth 100000 in
theorem clamp100_le (s : Int) : 1 ≤ clamp100 s ∧ clamp100 s ≤ 100 := by unfold clamp100; omega
set_option maxRecDepth 100000 in
theorem clamp100_int (s : Int) : max 1 (min s 100) = (clamp100 s : Int) := by unfold clamp100; omega
/-- both logs, laid anew -/
def laidD (N g : Nat) : Dk := (headsL ⟨g, [], false⟩ (newD N) g 0).2.1
def Bothl (w0 w : World) (a b k c : Nat) (l : Lg) (d : Dk) : Prop :=
  ∃ F G, PL F w a b l d ∧ RL G w k c l d ∧ (∀ i, F i → w0.heap.size ≤ i) ∧ (∀ i, G i → w0.heap.size ≤ i) ∧ ∀ i, F i → ¬ G i
set_option maxRecDepth 100000 in
theorem laidD_ok {N : Nat} (h1 : 1 ≤ N) (h2 : N ≤ 16384) (g : Nat) : headsL ⟨g, [], false⟩ (newD N) g 0 = (⟨g, [], false⟩, laidD N g, 0) ∧ Al N (laidD N g) ∧ Fn N 2 (laidD N g) := by
  have hf := Fn.new h1 h2
  obtain ⟨a1, a2, a3⟩ := (Al.new N).heads hf.fit h1 ⟨g, [], false⟩ g 0
  exact ⟨Prod.ext a2 (Prod.ext rfl a1), a3, hf.heads _ _ _⟩
set_option maxRecDepth 100000 in
set_option maxHeartbeats 4000000 in
theorem laid_no (sec gen : Int) (w : World) (hno : clamp100 sec < 5 ∨ gen < 0 ∨ 1099511627776 < gen) : Calls Tryz.prog 4 #[.int .i64 sec, .int .i64 gen] w fun e w' =>
    ∃ b c, e = .returned (.tuple #[.pointer (some ⟨b, 0, none⟩), .pointer none, .pointer (some ⟨c, 0, none⟩), .pointer none, .bool true]) ∧ Below w.heap.size w w' := by
  obtain ⟨hN1, hN2⟩ := clamp100_le sec
  have hmm := clamp100_int sec
  generalize clamp100 sec = N at hN1 hN2 hmm hno
  have n1 := Lib.hid (fun W => new_any W N hN1 (by omega))
  have n2 := Lib.hid (fun W => rnew_any W N hN1 (by omega))
  have kn := Lib.hid (fun G W b (h : IsDk G W b (newD N)) => format_no h gen (by rw [show (newD N).stays.length = N from List.length_replicate]; exact hno))
  have kr := Lib.hid (fun G W b (h : IsRk G W b (newD N)) => rformat_no h gen (by rw [show (newD N).stays.length = N from List.length_replicate]; exact hno))
  clear hno hN1 hN2
  go_enter Tryz.func4, Tryz.ntmps4
  go_wp2_with fail
  refine (n1.out _).mono ?_
  rintro e w1 ⟨F, b, rfl, hd, hF, hb⟩
  replace hd := Lib.hid hd
  replace hF := Lib.hid hF
  replace hb := Lib.hid hb
  go_wp2_with fail
  refine (n2.out _).mono ?_
  rintro e w2 ⟨G, c, rfl, hr, hG, hb2⟩
  have hd2 := Lib.hid (hd.out.below hb2)
  have hb3 := Lib.hid (hb.out.trans (hb2.mono hb.out.size))
  replace hr := Lib.hid hr
  clear hd hF hG hb hb2 n1 n2 hmm
  go_wp2_with fail
  refine (kn.out _ _ _ hd2.out).mono ?_
  rintro e w3 ⟨rfl, rfl⟩
  clear kn hd2
  go_wp2_with fail
  refine (kr.out _ _ _ hr.out).mono ?_
  rintro e w3 ⟨rfl, rfl⟩
  clear kr hr
  go_wp2_with fail
  (try simp only [Exit.inBlock, Exit.then])
  refine bodyPost_ret (results_tmp5 rfl _ _ _) rfl ?_
  exact ⟨b, c, rfl, hb3.out⟩
set_option maxRecDepth 100000 in
set_option maxHeartbeats 4000000 in
theorem laid_yes (sec : Int) (g : Nat) (w : World) (h5 : 5 ≤ clamp100 sec) (hg : g ≤ 1099511627776) : Calls Tryz.prog 4 #[.int .i64 sec, .int .i64 (g : Int)] w fun e w' =>
    ∃ a b k c, e = .returned (.tuple #[.pointer (some ⟨b, 0, none⟩), .pointer (some ⟨a, 0, none⟩), .pointer (some ⟨c, 0, none⟩), .pointer (some ⟨k, 0, none⟩), .bool true]) ∧ Bothl w w' a b k c ⟨g, [], false⟩ (laidD (clamp100 sec) g) ∧ Below w.heap.size w w' := by
  obtain ⟨hN1, hN2⟩ := clamp100_le sec
  have hmm := clamp100_int sec
  generalize clamp100 sec = N at hN1 hN2 hmm h5 ⊢
  have n1 := Lib.hid (fun W => new_any W N hN1 (by omega))
  have n2 := Lib.hid (fun W => rnew_any W N hN1 (by omega))
  have hf := Fn.new (n := N) hN1 (by omega)
  have kn := fun G W b (h : IsDk G W b (newD N)) => format_yes h hf.fit hf.num (by omega) g (by rw [hf.len]; exact h5) hg
  have kr := fun G W b (h : IsRk G W b (newD N)) => rformat_yes h hf.fit hf.num (by omega) g (by rw [hf.len]; exact h5) hg
  rw [(laidD_ok hN1 (by omega) g).1] at kn kr
  replace kn := Lib.hid kn
  replace kr := Lib.hid kr
  clear h5 hN1 hN2 hf hg
  go_enter Tryz.func4, Tryz.ntmps4
  go_wp2_with fail
  refine (n1.out _).mono ?_
  rintro e w1 ⟨F, b, rfl, hd, hF, hb⟩
  replace hd := Lib.hid hd
  replace hF := Lib.hid hF
  replace hb := Lib.hid hb
  go_wp2_with fail
  refine (n2.out _).mono ?_
  rintro e w2 ⟨G, c, rfl, hr, hG, hb2⟩
  have hd2 := Lib.hid (hd.out.below hb2)
  have hb3 := Lib.hid (hb.out.trans (hb2.mono hb.out.size))
  have hFG := Lib.hid (fun i (hi : F i) (hg : G i) => Nat.lt_irrefl _ (Nat.lt_of_lt_of_le (hd.out.blt i hi) (hG i hg)))
  have hG2 := Lib.hid (fun i (hi : G i) => Nat.le_trans hb.out.size (hG i hi))
  replace hr := Lib.hid hr
  clear hd hG hb hb2 n1 n2 hmm
  go_wp2_with fail
  refine (kn.out _ _ _ hd2.out).mono ?_
  rintro e w3 ⟨a, F3, rfl, hp, kp, hF3⟩
  have hr3 := Lib.hid (hr.out.keeps kp (fun i hi hf => hFG.out i hf hi))
  have hb4 := Lib.hid (hb3.out.trans (Keeps.toBelow kp hF.out hb3.out.size))
  have hFG3 := Lib.hid (fun i (hi : F3 i) (hg : G i) => (hF3 i hi).elim (fun h => hFG.out i h hg) (fun h => Nat.lt_irrefl _ (Nat.lt_of_lt_of_le (hr.out.lt i hg) h)))
  have hF4 := Lib.hid (fun i (hi : F3 i) => (hF3 i hi).elim (fun h => hF.out i h) (fun h => Nat.le_trans hb3.out.size h))
  replace hp := Lib.hid hp
  rw [ptrIf, if_pos rfl]
  clear hr kp hb3 hF3 hFG hF hd2 kn
  go_wp2_with fail
  refine (kr.out _ _ _ hr3.out).mono ?_
  rintro e w5 ⟨k, G5, rfl, hq, kq, hG5⟩
  have hp5 := Lib.hid (hp.out.keeps kq (fun i hi hg => hFG3.out i hi hg))
  have hb5 := Lib.hid (hb4.out.trans (Keeps.toBelow kq hG2.out hb4.out.size))
  have hFG5 := Lib.hid (fun i (hi : F3 i) (hg : G5 i) => (hG5 i hg).elim (fun h => hFG3.out i hi h) (fun h => Nat.lt_irrefl _ (Nat.lt_of_lt_of_le (hp.out.lt i hi) h)))
  have hG6 := Lib.hid (fun i (hi : G5 i) => (hG5 i hi).elim (fun h => hG2.out i h) (fun h => Nat.le_trans hb4.out.size h))
  replace hq := Lib.hid hq
  rw [ptrIf, if_pos rfl]
  clear hp kq hb4 hG5 hFG3 hG2 hr3 kr
  go_wp2_with fail
  (try simp only [Exit.inBlock, Exit.then])
  refine bodyPost_ret (results_tmp5 rfl _ _ _) rfl ?_
  exact ⟨a, b, k, c, rfl, ⟨F3, G5, hp5.out, hq.out, hF4.out, hG6.out, hFG5.out⟩, hb5.out⟩
end Go.Proofs.YtojhlijcinenoaaGreatDoor.Nv

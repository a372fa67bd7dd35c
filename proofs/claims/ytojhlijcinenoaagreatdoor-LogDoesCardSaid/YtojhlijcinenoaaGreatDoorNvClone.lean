/- Log.Clone; what is done to the old log behind it. -/
import Derived.Test.YtojhlijcinenoaaGreatDoorNvTwoB
import Derived.Test.YtojhlijcinenoaaGreatDoorNvShared
namespace Go.Proofs.YtojhlijcinenoaaGreatDoor.Nv
open Go Go.RowKit Go.Maps Mem Disk
section
variable {X Y F F0 G : Nat → Prop} {N m m' : Nat} {w w' : World} {a b a2 b2 k c : Nat} {v : Value} {l l' l2 lo lo2 : Lg} {d d' d2 e1 e2 : Dk}
set_option maxRecDepth 100000 in
set_option maxHeartbeats 4000000 in
theorem lclone_blk (h : Blk w a 62 (lgc b v l)) (b2 : Nat) (A : Option Addr) (n c : Nat) (hv : v = .slice A n c) : Calls Tryz.prog 21 #[.pointer (some ⟨a, 0, none⟩), .pointer (some ⟨b2, 0, none⟩)] w fun e w' =>
    ∃ a2, e = .returned (.pointer (some ⟨a2, 0, none⟩)) ∧ w.heap.size ≤ a2 ∧ Blk w' a2 62 (lgc b2 v l) ∧ Below w.heap.size w w' := by
  subst hv
  have c0 : w.cell? ⟨a, 0, none⟩ = some (.pointer (some ⟨b, 0, none⟩)) := h.cell 0
  have c1 : w.cell? ⟨a, 1, none⟩ = some (.int .i64 (l.gen : Int)) := h.cell 1
  have c2 : w.cell? ⟨a, 2, none⟩ = some (.string (enc l.list)) := h.cell 2
  have c3 : w.cell? ⟨a, 3, none⟩ = some (.slice A n c) := h.cell 3
  have c4 : w.cell? ⟨a, 4, none⟩ = some (.bool l.dead) := h.cell 4
  clear h
  obtain ⟨E, hE⟩ : ∃ E, E = enc l.list := ⟨_, rfl⟩
  have e2 : lgc b2 (.slice A n c) l = #[.pointer (some ⟨b2, 0, none⟩), .int .i64 (l.gen : Int), .string E, .slice A n c, .bool l.dead] := by rw [hE]; rfl
  rw [← hE] at c2
  replace hE := Lib.hid hE
  replace e2 := Lib.hid e2
  go_enter Tryz.func21, Tryz.ntmps21
  go_upto_region 2 with fail
  obtain ⟨P, hP⟩ : ∃ P, P = w.heap.size := ⟨_, rfl⟩
  obtain ⟨W, hW⟩ : ∃ W, W = w.alloc (.cells #[.pointer (some ⟨b, 0, none⟩), .int .i64 (l.gen : Int), .string E, .slice A n c, .bool l.dead] 62) := ⟨_, rfl⟩
  have hWb : Below w.heap.size w W := by rw [hW]; exact (Below.refl _ w).alloc (Nat.le_refl _) _
  have hB : Blk W P 62 #[.pointer (some ⟨b, 0, none⟩), .int .i64 (l.gen : Int), .string E, .slice A n c, .bool l.dead] := by rw [hW, hP]; exact Blk.new w _ _
  rw [← hW, ← hP]
  have hPw : w.heap.size ≤ P := Nat.le_of_eq hP.symm
  have b0 : W.cell? ⟨P, 0, none⟩ = some (.pointer (some ⟨b, 0, none⟩)) := hB.cell 0
  have f0 := hB.free 0
  have hB2 : Blk (W.setCell ⟨P, 0, none⟩ (.pointer (some ⟨b2, 0, none⟩))) P 62 #[.pointer (some ⟨b2, 0, none⟩), .int .i64 (l.gen : Int), .string E, .slice A n c, .bool l.dead] := hB.put 0 (.pointer (some ⟨b2, 0, none⟩))
  have hb2 := hWb.setCell (p := ⟨P, 0, none⟩) hPw (.pointer (some ⟨b2, 0, none⟩))
  replace hB := Lib.hid hB
  replace hB2 := Lib.hid hB2
  replace hb2 := Lib.hid hb2
  clear hW hP hWb c0 c1 c2 c3 c4
  go_wp2_with fail
  go_ret
  refine ⟨P, rfl, hPw, ?_, hb2.out⟩
  rw [e2.out]
  exact hB2.out
/-- the new disk beside the two logs -/
def DC (X : Nat → Prop) (N m : Nat) (w : World) (a b b2 k c : Nat) (l : Lg) (d : Dk) (l' : Lg) (d' : Dk) : Prop :=
  ∃ F2, IsDk F2 w b2 d ∧ (∀ i, F2 i → ¬ X i) ∧ TL (fun i => X i ∨ F2 i) N m w a b k c l d l' d'
/-- the old log, and the new one beside the document's -/
def CL (X : Nat → Prop) (N m : Nat) (w : World) (a b : Nat) (lo : Lg) (e1 : Dk) (a2 b2 k c : Nat) (l : Lg) (d : Dk) (l' : Lg) (d' : Dk) : Prop :=
  ∃ F0, Nvs.PL F0 w a b lo e1 ∧ (∀ i, F0 i → ¬ X i) ∧ TL (fun i => X i ∨ F0 i) N m w a2 b2 k c l d l' d' ∧ Fn N m e1
set_option maxRecDepth 100000 in
theorem tclone (h : TL X N m w a b k c l d l' d') : Calls Tryz.prog 20 #[.pointer (some ⟨b, 0, none⟩)] w fun e w' =>
    ∃ b2, e = .returned (.pointer (some ⟨b2, 0, none⟩)) ∧ Below w.heap.size w w' ∧ DC X N m w' a b b2 k c l d l' d' := by
  have h0 := h
  obtain ⟨F, G, ⟨F1, v, h1⟩, h2, h3, h4, h5, h6, h7, h8⟩ := h
  refine (clone_any h1.dk h7.fit).mono ?_
  rintro e w' ⟨F2, b2, rfl, q1, q2, q3⟩
  refine ⟨b2, rfl, q3, F2, q1, fun i hi hx => ?_, h0.also q3 fun i hi => ?_⟩
  · have := q2 i hi; have := h6 i hx; omega
  · exact hi.imp id fun hi => ⟨q2 i hi, q1.blt i hi⟩
set_option maxRecDepth 100000 in
theorem tlclone (h : DC X N m w a b b2 k c l d l' d') : Calls Tryz.prog 21 #[.pointer (some ⟨a, 0, none⟩), .pointer (some ⟨b2, 0, none⟩)] w fun e w' =>
    ∃ a2, e = .returned (.pointer (some ⟨a2, 0, none⟩)) ∧ Below w.heap.size w w' ∧ CL X N m w' a b l d a2 b2 k c l d l' d' := by
  obtain ⟨F2, q1, q2, F, G, ⟨F1, v, h1⟩, h2, h3, h4, h5, h6, h7, h8⟩ := h
  obtain ⟨A, cc, hv⟩ := own_slice h1.row
  refine (lclone_blk h1.blk b2 A _ cc hv).mono ?_
  rintro e w' ⟨a2, rfl, ha2, hB, hb⟩
  have hs := hb.size
  have p1 := h1.below hb
  refine ⟨a2, rfl, hb, fun i => i = a ∨ F1 i, ⟨F1, v, ⟨p1.dk, p1.blk, p1.row, Or.inl rfl, fun i hi => Or.inr hi, p1.ga, p1.gv, fun i hi => ?_⟩⟩, fun i hi hx => ?_, ⟨fun i => i = a2 ∨ F2 i ∨ v.ownBlock = some i, G, ⟨F2, v, ⟨q1.below hb, hB, p1.row, Or.inl rfl, fun j e => Or.inr (Or.inr e), fun i hi => Or.inr (Or.inl hi), fun hi => ?_, fun j e hi => ?_, fun i hi => ?_⟩⟩, h2.below hb, fun i hi hg => ?_, fun i hi hx => ?_, fun i hg hx => ?_, fun i hx => ?_, h7, h8⟩, h7⟩
  · rcases hi with rfl | hi
    · exact p1.blk.lt
    · exact p1.lt i (p1.fg i hi)
  · rcases hi with rfl | hi
    · exact h4 _ h1.fa (Or.inl hx)
    · exact h4 i (h1.fg i hi) (Or.inl hx)
  · have := q1.blt _ hi; omega
  · exact h4 j (h1.fv j e) (Or.inr hi)
  · rcases hi with rfl | hi | hi
    · exact hB.lt
    · exact Nat.lt_of_lt_of_le (q1.blt i hi) hs
    · exact p1.lt i (p1.fv i hi)
  · rcases hi with rfl | hi | hi
    · have := h2.lt _ hg; omega
    · exact h5 i hg (Or.inr hi)
    · exact h3 i (h1.fv i hi) hg
  · rcases hx with hx | hx
    · rcases hi with rfl | hi | hi
      · have := h6 _ (Or.inl hx); omega
      · exact q2 i hi hx
      · exact h4 i (h1.fv i hi) (Or.inl hx)
    · rcases hi with rfl | hi | hi
      · rcases hx with rfl | hx
        · have := h1.blk.lt; omega
        · have := h1.lt _ (h1.fg _ hx); omega
      · rcases hx with rfl | hx
        · exact h4 _ h1.fa (Or.inr hi)
        · exact h4 i (h1.fg i hx) (Or.inr hi)
      · rcases hx with rfl | hx
        · exact h1.va _ hi rfl
        · exact h1.gv i hi hx
  · rcases hx with hx | hx
    · exact h5 i hg (Or.inl hx)
    · rcases hx with rfl | hx
      · exact h3 _ h1.fa hg
      · exact h3 i (h1.fg i hx) hg
  · rcases hx with hx | hx
    · exact Nat.lt_of_lt_of_le (h6 i (Or.inl hx)) hs
    · rcases hx with rfl | hx
      · exact p1.blk.lt
      · exact p1.lt i (p1.fg i hx)
set_option maxRecDepth 100000 in
/-- a call of the old one's -/
theorem CL.old {f : Nat} {args : Array Value} {x : Value} (h : CL X N m w a b lo e1 a2 b2 k c l d l' d') (hm : m ≤ m') (hfn : Fn N m' e2)
    (kk : ∀ F, Nvs.PL F w a b lo e1 → Calls Tryz.prog f args w fun e w' => e = .returned x ∧ ∃ F', Nvs.PL F' w' a b lo2 e2 ∧ Keeps F w w' ∧ ∀ i, F' i → F i ∨ w.heap.size ≤ i) :
    Calls Tryz.prog f args w fun e w' => e = .returned x ∧ CL X N m' w' a b lo2 e2 a2 b2 k c l d l' d' ∧ KeepX X w w' := by
  obtain ⟨F0, h0, hx0, ⟨F, G, h1, h2, h3, h4, h5, h6, h7, h8⟩, hf⟩ := h
  refine (kk F0 h0).mono ?_
  rintro e w' ⟨rfl, F', q1, q2, q3⟩
  have hX : ∀ i, F' i → ¬ X i := fun i hi hx => (q3 i hi).elim (fun h => hx0 i h hx) (fun h => by have := h6 i (Or.inl hx); omega)
  refine ⟨rfl, ⟨F', q1, hX, ⟨F, G, h1.keeps q2 (fun i hi h => h4 i hi (Or.inr h)), h2.keeps q2 (fun i hi h => h5 i hi (Or.inr h)), h3, fun i hi hx => ?_, fun i hi hx => ?_, fun i hx => ?_, h7.more hm, h8.more hm⟩, hfn⟩, q2.mono hx0⟩
  · rcases hx with hx | hx
    · exact h4 i hi (Or.inl hx)
    · rcases q3 i hx with h | h
      · exact h4 i hi (Or.inr h)
      · have := h1.lt i hi; omega
  · rcases hx with hx | hx
    · exact h5 i hi (Or.inl hx)
    · rcases q3 i hx with h | h
      · exact h5 i hi (Or.inr h)
      · have := h2.lt i hi; omega
  · rcases hx with hx | hx
    · exact Nat.lt_of_lt_of_le (h6 i (Or.inl hx)) q2.size
    · exact q1.lt i hx
set_option maxRecDepth 100000 in
theorem Nvs.PL.on {f : Nat} {args : Array Value} {x : Value} (h : Nvs.PL F w a b l d) (kk : ∀ G, IsDk G w b d → Calls Tryz.prog f args w fun e w' => e = .returned x ∧ ∃ G', IsDk G' w' b d2 ∧ Keeps G w w' ∧ ∀ i, G' i → G i ∨ w.heap.size ≤ i) :
    Calls Tryz.prog f args w fun e w' => e = .returned x ∧ ∃ F', Nvs.PL F' w' a b l d2 ∧ Keeps F w w' ∧ ∀ i, F' i → F i ∨ w.heap.size ≤ i := by
  obtain ⟨G, v', h1⟩ := h
  refine (kk G h1.dk).mono ?_
  rintro e w' ⟨rfl, G', q1, q2, q3⟩
  exact ⟨rfl, _, (h1.disk q1 q2 q3).pl, q2.mono h1.fg, fun i hi => hi.elim Or.inl (fun hi => (q3 i hi).imp (h1.fg i) id)⟩
set_option maxRecDepth 100000 in
theorem oappend (h : CL X N m w a b lo e1 a2 b2 k c l d l' d') (hm : m ≤ 900000) (hz : (enc lo.list).size ≤ 64 * halfD e1) (hll : lo.list.length ≤ 1048575) (r : ByteArray) :
    Calls Tryz.prog 5 #[.pointer (some ⟨a, 0, none⟩), .string r] w fun e w' => e = .returned (.int .i64 (appendL lo e1 r).2.2) ∧ CL X N (m + 30) w' a b (appendL lo e1 r).1 (appendL lo e1 r).2.1 a2 b2 k c l d l' d' ∧ KeepX X w w' := by
  have hfn : Fn N m e1 := by obtain ⟨F0, h0, hx0, _, hf⟩ := h; exact hf
  exact h.old (Nat.le_add_right _ _) (hfn.append lo r) fun F hp => Nvs.append_any hp hfn.fit hfn.num hm hz hll r
set_option maxRecDepth 100000 in
theorem owrite (h : CL X N m w a b lo e1 a2 b2 k c l d l' d') (hm : m ≤ 900000) (n : Int) (s : ByteArray) :
    Calls Tryz.prog 22 #[.pointer (some ⟨b, 0, none⟩), .int .i64 n, .string s] w fun e w' => e = .returned (.int .i64 (writeD e1 n s).2) ∧ CL X N (m + 1) w' a b lo (writeD e1 n s).1 a2 b2 k c l d l' d' ∧ KeepX X w w' := by
  have hfn : Fn N m e1 := by obtain ⟨F0, h0, hx0, _, hf⟩ := h; exact hf
  exact h.old (Nat.le_add_right _ _) (hfn.write n s) fun F hp => Nvs.PL.on hp fun G hd => write_any hd (hfn.num.num (by omega)) hfn.fit n s
set_option maxRecDepth 100000 in
theorem ocrash (h : CL X N m w a b lo e1 a2 b2 k c l d l' d') (keep : ByteArray) :
    Calls Tryz.prog 13 #[.pointer (some ⟨b, 0, none⟩), .string keep] w fun e w' => e = .returned (.int .i64 (crashD e1 keep).2) ∧ CL X N m w' a b lo (crashD e1 keep).1 a2 b2 k c l d l' d' ∧ KeepX X w w' := by
  have hfn : Fn N m e1 := by obtain ⟨F0, h0, hx0, _, hf⟩ := h; exact hf
  exact h.old (Nat.le_refl _) (hfn.crash keep) fun F hp => Nvs.PL.on hp fun G hd => (crash_any hd hfn.fit keep).mono fun _ _ hp => ⟨hp.1, G, hp.2.1, hp.2.2, fun _ hi => Or.inl hi⟩
set_option maxRecDepth 100000 in
theorem CL.tl (h : CL X N m w a b lo e1 a2 b2 k c l d l' d') : TL X N m w a2 b2 k c l d l' d' := by
  obtain ⟨F0, h0, hx0, h1, hf⟩ := h
  exact h1.sub fun i hi => Or.inl hi
end
end Go.Proofs.YtojhlijcinenoaaGreatDoor.Nv

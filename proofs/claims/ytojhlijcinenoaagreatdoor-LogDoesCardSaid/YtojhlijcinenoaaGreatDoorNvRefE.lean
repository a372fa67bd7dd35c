/- The document's log: Open. -/
import Derived.Test.YtojhlijcinenoaaGreatDoorNvRefD
import Derived.Test.YtojhlijcinenoaaGreatDoorNvWalkH
import Derived.Test.YtojhlijcinenoaaGreatDoorLate
namespace Go.Proofs.YtojhlijcinenoaaGreatDoor.Nv
open Go Go.RowKit Go.Maps Mem Disk

/-- what the document's Open comes to -/
def ROPost (G : Nat → Prop) (w : World) (b : Nat) (d : Dk) (r : Option Lg × Int) (e : Ending) (w' : World) : Prop :=
  Below w.heap.size w w' ∧ match r.1 with
    | none => e = .returned (.tuple #[.pointer none, .int .i64 r.2])
    | some l => ∃ a F', e = .returned (.tuple #[.pointer (some ⟨a, 0, none⟩), .int .i64 0]) ∧ RL F' w' a b l d ∧ ∀ i, F' i → G i ∨ w.heap.size ≤ i
set_option maxRecDepth 100000 in
theorem ROPost.no {G : Nat → Prop} {w w' : World} {b : Nat} {d : Dk} {r : Option Lg × Int} {x : Int} (hb : Below w.heap.size w w') (h : r = (none, x)) : ROPost G w b d r (.returned (.tuple #[.pointer none, .int .i64 x])) w' := by
  subst h
  exact ⟨hb, rfl⟩
/-- the document's log while it is read -/
def rrawc (b : Nat) (g : Int) (v : Value) : Array Value := #[.pointer (some ⟨b, 0, none⟩), .int .i64 g, v, .bool false]
structure ROpenAt (d : Dk) (fs K : Nat) (C : ByteArray × Int) (W1 wr : World) (k : Nat) (acc : ByteArray) : Prop where
  col : C = collectD d fs (K - k) k acc
  size : acc.size = 64 * k
  drew : ∃ q, wr = W1.drewN q
set_option maxRecDepth 100000 in
theorem ROpenAt.next {W1 wr w' : World} {d : Dk} {fs K : Nat} {C : ByteArray × Int} {k : Nat} {acc : ByteArray} (h : ROpenAt d fs K C W1 wr k acc) (hf : Fit d) (hk : k < K) (h0 : (readD d ((fs + k : Nat) : Int)).2 = 0) (hq : ∃ q, w' = wr.drewN q) :
    ROpenAt d fs K C W1 w' (k + 1) (acc ++ (readD d ((fs + k : Nat) : Int)).1) := by
  refine ⟨?_, by rw [ByteArray.size_append, h.size, (readD_size hf h0).1]; omega, ?_⟩
  · rw [h.col, show K - k = (K - (k + 1)) + 1 by omega, collectD, if_neg (fun hq => hq h0)]
  · obtain ⟨q, rfl⟩ := h.drew
    obtain ⟨q2, rfl⟩ := hq
    exact ⟨_, World.drewN_drewN _ _ _⟩
set_option maxRecDepth 100000 in
theorem ROpenAt.bad {W1 wr : World} {d : Dk} {fs K : Nat} {C : ByteArray × Int} {k : Nat} {acc : ByteArray} (h : ROpenAt d fs K C W1 wr k acc) (hk : k < K) (h0 : (readD d ((fs + k : Nat) : Int)).2 ≠ 0) : C = (acc, (readD d ((fs + k : Nat) : Int)).2) := by
  rw [h.col, show K - k = (K - (k + 1)) + 1 by omega, collectD, if_pos h0]
set_option maxRecDepth 100000 in
theorem ROpenAt.end_ {W1 wr : World} {d : Dk} {fs K : Nat} {C : ByteArray × Int} {acc : ByteArray} (h : ROpenAt d fs K C W1 wr K acc) : C = (acc, 0) := by
  rw [h.col, Nat.sub_self, collectD]
structure RSplitAt (w : World) (b g : Nat) (O : Option (List ByteArray)) (wr : World) (k : Nat) (acc : List ByteArray) (s : ByteArray) (A : Option Addr) (c : Nat) : Prop where
  out : O = (splitB k s).map (acc ++ ·)
  fuel : s.size ≤ k
  few : acc.length + s.size ≤ 1048576
  row : wr.ownsRow (w.heap.size + 1) 9 1 (.slice A acc.length c) acc.length (acc.map Value.string)
  blk : Blk wr w.heap.size 51 (rrawc b g (.slice A acc.length c))
  hb : Below w.heap.size w wr
section
variable {F G K : Nat → Prop} {w w' : World} {a b m : Nat} {v : Value} {l l' : Lg} {d d' : Dk}
set_option maxRecDepth 100000 in
theorem rraw_rl (h : IsRk G w b d) (g : Nat) : RL (fun i => G i ∨ i = w.heap.size) (w.alloc (.cells (rrawc b g (.slice none 0 0)) 51)) w.heap.size b ⟨g, [], false⟩ d := by
  have hb : Below w.heap.size w (w.alloc (.cells (rrawc b g (.slice none 0 0)) 51)) := (Below.refl _ w).alloc (Nat.le_refl _) _
  have hB := Blk.new w 51 (rrawc b g (.slice none 0 0))
  exact ⟨G, .slice none 0 0, h.below hb, hB, ⟨rfl, Or.inl ⟨rfl, rfl⟩⟩, Or.inr rfl, (fun j e => by cases e), fun i hi => Or.inl hi, (fun hi => by have := h.lt _ hi; omega), (fun j e => by cases e), fun i hi => by
    rcases hi with hi | hi
    · exact Nat.lt_of_lt_of_le (h.lt i hi) hb.size
    · rw [hi]; exact hB.lt⟩
set_option maxRecDepth 100000 in
theorem RSplitAt.fin {g : Nat} {O : Option (List ByteArray)} {wr : World} {k : Nat} {acc : List ByteArray} {s : ByteArray} {A : Option Addr} {c : Nat} (h : RSplitAt w b g O wr k acc s A c) (h0 : s.size = 0) (hd : IsRk G w b d) (ho : openL d = openL_ g O) :
    ROPost G w b d (openL d) (.returned (.tuple #[.pointer (some ⟨w.heap.size, 0, none⟩), .int .i64 0])) wr := by
  have hout : O = some acc := by
    rw [h.out, splitB_end h0]
    show some (acc ++ []) = _
    rw [List.append_nil]
  refine ⟨h.hb, ?_⟩
  rw [ho, hout]
  have hrow := h.row
  have hne : ∀ j, (Value.slice A acc.length c).ownBlock = some j → w.heap.size + 1 ≤ j ∧ j < wr.heap.size := fun j e => hrow.lt j e
  refine ⟨w.heap.size, fun i => G i ∨ i = w.heap.size ∨ (Value.slice A acc.length c).ownBlock = some i, rfl, ⟨G, .slice A acc.length c, hd.below h.hb, h.blk, own_base hrow (Nat.zero_le _), Or.inr (Or.inl rfl), fun j e => Or.inr (Or.inr e), fun i hi => Or.inl hi, fun hi => by have := hd.lt _ hi; omega, fun j e hi => by have := (hne j e).1; have := hd.lt j hi; omega, fun i hi => ?_⟩, fun i hi => hi.imp id (fun hi => hi.elim (fun e => Nat.le_of_eq e.symm) (fun e => by have := (hne i e).1; omega))⟩
  rcases hi with hi | hi | hi
  · exact Nat.lt_of_lt_of_le (hd.lt i hi) h.hb.size
  · rw [hi]; exact h.blk.lt
  · exact (hne i hi).2
set_option maxRecDepth 100000 in
theorem RSplitAt.bad {g : Nat} {O : Option (List ByteArray)} {wr : World} {k : Nat} {acc : List ByteArray} {s : ByteArray} {A : Option Addr} {c : Nat} (h : RSplitAt w b g O wr k acc s A c) (h0 : s.size ≠ 0) (h1 : s.size < 2 ∨ 1300 < val (s.extract 0 2) ∨ s.size < 2 + val (s.extract 0 2)) (ho : openL d = openL_ g O) :
    ROPost G w b d (openL d) (.returned (.tuple #[.pointer none, .int .i64 70])) wr := ROPost.no h.hb (by rw [ho, h.out, splitB_bad h0 h1]; rfl)
set_option maxRecDepth 100000 in
theorem RSplitAt.next {g : Nat} {O : Option (List ByteArray)} {wr w1 : World} {k : Nat} {acc : List ByteArray} {s : ByteArray} {A : Option Addr} {c n gg cap : Nat} (h : RSplitAt w b g O wr k acc s A c) (h2 : 2 ≤ s.size) (hn : n = val (s.extract 0 2)) (h1 : n ≤ 1300) (h3 : 2 + n ≤ s.size)
    (o : w1.ownsRow (w.heap.size + 1) 9 1 (.slice (some ⟨gg, 0, none⟩) (acc.length + 1) cap) (acc.length + 1) (acc.map Value.string ++ [.string (s.extract 2 (2 + n))])) (hb : Below w.heap.size w w1) (hB : Blk w1 w.heap.size 51 (rrawc b g (.slice A acc.length c))) :
    RSplitAt w b g O (w1.setCell ⟨w.heap.size, 2, none⟩ (.slice (some ⟨gg, 0, none⟩) (acc.length + 1) cap)) (k - 1) (acc ++ [s.extract 2 (2 + n)]) (s.extract (2 + n) s.size) (some ⟨gg, 0, none⟩) cap ∧ (s.extract (2 + n) s.size).size < s.size := by
  subst hn
  have hf := h.fuel
  have hw := h.few
  have hsz : (s.extract (2 + val (s.extract 0 2)) s.size).size = s.size - (2 + val (s.extract 0 2)) := by rw [ByteArray.size_extract]; omega
  have kk : Keeps (fun j => j = w.heap.size) w1 (w1.setCell ⟨w.heap.size, 2, none⟩ (.slice (some ⟨gg, 0, none⟩) (acc.length + 1) cap)) := (Keeps.refl (fun j => j = w.heap.size) w1).put (g := w.heap.size) (Or.inl rfl) 2 _
  have ol := o.lt
  refine ⟨⟨?_, by omega, by rw [List.length_append, List.length_singleton]; omega, ?_, ?_, hb.setCell (p := ⟨w.heap.size, 2, none⟩) (Nat.le_refl _) _⟩, by omega⟩
  · rw [h.out, show k = k - 1 + 1 by omega, splitB_step (by omega) h2 h1 h3, map_map_cons, Nat.add_sub_cancel]
  · rw [List.length_append, List.length_singleton, List.map_append]
    exact own_keeps o kk (fun j e h => by have := (ol j e).1; omega)
  · rw [List.length_append, List.length_singleton]
    exact hB.put 2 _
set_option maxRecDepth 100000 in
set_option maxHeartbeats 8000000 in
theorem ropen_short (h : IsRk G w b d) (hf : Fit d) (hm : d.marks ≤ 4611686018427387904) (hno : d.stays.length < 5 ∨ (readD d 0).2 ≠ 0) : Calls Tryz.prog 18 #[.pointer (some ⟨b, 0, none⟩)] w (ROPost G w b d (openL d)) := by
  obtain ⟨S, c, s0⟩ := stays_cell h
  by_cases h5 : d.stays.length < 5
  · have fin := Lib.hid (ROPost.no (G := G) (w := w) (b := b) (d := d) (r := openL d) (x := 70) (Below.refl _ w) (by unfold openL; rw [if_pos h5]))
    have q1 : decide ((d.stays.length : Int) < 5) = true := decide_eq_true (by omega)
    clear h hf hno h5
    go_enter Tryz.func18, Tryz.ntmps18
    go_wp2_with fail
    go_ret2
    exact fin.out
  · have h2 : (readD d 0).2 ≠ 0 := hno.resolve_left h5
    have q1 : decide ((d.stays.length : Int) < 5) = false := decide_eq_false (by omega)
    have hl : openL d = (none, (readD d 0).2) := by unfold openL; rw [if_neg h5, if_pos h2]
    have bd : ∀ W, (Instr.build 51 #[(0, .pointer (some ⟨b, 0, none⟩))]).run Tryz.prog W = .ok (.agg #[.pointer (some ⟨b, 0, none⟩), .int .i64 0, .slice none 0 0, .bool false]) W := fun W => run_build W _ _ _ (by kernel_rfl)
    have hb : Below w.heap.size w (w.alloc (.cells (rrawc b 0 (.slice none 0 0)) 51)) := (Below.refl _ w).alloc (Nat.le_refl _) _
    have kr := Lib.hid (rread_any (h.below hb) hf hm 0)
    have fin := Lib.hid (fun w' (hb : Below w.heap.size w w') => ROPost.no (G := G) (b := b) (d := d) hb hl)
    have z : ((readD d 0).2 != 0) = true := by simpa using h2
    clear h hf hno h5 h2 hl
    replace hb := Lib.hid hb
    generalize readD d 0 = R at kr fin z
    unfold rrawc at kr hb
    go_enter Tryz.func18, Tryz.ntmps18
    go_wp2_with fail
    refine kr.out.mono ?_
    rintro en w2 ⟨rfl, hw'⟩
    replace hw' := hw'.symm
    subst hw'
    go_wp2_with fail
    go_ret2
    exact fin.out _ hb.out
set_option maxRecDepth 100000 in
set_option maxHeartbeats 16000000 in
theorem ropen_long (h : IsRk G w b d) (hf : Fit d) (hm : d.marks ≤ 4611686018427387904) (h5 : 5 ≤ d.stays.length) (h0 : (readD d 0).2 = 0) : Calls Tryz.prog 18 #[.pointer (some ⟨b, 0, none⟩)] w (ROPost G w b d (openL d)) := by
  obtain ⟨i0, hinf, hz0, hz1, hz2⟩ := info_parts infoStr_
  obtain ⟨S0, c0, s0⟩ := stays_cell h
  have q1 : decide ((d.stays.length : Int) < 5) = false := decide_eq_false (by omega)
  have bd : ∀ W, (Instr.build 51 #[(0, .pointer (some ⟨b, 0, none⟩))]).run Tryz.prog W = .ok (.agg #[.pointer (some ⟨b, 0, none⟩), .int .i64 0, .slice none 0 0, .bool false]) W := fun W => run_build W _ _ _ (by kernel_rfl)
  have hb : Below w.heap.size w (w.alloc (.cells (rrawc b 0 (.slice none 0 0)) 51)) := (Below.refl _ w).alloc (Nat.le_refl _) _
  have kr := rread_any (h.below hb) hf hm 0
  obtain ⟨s, hs⟩ : ∃ s, s = (readD d 0).1 := ⟨_, rfl⟩
  have hs64 := (readD_size hf h0).1
  rw [h0, ← hs] at kr
  rw [← hs] at hs64
  obtain ⟨g, hg⟩ : ∃ g, g = val (s.extract 2 8) := ⟨_, rfl⟩
  obtain ⟨u, hu⟩ : ∃ u, u = val (s.extract 8 12) := ⟨_, rfl⟩
  have kv1 := fun W => rval_any (s.extract 2 8) W (by rw [ByteArray.size_extract]; omega)
  have kv2 := fun W => rval_any (s.extract 8 12) W (by rw [ByteArray.size_extract]; omega)
  rw [← hg] at kv1
  rw [← hu] at kv2
  have hgb : g < 256 ^ 6 := by rw [hg]; exact val_lt (by rw [ByteArray.size_extract, hs64]; rfl)
  have hub : u < 256 ^ 4 := by rw [hu]; exact val_lt (by rw [ByteArray.size_extract, hs64]; rfl)
  have hp := rraw_rl h g
  have hbg : Below w.heap.size w (w.alloc (.cells (rrawc b g (.slice none 0 0)) 51)) := (Below.refl _ w).alloc (Nat.le_refl _) _
  have hbk := Blk.new w 51 (rrawc b g (.slice none 0 0))
  have khd := fun W => rhead_any g u (by omega) (by omega) W
  obtain ⟨HB, hHB⟩ : ∃ HB, HB = headB g u := ⟨_, rfl⟩
  rw [← hHB] at khd
  have hno := Lib.hid (fun (hk : ¬ HeadOk d s) => show openL d = (none, 70) by unfold openL; rw [if_neg (by omega), if_neg (fun hq => hq h0), ← hs]; unfold openS; rw [if_neg hk])
  have hyes := Lib.hid (fun (hk : HeadOk d s) => show openL d = openT g u (collectD d (firstL g d) ((u + 63) / 64) 0 ⟨#[]⟩) by unfold openL; rw [if_neg (by omega), if_neg (fun hq => hq h0), ← hs, hg, hu]; unfold openS; rw [if_pos hk])
  replace kr := Lib.hid kr
  replace hs := Lib.hid hs
  have s64 : s.size ≤ 64 := by omega
  have s63 : 64 ≤ s.size := by omega
  replace hs64 := Lib.hid hs64
  replace kv1 := Lib.hid kv1
  replace kv2 := Lib.hid kv2
  replace khd := Lib.hid khd
  replace hHB := Lib.hid hHB
  replace hg := Lib.hid hg
  replace hu := Lib.hid hu
  replace hp := Lib.hid hp
  replace hbg := Lib.hid hbg
  replace hbk := Lib.hid hbk
  replace h0 := Lib.hid h0
  unfold rrawc at kr hp hbg hbk
  obtain ⟨H, hH⟩ : ∃ H, H = halfD d := ⟨_, rfl⟩
  have hHb : (H : Int) ≤ 8192 := by rw [hH]; have := hf.few; unfold halfD; omega
  have kh := fun W (hb : Below (w.alloc (.cells #[.pointer (some ⟨b, 0, none⟩), .int .i64 (g : Int), .slice none 0 0, .bool false] 51)).heap.size (w.alloc (.cells #[.pointer (some ⟨b, 0, none⟩), .int .i64 (g : Int), .slice none 0 0, .bool false] 51)) W) => rhalf_any (hp.out.below hb) hf
  rw [← hH] at kh
  replace hH := Lib.hid hH
  replace kh := Lib.hid kh
  go_enter Tryz.func18, Tryz.ntmps18
  go_wp2_with fail
  refine kr.out.mono ?_
  rintro en w2 ⟨rfl, hw'⟩
  replace hw' := hw'.symm
  subst hw'
  go_wp2_with fail
  refine (kv1.out _).mono ?_
  rintro en w2 ⟨rfl, hw'⟩
  replace hw' := hw'.symm
  subst hw'
  go_wp2_with fail
  refine (kv2.out _).mono ?_
  rintro en w2 ⟨rfl, hw'⟩
  replace hw' := hw'.symm
  subst hw'
  clear kr kv1 kv2 bd hb s0
  generalize w.alloc (.cells #[.pointer (some ⟨b, 0, none⟩), .int .i64 (g : Int), .slice none 0 0, .bool false] 51) = W at hp hbg hbk kh ⊢
  have cg : W.cell? ⟨w.heap.size, 1, none⟩ = some (.int .i64 (g : Int)) := hbk.out.cell 1
  go_wp2_with (first | (refine (kh.out _ (Below.refl _ _)).mono ?_; rintro en w2 ⟨rfl, rfl⟩) | (refine (khd.out _).mono ?_; rintro en w3 ⟨rfl, b3⟩))
  all_goals first
    | (go_ret2
       refine ROPost.no (by first | exact hbg.out | exact hbg.out.trans (b3.mono hbg.out.size)) (hno.out (fun hk => ?_))
       obtain ⟨e2, e3, e4⟩ := hk
       rw [← hg.out] at e2
       rw [← hu.out, ← hH.out] at e3
       rw [← hg.out, ← hu.out, ← hHB.out] at e4
       first
         | omega
         | (have hq : (1099511627776 < (g : Int) ∨ 64 * (H : Int) < (u : Int)) ∨ (!HB.toList == s.toList) = true := by assumption
            rcases hq with hq | hq
            · omega
            · rw [e4, beq_self_eq_true] at hq
              cases hq))
    | skip
  have d1 : decide (1099511627776 < (g : Int)) = false := decide_eq_false (by omega)
  have d2 : decide (64 * (H : Int) < (u : Int)) = false := decide_eq_false (by omega)
  have d3 : (!HB.toList == s.toList) = false := by
    have c2 : ((g : Int) ≤ 1099511627776 ∧ (u : Int) ≤ 64 * (H : Int)) ∧ (!HB.toList == s.toList) = false := by assumption
    exact c2.2
  have hk : HeadOk d s := ⟨by rw [← hg.out]; omega, by rw [← hu.out, ← hH.out]; omega, by
    rw [← hg.out, ← hu.out, ← hHB.out]
    apply txt_inj
    have : (HB.toList == s.toList) = true := by simpa using d3
    exact eq_of_beq this⟩
  have hL := hyes.out hk
  have huH : (u : Int) ≤ 64 * (H : Int) := by omega
  rw [d1, d2, d3]
  simp only [Bool.or_self]
  have hbX := Lib.hid (hbg.out.trans (b3.mono hbg.out.size))
  have hbkX := Lib.hid (hbk.out.below b3 hbk.out.lt)
  obtain ⟨fs, hfs⟩ : ∃ fs, fs = firstL g d := ⟨_, rfl⟩
  obtain ⟨KK, hKK⟩ : ∃ KK, KK = (u + 63) / 64 := ⟨_, rfl⟩
  obtain ⟨C, hC⟩ : ∃ C, C = collectD d fs KK 0 ⟨#[]⟩ := ⟨_, rfl⟩
  have hL2 := Lib.hid (show openL d = openT g u C by rw [hL, hC, hfs, hKK])
  have st : ROpenAt d fs KK C w3 w3 0 ⟨#[]⟩ := ⟨by rw [hC]; rfl, rfl, 0, rfl⟩
  replace hC := Lib.hid hC
  have hK64 : u ≤ 64 * KK ∧ 64 * KK < u + 64 := by omega
  have khX := Lib.hid (fun wr (hb : Below w3.heap.size w3 wr) q => kh.out (wr.drewN q) (below_drewN (b3.trans (hb.mono b3.size)) q))
  obtain ⟨q, hqd⟩ : ∃ q, q = g % 2 := ⟨_, rfl⟩
  have hq2 : q = 0 ∨ q = 1 := by omega
  obtain ⟨M, hM⟩ : ∃ M, M = q * H := ⟨_, rfl⟩
  have hMb : M ≤ 8192 := by rw [hM]; rcases hq2 with e | e <;> rw [e] <;> omega
  have hfs1 : fs = 1 + M := by rw [hfs, hM, hqd, hH.out]; rfl
  have g1 : (g : Int).tmod 2 = (q : Int) := by rw [hqd]; rfl
  have g2 : IntKind.i64.wrap ((q : Int) * (H : Int)) = (M : Int) := by rw [← Int.natCast_mul, ← hM]; exact IntWalk.i64_in _ (by omega)
  have g3 : IntKind.i64.wrap (1 + (M : Int)) = (fs : Int) := by rw [hfs1, IntWalk.i64_in _ (by omega)]; omega
  have hfsb : fs ≤ 8193 := by omega
  replace hfs := Lib.hid hfs
  replace hKK := Lib.hid hKK
  replace hqd := Lib.hid hqd
  replace hM := Lib.hid hM
  replace hfs1 := Lib.hid hfs1
  replace g1 := Lib.hid g1
  replace g2 := Lib.hid g2
  replace g3 := Lib.hid g3
  clear d1 d2 d3 hp hbg hbk hno hyes hL kh khd b3 cg hk
  go_loopw [8, 9] (fun sv iv wr => ∃ (k : Nat) (acc : ByteArray), k ≤ KK ∧ sv = .string acc ∧ iv = .int .i64 (k : Int) ∧ ROpenAt d fs KK C w3 wr k acc) (fun _ iv _ => KK - (intOf iv).toNat)
  case atStart => exact ⟨0, ⟨#[]⟩, Nat.zero_le _, rfl, rfl, st⟩
  case round =>
    clear st
    obtain ⟨k, acc, hkK, rfl, rfl, st⟩ := hrel
    have hbq : Below w3.heap.size w3 wr := by
      obtain ⟨qq, hqq⟩ := st.drew
      rw [hqq]
      exact below_drewN (Below.refl _ w3) qq
    have hasz := st.size
    have hbr := hbX.out.trans (hbq.mono hbX.out.size)
    have cg : wr.cell? ⟨w.heap.size, 1, none⟩ = some (.int .i64 (g : Int)) := (hbkX.out.below hbq hbkX.out.lt).cell 1
    by_cases hlt : k < KK
    · have q2 : 64 * (k : Int) < (u : Int) := by omega
      have hk16 : k ≤ 16384 := by omega
      obtain ⟨z, hz⟩ : ∃ z, z = fs + k := ⟨_, rfl⟩
      have bad := fun (h0 : (readD d ((fs + k : Nat) : Int)).2 ≠ 0) => st.bad hlt h0
      have next := fun w' (h0 : (readD d ((fs + k : Nat) : Int)).2 = 0) hi => st.next (w' := w') hf hlt h0 hi
      have krd := fun p => rread_any (w := wr.drewN p) (h.below (below_drewN hbr p)) hf hm (z : Int)
      have rsz := fun (h0 : (readD d ((fs + k : Nat) : Int)).2 = 0) => (readD_size hf h0).1
      rw [← hz] at bad next rsz
      have g4 : IntKind.i64.wrap ((fs : Int) + (k : Int)) = (z : Int) := by rw [hz, IntWalk.i64_in _ (by omega)]; omega
      have kh2 := Lib.hid (fun p => khX.out wr hbq p)
      generalize readD d (z : Int) = R at krd bad next rsz
      replace krd := Lib.hid krd
      replace hz := Lib.hid hz
      replace hbr := Lib.hid hbr
      by_cases h0R : R.2 = 0
      · have next2 := Lib.hid (fun w' => next w' h0R)
        have rsz2 : R.1.size ≤ 64 := Nat.le_of_eq (rsz h0R)
        have hac : acc.size ≤ 1048576 := by omega
        rw [h0R] at krd
        replace h0R := Lib.hid h0R
        clear bad next rsz st
        have e1 := g1.out
        have e2 := g2.out
        have e3 := g3.out
        go_wp2_with fail
        go_quiet ((first | (go_at_call 46; exact Calls.quiet_of_same (kh2.out _)) | (go_at_call 62; exact Calls.quiet_of_same (krd.out _))))
        clear e1 e2 e3 g4
        go_wp2_with fail
        have st9 := Lib.hid (next2.out (wr.drewN nq) ⟨nq, rfl⟩)
        clear next2 kh2 krd cg hbr
        exact ⟨⟨k + 1, _, by omega, rfl, rfl, st9.out⟩, by simp [intOf]; omega⟩
      · have q3 : (R.2 != 0) = true := by simpa using h0R
        have fin := Lib.hid (fun p => ROPost.no (G := G) (b := b) (d := d) (below_drewN hbr.out p) (show openL d = (none, R.2) by rw [hL2.out, bad h0R]; unfold openT; rw [if_pos h0R]))
        clear bad next rsz h0R st
        have e1 := g1.out
        have e2 := g2.out
        have e3 := g3.out
        go_wp2_with fail
        go_quiet ((first | (go_at_call 46; exact Calls.quiet_of_same (kh2.out _)) | (go_at_call 62; exact Calls.quiet_of_same (krd.out _))))
        clear e1 e2 e3 g4
        go_wp2_with fail
        go_ret2
        exact fin.out nq
    · obtain rfl : k = KK := by omega
      have q2 : (u : Int) ≤ 64 * (k : Int) := by omega
      have hCe := st.end_
      have q4 : (u : Int) ≤ (acc.size : Int) := by omega
      have hBs : (acc.extract 0 u).size = u := by rw [ByteArray.size_extract]; omega
      have hL3 : openL d = openL_ g (splitB (acc.extract 0 u).size (acc.extract 0 u)) := by rw [hL2.out, hCe]; unfold openT; rw [if_neg (by simp), hBs]
      have hbkr := hbkX.out.below hbq hbkX.out.lt
      have sp : RSplitAt w b g (splitB (acc.extract 0 u).size (acc.extract 0 u)) wr (acc.extract 0 u).size [] (acc.extract 0 u) none 0 := ⟨by cases splitB (acc.extract 0 u).size (acc.extract 0 u) <;> rfl, Nat.le_refl _, by rw [List.length_nil, hBs]; omega, ⟨rfl, Or.inl ⟨rfl, rfl⟩⟩, hbkr, hbr⟩
      generalize splitB (acc.extract 0 u).size (acc.extract 0 u) = O at sp hL3
      replace hL3 := Lib.hid hL3
      replace hCe := Lib.hid hCe
      replace hBs := Lib.hid hBs
      replace sp := Lib.hid sp
      clear st hL2 khX hbkr hbr cg hlt hbkX hbX hbq
      go_wp2_with fail
      go_loopw [8] (fun sv wq => ∃ (k : Nat) (ac : List ByteArray) (s : ByteArray) (A : Option Addr) (c : Nat), sv = .string s ∧ RSplitAt w b g O wq k ac s A c) (fun sv _ => strSz sv)
      case atStart => exact ⟨_, [], _, none, 0, rfl, sp.out⟩
      case round =>
        clear sp
        obtain ⟨k2, ac, s2, A, c, rfl, sp⟩ := hrel
        have hfew := sp.few
        have hs63 : s2.size ≤ 1048576 := by omega
        by_cases h0 : s2.size = 0
        · have fin := Lib.hid (sp.fin h0 h hL3.out)
          obtain rfl : s2 = ⟨#[]⟩ := empty_of h0
          clear sp h0
          go_wp2_with fail
          go_ret2
          exact fin.out
        · obtain ⟨r1, r2⟩ := fullT h0
          by_cases h2 : s2.size < 2
          · have fin := Lib.hid (sp.bad (G := G) h0 (Or.inl h2) hL3.out)
            have q2 : decide ((s2.size : Int) < 2) = true := decide_eq_true (by omega)
            clear sp h2
            go_wp2_with fail
            go_ret2
            exact fin.out
          · have q2 : decide ((s2.size : Int) < 2) = false := decide_eq_false (by omega)
            have hs2 : 2 ≤ s2.size := by omega
            obtain ⟨n, hn⟩ : ∃ n, n = val (s2.extract 0 2) := ⟨_, rfl⟩
            have hnb : n < 65536 := by rw [hn]; exact val_lt (n := 2) (by rw [ByteArray.size_extract]; omega)
            have kg := rval_any (s2.extract 0 2) wr (by rw [ByteArray.size_extract]; omega)
            rw [← hn] at kg
            replace kg := Lib.hid kg
            by_cases h1 : 1300 < n
            · have fin := Lib.hid (sp.bad (G := G) h0 (Or.inr (Or.inl (by rw [← hn]; exact h1))) hL3.out)
              have q3 : decide ((1300 : Int) < (n : Int)) = true := decide_eq_true (by omega)
              replace hn := Lib.hid hn
              clear sp h2 h1 hnb
              go_wp2_with (refine kg.out.mono ?_; rintro e w1 ⟨rfl, rfl⟩)
              go_ret2
              exact fin.out
            · have q3 : decide ((1300 : Int) < (n : Int)) = false := decide_eq_false (by omega)
              by_cases h3 : s2.size < 2 + n
              · have fin := Lib.hid (sp.bad (G := G) h0 (Or.inr (Or.inr (by rw [← hn]; exact h3))) hL3.out)
                have q4 : decide ((s2.size : Int) - 2 < (n : Int)) = true := decide_eq_true (by omega)
                replace hn := Lib.hid hn
                clear sp h2 h1
                go_wp2_with (refine kg.out.mono ?_; rintro e w1 ⟨rfl, rfl⟩)
                go_ret2
                exact fin.out
              · have q4 : decide ((s2.size : Int) - 2 < (n : Int)) = false := decide_eq_false (by omega)
                have hlw : w.heap.size + 1 ≤ wr.heap.size := sp.blk.lt
                have next := (fun w1 gg cap => sp.next (w1 := w1) (gg := gg) (cap := cap) hs2 hn (by omega) (by omega))
                have oa := (sp.row.drew.alloc (.cells #[.string (s2.extract 2 (2 + n))] 9))
                have hba := (sp.hb.drew.alloc (Nat.le_of_succ_le hlw) (.cells #[.string (s2.extract 2 (2 + n))] 9))
                have hbka := Blk.alloc (w := wr.drew) sp.blk (.cells #[.string (s2.extract 2 (2 + n))] 9)
                have spb := Lib.hid sp.blk
                have h26 : ac.length + 1 ≤ 1048576 := by omega
                have hn13 : n ≤ 1300 := by omega
                have h2n : 2 + n ≤ s2.size := by omega
                have hz6 : 2 + (n : Int) ≤ (s2.size : Int) := by omega
                have hz5' := Lib.hid (show wrap64 (2 + (n : Int)) = ((2 + n : Nat) : Int) by unfold wrap64; omega)
                have rlt := Lib.hid (fun j hj => (sp.row.lt j hj).1)
                have cl : wr.cell? ⟨w.heap.size, 2, none⟩ = some (.slice A ac.length c) := sp.blk.cell 2
                obtain ⟨z, hz⟩ : ∃ z, z = 2 + n := ⟨_, rfl⟩
                have hz' : IntKind.i64.wrap (2 + (n : Int)) = (z : Int) := by rw [hz]; exact IntWalk.i64_in _ (by omega)
                rw [← hz] at next oa hba h2n hbka hz5'
                have hz2' : (2 : Int) ≤ (z : Int) := by omega
                have hzs : (z : Int) ≤ (s2.size : Int) := by omega
                replace oa := Lib.hid oa
                replace hba := Lib.hid hba
                replace hbka := Lib.hid hbka
                replace next := Lib.hid next
                replace hn := Lib.hid hn
                replace hz := Lib.hid hz
                clear sp h2 h1 h3 hnb hfew
                go_wp2_with (refine kg.out.mono ?_; rintro e w1 ⟨rfl, rfl⟩)
                have hnw := Lib.hid (World.news_of_block (Blk.new w1.drew 9 #[.string (s2.extract 2 z)]))
                have hB := Lib.hid spb.out
                have q0 : w1.drew.cell? ⟨w.heap.size, 2, none⟩ = some (.slice A ac.length c) := hB.out.cell 2
                refine Late.start (S := fun _ => True) (T := fun w' => w'.cell? ⟨w.heap.size, 2, none⟩ = some (.slice A ac.length c)) (late := [13]) (by kernel_rfl) ?_
                have hS : True := trivial
                have hT : w1.drew.cell? ⟨w.heap.size, 2, none⟩ = some (.slice A ac.length c) := q0
                refine Late.take (i := 0) (oi := ?_) (v := ?_) ?_ (by kernel_rfl) (by kernel_rfl) (by kernel_rfl) (by kernel_rfl) ?_ ?_ (by assumption) (by assumption) ?_
                rotate_left 2
                focus (simp only [List.getElem?_toArray, List.getElem?_cons_zero]; rfl)
                focus exact fun _ _ _ h => h
                focus (refine Or.inl ⟨by rfl, ?_⟩; intro w hSw; (try dsimp only at hSw); go_split_ands; go_simp; try with_reducible rfl)
                try simp only [Act.put, List.setIfInBounds_toArray, List.set_cons_zero, List.set_cons_succ]
                refine Late.take (i := 1) (oi := ?_) (v := ?_) ?_ (by kernel_rfl) (by kernel_rfl) (by kernel_rfl) (by kernel_rfl) ?_ ?_ (by assumption) (by assumption) ?_
                rotate_left 2
                focus (simp only [List.getElem?_toArray, List.getElem?_cons_succ, List.getElem?_cons_zero]; rfl)
                focus exact fun _ _ _ h => h
                focus (refine Or.inl ⟨by rfl, ?_⟩; intro w hSw; (try dsimp only at hSw); go_split_ands; go_simp; try with_reducible rfl)
                try simp only [Act.put, List.setIfInBounds_toArray, List.set_cons_zero, List.set_cons_succ]
                refine Late.take (i := 2) (oi := ?_) (v := ?_) ?_ (by kernel_rfl) (by kernel_rfl) (by kernel_rfl) (by kernel_rfl) ?_ ?_ (by assumption) (by assumption) ?_
                rotate_left 2
                focus (simp only [List.getElem?_toArray, List.getElem?_cons_succ, List.getElem?_cons_zero]; rfl)
                focus exact fun _ _ _ h => h
                focus (refine Or.inl ⟨by rfl, ?_⟩; intro w hSw; (try dsimp only at hSw); go_split_ands; go_simp; try with_reducible rfl)
                try simp only [Act.put, List.setIfInBounds_toArray, List.set_cons_zero, List.set_cons_succ]
                refine Late.take (i := 3) (oi := ?_) (v := ?_) ?_ (by kernel_rfl) (by kernel_rfl) (by kernel_rfl) (by kernel_rfl) ?_ ?_ (by assumption) (by assumption) ?_
                rotate_left 2
                focus (simp only [List.getElem?_toArray, List.getElem?_cons_succ, List.getElem?_cons_zero]; rfl)
                focus exact fun _ _ _ h => h
                focus (refine Or.inl ⟨by rfl, ?_⟩; intro w hSw; (try dsimp only at hSw); go_split_ands; go_simp; try with_reducible rfl)
                try simp only [Act.put, List.setIfInBounds_toArray, List.set_cons_zero, List.set_cons_succ]
                refine Late.takeT (i := 4) (oi := ?_) (v := ?_) ?_ (by kernel_rfl) (by kernel_rfl) (by kernel_rfl) (by kernel_rfl) (by kernel_rfl) (by kernel_rfl) ?_ ?_ (by assumption) (by assumption) ?_
                rotate_left 2
                focus (simp only [List.getElem?_toArray, List.getElem?_cons_succ, List.getElem?_cons_zero]; rfl)
                focus exact fun _ _ _ h => h
                focus (refine Or.inl ⟨by rfl, ?_⟩; intro w hSw; (try dsimp only at hSw); go_split_ands; go_simp; try with_reducible rfl)
                try simp only [Act.put, List.setIfInBounds_toArray, List.set_cons_zero, List.set_cons_succ]
                refine Late.take (i := 5) (oi := ?_) (v := ?_) ?_ (by kernel_rfl) (by kernel_rfl) (by kernel_rfl) (by kernel_rfl) ?_ ?_ (by assumption) (by assumption) ?_
                rotate_left 2
                focus (simp only [List.getElem?_toArray, List.getElem?_cons_succ, List.getElem?_cons_zero]; rfl)
                focus exact fun _ _ _ h => h
                focus (refine Or.inl ⟨by rfl, ?_⟩; intro w hSw; (try dsimp only at hSw); go_split_ands; go_simp; try with_reducible rfl)
                try simp only [Act.put, List.setIfInBounds_toArray, List.set_cons_zero, List.set_cons_succ]
                refine Late.take (i := 6) (oi := ?_) (v := ?_) ?_ (by kernel_rfl) (by kernel_rfl) (by kernel_rfl) (by kernel_rfl) ?_ ?_ (by assumption) (by assumption) ?_
                rotate_left 2
                focus (simp only [List.getElem?_toArray, List.getElem?_cons_succ, List.getElem?_cons_zero]; rfl)
                focus exact fun _ _ _ h => h
                focus (refine Or.inl ⟨by rfl, ?_⟩; intro w hSw; (try dsimp only at hSw); go_split_ands; go_simp; try with_reducible rfl)
                try simp only [Act.put, List.setIfInBounds_toArray, List.set_cons_zero, List.set_cons_succ]
                refine Late.take (i := 7) (oi := ?_) (v := ?_) ?_ (by kernel_rfl) (by kernel_rfl) (by kernel_rfl) (by kernel_rfl) ?_ ?_ (by assumption) (by assumption) ?_
                rotate_left 2
                focus (simp only [List.getElem?_toArray, List.getElem?_cons_succ, List.getElem?_cons_zero]; rfl)
                focus exact fun _ _ _ h => h
                focus (refine Or.inl ⟨by rfl, ?_⟩; intro w hSw; (try dsimp only at hSw); go_split_ands; go_simp; try with_reducible rfl)
                try simp only [Act.put, List.setIfInBounds_toArray, List.set_cons_zero, List.set_cons_succ]
                refine Late.take (i := 8) (oi := ?_) (v := ?_) ?_ (by kernel_rfl) (by kernel_rfl) (by kernel_rfl) (by kernel_rfl) ?_ ?_ (by assumption) (by assumption) ?_
                rotate_left 2
                focus (simp only [List.getElem?_toArray, List.getElem?_cons_succ, List.getElem?_cons_zero]; rfl)
                focus exact fun _ _ _ h => h
                focus (refine Or.inl ⟨by rfl, ?_⟩; intro w hSw; (try dsimp only at hSw); go_split_ands; go_simp; try with_reducible rfl)
                try simp only [Act.put, List.setIfInBounds_toArray, List.set_cons_zero, List.set_cons_succ]
                have hTa : (w1.drew.alloc (.cells #[.string (s2.extract 2 z)] 9)).cell? ⟨w.heap.size, 2, none⟩ = some (.slice A ac.length c) := hbka.out.cell 2
                refine Late.only (i := 9) (o := ?_) (by kernel_rfl) ?_ (fun K hK => ?_)
                rotate_left 1
                focus (simp only [List.getElem?_toArray, List.getElem?_cons_succ, List.getElem?_cons_zero]; rfl)
                go_simp
                refine hK.out _ _ trivial (fun _ => hTa) ?_
                clear hK K
                try simp only [Act.put, List.setIfInBounds_toArray, List.set_cons_zero, List.set_cons_succ]
                refine Late.only (i := 10) (o := ?_) (by kernel_rfl) ?_ (fun K hK => ?_)
                rotate_left 1
                focus (simp only [List.getElem?_toArray, List.getElem?_cons_succ, List.getElem?_cons_zero]; rfl)
                rw [if_pos (by kernel_rfl)]
                refine wp_append_lies _ (.tmp 119) (.tmp 124) 45 rfl (w.heap.size + 1) 9 i0 (.string ⟨#[]⟩) 1 16 Tryz.underlying45 hinf hz0 hz1 hz2 rfl (by decide) (.slice A ac.length c) ac.length (ac.map Value.string) rfl oa.out ⟨w1.drew.heap.size, 0, none⟩ 1 1 [.string (s2.extract 2 z)] rfl rfl hnw.out (by simp [Value.oneCell']) (by omega) (by unfold maxLen; omega) (by omega) (by simp; omega) (w1.heap.size + 1) (by simp) ?_
                intro gg cap w2 o2 g2 hat hlt
                have hbk2 := hbka.out.grown g2 (fun e => by have := rlt.out _ e.symm; omega)
                have hT2 : w2.cell? ⟨w.heap.size, 2, none⟩ = some (.slice A ac.length c) := hbk2.cell 2
                have f2 := hbk2.free 2
                have hb2 := hba.out.grown g2 (by simp; omega) (fun j hj => Nat.le_of_succ_le (rlt.out j hj))
                have fin := Lib.hid (next.out w2 gg cap o2 hb2 hbk2)
                clear o2 g2 hat hlt hbk2 hb2 oa hba hbka hnw
                refine hK.out _ _ trivial (fun _ => hT2) ?_
                clear hK K
                try simp only [Act.put, List.setIfInBounds_toArray, List.set_cons_zero, List.set_cons_succ]
                refine Late.only (i := 11) (o := ?_) (by kernel_rfl) ?_ (fun K hK => ?_)
                rotate_left 1
                focus (simp only [List.getElem?_toArray, List.getElem?_cons_succ, List.getElem?_cons_zero]; rfl)
                go_simp
                refine hK.out _ _ trivial (fun _ => hT2) ?_
                clear hK K
                try simp only [Act.put, List.setIfInBounds_toArray, List.set_cons_zero, List.set_cons_succ]
                refine Late.only (i := 12) (o := ?_) (by kernel_rfl) ?_ (fun K hK => ?_)
                rotate_left 1
                focus (simp only [List.getElem?_toArray, List.getElem?_cons_succ, List.getElem?_cons_zero]; rfl)
                go_simp
                refine hK.out _ _ trivial (fun _ => hT2) ?_
                clear hK K
                try simp only [Act.put, List.setIfInBounds_toArray, List.set_cons_zero, List.set_cons_succ]
                refine Late.only (i := 13) (o := ?_) (by kernel_rfl) ?_ (fun K hK => ?_)
                rotate_left 1
                focus (simp only [List.getElem?_toArray, List.getElem?_cons_succ, List.getElem?_cons_zero]; rfl)
                go_simp
                refine hK.out _ _ trivial (Late.gone (by kernel_rfl)) ?_
                clear hK K
                try simp only [Act.put, List.setIfInBounds_toArray, List.set_cons_zero, List.set_cons_succ]
                refine Late.done (by kernel_rfl) ?_ _
                have hz5 := hz5'.out
                clear hT hT2 hTa q0 f2 hz' cl
                go_wp2_with fail
                have fin2 := fin.out
                rw [hz.out] at fin2
                refine ⟨?_, fin2.2⟩
                exact ⟨k2 - 1, ac ++ [s2.extract 2 (2 + n)], s2.extract (2 + n) s2.size, some ⟨gg, 0, none⟩, cap, rfl, by have := fin2.1; simpa using this⟩
set_option maxRecDepth 100000 in
theorem ropen_any (h : IsRk G w b d) (hf : Fit d) (hm : d.marks ≤ 4611686018427387904) : Calls Tryz.prog 18 #[.pointer (some ⟨b, 0, none⟩)] w (ROPost G w b d (openL d)) := by
  by_cases h5 : d.stays.length < 5
  · exact ropen_short h hf hm (Or.inl h5)
  · by_cases h0 : (readD d 0).2 = 0
    · exact ropen_long h hf hm (by omega) h0
    · exact ropen_short h hf hm (Or.inr h0)
end
end Go.Proofs.YtojhlijcinenoaaGreatDoor.Nv

/- The log's Open. -/
import Derived.Test.YtojhlijcinenoaaGreatDoorNvWalkG
import Derived.Test.YtojhlijcinenoaaGreatDoorNvPl
import Derived.Test.YtojhlijcinenoaaGreatDoorBuilder
namespace Go.Proofs.YtojhlijcinenoaaGreatDoor.Nv
open Go Go.RowKit Go.Maps Mem Disk

/-- what Open comes to: the disk is as it was -/
def OPost (G : Nat → Prop) (w : World) (b : Nat) (d : Dk) (r : Option Lg × Int) (e : Ending) (w' : World) : Prop :=
  Below w.heap.size w w' ∧ match r.1 with
    | none => e = .returned (.tuple #[.pointer none, .int .i64 r.2])
    | some l => ∃ a F', e = .returned (.tuple #[.pointer (some ⟨a, 0, none⟩), .int .i64 0]) ∧ PL F' w' a b l d ∧ ∀ i, F' i → G i ∨ w.heap.size ≤ i
set_option maxRecDepth 100000 in
theorem OPost.no {G : Nat → Prop} {w w' : World} {b : Nat} {d : Dk} {r : Option Lg × Int} {x : Int} (hb : Below w.heap.size w w') (h : r = (none, x)) : OPost G w b d r (.returned (.tuple #[.pointer none, .int .i64 x])) w' := by
  subst h
  exact ⟨hb, rfl⟩
set_option maxRecDepth 100000 in
theorem trim_any (s : ByteArray) (w : World) (hs : s.size ≤ 64) : Calls Tryz.prog 58 #[.string s, .string ⟨#[0]⟩] w fun e w' => e = .returned (.string ⟨(Lib.trimB s.data.toList 0).toArray⟩) ∧ ∃ q, w' = w.drewN q := by
  refine (Tryz.strings_Trim_one s 0 (by decide) w (by omega)).mono ?_
  rintro e w' ⟨rfl, h | h⟩
  · exact ⟨rfl, 0, h⟩
  · exact ⟨rfl, 1, h⟩
/-- a log's cells while it is read -/
def rawc (b : Nat) (g : Int) (B : ByteArray) (v : Value) : Array Value := #[.pointer (some ⟨b, 0, none⟩), .int .i64 g, .string B, v, .bool false]
set_option maxRecDepth 100000 in
theorem cells_app (a t : ByteArray) : Lib.strCells (a ++ t) = Lib.strCells a ++ Lib.strCells t := by
  rw [Lib.strCells_eq, Lib.strCells_eq, Lib.strCells_eq, ByteArray.data_append, Array.toList_append]
  unfold Lib.byteCells
  rw [List.map_append]
structure OpenAt (W1 : World) (d : Dk) (fs K : Nat) (C : ByteArray × Int) (wr : World) (k : Nat) (acc : ByteArray) : Prop where
  col : C = collectD d fs (K - k) k acc
  size : acc.size = 64 * k
  bld : Bld.Is W1.heap.size W1.heap.size (Lib.strCells acc) wr
  hb : Below W1.heap.size W1 wr
set_option maxRecDepth 100000 in
theorem OpenAt.next {W1 wr w' : World} {d : Dk} {fs K : Nat} {C : ByteArray × Int} {k : Nat} {acc : ByteArray} (h : OpenAt W1 d fs K C wr k acc) (hf : Fit d) (hk : k < K) (h0 : (readD d ((fs + k : Nat) : Int)).2 = 0)
    (hi : Bld.Is W1.heap.size W1.heap.size (Lib.strCells acc ++ Lib.strCells (readD d ((fs + k : Nat) : Int)).1) w') (hb : Below W1.heap.size wr w') : OpenAt W1 d fs K C w' (k + 1) (acc ++ (readD d ((fs + k : Nat) : Int)).1) := by
  refine ⟨?_, by rw [ByteArray.size_append, h.size, (readD_size hf h0).1]; omega, by rw [cells_app]; exact hi, h.hb.trans hb⟩
  rw [h.col, show K - k = (K - (k + 1)) + 1 by omega, collectD, if_neg (fun hq => hq h0)]
set_option maxRecDepth 100000 in
theorem OpenAt.bad {W1 wr : World} {d : Dk} {fs K : Nat} {C : ByteArray × Int} {k : Nat} {acc : ByteArray} (h : OpenAt W1 d fs K C wr k acc) (hk : k < K) (h0 : (readD d ((fs + k : Nat) : Int)).2 ≠ 0) : C = (acc, (readD d ((fs + k : Nat) : Int)).2) := by
  rw [h.col, show K - k = (K - (k + 1)) + 1 by omega, collectD, if_pos h0]
set_option maxRecDepth 100000 in
theorem OpenAt.end_ {W1 wr : World} {d : Dk} {fs K : Nat} {C : ByteArray × Int} {acc : ByteArray} (h : OpenAt W1 d fs K C wr K acc) : C = (acc, 0) := by
  rw [h.col, Nat.sub_self, collectD]
section
variable {F G K : Nat → Prop} {w w' : World} {a b m : Nat} {v : Value} {l l' : Lg} {d d' : Dk}
set_option maxRecDepth 100000 in
set_option maxHeartbeats 8000000 in
theorem open_short (h : IsDk G w b d) (hf : Fit d) (hno : d.stays.length < 5 ∨ (readD d 0).2 ≠ 0) : Calls Tryz.prog 17 #[.pointer (some ⟨b, 0, none⟩)] w (OPost G w b d (openL d)) := by
  have ks := Lib.hid (sectors_any h)
  by_cases h5 : d.stays.length < 5
  · have fin := Lib.hid (OPost.no (G := G) (w := w) (b := b) (d := d) (r := openL d) (x := 70) (Below.refl _ w) (by unfold openL; rw [if_pos h5]))
    have q1 : decide ((d.stays.length : Int) < 5) = true := decide_eq_true (by omega)
    clear h hf hno h5
    go_enter Tryz.func17, Tryz.ntmps17
    go_wp2_with fail
    refine (ks.out).mono ?_
    rintro en w' ⟨rfl, hw'⟩
    replace hw' := hw'.symm
    subst hw'
    go_wp2_with fail
    go_ret2
    exact fin.out
  · have h2 : (readD d 0).2 ≠ 0 := hno.resolve_left h5
    have q1 : decide ((d.stays.length : Int) < 5) = false := decide_eq_false (by omega)
    have hl : openL d = (none, (readD d 0).2) := by unfold openL; rw [if_neg h5, if_pos h2]
    have bd : ∀ W, (Instr.build 62 #[(0, .pointer (some ⟨b, 0, none⟩))]).run Tryz.prog W = .ok (.agg #[.pointer (some ⟨b, 0, none⟩), .int .i64 0, .string ⟨#[]⟩, .slice none 0 0, .bool false]) W := fun W => run_build W _ _ _ (by kernel_rfl)
    have hb : Below w.heap.size w (w.alloc (.cells (rawc b 0 ⟨#[]⟩ (.slice none 0 0)) 62)) := (Below.refl _ w).alloc (Nat.le_refl _) _
    have kr := Lib.hid (read_any (h.below hb) hf 0)
    have fin := Lib.hid (fun w' (hb : Below w.heap.size w w') => OPost.no (G := G) (b := b) (d := d) hb hl)
    have hb1 := Lib.hid ((hb.alloc (by simp) (.cells #[.string (readD d 0).1] 9)))
    have z : ((readD d 0).2 != 0) = true := by simpa using h2
    clear h hf hno h5 h2 hl hb
    generalize readD d 0 = R at kr fin hb1 z
    unfold rawc at kr hb1
    go_enter Tryz.func17, Tryz.ntmps17
    go_wp2_with fail
    refine (ks.out).mono ?_
    rintro en w' ⟨rfl, hw'⟩
    replace hw' := hw'.symm
    subst hw'
    go_wp2_with fail
    refine kr.out.mono ?_
    rintro en w2 ⟨rfl, hw'⟩
    replace hw' := hw'.symm
    subst hw'
    go_wp2_with fail
    go_ret2
    exact fin.out _ hb1.out
set_option maxRecDepth 100000 in
theorem raw_pl (h : IsDk G w b d) (g : Nat) (s : ByteArray) : PL (fun i => G i ∨ i = w.heap.size) ((w.alloc (.cells (rawc b g ⟨#[]⟩ (.slice none 0 0)) 62)).alloc (.cells #[.string s] 9)) w.heap.size b ⟨g, [], false⟩ d := by
  have hb : Below w.heap.size w ((w.alloc (.cells (rawc b g ⟨#[]⟩ (.slice none 0 0)) 62)).alloc (.cells #[.string s] 9)) := ((Below.refl _ w).alloc (Nat.le_refl _) _).alloc (by simp) _
  have hB : Blk ((w.alloc (.cells (rawc b g ⟨#[]⟩ (.slice none 0 0)) 62)).alloc (.cells #[.string s] 9)) w.heap.size 62 (lgc b (.slice none 0 0) ⟨g, [], false⟩) := (Blk.new w 62 (rawc b g ⟨#[]⟩ (.slice none 0 0))).alloc _
  exact ⟨G, .slice none 0 0, h.below hb, hB, ⟨rfl, Or.inl ⟨rfl, rfl⟩⟩, Or.inr rfl, (fun j e => by cases e), fun i hi => Or.inl hi, (fun hi => by have := h.blt _ hi; omega), (fun j e => by cases e), fun i hi => by
    rcases hi with hi | hi
    · exact Nat.lt_of_lt_of_le (h.blt i hi) hb.size
    · rw [hi]; exact hB.lt⟩
set_option maxRecDepth 100000 in
theorem raw_fin {w5 : World} {A : Option Addr} {c base g : Nat} {L : List ByteArray} {B : ByteArray} (hd : IsDk G w5 b d) (hB : Blk w5 a 62 (rawc b g B (.slice none 0 0)))
    (hrow : w5.ownsRow base 9 1 (.slice A L.length c) L.length (L.map Value.string)) (hbase : a < base) (hGa : ∀ i, G i → i < a) (he : enc L = B) :
    PL (fun i => G i ∨ i = a ∨ (Value.slice A L.length c).ownBlock = some i) (w5.setCell ⟨a, 3, none⟩ (.slice A L.length c)) a b ⟨g, L, false⟩ d := by
  have kk : Keeps (fun j => j = a) w5 (w5.setCell ⟨a, 3, none⟩ (.slice A L.length c)) := (Keeps.refl (fun j => j = a) w5).put (g := a) (Or.inl rfl) 3 _
  have hne : ∀ j, (Value.slice A L.length c).ownBlock = some j → base ≤ j ∧ j < w5.heap.size := fun j e => hrow.lt j e
  have hB2 : Blk (w5.setCell ⟨a, 3, none⟩ (.slice A L.length c)) a 62 (lgc b (.slice A L.length c) ⟨g, L, false⟩) := by
    have := hB.put 3 (.slice A L.length c)
    unfold lgc
    rw [show (Lg.mk g L false).list = L from rfl, he]
    exact this
  refine ⟨G, .slice A L.length c, hd.keeps kk (fun i hi e => by have := hGa i hi; omega), hB2, own_base (own_keeps hrow kk (fun j e h => by have := (hne j e).1; omega)) (Nat.zero_le _), Or.inr (Or.inl rfl), fun j e => Or.inr (Or.inr e), fun i hi => Or.inl hi, fun hi => by have := hGa _ hi; omega, fun j e hi => by have := (hne j e).1; have := hGa j hi; omega, fun i hi => ?_⟩
  have hs := kk.size
  rcases hi with hi | hi | hi
  · exact Nat.lt_of_lt_of_le (hd.blt i hi) hs
  · rw [hi]; exact hB2.lt
  · exact Nat.lt_of_lt_of_le (hne i hi).2 hs
set_option maxRecDepth 100000 in
set_option maxHeartbeats 8000000 in
theorem open_long (h : IsDk G w b d) (hf : Fit d) (h5 : 5 ≤ d.stays.length) (h0 : (readD d 0).2 = 0) : Calls Tryz.prog 17 #[.pointer (some ⟨b, 0, none⟩)] w (OPost G w b d (openL d)) := by
  have ks := Lib.hid (sectors_any h)
  have q1 : decide ((d.stays.length : Int) < 5) = false := decide_eq_false (by omega)
  have bd : ∀ W, (Instr.build 62 #[(0, .pointer (some ⟨b, 0, none⟩))]).run Tryz.prog W = .ok (.agg #[.pointer (some ⟨b, 0, none⟩), .int .i64 0, .string ⟨#[]⟩, .slice none 0 0, .bool false]) W := fun W => run_build W _ _ _ (by kernel_rfl)
  have hb : Below w.heap.size w (w.alloc (.cells (rawc b 0 ⟨#[]⟩ (.slice none 0 0)) 62)) := (Below.refl _ w).alloc (Nat.le_refl _) _
  have kr := read_any (h.below hb) hf 0
  obtain ⟨s, hs⟩ : ∃ s, s = (readD d 0).1 := ⟨_, rfl⟩
  have hs64 := (readD_size hf h0).1
  rw [h0, ← hs] at kr
  rw [← hs] at hs64
  replace kr := Lib.hid kr
  replace hs := Lib.hid hs
  replace hs64 := Lib.hid hs64
  have kf1 := (fun W (hc : W.cell? ⟨w.heap.size + 1, 0, none⟩ = some (.string s)) => field_any s (w.heap.size + 1) 2 8 W hc (by decide) (by rw [hs64.out]; decide) (by decide))
  have kf2 := (fun W (hc : W.cell? ⟨w.heap.size + 1, 0, none⟩ = some (.string s)) => field_any s (w.heap.size + 1) 8 12 W hc (by decide) (by rw [hs64.out]; decide) (by decide))
  obtain ⟨g, hg⟩ : ∃ g, g = val (s.extract 2 8) := ⟨_, rfl⟩
  obtain ⟨u, hu⟩ : ∃ u, u = val (s.extract 8 12) := ⟨_, rfl⟩
  rw [← hg] at kf1
  rw [← hu] at kf2
  have hp := raw_pl h g s
  have hb2 : Below w.heap.size w ((w.alloc (.cells (rawc b g ⟨#[]⟩ (.slice none 0 0)) 62)).alloc (.cells #[.string s] 9)) := ((Below.refl _ w).alloc (Nat.le_refl _) _).alloc (by simp) _
  have hsz : ((w.alloc (.cells (rawc b g ⟨#[]⟩ (.slice none 0 0)) 62)).alloc (.cells #[.string s] 9)).heap.size = w.heap.size + 2 := by simp
  have hcs : ((w.alloc (.cells (rawc b g ⟨#[]⟩ (.slice none 0 0)) 62)).alloc (.cells #[.string s] 9)).cell? ⟨w.heap.size + 1, 0, none⟩ = some (.string s) := by simp
  have hbk : Blk ((w.alloc (.cells (rawc b g ⟨#[]⟩ (.slice none 0 0)) 62)).alloc (.cells #[.string s] 9)) w.heap.size 62 (rawc b g ⟨#[]⟩ (.slice none 0 0)) := (Blk.new w 62 (rawc b g ⟨#[]⟩ (.slice none 0 0))).alloc _
  replace hbk := Lib.hid hbk
  have hgb : g < 256 ^ 6 := by rw [hg]; exact val_lt (by rw [ByteArray.size_extract, hs64.out]; rfl)
  have hub : u < 256 ^ 4 := by rw [hu]; exact val_lt (by rw [ByteArray.size_extract, hs64.out]; rfl)
  replace kf1 := Lib.hid kf1
  replace kf2 := Lib.hid kf2
  replace hg := Lib.hid hg
  replace hu := Lib.hid hu
  replace hp := Lib.hid hp
  replace hb2 := Lib.hid hb2
  replace hsz := Lib.hid hsz
  replace hcs := Lib.hid hcs
  unfold rawc at kr hp hb2 hsz hcs hbk
  go_enter Tryz.func17, Tryz.ntmps17
  go_wp2_with fail
  refine (ks.out).mono ?_
  rintro en w' ⟨rfl, hw'⟩
  replace hw' := hw'.symm
  subst hw'
  go_wp2_with fail
  refine kr.out.mono ?_
  rintro en w2 ⟨rfl, hw'⟩
  replace hw' := hw'.symm
  subst hw'
  go_wp2_with fail
  refine (kf1.out _ (by simp)).mono ?_
  rintro en w2 ⟨rfl, hw'⟩
  replace hw' := hw'.symm
  subst hw'
  go_wp2_with fail
  refine (kf2.out _ (by simp)).mono ?_
  rintro en w2 ⟨rfl, hw'⟩
  replace hw' := hw'.symm
  subst hw'
  clear kr kf1 kf2 ks bd hb
  generalize (w.alloc (.cells #[.pointer (some ⟨b, 0, none⟩), .int .i64 (g : Int), .string ⟨#[]⟩, .slice none 0 0, .bool false] 62)).alloc (.cells #[.string s] 9) = W at hp hb2 hsz hcs hbk ⊢
  have cg : W.cell? ⟨w.heap.size, 1, none⟩ = some (.int .i64 (g : Int)) := by obtain ⟨_, _, hc⟩ := hp.out; exact hc.cells.2.1
  have cs := hcs.out
  have kh := Lib.hid (half_any hp.out hf)
  have s64 : s.size ≤ 64 := Nat.le_of_eq hs64.out
  have s63 : 64 ≤ s.size := Nat.le_of_eq hs64.out.symm
  have kt := Lib.hid (trim_any (s.extract 12 s.size) W (by rw [ByteArray.size_extract]; omega))
  obtain ⟨H, hH⟩ : ∃ H, H = halfD d := ⟨_, rfl⟩
  have hHb : (H : Int) ≤ 8192 := by rw [hH]; have := hf.few; unfold halfD; omega
  rw [← hH] at kh
  replace hH := Lib.hid hH
  obtain ⟨Z, hZ⟩ : ∃ Z : ByteArray, Z = ⟨(Lib.trimB (s.extract 12 s.size).data.toList 0).toArray⟩ := ⟨_, rfl⟩
  rw [← hZ] at kt
  replace hZ := Lib.hid hZ
  have hno := Lib.hid (fun (hk : ¬ HeadOk d s) => show openL d = (none, 70) by unfold openL; rw [if_neg (by omega), if_neg (fun hq => hq h0), ← hs.out]; unfold openS; rw [if_neg hk])
  have hyes := Lib.hid (fun (hk : HeadOk d s) => show openL d = openT g u (collectD d (firstL g d) ((u + 63) / 64) 0 ⟨#[]⟩) by unfold openL; rw [if_neg (by omega), if_neg (fun hq => hq h0), ← hs.out, hg.out, hu.out]; unfold openS; rw [if_pos hk])
  have hZ0 := Lib.hid (show Z.size = 0 ↔ s.extract 12 s.size = noughts 52 by
    rw [hZ.out, trim_noughts, show (s.extract 12 s.size).size = 52 by rw [ByteArray.size_extract, hs64.out]; rfl])
  clear hcs
  replace h0 := Lib.hid h0
  go_wp2_with (first | (refine kh.out.mono ?_; rintro en w2 ⟨rfl, rfl⟩) | (refine kt.out.mono ?_; rintro en w2 ⟨rfl, q, rfl⟩))
  all_goals first
    | (go_ret2
       refine OPost.no (by first | exact hb2.out | exact below_drewN hb2.out _) (hno.out (fun hk => ?_))
       obtain ⟨e1, e2, e3, e4⟩ := (headOk_iff hs64.out).1 hk
       rw [← hg.out] at e2
       rw [← hu.out, ← hH.out] at e3
       first
         | omega
         | (refine absurd ?_ (by assumption : ¬ (s.extract 0 2).toList = [78, 86]); rw [e1, Lib.toList_data])
         | (have hz := hZ0.out.2 e4
            have hq : (1099511627776 < (g : Int) ∨ (H : Int) * 64 < (u : Int)) ∨ (!Z.toList.isEmpty) = true := by assumption
            rcases hq with hq | hq
            · omega
            · rw [(emptyT hz).2] at hq
              cases hq))
    | skip
  have hk : HeadOk d s := by
    have c1 : (s.extract 0 2).toList = [78, 86] := by assumption
    have c2 : ((g : Int) ≤ 1099511627776 ∧ (u : Int) ≤ (H : Int) * 64) ∧ (!Z.toList.isEmpty) = false := by assumption
    refine (headOk_iff hs64.out).2 ⟨?_, by rw [← hg.out]; omega, by rw [← hu.out, ← hH.out]; omega, hZ0.out.1 ?_⟩
    · apply ByteArray.ext
      apply Array.toList_inj.1
      rw [Lib.toList_data] at c1
      exact c1
    · apply Classical.byContradiction
      intro hz
      rw [(fullT hz).2] at c2
      exact absurd c2.2 (by decide)
  have huH : (u : Int) ≤ (H : Int) * 64 := by omega
  have hL := Lib.hid (hyes.out hk)
  replace hk := Lib.hid hk
  have d1 : decide (1099511627776 < (g : Int)) = false := decide_eq_false (by omega)
  have d2 : decide ((H : Int) * 64 < (u : Int)) = false := decide_eq_false (by omega)
  have d3 : (!Z.toList.isEmpty) = false := by
    have c2 : ((g : Int) ≤ 1099511627776 ∧ (u : Int) ≤ (H : Int) * 64) ∧ (!Z.toList.isEmpty) = false := by assumption
    exact c2.2
  rw [d1, d2, d3]
  simp only [Bool.or_self]
  have hpX := hp.out.below (below_drewN (Below.refl _ w2) q)
  have hbX := below_drewN hb2.out q
  have hzX : (w2.drewN q).heap.size = w.heap.size + 2 := hsz.out
  have hbkX : Blk (w2.drewN q) w.heap.size 62 (rawc b g ⟨#[]⟩ (.slice none 0 0)) := hbk.out
  generalize hW1 : w2.drewN q = W1 at hpX hbX hzX hbkX ⊢
  rw [show w2.heap.size = W1.heap.size by rw [← hW1]; rfl]
  replace hW1 := Lib.hid hW1
  obtain ⟨fs, hfs⟩ : ∃ fs, fs = firstL g d := ⟨_, rfl⟩
  obtain ⟨KK, hKK⟩ : ∃ KK, KK = (u + 63) / 64 := ⟨_, rfl⟩
  obtain ⟨C, hC⟩ : ∃ C, C = collectD d fs KK 0 ⟨#[]⟩ := ⟨_, rfl⟩
  have hL2 := Lib.hid (show openL d = openT g u C by rw [hL.out, hC, hfs, hKK])
  have st : OpenAt W1 d fs KK C (W1.alloc (.cells #[.pointer none, .slice none 0 0] 84)) 0 ⟨#[]⟩ := ⟨by rw [hC]; rfl, rfl, Bld.fresh W1, (Below.refl _ W1).alloc (Nat.le_refl _) _⟩
  replace hC := Lib.hid hC
  replace hpX := Lib.hid hpX
  replace hbX := Lib.hid hbX
  replace hzX := Lib.hid hzX
  replace hbkX := Lib.hid hbkX
  have hK64 : u ≤ 64 * KK ∧ 64 * KK < u + 64 := by omega
  have hfs1 : fs ≤ 16384 := by rw [hfs]; have := hf.few; unfold firstL halfD; have : g % 2 = 0 ∨ g % 2 = 1 := by omega
                               rcases this with e | e <;> rw [e] <;> omega
  replace hfs := Lib.hid hfs
  replace hKK := Lib.hid hKK
  clear d1 d2 d3 hp hb2 hsz hno hyes hZ0 hL cs cg kh kt hW1
  generalize W1.alloc (.cells #[.pointer none, .slice none 0 0] 84) = W2 at st ⊢
  go_loopw [10] (fun iv wr => ∃ (k : Nat) (acc : ByteArray), k ≤ KK ∧ iv = .int .i64 (k : Int) ∧ OpenAt W1 d fs KK C wr k acc) (fun iv _ => KK - (intOf iv).toNat)
  case atStart => exact ⟨0, ⟨#[]⟩, Nat.zero_le _, rfl, st⟩
  case round =>
    clear st
    obtain ⟨k, acc, hkK, rfl, st⟩ := hrel
    have hlw : W1.heap.size ≤ wr.heap.size := st.hb.size
    have hpr := hpX.out.below st.hb
    have cg : wr.cell? ⟨w.heap.size, 1, none⟩ = some (.int .i64 (g : Int)) := by obtain ⟨_, _, hc⟩ := hpr; exact hc.cells.2.1
    by_cases hlt : k < KK
    · have q2 : (k : Int) * 64 < (u : Int) := by omega
      have hk16 : k ≤ 16384 := by omega
      have kfi := Lib.hid (show Calls Tryz.prog 39 #[.pointer (some ⟨w.heap.size, 0, none⟩), .int .i64 (g : Int)] wr fun e w' => e = .returned (.int .i64 (fs : Int)) ∧ w' = wr by rw [hfs.out]; exact first_any hpr hf g)
      have krd : Calls Tryz.prog 54 #[.pointer (some ⟨b, 0, none⟩), .int .i64 ((fs : Int) + (k : Int))] wr fun e w' => e = .returned (.tuple #[.string (readD d ((fs + k : Nat) : Int)).1, .int .i64 (readD d ((fs + k : Nat) : Int)).2]) ∧ w' = wr := by
        obtain ⟨_, _, hc⟩ := hpr
        rw [Int.natCast_add]
        exact read_any hc.dk hf _
      have bad := fun (h0 : (readD d ((fs + k : Nat) : Int)).2 ≠ 0) => st.bad hlt h0
      have next := fun w' (h0 : (readD d ((fs + k : Nat) : Int)).2 = 0) hi hb => st.next (w' := w') hf hlt h0 hi hb
      have kw := fun (h0 : (readD d ((fs + k : Nat) : Int)).2 = 0) => Bld.writeString_any W1.heap.size W1.heap.size (Lib.strCells acc) (readD d ((fs + k : Nat) : Int)).1 wr st.bld (by rw [Lib.strCells_length, st.size, (readD_size hf h0).1]; omega) hlw
      have hb9 := Lib.hid (hbX.out.trans (st.hb.mono hbX.out.size))
      generalize readD d ((fs + k : Nat) : Int) = R at krd bad next kw
      replace krd := Lib.hid krd
      clear st hpr
      by_cases h0R : R.2 = 0
      · have kw2 := Lib.hid (kw h0R)
        have next2 := Lib.hid (fun w' => next w' h0R)
        rw [h0R] at krd
        replace h0R := Lib.hid h0R
        clear bad next kw
        go_wp2_with fail
        refine kfi.out.mono ?_
        rintro en w3 ⟨rfl, hw'⟩
        replace hw' := hw'.symm
        subst hw'
        go_wp2_with fail
        refine krd.out.mono ?_
        rintro en w3 ⟨rfl, hw'⟩
        replace hw' := hw'.symm
        subst hw'
        go_wp2_with fail
        refine kw2.out.mono ?_
        rintro en w3 ⟨rfl, hi, hb3⟩
        have fin := Lib.hid (next2.out w3 hi hb3)
        clear kw2 next2 hi hb3 krd kfi cg
        go_wp2_with fail
        exact ⟨⟨k + 1, _, by omega, rfl, fin.out⟩, by simp [intOf]; omega⟩
      · have q3 : (R.2 != 0) = true := by simpa using h0R
        have fin := Lib.hid (OPost.no (G := G) (b := b) (d := d) hb9.out (show openL d = (none, R.2) by rw [hL2.out, bad h0R]; unfold openT; rw [if_pos h0R]))
        clear bad next kw h0R
        go_wp2_with fail
        refine kfi.out.mono ?_
        rintro en w3 ⟨rfl, hw'⟩
        replace hw' := hw'.symm
        subst hw'
        go_wp2_with fail
        refine krd.out.mono ?_
        rintro en w3 ⟨rfl, hw'⟩
        replace hw' := hw'.symm
        subst hw'
        go_wp2_with fail
        go_ret2
        exact fin.out
    · obtain rfl : k = KK := by omega
      have q2 : (u : Int) ≤ (k : Int) * 64 := by omega
      have hCe := st.end_
      have hsz := st.size
      have q4 : (u : Int) ≤ (acc.size : Int) := by omega
      have kS := Tryz.Builder_String_any W1.heap.size W1.heap.size acc.data.toList wr st.bld hlw
      rw [show (⟨acc.data.toList.toArray⟩ : ByteArray) = acc from rfl] at kS
      obtain ⟨B, hB⟩ : ∃ B, B = acc.extract 0 u := ⟨_, rfl⟩
      have hBs : B.size = u := by rw [hB, ByteArray.size_extract]; omega
      have hL3 : openL d = openL_ g (splitB B.size B) := by rw [hL2.out, hCe]; unfold openT; rw [if_neg (by simp), hBs, hB]
      have hBm : B.size ≤ 1048576 := by rw [hBs]; omega
      have hbr := hbX.out.trans (st.hb.mono hbX.out.size)
      have hrb := st.hb
      have hBb : ∀ j, u ≤ acc.size := fun _ => by omega
      replace kS := Lib.hid kS
      replace hCe := Lib.hid hCe
      replace hBs := Lib.hid hBs
      replace hbr := Lib.hid hbr
      replace hrb := Lib.hid hrb
      clear st hpr hBb hlt hL2
      go_wp2_with fail
      refine kS.out.mono ?_
      rintro en w3 ⟨rfl, hb3⟩
      have hbr3 := hbr.out.trans (hb3.mono hbX.out.size)
      have hbk3 := hbkX.out.below (hrb.out.trans hb3) hbkX.out.lt
      have c2 : w3.cell? ⟨w.heap.size, 2, none⟩ = some (.string ⟨#[]⟩) := hbk3.cell 2
      have f2 := hbk3.free 2
      have hbk4 : Blk (w3.setCell ⟨w.heap.size, 2, none⟩ (.string B)) w.heap.size 62 (rawc b g B (.slice none 0 0)) := hbk3.put 2 (.string B)
      have hbr4 : Below w.heap.size w (w3.setCell ⟨w.heap.size, 2, none⟩ (.string B)) := hbr3.setCell (p := ⟨w.heap.size, 2, none⟩) (Nat.le_refl _) _
      have ksp := split_any B hBm (w3.setCell ⟨w.heap.size, 2, none⟩ (.string B))
      subst hB
      replace hbk4 := Lib.hid hbk4
      replace hbr4 := Lib.hid hbr4
      replace ksp := Lib.hid ksp
      clear hbk3 hbr3 hb3
      cases ho : splitB (acc.extract 0 u).size (acc.extract 0 u) with
      | none =>
        rw [ho] at ksp hL3
        replace hL3 := Lib.hid hL3
        replace ho := Lib.hid ho
        go_wp2_with fail
        refine ksp.out.mono ?_
        rintro en w5 ⟨hb5, rfl⟩
        have fin := Lib.hid (OPost.no (G := G) (b := b) (d := d) (x := 70) (hbr4.out.trans (hb5.mono hbr4.out.size)) hL3.out)
        clear hb5
        go_wp2_with fail
        go_ret2
        exact fin.out
      | some L =>
        rw [ho] at ksp hL3
        have hinv := (splitB_inv _ _ _ ho).1
        replace hL3 := Lib.hid hL3
        replace ho := Lib.hid ho
        replace hinv := Lib.hid hinv
        go_wp2_with fail
        refine ksp.out.mono ?_
        rintro en w5 ⟨hb5, A, c, rfl, hrow⟩
        have hbk5 := hbk4.out.below hb5 hbk4.out.lt
        have hbr5 := hbr4.out.trans (hb5.mono hbr4.out.size)
        have c3 : w5.cell? ⟨w.heap.size, 3, none⟩ = some (.slice none 0 0) := hbk5.cell 3
        have f3 := hbk5.free 3
        have fin := raw_fin (h.below hbr5) hbk5 hrow hbk4.out.lt (fun i hi => h.blt i hi) hinv.out
        have hb6 : Below w.heap.size w (w5.setCell ⟨w.heap.size, 3, none⟩ (.slice A L.length c)) := hbr5.setCell (p := ⟨w.heap.size, 3, none⟩) (Nat.le_refl _) _
        have hF : ∀ i, (G i ∨ i = w.heap.size ∨ (Value.slice A L.length c).ownBlock = some i) → G i ∨ w.heap.size ≤ i := fun i hi => hi.imp id (fun hi => hi.elim (fun e => by omega) (fun e => Nat.le_trans (Nat.le_of_lt hbk4.out.lt) (hrow.lt i e).1))
        replace fin := Lib.hid fin
        replace hb6 := Lib.hid hb6
        replace hF := Lib.hid hF
        clear hb5 hrow hbk5 hbr5
        go_wp2_with fail
        go_ret2
        refine ⟨hb6.out, ?_⟩
        rw [hL3.out]
        exact ⟨w.heap.size, _, rfl, fin.out, hF.out⟩
set_option maxRecDepth 100000 in
theorem open_any (h : IsDk G w b d) (hf : Fit d) : Calls Tryz.prog 17 #[.pointer (some ⟨b, 0, none⟩)] w (OPost G w b d (openL d)) := by
  by_cases h5 : d.stays.length < 5
  · exact open_short h hf (Or.inl h5)
  · by_cases h0 : (readD d 0).2 = 0
    · exact open_long h hf (by omega) h0
    · exact open_short h hf (Or.inr h0)
end
end Go.Proofs.YtojhlijcinenoaaGreatDoor.Nv

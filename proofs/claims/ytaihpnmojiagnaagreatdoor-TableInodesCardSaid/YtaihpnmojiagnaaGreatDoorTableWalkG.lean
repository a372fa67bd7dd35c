/- parse: the list of bytes, at each kind. (Printed by genparse.py.) -/
import Derived.Test.YtaihpnmojiagnaaGreatDoorTableWalkD
import Derived.Test.YtaihpnmojiagnaaGreatDoorTableWalkF
import Derived.Maps.AppendAt
namespace Go.Proofs.YtaihpnmojiagnaaGreatDoor.Table
open Go.RowKit Mem Wire

theorem row_of_own {w : World} {A : Option Addr} {n c sz base : Nat} {e : TypeId} {xs : List Value} (h : w.ownsRow base e sz (.slice A n c) n xs) : Row w A (n * sz) xs := by
  refine ⟨h.1, fun k u hu => ?_⟩
  rcases h.2 with ⟨h1, h2⟩ | ⟨g, cap, cur, hv, hb, hg, h1, h2, h3, h4⟩
  · have := h.1
    rw [h2, Nat.zero_mul] at this
    rw [List.eq_nil_of_length_eq_zero this] at hu
    cases hu
  · have hA : A = some ⟨g, 0, none⟩ := by injection hv
    subst hA
    refine ⟨_, rfl, ?_⟩
    rw [add_lit, Nat.zero_add, cell_of_row w g k cur e (0, 0) hg, ← Array.getElem?_toList]
    rw [← h4, List.getElem?_take] at hu
    split at hu
    · exact hu
    · cases hu
theorem own_slc {w : World} {n sz base : Nat} {e : TypeId} {xs : List Value} {v : Value} (h : w.ownsRow base e sz v n xs) : ∃ A c, v = .slice A n c := by
  rcases h.2 with ⟨h1, h2⟩ | ⟨g, cap, cur, hv, _⟩
  · exact ⟨none, 0, by rw [h1, h2]⟩
  · exact ⟨_, _, hv⟩
theorem own_less {w : World} {n sz base base' : Nat} {e : TypeId} {xs : List Value} {v : Value} (h : w.ownsRow base e sz v n xs) (hb : base' ≤ base) : w.ownsRow base' e sz v n xs := by
  refine ⟨h.1, ?_⟩
  rcases h.2 with h2 | ⟨g, cap, cur, hv, h3, h4⟩
  · exact Or.inl h2
  · exact Or.inr ⟨g, cap, cur, hv, Nat.le_trans hb h3, h4⟩
/-- what is read: a list of the call's own, or none -/
def ParsePost {α : Type} (w : World) (t : TypeId) (sz : Nat) (cs : α → List Value) (r : Option (List α)) (e : Ending) (w' : World) : Prop :=
  ∃ (A : Option Addr) (n c : Nat), e = .returned (.tuple #[.slice A n c, .int .i64 (if r.isSome then 0 else 120)]) ∧ w'.ownsRow w.heap.size t sz (.slice A n c) n ((r.getD []).flatMap cs) ∧ (r.getD []).length = n ∧ Below w.heap.size w w'
theorem ParsePost.none_ {α : Type} {w w' : World} {t : TypeId} {sz : Nat} {cs : α → List Value} {r : Option (List α)} (hr : r = none) (hb : Below w.heap.size w w') : ParsePost w t sz cs r (.returned (.tuple #[.slice none 0 0, .int .i64 120])) w' := by
  subst hr
  exact ⟨none, 0, 0, rfl, World.ownsRow_nil _ _ _ _, rfl, hb⟩

theorem parse_bad {α : Type} {K : Kind α} {s : List UInt8} (h : (rdNum 4096 (s, 0)).1.2 ≠ 0) : parseS K s = none := by unfold parseS; rw [if_neg h]
theorem parse_is {α : Type} {K : Kind α} {s : List UInt8} {m : Nat} {p : List α × Rd} (h : (rdNum 4096 (s, 0)).1.2 = 0) (hm : min (rdNum 4096 (s, 0)).1.1.toNat s.length = m) (hp : rds K.read m (rdNum 4096 (s, 0)).2 = p) :
    parseS K s = if rdEnd p.2 = 0 then (if lays K p.1 = some s then some p.1 else none) else none := by
  unfold parseS
  rw [if_pos h]
  simp only
  rw [hm, hp]
theorem rds_step {α : Type} (f : Rd → α × Rd) {k : Nat} {st st2 : Rd} {l : List α} (h : rds f k st = (l, st2)) : rds f (k + 1) st = (l ++ [(f st2).1], (f st2).2) := by
  show ((rds f k st).1 ++ [(f (rds f k st).2).1], (f (rds f k st).2).2) = _
  rw [h]
theorem rdText_len (most : Int) (st : Rd) (h : most ≤ 16) : (rdText most st).1.1.length ≤ 16 := by
  unfold rdText
  obtain ⟨_, h2, _⟩ := rdNum_latch (min most 65536) st
  simp only
  split
  · simp
  · next h0 =>
    have h0 := Classical.not_not.1 h0
    have h3 := h2 h0
    split
    · simp
    · simp only [List.length_take]
      omega
theorem rt_small (st : Rd) : (rt 16 st).1.size ≤ 16 := rdText_len 16 st (Int.le_refl _)
theorem ino_big (st : Rd) : inoBig (inoK.read st).1 := trivial
theorem ent_big (st : Rd) : entBig (entK.read st).1 := trivial
theorem snp_big (st : Rd) : snpBig (snpK.read st).1 := trivial
theorem info_Inode : (Tryz.prog.info? 32).map (fun i => (i.zero, i.size, i.bytes)) = some (some (inoV inoK.zero), 5, 40) := by kernel_rfl
theorem info_Entry : (Tryz.prog.info? 65).map (fun i => (i.zero, i.size, i.bytes)) = some (some (entV entK.zero), 2, 24) := by kernel_rfl
theorem info_Snap : (Tryz.prog.info? 67).map (fun i => (i.zero, i.size, i.bytes)) = some (some (snpV snpK.zero), 5, 48) := by kernel_rfl
theorem one_ino (x : Ino) : ∀ u ∈ inoC x, u.oneCell' = true := by simp [inoC, Value.oneCell']
theorem one_ent (x : Ent) : ∀ u ∈ entC x, u.oneCell' = true := by simp [entC, Value.oneCell']
theorem one_snp (x : Snp) : ∀ u ∈ snpC x, u.oneCell' = true := by simp [snpC, Value.oneCell']
theorem cells_new (w : World) (cs : List Value) (t : TypeId) : ∀ j u, cs[j]? = some u → (w.alloc (.cells ⟨cs⟩ t)).cell? ((⟨w.heap.size, 0, none⟩ : Addr).add j) = some u := fun j u h => by
  rw [add_lit, Nat.zero_add, (Blk.new w t ⟨cs⟩).cell j]
  simpa using h

set_option maxRecDepth 100000 in
set_option maxHeartbeats 8000000 in
theorem ino_parse (s : ByteArray) (w : World) (hL : Laid w) (hs : s.size ≤ 9223372036854775807) :
    Calls Tryz.prog 28 #[formV 43 45 47, .string s] w (ParsePost w 32 5 inoC (parseS inoK s.data.toList)) := by
  obtain ⟨i0, hi, hz0, hz1, hz2'⟩ := info_parts info_Inode
  have hsl := Lib.size_eq s
  have hpos := hL.pos
  have q := Blk.new w 52 #[.func (.func 43) #[] #[], .func (.func 45) #[] #[], .func (.func 47) #[] #[]]
  have hb0 : Below w.heap.size w (w.alloc (.cells #[.func (.func 43) #[] #[], .func (.func 45) #[] #[], .func (.func 47) #[] #[]] 52)) := (Below.refl _ _).alloc (Nat.le_refl _) _
  have hzw : (w.alloc (.cells #[.func (.func 43) #[] #[], .func (.func 45) #[] #[], .func (.func 47) #[] #[]] 52)).heap.size = w.heap.size + 1 := by simp
  have hL0 := hL.below hb0 hpos
  unfold formV
  replace hb0 := Lib.hid hb0
  replace hzw := Lib.hid hzw
  replace hsl := Lib.hid hsl
  go_enter Tryz.func28, Tryz.ntmps28
  go_wp2_with fail
  generalize (w.alloc (.cells #[.func (.func 43) #[] #[], .func (.func 45) #[] #[], .func (.func 47) #[] #[]] 52)) = W0 at q hb0 hzw hL0 ⊢
  refine (new_any s W0).mono ?_
  rintro e W1 ⟨rfl, rfl⟩
  rw [hzw.out]
  have hr1 := IsRd.new W0 s (by omega)
  have hb1 : Below W0.heap.size W0 (W0.alloc (.cells #[.string s, .nilIface] 109)) := (Below.refl _ _).alloc (Nat.le_refl _) _
  have hL1 := hL0.below hb1 (by rw [hzw.out]; omega)
  rw [hzw.out] at hr1
  generalize W0.alloc (.cells #[.string s, .nilIface] 109) = W1 at hr1 hb1 hL1 ⊢
  have hrb := hr1.lt
  have hbn : w.heap.size + 1 ≠ 0 := by omega
  have hcall := Lib.hid (rd_any (w.heap.size + 1) _ 4096 W1 hr1 hL1)
  obtain ⟨hla, hz, hnz⟩ := rdNum_latch 4096 (s.data.toList, 0)
  have hpb := Lib.hid (fun h => parse_bad (K := inoK) (s := s.data.toList) h)
  have hpi := Lib.hid (fun m p h hm hp => parse_is (K := inoK) (s := s.data.toList) (m := m) (p := p) h hm hp)
  obtain ⟨⟨⟨nI, en⟩, st1⟩, hrd⟩ : ∃ r, rdNum 4096 (s.data.toList, 0) = r := ⟨_, rfl⟩
  rw [hrd] at hla hz hnz hpb hpi hcall
  simp only at hla hz hnz hpb hpi
  replace hrd := Lib.hid hrd
  replace hL1 := Lib.hid hL1
  replace hb1 := Lib.hid hb1
  replace hr1 := Lib.hid hr1
  replace q := Lib.hid q
  by_cases he : en = 0
  · obtain ⟨hn0, hn1, _⟩ := hz he
    subst he
    obtain ⟨n, rfl⟩ := Int.eq_ofNat_of_zero_le hn0
    replace hla := Lib.hid hla
    clear hz hnz hpb hL0
    go_wp2_with fail
    refine hcall.out.mono ?_
    rintro e W2 ⟨rfl, hr2, g2⟩
    have q2 := (q.out.below hb1.out q.out.lt).grown g2 (fun e => by injection e; omega)
    have hL2 := hL1.out.grown g2 (fun e => by injection e; omega)
    have hb2 : Below w.heap.size w W2 := (hb0.out.trans (hb1.out.mono (by rw [hzw.out]; omega))).trans (Only.toBelow g2 (by omega) (by omega))
    have hB2 : w.heap.size + 1 < W2.heap.size := hr2.lt
    clear g2 hcall hr1 hb1 hb0 hL1 q
    replace q2 := Lib.hid q2
    replace hL2 := Lib.hid hL2
    have hz2 := Lib.hid (show w.heap.size ≤ W2.heap.size by omega)
    replace hb2 := Lib.hid hb2
    replace hr2 := Lib.hid hr2
    go_wp2_with fail
    obtain ⟨m, hm⟩ : ∃ m, m = min n s.size := ⟨_, rfl⟩
    have hmn : m ≤ n := by omega
    have hms : m ≤ s.size := by omega
    replace hm := Lib.hid hm
    go_loopw [9, 10] (fun v i wr => ∃ (k : Nat) (l : List Ino) (st2 : Rd), k ≤ m ∧ i = .int .i64 (k : Int) ∧ l.length = k ∧ rds inoK.read k st1 = (l, st2) ∧ (∀ x ∈ l, inoBig x) ∧
      wr.ownsRow W2.heap.size 32 5 v l.length (l.flatMap inoC) ∧ IsRd wr (w.heap.size + 1) st2 ∧ W2.grownBy wr (some (w.heap.size + 1))) (fun _ i _ => m - (intOf i).toNat)
    case atStart => exact ⟨0, [], st1, Nat.zero_le _, rfl, rfl, rfl, by simp, World.ownsRow_nil _ _ _ _, hr2.out, Only.refl _ _⟩
    case round =>
      obtain ⟨k, l, st2, hk, rfl, hll, hrds, hbig, hown, hr, hg⟩ := hrel
      have hLr := hL2.out.grown hg (fun e => by injection e; omega)
      have qr := q2.out.grown hg (fun e => by injection e; omega)
      have cf0 := qr.cell 0
      have cf1 := qr.cell 1
      have cf2 := qr.cell 2
      have hbl := hr.lt
      have hsg := hg.size
      have hob := Lib.hid (show ∀ j, u9.ownBlock = some j → W2.heap.size ≤ j ∧ j < wr.heap.size from hown.lt)
      replace hbig := Lib.hid hbig
      replace hrds := Lib.hid hrds
      replace hll := Lib.hid hll
      clear qr
      by_cases hlt : k < m
      · have hkn : (k : Int) < (n : Int) := by omega
        have hks : (k : Int) < (s.size : Int) := by omega
        have k1 := Lib.hid (ino_read (w.heap.size + 1) st2 wr hr hLr hbn)
        have hst := Lib.hid (rds_step inoK.read hrds.out)
        have hxb := Lib.hid (ino_big st2)
        generalize (inoK.read st2).1 = x at k1 hst hxb
        generalize (inoK.read st2).2 = st3 at k1 hst
        clear hr hLr
        replace hown := Lib.hid hown
        go_wp2_with fail
        refine k1.out.mono ?_
        rintro e w3 ⟨rfl, hr3, g3⟩
        have hs3 := g3.size
        have hown3 := hown.out.kept g3 (Or.inr (fun e => by have := (hob.out _ e).1; omega))
        replace hr3 := Lib.hid hr3
        clear hown
        unfold inoV
        go_wp2_with (first
          | (at_builtin; refine wpList_append_own _ rfl (.tmp 33) (.tmp 38) _ rfl W2.heap.size 32 i0 (inoV inoK.zero) 5 40 Tryz.underlying22 hi hz0 hz1 hz2' rfl (by decide) u9 l.length _ rfl (hown3.alloc _) ⟨w3.heap.size, 0, none⟩ 1 1 (inoC x) rfl rfl (cells_new _ _ _) (one_ino x) (by rw [hll.out]; unfold maxLen; omega) (by rw [hll.out]; omega) (by simp; omega) ?_))
        intro v4 w4 hown4 hg4 _
        have hg4' : W2.grownBy w4 (some (w.heap.size + 1)) := Only.own (Only.alloc (Only.trans hg g3) _) hg4 (fun j e => (hob.out j e).1)
        have hr4 : IsRd w4 (w.heap.size + 1) st3 := (hr3.out.below ((Below.refl w3.heap.size w3).alloc (Nat.le_refl _) _) hr3.out.lt).grown hg4 (fun e => by have := (hob.out _ e.symm).1; omega)
        replace hg4' := Lib.hid hg4'
        replace hr4 := Lib.hid hr4
        replace hown4 := Lib.hid hown4
        clear hg4 hown3 g3
        go_wp2_with fail
        go_roundw
        case rel =>
          refine ⟨k + 1, l ++ [x], st3, by omega, by go_num, by rw [List.length_append, hll.out]; rfl, hst.out, ?_, ?_, hr4.out, hg4'.out⟩
          · intro y hy
            rcases List.mem_append.1 hy with hy | hy
            · exact hbig.out y hy
            · rw [List.mem_singleton.1 hy]; exact hxb.out
          · rw [List.length_append, List.flatMap_append, List.flatMap_singleton]
            exact hown4.out
        case measure => simp [intOf]; omega
      · obtain rfl : k = m := by omega
        have hpe := hpi.out k (l, st2) trivial (by rw [← hsl.out, hm.out]; rfl) hrds.out
        simp only at hpe
        obtain ⟨A, c, rfl⟩ := own_slc hown
        obtain ⟨ee, hee⟩ : ∃ ee, rdEnd st2 = ee := ⟨_, rfl⟩
        have ke : Hid (Calls Tryz.prog 54 #[.pointer (some ⟨w.heap.size + 1, 0, none⟩)] wr fun e w' => e = .returned (.int .i64 ee) ∧ Below wr.heap.size wr w') := Lib.hid ((end_any (w.heap.size + 1) st2 wr hr hLr).mono (fun e w' ⟨h1, _, h3⟩ => ⟨by rw [h1, hee], h3⟩))
        rw [hee] at hpe
        replace hee := Lib.hid hee
        replace hpe := Lib.hid hpe
        have hl4 : l.length ≤ 4096 := by rw [hll.out]; omega
        have hb5 : Below w.heap.size w wr := hb2.out.trans (Only.toBelow hg (by omega) hz2.out)
        replace hown := Lib.hid hown
        replace hb5 := Lib.hid hb5
        have kl := fun W (hrow : Row W A (l.length * 5) (l.flatMap inoC)) => ino_lays A l.length c l W hrow rfl hbig.out (by omega)
        clear hr hLr hg
        have hstop : ¬ ((k : Int) < (n : Int)) ∨ ((k : Int) < (n : Int) ∧ ¬ ((k : Int) < (s.size : Int))) := by have := hm.out; omega
        have hpf : w.heap.size < wr.heap.size := by omega
        rcases hstop with h1 | ⟨h1, h2⟩
        all_goals
          by_cases he2 : ee = 0
          · subst he2
            replace kl := Lib.hid kl
            go_wp2_with fail
            refine ke.out.mono ?_
            rintro e W5 ⟨rfl, b5⟩
            have hrow := Lib.hid ((row_of_own hown.out).below b5)
            have hown5 := Lib.hid (hown.out.kept (row := none) (Only.of_below b5 none) (by cases Value.ownBlock _ <;> simp))
            replace hb5 := Lib.hid (hb5.out.trans (b5.mono (by omega)))
            have hz5 := Lib.hid (show w.heap.size ≤ W5.heap.size by have := b5.size; omega)
            have df0 := (b5.cell (p := ⟨w.heap.size, 0, none⟩) hpf).trans cf0
            have df1 := (b5.cell (p := ⟨w.heap.size, 1, none⟩) hpf).trans cf1
            have df2 := (b5.cell (p := ⟨w.heap.size, 2, none⟩) hpf).trans cf2
            clear b5 cf0 cf1 cf2
            replace kl := kl.out
            generalize hlv : lays inoK l = lv at kl
            cases lv with
            | none =>
              unfold laysV at kl
              replace kl := Lib.hid kl
              go_wp2_with fail
              refine (kl.out _ hrow.out).mono ?_
              rintro e W6 ⟨rfl, hb6⟩
              replace hb5 := Lib.hid (hb5.out.trans (hb6.mono hz5.out))
              clear hb6
              replace hlv := Lib.hid hlv
              go_wp2_with fail
              go_ret2
              exact ParsePost.none_ (by rw [hpe.out, if_pos trivial, hlv.out, if_neg (fun h => by cases h)]) hb5.out
            | some bs =>
              unfold laysV at kl
              obtain ⟨T, hT⟩ : ∃ T : ByteArray, T = ⟨bs.toArray⟩ := ⟨_, rfl⟩
              simp only at kl
              rw [← hT] at kl
              by_cases hTs : T = s
              · subst hTs
                replace kl := Lib.hid kl
                replace hT := Lib.hid hT
                replace hlv := Lib.hid hlv
                go_wp2_with fail
                refine (kl.out _ hrow.out).mono ?_
                rintro e W6 ⟨rfl, hb6⟩
                replace hown5 := Lib.hid (hown5.out.kept (row := none) (Only.of_below hb6 none) (by cases Value.ownBlock _ <;> simp))
                replace hb5 := Lib.hid (hb5.out.trans (hb6.mono hz5.out))
                clear hb6
                go_wp2_with fail
                go_ret2
                have e1 : parseS inoK T.data.toList = some l := by rw [hpe.out, if_pos trivial, hlv.out, if_pos (by rw [hT.out])]
                refine ⟨A, l.length, c, ?_, ?_, ?_, hb5.out⟩
                · rw [e1]; rfl
                · rw [e1]; exact own_less hown5.out hz2.out
                · rw [e1]; rfl
              · have hT1 : ¬ T.toList = s.toList := fun h => hTs (by rw [ByteArray.ext_iff, ← Array.toList_inj]; simpa [Lib.toList_data] using h)
                have hT2 : (T.toList == s.toList) = false := by simpa using hT1
                replace kl := Lib.hid kl
                replace hT := Lib.hid hT
                replace hTs := Lib.hid hTs
                replace hlv := Lib.hid hlv
                go_wp2_with fail
                refine (kl.out _ hrow.out).mono ?_
                rintro e W6 ⟨rfl, hb6⟩
                replace hb5 := Lib.hid (hb5.out.trans (hb6.mono hz5.out))
                clear hb6
                go_wp2_with fail
                go_ret2
                refine ParsePost.none_ ?_ hb5.out
                rw [hpe.out, if_pos trivial, hlv.out, if_neg (fun h => hTs.out (by injection h with h; rw [hT.out, h]))]
          · have hne : (ee != 0) = true := by simpa using he2
            replace he2 := Lib.hid he2
            replace kl := Lib.hid kl
            go_wp2_with fail
            refine ke.out.mono ?_
            rintro e W5 ⟨rfl, b5⟩
            replace hb5 := Lib.hid (hb5.out.trans (b5.mono (by omega)))
            clear b5
            go_wp2_with fail
            go_ret2
            exact ParsePost.none_ (by rw [hpe.out, if_neg he2.out]) hb5.out
  · have hne : (en != 0) = true := by simpa using he
    replace he := Lib.hid he
    clear hz hnz hla hpi
    go_wp2_with fail
    refine hcall.out.mono ?_
    rintro e W2 ⟨rfl, hr2, g2⟩
    have hb2 : Below w.heap.size w W2 := (hb0.out.trans (hb1.out.mono (by rw [hzw.out]; omega))).trans (Only.toBelow g2 (by omega) (by omega))
    replace hb2 := Lib.hid hb2
    clear hr2 g2
    go_wp2_with fail
    go_ret2
    exact ParsePost.none_ (hpb.out he.out) hb2.out

set_option maxRecDepth 100000 in
set_option maxHeartbeats 8000000 in
theorem ent_parse (s : ByteArray) (w : World) (hL : Laid w) (hs : s.size ≤ 9223372036854775807) :
    Calls Tryz.prog 34 #[formV 56 57 58, .string s] w (ParsePost w 65 2 entC (parseS entK s.data.toList)) := by
  obtain ⟨i0, hi, hz0, hz1, hz2'⟩ := info_parts info_Entry
  have hsl := Lib.size_eq s
  have hpos := hL.pos
  have q := Blk.new w 74 #[.func (.func 56) #[] #[], .func (.func 57) #[] #[], .func (.func 58) #[] #[]]
  have hb0 : Below w.heap.size w (w.alloc (.cells #[.func (.func 56) #[] #[], .func (.func 57) #[] #[], .func (.func 58) #[] #[]] 74)) := (Below.refl _ _).alloc (Nat.le_refl _) _
  have hzw : (w.alloc (.cells #[.func (.func 56) #[] #[], .func (.func 57) #[] #[], .func (.func 58) #[] #[]] 74)).heap.size = w.heap.size + 1 := by simp
  have hL0 := hL.below hb0 hpos
  unfold formV
  replace hb0 := Lib.hid hb0
  replace hzw := Lib.hid hzw
  replace hsl := Lib.hid hsl
  go_enter Tryz.func34, Tryz.ntmps34
  go_wp2_with fail
  generalize (w.alloc (.cells #[.func (.func 56) #[] #[], .func (.func 57) #[] #[], .func (.func 58) #[] #[]] 74)) = W0 at q hb0 hzw hL0 ⊢
  refine (new_any s W0).mono ?_
  rintro e W1 ⟨rfl, rfl⟩
  rw [hzw.out]
  have hr1 := IsRd.new W0 s (by omega)
  have hb1 : Below W0.heap.size W0 (W0.alloc (.cells #[.string s, .nilIface] 109)) := (Below.refl _ _).alloc (Nat.le_refl _) _
  have hL1 := hL0.below hb1 (by rw [hzw.out]; omega)
  rw [hzw.out] at hr1
  generalize W0.alloc (.cells #[.string s, .nilIface] 109) = W1 at hr1 hb1 hL1 ⊢
  have hrb := hr1.lt
  have hbn : w.heap.size + 1 ≠ 0 := by omega
  have hcall := Lib.hid (rd_any (w.heap.size + 1) _ 4096 W1 hr1 hL1)
  obtain ⟨hla, hz, hnz⟩ := rdNum_latch 4096 (s.data.toList, 0)
  have hpb := Lib.hid (fun h => parse_bad (K := entK) (s := s.data.toList) h)
  have hpi := Lib.hid (fun m p h hm hp => parse_is (K := entK) (s := s.data.toList) (m := m) (p := p) h hm hp)
  obtain ⟨⟨⟨nI, en⟩, st1⟩, hrd⟩ : ∃ r, rdNum 4096 (s.data.toList, 0) = r := ⟨_, rfl⟩
  rw [hrd] at hla hz hnz hpb hpi hcall
  simp only at hla hz hnz hpb hpi
  replace hrd := Lib.hid hrd
  replace hL1 := Lib.hid hL1
  replace hb1 := Lib.hid hb1
  replace hr1 := Lib.hid hr1
  replace q := Lib.hid q
  by_cases he : en = 0
  · obtain ⟨hn0, hn1, _⟩ := hz he
    subst he
    obtain ⟨n, rfl⟩ := Int.eq_ofNat_of_zero_le hn0
    replace hla := Lib.hid hla
    clear hz hnz hpb hL0
    go_wp2_with fail
    refine hcall.out.mono ?_
    rintro e W2 ⟨rfl, hr2, g2⟩
    have q2 := (q.out.below hb1.out q.out.lt).grown g2 (fun e => by injection e; omega)
    have hL2 := hL1.out.grown g2 (fun e => by injection e; omega)
    have hb2 : Below w.heap.size w W2 := (hb0.out.trans (hb1.out.mono (by rw [hzw.out]; omega))).trans (Only.toBelow g2 (by omega) (by omega))
    have hB2 : w.heap.size + 1 < W2.heap.size := hr2.lt
    clear g2 hcall hr1 hb1 hb0 hL1 q
    replace q2 := Lib.hid q2
    replace hL2 := Lib.hid hL2
    have hz2 := Lib.hid (show w.heap.size ≤ W2.heap.size by omega)
    replace hb2 := Lib.hid hb2
    replace hr2 := Lib.hid hr2
    go_wp2_with fail
    obtain ⟨m, hm⟩ : ∃ m, m = min n s.size := ⟨_, rfl⟩
    have hmn : m ≤ n := by omega
    have hms : m ≤ s.size := by omega
    replace hm := Lib.hid hm
    go_loopw [9, 10] (fun v i wr => ∃ (k : Nat) (l : List Ent) (st2 : Rd), k ≤ m ∧ i = .int .i64 (k : Int) ∧ l.length = k ∧ rds entK.read k st1 = (l, st2) ∧ (∀ x ∈ l, entBig x) ∧
      wr.ownsRow W2.heap.size 65 2 v l.length (l.flatMap entC) ∧ IsRd wr (w.heap.size + 1) st2 ∧ W2.grownBy wr (some (w.heap.size + 1))) (fun _ i _ => m - (intOf i).toNat)
    case atStart => exact ⟨0, [], st1, Nat.zero_le _, rfl, rfl, rfl, by simp, World.ownsRow_nil _ _ _ _, hr2.out, Only.refl _ _⟩
    case round =>
      obtain ⟨k, l, st2, hk, rfl, hll, hrds, hbig, hown, hr, hg⟩ := hrel
      have hLr := hL2.out.grown hg (fun e => by injection e; omega)
      have qr := q2.out.grown hg (fun e => by injection e; omega)
      have cf0 := qr.cell 0
      have cf1 := qr.cell 1
      have cf2 := qr.cell 2
      have hbl := hr.lt
      have hsg := hg.size
      have hob := Lib.hid (show ∀ j, u9.ownBlock = some j → W2.heap.size ≤ j ∧ j < wr.heap.size from hown.lt)
      replace hbig := Lib.hid hbig
      replace hrds := Lib.hid hrds
      replace hll := Lib.hid hll
      clear qr
      by_cases hlt : k < m
      · have hkn : (k : Int) < (n : Int) := by omega
        have hks : (k : Int) < (s.size : Int) := by omega
        have k1 := Lib.hid (ent_read (w.heap.size + 1) st2 wr hr hLr hbn)
        have hst := Lib.hid (rds_step entK.read hrds.out)
        have hxb := Lib.hid (ent_big st2)
        generalize (entK.read st2).1 = x at k1 hst hxb
        generalize (entK.read st2).2 = st3 at k1 hst
        clear hr hLr
        replace hown := Lib.hid hown
        go_wp2_with fail
        refine k1.out.mono ?_
        rintro e w3 ⟨rfl, hr3, g3⟩
        have hs3 := g3.size
        have hown3 := hown.out.kept g3 (Or.inr (fun e => by have := (hob.out _ e).1; omega))
        replace hr3 := Lib.hid hr3
        clear hown
        unfold entV
        go_wp2_with (first
          | (at_builtin; refine wpList_append_own _ rfl (.tmp 33) (.tmp 38) _ rfl W2.heap.size 65 i0 (entV entK.zero) 2 24 Tryz.underlying35 hi hz0 hz1 hz2' rfl (by decide) u9 l.length _ rfl (hown3.alloc _) ⟨w3.heap.size, 0, none⟩ 1 1 (entC x) rfl rfl (cells_new _ _ _) (one_ent x) (by rw [hll.out]; unfold maxLen; omega) (by rw [hll.out]; omega) (by simp; omega) ?_))
        intro v4 w4 hown4 hg4 _
        have hg4' : W2.grownBy w4 (some (w.heap.size + 1)) := Only.own (Only.alloc (Only.trans hg g3) _) hg4 (fun j e => (hob.out j e).1)
        have hr4 : IsRd w4 (w.heap.size + 1) st3 := (hr3.out.below ((Below.refl w3.heap.size w3).alloc (Nat.le_refl _) _) hr3.out.lt).grown hg4 (fun e => by have := (hob.out _ e.symm).1; omega)
        replace hg4' := Lib.hid hg4'
        replace hr4 := Lib.hid hr4
        replace hown4 := Lib.hid hown4
        clear hg4 hown3 g3
        go_wp2_with fail
        go_roundw
        case rel =>
          refine ⟨k + 1, l ++ [x], st3, by omega, by go_num, by rw [List.length_append, hll.out]; rfl, hst.out, ?_, ?_, hr4.out, hg4'.out⟩
          · intro y hy
            rcases List.mem_append.1 hy with hy | hy
            · exact hbig.out y hy
            · rw [List.mem_singleton.1 hy]; exact hxb.out
          · rw [List.length_append, List.flatMap_append, List.flatMap_singleton]
            exact hown4.out
        case measure => simp [intOf]; omega
      · obtain rfl : k = m := by omega
        have hpe := hpi.out k (l, st2) trivial (by rw [← hsl.out, hm.out]; rfl) hrds.out
        simp only at hpe
        obtain ⟨A, c, rfl⟩ := own_slc hown
        obtain ⟨ee, hee⟩ : ∃ ee, rdEnd st2 = ee := ⟨_, rfl⟩
        have ke : Hid (Calls Tryz.prog 54 #[.pointer (some ⟨w.heap.size + 1, 0, none⟩)] wr fun e w' => e = .returned (.int .i64 ee) ∧ Below wr.heap.size wr w') := Lib.hid ((end_any (w.heap.size + 1) st2 wr hr hLr).mono (fun e w' ⟨h1, _, h3⟩ => ⟨by rw [h1, hee], h3⟩))
        rw [hee] at hpe
        replace hee := Lib.hid hee
        replace hpe := Lib.hid hpe
        have hl4 : l.length ≤ 4096 := by rw [hll.out]; omega
        have hb5 : Below w.heap.size w wr := hb2.out.trans (Only.toBelow hg (by omega) hz2.out)
        replace hown := Lib.hid hown
        replace hb5 := Lib.hid hb5
        have kl := fun W (hrow : Row W A (l.length * 2) (l.flatMap entC)) => ent_lays A l.length c l W hrow rfl hbig.out (by omega)
        clear hr hLr hg
        have hstop : ¬ ((k : Int) < (n : Int)) ∨ ((k : Int) < (n : Int) ∧ ¬ ((k : Int) < (s.size : Int))) := by have := hm.out; omega
        have hpf : w.heap.size < wr.heap.size := by omega
        rcases hstop with h1 | ⟨h1, h2⟩
        all_goals
          by_cases he2 : ee = 0
          · subst he2
            replace kl := Lib.hid kl
            go_wp2_with fail
            refine ke.out.mono ?_
            rintro e W5 ⟨rfl, b5⟩
            have hrow := Lib.hid ((row_of_own hown.out).below b5)
            have hown5 := Lib.hid (hown.out.kept (row := none) (Only.of_below b5 none) (by cases Value.ownBlock _ <;> simp))
            replace hb5 := Lib.hid (hb5.out.trans (b5.mono (by omega)))
            have hz5 := Lib.hid (show w.heap.size ≤ W5.heap.size by have := b5.size; omega)
            have df0 := (b5.cell (p := ⟨w.heap.size, 0, none⟩) hpf).trans cf0
            have df1 := (b5.cell (p := ⟨w.heap.size, 1, none⟩) hpf).trans cf1
            have df2 := (b5.cell (p := ⟨w.heap.size, 2, none⟩) hpf).trans cf2
            clear b5 cf0 cf1 cf2
            replace kl := kl.out
            generalize hlv : lays entK l = lv at kl
            cases lv with
            | none =>
              unfold laysV at kl
              replace kl := Lib.hid kl
              go_wp2_with fail
              refine (kl.out _ hrow.out).mono ?_
              rintro e W6 ⟨rfl, hb6⟩
              replace hb5 := Lib.hid (hb5.out.trans (hb6.mono hz5.out))
              clear hb6
              replace hlv := Lib.hid hlv
              go_wp2_with fail
              go_ret2
              exact ParsePost.none_ (by rw [hpe.out, if_pos trivial, hlv.out, if_neg (fun h => by cases h)]) hb5.out
            | some bs =>
              unfold laysV at kl
              obtain ⟨T, hT⟩ : ∃ T : ByteArray, T = ⟨bs.toArray⟩ := ⟨_, rfl⟩
              simp only at kl
              rw [← hT] at kl
              by_cases hTs : T = s
              · subst hTs
                replace kl := Lib.hid kl
                replace hT := Lib.hid hT
                replace hlv := Lib.hid hlv
                go_wp2_with fail
                refine (kl.out _ hrow.out).mono ?_
                rintro e W6 ⟨rfl, hb6⟩
                replace hown5 := Lib.hid (hown5.out.kept (row := none) (Only.of_below hb6 none) (by cases Value.ownBlock _ <;> simp))
                replace hb5 := Lib.hid (hb5.out.trans (hb6.mono hz5.out))
                clear hb6
                go_wp2_with fail
                go_ret2
                have e1 : parseS entK T.data.toList = some l := by rw [hpe.out, if_pos trivial, hlv.out, if_pos (by rw [hT.out])]
                refine ⟨A, l.length, c, ?_, ?_, ?_, hb5.out⟩
                · rw [e1]; rfl
                · rw [e1]; exact own_less hown5.out hz2.out
                · rw [e1]; rfl
              · have hT1 : ¬ T.toList = s.toList := fun h => hTs (by rw [ByteArray.ext_iff, ← Array.toList_inj]; simpa [Lib.toList_data] using h)
                have hT2 : (T.toList == s.toList) = false := by simpa using hT1
                replace kl := Lib.hid kl
                replace hT := Lib.hid hT
                replace hTs := Lib.hid hTs
                replace hlv := Lib.hid hlv
                go_wp2_with fail
                refine (kl.out _ hrow.out).mono ?_
                rintro e W6 ⟨rfl, hb6⟩
                replace hb5 := Lib.hid (hb5.out.trans (hb6.mono hz5.out))
                clear hb6
                go_wp2_with fail
                go_ret2
                refine ParsePost.none_ ?_ hb5.out
                rw [hpe.out, if_pos trivial, hlv.out, if_neg (fun h => hTs.out (by injection h with h; rw [hT.out, h]))]
          · have hne : (ee != 0) = true := by simpa using he2
            replace he2 := Lib.hid he2
            replace kl := Lib.hid kl
            go_wp2_with fail
            refine ke.out.mono ?_
            rintro e W5 ⟨rfl, b5⟩
            replace hb5 := Lib.hid (hb5.out.trans (b5.mono (by omega)))
            clear b5
            go_wp2_with fail
            go_ret2
            exact ParsePost.none_ (by rw [hpe.out, if_neg he2.out]) hb5.out
  · have hne : (en != 0) = true := by simpa using he
    replace he := Lib.hid he
    clear hz hnz hla hpi
    go_wp2_with fail
    refine hcall.out.mono ?_
    rintro e W2 ⟨rfl, hr2, g2⟩
    have hb2 : Below w.heap.size w W2 := (hb0.out.trans (hb1.out.mono (by rw [hzw.out]; omega))).trans (Only.toBelow g2 (by omega) (by omega))
    replace hb2 := Lib.hid hb2
    clear hr2 g2
    go_wp2_with fail
    go_ret2
    exact ParsePost.none_ (hpb.out he.out) hb2.out

set_option maxRecDepth 100000 in
set_option maxHeartbeats 8000000 in
theorem snp_parse (s : ByteArray) (w : World) (hL : Laid w) (hs : s.size ≤ 9223372036854775807) :
    Calls Tryz.prog 38 #[formV 61 62 63, .string s] w (ParsePost w 67 5 snpC (parseS snpK s.data.toList)) := by
  obtain ⟨i0, hi, hz0, hz1, hz2'⟩ := info_parts info_Snap
  have hsl := Lib.size_eq s
  have hpos := hL.pos
  have q := Blk.new w 84 #[.func (.func 61) #[] #[], .func (.func 62) #[] #[], .func (.func 63) #[] #[]]
  have hb0 : Below w.heap.size w (w.alloc (.cells #[.func (.func 61) #[] #[], .func (.func 62) #[] #[], .func (.func 63) #[] #[]] 84)) := (Below.refl _ _).alloc (Nat.le_refl _) _
  have hzw : (w.alloc (.cells #[.func (.func 61) #[] #[], .func (.func 62) #[] #[], .func (.func 63) #[] #[]] 84)).heap.size = w.heap.size + 1 := by simp
  have hL0 := hL.below hb0 hpos
  unfold formV
  replace hb0 := Lib.hid hb0
  replace hzw := Lib.hid hzw
  replace hsl := Lib.hid hsl
  go_enter Tryz.func38, Tryz.ntmps38
  go_wp2_with fail
  generalize (w.alloc (.cells #[.func (.func 61) #[] #[], .func (.func 62) #[] #[], .func (.func 63) #[] #[]] 84)) = W0 at q hb0 hzw hL0 ⊢
  refine (new_any s W0).mono ?_
  rintro e W1 ⟨rfl, rfl⟩
  rw [hzw.out]
  have hr1 := IsRd.new W0 s (by omega)
  have hb1 : Below W0.heap.size W0 (W0.alloc (.cells #[.string s, .nilIface] 109)) := (Below.refl _ _).alloc (Nat.le_refl _) _
  have hL1 := hL0.below hb1 (by rw [hzw.out]; omega)
  rw [hzw.out] at hr1
  generalize W0.alloc (.cells #[.string s, .nilIface] 109) = W1 at hr1 hb1 hL1 ⊢
  have hrb := hr1.lt
  have hbn : w.heap.size + 1 ≠ 0 := by omega
  have hcall := Lib.hid (rd_any (w.heap.size + 1) _ 4096 W1 hr1 hL1)
  obtain ⟨hla, hz, hnz⟩ := rdNum_latch 4096 (s.data.toList, 0)
  have hpb := Lib.hid (fun h => parse_bad (K := snpK) (s := s.data.toList) h)
  have hpi := Lib.hid (fun m p h hm hp => parse_is (K := snpK) (s := s.data.toList) (m := m) (p := p) h hm hp)
  obtain ⟨⟨⟨nI, en⟩, st1⟩, hrd⟩ : ∃ r, rdNum 4096 (s.data.toList, 0) = r := ⟨_, rfl⟩
  rw [hrd] at hla hz hnz hpb hpi hcall
  simp only at hla hz hnz hpb hpi
  replace hrd := Lib.hid hrd
  replace hL1 := Lib.hid hL1
  replace hb1 := Lib.hid hb1
  replace hr1 := Lib.hid hr1
  replace q := Lib.hid q
  by_cases he : en = 0
  · obtain ⟨hn0, hn1, _⟩ := hz he
    subst he
    obtain ⟨n, rfl⟩ := Int.eq_ofNat_of_zero_le hn0
    replace hla := Lib.hid hla
    clear hz hnz hpb hL0
    go_wp2_with fail
    refine hcall.out.mono ?_
    rintro e W2 ⟨rfl, hr2, g2⟩
    have q2 := (q.out.below hb1.out q.out.lt).grown g2 (fun e => by injection e; omega)
    have hL2 := hL1.out.grown g2 (fun e => by injection e; omega)
    have hb2 : Below w.heap.size w W2 := (hb0.out.trans (hb1.out.mono (by rw [hzw.out]; omega))).trans (Only.toBelow g2 (by omega) (by omega))
    have hB2 : w.heap.size + 1 < W2.heap.size := hr2.lt
    clear g2 hcall hr1 hb1 hb0 hL1 q
    replace q2 := Lib.hid q2
    replace hL2 := Lib.hid hL2
    have hz2 := Lib.hid (show w.heap.size ≤ W2.heap.size by omega)
    replace hb2 := Lib.hid hb2
    replace hr2 := Lib.hid hr2
    go_wp2_with fail
    obtain ⟨m, hm⟩ : ∃ m, m = min n s.size := ⟨_, rfl⟩
    have hmn : m ≤ n := by omega
    have hms : m ≤ s.size := by omega
    replace hm := Lib.hid hm
    go_loopw [9, 10] (fun v i wr => ∃ (k : Nat) (l : List Snp) (st2 : Rd), k ≤ m ∧ i = .int .i64 (k : Int) ∧ l.length = k ∧ rds snpK.read k st1 = (l, st2) ∧ (∀ x ∈ l, snpBig x) ∧
      wr.ownsRow W2.heap.size 67 5 v l.length (l.flatMap snpC) ∧ IsRd wr (w.heap.size + 1) st2 ∧ W2.grownBy wr (some (w.heap.size + 1))) (fun _ i _ => m - (intOf i).toNat)
    case atStart => exact ⟨0, [], st1, Nat.zero_le _, rfl, rfl, rfl, by simp, World.ownsRow_nil _ _ _ _, hr2.out, Only.refl _ _⟩
    case round =>
      obtain ⟨k, l, st2, hk, rfl, hll, hrds, hbig, hown, hr, hg⟩ := hrel
      have hLr := hL2.out.grown hg (fun e => by injection e; omega)
      have qr := q2.out.grown hg (fun e => by injection e; omega)
      have cf0 := qr.cell 0
      have cf1 := qr.cell 1
      have cf2 := qr.cell 2
      have hbl := hr.lt
      have hsg := hg.size
      have hob := Lib.hid (show ∀ j, u9.ownBlock = some j → W2.heap.size ≤ j ∧ j < wr.heap.size from hown.lt)
      replace hbig := Lib.hid hbig
      replace hrds := Lib.hid hrds
      replace hll := Lib.hid hll
      clear qr
      by_cases hlt : k < m
      · have hkn : (k : Int) < (n : Int) := by omega
        have hks : (k : Int) < (s.size : Int) := by omega
        have k1 := Lib.hid (snp_read (w.heap.size + 1) st2 wr hr hLr hbn)
        have hst := Lib.hid (rds_step snpK.read hrds.out)
        have hxb := Lib.hid (snp_big st2)
        generalize (snpK.read st2).1 = x at k1 hst hxb
        generalize (snpK.read st2).2 = st3 at k1 hst
        clear hr hLr
        replace hown := Lib.hid hown
        go_wp2_with fail
        refine k1.out.mono ?_
        rintro e w3 ⟨rfl, hr3, g3⟩
        have hs3 := g3.size
        have hown3 := hown.out.kept g3 (Or.inr (fun e => by have := (hob.out _ e).1; omega))
        replace hr3 := Lib.hid hr3
        clear hown
        unfold snpV
        go_wp2_with (first
          | (at_builtin; refine wpList_append_own _ rfl (.tmp 33) (.tmp 38) _ rfl W2.heap.size 67 i0 (snpV snpK.zero) 5 48 Tryz.underlying41 hi hz0 hz1 hz2' rfl (by decide) u9 l.length _ rfl (hown3.alloc _) ⟨w3.heap.size, 0, none⟩ 1 1 (snpC x) rfl rfl (cells_new _ _ _) (one_snp x) (by rw [hll.out]; unfold maxLen; omega) (by rw [hll.out]; omega) (by simp; omega) ?_))
        intro v4 w4 hown4 hg4 _
        have hg4' : W2.grownBy w4 (some (w.heap.size + 1)) := Only.own (Only.alloc (Only.trans hg g3) _) hg4 (fun j e => (hob.out j e).1)
        have hr4 : IsRd w4 (w.heap.size + 1) st3 := (hr3.out.below ((Below.refl w3.heap.size w3).alloc (Nat.le_refl _) _) hr3.out.lt).grown hg4 (fun e => by have := (hob.out _ e.symm).1; omega)
        replace hg4' := Lib.hid hg4'
        replace hr4 := Lib.hid hr4
        replace hown4 := Lib.hid hown4
        clear hg4 hown3 g3
        go_wp2_with fail
        go_roundw
        case rel =>
          refine ⟨k + 1, l ++ [x], st3, by omega, by go_num, by rw [List.length_append, hll.out]; rfl, hst.out, ?_, ?_, hr4.out, hg4'.out⟩
          · intro y hy
            rcases List.mem_append.1 hy with hy | hy
            · exact hbig.out y hy
            · rw [List.mem_singleton.1 hy]; exact hxb.out
          · rw [List.length_append, List.flatMap_append, List.flatMap_singleton]
            exact hown4.out
        case measure => simp [intOf]; omega
      · obtain rfl : k = m := by omega
        have hpe := hpi.out k (l, st2) trivial (by rw [← hsl.out, hm.out]; rfl) hrds.out
        simp only at hpe
        obtain ⟨A, c, rfl⟩ := own_slc hown
        obtain ⟨ee, hee⟩ : ∃ ee, rdEnd st2 = ee := ⟨_, rfl⟩
        have ke : Hid (Calls Tryz.prog 54 #[.pointer (some ⟨w.heap.size + 1, 0, none⟩)] wr fun e w' => e = .returned (.int .i64 ee) ∧ Below wr.heap.size wr w') := Lib.hid ((end_any (w.heap.size + 1) st2 wr hr hLr).mono (fun e w' ⟨h1, _, h3⟩ => ⟨by rw [h1, hee], h3⟩))
        rw [hee] at hpe
        replace hee := Lib.hid hee
        replace hpe := Lib.hid hpe
        have hl4 : l.length ≤ 4096 := by rw [hll.out]; omega
        have hb5 : Below w.heap.size w wr := hb2.out.trans (Only.toBelow hg (by omega) hz2.out)
        replace hown := Lib.hid hown
        replace hb5 := Lib.hid hb5
        have kl := fun W (hrow : Row W A (l.length * 5) (l.flatMap snpC)) => snp_lays A l.length c l W hrow rfl hbig.out (by omega)
        clear hr hLr hg
        have hstop : ¬ ((k : Int) < (n : Int)) ∨ ((k : Int) < (n : Int) ∧ ¬ ((k : Int) < (s.size : Int))) := by have := hm.out; omega
        have hpf : w.heap.size < wr.heap.size := by omega
        rcases hstop with h1 | ⟨h1, h2⟩
        all_goals
          by_cases he2 : ee = 0
          · subst he2
            replace kl := Lib.hid kl
            go_wp2_with fail
            refine ke.out.mono ?_
            rintro e W5 ⟨rfl, b5⟩
            have hrow := Lib.hid ((row_of_own hown.out).below b5)
            have hown5 := Lib.hid (hown.out.kept (row := none) (Only.of_below b5 none) (by cases Value.ownBlock _ <;> simp))
            replace hb5 := Lib.hid (hb5.out.trans (b5.mono (by omega)))
            have hz5 := Lib.hid (show w.heap.size ≤ W5.heap.size by have := b5.size; omega)
            have df0 := (b5.cell (p := ⟨w.heap.size, 0, none⟩) hpf).trans cf0
            have df1 := (b5.cell (p := ⟨w.heap.size, 1, none⟩) hpf).trans cf1
            have df2 := (b5.cell (p := ⟨w.heap.size, 2, none⟩) hpf).trans cf2
            clear b5 cf0 cf1 cf2
            replace kl := kl.out
            generalize hlv : lays snpK l = lv at kl
            cases lv with
            | none =>
              unfold laysV at kl
              replace kl := Lib.hid kl
              go_wp2_with fail
              refine (kl.out _ hrow.out).mono ?_
              rintro e W6 ⟨rfl, hb6⟩
              replace hb5 := Lib.hid (hb5.out.trans (hb6.mono hz5.out))
              clear hb6
              replace hlv := Lib.hid hlv
              go_wp2_with fail
              go_ret2
              exact ParsePost.none_ (by rw [hpe.out, if_pos trivial, hlv.out, if_neg (fun h => by cases h)]) hb5.out
            | some bs =>
              unfold laysV at kl
              obtain ⟨T, hT⟩ : ∃ T : ByteArray, T = ⟨bs.toArray⟩ := ⟨_, rfl⟩
              simp only at kl
              rw [← hT] at kl
              by_cases hTs : T = s
              · subst hTs
                replace kl := Lib.hid kl
                replace hT := Lib.hid hT
                replace hlv := Lib.hid hlv
                go_wp2_with fail
                refine (kl.out _ hrow.out).mono ?_
                rintro e W6 ⟨rfl, hb6⟩
                replace hown5 := Lib.hid (hown5.out.kept (row := none) (Only.of_below hb6 none) (by cases Value.ownBlock _ <;> simp))
                replace hb5 := Lib.hid (hb5.out.trans (hb6.mono hz5.out))
                clear hb6
                go_wp2_with fail
                go_ret2
                have e1 : parseS snpK T.data.toList = some l := by rw [hpe.out, if_pos trivial, hlv.out, if_pos (by rw [hT.out])]
                refine ⟨A, l.length, c, ?_, ?_, ?_, hb5.out⟩
                · rw [e1]; rfl
                · rw [e1]; exact own_less hown5.out hz2.out
                · rw [e1]; rfl
              · have hT1 : ¬ T.toList = s.toList := fun h => hTs (by rw [ByteArray.ext_iff, ← Array.toList_inj]; simpa [Lib.toList_data] using h)
                have hT2 : (T.toList == s.toList) = false := by simpa using hT1
                replace kl := Lib.hid kl
                replace hT := Lib.hid hT
                replace hTs := Lib.hid hTs
                replace hlv := Lib.hid hlv
                go_wp2_with fail
                refine (kl.out _ hrow.out).mono ?_
                rintro e W6 ⟨rfl, hb6⟩
                replace hb5 := Lib.hid (hb5.out.trans (hb6.mono hz5.out))
                clear hb6
                go_wp2_with fail
                go_ret2
                refine ParsePost.none_ ?_ hb5.out
                rw [hpe.out, if_pos trivial, hlv.out, if_neg (fun h => hTs.out (by injection h with h; rw [hT.out, h]))]
          · have hne : (ee != 0) = true := by simpa using he2
            replace he2 := Lib.hid he2
            replace kl := Lib.hid kl
            go_wp2_with fail
            refine ke.out.mono ?_
            rintro e W5 ⟨rfl, b5⟩
            replace hb5 := Lib.hid (hb5.out.trans (b5.mono (by omega)))
            clear b5
            go_wp2_with fail
            go_ret2
            exact ParsePost.none_ (by rw [hpe.out, if_neg he2.out]) hb5.out
  · have hne : (en != 0) = true := by simpa using he
    replace he := Lib.hid he
    clear hz hnz hla hpi
    go_wp2_with fail
    refine hcall.out.mono ?_
    rintro e W2 ⟨rfl, hr2, g2⟩
    have hb2 : Below w.heap.size w W2 := (hb0.out.trans (hb1.out.mono (by rw [hzw.out]; omega))).trans (Only.toBelow g2 (by omega) (by omega))
    replace hb2 := Lib.hid hb2
    clear hr2 g2
    go_wp2_with fail
    go_ret2
    exact ParsePost.none_ (hpb.out he.out) hb2.out
end Go.Proofs.YtaihpnmojiagnaaGreatDoor.Table

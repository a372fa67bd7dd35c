/- DiskCrashes: the walk. -/
import Derived.Test.YtpcnpjpbicbjeaaDiskReadsW
import Derived.Test.YtpcnpjpbicbjeaaDiskWalkL
import Derived.Test.YtpcnpjpbicbjeaaDiskPlainC
import Derived.Deep.QuietTactic
import Derived.BigQuiet
namespace Go.Proofs.Ytpcnpjpbicbjeaa.Disk
open Go Go.RowKit Go.Maps Mem Door
/-- a disk in memory, all that holds of it -/
structure Own (F : Nat → Prop) (w : World) (b : Nat) (d : Dk) : Prop where
  dk : IsDk F w b d
  fit : Fit d
section
variable {F G X : Nat → Prop} {m N : Nat} {w w' : World} {b : Nat} {d : Dk} {cur : Nat → ByteArray} {bad : Nat → Bool}
theorem Own.keep (h : Own F w b d) (hk : Keeps G w w') (hn : ∀ i, F i → ¬ G i) : Own F w' b d := ⟨h.dk.keeps hk hn, h.fit⟩
theorem Own.below (h : Own F w b d) (hb : Below w.heap.size w w') : Own F w' b d := ⟨h.dk.below hb, h.fit⟩
theorem Own.lt (h : Own F w b d) : ∀ i, F i → i < w.heap.size := by
  obtain ⟨_, _, _, _, _, hc⟩ := h.dk.core
  exact hc.2.2.2.2.2.2.2.2
theorem oclone (h : Own F w b d) : Calls Try.prog 26 #[.pointer (some ⟨b, 0, none⟩)] w fun e w' =>
    ∃ F2 b2, e = .returned (.pointer (some ⟨b2, 0, none⟩)) ∧ Own F2 w' b2 d ∧ Own F w' b d ∧ (∀ i, F2 i → w.heap.size ≤ i) ∧ Below w.heap.size w w' :=
  (clone_any h.dk h.fit).mono fun _ _ ⟨F2, b2, h1, h2, h3, h4⟩ => ⟨F2, b2, h1, ⟨h2, h.fit⟩, h.below h4, h3, h4⟩
theorem ocrash (h : Own F w b d) (hs : St d N cur bad) (keep : ByteArray) :
    Calls Try.prog 18 #[.pointer (some ⟨b, 0, none⟩), .string keep] w fun e w' => e = .returned (.int .i64 0) ∧ Own F w' b (goesD d keep) ∧ Keeps F w w' := by
  have c := crash_any h.dk h.fit keep
  rw [hs.crash keep] at c
  exact c.mono fun e w' ⟨h1, h2, h3⟩ => ⟨h1, ⟨h2, h.fit.goes keep⟩, h3⟩
theorem oimage (h : Own F w b d) {I : ByteArray} (hI : img d = I) : Calls Try.prog 17 #[.pointer (some ⟨b, 0, none⟩)] w fun e w' => e = .returned (.string I) ∧ Below w.heap.size w w' := by
  refine (image_any h.dk h.fit).mono ?_
  rintro e w' ⟨rfl, hb⟩
  exact ⟨by rw [← hI]; rfl, hb⟩
theorem bytes_inj {a b : ByteArray} (h : a.toList = b.toList) : a = b := by
  rw [Lib.toList_data, Lib.toList_data] at h
  exact ByteArray.ext (Array.toList_inj.1 h)
theorem conv5 (w : World) : (convert 44 9 (.slice (some ⟨w.heap.size, 0, none⟩) 5 5)).run Try.prog (w.alloc (.cells #[.int .u8 255, .int .u8 255, .int .u8 255, .int .u8 255, .int .u8 255] 5)) = .ok (.string all5) (w.alloc (.cells #[.int .u8 255, .int .u8 255, .int .u8 255, .int .u8 255, .int .u8 255] 5)) :=
  run_convert_bytes_back (P := Try.prog) (w.alloc (.cells #[.int .u8 255, .int .u8 255, .int .u8 255, .int .u8 255, .int .u8 255] 5)) 44 9 5 ⟨w.heap.size, 0, none⟩ 5 [255, 255, 255, 255, 255] Try.underlying44 Try.underlying5 Try.underlying9 (fun j hj => by
    rw [add_lit, Nat.zero_add, Blk.cell (Blk.new w 5 #[.int .u8 255, .int .u8 255, .int .u8 255, .int .u8 255, .int .u8 255])]
    match j, hj with
    | 0, _ => rfl
    | 1, _ => rfl
    | 2, _ => rfl
    | 3, _ => rfl
    | 4, _ => rfl
    | j + 5, h => simp at h; omega)
def AllPost (X : Nat → Prop) (m : Nat) (N : Nat) (b : Nat) (w : World) (e : Ending) (w' : World) : Prop :=
  ∃ (r : Int) (d' : Dk) (cur' : Nat → ByteArray), e = .returned (.int .i64 r) ∧ Hd X (m + 1) w' b d' ∧ KeepX X w w' ∧ St d' N cur' (fun _ => false)
theorem swrite_all (h : Hd X m w b d) (hs : St d N cur (fun _ => false)) (hm : m ≤ 4611686018427387904) (n : Int) (s : ByteArray) :
    Calls Try.prog 12 #[.pointer (some ⟨b, 0, none⟩), .int .i64 n, .string s] w (AllPost X m N b w) := by
  obtain ⟨cur', h2⟩ := hs.write_all n s
  exact (hwrite h hm n s).mono fun e w' ⟨h3, h4, h5⟩ => ⟨_, _, cur', h3, h4, h5, h2⟩
end
set_option maxRecDepth 100000 in
set_option maxHeartbeats 8000000 in
theorem crashes_any (sec : Int) (A : Option Addr) (n c : Nat) (keep : ByteArray) (w : World) (hops : Ops6 (fun _ => True) w A n) :
    Calls Try.prog 7 #[.int .i64 sec, .slice A n c, .string keep] w fun e w' => e = .returned (.bool true) ∧ Below w.heap.size w w' := by
  obtain ⟨hN1, hN2⟩ := clampN_le sec
  have hmm := clampN_int sec
  generalize clampN sec = N at hN1 hN2 hmm
  have n2 := Lib.hid (hnew w N hN1 (by omega))
  replace hops := Lib.hid hops
  go_enter Try.func7, Try.ntmps7
  go_wp2_with fail
  refine (n2.out).mono ?_
  rintro e w1 ⟨b, rfl, h, hb⟩
  have hs := hb.size
  clear n2 hmm
  go_wp2_with fail
  go_loopw [10] (fun t wr => ∃ (q m : Nat) (d : Dk) (cur : Nat → ByteArray), q ≤ n ∧ q ≤ 200 ∧ m ≤ q ∧ t = .int .i64 (q : Int) ∧ Hd (fun i => i < w.heap.size) m wr b d ∧ St d N cur (fun _ => false) ∧ Below w.heap.size w wr) (fun t _ => n - (intOf t).toNat)
  case atStart => exact ⟨0, 0, _, _, Nat.zero_le _, Nat.zero_le _, Nat.le_refl _, rfl, h, St.new N, hb⟩
  case round =>
    clear h hb hs
    obtain ⟨q, m, d, cur, hq, hq2, hm, rfl, h, st, hb⟩ := hrel
    have hs := hb.size
    by_cases hgo : q < n ∧ q < 200
    · obtain ⟨hlt1, hlt2⟩ := hgo
      obtain ⟨ad, x, y, cc, z, s, bb, rfl, _, _, hat⟩ := hops.out.at_ hlt1
      obtain ⟨m0, m1, m2, m3, m4, m5⟩ := hat _ hb
      have z1 : (0 : Int) ≤ (q : Int) := by omega
      have z2 : (q : Int) < (n : Int) := by omega
      have d200 : decide ((q : Int) < 200) = true := decide_eq_true (by omega)
      go_upto_region 9 with fail
      obtain ⟨P, hP⟩ : ∃ P, P = wr.heap.size := ⟨_, rfl⟩
      obtain ⟨W, hW⟩ : ∃ W, W = wr.alloc (.cells #[.int .i64 x, .int .i64 y, .int .u8 (cc.toNat : Int), .int .i64 z, .string s, .bool bb] 30) := ⟨_, rfl⟩
      have hWb : Below wr.heap.size wr W := by rw [hW]; exact (Below.refl _ wr).alloc (Nat.le_refl _) _
      have hB : Blk W P 30 #[.int .i64 x, .int .i64 y, .int .u8 (cc.toNat : Int), .int .i64 z, .string s, .bool bb] := by rw [hW, hP]; exact Blk.new wr _ _
      rw [← hW, ← hP]
      have hPw : w.heap.size ≤ P := by rw [hP]; exact hs
      replace h := h.also (Y := fun i => i < w.heap.size ∨ i = P) hWb (fun i hi => by
        have := hB.lt
        rcases hi with h | h
        · exact Or.inl h
        · exact Or.inr (by omega))
      replace hb := hb.trans (hWb.mono hs)
      replace hs := hb.size
      clear hW hP hWb m0 m1 m2 m3 m4 m5 hat d200 z1 z2
      have c0 := hB.cell 0
      by_cases hx1 : x = 1
      · subst hx1
        go_upto_region 11 with fail
        replace h := h.below (drewB W)
        replace hB := hB.below (drewB W) hB.lt
        replace hb := hb.drew
        replace hs := hb.size
        have c1 : W.drew.cell? ⟨P, 1, none⟩ = some (.int .i64 y) := hB.cell 1
        have c2 : W.drew.cell? ⟨P, 2, none⟩ = some (.int .u8 (cc.toNat : Int)) := hB.cell 2
        have c3 : W.drew.cell? ⟨P, 3, none⟩ = some (.int .i64 z) := hB.cell 3
        clear c0
        replace h := Lib.hid h
        replace st := Lib.hid st
        replace hb := Lib.hid hb
        replace hB := Lib.hid hB
        go_region_held3 (fun w' => w'.cell? ⟨P, 1, none⟩ = some (.int .i64 y) ∧ w'.cell? ⟨P, 2, none⟩ = some (.int .u8 (cc.toNat : Int)) ∧ w'.cell? ⟨P, 3, none⟩ = some (.int .i64 z))
          (first
            | exact ⟨c1, c2, c3⟩
            | exact ⟨n1, n2, n3⟩
            | exact ⟨o1, o2, o3⟩
            | go_keep)
          (first
            | (go_at_call 10; refine (sector_any cc z _).mono ?_; rintro e w1 ⟨rfl, b1⟩; have hB1 := Lib.hid (hB.out.below b1 hB.out.lt); obtain ⟨n1, n2, n3⟩ := And.intro (hB1.out.cell 1) (And.intro (hB1.out.cell 2) (hB1.out.cell 3)))
            | (go_at_call 12; refine (swrite_all (h.out.below b1) st.out (by omega) y _).mono ?_; rintro e w2 ⟨r, d2, cur2, rfl, h2, k', st2⟩; have hB2 := Lib.hid (hB1.out.keeps k' (fun hh => hh (Or.inr rfl))); obtain ⟨o1, o2, o3⟩ := And.intro (hB2.out.cell 1) (And.intro (hB2.out.cell 2) (hB2.out.cell 3))))
        have hb1 := hb.out.trans (b1.mono hs)
        have hb2 := hb1.trans (k'.toBelow (fun i hi => Or.inl hi) hb1.size)
        clear h st hb hs c1 c2 c3 n1 n2 n3 o1 o2 o3 hB hB1 hB2 k' b1 hb1
        replace h2 := h2.mono (Y := fun i => i < w.heap.size) (fun i hi => Or.inl hi)
        go_wp2_with fail
        exact ⟨⟨q + 1, m + 1, d2, cur2, hlt1, hlt2, by omega, rfl, h2, st2, hb2⟩, by simp [intOf]; omega⟩
      · have hx1' : (x == 1) = false := by simpa using hx1
        clear hx1
        by_cases hx2 : x = 2
        · subst hx2
          go_wp2_with fail
          refine (ssync h st (by omega)).mono ?_
          rintro en w' ⟨rfl, d2, h2, k', st2, _, _⟩
          have hb2 := hb.trans (k'.toBelow (fun i hi => Or.inl hi) hs)
          replace h2 := h2.mono (Y := fun i => i < w.heap.size) (fun i hi => Or.inl hi)
          clear h st hb hs c0 hB k'
          go_wp2_with fail
          exact ⟨⟨q + 1, m + 1, d2, cur, hlt1, hlt2, by omega, rfl, h2, st2, hb2⟩, by simp [intOf]; omega⟩
        · have hx2' : (x == 2) = false := by simpa using hx2
          clear hx2
          replace h := h.mono (Y := fun i => i < w.heap.size) (fun i hi => Or.inl hi)
          go_wp2_with fail
          exact ⟨⟨q + 1, m, d, cur, hlt1, hlt2, by omega, rfl, h, st, hb⟩, by simp [intOf]; omega⟩
    · have hor : n ≤ q ∨ (q < n ∧ 200 ≤ q) := by omega
      clear hgo
      rcases hor with hge | ⟨hge, hge2⟩
      all_goals
        obtain ⟨I, hI⟩ : ∃ I, img d = I := ⟨_, rfl⟩
        replace hI := Lib.hid hI
        go_wp2_with fail
        refine (simage h hI.out).mono ?_
        rintro en w' ⟨rfl, b'⟩
        replace h := h.below b'
        replace hb := hb.trans (b'.mono hs)
        replace hs := hb.size
        clear b'
        have hsz := Lib.hid (fun k (hk : k < N) => st.cur_size h.fit hk)
        go_wp2_with fail
        go_loop [13, 14] (fun v t => ∃ k : Nat, k ≤ N ∧ t = .int .i64 (k : Int) ∧ v = .string (cat (curL k cur))) (fun _ t => N - (intOf t).toNat)
        case atStart => exact ⟨0, Nat.zero_le _, rfl, rfl⟩
        case round =>
          obtain ⟨k, hk, rfl, rfl⟩ := hrel
          by_cases hlt : k < N
          · obtain ⟨S, hS⟩ : ∃ S, cur k = S := ⟨_, rfl⟩
            have hSz : S.size ≤ 64 := by have := hsz.out k hlt; rw [hS] at this; omega
            have hcs : cat (curL (k + 1) cur) = cat (curL k cur) ++ S := by rw [curL_snoc, cat_snoc, hS]
            have hTz : (cat (curL k cur)).size ≤ 2560 := by
              rw [cat_size (fun s hs => by obtain ⟨i, hi, rfl⟩ := List.mem_map.1 hs; exact hsz.out i (by have := List.mem_range.1 hi; omega))]
              simp [curL]; omega
            have kr := sread h st k hlt rfl S hS
            generalize cat (curL k cur) = T at hcs hTz ⊢
            replace hS := Lib.hid hS
            replace hcs := Lib.hid hcs
            go_wp2_with fail
            refine (kr).mono ?_
            rintro en w' ⟨rfl, hw'⟩
            replace hw' := hw'.symm
            subst hw'
            go_wp2_with fail
            exact ⟨⟨k + 1, hlt, rfl, by rw [hcs.out]⟩, by simp [intOf]; omega⟩
          · obtain rfl : k = N := by omega
            obtain ⟨F, hdk, hF⟩ := h.own
            have hfit := h.fit
            have o1 : Own F w' b d := ⟨hdk, hfit⟩
            have hFB : ∀ i, F i → w.heap.size ≤ i := fun i hi => Nat.le_of_not_lt (hF i hi)
            have hFlt := o1.lt
            clear hdk hF h
            replace hFB := Lib.hid hFB
            replace hFlt := Lib.hid hFlt
            have hTz : (cat (curL k cur)).size = 64 * k := by rw [cat_size (st.curL_each hfit)]; simp [curL]
            have hIz : I.size = 64 * k := by rw [← hI.out, img_size hfit, st.len]
            obtain ⟨T, hT⟩ : ∃ T, cat (curL k cur) = T := ⟨_, rfl⟩
            have hTp := Lib.hid (fun j (hj : j < k) => cat_part (st.curL_each hfit) (curL_at hj))
            rw [hT] at hTz hTp ⊢
            replace hTz := Lib.hid hTz
            replace hIz := Lib.hid hIz
            replace hT := Lib.hid hT
            go_wp2_with fail
            refine (oclone o1).mono ?_
            rintro en w3 ⟨F2, b2, rfl, o2, o1', hF2, b3⟩
            have d12 := Lib.hid (fun i (h1 : F i) (h2 : F2 i) => by have := hFlt.out i h1; have := hF2 i h2; omega : ∀ i, F i → ¬ F2 i)
            have hF2B := Lib.hid (fun i (h2 : F2 i) => by have := hF2 i h2; omega : ∀ i, F2 i → w.heap.size ≤ i)
            have hF2lt := o2.lt
            replace hF2lt := Lib.hid hF2lt
            replace hb := hb.trans (b3.mono hs)
            replace hs := hb.size
            have hs3 := b3.size
            clear hF2 o1
            go_wp2_with fail
            refine (oclone o1').mono ?_
            rintro en w4 ⟨F3, b5, rfl, o3, o1, hF3, b4⟩
            have d13 := Lib.hid (fun i (h1 : F i) (h3 : F3 i) => by have := hFlt.out i h1; have := hF3 i h3; omega : ∀ i, F i → ¬ F3 i)
            have d23 := Lib.hid (fun i (h2 : F2 i) (h3 : F3 i) => by have := hF2lt.out i h2; have := hF3 i h3; omega : ∀ i, F2 i → ¬ F3 i)
            have hF3B := Lib.hid (fun i (h3 : F3 i) => by have := hF3 i h3; omega : ∀ i, F3 i → w.heap.size ≤ i)
            replace o2 := o2.below b4
            replace hb := hb.trans (b4.mono hs)
            replace hs := hb.size
            clear hF3 o1' b3 b4 hs3
            go_wp2_with fail
            refine (ocrash o1 st keep).mono ?_
            rintro en w5 ⟨rfl, c1, k5⟩
            replace o2 := o2.keep k5 (fun i h2 h1 => d12.out i h1 h2)
            replace o3 := o3.keep k5 (fun i h3 h1 => d13.out i h1 h3)
            replace hb := hb.trans (k5.toBelow hFB.out hs)
            replace hs := hb.size
            clear o1 k5
            go_wp2_with fail
            refine (ocrash o2 st ⟨#[]⟩).mono ?_
            rintro en w6 ⟨rfl, c2, k6⟩
            replace c1 := c1.keep k6 (fun i h1 h2 => d12.out i h1 h2)
            replace o3 := o3.keep k6 (fun i h3 h2 => d23.out i h2 h3)
            replace hb := hb.trans (k6.toBelow hF2B.out hs)
            replace hs := hb.size
            clear o2 k6
            have hcv := conv5 w6
            go_wp2_with fail
            clear hcv
            have b7 : Below w6.heap.size w6 (w6.alloc (.cells #[.int .u8 255, .int .u8 255, .int .u8 255, .int .u8 255, .int .u8 255] 5)) := (Below.refl _ w6).alloc (Nat.le_refl _) _
            generalize w6.alloc (.cells #[.int .u8 255, .int .u8 255, .int .u8 255, .int .u8 255, .int .u8 255] 5) = w7 at b7 ⊢
            replace c1 := c1.below b7
            replace c2 := c2.below b7
            replace o3 := o3.below b7
            replace hb := hb.trans (b7.mono hs)
            replace hs := hb.size
            clear b7
            refine (ocrash o3 st all5).mono ?_
            rintro en w8 ⟨rfl, c3, k8⟩
            replace c1 := c1.keep k8 (fun i h1 h3 => d13.out i h1 h3)
            replace c2 := c2.keep k8 (fun i h2 h3 => d23.out i h2 h3)
            replace hb := hb.trans (k8.toBelow hF3B.out hs)
            replace hs := hb.size
            clear o3 k8 d12 d13 d23 hFlt hF2lt
            obtain ⟨S, hS⟩ : ∃ S, img (goesD d keep) = S := ⟨_, rfl⟩
            have hSz : S.size = 64 * k := by rw [← hS, img_size (hfit.goes keep), goesD, applyK_length, st.len]
            have hpart := Lib.hid (fun j (hj : j < k) => st.crash_part hfit keep hj)
            rw [hS, hI.out] at hpart
            replace hS := Lib.hid hS
            have hI2 := Lib.hid (show img (goesD d ⟨#[]⟩) = I from crash_noneI.trans hI.out)
            have hT2 := Lib.hid (show img (goesD d all5) = T from (st.crash_allI hfit hN2).trans hT.out)
            have e1 : ((S.size : Int) != (I.size : Int)) = false := by rw [hSz, hIz.out]; simp
            have e2 : ((S.size : Int) != (T.size : Int)) = false := by rw [hSz, hTz.out]; simp
            replace hSz := Lib.hid hSz
            go_wp2_with fail
            refine (oimage c1 hS.out).mono ?_
            rintro en w9 ⟨rfl, b9⟩
            replace c2 := c2.below b9
            replace c3 := c3.below b9
            replace hb := hb.trans (b9.mono hs)
            replace hs := hb.size
            clear b9 c1
            go_wp2_with fail
            refine (oimage c2 hI2.out).mono ?_
            rintro en w10 ⟨rfl, b9⟩
            replace c3 := c3.below b9
            replace hb := hb.trans (b9.mono hs)
            replace hs := hb.size
            clear b9 c2
            go_wp2_with fail
            refine (oimage c3 hT2.out).mono ?_
            rintro en w11 ⟨rfl, b9⟩
            replace hb := hb.trans (b9.mono hs)
            clear b9 c3 hs e1 e2 hT2 hI2 st
            go_wp2_with fail
            go_loopw [20] (fun t wr => ∃ p j : Nat, j ≤ k ∧ 64 * j = p ∧ t = .int .i64 (p : Int) ∧ Below w.heap.size w wr) (fun t _ => 64 * k - (intOf t).toNat)
            case atStart => exact ⟨0, 0, Nat.zero_le _, rfl, rfl, hb⟩
            case round =>
              clear hb
              obtain ⟨p, j, hj, hp, rfl, hb⟩ := hrel
              by_cases hjk : j < k
              · obtain ⟨t, s, x1, x2, hor⟩ := hpart.out j hjk
                have x3 := hTp.out j hjk
                rw [hp] at x1 x2 x3
                have l1 : p + 64 ≤ S.size := by have := hSz.out; omega
                have l2 : p + 64 ≤ I.size := by have := hIz.out; omega
                have l3 : p + 64 ≤ T.size := by have := hTz.out; omega
                have l4 : p < S.size := by omega
                have l5 : (p : Int) + 64 ≤ (S.size : Int) := by omega
                have l6 : (p : Int) + 64 ≤ (I.size : Int) := by omega
                have l7 : (p : Int) + 64 ≤ (T.size : Int) := by omega
                have l8 : p ≤ 2560 := by omega
                have l9 : p < 64 * k := by omega
                have hp1 : 64 * (j + 1) = p + 64 := by omega
                replace hp1 := Lib.hid hp1
                have s1 : IntKind.i64.wrap ((p : Int) + 64) = (p : Int) + 64 := IntWalk.i64_in _ (by omega)
                have s2 : ((p : Int) + 64).toNat = p + 64 := by omega
                replace hp := Lib.hid hp
                replace hb := Lib.hid hb
                clear l1 l2 l3
                by_cases hts : t = s
                · subst hts
                  clear hor x3
                  go_wp2_with fail
                  go_quiet (fail)
                  clear s1 s2 l5 l6 l7
                  go_wp2_with fail
                  refine ⟨⟨p + 64, j + 1, hjk, hp1.out, rfl, ?_⟩, by simp [intOf]; omega⟩
                  first
                    | exact hb.out
                    | exact hb.out.drew
                    | exact below_drewN hb.out _
                · obtain rfl : t = cur j := hor.resolve_left hts
                  have hne : ((cur j).toList == s.toList) = false := by
                    rw [beq_eq_false_iff_ne]
                    intro e
                    exact hts (bytes_inj e)
                  generalize cur j = u at x1 x3 hne
                  clear hor hts
                  go_wp2_with fail
                  go_quiet (fail)
                  clear s1 s2 l5 l6 l7
                  go_wp2_with fail
                  refine ⟨⟨p + 64, j + 1, hjk, hp1.out, rfl, ?_⟩, by simp [intOf]; omega⟩
                  first
                    | exact hb.out
                    | exact hb.out.drew
                    | exact below_drewN hb.out _
              · obtain rfl : j = k := by omega
                have l4 : S.size ≤ p := by have := hSz.out; omega
                go_wp2_with fail
                refine (fixed_any _).mono ?_
                rintro en w' ⟨rfl, b'⟩
                replace hb := hb.trans (b'.mono hb.size)
                go_wp2_with fail
                go_ret
                exact ⟨rfl, hb⟩
end Go.Proofs.Ytpcnpjpbicbjeaa.Disk

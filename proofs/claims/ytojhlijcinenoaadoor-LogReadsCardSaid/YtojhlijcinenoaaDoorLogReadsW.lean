/- LogReads: the walk. -/
import Derived.Test.YtojhlijcinenoaaDoorNvFixed
import Derived.Test.YtojhlijcinenoaaDoorNvRefE
import Derived.Test.YtojhlijcinenoaaDoorCopyText
import Derived.Test.YtojhlijcinenoaaDoorRdiskH
import Derived.Test.YtojhlijcinenoaaDoorLate
import Derived.BigQuiet
namespace Go.Proofs.YtojhlijcinenoaaDoor.Nv
open Go Go.RowKit Go.Maps Mem Disk

set_option maxRecDepth 100000 in
theorem openD_fit {img : ByteArray} (h1 : 1 ≤ img.size / 64) (h2 : img.size / 64 ≤ 16384) : Fit (openD img) := by
  refine ⟨by rw [openD_len]; exact ⟨h1, h2⟩, fun s hs => ?_, (fun p hp => by cases hp), List.Pairwise.nil⟩
  obtain ⟨i, hi, rfl⟩ := List.mem_map.1 hs
  have := List.mem_range.1 hi
  rw [if_pos this]
  unfold chunk
  rw [ByteArray.size_extract]
  omega
set_option maxRecDepth 100000 in
theorem enc_len : ∀ l : List ByteArray, l.length ≤ (enc l).size
  | [] => Nat.le_refl _
  | r :: l => by
    have := enc_len l
    rw [enc_cons, ByteArray.size_append, enc1_size, List.length_cons]
    omega
/-- both logs of one disk, opened -/
structure Read2 (w0 : World) (F G : Nat → Prop) (W : World) (a b k c : Nat) (A : Option Addr) (cc : Nat) (l : Lg) (d : Dk) : Prop where
  p : PL F W a b l d
  r : RL G W k c l d
  c1 : W.cell? ⟨k, 1, none⟩ = some (.int .i64 (l.gen : Int))
  c2 : W.cell? ⟨k, 2, none⟩ = some (.slice A l.list.length cc)
  row : Row W A l.list.length (l.list.map Value.string)
  hb : Below w0.heap.size w0 W
set_option maxRecDepth 100000 in
theorem Read2.below {w0 : World} {F G : Nat → Prop} {W W' : World} {a b k c : Nat} {A : Option Addr} {cc : Nat} {l : Lg} {d : Dk} (h : Read2 w0 F G W a b k c A cc l d) (hb : Below W.heap.size W W') : Read2 w0 F G W' a b k c A cc l d :=
  ⟨h.p.below hb, h.r.below hb, (hb.cell (World.block_lt_of_cell? W _ h.c1)).trans h.c1, (hb.cell (World.block_lt_of_cell? W _ h.c2)).trans h.c2, h.row.below hb, h.hb.trans (hb.mono h.hb.size)⟩
set_option maxRecDepth 100000 in
theorem Read2.s {w0 : World} {F G : Nat → Prop} {W : World} {a b k c : Nat} {A : Option Addr} {cc : Nat} {l : Lg} {d : Dk} (h : Read2 w0 F G W a b k c A cc l d) : W.cell? ⟨k, 1, none⟩ = some (.int .i64 (l.gen : Int)) ∧ W.cell? ⟨k, 2, none⟩ = some (.slice A l.list.length cc) := ⟨h.c1, h.c2⟩
set_option maxRecDepth 100000 in
set_option maxHeartbeats 8000000 in
theorem logreads_any (s : ByteArray) (hs : s.size ≤ 140737488355328) (w : World) :
    Calls Tryd.prog 4 #[.string s] w fun e w' => e = .returned (.bool true) ∧ Below w.heap.size w w' := by
  have kf := Lib.hid (fun W => fixed_any W)
  obtain ⟨i0, hinf, hz0, hz1, hz2⟩ := info_parts infoU8
  obtain ⟨K, hK⟩ : ∃ K : Nat, K = max 1 (min ((s.size + 63) / 64) 100) := ⟨_, rfl⟩
  have hmm : max 1 (min (((s.size : Int) + 63) / 64) 100) = (K : Int) := by omega
  have hK1 : 1 ≤ K ∧ K ≤ 100 := by omega
  obtain ⟨M, hM⟩ : ∃ M, M = 64 * K := ⟨_, rfl⟩
  have hMI := Lib.hid (show 64 * (K : Int) = (M : Int) by omega)
  have hIs := padB_size s M
  obtain ⟨I, hI⟩ : ∃ I, I = padB s M := ⟨_, rfl⟩
  rw [← hI] at hIs
  have hI64 : I.size / 64 = K := by omega
  have hfit := openD_fit (img := I) (by omega) (by omega)
  have kd := fun W => open_yes I W (by omega) (by omega) (by omega)
  have kr := fun W => ropen_yes I W (by omega) (by omega) (by omega)
  have hinv := fun l => openL_inv (l := l) hfit
  have hlen : (openD I).stays.length = K := by rw [openD_len]; exact hI64
  have hst : (openD I).steps = 0 := rfl
  have hmk : (openD I).marks = 0 := rfl
  generalize openD I = D at hfit kd kr hinv hlen hst hmk
  replace kd := Lib.hid kd
  replace kr := Lib.hid kr
  have hMb : M ≤ 6400 := by omega
  replace hI := Lib.hid hI
  replace hIs := Lib.hid hIs
  replace hM := Lib.hid hM
  replace hK := Lib.hid hK
  replace hlen := Lib.hid hlen
  replace hst := Lib.hid hst
  replace hmk := Lib.hid hmk
  replace hI64 := Lib.hid hI64
  go_enter Tryd.func4, Tryd.ntmps4
  go_wp2_with (first | (at_make; refine wpList_make_full _ rfl _ _ _ rfl w.heap.size 5 i0 (.int .u8 0) 1 Tryd.underlying39 hinf hz0 hz1 .i64 .i64 _ _ M rfl rfl (by first | rfl | exact hMI.out) (by first | rfl | exact hMI.out) (by rw [hz2]; omega) (by unfold maxLen; omega) (Nat.le_refl _) ?_; intro w2 ho2 hg2; obtain ⟨w3, hcp, hg3, hcv, _⟩ := copy_text s ho2; have hb3 : Below w.heap.size w w3 := (show Below w.heap.size w w2 from ⟨hg2.os, hg2.tape, hg2.output, hg2.size, fun k hk => hg2.block k hk (by simp)⟩).trans (Only.toBelow hg3 (Nat.le_refl _) hg2.size); rw [← hI.out] at hcv; have hcv3 := hcv w3 (Below.refl _ _); replace hcv := Lib.hid hcv; replace hb3 := Lib.hid hb3; clear ho2 hg2 hg3))
  refine (kd.out _).mono ?_
  rintro e w4 ⟨F, b, rfl, hd, hF, hb4⟩
  have hcv4 := hcv.out w4 hb4
  have hb4' := Lib.hid (hb3.out.trans (hb4.mono hb3.out.size))
  have hb4k := Lib.hid hb4
  replace hd := Lib.hid hd
  clear hF hb4 hcv3 hcp
  go_wp2_with fail
  refine (kr.out _).mono ?_
  rintro e w5 ⟨G, c, rfl, hr, hG, hb5⟩
  have hd5 := Lib.hid (hd.out.below hb5)
  have hb5' := Lib.hid (hb4'.out.trans (hb5.mono hb4'.out.size))
  replace hr := Lib.hid hr
  clear hG hb5 hcv4 hcv hb4k hd hb3 hb4'
  have ko := Lib.hid (open_any hd5.out hfit)
  go_wp2_with fail
  refine ko.out.mono ?_
  intro e w6 hp6
  obtain ⟨b6, hp6⟩ := hp6
  have hr6 := hr.out.below b6
  have hd6 := Lib.hid (hd5.out.below b6)
  have hb6 := Lib.hid (hb5'.out.trans (b6.mono hb5'.out.size))
  have kq := Lib.hid (ropen_any hr6 hfit (by rw [hmk.out]; decide))
  clear ko hr b6 hd5 hb5'
  obtain ⟨r, hr⟩ : ∃ r, r = openL D := ⟨_, rfl⟩
  rw [← hr] at hp6 hinv kq
  replace hr := Lib.hid hr
  obtain ⟨o, x⟩ := r
  have qx : (x != x) = false := bne_self_eq_false _
  cases o with
  | none =>
    obtain rfl := hp6
    go_wp2_with fail
    refine kq.out.mono ?_
    intro e w7 hp7
    obtain ⟨b7, hp7⟩ := hp7
    obtain rfl := hp7
    have ks := steps_any (hd6.out.below b7)
    rw [hst.out] at ks
    have hb7 := Lib.hid (hb6.out.trans (b7.mono hb6.out.size))
    replace ks := Lib.hid ks
    clear b7 hb6 kq hd6
    go_wp2_with fail
    refine ks.out.mono ?_
    rintro e w8 ⟨rfl, hw'⟩
    replace hw' := hw'.symm
    subst hw'
    clear ks
    go_upto_region 12 with fail
    refine Late.start (S := fun _ => True) (T := fun _ => True) (late := []) (by kernel_rfl) ?_
    have hS : True := trivial
    have hT : True := trivial
    refine Late.only (i := 0) (o := ?_) (by kernel_rfl) ?_ (fun K hK => ?_)
    rotate_left 1
    focus (simp only [List.getElem?_toArray, List.getElem?_cons_zero]; rfl)
    rw [if_pos (by kernel_rfl)]
    go_simp
    refine (kf.out _).mono ?_
    rintro e w9 ⟨rfl, b9⟩
    have hb9 := Lib.hid (hb7.out.drew.trans (b9.mono hb7.out.size))
    clear b9 hb7
    refine hK.out _ _ trivial (fun _ => trivial) ?_
    clear hK K
    try simp only [Act.put, List.setIfInBounds_toArray, List.set_cons_zero, List.set_cons_succ]
    refine Late.take (i := 1) (oi := ?_) (v := ?_) ?_ (by kernel_rfl) (by kernel_rfl) (by kernel_rfl) (by kernel_rfl) ?_ ?_ (by assumption) (by assumption) ?_
    rotate_left 2
    focus (simp only [List.getElem?_toArray, List.getElem?_cons_succ, List.getElem?_cons_zero]; rfl)
    focus exact fun _ _ _ h => h
    focus (refine Or.inl ⟨by kernel_rfl, ?_⟩; intro w hSw; clear hSw; go_simp; try with_reducible rfl)
    try simp only [Act.put, List.setIfInBounds_toArray, List.set_cons_zero, List.set_cons_succ]
    refine Late.take (i := 2) (oi := ?_) (v := ?_) ?_ (by kernel_rfl) (by kernel_rfl) (by kernel_rfl) (by kernel_rfl) ?_ ?_ (by assumption) (by assumption) ?_
    rotate_left 2
    focus (simp only [List.getElem?_toArray, List.getElem?_cons_succ, List.getElem?_cons_zero]; rfl)
    focus exact fun _ _ _ h => h
    focus (refine Or.inl ⟨by kernel_rfl, ?_⟩; intro w hSw; clear hSw; go_simp; try with_reducible rfl)
    try simp only [Act.put, List.setIfInBounds_toArray, List.set_cons_zero, List.set_cons_succ]
    refine Late.take (i := 3) (oi := ?_) (v := ?_) ?_ (by kernel_rfl) (by kernel_rfl) (by kernel_rfl) (by kernel_rfl) ?_ ?_ (by assumption) (by assumption) ?_
    rotate_left 2
    focus (simp only [List.getElem?_toArray, List.getElem?_cons_succ, List.getElem?_cons_zero]; rfl)
    focus exact fun _ _ _ h => h
    focus (refine Or.inl ⟨by kernel_rfl, ?_⟩; intro w hSw; clear hSw; go_simp; try with_reducible rfl)
    try simp only [Act.put, List.setIfInBounds_toArray, List.set_cons_zero, List.set_cons_succ]
    refine Late.take (i := 4) (oi := ?_) (v := ?_) ?_ (by kernel_rfl) (by kernel_rfl) (by kernel_rfl) (by kernel_rfl) ?_ ?_ (by assumption) (by assumption) ?_
    rotate_left 2
    focus (simp only [List.getElem?_toArray, List.getElem?_cons_succ, List.getElem?_cons_zero]; rfl)
    focus exact fun _ _ _ h => h
    focus (refine Or.inl ⟨by kernel_rfl, ?_⟩; intro w hSw; clear hSw; go_simp; try with_reducible rfl)
    try simp only [Act.put, List.setIfInBounds_toArray, List.set_cons_zero, List.set_cons_succ]
    refine Late.take (i := 5) (oi := ?_) (v := undef) ?_ (by kernel_rfl) (by kernel_rfl) (by kernel_rfl) (by kernel_rfl) ?_ ?_ (by assumption) (by assumption) ?_
    rotate_left 1
    focus (simp only [List.getElem?_toArray, List.getElem?_cons_succ, List.getElem?_cons_zero]; rfl)
    focus exact fun _ _ _ h => h
    focus (exact Or.inr ⟨by kernel_rfl, rfl⟩)
    try simp only [Act.put, List.setIfInBounds_toArray, List.set_cons_zero, List.set_cons_succ]
    refine Late.take (i := 6) (oi := ?_) (v := undef) ?_ (by kernel_rfl) (by kernel_rfl) (by kernel_rfl) (by kernel_rfl) ?_ ?_ (by assumption) (by assumption) ?_
    rotate_left 1
    focus (simp only [List.getElem?_toArray, List.getElem?_cons_succ, List.getElem?_cons_zero]; rfl)
    focus exact fun _ _ _ h => h
    focus (exact Or.inr ⟨by kernel_rfl, rfl⟩)
    try simp only [Act.put, List.setIfInBounds_toArray, List.set_cons_zero, List.set_cons_succ]
    refine Late.take (i := 7) (oi := ?_) (v := ?_) ?_ (by kernel_rfl) (by kernel_rfl) (by kernel_rfl) (by kernel_rfl) ?_ ?_ (by assumption) (by assumption) ?_
    rotate_left 2
    focus (simp only [List.getElem?_toArray, List.getElem?_cons_succ, List.getElem?_cons_zero]; rfl)
    focus exact fun _ _ _ h => h
    focus (refine Or.inl ⟨by kernel_rfl, ?_⟩; intro w hSw; clear hSw; go_simp; try with_reducible rfl)
    try simp only [Act.put, List.setIfInBounds_toArray, List.set_cons_zero, List.set_cons_succ]
    refine Late.take (i := 8) (oi := ?_) (v := ?_) ?_ (by kernel_rfl) (by kernel_rfl) (by kernel_rfl) (by kernel_rfl) ?_ ?_ (by assumption) (by assumption) ?_
    rotate_left 2
    focus (simp only [List.getElem?_toArray, List.getElem?_cons_succ, List.getElem?_cons_zero]; rfl)
    focus exact fun _ _ _ h => h
    focus (refine Or.inl ⟨by kernel_rfl, ?_⟩; intro w hSw; clear hSw; go_simp; try with_reducible rfl)
    try simp only [Act.put, List.setIfInBounds_toArray, List.set_cons_zero, List.set_cons_succ]
    refine Late.take (i := 9) (oi := ?_) (v := undef) ?_ (by kernel_rfl) (by kernel_rfl) (by kernel_rfl) (by kernel_rfl) ?_ ?_ (by assumption) (by assumption) ?_
    rotate_left 1
    focus (simp only [List.getElem?_toArray, List.getElem?_cons_succ, List.getElem?_cons_zero]; rfl)
    focus exact fun _ _ _ h => h
    focus (exact Or.inr ⟨by kernel_rfl, rfl⟩)
    try simp only [Act.put, List.setIfInBounds_toArray, List.set_cons_zero, List.set_cons_succ]
    refine Late.take (i := 10) (oi := ?_) (v := undef) ?_ (by kernel_rfl) (by kernel_rfl) (by kernel_rfl) (by kernel_rfl) ?_ ?_ (by assumption) (by assumption) ?_
    rotate_left 1
    focus (simp only [List.getElem?_toArray, List.getElem?_cons_succ, List.getElem?_cons_zero]; rfl)
    focus exact fun _ _ _ h => h
    focus (exact Or.inr ⟨by kernel_rfl, rfl⟩)
    try simp only [Act.put, List.setIfInBounds_toArray, List.set_cons_zero, List.set_cons_succ]
    refine Late.take (i := 11) (oi := ?_) (v := undef) ?_ (by kernel_rfl) (by kernel_rfl) (by kernel_rfl) (by kernel_rfl) ?_ ?_ (by assumption) (by assumption) ?_
    rotate_left 1
    focus (simp only [List.getElem?_toArray, List.getElem?_cons_succ, List.getElem?_cons_zero]; rfl)
    focus exact fun _ _ _ h => h
    focus (exact Or.inr ⟨by kernel_rfl, rfl⟩)
    try simp only [Act.put, List.setIfInBounds_toArray, List.set_cons_zero, List.set_cons_succ]
    refine Late.take (i := 12) (oi := ?_) (v := undef) ?_ (by kernel_rfl) (by kernel_rfl) (by kernel_rfl) (by kernel_rfl) ?_ ?_ (by assumption) (by assumption) ?_
    rotate_left 1
    focus (simp only [List.getElem?_toArray, List.getElem?_cons_succ, List.getElem?_cons_zero]; rfl)
    focus exact fun _ _ _ h => h
    focus (exact Or.inr ⟨by kernel_rfl, rfl⟩)
    try simp only [Act.put, List.setIfInBounds_toArray, List.set_cons_zero, List.set_cons_succ]
    refine Late.take (i := 13) (oi := ?_) (v := undef) ?_ (by kernel_rfl) (by kernel_rfl) (by kernel_rfl) (by kernel_rfl) ?_ ?_ (by assumption) (by assumption) ?_
    rotate_left 1
    focus (simp only [List.getElem?_toArray, List.getElem?_cons_succ, List.getElem?_cons_zero]; rfl)
    focus exact fun _ _ _ h => h
    focus (exact Or.inr ⟨by kernel_rfl, rfl⟩)
    try simp only [Act.put, List.setIfInBounds_toArray, List.set_cons_zero, List.set_cons_succ]
    refine Late.take (i := 14) (oi := ?_) (v := undef) ?_ (by kernel_rfl) (by kernel_rfl) (by kernel_rfl) (by kernel_rfl) ?_ ?_ (by assumption) (by assumption) ?_
    rotate_left 1
    focus (simp only [List.getElem?_toArray, List.getElem?_cons_succ, List.getElem?_cons_zero]; rfl)
    focus exact fun _ _ _ h => h
    focus (exact Or.inr ⟨by kernel_rfl, rfl⟩)
    try simp only [Act.put, List.setIfInBounds_toArray, List.set_cons_zero, List.set_cons_succ]
    refine Late.take (i := 15) (oi := ?_) (v := undef) ?_ (by kernel_rfl) (by kernel_rfl) (by kernel_rfl) (by kernel_rfl) ?_ ?_ (by assumption) (by assumption) ?_
    rotate_left 1
    focus (simp only [List.getElem?_toArray, List.getElem?_cons_succ, List.getElem?_cons_zero]; rfl)
    focus exact fun _ _ _ h => h
    focus (exact Or.inr ⟨by kernel_rfl, rfl⟩)
    try simp only [Act.put, List.setIfInBounds_toArray, List.set_cons_zero, List.set_cons_succ]
    refine Late.take (i := 16) (oi := ?_) (v := undef) ?_ (by kernel_rfl) (by kernel_rfl) (by kernel_rfl) (by kernel_rfl) ?_ ?_ (by assumption) (by assumption) ?_
    rotate_left 1
    focus (simp only [List.getElem?_toArray, List.getElem?_cons_succ, List.getElem?_cons_zero]; rfl)
    focus exact fun _ _ _ h => h
    focus (exact Or.inr ⟨by kernel_rfl, rfl⟩)
    try simp only [Act.put, List.setIfInBounds_toArray, List.set_cons_zero, List.set_cons_succ]
    refine Late.take (i := 17) (oi := ?_) (v := undef) ?_ (by kernel_rfl) (by kernel_rfl) (by kernel_rfl) (by kernel_rfl) ?_ ?_ (by assumption) (by assumption) ?_
    rotate_left 1
    focus (simp only [List.getElem?_toArray, List.getElem?_cons_succ, List.getElem?_cons_zero]; rfl)
    focus exact fun _ _ _ h => h
    focus (exact Or.inr ⟨by kernel_rfl, rfl⟩)
    try simp only [Act.put, List.setIfInBounds_toArray, List.set_cons_zero, List.set_cons_succ]
    refine Late.take (i := 18) (oi := ?_) (v := undef) ?_ (by kernel_rfl) (by kernel_rfl) (by kernel_rfl) (by kernel_rfl) ?_ ?_ (by assumption) (by assumption) ?_
    rotate_left 1
    focus (simp only [List.getElem?_toArray, List.getElem?_cons_succ, List.getElem?_cons_zero]; rfl)
    focus exact fun _ _ _ h => h
    focus (exact Or.inr ⟨by kernel_rfl, rfl⟩)
    try simp only [Act.put, List.setIfInBounds_toArray, List.set_cons_zero, List.set_cons_succ]
    refine Late.take (i := 19) (oi := ?_) (v := undef) ?_ (by kernel_rfl) (by kernel_rfl) (by kernel_rfl) (by kernel_rfl) ?_ ?_ (by assumption) (by assumption) ?_
    rotate_left 1
    focus (simp only [List.getElem?_toArray, List.getElem?_cons_succ, List.getElem?_cons_zero]; rfl)
    focus exact fun _ _ _ h => h
    focus (exact Or.inr ⟨by kernel_rfl, rfl⟩)
    try simp only [Act.put, List.setIfInBounds_toArray, List.set_cons_zero, List.set_cons_succ]
    refine Late.take (i := 20) (oi := ?_) (v := undef) ?_ (by kernel_rfl) (by kernel_rfl) (by kernel_rfl) (by kernel_rfl) ?_ ?_ (by assumption) (by assumption) ?_
    rotate_left 1
    focus (simp only [List.getElem?_toArray, List.getElem?_cons_succ, List.getElem?_cons_zero]; rfl)
    focus exact fun _ _ _ h => h
    focus (exact Or.inr ⟨by kernel_rfl, rfl⟩)
    try simp only [Act.put, List.setIfInBounds_toArray, List.set_cons_zero, List.set_cons_succ]
    refine Late.take (i := 21) (oi := ?_) (v := undef) ?_ (by kernel_rfl) (by kernel_rfl) (by kernel_rfl) (by kernel_rfl) ?_ ?_ (by assumption) (by assumption) ?_
    rotate_left 1
    focus (simp only [List.getElem?_toArray, List.getElem?_cons_succ, List.getElem?_cons_zero]; rfl)
    focus exact fun _ _ _ h => h
    focus (exact Or.inr ⟨by kernel_rfl, rfl⟩)
    try simp only [Act.put, List.setIfInBounds_toArray, List.set_cons_zero, List.set_cons_succ]
    refine Late.take (i := 22) (oi := ?_) (v := undef) ?_ (by kernel_rfl) (by kernel_rfl) (by kernel_rfl) (by kernel_rfl) ?_ ?_ (by assumption) (by assumption) ?_
    rotate_left 1
    focus (simp only [List.getElem?_toArray, List.getElem?_cons_succ, List.getElem?_cons_zero]; rfl)
    focus exact fun _ _ _ h => h
    focus (exact Or.inr ⟨by kernel_rfl, rfl⟩)
    try simp only [Act.put, List.setIfInBounds_toArray, List.set_cons_zero, List.set_cons_succ]
    refine Late.take (i := 23) (oi := ?_) (v := undef) ?_ (by kernel_rfl) (by kernel_rfl) (by kernel_rfl) (by kernel_rfl) ?_ ?_ (by assumption) (by assumption) ?_
    rotate_left 1
    focus (simp only [List.getElem?_toArray, List.getElem?_cons_succ, List.getElem?_cons_zero]; rfl)
    focus exact fun _ _ _ h => h
    focus (exact Or.inr ⟨by kernel_rfl, rfl⟩)
    try simp only [Act.put, List.setIfInBounds_toArray, List.set_cons_zero, List.set_cons_succ]
    refine Late.take (i := 24) (oi := ?_) (v := undef) ?_ (by kernel_rfl) (by kernel_rfl) (by kernel_rfl) (by kernel_rfl) ?_ ?_ (by assumption) (by assumption) ?_
    rotate_left 1
    focus (simp only [List.getElem?_toArray, List.getElem?_cons_succ, List.getElem?_cons_zero]; rfl)
    focus exact fun _ _ _ h => h
    focus (exact Or.inr ⟨by kernel_rfl, rfl⟩)
    try simp only [Act.put, List.setIfInBounds_toArray, List.set_cons_zero, List.set_cons_succ]
    refine Late.take (i := 25) (oi := ?_) (v := undef) ?_ (by kernel_rfl) (by kernel_rfl) (by kernel_rfl) (by kernel_rfl) ?_ ?_ (by assumption) (by assumption) ?_
    rotate_left 1
    focus (simp only [List.getElem?_toArray, List.getElem?_cons_succ, List.getElem?_cons_zero]; rfl)
    focus exact fun _ _ _ h => h
    focus (exact Or.inr ⟨by kernel_rfl, rfl⟩)
    try simp only [Act.put, List.setIfInBounds_toArray, List.set_cons_zero, List.set_cons_succ]
    refine Late.take (i := 26) (oi := ?_) (v := undef) ?_ (by kernel_rfl) (by kernel_rfl) (by kernel_rfl) (by kernel_rfl) ?_ ?_ (by assumption) (by assumption) ?_
    rotate_left 1
    focus (simp only [List.getElem?_toArray, List.getElem?_cons_succ, List.getElem?_cons_zero]; rfl)
    focus exact fun _ _ _ h => h
    focus (exact Or.inr ⟨by kernel_rfl, rfl⟩)
    try simp only [Act.put, List.setIfInBounds_toArray, List.set_cons_zero, List.set_cons_succ]
    refine Late.take (i := 27) (oi := ?_) (v := undef) ?_ (by kernel_rfl) (by kernel_rfl) (by kernel_rfl) (by kernel_rfl) ?_ ?_ (by assumption) (by assumption) ?_
    rotate_left 1
    focus (simp only [List.getElem?_toArray, List.getElem?_cons_succ, List.getElem?_cons_zero]; rfl)
    focus exact fun _ _ _ h => h
    focus (exact Or.inr ⟨by kernel_rfl, rfl⟩)
    try simp only [Act.put, List.setIfInBounds_toArray, List.set_cons_zero, List.set_cons_succ]
    refine Late.take (i := 28) (oi := ?_) (v := undef) ?_ (by kernel_rfl) (by kernel_rfl) (by kernel_rfl) (by kernel_rfl) ?_ ?_ (by assumption) (by assumption) ?_
    rotate_left 1
    focus (simp only [List.getElem?_toArray, List.getElem?_cons_succ, List.getElem?_cons_zero]; rfl)
    focus exact fun _ _ _ h => h
    focus (exact Or.inr ⟨by kernel_rfl, rfl⟩)
    try simp only [Act.put, List.setIfInBounds_toArray, List.set_cons_zero, List.set_cons_succ]
    refine Late.take (i := 29) (oi := ?_) (v := undef) ?_ (by kernel_rfl) (by kernel_rfl) (by kernel_rfl) (by kernel_rfl) ?_ ?_ (by assumption) (by assumption) ?_
    rotate_left 1
    focus (simp only [List.getElem?_toArray, List.getElem?_cons_succ, List.getElem?_cons_zero]; rfl)
    focus exact fun _ _ _ h => h
    focus (exact Or.inr ⟨by kernel_rfl, rfl⟩)
    try simp only [Act.put, List.setIfInBounds_toArray, List.set_cons_zero, List.set_cons_succ]
    refine Late.take (i := 30) (oi := ?_) (v := undef) ?_ (by kernel_rfl) (by kernel_rfl) (by kernel_rfl) (by kernel_rfl) ?_ ?_ (by assumption) (by assumption) ?_
    rotate_left 1
    focus (simp only [List.getElem?_toArray, List.getElem?_cons_succ, List.getElem?_cons_zero]; rfl)
    focus exact fun _ _ _ h => h
    focus (exact Or.inr ⟨by kernel_rfl, rfl⟩)
    try simp only [Act.put, List.setIfInBounds_toArray, List.set_cons_zero, List.set_cons_succ]
    refine Late.take (i := 31) (oi := ?_) (v := undef) ?_ (by kernel_rfl) (by kernel_rfl) (by kernel_rfl) (by kernel_rfl) ?_ ?_ (by assumption) (by assumption) ?_
    rotate_left 1
    focus (simp only [List.getElem?_toArray, List.getElem?_cons_succ, List.getElem?_cons_zero]; rfl)
    focus exact fun _ _ _ h => h
    focus (exact Or.inr ⟨by kernel_rfl, rfl⟩)
    try simp only [Act.put, List.setIfInBounds_toArray, List.set_cons_zero, List.set_cons_succ]
    refine Late.take (i := 32) (oi := ?_) (v := ?_) ?_ (by kernel_rfl) (by kernel_rfl) (by kernel_rfl) (by kernel_rfl) ?_ ?_ (by assumption) (by assumption) ?_
    rotate_left 2
    focus (simp only [List.getElem?_toArray, List.getElem?_cons_succ, List.getElem?_cons_zero]; rfl)
    focus exact fun _ _ _ h => h
    focus (refine Or.inl ⟨by kernel_rfl, ?_⟩; intro w hSw; clear hSw; go_simp; try with_reducible rfl)
    try simp only [Act.put, List.setIfInBounds_toArray, List.set_cons_zero, List.set_cons_succ]
    refine Late.take (i := 33) (oi := ?_) (v := ?_) ?_ (by kernel_rfl) (by kernel_rfl) (by kernel_rfl) (by kernel_rfl) ?_ ?_ (by assumption) (by assumption) ?_
    rotate_left 2
    focus (simp only [List.getElem?_toArray, List.getElem?_cons_succ, List.getElem?_cons_zero]; rfl)
    focus exact fun _ _ _ h => h
    focus (refine Or.inl ⟨by kernel_rfl, ?_⟩; intro w hSw; clear hSw; go_simp; try with_reducible rfl)
    try simp only [Act.put, List.setIfInBounds_toArray, List.set_cons_zero, List.set_cons_succ]
    refine Late.take (i := 34) (oi := ?_) (v := ?_) ?_ (by kernel_rfl) (by kernel_rfl) (by kernel_rfl) (by kernel_rfl) ?_ ?_ (by assumption) (by assumption) ?_
    rotate_left 2
    focus (simp only [List.getElem?_toArray, List.getElem?_cons_succ, List.getElem?_cons_zero]; rfl)
    focus exact fun _ _ _ h => h
    focus (refine Or.inl ⟨by kernel_rfl, ?_⟩; intro w hSw; clear hSw; go_simp; try with_reducible rfl)
    try simp only [Act.put, List.setIfInBounds_toArray, List.set_cons_zero, List.set_cons_succ]
    refine Late.done (by kernel_rfl) ?_ _
    go_wp2_with fail
    go_ret
    exact ⟨rfl, hb9.out⟩
  | some l =>
    obtain ⟨a, F2, rfl, hp, _⟩ := hp6
    obtain ⟨_, _, hgl, henc, _, _⟩ := hinv l rfl
    have hx0 : x = 0 := (hinv l rfl).1
    subst hx0
    have hzz : (enc l.list).size ≤ 6400 := by
      have := hlen.out
      unfold halfD at henc
      omega
    have hll : l.list.length ≤ 6400 := Nat.le_trans (enc_len _) hzz
    replace hp := Lib.hid hp
    clear hinv henc qx
    go_wp2_with fail
    refine kq.out.mono ?_
    intro e w7 hp7
    obtain ⟨b7, hp7⟩ := hp7
    obtain ⟨k, G2, rfl, hq, _⟩ := hp7
    have ks := steps_any (hd6.out.below b7)
    rw [hst.out] at ks
    have hb7 := (hb6.out.trans (b7.mono hb6.out.size))
    have r7 : ∃ A cc, Read2 w F2 G2 w7 a b k c A cc l D := by
      obtain ⟨G3, v, h3⟩ := hq
      obtain ⟨A, cc, rfl⟩ := own_slice h3.row
      exact ⟨A, cc, hp.out.below b7, h3.rl, h3.cells.2.1, h3.cells.2.2.1, Row.of_own h3.row, hb7⟩
    obtain ⟨A, cc, r7⟩ := r7
    replace r7 := Lib.hid r7
    replace ks := Lib.hid ks
    clear b7 hb6 kq hd6 hp hq hb7
    go_wp2_with fail
    refine ks.out.mono ?_
    rintro e w8 ⟨rfl, hw'⟩
    replace hw' := hw'.symm
    subst hw'
    clear ks
    go_upto_region 12 with fail
    have s7 := (r7.out.below (Below.refl _ w7 |>.drew)).s
    refine Late.start (S := fun W => W.cell? ⟨k, 1, none⟩ = some (.int .i64 (l.gen : Int)) ∧ W.cell? ⟨k, 2, none⟩ = some (.slice A l.list.length cc)) (T := fun _ => True) (late := []) (by kernel_rfl) ?_
    have hS := s7
    have hT : True := trivial
    refine Late.only (i := 0) (o := ?_) (by kernel_rfl) ?_ (fun K hK => ?_)
    rotate_left 1
    focus (simp only [List.getElem?_toArray, List.getElem?_cons_zero]; rfl)
    rw [if_pos (by kernel_rfl)]
    go_simp
    refine (kf.out _).mono ?_
    rintro e w9 ⟨rfl, b9⟩
    have r9 := Lib.hid ((r7.out.below (Below.refl _ w7 |>.drew)).below b9)
    have hS9 := r9.out.s
    clear b9 r7 hS s7
    refine hK.out _ _ hS9 (fun _ => trivial) ?_
    clear hK K
    try simp only [Act.put, List.setIfInBounds_toArray, List.set_cons_zero, List.set_cons_succ]
    have hS := hS9
    refine Late.take (i := 1) (oi := ?_) (v := ?_) ?_ (by kernel_rfl) (by kernel_rfl) (by kernel_rfl) (by kernel_rfl) ?_ ?_ (by assumption) (by assumption) ?_
    rotate_left 2
    focus (simp only [List.getElem?_toArray, List.getElem?_cons_succ, List.getElem?_cons_zero]; rfl)
    focus exact fun _ _ _ h => h
    focus (refine Or.inl ⟨by kernel_rfl, ?_⟩; intro w hSw; clear hSw; go_simp; try with_reducible rfl)
    try simp only [Act.put, List.setIfInBounds_toArray, List.set_cons_zero, List.set_cons_succ]
    refine Late.take (i := 2) (oi := ?_) (v := ?_) ?_ (by kernel_rfl) (by kernel_rfl) (by kernel_rfl) (by kernel_rfl) ?_ ?_ (by assumption) (by assumption) ?_
    rotate_left 2
    focus (simp only [List.getElem?_toArray, List.getElem?_cons_succ, List.getElem?_cons_zero]; rfl)
    focus exact fun _ _ _ h => h
    focus (refine Or.inl ⟨by kernel_rfl, ?_⟩; intro w hSw; clear hSw; go_simp; try with_reducible rfl)
    try simp only [Act.put, List.setIfInBounds_toArray, List.set_cons_zero, List.set_cons_succ]
    refine Late.take (i := 3) (oi := ?_) (v := ?_) ?_ (by kernel_rfl) (by kernel_rfl) (by kernel_rfl) (by kernel_rfl) ?_ ?_ (by assumption) (by assumption) ?_
    rotate_left 2
    focus (simp only [List.getElem?_toArray, List.getElem?_cons_succ, List.getElem?_cons_zero]; rfl)
    focus exact fun _ _ _ h => h
    focus (refine Or.inl ⟨by kernel_rfl, ?_⟩; intro w hSw; clear hSw; go_simp; try with_reducible rfl)
    try simp only [Act.put, List.setIfInBounds_toArray, List.set_cons_zero, List.set_cons_succ]
    refine Late.take (i := 4) (oi := ?_) (v := ?_) ?_ (by kernel_rfl) (by kernel_rfl) (by kernel_rfl) (by kernel_rfl) ?_ ?_ (by assumption) (by assumption) ?_
    rotate_left 2
    focus (simp only [List.getElem?_toArray, List.getElem?_cons_succ, List.getElem?_cons_zero]; rfl)
    focus exact fun _ _ _ h => h
    focus (refine Or.inl ⟨by kernel_rfl, ?_⟩; intro w hSw; clear hSw; go_simp; try with_reducible rfl)
    try simp only [Act.put, List.setIfInBounds_toArray, List.set_cons_zero, List.set_cons_succ]
    refine Late.take (i := 5) (oi := ?_) (v := ?_) ?_ (by kernel_rfl) (by kernel_rfl) (by kernel_rfl) (by kernel_rfl) ?_ ?_ (by assumption) (by assumption) ?_
    rotate_left 2
    focus (simp only [List.getElem?_toArray, List.getElem?_cons_succ, List.getElem?_cons_zero]; rfl)
    focus exact fun _ _ _ h => h
    focus (refine Or.inl ⟨by kernel_rfl, ?_⟩; intro w hSw; clear hSw; go_simp; try with_reducible rfl)
    try simp only [Act.put, List.setIfInBounds_toArray, List.set_cons_zero, List.set_cons_succ]
    refine Late.take (i := 6) (oi := ?_) (v := ?_) ?_ (by kernel_rfl) (by kernel_rfl) (by kernel_rfl) (by kernel_rfl) ?_ ?_ (by assumption) (by assumption) ?_
    rotate_left 2
    focus (simp only [List.getElem?_toArray, List.getElem?_cons_succ, List.getElem?_cons_zero]; rfl)
    focus exact fun _ _ _ h => h
    focus (refine Or.inl ⟨by kernel_rfl, ?_⟩; intro w hSw; clear hSw; go_simp; try with_reducible rfl)
    try simp only [Act.put, List.setIfInBounds_toArray, List.set_cons_zero, List.set_cons_succ]
    refine Late.take (i := 7) (oi := ?_) (v := ?_) ?_ (by kernel_rfl) (by kernel_rfl) (by kernel_rfl) (by kernel_rfl) ?_ ?_ (by assumption) (by assumption) ?_
    rotate_left 2
    focus (simp only [List.getElem?_toArray, List.getElem?_cons_succ, List.getElem?_cons_zero]; rfl)
    focus exact fun _ _ _ h => h
    focus (refine Or.inl ⟨by kernel_rfl, ?_⟩; intro w hSw; clear hSw; go_simp; try with_reducible rfl)
    try simp only [Act.put, List.setIfInBounds_toArray, List.set_cons_zero, List.set_cons_succ]
    refine Late.take (i := 8) (oi := ?_) (v := ?_) ?_ (by kernel_rfl) (by kernel_rfl) (by kernel_rfl) (by kernel_rfl) ?_ ?_ (by assumption) (by assumption) ?_
    rotate_left 2
    focus (simp only [List.getElem?_toArray, List.getElem?_cons_succ, List.getElem?_cons_zero]; rfl)
    focus exact fun _ _ _ h => h
    focus (refine Or.inl ⟨by kernel_rfl, ?_⟩; intro w hSw; clear hSw; go_simp; try with_reducible rfl)
    try simp only [Act.put, List.setIfInBounds_toArray, List.set_cons_zero, List.set_cons_succ]
    refine Late.take (i := 9) (oi := ?_) (v := ?_) ?_ (by kernel_rfl) (by kernel_rfl) (by kernel_rfl) (by kernel_rfl) ?_ ?_ (by assumption) (by assumption) ?_
    rotate_left 2
    focus (simp only [List.getElem?_toArray, List.getElem?_cons_succ, List.getElem?_cons_zero]; rfl)
    focus exact fun _ _ _ h => h
    focus (refine Or.inl ⟨by kernel_rfl, ?_⟩; intro w hSw; clear hSw; go_simp; try with_reducible rfl)
    try simp only [Act.put, List.setIfInBounds_toArray, List.set_cons_zero, List.set_cons_succ]
    refine Late.take (i := 11) (oi := ?_) (v := ?_) ?_ (by kernel_rfl) (by kernel_rfl) (by kernel_rfl) (by kernel_rfl) ?_ ?_ (by assumption) (by assumption) ?_
    rotate_left 2
    focus (simp only [List.getElem?_toArray, List.getElem?_cons_succ, List.getElem?_cons_zero]; rfl)
    focus exact fun _ _ _ h => h
    focus (refine Or.inl ⟨by rfl, ?_⟩; intro w hSw; (try dsimp only at hSw); go_split_ands; go_simp; try with_reducible rfl)
    try simp only [Act.put, List.setIfInBounds_toArray, List.set_cons_zero, List.set_cons_succ]
    refine Late.take (i := 12) (oi := ?_) (v := ?_) ?_ (by kernel_rfl) (by kernel_rfl) (by kernel_rfl) (by kernel_rfl) ?_ ?_ (by assumption) (by assumption) ?_
    rotate_left 2
    focus (simp only [List.getElem?_toArray, List.getElem?_cons_succ, List.getElem?_cons_zero]; rfl)
    focus exact fun _ _ _ h => h
    focus (refine Or.inl ⟨by rfl, ?_⟩; intro w hSw; (try dsimp only at hSw); go_split_ands; go_simp; try with_reducible rfl)
    try simp only [Act.put, List.setIfInBounds_toArray, List.set_cons_zero, List.set_cons_succ]
    refine Late.take (i := 13) (oi := ?_) (v := ?_) ?_ (by kernel_rfl) (by kernel_rfl) (by kernel_rfl) (by kernel_rfl) ?_ ?_ (by assumption) (by assumption) ?_
    rotate_left 2
    focus (simp only [List.getElem?_toArray, List.getElem?_cons_succ, List.getElem?_cons_zero]; rfl)
    focus exact fun _ _ _ h => h
    focus (refine Or.inl ⟨by rfl, ?_⟩; intro w hSw; (try dsimp only at hSw); go_split_ands; go_simp; try with_reducible rfl)
    try simp only [Act.put, List.setIfInBounds_toArray, List.set_cons_zero, List.set_cons_succ]
    refine Late.take (i := 14) (oi := ?_) (v := ?_) ?_ (by kernel_rfl) (by kernel_rfl) (by kernel_rfl) (by kernel_rfl) ?_ ?_ (by assumption) (by assumption) ?_
    rotate_left 2
    focus (simp only [List.getElem?_toArray, List.getElem?_cons_succ, List.getElem?_cons_zero]; rfl)
    focus exact fun _ _ _ h => h
    focus (refine Or.inl ⟨by rfl, ?_⟩; intro w hSw; (try dsimp only at hSw); go_split_ands; go_simp; try with_reducible rfl)
    try simp only [Act.put, List.setIfInBounds_toArray, List.set_cons_zero, List.set_cons_succ]
    refine Late.only (i := 10) (o := ?_) (by kernel_rfl) ?_ (fun K hK => ?_)
    rotate_left 1
    focus (simp only [List.getElem?_toArray, List.getElem?_cons_succ, List.getElem?_cons_zero]; rfl)
    rw [if_pos (by kernel_rfl)]
    go_simp
    refine (gen_any r9.out.p).mono ?_
    rintro e wx ⟨rfl, hw'⟩
    replace hw' := hw'.symm
    subst hw'
    refine hK.out _ _ hS (fun _ => trivial) ?_
    clear hK K
    try simp only [Act.put, List.setIfInBounds_toArray, List.set_cons_zero, List.set_cons_succ]
    refine Late.take (i := 15) (oi := ?_) (v := ?_) ?_ (by kernel_rfl) (by kernel_rfl) (by kernel_rfl) (by kernel_rfl) ?_ ?_ (by assumption) (by assumption) ?_
    rotate_left 2
    focus (simp only [List.getElem?_toArray, List.getElem?_cons_succ, List.getElem?_cons_zero]; rfl)
    focus exact fun _ _ _ h => h
    focus (refine Or.inl ⟨by kernel_rfl, ?_⟩; intro w hSw; clear hSw; go_simp; try with_reducible rfl)
    try simp only [Act.put, List.setIfInBounds_toArray, List.set_cons_zero, List.set_cons_succ]
    refine Late.take (i := 16) (oi := ?_) (v := ?_) ?_ (by kernel_rfl) (by kernel_rfl) (by kernel_rfl) (by kernel_rfl) ?_ ?_ (by assumption) (by assumption) ?_
    rotate_left 2
    focus (simp only [List.getElem?_toArray, List.getElem?_cons_succ, List.getElem?_cons_zero]; rfl)
    focus exact fun _ _ _ h => h
    focus (refine Or.inl ⟨by kernel_rfl, ?_⟩; intro w hSw; clear hSw; go_simp; try with_reducible rfl)
    try simp only [Act.put, List.setIfInBounds_toArray, List.set_cons_zero, List.set_cons_succ]
    refine Late.take (i := 17) (oi := ?_) (v := ?_) ?_ (by kernel_rfl) (by kernel_rfl) (by kernel_rfl) (by kernel_rfl) ?_ ?_ (by assumption) (by assumption) ?_
    rotate_left 2
    focus (simp only [List.getElem?_toArray, List.getElem?_cons_succ, List.getElem?_cons_zero]; rfl)
    focus exact fun _ _ _ h => h
    focus (refine Or.inl ⟨by kernel_rfl, ?_⟩; intro w hSw; clear hSw; go_simp; try with_reducible rfl)
    try simp only [Act.put, List.setIfInBounds_toArray, List.set_cons_zero, List.set_cons_succ]
    refine Late.take (i := 19) (oi := ?_) (v := ?_) ?_ (by kernel_rfl) (by kernel_rfl) (by kernel_rfl) (by kernel_rfl) ?_ ?_ (by assumption) (by assumption) ?_
    rotate_left 2
    focus (simp only [List.getElem?_toArray, List.getElem?_cons_succ, List.getElem?_cons_zero]; rfl)
    focus exact fun _ _ _ h => h
    focus (refine Or.inl ⟨by rfl, ?_⟩; intro w hSw; (try dsimp only at hSw); go_split_ands; go_simp; try with_reducible rfl)
    try simp only [Act.put, List.setIfInBounds_toArray, List.set_cons_zero, List.set_cons_succ]
    refine Late.take (i := 20) (oi := ?_) (v := ?_) ?_ (by kernel_rfl) (by kernel_rfl) (by kernel_rfl) (by kernel_rfl) ?_ ?_ (by assumption) (by assumption) ?_
    rotate_left 2
    focus (simp only [List.getElem?_toArray, List.getElem?_cons_succ, List.getElem?_cons_zero]; rfl)
    focus exact fun _ _ _ h => h
    focus (refine Or.inl ⟨by rfl, ?_⟩; intro w hSw; (try dsimp only at hSw); go_split_ands; go_simp; try with_reducible rfl)
    try simp only [Act.put, List.setIfInBounds_toArray, List.set_cons_zero, List.set_cons_succ]
    refine Late.take (i := 21) (oi := ?_) (v := ?_) ?_ (by kernel_rfl) (by kernel_rfl) (by kernel_rfl) (by kernel_rfl) ?_ ?_ (by assumption) (by assumption) ?_
    rotate_left 2
    focus (simp only [List.getElem?_toArray, List.getElem?_cons_succ, List.getElem?_cons_zero]; rfl)
    focus exact fun _ _ _ h => h
    focus (refine Or.inl ⟨by rfl, ?_⟩; intro w hSw; (try dsimp only at hSw); go_split_ands; go_simp; try with_reducible rfl)
    try simp only [Act.put, List.setIfInBounds_toArray, List.set_cons_zero, List.set_cons_succ]
    refine Late.take (i := 22) (oi := ?_) (v := ?_) ?_ (by kernel_rfl) (by kernel_rfl) (by kernel_rfl) (by kernel_rfl) ?_ ?_ (by assumption) (by assumption) ?_
    rotate_left 2
    focus (simp only [List.getElem?_toArray, List.getElem?_cons_succ, List.getElem?_cons_zero]; rfl)
    focus exact fun _ _ _ h => h
    focus (refine Or.inl ⟨by rfl, ?_⟩; intro w hSw; (try dsimp only at hSw); go_split_ands; go_simp; try with_reducible rfl)
    try simp only [Act.put, List.setIfInBounds_toArray, List.set_cons_zero, List.set_cons_succ]
    refine Late.only (i := 18) (o := ?_) (by kernel_rfl) ?_ (fun K hK => ?_)
    rotate_left 1
    focus (simp only [List.getElem?_toArray, List.getElem?_cons_succ, List.getElem?_cons_zero]; rfl)
    rw [if_pos (by kernel_rfl)]
    go_simp
    refine (records_any r9.out.p (by omega)).mono ?_
    rintro e wA ⟨A9, c9, rfl, o9, b9⟩
    have rA := Lib.hid (r9.out.below b9)
    have hSA := rA.out.s
    have row9 := Lib.hid (Row.of_own o9)
    clear b9 o9 r9 hS hS9
    refine hK.out _ _ hSA (fun _ => trivial) ?_
    clear hK K
    try simp only [Act.put, List.setIfInBounds_toArray, List.set_cons_zero, List.set_cons_succ]
    have hS := hSA
    have ksm := rsame_any A9 A l.list.length l.list.length c9 cc l.list l.list wA row9.out rA.out.row (by omega)
    rw [decide_eq_true rfl] at ksm
    replace ksm := Lib.hid ksm
    refine Late.only (i := 23) (o := ?_) (by kernel_rfl) ?_ (fun K hK => ?_)
    rotate_left 1
    focus (simp only [List.getElem?_toArray, List.getElem?_cons_succ, List.getElem?_cons_zero]; rfl)
    rw [if_pos (by kernel_rfl)]
    go_simp
    refine (ksm.out).mono ?_
    rintro e wB ⟨rfl, q, hq⟩
    have rB := Lib.hid (show Read2 w F2 G2 wB a b k c A cc l D by rw [hq]; exact rA.out.below (below_drewN (Below.refl _ wA) q))
    have hSB := rB.out.s
    clear hq rA ksm row9 hS hSA
    refine hK.out _ _ hSB (fun _ => trivial) ?_
    clear hK K
    try simp only [Act.put, List.setIfInBounds_toArray, List.set_cons_zero, List.set_cons_succ]
    have hS := hSB
    refine Late.take (i := 24) (oi := ?_) (v := ?_) ?_ (by kernel_rfl) (by kernel_rfl) (by kernel_rfl) (by kernel_rfl) ?_ ?_ (by assumption) (by assumption) ?_
    rotate_left 2
    focus (simp only [List.getElem?_toArray, List.getElem?_cons_succ, List.getElem?_cons_zero]; rfl)
    focus exact fun _ _ _ h => h
    focus (refine Or.inl ⟨by kernel_rfl, ?_⟩; intro w hSw; clear hSw; go_simp; try with_reducible rfl)
    try simp only [Act.put, List.setIfInBounds_toArray, List.set_cons_zero, List.set_cons_succ]
    refine Late.take (i := 25) (oi := ?_) (v := ?_) ?_ (by kernel_rfl) (by kernel_rfl) (by kernel_rfl) (by kernel_rfl) ?_ ?_ (by assumption) (by assumption) ?_
    rotate_left 2
    focus (simp only [List.getElem?_toArray, List.getElem?_cons_succ, List.getElem?_cons_zero]; rfl)
    focus exact fun _ _ _ h => h
    focus (refine Or.inl ⟨by kernel_rfl, ?_⟩; intro w hSw; clear hSw; go_simp; try with_reducible rfl)
    try simp only [Act.put, List.setIfInBounds_toArray, List.set_cons_zero, List.set_cons_succ]
    refine Late.take (i := 26) (oi := ?_) (v := ?_) ?_ (by kernel_rfl) (by kernel_rfl) (by kernel_rfl) (by kernel_rfl) ?_ ?_ (by assumption) (by assumption) ?_
    rotate_left 2
    focus (simp only [List.getElem?_toArray, List.getElem?_cons_succ, List.getElem?_cons_zero]; rfl)
    focus exact fun _ _ _ h => h
    focus (refine Or.inl ⟨by kernel_rfl, ?_⟩; intro w hSw; clear hSw; go_simp; try with_reducible rfl)
    try simp only [Act.put, List.setIfInBounds_toArray, List.set_cons_zero, List.set_cons_succ]
    refine Late.take (i := 28) (oi := ?_) (v := ?_) ?_ (by kernel_rfl) (by kernel_rfl) (by kernel_rfl) (by kernel_rfl) ?_ ?_ (by assumption) (by assumption) ?_
    rotate_left 2
    focus (simp only [List.getElem?_toArray, List.getElem?_cons_succ, List.getElem?_cons_zero]; rfl)
    focus exact fun _ _ _ h => h
    focus (refine Or.inl ⟨by kernel_rfl, ?_⟩; intro w hSw; clear hSw; go_simp; try with_reducible rfl)
    try simp only [Act.put, List.setIfInBounds_toArray, List.set_cons_zero, List.set_cons_succ]
    refine Late.only (i := 27) (o := ?_) (by kernel_rfl) ?_ (fun K hK => ?_)
    rotate_left 1
    focus (simp only [List.getElem?_toArray, List.getElem?_cons_succ, List.getElem?_cons_zero]; rfl)
    rw [if_pos (by kernel_rfl)]
    go_simp
    refine (room_any rB.out.p hfit (by omega)).mono ?_
    rintro e wC ⟨rfl, q, hq⟩
    have rC := Lib.hid (show Read2 w F2 G2 wC a b k c A cc l D by rw [hq]; exact rB.out.below (below_drewN (Below.refl _ wB) q))
    have hSC := rC.out.s
    clear hq rB hS hSB
    refine hK.out _ _ hSC (fun _ => trivial) ?_
    clear hK K
    try simp only [Act.put, List.setIfInBounds_toArray, List.set_cons_zero, List.set_cons_succ]
    have hS := hSC
    refine Late.only (i := 29) (o := ?_) (by kernel_rfl) ?_ (fun K hK => ?_)
    rotate_left 1
    focus (simp only [List.getElem?_toArray, List.getElem?_cons_succ, List.getElem?_cons_zero]; rfl)
    rw [if_pos (by kernel_rfl)]
    go_simp
    refine (rroom_any rC.out.r hfit (by omega) (by omega)).mono ?_
    rintro e wD ⟨rfl, bD⟩
    have rD := Lib.hid (rC.out.below bD)
    have hSD := rD.out.s
    clear bD rC hS hSC
    refine hK.out _ _ hSD (fun _ => trivial) ?_
    clear hK K
    try simp only [Act.put, List.setIfInBounds_toArray, List.set_cons_zero, List.set_cons_succ]
    have hS := hSD
    refine Late.take (i := 30) (oi := ?_) (v := ?_) ?_ (by kernel_rfl) (by kernel_rfl) (by kernel_rfl) (by kernel_rfl) ?_ ?_ (by assumption) (by assumption) ?_
    rotate_left 2
    focus (simp only [List.getElem?_toArray, List.getElem?_cons_succ, List.getElem?_cons_zero]; rfl)
    focus exact fun _ _ _ h => h
    focus (refine Or.inl ⟨by kernel_rfl, ?_⟩; intro w hSw; clear hSw; go_simp; try with_reducible rfl)
    try simp only [Act.put, List.setIfInBounds_toArray, List.set_cons_zero, List.set_cons_succ]
    refine Late.take (i := 31) (oi := ?_) (v := ?_) ?_ (by kernel_rfl) (by kernel_rfl) (by kernel_rfl) (by kernel_rfl) ?_ ?_ (by assumption) (by assumption) ?_
    rotate_left 2
    focus (simp only [List.getElem?_toArray, List.getElem?_cons_succ, List.getElem?_cons_zero]; rfl)
    focus exact fun _ _ _ h => h
    focus (refine Or.inl ⟨by kernel_rfl, ?_⟩; intro w hSw; clear hSw; go_simp; try with_reducible rfl)
    try simp only [Act.put, List.setIfInBounds_toArray, List.set_cons_zero, List.set_cons_succ]
    refine Late.take (i := 32) (oi := ?_) (v := ?_) ?_ (by kernel_rfl) (by kernel_rfl) (by kernel_rfl) (by kernel_rfl) ?_ ?_ (by assumption) (by assumption) ?_
    rotate_left 2
    focus (simp only [List.getElem?_toArray, List.getElem?_cons_succ, List.getElem?_cons_zero]; rfl)
    focus exact fun _ _ _ h => h
    focus (refine Or.inl ⟨by kernel_rfl, ?_⟩; intro w hSw; clear hSw; go_simp; try with_reducible rfl)
    try simp only [Act.put, List.setIfInBounds_toArray, List.set_cons_zero, List.set_cons_succ]
    refine Late.take (i := 33) (oi := ?_) (v := ?_) ?_ (by kernel_rfl) (by kernel_rfl) (by kernel_rfl) (by kernel_rfl) ?_ ?_ (by assumption) (by assumption) ?_
    rotate_left 2
    focus (simp only [List.getElem?_toArray, List.getElem?_cons_succ, List.getElem?_cons_zero]; rfl)
    focus exact fun _ _ _ h => h
    focus (refine Or.inl ⟨by kernel_rfl, ?_⟩; intro w hSw; clear hSw; go_simp; try with_reducible rfl)
    try simp only [Act.put, List.setIfInBounds_toArray, List.set_cons_zero, List.set_cons_succ]
    refine Late.take (i := 34) (oi := ?_) (v := ?_) ?_ (by kernel_rfl) (by kernel_rfl) (by kernel_rfl) (by kernel_rfl) ?_ ?_ (by assumption) (by assumption) ?_
    rotate_left 2
    focus (simp only [List.getElem?_toArray, List.getElem?_cons_succ, List.getElem?_cons_zero]; rfl)
    focus exact fun _ _ _ h => h
    focus (refine Or.inl ⟨by kernel_rfl, ?_⟩; intro w hSw; clear hSw; go_simp; try with_reducible rfl)
    try simp only [Act.put, List.setIfInBounds_toArray, List.set_cons_zero, List.set_cons_succ]
    refine Late.done (by kernel_rfl) ?_ _
    clear hS hSD hT
    go_wp2_with fail
    go_ret
    exact ⟨by simp, rD.out.hb⟩
end Go.Proofs.YtojhlijcinenoaaDoor.Nv

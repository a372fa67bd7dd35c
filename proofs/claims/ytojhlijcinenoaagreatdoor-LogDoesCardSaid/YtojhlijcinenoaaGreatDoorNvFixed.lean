/- The log laws' fixed. -/
import Derived.Test.YtojhlijcinenoaaGreatDoorNvHand
namespace Go.Proofs.YtojhlijcinenoaaGreatDoor.Nv
open Go Go.RowKit Go.Maps Mem Disk
def abc : ByteArray := ⟨#[97, 98, 99]⟩
set_option maxRecDepth 100000 in
theorem enc_nil : (enc []).size = 0 := rfl
set_option maxRecDepth 100000 in
theorem enc_abc : (enc [abc]).size = 5 := by
  rw [show [abc] = [] ++ [abc] from rfl, enc_snoc, ByteArray.size_append, enc1_size, enc_nil]
  rfl
section
variable {X Y : Nat → Prop} {N m : Nat} {w w' : World} {a b : Nat} {l l' : Lg} {d d' : Dk}
set_option maxRecDepth 100000 in
theorem Hl.half5 (h : Hl X 5 m w a b l d) : halfD d = 2 := by unfold halfD; rw [h.fn.len]
set_option maxRecDepth 100000 in
theorem fx1 (h : Hl X 5 m w a b ⟨0, [], false⟩ d) (ha : Al 5 d) (hm : m ≤ 900000) : Calls Tryz.prog 5 #[.pointer (some ⟨a, 0, none⟩), .string ⟨#[97, 98, 99]⟩] w fun e w' => e = .returned (.int .i64 0) ∧ ∃ d', Al 5 d' ∧ Hl X 5 (m + 30) w' a b ⟨0, [abc], false⟩ d' ∧ KeepX X w w' := by
  have hh := h.half5
  obtain ⟨a1, a2, a3⟩ := ha.append (l := ⟨0, [], false⟩) (r := abc) h.fn (by decide) rfl (by decide) (by unfold roomL; rw [hh]; show 2 + ((abc.size : Nat) : Int) ≤ _; rw [show (enc (Lg.mk 0 [] false).list).size = 0 from rfl, show abc.size = 3 from rfl]; decide)
  refine (hlappend h hm (by rw [hh]; exact Nat.zero_le _) (Nat.zero_le _) abc).mono ?_
  rintro e w' ⟨rfl, h1, h2⟩
  rw [a2] at h1
  exact ⟨by rw [a1], _, a3, h1, h2⟩
set_option maxRecDepth 100000 in
theorem fxroom {g : Nat} {L : List ByteArray} {k : Nat} (h : Hl X 5 m w a b ⟨g, L, false⟩ d) (hk : (enc L).size = k) (hk2 : k ≤ 128) {z : Int} (hz : 128 - (k : Int) = z) : Calls Tryz.prog 27 #[.pointer (some ⟨a, 0, none⟩)] w fun e w' => e = .returned (.int .i64 z) ∧ ∃ n, w' = w.drewN n := by
  have hh := h.half5
  have c := hlroom h (by show (enc L).size ≤ _; omega)
  unfold roomL at c
  rw [hh, show (enc (Lg.mk g L false).list).size = k from hk, show ((2 : Nat) : Int) * 64 - (k : Int) = z from hz] at c
  exact c
set_option maxRecDepth 100000 in
theorem fx2 (h : Hl X 5 m w a b ⟨0, [abc], false⟩ d) (hm : m ≤ 900000) (s : ByteArray) (hs : s.size = 122) : Calls Tryz.prog 5 #[.pointer (some ⟨a, 0, none⟩), .string s] w fun e w' => e = .returned (.int .i64 72) ∧ Hl X 5 (m + 30) w' a b ⟨0, [abc], false⟩ d ∧ KeepX X w w' := by
  have hh := h.half5
  have e : appendL ⟨0, [abc], false⟩ d s = (⟨0, [abc], false⟩, d, 72) := by
    unfold appendL
    rw [if_neg (by omega), if_neg (by decide), if_pos]
    unfold roomL
    rw [hh, show (enc (Lg.mk 0 [abc] false).list).size = 5 from enc_abc, hs]
    decide
  have c := hlappend h hm (by rw [hh]; show (enc [abc]).size ≤ _; rw [enc_abc]; decide) (by decide) s
  rw [e] at c
  exact c
set_option maxRecDepth 100000 in
theorem fx3 (h : Hl X 5 m w a b ⟨0, [abc], false⟩ d) (ha : Al 5 d) (hm : m ≤ 900000) : Calls Tryz.prog 7 #[.pointer (some ⟨a, 0, none⟩), .int .i64 1] w fun e w' => e = .returned (.int .i64 0) ∧ ∃ d', Hl X 5 (m + 2) w' a b ⟨1, [], false⟩ d' ∧ KeepX X w w' := by
  obtain ⟨a1, a2, a3⟩ := ha.heads h.fn.fit (by decide) ⟨0, [abc], false⟩ (1 : Int).toNat 0
  have e : startL ⟨0, [abc], false⟩ d 1 = (⟨1, [], false⟩, (headsL ⟨0, [abc], false⟩ d (1 : Int).toNat 0).2) := by
    unfold startL
    rw [if_neg (by decide), if_neg (by decide), if_neg (fun hh => hh a1)]
    rfl
  have c := hlstart h hm 1
  rw [e] at c
  refine c.mono ?_
  rintro e w' ⟨rfl, h1, h2⟩
  exact ⟨by rw [a1], _, h1, h2⟩
set_option maxRecDepth 100000 in
theorem fx4 (h : Hl X 5 m w a b ⟨1, [], false⟩ d) (hm : m ≤ 900000) : Calls Tryz.prog 7 #[.pointer (some ⟨a, 0, none⟩), .int .i64 1] w fun e w' => e = .returned (.int .i64 70) ∧ Hl X 5 (m + 2) w' a b ⟨1, [], false⟩ d ∧ KeepX X w w' := by
  have e : startL ⟨1, [], false⟩ d 1 = (⟨1, [], false⟩, d, 70) := by
    unfold startL
    rw [if_pos (by decide)]
  have c := hlstart h hm 1
  rw [e] at c
  exact c
set_option maxRecDepth 100000 in
theorem fx5 (h : Hl X 5 m w a b ⟨1, [], false⟩ d) (hm : m ≤ 900000) (s : ByteArray) (hs : s.size = 1301) : Calls Tryz.prog 5 #[.pointer (some ⟨a, 0, none⟩), .string s] w fun e w' => e = .returned (.int .i64 71) ∧ Hl X 5 (m + 30) w' a b ⟨1, [], false⟩ d ∧ KeepX X w w' := by
  have hh := h.half5
  have e : appendL ⟨1, [], false⟩ d s = (⟨1, [], false⟩, d, 71) := by
    unfold appendL
    rw [if_pos (by omega)]
  have c := hlappend h hm (by rw [hh]; exact Nat.zero_le _) (Nat.zero_le _) s
  rw [e] at c
  exact c
set_option maxRecDepth 100000 in
theorem Bothl.hand {w0 w : World} {a b k c : Nat} {l : Lg} {d : Dk} (h : Bothl w0 w a b k c l d) (hf : Fn N m d) (hb : Below w0.heap.size w0 w) : Hl (fun i => i < w0.heap.size) N m w a b l d := by
  obtain ⟨F, G, h1, h2, h3, h4, h5⟩ := h
  exact ⟨⟨F, h1, fun i hi hx => Nat.lt_irrefl _ (Nat.lt_of_lt_of_le hx (h3 i hi))⟩, fun i hi => Nat.lt_of_lt_of_le hi hb.size, hf⟩
end
set_option maxRecDepth 100000 in
theorem row_of_new (W : World) (t : TypeId) (v : Value) : Row (W.alloc (.cells #[v] t)) (some ⟨W.heap.size, 0, none⟩) 1 [v] :=
  ⟨rfl, fun k u h => by
    match k, h with
    | 0, h =>
      injection h with h
      subst h
      exact ⟨_, rfl, (Blk.new W t #[v]).cell 0⟩
    | k + 1, h => cases h⟩
set_option maxRecDepth 100000 in
theorem fx7 {W : World} {B : Nat} (A : Option Addr) (c : Nat) (hr : W.ownsRow B 9 1 (.slice A [abc].length c) [abc].length ([abc].map Value.string)) : Calls Tryz.prog 31 #[.slice A 1 c, .slice (some ⟨W.heap.size, 0, none⟩) 1 1] (W.alloc (.cells #[.string ⟨#[97, 98, 99]⟩] 9)) fun e w' => e = .returned (.bool true) ∧ ∃ q, w' = (W.alloc (.cells #[.string ⟨#[97, 98, 99]⟩] 9)).drewN q := by
  have k := rsame_any A (some ⟨W.heap.size, 0, none⟩) 1 1 c 1 [abc] [abc] (W.alloc (.cells #[.string ⟨#[97, 98, 99]⟩] 9)) ((Row.of_own hr).below ((Below.refl _ _).alloc (Nat.le_refl _) _)) (row_of_new W 9 (.string abc)) (by decide)
  rw [decide_eq_true rfl] at k
  exact k
set_option maxRecDepth 100000 in
theorem zz_size (n : Nat) : (zeroB_ n).size = n := by simp [zeroB_, ByteArray.size]
set_option maxRecDepth 100000 in
set_option maxHeartbeats 8000000 in
theorem fixed_any (w : World) : Calls Tryz.prog 19 #[] w fun e w' => e = .returned (.bool true) ∧ Below w.heap.size w w' := by
  obtain ⟨i0, hinf, hz0, hz1, hz2⟩ := info_parts infoU8
  have k0 := Lib.hid (laid_yes 5 0 w (by decide) (by decide))
  obtain ⟨q0, q1, q2⟩ := laidD_ok (N := 5) (by decide) (by decide) 0
  clear q0
  replace q1 := Lib.hid q1
  replace q2 := Lib.hid q2
  go_enter Tryz.func19, Tryz.ntmps19
  go_wp2_with fail
  refine k0.out.mono ?_
  rintro e w1 ⟨a, b, k, c, rfl, h, hb⟩
  replace h := Lib.hid ((show Bothl w w1 a b k c ⟨0, [], false⟩ (laidD 5 0) from h).hand q2.out hb)
  replace hb := Lib.hid hb
  clear k0
  go_wp2_with fail
  refine (fxroom h.out enc_nil (by decide) (z := 128) rfl).mono ?_
  rintro e w2 ⟨rfl, n2, rfl⟩
  replace h := Lib.hid (h.out.below (below_drewN (Below.refl _ w1) n2))
  replace hb := Lib.hid (below_drewN hb.out n2)
  generalize w1.drewN n2 = w2 at h hb
  go_wp2_with fail
  refine (fx1 h.out q1.out (by decide)).mono ?_
  rintro e w3 ⟨rfl, d3, al3, h3, k3⟩
  replace h := Lib.hid h3
  replace hb := Lib.hid (hb.out.trans (k3.toBelow (fun i hi => hi) hb.out.size))
  replace al3 := Lib.hid al3
  clear h3 k3 q1 q2
  go_wp2_with fail
  refine (fxroom h.out enc_abc (by decide) (z := 123) rfl).mono ?_
  rintro e w4 ⟨rfl, n4, rfl⟩
  replace h := Lib.hid (h.out.below (below_drewN (Below.refl _ w3) n4))
  replace hb := Lib.hid (below_drewN hb.out n4)
  generalize w3.drewN n4 = w4 at h hb
  go_wp2_with (first | (at_make; refine wpList_make_full _ rfl _ _ _ rfl w4.heap.size 5 i0 (.int .u8 0) 1 Tryz.underlying71 hinf hz0 hz1 .i64 .i64 _ _ 122 rfl rfl rfl rfl (by rw [hz2]; omega) (by unfold maxLen; omega) (Nat.le_refl _) ?_; intro w5 ho2 hg2; have hcv := zero_row ho2; have hbm : Below w4.heap.size w4 w5 := ⟨hg2.os, hg2.tape, hg2.output, hg2.size, fun k hk => hg2.block k hk (by simp)⟩; clear ho2 hg2; have hbm2 := Lib.hid hbm; clear hbm; have hm := Lib.hid (h.out.below hbm2.out); have hbq := Lib.hid (hb.out.trans (hbm2.out.mono hb.out.size)); clear hbm2 h hb; obtain ⟨Z, hZ⟩ : ∃ Z, Z = zeroB_ 122 := ⟨_, rfl⟩; rw [← hZ] at hcv; have hZ2 := Lib.hid (show Z.size = 122 by rw [hZ]; exact zz_size _); clear hZ))
  refine (fx2 hm.out (by decide) Z hZ2.out).mono ?_
  rintro e w6 ⟨rfl, h6, k6⟩
  have h := Lib.hid h6
  have hb := Lib.hid (hbq.out.trans (k6.toBelow (fun i hi => hi) hbq.out.size))
  clear h6 k6 hm hbq hcv hZ2
  go_wp2_with fail
  refine (hlrecords h.out (by decide)).mono ?_
  rintro e w7 ⟨A, cc, rfl, row7, b7⟩
  obtain ⟨H, hH⟩ : ∃ H, H = w6.heap.size := ⟨_, rfl⟩
  have h7 := h.out.also (Y := fun i => i < w.heap.size ∨ (H ≤ i ∧ i < w7.heap.size)) b7 (fun i hi => by rw [hH] at hi; exact hi)
  have hb7 := hb.out.trans (b7.mono hb.out.size)
  have hHle : w.heap.size ≤ H := by rw [hH]; exact hb.out.size
  rw [← hH] at row7
  obtain ⟨Y, hY⟩ : ∃ Y, Y = fun i => i < w.heap.size ∨ (H ≤ i ∧ i < w7.heap.size) := ⟨_, rfl⟩
  have hYl := Lib.hid (fun i (hi : i < w.heap.size) => (show Y i by rw [hY]; exact Or.inl hi))
  have hYr := Lib.hid (fun i (hi : H ≤ i ∧ i < w7.heap.size) => (show Y i by rw [hY]; exact Or.inr hi))
  rw [← hY] at h7
  have hYo := Lib.hid (fun j (hj : (Value.slice A [abc].length cc).ownBlock = some j) => hYr.out j (row7.lt j hj))
  clear hY hH h hb hYr
  replace row7 := Lib.hid row7
  have h := Lib.hid h7
  have hb := Lib.hid hb7
  clear h7 hb7 b7 hHle
  go_wp2_with fail
  refine (fx3 h.out al3.out (by decide)).mono ?_
  rintro e w8 ⟨rfl, d8, h8, k8⟩
  replace h := Lib.hid h8
  replace row7 := Lib.hid (k8.row row7.out hYo.out)
  replace hb := Lib.hid (hb.out.trans (k8.toBelow hYl.out hb.out.size))
  clear h8 k8 al3
  go_wp2_with fail
  refine (fx4 h.out (by decide)).mono ?_
  rintro e w9 ⟨rfl, h9, k9⟩
  replace h := Lib.hid h9
  replace row7 := Lib.hid (k9.row row7.out hYo.out)
  replace hb := Lib.hid (hb.out.trans (k9.toBelow hYl.out hb.out.size))
  clear h9 k9
  go_wp2_with (first | (at_make; refine wpList_make_full _ rfl _ _ _ rfl w9.heap.size 5 i0 (.int .u8 0) 1 Tryz.underlying71 hinf hz0 hz1 .i64 .i64 _ _ 1301 rfl rfl rfl rfl (by rw [hz2]; omega) (by unfold maxLen; omega) (Nat.le_refl _) ?_; intro w10 ho2 hg2; have hcv := zero_row ho2; have hbm : Below w9.heap.size w9 w10 := ⟨hg2.os, hg2.tape, hg2.output, hg2.size, fun k hk => hg2.block k hk (by simp)⟩; clear ho2 hg2; have hbm2 := Lib.hid hbm; clear hbm; have hm := Lib.hid (h.out.below hbm2.out); have hbq := Lib.hid (hb.out.trans (hbm2.out.mono hb.out.size)); have rowm := Lib.hid (own_keeps row7.out (Keeps.of_below (fun _ => False) hbm2.out) (fun _ _ h => h)); clear hbm2 h hb row7; obtain ⟨Z, hZ⟩ : ∃ Z, Z = zeroB_ 1301 := ⟨_, rfl⟩; rw [← hZ] at hcv; have hZ2 := Lib.hid (show Z.size = 1301 by rw [hZ]; exact zz_size _); clear hZ))
  refine (fx5 hm.out (by decide) Z hZ2.out).mono ?_
  rintro e w11 ⟨rfl, h11, k11⟩
  have h := Lib.hid h11
  have hb := Lib.hid (hbq.out.trans (k11.toBelow hYl.out hbq.out.size))
  have row7 := Lib.hid (k11.row rowm.out hYo.out)
  clear h11 k11 hm hbq hcv hZ2 rowm
  have kS := fx7 A cc row7.out
  obtain ⟨w12, hw12⟩ : ∃ w12, w12 = w11.alloc (.cells #[.string ⟨#[97, 98, 99]⟩] 9) := ⟨_, rfl⟩
  have b12 : Below w11.heap.size w11 w12 := by rw [hw12]; exact (Below.refl _ _).alloc (Nat.le_refl _) _
  have h12 := Lib.hid (fun n => h.out.below (below_drewN b12 n))
  have hb12 := Lib.hid (fun n => below_drewN (hb.out.trans (b12.mono hb.out.size)) n)
  rw [← hw12] at kS
  replace kS := Lib.hid kS
  clear b12 h hb row7 hYo hYl
  go_wp2_with fail
  rw [← hw12]
  refine kS.out.mono ?_
  rintro e w13 ⟨rfl, n13, rfl⟩
  replace h12 := Lib.hid (h12.out n13)
  replace hb12 := Lib.hid (hb12.out n13)
  generalize w12.drewN n13 = w13 at h12 hb12
  clear kS hw12
  go_wp2_with fail
  refine (fxroom h12.out enc_nil (by decide) (z := 128) rfl).mono ?_
  rintro e w14 ⟨rfl, n14, rfl⟩
  replace h12 := Lib.hid (h12.out.below (below_drewN (Below.refl _ w13) n14))
  replace hb12 := Lib.hid (below_drewN hb12.out n14)
  generalize w13.drewN n14 = w14 at h12 hb12
  go_wp2_with fail
  refine (hlrecords h12.out (Nat.zero_le _)).mono ?_
  rintro e w15 ⟨A2, c2, rfl, row15, b15⟩
  replace h12 := Lib.hid (h12.out.below b15)
  replace hb12 := Lib.hid (hb12.out.trans (b15.mono hb12.out.size))
  clear row15 b15
  go_wp2_with fail
  refine (hlgen h12.out).mono ?_
  rintro e w16 ⟨rfl, rfl⟩
  go_wp2_with fail
  refine (hldead h12.out).mono ?_
  rintro e w16 ⟨rfl, rfl⟩
  go_wp2_with fail
  go_ret
  exact ⟨rfl, hb12.out⟩
end Go.Proofs.YtojhlijcinenoaaGreatDoor.Nv

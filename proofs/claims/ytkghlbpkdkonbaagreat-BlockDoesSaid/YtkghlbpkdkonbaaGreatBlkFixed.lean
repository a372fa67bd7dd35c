/- The block laws' fixed. -/
import Derived.Test.YtkghlbpkdkonbaaGreatBlkHand
namespace Go.Proofs.YtkghlbpkdkonbaaGreat.Vl
open Go Go.RowKit Go.Maps Mem Disk Nv
section
variable {X Y : Nat → Prop} {N m : Nat} {w w' : World} {a b : Nat} {v v' : Vo} {d d' : Dk} {cur : Nat → ByteArray}
/-- a living volume at a law: what its sectors are; what is kept is right -/
structure Hs (X : Nat → Prop) (N m : Nat) (w : World) (a b : Nat) (v : Vo) (d : Dk) (cur : Nat → ByteArray) : Prop where
  h : Hv X N m w a b v d
  st : St d N cur (fun _ => false)
  coh : Coh cur v.L
  keys : ∀ k s, find v.L k = some s → 1 ≤ k
  live : v.dead = false
set_option maxRecDepth 100000 in
theorem Hs.below (h : Hs X N m w a b v d cur) (hb : Below w.heap.size w w') : Hs X N m w' a b v d cur := ⟨h.h.below hb, h.st, h.coh, h.keys, h.live⟩
set_option maxRecDepth 100000 in
theorem Hs.also (h : Hs X N m w a b v d cur) (hb : Below w.heap.size w w') (hY : ∀ i, Y i → X i ∨ (w.heap.size ≤ i ∧ i < w'.heap.size)) : Hs Y N m w' a b v d cur := ⟨h.h.also hb hY, h.st, h.coh, h.keys, h.live⟩
set_option maxRecDepth 100000 in
theorem Hs.sub (h : Hs X N m w a b v d cur) (hY : ∀ i, Y i → X i) : Hs Y N m w a b v d cur := ⟨h.h.sub hY, h.st, h.coh, h.keys, h.live⟩
set_option maxRecDepth 100000 in
theorem Hs.turn (h : Hs X N m w a b v d cur) (hk : Keeps X w w') : Hs X N m w' a b v d cur := ⟨h.h.turn hk, h.st, h.coh, h.keys, h.live⟩
set_option maxRecDepth 100000 in
theorem Hs.more {k : Nat} (h : Hs X N m w a b v d cur) (hk : m ≤ k) : Hs X N k w a b v d cur := ⟨h.h.more hk, h.st, h.coh, h.keys, h.live⟩
set_option maxRecDepth 100000 in
theorem hswrite (h : Hs X N m w a b v d cur) (hm : m ≤ 900000) {n : Nat} (h1 : 1 ≤ n) (h2 : n < N / 4) {p : ByteArray} (hp : p.size ≤ 240) :
    Calls Tryz.prog 7 #[.pointer (some ⟨a, 0, none⟩), .int .i64 (n : Int), .string p] w fun e w' => e = .returned (.int .i64 0) ∧ ∃ d', Hs X N (m + 4) w' a b { v with L := putK v.L n p } d' (curW cur (frameB p) n 0 4) ∧ KeepX X w w' := by
  obtain ⟨d', e1, e2⟩ := st_writeV h.st h.h.fn.len h1 h2 hp h.live
  have k := hvwrite h.h hm (n : Int) p (by omega)
  rw [e1] at k
  refine k.mono ?_
  rintro e w' ⟨rfl, h3, h4⟩
  exact ⟨rfl, d', ⟨h3, e2, h.coh.write hp, fun j s hj => (find_put hj).elim (fun q => by rw [q.1]; exact h1) (fun q => h.keys j s q.2), h.live⟩, h4⟩
set_option maxRecDepth 100000 in
theorem hscommit (h : Hs X N m w a b v d cur) (hm : m ≤ 900000) (hN : 2 ≤ N) {text : ByteArray} (ht : text.size ≤ 40) (hn : v.num < 1099511627776) :
    Calls Tryz.prog 9 #[.pointer (some ⟨a, 0, none⟩), .string text] w fun e w' => e = .returned (.int .i64 0) ∧ ∃ d', Hs X N (m + 3) w' a b ⟨text, v.num + 1, v.L, v.dead⟩ d' (curR cur text (v.num + 1)) ∧ KeepX X w w' := by
  obtain ⟨d', e1, e2⟩ := st_commitV (v := v) h.st h.h.fn.fit hN ht h.live hn
  have k := hvcommit h.h hm text
  rw [e1] at k
  refine k.mono ?_
  rintro e w' ⟨rfl, h3, h4⟩
  exact ⟨rfl, d', ⟨h3, e2, h.coh.root h.keys, h.keys, h.live⟩, h4⟩
set_option maxRecDepth 100000 in
theorem hsread (h : Hs X N m w a b v d cur) {n : Nat} (h1 : 1 ≤ n) (h2 : n < N / 4) :
    Calls Tryz.prog 5 #[.pointer (some ⟨a, 0, none⟩), .int .i64 (n : Int)] w fun e w' => e = .returned (.tuple #[.string (unframeV (blkC cur n)).1, .int .i64 (unframeV (blkC cur n)).2]) ∧ ∃ L', Hs X N m w' a b { v with L := L' } d cur ∧ KeepX X w w' := by
  obtain ⟨L', e1, e2, e3⟩ := st_readV h.st h.h.fn.len h.coh h.live h1 h2
  have k := hvread h.h (n : Int)
  rw [e1] at k
  refine k.mono ?_
  rintro e w' ⟨rfl, h3, h4⟩
  exact ⟨rfl, L', ⟨h3, h.st, e2, fun j s hj => (e3 j s hj).elim (fun q => by rw [q]; exact h1) (fun ⟨t, q⟩ => h.keys j t q), h.live⟩, h4⟩
set_option maxRecDepth 100000 in
theorem hsopen (h : Hs X N m w a b v d cur) (hg : 8 ≤ N / 4 ∧ N / 4 ≤ 4096) {t : ByteArray} {n : Nat} (h1 : 1 ≤ n) (h2 : n ≤ 1099511627776) (ht : t.size ≤ 40) (hc : cur (n % 2) = rootB t n) (ho : (parseV (cur ((n + 1) % 2)) ((n + 1) % 2)).2 < n) :
    Calls Tryz.prog 19 #[.pointer (some ⟨b, 0, none⟩)] w fun e w' => ∃ a', e = .returned (.tuple #[.pointer (some ⟨a', 0, none⟩), .int .i64 0]) ∧ Hs X N m w' a' b ⟨t, n, [], false⟩ d cur ∧ Below w.heap.size w w' := by
  refine (hvopen h.h (st_openV h.st h.h.fn.len hg h1 h2 ht hc ho)).mono ?_
  rintro e w' ⟨a', rfl, h3, h4⟩
  exact ⟨a', rfl, ⟨h3, h.st, Coh.nil, (fun k s hk => by cases hk), rfl⟩, h4⟩
end
set_option maxRecDepth 100000 in
theorem laid_hs {w0 w : World} {a b k c N : Nat} {text : ByteArray} (h1 : 32 ≤ N) (h2 : N ≤ 16384) (ht : text.size ≤ 40) (h : Bothv w0 w a b k c ⟨text, 1, [], false⟩ (laidV N text)) (hb : Below w0.heap.size w0 w) :
    Hs (fun i => i < w0.heap.size) N 3 w a b ⟨text, 1, [], false⟩ (laidV N text) (cur0 text) := by
  obtain ⟨_, _, e3, e4, _⟩ := laidV_ok h1 h2 ht
  exact ⟨h.hand e4 hb, e3, Coh.nil, (fun k s hk => by cases hk), rfl⟩
set_option maxRecDepth 100000 in
theorem blk0 {text : ByteArray} {n : Nat} (hn : 1 ≤ n) : blkC (cur0 text) n = noughts 256 := by
  have e : ∀ i, 4 ≤ i → cur0 text i = noughts 64 := fun i hi => by unfold cur0; rw [if_neg (by omega)]
  unfold blkC
  rw [e _ (by omega), e _ (by omega), e _ (by omega), e _ (by omega)]
  rfl
def fxA : ByteArray := ⟨#[97]⟩
def fxB : ByteArray := ⟨#[98]⟩
def fxX : ByteArray := ⟨#[120]⟩
set_option maxRecDepth 100000 in
set_option maxHeartbeats 8000000 in
theorem fixed_any (w : World) : Calls Tryz.prog 21 #[] w fun e w' => e = .returned (.bool true) ∧ Below w.heap.size w w' := by
  obtain ⟨i0, hinf, hz0, hz1, hz2⟩ := info_parts infoU8x
  have k0 := Lib.hid (laid_yes 32 ⟨#[97]⟩ w (by decide) (by decide))
  go_enter Tryz.func21, Tryz.ntmps21
  go_wp2_with fail
  refine k0.out.mono ?_
  rintro e w1 ⟨a, b, k, c, rfl, h, hb⟩
  replace h := Lib.hid (laid_hs (N := 32) (by decide) (by decide) (show (ByteArray.mk #[97]).size ≤ 40 by decide) h hb)
  replace hb := Lib.hid hb
  clear k0
  go_wp2_with fail
  refine (hvroot h.out.h).mono ?_
  rintro e w2 ⟨rfl, n2, rfl⟩
  replace h := Lib.hid (h.out.below (below_N _ n2))
  replace hb := Lib.hid (below_drewN hb.out n2)
  go_wp2_with fail
  refine (hswrite h.out (by decide) (n := 1) (by decide) (by decide) (p := ⟨#[120]⟩) (by decide)).mono ?_
  rintro e w3 ⟨rfl, d1, h', kx⟩
  replace hb := Lib.hid (hb.out.trans (kx.toBelow (fun i hi => hi) hb.out.size))
  clear kx h
  replace h := Lib.hid h'
  clear h'
  go_wp2_with fail
  refine (hscommit h.out (by decide) (by decide) (text := ⟨#[98]⟩) (by decide) (by decide)).mono ?_
  rintro e w4 ⟨rfl, d2, h', kx⟩
  replace hb := Lib.hid (hb.out.trans (kx.toBelow (fun i hi => hi) hb.out.size))
  clear kx h
  replace h := Lib.hid h'
  clear h'
  obtain ⟨cur, hcur⟩ : ∃ cur, cur = curR (curW (cur0 ⟨#[97]⟩) (frameB ⟨#[120]⟩) 1 0 4) ⟨#[98]⟩ (1 + 1) := ⟨_, rfl⟩
  have g1 : unframeV (blkC cur 1) = (⟨#[120]⟩, 0) := by
    rw [hcur, blk_congr (cur' := curW (cur0 ⟨#[97]⟩) (frameB ⟨#[120]⟩) 1 0 4) (fun i h1 _ => by unfold curR; rw [if_neg (by omega)]), blk_same (frameB_size (by decide))]
    exact unframe_frame (by decide)
  have g2 : unframeV (blkC cur 2) = (⟨#[]⟩, 82) := by
    rw [hcur, blk_congr (cur' := curW (cur0 ⟨#[97]⟩) (frameB ⟨#[120]⟩) 1 0 4) (fun i h1 _ => by unfold curR; rw [if_neg (by omega)]), blk_other (by decide), blk0 (by decide)]
    exact unframe_noughts
  have g3 : cur 0 = rootB ⟨#[98]⟩ 2 := by rw [hcur]; unfold curR; rw [if_pos (by decide)]
  have g4 : cur 1 = rootB ⟨#[97]⟩ 1 := by
    rw [hcur]
    unfold curR curW cur0
    rw [if_neg (by decide), if_neg (by decide), if_pos rfl]
  rw [← hcur] at h
  clear hcur
  go_wp2_with fail
  refine (hvroot h.out.h).mono ?_
  rintro e w2 ⟨rfl, n2, rfl⟩
  replace h := Lib.hid (h.out.below (below_N _ n2))
  replace hb := Lib.hid (below_drewN hb.out n2)
  have kr := hsread h.out (n := 1) (by decide) (by decide)
  rw [g1] at kr
  replace kr := Lib.hid kr
  go_wp2_with fail
  refine kr.out.mono ?_
  rintro e w5 ⟨rfl, L5, h', kx⟩
  clear kr
  replace hb := Lib.hid (hb.out.trans (kx.toBelow (fun i hi => hi) hb.out.size))
  clear kx h
  replace h := Lib.hid h'
  clear h'
  have kr := hsread h.out (n := 2) (by decide) (by decide)
  rw [g2] at kr
  replace kr := Lib.hid kr
  clear g1 g2
  go_wp2_with fail
  refine kr.out.mono ?_
  rintro e w6 ⟨rfl, L6, h', kx⟩
  clear kr
  replace hb := Lib.hid (hb.out.trans (kx.toBelow (fun i hi => hi) hb.out.size))
  clear kx h
  replace h := Lib.hid h'
  clear h'
  have k0 := hvwrite h.out.h (by decide) 0 ⟨#[120]⟩ (by decide)
  rw [show writeV (⟨⟨#[98]⟩, 1 + 1, L6, false⟩ : Vo) d2 0 ⟨#[120]⟩ = (⟨⟨#[98]⟩, 1 + 1, L6, false⟩, d2, 81) from if_pos (fun hh => absurd hh.1 (by decide))] at k0
  replace k0 := Lib.hid k0
  go_wp2_with fail
  refine k0.out.mono ?_
  rintro e w7 ⟨rfl, hh, kx⟩
  have h' : Hs (fun i => i < w.heap.size) 32 14 w7 a b ⟨⟨#[98]⟩, 1 + 1, L6, false⟩ d2 cur := ⟨hh, h.out.st, h.out.coh, h.out.keys, rfl⟩
  clear hh k0
  replace hb := Lib.hid (hb.out.trans (kx.toBelow (fun i hi => hi) hb.out.size))
  clear kx h
  replace h := Lib.hid h'
  clear h'
  have k1 := fun W (hw : Hs (fun i => i < w.heap.size) 32 14 W a b ⟨⟨#[98]⟩, 1 + 1, L6, false⟩ d2 cur) => hvwrite hw.h (by decide) 1 (zeroB_ 241) (by rw [zeroB_size]; decide)
  have hw1 : writeV (⟨⟨#[98]⟩, 1 + 1, L6, false⟩ : Vo) d2 1 (zeroB_ 241) = (⟨⟨#[98]⟩, 1 + 1, L6, false⟩, d2, 83) := by
    unfold writeV
    rw [if_neg (fun hh => hh (show mayV d2 1 from ⟨by decide, by rw [fn_blocks h.out.h.fn]; decide⟩)), if_pos (by rw [zeroB_size]; decide)]
  rw [hw1] at k1
  clear hw1
  replace k1 := Lib.hid k1
  have hs0 := Lib.hid hb.out.size
  go_wp2_with (first | (at_make; refine wpList_make_full _ rfl _ _ _ rfl 0 5 i0 (.int .u8 0) 1 Tryz.underlying72 hinf hz0 hz1 .i64 .i64 _ _ 241 rfl rfl rfl rfl (by rw [hz2]; omega) (by unfold maxLen; omega) (Nat.zero_le _) ?_; intro w8 ho2 hg2; have hcv := zero_row ho2; have b2 : Below w7.heap.size w7 w8 := ⟨hg2.os, hg2.tape, hg2.output, hg2.size, fun k hk => hg2.block k hk (by simp)⟩; have h8 := Lib.hid (h.out.below b2); have hb8 := Lib.hid (hb.out.trans (b2.mono hs0.out)); clear ho2 hg2 b2))
  refine (k1.out _ h8.out).mono ?_
  rintro e w9 ⟨rfl, hh, kx⟩
  have h' : Hs (fun i => i < w.heap.size) 32 18 w9 a b ⟨⟨#[98]⟩, 1 + 1, L6, false⟩ d2 cur := ⟨hh, h8.out.st, h8.out.coh, h8.out.keys, rfl⟩
  replace hb := Lib.hid (hb8.out.trans (kx.toBelow (fun i hi => hi) hb8.out.size))
  clear hh k1 hcv h8 hb8 h kx hs0
  have h := Lib.hid h'
  clear h'
  have ko := Lib.hid (hsopen h.out (by decide) (t := ⟨#[98]⟩) (n := 2) (by decide) (by decide) (by decide) g3 (by
    show (parseV (cur 1) 1).2 < 2
    rw [g4, parse_root (by decide) (by decide) (by decide) (by decide)]
    decide))
  clear g3 g4
  go_wp2_with fail
  refine ko.out.mono ?_
  rintro e w10 ⟨a', rfl, h', b10⟩
  replace hb := Lib.hid (hb.out.trans (b10.mono hb.out.size))
  replace h := Lib.hid (h.out.below b10)
  replace h' := Lib.hid h'
  clear b10 ko
  go_wp2_with fail
  refine (hvroot h'.out.h).mono ?_
  rintro e w2 ⟨rfl, n2, rfl⟩
  replace h := Lib.hid (h.out.below (below_N _ n2))
  replace hb := Lib.hid (below_drewN hb.out n2)
  clear h'
  have kf := fun W => frame_any ⟨#[120]⟩ W (by decide)
  rw [show frameV ⟨#[120]⟩ = (frameB ⟨#[120]⟩, 0) from if_neg (by decide)] at kf
  have ku := fun W => unframe_any (frameB ⟨#[120]⟩) W
  rw [unframe_frame (show (ByteArray.mk #[120]).size ≤ 240 by decide)] at ku
  have fs : (frameB ⟨#[120]⟩).size = 256 := frameB_size (by decide)
  generalize frameB ⟨#[120]⟩ = T at kf ku fs
  replace kf := Lib.hid kf
  replace ku := Lib.hid ku
  go_wp2_with fail
  refine (kf.out _).mono ?_
  rintro e w11 ⟨rfl, b11⟩
  replace hb := Lib.hid (hb.out.trans (b11.mono hb.out.size))
  replace h := Lib.hid (h.out.below b11)
  clear b11
  go_wp2_with fail
  refine (ku.out _).mono ?_
  rintro e w12 ⟨rfl, b12⟩
  replace hb := Lib.hid (hb.out.trans (b12.mono hb.out.size))
  replace h := Lib.hid (h.out.below b12)
  clear b12
  go_wp2_with fail
  refine (hvblocks h.out.h).mono ?_
  rintro e w13 ⟨rfl, hw13⟩
  replace hw13 := hw13.symm
  subst hw13
  go_wp2_with fail
  go_ret
  exact ⟨rfl, hb.out⟩
end Go.Proofs.YtkghlbpkdkonbaaGreat.Vl

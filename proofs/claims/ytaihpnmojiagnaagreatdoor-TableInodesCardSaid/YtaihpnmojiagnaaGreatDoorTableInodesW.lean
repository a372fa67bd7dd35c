/- TableInodes: the bytes of any inodes, and the inodes of any bytes, are as the document says; what is told is its owner's. -/
import Derived.Test.YtaihpnmojiagnaaGreatDoorTableGC
namespace Go.Proofs.YtaihpnmojiagnaaGreatDoor.Table
open Go.RowKit Mem Wire

theorem own_blk {w : World} {base n c sz : Nat} {t : TypeId} {A : Option Addr} {xs : List Value} (h : w.ownsRow base t sz (.slice A n c) n xs) (hn : 0 < n) : ∃ g cur, A = some ⟨g, 0, none⟩ ∧ base ≤ g ∧ Blk w g t cur ∧ n * sz ≤ cur.size := by
  rcases h.2 with ⟨_, h1⟩ | ⟨g, cap, cur, hv, hb, hg, hc, _, hs, _⟩
  · omega
  · injection hv with hA
    exact ⟨g, cur, hA, hb, hg, by rw [hs]; exact Nat.mul_le_mul_right _ hc⟩
theorem cur_some {cur : Array Value} {i : Nat} (h : i < cur.size) : ∃ v, cur[i]? = some v := ⟨_, Array.getElem?_eq_getElem h⟩

set_option maxRecDepth 100000 in
set_option maxHeartbeats 8000000 in
theorem inodes_law (A : Option Addr) (n c : Nat) (l : List Ino) (s : ByteArray) (w : World) (hL : Laid w) (hr : Row w A (n * 5) (l.flatMap inoC)) (hln : l.length = n) (hnm : n ≤ 9223372036854775807) (hbig : ∀ x ∈ l, inoN x) (hs : s.size ≤ 140737488355328) :
    Calls Tryz.prog 3 #[.slice A n c, .string s] w fun e w' => e = .returned (.bool true) ∧ Below w.heap.size w w' := by
  have hp := hL.pos
  have k1 := fun W (h : Row W A (n * 5) (l.flatMap inoC)) => inodes_out A n c l W h hln (fun _ _ => trivial) hnm
  have k2 := fun W (h : Row W A (n * 5) (l.flatMap inoC)) => ino_rl A n c l W h hln hbig hnm
  have k3 := fun W (h : Laid W) => parseInodes_any s W h (Nat.le_trans hs (by decide))
  have hpl : ∀ m, parseS inoK s.data.toList = some m → m.length ≤ 4096 := fun m hm => (lays_len_I (parse_inv hm)).2
  have k4 := fun W => ino_rparse s W hs
  rw [parse_eq good_ino] at k4
  generalize lays inoK l = lv at k1 k2
  generalize parseS inoK s.data.toList = p at k3 k4 hpl
  obtain ⟨pl, hpp⟩ : ∃ pl, p.getD [] = pl := ⟨_, rfl⟩
  have hpl4 : pl.length ≤ 4096 := by
    cases p with
    | none => rw [← hpp]; exact Nat.zero_le _
    | some m => rw [← hpp]; exact hpl m rfl
  clear hpl
  unfold ParsePost at k3 k4
  rw [hpp] at k3 k4
  obtain ⟨pe, hpe⟩ : ∃ pe : Int, (if p.isSome then 0 else 120) = pe := ⟨_, rfl⟩
  rw [hpe] at k3 k4
  clear hpe hpp
  replace hr := Lib.hid hr
  clear hln hbig
  replace k1 := Lib.hid k1
  replace k2 := Lib.hid k2
  replace k3 := Lib.hid k3
  replace k4 := Lib.hid k4
  have hb := Lib.hid (Below.refl w.heap.size w)
  have hz := hb.out.size
  cases lv
  all_goals
    go_enter Tryz.func3, Tryz.ntmps3
    go_wp2_with fail
    refine (k1.out _ hr.out).mono ?_
    unfold laysV
    rintro e w1 ⟨rfl, b1⟩
    have hr1 := Lib.hid (hr.out.below b1)
    replace hb := Lib.hid (hb.out.trans (b1.mono hz))
    replace hz := hb.out.size
    clear b1
    go_wp2_with fail
    refine (k2.out _ hr1.out).mono ?_
    unfold laysV
    rintro e w2 ⟨rfl, b2⟩
    replace hb := Lib.hid (hb.out.trans (b2.mono hz))
    replace hz := hb.out.size
    clear b2 hr1
    go_wp2_with fail
    refine (k4.out _).mono ?_
    rintro e w4 ⟨A4, n4, c4, rfl, ho4, hl4, b4⟩
    have hr4 := Lib.hid (row_of_own ho4)
    replace hl4 := Lib.hid hl4
    replace hb := Lib.hid (hb.out.trans (b4.mono hz))
    replace hz := hb.out.size
    clear b4 ho4
    go_wp2_with fail
    go_loopw [11] (fun t wr => ∃ j : Nat, j ≤ 2 ∧ t = .int .i64 (j : Int) ∧ Row wr A4 (n4 * 5) (pl.flatMap inoC) ∧ Below w.heap.size w wr) (fun t _ => 2 - (intOf t).toNat)
    case atStart => exact ⟨0, by omega, rfl, hr4.out, hb.out⟩
    case round =>
      obtain ⟨j, hj, rfl, hrk, hbr⟩ := hrel
      have hzr := hbr.size
      have hLr := hL.below hbr hp
      replace hrk := Lib.hid hrk
      replace hbr := Lib.hid hbr
      by_cases hj2 : j < 2
      · go_wp2_with fail
        refine (k3.out _ hLr).mono ?_
        rintro e w5 ⟨A5, n5, c5, rfl, ho5, hl5, b5⟩
        have hn5 : n5 ≤ 4096 := by omega
        have hr5 := Lib.hid (row_of_own ho5)
        have hrk5 := Lib.hid (hrk.out.below b5)
        replace ho5 := Lib.hid ho5
        replace b5 := Lib.hid b5
        have hs5 := b5.out.size
        replace hl5 := Lib.hid hl5
        go_wp2_with fail
        refine (ino_same A5 A4 n5 n4 c5 c4 pl pl _ hr5.out hl5.out hrk5.out hl4.out (by omega)).mono ?_
        rw [decide_eq_true rfl]
        rintro e w6 ⟨rfl, q, rfl⟩
        have b6 := Lib.hid (below_drewN b5.out q)
        have ho6 : Hid ((w5.drewN q).ownsRow wr.heap.size 32 5 (.slice A5 n5 c5) n5 (pl.flatMap inoC)) := Lib.hid ho5.out
        have hs6 : wr.heap.size ≤ (w5.drewN q).heap.size := hs5
        clear ho5 b5 hr5 hrk5
        generalize w5.drewN q = w6 at b6 ho6 hs6 ⊢
        by_cases hn0 : n5 = 0
        · subst hn0
          have hrk6 := Lib.hid (hrk.out.below b6.out)
          have hb6 := Lib.hid (hbr.out.trans (b6.out.mono hzr))
          clear ho6 b6
          go_wp2_with fail
          go_loopw [14] (fun i wq => i = .int .i64 0 ∧ Row wq A4 (n4 * 5) (pl.flatMap inoC) ∧ Below w.heap.size w wq) (fun _ _ => 0)
          case atStart => exact ⟨rfl, hrk6.out, hb6.out⟩
          case round =>
            obtain ⟨rfl, hrq, hbq⟩ := hrel
            replace hrq := Lib.hid hrq
            replace hbq := Lib.hid hbq
            go_wp2_with fail
            exact ⟨⟨j + 1, by omega, by go_num, hrq.out, hbq.out⟩, by simp [intOf]; omega⟩
        · obtain ⟨g, cur, rfl, hgb, hblk, hcs⟩ := own_blk ho6.out (by omega)
          clear ho6
          replace hblk := Lib.hid hblk
          go_wp2_with fail
          go_loopw [14] (fun i wq => ∃ (k : Nat) (cur : Array Value), k ≤ n5 ∧ i = .int .i64 (k : Int) ∧ Blk wq g 32 cur ∧ n5 * 5 ≤ cur.size ∧ w6.grownBy wq (some g)) (fun i _ => n5 - (intOf i).toNat)
          case atStart => exact ⟨0, cur, Nat.zero_le _, rfl, hblk.out, hcs, Only.refl _ _⟩
          case round =>
            obtain ⟨k, cu, hk, rfl, hq, hsz, hg⟩ := hrel
            by_cases hlt : k < n5
            · obtain ⟨v0, h0⟩ := cur_some (cur := cu) (i := k * 5) (by omega)
              obtain ⟨v1, h1⟩ := cur_some (cur := cu) (i := k * 5 + 1) (by omega)
              obtain ⟨v2, h2⟩ := cur_some (cur := cu) (i := k * 5 + 2) (by omega)
              obtain ⟨v3, h3⟩ := cur_some (cur := cu) (i := k * 5 + 3) (by omega)
              obtain ⟨v4, h4⟩ := cur_some (cur := cu) (i := k * 5 + 4) (by omega)
              have c0 : wr.cell? ⟨g, k * 5, none⟩ = some v0 := (hq.cell _).trans h0
              have c1 : wr.cell? ⟨g, k * 5 + 1, none⟩ = some v1 := (hq.cell _).trans h1
              have c2 : wr.cell? ⟨g, k * 5 + 2, none⟩ = some v2 := (hq.cell _).trans h2
              have c3 : wr.cell? ⟨g, k * 5 + 3, none⟩ = some v3 := (hq.cell _).trans h3
              have c4 : wr.cell? ⟨g, k * 5 + 4, none⟩ = some v4 := (hq.cell _).trans h4
              have f0 := hq.free (k * 5)
              have f1 := hq.free (k * 5 + 1)
              have f2 := hq.free (k * 5 + 2)
              have f3 := hq.free (k * 5 + 3)
              have f4 := hq.free (k * 5 + 4)
              clear h0 h1 h2 h3 h4
              replace hq := Lib.hid hq
              replace hg := Lib.hid hg
              go_wp2_with fail
              go_roundw
              case rel => exact ⟨k + 1, _, by omega, by go_num, ((((hq.out.put (k * 5) (.int .i64 0)).put (k * 5 + 1) (.bool false)).put (k * 5 + 2) (.int .i64 0)).put (k * 5 + 3) (.int .i64 0)).put (k * 5 + 4) (.int .i64 0), by simpa using hsz, Only.put (Only.put (Only.put (Only.put (Only.put hg.out _ _) _ _) _ _) _ _) _ _⟩
              case measure => simp [intOf]; omega
            · obtain rfl : k = n5 := by omega
              have b7 := b6.out.trans (Only.toBelow hg hgb hs6)
              have hrk7 := Lib.hid (hrk.out.below b7)
              have hb7 := Lib.hid (hbr.out.trans (b7.mono hzr))
              clear b7 hg hq
              go_wp2_with fail
              exact ⟨⟨j + 1, by omega, by go_num, hrk7.out, hb7.out⟩, by simp [intOf]; omega⟩
      · obtain rfl : j = 2 := by omega
        go_wp2_with fail
        refine (fixed_any _ hLr).mono ?_
        rintro e w9 ⟨rfl, b9⟩
        have hb9 := Lib.hid (hbr.out.trans (b9.mono hzr))
        clear b9
        go_wp2_with fail
        go_ret
        exact ⟨rfl, hb9.out⟩
end Go.Proofs.YtaihpnmojiagnaaGreatDoor.Table

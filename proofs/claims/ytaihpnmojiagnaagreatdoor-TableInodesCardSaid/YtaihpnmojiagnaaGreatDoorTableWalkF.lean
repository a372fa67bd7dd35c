/- lays: the bytes of a list, at each kind. (Printed by genlays.py.) -/
import Derived.Test.YtaihpnmojiagnaaGreatDoorTableWalkE
namespace Go.Proofs.YtaihpnmojiagnaaGreatDoor.Table
open Go.RowKit Mem Wire

set_option maxRecDepth 100000 in
set_option maxHeartbeats 8000000 in
theorem ino_lays (A : Option Addr) (n c : Nat) (l : List Ino) (w : World) (hr : Row w A (n * 5) (l.flatMap inoC)) (hln : l.length = n) (hbig : ∀ x ∈ l, inoBig x) (hnm : n ≤ 9223372036854775807) :
    Calls Tryz.prog 22 #[formV 43 45 47, .slice A n c] w fun e w' => e = .returned (laysV (lays inoK l)) ∧ Below w.heap.size w w' := by
  by_cases hlong : 4096 < n
  · rw [lays_long (by rw [hln]; exact hlong)]
    clear hr hbig hln
    unfold formV
    go_enter Tryz.func22, Tryz.ntmps22
    go_wp2_with fail
    go_ret2
    exact ⟨rfl, (Below.refl _ _).alloc (Nat.le_refl _) _⟩
  · have hn9 : (digits n).length ≤ 9 := digits_length9 n (by omega)
    replace hln := Lib.hid hln
    replace hbig := Lib.hid hbig
    unfold formV
    go_enter Tryz.func22, Tryz.ntmps22
    go_wp2_with fail
    have q := Blk.new w 52 #[.func (.func 43) #[] #[], .func (.func 45) #[] #[], .func (.func 47) #[] #[]]
    have hb0 : Below w.heap.size w (w.alloc (.cells #[.func (.func 43) #[] #[], .func (.func 45) #[] #[], .func (.func 47) #[] #[]] 52)) := (Below.refl _ _).alloc (Nat.le_refl _) _
    have hz0 : (w.alloc (.cells #[.func (.func 43) #[] #[], .func (.func 45) #[] #[], .func (.func 47) #[] #[]] 52)).heap.size = w.heap.size + 1 := by simp
    replace hr := hr.below hb0
    replace hb0 := Lib.hid hb0
    replace hz0 := Lib.hid hz0
    generalize (w.alloc (.cells #[.func (.func 43) #[] #[], .func (.func 45) #[] #[], .func (.func 47) #[] #[]] 52)) = W1 at hr hb0 hz0 q ⊢
    have hbk := Bld.fresh W1
    rw [hz0.out] at hbk
    refine (num_ok n _ (by omega)).mono ?_
    rintro e W2 ⟨rfl, b2⟩
    replace hbk := hbk.below b2
    have hb2 : Below W1.heap.size W1 W2 := ((Below.refl _ _).alloc (Nat.le_refl _) _).trans (b2.mono (by simp))
    clear b2
    rw [hz0.out] at hb2
    have hs2 := hb2.size
    rw [hz0.out] at hs2
    go_wp2_with fail
    refine (Bld.writeString_keep (w.heap.size + 1) (w.heap.size + 1) [] ⟨(digits n).toArray⟩ _ hbk (by simp [ByteArray.size]; omega) hs2).mono ?_
    rintro e W3 ⟨rfl, hbk3, b3, hs3, _⟩
    have hb3 := hb2.trans b3
    clear hb2 b3 hbk
    rw [List.nil_append, strCells_of] at hbk3
    have hq3 : Blk (W3.alloc (.cells #[.int .i64 0, .bool false, .int .i64 0, .int .i64 0, .int .i64 0] 32)) W3.heap.size 32 ⟨inoC inoK.zero⟩ := Blk.new W3 _ _
    have hbk4 := hbk3.below ((Below.refl W3.heap.size W3).alloc (Nat.le_refl _) (.cells #[.int .i64 0, .bool false, .int .i64 0, .int .i64 0, .int .i64 0] 32))
    have hb4 := hb3.trans ((Below.refl (w.heap.size + 1) W3).alloc (Nat.le_trans hs2 hs3) (.cells #[.int .i64 0, .bool false, .int .i64 0, .int .i64 0, .int .i64 0] 32))
    have hlay : Lay (w.heap.size + 1) W3.heap.size 32 W1 (W3.alloc (.cells #[.int .i64 0, .bool false, .int .i64 0, .int .i64 0, .int .i64 0] 32)) ⟨inoC inoK.zero⟩ (digits n) := ⟨hbk4, hq3, hb4, hbk3.lt⟩
    clear hb3 hbk3 hq3 hbk4 hb4 hs2 hs3
    go_wp2_with fail
    generalize W3.alloc (.cells #[.int .i64 0, .bool false, .int .i64 0, .int .i64 0, .int .i64 0] 32) = W4 at hlay ⊢
    generalize W3.heap.size = g at hlay ⊢
    have qlt := q.lt
    replace q := Lib.hid q
    replace hlay := Lib.hid hlay
    have hr' := Lib.hid hr
    clear hr
    go_loopw [30] (fun i wr => ∃ (k : Nat) (was : Ino), k ≤ n ∧ i = .int .i64 (k : Int) ∧ inoK.inv was ∧ okAll inoK inoK.zero true l = okAll inoK was ((k : Int) == 0) (l.drop k) ∧ (flat inoK (l.take k)).length ≤ 350000 * k ∧
      Lay (w.heap.size + 1) g 32 W1 wr ⟨inoC was⟩ (digits n ++ flat inoK (l.take k))) (fun i _ => n - (intOf i).toNat)
    case atStart => exact ⟨0, inoK.zero, Nat.zero_le _, rfl, good_ino.zero, rfl, by simp [flat], by simpa [flat] using hlay.out⟩
    case round =>
      obtain ⟨k, was, hk, rfl, hinv, hok, hfl, hl⟩ := hrel
      have cf0 : wr.cell? ⟨w.heap.size, 0, none⟩ = some (.func (.func 43) #[] #[]) := (hl.2.2.1.cell (p := ⟨w.heap.size, 0, none⟩) (Nat.lt_succ_self _)).trans (q.out.cell 0)
      have cf1 : wr.cell? ⟨w.heap.size, 1, none⟩ = some (.func (.func 45) #[] #[]) := (hl.2.2.1.cell (p := ⟨w.heap.size, 1, none⟩) (Nat.lt_succ_self _)).trans (q.out.cell 1)
      have hgb := hl.2.1.lt
      have hBg := hl.2.2.2
      have hrr := hr'.out.below (hl.2.2.1.mono (by have := hz0.out; omega))
      replace hok := Lib.hid hok
      replace hinv := Lib.hid hinv
      by_cases hlt : k < n
      · obtain ⟨x, hx⟩ : ∃ x, l[k]? = some x := ⟨_, List.getElem?_eq_getElem (by rw [hln.out]; exact hlt)⟩
        obtain ⟨ad, ha, hc⟩ := row_elem (sz := 5) (fun _ => rfl) (by decide) hrr hx
        subst ha
        have adlt : (ad.add (k * 5)).block < wr.heap.size := World.block_lt_of_cell? wr _ (hc 0 _ rfl)
        have ce0 : wr.cell? (ad.add (k * 5)) = some (.int .i64 x.num) := hc 0 _ rfl
        have cw0 : wr.cell? ⟨g, 0, none⟩ = some (.int .i64 was.num) := hl.2.1.cell 0
        have ce1 : wr.cell? (⟨(ad.add (k * 5)).block, (ad.add (k * 5)).off + 1, none⟩) = some (.bool x.dir) := hc 1 _ rfl
        have cw1 : wr.cell? ⟨g, 1, none⟩ = some (.bool was.dir) := hl.2.1.cell 1
        have ce2 : wr.cell? (⟨(ad.add (k * 5)).block, (ad.add (k * 5)).off + 2, none⟩) = some (.int .i64 x.links) := hc 2 _ rfl
        have cw2 : wr.cell? ⟨g, 2, none⟩ = some (.int .i64 was.links) := hl.2.1.cell 2
        have ce3 : wr.cell? (⟨(ad.add (k * 5)).block, (ad.add (k * 5)).off + 3, none⟩) = some (.int .i64 x.root) := hc 3 _ rfl
        have cw3 : wr.cell? ⟨g, 3, none⟩ = some (.int .i64 was.root) := hl.2.1.cell 3
        have ce4 : wr.cell? (⟨(ad.add (k * 5)).block, (ad.add (k * 5)).off + 4, none⟩) = some (.int .i64 x.size) := hc 4 _ rfl
        have cw4 : wr.cell? ⟨g, 4, none⟩ = some (.int .i64 was.size) := hl.2.1.cell 4
        replace hx := Lib.hid hx
        clear hrr hc
        have hflt : w.heap.size < wr.heap.size := by omega
        have df0 : (wr.alloc (.cells #[.int .i64 x.num, .bool x.dir, .int .i64 x.links, .int .i64 x.root, .int .i64 x.size] 32)).cell? ⟨w.heap.size, 0, none⟩ = _ := (World.cell?_alloc_lt _ _ _ hflt).trans cf0
        have df1 : (wr.alloc (.cells #[.int .i64 x.num, .bool x.dir, .int .i64 x.links, .int .i64 x.root, .int .i64 x.size] 32)).cell? ⟨w.heap.size, 1, none⟩ = _ := (World.cell?_alloc_lt _ _ _ hflt).trans cf1
        have dw0 : (wr.alloc (.cells #[.int .i64 x.num, .bool x.dir, .int .i64 x.links, .int .i64 x.root, .int .i64 x.size] 32)).cell? ⟨g, 0, none⟩ = some (.int .i64 was.num) := (World.cell?_alloc_lt _ _ _ hgb).trans cw0
        have dw1 : (wr.alloc (.cells #[.int .i64 x.num, .bool x.dir, .int .i64 x.links, .int .i64 x.root, .int .i64 x.size] 32)).cell? ⟨g, 1, none⟩ = some (.bool was.dir) := (World.cell?_alloc_lt _ _ _ hgb).trans cw1
        have dw2 : (wr.alloc (.cells #[.int .i64 x.num, .bool x.dir, .int .i64 x.links, .int .i64 x.root, .int .i64 x.size] 32)).cell? ⟨g, 2, none⟩ = some (.int .i64 was.links) := (World.cell?_alloc_lt _ _ _ hgb).trans cw2
        have dw3 : (wr.alloc (.cells #[.int .i64 x.num, .bool x.dir, .int .i64 x.links, .int .i64 x.root, .int .i64 x.size] 32)).cell? ⟨g, 3, none⟩ = some (.int .i64 was.root) := (World.cell?_alloc_lt _ _ _ hgb).trans cw3
        have dw4 : (wr.alloc (.cells #[.int .i64 x.num, .bool x.dir, .int .i64 x.links, .int .i64 x.root, .int .i64 x.size] 32)).cell? ⟨g, 4, none⟩ = some (.int .i64 was.size) := (World.cell?_alloc_lt _ _ _ hgb).trans cw4
        replace hl := Lib.hid hl
        go_wp2_with fail
        refine (ino_may was x _ _).mono ?_
        rintro e W5 ⟨rfl, b5⟩
        have bw5 : Below wr.heap.size wr W5 := ((Below.refl _ _).alloc (Nat.le_refl _) _).trans (b5.mono (by simp))
        have hl5 := hl.out.below bw5
        have qx : Blk W5 wr.heap.size 32 ⟨inoC x⟩ := (Blk.new wr 32 ⟨inoC x⟩).below b5 (Blk.new wr 32 ⟨inoC x⟩).lt
        have hx5 := qx.lt
        clear b5
        replace hl5 := Lib.hid hl5
        replace bw5 := Lib.hid bw5
        have hstep := Lib.hid (okAll_step hx.out hok.out)
        generalize hm : inoK.may was x ((k : Int) == 0) = mb at hstep ⊢
        replace hm := Lib.hid hm
        cases mb
        · go_wp2_with fail
          go_ret2
          refine ⟨?_, hb0.out.trans ((hl5.out.2.2.1).mono (by omega))⟩
          rw [lays_bad (by rw [hstep.out]; rfl)]
          rfl
        · have n1 : w.heap.size ≠ g := by omega
          have n2 : wr.heap.size ≠ g := by omega
          have n3 : g ≠ w.heap.size := by omega
          have n4 : g ≠ wr.heap.size := by omega
          have cx0 : W5.cell? ⟨wr.heap.size, 0, none⟩ = some (.int .i64 x.num) := qx.cell 0
          have cg0 : W5.cell? ⟨g, 0, none⟩ = some (.int .i64 was.num) := hl5.out.2.1.cell 0
          have fg0 : W5.frozen? ⟨g, 0, none⟩ = false := hl5.out.2.1.free 0
          have cx1 : W5.cell? ⟨wr.heap.size, 1, none⟩ = some (.bool x.dir) := qx.cell 1
          have cg1 : W5.cell? ⟨g, 1, none⟩ = some (.bool was.dir) := hl5.out.2.1.cell 1
          have fg1 : W5.frozen? ⟨g, 1, none⟩ = false := hl5.out.2.1.free 1
          have cx2 : W5.cell? ⟨wr.heap.size, 2, none⟩ = some (.int .i64 x.links) := qx.cell 2
          have cg2 : W5.cell? ⟨g, 2, none⟩ = some (.int .i64 was.links) := hl5.out.2.1.cell 2
          have fg2 : W5.frozen? ⟨g, 2, none⟩ = false := hl5.out.2.1.free 2
          have cx3 : W5.cell? ⟨wr.heap.size, 3, none⟩ = some (.int .i64 x.root) := qx.cell 3
          have cg3 : W5.cell? ⟨g, 3, none⟩ = some (.int .i64 was.root) := hl5.out.2.1.cell 3
          have fg3 : W5.frozen? ⟨g, 3, none⟩ = false := hl5.out.2.1.free 3
          have cx4 : W5.cell? ⟨wr.heap.size, 4, none⟩ = some (.int .i64 x.size) := qx.cell 4
          have cg4 : W5.cell? ⟨g, 4, none⟩ = some (.int .i64 was.size) := hl5.out.2.1.cell 4
          have fg4 : W5.frozen? ⟨g, 4, none⟩ = false := hl5.out.2.1.free 4
          have e1 : W5.cell? ⟨w.heap.size, 1, none⟩ = some (.func (.func 45) #[] #[]) := (bw5.out.cell (p := ⟨w.heap.size, 1, none⟩) hflt).trans cf1
          go_wp2_with fail
          refine (ino_put x _).mono ?_
          rintro e W7 ⟨g2, rfl, hf2, hge, b7⟩
          have hl6 := (show Lay _ _ _ _ _ ⟨inoC x⟩ _ from (((((hl5.out.put (by decide) 0 (.int .i64 x.num)).put (by decide) 1 (.bool x.dir)).put (by decide) 2 (.int .i64 x.links)).put (by decide) 3 (.int .i64 x.root)).put (by decide) 4 (.int .i64 x.size)))
          have hs6 := hl6.2.1.lt
          have hl7 := hl6.below b7
          have hz7 : ∀ W6 : World, W6.heap.size ≤ g2 → g < W6.heap.size → g < g2 := fun _ h1 h2 => Nat.lt_of_lt_of_le h2 h1
          replace hz7 := hz7 _ hge hs6
          clear hl6 hs6 hge b7
          have hfo := Lib.hid (ino_ok hinv.out hm.out)
          have hfp := Lib.hid (inoF_put x)
          have hf5 : (inoF x).length ≤ 5 := of_decide_eq_true rfl
          generalize inoF x = fs at hf2 hfo hfp hf5 ⊢
          clear cf0 cf1 df0 df1 e1 n1 n2 n3 n4 ce0 ce1 ce2 ce3 ce4 cw0 cw1 cw2 cw3 cw4 dw0 dw1 dw2 dw3 dw4 cx0 cx1 cx2 cx3 cx4 cg0 cg1 cg2 cg3 cg4 fg0 fg1 fg2 fg3 fg4
          replace hl7 := Lib.hid hl7
          replace hf2 := Lib.hid hf2
          go_wp2_with fail
          go_loopw [49] (fun jv wq => ∃ j : Nat, j ≤ fs.length ∧ jv = .int .i64 (j : Int) ∧ Lay (w.heap.size + 1) g 32 W1 wq ⟨inoC x⟩ (digits n ++ flat inoK (l.take k) ++ (fs.take j).flatMap Fld.b) ∧ Blk wq g2 20 ⟨fs.map Fld.v⟩) (fun jv _ => fs.length - (intOf jv).toNat)
          case atStart => exact ⟨0, Nat.zero_le _, rfl, by simpa using hl7.out, hf2.out⟩
          case round =>
            obtain ⟨j, hj, rfl, hl8, hf8⟩ := hrel
            by_cases hjl : j < fs.length
            · obtain ⟨y, hy⟩ : ∃ y, fs[j]? = some y := ⟨_, List.getElem?_eq_getElem hjl⟩
              have hyo := hfo.out y (List.mem_of_getElem? hy)
              have cy : wr.cell? ⟨g2, j, none⟩ = some y.v := (hf8.cell j).trans (by rw [List.getElem?_toArray, List.getElem?_map, hy]; rfl)
              have hfl8 := flds_len (l := fs.take j) (fun z hz => hfo.out z (List.mem_of_mem_take hz))
              have htl : (fs.take j).length ≤ 5 := by rw [List.length_take]; omega
              replace hl8 := Lib.hid hl8
              replace hf8 := Lib.hid hf8
              replace hy := Lib.hid hy
              cases y with
              | n v =>
                simp only [Fld.ok] at hyo
                obtain ⟨m, rfl⟩ := Int.eq_ofNat_of_zero_le hyo.1
                have hm9 : (digits m).length ≤ 9 := digits_length9 m (by omega)
                simp only [Fld.v] at cy
                have as1 := as_int_int (.int .i64 (m : Int))
                go_wp2_with fail
                refine (num_ok m _ (by omega)).mono ?_
                rintro e W8 ⟨rfl, b8⟩
                have hl9 := hl8.out.below b8
                have hf9 := hf8.out.below b8 hf8.out.lt
                clear b8
                have hs9 := hl9.2.1.lt
                replace hf9 := Lib.hid hf9
                replace hl9 := Lib.hid hl9
                go_wp2_with fail
                refine (Bld.writeString_keep (w.heap.size + 1) (w.heap.size + 1) _ ⟨(digits m).toArray⟩ _ hl9.out.1 (by rw [bc_len, mk_size, List.length_append, List.length_append]; omega) (by omega)).mono ?_
                rintro e W10 ⟨rfl, hb10, b10, hs10, hk10⟩
                have hla : Lay (w.heap.size + 1) g 32 W1 W10 ⟨inoC x⟩ (digits n ++ flat inoK (l.take k) ++ (fs.take (j + 1)).flatMap Fld.b) :=
                  ⟨by rw [flds_snoc hy.out, ← List.append_assoc, Lib.byteCells_append, fld_cells_n]; exact hb10, hk10 g _ _ (by omega) (by decide) hl9.out.2.1, hl9.out.2.2.1.trans b10, hBg⟩
                have hfa := hk10 g2 _ _ (by omega) (by decide) hf9.out
                replace hla := Lib.hid hla
                replace hfa := Lib.hid hfa
                clear hb10 hk10 b10
                go_wp2_with fail
                go_roundw
                case rel => exact ⟨j + 1, by omega, by go_num, hla.out, hfa.out⟩
                case measure => simp [intOf]; omega
              | t z =>
                simp only [Fld.ok] at hyo
                have hm9 : (digits z.size).length ≤ 9 := digits_length9 z.size (by omega)
                simp only [Fld.v] at cy
                have as1 := as_str_int (.string z)
                have as2 := as_str_str (.string z)
                have kt := fun W => text_ok z W hyo
                obtain ⟨Z, hZ⟩ : ∃ Z : ByteArray, Z = ⟨(digits z.size).toArray⟩ ++ z := ⟨_, rfl⟩
                have hZs : Z.size = (digits z.size).length + z.size := by rw [hZ, ByteArray.size_append, mk_size]
                rw [← hZ] at kt
                replace kt := Lib.hid kt
                replace hZ := Lib.hid hZ
                replace hZs := Lib.hid hZs
                go_wp2_with fail
                refine (kt.out _).mono ?_
                rintro e W8 ⟨rfl, b8⟩
                have hl9 := hl8.out.below b8
                have hf9 := hf8.out.below b8 hf8.out.lt
                clear b8
                have hs9 := hl9.2.1.lt
                replace hf9 := Lib.hid hf9
                replace hl9 := Lib.hid hl9
                go_wp2_with fail
                refine (Bld.writeString_keep (w.heap.size + 1) (w.heap.size + 1) _ Z _ hl9.out.1 (by rw [bc_len, hZs.out, List.length_append, List.length_append]; omega) (by omega)).mono ?_
                rintro e W10 ⟨rfl, hb10, b10, hs10, hk10⟩
                have hla : Lay (w.heap.size + 1) g 32 W1 W10 ⟨inoC x⟩ (digits n ++ flat inoK (l.take k) ++ (fs.take (j + 1)).flatMap Fld.b) :=
                  ⟨by rw [flds_snoc hy.out, ← List.append_assoc, Lib.byteCells_append, fld_cells_t, ← hZ.out]; exact hb10, hk10 g _ _ (by omega) (by decide) hl9.out.2.1, hl9.out.2.2.1.trans b10, hBg⟩
                have hfa := hk10 g2 _ _ (by omega) (by decide) hf9.out
                replace hla := Lib.hid hla
                replace hfa := Lib.hid hfa
                clear hb10 hk10 b10
                go_wp2_with fail
                go_roundw
                case rel => exact ⟨j + 1, by omega, by go_num, hla.out, hfa.out⟩
                case measure => simp [intOf]; omega
            · obtain rfl : j = fs.length := by omega
              rw [List.take_length, hfp.out] at hl8
              have hla : Lay (w.heap.size + 1) g 32 W1 wr ⟨inoC x⟩ (digits n ++ flat inoK (l.take (k + 1))) := by
                rw [flat_take hx.out, ← List.append_assoc]
                exact hl8
              have hfl2 : (flat inoK (l.take (k + 1))).length ≤ 350000 * (k + 1) := by
                have h1 := flds_len hfo.out
                rw [hfp.out] at h1
                rw [flat_take hx.out, List.length_append]
                omega
              have hinv2 : inoK.inv x := good_ino.step was x _ hinv.out hm.out
              have hok2 : okAll inoK inoK.zero true l = okAll inoK x (((k + 1 : Nat) : Int) == 0) (l.drop (k + 1)) := by
                rw [hstep.out, Bool.true_and, show ((((k + 1 : Nat) : Int) == 0) = false) by simp; omega]
              replace hla := Lib.hid hla
              replace hinv2 := Lib.hid hinv2
              replace hok2 := Lib.hid hok2
              clear hl8 hf8
              go_wp2_with fail
              exact ⟨⟨k + 1, x, by omega, by go_num, hinv2.out, hok2.out, hfl2, hla.out⟩, by simp [intOf]; omega⟩
      · obtain rfl : k = n := by omega
        have hfull : l.take k = l := List.take_of_length_le (by rw [hln.out]; exact Nat.le_refl _)
        rw [hfull] at hfl hl
        have hlen : (digits k ++ flat inoK l).length ≤ 140737488355328 := by rw [List.length_append]; omega
        have hl1 := Lib.hid hl.1
        have hl2 := Lib.hid hl.2.2.1
        have hsz : w.heap.size + 1 ≤ wr.heap.size := by omega
        have hokk := Lib.hid (show okAll inoK inoK.zero true l = true by rw [hok.out, List.drop_of_length_le (by rw [hln.out]; exact Nat.le_refl _)]; rfl)
        clear hl hfl hrr hok hfull
        go_wp2_with fail
        refine (Tryz.Builder_String_any (w.heap.size + 1) (w.heap.size + 1) _ _ hl1.out hsz).mono ?_
        rintro e W8 ⟨rfl, hb8⟩
        go_wp2_with fail
        go_ret2
        refine ⟨?_, hb0.out.trans ((hl2.out.trans hb8).mono (by omega))⟩
        rw [lays_good (by rw [hln.out]; omega) hokk.out, bytes, hln.out]
        rfl

set_option maxRecDepth 100000 in
set_option maxHeartbeats 8000000 in
theorem ent_lays (A : Option Addr) (n c : Nat) (l : List Ent) (w : World) (hr : Row w A (n * 2) (l.flatMap entC)) (hln : l.length = n) (hbig : ∀ x ∈ l, entBig x) (hnm : n ≤ 9223372036854775807) :
    Calls Tryz.prog 30 #[formV 56 57 58, .slice A n c] w fun e w' => e = .returned (laysV (lays entK l)) ∧ Below w.heap.size w w' := by
  by_cases hlong : 4096 < n
  · rw [lays_long (by rw [hln]; exact hlong)]
    clear hr hbig hln
    unfold formV
    go_enter Tryz.func30, Tryz.ntmps30
    go_wp2_with fail
    go_ret2
    exact ⟨rfl, (Below.refl _ _).alloc (Nat.le_refl _) _⟩
  · have hn9 : (digits n).length ≤ 9 := digits_length9 n (by omega)
    replace hln := Lib.hid hln
    replace hbig := Lib.hid hbig
    unfold formV
    go_enter Tryz.func30, Tryz.ntmps30
    go_wp2_with fail
    have q := Blk.new w 74 #[.func (.func 56) #[] #[], .func (.func 57) #[] #[], .func (.func 58) #[] #[]]
    have hb0 : Below w.heap.size w (w.alloc (.cells #[.func (.func 56) #[] #[], .func (.func 57) #[] #[], .func (.func 58) #[] #[]] 74)) := (Below.refl _ _).alloc (Nat.le_refl _) _
    have hz0 : (w.alloc (.cells #[.func (.func 56) #[] #[], .func (.func 57) #[] #[], .func (.func 58) #[] #[]] 74)).heap.size = w.heap.size + 1 := by simp
    replace hr := hr.below hb0
    replace hb0 := Lib.hid hb0
    replace hz0 := Lib.hid hz0
    generalize (w.alloc (.cells #[.func (.func 56) #[] #[], .func (.func 57) #[] #[], .func (.func 58) #[] #[]] 74)) = W1 at hr hb0 hz0 q ⊢
    have hbk := Bld.fresh W1
    rw [hz0.out] at hbk
    refine (num_ok n _ (by omega)).mono ?_
    rintro e W2 ⟨rfl, b2⟩
    replace hbk := hbk.below b2
    have hb2 : Below W1.heap.size W1 W2 := ((Below.refl _ _).alloc (Nat.le_refl _) _).trans (b2.mono (by simp))
    clear b2
    rw [hz0.out] at hb2
    have hs2 := hb2.size
    rw [hz0.out] at hs2
    go_wp2_with fail
    refine (Bld.writeString_keep (w.heap.size + 1) (w.heap.size + 1) [] ⟨(digits n).toArray⟩ _ hbk (by simp [ByteArray.size]; omega) hs2).mono ?_
    rintro e W3 ⟨rfl, hbk3, b3, hs3, _⟩
    have hb3 := hb2.trans b3
    clear hb2 b3 hbk
    rw [List.nil_append, strCells_of] at hbk3
    have hq3 : Blk (W3.alloc (.cells #[.string ⟨#[]⟩, .int .i64 0] 65)) W3.heap.size 65 ⟨entC entK.zero⟩ := Blk.new W3 _ _
    have hbk4 := hbk3.below ((Below.refl W3.heap.size W3).alloc (Nat.le_refl _) (.cells #[.string ⟨#[]⟩, .int .i64 0] 65))
    have hb4 := hb3.trans ((Below.refl (w.heap.size + 1) W3).alloc (Nat.le_trans hs2 hs3) (.cells #[.string ⟨#[]⟩, .int .i64 0] 65))
    have hlay : Lay (w.heap.size + 1) W3.heap.size 65 W1 (W3.alloc (.cells #[.string ⟨#[]⟩, .int .i64 0] 65)) ⟨entC entK.zero⟩ (digits n) := ⟨hbk4, hq3, hb4, hbk3.lt⟩
    clear hb3 hbk3 hq3 hbk4 hb4 hs2 hs3
    go_wp2_with fail
    generalize W3.alloc (.cells #[.string ⟨#[]⟩, .int .i64 0] 65) = W4 at hlay ⊢
    generalize W3.heap.size = g at hlay ⊢
    have qlt := q.lt
    replace q := Lib.hid q
    replace hlay := Lib.hid hlay
    have hr' := Lib.hid hr
    clear hr
    go_loopw [30] (fun i wr => ∃ (k : Nat) (was : Ent), k ≤ n ∧ i = .int .i64 (k : Int) ∧ entK.inv was ∧ okAll entK entK.zero true l = okAll entK was ((k : Int) == 0) (l.drop k) ∧ (flat entK (l.take k)).length ≤ 350000 * k ∧
      Lay (w.heap.size + 1) g 65 W1 wr ⟨entC was⟩ (digits n ++ flat entK (l.take k))) (fun i _ => n - (intOf i).toNat)
    case atStart => exact ⟨0, entK.zero, Nat.zero_le _, rfl, good_ent.zero, rfl, by simp [flat], by simpa [flat] using hlay.out⟩
    case round =>
      obtain ⟨k, was, hk, rfl, hinv, hok, hfl, hl⟩ := hrel
      have cf0 : wr.cell? ⟨w.heap.size, 0, none⟩ = some (.func (.func 56) #[] #[]) := (hl.2.2.1.cell (p := ⟨w.heap.size, 0, none⟩) (Nat.lt_succ_self _)).trans (q.out.cell 0)
      have cf1 : wr.cell? ⟨w.heap.size, 1, none⟩ = some (.func (.func 57) #[] #[]) := (hl.2.2.1.cell (p := ⟨w.heap.size, 1, none⟩) (Nat.lt_succ_self _)).trans (q.out.cell 1)
      have hgb := hl.2.1.lt
      have hBg := hl.2.2.2
      have hrr := hr'.out.below (hl.2.2.1.mono (by have := hz0.out; omega))
      replace hok := Lib.hid hok
      replace hinv := Lib.hid hinv
      by_cases hlt : k < n
      · obtain ⟨x, hx⟩ : ∃ x, l[k]? = some x := ⟨_, List.getElem?_eq_getElem (by rw [hln.out]; exact hlt)⟩
        obtain ⟨ad, ha, hc⟩ := row_elem (sz := 2) (fun _ => rfl) (by decide) hrr hx
        subst ha
        have adlt : (ad.add (k * 2)).block < wr.heap.size := World.block_lt_of_cell? wr _ (hc 0 _ rfl)
        have ce0 : wr.cell? (ad.add (k * 2)) = some (.string x.name) := hc 0 _ rfl
        have cw0 : wr.cell? ⟨g, 0, none⟩ = some (.string was.name) := hl.2.1.cell 0
        have ce1 : wr.cell? (⟨(ad.add (k * 2)).block, (ad.add (k * 2)).off + 1, none⟩) = some (.int .i64 x.num) := hc 1 _ rfl
        have cw1 : wr.cell? ⟨g, 1, none⟩ = some (.int .i64 was.num) := hl.2.1.cell 1
        replace hx := Lib.hid hx
        clear hrr hc
        have hflt : w.heap.size < wr.heap.size := by omega
        have df0 : (wr.alloc (.cells #[.string x.name, .int .i64 x.num] 65)).cell? ⟨w.heap.size, 0, none⟩ = _ := (World.cell?_alloc_lt _ _ _ hflt).trans cf0
        have df1 : (wr.alloc (.cells #[.string x.name, .int .i64 x.num] 65)).cell? ⟨w.heap.size, 1, none⟩ = _ := (World.cell?_alloc_lt _ _ _ hflt).trans cf1
        have dw0 : (wr.alloc (.cells #[.string x.name, .int .i64 x.num] 65)).cell? ⟨g, 0, none⟩ = some (.string was.name) := (World.cell?_alloc_lt _ _ _ hgb).trans cw0
        have dw1 : (wr.alloc (.cells #[.string x.name, .int .i64 x.num] 65)).cell? ⟨g, 1, none⟩ = some (.int .i64 was.num) := (World.cell?_alloc_lt _ _ _ hgb).trans cw1
        replace hl := Lib.hid hl
        go_wp2_with fail
        refine (ent_may was x _ _).mono ?_
        rintro e W5 ⟨rfl, b5⟩
        have bw5 : Below wr.heap.size wr W5 := ((Below.refl _ _).alloc (Nat.le_refl _) _).trans (b5.mono (by simp))
        have hl5 := hl.out.below bw5
        have qx : Blk W5 wr.heap.size 65 ⟨entC x⟩ := (Blk.new wr 65 ⟨entC x⟩).below b5 (Blk.new wr 65 ⟨entC x⟩).lt
        have hx5 := qx.lt
        clear b5
        replace hl5 := Lib.hid hl5
        replace bw5 := Lib.hid bw5
        have hstep := Lib.hid (okAll_step hx.out hok.out)
        generalize hm : entK.may was x ((k : Int) == 0) = mb at hstep ⊢
        replace hm := Lib.hid hm
        cases mb
        · go_wp2_with fail
          go_ret2
          refine ⟨?_, hb0.out.trans ((hl5.out.2.2.1).mono (by omega))⟩
          rw [lays_bad (by rw [hstep.out]; rfl)]
          rfl
        · have n1 : w.heap.size ≠ g := by omega
          have n2 : wr.heap.size ≠ g := by omega
          have n3 : g ≠ w.heap.size := by omega
          have n4 : g ≠ wr.heap.size := by omega
          have cx0 : W5.cell? ⟨wr.heap.size, 0, none⟩ = some (.string x.name) := qx.cell 0
          have cg0 : W5.cell? ⟨g, 0, none⟩ = some (.string was.name) := hl5.out.2.1.cell 0
          have fg0 : W5.frozen? ⟨g, 0, none⟩ = false := hl5.out.2.1.free 0
          have cx1 : W5.cell? ⟨wr.heap.size, 1, none⟩ = some (.int .i64 x.num) := qx.cell 1
          have cg1 : W5.cell? ⟨g, 1, none⟩ = some (.int .i64 was.num) := hl5.out.2.1.cell 1
          have fg1 : W5.frozen? ⟨g, 1, none⟩ = false := hl5.out.2.1.free 1
          have e1 : W5.cell? ⟨w.heap.size, 1, none⟩ = some (.func (.func 57) #[] #[]) := (bw5.out.cell (p := ⟨w.heap.size, 1, none⟩) hflt).trans cf1
          go_wp2_with fail
          refine (ent_put x _).mono ?_
          rintro e W7 ⟨g2, rfl, hf2, hge, b7⟩
          have hl6 := (show Lay _ _ _ _ _ ⟨entC x⟩ _ from ((hl5.out.put (by decide) 0 (.string x.name)).put (by decide) 1 (.int .i64 x.num)))
          have hs6 := hl6.2.1.lt
          have hl7 := hl6.below b7
          have hz7 : ∀ W6 : World, W6.heap.size ≤ g2 → g < W6.heap.size → g < g2 := fun _ h1 h2 => Nat.lt_of_lt_of_le h2 h1
          replace hz7 := hz7 _ hge hs6
          clear hl6 hs6 hge b7
          have hfo := Lib.hid (ent_ok hinv.out hm.out)
          have hfp := Lib.hid (entF_put x)
          have hf5 : (entF x).length ≤ 5 := of_decide_eq_true rfl
          generalize entF x = fs at hf2 hfo hfp hf5 ⊢
          clear cf0 cf1 df0 df1 e1 n1 n2 n3 n4 ce0 ce1 cw0 cw1 dw0 dw1 cx0 cx1 cg0 cg1 fg0 fg1
          replace hl7 := Lib.hid hl7
          replace hf2 := Lib.hid hf2
          go_wp2_with fail
          go_loopw [49] (fun jv wq => ∃ j : Nat, j ≤ fs.length ∧ jv = .int .i64 (j : Int) ∧ Lay (w.heap.size + 1) g 65 W1 wq ⟨entC x⟩ (digits n ++ flat entK (l.take k) ++ (fs.take j).flatMap Fld.b) ∧ Blk wq g2 20 ⟨fs.map Fld.v⟩) (fun jv _ => fs.length - (intOf jv).toNat)
          case atStart => exact ⟨0, Nat.zero_le _, rfl, by simpa using hl7.out, hf2.out⟩
          case round =>
            obtain ⟨j, hj, rfl, hl8, hf8⟩ := hrel
            by_cases hjl : j < fs.length
            · obtain ⟨y, hy⟩ : ∃ y, fs[j]? = some y := ⟨_, List.getElem?_eq_getElem hjl⟩
              have hyo := hfo.out y (List.mem_of_getElem? hy)
              have cy : wr.cell? ⟨g2, j, none⟩ = some y.v := (hf8.cell j).trans (by rw [List.getElem?_toArray, List.getElem?_map, hy]; rfl)
              have hfl8 := flds_len (l := fs.take j) (fun z hz => hfo.out z (List.mem_of_mem_take hz))
              have htl : (fs.take j).length ≤ 5 := by rw [List.length_take]; omega
              replace hl8 := Lib.hid hl8
              replace hf8 := Lib.hid hf8
              replace hy := Lib.hid hy
              cases y with
              | n v =>
                simp only [Fld.ok] at hyo
                obtain ⟨m, rfl⟩ := Int.eq_ofNat_of_zero_le hyo.1
                have hm9 : (digits m).length ≤ 9 := digits_length9 m (by omega)
                simp only [Fld.v] at cy
                have as1 := as_int_int (.int .i64 (m : Int))
                go_wp2_with fail
                refine (num_ok m _ (by omega)).mono ?_
                rintro e W8 ⟨rfl, b8⟩
                have hl9 := hl8.out.below b8
                have hf9 := hf8.out.below b8 hf8.out.lt
                clear b8
                have hs9 := hl9.2.1.lt
                replace hf9 := Lib.hid hf9
                replace hl9 := Lib.hid hl9
                go_wp2_with fail
                refine (Bld.writeString_keep (w.heap.size + 1) (w.heap.size + 1) _ ⟨(digits m).toArray⟩ _ hl9.out.1 (by rw [bc_len, mk_size, List.length_append, List.length_append]; omega) (by omega)).mono ?_
                rintro e W10 ⟨rfl, hb10, b10, hs10, hk10⟩
                have hla : Lay (w.heap.size + 1) g 65 W1 W10 ⟨entC x⟩ (digits n ++ flat entK (l.take k) ++ (fs.take (j + 1)).flatMap Fld.b) :=
                  ⟨by rw [flds_snoc hy.out, ← List.append_assoc, Lib.byteCells_append, fld_cells_n]; exact hb10, hk10 g _ _ (by omega) (by decide) hl9.out.2.1, hl9.out.2.2.1.trans b10, hBg⟩
                have hfa := hk10 g2 _ _ (by omega) (by decide) hf9.out
                replace hla := Lib.hid hla
                replace hfa := Lib.hid hfa
                clear hb10 hk10 b10
                go_wp2_with fail
                go_roundw
                case rel => exact ⟨j + 1, by omega, by go_num, hla.out, hfa.out⟩
                case measure => simp [intOf]; omega
              | t z =>
                simp only [Fld.ok] at hyo
                have hm9 : (digits z.size).length ≤ 9 := digits_length9 z.size (by omega)
                simp only [Fld.v] at cy
                have as1 := as_str_int (.string z)
                have as2 := as_str_str (.string z)
                have kt := fun W => text_ok z W hyo
                obtain ⟨Z, hZ⟩ : ∃ Z : ByteArray, Z = ⟨(digits z.size).toArray⟩ ++ z := ⟨_, rfl⟩
                have hZs : Z.size = (digits z.size).length + z.size := by rw [hZ, ByteArray.size_append, mk_size]
                rw [← hZ] at kt
                replace kt := Lib.hid kt
                replace hZ := Lib.hid hZ
                replace hZs := Lib.hid hZs
                go_wp2_with fail
                refine (kt.out _).mono ?_
                rintro e W8 ⟨rfl, b8⟩
                have hl9 := hl8.out.below b8
                have hf9 := hf8.out.below b8 hf8.out.lt
                clear b8
                have hs9 := hl9.2.1.lt
                replace hf9 := Lib.hid hf9
                replace hl9 := Lib.hid hl9
                go_wp2_with fail
                refine (Bld.writeString_keep (w.heap.size + 1) (w.heap.size + 1) _ Z _ hl9.out.1 (by rw [bc_len, hZs.out, List.length_append, List.length_append]; omega) (by omega)).mono ?_
                rintro e W10 ⟨rfl, hb10, b10, hs10, hk10⟩
                have hla : Lay (w.heap.size + 1) g 65 W1 W10 ⟨entC x⟩ (digits n ++ flat entK (l.take k) ++ (fs.take (j + 1)).flatMap Fld.b) :=
                  ⟨by rw [flds_snoc hy.out, ← List.append_assoc, Lib.byteCells_append, fld_cells_t, ← hZ.out]; exact hb10, hk10 g _ _ (by omega) (by decide) hl9.out.2.1, hl9.out.2.2.1.trans b10, hBg⟩
                have hfa := hk10 g2 _ _ (by omega) (by decide) hf9.out
                replace hla := Lib.hid hla
                replace hfa := Lib.hid hfa
                clear hb10 hk10 b10
                go_wp2_with fail
                go_roundw
                case rel => exact ⟨j + 1, by omega, by go_num, hla.out, hfa.out⟩
                case measure => simp [intOf]; omega
            · obtain rfl : j = fs.length := by omega
              rw [List.take_length, hfp.out] at hl8
              have hla : Lay (w.heap.size + 1) g 65 W1 wr ⟨entC x⟩ (digits n ++ flat entK (l.take (k + 1))) := by
                rw [flat_take hx.out, ← List.append_assoc]
                exact hl8
              have hfl2 : (flat entK (l.take (k + 1))).length ≤ 350000 * (k + 1) := by
                have h1 := flds_len hfo.out
                rw [hfp.out] at h1
                rw [flat_take hx.out, List.length_append]
                omega
              have hinv2 : entK.inv x := good_ent.step was x _ hinv.out hm.out
              have hok2 : okAll entK entK.zero true l = okAll entK x (((k + 1 : Nat) : Int) == 0) (l.drop (k + 1)) := by
                rw [hstep.out, Bool.true_and, show ((((k + 1 : Nat) : Int) == 0) = false) by simp; omega]
              replace hla := Lib.hid hla
              replace hinv2 := Lib.hid hinv2
              replace hok2 := Lib.hid hok2
              clear hl8 hf8
              go_wp2_with fail
              exact ⟨⟨k + 1, x, by omega, by go_num, hinv2.out, hok2.out, hfl2, hla.out⟩, by simp [intOf]; omega⟩
      · obtain rfl : k = n := by omega
        have hfull : l.take k = l := List.take_of_length_le (by rw [hln.out]; exact Nat.le_refl _)
        rw [hfull] at hfl hl
        have hlen : (digits k ++ flat entK l).length ≤ 140737488355328 := by rw [List.length_append]; omega
        have hl1 := Lib.hid hl.1
        have hl2 := Lib.hid hl.2.2.1
        have hsz : w.heap.size + 1 ≤ wr.heap.size := by omega
        have hokk := Lib.hid (show okAll entK entK.zero true l = true by rw [hok.out, List.drop_of_length_le (by rw [hln.out]; exact Nat.le_refl _)]; rfl)
        clear hl hfl hrr hok hfull
        go_wp2_with fail
        refine (Tryz.Builder_String_any (w.heap.size + 1) (w.heap.size + 1) _ _ hl1.out hsz).mono ?_
        rintro e W8 ⟨rfl, hb8⟩
        go_wp2_with fail
        go_ret2
        refine ⟨?_, hb0.out.trans ((hl2.out.trans hb8).mono (by omega))⟩
        rw [lays_good (by rw [hln.out]; omega) hokk.out, bytes, hln.out]
        rfl

set_option maxRecDepth 100000 in
set_option maxHeartbeats 8000000 in
theorem snp_lays (A : Option Addr) (n c : Nat) (l : List Snp) (w : World) (hr : Row w A (n * 5) (l.flatMap snpC)) (hln : l.length = n) (hbig : ∀ x ∈ l, snpBig x) (hnm : n ≤ 9223372036854775807) :
    Calls Tryz.prog 36 #[formV 61 62 63, .slice A n c] w fun e w' => e = .returned (laysV (lays snpK l)) ∧ Below w.heap.size w w' := by
  by_cases hlong : 4096 < n
  · rw [lays_long (by rw [hln]; exact hlong)]
    clear hr hbig hln
    unfold formV
    go_enter Tryz.func36, Tryz.ntmps36
    go_wp2_with fail
    go_ret2
    exact ⟨rfl, (Below.refl _ _).alloc (Nat.le_refl _) _⟩
  · have hn9 : (digits n).length ≤ 9 := digits_length9 n (by omega)
    replace hln := Lib.hid hln
    replace hbig := Lib.hid hbig
    unfold formV
    go_enter Tryz.func36, Tryz.ntmps36
    go_wp2_with fail
    have q := Blk.new w 84 #[.func (.func 61) #[] #[], .func (.func 62) #[] #[], .func (.func 63) #[] #[]]
    have hb0 : Below w.heap.size w (w.alloc (.cells #[.func (.func 61) #[] #[], .func (.func 62) #[] #[], .func (.func 63) #[] #[]] 84)) := (Below.refl _ _).alloc (Nat.le_refl _) _
    have hz0 : (w.alloc (.cells #[.func (.func 61) #[] #[], .func (.func 62) #[] #[], .func (.func 63) #[] #[]] 84)).heap.size = w.heap.size + 1 := by simp
    replace hr := hr.below hb0
    replace hb0 := Lib.hid hb0
    replace hz0 := Lib.hid hz0
    generalize (w.alloc (.cells #[.func (.func 61) #[] #[], .func (.func 62) #[] #[], .func (.func 63) #[] #[]] 84)) = W1 at hr hb0 hz0 q ⊢
    have hbk := Bld.fresh W1
    rw [hz0.out] at hbk
    refine (num_ok n _ (by omega)).mono ?_
    rintro e W2 ⟨rfl, b2⟩
    replace hbk := hbk.below b2
    have hb2 : Below W1.heap.size W1 W2 := ((Below.refl _ _).alloc (Nat.le_refl _) _).trans (b2.mono (by simp))
    clear b2
    rw [hz0.out] at hb2
    have hs2 := hb2.size
    rw [hz0.out] at hs2
    go_wp2_with fail
    refine (Bld.writeString_keep (w.heap.size + 1) (w.heap.size + 1) [] ⟨(digits n).toArray⟩ _ hbk (by simp [ByteArray.size]; omega) hs2).mono ?_
    rintro e W3 ⟨rfl, hbk3, b3, hs3, _⟩
    have hb3 := hb2.trans b3
    clear hb2 b3 hbk
    rw [List.nil_append, strCells_of] at hbk3
    have hq3 : Blk (W3.alloc (.cells #[.string ⟨#[]⟩, .int .i64 0, .int .i64 0, .int .i64 0, .int .i64 0] 67)) W3.heap.size 67 ⟨snpC snpK.zero⟩ := Blk.new W3 _ _
    have hbk4 := hbk3.below ((Below.refl W3.heap.size W3).alloc (Nat.le_refl _) (.cells #[.string ⟨#[]⟩, .int .i64 0, .int .i64 0, .int .i64 0, .int .i64 0] 67))
    have hb4 := hb3.trans ((Below.refl (w.heap.size + 1) W3).alloc (Nat.le_trans hs2 hs3) (.cells #[.string ⟨#[]⟩, .int .i64 0, .int .i64 0, .int .i64 0, .int .i64 0] 67))
    have hlay : Lay (w.heap.size + 1) W3.heap.size 67 W1 (W3.alloc (.cells #[.string ⟨#[]⟩, .int .i64 0, .int .i64 0, .int .i64 0, .int .i64 0] 67)) ⟨snpC snpK.zero⟩ (digits n) := ⟨hbk4, hq3, hb4, hbk3.lt⟩
    clear hb3 hbk3 hq3 hbk4 hb4 hs2 hs3
    go_wp2_with fail
    generalize W3.alloc (.cells #[.string ⟨#[]⟩, .int .i64 0, .int .i64 0, .int .i64 0, .int .i64 0] 67) = W4 at hlay ⊢
    generalize W3.heap.size = g at hlay ⊢
    have qlt := q.lt
    replace q := Lib.hid q
    replace hlay := Lib.hid hlay
    have hr' := Lib.hid hr
    clear hr
    go_loopw [30] (fun i wr => ∃ (k : Nat) (was : Snp), k ≤ n ∧ i = .int .i64 (k : Int) ∧ snpK.inv was ∧ okAll snpK snpK.zero true l = okAll snpK was ((k : Int) == 0) (l.drop k) ∧ (flat snpK (l.take k)).length ≤ 350000 * k ∧
      Lay (w.heap.size + 1) g 67 W1 wr ⟨snpC was⟩ (digits n ++ flat snpK (l.take k))) (fun i _ => n - (intOf i).toNat)
    case atStart => exact ⟨0, snpK.zero, Nat.zero_le _, rfl, good_snp.zero, rfl, by simp [flat], by simpa [flat] using hlay.out⟩
    case round =>
      obtain ⟨k, was, hk, rfl, hinv, hok, hfl, hl⟩ := hrel
      have cf0 : wr.cell? ⟨w.heap.size, 0, none⟩ = some (.func (.func 61) #[] #[]) := (hl.2.2.1.cell (p := ⟨w.heap.size, 0, none⟩) (Nat.lt_succ_self _)).trans (q.out.cell 0)
      have cf1 : wr.cell? ⟨w.heap.size, 1, none⟩ = some (.func (.func 62) #[] #[]) := (hl.2.2.1.cell (p := ⟨w.heap.size, 1, none⟩) (Nat.lt_succ_self _)).trans (q.out.cell 1)
      have hgb := hl.2.1.lt
      have hBg := hl.2.2.2
      have hrr := hr'.out.below (hl.2.2.1.mono (by have := hz0.out; omega))
      replace hok := Lib.hid hok
      replace hinv := Lib.hid hinv
      by_cases hlt : k < n
      · obtain ⟨x, hx⟩ : ∃ x, l[k]? = some x := ⟨_, List.getElem?_eq_getElem (by rw [hln.out]; exact hlt)⟩
        obtain ⟨ad, ha, hc⟩ := row_elem (sz := 5) (fun _ => rfl) (by decide) hrr hx
        subst ha
        have adlt : (ad.add (k * 5)).block < wr.heap.size := World.block_lt_of_cell? wr _ (hc 0 _ rfl)
        have ce0 : wr.cell? (ad.add (k * 5)) = some (.string x.name) := hc 0 _ rfl
        have cw0 : wr.cell? ⟨g, 0, none⟩ = some (.string was.name) := hl.2.1.cell 0
        have ce1 : wr.cell? (⟨(ad.add (k * 5)).block, (ad.add (k * 5)).off + 1, none⟩) = some (.int .i64 x.id) := hc 1 _ rfl
        have cw1 : wr.cell? ⟨g, 1, none⟩ = some (.int .i64 was.id) := hl.2.1.cell 1
        have ce2 : wr.cell? (⟨(ad.add (k * 5)).block, (ad.add (k * 5)).off + 2, none⟩) = some (.int .i64 x.plane) := hc 2 _ rfl
        have cw2 : wr.cell? ⟨g, 2, none⟩ = some (.int .i64 was.plane) := hl.2.1.cell 2
        have ce3 : wr.cell? (⟨(ad.add (k * 5)).block, (ad.add (k * 5)).off + 3, none⟩) = some (.int .i64 x.root) := hc 3 _ rfl
        have cw3 : wr.cell? ⟨g, 3, none⟩ = some (.int .i64 was.root) := hl.2.1.cell 3
        have ce4 : wr.cell? (⟨(ad.add (k * 5)).block, (ad.add (k * 5)).off + 4, none⟩) = some (.int .i64 x.size) := hc 4 _ rfl
        have cw4 : wr.cell? ⟨g, 4, none⟩ = some (.int .i64 was.size) := hl.2.1.cell 4
        replace hx := Lib.hid hx
        clear hrr hc
        have hflt : w.heap.size < wr.heap.size := by omega
        have df0 : (wr.alloc (.cells #[.string x.name, .int .i64 x.id, .int .i64 x.plane, .int .i64 x.root, .int .i64 x.size] 67)).cell? ⟨w.heap.size, 0, none⟩ = _ := (World.cell?_alloc_lt _ _ _ hflt).trans cf0
        have df1 : (wr.alloc (.cells #[.string x.name, .int .i64 x.id, .int .i64 x.plane, .int .i64 x.root, .int .i64 x.size] 67)).cell? ⟨w.heap.size, 1, none⟩ = _ := (World.cell?_alloc_lt _ _ _ hflt).trans cf1
        have dw0 : (wr.alloc (.cells #[.string x.name, .int .i64 x.id, .int .i64 x.plane, .int .i64 x.root, .int .i64 x.size] 67)).cell? ⟨g, 0, none⟩ = some (.string was.name) := (World.cell?_alloc_lt _ _ _ hgb).trans cw0
        have dw1 : (wr.alloc (.cells #[.string x.name, .int .i64 x.id, .int .i64 x.plane, .int .i64 x.root, .int .i64 x.size] 67)).cell? ⟨g, 1, none⟩ = some (.int .i64 was.id) := (World.cell?_alloc_lt _ _ _ hgb).trans cw1
        have dw2 : (wr.alloc (.cells #[.string x.name, .int .i64 x.id, .int .i64 x.plane, .int .i64 x.root, .int .i64 x.size] 67)).cell? ⟨g, 2, none⟩ = some (.int .i64 was.plane) := (World.cell?_alloc_lt _ _ _ hgb).trans cw2
        have dw3 : (wr.alloc (.cells #[.string x.name, .int .i64 x.id, .int .i64 x.plane, .int .i64 x.root, .int .i64 x.size] 67)).cell? ⟨g, 3, none⟩ = some (.int .i64 was.root) := (World.cell?_alloc_lt _ _ _ hgb).trans cw3
        have dw4 : (wr.alloc (.cells #[.string x.name, .int .i64 x.id, .int .i64 x.plane, .int .i64 x.root, .int .i64 x.size] 67)).cell? ⟨g, 4, none⟩ = some (.int .i64 was.size) := (World.cell?_alloc_lt _ _ _ hgb).trans cw4
        replace hl := Lib.hid hl
        go_wp2_with fail
        refine (snp_may was x _ _).mono ?_
        rintro e W5 ⟨rfl, b5⟩
        have bw5 : Below wr.heap.size wr W5 := ((Below.refl _ _).alloc (Nat.le_refl _) _).trans (b5.mono (by simp))
        have hl5 := hl.out.below bw5
        have qx : Blk W5 wr.heap.size 67 ⟨snpC x⟩ := (Blk.new wr 67 ⟨snpC x⟩).below b5 (Blk.new wr 67 ⟨snpC x⟩).lt
        have hx5 := qx.lt
        clear b5
        replace hl5 := Lib.hid hl5
        replace bw5 := Lib.hid bw5
        have hstep := Lib.hid (okAll_step hx.out hok.out)
        generalize hm : snpK.may was x ((k : Int) == 0) = mb at hstep ⊢
        replace hm := Lib.hid hm
        cases mb
        · go_wp2_with fail
          go_ret2
          refine ⟨?_, hb0.out.trans ((hl5.out.2.2.1).mono (by omega))⟩
          rw [lays_bad (by rw [hstep.out]; rfl)]
          rfl
        · have n1 : w.heap.size ≠ g := by omega
          have n2 : wr.heap.size ≠ g := by omega
          have n3 : g ≠ w.heap.size := by omega
          have n4 : g ≠ wr.heap.size := by omega
          have cx0 : W5.cell? ⟨wr.heap.size, 0, none⟩ = some (.string x.name) := qx.cell 0
          have cg0 : W5.cell? ⟨g, 0, none⟩ = some (.string was.name) := hl5.out.2.1.cell 0
          have fg0 : W5.frozen? ⟨g, 0, none⟩ = false := hl5.out.2.1.free 0
          have cx1 : W5.cell? ⟨wr.heap.size, 1, none⟩ = some (.int .i64 x.id) := qx.cell 1
          have cg1 : W5.cell? ⟨g, 1, none⟩ = some (.int .i64 was.id) := hl5.out.2.1.cell 1
          have fg1 : W5.frozen? ⟨g, 1, none⟩ = false := hl5.out.2.1.free 1
          have cx2 : W5.cell? ⟨wr.heap.size, 2, none⟩ = some (.int .i64 x.plane) := qx.cell 2
          have cg2 : W5.cell? ⟨g, 2, none⟩ = some (.int .i64 was.plane) := hl5.out.2.1.cell 2
          have fg2 : W5.frozen? ⟨g, 2, none⟩ = false := hl5.out.2.1.free 2
          have cx3 : W5.cell? ⟨wr.heap.size, 3, none⟩ = some (.int .i64 x.root) := qx.cell 3
          have cg3 : W5.cell? ⟨g, 3, none⟩ = some (.int .i64 was.root) := hl5.out.2.1.cell 3
          have fg3 : W5.frozen? ⟨g, 3, none⟩ = false := hl5.out.2.1.free 3
          have cx4 : W5.cell? ⟨wr.heap.size, 4, none⟩ = some (.int .i64 x.size) := qx.cell 4
          have cg4 : W5.cell? ⟨g, 4, none⟩ = some (.int .i64 was.size) := hl5.out.2.1.cell 4
          have fg4 : W5.frozen? ⟨g, 4, none⟩ = false := hl5.out.2.1.free 4
          have e1 : W5.cell? ⟨w.heap.size, 1, none⟩ = some (.func (.func 62) #[] #[]) := (bw5.out.cell (p := ⟨w.heap.size, 1, none⟩) hflt).trans cf1
          go_wp2_with fail
          refine (snp_put x _).mono ?_
          rintro e W7 ⟨g2, rfl, hf2, hge, b7⟩
          have hl6 := (show Lay _ _ _ _ _ ⟨snpC x⟩ _ from (((((hl5.out.put (by decide) 0 (.string x.name)).put (by decide) 1 (.int .i64 x.id)).put (by decide) 2 (.int .i64 x.plane)).put (by decide) 3 (.int .i64 x.root)).put (by decide) 4 (.int .i64 x.size)))
          have hs6 := hl6.2.1.lt
          have hl7 := hl6.below b7
          have hz7 : ∀ W6 : World, W6.heap.size ≤ g2 → g < W6.heap.size → g < g2 := fun _ h1 h2 => Nat.lt_of_lt_of_le h2 h1
          replace hz7 := hz7 _ hge hs6
          clear hl6 hs6 hge b7
          have hfo := Lib.hid (snp_ok hinv.out hm.out)
          have hfp := Lib.hid (snpF_put x)
          have hf5 : (snpF x).length ≤ 5 := of_decide_eq_true rfl
          generalize snpF x = fs at hf2 hfo hfp hf5 ⊢
          clear cf0 cf1 df0 df1 e1 n1 n2 n3 n4 ce0 ce1 ce2 ce3 ce4 cw0 cw1 cw2 cw3 cw4 dw0 dw1 dw2 dw3 dw4 cx0 cx1 cx2 cx3 cx4 cg0 cg1 cg2 cg3 cg4 fg0 fg1 fg2 fg3 fg4
          replace hl7 := Lib.hid hl7
          replace hf2 := Lib.hid hf2
          go_wp2_with fail
          go_loopw [49] (fun jv wq => ∃ j : Nat, j ≤ fs.length ∧ jv = .int .i64 (j : Int) ∧ Lay (w.heap.size + 1) g 67 W1 wq ⟨snpC x⟩ (digits n ++ flat snpK (l.take k) ++ (fs.take j).flatMap Fld.b) ∧ Blk wq g2 20 ⟨fs.map Fld.v⟩) (fun jv _ => fs.length - (intOf jv).toNat)
          case atStart => exact ⟨0, Nat.zero_le _, rfl, by simpa using hl7.out, hf2.out⟩
          case round =>
            obtain ⟨j, hj, rfl, hl8, hf8⟩ := hrel
            by_cases hjl : j < fs.length
            · obtain ⟨y, hy⟩ : ∃ y, fs[j]? = some y := ⟨_, List.getElem?_eq_getElem hjl⟩
              have hyo := hfo.out y (List.mem_of_getElem? hy)
              have cy : wr.cell? ⟨g2, j, none⟩ = some y.v := (hf8.cell j).trans (by rw [List.getElem?_toArray, List.getElem?_map, hy]; rfl)
              have hfl8 := flds_len (l := fs.take j) (fun z hz => hfo.out z (List.mem_of_mem_take hz))
              have htl : (fs.take j).length ≤ 5 := by rw [List.length_take]; omega
              replace hl8 := Lib.hid hl8
              replace hf8 := Lib.hid hf8
              replace hy := Lib.hid hy
              cases y with
              | n v =>
                simp only [Fld.ok] at hyo
                obtain ⟨m, rfl⟩ := Int.eq_ofNat_of_zero_le hyo.1
                have hm9 : (digits m).length ≤ 9 := digits_length9 m (by omega)
                simp only [Fld.v] at cy
                have as1 := as_int_int (.int .i64 (m : Int))
                go_wp2_with fail
                refine (num_ok m _ (by omega)).mono ?_
                rintro e W8 ⟨rfl, b8⟩
                have hl9 := hl8.out.below b8
                have hf9 := hf8.out.below b8 hf8.out.lt
                clear b8
                have hs9 := hl9.2.1.lt
                replace hf9 := Lib.hid hf9
                replace hl9 := Lib.hid hl9
                go_wp2_with fail
                refine (Bld.writeString_keep (w.heap.size + 1) (w.heap.size + 1) _ ⟨(digits m).toArray⟩ _ hl9.out.1 (by rw [bc_len, mk_size, List.length_append, List.length_append]; omega) (by omega)).mono ?_
                rintro e W10 ⟨rfl, hb10, b10, hs10, hk10⟩
                have hla : Lay (w.heap.size + 1) g 67 W1 W10 ⟨snpC x⟩ (digits n ++ flat snpK (l.take k) ++ (fs.take (j + 1)).flatMap Fld.b) :=
                  ⟨by rw [flds_snoc hy.out, ← List.append_assoc, Lib.byteCells_append, fld_cells_n]; exact hb10, hk10 g _ _ (by omega) (by decide) hl9.out.2.1, hl9.out.2.2.1.trans b10, hBg⟩
                have hfa := hk10 g2 _ _ (by omega) (by decide) hf9.out
                replace hla := Lib.hid hla
                replace hfa := Lib.hid hfa
                clear hb10 hk10 b10
                go_wp2_with fail
                go_roundw
                case rel => exact ⟨j + 1, by omega, by go_num, hla.out, hfa.out⟩
                case measure => simp [intOf]; omega
              | t z =>
                simp only [Fld.ok] at hyo
                have hm9 : (digits z.size).length ≤ 9 := digits_length9 z.size (by omega)
                simp only [Fld.v] at cy
                have as1 := as_str_int (.string z)
                have as2 := as_str_str (.string z)
                have kt := fun W => text_ok z W hyo
                obtain ⟨Z, hZ⟩ : ∃ Z : ByteArray, Z = ⟨(digits z.size).toArray⟩ ++ z := ⟨_, rfl⟩
                have hZs : Z.size = (digits z.size).length + z.size := by rw [hZ, ByteArray.size_append, mk_size]
                rw [← hZ] at kt
                replace kt := Lib.hid kt
                replace hZ := Lib.hid hZ
                replace hZs := Lib.hid hZs
                go_wp2_with fail
                refine (kt.out _).mono ?_
                rintro e W8 ⟨rfl, b8⟩
                have hl9 := hl8.out.below b8
                have hf9 := hf8.out.below b8 hf8.out.lt
                clear b8
                have hs9 := hl9.2.1.lt
                replace hf9 := Lib.hid hf9
                replace hl9 := Lib.hid hl9
                go_wp2_with fail
                refine (Bld.writeString_keep (w.heap.size + 1) (w.heap.size + 1) _ Z _ hl9.out.1 (by rw [bc_len, hZs.out, List.length_append, List.length_append]; omega) (by omega)).mono ?_
                rintro e W10 ⟨rfl, hb10, b10, hs10, hk10⟩
                have hla : Lay (w.heap.size + 1) g 67 W1 W10 ⟨snpC x⟩ (digits n ++ flat snpK (l.take k) ++ (fs.take (j + 1)).flatMap Fld.b) :=
                  ⟨by rw [flds_snoc hy.out, ← List.append_assoc, Lib.byteCells_append, fld_cells_t, ← hZ.out]; exact hb10, hk10 g _ _ (by omega) (by decide) hl9.out.2.1, hl9.out.2.2.1.trans b10, hBg⟩
                have hfa := hk10 g2 _ _ (by omega) (by decide) hf9.out
                replace hla := Lib.hid hla
                replace hfa := Lib.hid hfa
                clear hb10 hk10 b10
                go_wp2_with fail
                go_roundw
                case rel => exact ⟨j + 1, by omega, by go_num, hla.out, hfa.out⟩
                case measure => simp [intOf]; omega
            · obtain rfl : j = fs.length := by omega
              rw [List.take_length, hfp.out] at hl8
              have hla : Lay (w.heap.size + 1) g 67 W1 wr ⟨snpC x⟩ (digits n ++ flat snpK (l.take (k + 1))) := by
                rw [flat_take hx.out, ← List.append_assoc]
                exact hl8
              have hfl2 : (flat snpK (l.take (k + 1))).length ≤ 350000 * (k + 1) := by
                have h1 := flds_len hfo.out
                rw [hfp.out] at h1
                rw [flat_take hx.out, List.length_append]
                omega
              have hinv2 : snpK.inv x := good_snp.step was x _ hinv.out hm.out
              have hok2 : okAll snpK snpK.zero true l = okAll snpK x (((k + 1 : Nat) : Int) == 0) (l.drop (k + 1)) := by
                rw [hstep.out, Bool.true_and, show ((((k + 1 : Nat) : Int) == 0) = false) by simp; omega]
              replace hla := Lib.hid hla
              replace hinv2 := Lib.hid hinv2
              replace hok2 := Lib.hid hok2
              clear hl8 hf8
              go_wp2_with fail
              exact ⟨⟨k + 1, x, by omega, by go_num, hinv2.out, hok2.out, hfl2, hla.out⟩, by simp [intOf]; omega⟩
      · obtain rfl : k = n := by omega
        have hfull : l.take k = l := List.take_of_length_le (by rw [hln.out]; exact Nat.le_refl _)
        rw [hfull] at hfl hl
        have hlen : (digits k ++ flat snpK l).length ≤ 140737488355328 := by rw [List.length_append]; omega
        have hl1 := Lib.hid hl.1
        have hl2 := Lib.hid hl.2.2.1
        have hsz : w.heap.size + 1 ≤ wr.heap.size := by omega
        have hokk := Lib.hid (show okAll snpK snpK.zero true l = true by rw [hok.out, List.drop_of_length_le (by rw [hln.out]; exact Nat.le_refl _)]; rfl)
        clear hl hfl hrr hok hfull
        go_wp2_with fail
        refine (Tryz.Builder_String_any (w.heap.size + 1) (w.heap.size + 1) _ _ hl1.out hsz).mono ?_
        rintro e W8 ⟨rfl, hb8⟩
        go_wp2_with fail
        go_ret2
        refine ⟨?_, hb0.out.trans ((hl2.out.trans hb8).mono (by omega))⟩
        rw [lays_good (by rw [hln.out]; omega) hokk.out, bytes, hln.out]
        rfl
end Go.Proofs.YtaihpnmojiagnaaGreatDoor.Table

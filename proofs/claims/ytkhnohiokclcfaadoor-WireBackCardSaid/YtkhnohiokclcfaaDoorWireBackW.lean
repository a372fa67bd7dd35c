/- The walk of the law WireBack: it answers true, whatever the numbers, the texts and what stands behind; nothing that was there turns. -/
import Derived.Test.YtkhnohiokclcfaaDoorWireLaysW
import Derived.Test.YtkhnohiokclcfaaDoorWireSpecC
namespace Go.Proofs.YtkhnohiokclcfaaDoor.Wire
open Go.RowKit Mem

theorem getStr_some {l : List ByteArray} {k : Nat} {u : Value} (h : (l.map Value.string)[k]? = some u) : ∃ x, l[k]? = some x ∧ u = .string x := by
  rw [List.getElem?_map] at h
  cases hx : l[k]? with
  | none => rw [hx] at h; cases h
  | some x => rw [hx] at h; exact ⟨x, rfl, by injection h with h; exact h.symm⟩

/-- 'l[:k]' of a row -/
theorem run_cut (A : Option Addr) (n c k : Nat) (hk : k ≤ c) (w : World) : (Instr.slice 22 (.slice A n c) none (some (.int .i64 (k : Int))) none).run Tryd.prog w = .ok (.slice A k c) w := by
  have h0 : ∀ a : Addr, a.add 0 = a := fun a => by simp [Addr.add]
  have hA : (if c = 0 then A else A.map (·.add (0 * 1))) = A := by
    split
    · rfl
    · cases A with
      | none => rfl
      | some a => simp [h0]
  have hkc : (k : Int) ≤ (c : Int) := by omega
  simp [go_sem, hkc, h0]
theorem row_take {w : World} {A : Option Addr} {n : Nat} {us : List Value} (h : Row w A n us) {k : Nat} (hk : k ≤ n) : Row w A k (us.take k) :=
  ⟨by rw [List.length_take, h.1]; omega, fun j u hu => h.2 j u (by
    rw [List.getElem?_take] at hu
    split at hu
    · exact hu
    · cases hu)⟩

theorem run_min3 (ts : Array TypeId) (t : TypeId) (x y q : Nat) (hq : q = min (min x y) 100) (w : World) : (Builtin.min_ ts t #[.int .i64 (x : Int), .int .i64 (y : Int), .int .i64 100]).run Tryd.prog w = .ok (.int .i64 (q : Int)) w := by
  simp [Builtin.min_, Builtin.min2]
  split <;> split <;> omega

/-- all is in order so far -/
def Fine (xs : List Int) (ts : List ByteArray) (k : Nat) : Prop := ∀ i x t, i < k → xs[i]? = some x → ts[i]? = some t → okNum x = true ∧ t.size ≤ 65536
theorem Fine.step {xs : List Int} {ts : List ByteArray} {k : Nat} {x : Int} {t : ByteArray} (h : Fine xs ts k) (hx : xs[k]? = some x) (ht : ts[k]? = some t) (h1 : okNum x = true) (h2 : t.size ≤ 65536) : Fine xs ts (k + 1) := fun i y u hi hy hu => by
  by_cases e : i = k
  · subst e
    rw [hx] at hy
    rw [ht] at hu
    obtain rfl := Option.some.inj hy
    obtain rfl := Option.some.inj hu
    exact ⟨h1, h2⟩
  · exact h i y u (by omega) hy hu
theorem Fine.all {xs : List Int} {ts : List ByteArray} {k : Nat} (h : Fine xs ts k) (hk : k ≤ ts.length) : ∀ x ∈ xs.take k, okNum x = true := fun x hx => by
  obtain ⟨i, hi, rfl⟩ := List.getElem_of_mem hx
  have hi2 : i < k := by simp at hi; omega
  have hxi : xs[i]? = some (xs.take k)[i] := by
    rw [List.getElem_take]
    exact List.getElem?_eq_getElem (by simp at hi; omega)
  exact (h i _ _ hi2 hxi (List.getElem?_eq_getElem (by omega))).1

theorem item_length {xs : List Int} {ts : List ByteArray} {i : Nat} {x : Int} {t : ByteArray} (hx : xs[i]? = some x) (ht : ts[i]? = some t) (h1 : okNum x = true) (h2 : t.size ≤ 65536) (hi : i ≤ 100) (hall : ∀ x ∈ xs.take i, okNum x = true) :
    (item xs ts i).length ≤ 70000 := by
  have a1 := okNum_le h1
  have a2 := digits_length9 x.toNat (by omega)
  have a3 := digits_length9 t.size (by omega)
  have a4 := enc_length _ hall
  have a5 : (xs.take i).length ≤ 100 := by simp; omega
  have a6 := digits_length9 (xs.take i).length (by omega)
  have a7 := Lib.size_eq t
  rw [item_eq hx ht, row]
  simp only [List.length_append]
  omega

set_option maxRecDepth 100000 in
set_option maxHeartbeats 8000000 in
theorem back_any (A B : Option Addr) (n c m d : Nat) (xs : List Int) (ts : List ByteArray) (z : ByteArray) (w : World) (hx : Row w A n (xs.map (Value.int .i64))) (hnc : n ≤ c) (ht : Row w B m (ts.map Value.string)) (hz : z.size ≤ 140737488355328) (hL : Laid w) :
    Calls Tryd.prog 9 #[.slice A n c, .slice B m d, .string z] w fun e w' => e = .returned (.bool true) ∧ Below w.heap.size w w' := by
  have hp := hL.pos
  have hxl := Lib.hid (show xs.length = n by simpa using hx.1)
  have htl := Lib.hid (show ts.length = m by simpa using ht.1)
  obtain ⟨q, hqd⟩ : ∃ q : Nat, q = min (min n m) 100 := ⟨_, rfl⟩
  have hmin := fun ts t W => run_min3 ts t n m q hqd W
  have hqn : q ≤ n := by omega
  have hqm : q ≤ m := by omega
  have hq100 : q ≤ 100 := by omega
  clear hqd
  go_enter Tryd.func9, Tryd.ntmps9
  go_wp2_with fail
  go_loopw [7, 9] (fun s i wr => ∃ k : Nat, k ≤ q ∧ i = .int .i64 (k : Int) ∧ s = .string ⟨(items xs ts 0 k).toArray⟩ ∧ (items xs ts 0 k).length ≤ 70000 * k ∧ Fine xs ts k ∧ Below w.heap.size w wr) (fun _ i _ => q - (intOf i).toNat)
  case atStart => exact ⟨0, Nat.zero_le _, rfl, rfl, by simp [items], fun i x t hi => absurd hi (by omega), Below.refl _ _⟩
  case round =>
    clear hmin
    obtain ⟨k, hk, rfl, rfl, hlen, hfine, hb⟩ := hrel
    have hwr := hb.size
    have hLr := hL.below hb hp
    by_cases hlt : k < q
    · obtain ⟨ad, u, rfl, hu, hcx⟩ := (hx.below hb).at_ (show k < n by omega)
      obtain ⟨bd, v, rfl, hv, hct⟩ := (ht.below hb).at_ (show k < m by omega)
      obtain ⟨x, hx1, rfl⟩ := getMap_some hu
      obtain ⟨t, ht1, rfl⟩ := getStr_some hv
      clear hu hv
      have hfine' := Lib.hid hfine
      have hx1' := Lib.hid hx1
      have ht1' := Lib.hid ht1
      have hsl := run_cut (some ad) n c k (by omega)
      have hall := hfine.all (by rw [htl.out]; omega)
      have hrow := row_take hx (show k ≤ n by omega)
      rw [← List.map_take] at hrow
      obtain ⟨⟨a, ea⟩, hna⟩ : ∃ y, numOut x = y := ⟨_, rfl⟩
      obtain ⟨⟨b, eb⟩, hnb⟩ : ∃ y, textOut t = y := ⟨_, rfl⟩
      obtain ⟨e, hne⟩ : ∃ e : ByteArray, e = ⟨(row (xs.take k)).toArray⟩ := ⟨_, rfl⟩
      have hnc : numsOut (xs.take k) = (e, 0) := by rw [numsOut, if_pos ⟨by simp; omega, hall⟩, hne]
      have c1 := Lib.hid (fun W => hna ▸ num_out x W)
      have c2 := Lib.hid (fun W => hnb ▸ text_out t W)
      have c3 := Lib.hid (fun W hW => hnc ▸ nums_out (some ad) k c (xs.take k) W hW)
      by_cases hgood : okNum x = true ∧ t.size ≤ 65536
      · obtain ⟨hg1, hg2⟩ := hgood
        have ha : a = ⟨(digits x.toNat).toArray⟩ ∧ ea = 0 := by
          rw [numOut, if_pos hg1] at hna
          injection hna with h1 h2
          exact ⟨h1.symm, h2.symm⟩
        have hb' : b = ⟨(digits t.size).toArray⟩ ++ t ∧ eb = 0 := by
          rw [textOut, if_pos hg2] at hnb
          injection hnb with h1 h2
          exact ⟨h1.symm, h2.symm⟩
        obtain ⟨ha, rfl⟩ := ha
        obtain ⟨hbb, rfl⟩ := hb'
        have hil := item_length hx1 ht1 hg1 hg2 (by omega) hall
        have hit := item_eq (xs := xs) (ts := ts) hx1 ht1
        have hcat : (⟨(items xs ts 0 k).toArray⟩ ++ (a ++ b ++ e) : ByteArray) = ⟨(items xs ts 0 (k + 1)).toArray⟩ := by
          rw [items_snoc, Nat.zero_add, hit, ha, hbb, hne]
          apply ByteArray.ext
          simp [ByteArray.data_append]
        have hcl : a.size + b.size + e.size ≤ 70000 := by
          rw [hit] at hil
          simp only [List.length_append] at hil
          have a7 := Lib.size_eq t
          have s1 : a.size = (digits x.toNat).length := by rw [ha]; simp [ByteArray.size]
          have s2 : b.size = (digits t.size).length + t.size := by
            rw [hbb, ByteArray.size_append]
            have : (⟨(digits t.size).toArray⟩ : ByteArray).size = (digits t.size).length := by simp only [ByteArray.size, List.size_toArray]
            rw [this]
          have s3 : e.size = (row (xs.take k)).length := by rw [hne]; simp [ByteArray.size]
          rw [s1, s2, s3]
          omega
        have hg := Lib.hid (hfine.step hx1 ht1 hg1 hg2)
        have hcat' := Lib.hid hcat
        have hnext : (items xs ts 0 (k + 1)).length ≤ 70000 * (k + 1) := by
          rw [items_snoc, List.length_append, Nat.zero_add]; omega
        have hnext' := Lib.hid hnext
        clear hna hnb hne hnc ha hbb hit hcat hfine hx1 ht1 hall hil hnext
        go_wp2_with fail
        refine (c1.out _).mono ?_
        rintro e1 w1 ⟨rfl, hb1⟩
        have h1 := hb.trans (hb1.mono hwr)
        have hct1 := (hb1.cell (p := bd.add k) (World.block_lt_of_cell? _ _ hct)).trans hct
        go_wp2_with fail
        refine (c2.out _).mono ?_
        rintro e1 w2 ⟨rfl, hb2⟩
        have h2 := h1.trans (hb2.mono h1.size)
        go_wp2_with fail
        refine (c3.out _ (hrow.below h2)).mono ?_
        rintro e1 w3 ⟨rfl, hb3⟩
        have h3 := h2.trans (hb3.mono h2.size)
        go_wp2_with fail
        go_roundw
        case rel => exact ⟨k + 1, by omega, by go_num, by rw [← hcat'.out], hnext'.out, hg.out, h3⟩
        case measure => simp [intOf]; omega
      · by_cases hg1 : okNum x = true
        · have hg2 : ¬ t.size ≤ 65536 := fun h => hgood ⟨hg1, h⟩
          have ha : a.toList ≠ [] ∧ ea = 0 := by
            rw [numOut, if_pos hg1] at hna
            injection hna with h1 h2
            refine ⟨?_, h2.symm⟩
            rw [← h1, Lib.toList_data]
            have := digits_pos x.toNat
            intro h
            simp only at h
            rw [h] at this
            simp at this
          have hb' : b = ⟨#[]⟩ ∧ eb = 31 := by
            rw [textOut, if_neg hg2] at hnb
            injection hnb with h1 h2
            exact ⟨h1.symm, h2.symm⟩
          obtain ⟨ha, rfl⟩ := ha
          obtain ⟨rfl, rfl⟩ := hb'
          have n1 : a.toList.isEmpty = false := by simpa using ha
          clear hna hnb hne hnc hfine hx1 ht1 hall hgood hg1 hg2
          go_wp2_with fail
          refine (c1.out _).mono ?_
          rintro e1 w1 ⟨rfl, hb1⟩
          have h1 := hb.trans (hb1.mono hwr)
          have hct1 := (hb1.cell (p := bd.add k) (World.block_lt_of_cell? _ _ hct)).trans hct
          go_wp2_with fail
          refine (c2.out _).mono ?_
          rintro e1 w2 ⟨rfl, hb2⟩
          have h2 := h1.trans (hb2.mono h1.size)
          go_wp2_with fail
          refine (c3.out _ (hrow.below h2)).mono ?_
          rintro e1 w3 ⟨rfl, hb3⟩
          have h3 := h2.trans (hb3.mono h2.size)
          go_wp2_with fail
          refine (fixed_any _ (hL.below h3 hp)).mono ?_
          rintro e1 w4 ⟨rfl, hb4⟩
          go_wp2_with fail
          go_ret
          exact ⟨rfl, h3.trans (hb4.mono h3.size)⟩
        · have ha : a = ⟨#[]⟩ ∧ ea = 31 := by
            rw [numOut, if_neg hg1] at hna
            injection hna with h1 h2
            exact ⟨h1.symm, h2.symm⟩
          obtain ⟨rfl, rfl⟩ := ha
          clear hna hnb hne hnc hfine hx1 ht1 hall hgood hg1
          go_wp2_with fail
          refine (c1.out _).mono ?_
          rintro e1 w1 ⟨rfl, hb1⟩
          have h1 := hb.trans (hb1.mono hwr)
          have hct1 := (hb1.cell (p := bd.add k) (World.block_lt_of_cell? _ _ hct)).trans hct
          go_wp2_with fail
          refine (c2.out _).mono ?_
          rintro e1 w2 ⟨rfl, hb2⟩
          have h2 := h1.trans (hb2.mono h1.size)
          go_wp2_with fail
          refine (c3.out _ (hrow.below h2)).mono ?_
          rintro e1 w3 ⟨rfl, hb3⟩
          have h3 := h2.trans (hb3.mono h2.size)
          go_wp2_with fail
          refine (fixed_any _ (hL.below h3 hp)).mono ?_
          rintro e1 w4 ⟨rfl, hb4⟩
          go_wp2_with fail
          go_ret
          exact ⟨rfl, h3.trans (hb4.mono h3.size)⟩
    · obtain rfl : k = q := by omega
      obtain ⟨S, hS⟩ : ∃ S : ByteArray, S = ⟨(items xs ts 0 k).toArray⟩ := ⟨_, rfl⟩
      have hSl : S.size ≤ 7000000 := by
        rw [hS]; simp only [ByteArray.size, List.size_toArray]; omega
      have hSz : (S ++ z).data.toList = items xs ts 0 k ++ z.data.toList := by rw [hS]; simp [ByteArray.data_append]
      rw [← hS]
      have hSzz : (S ++ z).size ≤ 9223372036854775807 := by rw [ByteArray.size_append]; omega
      have hfine' := Lib.hid hfine
      have hSz' := Lib.hid hSz
      clear hS hSz hlen hfine
      go_wp2_with fail
      refine (new_any _ _).mono ?_
      rintro e w1 ⟨rfl, hw1⟩
      have i1 : IsRd w1 wr.heap.size (items xs ts 0 (k - 0) ++ z.data.toList, 0) := by
        rw [← hw1, Nat.sub_zero, ← hSz'.out]; exact IsRd.new wr _ hSzz
      have h1 : Below w.heap.size w w1 := by rw [← hw1]; exact hb.alloc hwr _
      clear hw1
      obtain ⟨R, hR⟩ : ∃ R : Nat, R = wr.heap.size := ⟨_, rfl⟩
      rw [← hR] at i1
      simp only [← hR]
      have hRw : w.heap.size ≤ R := by omega
      have hR' := Lib.hid hR
      clear hR hb hLr hwr
      go_wp2_with fail
      go_loopw [17] (fun i wr => ∃ k2 : Nat, k2 ≤ k ∧ i = .int .i64 (k2 : Int) ∧ IsRd wr R (items xs ts k2 (k - k2) ++ z.data.toList, 0) ∧ Below w.heap.size w wr) (fun i _ => k - (intOf i).toNat)
      case atStart => exact ⟨0, Nat.zero_le _, rfl, i1, h1⟩
      case round =>
        clear i1 h1
        obtain ⟨k2, hk2, rfl, hd, hb⟩ := hrel
        have hwr := hb.size
        have hLr := hL.below hb hp
        by_cases hlt : k2 < k
        · obtain ⟨ad, u, rfl, hu, hcx0⟩ := hx.at_ (show k2 < n by omega)
          obtain ⟨bd, v, rfl, hv, hct0⟩ := ht.at_ (show k2 < m by omega)
          obtain ⟨x, hx1, rfl⟩ := getMap_some hu
          obtain ⟨t, ht1, rfl⟩ := getStr_some hv
          clear hu hv
          obtain ⟨hg1, hg2⟩ := hfine'.out k2 x t hlt hx1 ht1
          have hsl := run_cut (some ad) n c k2 (by omega)
          have hall : ∀ x ∈ xs.take k2, okNum x = true := Fine.all (ts := ts) (fun i y u hi => hfine'.out i y u (by omega)) (by rw [htl.out]; omega)
          have hrow := row_take hx (show k2 ≤ n by omega)
          rw [← List.map_take] at hrow
          obtain ⟨hx0, hxm⟩ := okNum_le hg1
          obtain ⟨L3, hL3⟩ : ∃ L3, L3 = items xs ts (k2 + 1) (k - (k2 + 1)) ++ z.data.toList := ⟨_, rfl⟩
          have hst : items xs ts k2 (k - k2) ++ z.data.toList = digits x.toNat ++ (digits t.size ++ (t.data.toList ++ (row (xs.take k2) ++ L3))) := by
            rw [show k - k2 = (k - (k2 + 1)) + 1 by omega, items, item_eq hx1 ht1, hL3]
            simp only [List.append_assoc]
          rw [hst] at hd
          have hts := Lib.size_eq t
          have s1 : rdNum 4611686018427387903 (digits x.toNat ++ (digits t.size ++ (t.data.toList ++ (row (xs.take k2) ++ L3))), 0) = ((x, 0), (digits t.size ++ (t.data.toList ++ (row (xs.take k2) ++ L3)), 0)) := by
            rw [rdNum_ok 4611686018427387903 (scan_digits0 x.toNat (by omega) _) (by omega) (by omega), Int.toNat_of_nonneg hx0]
          have s2 : rdText 1073741824 (digits t.size ++ (t.data.toList ++ (row (xs.take k2) ++ L3)), 0) = ((t.data.toList, 0), (row (xs.take k2) ++ L3, 0)) :=
            rdText_ok (by rw [hts]) (by omega) (by omega)
          have s3 : rdNums 1073741824 4611686018427387903 (row (xs.take k2) ++ L3, 0) = ((xs.take k2, 0), (L3, 0)) :=
            rdNums_row (by omega) (by simp; omega) (by simp; omega) hall
          have c1 := Lib.hid (fun W h1 h2 => s1 ▸ rd_any R _ 4611686018427387903 W h1 h2)
          have c2 := Lib.hid (fun W h1 h2 => s2 ▸ text_any R _ 1073741824 W h1 h2)
          have c3 := Lib.hid (fun W h1 h2 => s3 ▸ nums_rd R _ 1073741824 4611686018427387903 W h1 h2 (by omega))
          have hL3' := Lib.hid hL3
          have hcx0' := Lib.hid hcx0
          have hct0' := Lib.hid hct0
          clear hcx0 hct0
          generalize digits x.toNat ++ (digits t.size ++ (t.data.toList ++ (row (xs.take k2) ++ L3))) = l0 at *
          generalize digits t.size ++ (t.data.toList ++ (row (xs.take k2) ++ L3)) = l1 at *
          generalize row (xs.take k2) ++ L3 = l2 at *
          have n1 : ((x : Int) != x) = false := by simp
          have n2 : (t.toList != t.toList) = false := by simp
          clear s1 s2 s3 hst hL3 hall hx1 ht1 hg1 hg2
          go_wp2_with fail
          refine (c1.out _ hd hLr).mono ?_
          rintro e w2 ⟨rfl, hd2, g2⟩
          have h2 := hb.trans (Only.toBelow g2 hRw hwr)
          go_wp2_with fail
          refine (c2.out _ hd2 (hL.below h2 hp)).mono ?_
          unfold TextPost
          simp only [Lib.mk_data]
          rintro e w3 ⟨rfl, hd3, g3⟩
          have h3 := h2.trans (Only.toBelow g3 hRw h2.size)
          go_wp2_with fail
          refine (c3.out _ hd3 (hL.below h3 hp)).mono ?_
          rintro e w4 ⟨A1, n1', k1, rfl, hrow1, hne1, hd4, g4⟩
          have h4 := h3.trans (Only.toBelow g4 hRw h3.size)
          have hcx := (h4.cell (World.block_lt_of_cell? _ _ hcx0'.out)).trans hcx0'.out
          have hct := (h4.cell (World.block_lt_of_cell? _ _ hct0'.out)).trans hct0'.out
          have hn1 : n1' ≤ 9223372036854775807 := by have h1 := hrow1.1; rw [List.length_map, List.length_take] at h1; omega
          clear hne1
          go_wp2_with fail
          refine (same_any _ _ _ _ _ _ _ _ _ hrow1 (hrow.below h4) hn1).mono ?_
          unfold SamePost
          rw [decide_eq_true rfl]
          rintro e w6 ⟨rfl, q6, rfl⟩
          have hd6 : IsRd (w4.drewN q6) R (L3, 0) := hd4.below (below_drewN (Below.refl _ _) q6) hd4.lt
          have h6 : Below w.heap.size w (w4.drewN q6) := below_drewN h4 q6
          go_wp2_with fail
          go_roundw
          case rel => exact ⟨k2 + 1, by omega, by go_num, by rw [← hL3'.out]; exact hd6, h6⟩
          case measure => simp [intOf]; omega
        · obtain rfl : k2 = k := by omega
          rw [Nat.sub_self, items, List.nil_append] at hd
          obtain ⟨l, hl⟩ : ∃ l, l = z.data.toList := ⟨_, rfl⟩
          have hlz : z.toList = l := by rw [Lib.toList_data, hl]
          rw [← hl] at hd
          clear hl
          by_cases hl0 : l = []
          · have t2 : z.toList.isEmpty = true := by rw [hlz, hl0]; rfl
            have t3 : rdEnd (l, 0) = 0 := by simp [rdEnd, hl0]
            go_wp2_with fail
            refine (fixed_any _ hLr).mono ?_
            rintro e w2 ⟨rfl, hb2⟩
            have h2 := hb.trans (hb2.mono hwr)
            have hd2 := hd.below hb2 hd.lt
            go_wp2_with fail
            refine (end_any _ _ _ hd2 (hL.below h2 hp)).mono ?_
            unfold EndPost
            rw [t3]
            rintro e w3 ⟨rfl, hd3, hb3⟩
            go_wp2_with fail
            go_ret
            exact ⟨rfl, h2.trans (hb3.mono h2.size)⟩
          · have t1 : l.isEmpty = false := by simpa using hl0
            have t3 : rdEnd (l, 0) = 32 := by simp [rdEnd, hl0]
            go_wp2_with fail
            refine (fixed_any _ hLr).mono ?_
            rintro e w2 ⟨rfl, hb2⟩
            have h2 := hb.trans (hb2.mono hwr)
            have hd2 := hd.below hb2 hd.lt
            go_wp2_with fail
            refine (end_any _ _ _ hd2 (hL.below h2 hp)).mono ?_
            unfold EndPost
            rw [t3]
            rintro e w3 ⟨rfl, hd3, hb3⟩
            go_wp2_with fail
            go_ret
            exact ⟨rfl, h2.trans (hb3.mono h2.size)⟩
end Go.Proofs.YtkhnohiokclcfaaDoor.Wire

/- The contracts of wire.Nums and of the document's Nums: a row's bytes. -/
import Derived.Test.YtkhnohiokclcfaaDoorWireWalkB
import Derived.Test.YtkhnohiokclcfaaDoorBuilder
import Derived.Test.YtkhnohiokclcfaaDoorWords
namespace Go.Proofs.YtkhnohiokclcfaaDoor.Wire
open Go.RowKit Mem
open Go.Proofs

theorem take_snoc_of {l : List Int} {k : Nat} {x : Int} (h : l[k]? = some x) : l.take (k + 1) = l.take k ++ [x] := by
  rw [List.take_add_one, h]; rfl
theorem getMap_some {l : List Int} {k : Nat} {u : Value} (h : (l.map (Value.int .i64))[k]? = some u) : ∃ x, l[k]? = some x ∧ u = .int .i64 x := by
  rw [List.getElem?_map] at h
  cases hx : l[k]? with
  | none => rw [hx] at h; cases h
  | some x => rw [hx] at h; exact ⟨x, rfl, by injection h with h; exact h.symm⟩

set_option maxRecDepth 100000 in
theorem nums_long (A : Option Addr) (n c : Nat) (w : World) (hn : 65536 < n) :
    Calls Tryd.prog 15 #[.slice A n c] w fun e w' => e = .returned (.tuple #[.string ⟨#[]⟩, .int .i64 31]) ∧ w = w' := by
  go_enter Tryd.func15, Tryd.ntmps15
  go_wp2
  go_ret2
  exact ⟨rfl, rfl⟩

set_option maxRecDepth 100000 in
set_option maxHeartbeats 2000000 in
theorem nums_any (A : Option Addr) (n c : Nat) (l : List Int) (w : World) (hr : Row w A n (l.map (Value.int .i64))) (hn : n ≤ 65536) :
    Calls Tryd.prog 15 #[.slice A n c] w fun e w' =>
      (((∀ x ∈ l, okNum x = true) ∧ e = .returned (.tuple #[.string ⟨(row l).toArray⟩, .int .i64 0])) ∨ ((¬ ∀ x ∈ l, okNum x = true) ∧ e = .returned (.tuple #[.string ⟨#[]⟩, .int .i64 31]))) ∧ Below w.heap.size w w' := by
  have hln := Lib.hid (show l.length = n by have := hr.1; simpa using this)
  have hd9 : (digits n).length ≤ 9 := digits_length9 n (by omega)
  have hdp : 0 < (digits n).length := digits_pos n
  go_enter Tryd.func15, Tryd.ntmps15
  go_wp2_with fail
  refine (put_str n _ (by omega)).mono ?_
  rintro e w1 ⟨g, cap, rfl, hown, _, hb1⟩
  have hg := hown.lt g rfl
  have hbk : Bld.Is w.heap.size w.heap.size [] w1 :=
    Or.inl ⟨Nat.le_refl _, .slice none 0 0, (hb1.block _ (by simp)).trans (heap_alloc_new w _), World.ownsRow_nil _ _ _ _, by simp [Value.ownBlock]⟩
  have hs1 : w.heap.size + 1 ≤ w1.heap.size := by have := hb1.size; simpa using this
  have hbw : Below w.heap.size w w1 := ((Below.refl _ w).alloc (Nat.le_refl _) _).trans (hb1.mono (by simp))
  go_wp2_with fail
  refine (Bld.write_any w.heap.size w.heap.size [] ⟨g, 0, none⟩ (digits n).length cap (Lib.byteCells (digits n)) _ hbk (by simp [Lib.byteCells]) (hown.cells (g := g) rfl) (by simp at hg; simp; omega) (by simp [Lib.byteCells, Value.oneCell']) (by simp; omega) (by omega)).mono ?_
  rintro e w2 ⟨rfl, hbk2, hb2⟩
  have hbw2 := hbw.trans hb2
  clear hbk hb1 hb2 hown hg hbw
  go_wp2_with fail
  go_loopw [18] (fun i wr => ∃ k : Nat, k ≤ n ∧ i = .int .i64 (k : Int) ∧ (∀ x ∈ l.take k, okNum x = true) ∧ Bld.Is w.heap.size w.heap.size (Lib.byteCells (digits n ++ enc (l.take k))) wr ∧ Below w.heap.size w wr) (fun i _ => n - (intOf i).toNat)
  case atStart => exact ⟨0, Nat.zero_le _, rfl, by simp, by simpa [enc] using hbk2, hbw2⟩
  case round =>
    obtain ⟨k, hk, rfl, hok, hbr, hb⟩ := hrel
    clear hbk2 hbw2
    have hwr := hb.size
    by_cases hlt : k < n
    · obtain ⟨ad, u, rfl, hu, hc⟩ := (hr.below hb).at_ hlt
      obtain ⟨x, hx, rfl⟩ := getMap_some hu
      have hts := Lib.hid (take_snoc_of hx)
      have hx' := Lib.hid hx
      have hu' := Lib.hid hu
      have hel : (enc (l.take k)).length ≤ 9 * k := Nat.le_trans (enc_length _ hok) (by simp; omega)
      have hok' := Lib.hid hok
      clear hx hu hok
      by_cases ho : okNum x = true
      · obtain ⟨h0, h1⟩ := okNum_le ho
        obtain ⟨m, rfl⟩ := Int.eq_ofNat_of_zero_le h0
        have hm9 : (digits m).length ≤ 9 := digits_length9 m (by omega)
        go_wp2_with fail
        refine (num_ok m _ (by omega)).mono ?_
        rintro e w3 ⟨rfl, hb3⟩
        have hbr3 : Bld.Is w.heap.size w.heap.size (Lib.byteCells (digits n ++ enc (l.take k))) w3 := Bld.Is.below hbr hb3
        go_wp2_with fail
        refine (Bld.writeString_any w.heap.size w.heap.size _ ⟨(digits m).toArray⟩ _ hbr3 (by simp [Lib.byteCells, ByteArray.size]; omega) (by have := hb3.size; omega)).mono ?_
        rintro e w4 ⟨rfl, hbr4, hb4⟩
        go_wp2_with fail
        go_roundw
        case rel =>
          refine ⟨k + 1, by omega, by go_num, ?_, ?_, (hb.trans (hb3.mono hwr)).trans hb4⟩
          · rw [hts.out]
            intro y hy
            rcases List.mem_append.1 hy with hy | hy
            · exact hok'.out y hy
            · simp only [List.mem_singleton] at hy; subst hy; exact ho
          · rw [hts.out, enc_snoc, ← List.append_assoc, Lib.byteCells_append]
            exact hbr4
        case measure => simp [intOf]; omega
      · rcases okNum_not ho with h0 | h0
        · go_wp2_with fail
          refine (num_neg x _ h0).mono ?_
          rintro e w3 ⟨rfl, rfl⟩
          go_wp2_with fail
          go_ret2
          refine ⟨Or.inr ⟨fun h => ho (h x (List.mem_of_getElem? hx'.out)), rfl⟩, hb⟩
        · go_wp2_with fail
          refine (num_high x _ h0).mono ?_
          rintro e w3 ⟨rfl, rfl⟩
          go_wp2_with fail
          go_ret2
          refine ⟨Or.inr ⟨fun h => ho (h x (List.mem_of_getElem? hx'.out)), rfl⟩, hb⟩
    · obtain rfl : k = n := by omega
      have hfull : l.take k = l := List.take_of_length_le (by rw [hln.out]; exact Nat.le_refl _)
      rw [hfull] at hok hbr
      have hbr' := Lib.hid hbr
      have hok' := Lib.hid hok
      have hf' := Lib.hid hfull
      clear hok hbr hfull
      go_wp2_with fail
      refine (Tryd.Builder_String_any w.heap.size w.heap.size _ _ hbr'.out (by omega)).mono ?_
      rintro e w3 ⟨rfl, hb3⟩
      go_wp2_with fail
      go_ret2
      refine ⟨Or.inl ⟨hok'.out, ?_⟩, hb.trans hb3⟩
      rw [row, hln.out]
      rfl

set_option maxRecDepth 100000 in
theorem rnums_long (A : Option Addr) (n c : Nat) (w : World) (hn : 65536 < n) :
    Calls Tryd.prog 16 #[.slice A n c] w fun e w' => e = .returned (.tuple #[.string ⟨#[]⟩, .int .i64 31]) ∧ w = w' := by
  go_enter Tryd.func16, Tryd.ntmps16
  go_wp2
  go_ret2
  exact ⟨rfl, rfl⟩

set_option maxRecDepth 100000 in
set_option maxHeartbeats 2000000 in
theorem rnums_any (A : Option Addr) (n c : Nat) (l : List Int) (w : World) (hr : Row w A n (l.map (Value.int .i64))) (hn : n ≤ 65536) :
    Calls Tryd.prog 16 #[.slice A n c] w fun e w' =>
      (((∀ x ∈ l, okNum x = true) ∧ e = .returned (.tuple #[.string ⟨(row l).toArray⟩, .int .i64 0])) ∨ ((¬ ∀ x ∈ l, okNum x = true) ∧ e = .returned (.tuple #[.string ⟨#[]⟩, .int .i64 31]))) ∧ Below w.heap.size w w' := by
  have hln := Lib.hid (show l.length = n by have := hr.1; simpa using this)
  have hd9 : (digits n).length ≤ 9 := digits_length9 n (by omega)
  go_enter Tryd.func16, Tryd.ntmps16
  go_wp2_with fail
  refine (dig_ref n n _ (Nat.le_refl _) (by omega)).mono ?_
  rintro e w1 ⟨rfl, hb1⟩
  go_wp2_with fail
  go_loopw [4, 5] (fun s i wr => ∃ k : Nat, k ≤ n ∧ i = .int .i64 (k : Int) ∧ (∀ x ∈ l.take k, okNum x = true) ∧ s = .string ⟨(digits n ++ enc (l.take k)).toArray⟩ ∧ Below w.heap.size w wr) (fun _ i _ => n - (intOf i).toNat)
  case atStart => exact ⟨0, Nat.zero_le _, rfl, by simp, by simp [enc], hb1⟩
  case round =>
    obtain ⟨k, hk, rfl, hok, rfl, hb⟩ := hrel
    clear hb1
    have hwr := hb.size
    by_cases hlt : k < n
    · obtain ⟨ad, u, rfl, hu, hc⟩ := (hr.below hb).at_ hlt
      obtain ⟨x, hx, rfl⟩ := getMap_some hu
      have hts := Lib.hid (take_snoc_of hx)
      have hx' := Lib.hid hx
      have hel : (enc (l.take k)).length ≤ 9 * k := Nat.le_trans (enc_length _ hok) (by simp; omega)
      have hok' := Lib.hid hok
      clear hx hu hok
      by_cases ho : okNum x = true
      · obtain ⟨h0, h1⟩ := okNum_le ho
        obtain ⟨m, rfl⟩ := Int.eq_ofNat_of_zero_le h0
        have hm9 : (digits m).length ≤ 9 := digits_length9 m (by omega)
        go_wp2_with fail
        refine (rnum_ok m _ (by omega)).mono ?_
        rintro e w3 ⟨rfl, hb3⟩
        go_wp2_with fail
        go_roundw
        case rel =>
          refine ⟨k + 1, by omega, by go_num, ?_, ?_, hb.trans (hb3.mono hwr)⟩
          · rw [hts.out]
            intro y hy
            rcases List.mem_append.1 hy with hy | hy
            · exact hok'.out y hy
            · simp only [List.mem_singleton] at hy; subst hy; exact ho
          · rw [hts.out, enc_snoc, ← List.append_assoc, ByteArray.mk_append_mk]
            rfl
        case measure => simp [intOf]; omega
      · rcases okNum_not ho with h0 | h0
        · go_wp2_with fail
          refine (rnum_neg x _ h0).mono ?_
          rintro e w3 ⟨rfl, rfl⟩
          go_wp2_with fail
          go_ret2
          refine ⟨Or.inr ⟨fun h => ho (h x (List.mem_of_getElem? hx'.out)), rfl⟩, hb⟩
        · go_wp2_with fail
          refine (rnum_high x _ h0).mono ?_
          rintro e w3 ⟨rfl, rfl⟩
          go_wp2_with fail
          go_ret2
          refine ⟨Or.inr ⟨fun h => ho (h x (List.mem_of_getElem? hx'.out)), rfl⟩, hb⟩
    · obtain rfl : k = n := by omega
      have hfull : l.take k = l := List.take_of_length_le (by rw [hln.out]; exact Nat.le_refl _)
      rw [hfull] at hok
      have hok' := Lib.hid hok
      have hf' := Lib.hid hfull
      clear hok hfull
      go_wp2_with fail
      go_ret2
      refine ⟨Or.inl ⟨hok'.out, ?_⟩, hb⟩
      rw [row, hln.out]
      simp only [hf'.out]
      rfl
end Go.Proofs.YtkhnohiokclcfaaDoor.Wire

/- The walk of the law WireRow: it answers true, whatever the row; nothing that was there turns. -/
import Derived.Test.YtkhnohiokclcfaaDoorWireLaysW
namespace Go.Proofs.YtkhnohiokclcfaaDoor.Wire
open Go.RowKit Mem

/-- the bytes of those numbers that may be -/
def encG (l : List Int) : List UInt8 := l.flatMap fun x => if okNum x = true then digits x.toNat else []
/-- what is wrong with some number -/
def badG (l : List Int) : Int := if ∀ x ∈ l, okNum x = true then 0 else 31
theorem encG_snoc (l : List Int) (x : Int) : encG (l ++ [x]) = encG l ++ (if okNum x = true then digits x.toNat else []) := by simp [encG]
theorem encG_length : ∀ (l : List Int), (encG l).length ≤ 9 * l.length
  | [] => by simp [encG]
  | x :: l => by
    have h3 := encG_length l
    simp only [encG, List.flatMap_cons, List.length_append, List.length_cons] at h3 ⊢
    by_cases hx : okNum x = true
    · have h1 := okNum_le hx
      have h2 := digits_length9 x.toNat (by omega)
      rw [if_pos hx]
      omega
    · rw [if_neg hx]
      simp only [List.length_nil]
      omega
theorem encG_all {l : List Int} (h : ∀ x ∈ l, okNum x = true) : encG l = enc l := by
  unfold encG enc
  induction l with
  | nil => rfl
  | cons x l ih =>
    simp only [List.flatMap_cons]
    rw [if_pos (h x (by simp)), ih (fun y hy => h y (by simp [hy]))]
theorem badG_snoc_ok (l : List Int) (x : Int) (h : okNum x = true) : badG (l ++ [x]) = badG l := by
  unfold badG
  by_cases ha : ∀ y ∈ l, okNum y = true
  · rw [if_pos ha, if_pos (fun y hy => by
      rcases List.mem_append.1 hy with hy | hy
      · exact ha y hy
      · simp only [List.mem_singleton] at hy; subst hy; exact h)]
  · rw [if_neg ha, if_neg (fun hh => ha (fun y hy => hh y (by simp [hy])))]
theorem badG_snoc_bad (l : List Int) (x : Int) (h : ¬ okNum x = true) : badG (l ++ [x]) = 31 := by
  unfold badG
  rw [if_neg (fun hh => h (hh x (by simp)))]

set_option maxRecDepth 100000 in
set_option maxHeartbeats 4000000 in
theorem row_any (A : Option Addr) (n c : Nat) (l : List Int) (w : World) (hr : Row w A n (l.map (Value.int .i64))) (hL : Laid w) (hnm : n ≤ maxLen) :
    Calls Tryd.prog 4 #[.slice A n c] w fun e w' => e = .returned (.bool true) ∧ Below w.heap.size w w' := by
  unfold maxLen at hnm
  have hp := hL.pos
  have hln := Lib.hid (show l.length = n by simpa using hr.1)
  obtain ⟨⟨d, ed⟩, hnd⟩ : ∃ x, numsOut l = x := ⟨_, rfl⟩
  have c5 := Lib.hid (fun w hr => hnd ▸ nums_out A n c l w hr)
  have hnd' := Lib.hid hnd
  clear hnd
  by_cases hlong : 65536 < n
  · have hed : ed = 31 := by
      have := hnd'.out
      rw [numsOut, if_neg (by rw [hln.out]; omega)] at this
      injection this with _ h
      exact h.symm
    subst hed
    go_enter Tryd.func4, Tryd.ntmps4
    go_wp2_with fail
    refine (c5.out _ hr).mono ?_
    rintro e w1 ⟨rfl, hb1⟩
    have hL1 := hL.below hb1 hp
    go_wp2_with fail
    refine (fixed_any _ hL1).mono ?_
    rintro e w2 ⟨rfl, hb2⟩
    go_wp2_with fail
    go_ret
    exact ⟨rfl, hb1.trans (hb2.mono hb1.size)⟩
  · have hd9 : (digits n).length ≤ 9 := digits_length9 n (by omega)
    have hgl : (encG l).length ≤ 9 * n := by rw [← hln.out]; exact encG_length l
    go_enter Tryd.func4, Tryd.ntmps4
    go_wp2_with fail
    refine (c5.out _ hr).mono ?_
    rintro e w1 ⟨rfl, hb1⟩
    go_wp2_with fail
    refine (num_ok n _ (by omega)).mono ?_
    rintro e w2 ⟨rfl, hb2⟩
    have h2 := hb1.trans (hb2.mono hb1.size)
    clear hb1 hb2
    go_wp2_with fail
    go_loopw [5, 6, 8] (fun t f i wr => ∃ k : Nat, k ≤ n ∧ i = .int .i64 (k : Int) ∧ t = .string ⟨(digits n ++ encG (l.take k)).toArray⟩ ∧ f = .int .i64 (badG (l.take k)) ∧ Below w.heap.size w wr) (fun _ _ i _ => n - (intOf i).toNat)
    case atStart => exact ⟨0, Nat.zero_le _, rfl, by simp [encG], by simp [badG], h2⟩
    case round =>
      obtain ⟨k, hk, rfl, rfl, rfl, hb⟩ := hrel
      clear h2
      have hwr := hb.size
      by_cases hlt : k < n
      · obtain ⟨ad, u, rfl, hu, hc⟩ := (hr.below hb).at_ hlt
        obtain ⟨x, hx, rfl⟩ := getMap_some hu
        have hts := Lib.hid (take_snoc_of hx)
        have hel : (encG (l.take k)).length ≤ 9 * k := Nat.le_trans (encG_length _) (by simp; omega)
        clear hx hu
        by_cases ho : okNum x = true
        · obtain ⟨h0, h1⟩ := okNum_le ho
          obtain ⟨m, rfl⟩ := Int.eq_ofNat_of_zero_le h0
          have hm9 : (digits m).length ≤ 9 := digits_length9 m (by omega)
          go_wp2_with fail
          refine (num_ok m _ (by omega)).mono ?_
          rintro e w3 ⟨rfl, hb3⟩
          go_wp2_with fail
          go_roundw
          case rel =>
            refine ⟨k + 1, by omega, by go_num, ?_, ?_, hb.trans (hb3.mono hwr)⟩
            · rw [hts.out, encG_snoc, if_pos ho, ← List.append_assoc, ByteArray.mk_append_mk]
              rfl
            · rw [hts.out, badG_snoc_ok _ _ ho]
          case measure => simp [intOf]; omega
        · have hcall : Calls Tryd.prog 11 #[.int .i64 x] wr fun e w' => e = .returned (.tuple #[.string ⟨#[]⟩, .int .i64 31]) ∧ wr = w' := by
            rcases okNum_not ho with h0 | h0
            · exact num_neg x wr h0
            · exact num_high x wr h0
          have hcall' := Lib.hid hcall
          clear hcall
          go_wp2_with fail
          refine hcall'.out.mono ?_
          rintro e w3 ⟨rfl, rfl⟩
          go_wp2_with fail
          go_roundw
          case rel =>
            refine ⟨k + 1, by omega, by go_num, ?_, ?_, hb⟩
            · rw [hts.out, encG_snoc, if_neg ho, List.append_nil]
              have e : ∀ b : ByteArray, b ++ ⟨#[]⟩ = b := fun b => by apply ByteArray.ext; simp [ByteArray.data_append]
              rw [e]
            · rw [hts.out, badG_snoc_bad _ _ ho]
          case measure => simp [intOf]; omega
      · obtain rfl : k = n := by omega
        have hfull : l.take k = l := List.take_of_length_le (by rw [hln.out]; exact Nat.le_refl _)
        have hLr := hL.below hb hp
        by_cases hall : ∀ x ∈ l, okNum x = true
        · have hD : d = ⟨(digits k ++ encG (l.take k)).toArray⟩ ∧ ed = 0 := by
            have := hnd'.out
            rw [numsOut, if_pos ⟨by rw [hln.out]; omega, hall⟩] at this
            injection this with h1 h2
            exact ⟨by rw [← h1, hfull, encG_all hall, row, hln.out], h2.symm⟩
          obtain ⟨rfl, rfl⟩ := hD
          have hbad : badG (l.take k) = 0 := by rw [hfull, badG, if_pos hall]
          rw [hbad]
          have hall' := Lib.hid hall
          have hf' := Lib.hid hfull
          clear hall hfull hbad
          go_wp2_with fail
          refine (fixed_any _ hLr).mono ?_
          rintro e w3 ⟨rfl, hb3⟩
          go_wp2_with fail
          go_ret
          exact ⟨rfl, hb.trans (hb3.mono hwr)⟩
        · have hD : d = ⟨#[]⟩ ∧ ed = 31 := by
            have := hnd'.out
            rw [numsOut, if_neg (fun h => hall h.2)] at this
            injection this with h1 h2
            exact ⟨h1.symm, h2.symm⟩
          obtain ⟨rfl, rfl⟩ := hD
          have hbad : badG (l.take k) = 31 := by rw [hfull, badG, if_neg hall]
          rw [hbad]
          have hall' := Lib.hid hall
          have hf' := Lib.hid hfull
          clear hall hfull hbad
          go_wp2_with fail
          refine (fixed_any _ hLr).mono ?_
          rintro e w3 ⟨rfl, hb3⟩
          go_wp2_with fail
          go_ret
          exact ⟨rfl, hb.trans (hb3.mono hwr)⟩
end Go.Proofs.YtkhnohiokclcfaaDoor.Wire

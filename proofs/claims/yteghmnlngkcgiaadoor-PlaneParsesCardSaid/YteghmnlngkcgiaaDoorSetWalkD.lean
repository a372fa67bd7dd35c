/- Sets: And, Or, Minus. Printed by gensets.py. -/
import Derived.Test.YteghmnlngkcgiaaDoorSetWalkC
namespace Go.Proofs.YteghmnlngkcgiaaDoor.Sets
open Go.RowKit Mem

/-- what is made of two texts, byte by byte -/
def bin (G : UInt8 → UInt8 → UInt8) (a b : List UInt8) : List UInt8 := least ((List.range (max a.length b.length)).map fun i => G (byteAt a i) (byteAt b i))
theorem minus_nat (x y : UInt8) : (x &&& ~~~y).toNat = x.toNat &&& (255 - y.toNat) := by
  rw [UInt8.toNat_and, UInt8.toNat_not]
  rfl

set_option maxRecDepth 100000 in
set_option maxHeartbeats 1000000 in
theorem or1_any (x y : UInt8) (w : World) : Calls Tryd.prog 41 #[.int .u8 (x.toNat : Int), .int .u8 (y.toNat : Int)] w fun e w' => e = .returned (.int .u8 ((x ||| y).toNat : Int)) ∧ w' = w := by
  have h : bits .or .u8 (x.toNat : Int) (y.toNat : Int) = ((x ||| y).toNat : Int) := u8_or_nat _ _ x.toNat_lt y.toNat_lt
  go_enter Tryd.func41, Tryd.ntmps41
  go_wp2_with fail
  go_ret
  exact ⟨rfl, rfl⟩

set_option maxRecDepth 100000 in
set_option maxHeartbeats 1000000 in
theorem each_or (a b : ByteArray) (w : World) (ha : a.size ≤ 140737488355328) (hb : b.size ≤ 140737488355328) :
    Calls Tryd.prog 40 #[.string a, .string b, .func (.func 41) #[] #[]] w fun e w' => e = .returned (.string ⟨(least ((List.range (max a.size b.size)).map fun i => (byteAt a.data.toList i) ||| (byteAt b.data.toList i))).toArray⟩) ∧ Below w.heap.size w w' := by
  obtain ⟨n, hn⟩ : ∃ n : Nat, n = max a.size b.size := ⟨_, rfl⟩
  have hni : max (a.size : Int) (b.size : Int) = (n : Int) := by omega
  have hn47 : n ≤ 140737488355328 := by omega
  rw [← hn]
  obtain ⟨G, hG⟩ : ∃ G : Nat → UInt8, G = fun i => (byteAt a.data.toList i) ||| (byteAt b.data.toList i) := ⟨_, rfl⟩
  rw [← hG]
  have k1 := fun (i : Nat) W => at_any a i W
  have k2 := fun (i : Nat) W => at_any b i W
  have k3 := fun (i : Nat) W => or1_any (byteAt a.data.toList i) (byteAt b.data.toList i) W
  have k3 : ∀ (i : Nat) W, Calls Tryd.prog 41 #[.int .u8 ((byteAt a.data.toList i).toNat : Int), .int .u8 ((byteAt b.data.toList i).toNat : Int)] W fun e w' => e = .returned (.int .u8 ((G i).toNat : Int)) ∧ w' = W := by
    intro i W
    rw [hG]
    exact k3 i W
  clear hn hG
  replace k1 := Lib.hid k1
  replace k2 := Lib.hid k2
  replace k3 := Lib.hid k3
  have mk := make_bytes w n (by omega)
  go_enter Tryd.func40, Tryd.ntmps40
  go_wp2_with fail
  have h0 : Blk (w.alloc (.cells (zeros n) 5)) w.heap.size 5 ⟨rowK n G 0⟩ := by rw [rowK_zero]; exact Blk.new w _ _
  have b0 : Below w.heap.size w (w.alloc (.cells (zeros n) 5)) := (Below.refl _ w).alloc (Nat.le_refl _) _
  clear mk
  generalize w.alloc (.cells (zeros n) 5) = w1 at h0 b0 ⊢
  generalize hB : w.heap.size = B at h0 b0 ⊢
  replace hB := Lib.hid hB
  go_loopw [17] (fun y wr => ∃ k : Nat, k ≤ n ∧ y = .int .i64 (k : Int) ∧ Blk wr B 5 ⟨rowK n G k⟩ ∧ Below B w wr) (fun y _ => n - (intOf y).toNat)
  case atStart => exact ⟨0, Nat.zero_le _, rfl, h0, b0⟩
  case round =>
    obtain ⟨k, hk, rfl, hr, hb'⟩ := hrel
    clear h0 b0
    by_cases hlt : k < n
    · have m : wr.cell? ⟨B, k, none⟩ = some (.int .u8 0) := (hr.cell k).trans (rowK_at n G k hlt)
      have f := hr.free k
      have hstep := hr.put k (.int .u8 ((G k).toNat : Int))
      rw [rowK_step] at hstep
      replace hstep := Lib.hid hstep
      replace hb' := Lib.hid hb'
      clear hr
      go_wp2_with fail
      refine (k1.out k _).mono ?_
      rintro en w2 ⟨rfl, rfl⟩
      go_wp2_with fail
      refine (k2.out k _).mono ?_
      rintro en w3 ⟨rfl, rfl⟩
      go_wp2_with fail
      refine (k3.out k _).mono ?_
      rintro en w4 ⟨rfl, rfl⟩
      go_wp2_with fail
      go_roundw
      case rel => exact ⟨k + 1, by omega, by go_num, hstep.out, Below.setCell hb'.out (Nat.le_refl _) _⟩
      case measure => simp [intOf]; omega
    · obtain rfl : k = n := by omega
      have hl : ((List.range k).map G).length = k := by simp
      have c4 := least_any ((List.range k).map G) B k wr (by omega) (fun j hj => by
        rw [hl] at hj
        rw [hr.cell, rowK_full k G j hj]
        simp)
      rw [hl] at c4
      replace c4 := Lib.hid c4
      clear hr hl
      go_wp2_with fail
      refine c4.out.mono ?_
      rintro en w2 ⟨rfl, rfl⟩
      go_wp2_with fail
      go_ret
      exact ⟨rfl, by rw [hB.out]; exact hb'⟩
set_option maxRecDepth 100000 in
set_option maxHeartbeats 1000000 in
theorem minus1_any (x y : UInt8) (w : World) : Calls Tryd.prog 43 #[.int .u8 (x.toNat : Int), .int .u8 (y.toNat : Int)] w fun e w' => e = .returned (.int .u8 ((x &&& ~~~y).toNat : Int)) ∧ w' = w := by
  have h : bits .andNot .u8 (x.toNat : Int) (y.toNat : Int) = ((x.toNat &&& (255 - y.toNat) : Nat) : Int) := u8_andNot_nat _ _ x.toNat_lt y.toNat_lt
  go_enter Tryd.func43, Tryd.ntmps43
  go_wp2_with fail
  go_ret
  exact ⟨by rw [minus_nat x y]; rfl, rfl⟩

set_option maxRecDepth 100000 in
set_option maxHeartbeats 1000000 in
theorem each_minus (a b : ByteArray) (w : World) (ha : a.size ≤ 140737488355328) (hb : b.size ≤ 140737488355328) :
    Calls Tryd.prog 40 #[.string a, .string b, .func (.func 43) #[] #[]] w fun e w' => e = .returned (.string ⟨(least ((List.range (max a.size b.size)).map fun i => (byteAt a.data.toList i) &&& ~~~(byteAt b.data.toList i))).toArray⟩) ∧ Below w.heap.size w w' := by
  obtain ⟨n, hn⟩ : ∃ n : Nat, n = max a.size b.size := ⟨_, rfl⟩
  have hni : max (a.size : Int) (b.size : Int) = (n : Int) := by omega
  have hn47 : n ≤ 140737488355328 := by omega
  rw [← hn]
  obtain ⟨G, hG⟩ : ∃ G : Nat → UInt8, G = fun i => (byteAt a.data.toList i) &&& ~~~(byteAt b.data.toList i) := ⟨_, rfl⟩
  rw [← hG]
  have k1 := fun (i : Nat) W => at_any a i W
  have k2 := fun (i : Nat) W => at_any b i W
  have k3 := fun (i : Nat) W => minus1_any (byteAt a.data.toList i) (byteAt b.data.toList i) W
  have k3 : ∀ (i : Nat) W, Calls Tryd.prog 43 #[.int .u8 ((byteAt a.data.toList i).toNat : Int), .int .u8 ((byteAt b.data.toList i).toNat : Int)] W fun e w' => e = .returned (.int .u8 ((G i).toNat : Int)) ∧ w' = W := by
    intro i W
    rw [hG]
    exact k3 i W
  clear hn hG
  replace k1 := Lib.hid k1
  replace k2 := Lib.hid k2
  replace k3 := Lib.hid k3
  have mk := make_bytes w n (by omega)
  go_enter Tryd.func40, Tryd.ntmps40
  go_wp2_with fail
  have h0 : Blk (w.alloc (.cells (zeros n) 5)) w.heap.size 5 ⟨rowK n G 0⟩ := by rw [rowK_zero]; exact Blk.new w _ _
  have b0 : Below w.heap.size w (w.alloc (.cells (zeros n) 5)) := (Below.refl _ w).alloc (Nat.le_refl _) _
  clear mk
  generalize w.alloc (.cells (zeros n) 5) = w1 at h0 b0 ⊢
  generalize hB : w.heap.size = B at h0 b0 ⊢
  replace hB := Lib.hid hB
  go_loopw [17] (fun y wr => ∃ k : Nat, k ≤ n ∧ y = .int .i64 (k : Int) ∧ Blk wr B 5 ⟨rowK n G k⟩ ∧ Below B w wr) (fun y _ => n - (intOf y).toNat)
  case atStart => exact ⟨0, Nat.zero_le _, rfl, h0, b0⟩
  case round =>
    obtain ⟨k, hk, rfl, hr, hb'⟩ := hrel
    clear h0 b0
    by_cases hlt : k < n
    · have m : wr.cell? ⟨B, k, none⟩ = some (.int .u8 0) := (hr.cell k).trans (rowK_at n G k hlt)
      have f := hr.free k
      have hstep := hr.put k (.int .u8 ((G k).toNat : Int))
      rw [rowK_step] at hstep
      replace hstep := Lib.hid hstep
      replace hb' := Lib.hid hb'
      clear hr
      go_wp2_with fail
      refine (k1.out k _).mono ?_
      rintro en w2 ⟨rfl, rfl⟩
      go_wp2_with fail
      refine (k2.out k _).mono ?_
      rintro en w3 ⟨rfl, rfl⟩
      go_wp2_with fail
      refine (k3.out k _).mono ?_
      rintro en w4 ⟨rfl, rfl⟩
      go_wp2_with fail
      go_roundw
      case rel => exact ⟨k + 1, by omega, by go_num, hstep.out, Below.setCell hb'.out (Nat.le_refl _) _⟩
      case measure => simp [intOf]; omega
    · obtain rfl : k = n := by omega
      have hl : ((List.range k).map G).length = k := by simp
      have c4 := least_any ((List.range k).map G) B k wr (by omega) (fun j hj => by
        rw [hl] at hj
        rw [hr.cell, rowK_full k G j hj]
        simp)
      rw [hl] at c4
      replace c4 := Lib.hid c4
      clear hr hl
      go_wp2_with fail
      refine c4.out.mono ?_
      rintro en w2 ⟨rfl, rfl⟩
      go_wp2_with fail
      go_ret
      exact ⟨rfl, by rw [hB.out]; exact hb'⟩

set_option maxRecDepth 100000 in
set_option maxHeartbeats 1000000 in
theorem and_any (a b : ByteArray) (w : World) (ha : a.size ≤ 140737488355328) (hb : b.size ≤ 140737488355328) :
    Calls Tryd.prog 27 #[.string a, .string b] w fun e w' => e = .returned (.string ⟨(bin (fun x y => x &&& y) a.data.toList b.data.toList).toArray⟩) ∧ Below w.heap.size w w' := by
  have k := each_and a b w ha hb
  rw [Lib.size_eq a, Lib.size_eq b] at k
  have k : Calls Tryd.prog 40 #[.string a, .string b, .func (.func 44) #[] #[]] w fun e w' => e = .returned (.string ⟨(bin (fun x y => x &&& y) a.data.toList b.data.toList).toArray⟩) ∧ Below w.heap.size w w' := k
  generalize (⟨(bin (fun x y => x &&& y) a.data.toList b.data.toList).toArray⟩ : ByteArray) = R at k ⊢
  replace k := Lib.hid k
  go_enter Tryd.func27, Tryd.ntmps27
  go_wp2_with fail
  refine k.out.mono ?_
  rintro e w2 ⟨rfl, hb⟩
  go_wp2_with fail
  go_ret
  exact ⟨rfl, hb⟩

set_option maxRecDepth 100000 in
set_option maxHeartbeats 1000000 in
theorem or_any (a b : ByteArray) (w : World) (ha : a.size ≤ 140737488355328) (hb : b.size ≤ 140737488355328) :
    Calls Tryd.prog 21 #[.string a, .string b] w fun e w' => e = .returned (.string ⟨(bin (fun x y => x ||| y) a.data.toList b.data.toList).toArray⟩) ∧ Below w.heap.size w w' := by
  have k := each_or a b w ha hb
  rw [Lib.size_eq a, Lib.size_eq b] at k
  have k : Calls Tryd.prog 40 #[.string a, .string b, .func (.func 41) #[] #[]] w fun e w' => e = .returned (.string ⟨(bin (fun x y => x ||| y) a.data.toList b.data.toList).toArray⟩) ∧ Below w.heap.size w w' := k
  generalize (⟨(bin (fun x y => x ||| y) a.data.toList b.data.toList).toArray⟩ : ByteArray) = R at k ⊢
  replace k := Lib.hid k
  go_enter Tryd.func21, Tryd.ntmps21
  go_wp2_with fail
  refine k.out.mono ?_
  rintro e w2 ⟨rfl, hb⟩
  go_wp2_with fail
  go_ret
  exact ⟨rfl, hb⟩

set_option maxRecDepth 100000 in
set_option maxHeartbeats 1000000 in
theorem minus_any (a b : ByteArray) (w : World) (ha : a.size ≤ 140737488355328) (hb : b.size ≤ 140737488355328) :
    Calls Tryd.prog 25 #[.string a, .string b] w fun e w' => e = .returned (.string ⟨(bin (fun x y => x &&& ~~~y) a.data.toList b.data.toList).toArray⟩) ∧ Below w.heap.size w w' := by
  have k := each_minus a b w ha hb
  rw [Lib.size_eq a, Lib.size_eq b] at k
  have k : Calls Tryd.prog 40 #[.string a, .string b, .func (.func 43) #[] #[]] w fun e w' => e = .returned (.string ⟨(bin (fun x y => x &&& ~~~y) a.data.toList b.data.toList).toArray⟩) ∧ Below w.heap.size w w' := k
  generalize (⟨(bin (fun x y => x &&& ~~~y) a.data.toList b.data.toList).toArray⟩ : ByteArray) = R at k ⊢
  replace k := Lib.hid k
  go_enter Tryd.func25, Tryd.ntmps25
  go_wp2_with fail
  refine k.out.mono ?_
  rintro e w2 ⟨rfl, hb⟩
  go_wp2_with fail
  go_ret
  exact ⟨rfl, hb⟩
end Go.Proofs.YteghmnlngkcgiaaDoor.Sets

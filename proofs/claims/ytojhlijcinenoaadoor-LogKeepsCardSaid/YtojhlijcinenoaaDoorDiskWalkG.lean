/- slices.Repeat of one text; New. -/
import Derived.Test.YtojhlijcinenoaaDoorDiskWalkF
import Derived.Laws.CopyOwn
import Derived.OwnWalk
namespace Go.Proofs.YtojhlijcinenoaaDoor.Disk
open Go Go.RowKit Go.Maps Mem

set_option maxRecDepth 100000 in
theorem infoS : (Tryd.prog.info? 9).map (fun i => (i.zero, i.size, i.bytes)) = some (some (.string ⟨#[]⟩), 1, 16) := by kernel_rfl
set_option maxRecDepth 100000 in
theorem mul_one_ (N : Nat) (hN : N ≤ 16384) (w : World) : Calls Tryd.prog 57 #[.int .u64 1, .int .u64 (N : Int)] w fun e w' => e = .returned (.tuple #[.int .u64 0, .int .u64 (N : Int)]) ∧ w' = w := by
  have k := Tryd.bits_Mul 1 N (by decide) (by omega) w
  rw [Nat.one_mul, Nat.div_eq_of_lt (by omega), Nat.mod_eq_of_lt (by omega)] at k
  exact k
/-- block g: n times the text, then empty texts up to N -/
def Rep (w : World) (g N n : Nat) (s : ByteArray) : Prop := Blk w g 9 (List.replicate n (Value.string s) ++ List.replicate (N - n) (Value.string ⟨#[]⟩)).toArray
set_option maxRecDepth 100000 in
theorem grown_setRow (w : World) (g : Nat) (cs : Array Value) : w.grownBy (w.setRow g cs) (some g) :=
  ⟨rfl, rfl, rfl, by simp [World.setRow], fun k hk hn => setRow_other w g k cs (fun e => hn (by rw [e]))⟩
set_option maxRecDepth 100000 in
theorem rep_zero {w : World} {base g N : Nat} (s : ByteArray) (h : w.ownsRow base 9 1 (.slice (some ⟨g, 0, none⟩) N N) N (madeCells (Value.string ⟨#[]⟩).cells (N * 1)).toList) : Rep w g N 0 s := by
  rcases h.2 with ⟨e, _⟩ | ⟨g', cap, cur, hv, _, hg, _, _, hs, ht⟩
  · cases e
  · injection hv with hv1 _ hv2
    injection hv1 with hv1
    obtain rfl : g = g' := congrArg Addr.block hv1
    subst hv2
    show w.heap[g]? = _
    rw [hg]
    have e : cur.toList = List.replicate N (Value.string ⟨#[]⟩) := by
      rw [List.take_of_length_le (by simp [hs])] at ht
      rw [ht]
      apply List.ext_getElem
      · simp [madeCells]
      · intro j h1 h2
        simp [madeCells, Value.cells, Nat.mod_one]
    have e2 : cur = (List.replicate N (Value.string ⟨#[]⟩)).toArray := by rw [← e]
    rw [e2]
    simp
set_option maxRecDepth 100000 in
theorem rep_more {w : World} {g N n : Nat} {s : ByteArray} (h : Rep w g N n s) (ad : Addr) (k c dc : Nat) (hk : ∀ j, j < Nat.min k (N - n) → w.cell? (ad.add j) = some (.string s)) :
    ∃ w3, (∀ ty, (Builtin.copy_ #[22, 22] ty #[.slice (some ⟨g, n, none⟩) (N - n) dc, .slice (some ad) k c]).run Tryd.prog w = .ok (.int .i64 ((Nat.min k (N - n) : Nat) : Int)) w3) ∧ Rep w3 g N (n + Nat.min k (N - n)) s ∧ w.grownBy w3 (some g) := by
  obtain ⟨m, hm⟩ : ∃ m, m = Nat.min k (N - n) := ⟨_, rfl⟩
  have hmle : m ≤ N - n := by rw [hm]; exact Nat.min_le_right _ _
  have hr := fun ty => run_copy_row (P := Tryd.prog) w 22 22 ty 9 g n (N - n) dc ad k c _ 9 (List.replicate m (Value.string s)) Tryd.underlying22 (by kernel_rfl) h (by rw [List.length_replicate]; exact hm)
    (fun j v hv => by
      have hj := (List.getElem?_eq_some_iff.1 hv).1
      rw [List.length_replicate] at hj
      rw [List.getElem?_replicate, if_pos hj] at hv
      injection hv with hv
      rw [← hv]
      exact hk j (hm ▸ hj)) (by simp; omega) (fun v hv => by rw [(List.mem_replicate.1 hv).2]; rfl)
  rw [← hm]
  have e : (List.take n (List.replicate n (Value.string s) ++ List.replicate (N - n) (Value.string ⟨#[]⟩)).toArray.toList ++ List.replicate m (Value.string s) ++ List.drop (n + (List.replicate m (Value.string s)).length) (List.replicate n (Value.string s) ++ List.replicate (N - n) (Value.string ⟨#[]⟩)).toArray.toList).toArray =
      (List.replicate (n + m) (Value.string s) ++ List.replicate (N - (n + m)) (Value.string ⟨#[]⟩)).toArray := by
    congr 1
    show List.take n (List.replicate n (Value.string s) ++ List.replicate (N - n) (Value.string ⟨#[]⟩)) ++ List.replicate m (Value.string s) ++ List.drop (n + (List.replicate m (Value.string s)).length) (List.replicate n (Value.string s) ++ List.replicate (N - n) (Value.string ⟨#[]⟩)) = _
    rw [List.take_append_of_le_length (by simp), List.take_of_length_le (by simp), List.drop_append, List.drop_eq_nil_of_le (by simp), List.nil_append, List.drop_replicate, List.replicate_append_replicate, List.length_replicate, List.length_replicate]
    congr 2
    omega
  refine ⟨_, fun ty => ?_, ?_, grown_setRow w g (List.replicate (n + m) (Value.string s) ++ List.replicate (N - (n + m)) (Value.string ⟨#[]⟩)).toArray⟩
  · rw [hr ty, e, List.length_replicate]
    rfl
  · exact setRow_heap w g _ _ _ _ h
set_option maxRecDepth 100000 in
theorem rep_first {w : World} {g N xb : Nat} {s : ByteArray} (h : Rep w g N 0 s) (hN : 1 ≤ N) (hx : w.cell? ⟨xb, 0, none⟩ = some (.string s)) :
    ∃ w3, (∀ ty, (Builtin.copy_ #[22, 22] ty #[.slice (some ⟨g, 0, none⟩) N N, .slice (some ⟨xb, 0, none⟩) 1 1]).run Tryd.prog w = .ok (.int .i64 1) w3) ∧ Rep w3 g N 1 s ∧ w.grownBy w3 (some g) := by
  have e : Nat.min 1 (N - 0) = 1 := Nat.min_eq_left (by omega)
  have k := rep_more h ⟨xb, 0, none⟩ 1 1 N (fun j hj => by
    rw [e] at hj
    obtain rfl : j = 0 := by omega
    exact hx)
  rw [e] at k
  simpa using k
set_option maxRecDepth 100000 in
theorem rep_next {w : World} {g N n : Nat} {s : ByteArray} (h : Rep w g N n s) (h1 : 1 ≤ n) (hn : n < N) :
    ∃ w3 m, 1 ≤ m ∧ n + m ≤ N ∧ (∀ ty, (Builtin.copy_ #[22, 22] ty #[.slice (some ⟨g, n, none⟩) (N - n) (N - n), .slice (some ⟨g, 0, none⟩) n N]).run Tryd.prog w = .ok (.int .i64 (m : Int)) w3) ∧ Rep w3 g N (n + m) s ∧ w.grownBy w3 (some g) := by
  obtain ⟨w3, h2, h3, h4⟩ := rep_more h ⟨g, 0, none⟩ n N (N - n) (fun j hj => by
    have hj' : j < n := Nat.lt_of_lt_of_le hj (Nat.min_le_left _ _)
    rw [add_lit, Nat.zero_add, Blk.cell h]
    simp [List.getElem?_append_left, hj'])
  exact ⟨w3, _, (Nat.le_min (a := 1)).2 ⟨h1, by omega⟩, by have := Nat.min_le_right n (N - n); omega, h2, h3, h4⟩
section
variable {w : World}
set_option maxRecDepth 100000 in
set_option maxHeartbeats 8000000 in
theorem repeat_any (xb N : Nat) (s : ByteArray) (hN1 : 1 ≤ N) (hN : N ≤ 16384) (hx : w.cell? ⟨xb, 0, none⟩ = some (.string s)) :
    Calls Tryd.prog 55 #[.slice (some ⟨xb, 0, none⟩) 1 1, .int .i64 (N : Int)] w fun e w' => e = .returned (.slice (some ⟨w.heap.size, 0, none⟩) N N) ∧
      w'.heap[w.heap.size]? = some (.cells (List.replicate N (Value.string s)).toArray 9 (0, 0)) ∧ Below w.heap.size w w' := by
  obtain ⟨i0, hinf, hz0, hz1, hz2⟩ := info_parts infoS
  have hxlt := World.block_lt_of_cell? w _ hx
  have km := mul_one_ N hN
  replace km := Lib.hid km
  replace hx := Lib.hid hx
  go_enter Tryd.func55, Tryd.ntmps55
  go_wp2_with fail
  refine (km.out _).mono ?_
  rintro e w1 ⟨rfl, hw⟩
  subst hw
  go_wp2_with (first | (at_make; refine wpList_make_full _ rfl _ _ _ rfl w1.heap.size 9 i0 (.string ⟨#[]⟩) 1 Tryd.underlying22 hinf hz0 hz1 .i64 .i64 (N : Int) (N : Int) N rfl rfl rfl rfl (by rw [hz2]; omega) (by unfold maxLen; omega) (Nat.le_refl _) ?_; intro w2 ho2 hg2; obtain ⟨w3, hc3, r3, g3⟩ := rep_first (rep_zero s ho2) hN1 ((hg2.cell hx.out (by simp)) : w2.cell? ⟨xb, 0, none⟩ = some (.string s)); replace r3 := Lib.hid r3))
  have hb3 : Below w1.heap.size w1 w3 := (show Below w1.heap.size w1 w2 from ⟨hg2.os, hg2.tape, hg2.output, hg2.size, fun k hk => hg2.block k hk (by simp)⟩).trans (Only.toBelow g3 (Nat.le_refl _) hg2.size)
  clear hc3 ho2
  go_loopw [8] (fun t wr => ∃ n : Nat, 1 ≤ n ∧ n ≤ N ∧ t = .int .i64 (n : Int) ∧ Rep wr w1.heap.size N n s ∧ Below w1.heap.size w1 wr) (fun t _ => N - (intOf t).toNat)
  case atStart => exact ⟨1, Nat.le_refl _, hN1, rfl, r3.out, hb3⟩
  case round =>
    clear r3 hb3 g3 hg2
    obtain ⟨n, hn1, hnN, rfl, hr, hb⟩ := hrel
    by_cases hlt : n < N
    · obtain ⟨w4, m, hm1, hmN, hc4, r4, g4⟩ := rep_next (w := wr.drew) hr hn1 hlt
      have hb4 : Below w1.heap.size w1 w4 := hb.drew.trans (Only.toBelow g4 (Nat.le_refl _) hb.size)
      replace r4 := Lib.hid r4
      replace hb4 := Lib.hid hb4
      clear hr hb g4
      go_wp2_with fail
      go_region
      go_wp2_with fail
      exact ⟨⟨n + m, by omega, hmN, rfl, r4.out, hb4.out⟩, by simp [intOf]; omega⟩
    · obtain rfl : n = N := by omega
      have hr' : Hid (wr.heap[w1.heap.size]? = some (.cells (List.replicate n (Value.string s)).toArray 9 (0, 0))) := by
        have := hr
        unfold Rep at this
        rw [Nat.sub_self, List.replicate_zero, List.append_nil] at this
        exact Lib.hid this
      clear hr
      go_wp2_with fail
      go_ret
      exact ⟨rfl, hr'.out, hb⟩
end
end Go.Proofs.YtojhlijcinenoaaDoor.Disk

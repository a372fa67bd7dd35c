/- Sets: the document's Next. -/
import Derived.Test.YtfijicdniabkoaaDoorSetWalkL
import Derived.Test.YtfijicdniabkoaaDoorSetWalkF
namespace Go.Proofs.YtfijicdniabkoaaDoor.Sets
open Go.RowKit Mem

theorem mem_elems {l : List UInt8} {y : Int} : y ∈ elems l ↔ ∃ m : Nat, y = (m : Int) ∧ m < 8 * l.length ∧ has l m = true := by
  unfold elems elemsTo
  rw [List.mem_map]
  constructor
  · rintro ⟨m, hm, rfl⟩
    rw [List.mem_filter, List.mem_range] at hm
    exact ⟨m, rfl, hm.1, hm.2⟩
  · rintro ⟨m, rfl, h1, h2⟩
    exact ⟨m, by rw [List.mem_filter, List.mem_range]; exact ⟨h1, h2⟩, rfl⟩
theorem elems_sorted (l : List UInt8) : (elems l).Pairwise (· < ·) := by
  unfold elems elemsTo
  rw [List.pairwise_map]
  refine List.Pairwise.imp ?_ (List.Pairwise.filter _ (List.pairwise_lt_range (n := 8 * l.length)))
  intro a b h
  exact Int.ofNat_lt.2 h
theorem sorted_before {l : List Int} (h : l.Pairwise (· < ·)) {k : Nat} {x y : Int} (hk : l[k]? = some x) (hy : y ∈ l) (hlt : y < x) : y ∈ l.take k := by
  obtain ⟨i, hi, he⟩ := List.getElem_of_mem hy
  obtain ⟨hkl, hkx⟩ := List.getElem?_eq_some_iff.1 hk
  have hik : i < k := by
    refine Classical.byContradiction fun hn => ?_
    by_cases e : i = k
    · subst e
      rw [hkx] at he
      omega
    · have := List.pairwise_iff_getElem.1 h k i hkl hi (by omega)
      rw [hkx, he] at this
      omega
  rw [← he]
  exact List.mem_take_iff_getElem.2 ⟨i, by omega, rfl⟩

set_option maxRecDepth 100000 in
set_option maxHeartbeats 1000000 in
theorem rnext_any (s : ByteArray) (a : Int) (w : World) (hs : s.size ≤ 2000000) :
    Calls Tryd.prog 27 #[.string s, .int .i64 a] w fun en w' => en = .returned (toldVal (next s.data.toList a)) ∧ Below w.heap.size w w' := by
  obtain ⟨R, hR⟩ : ∃ z, z = seek (has s.data.toList) (8 * s.data.toList.length - (max 0 a).toNat) (max 0 a).toNat := ⟨_, rfl⟩
  have hg : next s.data.toList a = told R := by rw [next, hR]
  rw [hg]
  clear hg
  obtain ⟨es, hes⟩ : ∃ z, z = elems s.data.toList := ⟨_, rfl⟩
  have c1 := rlist_any s w hs
  rw [← hes] at c1
  have hel : es.length ≤ 16000000 := by
    rw [hes, elems]
    have := elemsTo_length s.data.toList (8 * s.data.toList.length)
    rw [← Lib.size_eq s] at this ⊢
    omega
  replace hR := Lib.hid hR
  replace hes := Lib.hid hes
  replace c1 := Lib.hid c1
  go_enter Tryd.func27, Tryd.ntmps27
  go_wp2_with fail
  refine c1.out.mono ?_
  rintro en w1 ⟨v, rfl, hown, hb⟩
  obtain ⟨A, c, rfl⟩ := own_slice hown
  have hr := Row.of_own hown
  clear hown
  go_wp2_with fail
  go_loop [7] (fun y => ∃ k : Nat, k ≤ es.length ∧ y = .int .i64 (k : Int) ∧ ∀ z ∈ es.take k, z < a) (fun y => es.length - (intOf y).toNat)
  case atStart => exact ⟨0, Nat.zero_le _, rfl, fun z hz => by simp at hz⟩
  case round =>
    obtain ⟨k, hk, rfl, hlow⟩ := hrel
    replace hlow := Lib.hid hlow
    by_cases hlt : k < es.length
    · obtain ⟨ad, u, rfl, hu, hc⟩ := hr.at_ hlt
      obtain ⟨X, hX, rfl⟩ := getMap_int hu
      replace hr := Lib.hid hr
      by_cases hge : a ≤ X
      · have hRX : R = some X.toNat ∧ ((X.toNat : Nat) : Int) = X := by
          have hmem := List.mem_of_getElem? hX
          rw [hes.out] at hmem
          obtain ⟨m, rfl, hm1, hm2⟩ := mem_elems.1 hmem
          refine ⟨?_, by simp⟩
          rw [hR.out, Int.toNat_natCast]
          refine seek_eq (by omega) (by omega) hm2 fun y hy1 hy2 => ?_
          cases hh : has s.data.toList y with
          | false => rfl
          | true =>
            have hy : ((y : Nat) : Int) ∈ elems s.data.toList := mem_elems.2 ⟨y, rfl, by omega, hh⟩
            have hb := sorted_before (elems_sorted s.data.toList) (k := k) (x := (m : Int)) (y := (y : Int)) (by rw [← hes.out]; exact hX) hy (by omega)
            rw [← hes.out] at hb
            have := hlow.out _ hb
            omega
        replace hRX := Lib.hid hRX
        replace hX := Lib.hid hX
        clear hu
        go_wp2_with fail
        go_ret2
        refine ⟨?_, hb⟩
        obtain ⟨h1, h2⟩ := hRX.out
        rw [h1]
        show _ = Ending.returned (Value.tuple #[.int .i64 ((X.toNat : Nat) : Int), .bool true])
        rw [h2]
        rfl
      · have hlow2 : ∀ z ∈ es.take (k + 1), z < a := by
          intro z hz
          rw [take_snoc_of hX, List.mem_append] at hz
          rcases hz with hz | hz
          · exact hlow.out z hz
          · simp at hz; omega
        have hd : decide (a ≤ X) = false := decide_eq_false hge
        replace hlow2 := Lib.hid hlow2
        replace hX := Lib.hid hX
        clear hu
        go_wp2_with fail
        go_round
        case rel => exact ⟨k + 1, by omega, by go_num, hlow2.out⟩
        case measure => simp [intOf]; omega
    · obtain rfl : k = es.length := by omega
      have hn : R = none := by
        rw [hR.out]
        refine seek_eq_none fun y hy1 hy2 => ?_
        cases hh : has s.data.toList y with
        | false => rfl
        | true =>
          have hy : ((y : Nat) : Int) ∈ es := by rw [hes.out]; exact mem_elems.2 ⟨y, rfl, by omega, hh⟩
          have := hlow.out (y : Int) (by rw [List.take_of_length_le (Nat.le_refl _)]; exact hy)
          omega
      replace hn := Lib.hid hn
      replace hr := Lib.hid hr
      go_wp2_with fail
      go_ret2
      rw [hn.out]
      exact ⟨rfl, hb⟩
end Go.Proofs.YtfijicdniabkoaaDoor.Sets

/- The log's Open: split. -/
import Derived.Test.YtojhlijcinenoaaGreatDoorNvWalkF
namespace Go.Proofs.YtojhlijcinenoaaGreatDoor.Nv
open Go Go.RowKit Go.Maps Mem Disk

def strSz : Value → Nat
  | .string s => s.size
  | _ => 0
structure SplitAt (w : World) (O : Option (List ByteArray)) (wr : World) (k : Nat) (acc : List ByteArray) (s : ByteArray) (A : Option Addr) (c : Nat) : Prop where
  out : O = (splitB k s).map (acc ++ ·)
  fuel : s.size ≤ k
  few : acc.length + s.size ≤ 1048576
  row : wr.ownsRow w.heap.size 9 1 (.slice A acc.length c) acc.length (acc.map Value.string)
  hb : Below w.heap.size w wr
set_option maxRecDepth 100000 in
theorem SplitAt.done {w wr : World} {O : Option (List ByteArray)} {k : Nat} {acc : List ByteArray} {s : ByteArray} {A : Option Addr} {c : Nat} (h : SplitAt w O wr k acc s A c) (h0 : s.size = 0) : SPost w O (.returned (.tuple #[.slice A acc.length c, .bool true])) wr := by
  have := h.out
  rw [splitB_end h0] at this
  subst this
  refine ⟨h.hb, A, c, ?_, ?_⟩
  · simp
  · have := h.row
    simpa using this
set_option maxRecDepth 100000 in
theorem SplitAt.bad {w wr : World} {O : Option (List ByteArray)} {k : Nat} {acc : List ByteArray} {s : ByteArray} {A : Option Addr} {c : Nat} (h : SplitAt w O wr k acc s A c) (h0 : s.size ≠ 0) (h1 : s.size < 2 ∨ 1300 < val (s.extract 0 2) ∨ s.size < 2 + val (s.extract 0 2)) :
    SPost w O (.returned (.tuple #[.slice none 0 0, .bool false])) wr := SPost.none w h.hb (by rw [h.out, splitB_bad h0 h1]; rfl)
set_option maxRecDepth 100000 in
theorem SplitAt.next {w wr w1 : World} {O : Option (List ByteArray)} {k : Nat} {acc : List ByteArray} {s : ByteArray} {A : Option Addr} {c n g cap : Nat} (h : SplitAt w O wr k acc s A c) (h2 : 2 ≤ s.size) (hn : n = val (s.extract 0 2)) (h1 : n ≤ 1300) (h3 : 2 + n ≤ s.size)
    (o : w1.ownsRow w.heap.size 9 1 (.slice (some ⟨g, 0, none⟩) (acc.length + 1) cap) (acc.length + 1) (acc.map Value.string ++ [.string (s.extract 2 (2 + n))])) (hb : Below w.heap.size w w1) :
    SplitAt w O w1 (k - 1) (acc ++ [s.extract 2 (2 + n)]) (s.extract (2 + n) s.size) (some ⟨g, 0, none⟩) cap ∧ (s.extract (2 + n) s.size).size < s.size := by
  subst hn
  have hf := h.fuel
  have hw := h.few
  have hsz : (s.extract (2 + val (s.extract 0 2)) s.size).size = s.size - (2 + val (s.extract 0 2)) := by rw [ByteArray.size_extract]; omega
  refine ⟨⟨?_, by omega, by rw [List.length_append, List.length_singleton]; omega, ?_, hb⟩, by omega⟩
  · rw [h.out, show k = k - 1 + 1 by omega, splitB_step (by omega) h2 h1 h3, map_map_cons, Nat.add_sub_cancel]
  · rw [List.length_append, List.length_singleton, List.map_append]
    exact o
set_option maxRecDepth 100000 in
set_option maxHeartbeats 8000000 in
theorem split_any (S : ByteArray) (hS : S.size ≤ 1048576) (w : World) : Calls Tryz.prog 61 #[.string S] w (SPost w (splitB S.size S)) := by
  obtain ⟨i0, hinf, hz0, hz1, hz2⟩ := info_parts infoStr_
  have st : SplitAt w (splitB S.size S) w S.size [] S none 0 := ⟨by cases splitB S.size S <;> rfl, Nat.le_refl _, by rw [List.length_nil]; omega, ⟨rfl, Or.inl ⟨rfl, rfl⟩⟩, Below.refl _ _⟩
  generalize splitB S.size S = O at st ⊢
  generalize S.size = K at st hS
  replace st := Lib.hid st
  clear hS
  go_enter Tryz.func61, Tryz.ntmps61
  go_wp2_with fail
  go_loopw [0, 4] (fun x v wr => ∃ (k : Nat) (acc : List ByteArray) (s : ByteArray) (A : Option Addr) (c : Nat), x = .string s ∧ v = .slice A acc.length c ∧ SplitAt w O wr k acc s A c) (fun x _ _ => strSz x)
  case atStart => exact ⟨K, [], S, none, 0, rfl, rfl, st.out⟩
  case round =>
    clear st
    obtain ⟨k, acc, s, A, c, rfl, rfl, st⟩ := hrel
    have hfew := st.few
    have hs63 : s.size ≤ 1048576 := by omega
    by_cases h0 : s.size = 0
    · have fin := Lib.hid (st.done h0)
      obtain rfl : s = ⟨#[]⟩ := empty_of h0
      clear st h0
      go_wp2_with fail
      go_ret2
      exact fin.out
    · have r1 : (s.toList == []) = false := by
        rw [Lib.toList_data]
        cases hl : s.data.toList with
        | nil => exact absurd (by rw [Lib.size_eq, hl]; rfl) h0
        | cons => rfl
      have r2 : (!s.toList.isEmpty) = true := by
        rw [Lib.toList_data]
        cases hl : s.data.toList with
        | nil => exact absurd (by rw [Lib.size_eq, hl]; rfl) h0
        | cons => rfl
      by_cases h2 : s.size < 2
      · have fin := Lib.hid (st.bad h0 (Or.inl h2))
        have q2 : decide ((s.size : Int) < 2) = true := decide_eq_true (by omega)
        clear st h2
        go_wp2_with fail
        go_ret2
        exact fin.out
      · have q2 : decide ((s.size : Int) < 2) = false := decide_eq_false (by omega)
        have hs2 : 2 ≤ s.size := by omega
        obtain ⟨n, hn⟩ : ∃ n, n = val (s.extract 0 2) := ⟨_, rfl⟩
        have hnb : n < 65536 := by rw [hn]; exact val_lt (n := 2) (by rw [ByteArray.size_extract]; omega)
        have kg := get_any (s.extract 0 2) wr (by rw [ByteArray.size_extract]; omega)
        rw [← hn] at kg
        replace kg := Lib.hid kg
        by_cases h1 : 1300 < n
        · have fin := Lib.hid (st.bad h0 (Or.inr (Or.inl (by rw [← hn]; exact h1))))
          have q3 : decide ((1300 : Int) < (n : Int)) = true := decide_eq_true (by omega)
          replace hn := Lib.hid hn
          clear st h2 h1 hnb
          go_wp2_with fail
          refine kg.out.mono ?_
          rintro e w1 ⟨rfl, rfl⟩
          go_wp2_with fail
          go_ret2
          exact fin.out
        · have q3 : decide ((1300 : Int) < (n : Int)) = false := decide_eq_false (by omega)
          by_cases h3 : s.size < 2 + n
          · have fin := Lib.hid (st.bad h0 (Or.inr (Or.inr (by rw [← hn]; exact h3))))
            have q4 : decide ((s.size : Int) - 2 < (n : Int)) = true := decide_eq_true (by omega)
            replace hn := Lib.hid hn
            clear st h2 h1
            go_wp2_with fail
            refine kg.out.mono ?_
            rintro e w1 ⟨rfl, rfl⟩
            go_wp2_with fail
            go_ret2
            exact fin.out
          · have q4 : decide ((s.size : Int) - 2 < (n : Int)) = false := decide_eq_false (by omega)
            have hlw : w.heap.size ≤ wr.heap.size := st.hb.size
            have next := Lib.hid (fun w1 g cap => st.next (w1 := w1) (g := g) (cap := cap) hs2 hn (by omega) (by omega))
            have oa := Lib.hid ((st.row.alloc (.cells #[.string (s.extract 2 (2 + n))] 9)).drew)
            have hba := Lib.hid ((st.hb.alloc hlw (.cells #[.string (s.extract 2 (2 + n))] 9)).drew)
            have h26 : acc.length + 1 ≤ 1048576 := by omega
            have h2n : 2 + n ≤ s.size := by omega
            have rlt := Lib.hid (fun j hj => (st.row.lt j hj).1)
            obtain ⟨z, hz⟩ : ∃ z, z = 2 + n := ⟨_, rfl⟩
            have hz' : IntKind.i64.wrap (2 + (n : Int)) = (z : Int) := by rw [hz]; exact IntWalk.i64_in _ (by omega)
            rw [← hz] at next oa hba h2n
            have hz2' : (2 : Int) ≤ (z : Int) := by omega
            have hzs : (z : Int) ≤ (s.size : Int) := by omega
            replace hn := Lib.hid hn
            replace hz := Lib.hid hz
            clear st h2 h1 h3 hnb hfew
            go_upto_region 8 with (refine kg.out.mono ?_; rintro e w1 ⟨rfl, rfl⟩)
            go_region_law (refine step_append_lies _ rfl (.tmp 23) (.tmp 28) 45 rfl w.heap.size 9 i0 (.string ⟨#[]⟩) 1 16 Tryz.underlying45 hinf hz0 hz1 hz2 rfl (by decide) (.slice A acc.length c) acc.length _ rfl oa.out ⟨w1.heap.size, 0, none⟩ 1 1 [.string (s.extract 2 z)] rfl rfl (World.news_of_block (cs := #[.string (s.extract 2 z)]) (t := 9) (fr := (0, 0)) (heap_alloc_new w1 _)) (by simp [Value.oneCell']) (by omega) (by unfold maxLen; omega) (by omega) (by simp; omega) (w1.heap.size + 1) (by simp) ?_; intro g cap w2 o2 g2 hat hlt)
            have hb9 := Lib.hid (hba.out.grown g2 (by simp; omega) (fun j hj => rlt.out j hj))
            have fin := Lib.hid (next.out w2 g cap o2 hb9.out)
            clear oa hba rlt next o2 g2 hat hlt hb9
            go_wp2_with fail
            refine ⟨?_, fin.out.2⟩
            (repeat apply Exists.intro)
            exact ⟨⟨k - 1, acc ++ [s.extract 2 z], s.extract z s.size, some ⟨g, 0, none⟩, cap, rfl, by rw [List.length_append]; rfl, fin.out.1⟩, rfl⟩
end Go.Proofs.YtojhlijcinenoaaGreatDoor.Nv

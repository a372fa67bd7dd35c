/- Sets: the document's Least. -/
import Derived.Test.YteghmnlngkcgiaaDoorSetWalkM
namespace Go.Proofs.YteghmnlngkcgiaaDoor.Sets
open Go.RowKit Mem

theorem bytes_snoc (s : ByteArray) (n : Nat) (h : s.size = n + 1) : ∃ (h2 : n < s.size), s.data.toList = (s.extract 0 n).data.toList ++ [s[n]] ∧ (s.extract 0 n).size = n := by
  have h2 : n < s.size := by omega
  refine ⟨h2, ?_, by rw [ByteArray.size_extract]; omega⟩
  rw [Lib.extract_data]
  have hl : s.data.toList.length = n + 1 := by rw [← Lib.size_eq s]; exact h
  have e := List.take_append_drop n s.data.toList
  rw [List.drop_eq_getElem_cons (by omega), List.drop_eq_nil_of_le (by omega)] at e
  exact e.symm

set_option maxRecDepth 100000 in
set_option maxHeartbeats 1000000 in
theorem rleast_any (s : ByteArray) (w : World) (hs : s.size ≤ 9223372036854775807) :
    Calls Tryd.prog 59 #[.string s] w fun e w' => e = .returned (.string ⟨(least s.data.toList).toArray⟩) ∧ w' = w := by
  obtain ⟨L, hL⟩ : ∃ z, z = least s.data.toList := ⟨_, rfl⟩
  rw [← hL]
  replace hL := Lib.hid hL
  go_enter Tryd.func59, Tryd.ntmps59
  go_wp2_with fail
  go_loop [0] (fun y => ∃ x : ByteArray, y = .string x ∧ x.size ≤ 9223372036854775807 ∧ L = least x.data.toList) (fun y => match y with | .string x => x.size | _ => 0)
  case atStart => exact ⟨s, rfl, hs, hL.out⟩
  case round =>
    obtain ⟨x, rfl, hx, hl⟩ := hrel
    by_cases h0 : x.size = 0
    · have hnil : L = [] := by
        rw [hl, show x.data.toList = [] by apply List.eq_nil_of_length_eq_zero; rw [← Lib.size_eq x]; exact h0]; rfl
      have hxe : x = ⟨#[]⟩ := by
        apply ByteArray.ext
        exact Array.eq_empty_of_size_eq_zero h0
      subst hxe
      clear hl
      replace hnil := Lib.hid hnil
      go_wp2_with fail
      go_ret
      rw [hnil.out]
      exact ⟨rfl, rfl⟩
    · obtain ⟨n, hn⟩ : ∃ n, x.size = n + 1 := ⟨x.size - 1, by omega⟩
      obtain ⟨hlt, hsn, hsz⟩ := bytes_snoc x n hn
      by_cases hz : x[n] = 0
      · have hl2 : L = least (x.extract 0 n).data.toList := by rw [hl, hsn, hz, least_zero]
        replace hl2 := Lib.hid hl2
        have hzn : (x[n].toNat : Int) = 0 := by rw [hz]; rfl
        replace hz := Lib.hid hz
        replace hsn := Lib.hid hsn
        clear hl
        go_wp2_with fail
        refine ⟨⟨x.extract 0 n, rfl, by omega, hl2.out⟩, ?_⟩
        show (x.extract 0 n).size < x.size
        omega
      · have hl2 : L = x.data.toList := by rw [hl, hsn, least_snoc _ _ hz]
        have hzn : ¬ ((x[n].toNat : Int) = 0) := fun h => hz (UInt8.toNat_inj.1 (by simpa using h))
        replace hl2 := Lib.hid hl2
        replace hz := Lib.hid hz
        replace hsn := Lib.hid hsn
        clear hl
        go_wp2_with fail
        go_ret
        refine ⟨?_, rfl⟩
        rw [hl2.out, Lib.mk_data]
        rfl
end Go.Proofs.YteghmnlngkcgiaaDoor.Sets

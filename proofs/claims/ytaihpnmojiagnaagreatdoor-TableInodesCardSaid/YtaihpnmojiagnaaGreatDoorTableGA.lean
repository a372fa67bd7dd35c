/- The document's nums and Blob. -/
import Derived.Test.YtaihpnmojiagnaaGreatDoorTableFixed
import Derived.Test.YtaihpnmojiagnaaGreatDoorWireWalkG
namespace Go.Proofs.YtaihpnmojiagnaaGreatDoor.Table
open Go.RowKit Mem Wire

theorem of_list {T : ByteArray} {l : List UInt8} (h : T.data.toList = l) : T = ⟨l.toArray⟩ := by rw [← h]
theorem app_list {S T : ByteArray} {a b : List UInt8} (h1 : S.data.toList = a) (h2 : T.data.toList = b) : (S ++ T).data.toList = a ++ b := by rw [ByteArray.data_append, Array.toList_append, h1, h2]

set_option maxRecDepth 100000 in
set_option maxHeartbeats 4000000 in
theorem rnums_any (A : Option Addr) (n c : Nat) (l : List Int) (w : World) (hr : Row w A n (l.map (Value.int .i64))) (hok : ∀ x ∈ l, 0 ≤ x ∧ x ≤ 4611686018427387903) (hn : n ≤ 4096) :
    Calls Tryz.prog 24 #[.slice A n c] w fun e w' => ∃ T : ByteArray, e = .returned (.string T) ∧ T.data.toList = l.flatMap dg ∧ Below w.heap.size w w' := by
  have hln := Lib.hid (show l.length = n by have := hr.1; simpa using this)
  replace hok := Lib.hid hok
  go_enter Tryz.func24, Tryz.ntmps24
  go_wp2_with fail
  go_loopw [3, 4] (fun s i wr => ∃ (k : Nat) (T : ByteArray), k ≤ n ∧ i = .int .i64 (k : Int) ∧ s = .string T ∧ T.data.toList = (l.take k).flatMap dg ∧ T.size ≤ 9 * k ∧ Below w.heap.size w wr) (fun _ i _ => n - (intOf i).toNat)
  case atStart => exact ⟨0, ⟨#[]⟩, Nat.zero_le _, rfl, rfl, rfl, Nat.le_refl _, Below.refl _ _⟩
  case round =>
    obtain ⟨k, T, hk, rfl, rfl, hT, hTs, hb⟩ := hrel
    have hz := hb.size
    replace hT := Lib.hid hT
    by_cases hlt : k < n
    · obtain ⟨x, hx⟩ : ∃ x, l[k]? = some x := ⟨_, List.getElem?_eq_getElem (by rw [hln.out]; exact hlt)⟩
      obtain ⟨ad, u, ha, hu, hc⟩ := (hr.below hb).at_ hlt
      subst ha
      have hux : u = .int .i64 x := by
        rw [List.getElem?_map, hx] at hu
        exact (Option.some.inj hu).symm
      subst hux
      have hxo := hok.out x (List.mem_of_getElem? hx)
      obtain ⟨m, rfl⟩ := Int.eq_ofNat_of_zero_le hxo.1
      have hm : m ≤ 4611686018427387903 := by omega
      have kn := fun W => rnum_ok m W hm
      obtain ⟨D, hD⟩ : ∃ D : ByteArray, D = ⟨(digits m).toArray⟩ := ⟨_, rfl⟩
      rw [← hD] at kn
      have hDs : D.size ≤ 9 := by rw [hD]; exact digits_length9 m (by omega)
      replace kn := Lib.hid kn
      replace hD := Lib.hid hD
      replace hx := Lib.hid hx
      replace hb := Lib.hid hb
      clear hu
      go_wp2_with fail
      refine (kn.out _).mono ?_
      rintro e w2 ⟨rfl, b2⟩
      have hb2 := Lib.hid (hb.out.trans (b2.mono hz))
      clear b2
      go_wp2_with fail
      go_roundw
      case rel =>
        refine ⟨k + 1, T ++ D, by omega, by go_num, rfl, ?_, by rw [ByteArray.size_append]; omega, hb2.out⟩
        rw [take_snoc' hx.out, List.flatMap_append, List.flatMap_singleton]
        exact app_list hT.out (by rw [hD.out]; rfl)
      case measure => simp [intOf]; omega
    · obtain rfl : k = n := by omega
      replace hb := Lib.hid hb
      go_wp2_with fail
      go_ret
      exact ⟨T, rfl, by rw [hT.out, List.take_of_length_le (by rw [hln.out]; exact Nat.le_refl _)], hb.out⟩

set_option maxRecDepth 100000 in
set_option maxHeartbeats 4000000 in
theorem rblob_any (r s : Int) (w : World) : Calls Tryz.prog 25 #[blobV r s] w fun e w' => e = .returned (.bool (blobOk r s)) ∧ Below w.heap.size w w' := by
  unfold blobV
  go_enter Tryz.func25, Tryz.ntmps25
  go_wp2_with fail
  all_goals go_ret
  all_goals refine ⟨congrArg (fun b => Ending.returned (.bool b)) ?_, (Below.refl _ _).alloc (Nat.le_refl _) _⟩
  all_goals unfold blobOk
  all_goals
    go_light
    simp only [beq_iff_eq, beq_eq_false_iff_ne, ne_eq] at *
    rw [Bool.eq_iff_iff]
    simp only [beq_iff_eq, decide_eq_true_eq, Bool.false_eq_true, false_iff]
    omega
end Go.Proofs.YtaihpnmojiagnaaGreatDoor.Table

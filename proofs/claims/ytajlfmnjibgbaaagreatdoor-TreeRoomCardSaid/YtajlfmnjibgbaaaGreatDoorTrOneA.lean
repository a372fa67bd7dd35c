/- []byte(s), one byte's turn, string(b); later stores of a law. -/
import Derived.Test.YtajlfmnjibgbaaaGreatDoorTrReachW
import Derived.Deep.DeepCutAuto
namespace Go.Proofs.YtajlfmnjibgbaaaGreatDoor.Tr
open Go Go.RowKit Go.Maps Mem Disk Nv Vl
set_option maxRecDepth 100000 in
theorem grown_bytes (t : ByteArray) (w : World) : ∃ (cap : Nat) (w' : World), (convert 9 36 (.string t)).run Tryz.prog w = .ok (.slice (some ⟨w.heap.size, 0, none⟩) t.size cap) w' ∧
    (∀ (j : Nat) (c : UInt8), t.data[j]? = some c → w'.cell? ⟨w.heap.size, j, none⟩ = some (.int .u8 (c.toNat : Int))) ∧ (∀ j, j < t.size → w'.frozen? ⟨w.heap.size, j, none⟩ = false) ∧ Below w.heap.size w w' := by
  refine ⟨grownCap w t.size 0 5, _, run_bytes_of_string w 9 36 5 t Tryz.underlying9 Tryz.underlying36 Tryz.underlying5, ?_, ?_, ?_⟩
  · intro j c hc
    obtain ⟨hj, rfl⟩ := Array.getElem?_eq_some_iff.1 hc
    exact (World.cell?_alloc_mark _ _ _ _ j).trans (bytesRow_at t _ j hj)
  · intro j hj
    refine (World.frozen?_alloc_mark _ _ _ _ _ j).trans ?_
    have hj' : j < t.data.size := hj
    have hsz : j < (bytesRow t (grownCap w t.size 0 5)).size := by
      unfold bytesRow
      simp
      omega
    rw [decide_eq_false (Nat.not_le.2 hsz), Bool.false_and]
  · exact (Below.refl _ w).drew.alloc (Nat.le_refl _) _
set_option maxRecDepth 100000 in
theorem turn_byte (c : UInt8) : ∃ y : UInt8, bits .xor .u8 (c.toNat : Int) 1 = (y.toNat : Int) ∧ y ≠ c := by
  have hx : c.toNat ^^^ 1 < 2 ^ 8 := Nat.xor_lt_two_pow c.toNat_lt (by decide)
  refine ⟨UInt8.ofNat (c.toNat ^^^ 1), ?_, fun e => ?_⟩
  · rw [UInt8.toNat_ofNat', Nat.mod_eq_of_lt hx]
    exact u8_xor_nat c.toNat 1 c.toNat_lt (by decide)
  · have h := congrArg UInt8.toNat e
    rw [UInt8.toNat_ofNat', Nat.mod_eq_of_lt hx] at h
    have h2 : (c.toNat ^^^ 1) ^^^ c.toNat = 0 := by rw [h, Nat.xor_self]
    rw [Nat.xor_comm c.toNat 1, Nat.xor_assoc, Nat.xor_self] at h2
    simp at h2
set_option maxRecDepth 100000 in
theorem turned_back (t : ByteArray) (w : World) (B cap k : Nat) (y : UInt8) (h : ∀ (j : Nat) (c : UInt8), t.data[j]? = some c → w.cell? ⟨B, j, none⟩ = some (.int .u8 (c.toNat : Int))) (hk : k < t.size) :
    (convert 36 9 (.slice (some ⟨B, 0, none⟩) t.size cap)).run Tryz.prog (w.setCell ⟨B, k, none⟩ (.int .u8 (y.toNat : Int))) = .ok (.string (flip t k y)) (w.setCell ⟨B, k, none⟩ (.int .u8 (y.toNat : Int))) := by
  have hl : (flip t k y).data.toList.length = t.size := by rw [Array.length_toList]; exact flip_size t k y
  have hcv := run_convert_bytes_back (P := Tryz.prog) (w.setCell ⟨B, k, none⟩ (.int .u8 (y.toNat : Int))) 36 9 5 ⟨B, 0, none⟩ cap (flip t k y).data.toList Tryz.underlying36 Tryz.underlying5 Tryz.underlying9 (fun i hi => by
    rw [add_lit, Nat.zero_add, Array.getElem_toList]
    have hi' : i < t.data.size := by rw [hl] at hi; exact hi
    have hc := h i t.data[i] (Array.getElem?_eq_getElem hi')
    show _ = some (Value.int .u8 (((t.data.setIfInBounds k y)[i]'(by rw [Array.size_setIfInBounds]; exact hi')).toNat : Int))
    by_cases hik : i = k
    · subst hik
      rw [Array.getElem_setIfInBounds_self]
      exact World.cell?_setCell_same _ _ _ hc
    · rw [Array.getElem_setIfInBounds_ne (by exact hi') (fun e => hik e.symm)]
      exact (World.cell?_setCell_other _ _ _ _ (fun e => by injection e; omega)).trans hc)
  rw [hl, Array.toArray_toList] at hcv
  exact hcv
set_option maxRecDepth 100000 in
theorem maskT (a : Int) : ∃ m : Nat, m ≤ 65535 ∧ bits .and .i64 a 65535 = (m : Int) := by
  have h : (BitVec.ofInt 64 a &&& BitVec.ofInt 64 65535).toNat ≤ 65535 := by
    rw [BitVec.toNat_and]
    exact Nat.le_trans Nat.and_le_right (by decide)
  refine ⟨(BitVec.ofInt 64 a &&& BitVec.ofInt 64 65535).toNat, h, ?_⟩
  show IntKind.i64.wrap ((BitVec.ofInt 64 a &&& BitVec.ofInt 64 65535).toNat : Int) = _
  rw [IntKind.wrap_i64]
  omega
section
variable {w0 w w' : World} {Y : Nat → Prop} {m a g j j' : Nat} {f f' : Rd} {had data : ByteArray} {was nums : List (List Nat)} {T : List Nat}
set_option maxRecDepth 100000 in
/-- as many as were taken are of the new tree -/
theorem Stored.few (h : Stored f f' had was data 300 j j' nums T) (hd : data.size ≤ 16384) : T.length ≤ 72 := by
  have h1 := nodup_le h.nd h.r.all
  rw [h.ok.count] at h1
  exact Nat.le_trans h1 (shape_le hd)
set_option maxRecDepth 100000 in
theorem Stored.sub (h : Stored f f' had was data 300 j j' nums T) {n : Nat} (hn : n ∈ freeL E0 300 j') : n ∈ freeL E0 300 j := by
  rw [h.free]
  exact List.mem_append_right _ hn
set_option maxRecDepth 100000 in
/-- a later store, where there is room -/
theorem lv_later (h : LV w0 Y m w a g f 300 j) (hm : m ≤ 700000) (hd : data.size ≤ 16384) (hh : had.size ≤ 16384) (ht : TreeOk f had was) (hdis : ∀ n ∈ was.flatten, n ∉ freeL E0 300 j) (h72 : 72 ≤ (freeL E0 300 j).length) :
    Calls Tryz.prog 13 #[srcV a, .agg #[.int .i64 (rootOf was : Nat), .int .i64 (had.size : Int)], .string data, .pointer (some ⟨g, 0, none⟩)] w fun e w' =>
      ∃ f' nums T j', e = .returned (.tuple #[.agg #[.int .i64 (rootOf nums : Nat), .int .i64 (data.size : Int)], .int .i64 0]) ∧ Stored f f' had was data 300 j j' nums T ∧ LV w0 Y (m + 2000) w' a g f' 300 j' ∧ Keeps (fun i => ¬ Y i) w w' := by
  refine (lv_store h (by decide) hm hd hh ht hdis).mono ?_
  rintro e w' ⟨f', j', h1, h2, h3⟩
  rcases h1 with ⟨nums, T, h4, h5⟩ | ⟨_, _, h6⟩
  · exact ⟨f', nums, T, j', h4, h5, h2, h3⟩
  · have := shape_le hd
    omega
end
end Go.Proofs.YtajlfmnjibgbaaaGreatDoor.Tr

/- A volume's blocks at a law: what each one tells; the document's volume, too. -/
import Derived.Test.YtajlfmnjibgbaaaGreatDoorBlkHf
import Derived.Test.YtajlfmnjibgbaaaGreatDoorTrPl
import Derived.Test.YtajlfmnjibgbaaaGreatDoorBlkDc
namespace Go.Proofs.YtajlfmnjibgbaaaGreatDoor.Tr
open Go Go.RowKit Go.Maps Mem Disk Nv Vl
/-- what each block tells -/
def rdC (N : Nat) (cur : Nat → ByteArray) : Rd := fun n => if 1 ≤ n ∧ n < ((N / 4 : Nat) : Int) then unframeV (blkC cur n.toNat) else (⟨#[]⟩, 81)
set_option maxRecDepth 100000 in
theorem rdC_write {N n : Nat} {cur : Nat → ByteArray} {p : ByteArray} (h1 : 1 ≤ n) (h2 : n < N / 4) (hp : p.size ≤ 240) : rdC N (curW cur (frameB p) n 0 4) = upd (rdC N cur) n p := by
  funext k
  unfold rdC upd
  by_cases hk : k = (n : Int)
  · subst hk
    rw [if_pos (by omega), if_pos rfl, Int.toNat_natCast, blk_same (frameB_size hp), unframe_frame hp]
  · rw [if_neg hk]
    by_cases hin : 1 ≤ k ∧ k < ((N / 4 : Nat) : Int)
    · rw [if_pos hin, blk_other (by omega)]
      exact (if_pos hin).symm
    · rw [if_neg hin]
      exact (if_neg hin).symm
/-- a living volume at a law, by what its blocks tell -/
def IsV (X : Nat → Prop) (N m : Nat) (w : World) (a : Nat) (f : Rd) : Prop := ∃ b v d cur, Hs X N m w a b v d cur ∧ f = rdC N cur
section
variable {X Y : Nat → Prop} {N m : Nat} {w w' : World} {a : Nat} {f : Rd}
set_option maxRecDepth 100000 in
theorem IsV.below (h : IsV X N m w a f) (hb : Below w.heap.size w w') : IsV X N m w' a f := by
  obtain ⟨b, v, d, cur, h, rfl⟩ := h
  exact ⟨b, v, d, cur, h.below hb, rfl⟩
set_option maxRecDepth 100000 in
theorem IsV.also (h : IsV X N m w a f) (hb : Below w.heap.size w w') (hY : ∀ i, Y i → X i ∨ (w.heap.size ≤ i ∧ i < w'.heap.size)) : IsV Y N m w' a f := by
  obtain ⟨b, v, d, cur, h, rfl⟩ := h
  exact ⟨b, v, d, cur, h.also hb hY, rfl⟩
set_option maxRecDepth 100000 in
theorem IsV.sub (h : IsV X N m w a f) (hY : ∀ i, Y i → X i) : IsV Y N m w a f := by
  obtain ⟨b, v, d, cur, h, rfl⟩ := h
  exact ⟨b, v, d, cur, h.sub hY, rfl⟩
set_option maxRecDepth 100000 in
/-- a block of X turns -/
theorem IsV.turn (h : IsV X N m w a f) (hk : Keeps X w w') : IsV X N m w' a f := by
  obtain ⟨b, v, d, cur, h, rfl⟩ := h
  exact ⟨b, v, d, cur, h.turn hk, rfl⟩
set_option maxRecDepth 100000 in
theorem IsV.more {k : Nat} (h : IsV X N m w a f) (hk : m ≤ k) : IsV X N k w a f := by
  obtain ⟨b, v, d, cur, h, rfl⟩ := h
  exact ⟨b, v, d, cur, h.more hk, rfl⟩
set_option maxRecDepth 100000 in
theorem IsV.xlt (h : IsV X N m w a f) : ∀ i, X i → i < w.heap.size := by
  obtain ⟨b, v, d, cur, h, rfl⟩ := h
  exact h.h.xlt
set_option maxRecDepth 100000 in
theorem isv_read (h : IsV X N m w a f) (n : Int) : Calls Tryz.prog 160 #[.pointer (some ⟨a, 0, none⟩), .int .i64 n] w fun e w' =>
    e = .returned (.tuple #[.string (f n).1, .int .i64 (f n).2]) ∧ IsV X N m w' a f ∧ KeepX X w w' := by
  obtain ⟨b, v, d, cur, h, rfl⟩ := h
  by_cases hn : 1 ≤ n ∧ n < ((N / 4 : Nat) : Int)
  · obtain ⟨k, rfl⟩ := Int.eq_ofNat_of_zero_le (show 0 ≤ n by omega)
    refine (hsread h (n := k) (by omega) (by omega)).mono ?_
    rintro e w' ⟨rfl, L', h1, h2⟩
    refine ⟨?_, ⟨b, _, d, cur, h1, rfl⟩, h2⟩
    unfold rdC
    rw [if_pos hn]
    rfl
  · have e : readV v d n = (v, ⟨#[]⟩, 81) := by
      unfold readV
      rw [if_pos]
      unfold mayV
      rw [fn_blocks h.h.fn]
      exact hn
    have k := hvread h.h n
    rw [e] at k
    refine k.mono ?_
    rintro e w' ⟨rfl, h1, h2⟩
    refine ⟨?_, ⟨b, v, d, cur, ⟨h1, h.st, h.coh, h.keys, h.live⟩, rfl⟩, h2⟩
    unfold rdC
    rw [if_neg hn]
set_option maxRecDepth 100000 in
theorem isv_write (h : IsV X N m w a f) (hm : m ≤ 900000) {n : Nat} (h1 : 1 ≤ n) (h2 : n < N / 4) {p : ByteArray} (hp : p.size ≤ 240) :
    Calls Tryz.prog 19 #[.pointer (some ⟨a, 0, none⟩), .int .i64 (n : Int), .string p] w fun e w' =>
      e = .returned (.int .i64 0) ∧ IsV X N (m + 4) w' a (upd f n p) ∧ KeepX X w w' := by
  obtain ⟨b, v, d, cur, h, rfl⟩ := h
  refine (hswrite h hm h1 h2 hp).mono ?_
  rintro e w' ⟨rfl, d', q1, q2⟩
  exact ⟨rfl, ⟨b, _, d', _, q1, (rdC_write h1 h2 hp).symm⟩, q2⟩
end
set_option maxRecDepth 100000 in
theorem readV_kf {v : Vo} {d : Dk} {n : Int} (h : Kf v.L) : Kf (readV v d n).1.L := by
  unfold readV
  split
  · exact h
  · split
    · exact h
    · cases hf : find v.L n.toNat with
      | some s => exact h.touch hf
      | none =>
        show Kf (readG v n.toNat _).1.L
        unfold readG
        split
        · exact h
        · unfold readU
          split
          · exact h
          · exact h.put _ _
/-- the document's living volume, its blocks G -/
def IsD (G : Nat → Prop) (N m : Nat) (w : World) (k : Nat) (f : Rd) : Prop :=
  ∃ c v d cur, RV G w k c v d ∧ Nv.Fn N m d ∧ St d N cur (fun _ => false) ∧ Coh cur v.L ∧ Kf v.L ∧ v.dead = false ∧ f = rdC N cur
section
variable {G K : Nat → Prop} {N m : Nat} {w w' : World} {k : Nat} {f : Rd}
set_option maxRecDepth 100000 in
theorem IsD.keeps (h : IsD G N m w k f) (hk : Keeps K w w') (hn : ∀ i, G i → ¬ K i) : IsD G N m w' k f := by
  obtain ⟨c, v, d, cur, h, q⟩ := h
  exact ⟨c, v, d, cur, h.keeps hk hn, q⟩
set_option maxRecDepth 100000 in
theorem IsD.below (h : IsD G N m w k f) (hb : Below w.heap.size w w') : IsD G N m w' k f := h.keeps (Keeps.of_below (fun _ => False) hb) (fun _ _ h => h)
set_option maxRecDepth 100000 in
theorem IsD.lt (h : IsD G N m w k f) : ∀ i, G i → i < w.heap.size := by
  obtain ⟨c, v, d, cur, h, q⟩ := h
  exact h.lt
set_option maxRecDepth 100000 in
theorem isd_read (h : IsD G N m w k f) (hm : m ≤ 900000) (n : Int) : Calls Tryz.prog 102 #[.pointer (some ⟨k, 0, none⟩), .int .i64 n] w fun e w' =>
    e = .returned (.tuple #[.string (f n).1, .int .i64 (f n).2]) ∧ ∃ G', IsD G' N m w' k f ∧ Keeps G w w' ∧ ∀ i, G' i → G i ∨ w.heap.size ≤ i := by
  obtain ⟨c, v, d, cur, h1, h2, h3, h4, h5, h6, rfl⟩ := h
  have kr := rvread_any h1 h5 h2.fit (by have := h2.num.marks; omega) n
  by_cases hn : 1 ≤ n ∧ n < ((N / 4 : Nat) : Int)
  · obtain ⟨j, rfl⟩ := Int.eq_ofNat_of_zero_le (show 0 ≤ n by omega)
    obtain ⟨L', e1, e2, e3⟩ := st_readV h3 h2.len h4 h6 (n := j) (by omega) (by omega)
    have hKf : Kf (readV v d (j : Int)).1.L := readV_kf h5
    rw [e1] at kr hKf
    refine kr.mono ?_
    rintro e w' ⟨rfl, G', q1, q2, q3⟩
    refine ⟨?_, G', ⟨c, _, d, cur, q1, h2, h3, e2, hKf, h6, rfl⟩, q2, q3⟩
    unfold rdC
    rw [if_pos hn]
    rfl
  · have e : readV v d n = (v, ⟨#[]⟩, 81) := by
      unfold readV
      rw [if_pos]
      unfold mayV
      rw [fn_blocks h2]
      exact hn
    rw [e] at kr
    refine kr.mono ?_
    rintro e w' ⟨rfl, G', q1, q2, q3⟩
    refine ⟨?_, G', ⟨c, v, d, cur, q1, h2, h3, h4, h5, h6, rfl⟩, q2, q3⟩
    unfold rdC
    rw [if_neg hn]
end
end Go.Proofs.YtajlfmnjibgbaaaGreatDoor.Tr

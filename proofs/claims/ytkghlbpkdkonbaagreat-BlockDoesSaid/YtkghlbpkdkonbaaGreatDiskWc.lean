/- New. -/
import Derived.Test.YtkghlbpkdkonbaaGreatDiskWb
import Derived.IntWalk
namespace Go.Proofs.YtkghlbpkdkonbaaGreat.Disk
open Go Go.RowKit Go.Maps Mem

def zero64 : ByteArray := ⟨(List.replicate 64 0).toArray⟩
set_option maxRecDepth 100000 in
theorem zeros_any (w : World) : Calls Tryz.prog 75 #[.string ⟨#[0]⟩, .int .i64 64] w fun e w' => e = .returned (.string zero64) ∧ Below w.heap.size w w' := by
  have k := Tryz.strings_Repeat ⟨#[0]⟩ 64 w (by decide) (by decide)
  rw [show (⟨(Lib.repeatL (ByteArray.mk #[0]).data.toList 64).toArray⟩ : ByteArray) = zero64 by kernel_rfl] at k
  exact k
set_option maxRecDepth 100000 in
theorem repeat_new (w : World) (N : Nat) (hN1 : 1 ≤ N) (hN : N ≤ 16384) :
    Calls Tryz.prog 74 #[.slice (some ⟨w.heap.size, 0, none⟩) 1 1, .int .i64 (N : Int)] (w.alloc (.cells #[.string zero64] 9)) fun e w' => ∃ g, e = .returned (.slice (some ⟨g, 0, none⟩) N N) ∧
      w.heap.size ≤ g ∧ w'.heap[g]? = some (.cells (List.replicate N (Value.string zero64)).toArray 9 (0, 0)) ∧ Below w.heap.size w w' := by
  refine (repeat_any w.heap.size N zero64 hN1 hN (Blk.cell (Blk.new w 9 #[.string zero64]) 0)).mono ?_
  rintro e w' ⟨rfl, h1, h2⟩
  have hs := ((Keeps.refl (fun _ => False) w).alloc (.cells #[.string zero64] 9)).size
  exact ⟨_, rfl, hs, h1, ((Below.refl _ w).alloc (Nat.le_refl _) _).trans (h2.mono hs)⟩
set_option maxRecDepth 100000 in
theorem new_dk {w2 : World} {g n : Nat} (hn : n ≤ 16384) (hg : w2.heap[g]? = some (.cells (List.replicate n (Value.string zero64)).toArray 9 (0, 0))) :
    IsDk (fun i => i = g ∨ (w2.heap.size ≤ i ∧ i < w2.heap.size + 3)) (((w2.alloc (.map #[] 0)).alloc (.map #[] 0)).alloc (.cells #[.slice (some ⟨g, 0, none⟩) n n, .map (some w2.heap.size), .slice none 0 0, .map (some (w2.heap.size + 1)), .int .i64 0, .int .i64 0, .string ⟨#[]⟩, .bool false] 89)) (w2.heap.size + 1 + 1) (newD n) := by
  have hlt : g < w2.heap.size := (Array.getElem?_eq_some_iff.1 hg).1
  have e1 : (w2.alloc (.map #[] 0)).heap.size = w2.heap.size + 1 := by simp
  have e2 : ((w2.alloc (.map #[] 0)).alloc (.map #[] 0)).heap.size = w2.heap.size + 1 + 1 := by simp
  have k1 := ((Keeps.refl (fun _ => False) (w2.alloc (.map #[] 0))).alloc (.map #[] 0)).alloc (.cells #[.slice (some ⟨g, 0, none⟩) n n, .map (some w2.heap.size), .slice none 0 0, .map (some (w2.heap.size + 1)), .int .i64 0, .int .i64 0, .string ⟨#[]⟩, .bool false] 89)
  have k0 := ((Keeps.refl (fun _ => False) w2).alloc (.map #[] 0)).same k1
  have k2 := (Keeps.refl (fun _ => False) ((w2.alloc (.map #[] 0)).alloc (.map #[] 0))).alloc (.cells #[.slice (some ⟨g, 0, none⟩) n n, .map (some w2.heap.size), .slice none 0 0, .map (some (w2.heap.size + 1)), .int .i64 0, .int .i64 0, .string ⟨#[]⟩, .bool false] 89)
  have hB := Blk.new ((w2.alloc (.map #[] 0)).alloc (.map #[] 0)) 89 #[.slice (some ⟨g, 0, none⟩) n n, .map (some w2.heap.size), .slice none 0 0, .map (some (w2.heap.size + 1)), .int .i64 0, .int .i64 0, .string ⟨#[]⟩, .bool false]
  rw [e2] at hB
  have hm := (MapS.new w2).keeps k1 (fun h => h)
  have hm2 := (MapB.new (w2.alloc (.map #[] 0))).keeps k2 (fun h => h)
  rw [e1] at hm2
  have hl : (newD n).stays.length = n := List.length_replicate
  refine ⟨g, w2.heap.size, w2.heap.size + 1, n, .slice none 0 0, ?_, ?_, hm, hm2, ⟨rfl, Or.inl ⟨rfl, rfl⟩⟩, by omega, ⟨Or.inr ⟨by omega, by omega⟩, Or.inl rfl, Or.inr ⟨by omega, by omega⟩, Or.inr ⟨by omega, by omega⟩⟩, (fun j e => by cases e), fun i hi => ?_⟩
  · rw [hl]; exact hB
  · rw [hl]
    refine ⟨by simp [newD], Or.inr ⟨g, n, _, rfl, Nat.zero_le _, (k0.block g hlt (fun h => h)).trans hg, Nat.le_refl _, by unfold maxLen; omega, by simp, ?_⟩⟩
    rw [List.take_of_length_le (by simp)]
    show List.replicate n (Value.string zero64) = (List.replicate n _).map Value.string
    rw [List.map_replicate]
    rfl
  · have e3 : ((((w2.alloc (.map #[] 0)).alloc (.map #[] 0)).alloc (.cells #[.slice (some ⟨g, 0, none⟩) n n, .map (some w2.heap.size), .slice none 0 0, .map (some (w2.heap.size + 1)), .int .i64 0, .int .i64 0, .string ⟨#[]⟩, .bool false] 89)).heap.size) = w2.heap.size + 3 := by simp
    rw [e3]
    rcases hi with rfl | hi
    · omega
    · exact hi.2
set_option maxRecDepth 100000 in
set_option maxHeartbeats 8000000 in
theorem new_any (w : World) (n : Nat) (h1 : 1 ≤ n) (h2 : n ≤ 16384) :
    Calls Tryz.prog 29 #[.int .i64 (n : Int)] w fun e w' => ∃ F b, e = .returned (.tuple #[.pointer (some ⟨b, 0, none⟩), .int .i64 0]) ∧ IsDk F w' b (newD n) ∧ (∀ i, F i → w.heap.size ≤ i) ∧ Below w.heap.size w w' := by
  have kz := Lib.hid (fun W => zeros_any W)
  have kr := Lib.hid (fun W => repeat_new W n h1 h2)
  go_enter Tryz.func29, Tryz.ntmps29
  go_wp2_with fail
  refine (kz.out _).mono ?_
  rintro e w1 ⟨rfl, hb1⟩
  replace hb1 := Lib.hid hb1
  go_wp2_with fail
  refine (kr.out _).mono ?_
  rintro e w2 ⟨g, rfl, hg1, hg, hb2⟩
  have hb := Lib.hid (hb1.out.trans (hb2.mono hb1.out.size))
  have hs := hb1.out.size
  have hs2' := hb2.size
  clear hb2
  have m1 := run_makeMap (P := Tryz.prog) 86 w2
  have m2 := run_makeMap (P := Tryz.prog) 87 (w2.alloc (.map #[] 0))
  have bd : ∀ W, (Instr.build 89 #[(0, .slice (some ⟨g, 0, none⟩) n n), (1, .map (some w2.heap.size)), (3, .map (some (w2.heap.size + 1)))]).run Tryz.prog W = .ok (.agg #[.slice (some ⟨g, 0, none⟩) n n, .map (some w2.heap.size), .slice none 0 0, .map (some (w2.heap.size + 1)), .int .i64 0, .int .i64 0, .string ⟨#[]⟩, .bool false]) W := fun W => run_build W _ _ _ (by kernel_rfl)
  replace hg := Lib.hid hg
  go_wp2_with fail
  go_ret2
  refine ⟨_, _, rfl, new_dk h2 hg.out, fun i hi => ?_, ((hb.out.alloc (Nat.le_trans hs hs2') _).alloc ?_ _).alloc ?_ _⟩
  · rcases hi with rfl | hi <;> omega
  · simp; omega
  · simp; omega
set_option maxRecDepth 100000 in
set_option maxHeartbeats 8000000 in
theorem new_no (w : World) (n : Int) (h : ¬ (1 ≤ n ∧ n ≤ 16384)) :
    Calls Tryz.prog 29 #[.int .i64 n] w fun e w' => e = .returned (.tuple #[.pointer none, .int .i64 60]) ∧ w' = w := by
  by_cases h1 : n < 1
  · clear h
    go_enter Tryz.func29, Tryz.ntmps29
    go_wp2_with fail
    go_ret2
    exact ⟨rfl, rfl⟩
  · have h2 : 16384 < n := by omega
    clear h
    go_enter Tryz.func29, Tryz.ntmps29
    go_wp2_with fail
    go_ret2
    exact ⟨rfl, rfl⟩
end Go.Proofs.YtkghlbpkdkonbaaGreat.Disk
/- Open. -/
namespace Go.Proofs.YtkghlbpkdkonbaaGreat.Disk
open Go Go.RowKit Go.Maps Mem

def chunk (img : ByteArray) (i : Nat) : ByteArray := img.extract (i * 64) ((i + 1) * 64)
/-- a disk off an image, k sectors of it laid -/
def openS (img : ByteArray) (n k : Nat) : List ByteArray := (List.range n).map fun i => if i < k then chunk img i else zero64
def openTo (img : ByteArray) (n k : Nat) : Dk := ⟨openS img n k, [], fun _ => false, 0, 0, ⟨#[]⟩, false, 0⟩
set_option maxRecDepth 100000 in
theorem openTo_zero (img : ByteArray) (n : Nat) : openTo img n 0 = newD n := by
  have e : openS img n 0 = List.replicate n zero64 := by
    unfold openS
    apply List.ext_getElem
    · simp
    · intro i h1 h2
      simp
  unfold openTo
  rw [e]
  rfl
set_option maxRecDepth 100000 in
theorem openTo_len (img : ByteArray) (n k : Nat) : (openTo img n k).stays.length = n := by simp [openTo, openS]
set_option maxRecDepth 100000 in
theorem openTo_step (img : ByteArray) (n k : Nat) : openTo img n (k + 1) = { openTo img n k with stays := (openTo img n k).stays.set k (chunk img k) } := by
  have e : openS img n (k + 1) = (openS img n k).set k (chunk img k) := by
    unfold openS
    apply List.ext_getElem
    · simp
    · intro i h1 h2
      simp only [List.getElem_map, List.getElem_range, List.getElem_set]
      by_cases e : k = i
      · subst e; rw [if_pos (by omega), if_pos rfl]
      · rw [if_neg e]
        by_cases e2 : i < k
        · rw [if_pos (by omega), if_pos e2]
        · rw [if_neg (by omega), if_neg e2]
  unfold openTo
  rw [e]
/-- what Open answers -/
def openOk (img : ByteArray) : Bool := img.size % 64 == 0 && decide (1 ≤ img.size / 64) && decide (img.size / 64 ≤ 16384)
def openD (img : ByteArray) : Dk := openTo img (img.size / 64) (img.size / 64)

section
variable {F : Nat → Prop} {w w' : World} {b : Nat} {d d' : Dk} {sb lb bb sc : Nat} {ov : Value}
set_option maxRecDepth 100000 in
theorem Core.restay (h : Core F w b d sb lb bb sc ov) (i : Nat) (s : ByteArray) : IsDk F (w.setCell ⟨sb, i, none⟩ (.string s)) b { d with stays := d.stays.set i s } ∧ Keeps F w (w.setCell ⟨sb, i, none⟩ (.string s)) := by
  have hne := h.ne
  obtain ⟨h1, h2, h3, h4, h5, h6, h7, h8, h9⟩ := h
  have kk := (Keeps.refl (fun j => j = sb) w).put (g := sb) (Or.inl rfl) i (.string s)
  have hst := (own_put (i := i) (u := .string s) h2).1
  have hl : (d.stays.set i s).length = d.stays.length := List.length_set
  refine ⟨⟨sb, lb, bb, sc, ov, ?_, ?_, h3.keeps kk (Ne.symm hne.2.2.2.2.1), h4.keeps kk (Ne.symm hne.2.2.2.2.2.1), own_keeps h5 kk hne.2.2.2.2.2.2.2.2, h6, h7, h8, fun j hj => Nat.lt_of_lt_of_le (h9 j hj) kk.size⟩, kk.mono (fun j e => e ▸ h7.2.1)⟩
  · rw [hl]; exact h1.keeps kk (Ne.symm hne.1)
  · rw [hl, List.map_set]; exact hst
end
end Go.Proofs.YtkghlbpkdkonbaaGreat.Disk
/- The laws' sector. -/
namespace Go.Proofs.YtkghlbpkdkonbaaGreat.Disk
open Go Go.RowKit Go.Maps Mem

def secL (more : Int) : Nat := (64 + max (-64) (min more 136)).toNat
def secB (c : UInt8) (N : Nat) : ByteArray := ⟨(List.replicate N c).toArray⟩
set_option maxRecDepth 100000 in
theorem infoU : (Tryz.prog.info? 5).map (fun i => (i.zero, i.size, i.bytes)) = some (some (.int .u8 0), 1, 1) := by kernel_rfl
def rowU (c : UInt8) (N k : Nat) : List Value := List.replicate k (.int .u8 (c.toNat : Int)) ++ List.replicate (N - k) (.int .u8 0)
set_option maxRecDepth 100000 in
theorem rowU_set (c : UInt8) (N k : Nat) (h : k < N) : (rowU c N k).set k (.int .u8 (c.toNat : Int)) = rowU c N (k + 1) := by
  unfold rowU
  rw [List.set_append_right _ _ (by simp), List.length_replicate, Nat.sub_self, List.replicate_succ' (n := k), show N - k = (N - (k + 1)) + 1 by omega, List.replicate_succ, List.set_cons_zero, List.append_assoc]
  rfl
set_option maxRecDepth 100000 in
theorem rowU_len (c : UInt8) (N k : Nat) (h : k ≤ N) : (rowU c N k).length = N := by simp [rowU]; omega
end Go.Proofs.YtkghlbpkdkonbaaGreat.Disk

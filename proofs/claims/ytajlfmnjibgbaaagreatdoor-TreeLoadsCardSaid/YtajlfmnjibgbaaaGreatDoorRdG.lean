/- The document's disk: Open. -/
import Derived.Test.YtajlfmnjibgbaaaGreatDoorRdA
import Derived.Test.YtajlfmnjibgbaaaGreatDoorRowz
import Derived.Test.YtajlfmnjibgbaaaGreatDoorDiskPl
namespace Go.Proofs.YtajlfmnjibgbaaaGreatDoor.Disk
open Go Go.RowKit Go.Maps Mem
def chunks (img : ByteArray) (k : Nat) : List Value := (List.range k).map fun i => .string (chunk img i)
set_option maxRecDepth 100000 in
theorem chunks_succ (img : ByteArray) (k : Nat) : chunks img (k + 1) = chunks img k ++ [.string (chunk img k)] := by
  unfold chunks
  rw [List.range_succ, List.map_append]
  rfl
set_option maxRecDepth 100000 in
theorem openD_stays (img : ByteArray) : (openD img).stays.map Value.string = chunks img (img.size / 64) := by
  show (openS img (img.size / 64) (img.size / 64)).map Value.string = _
  unfold openS chunks
  rw [List.map_map]
  refine List.map_congr_left fun i hi => ?_
  have := List.mem_range.1 hi
  simp [this]
set_option maxRecDepth 100000 in
theorem openD_len (img : ByteArray) : (openD img).stays.length = img.size / 64 := openTo_len _ _ _
set_option maxRecDepth 100000 in
set_option maxHeartbeats 8000000 in
theorem ropen_yes (img : ByteArray) (w : World) (hm : img.size % 64 = 0) (h1 : 1 ≤ img.size / 64) (h2 : img.size / 64 ≤ 16384) :
    Calls Tryz.prog 56 #[.string img] w fun e w' => ∃ F b, e = .returned (.tuple #[.pointer (some ⟨b, 0, none⟩), .int .i64 0]) ∧ IsRk F w' b (openD img) ∧ (∀ i, F i → w.heap.size ≤ i) ∧ Below w.heap.size w w' := by
  obtain ⟨n, hn⟩ : ∃ n, n = img.size / 64 := ⟨_, rfl⟩
  have hsz : img.size = 64 * n := by omega
  have e0 : ((img.size : Int) == 0) = false := beq_false_of_ne (by omega)
  have e1 : (img.size : Int).tmod 64 = 0 := by rw [hsz]; simp
  have e2 : ¬ 1048576 < (img.size : Int) := by omega
  have e3 : img.size ≤ 1048576 := by omega
  obtain ⟨P, hP⟩ : ∃ P, P = w.heap.size := ⟨_, rfl⟩
  have hB0 : Blk (w.alloc (.cells #[.slice none 0 0, .slice none 0 0, .slice none 0 0, .int .i64 0, .int .i64 0, .string ⟨#[]⟩, .bool false] 136)) P 136 #[.slice none 0 0, .slice none 0 0, .slice none 0 0, .int .i64 0, .int .i64 0, .string ⟨#[]⟩, .bool false] := by rw [hP]; exact Blk.new w _ _
  have hb0 : Below w.heap.size w (w.alloc (.cells #[.slice none 0 0, .slice none 0 0, .slice none 0 0, .int .i64 0, .int .i64 0, .string ⟨#[]⟩, .bool false] 136)) := (Below.refl _ w).alloc (Nat.le_refl _) _
  have bd : ∀ W, (Instr.build 136 #[]).run Tryz.prog W = .ok (.agg #[.slice none 0 0, .slice none 0 0, .slice none 0 0, .int .i64 0, .int .i64 0, .string ⟨#[]⟩, .bool false]) W := fun W => run_build W _ _ _ (by kernel_rfl)
  have hPw : w.heap.size ≤ P := Nat.le_of_eq hP.symm
  have hlenD := openD_len img
  have hstD := openD_stays img
  rw [← hn] at hlenD hstD h1 h2
  replace hlenD := Lib.hid hlenD
  replace hstD := Lib.hid hstD
  replace hB0 := Lib.hid hB0
  replace hb0 := Lib.hid hb0
  replace hP := Lib.hid hP
  replace hn := Lib.hid hn
  replace hsz := Lib.hid hsz
  clear hm
  obtain ⟨i0, hinf, hz0, hz1, hz2⟩ := info_parts infoS
  go_enter Tryz.func56, Tryz.ntmps56
  go_wp2_with fail
  rw [← hP.out]
  generalize w.alloc (.cells #[.slice none 0 0, .slice none 0 0, .slice none 0 0, .int .i64 0, .int .i64 0, .string ⟨#[]⟩, .bool false] 136) = w0 at hB0 hb0 ⊢
  go_loopw [5] (fun t wr => ∃ (p k : Nat) (A : Option Addr) (c : Nat), k ≤ n ∧ 64 * k = p ∧ t = .int .i64 (p : Int) ∧ Blk wr P 136 #[.slice A k c, .slice none 0 0, .slice none 0 0, .int .i64 0, .int .i64 0, .string ⟨#[]⟩, .bool false] ∧ wr.ownsRow (P + 1) 9 1 (.slice A k c) k (chunks img k) ∧ Below w.heap.size w wr) (fun t _ => 64 * n - (intOf t).toNat)
  case atStart => exact ⟨0, 0, none, 0, Nat.zero_le _, rfl, rfl, hB0.out, ⟨rfl, Or.inl ⟨rfl, rfl⟩⟩, hb0.out⟩
  case round =>
    clear hB0 hb0
    obtain ⟨p, k, A, c, hk, hp, rfl, hB, o, hb⟩ := hrel
    by_cases hlt : k < n
    · have l1 : p < img.size := by have := hsz.out; omega
      have l2 : (p : Int) + 64 ≤ (img.size : Int) := by have := hsz.out; omega
      have l3 : p < 64 * n := by omega
      have s1 : IntKind.i64.wrap ((p : Int) + 64) = (p : Int) + 64 := IntWalk.i64_in _ (by omega)
      have s2 : ((p : Int) + 64).toNat = p + 64 := by omega
      have s3 : (0 : Int) ≤ (p : Int) := by omega
      have s4 : (p : Int) ≤ (p : Int) + 64 := by omega
      have ch : img.extract p (p + 64) = chunk img k := by unfold chunk; rw [show k * 64 = p by omega, show (k + 1) * 64 = p + 64 by omega]
      have hp1 : 64 * (k + 1) = p + 64 := by omega
      have hcs := chunks_succ img k
      obtain ⟨C, hC⟩ : ∃ C, C = chunk img k := ⟨_, rfl⟩
      rw [← hC] at ch hcs
      have q0 : wr.drew.cell? ⟨P, 0, none⟩ = some (.slice A k c) := hB.cell 0
      replace hp := Lib.hid hp
      replace hp1 := Lib.hid hp1
      replace hC := Lib.hid hC
      replace hcs := Lib.hid hcs
      replace hB := Lib.hid hB
      replace o := Lib.hid o
      replace hb := Lib.hid hb
      go_wp2_with fail
      refine Late.start (S := fun _ => True) (T := fun w' => w'.cell? ⟨P, 0, none⟩ = some (.slice A k c)) (late := [14]) (by kernel_rfl) ?_
      have hS : True := trivial
      have hT : wr.drew.cell? ⟨P, 0, none⟩ = some (.slice A k c) := q0
      refine Late.take (i := 0) (oi := ?_) (v := ?_) ?_ (by kernel_rfl) (by kernel_rfl) (by kernel_rfl) (by kernel_rfl) ?_ ?_ (by assumption) (by assumption) ?_
      rotate_left 2
      focus (simp only [List.getElem?_toArray, List.getElem?_cons_zero]; rfl)
      focus exact fun _ _ _ h => h
      focus (refine Or.inl ⟨by rfl, ?_⟩; intro w hSw; (try dsimp only at hSw); go_split_ands; go_simp; try with_reducible rfl)
      try simp only [Act.put, List.setIfInBounds_toArray, List.set_cons_zero, List.set_cons_succ]
      refine Late.take (i := 1) (oi := ?_) (v := ?_) ?_ (by kernel_rfl) (by kernel_rfl) (by kernel_rfl) (by kernel_rfl) ?_ ?_ (by assumption) (by assumption) ?_
      rotate_left 2
      focus (simp only [List.getElem?_toArray, List.getElem?_cons_succ, List.getElem?_cons_zero]; rfl)
      focus exact fun _ _ _ h => h
      focus (refine Or.inl ⟨by rfl, ?_⟩; intro w hSw; (try dsimp only at hSw); go_split_ands; go_simp; try with_reducible rfl)
      try simp only [Act.put, List.setIfInBounds_toArray, List.set_cons_zero, List.set_cons_succ]
      refine Late.take (i := 2) (oi := ?_) (v := ?_) ?_ (by kernel_rfl) (by kernel_rfl) (by kernel_rfl) (by kernel_rfl) ?_ ?_ (by assumption) (by assumption) ?_
      rotate_left 2
      focus (simp only [List.getElem?_toArray, List.getElem?_cons_succ, List.getElem?_cons_zero]; rfl)
      focus exact fun _ _ _ h => h
      focus (refine Or.inl ⟨by rfl, ?_⟩; intro w hSw; (try dsimp only at hSw); go_split_ands; go_simp; try with_reducible rfl)
      try simp only [Act.put, List.setIfInBounds_toArray, List.set_cons_zero, List.set_cons_succ]
      refine Late.take (i := 3) (oi := ?_) (v := ?_) ?_ (by kernel_rfl) (by kernel_rfl) (by kernel_rfl) (by kernel_rfl) ?_ ?_ (by assumption) (by assumption) ?_
      rotate_left 2
      focus (simp only [List.getElem?_toArray, List.getElem?_cons_succ, List.getElem?_cons_zero]; rfl)
      focus exact fun _ _ _ h => h
      focus (refine Or.inl ⟨by rfl, ?_⟩; intro w hSw; (try dsimp only at hSw); go_split_ands; go_simp; try with_reducible rfl)
      try simp only [Act.put, List.setIfInBounds_toArray, List.set_cons_zero, List.set_cons_succ]
      refine Late.takeT (i := 4) (oi := ?_) (v := ?_) ?_ (by kernel_rfl) (by kernel_rfl) (by kernel_rfl) (by kernel_rfl) (by kernel_rfl) (by kernel_rfl) ?_ ?_ (by assumption) (by assumption) ?_
      rotate_left 2
      focus (simp only [List.getElem?_toArray, List.getElem?_cons_succ, List.getElem?_cons_zero]; rfl)
      focus exact fun _ _ _ h => h
      focus (refine Or.inl ⟨by rfl, ?_⟩; intro w hSw; (try dsimp only at hSw); go_split_ands; go_simp; try with_reducible rfl)
      try simp only [Act.put, List.setIfInBounds_toArray, List.set_cons_zero, List.set_cons_succ]
      refine Late.take (i := 5) (oi := ?_) (v := ?_) ?_ (by kernel_rfl) (by kernel_rfl) (by kernel_rfl) (by kernel_rfl) ?_ ?_ (by assumption) (by assumption) ?_
      rotate_left 2
      focus (simp only [List.getElem?_toArray, List.getElem?_cons_succ, List.getElem?_cons_zero]; rfl)
      focus exact fun _ _ _ h => h
      focus (refine Or.inl ⟨by rfl, ?_⟩; intro w hSw; (try dsimp only at hSw); go_split_ands; go_simp; try with_reducible rfl)
      try simp only [Act.put, List.setIfInBounds_toArray, List.set_cons_zero, List.set_cons_succ]
      refine Late.take (i := 6) (oi := ?_) (v := ?_) ?_ (by kernel_rfl) (by kernel_rfl) (by kernel_rfl) (by kernel_rfl) ?_ ?_ (by assumption) (by assumption) ?_
      rotate_left 2
      focus (simp only [List.getElem?_toArray, List.getElem?_cons_succ, List.getElem?_cons_zero]; rfl)
      focus exact fun _ _ _ h => h
      focus (refine Or.inl ⟨by rfl, ?_⟩; intro w hSw; (try dsimp only at hSw); go_split_ands; go_simp; try with_reducible rfl)
      try simp only [Act.put, List.setIfInBounds_toArray, List.set_cons_zero, List.set_cons_succ]
      refine Late.take (i := 7) (oi := ?_) (v := ?_) ?_ (by kernel_rfl) (by kernel_rfl) (by kernel_rfl) (by kernel_rfl) ?_ ?_ (by assumption) (by assumption) ?_
      rotate_left 2
      focus (simp only [List.getElem?_toArray, List.getElem?_cons_succ, List.getElem?_cons_zero]; rfl)
      focus exact fun _ _ _ h => h
      focus (refine Or.inl ⟨by rfl, ?_⟩; intro w hSw; (try dsimp only at hSw); go_split_ands; go_simp; try with_reducible rfl)
      try simp only [Act.put, List.setIfInBounds_toArray, List.set_cons_zero, List.set_cons_succ]
      refine Late.take (i := 8) (oi := ?_) (v := ?_) ?_ (by kernel_rfl) (by kernel_rfl) (by kernel_rfl) (by kernel_rfl) ?_ ?_ (by assumption) (by assumption) ?_
      rotate_left 2
      focus (simp only [List.getElem?_toArray, List.getElem?_cons_succ, List.getElem?_cons_zero]; rfl)
      focus exact fun _ _ _ h => h
      focus (refine Or.inl ⟨by rfl, ?_⟩; intro w hSw; (try dsimp only at hSw); go_split_ands; go_simp; try with_reducible rfl)
      try simp only [Act.put, List.setIfInBounds_toArray, List.set_cons_zero, List.set_cons_succ]
      refine Late.take (i := 9) (oi := ?_) (v := ?_) ?_ (by kernel_rfl) (by kernel_rfl) (by kernel_rfl) (by kernel_rfl) ?_ ?_ (by assumption) (by assumption) ?_
      rotate_left 2
      focus (simp only [List.getElem?_toArray, List.getElem?_cons_succ, List.getElem?_cons_zero]; rfl)
      focus exact fun _ _ _ h => h
      focus (refine Or.inl ⟨by rfl, ?_⟩; intro w hSw; (try dsimp only at hSw); go_split_ands; go_simp; try with_reducible rfl)
      try simp only [Act.put, List.setIfInBounds_toArray, List.set_cons_zero, List.set_cons_succ]
      have oa := o.out.drew.alloc (.cells #[.string C] 9)
      have hBa : Blk (wr.drew.alloc (.cells #[.string C] 9)) P 136 _ := Blk.alloc (w := wr.drew) hB.out (.cells #[.string C] 9)
      have hba := hb.out.drew.alloc (hb.out.drew.size) (.cells #[.string C] 9)
      have hnew := World.news_of_block (Blk.new wr.drew 9 #[.string C])
      have hTa : (wr.drew.alloc (.cells #[.string C] 9)).cell? ⟨P, 0, none⟩ = some (.slice A k c) := hBa.cell 0
      have hPa := hB.out.lt
      replace oa := Lib.hid oa
      replace hBa := Lib.hid hBa
      replace hba := Lib.hid hba
      replace hnew := Lib.hid hnew
      refine Late.only (i := 10) (o := ?_) (by kernel_rfl) ?_ (fun K hK => ?_)
      rotate_left 1
      focus (simp only [List.getElem?_toArray, List.getElem?_cons_succ, List.getElem?_cons_zero]; rfl)
      go_simp
      refine hK.out _ _ trivial (fun _ => hTa) ?_
      clear hK K
      try simp only [Act.put, List.setIfInBounds_toArray, List.set_cons_zero, List.set_cons_succ]
      refine Late.only (i := 11) (o := ?_) (by kernel_rfl) ?_ (fun K hK => ?_)
      rotate_left 1
      focus (simp only [List.getElem?_toArray, List.getElem?_cons_succ, List.getElem?_cons_zero]; rfl)
      rw [if_pos (by kernel_rfl)]
      refine wp_append_lies _ (.tmp 32) (.tmp 38) 48 rfl (P + 1) 9 i0 (.string ⟨#[]⟩) 1 16 Tryz.underlying48 hinf hz0 hz1 hz2 rfl (by decide) (.slice A k c) k (chunks img k) rfl oa.out ⟨wr.drew.heap.size, 0, none⟩ 1 1 [.string C] rfl rfl hnew.out (by simp [Value.oneCell']) (by omega) (by unfold maxLen; omega) (by omega) (by simp; omega) (wr.heap.size + 1) (by simp) ?_
      intro g cap W2 o2 hg2 hor hgl
      have hB2 := hBa.out.grown hg2 (fun e => by have := (oa.out.lt P e.symm).1; omega)
      have hb2 := hba.out.grown hg2 hba.out.size (fun j e => by have := (oa.out.lt j e).1; omega)
      rw [← hcs.out] at o2
      have hT2 : W2.cell? ⟨P, 0, none⟩ = some (.slice A k c) := hB2.cell 0
      have f2 := hB2.free 0
      have hB3 : Blk (W2.setCell ⟨P, 0, none⟩ (.slice (some ⟨g, 0, none⟩) (k + 1) cap)) P 136 #[.slice (some ⟨g, 0, none⟩) (k + 1) cap, .slice none 0 0, .slice none 0 0, .int .i64 0, .int .i64 0, .string ⟨#[]⟩, .bool false] := hB2.put 0 _
      have hb3 := hb2.setCell (p := ⟨P, 0, none⟩) hPw (.slice (some ⟨g, 0, none⟩) (k + 1) cap)
      have o3 := own_far (i := 0) (u := .slice (some ⟨g, 0, none⟩) (k + 1) cap) o2 (P := P) (fun j e => by have := (o2.lt j e).1; omega)
      replace hB3 := Lib.hid hB3
      replace hb3 := Lib.hid hb3
      replace o3 := Lib.hid o3
      clear o2 hg2 hor hgl hB2 hb2 oa hBa hba hnew
      refine hK.out _ _ trivial (fun _ => hT2) ?_
      clear hK K
      try simp only [Act.put, List.setIfInBounds_toArray, List.set_cons_zero, List.set_cons_succ]
      refine Late.only (i := 12) (o := ?_) (by kernel_rfl) ?_ (fun K hK => ?_)
      rotate_left 1
      focus (simp only [List.getElem?_toArray, List.getElem?_cons_succ, List.getElem?_cons_zero]; rfl)
      go_simp
      refine hK.out _ _ trivial (fun _ => hT2) ?_
      clear hK K
      try simp only [Act.put, List.setIfInBounds_toArray, List.set_cons_zero, List.set_cons_succ]
      refine Late.only (i := 13) (o := ?_) (by kernel_rfl) ?_ (fun K hK => ?_)
      rotate_left 1
      focus (simp only [List.getElem?_toArray, List.getElem?_cons_succ, List.getElem?_cons_zero]; rfl)
      go_simp
      refine hK.out _ _ trivial (fun _ => hT2) ?_
      clear hK K
      try simp only [Act.put, List.setIfInBounds_toArray, List.set_cons_zero, List.set_cons_succ]
      refine Late.only (i := 14) (o := ?_) (by kernel_rfl) ?_ (fun K hK => ?_)
      rotate_left 1
      focus (simp only [List.getElem?_toArray, List.getElem?_cons_succ, List.getElem?_cons_zero]; rfl)
      go_simp
      refine hK.out _ _ trivial (Late.gone (by kernel_rfl)) ?_
      clear hK K
      try simp only [Act.put, List.setIfInBounds_toArray, List.set_cons_zero, List.set_cons_succ]
      refine Late.done (by kernel_rfl) ?_ _
      clear hT hT2 hTa q0 f2 ch s1 s2 s3 s4 l1 l2
      go_wp2_with fail
      exact ⟨⟨p + 64, k + 1, some ⟨g, 0, none⟩, cap, hlt, hp1.out, rfl, hB3.out, o3.out, hb3.out⟩, by simp [intOf]; omega⟩
    · obtain rfl : k = n := by omega
      have hl : img.size ≤ p := by have := hsz.out; omega
      have fin : IsRk (fun i => w.heap.size ≤ i ∧ i < wr.heap.size) wr P (openD img) := by
        obtain ⟨g, cap, hv, hgP, hgl⟩ := o.form (by omega)
        injection hv with hv _ hv2
        subst hv hv2
        have hPl := hB.lt
        refine ⟨g, c, .slice none 0 0, .slice none 0 0, [], ?_, ?_, ⟨rfl, Or.inl ⟨rfl, rfl⟩⟩, ⟨rfl, Or.inl ⟨rfl, rfl⟩⟩, fun k => ⟨(fun h => by cases h), (fun h => by cases h)⟩, Nat.zero_le _, ⟨hPw, hPl⟩, ⟨by omega, hgl⟩, (fun j e => by cases e), (fun j e => by cases e), fun i hi => hi.2⟩
        · have e : rkc g c (.slice none 0 0) (.slice none 0 0) (openD img) = #[.slice (some ⟨g, 0, none⟩) k c, .slice none 0 0, .slice none 0 0, .int .i64 0, .int .i64 0, .string ⟨#[]⟩, .bool false] := by
            unfold rkc
            rw [hlenD.out]
            rfl
          rw [e]
          exact hB
        · rw [hlenD.out, hstD.out]
          exact own_base o (Nat.zero_le _)
      replace fin := Lib.hid fin
      clear hB o
      replace hb := Lib.hid hb
      go_wp2_with fail
      go_ret2
      exact ⟨_, P, rfl, fin.out, fun i hi => hi.1, hb.out⟩
end Go.Proofs.YtajlfmnjibgbaaaGreatDoor.Disk
/- The document's disk: New; both disks side by side. -/
namespace Go.Proofs.YtajlfmnjibgbaaaGreatDoor.Disk
open Go Go.RowKit Go.Maps Mem
/-- k noughts -/
def zeroB_ (k : Nat) : ByteArray := ⟨(List.replicate k 0).toArray⟩
set_option maxRecDepth 100000 in
theorem zeroB_size (k : Nat) : (zeroB_ k).size = k := by simp [zeroB_, ByteArray.size]
set_option maxRecDepth 100000 in
theorem chunk_zero {n i : Nat} (h : i < n) : chunk (zeroB_ (64 * n)) i = zero64 := by
  unfold chunk zeroB_ zero64
  apply ByteArray.ext
  rw [ByteArray.data_extract]
  apply Array.toList_inj.1
  rw [Array.toList_extract, List.extract_eq_take_drop, List.drop_replicate, List.take_replicate]
  congr 1
  omega
set_option maxRecDepth 100000 in
theorem openD_zero (n : Nat) : openD (zeroB_ (64 * n)) = newD n := by
  have e : openS (zeroB_ (64 * n)) n n = List.replicate n zero64 := by
    unfold openS
    apply List.ext_getElem
    · simp
    · intro i h1 h2
      simp at h1
      simp [h1, chunk_zero]
  unfold openD openTo
  rw [zeroB_size, show 64 * n / 64 = n by omega, e]
  rfl
set_option maxRecDepth 100000 in
theorem infoU8 : (Tryz.prog.info? 5).map (fun i => (i.zero, i.size, i.bytes)) = some (some (.int .u8 0), 1, 1) := by kernel_rfl
set_option maxRecDepth 100000 in
theorem zero_row {w2 : World} {B g N : Nat} (hrow : w2.ownsRow B 5 1 (.slice (some ⟨g, 0, none⟩) N N) N (madeCells (Value.int .u8 0).cells (N * 1)).toList) :
    (convert 36 9 (.slice (some ⟨g, 0, none⟩) N N)).run Tryz.prog w2 = .ok (.string (zeroB_ N)) w2 := by
  have hcv := run_convert_bytes_back (P := Tryz.prog) w2 36 9 5 ⟨g, 0, none⟩ N (List.replicate N 0) Tryz.underlying36 Tryz.underlying5 Tryz.underlying9 (fun j hj => by
    have hj' : j < N := by simpa using hj
    rw [hrow.cells (g := g) rfl j (.int .u8 0) (by simp [madeCells, hj', Value.cells, Nat.mod_one])]
    simp)
  rw [List.length_replicate] at hcv
  exact hcv
set_option maxRecDepth 100000 in
set_option maxHeartbeats 8000000 in
theorem rnew_any (w : World) (n : Nat) (h1 : 1 ≤ n) (h2 : n ≤ 16384) :
    Calls Tryz.prog 26 #[.int .i64 (n : Int)] w fun e w' => ∃ F b, e = .returned (.tuple #[.pointer (some ⟨b, 0, none⟩), .int .i64 0]) ∧ IsRk F w' b (newD n) ∧ (∀ i, F i → w.heap.size ≤ i) ∧ Below w.heap.size w w' := by
  obtain ⟨i0, hinf, hz0, hz1, hz2⟩ := info_parts infoU8
  obtain ⟨N, hN⟩ : ∃ N : Nat, N = 64 * n := ⟨_, rfl⟩
  have hNI : (N : Int) = 64 * (n : Int) := by omega
  have hN2 : N ≤ 1048576 := by omega
  have ko := fun W => ropen_yes (zeroB_ N) W (by rw [zeroB_size]; omega) (by rw [zeroB_size]; omega) (by rw [zeroB_size]; omega)
  have hOD : openD (zeroB_ N) = newD n := by rw [hN, openD_zero]
  rw [hOD] at ko
  have d1 : decide ((n : Int) < 1) = false := decide_eq_false (by omega)
  have d2 : decide (16384 < (n : Int)) = false := decide_eq_false (by omega)
  replace ko := Lib.hid ko
  replace hN := Lib.hid hN
  replace hNI := Lib.hid hNI
  clear hOD
  go_enter Tryz.func26, Tryz.ntmps26
  go_wp2_with (first | (at_make; refine wpList_make_full _ rfl _ _ _ rfl w.heap.size 5 i0 (.int .u8 0) 1 Tryz.underlying36 hinf hz0 hz1 .i64 .i64 _ _ N rfl rfl hNI.out.symm hNI.out.symm (by rw [hz2]; omega) (by unfold maxLen; omega) (Nat.le_refl _) ?_; intro w2 ho2 hg2; have hcv := zero_row ho2; have hb2 : Below w.heap.size w w2 := ⟨hg2.os, hg2.tape, hg2.output, hg2.size, fun k hk => hg2.block k hk (by simp)⟩; clear ho2 hg2; replace hb2 := Lib.hid hb2))
  refine (ko.out _).mono ?_
  rintro e w3 ⟨F, b, rfl, hr, hF, hb3⟩
  have hs2 := hb2.out.size
  have hF2 := Lib.hid (fun i hi => Nat.le_trans hs2 (hF i hi) : ∀ i, F i → w.heap.size ≤ i)
  replace hr := Lib.hid hr
  have hb := Lib.hid (hb2.out.trans (hb3.mono hs2))
  clear hF hb3 hcv
  go_wp2_with fail
  go_ret2
  exact ⟨F, b, rfl, hr.out, hF2.out, hb.out⟩
/-- both disks, side by side: X: blocks that are neither's and stay -/
def Two (X : Nat → Prop) (m : Nat) (w : World) (b c : Nat) (d d' : Dk) : Prop :=
  ∃ F G, IsDk F w b d ∧ IsRk G w c d' ∧ (∀ i, F i → ¬ G i) ∧ (∀ i, F i → ¬ X i) ∧ (∀ i, G i → ¬ X i) ∧ (∀ i, X i → i < w.heap.size) ∧ (Fit d ∧ NumTo m d) ∧ (Fit d' ∧ NumTo m d')
section
variable {X Y : Nat → Prop} {m m' : Nat} {w w' : World} {b c : Nat} {d d' d2 : Dk}
set_option maxRecDepth 100000 in
theorem IsDk.blt {F : Nat → Prop} (h : IsDk F w b d) : ∀ i, F i → i < w.heap.size := by
  obtain ⟨_, _, _, _, _, hc⟩ := h.core
  exact hc.2.2.2.2.2.2.2.2
set_option maxRecDepth 100000 in
theorem Two.mono (h : Two X m w b c d d') (hX : ∀ i, Y i → X i) : Two Y m w b c d d' := by
  obtain ⟨F, G, h1, h2, h3, h4, h5, h6, h7, h8⟩ := h
  exact ⟨F, G, h1, h2, h3, fun i hi hy => h4 i hi (hX i hy), fun i hi hy => h5 i hi (hX i hy), fun i hi => h6 i (hX i hi), h7, h8⟩
set_option maxRecDepth 100000 in
theorem Two.more (h : Two X m w b c d d') (hm : m ≤ m') : Two X m' w b c d d' := by
  obtain ⟨F, G, h1, h2, h3, h4, h5, h6, h7, h8⟩ := h
  exact ⟨F, G, h1, h2, h3, h4, h5, h6, ⟨h7.1, h7.2.mono hm⟩, ⟨h8.1, h8.2.mono hm⟩⟩
set_option maxRecDepth 100000 in
theorem Two.also (h : Two X m w b c d d') (hb : Below w.heap.size w w') (hY : ∀ i, Y i → X i ∨ (w.heap.size ≤ i ∧ i < w'.heap.size)) : Two Y m w' b c d d' := by
  obtain ⟨F, G, h1, h2, h3, h4, h5, h6, h7, h8⟩ := h
  refine ⟨F, G, h1.below hb, h2.below hb, h3, fun i hi hy => ?_, fun i hi hy => ?_, fun i hi => ?_, h7, h8⟩
  · have := h1.blt i hi
    rcases hY i hy with h | h
    · exact h4 i hi h
    · omega
  · have := h2.lt i hi
    rcases hY i hy with h | h
    · exact h5 i hi h
    · omega
  · rcases hY i hi with h | h
    · exact Nat.lt_of_lt_of_le (h6 i h) hb.size
    · exact h.2
set_option maxRecDepth 100000 in
theorem Two.below (h : Two X m w b c d d') (hb : Below w.heap.size w w') : Two X m w' b c d d' := h.also hb fun _ hi => Or.inl hi
set_option maxRecDepth 100000 in
/-- the program's disk is called -/
theorem Two.prog (h : Two X m w b c d d') {f : FuncId} {args : Array Value} {r : Ending} (hop : ∀ F, IsDk F w b d → Fit d → NumTo m d → Calls Tryz.prog f args w fun e w' => e = r ∧ ∃ F', IsDk F' w' b d2 ∧ Keeps F w w' ∧ ∀ i, F' i → F i ∨ w.heap.size ≤ i)
    (hf : Fit d → Fit d2) (hn : NumTo m d → NumTo m' d2) (hm : m ≤ m') : Calls Tryz.prog f args w fun e w' => e = r ∧ Two X m' w' b c d2 d' ∧ KeepX X w w' := by
  obtain ⟨F, G, h1, h2, h3, h4, h5, h6, h7, h8⟩ := h
  refine (hop F h1 h7.1 h7.2).mono ?_
  rintro e w' ⟨rfl, F', q1, q2, q3⟩
  refine ⟨rfl, ⟨F', G, q1, h2.keeps q2 (fun i hg hf => h3 i hf hg), fun i hi hg => ?_, fun i hi hx => ?_, h5, fun i hi => Nat.lt_of_lt_of_le (h6 i hi) q2.size, ⟨hf h7.1, hn h7.2⟩, ⟨h8.1, h8.2.mono hm⟩⟩, q2.mono h4⟩
  · rcases q3 i hi with h | h
    · exact h3 i h hg
    · have := h2.lt i hg; omega
  · rcases q3 i hi with h | h
    · exact h4 i h hx
    · have := h6 i hx; omega
end
end Go.Proofs.YtajlfmnjibgbaaaGreatDoor.Disk
/- Each call of either disk, where both lie side by side. -/
namespace Go.Proofs.YtajlfmnjibgbaaaGreatDoor.Disk
open Go Go.RowKit Go.Maps Mem
section
variable {X Y : Nat → Prop} {m : Nat} {w w' : World} {b c : Nat} {d d' : Dk}
set_option maxRecDepth 100000 in
theorem NumTo.num {d : Dk} (h : NumTo m d) (hm : m ≤ 1048576) : Num d := ⟨Nat.le_trans h.steps (Nat.le_trans hm (by decide)), h.armed, Nat.le_trans h.marks (Nat.le_trans hm (by decide))⟩
set_option maxRecDepth 100000 in
theorem plain {F : Nat → Prop} {b : Nat} {d2 : Dk} {r e : Ending} (h : e = r ∧ IsDk F w' b d2 ∧ Keeps F w w') : e = r ∧ ∃ F', IsDk F' w' b d2 ∧ Keeps F w w' ∧ ∀ i, F' i → F i ∨ w.heap.size ≤ i := ⟨h.1, F, h.2.1, h.2.2, fun _ hi => Or.inl hi⟩
set_option maxRecDepth 100000 in
/-- the document's disk, cell by cell -/
theorem Two.cells (h : Two X m w b c d d') : ∃ sb sc A k, w.cell? ⟨c, 0, none⟩ = some (.slice (some ⟨sb, 0, none⟩) d'.stays.length sc) ∧ w.cell? ⟨c, 1, none⟩ = some (.slice A d'.L.length k) ∧ w.cell? ⟨c, 3, none⟩ = some (.int .i64 (d'.steps : Int)) ∧ w.cell? ⟨c, 6, none⟩ = some (.bool d'.dead) ∧ c < w.heap.size := by
  obtain ⟨F, G, _, ⟨sb, sc, lv, bv, B, hc⟩, _⟩ := h
  obtain ⟨A, k, rfl⟩ := pair_slice hc.ls
  exact ⟨sb, sc, A, k, hc.cells.1, hc.cells.2.1, hc.cells.2.2.2.1, hc.cells.2.2.2.2.2.2, hc.blk.lt⟩
set_option maxRecDepth 100000 in
theorem Two.len (h : Two X m w b c d d') : d'.L.length ≤ 16384 := by
  obtain ⟨F, G, _, _, _, _, _, _, _, h8⟩ := h
  exact h8.1.len
end
end Go.Proofs.YtajlfmnjibgbaaaGreatDoor.Disk

/- The document's disk: Open. -/
import Derived.Test.YtkghlbpkdkonbaaGreatRdiskF
import Derived.Test.YtkghlbpkdkonbaaGreatLate
namespace Go.Proofs.YtkghlbpkdkonbaaGreat.Disk
open Go Go.RowKit Go.Maps Mem
def chunks (img : ByteArray) (k : Nat) : List Value := (List.range k).map fun i => .string (chunk img i)
set_option maxRecDepth 100000 in
theorem chunks_succ (img : ByteArray) (k : Nat) : chunks img (k + 1) = chunks img k ++ [.string (chunk img k)] := by
  unfold chunks
  rw [List.range_succ, List.map_append]
  rfl
set_option maxRecDepth 100000 in
theorem openD_stays (img : ByteArray) : (openD img).stays.map Value.string = chunks img (img.size / 64) := by
  show (openS img (img.size / 64) (img.size / 64)).map Value.string = _
  unfold openS chunks
  rw [List.map_map]
  refine List.map_congr_left fun i hi => ?_
  have := List.mem_range.1 hi
  simp [this]
set_option maxRecDepth 100000 in
theorem openD_len (img : ByteArray) : (openD img).stays.length = img.size / 64 := openTo_len _ _ _
set_option maxRecDepth 100000 in
set_option maxHeartbeats 8000000 in
theorem ropen_yes (img : ByteArray) (w : World) (hm : img.size % 64 = 0) (h1 : 1 ≤ img.size / 64) (h2 : img.size / 64 ≤ 16384) :
    Calls Tryz.prog 76 #[.string img] w fun e w' => ∃ F b, e = .returned (.tuple #[.pointer (some ⟨b, 0, none⟩), .int .i64 0]) ∧ IsRk F w' b (openD img) ∧ (∀ i, F i → w.heap.size ≤ i) ∧ Below w.heap.size w w' := by
  obtain ⟨n, hn⟩ : ∃ n, n = img.size / 64 := ⟨_, rfl⟩
  have hsz : img.size = 64 * n := by omega
  have e0 : ((img.size : Int) == 0) = false := beq_false_of_ne (by omega)
  have e1 : (img.size : Int).tmod 64 = 0 := by rw [hsz]; simp
  have e2 : ¬ 1048576 < (img.size : Int) := by omega
  have e3 : img.size ≤ 1048576 := by omega
  obtain ⟨P, hP⟩ : ∃ P, P = w.heap.size := ⟨_, rfl⟩
  have hB0 : Blk (w.alloc (.cells #[.slice none 0 0, .slice none 0 0, .slice none 0 0, .int .i64 0, .int .i64 0, .string ⟨#[]⟩, .bool false] 52)) P 52 #[.slice none 0 0, .slice none 0 0, .slice none 0 0, .int .i64 0, .int .i64 0, .string ⟨#[]⟩, .bool false] := by rw [hP]; exact Blk.new w _ _
  have hb0 : Below w.heap.size w (w.alloc (.cells #[.slice none 0 0, .slice none 0 0, .slice none 0 0, .int .i64 0, .int .i64 0, .string ⟨#[]⟩, .bool false] 52)) := (Below.refl _ w).alloc (Nat.le_refl _) _
  have bd : ∀ W, (Instr.build 52 #[]).run Tryz.prog W = .ok (.agg #[.slice none 0 0, .slice none 0 0, .slice none 0 0, .int .i64 0, .int .i64 0, .string ⟨#[]⟩, .bool false]) W := fun W => run_build W _ _ _ (by kernel_rfl)
  have hPw : w.heap.size ≤ P := Nat.le_of_eq hP.symm
  have hlenD := openD_len img
  have hstD := openD_stays img
  rw [← hn] at hlenD hstD h1 h2
  replace hlenD := Lib.hid hlenD
  replace hstD := Lib.hid hstD
  replace hB0 := Lib.hid hB0
  replace hb0 := Lib.hid hb0
  replace hP := Lib.hid hP
  replace hn := Lib.hid hn
  replace hsz := Lib.hid hsz
  clear hm
  obtain ⟨i0, hinf, hz0, hz1, hz2⟩ := info_parts infoS
  go_enter Tryz.func76, Tryz.ntmps76
  go_wp2_with fail
  rw [← hP.out]
  generalize w.alloc (.cells #[.slice none 0 0, .slice none 0 0, .slice none 0 0, .int .i64 0, .int .i64 0, .string ⟨#[]⟩, .bool false] 52) = w0 at hB0 hb0 ⊢
  go_loopw [5] (fun t wr => ∃ (p k : Nat) (A : Option Addr) (c : Nat), k ≤ n ∧ 64 * k = p ∧ t = .int .i64 (p : Int) ∧ Blk wr P 52 #[.slice A k c, .slice none 0 0, .slice none 0 0, .int .i64 0, .int .i64 0, .string ⟨#[]⟩, .bool false] ∧ wr.ownsRow (P + 1) 9 1 (.slice A k c) k (chunks img k) ∧ Below w.heap.size w wr) (fun t _ => 64 * n - (intOf t).toNat)
  case atStart => exact ⟨0, 0, none, 0, Nat.zero_le _, rfl, rfl, hB0.out, ⟨rfl, Or.inl ⟨rfl, rfl⟩⟩, hb0.out⟩
  case round =>
    clear hB0 hb0
    obtain ⟨p, k, A, c, hk, hp, rfl, hB, o, hb⟩ := hrel
    by_cases hlt : k < n
    · have l1 : p < img.size := by have := hsz.out; omega
      have l2 : (p : Int) + 64 ≤ (img.size : Int) := by have := hsz.out; omega
      have l3 : p < 64 * n := by omega
      have s1 : IntKind.i64.wrap ((p : Int) + 64) = (p : Int) + 64 := IntWalk.i64_in _ (by omega)
      have s2 : ((p : Int) + 64).toNat = p + 64 := by omega
      have s3 : (0 : Int) ≤ (p : Int) := by omega
      have s4 : (p : Int) ≤ (p : Int) + 64 := by omega
      have ch : img.extract p (p + 64) = chunk img k := by unfold chunk; rw [show k * 64 = p by omega, show (k + 1) * 64 = p + 64 by omega]
      have hp1 : 64 * (k + 1) = p + 64 := by omega
      have hcs := chunks_succ img k
      obtain ⟨C, hC⟩ : ∃ C, C = chunk img k := ⟨_, rfl⟩
      rw [← hC] at ch hcs
      have q0 : wr.drew.cell? ⟨P, 0, none⟩ = some (.slice A k c) := hB.cell 0
      replace hp := Lib.hid hp
      replace hp1 := Lib.hid hp1
      replace hC := Lib.hid hC
      replace hcs := Lib.hid hcs
      replace hB := Lib.hid hB
      replace o := Lib.hid o
      replace hb := Lib.hid hb
      go_wp2_with fail
      refine Late.start (S := fun _ => True) (T := fun w' => w'.cell? ⟨P, 0, none⟩ = some (.slice A k c)) (late := [14]) (by kernel_rfl) ?_
      have hS : True := trivial
      have hT : wr.drew.cell? ⟨P, 0, none⟩ = some (.slice A k c) := q0
      refine Late.take (i := 0) (oi := ?_) (v := ?_) ?_ (by kernel_rfl) (by kernel_rfl) (by kernel_rfl) (by kernel_rfl) ?_ ?_ (by assumption) (by assumption) ?_
      rotate_left 2
      focus (simp only [List.getElem?_toArray, List.getElem?_cons_zero]; rfl)
      focus exact fun _ _ _ h => h
      focus (refine Or.inl ⟨by rfl, ?_⟩; intro w hSw; (try dsimp only at hSw); go_split_ands; go_simp; try with_reducible rfl)
      try simp only [Act.put, List.setIfInBounds_toArray, List.set_cons_zero, List.set_cons_succ]
      refine Late.take (i := 1) (oi := ?_) (v := ?_) ?_ (by kernel_rfl) (by kernel_rfl) (by kernel_rfl) (by kernel_rfl) ?_ ?_ (by assumption) (by assumption) ?_
      rotate_left 2
      focus (simp only [List.getElem?_toArray, List.getElem?_cons_succ, List.getElem?_cons_zero]; rfl)
      focus exact fun _ _ _ h => h
      focus (refine Or.inl ⟨by rfl, ?_⟩; intro w hSw; (try dsimp only at hSw); go_split_ands; go_simp; try with_reducible rfl)
      try simp only [Act.put, List.setIfInBounds_toArray, List.set_cons_zero, List.set_cons_succ]
      refine Late.take (i := 2) (oi := ?_) (v := ?_) ?_ (by kernel_rfl) (by kernel_rfl) (by kernel_rfl) (by kernel_rfl) ?_ ?_ (by assumption) (by assumption) ?_
      rotate_left 2
      focus (simp only [List.getElem?_toArray, List.getElem?_cons_succ, List.getElem?_cons_zero]; rfl)
      focus exact fun _ _ _ h => h
      focus (refine Or.inl ⟨by rfl, ?_⟩; intro w hSw; (try dsimp only at hSw); go_split_ands; go_simp; try with_reducible rfl)
      try simp only [Act.put, List.setIfInBounds_toArray, List.set_cons_zero, List.set_cons_succ]
      refine Late.take (i := 3) (oi := ?_) (v := ?_) ?_ (by kernel_rfl) (by kernel_rfl) (by kernel_rfl) (by kernel_rfl) ?_ ?_ (by assumption) (by assumption) ?_
      rotate_left 2
      focus (simp only [List.getElem?_toArray, List.getElem?_cons_succ, List.getElem?_cons_zero]; rfl)
      focus exact fun _ _ _ h => h
      focus (refine Or.inl ⟨by rfl, ?_⟩; intro w hSw; (try dsimp only at hSw); go_split_ands; go_simp; try with_reducible rfl)
      try simp only [Act.put, List.setIfInBounds_toArray, List.set_cons_zero, List.set_cons_succ]
      refine Late.takeT (i := 4) (oi := ?_) (v := ?_) ?_ (by kernel_rfl) (by kernel_rfl) (by kernel_rfl) (by kernel_rfl) (by kernel_rfl) (by kernel_rfl) ?_ ?_ (by assumption) (by assumption) ?_
      rotate_left 2
      focus (simp only [List.getElem?_toArray, List.getElem?_cons_succ, List.getElem?_cons_zero]; rfl)
      focus exact fun _ _ _ h => h
      focus (refine Or.inl ⟨by rfl, ?_⟩; intro w hSw; (try dsimp only at hSw); go_split_ands; go_simp; try with_reducible rfl)
      try simp only [Act.put, List.setIfInBounds_toArray, List.set_cons_zero, List.set_cons_succ]
      refine Late.take (i := 5) (oi := ?_) (v := ?_) ?_ (by kernel_rfl) (by kernel_rfl) (by kernel_rfl) (by kernel_rfl) ?_ ?_ (by assumption) (by assumption) ?_
      rotate_left 2
      focus (simp only [List.getElem?_toArray, List.getElem?_cons_succ, List.getElem?_cons_zero]; rfl)
      focus exact fun _ _ _ h => h
      focus (refine Or.inl ⟨by rfl, ?_⟩; intro w hSw; (try dsimp only at hSw); go_split_ands; go_simp; try with_reducible rfl)
      try simp only [Act.put, List.setIfInBounds_toArray, List.set_cons_zero, List.set_cons_succ]
      refine Late.take (i := 6) (oi := ?_) (v := ?_) ?_ (by kernel_rfl) (by kernel_rfl) (by kernel_rfl) (by kernel_rfl) ?_ ?_ (by assumption) (by assumption) ?_
      rotate_left 2
      focus (simp only [List.getElem?_toArray, List.getElem?_cons_succ, List.getElem?_cons_zero]; rfl)
      focus exact fun _ _ _ h => h
      focus (refine Or.inl ⟨by rfl, ?_⟩; intro w hSw; (try dsimp only at hSw); go_split_ands; go_simp; try with_reducible rfl)
      try simp only [Act.put, List.setIfInBounds_toArray, List.set_cons_zero, List.set_cons_succ]
      refine Late.take (i := 7) (oi := ?_) (v := ?_) ?_ (by kernel_rfl) (by kernel_rfl) (by kernel_rfl) (by kernel_rfl) ?_ ?_ (by assumption) (by assumption) ?_
      rotate_left 2
      focus (simp only [List.getElem?_toArray, List.getElem?_cons_succ, List.getElem?_cons_zero]; rfl)
      focus exact fun _ _ _ h => h
      focus (refine Or.inl ⟨by rfl, ?_⟩; intro w hSw; (try dsimp only at hSw); go_split_ands; go_simp; try with_reducible rfl)
      try simp only [Act.put, List.setIfInBounds_toArray, List.set_cons_zero, List.set_cons_succ]
      refine Late.take (i := 8) (oi := ?_) (v := ?_) ?_ (by kernel_rfl) (by kernel_rfl) (by kernel_rfl) (by kernel_rfl) ?_ ?_ (by assumption) (by assumption) ?_
      rotate_left 2
      focus (simp only [List.getElem?_toArray, List.getElem?_cons_succ, List.getElem?_cons_zero]; rfl)
      focus exact fun _ _ _ h => h
      focus (refine Or.inl ⟨by rfl, ?_⟩; intro w hSw; (try dsimp only at hSw); go_split_ands; go_simp; try with_reducible rfl)
      try simp only [Act.put, List.setIfInBounds_toArray, List.set_cons_zero, List.set_cons_succ]
      refine Late.take (i := 9) (oi := ?_) (v := ?_) ?_ (by kernel_rfl) (by kernel_rfl) (by kernel_rfl) (by kernel_rfl) ?_ ?_ (by assumption) (by assumption) ?_
      rotate_left 2
      focus (simp only [List.getElem?_toArray, List.getElem?_cons_succ, List.getElem?_cons_zero]; rfl)
      focus exact fun _ _ _ h => h
      focus (refine Or.inl ⟨by rfl, ?_⟩; intro w hSw; (try dsimp only at hSw); go_split_ands; go_simp; try with_reducible rfl)
      try simp only [Act.put, List.setIfInBounds_toArray, List.set_cons_zero, List.set_cons_succ]
      have oa := o.out.drew.alloc (.cells #[.string C] 9)
      have hBa : Blk (wr.drew.alloc (.cells #[.string C] 9)) P 52 _ := Blk.alloc (w := wr.drew) hB.out (.cells #[.string C] 9)
      have hba := hb.out.drew.alloc (hb.out.drew.size) (.cells #[.string C] 9)
      have hnew := World.news_of_block (Blk.new wr.drew 9 #[.string C])
      have hTa : (wr.drew.alloc (.cells #[.string C] 9)).cell? ⟨P, 0, none⟩ = some (.slice A k c) := hBa.cell 0
      have hPa := hB.out.lt
      replace oa := Lib.hid oa
      replace hBa := Lib.hid hBa
      replace hba := Lib.hid hba
      replace hnew := Lib.hid hnew
      refine Late.only (i := 10) (o := ?_) (by kernel_rfl) ?_ (fun K hK => ?_)
      rotate_left 1
      focus (simp only [List.getElem?_toArray, List.getElem?_cons_succ, List.getElem?_cons_zero]; rfl)
      go_simp
      refine hK.out _ _ trivial (fun _ => hTa) ?_
      clear hK K
      try simp only [Act.put, List.setIfInBounds_toArray, List.set_cons_zero, List.set_cons_succ]
      refine Late.only (i := 11) (o := ?_) (by kernel_rfl) ?_ (fun K hK => ?_)
      rotate_left 1
      focus (simp only [List.getElem?_toArray, List.getElem?_cons_succ, List.getElem?_cons_zero]; rfl)
      rw [if_pos (by kernel_rfl)]
      refine wp_append_lies _ (.tmp 32) (.tmp 38) 48 rfl (P + 1) 9 i0 (.string ⟨#[]⟩) 1 16 Tryz.underlying48 hinf hz0 hz1 hz2 rfl (by decide) (.slice A k c) k (chunks img k) rfl oa.out ⟨wr.drew.heap.size, 0, none⟩ 1 1 [.string C] rfl rfl hnew.out (by simp [Value.oneCell']) (by omega) (by unfold maxLen; omega) (by omega) (by simp; omega) (wr.heap.size + 1) (by simp) ?_
      intro g cap W2 o2 hg2 hor hgl
      have hB2 := hBa.out.grown hg2 (fun e => by have := (oa.out.lt P e.symm).1; omega)
      have hb2 := hba.out.grown hg2 hba.out.size (fun j e => by have := (oa.out.lt j e).1; omega)
      rw [← hcs.out] at o2
      have hT2 : W2.cell? ⟨P, 0, none⟩ = some (.slice A k c) := hB2.cell 0
      have f2 := hB2.free 0
      have hB3 : Blk (W2.setCell ⟨P, 0, none⟩ (.slice (some ⟨g, 0, none⟩) (k + 1) cap)) P 52 #[.slice (some ⟨g, 0, none⟩) (k + 1) cap, .slice none 0 0, .slice none 0 0, .int .i64 0, .int .i64 0, .string ⟨#[]⟩, .bool false] := hB2.put 0 _
      have hb3 := hb2.setCell (p := ⟨P, 0, none⟩) hPw (.slice (some ⟨g, 0, none⟩) (k + 1) cap)
      have o3 := own_far (i := 0) (u := .slice (some ⟨g, 0, none⟩) (k + 1) cap) o2 (P := P) (fun j e => by have := (o2.lt j e).1; omega)
      replace hB3 := Lib.hid hB3
      replace hb3 := Lib.hid hb3
      replace o3 := Lib.hid o3
      clear o2 hg2 hor hgl hB2 hb2 oa hBa hba hnew
      refine hK.out _ _ trivial (fun _ => hT2) ?_
      clear hK K
      try simp only [Act.put, List.setIfInBounds_toArray, List.set_cons_zero, List.set_cons_succ]
      refine Late.only (i := 12) (o := ?_) (by kernel_rfl) ?_ (fun K hK => ?_)
      rotate_left 1
      focus (simp only [List.getElem?_toArray, List.getElem?_cons_succ, List.getElem?_cons_zero]; rfl)
      go_simp
      refine hK.out _ _ trivial (fun _ => hT2) ?_
      clear hK K
      try simp only [Act.put, List.setIfInBounds_toArray, List.set_cons_zero, List.set_cons_succ]
      refine Late.only (i := 13) (o := ?_) (by kernel_rfl) ?_ (fun K hK => ?_)
      rotate_left 1
      focus (simp only [List.getElem?_toArray, List.getElem?_cons_succ, List.getElem?_cons_zero]; rfl)
      go_simp
      refine hK.out _ _ trivial (fun _ => hT2) ?_
      clear hK K
      try simp only [Act.put, List.setIfInBounds_toArray, List.set_cons_zero, List.set_cons_succ]
      refine Late.only (i := 14) (o := ?_) (by kernel_rfl) ?_ (fun K hK => ?_)
      rotate_left 1
      focus (simp only [List.getElem?_toArray, List.getElem?_cons_succ, List.getElem?_cons_zero]; rfl)
      go_simp
      refine hK.out _ _ trivial (Late.gone (by kernel_rfl)) ?_
      clear hK K
      try simp only [Act.put, List.setIfInBounds_toArray, List.set_cons_zero, List.set_cons_succ]
      refine Late.done (by kernel_rfl) ?_ _
      clear hT hT2 hTa q0 f2 ch s1 s2 s3 s4 l1 l2
      go_wp2_with fail
      exact ⟨⟨p + 64, k + 1, some ⟨g, 0, none⟩, cap, hlt, hp1.out, rfl, hB3.out, o3.out, hb3.out⟩, by simp [intOf]; omega⟩
    · obtain rfl : k = n := by omega
      have hl : img.size ≤ p := by have := hsz.out; omega
      have fin : IsRk (fun i => w.heap.size ≤ i ∧ i < wr.heap.size) wr P (openD img) := by
        obtain ⟨g, cap, hv, hgP, hgl⟩ := o.form (by omega)
        injection hv with hv _ hv2
        subst hv hv2
        have hPl := hB.lt
        refine ⟨g, c, .slice none 0 0, .slice none 0 0, [], ?_, ?_, ⟨rfl, Or.inl ⟨rfl, rfl⟩⟩, ⟨rfl, Or.inl ⟨rfl, rfl⟩⟩, fun k => ⟨(fun h => by cases h), (fun h => by cases h)⟩, Nat.zero_le _, ⟨hPw, hPl⟩, ⟨by omega, hgl⟩, (fun j e => by cases e), (fun j e => by cases e), fun i hi => hi.2⟩
        · have e : rkc g c (.slice none 0 0) (.slice none 0 0) (openD img) = #[.slice (some ⟨g, 0, none⟩) k c, .slice none 0 0, .slice none 0 0, .int .i64 0, .int .i64 0, .string ⟨#[]⟩, .bool false] := by
            unfold rkc
            rw [hlenD.out]
            rfl
          rw [e]
          exact hB
        · rw [hlenD.out, hstD.out]
          exact own_base o (Nat.zero_le _)
      replace fin := Lib.hid fin
      clear hB o
      replace hb := Lib.hid hb
      go_wp2_with fail
      go_ret2
      exact ⟨_, P, rfl, fin.out, fun i hi => hi.1, hb.out⟩
set_option maxRecDepth 100000 in
set_option maxHeartbeats 4000000 in
theorem ropen_no (img : ByteArray) (w : World) (hs : img.size ≤ 9223372036854775807) (h : openOk img = false) :
    Calls Tryz.prog 76 #[.string img] w fun e w' => e = .returned (.tuple #[.pointer none, .int .i64 60]) ∧ w' = w := by
  by_cases hz : img.size = 0
  · have e0 : ((img.size : Int) == 0) = true := by rw [hz]; rfl
    clear h hz
    go_enter Tryz.func76, Tryz.ntmps76
    go_wp2_with fail
    go_ret2
    exact ⟨rfl, rfl⟩
  · have e0 : ((img.size : Int) == 0) = false := beq_false_of_ne (by omega)
    by_cases hm : img.size % 64 = 0
    · have e1 : (img.size : Int).tmod 64 = 0 := by
        obtain ⟨n, hn⟩ : ∃ n, img.size = 64 * n := ⟨img.size / 64, by omega⟩
        rw [hn]; simp
      have e2 : 1048576 < (img.size : Int) := by
        refine Int.lt_of_not_ge fun hle => ?_
        unfold openOk at h
        simp [hm, show 1 ≤ img.size / 64 by omega, show img.size / 64 ≤ 16384 by omega] at h
      clear h hz hm
      go_enter Tryz.func76, Tryz.ntmps76
      go_wp2_with fail
      go_ret2
      exact ⟨rfl, rfl⟩
    · have e1 : ((img.size : Int) % 64 != 0) = true := by simp; omega
      clear h hz hm
      go_enter Tryz.func76, Tryz.ntmps76
      go_wp2_with fail
      go_ret2
      exact ⟨rfl, rfl⟩
end Go.Proofs.YtkghlbpkdkonbaaGreat.Disk

/- The document's volume: in, Commit. -/
import Derived.Test.YtajlfmnjibgbaaaGreatDoorBlkRb
import Derived.BigQuiet
import Derived.Test.YtajlfmnjibgbaaaGreatDoorAppRowZ
import Derived.Test.YtajlfmnjibgbaaaGreatDoorRowz
import Derived.Deep.DeepCutAuto
import Derived.BigRegion
namespace Go.Proofs.YtajlfmnjibgbaaaGreatDoor.Vl
open Go Go.RowKit Go.Maps Mem Disk Nv
section
variable {F G K : Nat → Prop} {w w' : World} {a b k m : Nat} {lv : Value} {v v' : Vo} {d d' : Dk}
set_option maxRecDepth 100000 in
set_option maxHeartbeats 4000000 in
theorem rvin_any (h : RVC F G w a b k lv v d) (hf : Fit d) (n : Int) : Calls Tryz.prog 44 #[.pointer (some ⟨a, 0, none⟩), .int .i64 n] w fun e w' => e = .returned (.bool (decide (mayV d n))) ∧ w' = w := by
  obtain ⟨c0, _⟩ := h.cells
  obtain ⟨sb, sc, s0⟩ := rk_cell0 h.dk
  obtain ⟨N, hN⟩ : ∃ N, N = blocksD d := ⟨_, rfl⟩
  have q4 : (d.stays.length : Int) / 4 = (N : Int) := by rw [hN]; unfold blocksD; omega
  obtain ⟨Y, hY⟩ : ∃ Y, Y = decide (mayV d n) := ⟨_, rfl⟩
  rw [← hY]
  have hN9 : N ≤ 16384 := by rw [hN]; unfold blocksD; have := hf.few; omega
  generalize d.stays.length = M at s0 q4
  by_cases h1 : 1 ≤ n
  · have q1 : decide (1 ≤ n) = true := decide_eq_true h1
    by_cases h2 : n < (N : Int)
    · have q2 : decide (n < (N : Int)) = true := decide_eq_true h2
      have e : Y = true := by rw [hY]; exact decide_eq_true ⟨h1, by rw [← hN]; exact h2⟩
      replace e := Lib.hid e
      clear hY hN h hf
      go_enter Tryz.func44, Tryz.ntmps44
      go_wp2_with fail
      go_ret
      exact ⟨by rw [e.out]; rfl, rfl⟩
    · have q2 : decide (n < (N : Int)) = false := decide_eq_false h2
      have e : Y = false := by rw [hY]; exact decide_eq_false (fun hh => h2 (by rw [hN]; exact hh.2))
      replace e := Lib.hid e
      clear hY hN h hf
      go_enter Tryz.func44, Tryz.ntmps44
      go_wp2_with fail
      go_ret
      exact ⟨by rw [e.out]; rfl, rfl⟩
  · have q1 : decide (1 ≤ n) = false := decide_eq_false h1
    have e : Y = false := by rw [hY]; exact decide_eq_false (fun hh => h1 hh.1)
    replace e := Lib.hid e
    clear hY hN h hf
    go_enter Tryz.func44, Tryz.ntmps44
    go_wp2_with fail
    go_ret
    exact ⟨by rw [e.out]; rfl, rfl⟩
end
end Go.Proofs.YtajlfmnjibgbaaaGreatDoor.Vl
/- The document's cache: where a key stands; all but one. -/
namespace Go.Proofs.YtajlfmnjibgbaaaGreatDoor.Vl
open Go Go.RowKit Go.Maps Mem Disk Nv
/-- the document's cache at k -/
structure RC (w : World) (k : Nat) (lv : Value) (L : List (Nat × ByteArray)) : Prop where
  ck : Blk w k 145 #[.int .i64 32, lv]
  row : w.ownsRow 0 147 2 lv L.length (pairs L)
def AtPost (L : List (Nat × ByteArray)) (n : Nat) (r : Int) : Prop :=
  (find L n = none ∧ r = -1) ∨ ∃ A s B, L = A ++ (n, s) :: B ∧ (∀ p ∈ A, p.1 ≠ n) ∧ r = (A.length : Int)
set_option maxRecDepth 100000 in
theorem take_ne {L : List (Nat × ByteArray)} {n i : Nat} {p : Nat × ByteArray} (h : ∀ q ∈ L.take i, q.1 ≠ n) (hp : L[i]? = some p) (hn : p.1 ≠ n) : ∀ q ∈ L.take (i + 1), q.1 ≠ n := fun q hq => by
  rw [take_succ_of hp] at hq
  rcases List.mem_append.1 hq with h1 | h1
  · exact h q h1
  · rw [List.mem_singleton.1 h1]; exact hn
set_option maxRecDepth 100000 in
theorem split_at {L : List (Nat × ByteArray)} {i : Nat} {p : Nat × ByteArray} (hp : L[i]? = some p) : L = L.take i ++ p :: L.drop (i + 1) ∧ (L.take i).length = i := by
  obtain ⟨hi, rfl⟩ := List.getElem?_eq_some_iff.1 hp
  refine ⟨?_, by rw [List.length_take]; omega⟩
  rw [← List.drop_eq_getElem_cons hi, List.take_append_drop]
set_option maxRecDepth 100000 in
theorem wrap_one {M : Nat} (h : M ≤ 1000000) : IntKind.i64.wrap ((M : Int) + 1) = ((M + 1 : Nat) : Int) := by
  rw [IntKind.wrap_i64]
  omega
set_option maxRecDepth 100000 in
theorem blk_ne_ {W : World} {base g n c k : Nat} {e t : TypeId} {sz : Nat} {xs : List Value} {cs : Array Value} (h : W.ownsRow base e sz (.slice (some ⟨g, 0, none⟩) n c) n xs) (hk : Blk W k t cs) (hn : e ≠ t := by decide) : g ≠ k := own_ne h hk hn g rfl
section
variable {w w' : World} {k m : Nat} {lv : Value} {L : List (Nat × ByteArray)}
set_option maxRecDepth 100000 in
set_option maxHeartbeats 8000000 in
theorem rcat_any (h : RC w k lv L) (n : Nat) (hl : L.length ≤ 1000) : Calls Tryz.prog 78 #[.pointer (some ⟨k, 0, none⟩), .int .i64 (n : Int)] w fun e w' => ∃ r, e = .returned (.int .i64 r) ∧ AtPost L n r ∧ w' = w := by
  obtain ⟨A, c, rfl⟩ := pair_slice h.row
  have c1 : w.cell? ⟨k, 1, none⟩ = some (.slice A L.length c) := h.ck.cell 1
  have hls := Lib.hid h.row
  clear h
  obtain ⟨M, hM⟩ : ∃ M, M = L.length := ⟨_, rfl⟩
  rw [← hM] at c1 hl
  replace hM := Lib.hid hM
  go_enter Tryz.func78, Tryz.ntmps78
  go_wp2_with fail
  go_loop [5] (fun t => ∃ i : Nat, i ≤ M ∧ t = .int .i64 (i : Int) ∧ ∀ q ∈ L.take i, q.1 ≠ n) (fun t => M - (intOf t).toNat)
  case atStart => exact ⟨0, Nat.zero_le _, rfl, fun q hq => by cases hq⟩
  case round =>
    obtain ⟨i, hi, rfl, hno⟩ := hrel
    replace hno := Lib.hid hno
    by_cases hlti : i < M
    · obtain ⟨p, hp⟩ : ∃ p, L[i]? = some p := ⟨_, List.getElem?_eq_getElem (by have := hM.out; omega)⟩
      obtain ⟨g, cap, hv, _⟩ := hls.out.form (by have := hM.out; omega)
      injection hv with hv _ _
      subst hv
      have l1 := hls.out.cells (g := g) rfl _ _ (pairs_at hp).1
      rw [add_lit, Nat.zero_add] at l1
      have z1 : (i : Int) < (M : Int) := by omega
      by_cases hpk : p.1 = n
      · have fin := Lib.hid (show AtPost L n (i : Int) from Or.inr ⟨L.take i, p.2, L.drop (i + 1), by rw [← hpk]; exact (split_at hp).1, hno.out, by rw [(split_at hp).2]⟩)
        rw [hpk] at l1
        clear hp
        go_wp2_with fail
        go_ret
        exact ⟨_, rfl, fin.out, rfl⟩
      · have q1 : ((p.1 : Int) == (n : Int)) = false := by simp; omega
        have hno2 := Lib.hid (take_ne hno.out hp hpk)
        clear hp hpk
        go_wp2_with fail
        exact ⟨⟨i + 1, hlti, rfl, hno2.out⟩, by simp [intOf]; omega⟩
    · obtain rfl : i = M := by omega
      have fin := Lib.hid (show AtPost L n (-1) from Or.inl ⟨by
        cases hf : find L n with
        | none => rfl
        | some t =>
          have h1 := hno.out (n, t) (by rw [hM.out, List.take_length]; exact find_some hf)
          exact absurd rfl h1, rfl⟩)
      go_wp2_with fail
      go_ret
      exact ⟨_, rfl, fin.out, rfl⟩
set_option maxRecDepth 100000 in
theorem pairs_app (A B : List (Nat × ByteArray)) : pairs (A ++ B) = pairs A ++ pairs B := by simp [pairs]
set_option maxRecDepth 100000 in
theorem infoTh : (Tryz.prog.info? 147).map (fun i => (i.zero, i.size, i.bytes)) = some (some (.agg #[.int .i64 0, .string ⟨#[]⟩]), 2, 24) := by kernel_rfl
set_option maxRecDepth 100000 in
/-- a part of a row -/
theorem part_rows {W : World} {base g n c : Nat} {e : TypeId} {A B : List (Nat × ByteArray)} {x : Nat × ByteArray} (h : W.ownsRow base e 2 (.slice (some ⟨g, 0, none⟩) n c) n (pairs (A ++ x :: B))) :
    RowZ W (some ⟨g, 0, none⟩) 2 A.length (pairs A) ∧ RowZ W (some ⟨g, (A.length + 1) * 2, none⟩) 2 B.length (pairs B) := by
  have hc := fun j u (hu : (pairs (A ++ x :: B))[j]? = some u) => h.cells (g := g) rfl j u hu
  refine ⟨⟨pairs_length A, fun j u hu => ⟨_, rfl, hc j u ?_⟩⟩, ⟨pairs_length B, fun j u hu => ⟨_, rfl, ?_⟩⟩⟩
  · rw [pairs_app, List.getElem?_append_left (List.getElem?_eq_some_iff.1 hu).1]
    exact hu
  · have h2 := hc ((A.length + 1) * 2 + j) u (by
      rw [show A ++ x :: B = (A ++ [x]) ++ B by simp, pairs_app, List.getElem?_append_right (by rw [pairs_length, List.length_append, List.length_singleton]; omega), pairs_length, List.length_append, List.length_singleton, show (A.length + 1) * 2 + j - (A.length + 1) * 2 = j by omega]
      exact hu)
    rw [add_lit, Nat.zero_add] at h2
    rw [add_lit]
    exact h2
set_option maxRecDepth 100000 in
set_option maxHeartbeats 16000000 in
theorem rcwithout_any {A B : List (Nat × ByteArray)} {x : Nat × ByteArray} (h : RC w k lv (A ++ x :: B)) (hl : (A ++ x :: B).length ≤ 1000) : Calls Tryz.prog 79 #[.pointer (some ⟨k, 0, none⟩), .int .i64 (A.length : Int)] w fun e w' => ∃ v, e = .returned v ∧ w'.ownsRow w.heap.size 147 2 v (A ++ B).length (pairs (A ++ B)) ∧ Below w.heap.size w w' := by
  obtain ⟨g, cap, hv, hcap⟩ : ∃ g cap, lv = .slice (some ⟨g, 0, none⟩) (A ++ x :: B).length cap ∧ (A ++ x :: B).length ≤ cap := by
    rcases h.row.2 with ⟨_, h2⟩ | ⟨g, cap, cur, hv, hb, hg, hnc, _⟩
    · simp at h2
    · exact ⟨g, cap, hv, hnc⟩
  subst hv
  obtain ⟨M, hM⟩ : ∃ M, M = A.length := ⟨_, rfl⟩
  obtain ⟨N, hN⟩ : ∃ N, N = B.length := ⟨_, rfl⟩
  have hlen : (A ++ x :: B).length = M + (N + 1) := by rw [hM, hN]; simp
  have hlen2 : (A ++ B).length = M + N := by rw [hM, hN]; simp
  have hck := h.ck
  have hls := h.row
  rw [hlen] at hck hls hcap hl
  rw [hlen2]
  have c1 : w.cell? ⟨k, 1, none⟩ = some (.slice (some ⟨g, 0, none⟩) (M + (N + 1)) cap) := hck.cell 1
  have hgk : g ≠ k := blk_ne_ hls hck
  obtain ⟨i0, hinf, hz0, hz1, hz2⟩ := info_parts infoTh
  have z0 : (0 : Int) ≤ (M : Int) := by omega
  have z1 : (M : Int) ≤ ((M + (N + 1) : Nat) : Int) := by omega
  have hW : IntKind.i64.wrap ((M : Int) + 1) = ((M + 1 : Nat) : Int) := wrap_one (by omega)
  have z2 : (1 : Int) ≤ (N : Int) + 1 := by omega
  have z4 : (0 : Int) ≤ (M : Int) + 1 := by omega
  have z3 : (M : Int) ≤ (cap : Int) := by omega
  rw [← hM]
  replace hM := Lib.hid hM
  replace hN := Lib.hid hN
  replace hls := Lib.hid hls
  clear h hlen hlen2
  go_enter Tryz.func79, Tryz.ntmps79
  go_upto_region 1 with fail
  go_cut [4] (fun v wx => wx.ownsRow w.heap.size 147 2 v (M + N) (pairs (A ++ B)) ∧ Below w.heap.size w wx)
  case first =>
    refine Late.start (S := fun W' => W'.cell? ⟨k, 1, none⟩ = some (.slice (some ⟨g, 0, none⟩) (M + (N + 1)) cap)) (T := fun _ => True) (late := []) (by kernel_rfl) ?_
    have hT : True := trivial
    have bb0 : Below w.heap.size w w.drew := (Below.refl _ w).drew
    have hS : w.drew.cell? ⟨k, 1, none⟩ = some (.slice (some ⟨g, 0, none⟩) (M + (N + 1)) cap) := c1
    generalize w.drew = V0 at bb0 hS ⊢
    refine Late.take (i := 1) (oi := ?_) (v := ?_) ?_ (by kernel_rfl) (by kernel_rfl) (by kernel_rfl) (by kernel_rfl) ?_ ?_ (by assumption) (by assumption) ?_
    rotate_left 2
    focus (simp only [List.getElem?_toArray, List.getElem?_cons_succ, List.getElem?_cons_zero]; rfl)
    focus exact fun _ _ _ h => h
    focus (refine Or.inl ⟨by kernel_rfl, ?_⟩; intro w hSw; clear hSw; go_simp; try with_reducible rfl)
    try simp only [Act.put, List.setIfInBounds_toArray, List.set_cons_zero, List.set_cons_succ]
    refine Late.take (i := 2) (oi := ?_) (v := ?_) ?_ (by kernel_rfl) (by kernel_rfl) (by kernel_rfl) (by kernel_rfl) ?_ ?_ (by assumption) (by assumption) ?_
    rotate_left 2
    focus (simp only [List.getElem?_toArray, List.getElem?_cons_succ, List.getElem?_cons_zero]; rfl)
    focus exact fun _ _ _ h => h
    focus (refine Or.inl ⟨by kernel_rfl, ?_⟩; intro w hSw; clear hSw; go_simp; try with_reducible rfl)
    try simp only [Act.put, List.setIfInBounds_toArray, List.set_cons_zero, List.set_cons_succ]
    refine Late.take (i := 3) (oi := ?_) (v := ?_) ?_ (by kernel_rfl) (by kernel_rfl) (by kernel_rfl) (by kernel_rfl) ?_ ?_ (by assumption) (by assumption) ?_
    rotate_left 2
    focus (simp only [List.getElem?_toArray, List.getElem?_cons_succ, List.getElem?_cons_zero]; rfl)
    focus exact fun _ _ _ h => h
    focus (refine Or.inl ⟨by kernel_rfl, ?_⟩; intro w hSw; clear hSw; go_simp; try with_reducible rfl)
    try simp only [Act.put, List.setIfInBounds_toArray, List.set_cons_zero, List.set_cons_succ]
    refine Late.take (i := 4) (oi := ?_) (v := ?_) ?_ (by kernel_rfl) (by kernel_rfl) (by kernel_rfl) (by kernel_rfl) ?_ ?_ (by assumption) (by assumption) ?_
    rotate_left 2
    focus (simp only [List.getElem?_toArray, List.getElem?_cons_succ, List.getElem?_cons_zero]; rfl)
    focus exact fun _ _ _ h => h
    focus (refine Or.inl ⟨by rfl, ?_⟩; intro w hSw; (try dsimp only at hSw); go_split_ands; go_simp; try with_reducible rfl)
    try simp only [Act.put, List.setIfInBounds_toArray, List.set_cons_zero, List.set_cons_succ]
    refine Late.take (i := 5) (oi := ?_) (v := ?_) ?_ (by kernel_rfl) (by kernel_rfl) (by kernel_rfl) (by kernel_rfl) ?_ ?_ (by assumption) (by assumption) ?_
    rotate_left 2
    focus (simp only [List.getElem?_toArray, List.getElem?_cons_succ, List.getElem?_cons_zero]; rfl)
    focus exact fun _ _ _ h => h
    focus (refine Or.inl ⟨by kernel_rfl, ?_⟩; intro w hSw; clear hSw; go_simp; try with_reducible rfl)
    try simp only [Act.put, List.setIfInBounds_toArray, List.set_cons_zero, List.set_cons_succ]
    refine Late.take (i := 6) (oi := ?_) (v := ?_) ?_ (by kernel_rfl) (by kernel_rfl) (by kernel_rfl) (by kernel_rfl) ?_ ?_ (by assumption) (by assumption) ?_
    rotate_left 2
    focus (simp only [List.getElem?_toArray, List.getElem?_cons_succ, List.getElem?_cons_zero]; rfl)
    focus exact fun _ _ _ h => h
    focus (refine Or.inl ⟨by kernel_rfl, ?_⟩; intro w hSw; clear hSw; go_simp; try with_reducible rfl)
    try simp only [Act.put, List.setIfInBounds_toArray, List.set_cons_zero, List.set_cons_succ]
    refine Late.take (i := 8) (oi := ?_) (v := ?_) ?_ (by kernel_rfl) (by kernel_rfl) (by kernel_rfl) (by kernel_rfl) ?_ ?_ (by assumption) (by assumption) ?_
    rotate_left 2
    focus (simp only [List.getElem?_toArray, List.getElem?_cons_succ, List.getElem?_cons_zero]; rfl)
    focus exact fun _ _ _ h => h
    focus (refine Or.inl ⟨by kernel_rfl, ?_⟩; intro w hSw; clear hSw; go_simp; try with_reducible rfl)
    try simp only [Act.put, List.setIfInBounds_toArray, List.set_cons_zero, List.set_cons_succ]
    refine Late.take (i := 9) (oi := ?_) (v := ?_) ?_ (by kernel_rfl) (by kernel_rfl) (by kernel_rfl) (by kernel_rfl) ?_ ?_ (by assumption) (by assumption) ?_
    rotate_left 2
    focus (simp only [List.getElem?_toArray, List.getElem?_cons_succ, List.getElem?_cons_zero]; rfl)
    focus exact fun _ _ _ h => h
    focus (refine Or.inl ⟨by kernel_rfl, ?_⟩; intro w hSw; clear hSw; go_simp; try with_reducible rfl)
    try simp only [Act.put, List.setIfInBounds_toArray, List.set_cons_zero, List.set_cons_succ]
    refine Late.take (i := 10) (oi := ?_) (v := ?_) ?_ (by kernel_rfl) (by kernel_rfl) (by kernel_rfl) (by kernel_rfl) ?_ ?_ (by assumption) (by assumption) ?_
    rotate_left 2
    focus (simp only [List.getElem?_toArray, List.getElem?_cons_succ, List.getElem?_cons_zero]; rfl)
    focus exact fun _ _ _ h => h
    focus (refine Or.inl ⟨by kernel_rfl, ?_⟩; intro w hSw; clear hSw; go_simp; try with_reducible rfl)
    try simp only [Act.put, List.setIfInBounds_toArray, List.set_cons_zero, List.set_cons_succ]
    refine Late.take (i := 11) (oi := ?_) (v := ?_) ?_ (by kernel_rfl) (by kernel_rfl) (by kernel_rfl) (by kernel_rfl) ?_ ?_ (by assumption) (by assumption) ?_
    rotate_left 2
    focus (simp only [List.getElem?_toArray, List.getElem?_cons_succ, List.getElem?_cons_zero]; rfl)
    focus exact fun _ _ _ h => h
    focus (refine Or.inl ⟨by rfl, ?_⟩; intro w hSw; (try dsimp only at hSw); go_split_ands; go_simp; try with_reducible rfl)
    try simp only [Act.put, List.setIfInBounds_toArray, List.set_cons_zero, List.set_cons_succ]
    refine Late.take (i := 12) (oi := ?_) (v := ?_) ?_ (by kernel_rfl) (by kernel_rfl) (by kernel_rfl) (by kernel_rfl) ?_ ?_ (by assumption) (by assumption) ?_
    rotate_left 2
    focus (simp only [List.getElem?_toArray, List.getElem?_cons_succ, List.getElem?_cons_zero]; rfl)
    focus exact fun _ _ _ h => h
    focus (refine Or.inl ⟨by kernel_rfl, ?_⟩; intro w hSw; clear hSw; go_simp; try with_reducible rfl)
    try simp only [Act.put, List.setIfInBounds_toArray, List.set_cons_zero, List.set_cons_succ]
    refine Late.take (i := 13) (oi := ?_) (v := ?_) ?_ (by kernel_rfl) (by kernel_rfl) (by kernel_rfl) (by kernel_rfl) ?_ ?_ (by assumption) (by assumption) ?_
    rotate_left 2
    focus (simp only [List.getElem?_toArray, List.getElem?_cons_succ, List.getElem?_cons_zero]; rfl)
    focus exact fun _ _ _ h => h
    focus (refine Or.inl ⟨by kernel_rfl, ?_⟩; intro w hSw; clear hSw; go_simp; try with_reducible rfl)
    try simp only [Act.put, List.setIfInBounds_toArray, List.set_cons_zero, List.set_cons_succ]
    refine Late.take (i := 14) (oi := ?_) (v := ?_) ?_ (by kernel_rfl) (by kernel_rfl) (by kernel_rfl) (by kernel_rfl) ?_ ?_ (by assumption) (by assumption) ?_
    rotate_left 2
    focus (simp only [List.getElem?_toArray, List.getElem?_cons_succ, List.getElem?_cons_zero]; rfl)
    focus exact fun _ _ _ h => h
    focus (refine Or.inl ⟨by kernel_rfl, ?_⟩; intro w hSw; clear hSw; go_simp; try with_reducible rfl)
    try simp only [Act.put, List.setIfInBounds_toArray, List.set_cons_zero, List.set_cons_succ]
    have hckV : Blk V0 k 145 #[.int .i64 32, .slice (some ⟨g, 0, none⟩) (M + (N + 1)) cap] := hck.below bb0 hck.lt
    have lsV := own_keeps hls.out (Keeps.of_below (fun _ => False) bb0) (fun _ _ h => h)
    refine Late.only (i := 0) (o := ?_) (by kernel_rfl) ?_ (fun K hK => ?_)
    rotate_left 1
    focus (simp only [List.getElem?_toArray, List.getElem?_cons_zero]; rfl)
    go_simp
    have bba := bb0.alloc bb0.size (.cells #[] 147)
    have o1a : (V0.alloc (.cells #[] 147)).ownsRow w.heap.size 147 2 (.slice (some ⟨V0.heap.size, 0, none⟩) 0 0) 0 [] := World.ownsRow_made V0 #[] 0 bb0.size (by decide) rfl
    have hcka := hckV.alloc (.cells #[] 147)
    have lsa := lsV.alloc (.cells #[] 147)
    have hSa : (V0.alloc (.cells #[] 147)).cell? ⟨k, 1, none⟩ = some (.slice (some ⟨g, 0, none⟩) (M + (N + 1)) cap) := hcka.cell 1
    refine hK.out _ _ hSa (fun _ => trivial) ?_
    clear hK K
    try simp only [Act.put, List.setIfInBounds_toArray, List.set_cons_zero, List.set_cons_succ]
    generalize V0.alloc (.cells #[] 147) = Va at o1a bba hcka lsa hSa ⊢
    obtain ⟨rA, _⟩ := part_rows lsa
    refine Late.only (i := 7) (o := ?_) (by kernel_rfl) ?_ (fun K hK => ?_)
    rotate_left 1
    focus (simp only [List.getElem?_toArray, List.getElem?_cons_succ, List.getElem?_cons_zero]; rfl)
    rw [if_pos (by kernel_rfl)]
    rw [← hM.out] at rA
    refine wp_append_rowz (P := Tryz.prog) (w := Va) (.tmp 5) (.tmp 11) 142 rfl w.heap.size 147 i0 (.agg #[.int .i64 0, .string ⟨#[]⟩]) 2 24 Tryz.underlying142 hinf hz0 hz1 hz2 rfl (by decide) (.slice (some ⟨V0.heap.size, 0, none⟩) 0 0) 0 [] rfl o1a (some ⟨g, 0, none⟩) M cap (pairs A) rfl rA (pairs_one _) (by unfold maxLen; omega) (by omega) bba.size ?_
    intro v2 Vb o2 g2 _
    simp only [Nat.zero_add, List.nil_append] at o2 ⊢
    have bbb := bba.grown g2 bba.size (fun j e => (o1a.lt j e).1)
    have hckb := hcka.grown g2 (fun e => by have := (o1a.lt k e.symm).1; have := hck.lt; omega)
    have lsb := own_keeps hls.out (Keeps.of_below (fun _ => False) bbb) (fun _ _ h => h)
    have hSb : Vb.cell? ⟨k, 1, none⟩ = some (.slice (some ⟨g, 0, none⟩) (M + (N + 1)) cap) := hckb.cell 1
    refine hK.out _ _ hSb (fun _ => trivial) ?_
    clear hK K
    try simp only [Act.put, List.setIfInBounds_toArray, List.set_cons_zero, List.set_cons_succ]
    obtain ⟨_, rB⟩ := part_rows lsb
    rw [← hM.out, ← hN.out] at rB
    have rB' : RowZ Vb (if cap = M + 1 then some ⟨g, 0, none⟩ else some ⟨g, (M + 1) * 2, none⟩) 2 (M + (N + 1) - (M + 1)) (pairs B) := by
      rw [show M + (N + 1) - (M + 1) = N by omega]
      by_cases hc : cap = M + 1
      · obtain rfl : N = 0 := by omega
        refine ⟨rB.1, fun j u hu => ?_⟩
        have h1 := (List.getElem?_eq_some_iff.1 hu).1
        rw [rB.1] at h1
        omega
      · rw [if_neg hc]
        exact rB
    refine Late.only (i := 15) (o := ?_) (by kernel_rfl) ?_ (fun K hK => ?_)
    rotate_left 1
    focus (simp only [List.getElem?_toArray, List.getElem?_cons_succ, List.getElem?_cons_zero]; rfl)
    rw [if_pos (by kernel_rfl)]
    refine wp_append_rowz (P := Tryz.prog) (w := Vb) (.tmp 12) (.tmp 19) 142 rfl w.heap.size 147 i0 (.agg #[.int .i64 0, .string ⟨#[]⟩]) 2 24 Tryz.underlying142 hinf hz0 hz1 hz2 rfl (by decide) v2 M (pairs A) rfl o2 _ _ (cap - (M + 1)) (pairs B) rfl rB' (pairs_one _) (by unfold maxLen; omega) (by omega) bbb.size ?_
    intro v3 Vc o3 g3 _
    rw [show M + (M + (N + 1) - (M + 1)) = M + N by omega, ← pairs_app] at o3
    have bbc := bbb.grown g3 bbb.size (fun j e => (o2.lt j e).1)
    have hckc := hckb.grown g3 (fun e => by have := (o2.lt k e.symm).1; have := hck.lt; omega)
    have hSc : Vc.cell? ⟨k, 1, none⟩ = some (.slice (some ⟨g, 0, none⟩) (M + (N + 1)) cap) := hckc.cell 1
    refine hK.out _ _ hSc (fun _ => trivial) ?_
    clear hK K
    try simp only [Act.put, List.setIfInBounds_toArray, List.set_cons_zero, List.set_cons_succ]
    have hS := hSc
    refine Late.take (i := 16) (oi := ?_) (v := ?_) ?_ (by kernel_rfl) (by kernel_rfl) (by kernel_rfl) (by kernel_rfl) ?_ ?_ (by assumption) (by assumption) ?_
    rotate_left 2
    focus (simp only [List.getElem?_toArray, List.getElem?_cons_succ, List.getElem?_cons_zero]; rfl)
    focus exact fun _ _ _ h => h
    focus (refine Or.inl ⟨by kernel_rfl, ?_⟩; intro w hSw; clear hSw; go_simp; try with_reducible rfl)
    try simp only [Act.put, List.setIfInBounds_toArray, List.set_cons_zero, List.set_cons_succ]
    refine Late.done (by kernel_rfl) ?_ _
    go_wp2_with fail
    all_goals (go_meet; exact ⟨o3, bbc⟩)
  case rest =>
  go_wp2_with fail
  go_ret
  exact ⟨_, rfl, hcut.1, hcut.2⟩
end
end Go.Proofs.YtajlfmnjibgbaaaGreatDoor.Vl
/- The document's cache: Drop, Get, Put. -/
namespace Go.Proofs.YtajlfmnjibgbaaaGreatDoor.Vl
open Go Go.RowKit Go.Maps Mem Disk Nv
set_option maxRecDepth 100000 in
theorem drop_split {A B : List (Nat × ByteArray)} {n : Nat} {s : ByteArray} (hp : (A ++ (n, s) :: B).Pairwise fun p q => p.1 ≠ q.1) (hA : ∀ p ∈ A, p.1 ≠ n) : dropK (A ++ (n, s) :: B) n = A ++ B ∧ find (A ++ (n, s) :: B) n = some s := by
  refine ⟨?_, find_mem hp (List.mem_append_right _ (List.mem_cons_self ..))⟩
  have hB : ∀ p ∈ B, p.1 ≠ n := fun p hp2 => by
    have h1 := (List.pairwise_append.1 hp).2.1
    exact fun e => (List.pairwise_cons.1 h1).1 p hp2 e.symm
  unfold dropK
  rw [List.filter_append, List.filter_eq_self.2 (fun p hp => by simpa using hA p hp), List.filter_cons, if_neg (by simp), List.filter_eq_self.2 (fun p hp => by simpa using hB p hp)]
def IsRc (F : Nat → Prop) (w : World) (k : Nat) (L : List (Nat × ByteArray)) : Prop := ∃ lv, RC w k lv L ∧ F k ∧ (∀ j, lv.ownBlock = some j → F j) ∧ ∀ i, F i → i < w.heap.size
set_option maxRecDepth 100000 in
theorem own_full (W : World) {base : Nat} (e : TypeId) (cs : Array Value) (n sz : Nat) (hb : base ≤ W.heap.size) (hm : n ≤ maxLen) (hs : cs.size = n * sz) : (W.alloc (.cells cs e)).ownsRow base e sz (.slice (some ⟨W.heap.size, 0, none⟩) n n) n cs.toList :=
  ⟨by rw [Array.length_toList, hs], Or.inr ⟨W.heap.size, n, cs, rfl, hb, heap_alloc_new W _, Nat.le_refl _, hm, hs, by rw [List.take_of_length_le (by rw [Array.length_toList, hs]; exact Nat.le_refl _)]⟩⟩
set_option maxRecDepth 100000 in
theorem rowz_of_own {W : World} {base sz n c : Nat} {e : TypeId} {A : Option Addr} {us : List Value} (h : W.ownsRow base e sz (.slice A n c) n us) : RowZ W A sz n us := by
  refine ⟨h.1, fun j u hu => ?_⟩
  rcases h.2 with ⟨_, h2⟩ | ⟨g, cap, cur, hv, _⟩
  · have h1 := (List.getElem?_eq_some_iff.1 hu).1
    rw [h.1, h2] at h1
    omega
  · injection hv with hv _ _
    subst hv
    exact ⟨_, rfl, h.cells (g := g) rfl j u hu⟩
section
variable {F G K : Nat → Prop} {w w' w2 : World} {k m : Nat} {lv v : Value} {L L2 : List (Nat × ByteArray)}
set_option maxRecDepth 100000 in
theorem IsRc.keeps (h : IsRc F w k L) (hk : Keeps K w w') (hn : ∀ i, F i → ¬ K i) : IsRc F w' k L := by
  obtain ⟨lv, h1, h2, h3, h4⟩ := h
  exact ⟨lv, ⟨h1.ck.keeps hk (hn k h2), own_keeps h1.row hk (fun j e => hn j (h3 j e))⟩, h2, h3, fun i hi => Nat.lt_of_lt_of_le (h4 i hi) hk.size⟩
set_option maxRecDepth 100000 in
theorem IsRc.below (h : IsRc F w k L) (hb : Below w.heap.size w w') : IsRc F w' k L := h.keeps (Keeps.of_below (fun _ => False) hb) (fun _ _ h => h)
set_option maxRecDepth 100000 in
/-- the list is another one, in new memory -/
theorem IsRc.store (h : IsRc F w k L) (hb : Below w.heap.size w w2) (ho : w2.ownsRow w.heap.size 147 2 v L2.length (pairs L2)) :
    IsRc (fun i => F i ∨ v.ownBlock = some i) (w2.setCell ⟨k, 1, none⟩ v) k L2 ∧ Keeps F w (w2.setCell ⟨k, 1, none⟩ v) ∧ (∀ i, (F i ∨ v.ownBlock = some i) → F i ∨ w.heap.size ≤ i) ∧ RC (w2.setCell ⟨k, 1, none⟩ v) k v L2 := by
  obtain ⟨lv, h1, h2, h3, h4⟩ := h
  have hk := h4 k h2
  have k1 := (Keeps.refl (fun j => j = k) w2).put (g := k) (Or.inl rfl) 1 v
  have hne : ∀ j, v.ownBlock = some j → j ≠ k := fun j e => by have := (ho.lt j e).1; omega
  have rc : RC (w2.setCell ⟨k, 1, none⟩ v) k v L2 := ⟨(h1.ck.below hb hk).put 1 v, own_base (own_keeps ho k1 hne) (Nat.zero_le _)⟩
  refine ⟨⟨v, rc, Or.inl h2, fun j e => Or.inr e, fun i hi => ?_⟩, ?_, fun i hi => hi.imp id (fun e => (ho.lt i e).1), rc⟩
  · rcases hi with hi | hi
    · exact Nat.lt_of_lt_of_le (h4 i hi) (Nat.le_trans hb.size k1.size)
    · exact Nat.lt_of_lt_of_le (ho.lt i hi).2 k1.size
  · exact (Keeps.of_below F hb).put (g := k) (Or.inl h2) 1 v
set_option maxRecDepth 100000 in
theorem IsRc.facts (h : IsRc F w k L) (hb : Below w.heap.size w w2) : (∃ u, w2.cell? ⟨k, 1, none⟩ = some u) ∧ w2.frozen? ⟨k, 1, none⟩ = false ∧ w2.cell? ⟨k, 0, none⟩ = some (.int .i64 32) := by
  obtain ⟨lv, h1, h2, h3, h4⟩ := h
  have hB := h1.ck.below hb (h4 k h2)
  exact ⟨⟨lv, hB.cell 1⟩, hB.free 1, hB.cell 0⟩
/-- what a call of the cache comes to -/
def RcPost (F : Nat → Prop) (w : World) (k : Nat) (L2 : List (Nat × ByteArray)) (w' : World) : Prop := ∃ F', IsRc F' w' k L2 ∧ Keeps F w w' ∧ ∀ i, F' i → F i ∨ w.heap.size ≤ i
set_option maxRecDepth 100000 in
theorem rcpost_same (h : IsRc F w k L) : RcPost F w k L w := ⟨F, h, Keeps.refl _ _, fun _ hi => Or.inl hi⟩
set_option maxRecDepth 100000 in
set_option maxHeartbeats 8000000 in
theorem rcdrop_any (h : IsRc F w k L) (hK : L.Pairwise fun p q => p.1 ≠ q.1) (hl : L.length ≤ 1000) (n : Nat) : Calls Tryz.prog 48 #[.pointer (some ⟨k, 0, none⟩), .int .i64 (n : Int)] w fun e w' =>
    e = .returned (.bool (find L n).isSome) ∧ RcPost F w k (dropK L n) w' := by
  obtain ⟨lv, h1, hr⟩ := id h
  have kat := Lib.hid (rcat_any h1 n hl)
  obtain ⟨Z1, hZ1⟩ : ∃ z, z = (find L n).isSome := ⟨_, rfl⟩
  obtain ⟨Z2, hZ2⟩ : ∃ z, z = dropK L n := ⟨_, rfl⟩
  rw [← hZ1, ← hZ2]
  replace h := Lib.hid h
  replace hZ1 := Lib.hid hZ1
  replace hZ2 := Lib.hid hZ2
  go_enter Tryz.func48, Tryz.ntmps48
  go_wp2_with fail
  refine kat.out.mono ?_
  rintro e w1 ⟨r, rfl, hat, hw1⟩
  replace hw1 := hw1.symm
  subst hw1
  rcases hat with ⟨hn, rfl⟩ | ⟨A, s, B, rfl, hA, rfl⟩
  · have e1 := Lib.hid (hZ2.out.trans (dropK_none hn))
    have e2 : Z1 = false := by rw [hZ1.out, hn]; rfl
    replace hn := Lib.hid hn
    replace e2 := Lib.hid e2
    clear h1 hr kat hZ1 hZ2
    go_wp2_with fail
    go_ret
    exact ⟨by rw [e2.out]; rfl, by rw [e1.out]; exact rcpost_same h.out⟩
  · obtain ⟨e1, e2⟩ := drop_split hK hA
    have e3 := Lib.hid (hZ2.out.trans e1)
    have e4 : Z1 = true := by rw [hZ1.out, e2]; rfl
    replace e4 := Lib.hid e4
    have kw := Lib.hid (rcwithout_any h1 hl)
    have q0 : decide ((A.length : Int) < 0) = false := decide_eq_false (by omega)
    clear h1 hr kat e1 e2 hA hK hZ1 hZ2
    go_wp2_with fail
    refine kw.out.mono ?_
    rintro e w2 ⟨v, rfl, ho, hb⟩
    obtain ⟨A2, c2, rfl⟩ := pair_slice ho
    obtain ⟨⟨u, f1⟩, f2, _⟩ := h.out.facts hb
    have fin := h.out.store hb ho
    rw [List.length_append] at fin
    replace fin := Lib.hid fin
    clear ho hb kw
    go_wp2_with fail
    go_ret
    exact ⟨by rw [e4.out]; rfl, by rw [e3.out]; exact ⟨_, fin.out.1, fin.out.2.1, fin.out.2.2.1⟩⟩
set_option maxRecDepth 100000 in
set_option maxHeartbeats 8000000 in
theorem rcget_no (h : IsRc F w k L) (hl : L.length ≤ 1000) {n : Nat} (hf : find L n = none) : Calls Tryz.prog 115 #[.pointer (some ⟨k, 0, none⟩), .int .i64 (n : Int)] w fun e w' =>
    e = .returned (.tuple #[.string ⟨#[]⟩, .bool false]) ∧ w' = w := by
  obtain ⟨lv, h1, hr⟩ := h
  have kat := Lib.hid (rcat_any h1 n hl)
  replace hf := Lib.hid hf
  clear h1 hr
  go_enter Tryz.func115, Tryz.ntmps115
  go_wp2_with fail
  refine kat.out.mono ?_
  rintro e w1 ⟨r, rfl, hat, hw1⟩
  replace hw1 := hw1.symm
  subst hw1
  obtain ⟨_, rfl⟩ : find L n = none ∧ r = -1 := hat.elim id (fun ⟨A, s, B, e, _⟩ => by
    have h2 := find_none hf.out (n, s) (by rw [e]; exact List.mem_append_right _ (List.mem_cons_self ..))
    exact absurd rfl h2)
  clear kat
  go_wp2_with fail
  go_ret2
  exact ⟨rfl, rfl⟩
set_option maxRecDepth 100000 in
set_option maxHeartbeats 8000000 in
theorem rcget_yes (h : IsRc F w k L) (hK : L.Pairwise fun p q => p.1 ≠ q.1) (hl : L.length ≤ 900) {n : Nat} {s : ByteArray} (hf : find L n = some s) : Calls Tryz.prog 115 #[.pointer (some ⟨k, 0, none⟩), .int .i64 (n : Int)] w fun e w' =>
    e = .returned (.tuple #[.string s, .bool true]) ∧ RcPost F w k (touchK L n s) w' := by
  obtain ⟨lv, h1, hr⟩ := id h
  have kat := Lib.hid (rcat_any h1 n (by omega))
  obtain ⟨Z2, hZ2⟩ : ∃ z, z = touchK L n s := ⟨_, rfl⟩
  rw [← hZ2]
  replace h := Lib.hid h
  replace hZ2 := Lib.hid hZ2
  go_enter Tryz.func115, Tryz.ntmps115
  go_wp2_with fail
  refine kat.out.mono ?_
  rintro e w1 ⟨r, rfl, hat, hw1⟩
  replace hw1 := hw1.symm
  subst hw1
  rcases hat with ⟨hn, _⟩ | ⟨A, s', B, rfl, hA, rfl⟩
  · rw [hn] at hf; cases hf
  · obtain ⟨e1, e2⟩ := drop_split hK hA
    rw [e2] at hf
    injection hf with hf
    subst hf
    have e3 := Lib.hid (hZ2.out.trans (show touchK (A ++ (n, s') :: B) n s' = (n, s') :: (A ++ B) by unfold touchK; rw [e1]))
    have kw := Lib.hid (fun W (hh : RC W k lv (A ++ (n, s') :: B)) => rcwithout_any (w := W) hh (by omega))
    have q0 : decide ((A.length : Int) < 0) = false := decide_eq_false (by omega)
    obtain ⟨g, cap, hv, hcap⟩ : ∃ g cap, lv = .slice (some ⟨g, 0, none⟩) (A ++ (n, s') :: B).length cap ∧ (A ++ (n, s') :: B).length ≤ cap := by
      rcases h1.row.2 with ⟨_, h2⟩ | ⟨g, cap, cur, hv, hb, hg, hnc, _⟩
      · simp at h2
      · exact ⟨g, cap, hv, hnc⟩
    subst hv
    have hp : (A ++ (n, s') :: B)[A.length]? = some (n, s') := by simp
    have l1 := h1.row.cells (g := g) rfl _ _ (pairs_at hp).1
    have l2 := h1.row.cells (g := g) rfl _ _ (pairs_at hp).2
    rw [add_lit, Nat.zero_add] at l1 l2
    have c1 : w.cell? ⟨k, 1, none⟩ = some (.slice (some ⟨g, 0, none⟩) (A ++ (n, s') :: B).length cap) := h1.ck.cell 1
    have hlen : (A ++ (n, s') :: B).length = A.length + (B.length + 1) := by simp
    rw [hlen] at c1
    have z1 : (A.length : Int) < ((A.length + (B.length + 1) : Nat) : Int) := by omega
    have z0 : (0 : Int) ≤ (A.length : Int) := by omega
    have hAB : A.length + (B.length + 1) ≤ 900 := by rw [← hlen]; exact hl
    replace h1 := Lib.hid h1
    replace hr := Lib.hid hr
    clear e1 e2 hA hK hZ2 hp kat hcap
    generalize A.length = M at z0 z1 l1 l2 c1 hAB q0 kw ⊢
    go_upto_region 5 with fail
    obtain ⟨P, hP⟩ : ∃ P, P = w.heap.size := ⟨_, rfl⟩
    obtain ⟨W0, hW⟩ : ∃ W, W = w.alloc (.cells #[.int .i64 (n : Int), .string s'] 147) := ⟨_, rfl⟩
    have bW : Below w.heap.size w W0 := by rw [hW]; exact (Below.refl _ w).alloc (Nat.le_refl _) _
    have hB : Blk W0 P 147 #[.int .i64 (n : Int), .string s'] := by rw [hW, hP]; exact Blk.new w _ _
    rw [← hW, ← hP]
    have hPw : w.heap.size ≤ P := Nat.le_of_eq hP.symm
    clear hW hP l1 l2 c1 z0 z1 q0
    obtain ⟨i0, hinf, hz0, hz1, hz2⟩ := info_parts infoTh
    refine Late.start (S := fun W' => W'.cell? ⟨P, 0, none⟩ = some (.int .i64 (n : Int)) ∧ W'.cell? ⟨P, 1, none⟩ = some (.string s')) (T := fun _ => True) (late := []) (by kernel_rfl) ?_
    have hT : True := trivial
    have bb0 : Below w.heap.size w W0.drew := bW.drew
    have hB0 : Blk W0.drew P 147 #[.int .i64 (n : Int), .string s'] := hB
    have hS : W0.drew.cell? ⟨P, 0, none⟩ = some (.int .i64 (n : Int)) ∧ W0.drew.cell? ⟨P, 1, none⟩ = some (.string s') := ⟨hB0.cell 0, hB0.cell 1⟩
    generalize W0.drew = V0 at bb0 hB0 hS ⊢
    clear bW hB
    refine Late.take (i := 0) (oi := ?_) (v := ?_) ?_ (by kernel_rfl) (by kernel_rfl) (by kernel_rfl) (by kernel_rfl) ?_ ?_ (by assumption) (by assumption) ?_
    rotate_left 2
    focus (simp only [List.getElem?_toArray, List.getElem?_cons_zero]; rfl)
    focus exact fun _ _ _ h => h
    focus (refine Or.inl ⟨by kernel_rfl, ?_⟩; intro w hSw; clear hSw; go_simp; try with_reducible rfl)
    try simp only [Act.put, List.setIfInBounds_toArray, List.set_cons_zero, List.set_cons_succ]
    refine Late.take (i := 1) (oi := ?_) (v := ?_) ?_ (by kernel_rfl) (by kernel_rfl) (by kernel_rfl) (by kernel_rfl) ?_ ?_ (by assumption) (by assumption) ?_
    rotate_left 2
    focus (simp only [List.getElem?_toArray, List.getElem?_cons_succ, List.getElem?_cons_zero]; rfl)
    focus exact fun _ _ _ h => h
    focus (refine Or.inl ⟨by rfl, ?_⟩; intro w hSw; (try dsimp only at hSw); go_split_ands; go_simp; try with_reducible rfl)
    try simp only [Act.put, List.setIfInBounds_toArray, List.set_cons_zero, List.set_cons_succ]
    refine Late.take (i := 3) (oi := ?_) (v := ?_) ?_ (by kernel_rfl) (by kernel_rfl) (by kernel_rfl) (by kernel_rfl) ?_ ?_ (by assumption) (by assumption) ?_
    rotate_left 2
    focus (simp only [List.getElem?_toArray, List.getElem?_cons_succ, List.getElem?_cons_zero]; rfl)
    focus exact fun _ _ _ h => h
    focus (refine Or.inl ⟨by kernel_rfl, ?_⟩; intro w hSw; clear hSw; go_simp; try with_reducible rfl)
    try simp only [Act.put, List.setIfInBounds_toArray, List.set_cons_zero, List.set_cons_succ]
    refine Late.take (i := 4) (oi := ?_) (v := ?_) ?_ (by kernel_rfl) (by kernel_rfl) (by kernel_rfl) (by kernel_rfl) ?_ ?_ (by assumption) (by assumption) ?_
    rotate_left 2
    focus (simp only [List.getElem?_toArray, List.getElem?_cons_succ, List.getElem?_cons_zero]; rfl)
    focus exact fun _ _ _ h => h
    focus (refine Or.inl ⟨by kernel_rfl, ?_⟩; intro w hSw; clear hSw; go_simp; try with_reducible rfl)
    try simp only [Act.put, List.setIfInBounds_toArray, List.set_cons_zero, List.set_cons_succ]
    have hkw := Lib.hid (hr.out.2.2 k hr.out.1)
    have rcAt : ∀ (W : World), Below w.heap.size w W → RC W k (.slice (some ⟨g, 0, none⟩) (A ++ (n, s') :: B).length cap) (A ++ (n, s') :: B) := fun _ hb => ⟨h1.out.ck.below hb hkw.out, own_keeps h1.out.row (Keeps.of_below (fun _ => False) hb) (fun _ _ h => h)⟩
    replace rcAt := Lib.hid rcAt
    have hnl : A.length + B.length ≤ 900 := by rw [hlen] at hl; omega
    refine Late.ready (rs := [2, 5]) (by kernel_rfl) (by simp) (Late.AllReady.cons (o := ?o1x2x5) ?e1x2x5 (fun K hK => ?m1x2x5) (Late.AllReady.cons (o := ?o2x2x5) ?e2x2x5 (fun K hK => ?m2x2x5) Late.AllReady.nil))
    case e1x2x5 => (simp only [List.getElem?_toArray, List.getElem?_cons_succ, List.getElem?_cons_zero]; rfl)
    case e2x2x5 => (simp only [List.getElem?_toArray, List.getElem?_cons_succ, List.getElem?_cons_zero]; rfl)
    case m1x2x5 =>
      go_simp
      have o1 : (V0.alloc (.cells #[.int .i64 (n : Int), .string s'] 147)).ownsRow w.heap.size 147 2 (.slice (some ⟨V0.heap.size, 0, none⟩) 1 1) 1 (pairs [(n, s')]) := own_full V0 147 #[.int .i64 (n : Int), .string s'] 1 2 bb0.size (by decide) rfl
      have bba := bb0.alloc bb0.size (.cells #[.int .i64 (n : Int), .string s'] 147)
      have hBa := hB0.alloc (.cells #[.int .i64 (n : Int), .string s'] 147)
      have hPr : some P ≠ (Value.slice (some ⟨V0.heap.size, 0, none⟩) 1 1).ownBlock := fun e => by have h1 := hB0.lt; have h2 : P = V0.heap.size := Option.some.inj e; omega
      have hSa : (V0.alloc (.cells #[.int .i64 (n : Int), .string s'] 147)).cell? ⟨P, 0, none⟩ = some (.int .i64 (n : Int)) ∧ (V0.alloc (.cells #[.int .i64 (n : Int), .string s'] 147)).cell? ⟨P, 1, none⟩ = some (.string s') := ⟨hBa.cell 0, hBa.cell 1⟩
      refine hK.out _ _ hSa (fun _ => trivial) ?_
      clear hK K
      try simp only [Act.put, List.setIfInBounds_toArray, List.set_cons_zero, List.set_cons_succ]
      generalize V0.alloc (.cells #[.int .i64 (n : Int), .string s'] 147) = Va at o1 bba hBa hSa ⊢
      refine Late.only (i := 5) (o := ?_) (by kernel_rfl) ?_ (fun K hK => ?_)
      rotate_left 1
      focus (simp only [List.getElem?_toArray, List.getElem?_cons_succ, List.getElem?_cons_zero]; rfl)
      rw [if_pos (by kernel_rfl)]
      go_simp
      refine (kw.out _ (rcAt.out _ bba)).mono ?_
      rintro e Vb ⟨v, rfl, ho, hb⟩
      obtain ⟨A2, c2, rfl⟩ := pair_slice ho
      have hob := own_base ho (Nat.zero_le _)
      simp only [List.length_append] at hob ⊢
      have bbb := bba.trans (hb.mono bba.size)
      have o1b := own_keeps o1 (Keeps.of_below (fun _ => False) hb) (fun _ _ h => h)
      have hBb := hBa.below hb hBa.lt
      have hSb : Vb.cell? ⟨P, 0, none⟩ = some (.int .i64 (n : Int)) ∧ Vb.cell? ⟨P, 1, none⟩ = some (.string s') := ⟨hBb.cell 0, hBb.cell 1⟩
      refine hK.out _ _ hSb (fun _ => trivial) ?_
      clear hK K
      try simp only [Act.put, List.setIfInBounds_toArray, List.set_cons_zero, List.set_cons_succ]
      refine Late.only (i := 6) (o := ?_) (by kernel_rfl) ?_ (fun K hK => ?_)
      rotate_left 1
      focus (simp only [List.getElem?_toArray, List.getElem?_cons_succ, List.getElem?_cons_zero]; rfl)
      rw [if_pos (by kernel_rfl)]
      refine wp_append_rowz (P := Tryz.prog) (w := Vb) (.tmp 22) (.tmp 25) 142 rfl w.heap.size 147 i0 (.agg #[.int .i64 0, .string ⟨#[]⟩]) 2 24 Tryz.underlying142 hinf hz0 hz1 hz2 rfl (by decide) _ 1 (pairs [(n, s')]) rfl o1b A2 (A.length + B.length) c2 (pairs (A ++ B)) rfl (rowz_of_own hob) (pairs_one _) (by unfold maxLen; omega) (by omega) bbb.size ?_
      intro v3 Vc o3 g3 _
      rw [← pairs_app, show [(n, s')] ++ (A ++ B) = (n, s') :: (A ++ B) from rfl, show 1 + (A.length + B.length) = ((n, s') :: (A ++ B)).length by simp; omega] at o3
      obtain ⟨A3, c3, rfl⟩ := pair_slice o3
      have bbc := bbb.grown g3 bbb.size (fun j e => (o1b.lt j e).1)
      have hBc := hBb.grown g3 hPr
      obtain ⟨⟨u, f1⟩, f2, _⟩ := h.out.facts bbc
      have fin := h.out.store bbc o3
      rw [show ((n, s') :: (A ++ B)).length = A.length + B.length + 1 by simp] at fin
      replace fin := Lib.hid fin
      have hSc : Vc.cell? ⟨P, 0, none⟩ = some (.int .i64 (n : Int)) ∧ Vc.cell? ⟨P, 1, none⟩ = some (.string s') := ⟨hBc.cell 0, hBc.cell 1⟩
      have hBd := hBc.far (p := ⟨k, 1, none⟩) (show P ≠ k by have := hkw.out; omega) (.slice A3 (A.length + B.length + 1) c3)
      refine hK.out _ _ hSc (fun _ => trivial) ?_
      clear hK K
      try simp only [Act.put, List.setIfInBounds_toArray, List.set_cons_zero, List.set_cons_succ]
      have hS := hSc
      refine Late.take (i := 7) (oi := ?_) (v := ?_) ?_ (by kernel_rfl) (by kernel_rfl) (by kernel_rfl) (by kernel_rfl) ?_ ?_ (by assumption) (by assumption) ?_
      rotate_left 2
      focus (simp only [List.getElem?_toArray, List.getElem?_cons_succ, List.getElem?_cons_zero]; rfl)
      focus exact fun _ _ _ h => h
      focus (refine Or.inl ⟨by kernel_rfl, ?_⟩; intro w hSw; clear hSw; go_simp; try with_reducible rfl)
      try simp only [Act.put, List.setIfInBounds_toArray, List.set_cons_zero, List.set_cons_succ]
      refine Late.take (i := 8) (oi := ?_) (v := ?_) ?_ (by kernel_rfl) (by kernel_rfl) (by kernel_rfl) (by kernel_rfl) ?_ ?_ (by assumption) (by assumption) ?_
      rotate_left 2
      focus (simp only [List.getElem?_toArray, List.getElem?_cons_succ, List.getElem?_cons_zero]; rfl)
      focus exact fun _ _ _ h => h
      focus (refine Or.inl ⟨by kernel_rfl, ?_⟩; intro w hSw; clear hSw; go_simp; try with_reducible rfl)
      try simp only [Act.put, List.setIfInBounds_toArray, List.set_cons_zero, List.set_cons_succ]
      refine Late.only (i := 9) (o := ?_) (by kernel_rfl) ?_ (fun K hK => ?_)
      rotate_left 1
      focus (simp only [List.getElem?_toArray, List.getElem?_cons_succ, List.getElem?_cons_zero]; rfl)
      go_simp
      have hSd : (Vc.setCell ⟨k, 1, none⟩ (.slice A3 (A.length + B.length + 1) c3)).cell? ⟨P, 0, none⟩ = some (.int .i64 (n : Int)) ∧ (Vc.setCell ⟨k, 1, none⟩ (.slice A3 (A.length + B.length + 1) c3)).cell? ⟨P, 1, none⟩ = some (.string s') := ⟨hBd.cell 0, hBd.cell 1⟩
      refine hK.out _ _ hSd (fun _ => trivial) ?_
      clear hK K
      try simp only [Act.put, List.setIfInBounds_toArray, List.set_cons_zero, List.set_cons_succ]
      refine Late.done (by kernel_rfl) ?_ _
      go_wp2_with fail
      go_ret2
      exact ⟨rfl, by rw [e3.out]; exact ⟨_, fin.out.1, fin.out.2.1, fin.out.2.2.1⟩⟩
    case m2x2x5 =>
      rw [if_pos (by kernel_rfl)]
      go_simp
      refine (kw.out _ (rcAt.out _ bb0)).mono ?_
      rintro e Va ⟨v, rfl, ho, hb⟩
      obtain ⟨A2, c2, rfl⟩ := pair_slice ho
      have hoa := own_base ho (Nat.zero_le _)
      simp only [List.length_append] at hoa ⊢
      have bba := bb0.trans (hb.mono bb0.size)
      have hBa := hB0.below hb hB0.lt
      have hSa : Va.cell? ⟨P, 0, none⟩ = some (.int .i64 (n : Int)) ∧ Va.cell? ⟨P, 1, none⟩ = some (.string s') := ⟨hBa.cell 0, hBa.cell 1⟩
      refine hK.out _ _ hSa (fun _ => trivial) ?_
      clear hK K
      try simp only [Act.put, List.setIfInBounds_toArray, List.set_cons_zero, List.set_cons_succ]
      refine Late.only (i := 2) (o := ?_) (by kernel_rfl) ?_ (fun K hK => ?_)
      rotate_left 1
      focus (simp only [List.getElem?_toArray, List.getElem?_cons_succ, List.getElem?_cons_zero]; rfl)
      go_simp
      have o1b : (Va.alloc (.cells #[.int .i64 (n : Int), .string s'] 147)).ownsRow w.heap.size 147 2 (.slice (some ⟨Va.heap.size, 0, none⟩) 1 1) 1 (pairs [(n, s')]) := own_full Va 147 #[.int .i64 (n : Int), .string s'] 1 2 bba.size (by decide) rfl
      have hob := hoa.alloc (.cells #[.int .i64 (n : Int), .string s'] 147)
      have bbb := bba.alloc bba.size (.cells #[.int .i64 (n : Int), .string s'] 147)
      have hBb := hBa.alloc (.cells #[.int .i64 (n : Int), .string s'] 147)
      have hPr : some P ≠ (Value.slice (some ⟨Va.heap.size, 0, none⟩) 1 1).ownBlock := fun e => by have h1 := hBa.lt; have h2 : P = Va.heap.size := Option.some.inj e; omega
      have hSb : (Va.alloc (.cells #[.int .i64 (n : Int), .string s'] 147)).cell? ⟨P, 0, none⟩ = some (.int .i64 (n : Int)) ∧ (Va.alloc (.cells #[.int .i64 (n : Int), .string s'] 147)).cell? ⟨P, 1, none⟩ = some (.string s') := ⟨hBb.cell 0, hBb.cell 1⟩
      refine hK.out _ _ hSb (fun _ => trivial) ?_
      clear hK K
      try simp only [Act.put, List.setIfInBounds_toArray, List.set_cons_zero, List.set_cons_succ]
      generalize Va.alloc (.cells #[.int .i64 (n : Int), .string s'] 147) = Vb at o1b hob bbb hBb hSb ⊢
      refine Late.only (i := 6) (o := ?_) (by kernel_rfl) ?_ (fun K hK => ?_)
      rotate_left 1
      focus (simp only [List.getElem?_toArray, List.getElem?_cons_succ, List.getElem?_cons_zero]; rfl)
      rw [if_pos (by kernel_rfl)]
      refine wp_append_rowz (P := Tryz.prog) (w := Vb) (.tmp 22) (.tmp 25) 142 rfl w.heap.size 147 i0 (.agg #[.int .i64 0, .string ⟨#[]⟩]) 2 24 Tryz.underlying142 hinf hz0 hz1 hz2 rfl (by decide) _ 1 (pairs [(n, s')]) rfl o1b A2 (A.length + B.length) c2 (pairs (A ++ B)) rfl (rowz_of_own hob) (pairs_one _) (by unfold maxLen; omega) (by omega) bbb.size ?_
      intro v3 Vc o3 g3 _
      rw [← pairs_app, show [(n, s')] ++ (A ++ B) = (n, s') :: (A ++ B) from rfl, show 1 + (A.length + B.length) = ((n, s') :: (A ++ B)).length by simp; omega] at o3
      obtain ⟨A3, c3, rfl⟩ := pair_slice o3
      have bbc := bbb.grown g3 bbb.size (fun j e => (o1b.lt j e).1)
      have hBc := hBb.grown g3 hPr
      obtain ⟨⟨u, f1⟩, f2, _⟩ := h.out.facts bbc
      have fin := h.out.store bbc o3
      rw [show ((n, s') :: (A ++ B)).length = A.length + B.length + 1 by simp] at fin
      replace fin := Lib.hid fin
      have hSc : Vc.cell? ⟨P, 0, none⟩ = some (.int .i64 (n : Int)) ∧ Vc.cell? ⟨P, 1, none⟩ = some (.string s') := ⟨hBc.cell 0, hBc.cell 1⟩
      have hBd := hBc.far (p := ⟨k, 1, none⟩) (show P ≠ k by have := hkw.out; omega) (.slice A3 (A.length + B.length + 1) c3)
      refine hK.out _ _ hSc (fun _ => trivial) ?_
      clear hK K
      try simp only [Act.put, List.setIfInBounds_toArray, List.set_cons_zero, List.set_cons_succ]
      have hS := hSc
      refine Late.take (i := 7) (oi := ?_) (v := ?_) ?_ (by kernel_rfl) (by kernel_rfl) (by kernel_rfl) (by kernel_rfl) ?_ ?_ (by assumption) (by assumption) ?_
      rotate_left 2
      focus (simp only [List.getElem?_toArray, List.getElem?_cons_succ, List.getElem?_cons_zero]; rfl)
      focus exact fun _ _ _ h => h
      focus (refine Or.inl ⟨by kernel_rfl, ?_⟩; intro w hSw; clear hSw; go_simp; try with_reducible rfl)
      try simp only [Act.put, List.setIfInBounds_toArray, List.set_cons_zero, List.set_cons_succ]
      refine Late.take (i := 8) (oi := ?_) (v := ?_) ?_ (by kernel_rfl) (by kernel_rfl) (by kernel_rfl) (by kernel_rfl) ?_ ?_ (by assumption) (by assumption) ?_
      rotate_left 2
      focus (simp only [List.getElem?_toArray, List.getElem?_cons_succ, List.getElem?_cons_zero]; rfl)
      focus exact fun _ _ _ h => h
      focus (refine Or.inl ⟨by kernel_rfl, ?_⟩; intro w hSw; clear hSw; go_simp; try with_reducible rfl)
      try simp only [Act.put, List.setIfInBounds_toArray, List.set_cons_zero, List.set_cons_succ]
      refine Late.only (i := 9) (o := ?_) (by kernel_rfl) ?_ (fun K hK => ?_)
      rotate_left 1
      focus (simp only [List.getElem?_toArray, List.getElem?_cons_succ, List.getElem?_cons_zero]; rfl)
      go_simp
      have hSd : (Vc.setCell ⟨k, 1, none⟩ (.slice A3 (A.length + B.length + 1) c3)).cell? ⟨P, 0, none⟩ = some (.int .i64 (n : Int)) ∧ (Vc.setCell ⟨k, 1, none⟩ (.slice A3 (A.length + B.length + 1) c3)).cell? ⟨P, 1, none⟩ = some (.string s') := ⟨hBd.cell 0, hBd.cell 1⟩
      refine hK.out _ _ hSd (fun _ => trivial) ?_
      clear hK K
      try simp only [Act.put, List.setIfInBounds_toArray, List.set_cons_zero, List.set_cons_succ]
      refine Late.done (by kernel_rfl) ?_ _
      go_wp2_with fail
      go_ret2
      exact ⟨rfl, by rw [e3.out]; exact ⟨_, fin.out.1, fin.out.2.1, fin.out.2.2.1⟩⟩
end
end Go.Proofs.YtajlfmnjibgbaaaGreatDoor.Vl
/- The document's cache: Put. -/
namespace Go.Proofs.YtajlfmnjibgbaaaGreatDoor.Vl
open Go Go.RowKit Go.Maps Mem Disk Nv
set_option maxRecDepth 100000 in
theorem put_few {L : List (Nat × ByteArray)} {n : Nat} {s : ByteArray} (h : (touchK L n s).length ≤ 32) : putK L n s = touchK L n s := by
  unfold putK
  exact List.take_of_length_le h
set_option maxRecDepth 100000 in
theorem put_last {L : List (Nat × ByteArray)} {n : Nat} {s : ByteArray} (hK : Kf L) (h : (touchK L n s).length = 33) {p : Nat × ByteArray} (hp : (touchK L n s)[32]? = some p) : dropK (touchK L n s) p.1 = putK L n s := by
  have ha := touch_apart hK n s
  obtain ⟨e1, e2⟩ := split_at hp
  rw [List.drop_of_length_le (by omega)] at e1
  obtain ⟨a, t⟩ := p
  rw [e1] at ha
  have hA : ∀ q ∈ (touchK L n s).take 32, q.1 ≠ a := fun q hq => (List.pairwise_append.1 ha).2.2 q hq (a, t) (List.mem_singleton.2 rfl)
  have h3 := (drop_split ha hA).1
  rw [← e1, List.append_nil] at h3
  exact h3
section
variable {F G K : Nat → Prop} {w w' w2 : World} {k m : Nat} {lv v : Value} {L L2 : List (Nat × ByteArray)}
set_option maxRecDepth 100000 in
set_option maxHeartbeats 16000000 in
theorem rcput_any (h : IsRc F w k L) (hK : Kf L) (n : Nat) (s : ByteArray) : Calls Tryz.prog 49 #[.pointer (some ⟨k, 0, none⟩), .int .i64 (n : Int), .string s] w fun e w' =>
    ∃ z y, e = .returned (.tuple #[.int .i64 z, .bool y]) ∧ RcPost F w k (putK L n s) w' := by
  have kd := Lib.hid (rcdrop_any h hK.apart (Nat.le_trans hK.few (by decide)) n)
  obtain ⟨Z2, hZ2⟩ : ∃ z, z = putK L n s := ⟨_, rfl⟩
  rw [← hZ2]
  have hl1 : (dropK L n).length ≤ 32 := Nat.le_trans (List.length_filter_le _ _) hK.few
  obtain ⟨L1, hL1⟩ : ∃ z, z = dropK L n := ⟨_, rfl⟩
  rw [← hL1] at kd hl1
  replace hZ2 := Lib.hid hZ2
  replace hL1 := Lib.hid hL1
  replace hK := Lib.hid hK
  replace h := Lib.hid h
  go_enter Tryz.func49, Tryz.ntmps49
  go_wp2_with fail
  refine kd.out.mono ?_
  rintro e w1 ⟨rfl, F1, i1, k1, f1⟩
  obtain ⟨lv, r1, hr⟩ := id i1
  obtain ⟨A1, c1, rfl⟩ := pair_slice r1.row
  obtain ⟨M, hM⟩ : ∃ M, M = L1.length := ⟨_, rfl⟩
  have r1r := r1.row
  have s1 : w1.cell? ⟨k, 1, none⟩ = some (.slice A1 L1.length c1) := r1.ck.cell 1
  rw [← hM] at r1r s1 hl1
  obtain ⟨i0, hinf, hz0, hz1, hz2⟩ := info_parts infoTh
  have o1 := own_full w1 (base := w1.heap.size) 147 #[.int .i64 (n : Int), .string s] 1 2 (Nat.le_refl _) (by decide) rfl
  have ba := (Below.refl _ w1).alloc (Nat.le_refl _) (.cells #[.int .i64 (n : Int), .string s] 147)
  have ra := r1r.alloc (.cells #[.int .i64 (n : Int), .string s] 147)
  have hsa := ba.size
  have hz : w1.heap.size ≤ (w1.alloc (.cells #[.int .i64 (n : Int), .string s] 147)).heap.size := hsa
  replace i1 := Lib.hid i1
  replace k1 := Lib.hid k1
  replace f1 := Lib.hid f1
  replace hM := Lib.hid hM
  have s1a : (w1.alloc (.cells #[.int .i64 (n : Int), .string s] 147)).cell? ⟨k, 1, none⟩ = some (.slice A1 M c1) := by
    have q := (r1.ck.alloc (.cells #[.int .i64 (n : Int), .string s] 147)).cell 1
    rw [← hM.out] at q
    exact q
  clear kd r1 hr r1r
  replace ba := Lib.hid ba
  go_wp2_with (first | (at_builtin; refine wpList_append_rowz _ (.tmp 16) (.tmp 20) 142 rfl w1.heap.size 147 i0 (.agg #[.int .i64 0, .string ⟨#[]⟩]) 2 24 Tryz.underlying142 hinf hz0 hz1 hz2 rfl (by decide) _ 1 (pairs [(n, s)]) rfl o1 A1 M c1 (pairs L1) rfl (rowz_of_own ra) (pairs_one _) (by unfold maxLen; omega) (by omega) hz rfl ?_; intro v3 Wc o3 g3 n3; have bbc := ba.out.grown g3 hz (fun j e => (o1.lt j e).1); obtain ⟨A3, c3, rfl⟩ := pair_slice o3; obtain ⟨⟨u, t1⟩, t2, _⟩ := i1.out.facts bbc; replace o3 := Lib.hid o3; replace bbc := Lib.hid bbc; clear g3 n3))
  have hl2 : ((n, s) :: L1).length = 1 + M := by rw [List.length_cons, hM.out]; omega
  obtain ⟨L2, hL2⟩ : ∃ L2, L2 = (n, s) :: L1 := ⟨_, rfl⟩
  have o4 : Wc.ownsRow w1.heap.size 147 2 (.slice A3 (1 + M) c3) L2.length (pairs L2) := by
    rw [hL2, hl2]
    exact o3.out
  rw [← hL2] at hl2
  have st := i1.out.store bbc.out o4
  have kk := k1.out.trans st.2.1 f1.out
  have ff := into f1.out k1.out.size st.2.2.1
  have i4 := st.1
  have r4 := st.2.2.2
  have et : L2 = touchK L n s := by rw [hL2, hL1.out]; rfl
  clear st o4 o3 bbc i1 k1 f1 s1 s1a t1 t2 ba ra o1 hsa hz
  generalize Wc.setCell ⟨k, 1, none⟩ (.slice A3 (1 + M) c3) = Wd at i4 kk r4 ⊢
  have d1 : Wd.cell? ⟨k, 1, none⟩ = some (.slice A3 (1 + M) c3) := r4.ck.cell 1
  have d0 : Wd.cell? ⟨k, 0, none⟩ = some (.int .i64 32) := r4.ck.cell 0
  replace ff := Lib.hid ff
  by_cases hfew : 1 + M ≤ 32
  · have q1 : decide (1 + (M : Int) ≤ 32) = true := decide_eq_true (by omega)
    have e2 := Lib.hid (hZ2.out.trans (show putK L n s = L2 by rw [put_few (by rw [← et]; omega), et]))
    replace kk := Lib.hid kk
    replace i4 := Lib.hid i4
    replace r4 := Lib.hid r4
    clear et hfew
    go_wp2_with fail
    go_quiet (fail)
    go_wp2_with fail
    go_ret2
    exact ⟨_, _, rfl, by rw [e2.out]; exact ⟨_, i4.out.below (below_N Wd _), kk.out.same (Keeps.of_below F (below_N Wd _)), ff.out⟩⟩
  · obtain rfl : M = 32 := by omega
    have q1 : decide (1 + ((32 : Nat) : Int) ≤ 32) = false := by decide
    obtain ⟨p, hp⟩ : ∃ p, L2[32]? = some p := ⟨_, List.getElem?_eq_getElem (by omega)⟩
    have e2 := Lib.hid (hZ2.out.trans (show putK L n s = dropK L2 p.1 by rw [et] at hp hl2 ⊢; exact (put_last hK.out hl2 hp).symm))
    have ap2 : L2.Pairwise fun p q => p.1 ≠ q.1 := by rw [et]; exact touch_apart hK.out n s
    have r4r := r4.row
    rw [hl2] at r4r
    obtain ⟨g, cap, hv, _⟩ := r4r.form (by omega)
    injection hv with hv _ _
    subst hv
    have l1 := r4r.cells (g := g) rfl _ _ (pairs_at hp).1
    rw [add_lit, Nat.zero_add] at l1
    have kd2 := Lib.hid (fun q => (rcdrop_any (i4.below (below_N Wd q)) ap2 (by omega) p.1).mono fun e W6 (hx : _ ∧ RcPost _ _ _ _ _) => by
      obtain ⟨he, F6, i6, k6, f6⟩ := hx
      have kk5 := kk.same (Keeps.of_below F (below_N Wd q))
      exact (show e = .returned (.bool (find L2 p.1).isSome) ∧ RcPost F w k (dropK L2 p.1) W6 from ⟨he, F6, i6, kk5.trans k6 ff.out, into ff.out kk5.size f6⟩))
    replace kk := Lib.hid kk
    replace i4 := Lib.hid i4
    replace r4 := Lib.hid r4
    replace hl2 := Lib.hid hl2
    clear et hfew hp r4r
    go_wp2_with fail
    go_quiet (fail)
    go_wp2_with fail
    have j1 : (Wd.drewN nq).cell? ⟨k, 1, none⟩ = some (.slice (some ⟨g, 0, none⟩) 33 c3) := d1
    have j0 : (Wd.drewN nq).cell? ⟨k, 0, none⟩ = some (.int .i64 32) := d0
    have jl : (Wd.drewN nq).cell? ⟨g, 64, none⟩ = some (.int .i64 (p.1 : Int)) := l1
    go_quiet (fail)
    go_wp2_with fail
    refine (kd2.out _).mono ?_
    rintro e W6 ⟨rfl, fin⟩
    replace fin := Lib.hid fin
    clear kd2
    go_wp2_with fail
    go_ret2
    exact ⟨_, _, rfl, by rw [e2.out]; exact fin.out⟩
end
end Go.Proofs.YtajlfmnjibgbaaaGreatDoor.Vl
/- The document's volume: Read. -/
namespace Go.Proofs.YtajlfmnjibgbaaaGreatDoor.Vl
open Go Go.RowKit Go.Maps Mem Disk Nv
def Hc (k : Nat) (lv : Value) (i : Nat) : Prop := i = k ∨ lv.ownBlock = some i
section
variable {F G K : Nat → Prop} {w w' : World} {a b k m : Nat} {lv : Value} {v v' : Vo} {d d' : Dk} {L2 : List (Nat × ByteArray)}
set_option maxRecDepth 100000 in
theorem RVC.rc (h : RVC F G w a b k lv v d) : IsRc (Hc k lv) w k v.L :=
  ⟨lv, ⟨h.ck, h.row⟩, Or.inl rfl, fun _ e => Or.inr e, fun i hi => hi.elim (fun e => e ▸ h.lt k h.fk) (fun e => h.lt i (h.fl i e))⟩
set_option maxRecDepth 100000 in
theorem RVC.cached (h : RVC F G w a b k lv v d) (hp : RcPost (Hc k lv) w k L2 w') : ∃ F' lv', RVC F' G w' a b k lv' { v with L := L2 } d ∧ Keeps F w w' ∧ ∀ i, F' i → F i ∨ w.heap.size ≤ i := by
  obtain ⟨F2, ⟨lv', rc, _, own, lt⟩, kk, hF2⟩ := hp
  have hsub : ∀ i, Hc k lv i → F i := fun i hi => hi.elim (fun e => e ▸ h.fk) (fun e => h.fl i e)
  refine ⟨fun i => F i ∨ F2 i, lv', ⟨h.dk.keeps kk (fun i hi hc => hc.elim (fun e => h.gk (e ▸ hi)) (fun e => h.gl i e hi)), h.blk.keeps kk (fun hc => hc.elim h.ak (fun e => own_ne h.row h.blk (by decide) a e rfl)), rc.ck, rc.row, Or.inl h.fa, Or.inl h.fk, fun j e => Or.inr (own j e), fun i hi => Or.inl (h.fg i hi), h.ga, h.gk, fun j e hi => ?_, fun i hi => ?_⟩, kk.mono hsub, fun i hi => hi.elim Or.inl (fun q => (hF2 i q).imp (hsub i) id)⟩
  · rcases hF2 j (own j e) with (q | q) | q
    · exact h.gk (q ▸ hi)
    · exact h.gl j q hi
    · have := h.lt j (h.fg j hi); omega
  · exact hi.elim (fun q => Nat.lt_of_lt_of_le (h.lt i q) kk.size) (fun q => lt i q)
/-- what Read comes to -/
def RRead (F : Nat → Prop) (w : World) (a b : Nat) (d : Dk) (r : Vo × ByteArray × Int) (e : Ending) (w' : World) : Prop :=
  e = .returned (.tuple #[.string r.2.1, .int .i64 r.2.2]) ∧ ∃ F', RV F' w' a b r.1 d ∧ Keeps F w w' ∧ ∀ i, F' i → F i ∨ w.heap.size ≤ i
set_option maxRecDepth 100000 in
theorem rread_same (h : RV F w a b v d) (s : ByteArray) (x : Int) : RRead F w a b d (v, s, x) (.returned (.tuple #[.string s, .int .i64 x])) w := ⟨rfl, F, h, Keeps.refl _ _, fun _ hi => Or.inl hi⟩
set_option maxRecDepth 100000 in
set_option maxHeartbeats 16000000 in
theorem rvread_any (h : RV F w a b v d) (hK : Kf v.L) (hf : Fit d) (hmk : d.marks ≤ 4611686018427387904) (n : Int) : Calls Tryz.prog 102 #[.pointer (some ⟨a, 0, none⟩), .int .i64 n] w (RRead F w a b d (readV v d n)) := by
  have hrv := h
  obtain ⟨G, k0, lv, h⟩ := h
  have km := Lib.hid (rvin_any h hf n)
  obtain ⟨Z, hZ⟩ : ∃ Z, Z = readV v d n := ⟨_, rfl⟩
  rw [← hZ]
  obtain ⟨c0, _, _, c3, c4⟩ := h.cells
  by_cases hmay : mayV d n
  · have q1 : decide (mayV d n) = true := decide_eq_true hmay
    rw [q1] at km
    rcases Bool.eq_false_or_eq_true v.dead with hd | hd
    · have e1 := Lib.hid (hZ.trans ((if_neg (fun hh => hh hmay)).trans (if_pos hd)))
      rw [hd] at c4
      have fin := Lib.hid (rread_same hrv ⟨#[]⟩ 2)
      clear h hrv hf hZ hd q1 hmay
      go_enter Tryz.func102, Tryz.ntmps102
      go_wp2_with fail
      refine (km.out).mono ?_
      rintro en w' ⟨rfl, hw'⟩
      replace hw' := hw'.symm
      subst hw'
      go_wp2_with fail
      go_ret2
      rw [e1.out]
      exact fin.out
    · rw [hd] at c4
      have hd' : ¬ v.dead = true := by rw [hd]; decide
      obtain ⟨k, rfl⟩ := Int.eq_ofNat_of_zero_le (show 0 ≤ n by have := hmay.1; omega)
      have hk : k < 4097 := by
        have h1 := hmay.2
        have h2 := hf.few
        unfold blocksD at h1
        omega
      have e1 : Z = readF v d k (find v.L k) := hZ.trans ((if_neg (fun hh => hh hmay)).trans (if_neg hd'))
      cases hfd : find v.L k with
      | some s =>
        have e2 := Lib.hid (show Z = ({ v with L := touchK v.L k s }, s, 0) from e1.trans (by rw [hfd]; rfl))
        have kg := Lib.hid (rcget_yes h.rc hK.apart (Nat.le_trans hK.few (by decide)) hfd)
        replace h := Lib.hid h
        clear hf hrv hZ hd q1 hmay e1 hd' hfd
        go_enter Tryz.func102, Tryz.ntmps102
        go_wp2_with fail
        refine (km.out).mono ?_
        rintro en w' ⟨rfl, hw'⟩
        replace hw' := hw'.symm
        subst hw'
        go_wp2_with fail
        refine kg.out.mono ?_
        rintro e w1 ⟨rfl, hp⟩
        obtain ⟨F', lv', h5, h6, h7⟩ := h.out.cached hp
        have fin := Lib.hid (show ∃ F', RV F' w1 a b { v with L := touchK v.L k s } d ∧ Keeps F w w1 ∧ ∀ i, F' i → F i ∨ w.heap.size ≤ i from ⟨F', h5.rv, h6, h7⟩)
        clear hp h5 h6 h7
        go_wp2_with fail
        go_ret2
        exact ⟨by rw [e2.out]; rfl, by rw [e2.out]; exact fin.out⟩
      | none =>
        have e2 : Z = readG v k (collectD d (4 * k) 4 0 ⟨#[]⟩) := e1.trans (by rw [hfd]; rfl)
        have kg := Lib.hid (rcget_no h.rc (Nat.le_trans hK.few (by decide)) hfd)
        replace e2 := Lib.hid e2
        replace hf := Lib.hid hf
        have hl := Lib.hid h
        clear hZ hd q1 hmay e1 hd' hfd hrv h
        go_enter Tryz.func102, Tryz.ntmps102
        go_wp2_with fail
        refine (km.out).mono ?_
        rintro en w' ⟨rfl, hw'⟩
        replace hw' := hw'.symm
        subst hw'
        go_wp2_with fail
        refine (kg.out).mono ?_
        rintro en w' ⟨rfl, hw'⟩
        replace hw' := hw'.symm
        subst hw'
        go_wp2_with fail
        go_loopw [8, 9] (fun sv i wr => ∃ (j : Nat) (acc : ByteArray), j ≤ 4 ∧ sv = .string acc ∧ i = .int .i64 (j : Int) ∧ collectD d (4 * k) 4 0 ⟨#[]⟩ = collectD d (4 * k) (4 - j) j acc ∧ acc.size = 64 * j ∧ wr = w) (fun _ i _ => 4 - (intOf i).toNat)
        case atStart => exact ⟨0, ⟨#[]⟩, Nat.zero_le _, rfl, rfl, rfl, rfl, rfl⟩
        case round =>
          obtain ⟨j, acc, hj, rfl, rfl, hcol, hsz, hwr⟩ := hrel
          replace hwr := hwr.symm
          subst hwr
          by_cases hlt4 : j < 4
          · have kr := rread_any hl.out.dk hf.out hmk ((4 * k + j : Nat) : Int)
            have hrs := fun h0 => (readD_size hf.out (n := ((4 * k + j : Nat) : Int)) h0).1
            have a1 : 4 * (k : Int) + (j : Int) = ((4 * k + j : Nat) : Int) := by omega
            have hstep : collectD d (4 * k) (4 - j) j acc = if (readD d ((4 * k + j : Nat) : Int)).2 ≠ 0 then (acc, (readD d ((4 * k + j : Nat) : Int)).2) else collectD d (4 * k) (4 - (j + 1)) (j + 1) (acc ++ (readD d ((4 * k + j : Nat) : Int)).1) := by
              rw [show 4 - j = (4 - (j + 1)) + 1 by omega]
              rfl
            rw [hstep] at hcol
            have hnb : 4 * k + j ≤ 20000 := by omega
            generalize 4 * k + j = nb at kr hrs a1 hcol hnb
            generalize readD d (nb : Int) = R at kr hrs hcol
            replace kr := Lib.hid kr
            by_cases hz : R.2 = 0
            · rw [if_neg (fun hh => hh hz)] at hcol
              rw [hz] at kr
              have hs64 := hrs hz
              have hsum : ¬ 9223372036854775807 < acc.size + R.1.size := by omega
              have hfin : (acc ++ R.1).size = 64 * (j + 1) := by rw [ByteArray.size_append]; omega
              replace hcol := Lib.hid hcol
              replace hz := Lib.hid hz
              replace hfin := Lib.hid hfin
              clear hstep hrs
              go_wp2_with fail
              refine kr.out.mono ?_
              rintro e w1 ⟨rfl, hw1⟩
              replace hw1 := hw1.symm
              subst hw1
              go_wp2_with fail
              exact ⟨⟨j + 1, acc ++ R.1, hlt4, rfl, rfl, hcol.out, hfin.out, by first | rfl | trivial⟩, by simp [intOf]; omega⟩
            · rw [if_pos hz] at hcol
              have e4 : Z = (tellV v R.2, ⟨#[]⟩, R.2) := by rw [e2.out, hcol]; exact if_pos hz
              have hz' : (R.2 != 0) = true := bne_iff_ne.2 hz
              replace e4 := Lib.hid e4
              clear hcol hstep hrs hz
              go_wp2_with fail
              refine kr.out.mono ?_
              rintro e w1 ⟨rfl, hw1⟩
              replace hw1 := hw1.symm
              subst hw1
              go_wp2_with fail
              refine (rvtold_any hl.out _).mono ?_
              rintro e w2 ⟨rfl, h2, k2⟩
              replace k2 := Lib.hid k2
              replace h2 := Lib.hid h2.rv
              go_wp2_with fail
              go_ret2
              exact ⟨by rw [e4.out]; rfl, F, by rw [e4.out]; exact h2.out, k2.out, fun i hi => Or.inl hi⟩
          · obtain rfl : j = 4 := by omega
            have hcol2 : collectD d (4 * k) 4 0 ⟨#[]⟩ = (acc, 0) := hcol
            have e3 : Z = readU v k (unframeV acc) := by rw [e2.out, hcol2]; exact if_neg (fun hh => hh rfl)
            have ku := Lib.hid (fun W => runframe_any acc W)
            obtain ⟨U, hU⟩ : ∃ U, U = unframeV acc := ⟨_, rfl⟩
            rw [← hU] at ku e3
            replace hU := Lib.hid hU
            clear hcol hcol2
            by_cases hz : U.2 = 0
            · have e4 : Z = ({ v with L := putK v.L k U.1 }, U.1, 0) := e3.trans (if_neg (fun hh => hh hz))
              rw [hz] at ku
              replace e4 := Lib.hid e4
              replace hz := Lib.hid hz
              clear e3
              go_wp2_with fail
              refine (ku.out _).mono ?_
              rintro e w2 ⟨rfl, b2⟩
              have h2 := Lib.hid (hl.out.below b2)
              have kk2 := Lib.hid (Keeps.of_below F b2)
              have kp := Lib.hid (rcput_any h2.out.rc hK k U.1)
              have d3 := h2.out.cells.2.2.2.1
              clear b2
              go_wp2_with fail
              refine kp.out.mono ?_
              rintro e w3 ⟨z, y, rfl, hp⟩
              obtain ⟨F', lv', h5, h6, h7⟩ := h2.out.cached hp
              have fin := Lib.hid (show ∃ F', RV F' w3 a b { v with L := putK v.L k U.1 } d ∧ Keeps F w w3 ∧ ∀ i, F' i → F i ∨ w.heap.size ≤ i from ⟨F', h5.rv, kk2.out.trans h6 (fun i hi => Or.inl hi), fun i hi => (h7 i hi).imp id (fun q => Nat.le_trans kk2.out.size q)⟩)
              clear hp h5 h6 h7 kp d3
              go_wp2_with fail
              go_ret2
              exact ⟨by rw [e4.out]; rfl, by rw [e4.out]; exact fin.out⟩
            · have e4 : Z = (v, ⟨#[]⟩, U.2) := e3.trans (if_pos hz)
              have hz' : (U.2 == 0) = false := beq_false_of_ne hz
              replace e4 := Lib.hid e4
              have hu1 : U.1 = ⟨#[]⟩ := by rw [hU.out, unframe_err (by rw [← hU.out]; exact hz)]
              rw [hu1] at ku
              clear e3 hz
              go_wp2_with fail
              refine (ku.out _).mono ?_
              rintro e w2 ⟨rfl, b2⟩
              have h2 := Lib.hid (hl.out.below b2).rv
              have kk2 := Lib.hid (Keeps.of_below F b2)
              clear b2
              go_wp2_with fail
              go_ret2
              exact ⟨by rw [e4.out]; rfl, F, by rw [e4.out]; exact h2.out, kk2.out, fun i hi => Or.inl hi⟩
  · have q1 : decide (mayV d n) = false := decide_eq_false hmay
    rw [q1] at km
    have e1 := Lib.hid (hZ.trans (if_pos hmay))
    have fin := Lib.hid (rread_same hrv ⟨#[]⟩ 81)
    clear h hrv hf hZ q1 hmay
    go_enter Tryz.func102, Tryz.ntmps102
    go_wp2_with fail
    refine (km.out).mono ?_
    rintro en w' ⟨rfl, hw'⟩
    replace hw' := hw'.symm
    subst hw'
    go_wp2_with fail
    go_ret2
    rw [e1.out]
    exact fin.out
end
end Go.Proofs.YtajlfmnjibgbaaaGreatDoor.Vl
/- The document's volume: Write. -/
namespace Go.Proofs.YtajlfmnjibgbaaaGreatDoor.Vl
open Go Go.RowKit Go.Maps Mem Disk Nv
section
variable {F G K : Nat → Prop} {w w' : World} {a b m : Nat} {v v' : Vo} {d d' : Dk}
/-- where Write's loop stands -/
def RWAt (F : Nat → Prop) (w : World) (a b k0 : Nat) (lv : Value) (m : Nat) (v : Vo) (s : ByteArray) (k : Nat) (Y : Vo × Dk × Int) (j : Nat) (wr : World) : Prop :=
  ∃ (d' : Dk) (F' G' : Nat → Prop), Y = wloopV v s k (4 - j) j d' ∧ RVC F' G' wr a b k0 lv v d' ∧ Fit d' ∧ NumTo (m + j) d' ∧ Keeps F w wr ∧ (∀ i, F' i → F i ∨ w.heap.size ≤ i)
set_option maxRecDepth 100000 in
set_option maxHeartbeats 16000000 in
theorem rvwrite_any (h : RV F w a b v d) (hK : Kf v.L) (hf : Fit d) (hn : NumTo m d) (hm : m ≤ 900000) (n : Int) (p : ByteArray) (hp : p.size ≤ 9223372036854775807) :
    Calls Tryz.prog 20 #[.pointer (some ⟨a, 0, none⟩), .int .i64 n, .string p] w (RPost F w a b (writeV v d n p)) := by
  have hrv := h
  obtain ⟨G, k0, lv, h⟩ := h
  have km := Lib.hid (rvin_any h hf n)
  have kf := rframe_any p w hp
  obtain ⟨Z, hZ⟩ : ∃ Z, Z = writeV v d n p := ⟨_, rfl⟩
  rw [← hZ]
  obtain ⟨_, _, _, _, c4⟩ := h.cells
  by_cases hmay : mayV d n
  · have q1 : decide (mayV d n) = true := decide_eq_true hmay
    rw [q1] at km
    have hZ1 : Z = if 240 < p.size then (v, d, 83) else if v.dead = true then (v, d, 2) else writeX n.toNat p (wloopV v (frameB p) n.toNat 4 0 d) := hZ.trans (if_neg (fun hh => hh hmay))
    by_cases h240 : 240 < p.size
    · rw [show frameV p = (⟨#[]⟩, 83) from if_pos h240] at kf
      have e1 := Lib.hid (hZ1.trans (if_pos h240))
      replace kf := Lib.hid kf
      replace h := Lib.hid h
      clear hf hZ hZ1 q1 hmay h240 hn c4
      go_enter Tryz.func20, Tryz.ntmps20
      go_wp2_with fail
      refine (km.out).mono ?_
      rintro en w' ⟨rfl, hw'⟩
      replace hw' := hw'.symm
      subst hw'
      go_wp2_with fail
      refine kf.out.mono ?_
      rintro e w1 ⟨rfl, hb⟩
      have h1 := Lib.hid (h.out.below hb)
      replace hb := Lib.hid hb
      go_wp2_with fail
      go_ret
      rw [e1.out]
      exact ⟨rfl, F, h1.out.rv, Keeps.of_below F hb.out, fun i hi => Or.inl hi⟩
    · rw [show frameV p = (frameB p, 0) from if_neg h240] at kf
      have hs := frameB_size (p := p) (by omega)
      have hZ2 : Z = if v.dead = true then (v, d, 2) else writeX n.toNat p (wloopV v (frameB p) n.toNat 4 0 d) := hZ1.trans (if_neg h240)
      generalize frameB p = s at kf hs hZ2
      replace kf := Lib.hid kf
      rcases Bool.eq_false_or_eq_true v.dead with hd | hd
      · have e1 := Lib.hid (hZ2.trans (if_pos hd))
        replace h := Lib.hid h
        rw [hd] at c4
        clear hf hZ hZ1 hZ2 q1 hmay h240 hn
        go_enter Tryz.func20, Tryz.ntmps20
        go_wp2_with fail
        refine (km.out).mono ?_
        rintro en w' ⟨rfl, hw'⟩
        replace hw' := hw'.symm
        subst hw'
        go_wp2_with fail
        refine kf.out.mono ?_
        rintro e w1 ⟨rfl, hb⟩
        have h1 := h.out.below hb
        have d4 := h1.cells.2.2.2.2
        rw [hd] at d4
        replace h1 := Lib.hid h1
        replace hb := Lib.hid hb
        replace hd := Lib.hid hd
        go_wp2_with fail
        go_ret
        rw [e1.out]
        exact ⟨rfl, F, h1.out.rv, Keeps.of_below F hb.out, fun i hi => Or.inl hi⟩
      · obtain ⟨k, rfl⟩ := Int.eq_ofNat_of_zero_le (show 0 ≤ n by have := hmay.1; omega)
        have hk : k < 4097 := by
          have h1 := hmay.2
          have h2 := hf.few
          unfold blocksD at h1
          omega
        have hZ3 : Z = writeX k p (wloopV v s k 4 0 d) := hZ2.trans (if_neg (by rw [hd]; decide))
        obtain ⟨Y, hY⟩ : ∃ Y, Y = wloopV v s k 4 0 d := ⟨_, rfl⟩
        rw [← hY] at hZ3
        have st0 : ∀ w1, Below w.heap.size w w1 → RWAt F w a b k0 lv m v s k Y 0 w1 := fun w1 hb => ⟨d, F, G, hY, h.below hb, hf, hn, Keeps.of_below F hb, fun i hi => Or.inl hi⟩
        have hd4 : ∀ w1, Below w.heap.size w w1 → w1.cell? ⟨a, 4, none⟩ = some (.bool false) := fun w1 hb => by
          have := (h.below hb).cells.2.2.2.2
          rwa [hd] at this
        replace st0 := Lib.hid st0
        replace hd4 := Lib.hid hd4
        replace hZ3 := Lib.hid hZ3
        clear hf hZ hZ1 hZ2 q1 hmay hn hY h c4 hd
        go_enter Tryz.func20, Tryz.ntmps20
        go_wp2_with fail
        refine (km.out).mono ?_
        rintro en w' ⟨rfl, hw'⟩
        replace hw' := hw'.symm
        subst hw'
        go_wp2_with fail
        refine kf.out.mono ?_
        rintro e w1 ⟨rfl, hb⟩
        have d4 := hd4.out w1 hb
        have st := Lib.hid (st0.out w1 hb)
        clear hb hd4 st0
        go_wp2_with fail
        clear d4

        go_loopw [9] (fun i wr => ∃ j : Nat, j ≤ 4 ∧ i = .int .i64 (j : Int) ∧ RWAt F w a b k0 lv m v s k Y j wr) (fun i _ => 4 - (intOf i).toNat)
        case atStart => exact ⟨0, Nat.zero_le _, rfl, st.out⟩
        case round =>
          clear st
          obtain ⟨j, hj, rfl, d1, F1, G1, hY1, hv, hf1, hn1, kk, hF1⟩ := hrel
          have hsw := kk.size
          by_cases hlt4 : j < 4
          · have c0 := hv.cells.1
            have a1 : 4 * (k : Int) + (j : Int) = ((4 * k + j : Nat) : Int) := by omega
            have a2 : 64 * (j : Int) = ((64 * j : Nat) : Int) := by omega
            have a3 : 64 * (j : Int) + 64 = ((64 * j + 64 : Nat) : Int) := by omega
            have hw := fun W G' (hd : IsRk G' W b d1) => rwrite_any hd (hn1.num_ (by omega)) hf1 ((4 * k + j : Nat) : Int) (s.extract (64 * j) (64 * j + 64))
            have hfR := hf1.write ((4 * k + j : Nat) : Int) (s.extract (64 * j) (64 * j + 64))
            have hnR := hn1.write ((4 * k + j : Nat) : Int) (s.extract (64 * j) (64 * j + 64))
            have hstep : Y = if (writeD d1 ((4 * k + j : Nat) : Int) (s.extract (64 * j) (64 * j + 64))).2 ≠ 0 then ({ tellV v (writeD d1 ((4 * k + j : Nat) : Int) (s.extract (64 * j) (64 * j + 64))).2 with L := dropK v.L k }, writeD d1 ((4 * k + j : Nat) : Int) (s.extract (64 * j) (64 * j + 64))) else wloopV v s k (4 - (j + 1)) (j + 1) (writeD d1 ((4 * k + j : Nat) : Int) (s.extract (64 * j) (64 * j + 64))).1 := by
              rw [hY1, show 4 - j = (4 - (j + 1)) + 1 by omega]
              rfl
            have hnb : 4 * k + j ≤ 20000 := by omega
            obtain ⟨x0, hx0⟩ : ∃ x, x = 64 * j := ⟨_, rfl⟩
            obtain ⟨x1, hx1⟩ : ∃ x, x = 64 * j + 64 := ⟨_, rfl⟩
            obtain ⟨nb, hnbe⟩ : ∃ x, x = 4 * k + j := ⟨_, rfl⟩
            rw [← hx1] at a3 hw hfR hnR hstep
            rw [← hx0] at a2 hw hfR hnR hstep
            rw [← hnbe] at a1 hw hfR hnR hstep hnb
            have vv1 : IntKind.i64.wrap (64 * (j : Int)) = (x0 : Int) := by rw [a2]; exact IntWalk.i64_in _ (by omega)
            have a4 : (x0 : Int) + 64 = (x1 : Int) := by omega
            have vv3 : IntKind.i64.wrap ((x0 : Int) + 64) = (x1 : Int) := by rw [a4]; exact IntWalk.i64_in _ (by omega)
            have vv4 : IntKind.i64.wrap (4 * (k : Int)) = 4 * (k : Int) := IntWalk.i64_in _ (by omega)
            have vv5 : IntKind.i64.wrap (4 * (k : Int) + (j : Int)) = (nb : Int) := by rw [a1]; exact IntWalk.i64_in _ (by omega)
            have l1 : (x0 : Int) ≤ (x1 : Int) := by omega
            have l2 : (x1 : Int) ≤ (s.size : Int) := by omega
            have l5 : (0 : Int) ≤ (x0 : Int) := by omega
            have hsl : ∀ W, (Instr.slice 9 (.string s) (some (.int .i64 (x0 : Int))) (some (.int .i64 (x1 : Int))) none).run Tryz.prog W = .ok (.string (s.extract x0 x1)) W := fun W => run_slice_string (P := Tryz.prog) W 9 s .i64 .i64 (x0 : Int) (x1 : Int) Tryz.underlying9 l5 l1 l2
            have l6 : (x1 : Int) ≤ 256 := by omega
            clear l2 a1 a2 a3 a4
            generalize writeD d1 (nb : Int) (s.extract x0 x1) = R at hw hfR hnR hstep
            have hlt := hv.lt
            have c0d : wr.drew.cell? ⟨a, 0, none⟩ = some (.pointer (some ⟨b, 0, none⟩)) := c0
            have hvd := hv.below ((Below.refl _ wr).drew)
            have kkd := kk.drewN 1
            have kkd' : Keeps F w wr.drew := kkd
            replace hw := Lib.hid hw
            replace hfR := Lib.hid hfR
            replace hnR := Lib.hid hnR
            replace hvd := Lib.hid hvd
            replace kkd' := Lib.hid kkd'
            replace hlt := Lib.hid hlt
            replace hF1 := Lib.hid hF1
            replace hfg := Lib.hid hv.fg
            clear hv kk kkd c0 hf1 hn1 hY1 hx0 hx1 hnbe
            by_cases hz : R.2 = 0
            · have e1 := Lib.hid (hstep.trans (if_neg (fun hh => hh hz)))
              rw [hz] at hw
              replace hz := Lib.hid hz
              clear hstep
              go_wp2_with fail
              go_region_held3 (fun w' => w'.cell? ⟨a, 0, none⟩ = some (.pointer (some ⟨b, 0, none⟩)))
                (first
                  | exact c0d
                  | exact s4
                  | exact s5
                  | go_keep)
                (first
                  | (go_at_call 47; refine (hw.out _ _ hvd.out.dk).mono ?_; rintro e w4 ⟨rfl, G4, hd4, kk4, hG4⟩; have h4 := Lib.hid (hvd.out.disk hd4 kk4 hG4); have s4 := h4.out.cells.1; have f4 := Lib.hid (show Keeps F w w4 from kkd'.out.trans (kk4.mono hfg.out) hF1.out); have g4 := Lib.hid hG4)
                  | (go_at_call 46; refine (rvtold_any h4.out _).mono ?_; rintro e w5 ⟨rfl, h5, k5⟩; have s5 := h5.cells.1))
              have hF5 := Lib.hid (show ∀ i, (F1 i ∨ G4 i) → F i ∨ w.heap.size ≤ i from fun i hi => hi.elim (hF1.out i) (fun hg => (g4.out i hg).elim (fun q => hF1.out i (hfg.out i q)) (fun q => Or.inr (Nat.le_trans kkd'.out.size q))))
              have kk5 := Lib.hid (f4.out.trans k5 hF5.out)
              clear s4 h4 f4 g4 k5 vv1 vv3 vv4 vv5 hsl
              rw [tellV_zero] at h5
              have fin : ∃ j' : Nat, j' ≤ 4 ∧ Value.int .i64 ((j : Int) + 1) = .int .i64 (j' : Int) ∧ RWAt F w a b k0 lv m v s k Y j' w5 :=
                ⟨j + 1, hlt4, rfl, R.1, _, G4, e1.out, h5, hfR.out, hnR.out, kk5.out, hF5.out⟩
              replace fin := Lib.hid fin
              clear h5 s5
              go_wp2_with fail
              exact ⟨fin.out, by simp [intOf]; omega⟩
            · have e1 := hstep.trans (if_pos hz)
              have hz' : (R.2 != 0) = true := bne_iff_ne.2 hz
              have e2 : Z = ({ tellV v R.2 with L := dropK v.L k }, R) := by rw [hZ3.out, e1]; exact if_pos hz
              replace e2 := Lib.hid e2
              clear hstep e1 hz
              go_wp2_with fail
              go_region_held3 (fun w' => w'.cell? ⟨a, 0, none⟩ = some (.pointer (some ⟨b, 0, none⟩)))
                (first
                  | exact c0d
                  | exact s4
                  | exact s5
                  | go_keep)
                (first
                  | (go_at_call 47; refine (hw.out _ _ hvd.out.dk).mono ?_; rintro e w4 ⟨rfl, G4, hd4, kk4, hG4⟩; have h4 := Lib.hid (hvd.out.disk hd4 kk4 hG4); have s4 := h4.out.cells.1; have f4 := Lib.hid (show Keeps F w w4 from kkd'.out.trans (kk4.mono hfg.out) hF1.out); have g4 := Lib.hid hG4)
                  | (go_at_call 46; refine (rvtold_any h4.out _).mono ?_; rintro e w5 ⟨rfl, h5, k5⟩; have s5 := h5.cells.1))
              have hF5 := Lib.hid (show ∀ i, (F1 i ∨ G4 i) → F i ∨ w.heap.size ≤ i from fun i hi => hi.elim (hF1.out i) (fun hg => (g4.out i hg).elim (fun q => hF1.out i (hfg.out i q)) (fun q => Or.inr (Nat.le_trans kkd'.out.size q))))
              have kk5 := Lib.hid (f4.out.trans k5 hF5.out)
              clear s4 h4 f4 g4 k5 vv1 vv3 vv4 vv5 hsl
              have c3 := h5.cells.2.2.2.1
              have kd := Lib.hid (rcdrop_any h5.rc hK.apart (Nat.le_trans hK.few (by decide)) k)
              replace h5 := Lib.hid h5
              clear s5
              go_wp2_with fail
              refine kd.out.mono ?_
              rintro e w6 ⟨rfl, hp6⟩
              obtain ⟨F6, lv6, h6, k6, f6⟩ := h5.out.cached hp6
              have fin := Lib.hid (show ∃ F', RV F' w6 a b { tellV v R.2 with L := dropK v.L k } R.1 ∧ Keeps F w w6 ∧ ∀ i, F' i → F i ∨ w.heap.size ≤ i from ⟨F6, h6.rv, kk5.out.trans k6 hF5.out, into hF5.out kk5.out.size f6⟩)
              clear hp6 h6 k6 f6 c3 h5
              go_wp2_with fail
              go_ret
              exact ⟨by rw [e2.out]; rfl, by rw [e2.out]; exact fin.out⟩
          · obtain rfl : j = 4 := by omega
            have hY2 : Y = (v, d1, 0) := hY1
            have e2 : Z = ({ v with L := putK v.L k p }, d1, 0) := by rw [hZ3.out, hY2]; exact if_neg (fun hh => hh rfl)
            have c3 := hv.cells.2.2.2.1
            have kp := Lib.hid (rcput_any hv.rc hK k p)
            replace e2 := Lib.hid e2
            replace hv := Lib.hid hv
            replace kk := Lib.hid kk
            replace hF1 := Lib.hid hF1
            clear hY1 hY2 hf1 hn1
            go_wp2_with fail
            refine kp.out.mono ?_
            rintro e w3 ⟨z, y, rfl, hp3⟩
            obtain ⟨F6, lv6, h6, k6, f6⟩ := hv.out.cached hp3
            have fin := Lib.hid (show ∃ F', RV F' w3 a b { v with L := putK v.L k p } d1 ∧ Keeps F w w3 ∧ ∀ i, F' i → F i ∨ w.heap.size ≤ i from ⟨F6, h6.rv, kk.out.trans k6 hF1.out, into hF1.out kk.out.size f6⟩)
            clear hp3 h6 k6 f6 c3
            go_wp2_with fail
            go_ret
            exact ⟨by rw [e2.out]; rfl, by rw [e2.out]; exact fin.out⟩
  · have q1 : decide (mayV d n) = false := decide_eq_false hmay
    rw [q1] at km
    have e1 := Lib.hid (hZ.trans (if_pos hmay))
    have fin := Lib.hid (rpost_same hrv 81)
    clear h hrv hf hZ q1 hmay hn kf
    go_enter Tryz.func20, Tryz.ntmps20
    go_wp2_with fail
    refine (km.out).mono ?_
    rintro en w' ⟨rfl, hw'⟩
    replace hw' := hw'.symm
    subst hw'
    go_wp2_with fail
    go_ret
    rw [e1.out]
    exact fin.out
end
end Go.Proofs.YtajlfmnjibgbaaaGreatDoor.Vl

/- The document's disk in memory: the functions that only read; step, Arm, Revive. -/
import Derived.Test.YtajlfmnjibgbaaaGreatDoorDiskW2
import Derived.Test.YtajlfmnjibgbaaaGreatDoorRowz
import Derived.Deep.RegionHeld3
import Derived.Test.YtajlfmnjibgbaaaGreatDoorDiskPl
namespace Go.Proofs.YtajlfmnjibgbaaaGreatDoor.Disk
open Go Go.RowKit Go.Maps Mem

def pairs (L : List (Nat × ByteArray)) : List Value := L.flatMap fun p => [.int .i64 (p.1 : Int), .string p.2]
set_option maxRecDepth 100000 in
theorem pairs_length (L : List (Nat × ByteArray)) : (pairs L).length = L.length * 2 := by
  unfold pairs
  induction L with
  | nil => rfl
  | cons p L ih => rw [List.flatMap_cons, List.length_append, ih]; simp; omega
set_option maxRecDepth 100000 in
theorem pairs_snoc (L : List (Nat × ByteArray)) (p : Nat × ByteArray) : pairs (L ++ [p]) = pairs L ++ [.int .i64 (p.1 : Int), .string p.2] := by simp [pairs]
set_option maxRecDepth 100000 in
theorem pairs_at : ∀ {L : List (Nat × ByteArray)} {k : Nat} {p : Nat × ByteArray}, L[k]? = some p → (pairs L)[k * 2]? = some (.int .i64 (p.1 : Int)) ∧ (pairs L)[k * 2 + 1]? = some (.string p.2)
  | [], k, p, h => by simp at h
  | q :: L, 0, p, h => by
    injection h with h
    subst h
    exact ⟨rfl, rfl⟩
  | q :: L, k + 1, p, h => by
    have h' : L[k]? = some p := h
    obtain ⟨h1, h2⟩ := pairs_at h'
    have e : pairs (q :: L) = .int .i64 (q.1 : Int) :: .string q.2 :: pairs L := rfl
    rw [e, show (k + 1) * 2 = (k * 2 + 1) + 1 by omega]
    exact ⟨h1, h2⟩
/-- the seven cells -/
def rkc (sb sc : Nat) (lv bv : Value) (d : Dk) : Array Value := #[.slice (some ⟨sb, 0, none⟩) d.stays.length sc, lv, bv, .int .i64 (d.steps : Int), .int .i64 (d.armed : Int), .string d.keep, .bool d.dead]
def bads (B : List Nat) : List Value := B.map fun k : Nat => Value.int .i64 (k : Int)
structure RCore (F : Nat → Prop) (w : World) (b : Nat) (d : Dk) (sb sc : Nat) (lv bv : Value) (B : List Nat) : Prop where
  blk : Blk w b 136 (rkc sb sc lv bv d)
  st : w.ownsRow 0 9 1 (.slice (some ⟨sb, 0, none⟩) d.stays.length sc) d.stays.length (d.stays.map Value.string)
  ls : w.ownsRow 0 139 2 lv d.L.length (pairs d.L)
  bd : w.ownsRow 0 3 1 bv B.length (bads B)
  mem : ∀ k, k ∈ B ↔ d.bad k = true
  few : B.length ≤ d.marks
  fb : F b
  fs : F sb
  fl : ∀ j, lv.ownBlock = some j → F j
  fd : ∀ j, bv.ownBlock = some j → F j
  lt : ∀ i, F i → i < w.heap.size
/-- the document's disk at b, its blocks F -/
def IsRk (F : Nat → Prop) (w : World) (b : Nat) (d : Dk) : Prop := ∃ sb sc lv bv B, RCore F w b d sb sc lv bv B
section
variable {F G : Nat → Prop} {w w' : World} {b : Nat} {d d' : Dk} {sb sc : Nat} {lv bv : Value} {B : List Nat}
set_option maxRecDepth 100000 in
theorem RCore.rk (h : RCore F w b d sb sc lv bv B) : IsRk F w b d := ⟨_, _, _, _, _, h⟩
set_option maxRecDepth 100000 in
theorem RCore.keeps (h : RCore F w b d sb sc lv bv B) (hk : Keeps G w w') (hn : ∀ i, F i → ¬ G i) : RCore F w' b d sb sc lv bv B :=
  ⟨h.blk.keeps hk (hn b h.fb), own_keeps h.st hk (fun j e => by injection e with e; exact e ▸ hn sb h.fs), own_keeps h.ls hk (fun j e => hn j (h.fl j e)), own_keeps h.bd hk (fun j e => hn j (h.fd j e)), h.mem, h.few, h.fb, h.fs, h.fl, h.fd, fun i hi => Nat.lt_of_lt_of_le (h.lt i hi) hk.size⟩
set_option maxRecDepth 100000 in
theorem RCore.below (h : RCore F w b d sb sc lv bv B) (hb : Below w.heap.size w w') : RCore F w' b d sb sc lv bv B := h.keeps (Keeps.of_below (fun _ => False) hb) (fun _ _ h => h)
set_option maxRecDepth 100000 in
theorem IsRk.keeps (h : IsRk F w b d) (hk : Keeps G w w') (hn : ∀ i, F i → ¬ G i) : IsRk F w' b d := by
  obtain ⟨sb, sc, lv, bv, B, h⟩ := h
  exact (h.keeps hk hn).rk
set_option maxRecDepth 100000 in
theorem IsRk.below (h : IsRk F w b d) (hb : Below w.heap.size w w') : IsRk F w' b d := h.keeps (Keeps.of_below (fun _ => False) hb) (fun _ _ h => h)
set_option maxRecDepth 100000 in
theorem IsRk.lt (h : IsRk F w b d) : ∀ i, F i → i < w.heap.size := by
  obtain ⟨sb, sc, lv, bv, B, h⟩ := h
  exact h.lt
set_option maxRecDepth 100000 in
theorem RCore.ne (h : RCore F w b d sb sc lv bv B) : sb ≠ b ∧ (∀ j, lv.ownBlock = some j → j ≠ b) ∧ (∀ j, bv.ownBlock = some j → j ≠ b) ∧ (∀ j, lv.ownBlock = some j → j ≠ sb) ∧ ∀ j, bv.ownBlock = some j → j ≠ sb := by
  refine ⟨own_ne h.st h.blk (by decide) _ rfl, own_ne h.ls h.blk (by decide), own_ne h.bd h.blk (by decide), ?_, ?_⟩
  · rcases h.st.2 with ⟨e, _⟩ | ⟨g, cap, cur, hv, _, hg, _⟩
    · cases e
    · injection hv with hv
      injection hv with hv
      injection hv with hv
      subst hv
      exact own_ne (cs := cur) h.ls hg (by decide)
  · rcases h.st.2 with ⟨e, _⟩ | ⟨g, cap, cur, hv, _, hg, _⟩
    · cases e
    · injection hv with hv
      injection hv with hv
      injection hv with hv
      subst hv
      exact own_ne (cs := cur) h.bd hg (by decide)
set_option maxRecDepth 100000 in
/-- the block's own cells turn, and nothing else -/
theorem RCore.reput (h : RCore F w b d sb sc lv bv B) (kk : Keeps (fun j => j = b) w w') (hB : Blk w' b 136 (rkc sb sc lv bv d')) (e1 : d'.stays = d.stays) (e2 : d'.L = d.L) (e3 : d'.bad = d.bad) (e4 : d'.marks = d.marks) :
    IsRk F w' b d' ∧ Keeps F w w' := by
  have hne := h.ne
  refine ⟨⟨sb, sc, lv, bv, B, hB, ?_, ?_, own_keeps h.bd kk hne.2.2.1, ?_, ?_, h.fb, h.fs, h.fl, h.fd, fun i hi => Nat.lt_of_lt_of_le (h.lt i hi) kk.size⟩, kk.mono (fun i e => e ▸ h.fb)⟩
  · rw [e1]; exact own_keeps h.st kk (fun j e => by injection e with e; subst e; exact hne.1)
  · rw [e2]; exact own_keeps h.ls kk hne.2.1
  · rw [e3]; exact h.mem
  · rw [e4]; exact h.few
set_option maxRecDepth 100000 in
theorem RCore.cells (h : RCore F w b d sb sc lv bv B) : w.cell? ⟨b, 0, none⟩ = some (.slice (some ⟨sb, 0, none⟩) d.stays.length sc) ∧ w.cell? ⟨b, 1, none⟩ = some lv ∧ w.cell? ⟨b, 2, none⟩ = some bv ∧ w.cell? ⟨b, 3, none⟩ = some (.int .i64 (d.steps : Int)) ∧
    w.cell? ⟨b, 4, none⟩ = some (.int .i64 (d.armed : Int)) ∧ w.cell? ⟨b, 5, none⟩ = some (.string d.keep) ∧ w.cell? ⟨b, 6, none⟩ = some (.bool d.dead) :=
  ⟨h.blk.cell 0, h.blk.cell 1, h.blk.cell 2, h.blk.cell 3, h.blk.cell 4, h.blk.cell 5, h.blk.cell 6⟩

set_option maxRecDepth 100000 in
set_option maxHeartbeats 2000000 in
theorem rmay_any (h : IsRk F w b d) (n : Int) : Calls Tryz.prog 74 #[.pointer (some ⟨b, 0, none⟩), .int .i64 n] w fun e w' => e = .returned (.int .i64 (mayE d n)) ∧ w' = w := by
  obtain ⟨sb, sc, lv, bv, B, h⟩ := h
  obtain ⟨c0, _, _, _, _, _, c6⟩ := h.cells
  unfold mayE
  clear h
  cases hd : d.dead with
  | true =>
    rw [hd] at c6
    replace hd := Lib.hid hd
    go_enter Tryz.func74, Tryz.ntmps74
    go_wp2_with fail
    go_ret
    exact ⟨rfl, rfl⟩
  | false =>
    rw [hd] at c6
    replace hd := Lib.hid hd
    rw [if_neg (by decide)]
    by_cases h0 : n < 0
    · rw [if_pos (Or.inl h0)]
      go_enter Tryz.func74, Tryz.ntmps74
      go_wp2_with fail
      go_ret
      exact ⟨rfl, rfl⟩
    · by_cases h2 : (d.stays.length : Int) ≤ n
      · rw [if_pos (Or.inr h2)]
        go_enter Tryz.func74, Tryz.ntmps74
        go_wp2_with fail
        go_ret
        exact ⟨rfl, rfl⟩
      · rw [if_neg (fun h => h.elim h0 h2)]
        go_enter Tryz.func74, Tryz.ntmps74
        go_wp2_with fail
        go_ret
        exact ⟨rfl, rfl⟩
set_option maxRecDepth 100000 in
set_option maxHeartbeats 2000000 in
theorem rbad_any_ (h : IsRk F w b d) (n : Nat) (hm : d.marks ≤ 4611686018427387904) : Calls Tryz.prog 75 #[.pointer (some ⟨b, 0, none⟩), .int .i64 (n : Int)] w fun e w' => e = .returned (.bool (d.bad n)) ∧ w' = w := by
  obtain ⟨sb, sc, lv, bv, B, h⟩ := h
  obtain ⟨A, c, rfl⟩ := own_slice h.bd
  obtain ⟨_, _, c2, _⟩ := h.cells
  have hmem := h.mem n
  have hfew := h.few
  have hrow := Mem.Row.of_own h.bd
  clear h
  obtain ⟨M, hM⟩ : ∃ M, M = B.length := ⟨_, rfl⟩
  rw [← hM] at c2 hrow hfew
  replace hM := Lib.hid hM
  obtain ⟨x, hx⟩ : ∃ x, x = d.bad n := ⟨_, rfl⟩
  rw [← hx] at hmem ⊢
  clear hx
  replace hmem := Lib.hid hmem
  replace hrow := Lib.hid hrow
  go_enter Tryz.func75, Tryz.ntmps75
  go_wp2_with fail
  go_loop [5] (fun t => ∃ k : Nat, k ≤ M ∧ t = .int .i64 (k : Int) ∧ ∀ j, j < k → B[j]? ≠ some n) (fun t => M - (intOf t).toNat)
  case atStart => exact ⟨0, Nat.zero_le _, rfl, fun j hj => absurd hj (Nat.not_lt_zero _)⟩
  case round =>
    obtain ⟨k, hk, rfl, hno⟩ := hrel
    replace hno := Lib.hid hno
    by_cases hlt : k < M
    · obtain ⟨ad, u, rfl, hu, hc⟩ := hrow.out.at_ hlt
      obtain ⟨v, hv⟩ : ∃ v, B[k]? = some v := ⟨_, List.getElem?_eq_getElem (by have := hM.out; omega)⟩
      rw [bads, List.getElem?_map, hv] at hu
      injection hu with hu
      subst hu
      have z1 : (k : Int) < (M : Int) := by omega
      by_cases hvn : v = n
      · subst hvn
        have hx1 : x = true := hmem.out.1 (List.mem_of_getElem? hv)
        subst hx1
        clear hv
        go_wp2_with fail
        go_ret
        exact ⟨rfl, rfl⟩
      · have q1 : ((v : Int) == (n : Int)) = false := by simp; omega
        have hno2 : ∀ j, j < k + 1 → B[j]? ≠ some n := fun j hj => by
          rcases Nat.lt_succ_iff_lt_or_eq.1 hj with h | rfl
          · exact hno.out j h
          · rw [hv]; intro e; injection e with e; exact hvn e
        replace hno2 := Lib.hid hno2
        clear hv hvn
        go_wp2_with fail
        exact ⟨⟨k + 1, hlt, rfl, hno2.out⟩, by simp [intOf]; omega⟩
    · obtain rfl : k = M := by omega
      have hx0 : x = false := by
        cases hxx : x with
        | false => rfl
        | true =>
          obtain ⟨j, hj, e⟩ := List.getElem_of_mem (hmem.out.2 hxx)
          exact absurd (List.getElem?_eq_getElem hj ▸ congrArg some e) (hno.out j (by rw [hM.out]; exact hj))
      subst hx0
      go_wp2_with fail
      go_ret
      exact ⟨rfl, rfl⟩
set_option maxRecDepth 100000 in
set_option maxHeartbeats 4000000 in
theorem rread_any (h : IsRk F w b d) (hf : Fit d) (hm : d.marks ≤ 4611686018427387904) (n : Int) : Calls Tryz.prog 116 #[.pointer (some ⟨b, 0, none⟩), .int .i64 n] w fun e w' => e = .returned (.tuple #[.string (readD d n).1, .int .i64 (readD d n).2]) ∧ w' = w := by
  have km := Lib.hid (rmay_any h n)
  have kb := Lib.hid (fun k => rbad_any_ h k hm)
  obtain ⟨sb, sc, lv, bv, B, h⟩ := h
  obtain ⟨A, c, rfl⟩ : ∃ A c, lv = .slice A d.L.length c := by
    rcases h.ls.2 with ⟨e1, e2⟩ | ⟨g, cap, cur, hv, _⟩
    · exact ⟨none, 0, by rw [e1, e2]⟩
    · exact ⟨_, _, hv⟩
  obtain ⟨c0, c1, _⟩ := h.cells
  have hst := Lib.hid h.st
  have hls := Lib.hid h.ls
  clear h
  have hlen := hf.len
  have hfew := hf.few
  have hap := Lib.hid hf.apart
  unfold readD
  by_cases he : mayE d n = 0
  · obtain ⟨_, h0, hlt⟩ := mayE_ok he
    rw [if_neg (by rw [he]; decide)]
    rw [he] at km
    replace km := Lib.hid km.out
    replace he := Lib.hid he
    obtain ⟨k, rfl⟩ := Int.eq_ofNat_of_zero_le h0
    rw [Int.toNat_natCast]
    obtain ⟨s, hs⟩ : ∃ s, d.stays[k]? = some s := ⟨_, List.getElem?_eq_getElem (by omega)⟩
    have cst := cells_of_own hst.out k (.string s) (by rw [List.getElem?_map, hs]; rfl)
    rw [Nat.zero_add] at cst
    rw [hs]
    have kb' := kb.out k
    obtain ⟨N, hN⟩ : ∃ N, N = d.stays.length := ⟨_, rfl⟩
    obtain ⟨M, hM⟩ : ∃ M, M = d.L.length := ⟨_, rfl⟩
    rw [← hN] at c0 hlt hfew
    rw [← hM] at c1 hlen
    replace hN := Lib.hid hN
    replace hM := Lib.hid hM
    replace hs := Lib.hid hs
    clear kb hf
    have hkN : k < N := by omega
    cases hb : d.bad k with
    | true =>
      rw [hb] at kb'
      rw [if_pos rfl]
      replace hb := Lib.hid hb
      replace kb' := Lib.hid kb'
      go_enter Tryz.func116, Tryz.ntmps116
      go_wp2_with fail
      refine (km.out).mono ?_
      rintro en w' ⟨rfl, hw'⟩
      replace hw' := hw'.symm
      subst hw'
      go_wp2_with fail
      refine (kb'.out).mono ?_
      rintro en w' ⟨rfl, hw'⟩
      replace hw' := hw'.symm
      subst hw'
      go_wp2_with fail
      go_ret2
      exact ⟨rfl, rfl⟩
    | false =>
      rw [hb] at kb'
      rw [if_neg (by decide)]
      replace hb := Lib.hid hb
      replace kb' := Lib.hid kb'
      obtain ⟨R, hR⟩ : ∃ R, R = (find d.L k).getD ((some s).getD ⟨#[]⟩) := ⟨_, rfl⟩
      rw [← hR]
      replace hR := Lib.hid hR
      go_enter Tryz.func116, Tryz.ntmps116
      go_wp2_with fail
      refine (km.out).mono ?_
      rintro en w' ⟨rfl, hw'⟩
      replace hw' := hw'.symm
      subst hw'
      go_wp2_with fail
      refine (kb'.out).mono ?_
      rintro en w' ⟨rfl, hw'⟩
      replace hw' := hw'.symm
      subst hw'
      go_wp2_with fail
      go_loop [7] (fun t => ∃ i : Nat, i ≤ M ∧ t = .int .i64 (i : Int) ∧ ∀ j p, j < i → d.L[j]? = some p → p.1 ≠ k) (fun t => M - (intOf t).toNat)
      case atStart => exact ⟨0, Nat.zero_le _, rfl, fun j p hj => absurd hj (Nat.not_lt_zero _)⟩
      case round =>
        obtain ⟨i, hi, rfl, hno⟩ := hrel
        replace hno := Lib.hid hno
        by_cases hlti : i < M
        · obtain ⟨p, hp⟩ : ∃ p, d.L[i]? = some p := ⟨_, List.getElem?_eq_getElem (by have := hM.out; omega)⟩
          obtain ⟨g, cap, hv, _⟩ := hls.out.form (by have := hM.out; omega)
          injection hv with hv _ _
          subst hv
          have l1 := hls.out.cells (g := g) rfl _ _ (pairs_at hp).1
          have l2 := hls.out.cells (g := g) rfl _ _ (pairs_at hp).2
          rw [add_lit, Nat.zero_add] at l1 l2
          have z1 : (i : Int) < (M : Int) := by omega
          by_cases hpk : p.1 = k
          · have hRp : R = p.2 := by
              rw [hR.out, find_mem (n := k) (s := p.2) hap.out (by rw [← hpk]; exact List.mem_of_getElem? hp)]
              rfl
            rw [hpk] at l1
            clear hp
            subst hRp
            go_wp2_with fail
            go_ret2
            exact ⟨rfl, rfl⟩
          · have q1 : ((p.1 : Int) == (k : Int)) = false := by simp; omega
            have hno2 : ∀ j q, j < i + 1 → d.L[j]? = some q → q.1 ≠ k := fun j q hj hq => by
              rcases Nat.lt_succ_iff_lt_or_eq.1 hj with h | rfl
              · exact hno.out j q h hq
              · rw [hp] at hq; injection hq with hq; rw [← hq]; exact hpk
            replace hno2 := Lib.hid hno2
            clear hp hpk l2
            go_wp2_with fail
            exact ⟨⟨i + 1, hlti, rfl, hno2.out⟩, by simp [intOf]; omega⟩
        · obtain rfl : i = M := by omega
          have hfn : find d.L k = none := by
            cases hf : find d.L k with
            | none => rfl
            | some t =>
              obtain ⟨j, hj, e⟩ := List.getElem_of_mem (find_some hf)
              exact absurd (show (k, t).1 = k from rfl) (hno.out j (k, t) (by rw [hM.out]; exact hj) (by rw [List.getElem?_eq_getElem hj, e]))
          have hRs : R = s := by rw [hR.out, hfn]; rfl
          replace hfn := Lib.hid hfn
          subst hRs
          have z2 : (k : Int) < (N : Int) := by omega
          go_wp2_with fail
          go_ret2
          exact ⟨rfl, rfl⟩
  · rw [if_pos he]
    have hne : (mayE d n != 0) = true := by simpa using he
    generalize mayE d n = ee at km hne
    clear he
    go_enter Tryz.func116, Tryz.ntmps116
    go_wp2_with fail
    refine (km.out).mono ?_
    rintro en w' ⟨rfl, hw'⟩
    replace hw' := hw'.symm
    subst hw'
    go_wp2_with fail
    go_ret2
    exact ⟨rfl, rfl⟩
end
end Go.Proofs.YtajlfmnjibgbaaaGreatDoor.Disk
/- The document's disk: step, Arm, Revive, goes, Crash, Image. -/
namespace Go.Proofs.YtajlfmnjibgbaaaGreatDoor.Disk
open Go Go.RowKit Go.Maps Mem
section
variable {F G : Nat → Prop} {w w' : World} {b : Nat} {d d' : Dk}
set_option maxRecDepth 100000 in
theorem pair_slice {v : Value} {n : Nat} {e : TypeId} {base sz : Nat} {xs : List Value} {w : World} (h : w.ownsRow base e sz v n xs) : ∃ A c, v = .slice A n c := by
  obtain ⟨_, ⟨h2, h3⟩ | ⟨g, cap, _, hv, _⟩⟩ := h
  · subst h3; exact ⟨_, _, h2⟩
  · exact ⟨_, _, hv⟩

set_option maxRecDepth 100000 in
set_option maxHeartbeats 4000000 in
theorem rstep_any (h : IsRk F w b d) (hn : Num d) : Calls Tryz.prog 76 #[.pointer (some ⟨b, 0, none⟩)] w fun e w' => e = .returned (.bool (decide (d.armed = 1))) ∧ IsRk F w' b (stepD d) ∧ Keeps F w w' := by
  obtain ⟨sb, sc, lv, bv, B, h⟩ := h
  obtain ⟨A1, k1, rfl⟩ := pair_slice h.ls
  obtain ⟨A2, k2, rfl⟩ := pair_slice h.bd
  have h1 := h.blk
  have c3 : w.cell? ⟨b, 3, none⟩ = some (.int .i64 (d.steps : Int)) := h1.cell 3
  have c4 : w.cell? ⟨b, 4, none⟩ = some (.int .i64 (d.armed : Int)) := h1.cell 4
  have f3 := h1.free 3
  have f4 := h1.free 4
  have n4 := hn.steps
  have n5 := hn.armed
  have kk := (Keeps.refl (fun j => j = b) w).put (g := b) (Or.inl rfl) 3 (.int .i64 ((d.steps : Int) + 1))
  have hB := h1.put 3 (.int .i64 ((d.steps : Int) + 1))
  replace h := Lib.hid h
  replace hB := Lib.hid hB
  replace kk := Lib.hid kk
  clear h1
  by_cases ha : d.armed = 0
  · have e0 : (d.armed : Int) = 0 := by omega
    have hr : decide (d.armed = 1) = false := by simp [ha]
    rw [hr]
    have hB2 : Blk (w.setCell ⟨b, 3, none⟩ (.int .i64 ((d.steps : Int) + 1))) b 136 (rkc sb sc (.slice A1 d.L.length k1) (.slice A2 B.length k2) (stepD d)) := by
      have := hB.out
      have e : (stepD d) = { d with steps := d.steps + 1 } := by unfold stepD; rw [ha]
      rw [e]
      exact this
    have fin := Lib.hid (h.out.reput kk.out hB2 rfl rfl rfl rfl)
    clear hB2 hB kk h hr ha
    replace c4 : w.cell? ⟨b, 4, none⟩ = some (.int .i64 0) := by rw [← e0]; exact c4
    clear e0
    go_enter Tryz.func76, Tryz.ntmps76
    go_wp2_with fail
    go_ret
    exact ⟨rfl, fin.out⟩
  · have kk2 := Lib.hid (kk.out.put (g := b) (Or.inl rfl) 4 (.int .i64 ((d.armed : Int) - 1)))
    have hB2 : Blk ((w.setCell ⟨b, 3, none⟩ (.int .i64 ((d.steps : Int) + 1))).setCell ⟨b, 4, none⟩ (.int .i64 ((d.armed : Int) - 1))) b 136 (rkc sb sc (.slice A1 d.L.length k1) (.slice A2 B.length k2) (stepD d)) := by
      have := hB.out.put 4 (.int .i64 ((d.armed : Int) - 1))
      have e : (rkc sb sc (.slice A1 d.L.length k1) (.slice A2 B.length k2) (stepD d)) = ((rkc sb sc (.slice A1 d.L.length k1) (.slice A2 B.length k2) d).setIfInBounds 3 (.int .i64 ((d.steps : Int) + 1))).setIfInBounds 4 (.int .i64 ((d.armed : Int) - 1)) := by
        simp [rkc, stepD]
        omega
      rw [e]
      exact this
    have fin := Lib.hid (h.out.reput kk2.out hB2 rfl rfl rfl rfl)
    clear hB2 hB kk kk2 h
    have n6 : 1 ≤ d.armed := by omega
    by_cases h1 : d.armed = 1
    · rw [show decide (d.armed = 1) = true by simp [h1]]
      replace h1 := Lib.hid h1
      have c5' : w.cell? ⟨b, 4, none⟩ = some (.int .i64 1) := by rw [c4, h1.out]; rfl
      rw [show ((d.armed : Int) - 1) = 0 by have := h1.out; omega] at fin
      clear c4 ha
      go_enter Tryz.func76, Tryz.ntmps76
      go_wp2_with fail
      go_ret
      exact ⟨rfl, fin.out⟩
    · rw [show decide (d.armed = 1) = false by simp [h1]]
      have n7 : 2 ≤ d.armed := by omega
      clear h1 n6 ha
      go_enter Tryz.func76, Tryz.ntmps76
      go_wp2_with fail
      go_ret
      refine ⟨?_, fin.out⟩
      show Ending.returned (.bool ((d.armed : Int) - 1 == 0)) = _
      rw [show ((d.armed : Int) - 1 == 0) = false from by simpa using (by omega : ¬ (d.armed : Int) - 1 = 0)]
set_option maxRecDepth 100000 in
set_option maxHeartbeats 4000000 in
theorem rgoes_any (h : IsRk F w b d) (hf : Fit d) (keep : ByteArray) : Calls Tryz.prog 77 #[.pointer (some ⟨b, 0, none⟩), .string keep] w fun e w' => e = .returned (.tuple #[]) ∧ IsRk F w' b (goesD d keep) ∧ Keeps F w w' := by
  obtain ⟨sb, sc, lv, bv, B, h⟩ := h
  obtain ⟨A1, k1, rfl⟩ := pair_slice h.ls
  have hlen := hf.len
  have hfew := hf.few
  have hloose := Lib.hid hf.loose
  have hne := Lib.hid h.ne
  have hst0 := Lib.hid h.st
  obtain ⟨M, hM⟩ : ∃ M, M = d.L.length := ⟨_, rfl⟩
  obtain ⟨N, hN⟩ : ∃ N, N = d.stays.length := ⟨_, rfl⟩
  rw [← hM] at hlen
  rw [← hN] at hfew
  replace hM := Lib.hid hM
  replace hN := Lib.hid hN
  replace h := Lib.hid h
  clear hf
  go_enter Tryz.func77, Tryz.ntmps77
  go_wp2_with fail
  go_loopw [4] (fun t wr => ∃ k : Nat, k ≤ M ∧ t = .int .i64 (k : Int) ∧ Keeps (fun j => j = sb) w wr ∧ wr.ownsRow 0 9 1 (.slice (some ⟨sb, 0, none⟩) d.stays.length sc) d.stays.length ((applyK keep 0 (d.L.take k) d.stays).map Value.string)) (fun t _ => M - (intOf t).toNat)
  case atStart => exact ⟨0, Nat.zero_le _, rfl, Keeps.refl _ _, hst0.out⟩
  case round =>
    clear hst0
    obtain ⟨k, hk, rfl, kk, hst⟩ := hrel
    have hB := h.out.blk.keeps kk (Ne.symm hne.out.1)
    have hls := own_keeps h.out.ls kk (fun j e => hne.out.2.2.2.1 j e)
    have c0 : wr.cell? ⟨b, 0, none⟩ = some (.slice (some ⟨sb, 0, none⟩) N sc) := by rw [hN.out]; exact hB.cell 0
    have c1 : wr.cell? ⟨b, 1, none⟩ = some (.slice A1 M k1) := by rw [hM.out]; exact hB.cell 1
    by_cases hlt : k < M
    · obtain ⟨p, hp⟩ : ∃ p, d.L[k]? = some p := ⟨_, List.getElem?_eq_getElem (by have := hM.out; omega)⟩
      obtain ⟨hp1, hp2⟩ := hloose.out p (List.mem_of_getElem? hp)
      rw [← hN.out] at hp1
      obtain ⟨g, cap, hv, _⟩ := hls.form (by have := hM.out; omega)
      injection hv with hv _ _
      subst hv
      have l1 := hls.cells (g := g) rfl _ _ (pairs_at hp).1
      have l2 := hls.cells (g := g) rfl _ _ (pairs_at hp).2
      rw [add_lit, Nat.zero_add] at l1 l2
      have z1 : (k : Int) < (M : Int) := by omega
      have z0 : (0 : Int) ≤ (k : Int) := by omega
      have z2 : (p.1 : Int) < (N : Int) := by omega
      have z3 : (0 : Int) ≤ (p.1 : Int) := by omega
      have kh := rhas_any keep k wr (by omega)
      have hsn := applyK_snoc keep p (d.L.take k) 0 d.stays
      rw [← take_succ_of hp, List.length_take_of_le (by have := hM.out; omega), Nat.zero_add] at hsn
      replace hsn := Lib.hid hsn
      clear hp
      by_cases hh : hasN keep k = true
      · rw [hh] at kh
        obtain ⟨hst', fst⟩ := own_put (i := p.1) (u := .string p.2) hst
        obtain ⟨old, hold⟩ : ∃ u, ((applyK keep 0 (d.L.take k) d.stays).map Value.string)[p.1]? = some u := ⟨_, List.getElem?_eq_getElem (by rw [List.length_map, applyK_length, ← hN.out]; exact hp1)⟩
        have cst := hst.cells (g := sb) rfl p.1 old hold
        rw [add_lit, Nat.zero_add] at cst
        have fin : ∃ k' : Nat, k' ≤ M ∧ Value.int .i64 ((k : Int) + 1) = .int .i64 (k' : Int) ∧ Keeps (fun j => j = sb) w (wr.drew.setCell ⟨sb, p.1, none⟩ (.string p.2)) ∧ (wr.drew.setCell ⟨sb, p.1, none⟩ (.string p.2)).ownsRow 0 9 1 (.slice (some ⟨sb, 0, none⟩) d.stays.length sc) d.stays.length ((applyK keep 0 (d.L.take k') d.stays).map Value.string) := by
          refine ⟨k + 1, by omega, rfl, (kk.same (keeps_drew _ wr)).put (Or.inl rfl) _ _, ?_⟩
          rw [hsn.out, if_pos hh, List.map_set]
          exact hst'
        replace fin := Lib.hid fin
        replace kh := Lib.hid kh
        clear hst' hst hls hB kk hold hh hsn hp2 hk
        go_wp2_with fail
        refine (kh.out).mono ?_
        rintro en w' ⟨rfl, hw'⟩
        replace hw' := hw'.symm
        subst hw'
        go_wp2_with fail
        go_region
        go_wp2_with fail
        exact ⟨fin.out, by simp [intOf]; omega⟩
      · have hh' : hasN keep k = false := by simpa using hh
        rw [hh'] at kh
        have fin : ∃ k' : Nat, k' ≤ M ∧ Value.int .i64 ((k : Int) + 1) = .int .i64 (k' : Int) ∧ Keeps (fun j => j = sb) w wr ∧ wr.ownsRow 0 9 1 (.slice (some ⟨sb, 0, none⟩) d.stays.length sc) d.stays.length ((applyK keep 0 (d.L.take k') d.stays).map Value.string) := by
          refine ⟨k + 1, by omega, rfl, kk, ?_⟩
          rw [hsn.out, if_neg hh]
          exact hst
        replace fin := Lib.hid fin
        replace kh := Lib.hid kh
        clear hst hls hB kk hh hh' hsn hp2 hk
        go_wp2_with fail
        refine (kh.out).mono ?_
        rintro en w' ⟨rfl, hw'⟩
        replace hw' := hw'.symm
        subst hw'
        go_wp2_with fail
        exact ⟨fin.out, by simp [intOf]; omega⟩
    · obtain rfl : k = M := by omega
      rw [hM.out, List.take_length] at hst
      have f1 := hB.free 1
      have f6 := hB.free 6
      have f4 := hB.free 4
      have c6 : wr.cell? ⟨b, 6, none⟩ = some (.bool d.dead) := hB.cell 6
      have c4 : wr.cell? ⟨b, 4, none⟩ = some (.int .i64 (d.armed : Int)) := hB.cell 4
      have k3 := (((Keeps.refl (fun j => j = b) wr).put (g := b) (Or.inl rfl) 1 (.slice none 0 0)).put (g := b) (Or.inl rfl) 6 (.bool true)).put (g := b) (Or.inl rfl) 4 (.int .i64 0)
      have hB3 : Blk (((wr.setCell ⟨b, 1, none⟩ (.slice none 0 0)).setCell ⟨b, 6, none⟩ (.bool true)).setCell ⟨b, 4, none⟩ (.int .i64 0)) b 136 (rkc sb sc (.slice none 0 0) bv (goesD d keep)) := by
        have e : rkc sb sc (.slice none 0 0) bv (goesD d keep) = (((rkc sb sc (.slice A1 d.L.length k1) bv d).setIfInBounds 1 (.slice none 0 0)).setIfInBounds 6 (.bool true)).setIfInBounds 4 (.int .i64 0) := by
          simp [rkc, goesD, applyK_length]
        rw [e]
        exact ((hB.put 1 (.slice none 0 0)).put 6 (.bool true)).put 4 (.int .i64 0)
      have k4 := (kk.mono (G := fun j => j = sb ∨ j = b) (fun i e => Or.inl e)).same (k3.mono (G := fun j => j = sb ∨ j = b) (fun i e => Or.inr e))
      have hl : (goesD d keep).stays.length = d.stays.length := applyK_length _ _ _ _
      have fin : IsRk F (((wr.setCell ⟨b, 1, none⟩ (.slice none 0 0)).setCell ⟨b, 6, none⟩ (.bool true)).setCell ⟨b, 4, none⟩ (.int .i64 0)) b (goesD d keep) ∧ Keeps F w (((wr.setCell ⟨b, 1, none⟩ (.slice none 0 0)).setCell ⟨b, 6, none⟩ (.bool true)).setCell ⟨b, 4, none⟩ (.int .i64 0)) := by
        refine ⟨⟨sb, sc, .slice none 0 0, bv, B, hB3, ?_, ⟨rfl, Or.inl ⟨rfl, rfl⟩⟩, own_keeps h.out.bd k4 (fun j e hj => hj.elim (hne.out.2.2.2.2 j e) (hne.out.2.2.1 j e)), h.out.mem, h.out.few, h.out.fb, h.out.fs, (fun j e => by cases e), h.out.fd, fun i hi => Nat.lt_of_lt_of_le (h.out.lt i hi) k4.size⟩, k4.mono (fun i e => ?_)⟩
        · rw [hl]
          exact own_keeps hst k3 (fun j e => by injection e with e; subst e; exact hne.out.1)
        · rcases e with rfl | rfl
          · exact h.out.fs
          · exact h.out.fb
      replace fin := Lib.hid fin
      clear hB hB3 k3 k4 kk hst hls hl hk
      go_wp2_with fail
      go_end0
      exact ⟨rfl, fin.out⟩
end
end Go.Proofs.YtajlfmnjibgbaaaGreatDoor.Disk
/- The document's disk: Write. -/
namespace Go.Proofs.YtajlfmnjibgbaaaGreatDoor.Disk
open Go Go.RowKit Go.Maps Mem

section
variable {P : Program} {w : World}
set_option maxRecDepth 100000 in
/-- append of a row of the call's own, nil too -/
theorem run_append_ownrow (base : Nat) (t ty e : TypeId) (i : TypeInfo) (z : Value) (size bytes : Nat) (ht : P.underlying t = some (.slice e)) (hi : P.info? e = some i) (hz : i.zero = some z)
    (hsize : i.size = size) (hby : i.bytes = bytes) (hzs : z.cells.size = size) (hsz : 0 < size) {v : Value} {n : Nat} {xs : List Value} (hown : w.ownsRow base e size v n xs)
    {base2 : Nat} {v2 : Value} {m : Nat} {us : List Value} (hr : w.ownsRow base2 e size v2 m us) (h1 : ∀ u ∈ us, u.oneCell' = true)
    (h63 : n + m ≤ maxLen) (hbytes : (n + m) * bytes ≤ 140737488355328) (hbase : base ≤ w.heap.size) :
    ∃ v' w', (Builtin.append_ #[t, t] ty #[v, v2]).run P w = .ok v' w' ∧ w'.ownsRow base e size v' (n + m) (xs ++ us) ∧ w.grownBy w' v.ownBlock ∧ (v'.ownBlock = v.ownBlock ∨ v'.ownBlock = some w.heap.size) := by
  rcases hr.2 with ⟨rfl, rfl⟩ | ⟨g, cap, cur, rfl, hb, hg, hle, hmx, hs, htk⟩
  · have hus : us = [] := by
      have := hr.1
      cases us with
      | nil => rfl
      | cons u r => simp at this
    subst hus
    refine ⟨v, w, ?_, by simpa using hown, Only.refl w _, Or.inl rfl⟩
    rcases hown.2 with ⟨rfl, rfl⟩ | ⟨g, cap, cur, rfl, _, _, hnc, _⟩
    · simp [Builtin.append_, run_underlying ht, sizeOf, typeInfo, hi, Builtin.lenOf, Builtin.firstCells]
    · simp [Builtin.append_, run_underlying ht, sizeOf, typeInfo, hi, Builtin.lenOf, Builtin.firstCells, hnc, storeCells]
  · obtain ⟨v', w', hrun, h2, h3, _, h5⟩ := run_append_own_at (P := P) w base t ty e i z size bytes ht hi hz hsize hby hzs hsz v n xs hown ⟨g, 0, none⟩ m cap us (by rw [hr.1])
      (fun j u hu => hr.cells (g := g) rfl j u hu) h1 h63 hbytes hbase
    exact ⟨v', w', hrun, h2, h3, h5⟩
set_option maxRecDepth 100000 in
theorem wpList_append_ownrow (w : World) {ops : Array Oper} {rest : List Oper} {o : Oper} {a : Act} {Q : Exit → Act → World → Prop} (s x : Operand) (t : TypeId)
    (ho : o.op = .call { callee := .builtin .append, args := #[s, x], argTypes := #[t, t] })
    (base : Nat) (e : TypeId) (i : TypeInfo) (z : Value) (size bytes : Nat) (ht : P.underlying t = some (.slice e)) (hi : P.info? e = some i) (hz : i.zero = some z)
    (hsize : i.size = size) (hby : i.bytes = bytes) (hzs : z.cells.size = size) (hsz : 0 < size)
    (v : Value) (n : Nat) (xs : List Value) (hs : a.eval s = v) (hown : w.ownsRow base e size v n xs)
    (base2 : Nat) (v2 : Value) (m : Nat) (us : List Value) (hx : a.eval x = v2) (hr : w.ownsRow base2 e size v2 m us) (h1 : ∀ u ∈ us, u.oneCell' = true)
    (h63 : n + m ≤ maxLen) (hbytes : (n + m) * bytes ≤ 140737488355328) (hbase : base ≤ w.heap.size) (hw : Region.wanted o (yielded ops a.tmps) = true)
    (h : ∀ v' w', w'.ownsRow base e size v' (n + m) (xs ++ us) → w.grownBy w' v.ownBlock → (v'.ownBlock = v.ownBlock ∨ v'.ownBlock = some w.heap.size) → wpList P ops Q rest (a.put o.dst v') w') : wpList P ops Q (o :: rest) a w := by
  refine wpList_step fun K hK => ?_
  rw [if_pos hw]
  obtain ⟨v', w', hrun, h2, h3, h4⟩ := run_append_ownrow (P := P) base t o.type e i z size bytes ht hi hz hsize hby hzs hsz hown hr h1 h63 hbytes hbase
  unfold Oper.wp execOp
  simp only [ho, resolve, invoke, builtin, Sem.run_bind, Sem.run_pure, Result.andThen_ok, List.map_toArray, List.map_cons, List.map_nil, hs, hx, hrun]
  exact hK _ _ (h v' w' h2 h3 h4)
end
set_option maxRecDepth 100000 in
theorem infoL : (Tryz.prog.info? 139).map (fun i => (i.zero, i.size, i.bytes)) = some (some (.agg #[.int .i64 0, .string ⟨#[]⟩]), 2, 24) := by kernel_rfl
set_option maxRecDepth 100000 in
theorem pairs_one (L : List (Nat × ByteArray)) : ∀ u ∈ pairs L, u.oneCell' = true := fun u hu => by
  obtain ⟨p, _, hp⟩ := List.mem_flatMap.1 hu
  simp only [List.mem_cons, List.not_mem_nil, or_false] at hp
  rcases hp with rfl | rfl <;> rfl
/-- a list, the first k of it looked at -/
def upd (n : Nat) (s : ByteArray) (k : Nat) (L : List (Nat × ByteArray)) : List (Nat × ByteArray) := (L.take k).map (fun p => if p.1 = n then (n, s) else p) ++ L.drop k
set_option maxRecDepth 100000 in
theorem upd_zero (n : Nat) (s : ByteArray) (L : List (Nat × ByteArray)) : upd n s 0 L = L := by simp [upd]
set_option maxRecDepth 100000 in
theorem upd_all (n : Nat) (s : ByteArray) (L : List (Nat × ByteArray)) : upd n s L.length L = L.map fun p => if p.1 = n then (n, s) else p := by simp [upd]
set_option maxRecDepth 100000 in
theorem upd_length (n : Nat) (s : ByteArray) (k : Nat) (L : List (Nat × ByteArray)) : (upd n s k L).length = L.length := by simp [upd]; omega
set_option maxRecDepth 100000 in
theorem upd_at {n : Nat} {s : ByteArray} {k : Nat} {L : List (Nat × ByteArray)} {p : Nat × ByteArray} (hp : L[k]? = some p) : (upd n s k L)[k]? = some p := by
  have hk := (List.getElem?_eq_some_iff.1 hp).1
  unfold upd
  rw [List.getElem?_append_right (by simp; omega)]
  simp only [List.length_map, List.length_take, List.getElem?_drop]
  rw [show k + (k - min k L.length) = k by omega]
  exact hp
set_option maxRecDepth 100000 in
theorem upd_succ {n : Nat} {s : ByteArray} {k : Nat} {L : List (Nat × ByteArray)} {p : Nat × ByteArray} (hp : L[k]? = some p) : upd n s (k + 1) L = (upd n s k L).set k (if p.1 = n then (n, s) else p) := by
  have hk := (List.getElem?_eq_some_iff.1 hp).1
  unfold upd
  rw [take_succ_of hp, List.map_append, List.append_assoc, List.set_append_right _ _ (by simp; omega)]
  have e : L.drop k = p :: L.drop (k + 1) := by
    rw [List.drop_eq_getElem_cons hk]
    have := (List.getElem?_eq_some_iff.1 hp).2
    rw [this]
  rw [e]
  simp [show k - min k L.length = 0 by omega]
set_option maxRecDepth 100000 in
theorem set_same {α : Type} {l : List α} {k : Nat} {p : α} (h : l[k]? = some p) : l.set k p = l := by
  apply List.ext_getElem?
  intro i
  rw [List.getElem?_set]
  split
  · next e => subst e; rw [if_pos (List.getElem?_eq_some_iff.1 h).1]; exact h.symm
  · rfl
set_option maxRecDepth 100000 in
theorem pairs_set : ∀ (L : List (Nat × ByteArray)) (k : Nat) (m : Nat) (t s : ByteArray), L[k]? = some (m, t) → (pairs L).set (k * 2 + 1) (.string s) = pairs (L.set k (m, s))
  | [], k, m, t, s, h => by simp at h
  | q :: L, 0, m, t, s, h => by
    injection h with h
    subst h
    rfl
  | q :: L, k + 1, m, t, s, h => by
    have h' : L[k]? = some (m, t) := h
    have e : ∀ (q : Nat × ByteArray) (L : List (Nat × ByteArray)), pairs (q :: L) = .int .i64 (q.1 : Int) :: .string q.2 :: pairs L := fun _ _ => rfl
    rw [List.set_cons_succ, e, e, show (k + 1) * 2 + 1 = (k * 2 + 1) + 1 + 1 by omega, List.set_cons_succ, List.set_cons_succ, pairs_set L k m t s h']
/-- was one of the first k of it? -/
def seen (n k : Nat) (L : List (Nat × ByteArray)) : Bool := (L.take k).any fun p => p.1 == n
set_option maxRecDepth 100000 in
theorem seen_succ {n k : Nat} {L : List (Nat × ByteArray)} {p : Nat × ByteArray} (hp : L[k]? = some p) : seen n (k + 1) L = (seen n k L || p.1 == n) := by
  unfold seen
  rw [take_succ_of hp, List.any_append]
  simp
set_option maxRecDepth 100000 in
theorem seen_all (n : Nat) (L : List (Nat × ByteArray)) : seen n L.length L = (find L n).isSome := by
  unfold seen
  rw [List.take_length, find]
  rw [Option.isSome_map, List.isSome_find?]
set_option maxRecDepth 100000 in
theorem putL_seen (n : Nat) (s : ByteArray) (L : List (Nat × ByteArray)) : putL L n s = if seen n L.length L = true then upd n s L.length L else upd n s L.length L ++ [(n, s)] := by
  rw [seen_all, upd_all]
  unfold putL
  split
  · rfl
  · next h =>
    have hn : find L n = none := by cases hf : find L n with | none => rfl | some t => rw [hf] at h; exact absurd rfl h
    congr 1
    refine (List.map_congr_left (g := id) (fun p hp => ?_)).symm ▸ (List.map_id L).symm
    rw [if_neg (find_none hn p hp)]
    rfl
end Go.Proofs.YtajlfmnjibgbaaaGreatDoor.Disk
/- The document's disk: Write, the walk. -/
namespace Go.Proofs.YtajlfmnjibgbaaaGreatDoor.Disk
open Go Go.RowKit Go.Maps Mem

set_option maxRecDepth 100000 in
theorem own_putN {w : World} {base g n cap i sz : Nat} {e : TypeId} {xs : List Value} {u : Value} (h : w.ownsRow base e sz (.slice (some ⟨g, 0, none⟩) n cap) n xs) :
    (w.setCell ⟨g, i, none⟩ u).ownsRow base e sz (.slice (some ⟨g, 0, none⟩) n cap) n (xs.set i u) ∧ w.frozen? ⟨g, i, none⟩ = false := by
  obtain ⟨h1, ⟨h2, _⟩ | ⟨g', cap', cur, hv, hb, hg, hnc, hm, hs, ht⟩⟩ := h
  · cases h2
  · injection hv with hv1 _ hv2
    injection hv1 with hv1
    obtain rfl : g = g' := congrArg Addr.block hv1
    obtain rfl : cap = cap' := hv2
    refine ⟨⟨by rw [List.length_set]; exact h1, Or.inr ⟨g, cap, cur.setIfInBounds i u, rfl, hb, heap_setCell_same w g i cur e u hg, hnc, hm, by rw [Array.size_setIfInBounds]; exact hs, ?_⟩⟩, frozen_of_row w g i cur e hg⟩
    rw [Array.toList_setIfInBounds, ← ht, List.take_set]
section
variable {F : Nat → Prop} {w W w' : World} {b : Nat} {d : Dk} {sb sc : Nat} {lv bv : Value} {B : List Nat}
set_option maxRecDepth 100000 in
/-- other loose sectors, in a row of one's own -/
theorem RCore.relist (h : RCore F W b d sb sc lv bv B) {H n : Nat} {v : Value} {L' : List (Nat × ByteArray)} (ho : W.ownsRow H 139 2 v n (pairs L')) (hL : L'.length = n) (hH : ∀ i, F i → i < H) :
    IsRk (fun i => F i ∨ v.ownBlock = some i) (W.setCell ⟨b, 1, none⟩ v) b { d with L := L' } ∧ Keeps F W (W.setCell ⟨b, 1, none⟩ v) := by
  have hne := h.ne
  have kk := (Keeps.refl (fun j => j = b) W).put (g := b) (Or.inl rfl) 1 v
  have hvb : ∀ j, v.ownBlock = some j → j ≠ b := fun j e => by have := (ho.lt j e).1; have := hH b h.fb; omega
  subst hL
  refine ⟨⟨sb, sc, v, bv, B, h.blk.put 1 v, own_keeps h.st kk (fun j e => by injection e with e; subst e; exact hne.1), own_base (own_keeps ho kk hvb) (Nat.zero_le _), own_keeps h.bd kk hne.2.2.1, h.mem, h.few, Or.inl h.fb, Or.inl h.fs, fun j e => Or.inr e, fun j e => Or.inl (h.fd j e), fun i hi => ?_⟩, kk.mono (fun i e => e ▸ h.fb)⟩
  rcases hi with hi | hi
  · exact Nat.lt_of_lt_of_le (h.lt i hi) kk.size
  · exact Nat.lt_of_lt_of_le (ho.lt i hi).2 kk.size
set_option maxRecDepth 100000 in
set_option maxHeartbeats 16000000 in
theorem rwrite_any (h : IsRk F w b d) (hn : Num d) (hf : Fit d) (n : Int) (s : ByteArray) : Calls Tryz.prog 47 #[.pointer (some ⟨b, 0, none⟩), .int .i64 n, .string s] w fun e w' =>
    e = .returned (.int .i64 (writeD d n s).2) ∧ ∃ F', IsRk F' w' b (writeD d n s).1 ∧ Keeps F w w' ∧ ∀ i, F' i → F i ∨ w.heap.size ≤ i := by
  have km := Lib.hid (rmay_any h n)
  have kb := Lib.hid (fun k => rbad_any_ h k hn.marks)
  have fin0 := Lib.hid (show ∃ F', IsRk F' w b d ∧ Keeps F w w ∧ ∀ i, F' i → F i ∨ w.heap.size ≤ i from ⟨F, h, Keeps.refl _ _, fun i hi => Or.inl hi⟩)
  unfold writeD
  by_cases he : mayE d n = 0
  · obtain ⟨_, h0, hlt⟩ := mayE_ok he
    rw [if_neg (by rw [he]; decide)]
    rw [he] at km
    replace km := Lib.hid km.out
    obtain ⟨k, rfl⟩ := Int.eq_ofNat_of_zero_le h0
    rw [Int.toNat_natCast]
    replace he := Lib.hid he
    have kb' := kb.out k
    clear kb
    by_cases hs : s.size = 64
    · rw [if_neg (by omega)]
      cases hb : d.bad k with
      | true =>
        rw [hb] at kb'
        rw [if_pos rfl]
        replace hb := Lib.hid hb
        replace kb' := Lib.hid kb'
        clear h hn hf
        have e0 : ((s.size : Int) != 64) = false := by rw [hs]; rfl
        clear hs
        go_enter Tryz.func47, Tryz.ntmps47
        go_wp2_with fail
        refine (km.out).mono ?_
        rintro en w' ⟨rfl, hw'⟩
        replace hw' := hw'.symm
        subst hw'
        go_wp2_with fail
        refine (kb'.out).mono ?_
        rintro en w' ⟨rfl, hw'⟩
        replace hw' := hw'.symm
        subst hw'
        go_wp2_with fail
        go_ret
        exact ⟨rfl, fin0.out⟩
      | false =>
        rw [hb] at kb'
        rw [if_neg (by decide)]
        replace hb := Lib.hid hb
        replace kb' := Lib.hid kb'
        obtain ⟨sb, sc, lv, bv, B, h⟩ := h
        obtain ⟨A0, c0, rfl⟩ := pair_slice h.ls
        have c1 : w.cell? ⟨b, 1, none⟩ = some (.slice A0 d.L.length c0) := h.blk.cell 1
        have c1a : (w.alloc (.cells #[] 139)).cell? ⟨b, 1, none⟩ = some (.slice A0 d.L.length c0) := (h.blk.alloc _).cell 1
        have hlen := hf.len
        have hfit1 := Lib.hid (hf.putL (k := k) (s := s) (by omega) hs)
        have hnum1 := Lib.hid (show Num { d with L := putL d.L k s } from ⟨hn.steps, hn.armed, hn.marks⟩)
        have hap := Lib.hid hf.apart
        have e0 : ((s.size : Int) != 64) = false := by rw [hs]; rfl
        clear hs hf hn
        obtain ⟨dr, hdr⟩ : ∃ dr, dr = stepped { d with L := putL d.L k s } id := ⟨_, rfl⟩
        rw [← hdr]
        replace hdr := Lib.hid hdr
        obtain ⟨H, hH⟩ : ∃ H, H = w.heap.size := ⟨_, rfl⟩
        obtain ⟨M, hM⟩ : ∃ M, M = d.L.length := ⟨_, rfl⟩
        have hFH : ∀ i, F i → i < H := fun i hi => by rw [hH]; exact h.lt i hi
        have own0 : (w.alloc (.cells #[] 139)).ownsRow H 139 2 (.slice (some ⟨w.heap.size, 0, none⟩) 0 0) 0 [] := World.ownsRow_made w #[] 0 (Nat.le_of_eq hH) (by decide) rfl
        have own1 := h.ls.alloc (.cells #[] 139)
        have hb0 : Below H w (w.alloc (.cells #[] 139)) := (Below.refl _ w).alloc (Nat.le_of_eq hH) _
        have hs0 : H ≤ (w.alloc (.cells #[] 139)).heap.size := by simp; omega
        rw [← hM] at c1 c1a own1 hlen
        replace own0 := Lib.hid own0
        replace own1 := Lib.hid own1
        replace hb0 := Lib.hid hb0
        replace hs0 := Lib.hid hs0
        replace hH := Lib.hid hH
        replace hM := Lib.hid hM
        replace hFH := Lib.hid hFH
        replace h := Lib.hid h
        obtain ⟨i0, hinf, hz0, hz1, hz2⟩ := info_parts infoL
        go_enter Tryz.func47, Tryz.ntmps47
        go_wp2_with fail
        refine (km.out).mono ?_
        rintro en w' ⟨rfl, hw'⟩
        replace hw' := hw'.symm
        subst hw'
        go_wp2_with fail
        refine (kb'.out).mono ?_
        rintro en w' ⟨rfl, hw'⟩
        replace hw' := hw'.symm
        subst hw'
        go_wp2_with (first
          | (refine wpList_append_ownrow _ (.tmp 23) (.tmp 27) 134 rfl H 139 i0 (.agg #[.int .i64 0, .string ⟨#[]⟩]) 2 24 Tryz.underlying134 hinf hz0 hz1 hz2 rfl (by decide) _ _ _ rfl own0.out 0 (.slice A0 M c0) M (pairs d.L) rfl own1.out (pairs_one _) (by unfold maxLen; omega) (by omega) hs0.out rfl ?_; intro v1 w1 o1 g1 n1))
        have hb1 : Below w.heap.size w w1 := by
          have e := hH.out
          have b0 := hb0.out
          rw [e] at b0
          exact b0.trans (Only.toBelow g1 (Nat.le_refl _) b0.size)
        clear n1 g1 c1 c1a own0 own1 hb0 hs0
        rw [Nat.zero_add, List.nil_append] at o1
        obtain ⟨A, c, rfl⟩ := pair_slice o1
        replace o1 := Lib.hid o1
        replace hb1 := Lib.hid hb1
        go_wp2_with fail
        go_loopw [9, 10] (fun v t wr => ∃ i : Nat, i ≤ M ∧ t = .int .i64 (i : Int) ∧ v = .bool (seen k i d.L) ∧ wr.ownsRow H 139 2 (.slice A M c) M (pairs (upd k s i d.L)) ∧ Below w.heap.size w wr) (fun _ t _ => M - (intOf t).toNat)
        case atStart => exact ⟨0, Nat.zero_le _, rfl, rfl, by rw [upd_zero]; exact o1.out, hb1.out⟩
        case round =>
          clear o1 hb1
          obtain ⟨i, hi, rfl, rfl, o, hb⟩ := hrel
          by_cases hlti : i < M
          · obtain ⟨p, hp⟩ : ∃ p, d.L[i]? = some p := ⟨_, List.getElem?_eq_getElem (by have := hM.out; omega)⟩
            obtain ⟨g, cap, hv, _⟩ := o.form (by omega)
            injection hv with hv _ hv2
            subst hv
            have l1 := o.cells (g := g) rfl _ _ (pairs_at (upd_at (n := k) (s := s) hp)).1
            have l2 := o.cells (g := g) rfl _ _ (pairs_at (upd_at (n := k) (s := s) hp)).2
            rw [add_lit, Nat.zero_add] at l1 l2
            have z0 : (0 : Int) ≤ (i : Int) := by omega
            have z1 : (i : Int) < (M : Int) := by omega
            have us := upd_succ (n := k) (s := s) hp
            have ss := seen_succ (n := k) hp
            have hgH := (o.lt g rfl).1
            by_cases hpk : p.1 = k
            · rw [if_pos hpk] at us
              have hpp : (upd k s i d.L)[i]? = some (k, p.2) := by rw [← hpk]; exact upd_at hp
              obtain ⟨o2, fz⟩ := own_putN (i := i * 2 + 1) (u := .string s) o
              rw [pairs_set _ _ _ _ s hpp, ← us] at o2
              have hb2 := hb.setCell (p := ⟨g, i * 2 + 1, none⟩) (by rw [← hH.out]; exact hgH) (.string s)
              have q1 : ((k : Int) == (k : Int)) = true := by simp
              rw [hpk] at l1
              have sst : seen k (i + 1) d.L = true := by rw [ss, hpk]; simp
              clear hp us ss hpp o hb hpk
              replace o2 := Lib.hid o2
              replace hb2 := Lib.hid hb2
              replace sst := Lib.hid sst
              go_wp2_with fail
              exact ⟨⟨i + 1, hlti, rfl, by rw [sst.out], o2.out, hb2.out⟩, by simp [intOf]; omega⟩
            · rw [if_neg hpk, set_same (upd_at hp)] at us
              have sst : seen k (i + 1) d.L = seen k i d.L := by rw [ss]; simp [hpk]
              have q1 : ((p.1 : Int) == (k : Int)) = false := by simp; omega
              rw [← us] at o
              clear hp us ss hpk l2
              replace o := Lib.hid o
              replace hb := Lib.hid hb
              replace sst := Lib.hid sst
              go_wp2_with fail
              exact ⟨⟨i + 1, hlti, rfl, by rw [sst.out], o.out, hb.out⟩, by simp [intOf]; omega⟩
          · obtain rfl : i = M := by omega
            have hpl := putL_seen k s d.L
            rw [← hM.out] at hpl
            obtain ⟨sn, hsn⟩ : ∃ sn, sn = seen k i d.L := ⟨_, rfl⟩
            rw [← hsn] at hpl ⊢
            replace hsn := Lib.hid hsn
            cases sn with
            | true =>
              rw [if_pos rfl] at hpl
              rw [← hpl] at o
              obtain ⟨A2, rfl⟩ : ∃ A2, A2 = A := ⟨_, rfl⟩
              obtain ⟨M2, rfl⟩ : ∃ M2, M2 = i := ⟨_, rfl⟩
              obtain ⟨c2, rfl⟩ : ∃ c2, c2 = c := ⟨_, rfl⟩
              obtain ⟨W, rfl⟩ : ∃ W, W = wr := ⟨_, rfl⟩
              have hW := h.out.below hb
              have o2 := o
              have hl2 : (putL d.L k s).length = M2 := by rw [hpl, upd_length]; exact hM.out.symm
              have hbW := hb
              clear o hb hpl
              obtain ⟨h2, kk2⟩ := hW.relist o2 hl2 hFH.out
              have hk2 : Keeps F w (W.setCell ⟨b, 1, none⟩ (.slice A2 M2 c2)) := (Keeps.of_below F hbW).same kk2
              have hF2 : ∀ j, (F j ∨ (Value.slice A2 M2 c2).ownBlock = some j) → F j ∨ w.heap.size ≤ j := fun j hj => hj.elim Or.inl (fun e => Or.inr (by rw [← hH.out]; exact (o2.lt j e).1))
              have cw : W.cell? ⟨b, 1, none⟩ = some (.slice A0 d.L.length c0) := hW.blk.cell 1
              have fw := hW.blk.free 1
              clear hW o2 hl2 hbW kk2
              replace h2 := Lib.hid h2
              replace hk2 := Lib.hid hk2
              replace hF2 := Lib.hid hF2
              by_cases ha : d.armed = 1
              · have kr := rstep_any h2.out hnum1.out
                rw [show decide (({ d with L := putL d.L k s } : Dk).armed = 1) = true from decide_eq_true ha] at kr
                have e1 : dr = (goesD (stepD { d with L := putL d.L k s }) d.keep, 2) := by rw [hdr.out]; unfold stepped; rw [if_pos ha]
                replace kr := Lib.hid kr
                replace e1 := Lib.hid e1
                clear ha
                go_wp2_with fail
                refine kr.out.mono ?_
                rintro en w3 ⟨rfl, h3, k3⟩
                have hk3 := hk2.out.trans k3 hF2.out
                have hs2 := hk2.out.size
                have ck : w3.cell? ⟨b, 5, none⟩ = some (.string d.keep) := by
                  obtain ⟨_, _, _, _, _, hc⟩ := h3
                  exact hc.cells.2.2.2.2.2.1
                have kg := Lib.hid (rgoes_any h3 hfit1.out.step d.keep)
                replace hk3 := Lib.hid hk3
                clear h2 hk2 k3 cw fw h3 kr
                go_wp2_with fail
                refine kg.out.mono ?_
                rintro en w4 ⟨rfl, h4, k4⟩
                have hk4 := hk3.out.trans k4 hF2.out
                replace h4 := Lib.hid h4
                replace hk4 := Lib.hid hk4
                go_wp2_with fail
                go_ret
                rw [e1.out]
                exact ⟨rfl, _, h4.out, hk4.out, hF2.out⟩
              · have kr := rstep_any h2.out hnum1.out
                rw [show decide (({ d with L := putL d.L k s } : Dk).armed = 1) = false from decide_eq_false ha] at kr
                have e1 : dr = (stepD { d with L := putL d.L k s }, 0) := by rw [hdr.out]; unfold stepped; rw [if_neg ha]; rfl
                replace kr := Lib.hid kr
                replace e1 := Lib.hid e1
                clear ha
                go_wp2_with fail
                refine kr.out.mono ?_
                rintro en w3 ⟨rfl, h3, k3⟩
                have hk3 := hk2.out.trans k3 hF2.out
                replace hk3 := Lib.hid hk3
                replace h3 := Lib.hid h3
                clear h2 hk2 k3 cw fw kr
                go_wp2_with fail
                go_ret
                rw [e1.out]
                exact ⟨rfl, _, h3.out, hk3.out, hF2.out⟩
            | false =>
              rw [if_neg (by decide)] at hpl
              have oa := o.alloc (.cells #[.int .i64 (k : Int), .string s] 139)
              have hba := hb.alloc hb.size (.cells #[.int .i64 (k : Int), .string s] 139)
              have hnew := World.news_of_block (Blk.new wr 139 #[.int .i64 (k : Int), .string s])
              have hHs : H ≤ (wr.alloc (.cells #[.int .i64 (k : Int), .string s] 139)).heap.size := by rw [hH.out]; exact hba.size
              replace oa := Lib.hid oa
              replace hba := Lib.hid hba
              replace hHs := Lib.hid hHs
              replace hnew := Lib.hid hnew
              replace hpl := Lib.hid hpl
              clear o hb
              go_upto_region 18 with (first
                | (at_builtin; refine wpList_append_own _ rfl (.tmp 49) (.tmp 53) _ rfl H 139 i0 (.agg #[.int .i64 0, .string ⟨#[]⟩]) 2 24 Tryz.underlying134 hinf hz0 hz1 hz2 rfl (by decide) (.slice A i c) i _ rfl oa.out ⟨wr.heap.size, 0, none⟩ 1 1 [.int .i64 (k : Int), .string s] rfl rfl hnew.out (by intro u hu; simp only [List.mem_cons, List.not_mem_nil, or_false] at hu; rcases hu with rfl | rfl <;> rfl) (by unfold maxLen; omega) (by omega) hHs.out ?_; intro v1 W o2 hg1 hn1))
              have hl2 : (putL d.L k s).length = i + 1 := by rw [hpl.out, List.length_append, upd_length, ← hM.out]; rfl
              have e2 : pairs (upd k s i d.L) ++ [.int .i64 (k : Int), .string s] = pairs (putL d.L k s) := by rw [hpl.out, pairs_snoc]
              rw [e2] at o2
              have hbW : Below w.heap.size w W := hba.out.grown hg1 (by have := hHs.out; rw [hH.out] at this; exact this) (fun j hj => by rw [← hH.out]; exact (oa.out.lt j hj).1)
              have hW := h.out.below hbW
              obtain ⟨A2, c2, rfl⟩ := pair_slice o2
              obtain ⟨M2, hM2⟩ : ∃ M2, M2 = i + 1 := ⟨_, rfl⟩
              rw [← hM2] at o2 hl2
              have hM3 : i + 1 = M2 := hM2.symm
              clear e2 hg1 hn1 oa hba hnew hHs hM2
              rw [hM3]
              clear hM3
              obtain ⟨h2, kk2⟩ := hW.relist o2 hl2 hFH.out
              have hk2 : Keeps F w (W.setCell ⟨b, 1, none⟩ (.slice A2 M2 c2)) := (Keeps.of_below F hbW).same kk2
              have hF2 : ∀ j, (F j ∨ (Value.slice A2 M2 c2).ownBlock = some j) → F j ∨ w.heap.size ≤ j := fun j hj => hj.elim Or.inl (fun e => Or.inr (by rw [← hH.out]; exact (o2.lt j e).1))
              have cw : W.cell? ⟨b, 1, none⟩ = some (.slice A0 d.L.length c0) := hW.blk.cell 1
              have fw := hW.blk.free 1
              clear hW o2 hl2 hbW kk2
              replace h2 := Lib.hid h2
              replace hk2 := Lib.hid hk2
              replace hF2 := Lib.hid hF2
              by_cases ha : d.armed = 1
              · have kr := rstep_any h2.out hnum1.out
                rw [show decide (({ d with L := putL d.L k s } : Dk).armed = 1) = true from decide_eq_true ha] at kr
                have e1 : dr = (goesD (stepD { d with L := putL d.L k s }) d.keep, 2) := by rw [hdr.out]; unfold stepped; rw [if_pos ha]
                replace kr := Lib.hid kr
                replace e1 := Lib.hid e1
                clear ha
                go_wp2_with fail
                refine kr.out.mono ?_
                rintro en w3 ⟨rfl, h3, k3⟩
                have hk3 := hk2.out.trans k3 hF2.out
                have hs2 := hk2.out.size
                have ck : w3.cell? ⟨b, 5, none⟩ = some (.string d.keep) := by
                  obtain ⟨_, _, _, _, _, hc⟩ := h3
                  exact hc.cells.2.2.2.2.2.1
                have kg := Lib.hid (rgoes_any h3 hfit1.out.step d.keep)
                replace hk3 := Lib.hid hk3
                clear h2 hk2 k3 cw fw h3 kr
                go_wp2_with fail
                refine kg.out.mono ?_
                rintro en w4 ⟨rfl, h4, k4⟩
                have hk4 := hk3.out.trans k4 hF2.out
                replace h4 := Lib.hid h4
                replace hk4 := Lib.hid hk4
                go_wp2_with fail
                go_ret
                rw [e1.out]
                exact ⟨rfl, _, h4.out, hk4.out, hF2.out⟩
              · have kr := rstep_any h2.out hnum1.out
                rw [show decide (({ d with L := putL d.L k s } : Dk).armed = 1) = false from decide_eq_false ha] at kr
                have e1 : dr = (stepD { d with L := putL d.L k s }, 0) := by rw [hdr.out]; unfold stepped; rw [if_neg ha]; rfl
                replace kr := Lib.hid kr
                replace e1 := Lib.hid e1
                clear ha
                go_wp2_with fail
                refine kr.out.mono ?_
                rintro en w3 ⟨rfl, h3, k3⟩
                have hk3 := hk2.out.trans k3 hF2.out
                replace hk3 := Lib.hid hk3
                replace h3 := Lib.hid h3
                clear h2 hk2 k3 cw fw kr
                go_wp2_with fail
                go_ret
                rw [e1.out]
                exact ⟨rfl, _, h3.out, hk3.out, hF2.out⟩
    · have e0 : ((s.size : Int) != 64) = true := by simp; omega
      rw [if_pos hs]
      clear hs h hn hf kb'
      go_enter Tryz.func47, Tryz.ntmps47
      go_wp2_with fail
      refine (km.out).mono ?_
      rintro en w' ⟨rfl, hw'⟩
      replace hw' := hw'.symm
      subst hw'
      go_wp2_with fail
      go_ret
      exact ⟨rfl, fin0.out⟩
  · rw [if_pos he]
    have hne : (mayE d n != 0) = true := by simpa using he
    generalize mayE d n = ee at km hne
    clear he h hn hf kb
    go_enter Tryz.func47, Tryz.ntmps47
    go_wp2_with fail
    refine (km.out).mono ?_
    rintro en w' ⟨rfl, hw'⟩
    replace hw' := hw'.symm
    subst hw'
    go_wp2_with fail
    go_ret
    exact ⟨rfl, fin0.out⟩
end
end Go.Proofs.YtajlfmnjibgbaaaGreatDoor.Disk
/- The document's disk: Sync, Bad. -/
namespace Go.Proofs.YtajlfmnjibgbaaaGreatDoor.Disk
open Go Go.RowKit Go.Maps Mem
set_option maxRecDepth 100000 in
theorem applyAll_snoc (L : List (Nat × ByteArray)) (p : Nat × ByteArray) (st : List ByteArray) : applyAll (L ++ [p]) st = (applyAll L st).set p.1 p.2 := by
  unfold applyAll
  rw [List.foldl_append]
  rfl
section
variable {F : Nat → Prop} {w W w' : World} {b : Nat} {d : Dk} {sb sc : Nat} {lv bv : Value} {B : List Nat}
set_option maxRecDepth 100000 in
set_option maxHeartbeats 8000000 in
theorem rsync_any (h : IsRk F w b d) (hn : Num d) (hf : Fit d) : Calls Tryz.prog 97 #[.pointer (some ⟨b, 0, none⟩)] w fun e w' =>
    e = .returned (.int .i64 (syncD d).2) ∧ IsRk F w' b (syncD d).1 ∧ Keeps F w w' := by
  have kr := rstep_any h hn
  have fin := Lib.hid h
  have c6 : w.cell? ⟨b, 6, none⟩ = some (.bool d.dead) := by
    obtain ⟨_, _, _, _, _, hc⟩ := h
    exact hc.cells.2.2.2.2.2.2
  have hf2 := Lib.hid hf.step
  have hfe := Lib.hid hf
  clear h hn
  unfold syncD
  rcases Bool.eq_false_or_eq_true d.dead with hd | hd
  · rw [hd] at c6
    rw [if_pos hd]
    replace hd := Lib.hid hd
    replace kr := Lib.hid kr
    clear hf
    go_enter Tryz.func97, Tryz.ntmps97
    go_wp2_with fail
    go_ret
    exact ⟨rfl, fin.out, Keeps.refl _ _⟩
  · rw [hd] at c6
    rw [if_neg (by rw [hd]; decide)]
    replace hd := Lib.hid hd
    unfold stepped
    by_cases ha : d.armed = 1
    · rw [if_pos ha]
      rw [show decide (d.armed = 1) = true from decide_eq_true ha] at kr
      replace kr := Lib.hid kr
      clear ha hf
      go_enter Tryz.func97, Tryz.ntmps97
      go_wp2_with fail
      refine kr.out.mono ?_
      rintro en w3 ⟨rfl, h3, k3⟩
      have ck : w3.cell? ⟨b, 5, none⟩ = some (.string d.keep) := by
        obtain ⟨_, _, _, _, _, hc⟩ := h3
        exact hc.cells.2.2.2.2.2.1
      have kg := Lib.hid (rgoes_any h3 hf2.out d.keep)
      replace k3 := Lib.hid k3
      clear h3 kr
      go_wp2_with fail
      refine kg.out.mono ?_
      rintro en w4 ⟨rfl, h4, k4⟩
      replace k4 := Lib.hid (k3.out.same k4)
      replace h4 := Lib.hid h4
      go_wp2_with fail
      go_ret
      exact ⟨rfl, h4.out, k4.out⟩
    · rw [if_neg ha]
      rw [show decide (d.armed = 1) = false from decide_eq_false ha] at kr
      replace kr := Lib.hid kr
      clear ha
      have hlen := hf.len
      have hfew := hf.few
      have hloose := Lib.hid hf.loose
      clear hf
      obtain ⟨M, hM⟩ : ∃ M, M = d.L.length := ⟨_, rfl⟩
      obtain ⟨N, hN⟩ : ∃ N, N = d.stays.length := ⟨_, rfl⟩
      rw [← hM] at hlen
      rw [← hN] at hfew
      replace hM := Lib.hid hM
      replace hN := Lib.hid hN
      go_enter Tryz.func97, Tryz.ntmps97
      go_wp2_with fail
      refine kr.out.mono ?_
      rintro en w3 ⟨rfl, ⟨sb, sc, lv, bv, B, h⟩, k3⟩
      obtain ⟨A1, k1, rfl⟩ := pair_slice h.ls
      have hne := Lib.hid h.ne
      have hst0 := Lib.hid (show w3.ownsRow 0 9 1 (.slice (some ⟨sb, 0, none⟩) d.stays.length sc) d.stays.length (d.stays.map Value.string) from h.st)
      replace h := Lib.hid h
      replace k3 := Lib.hid k3
      clear kr
      go_wp2_with fail
      go_loopw [3] (fun t wr => ∃ k : Nat, k ≤ M ∧ t = .int .i64 (k : Int) ∧ Keeps (fun j => j = sb) w3 wr ∧ wr.ownsRow 0 9 1 (.slice (some ⟨sb, 0, none⟩) d.stays.length sc) d.stays.length ((applyAll (d.L.take k) d.stays).map Value.string)) (fun t _ => M - (intOf t).toNat)
      case atStart => exact ⟨0, Nat.zero_le _, rfl, Keeps.refl _ _, hst0.out⟩
      case round =>
        clear hst0
        obtain ⟨k, hk, rfl, kk, hst⟩ := hrel
        have hB := h.out.blk.keeps kk (Ne.symm hne.out.1)
        have hls := own_keeps h.out.ls kk (fun j e => hne.out.2.2.2.1 j e)
        have c0 : wr.cell? ⟨b, 0, none⟩ = some (.slice (some ⟨sb, 0, none⟩) N sc) := by rw [hN.out]; exact hB.cell 0
        have c1 : wr.cell? ⟨b, 1, none⟩ = some (.slice A1 M k1) := by rw [hM.out]; exact hB.cell 1
        by_cases hlt : k < M
        · obtain ⟨p, hp⟩ : ∃ p, d.L[k]? = some p := ⟨_, List.getElem?_eq_getElem (by have := hM.out; omega)⟩
          obtain ⟨hp1, hp2⟩ := hloose.out p (List.mem_of_getElem? hp)
          rw [← hN.out] at hp1
          obtain ⟨g, cap, hv, _⟩ := hls.form (by have := hM.out; show 0 < d.L.length; omega)
          injection hv with hv _ _
          subst hv
          have l1 := hls.cells (g := g) rfl _ _ (pairs_at (show (stepD d).L[k]? = some p from hp)).1
          have l2 := hls.cells (g := g) rfl _ _ (pairs_at (show (stepD d).L[k]? = some p from hp)).2
          rw [add_lit, Nat.zero_add] at l1 l2
          have z1 : (k : Int) < (M : Int) := by omega
          have z0 : (0 : Int) ≤ (k : Int) := by omega
          have z2 : (p.1 : Int) < (N : Int) := by omega
          have z3 : (0 : Int) ≤ (p.1 : Int) := by omega
          have hsn := applyAll_snoc (d.L.take k) p d.stays
          rw [← take_succ_of hp] at hsn
          replace hsn := Lib.hid hsn
          clear hp
          obtain ⟨hst', fst⟩ := own_put (i := p.1) (u := .string p.2) hst
          obtain ⟨old, hold⟩ : ∃ u, ((applyAll (d.L.take k) d.stays).map Value.string)[p.1]? = some u := ⟨_, List.getElem?_eq_getElem (by rw [List.length_map, applyAll_length, ← hN.out]; exact hp1)⟩
          have cst := hst.cells (g := sb) rfl p.1 old hold
          rw [add_lit, Nat.zero_add] at cst
          have fin : ∃ k' : Nat, k' ≤ M ∧ Value.int .i64 ((k : Int) + 1) = .int .i64 (k' : Int) ∧ Keeps (fun j => j = sb) w3 (wr.drew.setCell ⟨sb, p.1, none⟩ (.string p.2)) ∧ (wr.drew.setCell ⟨sb, p.1, none⟩ (.string p.2)).ownsRow 0 9 1 (.slice (some ⟨sb, 0, none⟩) d.stays.length sc) d.stays.length ((applyAll (d.L.take k') d.stays).map Value.string) := by
            refine ⟨k + 1, by omega, rfl, (kk.same (keeps_drew _ wr)).put (Or.inl rfl) _ _, ?_⟩
            rw [hsn.out, List.map_set]
            exact hst'
          replace fin := Lib.hid fin
          clear hst' hst hls hB kk hold hsn hp2 hk
          go_wp2_with fail
          go_region
          go_wp2_with fail
          exact ⟨fin.out, by simp [intOf]; omega⟩
        · obtain rfl : k = M := by omega
          rw [hM.out, List.take_length] at hst
          have f1 := hB.free 1
          have k4 := (Keeps.refl (fun j => j = b) wr).put (g := b) (Or.inl rfl) 1 (.slice none 0 0)
          have hl : (applyAll d.L d.stays).length = d.stays.length := applyAll_length _ _
          have hB3 : Blk (wr.setCell ⟨b, 1, none⟩ (.slice none 0 0)) b 136 (rkc sb sc (.slice none 0 0) bv { stepD d with stays := applyAll d.L d.stays, L := [] }) := by
            have e : rkc sb sc (.slice none 0 0) bv { stepD d with stays := applyAll d.L d.stays, L := [] } = (rkc sb sc (.slice A1 d.L.length k1) bv (stepD d)).setIfInBounds 1 (.slice none 0 0) := by
              simp [rkc, stepD, applyAll_length]
            rw [e]
            exact hB.put 1 (.slice none 0 0)
          have k5 := (kk.mono (G := fun j => j = sb ∨ j = b) (fun i e => Or.inl e)).same (k4.mono (G := fun j => j = sb ∨ j = b) (fun i e => Or.inr e))
          have hF5 : ∀ i, (i = sb ∨ i = b) → F i := fun i e => by
            rcases e with rfl | rfl
            · exact h.out.fs
            · exact h.out.fb
          have fin : IsRk F (wr.setCell ⟨b, 1, none⟩ (.slice none 0 0)) b { stepD d with stays := applyAll d.L d.stays, L := [] } ∧ Keeps F w (wr.setCell ⟨b, 1, none⟩ (.slice none 0 0)) := by
            refine ⟨⟨sb, sc, .slice none 0 0, bv, B, hB3, ?_, ⟨rfl, Or.inl ⟨rfl, rfl⟩⟩, own_keeps h.out.bd k5 (fun j e hj => hj.elim (hne.out.2.2.2.2 j e) (hne.out.2.2.1 j e)), h.out.mem, h.out.few, h.out.fb, h.out.fs, (fun j e => by cases e), h.out.fd, fun i hi => Nat.lt_of_lt_of_le (h.out.lt i hi) k5.size⟩, k3.out.same (k5.mono hF5)⟩
            show (wr.setCell ⟨b, 1, none⟩ (.slice none 0 0)).ownsRow 0 9 1 (.slice (some ⟨sb, 0, none⟩) (applyAll d.L d.stays).length sc) (applyAll d.L d.stays).length _
            rw [hl]
            exact own_keeps hst k4 (fun j e => by injection e with e; subst e; exact hne.out.1)
          replace fin := Lib.hid fin
          clear hB hB3 k4 k5 kk hst hls hl hk hF5
          go_wp2_with fail
          go_ret
          exact ⟨rfl, fin.out⟩
end
end Go.Proofs.YtajlfmnjibgbaaaGreatDoor.Disk
/- The document's disk: Bad. -/
namespace Go.Proofs.YtajlfmnjibgbaaaGreatDoor.Disk
open Go Go.RowKit Go.Maps Mem
section
variable {F : Nat → Prop} {w W w' : World} {b : Nat} {d : Dk} {sb sc : Nat} {lv bv : Value} {B : List Nat}
end
end Go.Proofs.YtajlfmnjibgbaaaGreatDoor.Disk

/- The document's disk in memory: the functions that only read; step, Arm, Revive. -/
import Derived.Test.YtkghlbpkdkonbaaGreatDiskWd
import Derived.Test.YtkghlbpkdkonbaaGreatAppendRow
namespace Go.Proofs.YtkghlbpkdkonbaaGreat.Disk
open Go Go.RowKit Go.Maps Mem

def pairs (L : List (Nat × ByteArray)) : List Value := L.flatMap fun p => [.int .i64 (p.1 : Int), .string p.2]
set_option maxRecDepth 100000 in
theorem pairs_length (L : List (Nat × ByteArray)) : (pairs L).length = L.length * 2 := by
  unfold pairs
  induction L with
  | nil => rfl
  | cons p L ih => rw [List.flatMap_cons, List.length_append, ih]; simp; omega
set_option maxRecDepth 100000 in
theorem pairs_snoc (L : List (Nat × ByteArray)) (p : Nat × ByteArray) : pairs (L ++ [p]) = pairs L ++ [.int .i64 (p.1 : Int), .string p.2] := by simp [pairs]
set_option maxRecDepth 100000 in
theorem pairs_at : ∀ {L : List (Nat × ByteArray)} {k : Nat} {p : Nat × ByteArray}, L[k]? = some p → (pairs L)[k * 2]? = some (.int .i64 (p.1 : Int)) ∧ (pairs L)[k * 2 + 1]? = some (.string p.2)
  | [], k, p, h => by simp at h
  | q :: L, 0, p, h => by
    injection h with h
    subst h
    exact ⟨rfl, rfl⟩
  | q :: L, k + 1, p, h => by
    have h' : L[k]? = some p := h
    obtain ⟨h1, h2⟩ := pairs_at h'
    have e : pairs (q :: L) = .int .i64 (q.1 : Int) :: .string q.2 :: pairs L := rfl
    rw [e, show (k + 1) * 2 = (k * 2 + 1) + 1 by omega]
    exact ⟨h1, h2⟩
/-- the seven cells -/
def rkc (sb sc : Nat) (lv bv : Value) (d : Dk) : Array Value := #[.slice (some ⟨sb, 0, none⟩) d.stays.length sc, lv, bv, .int .i64 (d.steps : Int), .int .i64 (d.armed : Int), .string d.keep, .bool d.dead]
def bads (B : List Nat) : List Value := B.map fun k : Nat => Value.int .i64 (k : Int)
structure RCore (F : Nat → Prop) (w : World) (b : Nat) (d : Dk) (sb sc : Nat) (lv bv : Value) (B : List Nat) : Prop where
  blk : Blk w b 52 (rkc sb sc lv bv d)
  st : w.ownsRow 0 9 1 (.slice (some ⟨sb, 0, none⟩) d.stays.length sc) d.stays.length (d.stays.map Value.string)
  ls : w.ownsRow 0 123 2 lv d.L.length (pairs d.L)
  bd : w.ownsRow 0 3 1 bv B.length (bads B)
  mem : ∀ k, k ∈ B ↔ d.bad k = true
  few : B.length ≤ d.marks
  fb : F b
  fs : F sb
  fl : ∀ j, lv.ownBlock = some j → F j
  fd : ∀ j, bv.ownBlock = some j → F j
  lt : ∀ i, F i → i < w.heap.size
/-- the document's disk at b, its blocks F -/
def IsRk (F : Nat → Prop) (w : World) (b : Nat) (d : Dk) : Prop := ∃ sb sc lv bv B, RCore F w b d sb sc lv bv B
section
variable {F G : Nat → Prop} {w w' : World} {b : Nat} {d d' : Dk} {sb sc : Nat} {lv bv : Value} {B : List Nat}
set_option maxRecDepth 100000 in
theorem RCore.rk (h : RCore F w b d sb sc lv bv B) : IsRk F w b d := ⟨_, _, _, _, _, h⟩
set_option maxRecDepth 100000 in
theorem RCore.keeps (h : RCore F w b d sb sc lv bv B) (hk : Keeps G w w') (hn : ∀ i, F i → ¬ G i) : RCore F w' b d sb sc lv bv B :=
  ⟨h.blk.keeps hk (hn b h.fb), own_keeps h.st hk (fun j e => by injection e with e; exact e ▸ hn sb h.fs), own_keeps h.ls hk (fun j e => hn j (h.fl j e)), own_keeps h.bd hk (fun j e => hn j (h.fd j e)), h.mem, h.few, h.fb, h.fs, h.fl, h.fd, fun i hi => Nat.lt_of_lt_of_le (h.lt i hi) hk.size⟩
set_option maxRecDepth 100000 in
theorem RCore.below (h : RCore F w b d sb sc lv bv B) (hb : Below w.heap.size w w') : RCore F w' b d sb sc lv bv B := h.keeps (Keeps.of_below (fun _ => False) hb) (fun _ _ h => h)
set_option maxRecDepth 100000 in
theorem IsRk.keeps (h : IsRk F w b d) (hk : Keeps G w w') (hn : ∀ i, F i → ¬ G i) : IsRk F w' b d := by
  obtain ⟨sb, sc, lv, bv, B, h⟩ := h
  exact (h.keeps hk hn).rk
set_option maxRecDepth 100000 in
theorem IsRk.below (h : IsRk F w b d) (hb : Below w.heap.size w w') : IsRk F w' b d := h.keeps (Keeps.of_below (fun _ => False) hb) (fun _ _ h => h)
set_option maxRecDepth 100000 in
theorem IsRk.lt (h : IsRk F w b d) : ∀ i, F i → i < w.heap.size := by
  obtain ⟨sb, sc, lv, bv, B, h⟩ := h
  exact h.lt
set_option maxRecDepth 100000 in
theorem RCore.ne (h : RCore F w b d sb sc lv bv B) : sb ≠ b ∧ (∀ j, lv.ownBlock = some j → j ≠ b) ∧ (∀ j, bv.ownBlock = some j → j ≠ b) ∧ (∀ j, lv.ownBlock = some j → j ≠ sb) ∧ ∀ j, bv.ownBlock = some j → j ≠ sb := by
  refine ⟨own_ne h.st h.blk (by decide) _ rfl, own_ne h.ls h.blk (by decide), own_ne h.bd h.blk (by decide), ?_, ?_⟩
  · rcases h.st.2 with ⟨e, _⟩ | ⟨g, cap, cur, hv, _, hg, _⟩
    · cases e
    · injection hv with hv
      injection hv with hv
      injection hv with hv
      subst hv
      exact own_ne (cs := cur) h.ls hg (by decide)
  · rcases h.st.2 with ⟨e, _⟩ | ⟨g, cap, cur, hv, _, hg, _⟩
    · cases e
    · injection hv with hv
      injection hv with hv
      injection hv with hv
      subst hv
      exact own_ne (cs := cur) h.bd hg (by decide)
set_option maxRecDepth 100000 in
/-- the block's own cells turn, and nothing else -/
theorem RCore.reput (h : RCore F w b d sb sc lv bv B) (kk : Keeps (fun j => j = b) w w') (hB : Blk w' b 52 (rkc sb sc lv bv d')) (e1 : d'.stays = d.stays) (e2 : d'.L = d.L) (e3 : d'.bad = d.bad) (e4 : d'.marks = d.marks) :
    IsRk F w' b d' ∧ Keeps F w w' := by
  have hne := h.ne
  refine ⟨⟨sb, sc, lv, bv, B, hB, ?_, ?_, own_keeps h.bd kk hne.2.2.1, ?_, ?_, h.fb, h.fs, h.fl, h.fd, fun i hi => Nat.lt_of_lt_of_le (h.lt i hi) kk.size⟩, kk.mono (fun i e => e ▸ h.fb)⟩
  · rw [e1]; exact own_keeps h.st kk (fun j e => by injection e with e; subst e; exact hne.1)
  · rw [e2]; exact own_keeps h.ls kk hne.2.1
  · rw [e3]; exact h.mem
  · rw [e4]; exact h.few
set_option maxRecDepth 100000 in
theorem RCore.cells (h : RCore F w b d sb sc lv bv B) : w.cell? ⟨b, 0, none⟩ = some (.slice (some ⟨sb, 0, none⟩) d.stays.length sc) ∧ w.cell? ⟨b, 1, none⟩ = some lv ∧ w.cell? ⟨b, 2, none⟩ = some bv ∧ w.cell? ⟨b, 3, none⟩ = some (.int .i64 (d.steps : Int)) ∧
    w.cell? ⟨b, 4, none⟩ = some (.int .i64 (d.armed : Int)) ∧ w.cell? ⟨b, 5, none⟩ = some (.string d.keep) ∧ w.cell? ⟨b, 6, none⟩ = some (.bool d.dead) :=
  ⟨h.blk.cell 0, h.blk.cell 1, h.blk.cell 2, h.blk.cell 3, h.blk.cell 4, h.blk.cell 5, h.blk.cell 6⟩

set_option maxRecDepth 100000 in
set_option maxHeartbeats 2000000 in
theorem rmay_any (h : IsRk F w b d) (n : Int) : Calls Tryz.prog 58 #[.pointer (some ⟨b, 0, none⟩), .int .i64 n] w fun e w' => e = .returned (.int .i64 (mayE d n)) ∧ w' = w := by
  obtain ⟨sb, sc, lv, bv, B, h⟩ := h
  obtain ⟨c0, _, _, _, _, _, c6⟩ := h.cells
  unfold mayE
  clear h
  cases hd : d.dead with
  | true =>
    rw [hd] at c6
    replace hd := Lib.hid hd
    go_enter Tryz.func58, Tryz.ntmps58
    go_wp2_with fail
    go_ret
    exact ⟨rfl, rfl⟩
  | false =>
    rw [hd] at c6
    replace hd := Lib.hid hd
    rw [if_neg (by decide)]
    by_cases h0 : n < 0
    · rw [if_pos (Or.inl h0)]
      go_enter Tryz.func58, Tryz.ntmps58
      go_wp2_with fail
      go_ret
      exact ⟨rfl, rfl⟩
    · by_cases h2 : (d.stays.length : Int) ≤ n
      · rw [if_pos (Or.inr h2)]
        go_enter Tryz.func58, Tryz.ntmps58
        go_wp2_with fail
        go_ret
        exact ⟨rfl, rfl⟩
      · rw [if_neg (fun h => h.elim h0 h2)]
        go_enter Tryz.func58, Tryz.ntmps58
        go_wp2_with fail
        go_ret
        exact ⟨rfl, rfl⟩
set_option maxRecDepth 100000 in
set_option maxHeartbeats 2000000 in
theorem rbad_any_ (h : IsRk F w b d) (n : Nat) (hm : d.marks ≤ 4611686018427387904) : Calls Tryz.prog 82 #[.pointer (some ⟨b, 0, none⟩), .int .i64 (n : Int)] w fun e w' => e = .returned (.bool (d.bad n)) ∧ w' = w := by
  obtain ⟨sb, sc, lv, bv, B, h⟩ := h
  obtain ⟨A, c, rfl⟩ := own_slice h.bd
  obtain ⟨_, _, c2, _⟩ := h.cells
  have hmem := h.mem n
  have hfew := h.few
  have hrow := Mem.Row.of_own h.bd
  clear h
  obtain ⟨M, hM⟩ : ∃ M, M = B.length := ⟨_, rfl⟩
  rw [← hM] at c2 hrow hfew
  replace hM := Lib.hid hM
  obtain ⟨x, hx⟩ : ∃ x, x = d.bad n := ⟨_, rfl⟩
  rw [← hx] at hmem ⊢
  clear hx
  replace hmem := Lib.hid hmem
  replace hrow := Lib.hid hrow
  go_enter Tryz.func82, Tryz.ntmps82
  go_wp2_with fail
  go_loop [5] (fun t => ∃ k : Nat, k ≤ M ∧ t = .int .i64 (k : Int) ∧ ∀ j, j < k → B[j]? ≠ some n) (fun t => M - (intOf t).toNat)
  case atStart => exact ⟨0, Nat.zero_le _, rfl, fun j hj => absurd hj (Nat.not_lt_zero _)⟩
  case round =>
    obtain ⟨k, hk, rfl, hno⟩ := hrel
    replace hno := Lib.hid hno
    by_cases hlt : k < M
    · obtain ⟨ad, u, rfl, hu, hc⟩ := hrow.out.at_ hlt
      obtain ⟨v, hv⟩ : ∃ v, B[k]? = some v := ⟨_, List.getElem?_eq_getElem (by have := hM.out; omega)⟩
      rw [bads, List.getElem?_map, hv] at hu
      injection hu with hu
      subst hu
      have z1 : (k : Int) < (M : Int) := by omega
      by_cases hvn : v = n
      · subst hvn
        have hx1 : x = true := hmem.out.1 (List.mem_of_getElem? hv)
        subst hx1
        clear hv
        go_wp2_with fail
        go_ret
        exact ⟨rfl, rfl⟩
      · have q1 : ((v : Int) == (n : Int)) = false := by simp; omega
        have hno2 : ∀ j, j < k + 1 → B[j]? ≠ some n := fun j hj => by
          rcases Nat.lt_succ_iff_lt_or_eq.1 hj with h | rfl
          · exact hno.out j h
          · rw [hv]; intro e; injection e with e; exact hvn e
        replace hno2 := Lib.hid hno2
        clear hv hvn
        go_wp2_with fail
        exact ⟨⟨k + 1, hlt, rfl, hno2.out⟩, by simp [intOf]; omega⟩
    · obtain rfl : k = M := by omega
      have hx0 : x = false := by
        cases hxx : x with
        | false => rfl
        | true =>
          obtain ⟨j, hj, e⟩ := List.getElem_of_mem (hmem.out.2 hxx)
          exact absurd (List.getElem?_eq_getElem hj ▸ congrArg some e) (hno.out j (by rw [hM.out]; exact hj))
      subst hx0
      go_wp2_with fail
      go_ret
      exact ⟨rfl, rfl⟩
set_option maxRecDepth 100000 in
set_option maxHeartbeats 4000000 in
theorem rread_any (h : IsRk F w b d) (hf : Fit d) (hm : d.marks ≤ 4611686018427387904) (n : Int) : Calls Tryz.prog 43 #[.pointer (some ⟨b, 0, none⟩), .int .i64 n] w fun e w' => e = .returned (.tuple #[.string (readD d n).1, .int .i64 (readD d n).2]) ∧ w' = w := by
  have km := Lib.hid (rmay_any h n)
  have kb := Lib.hid (fun k => rbad_any_ h k hm)
  obtain ⟨sb, sc, lv, bv, B, h⟩ := h
  obtain ⟨A, c, rfl⟩ : ∃ A c, lv = .slice A d.L.length c := by
    rcases h.ls.2 with ⟨e1, e2⟩ | ⟨g, cap, cur, hv, _⟩
    · exact ⟨none, 0, by rw [e1, e2]⟩
    · exact ⟨_, _, hv⟩
  obtain ⟨c0, c1, _⟩ := h.cells
  have hst := Lib.hid h.st
  have hls := Lib.hid h.ls
  clear h
  have hlen := hf.len
  have hfew := hf.few
  have hap := Lib.hid hf.apart
  unfold readD
  by_cases he : mayE d n = 0
  · obtain ⟨_, h0, hlt⟩ := mayE_ok he
    rw [if_neg (by rw [he]; decide)]
    rw [he] at km
    replace km := Lib.hid km.out
    replace he := Lib.hid he
    obtain ⟨k, rfl⟩ := Int.eq_ofNat_of_zero_le h0
    rw [Int.toNat_natCast]
    obtain ⟨s, hs⟩ : ∃ s, d.stays[k]? = some s := ⟨_, List.getElem?_eq_getElem (by omega)⟩
    have cst := cells_of_own hst.out k (.string s) (by rw [List.getElem?_map, hs]; rfl)
    rw [Nat.zero_add] at cst
    rw [hs]
    have kb' := kb.out k
    obtain ⟨N, hN⟩ : ∃ N, N = d.stays.length := ⟨_, rfl⟩
    obtain ⟨M, hM⟩ : ∃ M, M = d.L.length := ⟨_, rfl⟩
    rw [← hN] at c0 hlt hfew
    rw [← hM] at c1 hlen
    replace hN := Lib.hid hN
    replace hM := Lib.hid hM
    replace hs := Lib.hid hs
    clear kb hf
    have hkN : k < N := by omega
    cases hb : d.bad k with
    | true =>
      rw [hb] at kb'
      rw [if_pos rfl]
      replace hb := Lib.hid hb
      replace kb' := Lib.hid kb'
      go_enter Tryz.func43, Tryz.ntmps43
      go_wp2_with fail
      refine (km.out).mono ?_
      rintro en w' ⟨rfl, hw'⟩
      replace hw' := hw'.symm
      subst hw'
      go_wp2_with fail
      refine (kb'.out).mono ?_
      rintro en w' ⟨rfl, hw'⟩
      replace hw' := hw'.symm
      subst hw'
      go_wp2_with fail
      go_ret2
      exact ⟨rfl, rfl⟩
    | false =>
      rw [hb] at kb'
      rw [if_neg (by decide)]
      replace hb := Lib.hid hb
      replace kb' := Lib.hid kb'
      obtain ⟨R, hR⟩ : ∃ R, R = (find d.L k).getD ((some s).getD ⟨#[]⟩) := ⟨_, rfl⟩
      rw [← hR]
      replace hR := Lib.hid hR
      go_enter Tryz.func43, Tryz.ntmps43
      go_wp2_with fail
      refine (km.out).mono ?_
      rintro en w' ⟨rfl, hw'⟩
      replace hw' := hw'.symm
      subst hw'
      go_wp2_with fail
      refine (kb'.out).mono ?_
      rintro en w' ⟨rfl, hw'⟩
      replace hw' := hw'.symm
      subst hw'
      go_wp2_with fail
      go_loop [7] (fun t => ∃ i : Nat, i ≤ M ∧ t = .int .i64 (i : Int) ∧ ∀ j p, j < i → d.L[j]? = some p → p.1 ≠ k) (fun t => M - (intOf t).toNat)
      case atStart => exact ⟨0, Nat.zero_le _, rfl, fun j p hj => absurd hj (Nat.not_lt_zero _)⟩
      case round =>
        obtain ⟨i, hi, rfl, hno⟩ := hrel
        replace hno := Lib.hid hno
        by_cases hlti : i < M
        · obtain ⟨p, hp⟩ : ∃ p, d.L[i]? = some p := ⟨_, List.getElem?_eq_getElem (by have := hM.out; omega)⟩
          obtain ⟨g, cap, hv, _⟩ := hls.out.form (by have := hM.out; omega)
          injection hv with hv _ _
          subst hv
          have l1 := hls.out.cells (g := g) rfl _ _ (pairs_at hp).1
          have l2 := hls.out.cells (g := g) rfl _ _ (pairs_at hp).2
          rw [add_lit, Nat.zero_add] at l1 l2
          have z1 : (i : Int) < (M : Int) := by omega
          by_cases hpk : p.1 = k
          · have hRp : R = p.2 := by
              rw [hR.out, find_mem (n := k) (s := p.2) hap.out (by rw [← hpk]; exact List.mem_of_getElem? hp)]
              rfl
            rw [hpk] at l1
            clear hp
            subst hRp
            go_wp2_with fail
            go_ret2
            exact ⟨rfl, rfl⟩
          · have q1 : ((p.1 : Int) == (k : Int)) = false := by simp; omega
            have hno2 : ∀ j q, j < i + 1 → d.L[j]? = some q → q.1 ≠ k := fun j q hj hq => by
              rcases Nat.lt_succ_iff_lt_or_eq.1 hj with h | rfl
              · exact hno.out j q h hq
              · rw [hp] at hq; injection hq with hq; rw [← hq]; exact hpk
            replace hno2 := Lib.hid hno2
            clear hp hpk l2
            go_wp2_with fail
            exact ⟨⟨i + 1, hlti, rfl, hno2.out⟩, by simp [intOf]; omega⟩
        · obtain rfl : i = M := by omega
          have hfn : find d.L k = none := by
            cases hf : find d.L k with
            | none => rfl
            | some t =>
              obtain ⟨j, hj, e⟩ := List.getElem_of_mem (find_some hf)
              exact absurd (show (k, t).1 = k from rfl) (hno.out j (k, t) (by rw [hM.out]; exact hj) (by rw [List.getElem?_eq_getElem hj, e]))
          have hRs : R = s := by rw [hR.out, hfn]; rfl
          replace hfn := Lib.hid hfn
          subst hRs
          have z2 : (k : Int) < (N : Int) := by omega
          go_wp2_with fail
          go_ret2
          exact ⟨rfl, rfl⟩
  · rw [if_pos he]
    have hne : (mayE d n != 0) = true := by simpa using he
    generalize mayE d n = ee at km hne
    clear he
    go_enter Tryz.func43, Tryz.ntmps43
    go_wp2_with fail
    refine (km.out).mono ?_
    rintro en w' ⟨rfl, hw'⟩
    replace hw' := hw'.symm
    subst hw'
    go_wp2_with fail
    go_ret2
    exact ⟨rfl, rfl⟩
end
end Go.Proofs.YtkghlbpkdkonbaaGreat.Disk

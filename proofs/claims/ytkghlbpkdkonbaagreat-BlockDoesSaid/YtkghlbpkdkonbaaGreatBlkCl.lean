/- The cache's Keys; the volume's Dead. -/
import Derived.Test.YtkghlbpkdkonbaaGreatBlkTwo
import Derived.BigQuiet
import Derived.LaidEqlPtr
import Derived.Test.YtkghlbpkdkonbaaGreatBlkPl
namespace Go.Proofs.YtkghlbpkdkonbaaGreat.Vl
open Go Go.RowKit Go.Maps Mem Disk Nv
set_option maxRecDepth 100000 in
theorem neq_other {P : Program} (w : World) {tp te : TypeId} {j : TypeInfo} {a b : Addr} {ca cb : Array Value} {ta tb : TypeId} (hp : P.underlying tp = some (.pointer te)) (hte : P.info? te = some j) (hsz : j.size ≠ 0)
    (hne : a ≠ b) (ha : w.heap[a.block]? = some (.cells ca ta (0, 0))) (hb : w.heap[b.block]? = some (.cells cb tb (0, 0))) :
    (binOp .neq tp (.pointer (some a)) (.pointer (some b))).run P w = .ok (.bool true) w := by
  have h : ∀ d : Nat, (Op.equalIn (d + 1) tp (.pointer (some a)) (.pointer (some b))).run P w = .ok false w := fun d => by
    simp [Op.equalIn, run_underlying hp, sizeOf, typeInfo, hte, hsz, run_sameAddr_other w hne ha hb]
  simp only [binOp]
  simp [Op.equal, Op.maxDepth, h 9999]
set_option maxRecDepth 100000 in
theorem neq_same {P : Program} (w : World) {tp te : TypeId} {j : TypeInfo} (a : Addr) (hp : P.underlying tp = some (.pointer te)) (hte : P.info? te = some j) :
    (binOp .neq tp (.pointer (some a)) (.pointer (some a))).run P w = .ok (.bool false) w := by
  have h : ∀ d : Nat, (Op.equalIn (d + 1) tp (.pointer (some a)) (.pointer (some a))).run P w = .ok true w := fun d => by
    simp [Op.equalIn, run_underlying hp, sizeOf, typeInfo, hte, run_sameAddr_same]
  simp only [binOp]
  simp [Op.equal, Op.maxDepth, h 9999]
set_option maxRecDepth 100000 in
theorem infoEnt : ∃ j, Tryz.prog.info? 112 = some j ∧ j.size ≠ 0 := by
  have h : (Tryz.prog.info? 112).map (·.size) = some 4 := by kernel_rfl
  cases hj : Tryz.prog.info? 112 with
  | none => rw [hj] at h; cases h
  | some j => rw [hj] at h; injection h with h; exact ⟨j, rfl, by rw [show j.size = 4 from h]; decide⟩
set_option maxRecDepth 100000 in
theorem infoKey : (Tryz.prog.info? 3).map (fun i => (i.zero, i.size, i.bytes)) = some (some (.int .i64 0), 1, 8) := by kernel_rfl
def slcLen : Value → Nat
  | .slice _ n _ => n
  | _ => 0
def keysV (L : List (Nat × ByteArray)) : List Value := L.map fun p => Value.int .i64 (p.1 : Int)
section
variable {S F G H : Nat → Prop} {w w' : World} {K : Nat → Nat} {T : Nat → ByteArray} {P N : Nat → Nat} {a b c m r x k : Nat} {es A B : List Nat} {L : List (Nat × ByteArray)} {v : Vo} {d : Dk}
set_option maxRecDepth 100000 in
set_option maxHeartbeats 2000000 in
theorem vdead_any (h : VC F G H w a b c v d) : Calls Tryz.prog 28 #[.pointer (some ⟨a, 0, none⟩)] w fun e w' => e = .returned (.bool v.dead) ∧ w' = w := by
  obtain ⟨_, _, _, _, c4⟩ := h.cells
  clear h
  go_enter Tryz.func28, Tryz.ntmps28
  go_wp2_with fail
  go_ret
  exact ⟨rfl, rfl⟩
set_option maxRecDepth 100000 in
/-- what comes behind the i-th one of the ring -/
theorem Ring.after (h : Ring r es P N) {i g : Nat} (hi : (r :: es)[i]? = some g) : (es ++ [r])[i]? = some (N g) := by
  rw [← h.n, List.getElem?_map, hi]
  rfl
set_option maxRecDepth 100000 in
theorem Ring.at_end (h : Ring r es P N) {i g : Nat} (hi : (es ++ [r])[i]? = some g) : (i < es.length → g ≠ r ∧ (r :: es)[i + 1]? = some g) ∧ (i = es.length → g = r) := by
  refine ⟨fun hlt => ?_, fun he => ?_⟩
  · rw [List.getElem?_append_left hlt] at hi
    refine ⟨fun e => ?_, hi⟩
    have := h.nodup
    rw [List.nodup_cons] at this
    exact this.1 (e ▸ List.mem_of_getElem? hi)
  · subst he
    rw [List.getElem?_append_right (Nat.le_refl _), Nat.sub_self] at hi
    injection hi with hi
    exact hi.symm
set_option maxRecDepth 100000 in
set_option maxHeartbeats 8000000 in
theorem ckeys_any (h : IsCache F w c L) : Calls Tryz.prog 72 #[.pointer (some ⟨c, 0, none⟩)] w fun e w' => ∃ A n, e = .returned (.slice A L.length n) ∧ w'.ownsRow w.heap.size 3 1 (.slice A L.length n) L.length (keysV L) ∧ Below w.heap.size w w' := by
  obtain ⟨m, r, es, K, T, P, N, h, hL, hl⟩ := h
  obtain ⟨_, _, c2⟩ := h.cells
  have hr := h.each.cells (g := r) (by simp)
  go_enter Tryz.func72, Tryz.ntmps72
  obtain ⟨_, _, _, r3⟩ := hr
  obtain ⟨je, he1, he2⟩ := infoEnt
  obtain ⟨i0, hinf, hz0, hz1, hz2⟩ := info_parts infoKey
  have hfew := h.few
  replace h := Lib.hid h
  go_wp2_with fail
  go_loopw [3, 4] (fun lv xv wr => ∃ (i g : Nat) (A0 : Option Addr) (n0 : Nat), i ≤ es.length ∧ (es ++ [r])[i]? = some g ∧ xv = .pointer (some ⟨g, 0, none⟩) ∧ lv = .slice A0 i n0 ∧ wr.ownsRow w.heap.size 3 1 (.slice A0 i n0) i ((es.take i).map fun g => Value.int .i64 (K g : Int)) ∧ Below w.heap.size w wr) (fun lv _ _ => es.length - slcLen lv)
  case atStart => exact ⟨0, N r, none, 0, Nat.zero_le _, h.out.ring.after (i := 0) rfl, rfl, rfl, ⟨rfl, Or.inl ⟨rfl, rfl⟩⟩, Below.refl _ w⟩
  case round =>
    obtain ⟨i, g, A0, n0, hi, hg, rfl, rfl, ho, hb⟩ := hrel
    have hw := h.out.keeps (Keeps.of_below (fun _ => False) hb) (fun _ _ h => h)
    obtain ⟨_, _, d2⟩ := hw.cells
    by_cases hlt : i < es.length
    · obtain ⟨hne, hat⟩ := (h.out.ring.at_end hg).1 hlt
      obtain ⟨k0, _, _, n3⟩ := hw.each.cells (g := g) (List.mem_of_getElem? hat)
      have hnx := h.out.ring.after hat
      replace ho := Lib.hid ho
      replace hb := Lib.hid hb
      replace hw := Lib.hid hw
      replace hg := Lib.hid hg
      replace hnx := Lib.hid hnx
      have pne := neq_other wr (a := ⟨g, 0, none⟩) (b := ⟨r, 0, none⟩) Tryz.underlying105 he1 he2 (fun e => hne (congrArg Addr.block e)) (hw.out.each g (List.mem_of_getElem? hat)) (hw.out.each r (by simp))
      have oa := ho.out.alloc (.cells #[.int .i64 (K g : Int)] 3)
      have ba := Lib.hid (hb.out.alloc hb.out.size (.cells #[.int .i64 (K g : Int)] 3))
      have hbz := ba.out.size
      have hgm := List.mem_of_getElem? hat
      have e1 : (es.take i).map (fun g => Value.int .i64 (K g : Int)) ++ [.int .i64 (K g : Int)] = (es.take (i + 1)).map (fun g => Value.int .i64 (K g : Int)) := by
        rw [take_succ_of (show es[i]? = some g from hat), List.map_append]
        rfl
      replace e1 := Lib.hid e1
      replace hgm := Lib.hid hgm
      clear hat hne
      go_wp2_with (first | (at_builtin; refine wpList_append_own _ rfl (.tmp 22) (.tmp 27) _ rfl w.heap.size 3 i0 (.int .i64 0) 1 8 Tryz.underlying50 hinf hz0 hz1 hz2 rfl (by decide) (.slice A0 i n0) i _ rfl oa ⟨wr.heap.size, 0, none⟩ 1 1 [.int .i64 (K g : Int)] rfl rfl (cell_one_new _ _ _) (by simp [Value.oneCell']) (by unfold maxLen; omega) (by omega) hbz ?_; intro v1 W o1 g1 n1; have bW := ba.out.grown g1 hbz (fun j e => (oa.lt j e).1); obtain ⟨_, _, _, n3W⟩ := (h.out.keeps (Keeps.of_below (fun _ => False) bW) (fun _ _ h => h)).each.cells (g := g) hgm.out; rw [e1.out] at o1; obtain ⟨A1, c1, rfl⟩ := own_slice o1; replace o1 := Lib.hid o1; replace bW := Lib.hid bW; clear g1 n1))
      exact ⟨⟨i + 1, N g, A1, c1, hlt, hnx.out, rfl, rfl, o1.out, bW.out⟩, by simp [slcLen]; omega⟩
    · obtain rfl : i = es.length := by omega
      obtain rfl := (h.out.ring.at_end hg).2 rfl
      have peq := neq_same wr ⟨g, 0, none⟩ Tryz.underlying105 he1
      have e1 : (es.take es.length).map (fun g => Value.int .i64 (K g : Int)) = keysV L := by
        rw [List.take_length, hL]
        unfold keysV
        rw [List.map_map]
        rfl
      rw [e1] at ho
      have e2 : L.length = es.length := by rw [hL, List.length_map]
      rw [← e2] at ho
      replace ho := Lib.hid ho
      replace hb := Lib.hid hb
      replace hw := Lib.hid hw
      go_wp2_with fail
      go_ret
      rw [e2] at ho ⊢
      exact ⟨_, _, rfl, ho.out, hb.out⟩
end
end Go.Proofs.YtkghlbpkdkonbaaGreat.Vl
/- A cache's list turned round, thing by thing (Clone). Plain. -/
namespace Go.Proofs.YtkghlbpkdkonbaaGreat.Vl
open Disk Nv
/-- the things from the i-th on were used again -/
def rotL (L : List (Nat × ByteArray)) (i : Nat) : List (Nat × ByteArray) := L.drop i ++ L.take i
set_option maxRecDepth 100000 in
theorem rotL_zero (L : List (Nat × ByteArray)) : rotL L 0 = L := by simp [rotL]
set_option maxRecDepth 100000 in
theorem rotL_all (L : List (Nat × ByteArray)) : rotL L L.length = L := by simp [rotL]
set_option maxRecDepth 100000 in
theorem rotL_length (L : List (Nat × ByteArray)) (i : Nat) : (rotL L i).length = L.length := by
  unfold rotL
  rw [List.length_append, List.length_drop, List.length_take]
  omega
section
variable {L : List (Nat × ByteArray)} {i k : Nat} {s : ByteArray}
set_option maxRecDepth 100000 in
theorem cut_at (h : L[i]? = some (k, s)) : L.drop i = (k, s) :: L.drop (i + 1) ∧ L.take (i + 1) = L.take i ++ [(k, s)] := by
  obtain ⟨hi, e⟩ := List.getElem?_eq_some_iff.1 h
  refine ⟨by rw [List.drop_eq_getElem_cons hi, e], ?_⟩
  rw [List.take_add_one, h]
  rfl
set_option maxRecDepth 100000 in
theorem ne_around (hp : L.Pairwise fun p q => p.1 ≠ q.1) (h : L[i]? = some (k, s)) : (∀ p ∈ L.take i, p.1 ≠ k) ∧ ∀ p ∈ L.drop (i + 1), p.1 ≠ k := by
  obtain ⟨h1, h2⟩ := cut_at h
  have e : L = L.take i ++ (k, s) :: L.drop (i + 1) := by rw [← h1, List.take_append_drop]
  rw [e] at hp
  obtain ⟨_, h4, h5⟩ := List.pairwise_append.1 hp
  exact ⟨fun p hm => h5 p hm (k, s) (List.mem_cons_self ..), fun p hm e => (List.pairwise_cons.1 h4).1 p hm e.symm⟩
set_option maxRecDepth 100000 in
theorem filter_ne {A : List (Nat × ByteArray)} (h : ∀ p ∈ A, p.1 ≠ k) : dropK A k = A := List.filter_eq_self.2 fun p hp => by simpa using h p hp
set_option maxRecDepth 100000 in
theorem dropK_append (A B : List (Nat × ByteArray)) (k : Nat) : dropK (A ++ B) k = dropK A k ++ dropK B k := List.filter_append ..
set_option maxRecDepth 100000 in
theorem rot_touch (hp : L.Pairwise fun p q => p.1 ≠ q.1) (h : L[i]? = some (k, s)) : touchK (rotL L (i + 1)) k s = rotL L i := by
  obtain ⟨h1, h2⟩ := cut_at h
  obtain ⟨n1, n2⟩ := ne_around hp h
  unfold touchK rotL
  rw [h2, dropK_append, dropK_append, filter_ne n2, filter_ne n1, show dropK [(k, s)] k = [] from by simp [dropK], List.append_nil, h1]
  rfl
set_option maxRecDepth 100000 in
theorem rot_find (hp : L.Pairwise fun p q => p.1 ≠ q.1) (h : L[i]? = some (k, s)) : find (rotL L (i + 1)) k = some s := by
  obtain ⟨h1, h2⟩ := cut_at h
  refine find_mem ?_ (List.mem_append_right _ (by rw [h2]; simp))
  refine List.pairwise_append.2 ⟨hp.drop, hp.take, fun p hm q hq e => ?_⟩
  have h3 : L.Pairwise fun p q => p.1 ≠ q.1 := hp
  rw [← List.take_append_drop (i + 1) L] at h3
  exact (List.pairwise_append.1 h3).2.2 q hq p hm e.symm
set_option maxRecDepth 100000 in
theorem rot_put (hp : L.Pairwise fun p q => p.1 ≠ q.1) (hl : L.length ≤ 32) (h : L[i]? = some (k, s)) : putK (L.drop (i + 1)) k s = L.drop i := by
  obtain ⟨h1, h2⟩ := cut_at h
  obtain ⟨n1, n2⟩ := ne_around hp h
  have hi := (List.getElem?_eq_some_iff.1 h).1
  unfold putK touchK
  rw [filter_ne n2, ← h1]
  exact List.take_of_length_le (by rw [List.length_drop]; omega)
end
end Go.Proofs.YtkghlbpkdkonbaaGreat.Vl
/- The volume's Clone. -/
namespace Go.Proofs.YtkghlbpkdkonbaaGreat.Vl
open Go Go.RowKit Go.Maps Mem Disk Nv
section
variable {F G H : Nat → Prop} {w w' : World} {a b b2 c m : Nat} {v : Vo} {d : Dk}
/-- the clone at a2, its cache at c2; the old cache is what it was -/
def ClonePost (H : Nat → Prop) (w : World) (b2 c : Nat) (v : Vo) (u : Value) (w' : World) : Prop :=
  ∃ (a2 c2 : Nat) (H2 : Nat → Prop), u = .pointer (some ⟨a2, 0, none⟩) ∧ Blk w' a2 68 (voc b2 c2 v) ∧ IsCache H2 w' c2 v.L ∧ (∀ i, H2 i → w.heap.size ≤ i) ∧ w.heap.size ≤ a2 ∧ ¬ H2 a2 ∧ IsCache H w' c v.L ∧ Keeps H w w'
set_option maxRecDepth 100000 in
theorem key_le {L : List (Nat × ByteArray)} {k : Nat} {s : ByteArray} (h : IsCache H w c L) (hi : (k, s) ∈ L) : k ≤ 9223372036854775807 := by
  obtain ⟨m, r, es, K, T, P, N, h, hL, hl⟩ := h
  rw [hL] at hi
  obtain ⟨g, _, e⟩ := List.mem_map.1 hi
  have := h.kb g
  have e1 : K g = k := congrArg Prod.fst e
  omega
/-- where Clone's loop stands: the things from the i-th on were put -/
structure ClAt (H : Nat → Prop) (w wr : World) (P b2 c c2 : Nat) (v : Vo) (A : Option Addr) (nc i : Nat) : Prop where
  old : IsCache H wr c (rotL v.L i)
  new : ∃ F', IsCache F' wr c2 (v.L.drop i) ∧ (∀ j, F' j → P < j) ∧ ∀ j, (Value.slice A v.L.length nc).ownBlock = some j → ¬ F' j
  blk : Blk wr P 68 (voc b2 c2 v)
  row : wr.ownsRow 0 3 1 (.slice A v.L.length nc) v.L.length (keysV v.L)
  far : ∀ j, (Value.slice A v.L.length nc).ownBlock = some j → ¬ H j
  hp : ∀ j, H j → j < P
  pw : w.heap.size ≤ P
  kk : Keeps H w wr
set_option maxRecDepth 100000 in
theorem ClAt.below {wr : World} {P c2 nc i : Nat} {A : Option Addr} (st : ClAt H w wr P b2 c c2 v A nc i) (hb : Below wr.heap.size wr w') : ClAt H w w' P b2 c c2 v A nc i := by
  obtain ⟨F', i1, i2, i3⟩ := st.new
  exact ⟨st.old.below hb, ⟨F', i1.below hb, i2, i3⟩, st.blk.below hb st.blk.lt, own_keeps st.row (Keeps.of_below (fun _ => False) hb) (fun _ _ h => h), st.far, st.hp, st.pw, st.kk.same (Keeps.of_below H hb)⟩
set_option maxRecDepth 100000 in
theorem ClAt.get {wr : World} {P c2 nc i k : Nat} {s : ByteArray} {A : Option Addr} (st : ClAt H w wr P b2 c c2 v A nc (i + 1)) (hK : Kf v.L) (hk : k ≤ 9223372036854775807) (hi : v.L[i]? = some (k, s)) :
    Calls Tryz.prog 34 #[.pointer (some ⟨c, 0, none⟩), .int .i64 (k : Int)] wr fun e w' => e = .returned (.tuple #[.string s, .bool true]) ∧ IsCache H w' c (rotL v.L i) ∧ Keeps H wr w' ∧ Keeps H w w' := by
  refine (cget_yes st.old hk (rot_find hK.apart hi)).mono ?_
  rintro e w' ⟨rfl, h1, h2⟩
  rw [rot_touch hK.apart hi] at h1
  exact ⟨rfl, h1, h2, st.kk.same h2⟩
set_option maxRecDepth 100000 in
theorem ClAt.put {wr w5 : World} {P c2 nc i k : Nat} {s : ByteArray} {A : Option Addr} (st : ClAt H w wr P b2 c c2 v A nc (i + 1)) (hK : Kf v.L) (hk : k ≤ 9223372036854775807) (hi : v.L[i]? = some (k, s)) (h1 : IsCache H w5 c (rotL v.L i)) (h2 : Keeps H wr w5) :
    Calls Tryz.prog 40 #[.pointer (some ⟨c2, 0, none⟩), .int .i64 (k : Int), .string s] w5 fun e w' => ∃ z y, e = .returned (.tuple #[.int .i64 z, .bool y]) ∧ ClAt H w w' P b2 c c2 v A nc i := by
  obtain ⟨F', i1, i2, i3⟩ := st.new
  have i4 := i1.keeps h2 (fun j hj hh => by have := i2 j hj; have := st.hp j hh; omega)
  have row5 := own_keeps st.row h2 st.far
  have blk5 := st.blk.keeps h2 (fun hh => by have := st.hp P hh; omega)
  refine (cput_any i4 hk s).mono ?_
  rintro e w' ⟨z, y, F2, rfl, j1, j2, j3⟩
  rw [rot_put hK.apart hK.few hi] at j1
  have hPs := blk5.lt
  refine ⟨z, y, rfl, h1.keeps j2 (fun j hj hh => by have := i2 j hh; have := st.hp j hj; omega), ⟨F2, j1, fun j hj => ?_, fun j hj hh => ?_⟩, blk5.keeps j2 (fun hh => by have := i2 P hh; omega), own_keeps row5 j2 i3, st.far, st.hp, st.pw, (st.kk.same h2).trans (j2.mono (fun _ h => h)) (fun j hj => ?_)⟩
  · rcases j3 j hj with h | h
    · exact i2 j h
    · omega
  · rcases j3 j hh with h | h
    · exact i3 j hj h
    · have := (row5.lt j hj).2; omega
  · have := i2 j hj
    have := st.pw
    exact Or.inr (by omega)
set_option maxRecDepth 100000 in
set_option maxHeartbeats 16000000 in
theorem vclone_any (h : VC F G H w a b c v d) (b2 : Nat) : Calls Tryz.prog 23 #[.pointer (some ⟨a, 0, none⟩), .pointer (some ⟨b2, 0, none⟩)] w fun e w' => ∃ u, e = .returned u ∧ ClonePost H w b2 c v u w' := by
  obtain ⟨c0, c1, c2, c3, c4⟩ := h.cells
  go_enter Tryz.func23, Tryz.ntmps23
  go_wp2_with fail
  obtain ⟨P, hP⟩ : ∃ P, P = w.heap.size := ⟨_, rfl⟩
  obtain ⟨W1, hW⟩ : ∃ W, W = w.alloc (.cells #[.pointer (some ⟨b2, 0, none⟩), .string v.text, .int .i64 (v.num : Int), .pointer (some ⟨c, 0, none⟩), .bool v.dead] 68) := ⟨_, rfl⟩
  have hb1 : Below w.heap.size w W1 := by rw [hW]; exact (Below.refl _ w).alloc (Nat.le_refl _) _
  have hB : Blk W1 P 68 #[.pointer (some ⟨b2, 0, none⟩), .string v.text, .int .i64 (v.num : Int), .pointer (some ⟨c, 0, none⟩), .bool v.dead] := by rw [hW, hP]; exact Blk.new w _ _
  rw [← hW, ← hP]
  have hPw : w.heap.size ≤ P := Nat.le_of_eq hP.symm
  have haP : a < P := by rw [hP]; exact h.lt a h.fa
  clear hW hP c0 c1 c2 c3 c4
  replace h := Lib.hid h
  refine (cnew_any W1).mono ?_
  rintro e W2 ⟨c2, F2, rfl, i2, f2, bb2⟩
  have hB2 := hB.below bb2 hB.lt
  have p3 := hB2.cell 3
  have p3f := hB2.free 3
  have hPlt := hB.lt
  have hB3 : Blk (W2.setCell ⟨P, 3, none⟩ (.pointer (some ⟨c2, 0, none⟩))) P 68 (voc b2 c2 v) := hB2.put 3 (.pointer (some ⟨c2, 0, none⟩))
  have bb3 : Below w.heap.size w (W2.setCell ⟨P, 3, none⟩ (.pointer (some ⟨c2, 0, none⟩))) := (hb1.trans (bb2.mono hb1.size)).setCell (p := ⟨P, 3, none⟩) hPw (.pointer (some ⟨c2, 0, none⟩))
  have i3 : IsCache F2 (W2.setCell ⟨P, 3, none⟩ (.pointer (some ⟨c2, 0, none⟩))) c2 [] := i2.keeps ((Keeps.refl (fun j => j = P) W2).put (g := P) (Or.inl rfl) 3 _) (fun i hi e => by have := f2 i hi; omega)
  have ha3 : (W2.setCell ⟨P, 3, none⟩ (.pointer (some ⟨c2, 0, none⟩))).cell? ⟨a, 3, none⟩ = some (.pointer (some ⟨c, 0, none⟩)) := (h.out.below bb3).cells.2.2.2.1
  clear i2 hB2 hB bb2
  go_wp2_with fail
  have hK := h.out.ca.kf
  have kks := Lib.hid (ckeys_any (h.out.below bb3).ca)
  have hHP : ∀ j, H j → j < P := fun j hj => by have := h.out.ca.lt j hj; omega
  generalize W2.setCell ⟨P, 3, none⟩ (.pointer (some ⟨c2, 0, none⟩)) = W3 at hB3 bb3 i3 ha3 kks ⊢
  refine kks.out.mono ?_
  rintro e W4 ⟨A, nc, rfl, ho, b4⟩
  have bb4 := bb3.trans (b4.mono bb3.size)
  have h4 := h.out.below bb4
  have hz3 := bb3.size
  have st : ClAt H w W4 P b2 c c2 v A nc v.L.length := ⟨by rw [rotL_all]; exact h4.ca, ⟨F2, by rw [List.drop_length]; exact i3.below b4, fun j hj => by have := f2 j hj; omega, fun j hj hh => by have := i3.lt j hh; have := (ho.lt j hj).1; omega⟩, hB3.below b4 hB3.lt, own_base ho (Nat.zero_le _), fun j hj hh => by have := hHP j hh; have := (ho.lt j hj).1; have := hB3.lt; omega, hHP, hPw, Keeps.of_below H bb4⟩
  have ha4 : Blk W4 a 68 (voc b c v) := h4.blk
  have haH := h.out.ha
  obtain ⟨M, hM⟩ : ∃ M, M = v.L.length := ⟨_, rfl⟩
  have hM32 : M ≤ 32 := by rw [hM]; exact hK.few
  have kb := fun k s (hi : (k, s) ∈ v.L) => key_le h.out.ca hi
  replace kb := Lib.hid kb
  clear ho b4 bb4 h4 i3 f2 kks hB3 bb3 ha3 p3 p3f hb1
  rw [← hM]
  replace st := Lib.hid st
  replace ha4 := Lib.hid ha4
  replace hM := Lib.hid hM
  go_wp2_with fail
  go_loopw [7] (fun iv wr => ∃ (i : Nat) (t : Int), i ≤ M ∧ t = (i : Int) - 1 ∧ iv = .int .i64 t ∧ ClAt H w wr P b2 c c2 v A nc i) (fun iv _ => (intOf iv + 1).toNat)
  case atStart => exact ⟨M, _, Nat.le_refl _, rfl, rfl, by rw [hM.out]; exact st.out⟩
  case round =>
    clear st
    obtain ⟨i, t, hi, ht, rfl, st⟩ := hrel
    cases i with
    | zero =>
      have zt : decide (0 ≤ t) = false := decide_eq_false (by omega)
      obtain ⟨F', i1, i2, i3⟩ := st.new
      have fin := Lib.hid (show ClonePost H w b2 c v (.pointer (some ⟨P, 0, none⟩)) wr from ⟨P, c2, F', rfl, st.blk, by simpa using i1, fun j hj => by have := i2 j hj; have := st.pw; omega, st.pw, fun hh => by have := i2 P hh; omega, by have := st.old; rwa [rotL_zero] at this, st.kk⟩)
      clear st i1 i2 i3
      clear ht
      go_wp2_with fail
      go_ret
      exact ⟨_, rfl, fin.out⟩
    | succ j =>
      obtain rfl : t = (j : Int) := by omega
      have z0 : (0 : Int) ≤ (j : Int) := by omega
      have z1 : (j : Int) < (M : Int) := by omega
      obtain ⟨⟨k, s⟩, hks⟩ : ∃ p, v.L[j]? = some p := ⟨_, List.getElem?_eq_getElem (by rw [← hM.out]; omega)⟩
      have hk9 := kb.out k s (List.mem_of_getElem? hks)
      have st0 := st.below ((Below.refl _ wr).drew)
      have hrow : ∀ W : World, W.ownsRow 0 3 1 (.slice A v.L.length nc) v.L.length (keysV v.L) → ∃ ad, A = some ad ∧ W.cell? (ad.add j) = some (.int .i64 (k : Int)) := fun W hr => by
        obtain ⟨ad, u, e1, e2, e3⟩ := (Row.of_own hr).at_ (show j < v.L.length by rw [← hM.out]; omega)
        unfold keysV at e2
        rw [List.getElem?_map, hks] at e2
        injection e2 with e2
        exact ⟨ad, e1, by rw [e3, ← e2]⟩
      have a3 : ∀ W : World, Keeps H w W → W.cell? ⟨a, 3, none⟩ = some (.pointer (some ⟨c, 0, none⟩)) := fun W hk => (h.out.blk.keeps hk haH).cell 3
      obtain ⟨ad, rfl, m1⟩ := hrow _ st0.row
      have m2 := a3 _ st0.kk
      replace st0 := Lib.hid st0
      replace hrow := Lib.hid hrow
      replace a3 := Lib.hid a3
      clear st ht
      go_wp2_with fail
      go_region_held3 (fun w' => w'.cell? ⟨a, 3, none⟩ = some (.pointer (some ⟨c, 0, none⟩)) ∧ w'.cell? (ad.add j) = some (.int .i64 (k : Int)))
        (first
          | exact ⟨m2, m1⟩
          | exact ⟨n2, n1⟩
          | go_keep)
        (first
          | (go_at_call 34; refine (st0.out.get hK hk9 hks).mono ?_; rintro e w5 ⟨rfl, j1, j2, j3⟩; have n2 := a3.out _ j3; obtain ⟨ad5, e5, n1⟩ := hrow.out _ (own_keeps st0.out.row j2 st0.out.far); injection e5 with e5; subst e5))
      have bd5 : Below w5.heap.size w5 w5.drew := (Below.refl _ w5).drew
      have kp := Lib.hid (st0.out.put hK hk9 hks (j1.below bd5) (j2.same (Keeps.of_below H bd5)))
      have p3 : w5.drew.cell? ⟨P, 3, none⟩ = some (.pointer (some ⟨c2, 0, none⟩)) := (st0.out.blk.keeps j2 (fun hh => by have := st0.out.hp P hh; omega)).cell 3
      have q1 : w5.drew.cell? (ad.add j) = some (.int .i64 (k : Int)) := n1
      replace j1 := Lib.hid j1
      replace j2 := Lib.hid j2
      replace j3 := Lib.hid j3
      clear m1 m2 n1 n2 bd5
      go_wp2_with fail
      go_region_held3 (fun w' => w'.cell? ⟨P, 3, none⟩ = some (.pointer (some ⟨c2, 0, none⟩)) ∧ w'.cell? (ad.add j) = some (.int .i64 (k : Int)))
        (first
          | exact ⟨p3, q1⟩
          | exact ⟨r3, r1⟩
          | go_keep)
        (first
          | (go_at_call 40; refine kp.out.mono ?_; rintro e w6 ⟨z, y, rfl, s6⟩; have r3 := s6.blk.cell 3; obtain ⟨ad6, e6, r1⟩ := hrow.out _ s6.row; injection e6 with e6; subst e6))
      replace s6 := Lib.hid s6
      clear p3 q1 r3 r1 kp
      go_wp2_with fail
      exact ⟨⟨j, _, by omega, rfl, rfl, s6.out⟩, by simp [intOf]⟩
end
end Go.Proofs.YtkghlbpkdkonbaaGreat.Vl

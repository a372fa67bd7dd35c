/- The log's Format, Room, Records, Gen, Dead. -/
import Derived.Test.YtojhlijcinenoaaGreatDoorNvWalkB
import Derived.Deep.QuietTactic
import Derived.BigQuiet
namespace Go.Proofs.YtojhlijcinenoaaGreatDoor.Nv
open Go Go.RowKit Go.Maps Mem Disk

set_option maxRecDepth 100000 in
theorem clone_row {w : World} {base n : Nat} {v : Value} {l : List ByteArray} (h : w.ownsRow base 9 1 v n (l.map Value.string)) (h2 : n * 16 ≤ 140737488355328) :
    Calls Tryz.prog 42 #[v] w fun e w' => ∃ A c, e = .returned (.slice A n c) ∧ w'.ownsRow w.heap.size 9 1 (.slice A n c) n (l.map Value.string) ∧ Below w.heap.size w w' := by
  have hl : l.length = n := by have := h.1; simpa using this
  rcases h.2 with ⟨rfl, hn⟩ | ⟨g, cap, cur, rfl, _⟩
  · subst hn
    refine (Tryz.slices_Clone_string_nil 0 0 w).mono ?_
    rintro e w' ⟨rfl, rfl⟩
    exact ⟨_, _, rfl, ⟨h.1, Or.inl ⟨rfl, rfl⟩⟩, Below.refl _ _⟩
  · refine (Tryz.slices_Clone_string g 0 n cap l w (by omega) h2 (fun j hj => cells_of_own h j _ (by rw [List.getElem?_map, List.getElem?_eq_getElem hj, List.getD_eq_getElem?_getD, List.getElem?_eq_getElem hj]; rfl))).mono ?_
    rintro e w' ⟨v', rfl, ho, _, hb⟩
    rw [List.take_of_length_le (by omega)] at ho
    obtain ⟨A', c', rfl⟩ := own_slice ho
    exact ⟨A', c', rfl, ho, hb⟩
section
variable {F G K : Nat → Prop} {w w' : World} {a b m : Nat} {v : Value} {l l' : Lg} {d d' : Dk}
set_option maxRecDepth 100000 in
set_option maxHeartbeats 2000000 in
theorem gen_any (h : PL F w a b l d) : Calls Tryz.prog 26 #[.pointer (some ⟨a, 0, none⟩)] w fun e w' => e = .returned (.int .i64 (l.gen : Int)) ∧ w' = w := by
  obtain ⟨G, v, h⟩ := h
  obtain ⟨_, c1, _⟩ := h.cells
  clear h
  go_enter Tryz.func26, Tryz.ntmps26
  go_wp2_with fail
  go_ret
  exact ⟨rfl, rfl⟩
set_option maxRecDepth 100000 in
set_option maxHeartbeats 2000000 in
theorem dead_any_ (h : PL F w a b l d) : Calls Tryz.prog 29 #[.pointer (some ⟨a, 0, none⟩)] w fun e w' => e = .returned (.bool l.dead) ∧ w' = w := by
  obtain ⟨G, v, h⟩ := h
  obtain ⟨_, _, _, _, c4⟩ := h.cells
  clear h
  go_enter Tryz.func29, Tryz.ntmps29
  go_wp2_with fail
  go_ret
  exact ⟨rfl, rfl⟩
set_option maxRecDepth 100000 in
set_option maxHeartbeats 2000000 in
theorem records_any (h : PL F w a b l d) (hl : l.list.length ≤ 1048576) : Calls Tryz.prog 30 #[.pointer (some ⟨a, 0, none⟩)] w fun e w' =>
    ∃ A c, e = .returned (.slice A l.list.length c) ∧ w'.ownsRow w.heap.size 9 1 (.slice A l.list.length c) l.list.length (l.list.map Value.string) ∧ Below w.heap.size w w' := by
  obtain ⟨G, v, h⟩ := h
  obtain ⟨_, _, _, c3, _⟩ := h.cells
  have kc := Lib.hid (clone_row h.row (by omega))
  clear h
  go_enter Tryz.func30, Tryz.ntmps30
  go_wp2_with fail
  refine kc.out.mono ?_
  rintro en w1 ⟨A, c, rfl, o1, b1⟩
  replace o1 := Lib.hid o1
  replace b1 := Lib.hid b1
  go_wp2_with fail
  go_ret
  exact ⟨A, c, rfl, o1.out, b1.out⟩
set_option maxRecDepth 100000 in
set_option maxHeartbeats 4000000 in
theorem room_any (h : PL F w a b l d) (hf : Fit d) (hz : (enc l.list).size ≤ 1048576) : Calls Tryz.prog 27 #[.pointer (some ⟨a, 0, none⟩)] w fun e w' => e = .returned (.int .i64 (roomL l d)) ∧ ∃ n, w' = w.drewN n := by
  have kh := fun n => half_any (w := w.drewN n) (h.below (below_drewN (Below.refl _ w) n)) hf
  have hfew := hf.few
  have hH : halfD d ≤ 8192 := by unfold halfD; omega
  obtain ⟨G, v, h⟩ := h
  obtain ⟨_, _, c2, _⟩ := h.cells
  unfold roomL
  clear h hf
  generalize halfD d = H at kh hH ⊢
  generalize enc l.list = E at c2 hz ⊢
  have s1 : IntKind.i64.wrap ((H : Int) * 64) = (H : Int) * 64 := IntWalk.i64_in _ (by omega)
  have s2 : IntKind.i64.wrap ((H : Int) * 64 - (E.size : Int)) = (H : Int) * 64 - (E.size : Int) := IntWalk.i64_in _ (by omega)
  replace kh := Lib.hid kh
  go_enter Tryz.func27, Tryz.ntmps27
  go_wp2_with fail
  go_quiet ((go_at_call 57; exact Calls.quiet_of_same (kh.out _)))
  clear s1 s2
  go_wp2_with fail
  go_ret
  exact ⟨rfl, _, rfl⟩
set_option maxRecDepth 100000 in
set_option maxHeartbeats 2000000 in
theorem format_no (h : IsDk G w b d) (g : Int) (hno : d.stays.length < 5 ∨ g < 0 ∨ 1099511627776 < g) : Calls Tryz.prog 34 #[.pointer (some ⟨b, 0, none⟩), .int .i64 g] w fun e w' => e = .returned (.tuple #[.pointer none, .int .i64 70]) ∧ w' = w := by
  have ks := sectors_any h
  clear h
  generalize d.stays.length = N at ks hno
  replace ks := Lib.hid ks
  by_cases h1 : N < 5
  · have q1 : decide ((N : Int) < 5) = true := decide_eq_true (by omega)
    clear hno h1
    go_enter Tryz.func34, Tryz.ntmps34
    go_wp2_with fail
    refine (ks.out).mono ?_
    rintro en w' ⟨rfl, hw'⟩
    replace hw' := hw'.symm
    subst hw'
    go_wp2_with fail
    go_ret2
    exact ⟨rfl, rfl⟩
  · have q1 : decide ((N : Int) < 5) = false := decide_eq_false (by omega)
    by_cases h2 : g < 0
    · have q2 : decide (g < 0) = true := decide_eq_true h2
      clear hno h1
      go_enter Tryz.func34, Tryz.ntmps34
      go_wp2_with fail
      refine (ks.out).mono ?_
      rintro en w' ⟨rfl, hw'⟩
      replace hw' := hw'.symm
      subst hw'
      go_wp2_with fail
      go_ret2
      exact ⟨rfl, rfl⟩
    · have q2 : decide (g < 0) = false := decide_eq_false h2
      have q3 : decide (1099511627776 < g) = true := decide_eq_true (by omega)
      clear hno h1 h2
      go_enter Tryz.func34, Tryz.ntmps34
      go_wp2_with fail
      refine (ks.out).mono ?_
      rintro en w' ⟨rfl, hw'⟩
      replace hw' := hw'.symm
      subst hw'
      go_wp2_with fail
      go_ret2
      exact ⟨rfl, rfl⟩
/-- a new log's pointer, or none -/
def ptrIf (a : Nat) (e : Int) : Value := if e = 0 then .pointer (some ⟨a, 0, none⟩) else .pointer none
def FPost (G : Nat → Prop) (w : World) (b : Nat) (r : Lg × Dk × Int) (e : Ending) (w' : World) : Prop :=
  ∃ a F', e = .returned (.tuple #[ptrIf a r.2.2, .int .i64 r.2.2]) ∧ PL F' w' a b r.1 r.2.1 ∧ Keeps G w w' ∧ ∀ i, F' i → G i ∨ w.heap.size ≤ i
set_option maxRecDepth 100000 in
set_option maxHeartbeats 4000000 in
theorem format_yes (h : IsDk G w b d) (hf : Fit d) (hn : NumTo m d) (hm : m ≤ 1000000) (g : Nat) (h5 : 5 ≤ d.stays.length) (hg : g ≤ 1099511627776) :
    Calls Tryz.prog 34 #[.pointer (some ⟨b, 0, none⟩), .int .i64 (g : Int)] w (FPost G w b (headsL ⟨g, [], false⟩ d g 0)) := by
  have ks := sectors_any h
  have q1 : decide ((d.stays.length : Int) < 5) = false := decide_eq_false (by omega)
  have q2 : decide ((g : Int) < 0) = false := decide_eq_false (by omega)
  have q3 : decide (1099511627776 < (g : Int)) = false := decide_eq_false (by omega)
  have bd : ∀ W, (Instr.build 62 #[(0, .pointer (some ⟨b, 0, none⟩)), (1, .int .i64 (g : Int))]).run Tryz.prog W = .ok (.agg #[.pointer (some ⟨b, 0, none⟩), .int .i64 (g : Int), .string ⟨#[]⟩, .slice none 0 0, .bool false]) W := fun W => run_build W _ _ _ (by kernel_rfl)
  have hb : Below w.heap.size w (w.alloc (.cells #[.pointer (some ⟨b, 0, none⟩), .int .i64 (g : Int), .string ⟨#[]⟩, .slice none 0 0, .bool false] 62)) := (Below.refl _ w).alloc (Nat.le_refl _) _
  have hB := Blk.new w 62 #[.pointer (some ⟨b, 0, none⟩), .int .i64 (g : Int), .string ⟨#[]⟩, .slice none 0 0, .bool false]
  have hp : PL (fun i => G i ∨ i = w.heap.size) (w.alloc (.cells #[.pointer (some ⟨b, 0, none⟩), .int .i64 (g : Int), .string ⟨#[]⟩, .slice none 0 0, .bool false] 62)) w.heap.size b ⟨g, [], false⟩ d :=
    ⟨G, .slice none 0 0, h.below hb, hB, ⟨rfl, Or.inl ⟨rfl, rfl⟩⟩, Or.inr rfl, (fun j e => by cases e), fun i hi => Or.inl hi, (fun hi => by have := h.blt _ hi; omega), (fun j e => by cases e), fun i hi => by
      rcases hi with hi | hi
      · exact Nat.lt_of_lt_of_le (h.blt i hi) hb.size
      · rw [hi]; exact hB.lt⟩
  have kh := heads_any hp hf hn hm g 0
  generalize hR : headsL ⟨g, [], false⟩ d g 0 = R at kh ⊢
  replace hR := Lib.hid hR
  replace ks := Lib.hid ks
  replace kh := Lib.hid kh
  replace hb := Lib.hid hb
  clear h hf hn hp hB h5 hg
  by_cases hz : R.2.2 = 0
  · replace hz := Lib.hid hz
    go_enter Tryz.func34, Tryz.ntmps34
    go_wp2_with fail
    refine (ks.out).mono ?_
    rintro en w' ⟨rfl, hw'⟩
    replace hw' := hw'.symm
    subst hw'
    go_wp2_with fail
    refine kh.out.mono ?_
    rintro en w2 ⟨rfl, F2, h2, k2, q2⟩
    have kk := (Keeps.of_below G hb.out).trans k2 (fun i hi => hi.imp id (fun e => by rw [e]; exact Nat.le_refl _))
    have hF : ∀ i, F2 i → G i ∨ w.heap.size ≤ i := fun i hi => by
      rcases q2 i hi with (h | h) | h
      · exact Or.inl h
      · exact Or.inr (by omega)
      · exact Or.inr (Nat.le_trans hb.out.size h)
    replace h2 := Lib.hid h2
    replace kk := Lib.hid kk
    replace hF := Lib.hid hF
    clear k2 q2
    rw [hz.out]
    go_wp2_with fail
    go_ret2
    exact ⟨_, F2, by rw [hz.out, ptrIf, if_pos rfl]; rfl, h2.out, kk.out, hF.out⟩
  · have hz' : (R.2.2 != 0) = true := by simpa using hz
    replace hz := Lib.hid hz
    go_enter Tryz.func34, Tryz.ntmps34
    go_wp2_with fail
    refine (ks.out).mono ?_
    rintro en w' ⟨rfl, hw'⟩
    replace hw' := hw'.symm
    subst hw'
    go_wp2_with fail
    refine kh.out.mono ?_
    rintro en w2 ⟨rfl, F2, h2, k2, q2⟩
    have kk := (Keeps.of_below G hb.out).trans k2 (fun i hi => hi.imp id (fun e => by rw [e]; exact Nat.le_refl _))
    have hF : ∀ i, F2 i → G i ∨ w.heap.size ≤ i := fun i hi => by
      rcases q2 i hi with (h | h) | h
      · exact Or.inl h
      · exact Or.inr (by omega)
      · exact Or.inr (Nat.le_trans hb.out.size h)
    replace h2 := Lib.hid h2
    replace kk := Lib.hid kk
    replace hF := Lib.hid hF
    clear k2 q2
    go_wp2_with fail
    go_ret2
    exact ⟨w.heap.size, F2, by rw [ptrIf, if_neg hz.out]; rfl, h2.out, kk.out, hF.out⟩
end
end Go.Proofs.YtojhlijcinenoaaGreatDoor.Nv

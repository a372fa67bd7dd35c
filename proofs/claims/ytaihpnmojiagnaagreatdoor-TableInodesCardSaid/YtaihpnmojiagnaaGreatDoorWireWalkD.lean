/- The contracts of wire's Reader and of the document's: New, fails, number, Num, Text, End, each as the plain functions have them. -/
import Derived.Test.YtaihpnmojiagnaaGreatDoorWireWalkB
import Derived.Test.YtaihpnmojiagnaaGreatDoorWords
import Derived.Test.YtaihpnmojiagnaaGreatDoorErrAsB
import Derived.PlainAid
import Derived.LaidEql
import Derived.Stop.Asserts
import Derived.RowKitTokens
import Derived.BigQuiet
import Derived.Deep.QuietTactic
namespace Go.Proofs.YtaihpnmojiagnaaGreatDoor.Wire
open Go.RowKit Mem Go.Extern.Stop Go.Stop Go.Extern

/-- why a reader of wire stopped, as a value -/
def errVal (e : Int) : Value := .iface 121 (.agg #[.int .i64 e])

theorem new_any (s : ByteArray) (w : World) :
    Calls Tryz.prog 52 #[.string s] w fun e w' => e = .returned (.pointer (some ⟨w.heap.size, 0, none⟩)) ∧ w.alloc (.cells #[.string s, .nilIface] 109) = w' := by
  go_enter Tryz.func52, Tryz.ntmps52
  go_wp2
  go_ret
  exact ⟨rfl, rfl⟩

theorem fails_any (b : Nat) (s : ByteArray) (v : Value) (e : Int) (w : World) (h : Blk w b 109 #[.string s, v]) :
    Calls Tryz.prog 67 #[.pointer (some ⟨b, 0, none⟩), .int .i64 e] w fun en w' => en = .returned (.int .i64 e) ∧ w.setCell ⟨b, 1, none⟩ (errVal e) = w' := by
  have c1 : w.cell? ⟨b, 1, none⟩ = some v := h.cell 1
  have f1 : w.frozen? ⟨b, 1, none⟩ = false := h.free 1
  go_enter Tryz.func67, Tryz.ntmps67
  go_wp2
  go_ret
  exact ⟨rfl, rfl⟩

theorem rfails_any (b : Nat) (x y z : Value) (e : Int) (w : World) (h : Blk w b 59 #[x, y, z]) :
    Calls Tryz.prog 51 #[.pointer (some ⟨b, 0, none⟩), .int .i64 e] w fun en w' => en = .returned (.int .i64 e) ∧ w.setCell ⟨b, 2, none⟩ (.int .i64 e) = w' := by
  have c1 : w.cell? ⟨b, 2, none⟩ = some z := h.cell 2
  have f1 : w.frozen? ⟨b, 2, none⟩ = false := h.free 2
  go_enter Tryz.func51, Tryz.ntmps51
  go_wp2
  go_ret
  exact ⟨rfl, rfl⟩

/-- what the program's start lays, and what nothing writes: errors.errorType -/
def Laid (w : World) : Prop := w.cell? ⟨0, 0, none⟩ = some (.iface 141 (.agg #[.pointer (some ⟨4, 92, none⟩)]))
theorem Laid.pos {w : World} (h : Laid w) : 0 < w.heap.size := World.block_lt_of_cell? w _ h
theorem Laid.below {w w' : World} {B : Nat} (h : Laid w) (hb : Below B w w') (hB : 0 < B) : Laid w' := (hb.cell (p := ⟨0, 0, none⟩) hB).trans h
theorem Laid.grown {w w' : World} {row : Option Nat} (h : Laid w) (hb : w.grownBy w' row) (hB : some 0 ≠ row) : Laid w' := hb.cell h hB

theorem number_any (e : Int) (w : World) (hL : Laid w) :
    Calls Tryz.prog 66 #[errVal e] w fun en w' => en = .returned (.int .i64 e) ∧ Below w.heap.size w w' := by
  have hp := hL.pos
  go_enter Tryz.func66, Tryz.ntmps66
  go_wp2_with fail
  refine (ErrAs.as_hit e ⟨w.heap.size, 0, none⟩ (.int .i64 0) _ ((World.cell?_alloc_lt _ _ ⟨0, 0, none⟩ hp).trans hL) (by simp) (by simp)).mono ?_
  rintro en w1 ⟨rfl, rfl⟩
  go_wp2
  go_ret
  refine ⟨rfl, ?_⟩
  go_grown

set_option maxRecDepth 100000 in
set_option maxHeartbeats 1000000 in
theorem rd_dead (b : Nat) (s : ByteArray) (e most : Int) (w : World) (h : Blk w b 109 #[.string s, errVal e]) (hL : Laid w) :
    Calls Tryz.prog 53 #[.pointer (some ⟨b, 0, none⟩), .int .i64 most] w fun en w' => en = .returned (.tuple #[.int .i64 0, .int .i64 e]) ∧ Below w.heap.size w w' := by
  have c1 : w.cell? ⟨b, 1, none⟩ = some (errVal e) := h.cell 1
  unfold errVal at c1
  go_enter Tryz.func53, Tryz.ntmps53
  go_wp2_with fail
  refine (number_any e w hL).mono ?_
  rintro en w1 ⟨rfl, hb⟩
  go_wp2_with fail
  go_ret2
  exact ⟨rfl, hb⟩

/-- the reader of wire in block b is as st says -/
def IsRd (w : World) (b : Nat) (st : Rd) : Prop :=
  ∃ (s : ByteArray) (v : Value), Blk w b 109 #[.string s, v] ∧ s.size ≤ 9223372036854775807 ∧ ((st.2 = 0 ∧ v = .nilIface ∧ s.data.toList = st.1) ∨ (st.2 ≠ 0 ∧ v = errVal st.2))
/-- what a read of a number leaves -/
def NumPost (w : World) (b : Nat) (r : (Int × Int) × Rd) (e : Ending) (w' : World) : Prop :=
  e = .returned (.tuple #[.int .i64 r.1.1, .int .i64 r.1.2]) ∧ IsRd w' b r.2 ∧ w.grownBy w' (some b)

theorem bits_or_step (acc c k : Nat) (hk : k < 9) (hacc : acc < 128 ^ k) : bits BinOp.or IntKind.i64 (acc : Int) (wrap64 ((c : Int) % 128 * 2 ^ (7 * k))) = ((acc + c % 128 * 128 ^ k : Nat) : Int) := by
  have e128 : (128 : Nat) ^ k = 2 ^ (7 * k) := by rw [show (128 : Nat) = 2 ^ 7 from rfl, ← Nat.pow_mul]
  have hc : c % 128 < 2 ^ 7 := by omega
  have hle : 2 ^ (7 * k) ≤ 2 ^ 56 := Nat.pow_le_pow_right (by omega) (by omega)
  have hm : c % 128 * 2 ^ (7 * k) < 2 ^ 63 := by
    have : c % 128 * 2 ^ (7 * k) ≤ 127 * 2 ^ 56 := Nat.mul_le_mul (by omega) hle
    omega
  have e1 : ((c : Int) % 128 * 2 ^ (7 * k)) = ((c % 128 * 2 ^ (7 * k) : Nat) : Int) := by
    rw [Int.natCast_mul, Int.natCast_pow]; rfl
  rw [e1, IntWalk.wrap64_in _ ⟨by omega, by omega⟩]
  rw [e128] at hacc ⊢
  have ha63 : acc < 9223372036854775808 := by omega
  have ofn : ∀ a : Nat, a < 9223372036854775808 → (BitVec.ofInt 64 (a : Int)).toNat = a := fun a ha => by
    rw [BitVec.ofInt_natCast, BitVec.toNat_ofNat]; exact Nat.mod_eq_of_lt (by omega)
  have hor : acc ||| c % 128 * 2 ^ (7 * k) = acc + c % 128 * 2 ^ (7 * k) := by
    rw [Nat.or_comm, Nat.mul_comm, ← Nat.two_pow_add_eq_or_of_lt hacc, Nat.add_comm]
  show IntKind.i64.wrap ((BitVec.ofInt 64 (acc : Int) ||| BitVec.ofInt 64 ((c % 128 * 2 ^ (7 * k) : Nat) : Int)).toNat : Int) = _
  rw [BitVec.toNat_or, ofn _ ha63, ofn _ (by omega), hor]
  have hs : acc + c % 128 * 2 ^ (7 * k) < 2 ^ 63 := by
    rw [← hor]; exact Nat.or_lt_two_pow (by omega) hm
  exact IntWalk.i64_in _ ⟨by omega, by omega⟩

theorem isRd_err {w w' : World} {b : Nat} {l : List UInt8} {s : ByteArray} {v : Value} {e : Int} (h : Blk w' b 109 #[.string s, v]) (hs : s.size ≤ 9223372036854775807) (he : e ≠ 0) (hw : w = w'.setCell ⟨b, 1, none⟩ (errVal e)) : IsRd w b (l, e) :=
  ⟨s, errVal e, by rw [hw]; exact h.put 1 _, hs, Or.inr ⟨he, rfl⟩⟩

set_option maxRecDepth 100000 in
set_option maxHeartbeats 4000000 in
theorem rd_num (b : Nat) (s : ByteArray) (most : Int) (w : World) (h : Blk w b 109 #[.string s, .nilIface]) (hs : s.size ≤ 9223372036854775807) :
    Calls Tryz.prog 53 #[.pointer (some ⟨b, 0, none⟩), .int .i64 most] w (NumPost w b (rdNum most (s.data.toList, 0))) := by
  have c0 : w.cell? ⟨b, 0, none⟩ = some (.string s) := h.cell 0
  have c1 : w.cell? ⟨b, 1, none⟩ = some .nilIface := h.cell 1
  have f0 : w.frozen? ⟨b, 0, none⟩ = false := h.free 0
  go_enter Tryz.func53, Tryz.ntmps53
  go_wp2_with fail
  go_loop [6, 7, 8] (fun n o i => ∃ (k acc : Nat) (ov : Bool), k ≤ 9 ∧ k ≤ s.size ∧ acc < 128 ^ k ∧ n = .int .i64 (acc : Int) ∧ o = .bool ov ∧ (ov = true ↔ 4611686018427387903 < (acc : Int)) ∧ i = .int .i64 (k : Int) ∧
      scan 0 0 s.data.toList = scan k acc (s.data.toList.drop k)) (fun _ _ i => 10 - (intOf i).toNat)
  case atStart => exact ⟨0, 0, false, by omega, by omega, by simp, rfl, rfl, by simp, rfl, rfl⟩
  case round =>
    obtain ⟨k, acc, ov, hk9, hks, hacc, rfl, rfl, hov, rfl, hsc⟩ := hrel
    have hov' := Lib.hid hov
    have hacc' := Lib.hid hacc
    have hsl : s.data.toList.length = s.size := (Lib.size_eq s).symm
    by_cases hend : k = s.size
    · have hr := Lib.hid (rdNum_bad most (l := s.data.toList) (e := 32) (by rw [hsc, List.drop_eq_nil_of_le (by omega)]; rfl) (by decide))
      clear hsc hov hacc
      subst hend
      go_wp2_with fail
      refine (fails_any b s _ 32 _ h).mono ?_
      rintro en w1 ⟨rfl, hw⟩
      go_wp2_with fail
      go_ret2
      refine ⟨by rw [hr.out]; rfl, ?_, by rw [← hw]; exact Only.put (Only.refl _ _) _ _⟩
      rw [hr.out]
      exact isRd_err h hs (by decide) hw.symm
    · have hlt : k < s.size := by omega
      have hdrop : s.data.toList.drop k = s[k] :: s.data.toList.drop (k + 1) := by
        rw [List.drop_eq_getElem_cons (by omega)]; rfl
      rw [hdrop] at hsc
      have hf0 : 0 < s.data.toList.length := by omega
      by_cases h9 : k = 9
      · have hr := Lib.hid (rdNum_bad most (l := s.data.toList) (e := 30) (by rw [hsc, scan_form _ _ _ _ (Or.inl h9)]) (by decide))
        clear hsc hov hacc hdrop hsl
        subst h9
        go_wp2_with fail
        refine (fails_any b s _ 30 _ h).mono ?_
        rintro en w1 ⟨rfl, hw⟩
        go_wp2_with fail
        go_ret2
        refine ⟨by rw [hr.out]; rfl, ?_, by rw [← hw]; exact Only.put (Only.refl _ _) _ _⟩
        rw [hr.out]
        exact isRd_err h hs (by decide) hw.symm
      · have hk : k < 9 := by omega
        have hn9 : ((k : Int) == 9) = false := by simp; omega
        obtain ⟨c, hcd⟩ : ∃ c : Nat, c = s[k].toNat := ⟨_, rfl⟩
        have hc256 : c < 256 := by rw [hcd]; exact (s[k]).toNat_lt
        have hcb : ((s[k].toNat : Nat) : Int) = (c : Int) := by rw [hcd]
        by_cases hz : c = 0 ∧ 0 < k
        · have hr := Lib.hid (rdNum_bad most (l := s.data.toList) (e := 30) (by rw [hsc, scan_form _ _ _ _ (Or.inr (by rw [← hcd]; exact hz))]) (by decide))
          obtain ⟨hz1, hk0⟩ := hz
          have hz0 : ((c : Int) == 0) = true := by simp; omega
          clear hsc hov hacc hdrop hsl hz1 hcd
          go_wp2_with fail
          refine (fails_any b s _ 30 _ h).mono ?_
          rintro en w1 ⟨rfl, hw⟩
          go_wp2_with fail
          go_ret2
          refine ⟨by rw [hr.out]; rfl, ?_, by rw [← hw]; exact Only.put (Only.refl _ _) _ _⟩
          rw [hr.out]
          exact isRd_err h hs (by decide) hw.symm
        · obtain ⟨a2, ha2⟩ : ∃ a2 : Nat, a2 = acc + c % 128 * 128 ^ k := ⟨_, rfl⟩
          have hor := bits_or_step acc c k hk hacc
          rw [← ha2] at hor
          have ha2le : acc ≤ a2 := by rw [ha2]; omega
          have ha2lt : a2 < 128 ^ (k + 1) := by
            rw [ha2, Nat.pow_succ]
            have : c % 128 * 128 ^ k ≤ 127 * 128 ^ k := Nat.mul_le_mul_right _ (by omega)
            omega
          have ha2big : a2 ≤ 9223372036854775807 := by
            have : 128 ^ (k + 1) ≤ 128 ^ 9 := Nat.pow_le_pow_right (by omega) (by omega)
            omega
          by_cases hc : c < 128
          · have hsc2 := hsc
            rw [scan_last _ _ _ _ hk (by rw [← hcd]; exact hz) (by rw [← hcd]; exact hc), ← hcd, show acc + c * 128 ^ k = a2 by rw [ha2, Nat.mod_eq_of_lt hc]] at hsc2
            have hdr := Lib.hid (show s.extract (k + 1) s.size = ⟨(s.data.toList.drop (k + 1)).toArray⟩ by
              rw [Lib.extract_eq, List.take_of_length_le (by rw [List.length_drop]; omega)])
            have hzz : ((c : Int) == 0) = false ∨ (((c : Int) == 0) = true ∧ ¬ 0 < (k : Int)) := by
              by_cases h0 : c = 0
              · right; exact ⟨by simp; omega, by omega⟩
              · left; simp; omega
            have hks1 : k + 1 ≤ s.size := by omega
            have hblk2 := h.put 0 (.string (s.extract (k + 1) s.size))
            have hb2s : (s.extract (k + 1) s.size).size ≤ 9223372036854775807 := by rw [ByteArray.size_extract]; omega
            have hlist : (s.extract (k + 1) s.size).data.toList = s.data.toList.drop (k + 1) := by rw [hdr.out]
            by_cases hbad : 4611686018427387903 < (a2 : Int) ∨ most < (a2 : Int)
            · have hr := Lib.hid (rdNum_high most hsc2 hbad)
              have hov2 := Lib.hid hov
              have hL := Lib.hid hlist
              clear hsc hsc2 hov hacc hdrop hsl hz ha2 hcd ha2lt hov' hacc' hlist hf0
              have fin : ∀ w1, (w.setCell ⟨b, 0, none⟩ (.string (s.extract (k + 1) s.size))).setCell ⟨b, 1, none⟩ (errVal 31) = w1 → NumPost w b ((0, 31), (s.data.toList, 31)) (.returned (.tuple #[.int .i64 0, .int .i64 31])) w1 := fun w1 hw => by
                refine ⟨rfl, isRd_err hblk2 hb2s (by decide) hw.symm, ?_⟩
                rw [← hw]
                exact Only.put (Only.put (Only.refl _ _) _ _) _ _
              have fin' := Lib.hid fin
              clear fin
              by_cases htop : 4611686018427387903 < (a2 : Int)
              · rcases hzz with hz0 | ⟨hz0, hk0⟩ <;> cases ov
                all_goals go_wp2_with fail
                all_goals refine (fails_any b _ _ 31 _ hblk2).mono ?_
                all_goals rintro en w1 ⟨rfl, hw⟩
                all_goals go_wp2_with fail
                all_goals go_ret2
                all_goals rw [hr.out]
                all_goals exact fin'.out _ hw
              · have hmost : most < (a2 : Int) := by omega
                have hovf : ov = false := by
                  cases ov with
                  | false => rfl
                  | true => exfalso; have := hov2.out.1 rfl; omega
                subst hovf
                rcases hzz with hz0 | ⟨hz0, hk0⟩
                all_goals go_wp2_with fail
                all_goals refine (fails_any b _ _ 31 _ hblk2).mono ?_
                all_goals rintro en w1 ⟨rfl, hw⟩
                all_goals go_wp2_with fail
                all_goals go_ret2
                all_goals rw [hr.out]
                all_goals exact fin'.out _ hw
            · have h1 : (a2 : Int) ≤ 4611686018427387903 := by omega
              have h2 : (a2 : Int) ≤ most := by omega
              have hr := Lib.hid (rdNum_ok most hsc2 h1 h2)
              have hovf : ov = false := by
                cases ov with
                | false => rfl
                | true => exfalso; have := hov.1 rfl; omega
              subst hovf
              have hL := Lib.hid hlist
              clear hsc hsc2 hov hacc hdrop hsl hz ha2 hcd ha2lt hov' hacc' hlist hf0 hbad
              rcases hzz with hz0 | ⟨hz0, hk0⟩
              all_goals go_wp2_with fail
              all_goals go_ret2
              all_goals rw [hr.out]
              all_goals exact ⟨rfl, ⟨_, _, hblk2, hb2s, Or.inl ⟨rfl, rfl, hL.out⟩⟩, Only.put (Only.refl _ _) _ _⟩
          · have hsc2 := hsc
            rw [scan_step _ _ _ _ hk (by rw [← hcd]; omega), ← hcd, ← ha2] at hsc2
            have hsc3 := Lib.hid hsc2
            have ha3 := Lib.hid ha2lt
            have hz0 : ((c : Int) == 0) = false := by simp; omega
            have hov2 := Lib.hid hov
            clear hsc hsc2 hov hacc hdrop hsl hz ha2 hcd ha2lt hov' hacc' hf0
            by_cases htop : 4611686018427387903 < (a2 : Int)
            · cases ov
              · go_wp2_with fail
                go_round
                case rel => exact ⟨k + 1, a2, true, by omega, by omega, ha3.out, rfl, rfl, by simp; omega, by go_num, hsc3.out⟩
                case measure => simp [intOf]; omega
              · go_wp2_with fail
                go_round
                case rel => exact ⟨k + 1, a2, true, by omega, by omega, ha3.out, rfl, rfl, by simp; omega, by go_num, hsc3.out⟩
                case measure => simp [intOf]; omega
            · have hovf : ov = false := by
                cases ov with
                | false => rfl
                | true => exfalso; have := hov2.out.1 rfl; omega
              subst hovf
              go_wp2_with fail
              go_round
              case rel => exact ⟨k + 1, a2, false, by omega, by omega, ha3.out, rfl, rfl, by simp; omega, by go_num, hsc3.out⟩
              case measure => simp [intOf]; omega
end Go.Proofs.YtaihpnmojiagnaaGreatDoor.Wire

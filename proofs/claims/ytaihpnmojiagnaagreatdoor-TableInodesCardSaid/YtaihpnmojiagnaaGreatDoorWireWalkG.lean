/- The contracts of the document's Reader (stillageref03): Num in any state, Text, Nums, End; and of stillageref01.Same. -/
import Derived.Test.YtaihpnmojiagnaaGreatDoorWireWalkF
namespace Go.Proofs.YtaihpnmojiagnaaGreatDoor.Wire
open Go.RowKit Mem

theorem rf_any (b : Nat) (st : Rd) (most : Int) (w : World) (h : IsRf w b st) :
    Calls Tryz.prog 26 #[.pointer (some ⟨b, 0, none⟩), .int .i64 most] w (RNumPost w b (rdNum most st)) := by
  by_cases he : st.2 = 0
  · obtain ⟨S, p, hb, hs, hl⟩ := h
    obtain ⟨hp, hL⟩ := hl he
    obtain ⟨l, e⟩ := st
    simp only at he hL hb
    subst he hL
    exact rf_num b S p most w hb hs hp
  · exact rf_dead b st most w h he

def REndPost (w : World) (b : Nat) (st : Rd) (e : Ending) (w' : World) : Prop :=
  e = .returned (.int .i64 (rdEnd st)) ∧ IsRf w' b st ∧ Below w.heap.size w w'

set_option maxRecDepth 100000 in
set_option maxHeartbeats 1000000 in
theorem rend_any (b : Nat) (st : Rd) (w : World) (h : IsRf w b st) :
    Calls Tryz.prog 27 #[.pointer (some ⟨b, 0, none⟩)] w (REndPost w b st) := by
  obtain ⟨S, p, hb, hs, hl⟩ := h
  have c0 : w.cell? ⟨b, 0, none⟩ = some (.string S) := hb.cell 0
  have c1 : w.cell? ⟨b, 1, none⟩ = some (.int .i64 (p : Int)) := hb.cell 1
  have c2 : w.cell? ⟨b, 2, none⟩ = some (.int .i64 st.2) := hb.cell 2
  by_cases he : st.2 = 0
  · obtain ⟨hp, hL⟩ := hl he
    have hl' := Lib.hid hl
    rw [he] at c2
    have hb' := Lib.hid hb
    have he' := Lib.hid he
    have hll : p + st.1.length = S.size := by rw [← hL, List.length_drop, ← Lib.size_eq]; omega
    by_cases hlt : p < S.size
    · have hne : st.1 ≠ [] := fun h => by rw [h] at hll; simp at hll; omega
      clear hl he hb hL
      have hltI : (p : Int) < (S.size : Int) := by omega
      have hne' := Lib.hid hne
      clear hne hll
      go_enter Tryz.func27, Tryz.ntmps27
      go_wp2_with fail
      go_quiet (fail)
      go_wp2_with fail
      go_ret
      refine ⟨?_, ⟨S, p, hb'.out.drewN _, hs, hl'.out⟩, below_drewN (Below.refl _ _) _⟩
      rw [rdEnd, if_neg (by rw [he'.out]; simp), if_neg hne'.out]
      rfl
    · have hnil : st.1 = [] := List.eq_nil_of_length_eq_zero (by omega)
      clear hl he hb hL
      have hltI : ¬ (p : Int) < (S.size : Int) := by omega
      have hne' := Lib.hid hnil
      clear hnil hll
      go_enter Tryz.func27, Tryz.ntmps27
      go_wp2_with fail
      go_quiet (fail)
      go_wp2_with fail
      go_ret
      refine ⟨?_, ⟨S, p, hb'.out.drewN _, hs, hl'.out⟩, below_drewN (Below.refl _ _) _⟩
      rw [rdEnd, if_neg (by rw [he'.out]; simp), if_pos hne'.out]
      rfl
  · have hne : (st.2 != 0) = true := by simpa using he
    have he' := Lib.hid he
    have hl' := Lib.hid hl
    clear he hl
    go_enter Tryz.func27, Tryz.ntmps27
    go_wp2_with fail
    go_ret
    refine ⟨?_, ⟨S, p, hb, hs, hl'.out⟩, Below.refl _ _⟩
    rw [rdEnd, if_pos he'.out]
    rfl

def RTextPost (w : World) (b : Nat) (r : (List UInt8 × Int) × Rd) (e : Ending) (w' : World) : Prop :=
  e = .returned (.tuple #[.string ⟨r.1.1.toArray⟩, .int .i64 r.1.2]) ∧ IsRf w' b r.2 ∧ w.grownBy w' (some b)

set_option maxRecDepth 100000 in
set_option maxHeartbeats 2000000 in
theorem rtext_any (b : Nat) (st : Rd) (most : Int) (w : World) (h : IsRf w b st) :
    Calls Tryz.prog 35 #[.pointer (some ⟨b, 0, none⟩), .int .i64 most] w (RTextPost w b (rdText most st)) := by
  obtain ⟨hla, hz, hnz⟩ := rdNum_latch (min most 65536) st
  have hsp : rdText most st = (if (rdNum (min most 65536) st).1.2 ≠ 0 then (([], (rdNum (min most 65536) st).1.2), (rdNum (min most 65536) st).2)
    else if ((rdNum (min most 65536) st).2.1.length : Int) < (rdNum (min most 65536) st).1.1 then (([], 32), ((rdNum (min most 65536) st).2.1, 32))
    else (((rdNum (min most 65536) st).2.1.take (rdNum (min most 65536) st).1.1.toNat, 0), ((rdNum (min most 65536) st).2.1.drop (rdNum (min most 65536) st).1.1.toNat, 0))) := rfl
  have hcall := rf_any b st (min most 65536) w h
  obtain ⟨⟨⟨n, en⟩, l1, e1⟩, hr⟩ : ∃ r, rdNum (min most 65536) st = r := ⟨_, rfl⟩
  rw [hr] at hla hz hnz hsp hcall
  simp only at hla hz hnz hsp
  have hsp' := Lib.hid hsp
  have hcall' := Lib.hid hcall
  clear hsp hcall hr
  by_cases he : en = 0
  · obtain ⟨hn0, _, _⟩ := hz he
    have hnb : n ≤ 65536 := by omega
    subst he
    subst hla
    obtain ⟨m, rfl⟩ := Int.eq_ofNat_of_zero_le hn0
    clear hz hnz
    go_enter Tryz.func35, Tryz.ntmps35
    go_wp2_with fail
    refine hcall'.out.mono ?_
    rintro e w1 ⟨rfl, ⟨S, p, hb1, hs1, hlive⟩, hg1⟩
    obtain ⟨hp, hL⟩ := hlive rfl
    clear hlive
    simp only at hb1 hL
    have c0 : w1.cell? ⟨b, 0, none⟩ = some (.string S) := hb1.cell 0
    have c1 : w1.cell? ⟨b, 1, none⟩ = some (.int .i64 (p : Int)) := hb1.cell 1
    have f1 : w1.frozen? ⟨b, 1, none⟩ = false := hb1.free 1
    have hll : p + l1.length = S.size := by rw [← hL, List.length_drop, ← Lib.size_eq]; omega
    obtain ⟨d, hd⟩ : ∃ d : Nat, d = S.size - p := ⟨_, rfl⟩
    have e1 : IntKind.i64.wrap ((S.size : Int) - (p : Int)) = (d : Int) := by rw [IntWalk.i64_in _ (by omega)]; omega
    have hlen' := Lib.hid (show l1.length = d by omega)
    have hL' := Lib.hid hL
    have hdd := Lib.hid hd
    by_cases hlt : (d : Int) < (m : Int)
    · clear hL hll hd
      go_wp2_with fail
      go_quiet (fail)
      go_wp2_with fail
      refine (rfails_any b _ _ _ 32 _ (hb1.drewN _)).mono ?_
      rintro e w2 ⟨rfl, hw⟩
      go_wp2_with fail
      go_ret2
      rw [hsp'.out, if_neg (by simp), if_pos (by rw [hlen'.out]; exact hlt)]
      exact ⟨rfl, isRf_err (hb1.drewN _) hs1 (by decide) hw.symm, by rw [← hw]; exact Only.put (Only.drewN hg1 _) _ _⟩
    · obtain ⟨q, hq⟩ : ∃ q : Nat, q = p + m := ⟨_, rfl⟩
      have hqs : q ≤ S.size := by omega
      have e3 : (p : Int) + (m : Int) = (q : Int) := by rw [hq]; rfl
      have e4 : IntKind.i64.wrap ((q : Int) - (m : Int)) = (p : Int) := by rw [IntWalk.i64_in _ (by omega)]; omega
      have hpq : (p : Int) ≤ (q : Int) := by omega
      have hqI : (q : Int) ≤ (S.size : Int) := by omega
      have hp0 : (0 : Int) ≤ (p : Int) := by omega
      have hx1 := Lib.hid (show S.extract p q = ⟨(l1.take m).toArray⟩ by rw [Lib.extract_eq, ← hL, show q - p = m by omega])
      have hx2 := Lib.hid (show S.data.toList.drop q = l1.drop m by rw [← hL, List.drop_drop, hq])
      clear hL hll hd hq
      go_wp2_with fail
      go_quiet (fail)
      go_wp2_with fail
      go_quiet (fail)
      go_wp2_with fail
      go_ret2
      rw [hsp'.out, if_neg (by simp), if_neg (by rw [hlen'.out]; omega)]
      refine ⟨?_, ⟨S, q, Blk.drewN (Blk.put (hb1.drewN _) 1 _) _, hs1, fun _ => ⟨hqs, hx2.out⟩⟩, Only.drewN (Only.put (Only.drewN hg1 _) _ _) _⟩
      show Ending.returned (.tuple #[.string (S.extract p q), .int .i64 0]) = _
      rw [hx1.out]
      rfl
  · have hne : (en != 0) = true := by simpa using he
    have he' := Lib.hid he
    clear he hz
    go_enter Tryz.func35, Tryz.ntmps35
    go_wp2_with fail
    refine hcall'.out.mono ?_
    rintro e w1 ⟨rfl, hrd, hg1⟩
    go_wp2_with fail
    go_ret2
    rw [hsp'.out, if_pos he'.out]
    exact ⟨rfl, hrd, hg1⟩
end Go.Proofs.YtaihpnmojiagnaaGreatDoor.Wire

/- The contracts of wire's Reader: Num in any state, Text, Nums, End, as the plain functions have them. -/
import Derived.Test.YtaihpnmojiagnaaGreatDoorWireWalkD
import Derived.Lib.MinMax
namespace Go.Proofs.YtaihpnmojiagnaaGreatDoor.Wire
open Go.RowKit Mem

theorem IsRd.lt {w : World} {b : Nat} {st : Rd} (h : IsRd w b st) : b < w.heap.size := by
  obtain ⟨s, v, hb, _⟩ := h
  exact hb.lt
theorem IsRd.below {w w' : World} {b B : Nat} {st : Rd} (h : IsRd w b st) (hb : Below B w w') (hB : b < B) : IsRd w' b st := by
  obtain ⟨s, v, hk, r⟩ := h
  exact ⟨s, v, hk.below hb hB, r⟩
theorem IsRd.grown {w w' : World} {b : Nat} {row : Option Nat} {st : Rd} (h : IsRd w b st) (hb : w.grownBy w' row) (hB : some b ≠ row) : IsRd w' b st := by
  obtain ⟨s, v, hk, r⟩ := h
  exact ⟨s, v, hk.grown hb hB, r⟩
theorem IsRd.new (w : World) (s : ByteArray) (hs : s.size ≤ 9223372036854775807) : IsRd (w.alloc (.cells #[.string s, .nilIface] 109)) w.heap.size (s.data.toList, 0) :=
  ⟨s, .nilIface, Blk.new w _ _, hs, Or.inl ⟨rfl, rfl, rfl⟩⟩

/-- Num in any state -/
theorem rd_any (b : Nat) (st : Rd) (most : Int) (w : World) (h : IsRd w b st) (hL : Laid w) :
    Calls Tryz.prog 53 #[.pointer (some ⟨b, 0, none⟩), .int .i64 most] w (NumPost w b (rdNum most st)) := by
  obtain ⟨s, v, hb, hs, ⟨h0, rfl, hl⟩ | ⟨h0, rfl⟩⟩ := h
  · obtain ⟨l, e⟩ := st
    simp only at h0 hl
    subst h0 hl
    exact rd_num b s most w hb hs
  · refine (rd_dead b s st.2 most w hb hL).mono ?_
    rintro e w' ⟨rfl, hw⟩
    rw [rdNum_dead most h0]
    exact ⟨rfl, ⟨s, _, hb.below hw hb.lt, hs, Or.inr ⟨h0, rfl⟩⟩, Only.of_below hw _⟩

/-- End -/
def EndPost (w : World) (b : Nat) (st : Rd) (e : Ending) (w' : World) : Prop :=
  e = .returned (.int .i64 (rdEnd st)) ∧ IsRd w' b st ∧ Below w.heap.size w w'

set_option maxRecDepth 100000 in
set_option maxHeartbeats 1000000 in
theorem end_any (b : Nat) (st : Rd) (w : World) (h : IsRd w b st) (hL : Laid w) :
    Calls Tryz.prog 54 #[.pointer (some ⟨b, 0, none⟩)] w (EndPost w b st) := by
  obtain ⟨s, v, hb, hs, ⟨h0, rfl, hl⟩ | ⟨h0, rfl⟩⟩ := h
  · have c0 : w.cell? ⟨b, 0, none⟩ = some (.string s) := hb.cell 0
    have c1 : w.cell? ⟨b, 1, none⟩ = some .nilIface := hb.cell 1
    have hl' := Lib.hid hl
    have h0' := Lib.hid h0
    clear hl h0
    by_cases he : s.data.toList = []
    · have e1 : s.toList.isEmpty = true := by rw [Lib.toList_data, he]; rfl
      have e2 : (!s.toList.isEmpty) = false := by rw [e1]; rfl
      have e3 : s.toList = [] := by rw [Lib.toList_data, he]
      have he' := Lib.hid he
      clear he
      go_enter Tryz.func54, Tryz.ntmps54
      go_wp2_with fail
      go_ret
      refine ⟨?_, ⟨s, _, hb, hs, Or.inl ⟨h0'.out, rfl, hl'.out⟩⟩, Below.refl _ _⟩
      rw [rdEnd, if_neg (by rw [h0'.out]; simp), if_pos (by rw [← hl'.out]; exact he'.out)]
      rfl
    · have e1 : s.toList.isEmpty = false := by rw [Lib.toList_data]; simpa using he
      have e2 : (!s.toList.isEmpty) = true := by rw [e1]; rfl
      have e3 : ¬ s.toList = [] := by rw [Lib.toList_data]; exact he
      have he' := Lib.hid he
      clear he
      go_enter Tryz.func54, Tryz.ntmps54
      go_wp2_with fail
      go_ret
      refine ⟨?_, ⟨s, _, hb, hs, Or.inl ⟨h0'.out, rfl, hl'.out⟩⟩, Below.refl _ _⟩
      rw [rdEnd, if_neg (by rw [h0'.out]; simp), if_neg (by rw [← hl'.out]; exact he'.out)]
      rfl
  · have c1 : w.cell? ⟨b, 1, none⟩ = some (errVal st.2) := hb.cell 1
    unfold errVal at c1
    have hb' := Lib.hid hb
    have hne := Lib.hid h0
    clear hb h0
    go_enter Tryz.func54, Tryz.ntmps54
    go_wp2_with fail
    refine (number_any st.2 w hL).mono ?_
    rintro en w1 ⟨rfl, hw⟩
    go_wp2_with fail
    go_ret
    refine ⟨?_, ⟨s, _, hb'.out.below hw hb'.out.lt, hs, Or.inr ⟨hne.out, rfl⟩⟩, hw⟩
    rw [rdEnd, if_pos hne.out]
    rfl

/-- Text -/
def TextPost (w : World) (b : Nat) (r : (List UInt8 × Int) × Rd) (e : Ending) (w' : World) : Prop :=
  e = .returned (.tuple #[.string ⟨r.1.1.toArray⟩, .int .i64 r.1.2]) ∧ IsRd w' b r.2 ∧ w.grownBy w' (some b)

set_option maxRecDepth 100000 in
set_option maxHeartbeats 2000000 in
theorem text_any (b : Nat) (st : Rd) (most : Int) (w : World) (h : IsRd w b st) (hL : Laid w) :
    Calls Tryz.prog 75 #[.pointer (some ⟨b, 0, none⟩), .int .i64 most] w (TextPost w b (rdText most st)) := by
  obtain ⟨hla, hz, hnz⟩ := rdNum_latch (min most 65536) st
  have hsp : rdText most st = (if (rdNum (min most 65536) st).1.2 ≠ 0 then (([], (rdNum (min most 65536) st).1.2), (rdNum (min most 65536) st).2)
    else if ((rdNum (min most 65536) st).2.1.length : Int) < (rdNum (min most 65536) st).1.1 then (([], 32), ((rdNum (min most 65536) st).2.1, 32))
    else (((rdNum (min most 65536) st).2.1.take (rdNum (min most 65536) st).1.1.toNat, 0), ((rdNum (min most 65536) st).2.1.drop (rdNum (min most 65536) st).1.1.toNat, 0))) := rfl
  have hcall := rd_any b st (min most 65536) w h hL
  obtain ⟨⟨⟨n, en⟩, l1, e1⟩, hr⟩ : ∃ r, rdNum (min most 65536) st = r := ⟨_, rfl⟩
  rw [hr] at hla hz hnz hsp hcall
  simp only at hla hz hnz hsp
  have hsp' := Lib.hid hsp
  have hcall' := Lib.hid hcall
  clear hsp hcall hr
  by_cases he : en = 0
  · obtain ⟨hn0, _, _⟩ := hz he
    have hnb : n ≤ 65536 := by omega
    subst he
    subst hla
    obtain ⟨m, rfl⟩ := Int.eq_ofNat_of_zero_le hn0
    clear hz hnz
    go_enter Tryz.func75, Tryz.ntmps75
    go_wp2_with fail
    refine hcall'.out.mono ?_
    rintro e w1 ⟨rfl, ⟨s1, v1, hb1, hs1, hlive⟩, hg1⟩
    have hsl : s1.data.toList = l1 ∧ v1 = .nilIface := by
      rcases hlive with ⟨_, rfl, hl⟩ | ⟨h0, _⟩
      · exact ⟨hl, rfl⟩
      · exact absurd rfl h0
    obtain ⟨hsl, rfl⟩ := hsl
    clear hlive
    have c0 : w1.cell? ⟨b, 0, none⟩ = some (.string s1) := hb1.cell 0
    have f0 : w1.frozen? ⟨b, 0, none⟩ = false := hb1.free 0
    have hlen : l1.length = s1.size := by rw [← hsl]; exact (Lib.size_eq s1).symm
    have hsl' := Lib.hid hsl
    have hlen' := Lib.hid hlen
    clear hsl hlen
    by_cases hlt : (s1.size : Int) < (m : Int)
    · go_wp2_with fail
      refine (fails_any b _ _ 32 _ hb1).mono ?_
      rintro e w2 ⟨rfl, hw⟩
      go_wp2_with fail
      go_ret2
      rw [hsp'.out, if_neg (by simp), if_pos (by rw [hlen'.out]; exact hlt)]
      exact ⟨rfl, isRd_err hb1 hs1 (by decide) hw.symm, by rw [← hw]; exact Only.put hg1 _ _⟩
    · have hle : m ≤ s1.size := by omega
      have hx1 : s1.extract 0 m = ⟨(l1.take m).toArray⟩ := by rw [Lib.extract_eq, hsl'.out]; simp
      have hx2 : (s1.extract m s1.size).data.toList = l1.drop m := by
        rw [Lib.extract_data, hsl'.out, List.take_of_length_le (by rw [List.length_drop, hlen'.out]; exact Nat.le_refl _)]
      have hx1' := Lib.hid hx1
      have hx2' := Lib.hid hx2
      clear hx1 hx2
      go_wp2_with fail
      go_ret2
      rw [hsp'.out, if_neg (by simp), if_neg (by rw [hlen'.out]; omega)]
      refine ⟨?_, ⟨_, _, hb1.put 0 _, by rw [ByteArray.size_extract]; omega, Or.inl ⟨rfl, rfl, hx2'.out⟩⟩, Only.put hg1 _ _⟩
      show Ending.returned (.tuple #[.string (s1.extract 0 m), .int .i64 0]) = _
      rw [hx1'.out]
      rfl
  · have hne : (en != 0) = true := by simpa using he
    have he' := Lib.hid he
    clear he hz
    go_enter Tryz.func75, Tryz.ntmps75
    go_wp2_with fail
    refine hcall'.out.mono ?_
    rintro e w1 ⟨rfl, hrd, hg1⟩
    go_wp2_with fail
    go_ret2
    rw [hsp'.out, if_pos he'.out]
    exact ⟨rfl, hrd, hg1⟩

end Go.Proofs.YtaihpnmojiagnaaGreatDoor.Wire

/- The contracts of the document's Reader (stillageref03): Num, as the plain function has it. -/
import Derived.Test.YtaihpnmojiagnaaGreatDoorWireWalkE
namespace Go.Proofs.YtaihpnmojiagnaaGreatDoor.Wire
open Go.RowKit Mem

/-- the document's reader in block b is as st says -/
def IsRf (w : World) (b : Nat) (st : Rd) : Prop :=
  ∃ (S : ByteArray) (p : Nat), Blk w b 59 #[.string S, .int .i64 (p : Int), .int .i64 st.2] ∧ S.size ≤ 4611686018427387904 ∧ (st.2 = 0 → p ≤ S.size ∧ S.data.toList.drop p = st.1)
def RNumPost (w : World) (b : Nat) (r : (Int × Int) × Rd) (e : Ending) (w' : World) : Prop :=
  e = .returned (.tuple #[.int .i64 r.1.1, .int .i64 r.1.2]) ∧ IsRf w' b r.2 ∧ w.grownBy w' (some b)

theorem IsRf.lt {w : World} {b : Nat} {st : Rd} (h : IsRf w b st) : b < w.heap.size := by
  obtain ⟨s, v, hb, _⟩ := h
  exact hb.lt
theorem IsRf.below {w w' : World} {b B : Nat} {st : Rd} (h : IsRf w b st) (hb : Below B w w') (hB : b < B) : IsRf w' b st := by
  obtain ⟨s, v, hk, r⟩ := h
  exact ⟨s, v, hk.below hb hB, r⟩
theorem IsRf.grown {w w' : World} {b : Nat} {row : Option Nat} {st : Rd} (h : IsRf w b st) (hb : w.grownBy w' row) (hB : some b ≠ row) : IsRf w' b st := by
  obtain ⟨s, v, hk, r⟩ := h
  exact ⟨s, v, hk.grown hb hB, r⟩
theorem IsRf.new (w : World) (s : ByteArray) (hs : s.size ≤ 4611686018427387904) : IsRf (w.alloc (.cells #[.string s, .int .i64 0, .int .i64 0] 59)) w.heap.size (s.data.toList, 0) :=
  ⟨s, 0, Blk.new w _ _, hs, fun _ => ⟨Nat.zero_le _, rfl⟩⟩
theorem isRf_err {w w' : World} {b : Nat} {l : List UInt8} {s : ByteArray} {p : Nat} {v : Value} {e : Int} (h : Blk w' b 59 #[.string s, .int .i64 (p : Int), v]) (hs : s.size ≤ 4611686018427387904) (he : e ≠ 0) (hw : w = w'.setCell ⟨b, 2, none⟩ (.int .i64 e)) : IsRf w b (l, e) :=
  ⟨s, p, by rw [hw]; exact h.put 2 _, hs, fun h0 => absurd h0 he⟩

set_option maxRecDepth 100000 in
set_option maxHeartbeats 1000000 in
theorem rf_dead (b : Nat) (st : Rd) (most : Int) (w : World) (h : IsRf w b st) (he : st.2 ≠ 0) :
    Calls Tryz.prog 26 #[.pointer (some ⟨b, 0, none⟩), .int .i64 most] w (RNumPost w b (rdNum most st)) := by
  rw [rdNum_dead most he]
  obtain ⟨S, p, hb, hs, _⟩ := h
  have c2 : w.cell? ⟨b, 2, none⟩ = some (.int .i64 st.2) := hb.cell 2
  have hne : (st.2 != 0) = true := by simpa using he
  have he' := Lib.hid he
  clear he
  go_enter Tryz.func26, Tryz.ntmps26
  go_wp2_with fail
  go_quiet (fail)
  go_wp2_with fail
  go_ret2
  exact ⟨rfl, ⟨S, p, hb.drewN _, hs, fun h0 => absurd h0 he'.out⟩, Only.drewN (Only.refl _ _) _⟩

/-- one round's numbers -/
theorem round_facts (acc c k tm : Nat) (hk : k < 9) (hacc : acc < 128 ^ k) (htm : tm = 128 ^ (min k 8)) :
    ∃ d a2 : Nat, IntKind.i64.wrap ((c : Int) % 128 * (tm : Int)) = (d : Int) ∧ (acc : Int) + (d : Int) = (a2 : Int) ∧ d ≤ 9151314442816847872 ∧ acc < 72057594037927936 ∧ tm ≤ 72057594037927936 ∧ a2 = acc + c % 128 * 128 ^ k ∧ a2 < 128 ^ (k + 1) ∧ (k < 8 → tm ≤ 562949953421312) := by
  have htm2 : tm = 128 ^ k := by rw [htm, Nat.min_eq_left (by omega)]
  have h8 : (128 : Nat) ^ 8 = 72057594037927936 := by decide
  have h7 : (128 : Nat) ^ 7 = 562949953421312 := by decide
  have hle : 128 ^ k ≤ 128 ^ 8 := Nat.pow_le_pow_right (by omega) (by omega)
  have htmb : tm ≤ 72057594037927936 := by rw [htm2, ← h8]; exact hle
  have hd : c % 128 * tm ≤ 127 * 72057594037927936 := Nat.mul_le_mul (by omega) htmb
  have hw : ((c : Int) % 128 * (tm : Int)) = ((c % 128 * tm : Nat) : Int) := by rw [Int.natCast_mul]; rfl
  refine ⟨c % 128 * tm, acc + c % 128 * tm, ?_, rfl, by omega, by omega, htmb, by rw [htm2], ?_, fun h => ?_⟩
  · rw [hw]; exact IntWalk.i64_in _ ⟨by omega, by omega⟩
  · rw [htm2, Nat.pow_succ]
    have : c % 128 * 128 ^ k ≤ 127 * 128 ^ k := Nat.mul_le_mul_right _ (by omega)
    omega
  · rw [htm2, ← h7]; exact Nat.pow_le_pow_right (by omega) (by omega)
theorem drop_byte (S : ByteArray) (p k pk : Nat) (L : List UInt8) (hL : S.data.toList.drop p = L) (hpk : pk = p + k) (hlt : pk < S.size) : L.drop k = S[pk] :: L.drop (k + 1) := by
  have h1 : pk < S.data.toList.length := by rw [← Lib.size_eq]; exact hlt
  have hk' : k < L.length := by rw [← hL, List.length_drop]; omega
  rw [List.drop_eq_getElem_cons hk']
  congr 1
  have : L[k]? = some S[pk] := by
    rw [← hL, List.getElem?_drop, ← hpk]
    exact List.getElem?_eq_getElem h1
  rw [List.getElem?_eq_getElem hk'] at this
  exact Option.some.inj this

set_option maxRecDepth 100000 in
set_option maxHeartbeats 4000000 in
theorem rf_num (b : Nat) (S : ByteArray) (p : Nat) (most : Int) (w : World) (h : Blk w b 59 #[.string S, .int .i64 (p : Int), .int .i64 0]) (hs : S.size ≤ 4611686018427387904) (hp : p ≤ S.size) :
    Calls Tryz.prog 26 #[.pointer (some ⟨b, 0, none⟩), .int .i64 most] w (RNumPost w b (rdNum most (S.data.toList.drop p, 0))) := by
  have c0 : w.cell? ⟨b, 0, none⟩ = some (.string S) := h.cell 0
  have c1 : w.cell? ⟨b, 1, none⟩ = some (.int .i64 (p : Int)) := h.cell 1
  have c2 : w.cell? ⟨b, 2, none⟩ = some (.int .i64 0) := h.cell 2
  have f1 : w.frozen? ⟨b, 1, none⟩ = false := h.free 1
  obtain ⟨L, hLd⟩ : ∃ L, S.data.toList.drop p = L := ⟨_, rfl⟩
  have hLl : p + L.length = S.size := by rw [← hLd, List.length_drop, Lib.size_eq]; rw [Lib.size_eq] at hp; omega
  rw [hLd]
  have hLd' := Lib.hid hLd
  have hLl' := Lib.hid hLl
  clear hLd hLl
  go_enter Tryz.func26, Tryz.ntmps26
  go_wp2_with fail
  go_loopw [6, 7, 8] (fun n t i wr => ∃ (k acc tm q : Nat), k ≤ 9 ∧ p + k ≤ S.size ∧ acc < 128 ^ k ∧ tm = 128 ^ (min k 8) ∧ n = .int .i64 (acc : Int) ∧ t = .int .i64 (tm : Int) ∧ i = .int .i64 (k : Int) ∧
      scan 0 0 L = scan k acc (L.drop k) ∧ wr = w.drewN q) (fun _ _ i _ => 10 - (intOf i).toNat)
  case atStart => exact ⟨0, 0, 1, 0, by omega, by omega, by simp, rfl, rfl, rfl, rfl, rfl, rfl⟩
  case round =>
    obtain ⟨k, acc, tm, q, hk9, hks, hacc, htm, rfl, rfl, rfl, hsc, rfl⟩ := hrel
    have hLl := hLl'.out
    obtain ⟨pk, hpk⟩ : ∃ pk : Nat, pk = p + k := ⟨_, rfl⟩
    have e1 := Lib.hid (show IntKind.i64.wrap ((p : Int) + (k : Int)) = (pk : Int) by rw [IntWalk.i64_in _ (by omega), hpk]; rfl)
    have hk10 : (k : Int) < 10 := by omega
    have hk0 : 0 ≤ (k : Int) := by omega
    by_cases hend : pk = S.size
    · have hr := Lib.hid (rdNum_bad most (l := L) (e := 32) (by rw [hsc, List.drop_eq_nil_of_le (by omega)]; rfl) (by decide))
      have hge : ((S.size : Nat) : Int) ≤ (pk : Int) := by omega
      clear hsc hacc htm hpk hend hLl
      have e1 := e1.out
      go_wp2_with fail
      go_quiet (fail)
      go_wp2_with fail
      refine (rfails_any b _ _ _ 32 _ (h.drewN _)).mono ?_
      rintro en w1 ⟨rfl, hw⟩
      go_wp2_with fail
      go_ret2
      rw [hr.out]
      exact ⟨rfl, isRf_err (h.drewN _) hs (by decide) hw.symm, by rw [← hw]; exact Only.put (Only.drewN (Only.refl _ _) _) _ _⟩
    · have hlt : pk < S.size := by omega
      have hdrop := drop_byte S p k pk L hLd'.out hpk hlt
      rw [hdrop] at hsc
      obtain ⟨c, hcd⟩ : ∃ c : Nat, c = S[pk].toNat := ⟨_, rfl⟩
      have hc256 : c < 256 := by rw [hcd]; exact (S[pk]).toNat_lt
      have hcb := Lib.hid (show ((S[pk].toNat : Nat) : Int) = (c : Int) by rw [hcd])
      have hltI : (pk : Int) < ((S.size : Nat) : Int) := by omega
      have hpk0 : (0 : Int) ≤ (pk : Int) := by omega
      have hnge : ¬ ((S.size : Nat) : Int) ≤ (pk : Int) := by omega
      by_cases hform : k = 9 ∨ (c = 0 ∧ 0 < k)
      · have hr := Lib.hid (rdNum_bad most (l := L) (e := 30) (by rw [hsc, scan_form _ _ _ _ (by rw [← hcd]; exact hform)]) (by decide))
        have hff : ((k : Int) == 9) = true ∨ (((k : Int) == 9) = false ∧ ((c : Int) == 0) = true ∧ 0 < (k : Int)) := by
          by_cases h9 : k = 9
          · left; simp; omega
          · right; refine ⟨by simp; omega, by simp; omega, by omega⟩
        clear hsc hacc htm hpk hend hLl hdrop hcd hform
        have e1 := e1.out
        have hcb := hcb.out
        rcases hff with h9 | ⟨h9, hz0, hkp⟩
        all_goals
          go_wp2_with fail
          go_quiet (fail)
          go_wp2_with fail
          go_quiet (fail)
          go_wp2_with fail
          refine (rfails_any b _ _ _ 30 _ (h.drewN _)).mono ?_
          rintro en w1 ⟨rfl, hw⟩
          go_wp2_with fail
          go_ret2
          rw [hr.out]
          exact ⟨rfl, isRf_err (h.drewN _) hs (by decide) hw.symm, by rw [← hw]; exact Only.put (Only.drewN (Only.refl _ _) _) _ _⟩
      · have hk : k < 9 := by omega
        have hz : ¬ (c = 0 ∧ 0 < k) := fun h => hform (Or.inr h)
        have hn9 : ((k : Int) == 9) = false := by simp; omega
        have hzz : (((c : Int) == 0) = false ∧ 0 < (k : Int)) ∨ ¬ 0 < (k : Int) := by
          by_cases h0 : 0 < k
          · left; exact ⟨by simp; omega, by omega⟩
          · right; omega
        obtain ⟨d, a2, e2, e3, hdb, hab, htb, ha2, ha2lt, htb7⟩ := round_facts acc c k tm hk hacc htm
        have e2 := Lib.hid e2
        have e3 := Lib.hid e3
        by_cases hc : c < 128
        · have hsc2 := hsc
          rw [scan_last _ _ _ _ hk (by rw [← hcd]; exact hz) (by rw [← hcd]; exact hc), ← hcd, show acc + c * 128 ^ k = a2 by rw [ha2, Nat.mod_eq_of_lt hc]] at hsc2
          have hrest := Lib.hid (show S.data.toList.drop (p + (k + 1)) = L.drop (k + 1) by rw [← hLd'.out, List.drop_drop])
          have hpk1 : p + (k + 1) ≤ S.size := by omega
          have hcI : (c : Int) < 128 := by omega
          by_cases hbad : 4611686018427387903 < (a2 : Int) ∨ most < (a2 : Int)
          · have hr := Lib.hid (rdNum_high most hsc2 hbad)
            clear hsc hsc2 hacc htm hpk hend hLl hdrop hcd hform hz ha2 ha2lt htb7
            have e1 := e1.out
            have hcb := hcb.out
            have e2 := e2.out
            have e3 := e3.out
            rcases hzz with ⟨hz0, hkk⟩ | hkk <;> by_cases htop : 4611686018427387903 < (a2 : Int)
            all_goals
              have hmm : ¬ 4611686018427387903 < (a2 : Int) → most < (a2 : Int) := fun h => by omega
              clear hbad
              first | (have hmo := hmm htop; clear hmm) | clear hmm
              go_wp2_with fail
              go_quiet (fail)
              go_wp2_with fail
              go_quiet (fail)
              go_wp2_with fail
              refine (rfails_any b _ _ _ 31 _ ((h.drewN _).put 1 _)).mono ?_
              rintro en w1 ⟨rfl, hw⟩
              go_wp2_with fail
              go_ret2
              rw [hr.out]
              exact ⟨rfl, isRf_err ((h.drewN _).put 1 _) hs (by decide) hw.symm, by rw [← hw]; exact Only.put (Only.put (Only.drewN (Only.refl _ _) _) _ _) _ _⟩
          · have h1 : (a2 : Int) ≤ 4611686018427387903 := by omega
            have h2 : (a2 : Int) ≤ most := by omega
            have hr := Lib.hid (rdNum_ok most hsc2 h1 h2)
            clear hsc hsc2 hacc htm hpk hend hLl hdrop hcd hform hz ha2 ha2lt htb7 hbad
            have e1 := e1.out
            have hcb := hcb.out
            have e2 := e2.out
            have e3 := e3.out
            rcases hzz with ⟨hz0, hkk⟩ | hkk
            all_goals
              go_wp2_with fail
              go_quiet (fail)
              go_wp2_with fail
              go_quiet (fail)
              go_wp2_with fail
              go_ret2
              rw [hr.out]
              exact ⟨rfl, ⟨S, p + (k + 1), (h.drewN _).put 1 _, hs, fun _ => ⟨hpk1, hrest.out⟩⟩, Only.put (Only.drewN (Only.refl _ _) _) _ _⟩
        · have hsc2 := hsc
          rw [scan_step _ _ _ _ hk (by rw [← hcd]; omega), ← hcd, ← ha2] at hsc2
          have hsc3 := Lib.hid hsc2
          have ha3 := Lib.hid ha2lt
          have hz0 : ((c : Int) == 0) = false := by simp; omega
          have hcI : ¬ (c : Int) < 128 := by omega
          have htm' := Lib.hid htm
          have hpk' : p + (k + 1) ≤ S.size := by omega
          by_cases h8 : k < 8
          · have htb8 := htb7 h8
            have h8I : (k : Int) < 8 := by omega
            clear hsc hsc2 hacc htm hpk hend hLl hdrop hcd hform hz ha2 ha2lt htb7
            have e1 := e1.out
            have hcb := hcb.out
            have e2 := e2.out
            have e3 := e3.out
            rcases hzz with ⟨hz0', hkk⟩ | hkk
            · go_wp2_with fail
              go_quiet (fail)
              go_wp2_with fail
              go_quiet (fail)
              go_wp2_with fail
              go_roundw
              case rel => exact ⟨k + 1, a2, tm * 128, _, by omega, hpk', ha3.out, by rw [htm'.out, Nat.min_eq_left (by omega), Nat.min_eq_left (by omega)]; rfl, rfl, by go_num, by go_num, hsc3.out, rfl⟩
              case measure => simp [intOf]; omega
            · go_wp2_with fail
              go_quiet (fail)
              go_wp2_with fail
              go_quiet (fail)
              go_wp2_with fail
              go_roundw
              case rel => exact ⟨k + 1, a2, tm * 128, _, by omega, hpk', ha3.out, by rw [htm'.out, Nat.min_eq_left (by omega), Nat.min_eq_left (by omega)]; rfl, rfl, by go_num, by go_num, hsc3.out, rfl⟩
              case measure => simp [intOf]; omega
          · have h8I : ¬ (k : Int) < 8 := by omega
            clear hsc hsc2 hacc htm hpk hend hLl hdrop hcd hform hz ha2 ha2lt htb7
            have e1 := e1.out
            have hcb := hcb.out
            have e2 := e2.out
            have e3 := e3.out
            rcases hzz with ⟨hz0', hkk⟩ | hkk
            · go_wp2_with fail
              go_quiet (fail)
              go_wp2_with fail
              go_quiet (fail)
              go_wp2_with fail
              go_roundw
              case rel => exact ⟨k + 1, a2, tm, _, by omega, hpk', ha3.out, by rw [htm'.out, Nat.min_eq_right (by omega), Nat.min_eq_right (by omega)], rfl, rfl, by go_num, hsc3.out, rfl⟩
              case measure => simp [intOf]; omega
            · exfalso; omega
end Go.Proofs.YtaihpnmojiagnaaGreatDoor.Wire

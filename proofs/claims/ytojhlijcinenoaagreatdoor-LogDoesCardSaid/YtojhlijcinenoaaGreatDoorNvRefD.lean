/- The document's log: Val, Half, Bytes, Room. -/
import Derived.Test.YtojhlijcinenoaaGreatDoorNvRefC
import Derived.Test.YtojhlijcinenoaaGreatDoorNvPl
import Derived.Deep.RegionHeld3
namespace Go.Proofs.YtojhlijcinenoaaGreatDoor.Nv
open Go Go.RowKit Go.Maps Mem Disk
set_option maxRecDepth 100000 in
theorem valL_drop {l : List UInt8} {j : Nat} {c : UInt8} (h : l[j]? = some c) : valL (l.drop j) = c.toNat + 256 * valL (l.drop (j + 1)) := by
  have hl : j < l.length := (List.getElem?_eq_some_iff.1 h).1
  rw [List.drop_eq_getElem_cons hl, valL, (List.getElem?_eq_some_iff.1 h).2]
set_option maxRecDepth 100000 in
set_option maxHeartbeats 4000000 in
theorem rval_any (s : ByteArray) (w : World) (hs : s.size ≤ 6) : Calls Tryz.prog 63 #[.string s] w fun e w' => e = .returned (.int .i64 (val s : Int)) ∧ w' = w := by
  have hend : valL (s.data.toList.drop s.size) = 0 := by rw [List.drop_of_length_le (by rw [← Lib.size_eq s]; exact Nat.le_refl _)]; rfl
  have hsz := Lib.hid (Lib.size_eq s)
  replace hend := Lib.hid hend
  go_enter Tryz.func63, Tryz.ntmps63
  go_wp2_with fail
  go_loop [3, 4] (fun x i => ∃ k : Nat, k ≤ s.size ∧ i = .int .i64 ((k : Int) - 1) ∧ x = .int .i64 (valL (s.data.toList.drop k) : Nat)) (fun _ i => (intOf i + 1).toNat)
  case atStart => exact ⟨s.size, Nat.le_refl _, rfl, by rw [hend.out]; rfl⟩
  case round =>
    obtain ⟨k, hk, rfl, rfl⟩ := hrel
    cases k with
    | zero =>
      go_wp2_with fail
      go_ret
      exact ⟨rfl, rfl⟩
    | succ j =>
      have hj : j < s.size := by omega
      have hc : s.data.toList[j]? = some s[j] := by rw [Array.getElem?_toList]; exact Array.getElem?_eq_getElem hj
      generalize hcc : s[j] = c at hc
      have hstep := valL_drop hc
      have hlt := valL_lt (s.data.toList.drop (j + 1))
      have hle : (256 : Nat) ^ (s.data.toList.drop (j + 1)).length ≤ 256 ^ 5 := Nat.pow_le_pow_right (by omega) (by rw [List.length_drop, ← hsz.out]; omega)
      have hv : valL (s.data.toList.drop (j + 1)) ≤ 1099511627776 := by omega
      have hcb := c.toNat_lt
      rw [show ((j + 1 : Nat) : Int) - 1 = (j : Int) by omega]
      generalize valL (s.data.toList.drop (j + 1)) = V at hstep hv ⊢
      have h0 : (0 : Int) ≤ (j : Int) := by omega
      have hjI : (j : Int) < (s.size : Int) := by omega
      replace hstep := Lib.hid hstep
      replace hcc := Lib.hid hcc
      clear hc hlt hle
      go_wp2_with fail
      refine ⟨⟨j, by omega, rfl, congrArg (Value.int IntKind.i64) ?_⟩, by simp [intOf]⟩
      rw [hstep.out, hcc.out]
      unfold wrap64
      omega
section
variable {F G K : Nat → Prop} {w w' : World} {a b m : Nat} {v : Value} {l l' : Lg} {d d' : Dk}
set_option maxRecDepth 100000 in
set_option maxHeartbeats 2000000 in
theorem rhalf_any (h : RL F w a b l d) (hf : Fit d) : Calls Tryz.prog 46 #[.pointer (some ⟨a, 0, none⟩)] w fun e w' => e = .returned (.int .i64 (halfD d : Int)) ∧ w' = w := by
  obtain ⟨G, v, h⟩ := h
  obtain ⟨S, c, s0⟩ := stays_cell h.dk
  obtain ⟨c0, _⟩ := h.cells
  clear h
  have hfew := hf.few
  obtain ⟨N, hN⟩ : ∃ N, N = d.stays.length := ⟨_, rfl⟩
  have e1 : (halfD d : Int) = ((N : Int) - 1) / 2 := by rw [hN]; unfold halfD; omega
  rw [e1]
  rw [← hN] at s0 hfew
  replace hN := Lib.hid hN
  clear e1 hf
  go_enter Tryz.func46, Tryz.ntmps46
  go_wp2_with fail
  go_ret
  exact ⟨rfl, rfl⟩
set_option maxRecDepth 100000 in
set_option maxHeartbeats 4000000 in
theorem rbytes_any (A : Option Addr) (n c : Nat) (xs : List ByteArray) (w : World) (hx : Row w A n (xs.map Value.string)) (hz : (enc xs).size ≤ 1048576) (hn : n ≤ 1048576) :
    Calls Tryz.prog 43 #[.slice A n c] w fun e w' => e = .returned (.string (enc xs)) ∧ Below w.heap.size w w' := by
  have hxl := Lib.hid (show xs.length = n by simpa using hx.1)
  replace hx := Lib.hid hx
  go_enter Tryz.func43, Tryz.ntmps43
  go_wp2_with fail
  go_loopw [3, 4] (fun sv i wr => ∃ k : Nat, k ≤ n ∧ i = .int .i64 (k : Int) ∧ sv = .string (enc (xs.take k)) ∧ Below w.heap.size w wr) (fun _ i _ => n - (intOf i).toNat)
  case atStart => exact ⟨0, Nat.zero_le _, rfl, by rw [List.take_zero]; rfl, Below.refl _ _⟩
  case round =>
    obtain ⟨k, hk, rfl, rfl, hb⟩ := hrel
    by_cases hlt : k < n
    · have hltI : (k : Int) < (n : Int) := by omega
      have hk0 : (0 : Int) ≤ (k : Int) := by omega
      obtain ⟨ad, u, rfl, hu, hc⟩ := (hx.out.below hb).at_ hlt
      obtain ⟨x, hx1, rfl⟩ := getStr_some hu
      have htk := sn_of hx1
      have henc : enc (xs.take (k + 1)) = enc (xs.take k) ++ enc1 x := by rw [htk, enc_snoc]
      have hpre : (enc (xs.take (k + 1))).size ≤ (enc xs).size := by
        have e2 : xs = xs.take (k + 1) ++ xs.drop (k + 1) := (List.take_append_drop _ _).symm
        have e3 : enc xs = enc (xs.take (k + 1)) ++ enc (xs.drop (k + 1)) := by
          conv => lhs; rw [e2]
          show (xs.take (k + 1) ++ xs.drop (k + 1)).foldl (fun a r => a ++ enc1 r) ⟨#[]⟩ = _
          rw [List.foldl_append]
          exact enc_from _ _
        rw [e3, ByteArray.size_append]
        omega
      have hes : (enc (xs.take (k + 1))).size = (enc (xs.take k)).size + (x.size + 2) := by rw [henc, ByteArray.size_append, enc1_size]
      obtain ⟨E, hE⟩ : ∃ E, E = enc (xs.take k) := ⟨_, rfl⟩
      rw [← hE] at hes henc ⊢
      have hP2 := num_size x.size 2
      have kn := fun W => rnum_any x.size 2 (by omega) (by decide) (by decide) W
      have hfin : enc (xs.take (k + 1)) = E ++ (num x.size 2 ++ x) := henc
      generalize num x.size 2 = P at hP2 kn hfin
      have z1 : ¬ 9223372036854775807 < P.size + x.size := by omega
      have z2 : ¬ 9223372036854775807 < E.size + (P.size + x.size) := by omega
      have hbd := hb.drew
      have hcd : wr.drew.cell? (ad.add k) = some (.string x) := hc
      replace hfin := Lib.hid hfin
      replace hE := Lib.hid hE
      replace kn := Lib.hid kn
      replace hb := Lib.hid hb
      clear hu hx1 htk henc hpre hes hP2
      go_upto_region 5 with fail
      go_region_held3 (fun w' => w'.cell? (ad.add k) = some (.string x))
        (first
          | exact hcd
          | exact hc3
          | go_keep)
        (first
          | (go_at_call 76; refine (kn.out _).mono ?_; rintro e w3 ⟨rfl, b3⟩; have hc3 : w3.cell? (ad.add k) = some (.string x) := (b3.cell (by rw [add_block]; have := World.block_lt_of_cell? wr _ hc; rw [add_block] at this; exact this)).trans hcd))
      have hb3 := Lib.hid (hbd.trans (b3.mono hbd.size))
      clear hc3 hcd b3 hbd hc
      go_wp2_with fail
      exact ⟨⟨k + 1, by omega, rfl, by rw [hfin.out], hb3.out⟩, by simp [intOf]; omega⟩
    · obtain rfl : k = n := by omega
      have hall : xs.take k = xs := List.take_of_length_le (by rw [hxl.out]; exact Nat.le_refl _)
      rw [hall]
      replace hb := Lib.hid hb
      go_wp2_with fail
      go_ret
      exact ⟨rfl, hb.out⟩
set_option maxRecDepth 100000 in
set_option maxHeartbeats 4000000 in
theorem rroom_any (h : RL F w a b l d) (hf : Fit d) (hz : (enc l.list).size ≤ 1048576) (hl : l.list.length ≤ 1048576) : Calls Tryz.prog 28 #[.pointer (some ⟨a, 0, none⟩)] w fun e w' => e = .returned (.int .i64 (roomL l d)) ∧ Below w.heap.size w w' := by
  have hfew := hf.few
  have hH : halfD d ≤ 8192 := by unfold halfD; omega
  have kh := fun W (hb : Below w.heap.size w W) => rhalf_any (h.below hb) hf
  obtain ⟨G, v, h⟩ := h
  obtain ⟨_, _, c2, _⟩ := h.cells
  obtain ⟨A, c, rfl⟩ := own_slice h.row
  have kb := fun W (hb : Below w.heap.size w W) => rbytes_any A l.list.length c l.list W ((Row.of_own h.row).below hb) hz hl
  have ha : a < w.heap.size := h.blk.lt
  unfold roomL
  generalize halfD d = H at kh hH ⊢
  generalize enc l.list = E at kb hz ⊢
  have s1 : IntKind.i64.wrap (64 * (H : Int)) = 64 * (H : Int) := IntWalk.i64_in _ (by omega)
  have s2 : IntKind.i64.wrap (64 * (H : Int) - (E.size : Int)) = (H : Int) * 64 - (E.size : Int) := by rw [IntWalk.i64_in _ (by omega)]; omega
  have hbd : Below w.heap.size w w.drew := (Below.refl _ w).drew
  have cd : w.drew.cell? ⟨a, 2, none⟩ = some (.slice A l.list.length c) := c2
  replace kh := Lib.hid kh
  replace kb := Lib.hid kb
  clear h hf
  go_enter Tryz.func28, Tryz.ntmps28
  go_upto_region 1 with fail
  go_region_held3 (fun w' => w'.cell? ⟨a, 2, none⟩ = some (.slice A l.list.length c))
    (first
      | exact cd
      | exact c3
      | go_keep)
    (first
      | (go_at_call 46; refine (kh.out _ (by first | exact hbd | exact hb3)).mono ?_; rintro e w4 ⟨rfl, rfl⟩)
      | (go_at_call 43; refine (kb.out _ hbd).mono ?_; rintro e w3 ⟨rfl, b3⟩; have hb3 := hbd.trans (b3.mono hbd.size); have c3 : w3.cell? ⟨a, 2, none⟩ = some (.slice A l.list.length c) := (b3.cell (p := ⟨a, 2, none⟩) ha).trans cd))
  clear s1 s2
  go_wp2_with fail
  go_ret
  exact ⟨rfl, hb3⟩
end
end Go.Proofs.YtojhlijcinenoaaGreatDoor.Nv

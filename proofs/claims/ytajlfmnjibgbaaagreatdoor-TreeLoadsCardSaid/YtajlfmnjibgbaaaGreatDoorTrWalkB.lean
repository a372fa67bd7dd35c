/- The tree's group, laid, pointers. -/
import Derived.Test.YtajlfmnjibgbaaaGreatDoorTrWalkA
import Derived.Laws.BitsAllLaws
import Derived.Deep.AppendLies
import Derived.Lib.SmallJoins
import Derived.Lib.UnsafeStr
import Derived.Laws.IdiomStrings
namespace Go.Proofs.YtajlfmnjibgbaaaGreatDoor.Tr
open Go Go.RowKit Mem Disk
set_option maxRecDepth 100000 in
theorem infoU8y : (Tryz.prog.info? 5).map (fun i => (i.zero, i.size, i.bytes)) = some (some (.int .u8 0), 1, 1) := by kernel_rfl
set_option maxRecDepth 100000 in
theorem row_drop {w : World} {A : Addr} {n : Nat} {us : List Value} (h : Row w (some A) n us) (x m : Nat) (hm : x + m ≤ n) : Row w (some (A.add x)) m ((us.drop x).take m) := by
  refine ⟨by rw [List.length_take, List.length_drop, h.1]; omega, fun k u hu => ⟨_, rfl, ?_⟩⟩
  have hk : k < m := by
    have := (List.getElem?_eq_some_iff.1 hu).1
    rw [List.length_take] at this
    omega
  rw [List.getElem?_take_of_lt hk, List.getElem?_drop] at hu
  obtain ⟨ad, e, hc⟩ := h.2 _ u hu
  injection e with e
  subst e
  rw [add_add]
  exact hc
set_option maxRecDepth 100000 in
theorem natsV_grp (l : List Nat) (i : Nat) : ((natsV l).drop (60 * i)).take (grp l i).length = natsV (grp l i) := by
  unfold natsV
  rw [← List.map_drop, ← List.map_take]
  congr 1
  unfold grp
  rw [List.length_take, ← List.take_take, List.take_of_length_le (Nat.le_refl (l.drop (60 * i)).length)]
/-- a slice that reads as a list -/
def IsPart (w : World) (G : List Value) (u : Value) : Prop := ∃ A m c, u = .slice A m c ∧ m = G.length ∧ Row w A m G
set_option maxRecDepth 100000 in
set_option maxHeartbeats 4000000 in
theorem group_any {base n : Nat} {v : Value} (l : List Nat) (i : Nat) (w : World) (h : w.ownsRow base 3 1 v n (natsV l)) (hi : 60 * i < l.length) (hl : l.length ≤ 1000000) :
    Calls Tryz.prog 36 #[v, .int .i64 (i : Int)] w fun e w' => ∃ u, e = .returned u ∧ IsPart w (natsV (grp l i)) u ∧ w' = w := by
  obtain rfl : l.length = n := by have := h.1; rw [natsV_length] at this; omega
  obtain ⟨g, cap, rfl, hcap⟩ : ∃ g cap, v = .slice (some ⟨g, 0, none⟩) l.length cap ∧ l.length ≤ cap := by
    rcases h.2 with ⟨_, h2⟩ | ⟨g, cap, cur, hv, hb, hg, hnc, _⟩
    · omega
    · exact ⟨g, cap, hv, hnc⟩
  have hr := Row.of_own h
  have hgl := grp_length l i
  have hrow := row_drop hr (60 * i) (grp l i).length (by omega)
  rw [natsV_grp] at hrow
  obtain ⟨G, hG⟩ : ∃ G, G = natsV (grp l i) := ⟨_, rfl⟩
  rw [← hG] at hrow ⊢
  rw [add_lit, Nat.zero_add] at hrow
  have hGl : G.length = (grp l i).length := by rw [hG, natsV_length]
  replace hrow := Lib.hid hrow
  replace hGl := Lib.hid hGl
  replace hgl := Lib.hid hgl
  generalize (grp l i).length = m at hgl hrow hGl
  obtain ⟨n, hn⟩ : ∃ n, n = l.length := ⟨_, rfl⟩
  rw [← hn] at hi hl hcap hgl ⊢
  clear hr h hG hn
  have e1 : min (n : Int) ((i : Int) * 60) = (i : Int) * 60 := by omega
  have z1 : i * 60 ≤ cap := by omega
  have z2 : i * 60 ≤ n := by omega
  have hi6 : i ≤ 1000000 := by omega
  go_enter Tryz.func36, Tryz.ntmps36
  go_wp2_with fail
  · have q1 := hgl.out
    have q2 := hrow.out
    go_ret
    refine ⟨_, rfl, ⟨_, _, _, rfl, ?_, ?_⟩, rfl⟩
    · rw [hGl.out]; omega
    · rw [show ((i : Int) * 60 + 60).toNat - i * 60 = m by omega, Nat.mul_comm i 60]
      exact q2
  · have q1 := hgl.out
    have q2 := hrow.out
    go_ret
    refine ⟨_, rfl, ⟨_, _, _, rfl, ?_, ?_⟩, rfl⟩
    · rw [hGl.out]; omega
    · rw [show n - i * 60 = m by omega, Nat.mul_comm i 60]
      exact q2
set_option maxRecDepth 100000 in
theorem IsPart.below {w w' : World} {G : List Value} {u : Value} (h : IsPart w G u) (hb : Below w.heap.size w w') : IsPart w' G u := by
  obtain ⟨A, m, c, e, hm, hr⟩ := h
  exact ⟨A, m, c, e, hm, hr.below hb⟩
set_option maxRecDepth 100000 in
theorem IsPart.of_own {w : World} {base n : Nat} {v : Value} {G : List Value} {e : TypeId} (h : w.ownsRow base e 1 v n G) : IsPart w G v := by
  obtain ⟨A, c, rfl⟩ := own_slice h
  exact ⟨A, n, c, rfl, by have := h.1; omega, Row.of_own h⟩
set_option maxRecDepth 100000 in
theorem enc4_snoc (l : List Nat) (n : Nat) : (enc4 (l ++ [n])).data.toList = (enc4 l).data.toList ++ le4 n := by
  unfold enc4
  simp
def le4V (n : Nat) : List Value := (le4 n).map fun c => Value.int .u8 (c.toNat : Int)
set_option maxRecDepth 100000 in
theorem bytes_snoc (l : List Nat) (n : Nat) : Lib.byteCells (enc4 (l ++ [n])).data.toList = Lib.byteCells (enc4 l).data.toList ++ le4V n := by
  rw [enc4_snoc]
  unfold Lib.byteCells le4V
  rw [List.map_append]
set_option maxRecDepth 100000 in
theorem u8_of (n k : Nat) : ((n / k : Nat) : Int) % 256 = ((UInt8.ofNat (n / k)).toNat : Int) := by
  rw [UInt8.toNat_ofNat']
  omega
set_option maxRecDepth 100000 in
set_option maxHeartbeats 8000000 in
theorem laid_any {u : Value} (l : List Nat) (w : World) (h : IsPart w (natsV l) u) (h0 : 0 < l.length) (hl : l.length ≤ 1000) (hn : ∀ n ∈ l, n ≤ 4294967295) :
    Calls Tryz.prog 35 #[u] w fun e w' => e = .returned (.string (enc4 l)) ∧ Below w.heap.size w w' := by
  obtain ⟨A, m, c, rfl, hm, hr⟩ := h
  rw [natsV_length] at hm
  subst hm
  obtain ⟨i0, hinf, hz0, hz1, hz2⟩ := info_parts infoU8y
  replace hr := Lib.hid hr
  obtain ⟨E, hE⟩ : ∃ E, E = enc4 l := ⟨_, rfl⟩
  rw [← hE]
  replace hE := Lib.hid hE
  go_enter Tryz.func35, Tryz.ntmps35
  go_wp2_with fail
  go_loopw [3, 8] (fun bv iv wr => ∃ k : Nat, k ≤ l.length ∧ iv = .int .i64 (k : Int) ∧ wr.ownsRow w.heap.size 5 1 bv (4 * k) (Lib.byteCells (enc4 (l.take k)).data.toList) ∧ Below w.heap.size w wr) (fun _ iv _ => l.length - (intOf iv).toNat)
  case atStart => exact ⟨0, Nat.zero_le _, rfl, World.ownsRow_nil _ _ _ _, Below.refl _ _⟩
  case round =>
    obtain ⟨k, hk, rfl, hown, hb⟩ := hrel
    have hs := hb.size
    by_cases hlt : k < l.length
    · obtain ⟨ad, u, rfl, hu, hcell⟩ := (hr.out.below hb).at_ (k := k) (by exact hlt)
      unfold natsV at hu
      rw [List.getElem?_map] at hu
      cases hx : l[k]? with
      | none => rw [hx] at hu; cases hu
      | some a =>
        rw [hx] at hu
        injection hu with hu
        subst hu
        have ha := hn a (List.mem_of_getElem? hx)
        have ht : l.take (k + 1) = l.take k ++ [a] := by rw [List.take_add_one, hx]; rfl
        have hbs := bytes_snoc (l.take k) a
        rw [← ht] at hbs
        obtain ⟨X, hX⟩ : ∃ X, X = Lib.byteCells (enc4 (l.take k)).data.toList := ⟨_, rfl⟩
        rw [← hX] at hown hbs
        have z1 : (0 : Int) ≤ (k : Int) := by omega
        have z2 : (k : Int) < (l.length : Int) := by omega
        obtain ⟨x0, e0⟩ : ∃ x : UInt8, (a : Int) % 256 = (x.toNat : Int) ∧ x = UInt8.ofNat a := ⟨UInt8.ofNat a, by have := u8_of a 1; rwa [Nat.div_one] at this, rfl⟩
        obtain ⟨x1, e1⟩ : ∃ x : UInt8, ((a : Int) / 256) % 256 = (x.toNat : Int) ∧ x = UInt8.ofNat (a / 256) := ⟨UInt8.ofNat (a / 256), u8_of a 256, rfl⟩
        obtain ⟨x2, e2⟩ : ∃ x : UInt8, ((a : Int) / 65536) % 256 = (x.toNat : Int) ∧ x = UInt8.ofNat (a / 65536) := ⟨UInt8.ofNat (a / 65536), u8_of a 65536, rfl⟩
        obtain ⟨x3, e3⟩ : ∃ x : UInt8, (a : Int) / 16777216 = (x.toNat : Int) ∧ x = UInt8.ofNat (a / 16777216) := ⟨UInt8.ofNat (a / 16777216), by rw [UInt8.toNat_ofNat']; omega, rfl⟩
        obtain ⟨q0, r0⟩ := e0
        obtain ⟨q1, r1⟩ := e1
        obtain ⟨q2, r2⟩ := e2
        obtain ⟨q3, r3⟩ := e3
        have hle : le4V a = [.int .u8 (x0.toNat : Int), .int .u8 (x1.toNat : Int), .int .u8 (x2.toNat : Int), .int .u8 (x3.toNat : Int)] := by rw [r0, r1, r2, r3]; rfl
        rw [hle] at hbs
        replace hbs := Lib.hid hbs
        replace hX := Lib.hid hX
        clear hx r0 r1 r2 r3 hle ht
        go_wp2_with (first
          | (at_builtin; refine wpList_append_own_at _ rfl (.tmp 12) (.tmp 24) _ rfl w.heap.size 5 i0 (.int .u8 0) 1 1 Tryz.underlying36 hinf hz0 hz1 hz2 rfl (by decide) _ (4 * k) X rfl (hown.alloc _) ⟨wr.heap.size, 0, none⟩ 4 4 [.int .u8 (x0.toNat : Int), .int .u8 (x1.toNat : Int), .int .u8 (x2.toNat : Int), .int .u8 (x3.toNat : Int)] rfl rfl (World.news_of_block (heap_alloc_new wr _)) (by simp [Value.oneCell']) (by unfold maxLen; omega) (by omega) (by simp; omega) ?_; intro v1 w11 hown1 hg1 hn1 ha1))
        have hb11 := (hb.alloc hs _).grown hg1 (by simp; omega) (fun k hk => (hown.lt k hk).1)
        refine ⟨⟨k + 1, by omega, rfl, ?_, hb11⟩, by simp [intOf]; omega⟩
        rw [hbs.out, show 4 * (k + 1) = 4 * k + 4 by omega]
        exact hown1
    · obtain rfl : k = l.length := by omega
      rw [List.take_length] at hown
      obtain ⟨g, cp, rfl, _, _⟩ := hown.form (by omega)
      have hll : (enc4 l).data.toList.length = 4 * l.length := by rw [Array.length_toList]; exact enc4_size l
      have hcv := run_convert_bytes_back (P := Tryz.prog) wr 36 9 5 ⟨g, 0, none⟩ cp (enc4 l).data.toList Tryz.underlying36 Tryz.underlying5 Tryz.underlying9 (fun j hj => hown.cells (g := g) rfl j _ (by rw [Lib.byteCells, List.getElem?_map, List.getElem?_eq_getElem hj]; rfl))
      rw [hll, Array.toArray_toList] at hcv
      replace hcv : (convert 36 9 (.slice (some ⟨g, 0, none⟩) (4 * l.length) cp)).run Tryz.prog wr = .ok (.string (enc4 l)) wr := hcv
      rw [← hE.out] at hcv
      clear hown hll hn
      go_wp2_with fail
      go_ret
      exact ⟨rfl, hb⟩
end Go.Proofs.YtajlfmnjibgbaaaGreatDoor.Tr

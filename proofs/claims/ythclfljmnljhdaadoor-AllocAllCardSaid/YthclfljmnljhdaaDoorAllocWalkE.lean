/- Alloc: Pick, and the document's. -/
import Derived.Test.YthclfljmnljhdaaDoorAllocWalkD
import Derived.Deep.QuietTactic
import Derived.BigQuiet
import Derived.Maps.AppendAt
namespace Go.Proofs.YthclfljmnljhdaaDoor.Alloc
open Go.RowKit Mem Sets

abbrev ints (l : List Nat) : List Value := l.map fun (n : Nat) => Value.int .i64 (n : Int)
/-- what is told of a pick -/
def pickOut (U : ByteArray) (B f m : Int) : List Nat × Nat × Nat :=
  if okAt B f = true ∧ 0 ≤ m then
    if m ≤ (ord U B.toNat f.toNat).length then ((ord U B.toNat f.toNat).take m.toNat, lastOf ((ord U B.toNat f.toNat).take m.toNat) f.toNat, 0) else ([], 0, 101)
  else ([], 0, 100)
theorem pickOut_bad {U : ByteArray} {B f m : Int} (h : ¬ (okAt B f = true ∧ 0 ≤ m)) : pickOut U B f m = ([], 0, 100) := if_neg h
theorem pickOut_full {U : ByteArray} {B f m : Nat} (h : 8 ≤ B ∧ B ≤ 4096 ∧ 1 ≤ f ∧ f ≤ B) (hm : (ord U B f).length < m) : pickOut U B f m = ([], 0, 101) := by
  rw [pickOut, if_pos ⟨okAt_iff.2 ⟨by omega, by omega, by omega, by omega⟩, by omega⟩, Int.toNat_natCast, Int.toNat_natCast, if_neg (by omega)]
theorem pickOut_ok {U : ByteArray} {B f m : Nat} (h : 8 ≤ B ∧ B ≤ 4096 ∧ 1 ≤ f ∧ f ≤ B) (hm : m ≤ (ord U B f).length) : pickOut U B f m = ((ord U B f).take m, lastOf ((ord U B f).take m) f, 0) := by
  rw [pickOut, if_pos ⟨okAt_iff.2 ⟨by omega, by omega, by omega, by omega⟩, by omega⟩, Int.toNat_natCast, Int.toNat_natCast, if_pos (by omega), Int.toNat_natCast]
theorem PoolAt.grown {w w' : World} {g B f j : Nat} {U : ByteArray} {row : Option Nat} (h : PoolAt w g U B f j) (b : w.grownBy w' row) (hr : some g ≠ row) : PoolAt w' g U B f j := by
  obtain ⟨U', h1, h2⟩ := h
  exact ⟨U', Blk.grown h1 b hr, h2⟩
def PickPost (w : World) (o : List Nat × Nat × Nat) (e : Ending) (w' : World) : Prop :=
  ∃ v, e = .returned (.tuple #[v, .int .i64 (o.2.1 : Int), .int .i64 (o.2.2 : Int)]) ∧ w'.ownsRow w.heap.size 3 1 v o.1.length (ints o.1) ∧ Below w.heap.size w w'
theorem own_drew {w : World} {base n : Nat} {e : TypeId} {v : Value} {xs : List Value} (h : w.ownsRow base e 1 v n xs) (k : Nat) : (w.drewN k).ownsRow base e 1 v n xs := h

set_option maxRecDepth 100000 in
set_option maxHeartbeats 2000000 in
theorem pick_any (U : ByteArray) (B f m : Int) (w : World) (hU : U.size ≤ 140737488355328) :
    Calls Tryd.prog 9 #[.string U, .int .i64 B, .int .i64 f, .int .i64 m] w (PickPost w (pickOut U B f m)) := by
  by_cases hok : okAt B f = true
  · obtain ⟨h1, h2, h3, h4⟩ := okAt_iff.1 hok
    obtain ⟨b, rfl⟩ := Int.eq_ofNat_of_zero_le (show 0 ≤ B by omega)
    obtain ⟨a, rfl⟩ := Int.eq_ofNat_of_zero_le (show 0 ≤ f by omega)
    have hk : 8 ≤ b ∧ b ≤ 4096 ∧ 1 ≤ a ∧ a ≤ b := by omega
    have k1 := Lib.hid (new_ok U b a w hk)
    have hlen := ord_le (U := U) hk
    by_cases hm : 0 ≤ m
    · obtain ⟨n, rfl⟩ := Int.eq_ofNat_of_zero_le hm
      by_cases hn : n ≤ (ord U b a).length
      · rw [pickOut_ok hk hn]
        have hfree := ord_length (U := U) ⟨hk.2.2.1, hk.2.2.2⟩
        rw [hfree] at hlen
        have hn' : n ≤ free (hasB U) b := by omega
        have hd0 : decide ((n : Int) < 0) = false := decide_eq_false (by omega)
        clear hm h1 h2 h3 h4 hok
        go_enter Tryd.func9, Tryd.ntmps9
        go_wp2_with fail
        refine k1.out.mono ?_
        rintro en w1 ⟨g, rfl, hg, hp, hb⟩
        have r4 := Blk.cell hp 4
        have hp0 := poolAt_new hk hU hp
        clear hp
        have hs := hb.size
        obtain ⟨F, hF⟩ : ∃ F, F = free (hasB U) b := ⟨_, rfl⟩
        rw [← hF] at r4 hn' hlen
        have hd1 : decide (F < n) = false := decide_eq_false (by omega)
        replace hF := Lib.hid hF
        replace hfree := Lib.hid hfree
        go_wp2_with fail
        clear r4
        obtain ⟨i0, hinf, hz0, hz1, hz2⟩ := info_parts infoInt
        go_loopw [13, 36] (fun v y wr => ∃ k : Nat, k ≤ n ∧ y = .int .i64 (k : Int) ∧ wr.ownsRow w.heap.size 3 1 v ((ord U b a).take k).length (ints ((ord U b a).take k)) ∧ v.ownBlock ≠ some g ∧ PoolAt wr g U b a k ∧ Below w.heap.size w wr) (fun _ y _ => n - (intOf y).toNat)
        case atStart => exact ⟨0, Nat.zero_le _, rfl, World.ownsRow_nil _ _ _ _, by simp [Value.ownBlock], hp0, hb⟩
        case round =>
          clear hp0 hb hs
          obtain ⟨k, hkn, rfl, hown, hne, hp, hb⟩ := hrel
          have hs := hb.size
          by_cases hlt : k < n
          · have hkl : k < (ord U b a).length := by rw [hfree.out, ← hF.out]; omega
            have c1 := Lib.hid (take_next U b a k g wr hp hk hkl)
            have t : Hid ((ord U b a).take (k + 1) = (ord U b a).take k ++ [(ord U b a)[k]]) := Lib.hid (List.take_succ_eq_append_getElem hkl)
            have hes : ((ord U b a).take k).length ≤ 4096 := by rw [List.length_take]; omega
            generalize (ord U b a)[k] = x at c1 t
            generalize (ord U b a).take k = es at hown t hes
            replace hown := Lib.hid hown
            replace hne := Lib.hid hne
            go_wp2_with fail
            refine c1.out.mono ?_
            rintro en w2 ⟨rfl, hp2, hg2⟩
            have hown2 := World.ownsRow.kept hown.out hg2 (Or.inr hne.out)
            have hb2 := hb.trans (Only.toBelow hg2 hg hs)
            have hs2 := hb2.size
            have hgl := hp2.lt
            clear hg2 hp
            replace hp2 := Lib.hid hp2
            go_wp2_with (first
              | (at_builtin; refine wpList_append_own_at _ rfl (.tmp 43) (.tmp 45) _ rfl w.heap.size 3 i0 (.int .i64 0) 1 8 Tryd.underlying24 hinf hz0 hz1 hz2 rfl (by decide) u13 es.length _ rfl (hown2.alloc _) ⟨w2.heap.size, 0, none⟩ 1 1 [.int .i64 (x : Int)] rfl rfl (cell_one_new _ _ _) (by simp [Value.oneCell']) (by unfold maxLen; omega) (by omega) (by simp; omega) ?_; intro v1 w11 hown1 hg1 hn1 ha1))
            have hb11 := (hb2.alloc hs2 _).grown hg1 (by simp; omega) (fun k hk => (hown2.lt k hk).1)
            have hres : w11.ownsRow w.heap.size 3 1 v1 ((ord U b a).take (k + 1)).length (ints ((ord U b a).take (k + 1))) := by
              rw [t.out, List.length_append, ints, List.map_append]
              exact hown1
            have hne11 : v1.ownBlock ≠ some g := by
              rcases ha1 with e | e
              · rw [e]; exact hne.out
              · rw [e]; intro e; injection e with e; simp at e; omega
            have hp11 : PoolAt w11 g U b a (k + 1) := (hp2.out.below ((Below.refl _ w2).alloc (Nat.le_refl _) _)).grown hg1 (fun e => hne.out e.symm)
            exact ⟨⟨k + 1, by omega, rfl, hres, hne11, hp11, hb11⟩, by simp [intOf]; omega⟩
          · obtain rfl : k = n := by omega
            obtain ⟨U', q1, _, _⟩ := hp
            have r3 := Blk.cell q1 3
            obtain ⟨z, hz⟩ : ∃ z, z = lastOf ((ord U b a).take k) a := ⟨_, rfl⟩
            rw [← hz] at r3
            replace hz := Lib.hid hz
            replace hown := Lib.hid hown
            replace hne := Lib.hid hne
            clear q1
            go_wp2_with fail
            go_quiet (fail)
            go_wp2_with fail
            go_ret3
            rw [← hz.out]
            exact ⟨_, rfl, own_drew hown.out _, below_drewN hb _⟩
      · have hn' : (ord U b a).length < n := by omega
        rw [pickOut_full hk hn']
        have hfree := ord_length (U := U) ⟨hk.2.2.1, hk.2.2.2⟩
        rw [hfree] at hn'
        clear hm h1 h2 h3 h4 hok hn
        go_enter Tryd.func9, Tryd.ntmps9
        go_wp2_with fail
        refine k1.out.mono ?_
        rintro en w1 ⟨g, rfl, hg, hp, hb⟩
        have r4 := Blk.cell hp 4
        obtain ⟨F, hF⟩ : ∃ F, F = free (hasB U) b := ⟨_, rfl⟩
        rw [← hF] at r4 hn'
        clear hp hF hfree hlen
        go_wp2_with fail
        go_ret3
        exact ⟨_, rfl, World.ownsRow_nil _ _ _ _, hb⟩
    · rw [pickOut_bad (fun h => hm h.2)]
      clear h1 h2 h3 h4 hok hlen
      have hm' : m < 0 := by omega
      clear hm
      go_enter Tryd.func9, Tryd.ntmps9
      go_wp2_with fail
      refine k1.out.mono ?_
      rintro en w1 ⟨g, rfl, hg, hp, hb⟩
      clear hp
      go_wp2_with fail
      go_ret3
      exact ⟨_, rfl, World.ownsRow_nil _ _ _ _, hb⟩
  · have hf : okAt B f = false := by simpa using hok
    rw [pickOut_bad (fun h => hok h.1)]
    have k1 := Lib.hid (new_bad U B f w hf)
    clear hok hf
    go_enter Tryd.func9, Tryd.ntmps9
    go_wp2_with fail
    refine k1.out.mono ?_
    rintro en w1 ⟨rfl, hw'⟩
    replace hw' := hw'.symm
    subst hw'
    go_wp2_with fail
    go_ret3
    exact ⟨_, rfl, World.ownsRow_nil _ _ _ _, Below.refl _ _⟩
end Go.Proofs.YthclfljmnljhdaaDoor.Alloc

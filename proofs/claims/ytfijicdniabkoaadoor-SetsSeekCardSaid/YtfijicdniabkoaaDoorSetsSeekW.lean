/- The walk of the law SetsSeek. -/
import Derived.Test.YtfijicdniabkoaaDoorSetLawsB
namespace Go.Proofs.YtfijicdniabkoaaDoor.Sets
open Go.RowKit Mem

set_option maxRecDepth 100000 in
set_option maxHeartbeats 1000000 in
theorem lawseek_any (s : ByteArray) (a e : Int) (w : World) (hs : s.size ≤ 140737488355328) (ha : a ≤ 9223372036854775807) (he : e ≤ 9223372036854775807) :
    Calls Tryd.prog 6 #[.string s, .int .i64 a, .int .i64 e] w fun e w' => e = .returned (.bool true) ∧ Below w.heap.size w w' := by
  have hx := cut_le 3000 s
  have k0 := Lib.hid (fun W => short_any s W hs)
  clear hs
  have hb := Below.refl w.heap.size w
  have hs := hb.size
  generalize cut 3000 s = x at hx k0
  obtain ⟨⟨n, ok⟩, hn⟩ : ∃ z, z = next x.data.toList a := ⟨_, rfl⟩
  obtain ⟨⟨g, is⟩, hg⟩ : ∃ z, z = gap x.data.toList a e := ⟨_, rfl⟩
  have k1 := fun W => next_any x a W ha (by omega)
  have k2 := fun W => rnext_any x a W (by omega)
  have k3 := fun W => gap_any x a e W he
  have k4 := fun W => rgap_any x a e W ha he (by omega)
  rw [← hn] at k1 k2
  rw [← hg] at k3 k4
  have e1 : toldVal (n, ok) = .tuple #[.int .i64 n, .bool ok] := rfl
  have e2 : toldVal (g, is) = .tuple #[.int .i64 g, .bool is] := rfl
  simp only [e1] at k1 k2
  simp only [e2] at k3 k4
  replace k1 := Lib.hid k1
  replace k2 := Lib.hid k2
  replace k3 := Lib.hid k3
  replace k4 := Lib.hid k4
  clear hn hg e1 e2
  go_enter Tryd.func6, Tryd.ntmps6
  go_wp2_with fail
  refine (k0.out _).mono ?_
  rintro en w' ⟨rfl, rfl⟩
  go_wp2_with fail
  refine (k1.out _).mono ?_
  rintro en w' ⟨rfl, rfl⟩
  go_wp2_with fail
  refine (k2.out _).mono ?_
  rintro en w' ⟨rfl, b'⟩
  replace hb := hb.trans (b'.mono hs)
  clear b'
  replace hs := hb.size
  go_wp2_with fail
  refine (k3.out _).mono ?_
  rintro en w' ⟨rfl, rfl⟩
  go_wp2_with fail
  refine (k4.out _).mono ?_
  rintro en w' ⟨rfl, rfl⟩
  go_wp2_with fail
  refine (fixed_any _).mono ?_
  rintro en w' ⟨rfl, b'⟩
  replace hb := hb.trans (b'.mono hs)
  clear b'
  replace hs := hb.size
  go_wp2_with fail
  go_ret
  exact ⟨rfl, hb⟩
end Go.Proofs.YtfijicdniabkoaaDoor.Sets

/- Name: may a text be one? And what the closures ask of a thing, behind which one it stands. -/
import Derived.Test.YtaihpnmojiagnaaGreatDoorTableWalkA
import Derived.Test.YtaihpnmojiagnaaGreatDoorShelf
import Derived.Shelf.Strings.SlTrimAscii
import Derived.Laws.Cover1
namespace Go.Proofs.YtaihpnmojiagnaaGreatDoor.Table
open Go.RowKit Mem Wire

def cut : ByteArray := ⟨#[97, 98, 99, 100, 101, 102, 103, 104, 105, 106, 107, 108, 109, 110, 111, 112, 113, 114, 115, 116, 117, 118, 119, 120, 121, 122, 48, 49, 50, 51, 52, 53, 54, 55, 56, 57, 46, 45, 95]⟩
theorem cut_byte : ∀ n : Fin 256, cut.data.toList.contains (UInt8.ofNat n.val) = nameByte (UInt8.ofNat n.val) := by decide +kernel
theorem cut_has (c : UInt8) : cut.data.toList.contains c = nameByte c := by
  have h := cut_byte ⟨c.toNat, c.toNat_lt⟩
  rwa [UInt8.ofNat_toNat] at h
theorem dropWhile_nil {p : UInt8 → Bool} : ∀ {l : List UInt8}, l.dropWhile p = [] ↔ l.all p = true
  | [] => by simp
  | c :: l => by
    have := dropWhile_nil (p := p) (l := l)
    cases h : p c <;> simp [List.dropWhile, h, this]
theorem trim_nil (l : List UInt8) : Lib.trimS l cut.data.toList = [] ↔ l.all nameByte = true := by
  have e : (fun c => cut.data.toList.contains c) = nameByte := funext cut_has
  unfold Lib.trimS Lib.trimLeftS Lib.trimRightS
  rw [e, dropWhile_nil]
  constructor
  · intro h
    have hr : (l.reverse.dropWhile nameByte) = [] := by
      cases hd : l.reverse.dropWhile nameByte with
      | nil => rfl
      | cons c r =>
        rw [hd, List.all_reverse] at h
        have h1 : nameByte c = true := by
          simp only [List.all_cons, Bool.and_eq_true] at h
          exact h.1
        have h2 : ¬ nameByte ((l.reverse.dropWhile nameByte).head (by rw [hd]; simp)) = true := by
          have := List.head_dropWhile_not nameByte (l := l.reverse) (by rw [hd]; simp)
          rw [this]; decide
        exact absurd (by simpa [hd] using h1) h2
    rw [dropWhile_nil, List.all_reverse] at hr
    exact hr
  · intro h
    have hr : l.reverse.dropWhile nameByte = [] := dropWhile_nil.mpr (by rw [List.all_reverse]; exact h)
    rw [hr]
    rfl

theorem bytes_eq {a : ByteArray} {l : List UInt8} : a = ⟨l.toArray⟩ ↔ a.toList = l := by
  rw [Lib.toList_data, ByteArray.ext_iff, ← Array.toList_inj]
theorem nameOk_eq (s : ByteArray) : nameOk s = decide (¬ s.toList = [] ∧ (s.size : Int) ≤ 16 ∧ ¬ s.toList = [46] ∧ ¬ s.toList = [46, 46] ∧ s.data.toList.all nameByte = true) := by
  have h1 : s = ⟨#[46]⟩ ↔ s.toList = [46] := bytes_eq
  have h2 : s = ⟨#[46, 46]⟩ ↔ s.toList = [46, 46] := bytes_eq
  have h3 : s.toList = [] ↔ s.size = 0 := by rw [Lib.toList_data, Lib.size_eq, List.length_eq_zero_iff]
  rw [Bool.eq_iff_iff]
  simp only [nameOk, Bool.and_eq_true, decide_eq_true_eq, ne_eq, h1, h2, h3]
  constructor
  · rintro ⟨⟨⟨⟨a, b⟩, c⟩, d⟩, e⟩
    exact ⟨by omega, by omega, c, d, e⟩
  · rintro ⟨a, b, c, d, e⟩
    exact ⟨⟨⟨⟨by omega, by omega⟩, c⟩, d⟩, e⟩

set_option maxRecDepth 100000 in
set_option maxHeartbeats 4000000 in
theorem name_short (s : ByteArray) (w : World) (hs : s.size ≤ 140737488355328) : Calls Tryz.prog 29 #[.string s] w fun e w' => e = .returned (.bool (nameOk s)) ∧ Below w.heap.size w w' := by
  have kt := Lib.hid (fun W => Any.strings_Trim_laid Tryz.lays160 (by kernel_rfl) s cut W (by omega) (by decide) (ascii_of_all (by decide)))
  go_enter Tryz.func29, Tryz.ntmps29
  go_wp2_with fail
  all_goals first
    | (refine (kt.out _).mono ?_; rintro e w1 ⟨rfl, b1⟩; go_wp2_with fail; go_ret; refine ⟨congrArg (fun b => Ending.returned (.bool b)) ?_, b1⟩; rw [nameOk_eq, Bool.eq_iff_iff]; simp [trim_nil, *])
    | (go_ret; refine ⟨congrArg (fun b => Ending.returned (.bool b)) ?_, Below.refl _ _⟩; rw [nameOk_eq]; refine (decide_eq_false ?_).symm; rintro ⟨a1, a2, a3, a4, _⟩; first | contradiction | omega)

set_option maxRecDepth 100000 in
set_option maxHeartbeats 4000000 in
theorem name_any (s : ByteArray) (w : World) : Calls Tryz.prog 29 #[.string s] w fun e w' => e = .returned (.bool (nameOk s)) ∧ Below w.heap.size w w' := by
  by_cases hs : s.size ≤ 140737488355328
  · exact name_short s w hs
  · have hs1 : ¬ (s.size : Int) ≤ 16 := by omega
    go_enter Tryz.func29, Tryz.ntmps29
    go_wp2_with fail
    all_goals go_ret
    all_goals
      refine ⟨congrArg (fun b => Ending.returned (.bool b)) ?_, Below.refl _ _⟩
      rw [nameOk_eq]
      refine (decide_eq_false ?_).symm
      rintro ⟨a1, a2, a3, a4, _⟩
      first | contradiction | omega

def inoV (x : Ino) : Value := .agg #[.int .i64 x.num, .bool x.dir, .int .i64 x.links, .int .i64 x.root, .int .i64 x.size]
def entV (x : Ent) : Value := .agg #[.string x.name, .int .i64 x.num]
def snpV (x : Snp) : Value := .agg #[.string x.name, .int .i64 x.id, .int .i64 x.plane, .int .i64 x.root, .int .i64 x.size]

/-- behind two boxed arguments and a callee -/
theorem boxes {w w1 : World} {A B : Array Value} {t u : TypeId} (b1 : Below ((w.alloc (.cells A t)).alloc (.cells B u)).heap.size ((w.alloc (.cells A t)).alloc (.cells B u)) w1) :
    Blk w1 w.heap.size t A ∧ Blk w1 (w.heap.size + 1) u B ∧ Below w.heap.size w w1 := by
  have e : (w.alloc (.cells A t)).heap.size = w.heap.size + 1 := by simp
  have h1 : Blk ((w.alloc (.cells A t)).alloc (.cells B u)) w.heap.size t A := (Blk.new w t A).alloc _
  have h2 : Blk ((w.alloc (.cells A t)).alloc (.cells B u)) (w.heap.size + 1) u B := by rw [← e]; exact Blk.new _ u B
  exact ⟨h1.below b1 h1.lt, h2.below b1 h2.lt, (((Below.refl _ _).alloc (Nat.le_refl _) _).alloc (by simp) _).trans (b1.mono (by simp; omega))⟩

set_option maxRecDepth 100000 in
set_option maxHeartbeats 4000000 in
theorem ino_may (x y : Ino) (f : Bool) (w : World) : Calls Tryz.prog 43 #[inoV x, inoV y, .bool f] w fun e w' => e = .returned (.bool (inoK.may x y f)) ∧ Below w.heap.size w w' := by
  have kb := Lib.hid (fun W => blob_any y.root y.size W)
  unfold inoV
  unfold blobV at kb
  go_enter Tryz.func43, Tryz.ntmps43
  go_wp2_with fail
  all_goals first
    | (refine (kb.out _).mono ?_; rintro e w1 ⟨rfl, b1⟩; go_wp2_with fail; go_ret; refine ⟨congrArg (fun b => Ending.returned (.bool b)) ?_, (((Below.refl _ _).alloc (Nat.le_refl _) _).alloc (by simp) _).trans (b1.mono (by simp; omega))⟩; rw [Bool.eq_iff_iff]; simp [inoK, *])
    | (go_ret; refine ⟨congrArg (fun b => Ending.returned (.bool b)) ?_, ((Below.refl _ _).alloc (Nat.le_refl _) _).alloc (by simp) _⟩; refine (Bool.eq_false_iff.mpr (fun h => ?_)).symm; have h := inoK_may h; omega)

set_option maxRecDepth 100000 in
set_option maxHeartbeats 4000000 in
theorem ent_may (x y : Ent) (f : Bool) (w : World) : Calls Tryz.prog 56 #[entV x, entV y, .bool f] w fun e w' => e = .returned (.bool (entK.may x y f)) ∧ Below w.heap.size w w' := by
  have kn := Lib.hid (fun W => name_any y.name W)
  cases hn : nameOk y.name with
  | _ =>
    rw [hn] at kn
    replace kn := Lib.hid kn.out
    unfold entV
    rcases (show (f = true ∨ (f = false ∧ Op.bytesLess y.name.toList x.name.toList = true)) ∨ (f = false ∧ Op.bytesLess y.name.toList x.name.toList = false ∧ y.name.toList = x.name.toList) ∨ (f = false ∧ Op.bytesLess y.name.toList x.name.toList = false ∧ ¬ y.name.toList = x.name.toList) by
        cases f <;> cases Op.bytesLess y.name.toList x.name.toList <;> by_cases h : y.name.toList = x.name.toList <;> simp [h]) with (rfl | ⟨rfl, l1⟩) | ⟨rfl, l1, l2⟩ | ⟨rfl, l1, l2⟩
    all_goals
      go_enter Tryz.func56, Tryz.ntmps56
      go_wp2_with fail
      refine (kn.out _).mono ?_
      rintro e w1 ⟨rfl, b1⟩
      obtain ⟨q0, q1, hb⟩ := boxes b1
      have c0 := q0.cell 0
      have d0 := q1.cell 0
      have d1 := q1.cell 1
      clear b1
      go_wp2_with fail
    all_goals go_ret
    all_goals refine ⟨congrArg (fun b => Ending.returned (.bool b)) ?_, hb⟩
    all_goals first
      | (refine (Bool.eq_false_iff.mpr (fun h => ?_)).symm; obtain ⟨h1, h2, h3⟩ := entK_may h; first | omega | exact absurd h1 (by rw [hn]; decide) | (rcases h2 with h2 | h2 <;> first | (exact absurd h2 (by decide)) | (unfold above at h2; simp_all)))
      | (rw [Bool.eq_iff_iff]; simp [entK, above, *])

set_option maxRecDepth 100000 in
set_option maxHeartbeats 4000000 in
theorem snp_may (x y : Snp) (f : Bool) (w : World) : Calls Tryz.prog 61 #[snpV x, snpV y, .bool f] w fun e w' => e = .returned (.bool (snpK.may x y f)) ∧ Below w.heap.size w w' := by
  have kn := Lib.hid (fun W => name_any y.name W)
  have kb := Lib.hid (fun W => blob_any y.root y.size W)
  unfold blobV at kb
  cases hn : nameOk y.name with
  | _ =>
    rw [hn] at kn
    replace kn := Lib.hid kn.out
    unfold snpV
    go_enter Tryz.func61, Tryz.ntmps61
    go_wp2_with fail
    refine (kn.out _).mono ?_
    rintro e w1 ⟨rfl, b1⟩
    obtain ⟨q0, q1, hb⟩ := boxes b1
    have c0 := q0.cell 1
    have d0 := q1.cell 0
    have d1 := q1.cell 1
    have d2 := q1.cell 2
    have d3 := q1.cell 3
    have d4 := q1.cell 4
    clear b1
    go_wp2_with fail
    all_goals first
      | (refine (kb.out _).mono ?_; rintro e w2 ⟨rfl, b2⟩; go_wp2_with fail; go_ret; refine ⟨congrArg (fun b => Ending.returned (.bool b)) ?_, hb.trans (b2.mono hb.size)⟩; rw [Bool.eq_iff_iff]; simp [snpK, *])
      | (go_ret; refine ⟨congrArg (fun b => Ending.returned (.bool b)) ?_, hb⟩; refine (Bool.eq_false_iff.mpr (fun h => ?_)).symm; obtain ⟨h1, h2, h3, h4⟩ := snpK_may h; first | omega | exact absurd h1 (by rw [hn]; decide))
end Go.Proofs.YtaihpnmojiagnaaGreatDoor.Table

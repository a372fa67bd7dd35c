/- The three kinds: inodes, names, snapshots, in plain Lean. No condition. -/
import Derived.Test.YtaihpnmojiagnaaGreatDoorTableSpec
namespace Go.Proofs.YtaihpnmojiagnaaGreatDoor.Table
open Go Wire

/-- the bytes that a name has -/
def nameByte (c : UInt8) : Bool := decide (97 ≤ c.toNat ∧ c.toNat ≤ 122) || decide (48 ≤ c.toNat ∧ c.toNat ≤ 57) || decide (c.toNat = 46) || decide (c.toNat = 45) || decide (c.toNat = 95)
def nameOk (s : ByteArray) : Bool := decide (1 ≤ s.size ∧ s.size ≤ 16) && decide (s ≠ ⟨#[46]⟩) && decide (s ≠ ⟨#[46, 46]⟩) && s.data.toList.all nameByte
def blobOk (root size : Int) : Bool := decide ((0 ≤ size ∧ size ≤ 16384) ∧ (root = 0 ↔ size = 0) ∧ 0 ≤ root ∧ root < 4096)
/-- x stands behind was -/
def above (x was : ByteArray) : Bool := !(Op.bytesLess x.toList was.toList || x.toList == was.toList)

structure Ino where
  num : Int
  dir : Bool
  links : Int
  root : Int
  size : Int
structure Ent where
  name : ByteArray
  num : Int
structure Snp where
  name : ByteArray
  id : Int
  plane : Int
  root : Int
  size : Int
deriving instance DecidableEq for Ino
deriving instance DecidableEq for Ent
deriving instance DecidableEq for Snp

def bitOf (b : Bool) : Int := if b then 1 else 0
def dg (n : Int) : List UInt8 := digits n.toNat
def tx (s : ByteArray) : List UInt8 := digits s.size ++ s.data.toList
/-- a number read, or 0 -/
def rn (m : Int) (st : Rd) : Int × Rd := ((rdNum m st).1.1, (rdNum m st).2)
def rt (m : Int) (st : Rd) : ByteArray × Rd := (⟨(rdText m st).1.1.toArray⟩, (rdText m st).2)

theorem rn_back {m n : Int} {r : List UInt8} (h0 : 0 ≤ n) (h1 : n ≤ 4611686018427387903) (h2 : n ≤ m) : rn m (dg n ++ r, 0) = (n, (r, 0)) := by
  have := rdNum_ok m (scan_digits0 n.toNat (by omega) r) (by omega) (by omega)
  rw [Int.toNat_of_nonneg h0] at this
  unfold rn dg
  rw [this]
theorem rt_back {m : Int} {s : ByteArray} {r : List UInt8} (h : s.size ≤ 16) (h2 : 16 ≤ m) : rt m (tx s ++ r, 0) = (s, (r, 0)) := by
  have hl := Lib.size_eq s
  have := rdText_ok (l := tx s ++ r) (r := r) (b := s.data.toList) (most := m) (by unfold tx; rw [← hl, List.append_assoc]) (by omega) (by omega)
  unfold rt
  rw [this]

def inoK : Kind Ino where
  may was x _ := decide (was.num < x.num ∧ x.num ≤ 65535) && decide (1 ≤ x.links ∧ x.links ≤ 65535) && blobOk x.root x.size
  zero := ⟨0, false, 0, 0, 0⟩
  put x := dg x.num ++ (dg (bitOf x.dir) ++ (dg x.links ++ (dg x.root ++ dg x.size)))
  read st :=
    let a := rn 65535 st
    let b := rn 1 a.2
    let c := rn 65535 b.2
    let d := rn 4095 c.2
    let e := rn 16384 d.2
    (⟨a.1, decide (b.1 = 1), c.1, d.1, e.1⟩, e.2)
  rread st :=
    let a := rn 4611686018427387904 st
    let b := rn 1 a.2
    let c := rn 4611686018427387904 b.2
    let d := rn 4611686018427387904 c.2
    let e := rn 4611686018427387904 d.2
    (⟨a.1, decide (b.1 = 1), c.1, d.1, e.1⟩, e.2)
  inv x := 0 ≤ x.num
def entK : Kind Ent where
  may was x first := nameOk x.name && (first || above x.name was.name) && decide (1 ≤ x.num ∧ x.num ≤ 65535)
  zero := ⟨⟨#[]⟩, 0⟩
  put x := tx x.name ++ dg x.num
  read st :=
    let a := rt 16 st
    let b := rn 65535 a.2
    (⟨a.1, b.1⟩, b.2)
  rread st :=
    let a := rt 16 st
    let b := rn 4611686018427387904 a.2
    (⟨a.1, b.1⟩, b.2)
  inv _ := True
def snpK : Kind Snp where
  may was x _ := nameOk x.name && decide (was.id < x.id ∧ x.id ≤ 1099511627776) && decide (1 ≤ x.plane ∧ x.plane ≤ 7) && blobOk x.root x.size
  zero := ⟨⟨#[]⟩, 0, 0, 0, 0⟩
  put x := tx x.name ++ (dg x.id ++ (dg x.plane ++ (dg x.root ++ dg x.size)))
  read st :=
    let a := rt 16 st
    let b := rn 1099511627776 a.2
    let c := rn 7 b.2
    let d := rn 4095 c.2
    let e := rn 16384 d.2
    (⟨a.1, b.1, c.1, d.1, e.1⟩, e.2)
  rread st :=
    let a := rt 16 st
    let b := rn 4611686018427387904 a.2
    let c := rn 4611686018427387904 b.2
    let d := rn 4611686018427387904 c.2
    let e := rn 4611686018427387904 d.2
    (⟨a.1, b.1, c.1, d.1, e.1⟩, e.2)
  inv x := 0 ≤ x.id

theorem blobOk_le {a b : Int} (h : blobOk a b = true) : (0 ≤ a ∧ a < 4096) ∧ 0 ≤ b ∧ b ≤ 16384 := by
  simp only [blobOk, decide_eq_true_eq] at h
  omega
theorem nameOk_le {s : ByteArray} (h : nameOk s = true) : 1 ≤ s.size ∧ s.size ≤ 16 := by
  simp only [nameOk, Bool.and_eq_true, decide_eq_true_eq] at h
  exact h.1.1.1
theorem bit_back (b : Bool) : decide (bitOf b = 1) = b := by cases b <;> rfl
theorem bit_le (b : Bool) : 0 ≤ bitOf b ∧ bitOf b ≤ 1 := by cases b <;> decide
theorem dg_pos (n : Int) : 0 < (dg n).length := digits_pos _

theorem inoK_may {was x : Ino} {f : Bool} (h : inoK.may was x f = true) : (was.num < x.num ∧ x.num ≤ 65535) ∧ (1 ≤ x.links ∧ x.links ≤ 65535) ∧ blobOk x.root x.size = true := by
  simp only [inoK, Bool.and_eq_true, decide_eq_true_eq] at h
  exact ⟨h.1.1, h.1.2, h.2⟩
theorem entK_may {was x : Ent} {f : Bool} (h : entK.may was x f = true) : nameOk x.name = true ∧ (f = true ∨ above x.name was.name = true) ∧ (1 ≤ x.num ∧ x.num ≤ 65535) := by
  simp only [entK, Bool.and_eq_true, Bool.or_eq_true, decide_eq_true_eq] at h
  exact ⟨h.1.1, h.1.2, h.2⟩
theorem snpK_may {was x : Snp} {f : Bool} (h : snpK.may was x f = true) : nameOk x.name = true ∧ (was.id < x.id ∧ x.id ≤ 1099511627776) ∧ (1 ≤ x.plane ∧ x.plane ≤ 7) ∧ blobOk x.root x.size = true := by
  simp only [snpK, Bool.and_eq_true, decide_eq_true_eq] at h
  exact ⟨h.1.1.1, h.1.1.2, h.1.2, h.2⟩
theorem good_ino : Good inoK where
  zero := Int.le_refl 0
  step was x f hi h := by
    have := (inoK_may h).1
    simp only [inoK] at hi ⊢
    omega
  back was x f r hi h := by
    obtain ⟨h1, h2, h3⟩ := inoK_may h
    have h4 := blobOk_le h3
    have h5 := bit_le x.dir
    simp only [inoK] at hi ⊢
    simp only [List.append_assoc]
    rw [rn_back (by omega) (by omega) (by omega)]
    simp only
    rw [rn_back (by omega) (by omega) (by omega)]
    simp only
    rw [rn_back (by omega) (by omega) (by omega)]
    simp only
    rw [rn_back (by omega) (by omega) (by omega)]
    simp only
    rw [rn_back (by omega) (by omega) (by omega)]
    simp only
    rw [bit_back]
  rback was x f r hi h := by
    obtain ⟨h1, h2, h3⟩ := inoK_may h
    have h4 := blobOk_le h3
    have h5 := bit_le x.dir
    simp only [inoK] at hi ⊢
    simp only [List.append_assoc]
    rw [rn_back (by omega) (by omega) (by omega)]
    simp only
    rw [rn_back (by omega) (by omega) (by omega)]
    simp only
    rw [rn_back (by omega) (by omega) (by omega)]
    simp only
    rw [rn_back (by omega) (by omega) (by omega)]
    simp only
    rw [rn_back (by omega) (by omega) (by omega)]
    simp only
    rw [bit_back]
  pos x := by
    have := dg_pos x.num
    simp only [inoK, List.length_append]
    omega
theorem good_ent : Good entK where
  zero := trivial
  step _ _ _ _ _ := trivial
  back was x f r _ h := by
    obtain ⟨h1, _, h3⟩ := entK_may h
    have h4 := nameOk_le h1
    simp only [entK, List.append_assoc]
    rw [rt_back (by omega) (by omega)]
    simp only
    rw [rn_back (by omega) (by omega) (by omega)]
  rback was x f r _ h := by
    obtain ⟨h1, _, h3⟩ := entK_may h
    have h4 := nameOk_le h1
    simp only [entK, List.append_assoc]
    rw [rt_back (by omega) (by omega)]
    simp only
    rw [rn_back (by omega) (by omega) (by omega)]
  pos x := by
    have := dg_pos x.num
    simp only [entK, List.length_append]
    omega
theorem good_snp : Good snpK where
  zero := Int.le_refl 0
  step was x f hi h := by
    have := (snpK_may h).2.1
    simp only [snpK] at hi ⊢
    omega
  back was x f r hi h := by
    obtain ⟨h1, h2, h3, h6⟩ := snpK_may h
    have h4 := blobOk_le h6
    have h5 := nameOk_le h1
    simp only [snpK] at hi ⊢
    simp only [List.append_assoc]
    rw [rt_back (by omega) (by omega)]
    simp only
    rw [rn_back (by omega) (by omega) (by omega)]
    simp only
    rw [rn_back (by omega) (by omega) (by omega)]
    simp only
    rw [rn_back (by omega) (by omega) (by omega)]
    simp only
    rw [rn_back (by omega) (by omega) (by omega)]
  rback was x f r hi h := by
    obtain ⟨h1, h2, h3, h6⟩ := snpK_may h
    have h4 := blobOk_le h6
    have h5 := nameOk_le h1
    simp only [snpK] at hi ⊢
    simp only [List.append_assoc]
    rw [rt_back (by omega) (by omega)]
    simp only
    rw [rn_back (by omega) (by omega) (by omega)]
    simp only
    rw [rn_back (by omega) (by omega) (by omega)]
    simp only
    rw [rn_back (by omega) (by omega) (by omega)]
    simp only
    rw [rn_back (by omega) (by omega) (by omega)]
  pos x := by
    have := dg_pos x.id
    simp only [snpK, List.length_append]
    omega
end Go.Proofs.YtaihpnmojiagnaaGreatDoor.Table

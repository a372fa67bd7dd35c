/- The bytes of lists of inodes, names and snapshots, and what is read of bytes, in plain Lean. No condition. -/
import Derived.Test.YtaihpnmojiagnaaGreatDoorWireSpecB
namespace Go.Proofs.YtaihpnmojiagnaaGreatDoor.Table
open Go Wire

/-- a kind of things: which may stand behind which, its bytes, what is read of bytes (by the program, by the document) -/
structure Kind (α : Type) where
  may : α → α → Bool → Bool
  zero : α
  put : α → List UInt8
  read : Rd → α × Rd
  rread : Rd → α × Rd
  inv : α → Prop

variable {α : Type}
/-- may the list be, behind 'was'? -/
def okAll (K : Kind α) : α → Bool → List α → Bool
  | _, _, [] => true
  | was, first, x :: l => K.may was x first && okAll K x false l
def flat (K : Kind α) (l : List α) : List UInt8 := l.flatMap K.put
def bytes (K : Kind α) (l : List α) : List UInt8 := digits l.length ++ flat K l
def ok (K : Kind α) (l : List α) : Bool := decide (l.length ≤ 4096) && okAll K K.zero true l
def lays (K : Kind α) (l : List α) : Option (List UInt8) := if ok K l = true then some (bytes K l) else none

/-- k things read, one behind the other -/
def rds (f : Rd → α × Rd) : Nat → Rd → List α × Rd
  | 0, st => ([], st)
  | k + 1, st => ((rds f k st).1 ++ [(f (rds f k st).2).1], (f (rds f k st).2).2)
/-- the same, until an error -/
def rdsR (f : Rd → α × Rd) : Nat → Rd → List α × Rd
  | 0, st => ([], st)
  | k + 1, st => if (rdsR f k st).2.2 = 0 then ((rdsR f k st).1 ++ [(f (rdsR f k st).2).1], (f (rdsR f k st).2).2) else rdsR f k st

def parseS (K : Kind α) (s : List UInt8) : Option (List α) :=
  if (rdNum 4096 (s, 0)).1.2 = 0 then
    (let p := rds K.read (min (rdNum 4096 (s, 0)).1.1.toNat s.length) (rdNum 4096 (s, 0)).2
     if rdEnd p.2 = 0 then (if lays K p.1 = some s then some p.1 else none) else none)
  else none
def rparseS (K : Kind α) (s : List UInt8) : Option (List α) :=
  let p := rdsR K.rread (rdNum 4096 (s, 0)).1.1.toNat (rdNum 4096 (s, 0)).2
  if rdEnd p.2 = 0 ∧ lays K p.1 = some s then some p.1 else none

/-- what is laid is read -/
structure Good (K : Kind α) : Prop where
  zero : K.inv K.zero
  step : ∀ was x first, K.inv was → K.may was x first = true → K.inv x
  back : ∀ was x first r, K.inv was → K.may was x first = true → K.read (K.put x ++ r, 0) = (x, (r, 0))
  rback : ∀ was x first r, K.inv was → K.may was x first = true → K.rread (K.put x ++ r, 0) = (x, (r, 0))
  pos : ∀ x, 0 < (K.put x).length

theorem rds_succ (f : Rd → α × Rd) : ∀ (k : Nat) (st : Rd), rds f (k + 1) st = ((f st).1 :: (rds f k (f st).2).1, (rds f k (f st).2).2)
  | 0, st => rfl
  | k + 1, st => by
    have h := rds_succ f k st
    rw [rds, h]
    rfl
theorem rdsR_succ (f : Rd → α × Rd) : ∀ (k : Nat) (st : Rd), st.2 = 0 → rdsR f (k + 1) st = ((f st).1 :: (rdsR f k (f st).2).1, (rdsR f k (f st).2).2)
  | 0, st, h0 => by
    have : rdsR f 1 st = if st.2 = 0 then ([] ++ [(f st).1], (f st).2) else ([], st) := rfl
    rw [this, if_pos h0]
    rfl
  | k + 1, st, h0 => by
    have h := rdsR_succ f k st h0
    rw [rdsR, h]
    simp only [rdsR]
    split <;> rfl

theorem rds_back {K : Kind α} (hK : Good K) : ∀ (l : List α) (was : α) (first : Bool) (r : List UInt8), K.inv was → okAll K was first l = true → rds K.read l.length (flat K l ++ r, 0) = (l, (r, 0))
  | [], _, _, r, _, _ => rfl
  | x :: l, was, first, r, hi, h => by
    simp only [okAll, Bool.and_eq_true] at h
    have e : flat K (x :: l) ++ r = K.put x ++ (flat K l ++ r) := by simp [flat]
    rw [List.length_cons, rds_succ, e, hK.back was x first _ hi h.1]
    simp only
    rw [rds_back hK l x false r (hK.step was x first hi h.1) h.2]
theorem rdsR_back {K : Kind α} (hK : Good K) : ∀ (l : List α) (was : α) (first : Bool) (r : List UInt8), K.inv was → okAll K was first l = true → rdsR K.rread l.length (flat K l ++ r, 0) = (l, (r, 0))
  | [], _, _, r, _, _ => rfl
  | x :: l, was, first, r, hi, h => by
    simp only [okAll, Bool.and_eq_true] at h
    have e : flat K (x :: l) ++ r = K.put x ++ (flat K l ++ r) := by simp [flat]
    rw [List.length_cons, rdsR_succ _ _ _ rfl, e, hK.rback was x first _ hi h.1]
    simp only
    rw [rdsR_back hK l x false r (hK.step was x first hi h.1) h.2]
theorem flat_length {K : Kind α} (hK : Good K) : ∀ l : List α, l.length ≤ (flat K l).length
  | [] => Nat.zero_le _
  | x :: l => by
    have := flat_length hK l
    have := hK.pos x
    have e : flat K (x :: l) = K.put x ++ flat K l := by simp [flat]
    rw [e, List.length_append, List.length_cons]
    omega
theorem flat_snoc (K : Kind α) (l : List α) (x : α) : flat K (l ++ [x]) = flat K l ++ K.put x := by simp [flat]

theorem lays_some {K : Kind α} {l : List α} {s : List UInt8} (h : lays K l = some s) : ok K l = true ∧ bytes K l = s := by
  unfold lays at h
  split at h
  · next h1 => exact ⟨h1, by injection h⟩
  · cases h
theorem ok_iff {K : Kind α} {l : List α} : ok K l = true ↔ l.length ≤ 4096 ∧ okAll K K.zero true l = true := by simp [ok]
theorem lays_of {K : Kind α} {l : List α} (h : ok K l = true) : lays K l = some (bytes K l) := by unfold lays; rw [if_pos h]

theorem num_bytes {K : Kind α} {l : List α} {r : List UInt8} (h : l.length ≤ 4096) : rdNum 4096 (bytes K l ++ r, 0) = (((l.length : Int), 0), (flat K l ++ r, 0)) := by
  have hs : scan 0 0 (bytes K l ++ r) = (0, l.length, flat K l ++ r) := by rw [bytes, List.append_assoc]; exact scan_digits0 _ (by omega) _
  exact rdNum_ok 4096 hs (by omega) (by omega)
theorem bytes_length {K : Kind α} (hK : Good K) (l : List α) : l.length ≤ (bytes K l).length := by
  have := flat_length hK l
  rw [bytes, List.length_append]
  omega

theorem parse_of {K : Kind α} (hK : Good K) {l : List α} {s : List UInt8} (h : lays K l = some s) : parseS K s = some l := by
  obtain ⟨h1, h2⟩ := lays_some h
  obtain ⟨h3, h4⟩ := ok_iff.mp h1
  have hn := num_bytes (K := K) (l := l) (r := []) h3
  rw [List.append_nil, List.append_nil, h2] at hn
  have hl := bytes_length hK l
  rw [h2] at hl
  have hb := rds_back hK l _ _ [] hK.zero h4
  rw [List.append_nil] at hb
  unfold parseS
  rw [hn]
  simp only [Int.toNat_natCast]
  rw [if_pos trivial, Nat.min_eq_left hl, hb]
  simp only
  rw [if_pos (by simp [rdEnd]), if_pos h]
theorem rparse_of {K : Kind α} (hK : Good K) {l : List α} {s : List UInt8} (h : lays K l = some s) : rparseS K s = some l := by
  obtain ⟨h1, h2⟩ := lays_some h
  obtain ⟨h3, h4⟩ := ok_iff.mp h1
  have hn := num_bytes (K := K) (l := l) (r := []) h3
  rw [List.append_nil, List.append_nil, h2] at hn
  have hb := rdsR_back hK l _ _ [] hK.zero h4
  rw [List.append_nil] at hb
  unfold rparseS
  rw [hn]
  simp only [Int.toNat_natCast]
  rw [hb, if_pos ⟨by simp [rdEnd], h⟩]
theorem parse_inv {K : Kind α} {l : List α} {s : List UInt8} (h : parseS K s = some l) : lays K l = some s := by
  unfold parseS at h
  split at h
  · simp only at h
    split at h
    · split at h
      · next h1 => injection h with h; rw [h] at h1; exact h1
      · cases h
    · cases h
  · cases h
theorem rparse_inv {K : Kind α} {l : List α} {s : List UInt8} (h : rparseS K s = some l) : lays K l = some s := by
  unfold rparseS at h
  simp only at h
  split at h
  · next h1 => injection h with h; rw [h] at h1; exact h1.2
  · cases h
/-- the program's answer is the document's -/
theorem parse_eq {K : Kind α} (hK : Good K) (s : List UInt8) : rparseS K s = parseS K s := by
  cases h : parseS K s with
  | some l => exact rparse_of hK (parse_inv h)
  | none =>
    cases h' : rparseS K s with
    | none => rfl
    | some l => rw [parse_of hK (rparse_inv h')] at h; cases h
/-- no list's bytes begin another's -/
theorem lays_ext {K : Kind α} (hK : Good K) {l m : List α} {s t : List UInt8} (h : lays K l = some s) (h' : lays K m = some (s ++ t)) : t = [] := by
  obtain ⟨h1, h2⟩ := lays_some h
  obtain ⟨h3, h4⟩ := ok_iff.mp h1
  obtain ⟨g1, g2⟩ := lays_some h'
  obtain ⟨g3, g4⟩ := ok_iff.mp g1
  have a := num_bytes (K := K) (l := l) (r := t) h3
  have b := num_bytes (K := K) (l := m) (r := []) g3
  rw [h2] at a
  rw [List.append_nil, g2, a] at b
  simp only [Prod.mk.injEq, and_true, List.append_nil] at b
  obtain ⟨b1, b2⟩ := b
  have c := rds_back hK l _ _ t hK.zero h4
  have d := rds_back hK m _ _ [] hK.zero g4
  have e : l.length = m.length := by omega
  rw [List.append_nil, ← b2, ← e, c] at d
  simp only [Prod.mk.injEq, and_true] at d
  exact d.2
end Go.Proofs.YtaihpnmojiagnaaGreatDoor.Table

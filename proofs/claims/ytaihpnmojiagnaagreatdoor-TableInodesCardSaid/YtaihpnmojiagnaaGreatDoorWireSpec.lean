/- The bytes of numbers and what is read of bytes, in plain Lean. No condition. -/
import Derived.Lib.Strings
namespace Go.Proofs.YtaihpnmojiagnaaGreatDoor.Wire

/-- a number's bytes, with fuel -/
def digs : Nat → Nat → List UInt8
  | 0, n => [UInt8.ofNat n]
  | f + 1, n => if n < 128 then [UInt8.ofNat n] else UInt8.ofNat (128 + n % 128) :: digs f (n / 128)
def digits (n : Nat) : List UInt8 := digs n n

theorem digs_fuel : ∀ (f g m : Nat), m ≤ f → m ≤ g → digs f m = digs g m
  | 0, 0, _, _, _ => rfl
  | 0, g + 1, m, h, _ => by
    have : m = 0 := by omega
    subst this
    simp [digs]
  | f + 1, 0, m, _, h => by
    have : m = 0 := by omega
    subst this
    simp [digs]
  | f + 1, g + 1, m, h1, h2 => by
    simp only [digs]
    split
    · rfl
    · rw [digs_fuel f g (m / 128) (by omega) (by omega)]

theorem digits_small (n : Nat) (h : n < 128) : digits n = [UInt8.ofNat n] := by
  unfold digits
  cases n with
  | zero => rfl
  | succ n => simp only [digs]; rw [if_pos h]
theorem digits_big (n : Nat) (h : 128 ≤ n) : digits n = UInt8.ofNat (128 + n % 128) :: digits (n / 128) := by
  unfold digits
  obtain ⟨m, rfl⟩ : ∃ m, n = m + 1 := ⟨n - 1, by omega⟩
  simp only [digs]
  rw [if_neg (by omega), digs_fuel m ((m + 1) / 128) _ (by omega) (Nat.le_refl _)]

theorem digits_length_le (n : Nat) : (digits n).length ≤ n + 1 := by
  induction n using Nat.strongRecOn with
  | _ n ih =>
    by_cases h : n < 128
    · rw [digits_small n h]; simp
    · rw [digits_big n (by omega)]
      have := ih (n / 128) (by omega)
      simp only [List.length_cons]
      omega
theorem digits_pos (n : Nat) : 0 < (digits n).length := by
  by_cases h : n < 128
  · rw [digits_small n h]; simp
  · rw [digits_big n (by omega)]; simp

/-- a number below 128^(k+1) takes at most k+1 bytes -/
theorem digits_length_pow : ∀ (k n : Nat), n < 128 ^ (k + 1) → (digits n).length ≤ k + 1
  | 0, n, h => by rw [digits_small n (by simpa using h)]; simp
  | k + 1, n, h => by
    by_cases h' : n < 128
    · rw [digits_small n h']; simp
    · rw [digits_big n (by omega)]
      have : n / 128 < 128 ^ (k + 1) := by
        rw [Nat.div_lt_iff_lt_mul (by omega), ← Nat.pow_succ]; exact h
      have := digits_length_pow k (n / 128) this
      simp only [List.length_cons]
      omega
theorem digits_length9 (n : Nat) (h : n ≤ 9223372036854775807) : (digits n).length ≤ 9 :=
  digits_length_pow 8 n (by omega)

/-- may a number be? -/
def okNum (x : Int) : Bool := decide (0 ≤ x) && decide (x ≤ 4611686018427387903)
/-- the bytes of numbers, one behind the other -/
def enc (l : List Int) : List UInt8 := l.flatMap fun x => digits x.toNat
/-- the bytes of a row of numbers -/
def row (l : List Int) : List UInt8 := digits l.length ++ enc l

theorem okNum_le {x : Int} (h : okNum x = true) : 0 ≤ x ∧ x ≤ 4611686018427387903 := by simpa [okNum] using h
theorem okNum_not {x : Int} (h : ¬ okNum x = true) : x < 0 ∨ 4611686018427387903 < x := by
  simp only [okNum, Bool.and_eq_true, decide_eq_true_eq] at h
  omega
theorem enc_snoc (l : List Int) (x : Int) : enc (l ++ [x]) = enc l ++ digits x.toNat := by simp [enc]
theorem enc_length : ∀ (l : List Int), (∀ x ∈ l, okNum x = true) → (enc l).length ≤ 9 * l.length
  | [], _ => by simp [enc]
  | x :: l, h => by
    have h1 := okNum_le (h x (by simp))
    have h2 := digits_length9 x.toNat (by omega)
    have h3 := enc_length l (fun y hy => h y (by simp [hy]))
    simp only [enc, List.flatMap_cons, List.length_append, List.length_cons] at h3 ⊢
    omega

/-- what is found of a number behind i bytes of it that make acc: why none (0: none), the number, what is left -/
def scan (i acc : Nat) : List UInt8 → Int × Nat × List UInt8
  | [] => (32, 0, [])
  | c :: t => if i = 9 ∨ (c.toNat = 0 ∧ 0 < i) then (30, 0, []) else if c.toNat < 128 then (0, acc + c.toNat * 128 ^ i, t) else scan (i + 1) (acc + c.toNat % 128 * 128 ^ i) t

/-- a reader: what is left, and why it stopped (0: it has not) -/
abbrev Rd := List UInt8 × Int

def rdNum (most : Int) (st : Rd) : (Int × Int) × Rd :=
  if st.2 ≠ 0 then ((0, st.2), st)
  else if (scan 0 0 st.1).1 ≠ 0 then ((0, (scan 0 0 st.1).1), (st.1, (scan 0 0 st.1).1))
  else if 4611686018427387903 < ((scan 0 0 st.1).2.1 : Int) ∨ most < ((scan 0 0 st.1).2.1 : Int) then ((0, 31), (st.1, 31))
  else (((scan 0 0 st.1).2.1, 0), ((scan 0 0 st.1).2.2, 0))

def rdText (most : Int) (st : Rd) : (List UInt8 × Int) × Rd :=
  let r := rdNum (min most 65536) st
  if r.1.2 ≠ 0 then (([], r.1.2), r.2)
  else if (r.2.1.length : Int) < r.1.1 then (([], 32), (r.2.1, 32))
  else ((r.2.1.take r.1.1.toNat, 0), (r.2.1.drop r.1.1.toNat, 0))

def rdRow (most : Int) : Nat → List Int → Rd → (List Int × Int) × Rd
  | 0, acc, st => ((acc, 0), st)
  | k + 1, acc, st => if (rdNum most st).1.2 ≠ 0 then (([], (rdNum most st).1.2), (rdNum most st).2) else rdRow most k (acc ++ [(rdNum most st).1.1]) (rdNum most st).2

def rdNums (many most : Int) (st : Rd) : (List Int × Int) × Rd :=
  let r := rdNum (min many 65536) st
  if r.1.2 ≠ 0 then (([], r.1.2), r.2) else rdRow most r.1.1.toNat [] r.2

def rdEnd (st : Rd) : Int := if st.2 ≠ 0 then st.2 else if st.1 = [] then 0 else 32

theorem scan_len : ∀ (l : List UInt8) (i acc : Nat), (scan i acc l).2.2.length ≤ l.length
  | [], i, acc => by simp [scan]
  | c :: t, i, acc => by
    simp only [scan]
    split
    · simp
    · split
      · simp
      · have := scan_len t (i + 1) (acc + c.toNat % 128 * 128 ^ i)
        simp only [List.length_cons]
        omega

theorem scan_err : ∀ (l : List UInt8) (i acc : Nat), (scan i acc l).1 = 0 ∨ (scan i acc l).1 = 30 ∨ (scan i acc l).1 = 32
  | [], i, acc => by simp [scan]
  | c :: t, i, acc => by
    simp only [scan]
    split
    · simp
    · split
      · simp
      · exact scan_err t _ _

theorem rdNum_dead (most : Int) {st : Rd} (h : st.2 ≠ 0) : rdNum most st = ((0, st.2), st) := by unfold rdNum; rw [if_pos h]
theorem rdNum_bad (most : Int) {l : List UInt8} {e : Int} (h : (scan 0 0 l).1 = e) (he : e ≠ 0) : rdNum most (l, 0) = ((0, e), (l, e)) := by
  unfold rdNum
  rw [if_neg (by simp), if_pos (by rw [h]; exact he), h]
theorem rdNum_high (most : Int) {l r : List UInt8} {n : Nat} (h : scan 0 0 l = (0, n, r)) (hh : 4611686018427387903 < (n : Int) ∨ most < (n : Int)) : rdNum most (l, 0) = ((0, 31), (l, 31)) := by
  unfold rdNum
  rw [if_neg (by simp), if_neg (by rw [h]; simp), if_pos (by rw [h]; exact hh)]
theorem rdNum_ok (most : Int) {l r : List UInt8} {n : Nat} (h : scan 0 0 l = (0, n, r)) (h1 : (n : Int) ≤ 4611686018427387903) (h2 : (n : Int) ≤ most) : rdNum most (l, 0) = (((n : Int), 0), (r, 0)) := by
  unfold rdNum
  rw [if_neg (by simp), if_neg (by rw [h]; simp), if_neg (by rw [h]; simp only; omega), h]

/-- the error that is told is the one that is kept; of none, the number is within its limit -/
theorem rdNum_latch (most : Int) (st : Rd) : (rdNum most st).2.2 = (rdNum most st).1.2 ∧ ((rdNum most st).1.2 = 0 → 0 ≤ (rdNum most st).1.1 ∧ (rdNum most st).1.1 ≤ most ∧ (rdNum most st).1.1 ≤ 4611686018427387903) ∧ ((rdNum most st).1.2 ≠ 0 → (rdNum most st).1.1 = 0) := by
  unfold rdNum
  split
  · next h => exact ⟨rfl, fun h' => absurd h' h, fun _ => rfl⟩
  · split
    · next h => exact ⟨rfl, fun h' => absurd h' h, fun _ => rfl⟩
    · split
      · exact ⟨rfl, fun h' => by simp at h', fun _ => rfl⟩
      · next h => exact ⟨rfl, fun _ => ⟨by simp only; omega, by simp only; omega, by simp only; omega⟩, fun h' => by simp at h'⟩

/-- what is laid is found -/
theorem scan_digits (k : Nat) : ∀ (m i acc : Nat) (r : List UInt8), i + k = 8 → m < 128 ^ (k + 1) → (m = 0 → i = 0) → scan i acc (digits m ++ r) = (0, acc + m * 128 ^ i, r) := by
  induction k with
  | zero =>
    intro m i acc r hi hm h0
    have hm' : m < 128 := by simpa using hm
    rw [digits_small m hm']
    have hc : (UInt8.ofNat m).toNat = m := by rw [UInt8.toNat_ofNat']; exact Nat.mod_eq_of_lt (by omega)
    simp only [List.cons_append, List.nil_append, scan, hc]
    rw [if_neg (by omega), if_pos hm']
  | succ k ih =>
    intro m i acc r hi hm h0
    by_cases h : m < 128
    · rw [digits_small m h]
      have hc : (UInt8.ofNat m).toNat = m := by rw [UInt8.toNat_ofNat']; exact Nat.mod_eq_of_lt (by omega)
      simp only [List.cons_append, List.nil_append, scan, hc]
      rw [if_neg (by omega), if_pos h]
    · rw [digits_big m (by omega)]
      have hc : (UInt8.ofNat (128 + m % 128)).toNat = 128 + m % 128 := by rw [UInt8.toNat_ofNat']; exact Nat.mod_eq_of_lt (by omega)
      simp only [List.cons_append, scan, hc]
      rw [if_neg (by omega), if_neg (by omega)]
      have hlt : m / 128 < 128 ^ (k + 1) := by rw [Nat.div_lt_iff_lt_mul (by omega), ← Nat.pow_succ]; exact hm
      rw [ih (m / 128) (i + 1) _ r (by omega) hlt (by omega)]
      congr 2
      rw [show (128 + m % 128) % 128 = m % 128 by omega, Nat.pow_succ, Nat.add_assoc]
      congr 1
      have e : m = m % 128 + m / 128 * 128 := by omega
      calc m % 128 * 128 ^ i + m / 128 * (128 ^ i * 128) = (m % 128 + m / 128 * 128) * 128 ^ i := by rw [Nat.add_mul, Nat.mul_assoc (m / 128) 128, Nat.mul_comm 128 (128 ^ i)]
        _ = m * 128 ^ i := by rw [← e]

theorem scan_digits0 (n : Nat) (h : n ≤ 9223372036854775807) (r : List UInt8) : scan 0 0 (digits n ++ r) = (0, n, r) := by
  have := scan_digits 8 n 0 0 r rfl (by omega) (by simp)
  simpa using this

/-- one round of the look -/
theorem scan_step (i acc : Nat) (c : UInt8) (t : List UInt8) (h1 : i < 9) (h3 : 128 ≤ c.toNat) : scan i acc (c :: t) = scan (i + 1) (acc + c.toNat % 128 * 128 ^ i) t := by
  simp only [scan]
  rw [if_neg (by omega), if_neg (by omega)]
theorem scan_last (i acc : Nat) (c : UInt8) (t : List UInt8) (h1 : i < 9) (h2 : ¬ (c.toNat = 0 ∧ 0 < i)) (h3 : c.toNat < 128) : scan i acc (c :: t) = (0, acc + c.toNat * 128 ^ i, t) := by
  simp only [scan]
  rw [if_neg (by omega), if_pos h3]
theorem scan_form (i acc : Nat) (c : UInt8) (t : List UInt8) (h : i = 9 ∨ (c.toNat = 0 ∧ 0 < i)) : scan i acc (c :: t) = (30, 0, []) := by
  simp only [scan]
  rw [if_pos h]
end Go.Proofs.YtaihpnmojiagnaaGreatDoor.Wire

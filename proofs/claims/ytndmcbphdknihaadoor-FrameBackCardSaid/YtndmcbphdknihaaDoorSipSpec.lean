/- SipHash as plain functions of numbers below 2^64. -/
import Derived.Laws.Bits64
import Derived.Laws.BitsAllLaws
namespace Go.Proofs.YtndmcbphdknihaaDoor.Sip
open Go

def two64 : Nat := 18446744073709551616
def uadd (a b : Nat) : Nat := (a + b) % 18446744073709551616
def uxor (a b : Nat) : Nat := (a ^^^ b) % 18446744073709551616
def rotl (a n : Nat) : Nat := ((a * 2 ^ n) % 18446744073709551616 ||| a / 2 ^ (64 - n)) % 18446744073709551616
structure V where
  a : Nat
  b : Nat
  c : Nat
  d : Nat
def round (v : V) : V :=
  let a1 := uadd v.a v.b
  let c1 := uadd v.c v.d
  let b1 := uxor (rotl v.b 13) a1
  let d1 := uxor (rotl v.d 16) c1
  let a2 := rotl a1 32
  let c2 := uadd c1 b1
  let a3 := uadd a2 d1
  let b2 := uxor (rotl b1 17) c2
  let d2 := uxor (rotl d1 21) a3
  let c3 := rotl c2 32
  ⟨a3, b2, c3, d2⟩
def take (v : V) (m : Nat) : V :=
  let r := round (round ⟨v.a, v.b, v.c, uxor v.d m⟩)
  ⟨uxor r.a m, r.b, r.c, r.d⟩
theorem uadd_lt (a b : Nat) : uadd a b < 18446744073709551616 := Nat.mod_lt _ (by decide)
theorem uxor_lt (a b : Nat) : uxor a b < 18446744073709551616 := Nat.mod_lt _ (by decide)
theorem rotl_lt (a b : Nat) : rotl a b < 18446744073709551616 := Nat.mod_lt _ (by decide)
theorem uadd_eq (a b : Nat) : IntKind.u64.wrap ((a : Int) + (b : Int)) = ((uadd a b : Nat) : Int) := by
  unfold uadd
  rw [IntKind.wrap_u64]
  omega
theorem uxor_eq (a b : Nat) (ha : a < 18446744073709551616) (hb : b < 18446744073709551616) : bits .xor .u64 (a : Int) (b : Int) = ((uxor a b : Nat) : Int) := by
  have hx : a ^^^ b < 2 ^ 64 := Nat.xor_lt_two_pow (by omega) (by omega)
  rw [bits_xor_u64_nat a b ha hb, uxor, Nat.mod_eq_of_lt (by omega)]
theorem rot_val (x p q n : Nat) (hx : x < 18446744073709551616) (hp : p = 2 ^ n) (hq : q = 2 ^ (64 - n)) : bits .or .u64 (IntKind.u64.wrap ((x : Int) * (p : Int))) ((x : Int) / (q : Int)) = ((rotl x n : Nat) : Int) := by
  have h1 : IntKind.u64.wrap ((x : Int) * (p : Int)) = ((x * p % 18446744073709551616 : Nat) : Int) := by
    rw [IntKind.wrap_u64, Int.natCast_emod, Int.natCast_mul]; rfl
  have h2 : (x : Int) / (q : Int) = ((x / q : Nat) : Int) := (Int.natCast_ediv x q).symm
  have l1 : x * p % 18446744073709551616 < 18446744073709551616 := Nat.mod_lt _ (by decide)
  have l2 : x / q < 18446744073709551616 := Nat.lt_of_le_of_lt (Nat.div_le_self _ _) hx
  have l3 : (x * p % 18446744073709551616 ||| x / q) < 2 ^ 64 := Nat.or_lt_two_pow (by omega) (by omega)
  rw [h1, h2, u64_or_nat _ _ l1 l2, rotl, ← hp, ← hq]
  exact congrArg Int.ofNat (Nat.mod_eq_of_lt (Nat.lt_of_lt_of_le l3 (by decide))).symm
end Go.Proofs.YtndmcbphdknihaaDoor.Sip

/- DiskBads: the walk. -/
import Derived.Test.YtpcnpjpbicbjeaaDiskFixed
import Derived.Test.YtpcnpjpbicbjeaaDiskPlain
namespace Go.Proofs.Ytpcnpjpbicbjeaa.Disk
open Go Go.RowKit Go.Maps Mem

def clampN (s : Int) : Nat := (max 1 (min s 40)).toNat
theorem clampN_le (s : Int) : 1 ≤ clampN s ∧ clampN s ≤ 40 := by unfold clampN; omega
theorem clampN_int (s : Int) : max 1 (min s 40) = (clampN s : Int) := by unfold clampN; omega
theorem u8_add (c : UInt8) (k : Nat) : IntKind.u8.wrap ((c.toNat : Int) + (k : Int)) = ((c + UInt8.ofNat k).toNat : Int) := by
  show ((c.toNat : Int) + (k : Int)) % 256 = _
  rw [UInt8.toNat_add, UInt8.toNat_ofNat']
  omega
theorem secB_size (c : UInt8) (n : Nat) : (secB c n).size = n := by simp [secB, ByteArray.size]
theorem sec64 (c : UInt8) (w : World) : Calls Try.prog 10 #[.int .u8 (c.toNat : Int), .int .i64 0] w fun e w' => e = .returned (.string (secB c 64)) ∧ Below w.heap.size w w' := sec_lit c 0 64 (by decide) w
theorem sec_one (w : World) : Calls Try.prog 10 #[.int .u8 1, .int .i64 0] w fun e w' => e = .returned (.string (secB 1 64)) ∧ Below w.heap.size w w' := sec_lit 1 0 64 (by decide) w
theorem mask16 (a : Int) : ∃ m : Nat, m ≤ 65535 ∧ bits .and .i64 a 65535 = (m : Int) := by
  have h : (BitVec.ofInt 64 a &&& BitVec.ofInt 64 65535).toNat ≤ 65535 := by
    rw [BitVec.toNat_and]
    exact Nat.le_trans Nat.and_le_right (by decide)
  refine ⟨(BitVec.ofInt 64 a &&& BitVec.ofInt 64 65535).toNat, h, ?_⟩
  show IntKind.i64.wrap ((BitVec.ofInt 64 a &&& BitVec.ofInt 64 65535).toNat : Int) = _
  rw [IntKind.wrap_i64]
  omega
section
variable {X : Nat → Prop} {m N : Nat} {w : World} {b : Nat} {d : Dk} {cur : Nat → ByteArray} {bad : Nat → Bool}
theorem swrite (h : Hd X m w b d) (hs : St d N cur bad) (hm : m ≤ 4611686018427387904) (n : Nat) (hn : n < N) (hb : bad n = false) (s : ByteArray) (hz : s.size = 64) :
    Calls Try.prog 12 #[.pointer (some ⟨b, 0, none⟩), .int .i64 (n : Int), .string s] w fun e w' =>
    e = .returned (.int .i64 0) ∧ ∃ d', Hd X (m + 1) w' b d' ∧ KeepX X w w' ∧ St d' N (fun i => if i = n then s else cur i) bad := by
  have c := hwrite h hm (n : Int) s
  obtain ⟨h1, h2⟩ := hs.write hn hb hz
  rw [h1] at c
  exact c.mono fun e w' ⟨h3, h4, h5⟩ => ⟨h3, _, h4, h5, h2⟩
theorem swrite_bad (h : Hd X m w b d) (hs : St d N cur bad) (hm : m ≤ 4611686018427387904) (n : Nat) (hn : n < N) (hb : bad n = true) (s : ByteArray) (hz : s.size = 64) :
    Calls Try.prog 12 #[.pointer (some ⟨b, 0, none⟩), .int .i64 (n : Int), .string s] w fun e w' =>
    e = .returned (.int .i64 3) ∧ Hd X (m + 1) w' b d ∧ KeepX X w w' := by
  have c := hwrite h hm (n : Int) s
  rw [hs.write_bad hn hb hz] at c
  exact c
theorem swrite_no (h : Hd X m w b d) (hs : St d N cur bad) (hm : m ≤ 4611686018427387904) (n : Int) (hn : n < 0 ∨ (N : Int) ≤ n) (s : ByteArray) :
    Calls Try.prog 12 #[.pointer (some ⟨b, 0, none⟩), .int .i64 n, .string s] w fun e w' =>
    e = .returned (.int .i64 61) ∧ Hd X (m + 1) w' b d ∧ KeepX X w w' := by
  have c := hwrite h hm n s
  rw [hs.write_no hn] at c
  exact c
theorem ssync (h : Hd X m w b d) (hs : St d N cur bad) (hm : m ≤ 4611686018427387904) :
    Calls Try.prog 11 #[.pointer (some ⟨b, 0, none⟩)] w fun e w' =>
    e = .returned (.int .i64 0) ∧ ∃ d', Hd X (m + 1) w' b d' ∧ KeepX X w w' ∧ St d' N cur bad ∧ d'.L = [] ∧ d'.stays = (List.range N).map cur := by
  have c := hsync h hm
  obtain ⟨h1, h2⟩ := hs.sync h.fit
  rw [h1] at c
  exact c.mono fun e w' ⟨h3, h4, h5⟩ => ⟨h3, _, h4, h5, h2⟩
theorem sbad (h : Hd X m w b d) (hs : St d N cur bad) (hm : m ≤ 4611686018427387904) (n : Nat) (hn : n < N) (x : Bool) :
    Calls Try.prog 15 #[.pointer (some ⟨b, 0, none⟩), .int .i64 (n : Int), .bool x] w fun e w' =>
    e = .returned (.int .i64 0) ∧ ∃ d', Hd X (m + 1) w' b d' ∧ KeepX X w w' ∧ St d' N cur (fun i => if i = n then x else bad i) := by
  have c := hbad h hm (n : Int) x
  obtain ⟨h1, h2⟩ := hs.bad_ok hn x
  rw [h1] at c
  exact c.mono fun e w' ⟨h3, h4, h5⟩ => ⟨h3, _, h4, h5, h2⟩
theorem sread (h : Hd X m w b d) (hs : St d N cur bad) (n : Nat) (hn : n < N) (hb : bad n = false) (s : ByteArray) (hc : cur n = s) :
    Calls Try.prog 13 #[.pointer (some ⟨b, 0, none⟩), .int .i64 (n : Int)] w fun e w' => e = .returned (.tuple #[.string s, .int .i64 0]) ∧ w' = w := by
  have c := hread h (n : Int)
  rw [hs.read hn hb, hc] at c
  exact c
theorem sread_bad (h : Hd X m w b d) (hs : St d N cur bad) (n : Nat) (hn : n < N) (hb : bad n = true) :
    Calls Try.prog 13 #[.pointer (some ⟨b, 0, none⟩), .int .i64 (n : Int)] w fun e w' => e = .returned (.tuple #[.string ⟨#[]⟩, .int .i64 3]) ∧ w' = w := by
  have c := hread h (n : Int)
  rw [hs.read_bad hn hb] at c
  exact c
end
end Go.Proofs.Ytpcnpjpbicbjeaa.Disk

/- The log in plain Lean: its number, its records, is the power gone; what each call makes of it and of its disk. No condition. -/
import Derived.Test.YtojhlijcinenoaaGreatDoorDiskPl
import Derived.Lib.Strings
import Derived.Lib.TrimByte
namespace Go.Proofs.YtojhlijcinenoaaGreatDoor.Nv
open Disk

/-- a number of n bytes, the least first -/
def num (x n : Nat) : ByteArray := ⟨((List.range n).map fun i => UInt8.ofNat (x / 2 ^ (8 * i))).toArray⟩
def noughts (k : Nat) : ByteArray := ⟨(List.replicate k 0).toArray⟩
/-- sector 0 -/
def headB (gen used : Nat) : ByteArray := ((⟨#[78, 86]⟩ ++ num gen 6) ++ num used 4) ++ noughts 52
structure Lg where
  gen : Nat
  list : List ByteArray
  dead : Bool
/-- a record's bytes; those of all -/
def enc1 (r : ByteArray) : ByteArray := num r.size 2 ++ r
def enc (l : List ByteArray) : ByteArray := l.foldl (fun a r => a ++ enc1 r) ⟨#[]⟩
def halfD (d : Dk) : Nat := (d.stays.length - 1) / 2
def roomL (l : Lg) (d : Dk) : Int := (halfD d : Int) * 64 - ((enc l.list).size : Int)
def firstL (g : Nat) (d : Dk) : Nat := 1 + g % 2 * halfD d
def tell (l : Lg) (e : Int) : Lg := { l with dead := l.dead || e == 2 }
def headsL (l : Lg) (d : Dk) (gen used : Nat) : Lg × Dk × Int :=
  if (writeD d 0 (headB gen used)).2 ≠ 0 then (tell l (writeD d 0 (headB gen used)).2, writeD d 0 (headB gen used))
  else (tell l (syncD (writeD d 0 (headB gen used)).1).2, syncD (writeD d 0 (headB gen used)).1)
/-- the i-th sector of bytes, noughts behind it -/
def sect (B : ByteArray) (i : Nat) : ByteArray := B.extract (64 * i) (64 * i + 64) ++ noughts (64 - (B.extract (64 * i) (64 * i + 64)).size)
def wloop (l : Lg) (fs : Nat) (B : ByteArray) : Nat → Nat → Dk → Lg × Dk × Int
  | 0, _, d => (l, d, 0)
  | k + 1, i, d => if (writeD d ((fs + i : Nat) : Int) (sect B i)).2 ≠ 0 then (tell l (writeD d ((fs + i : Nat) : Int) (sect B i)).2, writeD d ((fs + i : Nat) : Int) (sect B i)) else wloop l fs B k (i + 1) (writeD d ((fs + i : Nat) : Int) (sect B i)).1
def many (B : ByteArray) : Nat := (B.size + 63) / 64
def synced (l : Lg) (d : Dk) : Lg × Dk × Int := (tell l (syncD d).2, syncD d)
def kept (l : Lg) (r : ByteArray) (h : Lg × Dk × Int) : Lg × Dk × Int := if h.2.2 ≠ 0 then h else ({ l with list := l.list ++ [r] }, h.2)
def headed (l : Lg) (r : ByteArray) (n : Nat) (s : Lg × Dk × Int) : Lg × Dk × Int := if s.2.2 ≠ 0 then s else kept l r (headsL l s.2.1 l.gen n)
def laidOut (l : Lg) (r : ByteArray) (n : Nat) (x : Lg × Dk × Int) : Lg × Dk × Int := if x.2.2 ≠ 0 then x else headed l r n (synced l x.2.1)
def appendTo (l : Lg) (d : Dk) (r : ByteArray) : Lg × Dk × Int :=
  laidOut l r (enc (l.list ++ [r])).size (wloop l (firstL l.gen d) (enc (l.list ++ [r])) (many (enc (l.list ++ [r])) - (enc l.list).size / 64) ((enc l.list).size / 64) d)
def appendL (l : Lg) (d : Dk) (r : ByteArray) : Lg × Dk × Int :=
  if 1300 < r.size then (l, d, 71) else if l.dead = true then (l, d, 2) else if roomL l d < 2 + (r.size : Int) then (l, d, 72) else appendTo l d r
def startL (l : Lg) (d : Dk) (g : Int) : Lg × Dk × Int :=
  if g ≤ l.gen ∨ 1099511627776 < g then (l, d, 70) else if l.dead = true then (l, d, 2)
  else if (headsL l d g.toNat 0).2.2 ≠ 0 then headsL l d g.toNat 0 else (⟨g.toNat, [], l.dead⟩, (headsL l d g.toNat 0).2)

set_option maxRecDepth 100000 in
theorem num_size (x n : Nat) : (num x n).size = n := by simp [num, ByteArray.size]
set_option maxRecDepth 100000 in
theorem noughts_size (k : Nat) : (noughts k).size = k := by simp [noughts, ByteArray.size]
set_option maxRecDepth 100000 in
theorem headB_size (g u : Nat) : (headB g u).size = 64 := by
  unfold headB
  rw [ByteArray.size_append, ByteArray.size_append, ByteArray.size_append, num_size, num_size, noughts_size]
  rfl
set_option maxRecDepth 100000 in
theorem enc1_size (r : ByteArray) : (enc1 r).size = r.size + 2 := by
  unfold enc1
  rw [ByteArray.size_append, num_size]
  omega
set_option maxRecDepth 100000 in
theorem enc_snoc (l : List ByteArray) (r : ByteArray) : enc (l ++ [r]) = enc l ++ enc1 r := by
  unfold enc
  rw [List.foldl_append]
  rfl
set_option maxRecDepth 100000 in
theorem tell_zero (l : Lg) : tell l 0 = l := by
  unfold tell
  rw [show ((0 : Int) == 2) = false from rfl, Bool.or_false]
set_option maxRecDepth 100000 in
theorem sect_size (B : ByteArray) (i : Nat) : (sect B i).size = 64 := by
  unfold sect
  rw [ByteArray.size_append, noughts_size, ByteArray.size_extract]
  omega
set_option maxRecDepth 100000 in
theorem writeD_len (d : Dk) (n : Int) (s : ByteArray) : (writeD d n s).1.stays.length = d.stays.length := by
  unfold writeD
  split
  · rfl
  · split
    · rfl
    · split
      · rfl
      · unfold stepped
        split
        · show (applyK _ _ _ _).length = _
          rw [applyK_length]
          rfl
        · rfl
set_option maxRecDepth 100000 in
theorem syncD_len (d : Dk) : (syncD d).1.stays.length = d.stays.length := by
  unfold syncD
  split
  · rfl
  · unfold stepped
    split
    · show (applyK _ _ _ _).length = _
      rw [applyK_length]
      rfl
    · show (applyAll _ _).length = _
      rw [applyAll_length]
      rfl
end Go.Proofs.YtojhlijcinenoaaGreatDoor.Nv
/- The log in plain Lean: what each call leaves of the disk's bounds; a living log's answers. -/
namespace Go.Proofs.YtojhlijcinenoaaGreatDoor.Nv
open Disk
/-- a disk of N sectors, not over m steps old -/
structure Fn (N m : Nat) (d : Dk) : Prop where
  fit : Fit d
  num : NumTo m d
  len : d.stays.length = N
variable {N m : Nat} {l : Lg} {d : Dk}
set_option maxRecDepth 100000 in
theorem Fn.more {k : Nat} (h : Fn N m d) (hk : m ≤ k) : Fn N k d := ⟨h.fit, h.num.mono hk, h.len⟩
set_option maxRecDepth 100000 in
theorem Fn.new {n : Nat} (h1 : 1 ≤ n) (h2 : n ≤ 16384) : Fn n 0 (newD n) := ⟨newD_fit ⟨h1, h2⟩, NumTo.new n, List.length_replicate⟩
set_option maxRecDepth 100000 in
theorem Fn.write (h : Fn N m d) (n : Int) (s : ByteArray) : Fn N (m + 1) (writeD d n s).1 := ⟨h.fit.write n s, h.num.write n s, by rw [writeD_len]; exact h.len⟩
set_option maxRecDepth 100000 in
theorem Fn.sync (h : Fn N m d) : Fn N (m + 1) (syncD d).1 := ⟨h.fit.sync, h.num.sync, by rw [syncD_len]; exact h.len⟩
set_option maxRecDepth 100000 in
theorem Fn.heads (h : Fn N m d) (l : Lg) (g u : Nat) : Fn N (m + 2) (headsL l d g u).2.1 := by
  unfold headsL
  split
  · exact (h.write 0 (headB g u)).more (by omega)
  · exact ((h.write 0 (headB g u)).sync).more (by omega)
set_option maxRecDepth 100000 in
theorem Fn.wloop (l : Lg) (fs : Nat) (B : ByteArray) : ∀ (k i : Nat) {m : Nat} {d : Dk}, Fn N m d → Fn N (m + k) (wloop l fs B k i d).2.1
  | 0, _, m, d, h => h
  | k + 1, i, m, d, h => by
    unfold Nv.wloop
    split
    · exact (h.write _ _).more (by omega)
    · exact (Fn.wloop l fs B k (i + 1) (h.write _ _)).more (by omega)
set_option maxRecDepth 100000 in
theorem span (a b r : Nat) (h : b = a + r + 2) (hr : r ≤ 1300) : (b + 63) / 64 - a / 64 ≤ 22 := by omega
set_option maxRecDepth 100000 in
theorem Fn.append (h : Fn N m d) (l : Lg) (r : ByteArray) : Fn N (m + 30) (appendL l d r).2.1 := by
  unfold appendL
  split
  · exact h.more (by omega)
  · split
    · exact h.more (by omega)
    · split
      · exact h.more (by omega)
      · rename_i hr _ _
        have hsp := span (enc l.list).size (enc (l.list ++ [r])).size r.size (by rw [enc_snoc, ByteArray.size_append, enc1_size]; omega) (by omega)
        unfold appendTo
        have hw := (Fn.wloop (N := N) l (firstL l.gen d) (enc (l.list ++ [r])) (many (enc (l.list ++ [r])) - (enc l.list).size / 64) ((enc l.list).size / 64) h)
        have hw2 := hw.more (k := m + 22) (by unfold many; omega)
        generalize Nv.wloop l (firstL l.gen d) (enc (l.list ++ [r])) (many (enc (l.list ++ [r])) - (enc l.list).size / 64) ((enc l.list).size / 64) d = x at hw2
        unfold laidOut
        split
        · exact hw2.more (by omega)
        · unfold headed synced
          have h3 := hw2.sync
          split
          · exact h3.more (by omega)
          · unfold kept
            have h4 := h3.heads l l.gen (enc (l.list ++ [r])).size
            split
            · exact h4.more (by omega)
            · exact h4.more (by omega)
set_option maxRecDepth 100000 in
theorem Fn.start (h : Fn N m d) (l : Lg) (g : Int) : Fn N (m + 2) (startL l d g).2.1 := by
  unfold startL
  split
  · exact h.more (by omega)
  · split
    · exact h.more (by omega)
    · split
      · exact h.heads l _ _
      · exact h.heads l _ _
/-- a living disk with no bad sector -/
def Al (N : Nat) (d : Dk) : Prop := ∃ cur, St d N cur (fun _ => false)
set_option maxRecDepth 100000 in
theorem Al.new (n : Nat) : Al n (newD n) := ⟨_, St.new n⟩
set_option maxRecDepth 100000 in
theorem Al.len (h : Al N d) : d.stays.length = N := h.elim fun _ h => h.len
set_option maxRecDepth 100000 in
theorem Al.write (h : Al N d) {n : Nat} (hn : n < N) {s : ByteArray} (hs : s.size = 64) : (writeD d (n : Int) s).2 = 0 ∧ Al N (writeD d (n : Int) s).1 := by
  obtain ⟨cur, h⟩ := h
  obtain ⟨h1, h2⟩ := h.write hn rfl hs
  exact ⟨h1, _, h2⟩
set_option maxRecDepth 100000 in
theorem Al.sync (h : Al N d) (hf : Fit d) : (syncD d).2 = 0 ∧ Al N (syncD d).1 := by
  obtain ⟨cur, h⟩ := h
  obtain ⟨h1, h2, _⟩ := h.sync hf
  exact ⟨h1, _, h2⟩
set_option maxRecDepth 100000 in
theorem Al.heads (h : Al N d) (hf : Fit d) (hN : 1 ≤ N) (l : Lg) (g u : Nat) : (headsL l d g u).2.2 = 0 ∧ (headsL l d g u).1 = l ∧ Al N (headsL l d g u).2.1 := by
  obtain ⟨h1, h2⟩ := h.write (n := 0) hN (headB_size g u)
  obtain ⟨h3, h4⟩ := h2.sync (hf.write _ _)
  have e : headsL l d g u = (l, (syncD (writeD d 0 (headB g u)).1).1, 0) := by
    unfold headsL
    rw [if_neg (fun hh => hh h1)]
    refine Prod.ext ?_ (Prod.ext rfl h3)
    show tell l (syncD (writeD d ((0 : Nat) : Int) (headB g u)).1).2 = l
    rw [h3, tell_zero]
  rw [e]
  exact ⟨rfl, rfl, h4⟩
set_option maxRecDepth 100000 in
theorem Al.wloop (l : Lg) (fs : Nat) (B : ByteArray) : ∀ (k i : Nat) {d : Dk}, Al N d → fs + i + k ≤ N → (wloop l fs B k i d).2.2 = 0 ∧ (wloop l fs B k i d).1 = l ∧ Al N (wloop l fs B k i d).2.1
  | 0, _, d, h, _ => ⟨rfl, rfl, h⟩
  | k + 1, i, d, h, hk => by
    obtain ⟨h1, h2⟩ := h.write (n := fs + i) (by omega) (sect_size B i)
    unfold Nv.wloop
    rw [if_neg (fun hh => hh h1)]
    exact Al.wloop l fs B k (i + 1) h2 (by omega)
set_option maxRecDepth 100000 in
/-- a record that fits is taken -/
theorem Al.append (h : Al N d) (hf : Fn N m d) (hN : 1 ≤ N) (hd : l.dead = false) {r : ByteArray} (hr : r.size ≤ 1300) (hroom : 2 + (r.size : Int) ≤ roomL l d) :
    (appendL l d r).2.2 = 0 ∧ (appendL l d r).1 = { l with list := l.list ++ [r] } ∧ Al N (appendL l d r).2.1 := by
  unfold appendL
  rw [if_neg (by omega), if_neg (by rw [hd]; decide), if_neg (by omega)]
  unfold appendTo
  have hes : (enc (l.list ++ [r])).size = (enc l.list).size + r.size + 2 := by rw [enc_snoc, ByteArray.size_append, enc1_size]; omega
  unfold roomL at hroom
  have hl := hf.len
  obtain ⟨h1, h2, h3⟩ := Al.wloop l (firstL l.gen d) (enc (l.list ++ [r])) (many (enc (l.list ++ [r])) - (enc l.list).size / 64) ((enc l.list).size / 64) h (by
    unfold firstL many
    have hm : l.gen % 2 * halfD d ≤ halfD d := by
      have : l.gen % 2 = 0 ∨ l.gen % 2 = 1 := by omega
      rcases this with e | e <;> rw [e] <;> omega
    have h2 : 2 * halfD d + 1 ≤ N := by unfold halfD; omega
    omega)
  have hw := Fn.wloop (N := N) l (firstL l.gen d) (enc (l.list ++ [r])) (many (enc (l.list ++ [r])) - (enc l.list).size / 64) ((enc l.list).size / 64) hf
  generalize Nv.wloop l (firstL l.gen d) (enc (l.list ++ [r])) (many (enc (l.list ++ [r])) - (enc l.list).size / 64) ((enc l.list).size / 64) d = x at h1 h2 h3 hw
  unfold laidOut
  rw [if_neg (fun hh => hh h1)]
  obtain ⟨s1, s2⟩ := h3.sync hw.fit
  unfold headed synced
  rw [if_neg (fun hh => hh s1)]
  obtain ⟨k1, k2, k3⟩ := s2.heads hw.sync.fit hN l l.gen (enc (l.list ++ [r])).size
  unfold kept
  rw [if_neg (fun hh => hh k1)]
  exact ⟨k1, rfl, k3⟩
set_option maxRecDepth 100000 in
/-- what does not fit is refused, and nothing turns -/
theorem append_no {r : ByteArray} (hd : l.dead = false) (h : ¬ (r.size ≤ 1300 ∧ 2 + (r.size : Int) ≤ roomL l d)) : (appendL l d r).2.2 ≠ 0 ∧ (appendL l d r).1 = l ∧ (appendL l d r).2.1 = d := by
  unfold appendL
  by_cases h1 : 1300 < r.size
  · rw [if_pos h1]
    exact ⟨(show (71 : Int) ≠ 0 by decide), rfl, rfl⟩
  · rw [if_neg h1, if_neg (by rw [hd]; decide), if_pos (by omega)]
    exact ⟨(show (72 : Int) ≠ 0 by decide), rfl, rfl⟩
end Go.Proofs.YtojhlijcinenoaaGreatDoor.Nv
/- The log's Open in plain Lean: the number of bytes, the records of bytes, what a disk's sectors say. -/
namespace Go.Proofs.YtojhlijcinenoaaGreatDoor.Nv
open Disk

/-- the number of bytes, the least first -/
def valL : List UInt8 → Nat
  | [] => 0
  | b :: l => b.toNat + 256 * valL l
def val (s : ByteArray) : Nat := valL s.data.toList
set_option maxRecDepth 100000 in
theorem valL_snoc : ∀ (l : List UInt8) (b : UInt8), valL (l ++ [b]) = valL l + 256 ^ l.length * b.toNat
  | [], b => by simp [valL]
  | c :: l, b => by
    rw [List.cons_append, valL, valL_snoc l b, valL, List.length_cons, Nat.pow_succ, Nat.mul_add, Nat.add_assoc, ← Nat.mul_assoc, Nat.mul_comm 256 (256 ^ l.length)]
set_option maxRecDepth 100000 in
theorem valL_lt : ∀ l : List UInt8, valL l < 256 ^ l.length
  | [] => by simp [valL]
  | c :: l => by
    have h1 := valL_lt l
    have h2 := c.toNat_lt
    rw [valL, List.length_cons, Nat.pow_succ]
    generalize 256 ^ l.length = P at h1 ⊢
    omega
set_option maxRecDepth 100000 in
theorem num_cons (x n : Nat) : (num x (n + 1)).data.toList = UInt8.ofNat x :: (num (x / 256) n).data.toList := by
  show (List.range (n + 1)).map (fun i => UInt8.ofNat (x / 2 ^ (8 * i))) = UInt8.ofNat x :: (List.range n).map (fun i => UInt8.ofNat (x / 256 / 2 ^ (8 * i)))
  rw [List.range_succ_eq_map, List.map_cons, List.map_map]
  congr 1
  · simp
  · apply List.map_congr_left
    intro i _
    show UInt8.ofNat (x / 2 ^ (8 * (i + 1))) = _
    rw [Nat.div_div_eq_div_mul, show 8 * (i + 1) = 8 + 8 * i by omega, Nat.pow_add]
set_option maxRecDepth 100000 in
theorem val_num : ∀ (n x : Nat), x < 256 ^ n → val (num x n) = x
  | 0, x, h => by
    have : x = 0 := by simpa using h
    subst this
    rfl
  | n + 1, x, h => by
    have ih := val_num n (x / 256) (by rw [Nat.pow_succ] at h; exact Nat.div_lt_of_lt_mul (by rwa [Nat.mul_comm]))
    unfold val at ih ⊢
    rw [num_cons, valL, ih, UInt8.toNat_ofNat']
    omega
set_option maxRecDepth 100000 in
theorem num_valL : ∀ l : List UInt8, (num (valL l) l.length).data.toList = l
  | [] => rfl
  | c :: l => by
    have h2 := c.toNat_lt
    rw [List.length_cons, num_cons, valL, show (c.toNat + 256 * valL l) / 256 = valL l by omega, num_valL l]
    congr 1
    apply UInt8.toNat_inj.1
    rw [UInt8.toNat_ofNat']
    omega
set_option maxRecDepth 100000 in
theorem num_val {s : ByteArray} {n : Nat} (h : s.size = n) : num (val s) n = s := by
  apply ByteArray.ext
  apply Array.toList_inj.1
  have : s.data.toList.length = n := h
  rw [← this]
  exact num_valL _
set_option maxRecDepth 100000 in
theorem val_lt {s : ByteArray} {n : Nat} (h : s.size = n) : val s < 256 ^ n := by
  have : s.data.toList.length = n := h
  rw [← this]
  exact valL_lt _
set_option maxRecDepth 100000 in
theorem empty_of {s : ByteArray} (h : s.size = 0) : s = ⟨#[]⟩ := by
  apply ByteArray.ext
  exact Array.eq_empty_of_size_eq_zero h
set_option maxRecDepth 100000 in
theorem nil_append (s : ByteArray) : (⟨#[]⟩ : ByteArray) ++ s = s := by
  apply ByteArray.ext
  rw [ByteArray.data_append]
  exact Array.empty_append
set_option maxRecDepth 100000 in
theorem append_nil (s : ByteArray) : s ++ (⟨#[]⟩ : ByteArray) = s := by
  apply ByteArray.ext
  rw [ByteArray.data_append]
  exact Array.append_empty
set_option maxRecDepth 100000 in
theorem enc_from : ∀ (l : List ByteArray) (a : ByteArray), l.foldl (fun a r => a ++ enc1 r) a = a ++ enc l
  | [], a => (append_nil a).symm
  | r :: l, a => by
    unfold enc
    rw [List.foldl_cons, List.foldl_cons, enc_from l, enc_from l (⟨#[]⟩ ++ enc1 r), nil_append, ByteArray.append_assoc]
set_option maxRecDepth 100000 in
theorem enc_cons (r : ByteArray) (l : List ByteArray) : enc (r :: l) = enc1 r ++ enc l := by
  show (r :: l).foldl (fun a r => a ++ enc1 r) ⟨#[]⟩ = _
  rw [List.foldl_cons, enc_from, nil_append]
/-- the records of bytes; none: they are not whole -/
def splitB : Nat → ByteArray → Option (List ByteArray)
  | 0, s => if s.size = 0 then some [] else none
  | k + 1, s => if s.size = 0 then some [] else if s.size < 2 ∨ 1300 < val (s.extract 0 2) ∨ s.size < 2 + val (s.extract 0 2) then none
    else (splitB k (s.extract (2 + val (s.extract 0 2)) s.size)).map (s.extract 2 (2 + val (s.extract 0 2)) :: ·)
set_option maxRecDepth 100000 in
theorem splitB_enc : ∀ (l : List ByteArray) (k : Nat), (∀ r ∈ l, r.size ≤ 1300) → (enc l).size ≤ k → splitB k (enc l) = some l
  | [], k, _, _ => by
    cases k with
    | zero => rfl
    | succ k => rfl
  | r :: l, k, hr, hk => by
    have h1 := hr r List.mem_cons_self
    have hs : (enc (r :: l)).size = 2 + r.size + (enc l).size := by rw [enc_cons, ByteArray.size_append, enc1_size]; omega
    obtain ⟨k, rfl⟩ : ∃ j, k = j + 1 := ⟨k - 1, by omega⟩
    have e1 : (enc (r :: l)).extract 0 2 = num r.size 2 := by
      rw [enc_cons, enc1, ByteArray.append_assoc]
      exact ByteArray.extract_append_eq_left (num_size _ _).symm
    have e2 : val ((enc (r :: l)).extract 0 2) = r.size := by
      rw [e1]
      exact val_num 2 _ (by omega)
    have e3 : (enc (r :: l)).extract 2 (2 + r.size) = r := by
      rw [enc_cons, enc1, ByteArray.append_assoc]
      have h3 := ByteArray.extract_append_size_add' (a := num r.size 2) (b := r ++ enc l) (i := 0) (j := r.size) (k := 2) (num_size _ _).symm
      rw [Nat.add_zero] at h3
      rw [h3]
      exact ByteArray.extract_append_eq_left rfl
    have e4 : (enc (r :: l)).extract (2 + r.size) (enc (r :: l)).size = enc l := by
      rw [hs, enc_cons]
      exact ByteArray.extract_append_eq_right (by rw [enc1_size]; omega) (by rw [enc1_size]; omega)
    rw [splitB, if_neg (by omega), e2, if_neg (by omega), e3, e4, splitB_enc l k (fun q hq => hr q (List.mem_cons_of_mem _ hq)) (by omega)]
    rfl
set_option maxRecDepth 100000 in
theorem splitB_inv : ∀ (k : Nat) (s : ByteArray) (l : List ByteArray), splitB k s = some l → enc l = s ∧ ∀ r ∈ l, r.size ≤ 1300
  | 0, s, l, h => by
    rw [splitB] at h
    split at h
    · next h1 =>
      injection h with h
      subst h
      exact ⟨(empty_of h1).symm, fun r hr => by cases hr⟩
    · cases h
  | k + 1, s, l, h => by
    rw [splitB] at h
    split at h
    · next h1 =>
      injection h with h
      subst h
      exact ⟨(empty_of h1).symm, fun r hr => by cases hr⟩
    · next h1 =>
      split at h
      · cases h
      · next h2 =>
        obtain ⟨l', hl', rfl⟩ := Option.map_eq_some_iff.1 h
        obtain ⟨a1, a2⟩ := splitB_inv k _ l' hl'
        have hv : (s.extract 2 (2 + val (s.extract 0 2))).size = val (s.extract 0 2) := by rw [ByteArray.size_extract]; omega
        refine ⟨?_, fun r hr => ?_⟩
        · rw [enc_cons, a1, enc1, hv, num_val (n := 2) (by rw [ByteArray.size_extract]; omega)]
          generalize hn : val (s.extract 0 2) = n at h2 ⊢
          rw [ByteArray.extract_append_extract, show min 0 2 = 0 from rfl, show max 2 (2 + n) = 2 + n by omega, ByteArray.extract_append_extract, show min 0 (2 + n) = 0 by omega, show max (2 + n) s.size = s.size by omega, ByteArray.extract_zero_size]
        · rcases List.mem_cons.1 hr with rfl | hr
          · rw [hv]; omega
          · exact a2 r hr
/-- the bytes of k sectors from i on, behind a -/
def collectD (d : Dk) (fs : Nat) : Nat → Nat → ByteArray → ByteArray × Int
  | 0, _, a => (a, 0)
  | k + 1, i, a => if (readD d ((fs + i : Nat) : Int)).2 ≠ 0 then (a, (readD d ((fs + i : Nat) : Int)).2) else collectD d fs k (i + 1) (a ++ (readD d ((fs + i : Nat) : Int)).1)
set_option maxRecDepth 100000 in
theorem collectD_size {d : Dk} (hf : Fit d) (fs : Nat) : ∀ (k i : Nat) (a : ByteArray), (collectD d fs k i a).2 = 0 → (collectD d fs k i a).1.size = a.size + 64 * k
  | 0, _, a, _ => rfl
  | k + 1, i, a, h => by
    rw [collectD] at h ⊢
    split at h
    · next h1 => exact absurd h h1
    · next h1 =>
      rw [if_neg h1, collectD_size hf fs k (i + 1) _ h, ByteArray.size_append, (readD_size hf (Decidable.of_not_not h1)).1]
      omega
def HeadOk (d : Dk) (s : ByteArray) : Prop := val (s.extract 2 8) ≤ 1099511627776 ∧ val (s.extract 8 12) ≤ 64 * halfD d ∧ headB (val (s.extract 2 8)) (val (s.extract 8 12)) = s
instance (d : Dk) (s : ByteArray) : Decidable (HeadOk d s) := by unfold HeadOk; exact inferInstance
def openL_ (g : Nat) (o : Option (List ByteArray)) : Option Lg × Int :=
  match o with
  | none => (none, 70)
  | some l => (some ⟨g, l, false⟩, 0)
def openT (g used : Nat) (c : ByteArray × Int) : Option Lg × Int := if c.2 ≠ 0 then (none, c.2) else openL_ g (splitB used (c.1.extract 0 used))
def openS (d : Dk) (s : ByteArray) : Option Lg × Int :=
  if HeadOk d s then openT (val (s.extract 2 8)) (val (s.extract 8 12)) (collectD d (firstL (val (s.extract 2 8)) d) ((val (s.extract 8 12) + 63) / 64) 0 ⟨#[]⟩) else (none, 70)
def openL (d : Dk) : Option Lg × Int := if d.stays.length < 5 then (none, 70) else if (readD d 0).2 ≠ 0 then (none, (readD d 0).2) else openS d (readD d 0).1

set_option maxRecDepth 100000 in
theorem openL_of {g : Nat} {o : Option (List ByteArray)} {l : Lg} (h : (openL_ g o).1 = some l) : o = some l.list ∧ l.gen = g ∧ l.dead = false ∧ (openL_ g o).2 = 0 := by
  unfold openL_ at h ⊢
  cases o with
  | none => cases h
  | some x =>
    injection h with h
    subst h
    exact ⟨rfl, rfl, rfl, rfl⟩
set_option maxRecDepth 100000 in
/-- what an opened log is -/
theorem openL_inv {d : Dk} (hf : Fit d) {l : Lg} (h : (openL d).1 = some l) : (openL d).2 = 0 ∧ l.dead = false ∧ l.gen ≤ 1099511627776 ∧ (enc l.list).size ≤ 64 * halfD d ∧ (∀ r ∈ l.list, r.size ≤ 1300) ∧ 5 ≤ d.stays.length := by
  unfold openL at h ⊢
  split at h
  · cases h
  · next h1 =>
    rw [if_neg h1]
    split at h
    · cases h
    · next h2 =>
      rw [if_neg h2]
      generalize (readD d 0).1 = s at h ⊢
      unfold openS at h ⊢
      split at h
      · next h3 =>
        rw [if_pos h3]
        have hc := collectD_size hf (firstL (val (s.extract 2 8)) d) ((val (s.extract 8 12) + 63) / 64) 0 ⟨#[]⟩
        generalize collectD d (firstL (val (s.extract 2 8)) d) ((val (s.extract 8 12) + 63) / 64) 0 ⟨#[]⟩ = c at h hc ⊢
        unfold openT at h ⊢
        split at h
        · cases h
        · next h4 =>
          rw [if_neg h4]
          have hc2 := hc (Decidable.of_not_not h4)
          obtain ⟨a1, a2, a3, a4⟩ := openL_of h
          obtain ⟨b1, b2⟩ := splitB_inv _ _ _ a1
          refine ⟨a4, a3, by rw [a2]; exact h3.1, ?_, b2, by omega⟩
          rw [b1, ByteArray.size_extract]
          have := h3.2.1
          omega
      · cases h
end Go.Proofs.YtojhlijcinenoaaGreatDoor.Nv
/- A disk that holds a log: Open tells it; Append and Start leave it, or the one before it, wherever the power goes. Plain. -/
namespace Go.Proofs.YtojhlijcinenoaaGreatDoor.Nv
open Disk

def halfN (N : Nat) : Nat := (N - 1) / 2
/-- a sector that begins with the i-th part of bytes -/
def Pre (B : ByteArray) (i : Nat) (s : ByteArray) : Prop := s.size = 64 ∧ s.extract 0 (B.size - 64 * i) = B.extract (64 * i) (64 * i + 64)
/-- what each sector may be where the log (g, L) is held -/
def Ok (N g : Nat) (L : List ByteArray) (i : Nat) (s : ByteArray) : Prop := ∀ j, 64 * j < (enc L).size → i = 1 + g % 2 * halfN N + j → Pre (enc L) j s
structure Holds (N : Nat) (cur : Nat → ByteArray) (g : Nat) (L : List ByteArray) : Prop where
  gen : g ≤ 1099511627776
  short : ∀ r ∈ L, r.size ≤ 1300
  fits : (enc L).size ≤ 64 * halfN N
  head : cur 0 = headB g (enc L).size
  data : ∀ i, i < N → Ok N g L i (cur i)
set_option maxRecDepth 100000 in
theorem first_le (N g : Nat) (h5 : 5 ≤ N) : 1 + g % 2 * halfN N + halfN N ≤ N := by
  unfold halfN
  have : g % 2 = 0 ∨ g % 2 = 1 := by omega
  rcases this with e | e <;> rw [e] <;> omega
set_option maxRecDepth 100000 in
theorem Pre.more {B C : ByteArray} {i : Nat} {s : ByteArray} (h : Pre (B ++ C) i s) (hi : 64 * i < B.size) : Pre B i s := by
  refine ⟨h.1, ?_⟩
  have h2 := h.2
  have e1 : s.extract 0 (B.size - 64 * i) = (s.extract 0 ((B ++ C).size - 64 * i)).extract 0 (B.size - 64 * i) := by
    rw [ByteArray.extract_extract, ByteArray.size_append, Nat.zero_add, Nat.zero_add, show min (B.size - 64 * i) (B.size + C.size - 64 * i) = B.size - 64 * i by omega]
  rw [e1, h2, ByteArray.extract_extract, Nat.add_zero]
  rw [show 64 * i + (B.size - 64 * i) = B.size by omega, ByteArray.extract_append, show 64 * i - B.size = 0 by omega, show min B.size (64 * i + 64) - B.size = 0 by omega]
  rw [show (C.extract 0 0) = ⟨#[]⟩ from empty_of (by rw [ByteArray.size_extract]; omega), append_nil]
  apply ByteArray.ext
  rw [ByteArray.data_extract, ByteArray.data_extract]
  apply Array.toList_inj.1
  rw [Array.toList_extract, Array.toList_extract, List.extract_eq_take_drop, List.extract_eq_take_drop]
  have hl : B.data.toList.length = B.size := rfl
  apply List.ext_getElem?
  intro k
  rw [List.getElem?_take, List.getElem?_take, List.getElem?_drop]
  by_cases hk : k < min B.size (64 * i + 64) - 64 * i
  · rw [if_pos hk, if_pos (by omega)]
  · rw [if_neg hk]
    split
    · exact (List.getElem?_eq_none (by omega)).symm
    · rfl
set_option maxRecDepth 100000 in
theorem sect_pre (B : ByteArray) (i : Nat) : Pre B i (sect B i) := by
  refine ⟨sect_size B i, ?_⟩
  unfold sect
  have hs : (B.extract (64 * i) (64 * i + 64)).size = min (64 * i + 64) B.size - 64 * i := ByteArray.size_extract
  by_cases h : 64 * i + 64 ≤ B.size
  · rw [show 64 - (B.extract (64 * i) (64 * i + 64)).size = 0 by omega, show noughts 0 = ⟨#[]⟩ from rfl, append_nil, ByteArray.extract_extract]
    rw [show min (64 * i + (B.size - 64 * i)) (64 * i + 64) = 64 * i + 64 by omega]
    rfl
  · exact ByteArray.extract_append_eq_left (by omega)
set_option maxRecDepth 100000 in
/-- what the sectors of a held log say, one behind the other -/
theorem collect_held {N : Nat} {cur : Nat → ByteArray} {Q : Nat → ByteArray → Prop} {d : Dk} (h : Lv N cur Q d) (B : ByteArray) (fs : Nat) (hp : ∀ j, 64 * j < B.size → Pre B j (cur (fs + j))) :
    ∀ (k i : Nat) (a : ByteArray), 64 * (i + k) < B.size + 64 → fs + i + k ≤ N → a.size = 64 * i → a = B.extract 0 (64 * i) → (collectD d fs k i a).2 = 0 ∧ (collectD d fs k i a).1.extract 0 B.size = B.extract 0 (64 * (i + k))
  | 0, i, a, _, _, hs, ha => by
    refine ⟨rfl, ?_⟩
    show a.extract 0 B.size = _
    rw [ha, ByteArray.extract_extract, Nat.add_zero, Nat.add_zero, Nat.zero_add]
    have : (B.extract 0 (64 * i)).size = 64 * i := by rw [← ha]; exact hs
    rw [ByteArray.size_extract] at this
    rw [show min B.size (64 * i) = 64 * i by omega]
  | k + 1, i, a, hlt, hN, hs, ha => by
    have hr := h.read (n := fs + i) (by omega)
    have hpi := hp i (by omega)
    unfold collectD
    rw [hr, if_neg (by simp)]
    by_cases hk : k = 0
    · subst hk
      refine ⟨rfl, ?_⟩
      show (a ++ cur (fs + i)).extract 0 B.size = _
      rw [ByteArray.extract_append, hs, Nat.zero_sub, hpi.2, ha]
      rw [ByteArray.extract_extract, Nat.zero_add, Nat.zero_add, show min B.size (64 * i) = 64 * i by omega, ByteArray.extract_append_extract, show min 0 (64 * i) = 0 by omega, show max (64 * i) (64 * i + 64) = 64 * (i + (0 + 1)) by omega]
    · have e : cur (fs + i) = B.extract (64 * i) (64 * i + 64) := by
        rw [← hpi.2]
        have : (cur (fs + i)).extract 0 (cur (fs + i)).size = cur (fs + i) := ByteArray.extract_zero_size
        rw [hpi.1] at this
        apply ByteArray.ext
        have h1 := congrArg ByteArray.data this
        rw [ByteArray.data_extract] at h1 ⊢
        rw [← h1]
        apply Array.toList_inj.1
        have hl : (cur (fs + i)).data.toList.length = 64 := hpi.1
        simp only [Array.toList_extract, List.extract_eq_take_drop, List.drop_zero, Nat.sub_zero, List.take_take]
        congr 1
        omega
      have := collect_held h B fs hp k (i + 1) (a ++ cur (fs + i)) (by omega) (by omega) (by rw [ByteArray.size_append, hs, hpi.1]; omega) (by rw [e, ha, ByteArray.extract_append_extract, show min 0 (64 * i) = 0 by omega, show max (64 * i) (64 * i + 64) = 64 * (i + 1) by omega])
      rw [show i + (k + 1) = i + 1 + k by omega]
      exact this
set_option maxRecDepth 100000 in
theorem head_parts (g u : Nat) : (headB g u).extract 2 8 = num g 6 ∧ (headB g u).extract 8 12 = num u 4 := by
  have h2 : (⟨#[78, 86]⟩ : ByteArray).size = 2 := rfl
  have h6 := num_size g 6
  have h4 := num_size u 4
  unfold headB
  constructor
  · rw [ByteArray.append_assoc, ByteArray.append_assoc]
    have := ByteArray.extract_append_size_add' (a := (⟨#[78, 86]⟩ : ByteArray)) (b := num g 6 ++ (num u 4 ++ noughts 52)) (i := 0) (j := 6) h2.symm
    refine (this : _ = _).trans ?_
    exact ByteArray.extract_append_eq_left h6.symm
  · rw [ByteArray.append_assoc]
    have := ByteArray.extract_append_size_add' (a := (⟨#[78, 86]⟩ : ByteArray) ++ num g 6) (b := num u 4 ++ noughts 52) (i := 0) (j := 4) (k := 8) (by rw [ByteArray.size_append, h2, h6])
    refine (this : _ = _).trans ?_
    exact ByteArray.extract_append_eq_left h4.symm
set_option maxRecDepth 100000 in
theorem Holds.opened {N : Nat} {cur : Nat → ByteArray} {Q : Nat → ByteArray → Prop} {d : Dk} {g : Nat} {L : List ByteArray} (hh : Holds N cur g L) (h : Lv N cur Q d) (h5 : 5 ≤ N) (hN : N ≤ 16384) : openL d = (some ⟨g, L, false⟩, 0) := by
  have hH : halfD d = halfN N := by unfold halfD halfN; rw [h.len]
  have hr : readD d 0 = (cur 0, 0) := h.read (n := 0) (by omega)
  have hg := hh.gen
  have hu := hh.fits
  have hu2 : (enc L).size ≤ 64 * 8192 := by unfold halfN at hu; omega
  obtain ⟨p1, p2⟩ := head_parts g (enc L).size
  have v1 : val ((cur 0).extract 2 8) = g := by rw [hh.head, p1]; exact val_num 6 _ (by omega)
  have v2 : val ((cur 0).extract 8 12) = (enc L).size := by rw [hh.head, p2]; exact val_num 4 _ (by omega)
  unfold openL
  rw [if_neg (by rw [h.len]; omega), hr, if_neg (by simp)]
  show openS d (cur 0) = _
  unfold openS
  rw [v1, v2, if_pos ⟨by rw [v1]; exact hg, by rw [v2, hH]; exact hu, by rw [v1, v2]; exact hh.head.symm⟩]
  have hfs : firstL g d = 1 + g % 2 * halfN N := by unfold firstL; rw [hH]
  have hfl := first_le N g h5
  rw [hfs]
  obtain ⟨c1, c2⟩ := collect_held h (enc L) (1 + g % 2 * halfN N) (fun j hj => hh.data _ (by omega) j hj rfl) (((enc L).size + 63) / 64) 0 ⟨#[]⟩ (by omega) (by omega) rfl (empty_of (by rw [ByteArray.size_extract]; omega)).symm
  generalize collectD d (1 + g % 2 * halfN N) (((enc L).size + 63) / 64) 0 ⟨#[]⟩ = c at c1 c2
  unfold openT
  rw [if_neg (fun hq => hq c1), c2]
  have e : (enc L).extract 0 (64 * (0 + ((enc L).size + 63) / 64)) = enc L := by
    have : (enc L).extract 0 (max (64 * (0 + ((enc L).size + 63) / 64)) (enc L).size) = enc L := ByteArray.extract_zero_max_size
    rwa [show max (64 * (0 + ((enc L).size + 63) / 64)) (enc L).size = 64 * (0 + ((enc L).size + 63) / 64) by omega] at this
  rw [e, splitB_enc L _ hh.short (Nat.le_refl _)]
  rfl
/-- living, all for good, and the log (g, L) is held -/
def Lgs (N : Nat) (d : Dk) (g : Nat) (L : List ByteArray) : Prop := ∃ cur, Lv N cur (fun i t => t = cur i) d ∧ Holds N cur g L
/-- the power is gone; one of some logs is held -/
def Torn (N : Nat) (d : Dk) (S : Nat → List ByteArray → Prop) : Prop := ∃ Q, Gone N Q d ∧ ∀ cur, (∀ i, i < N → Q i (cur i)) → ∃ g L, S g L ∧ Holds N cur g L
section
variable {N m : Nat} {d : Dk} {g : Nat} {L : List ByteArray} {cur : Nat → ByteArray}
set_option maxRecDepth 100000 in
theorem Torn.revive {S : Nat → List ByteArray → Prop} (h : Torn N d S) : ∃ g L, S g L ∧ Lgs N (reviveD d) g L := by
  obtain ⟨Q, h1, h2⟩ := h
  obtain ⟨cur, h3, h4⟩ := h1.revive
  obtain ⟨g, L, h5, h6⟩ := h2 cur h3
  exact ⟨g, L, h5, cur, h4, h6⟩
set_option maxRecDepth 100000 in
theorem Lgs.opened (h : Lgs N d g L) (h5 : 5 ≤ N) (hN : N ≤ 16384) : openL d = (some ⟨g, L, false⟩, 0) := by
  obtain ⟨cur, h1, h2⟩ := h
  exact h2.opened h1 h5 hN
set_option maxRecDepth 100000 in
theorem Lgs.crash (h : Lgs N d g L) (hf : Fit d) (keep : ByteArray) : (crashD d keep).2 = 0 ∧ Torn N (crashD d keep).1 (fun g' L' => g' = g ∧ L' = L) := by
  obtain ⟨cur, h1, h2⟩ := h
  obtain ⟨a1, a2⟩ := h1.crash hf keep
  refine ⟨a1, _, a2, fun cur' hc => ⟨g, L, ⟨rfl, rfl⟩, h2.gen, h2.short, h2.fits, ?_, fun i hi => ?_⟩⟩
  · by_cases h0 : 0 < N
    · rw [hc 0 h0]; exact h2.head
    · have hl := h1.len
      have := hf.few
      omega
  · rw [hc i hi]; exact h2.data i hi
set_option maxRecDepth 100000 in
theorem Lgs.arm (h : Lgs N d g L) (n : Int) (keep : ByteArray) : Lgs N (armD d n keep).1 g L := by
  obtain ⟨cur, h1, h2⟩ := h
  exact ⟨cur, h1.arm n keep, h2⟩
set_option maxRecDepth 100000 in
theorem Lgs.dead (h : Lgs N d g L) : d.dead = false := by
  obtain ⟨cur, h1, h2⟩ := h
  exact h1.dead
set_option maxRecDepth 100000 in
theorem Torn.dead {S : Nat → List ByteArray → Prop} (h : Torn N d S) : d.dead = true := by
  obtain ⟨Q, h1, h2⟩ := h
  exact h1.dead
set_option maxRecDepth 100000 in
/-- heads: sector 0 is written and synced, or the power goes -/
theorem heads_lv (l : Lg) (h : Lv N cur (fun i t => t = cur i) d) (hf : Fit d) (hN : 1 ≤ N) (g u : Nat) :
    ((headsL l d g u).2.2 = 0 ∧ (headsL l d g u).1 = l ∧ Lv N (fun i => if i = 0 then headB g u else cur i) (fun i t => t = if i = 0 then headB g u else cur i) (headsL l d g u).2.1) ∨
    ((headsL l d g u).2.2 = 2 ∧ (headsL l d g u).1 = tell l 2 ∧ Gone N (fun i t => t = cur i ∨ (i = 0 ∧ t = headB g u)) (headsL l d g u).2.1) := by
  have h1 := h.write hf (n := 0) hN (headB_size g u)
  rw [show ((0 : Nat) : Int) = 0 from rfl] at h1
  have hf1 := hf.write 0 (headB g u)
  unfold headsL
  generalize writeD d 0 (headB g u) = R at h1 hf1
  rcases h1 with ⟨e, h1⟩ | ⟨e, h1⟩
  · rw [if_neg (fun hq => hq e)]
    obtain ⟨h2, _⟩ := h1.sync hf1
    generalize syncD R.1 = T at h2
    rcases h2 with ⟨e2, h2⟩ | ⟨e2, h2⟩
    · exact Or.inl ⟨e2, by show tell l T.2 = l; rw [e2, tell_zero], h2⟩
    · exact Or.inr ⟨e2, by show tell l T.2 = _; rw [e2], h2⟩
  · rw [if_pos (by rw [e]; decide)]
    exact Or.inr ⟨e, by show tell l R.2 = _; rw [e], h1⟩
set_option maxRecDepth 100000 in
/-- the parts of bytes are written, or the power goes in one -/
theorem wloop_lv (l : Lg) (fs : Nat) (B : ByteArray) (P : Nat → ByteArray → Prop) (hP : ∀ i, P (fs + i) (sect B i)) :
    ∀ (k i : Nat) {d : Dk} {cur : Nat → ByteArray}, Lv N cur P d → Fit d → fs + i + k ≤ N →
      ((wloop l fs B k i d).2.2 = 0 ∧ (wloop l fs B k i d).1 = l ∧ Fit (wloop l fs B k i d).2.1 ∧ ∃ cur', Lv N cur' P (wloop l fs B k i d).2.1 ∧ (∀ j, i ≤ j → j < i + k → cur' (fs + j) = sect B j) ∧ ∀ j, (∀ q, i ≤ q → q < i + k → j ≠ fs + q) → cur' j = cur j) ∨
      ((wloop l fs B k i d).2.2 = 2 ∧ (wloop l fs B k i d).1 = tell l 2 ∧ Gone N P (wloop l fs B k i d).2.1)
  | 0, i, d, cur, h, hf, _ => Or.inl ⟨rfl, rfl, hf, cur, h, fun j h1 h2 => by omega, fun j _ => rfl⟩
  | k + 1, i, d, cur, h, hf, hk => by
    have h1 := h.write hf (n := fs + i) (by omega) (sect_size B i)
    have hf1 := hf.write ((fs + i : Nat) : Int) (sect B i)
    have hQ : ∀ (j : Nat) (s : ByteArray), j < N → (P j s ∨ j = fs + i ∧ s = sect B i) → P j s := fun j s _ hq => by
      rcases hq with hq | ⟨rfl, rfl⟩
      · exact hq
      · exact hP i
    unfold wloop
    generalize writeD d ((fs + i : Nat) : Int) (sect B i) = R at h1 hf1
    rcases h1 with ⟨e, h1⟩ | ⟨e, h1⟩
    · rw [if_neg (fun hq => hq e)]
      rcases wloop_lv l fs B P hP k (i + 1) (h1.mono hQ) hf1 (by omega) with ⟨a1, a2, a3, cur', a4, a5, a6⟩ | ⟨a1, a2, a3⟩
      · refine Or.inl ⟨a1, a2, a3, cur', a4, fun j hj1 hj2 => ?_, fun j hj => ?_⟩
        · by_cases hji : j = i
          · subst hji
            rw [a6 (fs + j) (fun q hq1 _ => by omega), if_pos rfl]
          · exact a5 j (by omega) (by omega)
        · rw [a6 j (fun q hq1 hq2 => hj q (by omega) (by omega)), if_neg (hj i (by omega) (by omega))]
      · exact Or.inr ⟨a1, a2, a3⟩
    · rw [if_pos (by rw [e]; decide)]
      exact Or.inr ⟨e, by show tell l R.2 = _; rw [e], h1.mono hQ⟩
end
end Go.Proofs.YtojhlijcinenoaaGreatDoor.Nv
/- A held log behind Append, Start, Format: it is the new one, or the power is gone and it is the old one or the new one. Plain. -/
namespace Go.Proofs.YtojhlijcinenoaaGreatDoor.Nv
open Disk

set_option maxRecDepth 100000 in
theorem take_all {s : ByteArray} {n : Nat} (h : s.size ≤ n) : s.extract 0 n = s := by
  have : s.extract 0 (max n s.size) = s := ByteArray.extract_zero_max_size
  rwa [show max n s.size = n by omega] at this
set_option maxRecDepth 100000 in
theorem Pre.full {B C : ByteArray} {i : Nat} {s : ByteArray} (h : Pre B i s) (hi : 64 * i + 64 ≤ B.size) : Pre (B ++ C) i s := by
  refine ⟨h.1, ?_⟩
  have h2 := h.2
  rw [take_all (by rw [h.1]; omega)] at h2
  rw [take_all (by rw [h.1, ByteArray.size_append]; omega), h2, ByteArray.extract_append, show 64 * i - B.size = 0 by omega, show 64 * i + 64 - B.size = 0 by omega]
  rw [show (C.extract 0 0) = ⟨#[]⟩ from empty_of (by rw [ByteArray.size_extract]; omega), append_nil]
section
variable {N m : Nat} {d : Dk} {g : Nat} {L : List ByteArray} {cur : Nat → ByteArray}
def Stays (N g : Nat) (L : List ByteArray) (i : Nat) (s : ByteArray) : Prop := (i = 0 → s = headB g (enc L).size) ∧ Ok N g L i s
set_option maxRecDepth 100000 in
theorem Holds.stays (h : Holds N cur g L) : ∀ i, i < N → Stays N g L i (cur i) := fun i hi => ⟨fun e => by rw [e]; exact h.head, h.data i hi⟩
set_option maxRecDepth 100000 in
theorem Holds.of_stays {cur' : Nat → ByteArray} (h : Holds N cur g L) (hN : 1 ≤ N) (hc : ∀ i, i < N → Stays N g L i (cur' i)) : Holds N cur' g L := ⟨h.gen, h.short, h.fits, (hc 0 hN).1 rfl, fun i hi => (hc i hi).2⟩
set_option maxRecDepth 100000 in
theorem Holds.next {cur' : Nat → ByteArray} {r : ByteArray} (h : Holds N cur g L) (hr : r.size ≤ 1300) (hroom : (enc L).size + r.size + 2 ≤ 64 * halfN N)
    (h1 : ∀ j, (enc L).size / 64 ≤ j → j < many (enc (L ++ [r])) → cur' (1 + g % 2 * halfN N + j) = sect (enc (L ++ [r])) j) (h2 : ∀ j, (∀ q, (enc L).size / 64 ≤ q → q < many (enc (L ++ [r])) → j ≠ 1 + g % 2 * halfN N + q) → cur' j = cur j) :
    Holds N (fun i => if i = 0 then headB g (enc (L ++ [r])).size else cur' i) g (L ++ [r]) := by
  have hes : (enc (L ++ [r])).size = (enc L).size + r.size + 2 := by rw [enc_snoc, ByteArray.size_append, enc1_size]; omega
  refine ⟨h.gen, fun s hs => ?_, by omega, by simp, fun i hi j hj e => ?_⟩
  · rcases List.mem_append.1 hs with hs | hs
    · exact h.short s hs
    · rw [List.mem_singleton.1 hs]; exact hr
  · subst e
    show Pre _ _ (if 1 + g % 2 * halfN N + j = 0 then _ else _)
    rw [if_neg (by omega)]
    by_cases hq : (enc L).size / 64 ≤ j
    · rw [h1 j hq (by unfold many; omega)]
      exact sect_pre _ _
    · rw [h2 _ (fun q hq1 _ => by omega), enc_snoc]
      exact (h.data _ hi j (by omega) rfl).full (by omega)
/-- what becomes of a record that fits -/
def AppendTo (N g : Nat) (L : List ByteArray) (r : ByteArray) (x : Lg × Dk × Int) : Prop :=
  (x.2.2 = 0 ∧ x.1 = ⟨g, L ++ [r], false⟩ ∧ Lgs N x.2.1 g (L ++ [r])) ∨ (x.2.2 = 2 ∧ x.1 = ⟨g, L, true⟩ ∧ Torn N x.2.1 (fun g' L' => g' = g ∧ (L' = L ∨ L' = L ++ [r])))
set_option maxRecDepth 100000 in
theorem append_lv (h : Lgs N d g L) (hf : Fn N m d) (h5 : 5 ≤ N) {r : ByteArray} (hr : r.size ≤ 1300) (hroom : 2 + (r.size : Int) ≤ roomL ⟨g, L, false⟩ d) : AppendTo N g L r (appendL ⟨g, L, false⟩ d r) := by
  obtain ⟨cur, hl, hh⟩ := h
  have hH : halfD d = halfN N := by unfold halfD halfN; rw [hl.len]
  have hroom' : (enc L).size + r.size + 2 ≤ 64 * halfN N := by
    unfold roomL at hroom
    rw [hH] at hroom
    have : (2 : Int) + (r.size : Int) ≤ (halfN N : Int) * 64 - ((enc L).size : Int) := hroom
    omega
  have hes : (enc (L ++ [r])).size = (enc L).size + r.size + 2 := by rw [enc_snoc, ByteArray.size_append, enc1_size]; omega
  have hfl := first_le N g h5
  have hst : Lv N cur (Stays N g L) d := hl.mono fun i s hi hs => by rw [hs]; exact hh.stays i hi
  have hP : ∀ i, Stays N g L (1 + g % 2 * halfN N + i) (sect (enc (L ++ [r])) i) := fun i => ⟨fun e => by omega, fun j hj e => by
    obtain rfl : i = j := by omega
    rw [enc_snoc]
    exact (sect_pre _ _).more hj⟩
  have hw := wloop_lv ⟨g, L, false⟩ (1 + g % 2 * halfN N) (enc (L ++ [r])) (Stays N g L) hP (many (enc (L ++ [r])) - (enc L).size / 64) ((enc L).size / 64) hst hf.fit (by unfold many; omega)
  unfold appendL
  rw [if_neg (by omega), if_neg (by simp), if_neg (by omega)]
  unfold appendTo
  have hfs : firstL g d = 1 + g % 2 * halfN N := by unfold firstL; rw [hH]
  show AppendTo N g L r (laidOut ⟨g, L, false⟩ r (enc (L ++ [r])).size (wloop ⟨g, L, false⟩ (firstL g d) (enc (L ++ [r])) (many (enc (L ++ [r])) - (enc L).size / 64) ((enc L).size / 64) d))
  rw [hfs]
  generalize wloop ⟨g, L, false⟩ (1 + g % 2 * halfN N) (enc (L ++ [r])) (many (enc (L ++ [r])) - (enc L).size / 64) ((enc L).size / 64) d = x at hw ⊢
  have torn : ∀ {e : Dk}, Gone N (Stays N g L) e → Torn N e (fun g' L' => g' = g ∧ (L' = L ∨ L' = L ++ [r])) := fun {e} he => ⟨_, he, fun cur' hc => ⟨g, L, ⟨rfl, Or.inl rfl⟩, hh.of_stays (by omega) hc⟩⟩
  unfold laidOut
  rcases hw with ⟨a1, a2, a3, cur', a4, a5, a6⟩ | ⟨a1, a2, a3⟩
  · rw [if_neg (fun hq => hq a1)]
    obtain ⟨hs, _⟩ := a4.sync a3
    have hfs2 := a3.sync
    unfold headed synced
    generalize syncD x.2.1 = T at hs hfs2 ⊢
    have hn : ∀ j, (enc L).size / 64 ≤ j → j < many (enc (L ++ [r])) → cur' (1 + g % 2 * halfN N + j) = sect (enc (L ++ [r])) j := fun j h1 h2 => a5 j h1 (by omega)
    have ho : ∀ j, (∀ q, (enc L).size / 64 ≤ q → q < many (enc (L ++ [r])) → j ≠ 1 + g % 2 * halfN N + q) → cur' j = cur j := fun j h1 => a6 j fun q q1 q2 => h1 q q1 (by omega)
    have hnew := hh.next hr hroom' hn ho
    rcases hs with ⟨e, hs⟩ | ⟨e, hs⟩
    · rw [if_neg (show ¬ T.2 ≠ 0 from fun hq => hq e)]
      show AppendTo N g L r (kept ⟨g, L, false⟩ r (headsL ⟨g, L, false⟩ T.1 g (enc (L ++ [r])).size))
      have hq := heads_lv ⟨g, L, false⟩ hs hfs2 (by omega) g (enc (L ++ [r])).size
      generalize headsL ⟨g, L, false⟩ T.1 g (enc (L ++ [r])).size = H at hq ⊢
      unfold kept
      rcases hq with ⟨b1, b2, b3⟩ | ⟨b1, b2, b3⟩
      · rw [if_neg (fun hq => hq b1)]
        exact Or.inl ⟨b1, rfl, _, b3, hnew⟩
      · rw [if_pos (by rw [b1]; decide)]
        refine Or.inr ⟨b1, b2, _, b3, fun cur3 hc => ?_⟩
        by_cases h0 : cur3 0 = headB g (enc (L ++ [r])).size
        · refine ⟨g, L ++ [r], ⟨rfl, Or.inr rfl⟩, hnew.of_stays (by omega) fun i hi => ?_⟩
          have h3 := hnew.stays i hi
          rcases hc i hi with e1 | ⟨e1, e2⟩
          · by_cases hi0 : i = 0
            · subst hi0
              rw [h0]
              exact ⟨fun _ => rfl, fun j _ hj => by omega⟩
            · rw [e1]
              simp only [if_neg hi0] at h3
              exact h3
          · rw [e2]
            simp only [if_pos e1] at h3
            exact h3
        · refine ⟨g, L, ⟨rfl, Or.inl rfl⟩, hh.of_stays (by omega) fun i hi => ?_⟩
          rcases hc i hi with e1 | ⟨e1, e2⟩
          · rw [e1]
            exact a4.in_ hi
          · subst e1
            exact absurd e2 h0
    · rw [if_pos (show T.2 ≠ 0 by rw [e]; decide)]
      exact Or.inr ⟨e, by show tell _ T.2 = _; rw [e]; rfl, torn hs⟩
  · rw [if_pos (by rw [a1]; decide)]
    exact Or.inr ⟨a1, a2, torn a3⟩
/-- what becomes of a beginning anew -/
def StartTo (N g : Nat) (L : List ByteArray) (n : Nat) (x : Lg × Dk × Int) : Prop :=
  (x.2.2 = 0 ∧ x.1 = ⟨n, [], false⟩ ∧ Lgs N x.2.1 n []) ∨ (x.2.2 = 2 ∧ x.1 = ⟨g, L, true⟩ ∧ Torn N x.2.1 (fun g' L' => (g' = g ∧ L' = L) ∨ (g' = n ∧ L' = [])))
set_option maxRecDepth 100000 in
theorem start_lv (h : Lgs N d g L) (hf : Fn N m d) (h5 : 5 ≤ N) {n : Nat} (h1 : g < n) (h2 : n ≤ 1099511627776) : StartTo N g L n (startL ⟨g, L, false⟩ d n) := by
  obtain ⟨cur, hl, hh⟩ := h
  have hq := heads_lv ⟨g, L, false⟩ hl hf.fit (by omega) n 0
  have hnew : ∀ cur', cur' 0 = headB n 0 → Holds N cur' n [] := fun cur' hc => ⟨h2, (fun r hr => by cases hr), Nat.zero_le _, hc, fun i hi j hj => absurd hj (by show ¬ 64 * j < 0; omega)⟩
  unfold startL
  rw [if_neg (by show ¬ ((n : Int) ≤ (g : Int) ∨ _); omega), if_neg (by simp), Int.toNat_natCast]
  generalize headsL ⟨g, L, false⟩ d n 0 = H at hq ⊢
  rcases hq with ⟨b1, b2, b3⟩ | ⟨b1, b2, b3⟩
  · rw [if_neg (fun hq => hq b1)]
    exact Or.inl ⟨b1, rfl, _, b3, hnew _ (if_pos rfl)⟩
  · rw [if_pos (by rw [b1]; decide)]
    refine Or.inr ⟨b1, b2, _, b3, fun cur3 hc => ?_⟩
    by_cases h0 : cur3 0 = headB n 0
    · exact ⟨n, [], Or.inr ⟨rfl, rfl⟩, hnew _ h0⟩
    · refine ⟨g, L, Or.inl ⟨rfl, rfl⟩, hh.of_stays (by omega) fun i hi => ?_⟩
      rcases hc i hi with e1 | ⟨e1, e2⟩
      · rw [e1]; exact hh.stays i hi
      · subst e1
        exact absurd e2 h0
set_option maxRecDepth 100000 in
theorem start_no (l : Lg) (d : Dk) {n : Int} (h : n ≤ l.gen ∨ 1099511627776 < n) : startL l d n = (l, d, 70) := by
  unfold startL
  rw [if_pos h]
set_option maxRecDepth 100000 in
theorem laid_lgs {N : Nat} (h1 : 1 ≤ N) (h2 : N ≤ 16384) {g : Nat} (hg : g ≤ 1099511627776) : Lgs N (headsL ⟨g, [], false⟩ (newD N) g 0).2.1 g [] := by
  have hf := Fn.new h1 h2
  obtain ⟨a1, _, _⟩ := (Al.new N).heads hf.fit h1 ⟨g, [], false⟩ g 0
  rcases heads_lv ⟨g, [], false⟩ (Lv.new N) hf.fit h1 g 0 with ⟨_, _, b3⟩ | ⟨b1, _⟩
  · exact ⟨_, b3, hg, (fun r hr => by cases hr), Nat.zero_le _, if_pos rfl, fun i hi j hj => absurd hj (by show ¬ 64 * j < 0; omega)⟩
  · rw [a1] at b1
    exact absurd b1 (by decide)
end
end Go.Proofs.YtojhlijcinenoaaGreatDoor.Nv
/- Open's tests, one by one; what trimming noughts leaves. Plain. -/
namespace Go.Proofs.YtojhlijcinenoaaGreatDoor.Nv
open Disk

set_option maxRecDepth 100000 in
theorem dropW_nil {p : UInt8 → Bool} : ∀ {l : List UInt8}, l.dropWhile p = [] ↔ ∀ x ∈ l, p x = true
  | [] => by simp
  | c :: l => by
    have := dropW_nil (p := p) (l := l)
    cases h : p c <;> simp [List.dropWhile, h, this]
set_option maxRecDepth 100000 in
theorem trimB_zero (l : List UInt8) : Lib.trimB l 0 = [] ↔ l = List.replicate l.length 0 := by
  unfold Lib.trimB Lib.trimLeftB Lib.trimRightB
  rw [List.eq_replicate_iff, dropW_nil]
  constructor
  · intro h
    refine ⟨rfl, ?_⟩
    have hr : l.reverse.dropWhile (· == (0 : UInt8)) = [] := by
      cases hd : l.reverse.dropWhile (· == (0 : UInt8)) with
      | nil => rfl
      | cons c r =>
        have h1 : (c == (0 : UInt8)) = true := h c (by rw [hd]; simp)
        have h2 := List.head_dropWhile_not (· == (0 : UInt8)) (l := l.reverse) (by rw [hd]; simp)
        simp only [hd, List.head_cons] at h2
        rw [h1] at h2
        cases h2
    rw [dropW_nil] at hr
    intro b hb
    have := hr b (List.mem_reverse.2 hb)
    simpa using this
  · rintro ⟨_, h⟩ x hx
    have h2 := List.mem_reverse.1 (List.dropWhile_sublist (p := (· == (0 : UInt8))) (l := l.reverse) |>.subset (List.mem_reverse.1 hx))
    simpa using h x h2
set_option maxRecDepth 100000 in
theorem head_ends (g u : Nat) : (headB g u).extract 0 2 = ⟨#[78, 86]⟩ ∧ (headB g u).extract 12 64 = noughts 52 := by
  have h2 : (⟨#[78, 86]⟩ : ByteArray).size = 2 := rfl
  have h6 := num_size g 6
  have h4 := num_size u 4
  have h52 := noughts_size 52
  unfold headB
  constructor
  · rw [ByteArray.append_assoc, ByteArray.append_assoc]
    exact ByteArray.extract_append_eq_left h2.symm
  · exact ByteArray.extract_append_eq_right (by rw [ByteArray.size_append, ByteArray.size_append, h2, h6, h4]) (by rw [ByteArray.size_append, ByteArray.size_append, h2, h6, h4, h52])
set_option maxRecDepth 100000 in
theorem headOk_iff {d : Dk} {s : ByteArray} (hs : s.size = 64) : HeadOk d s ↔ (s.extract 0 2 = ⟨#[78, 86]⟩ ∧ val (s.extract 2 8) ≤ 1099511627776 ∧ val (s.extract 8 12) ≤ 64 * halfD d ∧ s.extract 12 s.size = noughts 52) := by
  constructor
  · rintro ⟨h1, h2, h3⟩
    obtain ⟨e1, e2⟩ := head_ends (val (s.extract 2 8)) (val (s.extract 8 12))
    rw [h3] at e1 e2
    exact ⟨e1, h1, h2, by rw [hs]; exact e2⟩
  · rintro ⟨h1, h2, h3, h4⟩
    refine ⟨h2, h3, ?_⟩
    unfold headB
    rw [num_val (n := 6) (by rw [ByteArray.size_extract]; omega), num_val (n := 4) (by rw [ByteArray.size_extract]; omega), ← h1, ← h4, hs]
    rw [ByteArray.extract_append_extract, show min 0 2 = 0 from rfl, show max 2 8 = 8 from rfl, ByteArray.extract_append_extract, show min 0 8 = 0 from rfl, show max 8 12 = 12 from rfl, ByteArray.extract_append_extract, show min 0 12 = 0 from rfl, show max 12 64 = s.size by omega, ByteArray.extract_zero_size]
set_option maxRecDepth 100000 in
/-- a text's tests against nothing -/
theorem emptyT {s : ByteArray} (h : s.size = 0) : (s.toList == []) = true ∧ (!s.toList.isEmpty) = false := by
  rw [empty_of h, Lib.toList_data]
  exact ⟨rfl, rfl⟩
set_option maxRecDepth 100000 in
theorem fullT {s : ByteArray} (h : s.size ≠ 0) : (s.toList == []) = false ∧ (!s.toList.isEmpty) = true := by
  rw [Lib.toList_data]
  cases hl : s.data.toList with
  | nil => exact absurd (by rw [Lib.size_eq, hl]; rfl) h
  | cons => exact ⟨rfl, rfl⟩
set_option maxRecDepth 100000 in
/-- what is trimmed of noughts is nothing just if it is noughts -/
theorem trim_noughts (s : ByteArray) : (⟨(Lib.trimB s.data.toList 0).toArray⟩ : ByteArray).size = 0 ↔ s = noughts s.size := by
  have e : (⟨(Lib.trimB s.data.toList 0).toArray⟩ : ByteArray).size = 0 ↔ Lib.trimB s.data.toList 0 = [] := by
    show (Lib.trimB s.data.toList 0).toArray.size = 0 ↔ _
    rw [List.size_toArray, List.length_eq_zero_iff]
  rw [e, trimB_zero]
  have hl : s.data.toList.length = s.size := rfl
  rw [hl]
  unfold noughts
  constructor
  · intro h
    apply ByteArray.ext
    apply Array.toList_inj.1
    exact h
  · intro h
    exact congrArg (fun x : ByteArray => x.data.toList) h
set_option maxRecDepth 100000 in
theorem eq_txt {s t : ByteArray} (h : s ≠ t) : (s.toList == t.toList) = false := by
  apply beq_false_of_ne
  intro e
  apply h
  rw [Lib.toList_data, Lib.toList_data] at e
  exact ByteArray.ext (Array.toList_inj.1 e)
end Go.Proofs.YtojhlijcinenoaaGreatDoor.Nv
/- A living log on a disk with no bad sector, the power of which goes in no step. Plain. -/
namespace Go.Proofs.YtojhlijcinenoaaGreatDoor.Nv
open Disk
structure Live (N : Nat) (d : Dk) (g : Nat) (L : List ByteArray) : Prop where
  al : Al N d
  lgs : Lgs N d g L
section
variable {N m : Nat} {d : Dk} {g : Nat} {L : List ByteArray}
set_option maxRecDepth 100000 in
theorem Lgs.al (h : Lgs N d g L) (ha : d.armed = 0) : Al N d := by
  obtain ⟨cur, h1, h2⟩ := h
  exact ⟨cur, h1.dead, ha, h1.len, h1.cur, h1.good⟩
set_option maxRecDepth 100000 in
theorem Lgs.len (h : Lgs N d g L) : d.stays.length = N := by
  obtain ⟨cur, h1, h2⟩ := h
  exact h1.len
set_option maxRecDepth 100000 in
theorem Lgs.fits (h : Lgs N d g L) : (enc L).size ≤ 64 * halfD d := by
  have hl := h.len
  obtain ⟨cur, h1, h2⟩ := h
  have := h2.fits
  unfold halfN at this
  unfold halfD
  rw [hl]
  exact this
set_option maxRecDepth 100000 in
theorem Lgs.gen (h : Lgs N d g L) : g ≤ 1099511627776 := by
  obtain ⟨cur, h1, h2⟩ := h
  exact h2.gen
set_option maxRecDepth 100000 in
theorem Live.laid (h1 : 1 ≤ N) (h2 : N ≤ 16384) (hg : g ≤ 1099511627776) : Live N (headsL ⟨g, [], false⟩ (newD N) g 0).2.1 g [] :=
  ⟨((Al.new N).heads (Fn.new h1 h2).fit h1 ⟨g, [], false⟩ g 0).2.2, laid_lgs h1 h2 hg⟩
set_option maxRecDepth 100000 in
theorem Live.append (h : Live N d g L) (hf : Fn N m d) (h5 : 5 ≤ N) (r : ByteArray) :
    ∃ L', (appendL ⟨g, L, false⟩ d r).1 = ⟨g, L', false⟩ ∧ Live N (appendL ⟨g, L, false⟩ d r).2.1 g L' ∧ L'.length ≤ L.length + 1 := by
  by_cases hfit : r.size ≤ 1300 ∧ 2 + (r.size : Int) ≤ roomL ⟨g, L, false⟩ d
  · obtain ⟨a1, a2, a3⟩ := h.al.append (l := ⟨g, L, false⟩) hf (by omega) rfl hfit.1 hfit.2
    refine ⟨L ++ [r], a2, ⟨a3, ?_⟩, by simp⟩
    rcases append_lv h.lgs hf h5 hfit.1 hfit.2 with ⟨_, _, b3⟩ | ⟨b1, _⟩
    · exact b3
    · rw [a1] at b1
      exact absurd b1 (by decide)
  · obtain ⟨a1, a2, a3⟩ := append_no (l := ⟨g, L, false⟩) (d := d) rfl hfit
    exact ⟨L, a2, by rw [a3]; exact h, Nat.le_succ _⟩
set_option maxRecDepth 100000 in
/-- a record is taken just if there is room for it -/
theorem Live.taken (h : Live N d g L) (hf : Fn N m d) (h5 : 5 ≤ N) {r : ByteArray} (hr : r.size ≤ 1300) : (appendL ⟨g, L, false⟩ d r).2.2 = 0 ↔ 2 + (r.size : Int) ≤ roomL ⟨g, L, false⟩ d := by
  by_cases hfit : 2 + (r.size : Int) ≤ roomL ⟨g, L, false⟩ d
  · obtain ⟨a1, a2, a3⟩ := h.al.append (l := ⟨g, L, false⟩) hf (by omega) rfl hr hfit
    exact ⟨fun _ => hfit, fun _ => a1⟩
  · obtain ⟨a1, a2, a3⟩ := append_no (l := ⟨g, L, false⟩) (d := d) (r := r) rfl (fun hh => hfit hh.2)
    exact ⟨fun hh => absurd hh a1, fun hh => absurd hh hfit⟩
set_option maxRecDepth 100000 in
theorem Live.start (h : Live N d g L) (hf : Fn N m d) (h5 : 5 ≤ N) (n : Int) :
    ∃ g' L', (startL ⟨g, L, false⟩ d n).1 = ⟨g', L', false⟩ ∧ Live N (startL ⟨g, L, false⟩ d n).2.1 g' L' ∧ L'.length ≤ L.length := by
  by_cases hn : n ≤ g ∨ 1099511627776 < n
  · rw [start_no ⟨g, L, false⟩ d hn]
    exact ⟨g, L, rfl, h, Nat.le_refl _⟩
  · obtain ⟨k, rfl⟩ := Int.eq_ofNat_of_zero_le (show 0 ≤ n by omega)
    obtain ⟨a1, a2, a3⟩ := h.al.heads hf.fit (by omega) ⟨g, L, false⟩ k 0
    have e : startL ⟨g, L, false⟩ d (k : Int) = (⟨k, [], false⟩, (headsL ⟨g, L, false⟩ d k 0).2) := by
      unfold startL
      rw [if_neg hn, if_neg (by simp), Int.toNat_natCast, if_neg (fun hq => hq a1)]
    rcases start_lv h.lgs hf h5 (n := k) (by omega) (by omega) with ⟨_, _, b3⟩ | ⟨b1, _⟩
    · refine ⟨k, [], by rw [e], ⟨by rw [e]; exact a3, b3⟩, Nat.zero_le _⟩
    · rw [e, a1] at b1
      exact absurd b1 (by decide)
set_option maxRecDepth 100000 in
/-- the power is gone: Start says so, and the log is dead -/
theorem start_gone {Q : Nat → ByteArray → Prop} (h : Gone N Q d) {n : Int} (h1 : (g : Int) < n) (h2 : n ≤ 1099511627776) : startL ⟨g, L, false⟩ d n = (⟨g, L, true⟩, d, 2) := by
  have e : headsL ⟨g, L, false⟩ d n.toNat 0 = (⟨g, L, true⟩, d, 2) := by
    unfold headsL
    rw [h.write, if_pos (by simp)]
    rfl
  unfold startL
  rw [if_neg (by show ¬ (n ≤ (g : Int) ∨ _); omega), if_neg (by simp), e, if_pos (by simp)]
set_option maxRecDepth 100000 in
theorem start_dead (l : Lg) (hd : l.dead = true) {n : Int} (h1 : (l.gen : Int) < n) (h2 : n ≤ 1099511627776) : startL l d n = (l, d, 2) := by
  unfold startL
  rw [if_neg (by omega), if_pos hd]
set_option maxRecDepth 100000 in
theorem append_dead (l : Lg) (hd : l.dead = true) {r : ByteArray} (hr : r.size ≤ 1300) : appendL l d r = (l, d, 2) := by
  unfold appendL
  rw [if_neg (by omega), if_pos hd]
end
end Go.Proofs.YtojhlijcinenoaaGreatDoor.Nv

/- The log in plain Lean: its number, its records, is the power gone; what each call makes of it and of its disk. No condition. -/
import Derived.Test.YtajlfmnjibgbaaaGreatDoorDiskPl
import Derived.Lib.Strings
namespace Go.Proofs.YtajlfmnjibgbaaaGreatDoor.Nv
open Disk

/-- a number of n bytes, the least first -/
def num (x n : Nat) : ByteArray := ⟨((List.range n).map fun i => UInt8.ofNat (x / 2 ^ (8 * i))).toArray⟩
def noughts (k : Nat) : ByteArray := ⟨(List.replicate k 0).toArray⟩
/-- sector 0 -/
def headB (gen used : Nat) : ByteArray := ((⟨#[78, 86]⟩ ++ num gen 6) ++ num used 4) ++ noughts 52
structure Lg where
  gen : Nat
  list : List ByteArray
  dead : Bool
/-- a record's bytes; those of all -/
def enc1 (r : ByteArray) : ByteArray := num r.size 2 ++ r
def enc (l : List ByteArray) : ByteArray := l.foldl (fun a r => a ++ enc1 r) ⟨#[]⟩
def halfD (d : Dk) : Nat := (d.stays.length - 1) / 2
def roomL (l : Lg) (d : Dk) : Int := (halfD d : Int) * 64 - ((enc l.list).size : Int)
def firstL (g : Nat) (d : Dk) : Nat := 1 + g % 2 * halfD d
def tell (l : Lg) (e : Int) : Lg := { l with dead := l.dead || e == 2 }
def headsL (l : Lg) (d : Dk) (gen used : Nat) : Lg × Dk × Int :=
  if (writeD d 0 (headB gen used)).2 ≠ 0 then (tell l (writeD d 0 (headB gen used)).2, writeD d 0 (headB gen used))
  else (tell l (syncD (writeD d 0 (headB gen used)).1).2, syncD (writeD d 0 (headB gen used)).1)
/-- the i-th sector of bytes, noughts behind it -/
def sect (B : ByteArray) (i : Nat) : ByteArray := B.extract (64 * i) (64 * i + 64) ++ noughts (64 - (B.extract (64 * i) (64 * i + 64)).size)
def wloop (l : Lg) (fs : Nat) (B : ByteArray) : Nat → Nat → Dk → Lg × Dk × Int
  | 0, _, d => (l, d, 0)
  | k + 1, i, d => if (writeD d ((fs + i : Nat) : Int) (sect B i)).2 ≠ 0 then (tell l (writeD d ((fs + i : Nat) : Int) (sect B i)).2, writeD d ((fs + i : Nat) : Int) (sect B i)) else wloop l fs B k (i + 1) (writeD d ((fs + i : Nat) : Int) (sect B i)).1
def many (B : ByteArray) : Nat := (B.size + 63) / 64
def synced (l : Lg) (d : Dk) : Lg × Dk × Int := (tell l (syncD d).2, syncD d)
def kept (l : Lg) (r : ByteArray) (h : Lg × Dk × Int) : Lg × Dk × Int := if h.2.2 ≠ 0 then h else ({ l with list := l.list ++ [r] }, h.2)
def headed (l : Lg) (r : ByteArray) (n : Nat) (s : Lg × Dk × Int) : Lg × Dk × Int := if s.2.2 ≠ 0 then s else kept l r (headsL l s.2.1 l.gen n)
def laidOut (l : Lg) (r : ByteArray) (n : Nat) (x : Lg × Dk × Int) : Lg × Dk × Int := if x.2.2 ≠ 0 then x else headed l r n (synced l x.2.1)
def appendTo (l : Lg) (d : Dk) (r : ByteArray) : Lg × Dk × Int :=
  laidOut l r (enc (l.list ++ [r])).size (wloop l (firstL l.gen d) (enc (l.list ++ [r])) (many (enc (l.list ++ [r])) - (enc l.list).size / 64) ((enc l.list).size / 64) d)
def appendL (l : Lg) (d : Dk) (r : ByteArray) : Lg × Dk × Int :=
  if 1300 < r.size then (l, d, 71) else if l.dead = true then (l, d, 2) else if roomL l d < 2 + (r.size : Int) then (l, d, 72) else appendTo l d r
def startL (l : Lg) (d : Dk) (g : Int) : Lg × Dk × Int :=
  if g ≤ l.gen ∨ 1099511627776 < g then (l, d, 70) else if l.dead = true then (l, d, 2)
  else if (headsL l d g.toNat 0).2.2 ≠ 0 then headsL l d g.toNat 0 else (⟨g.toNat, [], l.dead⟩, (headsL l d g.toNat 0).2)

set_option maxRecDepth 100000 in
theorem num_size (x n : Nat) : (num x n).size = n := by simp [num, ByteArray.size]
set_option maxRecDepth 100000 in
theorem noughts_size (k : Nat) : (noughts k).size = k := by simp [noughts, ByteArray.size]
set_option maxRecDepth 100000 in
theorem headB_size (g u : Nat) : (headB g u).size = 64 := by
  unfold headB
  rw [ByteArray.size_append, ByteArray.size_append, ByteArray.size_append, num_size, num_size, noughts_size]
  rfl
set_option maxRecDepth 100000 in
theorem enc1_size (r : ByteArray) : (enc1 r).size = r.size + 2 := by
  unfold enc1
  rw [ByteArray.size_append, num_size]
  omega
set_option maxRecDepth 100000 in
theorem enc_snoc (l : List ByteArray) (r : ByteArray) : enc (l ++ [r]) = enc l ++ enc1 r := by
  unfold enc
  rw [List.foldl_append]
  rfl
set_option maxRecDepth 100000 in
theorem tell_zero (l : Lg) : tell l 0 = l := by
  unfold tell
  rw [show ((0 : Int) == 2) = false from rfl, Bool.or_false]
set_option maxRecDepth 100000 in
theorem sect_size (B : ByteArray) (i : Nat) : (sect B i).size = 64 := by
  unfold sect
  rw [ByteArray.size_append, noughts_size, ByteArray.size_extract]
  omega
set_option maxRecDepth 100000 in
theorem writeD_len (d : Dk) (n : Int) (s : ByteArray) : (writeD d n s).1.stays.length = d.stays.length := by
  unfold writeD
  split
  · rfl
  · split
    · rfl
    · split
      · rfl
      · unfold stepped
        split
        · show (applyK _ _ _ _).length = _
          rw [applyK_length]
          rfl
        · rfl
set_option maxRecDepth 100000 in
theorem syncD_len (d : Dk) : (syncD d).1.stays.length = d.stays.length := by
  unfold syncD
  split
  · rfl
  · unfold stepped
    split
    · show (applyK _ _ _ _).length = _
      rw [applyK_length]
      rfl
    · show (applyAll _ _).length = _
      rw [applyAll_length]
      rfl
end Go.Proofs.YtajlfmnjibgbaaaGreatDoor.Nv
/- The log in plain Lean: what each call leaves of the disk's bounds; a living log's answers. -/
namespace Go.Proofs.YtajlfmnjibgbaaaGreatDoor.Nv
open Disk
/-- a disk of N sectors, not over m steps old -/
structure Fn (N m : Nat) (d : Dk) : Prop where
  fit : Fit d
  num : NumTo m d
  len : d.stays.length = N
variable {N m : Nat} {l : Lg} {d : Dk}
set_option maxRecDepth 100000 in
theorem Fn.more {k : Nat} (h : Fn N m d) (hk : m ≤ k) : Fn N k d := ⟨h.fit, h.num.mono hk, h.len⟩
set_option maxRecDepth 100000 in
theorem Fn.new {n : Nat} (h1 : 1 ≤ n) (h2 : n ≤ 16384) : Fn n 0 (newD n) := ⟨newD_fit ⟨h1, h2⟩, NumTo.new n, List.length_replicate⟩
set_option maxRecDepth 100000 in
theorem Fn.write (h : Fn N m d) (n : Int) (s : ByteArray) : Fn N (m + 1) (writeD d n s).1 := ⟨h.fit.write n s, h.num.write n s, by rw [writeD_len]; exact h.len⟩
set_option maxRecDepth 100000 in
theorem Fn.sync (h : Fn N m d) : Fn N (m + 1) (syncD d).1 := ⟨h.fit.sync, h.num.sync, by rw [syncD_len]; exact h.len⟩
set_option maxRecDepth 100000 in
theorem Fn.heads (h : Fn N m d) (l : Lg) (g u : Nat) : Fn N (m + 2) (headsL l d g u).2.1 := by
  unfold headsL
  split
  · exact (h.write 0 (headB g u)).more (by omega)
  · exact ((h.write 0 (headB g u)).sync).more (by omega)
set_option maxRecDepth 100000 in
theorem Fn.wloop (l : Lg) (fs : Nat) (B : ByteArray) : ∀ (k i : Nat) {m : Nat} {d : Dk}, Fn N m d → Fn N (m + k) (wloop l fs B k i d).2.1
  | 0, _, m, d, h => h
  | k + 1, i, m, d, h => by
    unfold Nv.wloop
    split
    · exact (h.write _ _).more (by omega)
    · exact (Fn.wloop l fs B k (i + 1) (h.write _ _)).more (by omega)
set_option maxRecDepth 100000 in
theorem span (a b r : Nat) (h : b = a + r + 2) (hr : r ≤ 1300) : (b + 63) / 64 - a / 64 ≤ 22 := by omega
set_option maxRecDepth 100000 in
theorem Fn.append (h : Fn N m d) (l : Lg) (r : ByteArray) : Fn N (m + 30) (appendL l d r).2.1 := by
  unfold appendL
  split
  · exact h.more (by omega)
  · split
    · exact h.more (by omega)
    · split
      · exact h.more (by omega)
      · rename_i hr _ _
        have hsp := span (enc l.list).size (enc (l.list ++ [r])).size r.size (by rw [enc_snoc, ByteArray.size_append, enc1_size]; omega) (by omega)
        unfold appendTo
        have hw := (Fn.wloop (N := N) l (firstL l.gen d) (enc (l.list ++ [r])) (many (enc (l.list ++ [r])) - (enc l.list).size / 64) ((enc l.list).size / 64) h)
        have hw2 := hw.more (k := m + 22) (by unfold many; omega)
        generalize Nv.wloop l (firstL l.gen d) (enc (l.list ++ [r])) (many (enc (l.list ++ [r])) - (enc l.list).size / 64) ((enc l.list).size / 64) d = x at hw2
        unfold laidOut
        split
        · exact hw2.more (by omega)
        · unfold headed synced
          have h3 := hw2.sync
          split
          · exact h3.more (by omega)
          · unfold kept
            have h4 := h3.heads l l.gen (enc (l.list ++ [r])).size
            split
            · exact h4.more (by omega)
            · exact h4.more (by omega)
set_option maxRecDepth 100000 in
theorem Fn.start (h : Fn N m d) (l : Lg) (g : Int) : Fn N (m + 2) (startL l d g).2.1 := by
  unfold startL
  split
  · exact h.more (by omega)
  · split
    · exact h.more (by omega)
    · split
      · exact h.heads l _ _
      · exact h.heads l _ _
/-- a living disk with no bad sector -/
def Al (N : Nat) (d : Dk) : Prop := ∃ cur, St d N cur (fun _ => false)
set_option maxRecDepth 100000 in
theorem Al.new (n : Nat) : Al n (newD n) := ⟨_, St.new n⟩
set_option maxRecDepth 100000 in
theorem Al.len (h : Al N d) : d.stays.length = N := h.elim fun _ h => h.len
set_option maxRecDepth 100000 in
theorem Al.write (h : Al N d) {n : Nat} (hn : n < N) {s : ByteArray} (hs : s.size = 64) : (writeD d (n : Int) s).2 = 0 ∧ Al N (writeD d (n : Int) s).1 := by
  obtain ⟨cur, h⟩ := h
  obtain ⟨h1, h2⟩ := h.write hn rfl hs
  exact ⟨h1, _, h2⟩
set_option maxRecDepth 100000 in
theorem Al.sync (h : Al N d) (hf : Fit d) : (syncD d).2 = 0 ∧ Al N (syncD d).1 := by
  obtain ⟨cur, h⟩ := h
  obtain ⟨h1, h2, _⟩ := h.sync hf
  exact ⟨h1, _, h2⟩
set_option maxRecDepth 100000 in
theorem Al.heads (h : Al N d) (hf : Fit d) (hN : 1 ≤ N) (l : Lg) (g u : Nat) : (headsL l d g u).2.2 = 0 ∧ (headsL l d g u).1 = l ∧ Al N (headsL l d g u).2.1 := by
  obtain ⟨h1, h2⟩ := h.write (n := 0) hN (headB_size g u)
  obtain ⟨h3, h4⟩ := h2.sync (hf.write _ _)
  have e : headsL l d g u = (l, (syncD (writeD d 0 (headB g u)).1).1, 0) := by
    unfold headsL
    rw [if_neg (fun hh => hh h1)]
    refine Prod.ext ?_ (Prod.ext rfl h3)
    show tell l (syncD (writeD d ((0 : Nat) : Int) (headB g u)).1).2 = l
    rw [h3, tell_zero]
  rw [e]
  exact ⟨rfl, rfl, h4⟩
set_option maxRecDepth 100000 in
theorem Al.wloop (l : Lg) (fs : Nat) (B : ByteArray) : ∀ (k i : Nat) {d : Dk}, Al N d → fs + i + k ≤ N → (wloop l fs B k i d).2.2 = 0 ∧ (wloop l fs B k i d).1 = l ∧ Al N (wloop l fs B k i d).2.1
  | 0, _, d, h, _ => ⟨rfl, rfl, h⟩
  | k + 1, i, d, h, hk => by
    obtain ⟨h1, h2⟩ := h.write (n := fs + i) (by omega) (sect_size B i)
    unfold Nv.wloop
    rw [if_neg (fun hh => hh h1)]
    exact Al.wloop l fs B k (i + 1) h2 (by omega)
set_option maxRecDepth 100000 in
/-- a record that fits is taken -/
theorem Al.append (h : Al N d) (hf : Fn N m d) (hN : 1 ≤ N) (hd : l.dead = false) {r : ByteArray} (hr : r.size ≤ 1300) (hroom : 2 + (r.size : Int) ≤ roomL l d) :
    (appendL l d r).2.2 = 0 ∧ (appendL l d r).1 = { l with list := l.list ++ [r] } ∧ Al N (appendL l d r).2.1 := by
  unfold appendL
  rw [if_neg (by omega), if_neg (by rw [hd]; decide), if_neg (by omega)]
  unfold appendTo
  have hes : (enc (l.list ++ [r])).size = (enc l.list).size + r.size + 2 := by rw [enc_snoc, ByteArray.size_append, enc1_size]; omega
  unfold roomL at hroom
  have hl := hf.len
  obtain ⟨h1, h2, h3⟩ := Al.wloop l (firstL l.gen d) (enc (l.list ++ [r])) (many (enc (l.list ++ [r])) - (enc l.list).size / 64) ((enc l.list).size / 64) h (by
    unfold firstL many
    have hm : l.gen % 2 * halfD d ≤ halfD d := by
      have : l.gen % 2 = 0 ∨ l.gen % 2 = 1 := by omega
      rcases this with e | e <;> rw [e] <;> omega
    have h2 : 2 * halfD d + 1 ≤ N := by unfold halfD; omega
    omega)
  have hw := Fn.wloop (N := N) l (firstL l.gen d) (enc (l.list ++ [r])) (many (enc (l.list ++ [r])) - (enc l.list).size / 64) ((enc l.list).size / 64) hf
  generalize Nv.wloop l (firstL l.gen d) (enc (l.list ++ [r])) (many (enc (l.list ++ [r])) - (enc l.list).size / 64) ((enc l.list).size / 64) d = x at h1 h2 h3 hw
  unfold laidOut
  rw [if_neg (fun hh => hh h1)]
  obtain ⟨s1, s2⟩ := h3.sync hw.fit
  unfold headed synced
  rw [if_neg (fun hh => hh s1)]
  obtain ⟨k1, k2, k3⟩ := s2.heads hw.sync.fit hN l l.gen (enc (l.list ++ [r])).size
  unfold kept
  rw [if_neg (fun hh => hh k1)]
  exact ⟨k1, rfl, k3⟩
end Go.Proofs.YtajlfmnjibgbaaaGreatDoor.Nv
/- The log's Open in plain Lean: the number of bytes, the records of bytes, what a disk's sectors say. -/
namespace Go.Proofs.YtajlfmnjibgbaaaGreatDoor.Nv
open Disk

/-- the number of bytes, the least first -/
def valL : List UInt8 → Nat
  | [] => 0
  | b :: l => b.toNat + 256 * valL l
def val (s : ByteArray) : Nat := valL s.data.toList
set_option maxRecDepth 100000 in
theorem valL_lt : ∀ l : List UInt8, valL l < 256 ^ l.length
  | [] => by simp [valL]
  | c :: l => by
    have h1 := valL_lt l
    have h2 := c.toNat_lt
    rw [valL, List.length_cons, Nat.pow_succ]
    generalize 256 ^ l.length = P at h1 ⊢
    omega
set_option maxRecDepth 100000 in
theorem num_cons (x n : Nat) : (num x (n + 1)).data.toList = UInt8.ofNat x :: (num (x / 256) n).data.toList := by
  show (List.range (n + 1)).map (fun i => UInt8.ofNat (x / 2 ^ (8 * i))) = UInt8.ofNat x :: (List.range n).map (fun i => UInt8.ofNat (x / 256 / 2 ^ (8 * i)))
  rw [List.range_succ_eq_map, List.map_cons, List.map_map]
  congr 1
  · simp
  · apply List.map_congr_left
    intro i _
    show UInt8.ofNat (x / 2 ^ (8 * (i + 1))) = _
    rw [Nat.div_div_eq_div_mul, show 8 * (i + 1) = 8 + 8 * i by omega, Nat.pow_add]
set_option maxRecDepth 100000 in
theorem val_num : ∀ (n x : Nat), x < 256 ^ n → val (num x n) = x
  | 0, x, h => by
    have : x = 0 := by simpa using h
    subst this
    rfl
  | n + 1, x, h => by
    have ih := val_num n (x / 256) (by rw [Nat.pow_succ] at h; exact Nat.div_lt_of_lt_mul (by rwa [Nat.mul_comm]))
    unfold val at ih ⊢
    rw [num_cons, valL, ih, UInt8.toNat_ofNat']
    omega
set_option maxRecDepth 100000 in
theorem val_lt {s : ByteArray} {n : Nat} (h : s.size = n) : val s < 256 ^ n := by
  have : s.data.toList.length = n := h
  rw [← this]
  exact valL_lt _
set_option maxRecDepth 100000 in
theorem nil_append (s : ByteArray) : (⟨#[]⟩ : ByteArray) ++ s = s := by
  apply ByteArray.ext
  rw [ByteArray.data_append]
  exact Array.empty_append
set_option maxRecDepth 100000 in
theorem append_nil (s : ByteArray) : s ++ (⟨#[]⟩ : ByteArray) = s := by
  apply ByteArray.ext
  rw [ByteArray.data_append]
  exact Array.append_empty
/-- the records of bytes; none: they are not whole -/
def splitB : Nat → ByteArray → Option (List ByteArray)
  | 0, s => if s.size = 0 then some [] else none
  | k + 1, s => if s.size = 0 then some [] else if s.size < 2 ∨ 1300 < val (s.extract 0 2) ∨ s.size < 2 + val (s.extract 0 2) then none
    else (splitB k (s.extract (2 + val (s.extract 0 2)) s.size)).map (s.extract 2 (2 + val (s.extract 0 2)) :: ·)
/-- the bytes of k sectors from i on, behind a -/
def collectD (d : Dk) (fs : Nat) : Nat → Nat → ByteArray → ByteArray × Int
  | 0, _, a => (a, 0)
  | k + 1, i, a => if (readD d ((fs + i : Nat) : Int)).2 ≠ 0 then (a, (readD d ((fs + i : Nat) : Int)).2) else collectD d fs k (i + 1) (a ++ (readD d ((fs + i : Nat) : Int)).1)
def HeadOk (d : Dk) (s : ByteArray) : Prop := val (s.extract 2 8) ≤ 1099511627776 ∧ val (s.extract 8 12) ≤ 64 * halfD d ∧ headB (val (s.extract 2 8)) (val (s.extract 8 12)) = s
instance (d : Dk) (s : ByteArray) : Decidable (HeadOk d s) := by unfold HeadOk; exact inferInstance
def openL_ (g : Nat) (o : Option (List ByteArray)) : Option Lg × Int :=
  match o with
  | none => (none, 70)
  | some l => (some ⟨g, l, false⟩, 0)
def openT (g used : Nat) (c : ByteArray × Int) : Option Lg × Int := if c.2 ≠ 0 then (none, c.2) else openL_ g (splitB used (c.1.extract 0 used))
def openS (d : Dk) (s : ByteArray) : Option Lg × Int :=
  if HeadOk d s then openT (val (s.extract 2 8)) (val (s.extract 8 12)) (collectD d (firstL (val (s.extract 2 8)) d) ((val (s.extract 8 12) + 63) / 64) 0 ⟨#[]⟩) else (none, 70)
end Go.Proofs.YtajlfmnjibgbaaaGreatDoor.Nv

/- The log in plain Lean: what each call leaves of the disk's bounds; a living log's answers. -/
import Derived.Test.YtojhlijcinenoaaNvSpec
import Derived.Test.YtojhlijcinenoaaDiskPlain
namespace Go.Proofs.Ytojhlijcinenoaa.Nv
open Disk
/-- a disk of N sectors, not over m steps old -/
structure Fn (N m : Nat) (d : Dk) : Prop where
  fit : Fit d
  num : NumTo m d
  len : d.stays.length = N
variable {N m : Nat} {l : Lg} {d : Dk}
theorem Fn.more {k : Nat} (h : Fn N m d) (hk : m ≤ k) : Fn N k d := ⟨h.fit, h.num.mono hk, h.len⟩
theorem Fn.new {n : Nat} (h1 : 1 ≤ n) (h2 : n ≤ 16384) : Fn n 0 (newD n) := ⟨newD_fit ⟨h1, h2⟩, NumTo.new n, List.length_replicate⟩
theorem Fn.write (h : Fn N m d) (n : Int) (s : ByteArray) : Fn N (m + 1) (writeD d n s).1 := ⟨h.fit.write n s, h.num.write n s, by rw [writeD_len]; exact h.len⟩
theorem Fn.sync (h : Fn N m d) : Fn N (m + 1) (syncD d).1 := ⟨h.fit.sync, h.num.sync, by rw [syncD_len]; exact h.len⟩
theorem Fn.heads (h : Fn N m d) (l : Lg) (g u : Nat) : Fn N (m + 2) (headsL l d g u).2.1 := by
  unfold headsL
  split
  · exact (h.write 0 (headB g u)).more (by omega)
  · exact ((h.write 0 (headB g u)).sync).more (by omega)
theorem Fn.wloop (l : Lg) (fs : Nat) (B : ByteArray) : ∀ (k i : Nat) {m : Nat} {d : Dk}, Fn N m d → Fn N (m + k) (wloop l fs B k i d).2.1
  | 0, _, m, d, h => h
  | k + 1, i, m, d, h => by
    unfold Nv.wloop
    split
    · exact (h.write _ _).more (by omega)
    · exact (Fn.wloop l fs B k (i + 1) (h.write _ _)).more (by omega)
theorem span (a b r : Nat) (h : b = a + r + 2) (hr : r ≤ 1300) : (b + 63) / 64 - a / 64 ≤ 22 := by omega
theorem Fn.append (h : Fn N m d) (l : Lg) (r : ByteArray) : Fn N (m + 30) (appendL l d r).2.1 := by
  unfold appendL
  split
  · exact h.more (by omega)
  · split
    · exact h.more (by omega)
    · split
      · exact h.more (by omega)
      · rename_i hr _ _
        have hsp := span (enc l.list).size (enc (l.list ++ [r])).size r.size (by rw [enc_snoc, ByteArray.size_append, enc1_size]; omega) (by omega)
        unfold appendTo
        have hw := (Fn.wloop (N := N) l (firstL l.gen d) (enc (l.list ++ [r])) (many (enc (l.list ++ [r])) - (enc l.list).size / 64) ((enc l.list).size / 64) h)
        have hw2 := hw.more (k := m + 22) (by unfold many; omega)
        generalize Nv.wloop l (firstL l.gen d) (enc (l.list ++ [r])) (many (enc (l.list ++ [r])) - (enc l.list).size / 64) ((enc l.list).size / 64) d = x at hw2
        unfold laidOut
        split
        · exact hw2.more (by omega)
        · unfold headed synced
          have h3 := hw2.sync
          split
          · exact h3.more (by omega)
          · unfold kept
            have h4 := h3.heads l l.gen (enc (l.list ++ [r])).size
            split
            · exact h4.more (by omega)
            · exact h4.more (by omega)
theorem Fn.start (h : Fn N m d) (l : Lg) (g : Int) : Fn N (m + 2) (startL l d g).2.1 := by
  unfold startL
  split
  · exact h.more (by omega)
  · split
    · exact h.more (by omega)
    · split
      · exact h.heads l _ _
      · exact h.heads l _ _
/-- a living disk with no bad sector -/
def Al (N : Nat) (d : Dk) : Prop := ∃ cur, St d N cur (fun _ => false)
theorem Al.new (n : Nat) : Al n (newD n) := ⟨_, St.new n⟩
theorem Al.len (h : Al N d) : d.stays.length = N := h.elim fun _ h => h.len
theorem Al.write (h : Al N d) {n : Nat} (hn : n < N) {s : ByteArray} (hs : s.size = 64) : (writeD d (n : Int) s).2 = 0 ∧ Al N (writeD d (n : Int) s).1 := by
  obtain ⟨cur, h⟩ := h
  obtain ⟨h1, h2⟩ := h.write hn rfl hs
  exact ⟨h1, _, h2⟩
theorem Al.sync (h : Al N d) (hf : Fit d) : (syncD d).2 = 0 ∧ Al N (syncD d).1 := by
  obtain ⟨cur, h⟩ := h
  obtain ⟨h1, h2, _⟩ := h.sync hf
  exact ⟨h1, _, h2⟩
theorem Al.heads (h : Al N d) (hf : Fit d) (hN : 1 ≤ N) (l : Lg) (g u : Nat) : (headsL l d g u).2.2 = 0 ∧ (headsL l d g u).1 = l ∧ Al N (headsL l d g u).2.1 := by
  obtain ⟨h1, h2⟩ := h.write (n := 0) hN (headB_size g u)
  obtain ⟨h3, h4⟩ := h2.sync (hf.write _ _)
  have e : headsL l d g u = (l, (syncD (writeD d 0 (headB g u)).1).1, 0) := by
    unfold headsL
    rw [if_neg (fun hh => hh h1)]
    refine Prod.ext ?_ (Prod.ext rfl h3)
    show tell l (syncD (writeD d ((0 : Nat) : Int) (headB g u)).1).2 = l
    rw [h3, tell_zero]
  rw [e]
  exact ⟨rfl, rfl, h4⟩
theorem Al.wloop (l : Lg) (fs : Nat) (B : ByteArray) : ∀ (k i : Nat) {d : Dk}, Al N d → fs + i + k ≤ N → (wloop l fs B k i d).2.2 = 0 ∧ (wloop l fs B k i d).1 = l ∧ Al N (wloop l fs B k i d).2.1
  | 0, _, d, h, _ => ⟨rfl, rfl, h⟩
  | k + 1, i, d, h, hk => by
    obtain ⟨h1, h2⟩ := h.write (n := fs + i) (by omega) (sect_size B i)
    unfold Nv.wloop
    rw [if_neg (fun hh => hh h1)]
    exact Al.wloop l fs B k (i + 1) h2 (by omega)
/-- a record that fits is taken -/
theorem Al.append (h : Al N d) (hf : Fn N m d) (hN : 1 ≤ N) (hd : l.dead = false) {r : ByteArray} (hr : r.size ≤ 1300) (hroom : 2 + (r.size : Int) ≤ roomL l d) :
    (appendL l d r).2.2 = 0 ∧ (appendL l d r).1 = { l with list := l.list ++ [r] } ∧ Al N (appendL l d r).2.1 := by
  unfold appendL
  rw [if_neg (by omega), if_neg (by rw [hd]; decide), if_neg (by omega)]
  unfold appendTo
  have hes : (enc (l.list ++ [r])).size = (enc l.list).size + r.size + 2 := by rw [enc_snoc, ByteArray.size_append, enc1_size]; omega
  unfold roomL at hroom
  have hl := hf.len
  obtain ⟨h1, h2, h3⟩ := Al.wloop l (firstL l.gen d) (enc (l.list ++ [r])) (many (enc (l.list ++ [r])) - (enc l.list).size / 64) ((enc l.list).size / 64) h (by
    unfold firstL many
    have hm : l.gen % 2 * halfD d ≤ halfD d := by
      have : l.gen % 2 = 0 ∨ l.gen % 2 = 1 := by omega
      rcases this with e | e <;> rw [e] <;> omega
    have h2 : 2 * halfD d + 1 ≤ N := by unfold halfD; omega
    omega)
  have hw := Fn.wloop (N := N) l (firstL l.gen d) (enc (l.list ++ [r])) (many (enc (l.list ++ [r])) - (enc l.list).size / 64) ((enc l.list).size / 64) hf
  generalize Nv.wloop l (firstL l.gen d) (enc (l.list ++ [r])) (many (enc (l.list ++ [r])) - (enc l.list).size / 64) ((enc l.list).size / 64) d = x at h1 h2 h3 hw
  unfold laidOut
  rw [if_neg (fun hh => hh h1)]
  obtain ⟨s1, s2⟩ := h3.sync hw.fit
  unfold headed synced
  rw [if_neg (fun hh => hh s1)]
  obtain ⟨k1, k2, k3⟩ := s2.heads hw.sync.fit hN l l.gen (enc (l.list ++ [r])).size
  unfold kept
  rw [if_neg (fun hh => hh k1)]
  exact ⟨k1, rfl, k3⟩
/-- what does not fit is refused, and nothing turns -/
theorem append_no {r : ByteArray} (hd : l.dead = false) (h : ¬ (r.size ≤ 1300 ∧ 2 + (r.size : Int) ≤ roomL l d)) : (appendL l d r).2.2 ≠ 0 ∧ (appendL l d r).1 = l ∧ (appendL l d r).2.1 = d := by
  unfold appendL
  by_cases h1 : 1300 < r.size
  · rw [if_pos h1]
    exact ⟨(show (71 : Int) ≠ 0 by decide), rfl, rfl⟩
  · rw [if_neg h1, if_neg (by rw [hd]; decide), if_pos (by omega)]
    exact ⟨(show (72 : Int) ≠ 0 by decide), rfl, rfl⟩
end Go.Proofs.Ytojhlijcinenoaa.Nv

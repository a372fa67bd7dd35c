/- Each call of either disk, where both lie side by side. -/
import Derived.Test.YtkghlbpkdkonbaaGreatRdiskH
namespace Go.Proofs.YtkghlbpkdkonbaaGreat.Disk
open Go Go.RowKit Go.Maps Mem
section
variable {X Y : Nat → Prop} {m : Nat} {w w' : World} {b c : Nat} {d d' : Dk}
set_option maxRecDepth 100000 in
theorem NumTo.num {d : Dk} (h : NumTo m d) (hm : m ≤ 1048576) : Num d := ⟨Nat.le_trans h.steps (Nat.le_trans hm (by decide)), h.armed, Nat.le_trans h.marks (Nat.le_trans hm (by decide))⟩
set_option maxRecDepth 100000 in
theorem plain {F : Nat → Prop} {b : Nat} {d2 : Dk} {r e : Ending} (h : e = r ∧ IsDk F w' b d2 ∧ Keeps F w w') : e = r ∧ ∃ F', IsDk F' w' b d2 ∧ Keeps F w w' ∧ ∀ i, F' i → F i ∨ w.heap.size ≤ i := ⟨h.1, F, h.2.1, h.2.2, fun _ hi => Or.inl hi⟩
set_option maxRecDepth 100000 in
theorem plainR {F : Nat → Prop} {b : Nat} {d2 : Dk} {r e : Ending} (h : e = r ∧ IsRk F w' b d2 ∧ Keeps F w w') : e = r ∧ ∃ F', IsRk F' w' b d2 ∧ Keeps F w w' ∧ ∀ i, F' i → F i ∨ w.heap.size ≤ i := ⟨h.1, F, h.2.1, h.2.2, fun _ hi => Or.inl hi⟩
set_option maxRecDepth 100000 in
theorem twrite (h : Two X m w b c d d') (hm : m ≤ 1048576) (n : Int) (s : ByteArray) : Calls Tryz.prog 48 #[.pointer (some ⟨b, 0, none⟩), .int .i64 n, .string s] w fun e w' => e = .returned (.int .i64 (writeD d n s).2) ∧ Two X (m + 1) w' b c (writeD d n s).1 d' ∧ KeepX X w w' :=
  h.prog (fun _ h1 hf hn => write_any h1 (hn.num hm) hf n s) (fun h => h.write n s) (fun h => h.write n s) (Nat.le_succ m)
set_option maxRecDepth 100000 in
theorem uwrite (h : Two X m w b c d d') (hm : m ≤ 1048576) (n : Int) (s : ByteArray) : Calls Tryz.prog 51 #[.pointer (some ⟨c, 0, none⟩), .int .i64 n, .string s] w fun e w' => e = .returned (.int .i64 (writeD d' n s).2) ∧ Two X (m + 1) w' b c d (writeD d' n s).1 ∧ KeepX X w w' :=
  h.ref (fun _ h1 hf hn => rwrite_any h1 (hn.num hm) hf n s) (fun h => h.write n s) (fun h => h.write n s) (Nat.le_succ m)
set_option maxRecDepth 100000 in
theorem tsync (h : Two X m w b c d d') (hm : m ≤ 1048576)  : Calls Tryz.prog 53 #[.pointer (some ⟨b, 0, none⟩)] w fun e w' => e = .returned (.int .i64 (syncD d).2) ∧ Two X (m + 1) w' b c (syncD d).1 d' ∧ KeepX X w w' :=
  h.prog (fun _ h1 hf hn => (sync_any h1 (hn.num hm) hf).mono fun _ _ h => plain h) (fun h => h.sync) (fun h => h.sync) (Nat.le_succ m)
set_option maxRecDepth 100000 in
theorem usync (h : Two X m w b c d d') (hm : m ≤ 1048576)  : Calls Tryz.prog 55 #[.pointer (some ⟨c, 0, none⟩)] w fun e w' => e = .returned (.int .i64 (syncD d').2) ∧ Two X (m + 1) w' b c d (syncD d').1 ∧ KeepX X w w' :=
  h.ref (fun _ h1 hf hn => (rsync_any h1 (hn.num hm) hf).mono fun _ _ h => plainR h) (fun h => h.sync) (fun h => h.sync) (Nat.le_succ m)
set_option maxRecDepth 100000 in
theorem tbad (h : Two X m w b c d d') (hm : m ≤ 1048576) (n : Int) (x : Bool) : Calls Tryz.prog 13 #[.pointer (some ⟨b, 0, none⟩), .int .i64 n, .bool x] w fun e w' => e = .returned (.int .i64 (badD d n x).2) ∧ Two X (m + 1) w' b c (badD d n x).1 d' ∧ KeepX X w w' :=
  h.prog (fun _ h1 hf hn => (bad_any h1 (hn.num hm) hf n x).mono fun _ _ h => plain h) (fun h => h.bad n x) (fun h => h.bad n x) (Nat.le_succ m)
set_option maxRecDepth 100000 in
theorem ubad (h : Two X m w b c d d') (hm : m ≤ 1048576) (n : Int) (x : Bool) : Calls Tryz.prog 14 #[.pointer (some ⟨c, 0, none⟩), .int .i64 n, .bool x] w fun e w' => e = .returned (.int .i64 (badD d' n x).2) ∧ Two X (m + 1) w' b c d (badD d' n x).1 ∧ KeepX X w w' :=
  h.ref (fun _ h1 hf hn => rbad_any h1 (Nat.le_trans hn.marks hm) hf n x) (fun h => h.bad n x) (fun h => h.bad n x) (Nat.le_succ m)
set_option maxRecDepth 100000 in
theorem tarm (h : Two X m w b c d d') (n : Int) (hn0 : n ≤ 9223372036854775807) (keep : ByteArray) : Calls Tryz.prog 11 #[.pointer (some ⟨b, 0, none⟩), .int .i64 n, .string keep] w fun e w' => e = .returned (.int .i64 (armD d n keep).2) ∧ Two X m w' b c (armD d n keep).1 d' ∧ KeepX X w w' :=
  h.prog (fun _ h1 _ _ => (arm_any h1 n keep).mono fun _ _ h => plain h) (fun h => h.arm n keep) (fun h => h.arm n hn0 keep) (Nat.le_refl m)
set_option maxRecDepth 100000 in
theorem uarm (h : Two X m w b c d d') (n : Int) (hn0 : n ≤ 9223372036854775807) (keep : ByteArray) : Calls Tryz.prog 12 #[.pointer (some ⟨c, 0, none⟩), .int .i64 n, .string keep] w fun e w' => e = .returned (.int .i64 (armD d' n keep).2) ∧ Two X m w' b c d (armD d' n keep).1 ∧ KeepX X w w' :=
  h.ref (fun _ h1 _ _ => (rarm_any h1 n keep).mono fun _ _ h => plainR h) (fun h => h.arm n keep) (fun h => h.arm n hn0 keep) (Nat.le_refl m)
set_option maxRecDepth 100000 in
theorem tcrash (h : Two X m w b c d d') (keep : ByteArray) : Calls Tryz.prog 15 #[.pointer (some ⟨b, 0, none⟩), .string keep] w fun e w' => e = .returned (.int .i64 (crashD d keep).2) ∧ Two X m w' b c (crashD d keep).1 d' ∧ KeepX X w w' :=
  h.prog (fun _ h1 hf _ => (crash_any h1 hf keep).mono fun _ _ h => plain h) (fun h => h.crash keep) (fun h => h.crash keep) (Nat.le_refl m)
set_option maxRecDepth 100000 in
theorem ucrash (h : Two X m w b c d d') (keep : ByteArray) : Calls Tryz.prog 16 #[.pointer (some ⟨c, 0, none⟩), .string keep] w fun e w' => e = .returned (.int .i64 (crashD d' keep).2) ∧ Two X m w' b c d (crashD d' keep).1 ∧ KeepX X w w' :=
  h.ref (fun _ h1 hf _ => (rcrash_any h1 hf keep).mono fun _ _ h => plainR h) (fun h => h.crash keep) (fun h => h.crash keep) (Nat.le_refl m)
set_option maxRecDepth 100000 in
theorem trevive (h : Two X m w b c d d')  : Calls Tryz.prog 17 #[.pointer (some ⟨b, 0, none⟩)] w fun e w' => e = .returned (.tuple #[]) ∧ Two X m w' b c (reviveD d) d' ∧ KeepX X w w' :=
  h.prog (fun _ h1 _ _ => (revive_any h1).mono fun _ _ h => plain h) (fun h => h.revive) (fun h => h.revive) (Nat.le_refl m)
set_option maxRecDepth 100000 in
theorem urevive (h : Two X m w b c d d')  : Calls Tryz.prog 18 #[.pointer (some ⟨c, 0, none⟩)] w fun e w' => e = .returned (.tuple #[]) ∧ Two X m w' b c d (reviveD d') ∧ KeepX X w w' :=
  h.ref (fun _ h1 _ _ => (rrevive_any h1).mono fun _ _ h => plainR h) (fun h => h.revive) (fun h => h.revive) (Nat.le_refl m)
set_option maxRecDepth 100000 in
theorem tread (h : Two X m w b c d d') (n : Int) : Calls Tryz.prog 35 #[.pointer (some ⟨b, 0, none⟩), .int .i64 n] w fun e w' => e = .returned (.tuple #[.string (readD d n).1, .int .i64 (readD d n).2]) ∧ w' = w := by
  obtain ⟨F, G, h1, _, _, _, _, _, h7, _⟩ := h
  exact read_any h1 h7.1 n
set_option maxRecDepth 100000 in
theorem uread (h : Two X m w b c d d') (hm : m ≤ 1048576) (n : Int) : Calls Tryz.prog 43 #[.pointer (some ⟨c, 0, none⟩), .int .i64 n] w fun e w' => e = .returned (.tuple #[.string (readD d' n).1, .int .i64 (readD d' n).2]) ∧ w' = w := by
  obtain ⟨F, G, _, h2, _, _, _, _, _, h8⟩ := h
  exact rread_any h2 h8.1 (h8.2.num hm).marks n
set_option maxRecDepth 100000 in
theorem timage (h : Two X m w b c d d') : Calls Tryz.prog 25 #[.pointer (some ⟨b, 0, none⟩)] w fun e w' => e = .returned (.string (img d)) ∧ Below w.heap.size w w' := by
  obtain ⟨F, G, h1, _, _, _, _, _, h7, _⟩ := h
  exact image_any h1 h7.1
set_option maxRecDepth 100000 in
theorem uimage (h : Two X m w b c d d') : Calls Tryz.prog 26 #[.pointer (some ⟨c, 0, none⟩)] w fun e w' => e = .returned (.string (img d')) ∧ w' = w := by
  obtain ⟨F, G, _, h2, _, _, _, _, _, h8⟩ := h
  exact rimage_any h2 h8.1
set_option maxRecDepth 100000 in
theorem tsteps (h : Two X m w b c d d') : Calls Tryz.prog 27 #[.pointer (some ⟨b, 0, none⟩)] w fun e w' => e = .returned (.int .i64 (d.steps : Int)) ∧ w' = w := by
  obtain ⟨F, G, h1, _⟩ := h
  exact steps_any h1
set_option maxRecDepth 100000 in
theorem tsectors (h : Two X m w b c d d') : Calls Tryz.prog 91 #[.pointer (some ⟨b, 0, none⟩)] w fun e w' => e = .returned (.int .i64 (d.stays.length : Int)) ∧ w' = w := by
  obtain ⟨F, G, h1, _⟩ := h
  exact sectors_any h1
set_option maxRecDepth 100000 in
/-- the document's disk, cell by cell -/
theorem Two.cells (h : Two X m w b c d d') : ∃ sb sc A k, w.cell? ⟨c, 0, none⟩ = some (.slice (some ⟨sb, 0, none⟩) d'.stays.length sc) ∧ w.cell? ⟨c, 1, none⟩ = some (.slice A d'.L.length k) ∧ w.cell? ⟨c, 3, none⟩ = some (.int .i64 (d'.steps : Int)) ∧ w.cell? ⟨c, 6, none⟩ = some (.bool d'.dead) ∧ c < w.heap.size := by
  obtain ⟨F, G, _, ⟨sb, sc, lv, bv, B, hc⟩, _⟩ := h
  obtain ⟨A, k, rfl⟩ := pair_slice hc.ls
  exact ⟨sb, sc, A, k, hc.cells.1, hc.cells.2.1, hc.cells.2.2.2.1, hc.cells.2.2.2.2.2.2, hc.blk.lt⟩
set_option maxRecDepth 100000 in
theorem Two.len (h : Two X m w b c d d') : d'.L.length ≤ 16384 := by
  obtain ⟨F, G, _, _, _, _, _, _, _, h8⟩ := h
  exact h8.1.len
end
end Go.Proofs.YtkghlbpkdkonbaaGreat.Disk

/-
  Layer 12, the program's package pack: what takes.
-/
import Derived.Test.YtfdncifnokkclaaPack
namespace Go.Proofs.Ytfdncifnokkclaa
open Go.RowKit

/-- w' is w but for block b, and new blocks. -/
structure Only (b : Nat) (w w' : World) : Prop where
  os : w'.os = w.os
  tape : w'.tape = w.tape
  output : w'.output = w.output
  size : w.heap.size ≤ w'.heap.size
  block : ∀ k, k < w.heap.size → k ≠ b → w'.heap[k]? = w.heap[k]?
theorem Only.refl (b : Nat) (w : World) : Only b w w := ⟨rfl, rfl, rfl, Nat.le_refl _, fun _ _ _ => rfl⟩
theorem Only.trans {b : Nat} {w w1 w2 : World} (h : Only b w w1) (k : Only b w1 w2) : Only b w w2 :=
  ⟨k.os.trans h.os, k.tape.trans h.tape, k.output.trans h.output, Nat.le_trans h.size k.size, fun i hi hb => (k.block i (Nat.lt_of_lt_of_le hi h.size) hb).trans (h.block i hi hb)⟩
theorem Only.of_below {b : Nat} {w w' : World} (h : Below w.heap.size w w') : Only b w w' := ⟨h.os, h.tape, h.output, h.size, fun k hk _ => h.block k hk⟩
theorem Only.drew {b : Nat} {w w' : World} (h : Only b w w') : Only b w w'.drew := ⟨h.os, h.tape, h.output, h.size, h.block⟩
theorem Only.setCell {b : Nat} {w w' : World} (h : Only b w w') {p : Addr} (hp : p.block = b) (v : Value) : Only b w (w'.setCell p v) :=
  h.trans ⟨rfl, rfl, rfl, by simp [World.setCell], fun k _ hb => Below.heap_setCell _ _ _ _ (by rw [hp]; exact hb)⟩
theorem Only.below {b : Nat} {w w' : World} (h : Only b w w') {B : Nat} (hb : B ≤ b) (hB : B ≤ w.heap.size) : Below B w w' :=
  ⟨h.os, h.tape, h.output, h.size, fun k hk => h.block k (by omega) (by omega)⟩

/-- Block b is a reader with these bytes left. -/
def InAt (w : World) (b : Nat) (r : Rd) : Prop := ∃ s, Is s r.l ∧ RowAt w b #[.string s, .bool r.bad] 47 (0, 0)
theorem InAt.lt {w : World} {b : Nat} {r : Rd} (h : InAt w b r) : b < w.heap.size := by
  obtain ⟨s, _, hr⟩ := h
  exact hr.lt
theorem InAt.below {w w' : World} {b : Nat} {r : Rd} (h : InAt w b r) (hb : Below w.heap.size w w') : InAt w' b r := by
  obtain ⟨s, hs, hr⟩ := h
  exact ⟨s, hs, hr.below hb hr.lt⟩
theorem InAt.drew {w : World} {b : Nat} {r : Rd} (h : InAt w b r) : InAt w.drew b r := h

set_option maxHeartbeats 400000 in
theorem fail_walk (b : Nat) (s : ByteArray) (x : Bool) (w : World) (h : RowAt w b #[.string s, .bool x] 47 (0, 0)) :
    Calls Try.prog 58 #[.pointer (some ⟨b, 0, none⟩)] w fun e w' => e = .returned (.tuple #[]) ∧ InAt w' b Rd.broken ∧ Only b w w' := by
  have c0 := h.cell (i := 0) rfl
  have c1 := h.cell (i := 1) rfl
  have f0 := h.free (i := 0) (by simp)
  have f1 := h.free (i := 1) (by simp)
  have h2 := (h.store 0 (.string ⟨#[]⟩)).store 1 (.bool true)
  have H2 := Lib.hid h2
  clear h h2
  go_enter Try.func58, Try.ntmps58
  go_wp2
  go_end0
  exact ⟨rfl, ⟨_, Is.of [], H2.out⟩, ((Only.refl b w).setCell rfl _).setCell rfl _⟩

set_option maxHeartbeats 400000 in
theorem Left_in (b : Nat) (r : Rd) (w : World) (h : InAt w b r) :
    Calls Try.prog 35 #[.pointer (some ⟨b, 0, none⟩)] w fun e w' => e = .returned (.int .i64 r.l.length) ∧ w = w' := by
  obtain ⟨s, hs, hr⟩ := h
  have c0 := hr.cell (i := 0) rfl
  have HS := Lib.hid hs.size
  clear hr hs
  go_enter Try.func35, Try.ntmps35
  go_wp2
  go_ret
  exact ⟨ret_int (by rw [HS.out]), rfl⟩

/-- What Done tells. -/
def doneR (r : Rd) : Int := if r.bad = true then 2 else if r.l = [] then 0 else 5
set_option maxHeartbeats 400000 in
theorem Done_walk (b : Nat) (r : Rd) (w : World) (h : InAt w b r) :
    Calls Try.prog 28 #[.pointer (some ⟨b, 0, none⟩)] w fun e w' => e = .returned (.int .i64 (doneR r)) ∧ w = w' := by
  obtain ⟨s, hs, hr⟩ := h
  obtain ⟨l, x⟩ := r
  have c0 := hr.cell (i := 0) rfl
  have c1 := hr.cell (i := 1) rfl
  have hq : seq s ⟨#[]⟩ = decide (l = []) := seq_eq hs (Is.of [])
  clear hr hs
  cases x
  · by_cases hl : l = []
    · subst hl
      have hq2 : seq s ⟨#[]⟩ = true := by rw [hq]; rfl
      clear hq
      go_enter Try.func28, Try.ntmps28
      go_wp2
      go_ret
      exact ⟨rfl, rfl⟩
    · have hq2 : seq s ⟨#[]⟩ = false := by rw [hq]; simp [hl]
      have HL := Lib.hid (show doneR ⟨l, false⟩ = 5 by simp [doneR, hl])
      clear hq hl
      go_enter Try.func28, Try.ntmps28
      go_wp2
      go_ret
      exact ⟨ret_int HL.out.symm, rfl⟩
  · clear hq
    go_enter Try.func28, Try.ntmps28
    go_wp2
    go_ret
    exact ⟨rfl, rfl⟩

set_option maxHeartbeats 1000000 in
theorem take_walk (b : Nat) (r : Rd) (n : Nat) (w : World) (h : InAt w b r) (hl : r.l.length ≤ 140737488351232) :
    Calls Try.prog 57 #[.pointer (some ⟨b, 0, none⟩), .int .i64 n] w fun e w' => ∃ s, e = .returned (.string s) ∧ Is s (takeR r n).1 ∧ InAt w' b (takeR r n).2 ∧ Only b w w' := by
  obtain ⟨s, hs, hr⟩ := h
  obtain ⟨l, x⟩ := r
  have c0 := hr.cell (i := 0) rfl
  have c1 := hr.cell (i := 1) rfl
  have f0 := hr.free (i := 0) (by simp)
  have hsz := hs.size
  have hl' : s.size ≤ 140737488351232 := by rw [hsz]; exact hl
  have HR := Lib.hid hr
  have HS := Lib.hid hs
  have HZ := Lib.hid hsz
  clear hr hs hsz
  cases x
  · rcases Nat.lt_or_ge s.size n with hlt | hge
    · have HT := Lib.hid (show takeR ⟨l, false⟩ n = ([], Rd.broken) by unfold takeR; rw [if_pos (Or.inr (by rw [← HZ.out]; exact hlt))])
      go_enter Try.func57, Try.ntmps57
      go_wp2_with fail
      refine (fail_walk b s false _ HR.out).mono ?_
      rintro e w1 ⟨rfl, h1, ho1⟩
      go_wp2_with fail
      go_ret
      exact ⟨_, rfl, by rw [HT.out]; exact Is.of [], by rw [HT.out]; exact h1, ho1⟩
    · have HT := Lib.hid (show takeR ⟨l, false⟩ n = (l.take n, ⟨l.drop n, false⟩) by unfold takeR; rw [if_neg (by simp; rw [← HZ.out]; exact hge)])
      have H1 := Lib.hid ((HS.out).extract 0 n)
      have H2 := Lib.hid ((HS.out).extract n s.size)
      have H3 := Lib.hid (HR.out.store 0 (.string (s.extract n s.size)))
      go_enter Try.func57, Try.ntmps57
      go_wp2_with fail
      go_ret
      refine ⟨_, rfl, ?_, ?_, (Only.refl b w).setCell rfl _⟩
      · rw [HT.out]
        simpa using H1.out
      · rw [HT.out]
        refine ⟨_, ?_, H3.out⟩
        have e := H2.out
        rw [HZ.out, List.take_of_length_le (by simp)] at e
        rw [HZ.out]
        exact e
  · have HT := Lib.hid (show takeR ⟨l, true⟩ n = ([], Rd.broken) by simp [takeR])
    go_enter Try.func57, Try.ntmps57
    go_wp2_with fail
    refine (fail_walk b s true _ HR.out).mono ?_
    rintro e w1 ⟨rfl, h1, ho1⟩
    go_wp2_with fail
    go_ret
    exact ⟨_, rfl, by rw [HT.out]; exact Is.of [], by rw [HT.out]; exact h1, ho1⟩
end Go.Proofs.Ytfdncifnokkclaa

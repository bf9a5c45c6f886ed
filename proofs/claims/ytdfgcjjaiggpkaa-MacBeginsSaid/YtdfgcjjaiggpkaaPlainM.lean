/-
  What layer 3 (mac) computes, in plain words. No program.
-/
import Derived.Test.YtdfgcjjaiggpkaaPlainS
namespace Go.Proofs.Ytdfgcjjaiggpkaa

def shortK (key : List UInt8) : List UInt8 := if 64 < key.length then shaL key else key
theorem shortK_length (key : List UInt8) : (shortK key).length ≤ 64 := by
  unfold shortK
  by_cases h : 64 < key.length
  · rw [if_pos h, shaL_length]; omega
  · rw [if_neg h]; omega
/-- A key's block. -/
def padK (key : List UInt8) : List UInt8 := shortK key ++ List.replicate (64 - (shortK key).length) 0
theorem padK_length (key : List UInt8) : (padK key).length = 64 := by
  have := shortK_length key
  unfold padK
  rw [List.length_append, List.length_replicate]; omega
def turnK (key : List UInt8) (b : UInt8) : List UInt8 := (padK key).map (· ^^^ b)
theorem turnK_length (key : List UInt8) (b : UInt8) : (turnK key b).length = 64 := by rw [turnK, List.length_map, padK_length]
/-- A text's mac by a key. -/
def macL (key text : List UInt8) : List UInt8 := shaL (turnK key 92 ++ shaL (turnK key 54 ++ text))
theorem macL_length (key text : List UInt8) : (macL key text).length = 32 := shaL_length _
def partK (key info : List UInt8) : Nat → List UInt8
  | 0 => []
  | i + 1 => macL key (partK key info i ++ info ++ [UInt8.ofNat (i + 1)])
theorem partK_length (key info : List UInt8) (i : Nat) : (partK key info i).length ≤ 32 := by
  cases i with
  | zero => exact Nat.zero_le _
  | succ i => rw [partK, macL_length]; exact Nat.le_refl _
def outK (key info : List UInt8) : Nat → List UInt8
  | 0 => []
  | i + 1 => outK key info i ++ partK key info (i + 1)
theorem outK_length (key info : List UInt8) (i : Nat) : (outK key info i).length = 32 * i := by
  induction i with
  | zero => rfl
  | succ i ih => rw [outK, List.length_append, ih, partK, macL_length]; omega
/-- So many bytes of a key. -/
def expandL (key info : List UInt8) (n : Nat) : List UInt8 := (outK key info ((n + 31) / 32)).take n
theorem expandL_length (key info : List UInt8) (n : Nat) : (expandL key info n).length = n := by
  rw [expandL, List.length_take, outK_length]; omega
theorem outK_take (key info : List UInt8) (a b : Nat) (h : b ≤ a) : (outK key info a).take (32 * b) = outK key info b := by
  induction a with
  | zero =>
    obtain rfl : b = 0 := by omega
    rfl
  | succ a ih =>
    by_cases e : b = a + 1
    · subst e
      exact List.take_of_length_le (by rw [outK_length]; exact Nat.le_refl _)
    · rw [outK, List.take_append_of_le_length (by rw [outK_length]; omega)]
      exact ih (by omega)
/-- Fewer bytes are the beginning of more. -/
theorem expandL_take (key info : List UInt8) (n m : Nat) (h : n ≤ m) : (expandL key info m).take n = expandL key info n := by
  have hb : (n + 31) / 32 ≤ (m + 31) / 32 := by omega
  rw [expandL, expandL, List.take_take, Nat.min_eq_left h, ← outK_take key info _ _ hb, List.take_take, Nat.min_eq_left (by omega)]
theorem xor_same (l : List UInt8) (b : UInt8) : xorL l (List.replicate l.length b) = l.map (· ^^^ b) := by
  induction l with
  | nil => rfl
  | cons x l ih =>
    rw [List.length_cons, List.replicate_succ]
    show (x ^^^ b) :: xorL l (List.replicate l.length b) = _
    rw [ih]; rfl
theorem fill_key (key : List UInt8) (h : shortK key ≠ []) : fillL (shortK key) 64 = padK key := by
  have hl := shortK_length key
  have h0 : 0 < (shortK key).length := List.length_pos_iff.2 h
  unfold padK
  by_cases e : (shortK key).length = 64
  · rw [fill_none _ _ (by decide) (by omega), e]; simp
  · rw [fill_some _ _ (by decide) (by omega)]
    congr 2
    omega
theorem fill_empty (key : List UInt8) (h : shortK key = []) : fillL (shortK key) 64 = [] ∧ padK key = List.replicate 64 0 := by
  unfold padK
  rw [h]
  exact ⟨rfl, rfl⟩
/-- A key that is filled up has the same block. -/
theorem padK_fill (key : List UInt8) (k : Nat) (h : key.length + k ≤ 64) : padK (key ++ List.replicate k 0) = padK key := by
  have e1 : shortK key = key := by unfold shortK; rw [if_neg (by omega)]
  have e2 : shortK (key ++ List.replicate k 0) = key ++ List.replicate k 0 := by unfold shortK; rw [if_neg (by simp; omega)]
  unfold padK
  rw [e1, e2, List.append_assoc, List.length_append, List.length_replicate, List.replicate_append_replicate]
  congr 2
  omega
theorem padK_long (key : List UInt8) (h : 64 < key.length) : padK (shaL key) = padK key := by
  have e1 : shortK key = shaL key := by unfold shortK; rw [if_pos h]
  have e2 : shortK (shaL key) = shaL key := by unfold shortK; rw [if_neg (by rw [shaL_length]; omega)]
  unfold padK
  rw [e1, e2]
theorem macL_padK {k1 k2 : List UInt8} (h : padK k1 = padK k2) (text : List UInt8) : macL k1 text = macL k2 text := by
  unfold macL turnK
  rw [h]
end Go.Proofs.Ytdfgcjjaiggpkaa

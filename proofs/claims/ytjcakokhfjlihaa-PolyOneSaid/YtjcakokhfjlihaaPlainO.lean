/-
  Layer 5's numbers of an r that is 1: the part's digits, carried on. Of no program.
-/
import Derived.Test.YtjcakokhfjlihaaPlainG
import Derived.Test.YtjcakokhfjlihaaPlainD
namespace Go.Proofs.Ytjcakokhfjlihaa
open Go.RowKit

theorem getD_small1 {l : List Nat} {B : Nat} (h : ∀ d ∈ l, d < B) (hB : 0 < B) (i : Nat) : l.getD i 0 < B := by
  rw [List.getD_eq_getElem?_getD]
  cases h2 : l[i]? with
  | none => exact hB
  | some d => exact h d (List.mem_of_getElem? h2)
/-- A part of the text and one byte 1 behind, as numbers. -/
def oneC (c : List UInt8) : List Nat := ofBytes c ++ [1]
theorem oneC_length (c : List UInt8) : (oneC c).length = c.length + 1 := by simp [oneC, ofBytes_length]
theorem oneC_val (c : List UInt8) : dV (oneC c) = leV c + 256 ^ c.length := by
  rw [oneC, dV_append, dV_ofBytes, ofBytes_length]
  show _ + _ * 1 = _
  rw [Nat.mul_one]
theorem oneC_dig (c : List UInt8) : Dig (oneC c) := (ofBytes_dig c).snoc (by decide)
theorem oneC_at (c : List UInt8) (j : Nat) (h : j < c.length) : (oneC c).getD j 0 = (c.getD j 0).toNat := by
  have h2 : j < (ofBytes c).length := by rw [ofBytes_length]; exact h
  rw [oneC, List.getD_eq_getElem?_getD, List.getElem?_append_left h2, List.getD_eq_getElem?_getD]
  simp [ofBytes, h]
theorem oneC_end (c : List UInt8) : (oneC c).getD c.length 0 = 1 := by
  rw [oneC, List.getD_eq_getElem?_getD, List.getElem?_append_right (by rw [ofBytes_length]; exact Nat.le_refl _), ofBytes_length, Nat.sub_self]
  rfl
theorem oneC_past (c : List UInt8) (j : Nat) (h : c.length < j) : (oneC c).getD j 0 = 0 := by
  rw [List.getD_eq_getElem?_getD, List.getElem?_eq_none (by rw [oneC_length]; omega)]
  rfl
def partO (l : List Nat) (c : List UInt8) (k : Nat) : List Nat := sumD l (oneC c) k ++ List.replicate (18 - k) 0
theorem partO_length (l : List Nat) (c : List UInt8) (k : Nat) (h : k ≤ 18) : (partO l c k).length = 18 := by
  rw [partO, List.length_append, sumD_length, List.length_replicate]; omega
theorem partO_zero (l : List Nat) (c : List UInt8) : partO l c 0 = List.replicate 18 0 := by rw [partO]; rfl
theorem partO_get (l : List Nat) (c : List UInt8) (k : Nat) : (partO l c k).getD k 0 = 0 := by
  rw [partO, List.getD_eq_getElem?_getD, List.getElem?_append_right (by rw [sumD_length]; exact Nat.le_refl _), sumD_length, Nat.sub_self]
  cases h : 18 - k with
  | zero => rfl
  | succ n => rfl
theorem partO_set (l : List Nat) (c : List UInt8) (k : Nat) (h : k < 18) : (partO l c k).set k (l.getD k 0 + (oneC c).getD k 0) = partO l c (k + 1) := by
  rw [partO, partO, List.set_append_right (h := by rw [sumD_length]; exact Nat.le_refl _), sumD_length, Nat.sub_self, sumD_succ, List.append_assoc]
  congr 1
  rw [show 18 - k = (18 - (k + 1)) + 1 by omega, List.replicate_succ]
  rfl
theorem partO_full (l : List Nat) (c : List UInt8) : partO l c 18 = sumD l (oneC c) 18 := by rw [partO]; simp
theorem partO_val (l : List Nat) (c : List UInt8) (hl : l.length ≤ 18) (hc : c.length ≤ 16) : dV (partO l c 18) = dV l + (leV c + 256 ^ c.length) := by
  rw [partO_full, sumD_val, List.take_of_length_le hl, List.take_of_length_le (by rw [oneC_length]; omega), oneC_val]
theorem partO_small (l : List Nat) (c : List UInt8) (hl : Dig l) (i : Nat) : (partO l c 18).getD i 0 ≤ 510 := by
  have h : (partO l c 18).getD i 0 < 511 := by
    refine getD_small1 (fun d hd => ?_) (by decide) i
    rw [partO_full] at hd
    obtain ⟨j, _, rfl⟩ := List.mem_map.1 hd
    have h1 := hl.get j
    have h2 := (oneC_dig c).get j
    omega
  omega
/-- The digits carried on, k of them. -/
def carrK (P : List Nat) : Nat → List Nat
  | 0 => P
  | k + 1 => ((carrK P k).set (k + 1) ((carrK P k).getD (k + 1) 0 + (carrK P k).getD k 0 / 256)).set k ((carrK P k).getD k 0 % 256)
theorem carrK_length (P : List Nat) (k : Nat) : (carrK P k).length = P.length := by
  induction k with
  | zero => rfl
  | succ k ih => rw [carrK, List.length_set, List.length_set, ih]
theorem getD_set_ne (l : List Nat) (i j x : Nat) (h : i ≠ j) : (l.set i x).getD j 0 = l.getD j 0 := by
  rw [List.getD_eq_getElem?_getD, List.getD_eq_getElem?_getD, List.getElem?_set_ne h]
theorem getD_set_same (l : List Nat) (i x : Nat) (h : i < l.length) : (l.set i x).getD i 0 = x := by
  rw [List.getD_eq_getElem?_getD, List.getElem?_set_self h]; rfl
theorem carrK_bound (P : List Nat) (h : ∀ i, P.getD i 0 ≤ 510) (k : Nat) (hk : k < P.length) : (∀ i, i < k → (carrK P k).getD i 0 < 256) ∧ (carrK P k).getD k 0 ≤ 512 ∧ ∀ i, k < i → (carrK P k).getD i 0 ≤ 510 := by
  induction k with
  | zero => exact ⟨fun i hi => absurd hi (Nat.not_lt_zero _), Nat.le_trans (h 0) (by decide), fun i _ => h i⟩
  | succ k ih =>
    obtain ⟨h1, h2, h3⟩ := ih (by omega)
    have hn := h3 (k + 1) (by omega)
    rw [carrK]
    generalize hz : (carrK P k).getD k 0 = z at *
    generalize hy : (carrK P k).getD (k + 1) 0 = y at *
    have hl := carrK_length P k
    refine ⟨fun i hi => ?_, ?_, fun i hi => ?_⟩
    · rcases Nat.lt_or_ge i k with hik | hik
      · rw [getD_set_ne _ _ _ _ (by omega), getD_set_ne _ _ _ _ (by omega)]; exact h1 i hik
      · obtain rfl : i = k := by omega
        rw [getD_set_same _ _ _ (by rw [List.length_set, hl]; omega)]; omega
    · rw [getD_set_ne _ _ _ _ (by omega), getD_set_same _ _ _ (by rw [hl]; omega)]; omega
    · rw [getD_set_ne _ _ _ _ (by omega), getD_set_ne _ _ _ _ (by omega)]; exact h3 i (by omega)
theorem carrK_val (P : List Nat) (k : Nat) (hk : k < P.length) : dV (carrK P k) = dV P := by
  induction k with
  | zero => rfl
  | succ k ih =>
    rw [← ih (by omega), carrK]
    have hl := carrK_length P k
    generalize carrK P k = Q at hl ⊢
    have e1 := dV_set Q (k + 1) (Q.getD k 0 / 256) (by rw [hl]; exact hk)
    generalize hQ1 : Q.set (k + 1) (Q.getD (k + 1) 0 + Q.getD k 0 / 256) = Q1 at e1 ⊢
    have hz : Q1.getD k 0 = Q.getD k 0 := by rw [← hQ1, getD_set_ne _ _ _ _ (by omega)]
    have hl1 : Q1.length = P.length := by rw [← hQ1, List.length_set, hl]
    have e2 := dV_set (Q1.set k (Q.getD k 0 % 256)) k (256 * (Q.getD k 0 / 256)) (by rw [List.length_set, hl1]; omega)
    rw [getD_set_same _ _ _ (by rw [hl1]; omega), List.set_set, Nat.mod_add_div, ← hz, List.getD_eq_getElem?_getD, List.getElem?_eq_getElem (by rw [hl1]; omega : k < Q1.length), Option.getD_some, List.set_getElem_self] at e2
    have hq : Q1[k]'(by rw [hl1]; omega) = Q.getD k 0 := by
      rw [← hz, List.getD_eq_getElem?_getD, List.getElem?_eq_getElem (by rw [hl1]; omega : k < Q1.length), Option.getD_some]
    rw [hq] at e2
    have e3 : 256 * (Q.getD k 0 / 256) * 256 ^ k = Q.getD k 0 / 256 * 256 ^ (k + 1) := by rw [Nat.pow_succ, Nat.mul_comm 256, Nat.mul_assoc, Nat.mul_comm 256]
    rw [e3] at e2
    generalize Q.getD k 0 / 256 * 256 ^ (k + 1) = Z at e1 e2
    omega
theorem carrK_dig (P : List Nat) (h : ∀ i, P.getD i 0 ≤ 510) (hl : P.length = 18) (hv : dV P < 256 ^ 18) : Dig (carrK P 17) := by
  obtain ⟨h1, _, _⟩ := carrK_bound P h 17 (by omega)
  have hlen := carrK_length P 17
  have hval := carrK_val P 17 (by omega)
  have ht := dV_take (carrK P 17) 17
  rw [List.take_of_length_le (by omega), hval] at ht
  generalize carrK P 17 = Q at h1 hlen ht ⊢
  have hlast : Q.getD 17 0 < 256 := by
    refine Nat.lt_of_mul_lt_mul_left (a := 256 ^ 17) ?_
    have e2 : 256 ^ 18 = 256 ^ 17 * 256 := by rw [Nat.pow_succ]
    rw [← e2]
    exact Nat.lt_of_le_of_lt (by rw [ht]; exact Nat.le_add_left _ _) hv
  intro d hd
  obtain ⟨i, hi, rfl⟩ := List.getElem_of_mem hd
  have e : Q.getD i 0 = Q[i] := by rw [List.getD_eq_getElem?_getD, List.getElem?_eq_getElem hi]; rfl
  rw [← e]
  rcases Nat.lt_or_ge i 17 with h17 | h17
  · exact h1 i h17
  · obtain rfl : i = 17 := by omega
    exact hlast
theorem chunk_room (l : List Nat) (c : List UInt8) (hl : Dig l) (hll : l.length ≤ 17) (hc : c.length ≤ 16) : dV l + (leV c + 256 ^ c.length) < 256 ^ 18 := by
  have h1 := Nat.lt_of_lt_of_le (dV_lt hl) (Nat.pow_le_pow_right (show 0 < 256 by decide) hll)
  have h2 := Nat.lt_of_lt_of_le (leV_lt c) (Nat.pow_le_pow_right (show 0 < 256 by decide) hc)
  have h3 := Nat.pow_le_pow_right (show 0 < 256 by decide) hc
  have e1 : 256 ^ 17 = 256 * 256 ^ 16 := by rw [Nat.pow_succ, Nat.mul_comm]
  have e2 : 256 ^ 18 = 256 * 256 ^ 17 := by rw [Nat.pow_succ, Nat.mul_comm]
  generalize 256 ^ 16 = A at *
  generalize 256 ^ 17 = B at *
  generalize 256 ^ c.length = C at *
  generalize 256 ^ 18 = D at *
  omega
/-- One chunk's step, of an r that is 1. -/
theorem one_step (t : List UInt8) (j : Nat) (l l' : List Nat) (hl : l.length ≤ 17) (hv : dV l = accN 1 t j) (hc : (chunkL t j).length ≤ 16) (h' : dV l' = dV (carrK (partO l (chunkL t j) 18) 17) % prime) : dV l' = accN 1 t (j + 1) := by
  rw [h', carrK_val _ _ (by rw [partO_length _ _ _ (Nat.le_refl _)]; decide), partO_val _ _ (by omega) hc, hv, accN, stepN, Nat.mul_one]
end Go.Proofs.Ytjcakokhfjlihaa

/-
  What layer 12 (pack) computes, in plain words. No program.
-/
import Derived.Test.YtfglhemmccihfaaPlain
namespace Go.Proofs.Ytfglhemmccihfaa

/-! ### How many bytes a number needs -/
def needF : Nat → Nat → Nat
  | 0, _ => 0
  | f + 1, n => if n = 0 then 0 else needF f (n / 256) + 1
/-- How many bytes a number of 64 bits needs. -/
def needN (n : Nat) : Nat := needF 8 n
theorem needF_le (f n : Nat) : needF f n ≤ f := by
  induction f generalizing n with
  | zero => exact Nat.le_refl _
  | succ f ih => unfold needF; split
                 · omega
                 · have := ih (n / 256); omega
theorem needF_zero (f : Nat) : needF f 0 = 0 := by cases f <;> simp [needF]
theorem needF_gt (f n k : Nat) (hk : k < f) : k < needF f n ↔ n / 256 ^ k ≠ 0 := by
  induction f generalizing n k with
  | zero => omega
  | succ f ih =>
    unfold needF
    by_cases h : n = 0
    · subst h; simp
    · rw [if_neg h]
      cases k with
      | zero => simp [h]
      | succ k =>
        rw [Nat.succ_lt_succ_iff, ih (n / 256) k (by omega), Nat.div_div_eq_div_mul, Nat.pow_succ, Nat.mul_comm 256]
theorem needF_enough (f n : Nat) (h : n < 256 ^ f) : n < 256 ^ needF f n := by
  induction f generalizing n with
  | zero => simpa [needF] using h
  | succ f ih =>
    unfold needF
    by_cases h0 : n = 0
    · subst h0; simp
    · rw [if_neg h0]
      have := ih (n / 256) (by rw [Nat.pow_succ] at h; omega)
      rw [Nat.pow_succ]
      omega
theorem needF_least (f n k : Nat) (h : n < 256 ^ k) : needF f n ≤ k := by
  induction f generalizing n k with
  | zero => simp [needF]
  | succ f ih =>
    unfold needF
    by_cases h0 : n = 0
    · subst h0; simp
    · rw [if_neg h0]
      cases k with
      | zero => simp at h; omega
      | succ k =>
        have := ih (n / 256) k (by rw [Nat.pow_succ] at h; omega)
        omega
theorem needN_le (n : Nat) : needN n ≤ 8 := needF_le 8 n

/-! ### Numbers, texts, lists -/
def numL (n : BitVec 64) : List UInt8 := UInt8.ofNat (needN n.toNat) :: highL n (needN n.toNat)
def textL (l : List UInt8) : List UInt8 := numL (BitVec.ofNat 64 l.length) ++ l
def listL (ls : List (List UInt8)) : List UInt8 := numL (BitVec.ofNat 64 ls.length) ++ ls.flatMap textL
theorem numL_length (n : BitVec 64) : (numL n).length = 1 + needN n.toNat := by simp [numL, highL_length]; omega
theorem numL_short (n : BitVec 64) : (numL n).length ≤ 9 := by have := needN_le n.toNat; rw [numL_length]; omega

/-! ### There and back -/
theorem loV_low (x : BitVec 64) (k i : Nat) (hi : i < 64) : (loV (lowL x k)).getLsbD i = (decide (i < 8 * k) && x.getLsbD i) := by
  induction k with
  | zero => simp [lowL, loV]
  | succ k ih =>
    rw [lowL, loV_snoc, BitVec.getLsbD_or, ih, lowL_length]
    simp only [BitVec.getLsbD_shiftLeft, BitVec.getLsbD_setWidth, BitVec.getLsbD_ushiftRight, hi, decide_true, Bool.true_and]
    by_cases h1 : i < 8 * k
    · simp [h1, show i < 8 * (k + 1) by omega]
    · rw [show 8 * k + (i - 8 * k) = i by omega]
      by_cases h2 : i < 8 * (k + 1)
      · simp [h1, h2, show i - 8 * k < 8 by omega, show i - 8 * k < 64 by omega]
      · simp [h1, h2, show ¬ i - 8 * k < 8 by omega]
theorem hiV_highL (x : BitVec 64) (k : Nat) (h : x.toNat < 256 ^ k) : hiV (highL x k) = x := by
  unfold hiV highL
  rw [List.reverse_reverse]
  apply BitVec.eq_of_getLsbD_eq
  intro i hi
  rw [loV_low x k i hi]
  by_cases h1 : i < 8 * k
  · simp [h1]
  · simp only [h1, decide_false, Bool.false_and]
    symm
    rw [BitVec.getLsbD, Nat.testBit_lt_two_pow]
    refine Nat.lt_of_lt_of_le h ?_
    rw [show (256 : Nat) = 2 ^ 8 from rfl, ← Nat.pow_mul]
    exact Nat.pow_le_pow_right (by omega) (by omega)
theorem num_back (n : BitVec 64) : hiV (highL n (needN n.toNat)) = n := hiV_highL n _ (needF_enough 8 _ n.isLt)
/-- A byte of the number of bytes. -/
theorem loV_bits (l : List UInt8) (i : Nat) (hi : i < 64) : (loV l).getLsbD i = (l.getD (i / 8) 0).toBitVec.getLsbD (i % 8) := by
  induction l generalizing i with
  | nil => simp [loV]
  | cons b l ih =>
    rw [loV, BitVec.getLsbD_or, BitVec.getLsbD_setWidth, BitVec.getLsbD_shiftLeft]
    by_cases h : i < 8
    · rw [Nat.div_eq_of_lt h, Nat.mod_eq_of_lt h]
      simp [h, hi]
    · rw [ih (i - 8) (by omega)]
      have e1 : i / 8 = (i - 8) / 8 + 1 := by omega
      have e2 : i % 8 = (i - 8) % 8 := by omega
      rw [e1, e2]
      have e3 : b.toBitVec.getLsbD i = false := BitVec.getLsbD_of_ge _ _ (by omega)
      simp [h, hi, e3]
theorem low_loV (l : List UInt8) (h : l.length ≤ 8) : lowL (loV l) l.length = l := by
  apply List.ext_getElem (lowL_length _ _)
  intro i h1 h2
  have g : ∀ (x : BitVec 64) (n i : Nat) (h : i < (lowL x n).length), (lowL x n)[i] = ⟨(x >>> (8 * i)).setWidth 8⟩ := by
    intro x n
    induction n with
    | zero => intro i h; simp [lowL] at h
    | succ n ih =>
      intro i h
      simp only [lowL]
      rw [List.getElem_append]
      split
      · exact ih _ _
      · rename_i h2
        rw [lowL_length] at h h2
        have : i = n := by omega
        subst this
        simp [lowL_length]
  rw [g]
  apply UInt8.toBitVec_inj.1
  apply BitVec.eq_of_getLsbD_eq
  intro j hj
  simp only [BitVec.getLsbD_setWidth, BitVec.getLsbD_ushiftRight]
  rw [loV_bits l _ (by omega), show (8 * i + j) / 8 = i by omega, show (8 * i + j) % 8 = j by omega]
  simp [hj, h2]
theorem high_hiV (l : List UInt8) (h : l.length ≤ 8) : highL (hiV l) l.length = l := by
  unfold highL hiV
  have := low_loV l.reverse (by simpa using h)
  rw [List.length_reverse] at this
  rw [this, List.reverse_reverse]
theorem hiV_lt (l : List UInt8) (_h : l.length ≤ 8) : (hiV l).toNat < 256 ^ l.length := by
  rw [show (256 : Nat) = 2 ^ 8 from rfl, ← Nat.pow_mul]
  refine Nat.lt_pow_two_of_testBit _ ?_
  intro i hi
  by_cases h64 : i < 64
  · have := loV_bits l.reverse i h64
    unfold BitVec.getLsbD at this
    unfold hiV
    rw [this, List.getD_eq_getElem?_getD, List.getElem?_eq_none (by rw [List.length_reverse]; omega)]
    simp
  · exact BitVec.getLsbD_of_ge (hiV l) i (by omega)
theorem need_hiV (l : List UInt8) (h : l.length ≤ 8) : needN (hiV l).toNat ≤ l.length := needF_least 8 _ _ (hiV_lt l h)

/-! ### What is taken -/
/-- Bytes that are left; is something wrong? -/
structure Rd where
  l : List UInt8
  bad : Bool
def Rd.broken : Rd := ⟨[], true⟩
/-- So many bytes, if they are there. -/
def takeR (r : Rd) (n : Nat) : List UInt8 × Rd :=
  if r.bad = true ∨ r.l.length < n then ([], Rd.broken) else (r.l.take n, ⟨r.l.drop n, false⟩)
/-- A number up to 'most'. -/
def numR (r : Rd) (most : BitVec 64) : BitVec 64 × Rd :=
  match r.bad, r.l with
  | false, h :: t =>
    if 8 < h.toNat ∨ t.length < h.toNat then (0#64, Rd.broken)
    else if needN (hiV (t.take h.toNat)).toNat ≠ h.toNat ∨ most < hiV (t.take h.toNat) then (0#64, Rd.broken)
    else (hiV (t.take h.toNat), ⟨t.drop h.toNat, false⟩)
  | _, _ => (0#64, Rd.broken)
def mostOf (most : Int) : BitVec 64 := BitVec.ofInt 64 (max most 0)
/-- A text of up to 'most' bytes. -/
def textR (r : Rd) (most : Int) : List UInt8 × Rd := takeR (numR r (mostOf most)).2 (numR r (mostOf most)).1.toNat
/-- So many texts; none, if something is wrong. -/
def textsR (most : Int) : Nat → Rd → Option (List (List UInt8)) × Rd
  | 0, r => (some [], r)
  | n + 1, r =>
    let t := textR r most
    if t.2.bad = true then (none, t.2)
    else match textsR most n t.2 with
      | (some ls, r') => (some (t.1 :: ls), r')
      | (none, r') => (none, r')
/-- Up to 'many' texts. -/
def listR (r : Rd) (many most : Int) : Option (List (List UInt8)) × Rd := textsR most (numR r (mostOf many)).1.toNat (numR r (mostOf many)).2
end Go.Proofs.Ytfglhemmccihfaa

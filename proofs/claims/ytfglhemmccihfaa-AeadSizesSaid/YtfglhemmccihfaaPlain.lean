/-
  What layer 1 computes, in plain words: bits turned round, a number's bytes, the number of bytes. No program.
-/
import Derived.Test.YtfglhemmccihfaaBase
namespace Go.Proofs.Ytfglhemmccihfaa

theorem take_step (s : ByteArray) (k : Nat) (h : k < s.size) : s.data.toList.take (k + 1) = s.data.toList.take k ++ [s[k]] := by
  rw [List.take_succ_eq_append_getElem (by rw [Array.length_toList]; exact h)]; rfl
theorem take_all (s : ByteArray) : s.data.toList.take s.size = s.data.toList := List.take_of_length_le (by rw [Array.length_toList]; exact Nat.le_refl _)

theorem getD_byte (s : ByteArray) (k : Nat) (h : k < s.size) : s.data.toList.getD k 0 = s[k] := by
  rw [List.getD_eq_getElem?_getD, List.getElem?_eq_getElem (by rw [Array.length_toList]; exact h)]; rfl

/-! ### Bits turned round -/
/-- To the left by n, whatever n's sign. -/
def rolI (x : BitVec 32) (n : Int) : BitVec 32 := x.rotateLeft (n % 32).toNat
/-- To the right by n. -/
def rorI (x : BitVec 32) (n : Int) : BitVec 32 := x.rotateLeft ((-n) % 32).toNat

theorem rol_or (x : BitVec 32) (k : Nat) (h : k < 32) : x <<< k ||| x >>> (32 - k) = x.rotateLeft k := by
  rw [BitVec.rotateLeft_def, Nat.mod_eq_of_lt h]
theorem shr_full (x : BitVec 32) : x >>> 32 = 0#32 := by
  apply BitVec.eq_of_toNat_eq
  rw [BitVec.toNat_ushiftRight, Nat.shiftRight_eq_div_pow]
  simpa using x.isLt
theorem rol_zero (x : BitVec 32) : x.rotateLeft 0 = x := by
  rw [BitVec.rotateLeft_def]; simp [shr_full]
theorem rol_full (x : BitVec 32) : x.rotateLeft 32 = x := by
  rw [BitVec.rotateLeft_def]; simp [shr_full]
theorem rol_mod (x : BitVec 32) (k : Nat) : x.rotateLeft (k % 32) = x.rotateLeft k := by
  simp [BitVec.rotateLeft_mod_eq_rotateLeft]
theorem rol_bit (x : BitVec 32) (k i : Nat) (hk : k < 32) (hi : i < 32) : (x.rotateLeft k).getLsbD i = x.getLsbD ((i + (32 - k)) % 32) := by
  rw [BitVec.getLsbD_rotateLeft, Nat.mod_eq_of_lt hk]
  by_cases h : i < k
  · rw [show (i + (32 - k)) % 32 = 32 - k + i by omega]
    simp [h]
  · rw [show (i + (32 - k)) % 32 = i - k by omega]
    simp [h, hi]
theorem rol_rol (x : BitVec 32) (a b : Nat) : (x.rotateLeft a).rotateLeft b = x.rotateLeft (a + b) := by
  rw [← rol_mod x a, ← rol_mod _ b, ← rol_mod x (a + b)]
  have ha : a % 32 < 32 := Nat.mod_lt _ (by omega)
  have hb : b % 32 < 32 := Nat.mod_lt _ (by omega)
  have hc : (a + b) % 32 < 32 := Nat.mod_lt _ (by omega)
  apply BitVec.eq_of_getLsbD_eq
  intro i hi
  rw [rol_bit _ _ _ hb hi, rol_bit _ _ _ ha (Nat.mod_lt _ (by omega)), rol_bit _ _ _ hc hi]
  congr 1
  omega
/-- One bit to the left, as 'x*2 + x/2^31'. -/
theorem rol_one (x : BitVec 32) : x * 2#32 + x / 2147483648#32 = x.rotateLeft 1 := by
  rw [← rol_or x 1 (by omega)]
  apply BitVec.eq_of_toNat_eq
  have hx := x.isLt
  rw [← BitVec.add_eq_or_of_and_eq_zero]
  · simp only [BitVec.toNat_add, BitVec.toNat_mul, BitVec.toNat_udiv, BitVec.toNat_shiftLeft, BitVec.toNat_ushiftRight, BitVec.toNat_ofNat, Nat.shiftLeft_eq, Nat.shiftRight_eq_div_pow]
  · apply BitVec.eq_of_getLsbD_eq
    intro i hi
    simp
    intro h1 h2 h3
    exact BitVec.getLsbD_of_ge _ _ (by omega)

/-! ### A number's bytes -/
/-- n bytes from the low end. -/
def lowL (x : BitVec 64) : Nat → List UInt8
  | 0 => []
  | k + 1 => lowL x k ++ [⟨(x >>> (8 * k)).setWidth 8⟩]
/-- How many bytes are told. -/
def cut (n : Int) : Nat := (min (max n 0) 64).toNat
theorem lowL_length (x : BitVec 64) (n : Nat) : (lowL x n).length = n := by induction n <;> simp_all [lowL]
/-- from the high end. -/
def highL (x : BitVec 64) (n : Nat) : List UInt8 := (lowL x n).reverse
theorem highL_length (x : BitVec 64) (n : Nat) : (highL x n).length = n := by simp [highL, lowL_length]
/-- The number of bytes from the low end. -/
def loV : List UInt8 → BitVec 64
  | [] => 0#64
  | b :: l => (loV l <<< 8) ||| b.toBitVec.setWidth 64
/-- from the high end. -/
def hiV (l : List UInt8) : BitVec 64 := loV l.reverse
theorem hiV_snoc (l : List UInt8) (b : UInt8) : hiV (l ++ [b]) = (hiV l <<< 8) ||| b.toBitVec.setWidth 64 := by
  simp [hiV, loV]
theorem loV_snoc (l : List UInt8) (b : UInt8) : loV (l ++ [b]) = loV l ||| (b.toBitVec.setWidth 64 <<< (8 * l.length)) := by
  induction l with
  | nil => simp [loV]
  | cons c l ih =>
    simp only [List.cons_append, loV, ih, List.length_cons]
    rw [BitVec.shiftLeft_or_distrib, ← BitVec.shiftLeft_add]
    rw [show 8 * l.length + 8 = 8 * (l.length + 1) by omega]
    rw [BitVec.or_assoc, BitVec.or_comm (_ <<< _) (BitVec.setWidth 64 c.toBitVec), ← BitVec.or_assoc]
/-- 'x*256 + b'. -/
theorem mul_add_byte (x : BitVec 64) (b : UInt8) : x * 256#64 + b.toBitVec.setWidth 64 = (x <<< 8) ||| b.toBitVec.setWidth 64 := by
  rw [← BitVec.add_eq_or_of_and_eq_zero]
  · congr 1
    apply BitVec.eq_of_toNat_eq
    simp [Nat.shiftLeft_eq]
  · apply BitVec.eq_of_getLsbD_eq
    intro i hi
    simp
    intro h1 h2 h3 h4
    exact BitVec.getLsbD_of_ge _ _ h2

/-! ### The row that 'bytes' fills, and its turning -/
def lowA (x : BitVec 64) (n k : Nat) : Array Value := (cells (lowL x k) ++ List.replicate (n - k) (Value.int .u8 0)).toArray
theorem lowA_at (x : BitVec 64) (n k : Nat) (h : k < n) : (lowA x n k)[k]? = some (Value.int .u8 0) := by
  have hl : (cells (lowL x k)).length = k := by rw [cells_length, lowL_length]
  simp only [lowA, List.getElem?_toArray]
  rw [List.getElem?_append_right (by omega), hl, List.getElem?_replicate]
  simp; omega
theorem lowA_set (x : BitVec 64) (n k : Nat) (h : k < n) : (lowA x n k).setIfInBounds k (Value.int .u8 (bvi ((x >>> (8 * k)).setWidth 8))) = lowA x n (k + 1) := by
  have hl : (cells (lowL x k)).length = k := by rw [cells_length, lowL_length]
  simp only [lowA, List.setIfInBounds_toArray]
  congr 1
  rw [List.set_append_right _ _ (by omega), hl, Nat.sub_self, lowL, cells_append, List.append_assoc]
  congr 1
  rw [show n - k = (n - (k + 1)) + 1 by omega, List.replicate_succ]
  rfl
theorem lowA_full (x : BitVec 64) (n : Nat) : lowA x n n = (cells (lowL x n)).toArray := by simp [lowA]
theorem madeCells_one (v : Value) (n : Nat) : madeCells #[v] n = Array.replicate n v := by
  unfold madeCells
  apply Array.ext
  · simp
  · intro i h1 h2
    simp [Nat.mod_one]
theorem lowA_zero (x : BitVec 64) (n : Nat) : lowA x n 0 = madeCells #[Value.int .u8 0] n := by
  rw [madeCells_one]
  simp [lowA, lowL, cells]

/-- A list whose first k and last k places are turned round. -/
def swL (l : List UInt8) (k : Nat) : List UInt8 := (List.range l.length).map fun j => if j < k ∨ l.length ≤ j + k then l.getD (l.length - 1 - j) 0 else l.getD j 0
theorem swL_length (l : List UInt8) (k : Nat) : (swL l k).length = l.length := by simp [swL]
theorem swL_get (l : List UInt8) (k j : Nat) (h : j < (swL l k).length) : (swL l k)[j] = if j < k ∨ l.length ≤ j + k then l.getD (l.length - 1 - j) 0 else l.getD j 0 := by simp [swL]
theorem swL_zero (l : List UInt8) : swL l 0 = l := by
  apply List.ext_getElem (swL_length l 0)
  intro i h1 h2
  rw [swL_get, if_neg (by simp; omega)]
  simp [List.getD, h2]
theorem swL_full (l : List UInt8) : swL l (l.length / 2) = l.reverse := by
  apply List.ext_getElem (by simp [swL_length])
  intro i h1 h2
  have hi : i < l.length := by simpa using h2
  rw [swL_get, List.getElem_reverse]
  split
  · simp [List.getD, show l.length - 1 - i < l.length by omega]
  · rename_i h
    have : l.length - 1 - i = i := by omega
    simp [List.getD, hi, this]
theorem swL_at (l : List UInt8) (k : Nat) (h : 2 * k + 1 < l.length) : (swL l k)[k]'(by rw [swL_length]; omega) = l.getD k 0 ∧ (swL l k)[l.length - 1 - k]'(by rw [swL_length]; omega) = l.getD (l.length - 1 - k) 0 := by
  rw [swL_get, swL_get, if_neg (by omega), if_neg (by omega)]
  exact ⟨rfl, rfl⟩
theorem swL_step (l : List UInt8) (k : Nat) (h : 2 * k + 1 < l.length) :
    ((swL l k).set k (l.getD (l.length - 1 - k) 0)).set (l.length - 1 - k) (l.getD k 0) = swL l (k + 1) := by
  apply List.ext_getElem (by simp [swL_length])
  intro i h1 h2
  have hi : i < l.length := by rw [swL_length] at h2; exact h2
  rw [swL_get, List.getElem_set, List.getElem_set]
  by_cases e1 : l.length - 1 - k = i
  · rw [if_pos e1, if_pos (by omega)]
    congr 1; omega
  · rw [if_neg e1]
    by_cases e2 : k = i
    · rw [if_pos e2, if_pos (by omega), e2]
    · rw [if_neg e2, swL_get]
      by_cases e3 : i < k ∨ l.length ≤ i + k
      · rw [if_pos e3, if_pos (by omega)]
      · rw [if_neg e3, if_neg (by omega)]

/-- Bytes turned by others, of which the first k are done. -/
def mixL (a b : List UInt8) (k : Nat) : List UInt8 := (List.range a.length).map fun j => if j < k then a.getD j 0 ^^^ b.getD j 0 else a.getD j 0
def xorL (a b : List UInt8) : List UInt8 := List.zipWith (· ^^^ ·) a b
theorem mixL_length (a b : List UInt8) (k : Nat) : (mixL a b k).length = a.length := by simp [mixL]
theorem mixL_get (a b : List UInt8) (k j : Nat) (_h : j < (mixL a b k).length) : (mixL a b k)[j] = if j < k then a.getD j 0 ^^^ b.getD j 0 else a.getD j 0 := by simp [mixL]
theorem mixL_zero (a b : List UInt8) : mixL a b 0 = a := by
  apply List.ext_getElem (mixL_length a b 0)
  intro i h1 h2
  rw [mixL_get]; simp [h2]
theorem mixL_full (a b : List UInt8) (h : a.length = b.length) : mixL a b a.length = xorL a b := by
  apply List.ext_getElem (by simp [mixL_length, xorL, h])
  intro i h1 h2
  have hi : i < a.length := by rw [mixL_length] at h1; exact h1
  rw [mixL_get, if_pos hi]
  simp [xorL, hi, h ▸ hi]
theorem mixL_step (a b : List UInt8) (k : Nat) : (mixL a b k).set k (a.getD k 0 ^^^ b.getD k 0) = mixL a b (k + 1) := by
  apply List.ext_getElem (by simp [mixL_length])
  intro i h1 h2
  rw [mixL_get, List.getElem_set]
  by_cases e : k = i
  · subst e; simp
  · rw [if_neg e, mixL_get]
    by_cases e2 : i < k
    · rw [if_pos e2, if_pos (by omega)]
    · rw [if_neg e2, if_neg (by omega)]

/-- Bytes 0 behind, up to a multiple of n. -/
def fillL (l : List UInt8) (n : Int) : List UInt8 := if n < 1 then l else l ++ List.replicate ((-(l.length : Int)) % n).toNat 0
theorem fill_none (l : List UInt8) (n : Int) (h : 1 ≤ n) (h0 : (l.length : Int) % n = 0) : fillL l n = l := by
  unfold fillL
  rw [if_neg (by omega), Int.neg_emod, if_pos (Int.dvd_of_emod_eq_zero h0)]
  simp
theorem fill_some (l : List UInt8) (n : Int) (h : 1 ≤ n) (h0 : (l.length : Int) % n ≠ 0) : fillL l n = l ++ List.replicate (n - (l.length : Int) % n).toNat 0 := by
  unfold fillL
  rw [if_neg (by omega), Int.neg_emod, if_neg (fun e => h0 (Int.emod_eq_zero_of_dvd e))]
  congr 3
  omega

end Go.Proofs.Ytfglhemmccihfaa

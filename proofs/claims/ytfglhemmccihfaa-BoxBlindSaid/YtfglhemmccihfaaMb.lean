/-
What layer 1 computes, in plain words: bits turned round, a number's bytes, the number of bytes. No program.
What layer 4 (chacha) computes, in plain words. No program.
What layer 5 (poly) computes, in plain words: numbers of bytes, and numbers in five parts of 26 bits. No program.
What layer 12 (pack) computes, in plain words. No program.
What layer 6 (aead) computes, in plain words. No program.
A slice's strings, as the walks know them.
Numbers as digits of 256, the lowest one first: what layer 5's reference computes. No program.
What layer 2 (sha) computes, in plain words. No program.
What layer 3 (mac) computes, in plain words. No program.
What layer 7 (box) computes, in plain words. No program.
-/
import Derived.Test.YtfglhemmccihfaaMa
namespace Go.Proofs.Ytfglhemmccihfaa

theorem take_step (s : ByteArray) (k : Nat) (h : k < s.size) : s.data.toList.take (k + 1) = s.data.toList.take k ++ [s[k]] := by
  rw [List.take_succ_eq_append_getElem (by rw [Array.length_toList]; exact h)]; rfl
theorem take_all (s : ByteArray) : s.data.toList.take s.size = s.data.toList := List.take_of_length_le (by rw [Array.length_toList]; exact Nat.le_refl _)

theorem getD_byte (s : ByteArray) (k : Nat) (h : k < s.size) : s.data.toList.getD k 0 = s[k] := by
  rw [List.getD_eq_getElem?_getD, List.getElem?_eq_getElem (by rw [Array.length_toList]; exact h)]; rfl

/-! ### Bits turned round -/
/-- To the left by n, whatever n's sign. -/
def rolI (x : BitVec 32) (n : Int) : BitVec 32 := x.rotateLeft (n % 32).toNat
/-- To the right by n. -/
def rorI (x : BitVec 32) (n : Int) : BitVec 32 := x.rotateLeft ((-n) % 32).toNat

theorem rol_or (x : BitVec 32) (k : Nat) (h : k < 32) : x <<< k ||| x >>> (32 - k) = x.rotateLeft k := by
  rw [BitVec.rotateLeft_def, Nat.mod_eq_of_lt h]
theorem shr_full (x : BitVec 32) : x >>> 32 = 0#32 := by
  apply BitVec.eq_of_toNat_eq
  rw [BitVec.toNat_ushiftRight, Nat.shiftRight_eq_div_pow]
  simpa using x.isLt
theorem rol_zero (x : BitVec 32) : x.rotateLeft 0 = x := by
  rw [BitVec.rotateLeft_def]; simp [shr_full]
theorem rol_full (x : BitVec 32) : x.rotateLeft 32 = x := by
  rw [BitVec.rotateLeft_def]; simp [shr_full]
theorem rol_mod (x : BitVec 32) (k : Nat) : x.rotateLeft (k % 32) = x.rotateLeft k := by
  simp [BitVec.rotateLeft_mod_eq_rotateLeft]
theorem rol_bit (x : BitVec 32) (k i : Nat) (hk : k < 32) (hi : i < 32) : (x.rotateLeft k).getLsbD i = x.getLsbD ((i + (32 - k)) % 32) := by
  rw [BitVec.getLsbD_rotateLeft, Nat.mod_eq_of_lt hk]
  by_cases h : i < k
  · rw [show (i + (32 - k)) % 32 = 32 - k + i by omega]
    simp [h]
  · rw [show (i + (32 - k)) % 32 = i - k by omega]
    simp [h, hi]
theorem rol_rol (x : BitVec 32) (a b : Nat) : (x.rotateLeft a).rotateLeft b = x.rotateLeft (a + b) := by
  rw [← rol_mod x a, ← rol_mod _ b, ← rol_mod x (a + b)]
  have ha : a % 32 < 32 := Nat.mod_lt _ (by omega)
  have hb : b % 32 < 32 := Nat.mod_lt _ (by omega)
  have hc : (a + b) % 32 < 32 := Nat.mod_lt _ (by omega)
  apply BitVec.eq_of_getLsbD_eq
  intro i hi
  rw [rol_bit _ _ _ hb hi, rol_bit _ _ _ ha (Nat.mod_lt _ (by omega)), rol_bit _ _ _ hc hi]
  congr 1
  omega
/-- One bit to the left, as 'x*2 + x/2^31'. -/
theorem rol_one (x : BitVec 32) : x * 2#32 + x / 2147483648#32 = x.rotateLeft 1 := by
  rw [← rol_or x 1 (by omega)]
  apply BitVec.eq_of_toNat_eq
  have hx := x.isLt
  rw [← BitVec.add_eq_or_of_and_eq_zero]
  · simp only [BitVec.toNat_add, BitVec.toNat_mul, BitVec.toNat_udiv, BitVec.toNat_shiftLeft, BitVec.toNat_ushiftRight, BitVec.toNat_ofNat, Nat.shiftLeft_eq, Nat.shiftRight_eq_div_pow]
  · apply BitVec.eq_of_getLsbD_eq
    intro i hi
    simp
    intro h1 h2 h3
    exact BitVec.getLsbD_of_ge _ _ (by omega)

/-! ### A number's bytes -/
/-- n bytes from the low end. -/
def lowL (x : BitVec 64) : Nat → List UInt8
  | 0 => []
  | k + 1 => lowL x k ++ [⟨(x >>> (8 * k)).setWidth 8⟩]
/-- How many bytes are told. -/
def cut (n : Int) : Nat := (min (max n 0) 64).toNat
theorem lowL_length (x : BitVec 64) (n : Nat) : (lowL x n).length = n := by induction n <;> simp_all [lowL]
/-- from the high end. -/
def highL (x : BitVec 64) (n : Nat) : List UInt8 := (lowL x n).reverse
theorem highL_length (x : BitVec 64) (n : Nat) : (highL x n).length = n := by simp [highL, lowL_length]
/-- The number of bytes from the low end. -/
def loV : List UInt8 → BitVec 64
  | [] => 0#64
  | b :: l => (loV l <<< 8) ||| b.toBitVec.setWidth 64
/-- from the high end. -/
def hiV (l : List UInt8) : BitVec 64 := loV l.reverse
theorem hiV_snoc (l : List UInt8) (b : UInt8) : hiV (l ++ [b]) = (hiV l <<< 8) ||| b.toBitVec.setWidth 64 := by
  simp [hiV, loV]
theorem loV_snoc (l : List UInt8) (b : UInt8) : loV (l ++ [b]) = loV l ||| (b.toBitVec.setWidth 64 <<< (8 * l.length)) := by
  induction l with
  | nil => simp [loV]
  | cons c l ih =>
    simp only [List.cons_append, loV, ih, List.length_cons]
    rw [BitVec.shiftLeft_or_distrib, ← BitVec.shiftLeft_add]
    rw [show 8 * l.length + 8 = 8 * (l.length + 1) by omega]
    rw [BitVec.or_assoc, BitVec.or_comm (_ <<< _) (BitVec.setWidth 64 c.toBitVec), ← BitVec.or_assoc]
/-- 'x*256 + b'. -/
theorem mul_add_byte (x : BitVec 64) (b : UInt8) : x * 256#64 + b.toBitVec.setWidth 64 = (x <<< 8) ||| b.toBitVec.setWidth 64 := by
  rw [← BitVec.add_eq_or_of_and_eq_zero]
  · congr 1
    apply BitVec.eq_of_toNat_eq
    simp [Nat.shiftLeft_eq]
  · apply BitVec.eq_of_getLsbD_eq
    intro i hi
    simp
    intro h1 h2 h3 h4
    exact BitVec.getLsbD_of_ge _ _ h2

/-! ### The row that 'bytes' fills, and its turning -/
def lowA (x : BitVec 64) (n k : Nat) : Array Value := (cells (lowL x k) ++ List.replicate (n - k) (Value.int .u8 0)).toArray
theorem lowA_at (x : BitVec 64) (n k : Nat) (h : k < n) : (lowA x n k)[k]? = some (Value.int .u8 0) := by
  have hl : (cells (lowL x k)).length = k := by rw [cells_length, lowL_length]
  simp only [lowA, List.getElem?_toArray]
  rw [List.getElem?_append_right (by omega), hl, List.getElem?_replicate]
  simp; omega
theorem lowA_set (x : BitVec 64) (n k : Nat) (h : k < n) : (lowA x n k).setIfInBounds k (Value.int .u8 (bvi ((x >>> (8 * k)).setWidth 8))) = lowA x n (k + 1) := by
  have hl : (cells (lowL x k)).length = k := by rw [cells_length, lowL_length]
  simp only [lowA, List.setIfInBounds_toArray]
  congr 1
  rw [List.set_append_right _ _ (by omega), hl, Nat.sub_self, lowL, cells_append, List.append_assoc]
  congr 1
  rw [show n - k = (n - (k + 1)) + 1 by omega, List.replicate_succ]
  rfl
theorem lowA_full (x : BitVec 64) (n : Nat) : lowA x n n = (cells (lowL x n)).toArray := by simp [lowA]
theorem madeCells_one (v : Value) (n : Nat) : madeCells #[v] n = Array.replicate n v := by
  unfold madeCells
  apply Array.ext
  · simp
  · intro i h1 h2
    simp [Nat.mod_one]
theorem lowA_zero (x : BitVec 64) (n : Nat) : lowA x n 0 = madeCells #[Value.int .u8 0] n := by
  rw [madeCells_one]
  simp [lowA, lowL, cells]

/-- A list whose first k and last k places are turned round. -/
def swL (l : List UInt8) (k : Nat) : List UInt8 := (List.range l.length).map fun j => if j < k ∨ l.length ≤ j + k then l.getD (l.length - 1 - j) 0 else l.getD j 0
theorem swL_length (l : List UInt8) (k : Nat) : (swL l k).length = l.length := by simp [swL]
theorem swL_get (l : List UInt8) (k j : Nat) (h : j < (swL l k).length) : (swL l k)[j] = if j < k ∨ l.length ≤ j + k then l.getD (l.length - 1 - j) 0 else l.getD j 0 := by simp [swL]
theorem swL_zero (l : List UInt8) : swL l 0 = l := by
  apply List.ext_getElem (swL_length l 0)
  intro i h1 h2
  rw [swL_get, if_neg (by simp; omega)]
  simp [List.getD, h2]
theorem swL_full (l : List UInt8) : swL l (l.length / 2) = l.reverse := by
  apply List.ext_getElem (by simp [swL_length])
  intro i h1 h2
  have hi : i < l.length := by simpa using h2
  rw [swL_get, List.getElem_reverse]
  split
  · simp [List.getD, show l.length - 1 - i < l.length by omega]
  · rename_i h
    have : l.length - 1 - i = i := by omega
    simp [List.getD, hi, this]
theorem swL_at (l : List UInt8) (k : Nat) (h : 2 * k + 1 < l.length) : (swL l k)[k]'(by rw [swL_length]; omega) = l.getD k 0 ∧ (swL l k)[l.length - 1 - k]'(by rw [swL_length]; omega) = l.getD (l.length - 1 - k) 0 := by
  rw [swL_get, swL_get, if_neg (by omega), if_neg (by omega)]
  exact ⟨rfl, rfl⟩
theorem swL_step (l : List UInt8) (k : Nat) (h : 2 * k + 1 < l.length) :
    ((swL l k).set k (l.getD (l.length - 1 - k) 0)).set (l.length - 1 - k) (l.getD k 0) = swL l (k + 1) := by
  apply List.ext_getElem (by simp [swL_length])
  intro i h1 h2
  have hi : i < l.length := by rw [swL_length] at h2; exact h2
  rw [swL_get, List.getElem_set, List.getElem_set]
  by_cases e1 : l.length - 1 - k = i
  · rw [if_pos e1, if_pos (by omega)]
    congr 1; omega
  · rw [if_neg e1]
    by_cases e2 : k = i
    · rw [if_pos e2, if_pos (by omega), e2]
    · rw [if_neg e2, swL_get]
      by_cases e3 : i < k ∨ l.length ≤ i + k
      · rw [if_pos e3, if_pos (by omega)]
      · rw [if_neg e3, if_neg (by omega)]

/-- Bytes turned by others, of which the first k are done. -/
def mixL (a b : List UInt8) (k : Nat) : List UInt8 := (List.range a.length).map fun j => if j < k then a.getD j 0 ^^^ b.getD j 0 else a.getD j 0
def xorL (a b : List UInt8) : List UInt8 := List.zipWith (· ^^^ ·) a b
theorem mixL_length (a b : List UInt8) (k : Nat) : (mixL a b k).length = a.length := by simp [mixL]
theorem mixL_get (a b : List UInt8) (k j : Nat) (_h : j < (mixL a b k).length) : (mixL a b k)[j] = if j < k then a.getD j 0 ^^^ b.getD j 0 else a.getD j 0 := by simp [mixL]
theorem mixL_zero (a b : List UInt8) : mixL a b 0 = a := by
  apply List.ext_getElem (mixL_length a b 0)
  intro i h1 h2
  rw [mixL_get]; simp [h2]
theorem mixL_full (a b : List UInt8) (h : a.length = b.length) : mixL a b a.length = xorL a b := by
  apply List.ext_getElem (by simp [mixL_length, xorL, h])
  intro i h1 h2
  have hi : i < a.length := by rw [mixL_length] at h1; exact h1
  rw [mixL_get, if_pos hi]
  simp [xorL, hi, h ▸ hi]
theorem mixL_step (a b : List UInt8) (k : Nat) : (mixL a b k).set k (a.getD k 0 ^^^ b.getD k 0) = mixL a b (k + 1) := by
  apply List.ext_getElem (by simp [mixL_length])
  intro i h1 h2
  rw [mixL_get, List.getElem_set]
  by_cases e : k = i
  · subst e; simp
  · rw [if_neg e, mixL_get]
    by_cases e2 : i < k
    · rw [if_pos e2, if_pos (by omega)]
    · rw [if_neg e2, if_neg (by omega)]

/-- Bytes 0 behind, up to a multiple of n. -/
def fillL (l : List UInt8) (n : Int) : List UInt8 := if n < 1 then l else l ++ List.replicate ((-(l.length : Int)) % n).toNat 0
theorem fill_none (l : List UInt8) (n : Int) (h : 1 ≤ n) (h0 : (l.length : Int) % n = 0) : fillL l n = l := by
  unfold fillL
  rw [if_neg (by omega), Int.neg_emod, if_pos (Int.dvd_of_emod_eq_zero h0)]
  simp
theorem fill_some (l : List UInt8) (n : Int) (h : 1 ≤ n) (h0 : (l.length : Int) % n ≠ 0) : fillL l n = l ++ List.replicate (n - (l.length : Int) % n).toNat 0 := by
  unfold fillL
  rw [if_neg (by omega), Int.neg_emod, if_neg (fun e => h0 (Int.emod_eq_zero_of_dvd e))]
  congr 3
  omega

end Go.Proofs.Ytfglhemmccihfaa
namespace Go.Proofs.Ytfglhemmccihfaa

/-- Four numbers stirred. -/
def stir4 (a b c d : BitVec 32) : List (BitVec 32) :=
  let a1 := a + b
  let d1 := rolI (d ^^^ a1) 16
  let c1 := c + d1
  let b1 := rolI (b ^^^ c1) 12
  let a2 := a1 + b1
  let d2 := rolI (d1 ^^^ a2) 8
  let c2 := c1 + d2
  let b2 := rolI (b1 ^^^ c2) 7
  [a2, b2, c2, d2]
theorem stir4_length (a b c d : BitVec 32) : (stir4 a b c d).length = 4 := rfl
/-- Of sixteen numbers, four are stirred. -/
def stirAt (s : List (BitVec 32)) (p : Nat × Nat × Nat × Nat) : List (BitVec 32) :=
  let q := stir4 (s.getD p.1 0) (s.getD p.2.1 0) (s.getD p.2.2.1 0) (s.getD p.2.2.2 0)
  (((s.set p.1 (q.getD 0 0)).set p.2.1 (q.getD 1 0)).set p.2.2.1 (q.getD 2 0)).set p.2.2.2 (q.getD 3 0)
theorem stirAt_length (s : List (BitVec 32)) (p : Nat × Nat × Nat × Nat) : (stirAt s p).length = s.length := by simp [stirAt]
def placesL : List (Nat × Nat × Nat × Nat) :=
  [(0, 4, 8, 12), (1, 5, 9, 13), (2, 6, 10, 14), (3, 7, 11, 15), (0, 5, 10, 15), (1, 6, 11, 12), (2, 7, 8, 13), (3, 4, 9, 14)]
/-- So many steps of a double round. -/
def stepsL (s : List (BitVec 32)) (k : Nat) : List (BitVec 32) := (placesL.take k).foldl stirAt s
theorem stepsL_length (s : List (BitVec 32)) (k : Nat) : (stepsL s k).length = s.length := by
  unfold stepsL
  generalize placesL.take k = l
  induction l generalizing s with
  | nil => rfl
  | cons p l ih => rw [List.foldl_cons, ih, stirAt_length]
def doubleL (s : List (BitVec 32)) : List (BitVec 32) := stepsL s 8
theorem stepsL_succ (s : List (BitVec 32)) (k : Nat) (h : k < placesL.length) : stepsL s (k + 1) = stirAt (stepsL s k) placesL[k] := by
  unfold stepsL
  rw [List.take_succ_eq_append_getElem h, List.foldl_append]
  rfl
/-- So many double rounds. -/
def roundsL (s : List (BitVec 32)) : Nat → List (BitVec 32)
  | 0 => s
  | k + 1 => doubleL (roundsL s k)
theorem roundsL_length (s : List (BitVec 32)) (k : Nat) : (roundsL s k).length = s.length := by
  induction k with
  | zero => rfl
  | succ k ih => unfold roundsL doubleL; rw [stepsL_length, ih]
def sigmaL : List UInt8 := [101, 120, 112, 97, 110, 100, 32, 51, 50, 45, 98, 121, 116, 101, 32, 107]
/-- The text whose numbers begin a block. -/
def headL (key : List UInt8) (counter : BitVec 32) (nonce : List UInt8) : List UInt8 := sigmaL ++ key ++ lowL (counter.setWidth 64) 4 ++ nonce
def numAt (text : List UInt8) (i : Nat) : BitVec 32 := (loV ((text.drop (4 * i)).take 4)).setWidth 32
def beginL (key : List UInt8) (counter : BitVec 32) (nonce : List UInt8) : List (BitVec 32) := (List.range 16).map (numAt (headL key counter nonce))
theorem beginL_length (key : List UInt8) (counter : BitVec 32) (nonce : List UInt8) : (beginL key counter nonce).length = 16 := by simp [beginL]
def sumAt (s f : List (BitVec 32)) (i : Nat) : List UInt8 := lowL ((s.getD i 0 + f.getD i 0).setWidth 64) 4
def outL (s f : List (BitVec 32)) (k : Nat) : List UInt8 := (List.range k).flatMap (sumAt s f)
theorem outL_succ (s f : List (BitVec 32)) (k : Nat) : outL s f (k + 1) = outL s f k ++ sumAt s f k := by
  simp [outL, List.range_succ]
theorem outL_length (s f : List (BitVec 32)) (k : Nat) : (outL s f k).length = 4 * k := by
  induction k with
  | zero => rfl
  | succ k ih => rw [outL_succ, List.length_append, ih]; simp [sumAt, lowL_length]; omega
/-- A block. -/
def blockL (key : List UInt8) (counter : BitVec 32) (nonce : List UInt8) : List UInt8 :=
  outL (roundsL (beginL key counter nonce) 10) (beginL key counter nonce) 16
theorem blockL_length (key : List UInt8) (counter : BitVec 32) (nonce : List UInt8) : (blockL key counter nonce).length = 64 := by
  unfold blockL; rw [outL_length]
/-- So many blocks. -/
def blocksL (key : List UInt8) (counter : BitVec 32) (nonce : List UInt8) : Nat → List UInt8
  | 0 => []
  | k + 1 => blocksL key counter nonce k ++ blockL key (counter + BitVec.ofNat 32 k) nonce
theorem blocksL_length (key : List UInt8) (counter : BitVec 32) (nonce : List UInt8) (k : Nat) : (blocksL key counter nonce k).length = 64 * k := by
  induction k with
  | zero => rfl
  | succ k ih => rw [blocksL, List.length_append, ih, blockL_length]; omega
/-- Bytes of a stream. -/
def streamL (key : List UInt8) (counter : BitVec 32) (nonce : List UInt8) (n : Nat) : List UInt8 := (blocksL key counter nonce ((n + 63) / 64)).take n
theorem streamL_length (key : List UInt8) (counter : BitVec 32) (nonce : List UInt8) (n : Nat) : (streamL key counter nonce n).length = n := by
  unfold streamL; rw [List.length_take, blocksL_length]; omega
theorem blocksL_add (key : List UInt8) (counter : BitVec 32) (nonce : List UInt8) (a b : Nat) :
    blocksL key counter nonce (a + b) = blocksL key counter nonce a ++ blocksL key (counter + BitVec.ofNat 32 a) nonce b := by
  induction b with
  | zero => simp [blocksL]
  | succ b ih =>
    rw [← Nat.add_assoc, blocksL, ih, blocksL, List.append_assoc, BitVec.add_assoc, BitVec.ofNat_add]
/-- Fewer bytes are the beginning of more. -/
theorem streamL_take (key : List UInt8) (counter : BitVec 32) (nonce : List UInt8) (n m : Nat) (h : n ≤ m) : (streamL key counter nonce m).take n = streamL key counter nonce n := by
  unfold streamL
  rw [List.take_take, Nat.min_eq_left h]
  obtain ⟨d, hd⟩ : ∃ d, (m + 63) / 64 = (n + 63) / 64 + d := ⟨(m + 63) / 64 - (n + 63) / 64, by omega⟩
  rw [hd, blocksL_add, List.take_append_of_le_length (by rw [blocksL_length]; omega)]
/-- A stream from a later counter on is the rest of one. -/
theorem streamL_drop (key : List UInt8) (counter : BitVec 32) (nonce : List UInt8) (b n : Nat) :
    (streamL key counter nonce (64 * b + n)).drop (64 * b) = streamL key (counter + BitVec.ofNat 32 b) nonce n := by
  unfold streamL
  rw [show (64 * b + n + 63) / 64 = b + (n + 63) / 64 by omega, blocksL_add, List.drop_take, List.drop_left' (by rw [blocksL_length]), Nat.add_sub_cancel_left]
/-- A text turned by a stream. -/
def turnL (key : List UInt8) (counter : BitVec 32) (nonce text : List UInt8) : List UInt8 := xorL text (streamL key counter nonce text.length)
theorem xorL_length (a b : List UInt8) (h : a.length = b.length) : (xorL a b).length = a.length := by simp [xorL, h]
theorem turnL_length (key : List UInt8) (counter : BitVec 32) (nonce text : List UInt8) : (turnL key counter nonce text).length = text.length := xorL_length _ _ (streamL_length ..).symm
theorem xorL_twice (a b : List UInt8) (h : a.length = b.length) : xorL (xorL a b) b = a := by
  induction a generalizing b with
  | nil => simp [xorL]
  | cons x a ih =>
    cases b with
    | nil => simp at h
    | cons y b =>
      have := ih b (by simpa using h)
      simp only [xorL, List.zipWith_cons_cons] at this ⊢
      rw [this, UInt8.xor_assoc, UInt8.xor_self, UInt8.xor_zero]
theorem turnL_twice (key : List UInt8) (counter : BitVec 32) (nonce text : List UInt8) : turnL key counter nonce (turnL key counter nonce text) = text := by
  show xorL (turnL key counter nonce text) (streamL key counter nonce (turnL key counter nonce text).length) = text
  rw [turnL_length]
  exact xorL_twice _ _ (streamL_length ..).symm
theorem xorL_zero (b : List UInt8) : xorL (List.replicate b.length 0) b = b := by
  induction b with
  | nil => rfl
  | cons y b ih => rw [List.length_cons, List.replicate_succ]; unfold xorL at ih ⊢; rw [List.zipWith_cons_cons, ih, UInt8.zero_xor]
theorem turnL_zero (key : List UInt8) (counter : BitVec 32) (nonce : List UInt8) (n : Nat) : turnL key counter nonce (List.replicate n 0) = streamL key counter nonce n := by
  unfold turnL
  rw [List.length_replicate]
  conv => lhs; lhs; rw [← streamL_length key counter nonce n]
  exact xorL_zero _
end Go.Proofs.Ytfglhemmccihfaa
namespace Go.Proofs.Ytfglhemmccihfaa

/-! ### Numbers of bytes, from the low end -/
def leV : List UInt8 → Nat
  | [] => 0
  | b :: l => b.toNat + 256 * leV l
theorem leV_append (l m : List UInt8) : leV (l ++ m) = leV l + 256 ^ l.length * leV m := by
  induction l with
  | nil => simp [leV]
  | cons b l ih =>
    simp only [List.cons_append, leV, ih, List.length_cons]
    rw [Nat.mul_add, Nat.pow_succ, Nat.mul_comm (256 ^ l.length) 256, Nat.mul_assoc]
    omega
theorem u8_lt (b : UInt8) : b.toNat < 256 := b.toBitVec.isLt
theorem leV_lt (l : List UInt8) : leV l < 256 ^ l.length := by
  induction l with
  | nil => simp [leV]
  | cons b l ih =>
    have := u8_lt b
    rw [List.length_cons, Nat.pow_succ, leV]
    omega
/-- So many bytes of a number, from the low end. -/
def leN (x : Nat) : Nat → List UInt8
  | 0 => []
  | n + 1 => UInt8.ofNat x :: leN (x / 256) n
theorem leN_length (x n : Nat) : (leN x n).length = n := by
  induction n generalizing x with
  | zero => rfl
  | succ n ih => simp [leN, ih]
theorem leV_leN (x n : Nat) : leV (leN x n) = x % 256 ^ n := by
  induction n generalizing x with
  | zero => simp [leN, leV, Nat.mod_one]
  | succ n ih =>
    rw [leN, leV, ih, Nat.pow_succ, Nat.mul_comm (256 ^ n) 256, Nat.mod_mul]
    simp
theorem leN_leV (l : List UInt8) : leN (leV l) l.length = l := by
  induction l with
  | nil => rfl
  | cons b l ih =>
    have hb := u8_lt b
    rw [List.length_cons, leN, leV]
    rw [show (b.toNat + 256 * leV l) / 256 = leV l by omega, ih]
    congr 1
    apply UInt8.toNat_inj.1
    simp
theorem leV_inj {l m : List UInt8} (hn : l.length = m.length) (h : leV l = leV m) : l = m := by
  rw [← leN_leV l, ← leN_leV m, h, hn]
theorem leN_mod (x n : Nat) : leN (x % 256 ^ n) n = leN x n := leV_inj (by simp [leN_length]) (by rw [leV_leN, leV_leN, Nat.mod_mod])
theorem leN_get (x n i : Nat) (h : i < (leN x n).length) : (leN x n)[i] = UInt8.ofNat (x / 256 ^ i) := by
  induction n generalizing x i with
  | zero => simp [leN] at h
  | succ n ih =>
    cases i with
    | zero => simp [leN]
    | succ i =>
      simp only [leN, List.getElem_cons_succ]
      rw [ih, Nat.div_div_eq_div_mul, Nat.pow_succ, Nat.mul_comm 256]

/-! ### The tag, by definition -/
/-- The prime 2^130 - 5. -/
def prime : Nat := 1361129467683753853853498429727072845819
def clampB (i : Nat) (b : UInt8) : UInt8 := if i % 4 = 3 then b &&& 15 else if i % 4 = 0 ∧ 0 < i then b &&& 252 else b
def clampK (l : List UInt8) (k : Nat) : List UInt8 := (List.range l.length).map fun j => if j < k then clampB j (l.getD j 0) else l.getD j 0
theorem clampK_length (l : List UInt8) (k : Nat) : (clampK l k).length = l.length := by simp [clampK]
theorem clampK_get (l : List UInt8) (k j : Nat) (_h : j < (clampK l k).length) : (clampK l k)[j] = if j < k then clampB j (l.getD j 0) else l.getD j 0 := by simp [clampK]
theorem clampK_zero (l : List UInt8) : clampK l 0 = l := by
  apply List.ext_getElem (clampK_length l 0)
  intro i h1 h2
  rw [clampK_get]; simp [h2]
theorem clampK_step (l : List UInt8) (k : Nat) : (clampK l k).set k (clampB k (l.getD k 0)) = clampK l (k + 1) := by
  apply List.ext_getElem (by simp [clampK_length])
  intro i h1 h2
  rw [clampK_get, List.getElem_set]
  by_cases e : k = i
  · subst e; simp
  · rw [if_neg e, clampK_get]
    by_cases e2 : i < k
    · rw [if_pos e2, if_pos (by omega)]
    · rw [if_neg e2, if_neg (by omega)]
def clampL (l : List UInt8) : List UInt8 := clampK l l.length
theorem clampL_length (l : List UInt8) : (clampL l).length = l.length := clampK_length _ _
theorem clampK_same (l : List UInt8) (k : Nat) (hb : clampB k (l.getD k 0) = l.getD k 0) : clampK l (k + 1) = clampK l k := by
  rw [← clampK_step, hb]
  apply List.ext_getElem (by simp)
  intro i h1 h2
  rw [List.getElem_set]
  by_cases e : k = i
  · subst e; rw [if_pos rfl, clampK_get, if_neg (Nat.lt_irrefl k)]
  · rw [if_neg e]
def chunkL (t : List UInt8) (j : Nat) : List UInt8 := (t.drop (16 * j)).take 16
def stepN (r a : Nat) (c : List UInt8) : Nat := ((a + (leV c + 256 ^ c.length)) * r) % prime
/-- So many pieces taken in. -/
def accN (r : Nat) (t : List UInt8) : Nat → Nat
  | 0 => 0
  | j + 1 => stepN r (accN r t j) (chunkL t j)
def wholeN (r : Nat) (t : List UInt8) : Nat := accN r t ((t.length + 15) / 16)
def keyR (key : List UInt8) : Nat := leV (clampL (key.take 16))
def keyS (key : List UInt8) : Nat := leV (key.drop 16)
def tagL (key t : List UInt8) : List UInt8 := leN (wholeN (keyR key) t + keyS key) 16
theorem tagL_length (key t : List UInt8) : (tagL key t).length = 16 := leN_length _ _
theorem prime_pos : 0 < prime := by unfold prime; omega
theorem accN_lt (r : Nat) (t : List UInt8) (j : Nat) : accN r t j < prime := by
  cases j with
  | zero => exact prime_pos
  | succ j => exact Nat.mod_lt _ prime_pos
theorem chunkL_append (t u : List UInt8) (j : Nat) (h : 16 * (j + 1) ≤ t.length) : chunkL (t ++ u) j = chunkL t j := by
  unfold chunkL
  rw [List.drop_append_of_le_length (by omega), List.take_append_of_le_length (by rw [List.length_drop]; omega)]
theorem accN_append (r : Nat) (t u : List UInt8) (j : Nat) (h : 16 * j ≤ t.length) : accN r (t ++ u) j = accN r t j := by
  induction j with
  | zero => rfl
  | succ j ih => rw [accN, accN, ih (by omega), chunkL_append _ _ _ h]

/-! ### Numbers in five parts -/
def d64 (l : List (BitVec 64)) : List Value := l.map fun x => Value.int .u64 (bvi x)
theorem d64_length (l : List (BitVec 64)) : (d64 l).length = l.length := by simp [d64]
theorem d64_at (l : List (BitVec 64)) (i : Nat) (h : i < l.length) : (d64 l)[i]? = some (.int .u64 (bvi (l.getD i 0))) := by
  simp [d64, List.getD_eq_getElem?_getD, h]
theorem d64_set (l : List (BitVec 64)) (i : Nat) (x : BitVec 64) : (d64 l).set i (.int .u64 (bvi x)) = d64 (l.set i x) := by
  simp [d64, List.map_set]
def lim (l : List (BitVec 64)) (k : Nat) : Nat := (l.getD k 0).toNat
def val5 (l : List (BitVec 64)) : Nat := lim l 0 + lim l 1 * 67108864 + lim l 2 * 4503599627370496 + lim l 3 * 302231454903657293676544 + lim l 4 * 20282409603651670423947251286016
theorem five {α : Type} (l : List α) (h : l.length = 5) : ∃ a b c d e, l = [a, b, c, d, e] := by
  match l, h with
  | [a, b, c, d, e], _ => exact ⟨a, b, c, d, e, rfl⟩
/-- All parts are less than B. -/
def Less (l : List (BitVec 64)) (B : Nat) : Prop := l.length = 5 ∧ ∀ k, k < 5 → lim l k < B
theorem Less.len {l : List (BitVec 64)} {B : Nat} (h : Less l B) : l.length = 5 := h.1
theorem Less.mono {l : List (BitVec 64)} {B C : Nat} (h : Less l B) (hb : B ≤ C) : Less l C := ⟨h.1, fun k hk => Nat.lt_of_lt_of_le (h.2 k hk) hb⟩
theorem less5 {a b c d e : BitVec 64} {B : Nat} (h0 : a.toNat < B) (h1 : b.toNat < B) (h2 : c.toNat < B) (h3 : d.toNat < B) (h4 : e.toNat < B) : Less [a, b, c, d, e] B := by
  refine ⟨rfl, fun k hk => ?_⟩
  match k, hk with
  | 0, _ => exact h0
  | 1, _ => exact h1
  | 2, _ => exact h2
  | 3, _ => exact h3
  | 4, _ => exact h4
theorem Less.parts {a b c d e : BitVec 64} {B : Nat} (h : Less [a, b, c, d, e] B) : a.toNat < B ∧ b.toNat < B ∧ c.toNat < B ∧ d.toNat < B ∧ e.toNat < B :=
  ⟨h.2 0 (by omega), h.2 1 (by omega), h.2 2 (by omega), h.2 3 (by omega), h.2 4 (by omega)⟩
theorem val5_of (a b c d e : BitVec 64) : val5 [a, b, c, d, e] = a.toNat + b.toNat * 67108864 + c.toNat * 4503599627370496 + d.toNat * 302231454903657293676544 + e.toNat * 20282409603651670423947251286016 := rfl

theorem low26 (x : BitVec 64) : (x &&& 67108863#64).toNat = x.toNat % 67108864 := by
  rw [BitVec.toNat_and]
  exact Nat.and_two_pow_sub_one_eq_mod x.toNat 26
theorem high26 (x : BitVec 64) : (x >>> 26).toNat = x.toNat / 67108864 := by
  rw [BitVec.toNat_ushiftRight, Nat.shiftRight_eq_div_pow]
theorem add64 (x y : BitVec 64) (h : x.toNat + y.toNat < 18446744073709551616) : (x + y).toNat = x.toNat + y.toNat := by
  rw [BitVec.toNat_add, Nat.mod_eq_of_lt h]
theorem mul64 (x y : BitVec 64) (h : x.toNat * y.toNat < 18446744073709551616) : (x * y).toNat = x.toNat * y.toNat := by
  rw [BitVec.toNat_mul, Nat.mod_eq_of_lt h]

/-! ### What goes beyond 26 bits is carried on -/
def carryP (l : List (BitVec 64)) : Nat → List (BitVec 64) × BitVec 64
  | 0 => (l, 0#64)
  | k + 1 => ((carryP l k).1.set k (((carryP l k).1.getD k 0 + (carryP l k).2) &&& 67108863#64), ((carryP l k).1.getD k 0 + (carryP l k).2) >>> 26)
theorem carryP_length (l : List (BitVec 64)) (k : Nat) : (carryP l k).1.length = l.length := by
  induction k with
  | zero => rfl
  | succ k ih => rw [carryP, List.length_set, ih]
def carry1 (l : List (BitVec 64)) : List (BitVec 64) := (carryP l 5).1.set 0 ((carryP l 5).1.getD 0 0 + 5#64 * (carryP l 5).2)
theorem carry1_length (l : List (BitVec 64)) : (carry1 l).length = l.length := by rw [carry1, List.length_set, carryP_length]
def carryK (l : List (BitVec 64)) : Nat → List (BitVec 64)
  | 0 => l
  | k + 1 => carry1 (carryK l k)
theorem carryK_length (l : List (BitVec 64)) (k : Nat) : (carryK l k).length = l.length := by
  induction k with
  | zero => rfl
  | succ k ih => rw [carryK, carry1_length, ih]
def carryL (l : List (BitVec 64)) : List (BitVec 64) := carryK l 2
theorem carryL_length (l : List (BitVec 64)) : (carryL l).length = l.length := carryK_length l 2

theorem carry1_five (a b c d e : BitVec 64) (ha : a.toNat < 9223372036854775808) (hb : b.toNat < 9223372036854775808) (hc : c.toNat < 9223372036854775808) (hd : d.toNat < 9223372036854775808) (he : e.toNat < 9223372036854775808) :
    ∃ a' b' c' d' e' : BitVec 64, carry1 [a, b, c, d, e] = [a', b', c', d', e'] ∧
      ∃ v1 v2 v3 v4 : Nat, v1 = b.toNat + a.toNat / 67108864 ∧ v2 = c.toNat + v1 / 67108864 ∧ v3 = d.toNat + v2 / 67108864 ∧ v4 = e.toNat + v3 / 67108864 ∧
        a'.toNat = a.toNat % 67108864 + 5 * (v4 / 67108864) ∧ b'.toNat = v1 % 67108864 ∧ c'.toNat = v2 % 67108864 ∧ d'.toNat = v3 % 67108864 ∧ e'.toNat = v4 % 67108864 := by
  have e1 : (a + 0#64).toNat = a.toNat := by simp
  have e2 : (b + (a + 0#64) >>> 26).toNat = b.toNat + a.toNat / 67108864 := by rw [add64 _ _ (by rw [high26, e1]; omega), high26, e1]
  have e3 : (c + (b + (a + 0#64) >>> 26) >>> 26).toNat = c.toNat + (b.toNat + a.toNat / 67108864) / 67108864 := by rw [add64 _ _ (by rw [high26, e2]; omega), high26, e2]
  have e4 : (d + (c + (b + (a + 0#64) >>> 26) >>> 26) >>> 26).toNat = d.toNat + (c.toNat + (b.toNat + a.toNat / 67108864) / 67108864) / 67108864 := by rw [add64 _ _ (by rw [high26, e3]; omega), high26, e3]
  have e5 : (e + (d + (c + (b + (a + 0#64) >>> 26) >>> 26) >>> 26) >>> 26).toNat = e.toNat + (d.toNat + (c.toNat + (b.toNat + a.toNat / 67108864) / 67108864) / 67108864) / 67108864 := by rw [add64 _ _ (by rw [high26, e4]; omega), high26, e4]
  refine ⟨_, _, _, _, _, rfl, _, _, _, _, rfl, rfl, rfl, rfl, ?_, ?_, ?_, ?_, ?_⟩
  · show (((a + 0#64) &&& 67108863#64) + 5#64 * ((e + (d + (c + (b + (a + 0#64) >>> 26) >>> 26) >>> 26) >>> 26) >>> 26)).toNat = _
    have h5 : (5#64 * ((e + (d + (c + (b + (a + 0#64) >>> 26) >>> 26) >>> 26) >>> 26) >>> 26)).toNat = 5 * ((e.toNat + (d.toNat + (c.toNat + (b.toNat + a.toNat / 67108864) / 67108864) / 67108864) / 67108864) / 67108864) := by
      rw [mul64 _ _ (by rw [high26, e5]; simp; omega), high26, e5]; rfl
    rw [add64 _ _ (by rw [low26, e1, h5]; omega), low26, e1, h5]
  · show ((b + (a + 0#64) >>> 26) &&& 67108863#64).toNat = _
    rw [low26, e2]
  · show ((c + (b + (a + 0#64) >>> 26) >>> 26) &&& 67108863#64).toNat = _
    rw [low26, e3]
  · show ((d + (c + (b + (a + 0#64) >>> 26) >>> 26) >>> 26) &&& 67108863#64).toNat = _
    rw [low26, e4]
  · show ((e + (d + (c + (b + (a + 0#64) >>> 26) >>> 26) >>> 26) >>> 26) &&& 67108863#64).toNat = _
    rw [low26, e5]
/-- The number stays, modulo the prime. -/
theorem carry1_val (l : List (BitVec 64)) (h : Less l 9223372036854775808) : ∃ q, val5 l = val5 (carry1 l) + prime * q := by
  obtain ⟨a, b, c, d, e, rfl⟩ := five l h.1
  obtain ⟨ha, hb, hc, hd, he⟩ := h.parts
  obtain ⟨a', b', c', d', e', hr, v1, v2, v3, v4, h1, h2, h3, h4, k0, k1, k2, k3, k4⟩ := carry1_five a b c d e ha hb hc hd he
  refine ⟨v4 / 67108864, ?_⟩
  rw [hr, val5_of, val5_of, k0, k1, k2, k3, k4]
  unfold prime
  omega
theorem carry1_first (l : List (BitVec 64)) (h : Less l 9223372036854775808) : Less (carry1 l) 2199023255552 ∧ ∀ k, 0 < k → k < 5 → lim (carry1 l) k < 67108864 := by
  obtain ⟨a, b, c, d, e, rfl⟩ := five l h.1
  obtain ⟨ha, hb, hc, hd, he⟩ := h.parts
  obtain ⟨a', b', c', d', e', hr, v1, v2, v3, v4, h1, h2, h3, h4, k0, k1, k2, k3, k4⟩ := carry1_five a b c d e ha hb hc hd he
  rw [hr]
  refine ⟨less5 (by omega) (by omega) (by omega) (by omega) (by omega), fun k hk0 hk => ?_⟩
  match k, hk0, hk with
  | 1, _, _ => show b'.toNat < _; omega
  | 2, _, _ => show c'.toNat < _; omega
  | 3, _, _ => show d'.toNat < _; omega
  | 4, _, _ => show e'.toNat < _; omega
theorem carry1_second (l : List (BitVec 64)) (h : Less l 2199023255552) (h2 : ∀ k, 0 < k → k < 5 → lim l k < 67108864) : Less (carry1 l) 67108869 ∧ ∀ k, 0 < k → k < 5 → lim (carry1 l) k < 67108864 := by
  obtain ⟨_, hx⟩ := carry1_first l (h.mono (by omega))
  refine ⟨?_, hx⟩
  obtain ⟨a, b, c, d, e, rfl⟩ := five l h.1
  obtain ⟨ha, hb, hc, hd, he⟩ := h.parts
  have g1 : b.toNat < 67108864 := h2 1 (by omega) (by omega)
  have g2 : c.toNat < 67108864 := h2 2 (by omega) (by omega)
  have g3 : d.toNat < 67108864 := h2 3 (by omega) (by omega)
  have g4 : e.toNat < 67108864 := h2 4 (by omega) (by omega)
  obtain ⟨a', b', c', d', e', hr, v1, v2, v3, v4, h1, h2, h3, h4, k0, k1, k2, k3, k4⟩ := carry1_five a b c d e (by omega) (by omega) (by omega) (by omega) (by omega)
  rw [hr]
  exact less5 (by omega) (by omega) (by omega) (by omega) (by omega)
theorem carry1_third (l : List (BitVec 64)) (h : Less l 67108869) (h2 : ∀ k, 0 < k → k < 5 → lim l k < 67108864) : Less (carry1 l) 67108864 := by
  obtain ⟨a, b, c, d, e, rfl⟩ := five l h.1
  obtain ⟨ha, hb, hc, hd, he⟩ := h.parts
  have g1 : b.toNat < 67108864 := h2 1 (by omega) (by omega)
  have g2 : c.toNat < 67108864 := h2 2 (by omega) (by omega)
  have g3 : d.toNat < 67108864 := h2 3 (by omega) (by omega)
  have g4 : e.toNat < 67108864 := h2 4 (by omega) (by omega)
  obtain ⟨a', b', c', d', e', hr, v1, v2, v3, v4, h1, h2, h3, h4, k0, k1, k2, k3, k4⟩ := carry1_five a b c d e (by omega) (by omega) (by omega) (by omega) (by omega)
  rw [hr]
  exact less5 (by omega) (by omega) (by omega) (by omega) (by omega)
theorem carry1_tight (l : List (BitVec 64)) (h : Less l 67108864) : carry1 l = l := by
  obtain ⟨a, b, c, d, e, rfl⟩ := five l h.1
  obtain ⟨ha, hb, hc, hd, he⟩ := h.parts
  obtain ⟨a', b', c', d', e', hr, v1, v2, v3, v4, h1, h2, h3, h4, k0, k1, k2, k3, k4⟩ := carry1_five a b c d e (by omega) (by omega) (by omega) (by omega) (by omega)
  rw [hr]
  have i0 : a' = a := BitVec.eq_of_toNat_eq (by omega)
  have i1 : b' = b := BitVec.eq_of_toNat_eq (by omega)
  have i2 : c' = c := BitVec.eq_of_toNat_eq (by omega)
  have i3 : d' = d := BitVec.eq_of_toNat_eq (by omega)
  have i4 : e' = e := BitVec.eq_of_toNat_eq (by omega)
  rw [i0, i1, i2, i3, i4]
theorem carryL_val (l : List (BitVec 64)) (h : Less l 9223372036854775808) : ∃ q, val5 l = val5 (carryL l) + prime * q := by
  obtain ⟨q1, h1⟩ := carry1_val l h
  obtain ⟨q2, h2⟩ := carry1_val (carry1 l) ((carry1_first l h).1.mono (by omega))
  exact ⟨q1 + q2, by rw [h1, h2, Nat.mul_add]; unfold carryL carryK carryK carryK; omega⟩
theorem carryL_less (l : List (BitVec 64)) (h : Less l 9223372036854775808) : Less (carryL l) 67108869 ∧ ∀ k, 0 < k → k < 5 → lim (carryL l) k < 67108864 :=
  carry1_second _ (carry1_first l h).1 (carry1_first l h).2
theorem carry_twice (l : List (BitVec 64)) (h : Less l 9223372036854775808) : Less (carryL (carryL l)) 67108864 := by
  have h1 := carryL_less l h
  have h2 := carry1_third _ h1.1 h1.2
  show Less (carry1 (carry1 (carryL l))) _
  rw [carry1_tight _ h2]
  exact h2

/-! ### Sums and products -/
def plusK (l m : List (BitVec 64)) : Nat → List (BitVec 64)
  | 0 => l
  | k + 1 => (plusK l m k).set k ((plusK l m k).getD k 0 + m.getD k 0)
theorem plusK_length (l m : List (BitVec 64)) (k : Nat) : (plusK l m k).length = l.length := by
  induction k with
  | zero => rfl
  | succ k ih => rw [plusK, List.length_set, ih]
def plusL (l m : List (BitVec 64)) : List (BitVec 64) := plusK l m 5
theorem plusL_less (l m : List (BitVec 64)) (A B : Nat) (hl : Less l A) (hm : Less m B) (hs : A + B ≤ 18446744073709551616) : Less (plusL l m) (A + B) ∧ val5 (plusL l m) = val5 l + val5 m := by
  obtain ⟨a, b, c, d, e, rfl⟩ := five l hl.1
  obtain ⟨a', b', c', d', e', rfl⟩ := five m hm.1
  obtain ⟨ha, hb, hc, hd, he⟩ := hl.parts
  obtain ⟨ga, gb, gc, gd, ge⟩ := hm.parts
  have h : plusL [a, b, c, d, e] [a', b', c', d', e'] = [a + a', b + b', c + c', d + d', e + e'] := rfl
  rw [h, val5_of, val5_of, val5_of, add64 a a' (by omega), add64 b b' (by omega), add64 c c' (by omega), add64 d d' (by omega), add64 e e' (by omega)]
  refine ⟨less5 ?_ ?_ ?_ ?_ ?_, by omega⟩
  · rw [add64 a a' (by omega)]; omega
  · rw [add64 b b' (by omega)]; omega
  · rw [add64 c c' (by omega)]; omega
  · rw [add64 d d' (by omega)]; omega
  · rw [add64 e e' (by omega)]; omega
/-- One product's part. -/
def partM (n m : List (BitVec 64)) (i k : Nat) : BitVec 64 := if 5 ≤ i + k then n.getD i 0 * m.getD k 0 * 5#64 else n.getD i 0 * m.getD k 0
def timesIn (n m : List (BitVec 64)) (i : Nat) (out : List (BitVec 64)) : Nat → List (BitVec 64)
  | 0 => out
  | k + 1 => (timesIn n m i out k).set ((i + k) % 5) ((timesIn n m i out k).getD ((i + k) % 5) 0 + partM n m i k)
theorem timesIn_length (n m : List (BitVec 64)) (i : Nat) (out : List (BitVec 64)) (k : Nat) : (timesIn n m i out k).length = out.length := by
  induction k with
  | zero => rfl
  | succ k ih => rw [timesIn, List.length_set, ih]
def timesRow (n m : List (BitVec 64)) : Nat → List (BitVec 64)
  | 0 => [0#64, 0#64, 0#64, 0#64, 0#64]
  | i + 1 => timesIn n m i (timesRow n m i) 5
theorem timesRow_length (n m : List (BitVec 64)) (i : Nat) : (timesRow n m i).length = 5 := by
  induction i with
  | zero => rfl
  | succ i ih => rw [timesRow, timesIn_length, ih]
def timesL (n m : List (BitVec 64)) : List (BitVec 64) := carryL (timesRow n m 5)
theorem timesL_length (n m : List (BitVec 64)) : (timesL n m).length = 5 := by rw [timesL, carryL_length, timesRow_length]
end Go.Proofs.Ytfglhemmccihfaa
namespace Go.Proofs.Ytfglhemmccihfaa

/-! ### How many bytes a number needs -/
def needF : Nat → Nat → Nat
  | 0, _ => 0
  | f + 1, n => if n = 0 then 0 else needF f (n / 256) + 1
/-- How many bytes a number of 64 bits needs. -/
def needN (n : Nat) : Nat := needF 8 n
theorem needF_le (f n : Nat) : needF f n ≤ f := by
  induction f generalizing n with
  | zero => exact Nat.le_refl _
  | succ f ih => unfold needF; split
                 · omega
                 · have := ih (n / 256); omega
theorem needF_zero (f : Nat) : needF f 0 = 0 := by cases f <;> simp [needF]
theorem needF_gt (f n k : Nat) (hk : k < f) : k < needF f n ↔ n / 256 ^ k ≠ 0 := by
  induction f generalizing n k with
  | zero => omega
  | succ f ih =>
    unfold needF
    by_cases h : n = 0
    · subst h; simp
    · rw [if_neg h]
      cases k with
      | zero => simp [h]
      | succ k =>
        rw [Nat.succ_lt_succ_iff, ih (n / 256) k (by omega), Nat.div_div_eq_div_mul, Nat.pow_succ, Nat.mul_comm 256]
theorem needF_enough (f n : Nat) (h : n < 256 ^ f) : n < 256 ^ needF f n := by
  induction f generalizing n with
  | zero => simpa [needF] using h
  | succ f ih =>
    unfold needF
    by_cases h0 : n = 0
    · subst h0; simp
    · rw [if_neg h0]
      have := ih (n / 256) (by rw [Nat.pow_succ] at h; omega)
      rw [Nat.pow_succ]
      omega
theorem needF_least (f n k : Nat) (h : n < 256 ^ k) : needF f n ≤ k := by
  induction f generalizing n k with
  | zero => simp [needF]
  | succ f ih =>
    unfold needF
    by_cases h0 : n = 0
    · subst h0; simp
    · rw [if_neg h0]
      cases k with
      | zero => simp at h; omega
      | succ k =>
        have := ih (n / 256) k (by rw [Nat.pow_succ] at h; omega)
        omega
theorem needN_le (n : Nat) : needN n ≤ 8 := needF_le 8 n

/-! ### Numbers, texts, lists -/
def numL (n : BitVec 64) : List UInt8 := UInt8.ofNat (needN n.toNat) :: highL n (needN n.toNat)
def textL (l : List UInt8) : List UInt8 := numL (BitVec.ofNat 64 l.length) ++ l
def listL (ls : List (List UInt8)) : List UInt8 := numL (BitVec.ofNat 64 ls.length) ++ ls.flatMap textL
theorem numL_length (n : BitVec 64) : (numL n).length = 1 + needN n.toNat := by simp [numL, highL_length]; omega
theorem numL_short (n : BitVec 64) : (numL n).length ≤ 9 := by have := needN_le n.toNat; rw [numL_length]; omega

/-! ### There and back -/
theorem loV_low (x : BitVec 64) (k i : Nat) (hi : i < 64) : (loV (lowL x k)).getLsbD i = (decide (i < 8 * k) && x.getLsbD i) := by
  induction k with
  | zero => simp [lowL, loV]
  | succ k ih =>
    rw [lowL, loV_snoc, BitVec.getLsbD_or, ih, lowL_length]
    simp only [BitVec.getLsbD_shiftLeft, BitVec.getLsbD_setWidth, BitVec.getLsbD_ushiftRight, hi, decide_true, Bool.true_and]
    by_cases h1 : i < 8 * k
    · simp [h1, show i < 8 * (k + 1) by omega]
    · rw [show 8 * k + (i - 8 * k) = i by omega]
      by_cases h2 : i < 8 * (k + 1)
      · simp [h1, h2, show i - 8 * k < 8 by omega, show i - 8 * k < 64 by omega]
      · simp [h1, h2, show ¬ i - 8 * k < 8 by omega]
theorem hiV_highL (x : BitVec 64) (k : Nat) (h : x.toNat < 256 ^ k) : hiV (highL x k) = x := by
  unfold hiV highL
  rw [List.reverse_reverse]
  apply BitVec.eq_of_getLsbD_eq
  intro i hi
  rw [loV_low x k i hi]
  by_cases h1 : i < 8 * k
  · simp [h1]
  · simp only [h1, decide_false, Bool.false_and]
    symm
    rw [BitVec.getLsbD, Nat.testBit_lt_two_pow]
    refine Nat.lt_of_lt_of_le h ?_
    rw [show (256 : Nat) = 2 ^ 8 from rfl, ← Nat.pow_mul]
    exact Nat.pow_le_pow_right (by omega) (by omega)
theorem num_back (n : BitVec 64) : hiV (highL n (needN n.toNat)) = n := hiV_highL n _ (needF_enough 8 _ n.isLt)
/-- A byte of the number of bytes. -/
theorem loV_bits (l : List UInt8) (i : Nat) (hi : i < 64) : (loV l).getLsbD i = (l.getD (i / 8) 0).toBitVec.getLsbD (i % 8) := by
  induction l generalizing i with
  | nil => simp [loV]
  | cons b l ih =>
    rw [loV, BitVec.getLsbD_or, BitVec.getLsbD_setWidth, BitVec.getLsbD_shiftLeft]
    by_cases h : i < 8
    · rw [Nat.div_eq_of_lt h, Nat.mod_eq_of_lt h]
      simp [h, hi]
    · rw [ih (i - 8) (by omega)]
      have e1 : i / 8 = (i - 8) / 8 + 1 := by omega
      have e2 : i % 8 = (i - 8) % 8 := by omega
      rw [e1, e2]
      have e3 : b.toBitVec.getLsbD i = false := BitVec.getLsbD_of_ge _ _ (by omega)
      simp [h, hi, e3]
theorem low_loV (l : List UInt8) (h : l.length ≤ 8) : lowL (loV l) l.length = l := by
  apply List.ext_getElem (lowL_length _ _)
  intro i h1 h2
  have g : ∀ (x : BitVec 64) (n i : Nat) (h : i < (lowL x n).length), (lowL x n)[i] = ⟨(x >>> (8 * i)).setWidth 8⟩ := by
    intro x n
    induction n with
    | zero => intro i h; simp [lowL] at h
    | succ n ih =>
      intro i h
      simp only [lowL]
      rw [List.getElem_append]
      split
      · exact ih _ _
      · rename_i h2
        rw [lowL_length] at h h2
        have : i = n := by omega
        subst this
        simp [lowL_length]
  rw [g]
  apply UInt8.toBitVec_inj.1
  apply BitVec.eq_of_getLsbD_eq
  intro j hj
  simp only [BitVec.getLsbD_setWidth, BitVec.getLsbD_ushiftRight]
  rw [loV_bits l _ (by omega), show (8 * i + j) / 8 = i by omega, show (8 * i + j) % 8 = j by omega]
  simp [hj, h2]
theorem high_hiV (l : List UInt8) (h : l.length ≤ 8) : highL (hiV l) l.length = l := by
  unfold highL hiV
  have := low_loV l.reverse (by simpa using h)
  rw [List.length_reverse] at this
  rw [this, List.reverse_reverse]
theorem hiV_lt (l : List UInt8) (_h : l.length ≤ 8) : (hiV l).toNat < 256 ^ l.length := by
  rw [show (256 : Nat) = 2 ^ 8 from rfl, ← Nat.pow_mul]
  refine Nat.lt_pow_two_of_testBit _ ?_
  intro i hi
  by_cases h64 : i < 64
  · have := loV_bits l.reverse i h64
    unfold BitVec.getLsbD at this
    unfold hiV
    rw [this, List.getD_eq_getElem?_getD, List.getElem?_eq_none (by rw [List.length_reverse]; omega)]
    simp
  · exact BitVec.getLsbD_of_ge (hiV l) i (by omega)
theorem need_hiV (l : List UInt8) (h : l.length ≤ 8) : needN (hiV l).toNat ≤ l.length := needF_least 8 _ _ (hiV_lt l h)

/-! ### What is taken -/
/-- Bytes that are left; is something wrong? -/
structure Rd where
  l : List UInt8
  bad : Bool
def Rd.broken : Rd := ⟨[], true⟩
/-- So many bytes, if they are there. -/
def takeR (r : Rd) (n : Nat) : List UInt8 × Rd :=
  if r.bad = true ∨ r.l.length < n then ([], Rd.broken) else (r.l.take n, ⟨r.l.drop n, false⟩)
/-- A number up to 'most'. -/
def numR (r : Rd) (most : BitVec 64) : BitVec 64 × Rd :=
  match r.bad, r.l with
  | false, h :: t =>
    if 8 < h.toNat ∨ t.length < h.toNat then (0#64, Rd.broken)
    else if needN (hiV (t.take h.toNat)).toNat ≠ h.toNat ∨ most < hiV (t.take h.toNat) then (0#64, Rd.broken)
    else (hiV (t.take h.toNat), ⟨t.drop h.toNat, false⟩)
  | _, _ => (0#64, Rd.broken)
def mostOf (most : Int) : BitVec 64 := BitVec.ofInt 64 (max most 0)
/-- A text of up to 'most' bytes. -/
def textR (r : Rd) (most : Int) : List UInt8 × Rd := takeR (numR r (mostOf most)).2 (numR r (mostOf most)).1.toNat
/-- So many texts; none, if something is wrong. -/
def textsR (most : Int) : Nat → Rd → Option (List (List UInt8)) × Rd
  | 0, r => (some [], r)
  | n + 1, r =>
    let t := textR r most
    if t.2.bad = true then (none, t.2)
    else match textsR most n t.2 with
      | (some ls, r') => (some (t.1 :: ls), r')
      | (none, r') => (none, r')
/-- Up to 'many' texts. -/
def listR (r : Rd) (many most : Int) : Option (List (List UInt8)) × Rd := textsR most (numR r (mostOf many)).1.toNat (numR r (mostOf many)).2
end Go.Proofs.Ytfglhemmccihfaa
namespace Go.Proofs.Ytfglhemmccihfaa

/-- The key once used. -/
def onceL (key nonce : List UInt8) : List UInt8 := (blockL key 0#32 nonce).take 32
theorem onceL_length (key nonce : List UInt8) : (onceL key nonce).length = 32 := by rw [onceL, List.length_take, blockL_length]; rfl
theorem onceL_stream (key nonce : List UInt8) : streamL key 0#32 nonce 32 = onceL key nonce := by
  unfold streamL onceL
  rw [show (32 + 63) / 64 = 0 + 1 from rfl, blocksL, blocksL, List.nil_append, show (0#32 + BitVec.ofNat 32 0) = 0#32 from rfl]
/-- What a tag covers. -/
def coverL (d s : List UInt8) : List UInt8 := fillL d 16 ++ fillL s 16 ++ lowL (BitVec.ofNat 64 d.length) 8 ++ lowL (BitVec.ofNat 64 s.length) 8
theorem fillL_16 (l : List UInt8) : ∃ k, fillL l 16 = l ++ List.replicate k 0 ∧ k < 16 ∧ (l.length + k) % 16 = 0 := by
  refine ⟨((-(l.length : Int)) % 16).toNat, ?_, by omega, by omega⟩
  unfold fillL
  rw [if_neg (by decide)]
theorem coverL_length (d s : List UInt8) : ∃ i j, i < 16 ∧ j < 16 ∧ (d.length + i) % 16 = 0 ∧ (s.length + j) % 16 = 0 ∧ (coverL d s).length = d.length + i + (s.length + j) + 16 := by
  obtain ⟨i, h1, h2, h3⟩ := fillL_16 d
  obtain ⟨j, h4, h5, h6⟩ := fillL_16 s
  refine ⟨i, j, h2, h5, h3, h6, ?_⟩
  unfold coverL
  rw [h1, h4]
  simp only [List.length_append, List.length_replicate, lowL_length]
theorem lowL_inj8 {x y : BitVec 64} (h : lowL x 8 = lowL y 8) : x = y := by
  have h2 : loV (lowL x 8) = loV (lowL y 8) := by rw [h]
  apply BitVec.eq_of_getLsbD_eq
  intro i hi
  have h3 : (loV (lowL x 8)).getLsbD i = (loV (lowL y 8)).getLsbD i := by rw [h2]
  rw [loV_low x 8 i hi, loV_low y 8 i hi] at h3
  have h4 : decide (i < 8 * 8) = true := decide_eq_true (by omega)
  rw [h4, Bool.true_and, Bool.true_and] at h3
  exact h3
/-- What a tag covers tells both apart. -/
theorem coverL_inj {d s d' s' : List UInt8} (hd : d.length < 18446744073709551616) (hs : s.length < 18446744073709551616) (hd' : d'.length < 18446744073709551616) (hs' : s'.length < 18446744073709551616) (h : coverL d s = coverL d' s') : d = d' ∧ s = s' := by
  unfold coverL at h
  have l8 : ∀ x, (lowL x 8).length = 8 := fun x => lowL_length x 8
  obtain ⟨h1, h2⟩ := List.append_inj' h (by rw [l8, l8])
  obtain ⟨h3, h4⟩ := List.append_inj' h1 (by rw [l8, l8])
  have e1 : d.length = d'.length := by
    have h5 := congrArg BitVec.toNat (lowL_inj8 h4)
    rw [BitVec.toNat_ofNat, BitVec.toNat_ofNat, Nat.mod_eq_of_lt hd, Nat.mod_eq_of_lt hd'] at h5
    exact h5
  have e2 : s.length = s'.length := by
    have h5 := congrArg BitVec.toNat (lowL_inj8 h2)
    rw [BitVec.toNat_ofNat, BitVec.toNat_ofNat, Nat.mod_eq_of_lt hs, Nat.mod_eq_of_lt hs'] at h5
    exact h5
  have hf : ∀ l m : List UInt8, l.length = m.length → (fillL l 16).length = (fillL m 16).length := by
    intro l m hlm
    unfold fillL
    rw [if_neg (by decide), if_neg (by decide), List.length_append, List.length_append, List.length_replicate, List.length_replicate, hlm]
  obtain ⟨h6, h7⟩ := List.append_inj h3 (hf _ _ e1)
  have ht : ∀ l m : List UInt8, l.length = m.length → fillL l 16 = fillL m 16 → l = m := by
    intro l m hlm hh
    unfold fillL at hh
    rw [if_neg (by decide), if_neg (by decide)] at hh
    exact (List.append_inj hh hlm).1
  exact ⟨ht _ _ e1 h6, ht _ _ e2 h7⟩
/-- The tag of sealed bytes. -/
def tagA (key nonce d s : List UInt8) : List UInt8 := tagL (onceL key nonce) (coverL d s)
theorem tagA_length (key nonce d s : List UInt8) : (tagA key nonce d s).length = 16 := tagL_length _ _
/-- A text sealed. -/
def sealL (key nonce d t : List UInt8) : List UInt8 := turnL key 1#32 nonce t ++ tagA key nonce d (turnL key 1#32 nonce t)
theorem sealL_length (key nonce d t : List UInt8) : (sealL key nonce d t).length = t.length + 16 := by
  rw [sealL, List.length_append, turnL_length, tagA_length]
theorem sealL_take (key nonce d t : List UInt8) : (sealL key nonce d t).take t.length = turnL key 1#32 nonce t := by
  rw [sealL, List.take_left' (turnL_length ..)]
theorem sealL_drop (key nonce d t : List UInt8) : (sealL key nonce d t).drop t.length = tagA key nonce d (turnL key 1#32 nonce t) := by
  rw [sealL, List.drop_left' (turnL_length ..)]
/-- Sealed again, what was turned back is the same just if the tag is right. -/
theorem sealL_again (key nonce d s : List UInt8) (n : Nat) (_hn : n ≤ s.length) : sealL key nonce d (turnL key 1#32 nonce (s.take n)) = s ↔ tagA key nonce d (s.take n) = s.drop n := by
  unfold sealL
  rw [turnL_twice]
  constructor
  · intro h
    have h2 : s.take n ++ tagA key nonce d (s.take n) = s.take n ++ s.drop n := by rw [h, List.take_append_drop]
    exact List.append_cancel_left h2
  · intro h
    rw [h, List.take_append_drop]
end Go.Proofs.Ytfglhemmccihfaa
namespace Go.Proofs.Ytfglhemmccihfaa
open Go.RowKit

/-- At 'ao' lie the strings ss. -/
def StrsAt (w : World) (ao : Option Addr) (ss : List ByteArray) : Prop :=
  ∀ i (h : i < ss.length), ∃ b off, ao = some ⟨b, off, none⟩ ∧ b < w.heap.size ∧ w.cell? ⟨b, off + i, none⟩ = some (.string ss[i])
theorem StrsAt.keep {w w' : World} {ao : Option Addr} {ss : List ByteArray} (h : StrsAt w ao ss) (hk : ∀ k off, ao = some ⟨k, off, none⟩ → k < w.heap.size → w'.heap[k]? = w.heap[k]?) (hsz : w.heap.size ≤ w'.heap.size) : StrsAt w' ao ss := by
  intro i hi
  obtain ⟨b, off, e, hb, hc⟩ := h i hi
  exact ⟨b, off, e, by omega, (World.cell?_of_block (hk b off e hb)).trans hc⟩
theorem StrsAt.below {w w' : World} {ao : Option Addr} {ss : List ByteArray} (h : StrsAt w ao ss) (hb : Below w.heap.size w w') : StrsAt w' ao ss :=
  h.keep (fun k _ _ hk => hb.block k hk) hb.size
def sumLen (ss : List ByteArray) : Nat := (ss.map (·.size)).sum
def bytesOf (ss : List ByteArray) : List (List UInt8) := ss.map (·.data.toList)
theorem sumLen_take (ss : List ByteArray) (k : Nat) : sumLen (ss.take k) ≤ sumLen ss := by
  induction ss generalizing k with
  | nil => simp [sumLen]
  | cons s ss ih =>
    cases k with
    | zero => simp [sumLen]
    | succ k =>
      have := ih k
      simp only [sumLen, List.take_succ_cons, List.map_cons, List.sum_cons] at this ⊢
      omega
theorem sumLen_step (ss : List ByteArray) (k : Nat) (h : k < ss.length) : sumLen (ss.take (k + 1)) = sumLen (ss.take k) + ss[k].size := by
  unfold sumLen
  rw [List.take_succ_eq_append_getElem h, List.map_append, List.sum_append]
  simp
theorem sumLen_get (ss : List ByteArray) (k : Nat) (h : k < ss.length) : sumLen (ss.take k) + ss[k].size ≤ sumLen ss := by
  rw [← sumLen_step ss k h]; exact sumLen_take ss (k + 1)
theorem cell_lt {w : World} {a : Addr} {v : Value} (h : w.cell? a = some v) : a.block < w.heap.size := by
  rcases Nat.lt_or_ge a.block w.heap.size with g | g
  · exact g
  · exfalso
    unfold World.cell? at h
    rw [Array.getElem?_eq_none g] at h
    cases a with
    | mk b o s => cases s <;> simp at h
end Go.Proofs.Ytfglhemmccihfaa
namespace Go.Proofs.Ytfglhemmccihfaa

def dV : List Nat → Nat
  | [] => 0
  | d :: l => d + 256 * dV l
/-- Each digit is less than 256. -/
def Dig (l : List Nat) : Prop := ∀ d ∈ l, d < 256
theorem dV_append (l m : List Nat) : dV (l ++ m) = dV l + 256 ^ l.length * dV m := by
  induction l with
  | nil => simp [dV]
  | cons b l ih =>
    simp only [List.cons_append, dV, ih, List.length_cons]
    rw [Nat.mul_add, Nat.pow_succ, Nat.mul_comm (256 ^ l.length) 256, Nat.mul_assoc]
    omega
theorem dV_snoc (l : List Nat) (d : Nat) : dV (l ++ [d]) = dV l + 256 ^ l.length * d := by
  rw [dV_append]; simp [dV]
theorem Dig.snoc {l : List Nat} (h : Dig l) {d : Nat} (hd : d < 256) : Dig (l ++ [d]) := by
  intro x hx
  rcases List.mem_append.1 hx with h1 | h1
  · exact h x h1
  · rw [List.mem_singleton.1 h1]; exact hd
theorem Dig.nil : Dig [] := fun _ h => by cases h
theorem Dig.get {l : List Nat} (h : Dig l) (i : Nat) : l.getD i 0 < 256 := by
  rw [List.getD_eq_getElem?_getD]
  cases hl : l[i]? with
  | none => simp
  | some d => exact h d (List.mem_of_getElem? hl)
theorem dV_lt {l : List Nat} (h : Dig l) : dV l < 256 ^ l.length := by
  induction l with
  | nil => simp [dV]
  | cons d l ih =>
    have h1 := h d (by simp)
    have h2 := ih (fun x hx => h x (by simp [hx]))
    rw [List.length_cons, Nat.pow_succ, dV]
    omega
theorem dV_drop (l : List Nat) (i : Nat) (h : i < l.length) : dV (l.drop i) = l.getD i 0 + 256 * dV (l.drop (i + 1)) := by
  rw [List.drop_eq_getElem_cons h, dV, List.getD_eq_getElem?_getD, List.getElem?_eq_getElem h]; rfl
def ofBytes (l : List UInt8) : List Nat := l.map UInt8.toNat
theorem dV_ofBytes (l : List UInt8) : dV (ofBytes l) = leV l := by
  induction l with
  | nil => rfl
  | cons b l ih => simp only [ofBytes, List.map_cons, dV, leV] at ih ⊢; rw [ih]
theorem ofBytes_dig (l : List UInt8) : Dig (ofBytes l) := by
  intro d hd
  obtain ⟨b, _, rfl⟩ := List.mem_map.1 hd
  exact u8_lt b
theorem ofBytes_length (l : List UInt8) : (ofBytes l).length = l.length := by simp [ofBytes]
/-- One round of carrying. -/
theorem carry_round (l o : List Nat) (c : Nat) (h : dV o + 256 ^ o.length * (c + dV (l.drop o.length)) = dV l) (hi : o.length < l.length) :
    dV (o ++ [(c + l.getD o.length 0) % 256]) + 256 ^ (o.length + 1) * ((c + l.getD o.length 0) / 256 + dV (l.drop (o.length + 1))) = dV l := by
  rw [dV_drop l _ hi] at h
  rw [dV_snoc, Nat.pow_succ, ← h, Nat.mul_assoc, Nat.add_assoc, ← Nat.mul_add]
  congr 2
  omega
theorem carry_more (l o : List Nat) (c : Nat) (h : dV o + 256 ^ o.length * (c + dV (l.drop o.length)) = dV l) (hi : l.length ≤ o.length) :
    dV (o ++ [c % 256]) + 256 ^ (o.length + 1) * (c / 256 + dV (l.drop (o.length + 1))) = dV l := by
  rw [List.drop_of_length_le hi] at h
  rw [List.drop_of_length_le (by omega)]
  rw [dV_snoc, Nat.pow_succ, ← h, Nat.mul_assoc, Nat.add_assoc, ← Nat.mul_add]
  congr 2
  simp only [dV]
  omega
theorem carry_len (l o : List Nat) (c : Nat) (h : dV o + 256 ^ o.length * (c + dV (l.drop o.length)) = dV l) (hc : 0 < c) (L : Nat) (hL : dV l < 256 ^ L) : o.length + 1 ≤ L := by
  rcases Nat.lt_or_ge o.length L with g | g
  · exact g
  · exfalso
    have h1 : 256 ^ L ≤ 256 ^ o.length := Nat.pow_le_pow_right (by omega) g
    have h2 : 256 ^ o.length * 1 ≤ 256 ^ o.length * (c + dV (l.drop o.length)) := Nat.mul_le_mul_left _ (by omega)
    omega
/-- A sum, digit by digit. -/
def sumD (a b : List Nat) (k : Nat) : List Nat := (List.range k).map fun i => a.getD i 0 + b.getD i 0
theorem sumD_length (a b : List Nat) (k : Nat) : (sumD a b k).length = k := by simp [sumD]
theorem sumD_succ (a b : List Nat) (k : Nat) : sumD a b (k + 1) = sumD a b k ++ [a.getD k 0 + b.getD k 0] := by simp [sumD, List.range_succ]
theorem dV_take (a : List Nat) (k : Nat) : dV (a.take (k + 1)) = dV (a.take k) + 256 ^ k * a.getD k 0 := by
  rcases Nat.lt_or_ge k a.length with h | h
  · rw [List.take_succ_eq_append_getElem h, dV_snoc, List.length_take, Nat.min_eq_left (by omega), List.getD_eq_getElem?_getD, List.getElem?_eq_getElem h]; rfl
  · rw [List.take_of_length_le (by omega), List.take_of_length_le h, List.getD_eq_getElem?_getD, List.getElem?_eq_none h]; simp
theorem sumD_val (a b : List Nat) (k : Nat) : dV (sumD a b k) = dV (a.take k) + dV (b.take k) := by
  induction k with
  | zero => simp [sumD, dV]
  | succ k ih => rw [sumD_succ, dV_snoc, sumD_length, ih, dV_take, dV_take, Nat.mul_add]; omega
theorem sumD_full (a b : List Nat) : dV (sumD a b (max a.length b.length)) = dV a + dV b := by
  rw [sumD_val, List.take_of_length_le (by omega), List.take_of_length_le (by omega)]
theorem sumD_bound (a b : List Nat) (ha : Dig a) (hb : Dig b) (k : Nat) : ∀ d ∈ sumD a b k, d < 512 := by
  intro d hd
  obtain ⟨i, _, rfl⟩ := List.mem_map.1 hd
  have := ha.get i
  have := hb.get i
  omega
/-- A product, one row's part. -/
def mulIn (a b : List Nat) (i : Nat) (out : List Nat) : Nat → List Nat
  | 0 => out
  | k + 1 => (mulIn a b i out k).set (i + k) ((mulIn a b i out k).getD (i + k) 0 + a.getD i 0 * b.getD k 0)
def mulRow (a b : List Nat) : Nat → List Nat
  | 0 => List.replicate (a.length + b.length) 0
  | i + 1 => mulIn a b i (mulRow a b i) b.length
theorem mulIn_length (a b : List Nat) (i : Nat) (out : List Nat) (k : Nat) : (mulIn a b i out k).length = out.length := by
  induction k with
  | zero => rfl
  | succ k ih => rw [mulIn, List.length_set, ih]
theorem mulRow_length (a b : List Nat) (i : Nat) : (mulRow a b i).length = a.length + b.length := by
  induction i with
  | zero => simp [mulRow]
  | succ i ih => rw [mulRow, mulIn_length, ih]
theorem dV_set (l : List Nat) (j x : Nat) (h : j < l.length) : dV (l.set j (l.getD j 0 + x)) = dV l + x * 256 ^ j := by
  induction l generalizing j with
  | nil => simp at h
  | cons d l ih =>
    cases j with
    | zero => simp [dV]; omega
    | succ j =>
      have := ih j (by simpa using h)
      simp only [List.set_cons_succ, dV, List.getD_cons_succ, this]
      rw [Nat.mul_add, Nat.pow_succ]
      have e : 256 * (x * 256 ^ j) = x * (256 ^ j * 256) := by rw [Nat.mul_comm (256 ^ j), ← Nat.mul_assoc, ← Nat.mul_assoc, Nat.mul_comm 256 x]
      rw [e]; omega
theorem mulIn_val (a b : List Nat) (i : Nat) (out : List Nat) (k : Nat) (hk : i + k ≤ out.length) : dV (mulIn a b i out k) = dV out + a.getD i 0 * 256 ^ i * dV (b.take k) := by
  induction k with
  | zero => simp [mulIn, dV]
  | succ k ih =>
    rw [mulIn, dV_set _ _ _ (by rw [mulIn_length]; omega), ih (by omega), dV_take, Nat.mul_add, Nat.add_assoc, Nat.pow_add]
    congr 2
    ac_rfl
theorem mulRow_val (a b : List Nat) (i : Nat) (hi : i ≤ a.length) : dV (mulRow a b i) = dV (a.take i) * dV b := by
  induction i with
  | zero =>
    have : ∀ n, dV (List.replicate n 0) = 0 := fun n => by
      induction n with
      | zero => rfl
      | succ n ih => rw [List.replicate_succ, dV, ih]
    simp [mulRow, dV, this]
  | succ i ih =>
    rw [mulRow, mulIn_val _ _ _ _ _ (by rw [mulRow_length]; omega), ih (by omega), dV_take, Nat.add_mul, List.take_of_length_le (Nat.le_refl _), Nat.mul_comm (256 ^ i)]
theorem mulRow_full (a b : List Nat) : dV (mulRow a b a.length) = dV a * dV b := by
  rw [mulRow_val a b _ (Nat.le_refl _), List.take_of_length_le (Nat.le_refl _)]
theorem getD_set_le (l : List Nat) (j x B : Nat) (h : ∀ k, l.getD k 0 ≤ B) (hx : x ≤ B) (k : Nat) : (l.set j x).getD k 0 ≤ B := by
  rw [List.getD_eq_getElem?_getD]
  by_cases e : j = k
  · subst e
    rw [List.getElem?_set]
    split
    · split <;> simp [hx]
    · exact absurd rfl ‹_›
  · rw [List.getElem?_set_ne e, ← List.getD_eq_getElem?_getD]; exact h k
theorem mulIn_far (a b : List Nat) (i : Nat) (out : List Nat) (k j : Nat) (h : i + k ≤ j) : (mulIn a b i out k).getD j 0 = out.getD j 0 := by
  induction k with
  | zero => rfl
  | succ k ih =>
    rw [mulIn]
    have : i + k ≠ j := by omega
    rw [List.getD_eq_getElem?_getD, List.getElem?_set_ne this, ← List.getD_eq_getElem?_getD]
    exact ih (by omega)
theorem mulIn_bound (a b : List Nat) (ha : Dig a) (hb : Dig b) (i : Nat) (out : List Nat) (B : Nat) (h : ∀ k, out.getD k 0 ≤ B) (k : Nat) : ∀ j, (mulIn a b i out k).getD j 0 ≤ B + 65025 := by
  induction k with
  | zero => intro j; have := h j; simp only [mulIn]; omega
  | succ k ih =>
    intro j
    rw [mulIn]
    refine getD_set_le _ _ _ _ ih ?_ j
    rw [mulIn_far _ _ _ _ _ _ (Nat.le_refl _)]
    have h1 := h (i + k)
    have h2 : a.getD i 0 * b.getD k 0 ≤ 255 * 255 := Nat.mul_le_mul (by have := ha.get i; omega) (by have := hb.get k; omega)
    omega
theorem mulRow_bound (a b : List Nat) (ha : Dig a) (hb : Dig b) (i : Nat) : ∀ j, (mulRow a b i).getD j 0 ≤ i * 65025 := by
  induction i with
  | zero =>
    intro j
    simp only [mulRow, List.getD_eq_getElem?_getD, List.getElem?_replicate]
    split <;> simp
  | succ i ih =>
    intro j
    have := mulIn_bound a b ha hb i (mulRow a b i) (i * 65025) ih b.length j
    rw [mulRow, Nat.succ_mul]; exact this

/-! ### Digits of a number -/
def digsOf (X n : Nat) : List Nat := (List.range n).map fun i => X / 256 ^ i % 256
theorem digsOf_length (X n : Nat) : (digsOf X n).length = n := by simp [digsOf]
theorem digsOf_succ (X n : Nat) : digsOf X (n + 1) = digsOf X n ++ [X / 256 ^ n % 256] := by simp [digsOf, List.range_succ]
theorem dV_digsOf (X n : Nat) : dV (digsOf X n) = X % 256 ^ n := by
  induction n with
  | zero => simp [digsOf, dV, Nat.mod_one]
  | succ n ih => rw [digsOf_succ, dV_snoc, digsOf_length, ih, Nat.pow_succ, Nat.mod_mul]
theorem digsOf_dig (X n : Nat) : Dig (digsOf X n) := by
  intro d hd
  obtain ⟨i, _, rfl⟩ := List.mem_map.1 hd
  exact Nat.mod_lt _ (by omega)
theorem digit_of (l : List Nat) (h : Dig l) (i : Nat) : l.getD i 0 = dV l / 256 ^ i % 256 := by
  induction l generalizing i with
  | nil => simp [dV]
  | cons d l ih =>
    have hd := h d (by simp)
    cases i with
    | zero => simp [dV]; omega
    | succ i =>
      have h2 : dV (d :: l) / 256 = dV l := by rw [dV]; omega
      rw [List.getD_cons_succ, ih (fun x hx => h x (by simp [hx])) i, Nat.pow_succ, Nat.mul_comm (256 ^ i) 256, ← Nat.div_div_eq_div_mul, h2]
/-- What is above 130 bits. -/
def hiD (l : List Nat) (k : Nat) : List Nat := (List.range k).map fun j => l.getD (16 + j) 0 / 4 + l.getD (16 + j + 1) 0 % 4 * 64
theorem hiD_length (l : List Nat) (k : Nat) : (hiD l k).length = k := by simp [hiD]
theorem hiD_succ (l : List Nat) (k : Nat) : hiD l (k + 1) = hiD l k ++ [l.getD (16 + k) 0 / 4 + l.getD (16 + k + 1) 0 % 4 * 64] := by simp [hiD, List.range_succ]
def two130 : Nat := 1361129467683753853853498429727072845824
theorem hiD_digs (l : List Nat) (h : Dig l) (k : Nat) : hiD l k = digsOf (dV l / two130) k := by
  unfold hiD digsOf
  apply List.map_congr_left
  intro j _
  rw [digit_of l h, digit_of l h, Nat.div_div_eq_div_mul, show two130 = 256 ^ 16 * 4 from rfl, Nat.pow_add 256 16 j, Nat.pow_succ 256 (16 + j), Nat.pow_add 256 16 j]
  rw [← Nat.div_div_eq_div_mul (dV l) (256 ^ 16 * 256 ^ j) 256, Nat.mul_assoc (256 ^ 16) 4, Nat.mul_comm 4 (256 ^ j), ← Nat.mul_assoc, ← Nat.div_div_eq_div_mul (dV l) (256 ^ 16 * 256 ^ j) 4]
  omega
theorem hiD_val (l : List Nat) (h : Dig l) : dV (hiD l (l.length - 16)) = dV l / two130 := by
  rw [hiD_digs l h, dV_digsOf]
  apply Nat.mod_eq_of_lt
  have h1 := dV_lt h
  rcases Nat.lt_or_ge l.length 16 with g | g
  · have h2 : 256 ^ l.length ≤ 256 ^ 16 := Nat.pow_le_pow_right (by omega) (by omega)
    rw [Nat.div_eq_of_lt]
    · exact Nat.pow_pos (by omega)
    · exact Nat.lt_of_lt_of_le h1 (Nat.le_trans h2 (by unfold two130; omega))
  · rw [Nat.div_lt_iff_lt_mul (by unfold two130; omega)]
    refine Nat.lt_of_lt_of_le h1 ?_
    have e : 256 ^ l.length = 256 ^ (l.length - 16) * 256 ^ 16 := by rw [← Nat.pow_add, Nat.sub_add_cancel g]
    rw [e]
    exact Nat.mul_le_mul_left _ (by unfold two130; omega)
theorem hiD_dig (l : List Nat) (h : Dig l) (k : Nat) : Dig (hiD l k) := by rw [hiD_digs l h]; exact digsOf_dig _ _
/-- What is below. -/
def loD (l : List Nat) : List Nat := (digsOf (dV l) 17).set 16 ((digsOf (dV l) 17).getD 16 0 % 4)
theorem take_digs (l : List Nat) (h : Dig l) (k : Nat) : (List.range k).map (fun i => l.getD i 0) = digsOf (dV l) k := by
  unfold digsOf
  apply List.map_congr_left
  intro i _
  exact digit_of l h i
theorem digsOf_get (X n i : Nat) (h : i < n) : (digsOf X n).getD i 0 = X / 256 ^ i % 256 := by
  unfold digsOf
  rw [List.getD_eq_getElem?_getD, List.getElem?_map, List.getElem?_range h]; rfl
theorem loD_eq (l : List Nat) : loD l = digsOf (dV l) 16 ++ [dV l / 256 ^ 16 % 4] := by
  unfold loD
  rw [digsOf_get _ _ _ (by omega), digsOf_succ, List.set_append_right _ _ (by rw [digsOf_length]; exact Nat.le_refl _), digsOf_length, Nat.sub_self, List.set_cons_zero]
  congr 2
  omega
theorem loD_val (l : List Nat) : dV (loD l) = dV l % two130 := by
  rw [loD_eq, dV_snoc, digsOf_length, dV_digsOf, show two130 = 256 ^ 16 * 4 from rfl, Nat.mod_mul]
theorem loD_dig (l : List Nat) : Dig (loD l) := by
  rw [loD_eq]
  exact (digsOf_dig _ _).snoc (by omega)
theorem loD_length (l : List Nat) : (loD l).length = 17 := by rw [loD_eq, List.length_append, digsOf_length]; rfl
/-- Is a number above 0? -/
def someD (l : List Nat) : Bool := decide (dV l ≠ 0)
theorem dV_zero (l : List Nat) : dV l = 0 ↔ ∀ d ∈ l, d = 0 := by
  induction l with
  | nil => simp [dV]
  | cons d l ih =>
    rw [dV]
    constructor
    · intro h x hx
      rcases List.mem_cons.1 hx with rfl | hx
      · omega
      · exact ih.1 (by omega) x hx
    · intro h
      have h1 := h d (by simp)
      have h2 := ih.2 (fun x hx => h x (by simp [hx]))
      omega
/-- One round of 'Modulo'. -/
theorem mod_round (X : Nat) (h : X / two130 ≠ 0) : (X % two130 + 5 * (X / two130)) % prime = X % prime ∧ X % two130 + 5 * (X / two130) < X := by
  have h1 := Nat.div_add_mod X two130
  constructor
  · have h2 : X = X % two130 + 5 * (X / two130) + prime * (X / two130) := by
      have : two130 * (X / two130) = 5 * (X / two130) + prime * (X / two130) := by rw [← Nat.add_mul]; rfl
      omega
    conv => rhs; rw [h2]
    rw [Nat.add_mul_mod_self_left]
  · have : two130 * (X / two130) = 5 * (X / two130) + prime * (X / two130) := by rw [← Nat.add_mul]; rfl
    have h3 : prime * 1 ≤ prime * (X / two130) := Nat.mul_le_mul_left _ (by omega)
    have := prime_pos
    omega
theorem mod_end (X : Nat) (h : X / two130 = 0) : (if (X + 5) / two130 ≠ 0 then (X + 5) % two130 else X) = X % prime := by
  have hx : X < two130 := by
    rcases Nat.lt_or_ge X two130 with g | g
    · exact g
    · have := Nat.div_pos g (show 0 < two130 by unfold two130; omega); omega
  unfold two130 at *
  unfold prime
  split
  · rename_i g
    omega
  · rename_i g
    rw [Nat.mod_eq_of_lt]
    omega
end Go.Proofs.Ytfglhemmccihfaa
namespace Go.Proofs.Ytfglhemmccihfaa

def firstS : List (BitVec 32) := [0x6a09e667#32, 0xbb67ae85#32, 0x3c6ef372#32, 0xa54ff53a#32, 0x510e527f#32, 0x9b05688c#32, 0x1f83d9ab#32, 0x5be0cd19#32]
def tableS : List (BitVec 32) := [
  0x428a2f98#32, 0x71374491#32, 0xb5c0fbcf#32, 0xe9b5dba5#32, 0x3956c25b#32, 0x59f111f1#32, 0x923f82a4#32, 0xab1c5ed5#32,
  0xd807aa98#32, 0x12835b01#32, 0x243185be#32, 0x550c7dc3#32, 0x72be5d74#32, 0x80deb1fe#32, 0x9bdc06a7#32, 0xc19bf174#32,
  0xe49b69c1#32, 0xefbe4786#32, 0x0fc19dc6#32, 0x240ca1cc#32, 0x2de92c6f#32, 0x4a7484aa#32, 0x5cb0a9dc#32, 0x76f988da#32,
  0x983e5152#32, 0xa831c66d#32, 0xb00327c8#32, 0xbf597fc7#32, 0xc6e00bf3#32, 0xd5a79147#32, 0x06ca6351#32, 0x14292967#32,
  0x27b70a85#32, 0x2e1b2138#32, 0x4d2c6dfc#32, 0x53380d13#32, 0x650a7354#32, 0x766a0abb#32, 0x81c2c92e#32, 0x92722c85#32,
  0xa2bfe8a1#32, 0xa81a664b#32, 0xc24b8b70#32, 0xc76c51a3#32, 0xd192e819#32, 0xd6990624#32, 0xf40e3585#32, 0x106aa070#32,
  0x19a4c116#32, 0x1e376c08#32, 0x2748774c#32, 0x34b0bcb5#32, 0x391c0cb3#32, 0x4ed8aa4a#32, 0x5b9cca4f#32, 0x682e6ff3#32,
  0x748f82ee#32, 0x78a5636f#32, 0x84c87814#32, 0x8cc70208#32, 0x90befffa#32, 0xa4506ceb#32, 0xbef9a3f7#32, 0xc67178f2#32]
/-- A block's t-th number, from the high end. -/
def numHi (block : List UInt8) (t : Nat) : BitVec 32 := (hiV ((block.drop (4 * t)).take 4)).setWidth 32
def sig0 (x : BitVec 32) : BitVec 32 := rorI x 7 ^^^ rorI x 18 ^^^ x >>> 3
def sig1 (x : BitVec 32) : BitVec 32 := rorI x 17 ^^^ rorI x 19 ^^^ x >>> 10
def nextW (w : List (BitVec 32)) (t : Nat) : BitVec 32 := w.getD (t - 16) 0 + sig0 (w.getD (t - 15) 0) + w.getD (t - 7) 0 + sig1 (w.getD (t - 2) 0)
/-- A block's numbers, the first k of them. -/
def schedK (block : List UInt8) : Nat → List (BitVec 32)
  | 0 => []
  | t + 1 => schedK block t ++ [if t < 16 then numHi block t else nextW (schedK block t) t]
theorem schedK_length (block : List UInt8) (k : Nat) : (schedK block k).length = k := by
  induction k with
  | zero => rfl
  | succ k ih => rw [schedK, List.length_append, ih]; rfl
def schedL (block : List UInt8) : List (BitVec 32) := schedK block 64
/-- The first numbers, taken out of all. -/
theorem schedK_get (block : List UInt8) (k i : Nat) (h : i < k) : (schedK block k).getD i 0 = (schedK block (i + 1)).getD i 0 := by
  induction k with
  | zero => omega
  | succ k ih =>
    by_cases e : i = k
    · subst e; rfl
    · have hi : i < k := by omega
      rw [← ih hi, schedK]
      simp only [List.getD_eq_getElem?_getD]
      rw [List.getElem?_append_left (by rw [schedK_length]; exact hi)]
def bsig1 (x : BitVec 32) : BitVec 32 := rorI x 6 ^^^ rorI x 11 ^^^ rorI x 25
def bsig0 (x : BitVec 32) : BitVec 32 := rorI x 2 ^^^ rorI x 13 ^^^ rorI x 22
def chooseB (e f g : BitVec 32) : BitVec 32 := e &&& f ^^^ ~~~e &&& g
def majorB (a b c : BitVec 32) : BitVec 32 := a &&& b ^^^ a &&& c ^^^ b &&& c
def partP (v : List (BitVec 32)) (k w : BitVec 32) : BitVec 32 := v.getD 7 0 + bsig1 (v.getD 4 0) + chooseB (v.getD 4 0) (v.getD 5 0) (v.getD 6 0) + k + w
def partQ (v : List (BitVec 32)) : BitVec 32 := bsig0 (v.getD 0 0) + majorB (v.getD 0 0) (v.getD 1 0) (v.getD 2 0)
def roundS (v : List (BitVec 32)) (k w : BitVec 32) : List (BitVec 32) :=
  [partP v k w + partQ v, v.getD 0 0, v.getD 1 0, v.getD 2 0, v.getD 3 0 + partP v k w, v.getD 4 0, v.getD 5 0, v.getD 6 0]
def roundsK (s w : List (BitVec 32)) : Nat → List (BitVec 32)
  | 0 => s
  | t + 1 => roundS (roundsK s w t) (tableS.getD t 0) (w.getD t 0)
theorem roundsK_length (s w : List (BitVec 32)) (h : s.length = 8) (k : Nat) : (roundsK s w k).length = 8 := by
  cases k with
  | zero => exact h
  | succ k => rfl
def addK (s v : List (BitVec 32)) : Nat → List (BitVec 32)
  | 0 => s
  | k + 1 => (addK s v k).set k ((addK s v k).getD k 0 + v.getD k 0)
theorem addK_length (s v : List (BitVec 32)) (k : Nat) : (addK s v k).length = s.length := by
  induction k with
  | zero => rfl
  | succ k ih => rw [addK, List.length_set, ih]
/-- A block mixed into a state. -/
def mixS (s : List (BitVec 32)) (block : List UInt8) : List (BitVec 32) := addK s (roundsK s (schedL block) 64) 8
theorem mixS_length (s : List (BitVec 32)) (block : List UInt8) : (mixS s block).length = s.length := addK_length ..
/-- A padding. -/
def zerosS (n : BitVec 64) : Nat := ((119 - n.toNat % 64) % 64)
def padL (n : BitVec 64) : List UInt8 := 128 :: List.replicate (zerosS n) 0 ++ highL (n * 8#64) 8
theorem padL_length (n : BitVec 64) : (padL n).length = 9 + zerosS n := by
  simp [padL, highL_length]; omega
def blockS (t : List UInt8) (j : Nat) : List UInt8 := (t.drop (64 * j)).take 64
/-- So many blocks of a text mixed, one after the other. -/
def mixK (s : List (BitVec 32)) (t : List UInt8) : Nat → List (BitVec 32)
  | 0 => s
  | j + 1 => mixS (mixK s t j) (blockS t j)
theorem mixK_length (s : List (BitVec 32)) (t : List UInt8) (j : Nat) : (mixK s t j).length = s.length := by
  induction j with
  | zero => rfl
  | succ j ih => rw [mixK, mixS_length, ih]
def bytesS (s : List (BitVec 32)) (k : Nat) : List UInt8 := (List.range k).flatMap fun i => highL ((s.getD i 0).setWidth 64) 4
theorem bytesS_succ (s : List (BitVec 32)) (k : Nat) : bytesS s (k + 1) = bytesS s k ++ highL ((s.getD k 0).setWidth 64) 4 := by
  simp [bytesS, List.range_succ]
theorem bytesS_length (s : List (BitVec 32)) (k : Nat) : (bytesS s k).length = 4 * k := by
  induction k with
  | zero => rfl
  | succ k ih => rw [bytesS_succ, List.length_append, ih, highL_length]; omega
def allS (t : List UInt8) : List UInt8 := t ++ padL (BitVec.ofNat 64 t.length)
/-- A text's digest. -/
def shaL (t : List UInt8) : List UInt8 := bytesS (mixK firstS (allS t) ((allS t).length / 64)) 8
theorem shaL_length (t : List UInt8) : (shaL t).length = 32 := bytesS_length _ 8
theorem blockS_append (t u : List UInt8) (j : Nat) (h : 64 * (j + 1) ≤ t.length) : blockS (t ++ u) j = blockS t j := by
  unfold blockS
  rw [List.drop_append_of_le_length (by omega), List.take_append_of_le_length (by rw [List.length_drop]; omega)]
theorem mixK_append (s : List (BitVec 32)) (t u : List UInt8) (j : Nat) (h : 64 * j ≤ t.length) : mixK s (t ++ u) j = mixK s t j := by
  induction j with
  | zero => rfl
  | succ j ih => rw [mixK, mixK, ih (by omega), blockS_append _ _ _ h]
theorem blockS_drop (t : List UInt8) (a j : Nat) : blockS (t.drop (64 * a)) j = blockS t (a + j) := by
  unfold blockS
  rw [List.drop_drop, ← Nat.mul_add]
theorem mixK_add (s : List (BitVec 32)) (t : List UInt8) (a j : Nat) : mixK s t (a + j) = mixK (mixK s t a) (t.drop (64 * a)) j := by
  induction j with
  | zero => rfl
  | succ j ih => rw [← Nat.add_assoc, mixK, mixK, ih, blockS_drop]
/-- Whole blocks, and what is left. -/
def restS (t : List UInt8) : List UInt8 := t.drop (64 * (t.length / 64))
theorem restS_length (t : List UInt8) : (restS t).length < 64 := by unfold restS; rw [List.length_drop]; omega
/-- More behind what makes no whole block yet. -/
theorem mix_more (s : List (BitVec 32)) (t u : List UInt8) :
    mixK (mixK s t (t.length / 64)) (restS t ++ u) ((restS t ++ u).length / 64) = mixK s (t ++ u) ((t ++ u).length / 64) ∧ restS (restS t ++ u) = restS (t ++ u) := by
  have h1 : restS t ++ u = (t ++ u).drop (64 * (t.length / 64)) := by
    unfold restS
    rw [List.drop_append_of_le_length (by omega)]
  have hl : (restS t ++ u).length = (t ++ u).length - 64 * (t.length / 64) := by rw [h1, List.length_drop]
  have hl2 : (t ++ u).length = t.length + u.length := List.length_append
  have hq : (t ++ u).length / 64 = t.length / 64 + (restS t ++ u).length / 64 := by omega
  constructor
  · rw [hq, mixK_add, ← h1, mixK_append s t u _ (by omega)]
  · have h2 : restS (restS t ++ u) = (restS t ++ u).drop (64 * ((restS t ++ u).length / 64)) := rfl
    rw [h2]
    generalize (restS t ++ u).length / 64 = k at *
    rw [h1, List.drop_drop]
    show _ = (t ++ u).drop (64 * ((t ++ u).length / 64))
    rw [hq]
    congr 1
    omega
theorem chooseB_ref (e f g : BitVec 32) : (e &&& f) ||| ((4294967295#32 - e) &&& g) = chooseB e f g := by
  have h : 4294967295#32 - e = ~~~e := by
    apply BitVec.eq_of_toNat_eq
    have := e.isLt
    rw [BitVec.toNat_sub, BitVec.toNat_not]
    simp only [BitVec.toNat_ofNat]
    omega
  rw [h]
  unfold chooseB
  apply BitVec.eq_of_getLsbD_eq
  intro i hi
  simp only [BitVec.getLsbD_or, BitVec.getLsbD_and, BitVec.getLsbD_xor, BitVec.getLsbD_not, hi, decide_true, Bool.true_and]
  cases e.getLsbD i <;> cases f.getLsbD i <;> cases g.getLsbD i <;> rfl
theorem majorB_ref (a b c : BitVec 32) : (a &&& b) ||| (b &&& c) ||| (a &&& c) = majorB a b c := by
  unfold majorB
  apply BitVec.eq_of_getLsbD_eq
  intro i hi
  simp only [BitVec.getLsbD_or, BitVec.getLsbD_and, BitVec.getLsbD_xor]
  cases a.getLsbD i <;> cases b.getLsbD i <;> cases c.getLsbD i <;> rfl
theorem shr_three (x : BitVec 32) : x / 8#32 = x >>> 3 := by
  apply BitVec.eq_of_toNat_eq
  simp [Nat.shiftRight_eq_div_pow]
theorem shr_ten (x : BitVec 32) : x / 1024#32 = x >>> 10 := by
  apply BitVec.eq_of_toNat_eq
  simp [Nat.shiftRight_eq_div_pow]
end Go.Proofs.Ytfglhemmccihfaa
namespace Go.Proofs.Ytfglhemmccihfaa

def shortK (key : List UInt8) : List UInt8 := if 64 < key.length then shaL key else key
theorem shortK_length (key : List UInt8) : (shortK key).length ≤ 64 := by
  unfold shortK
  by_cases h : 64 < key.length
  · rw [if_pos h, shaL_length]; omega
  · rw [if_neg h]; omega
/-- A key's block. -/
def padK (key : List UInt8) : List UInt8 := shortK key ++ List.replicate (64 - (shortK key).length) 0
theorem padK_length (key : List UInt8) : (padK key).length = 64 := by
  have := shortK_length key
  unfold padK
  rw [List.length_append, List.length_replicate]; omega
def turnK (key : List UInt8) (b : UInt8) : List UInt8 := (padK key).map (· ^^^ b)
theorem turnK_length (key : List UInt8) (b : UInt8) : (turnK key b).length = 64 := by rw [turnK, List.length_map, padK_length]
/-- A text's mac by a key. -/
def macL (key text : List UInt8) : List UInt8 := shaL (turnK key 92 ++ shaL (turnK key 54 ++ text))
theorem macL_length (key text : List UInt8) : (macL key text).length = 32 := shaL_length _
def partK (key info : List UInt8) : Nat → List UInt8
  | 0 => []
  | i + 1 => macL key (partK key info i ++ info ++ [UInt8.ofNat (i + 1)])
theorem partK_length (key info : List UInt8) (i : Nat) : (partK key info i).length ≤ 32 := by
  cases i with
  | zero => exact Nat.zero_le _
  | succ i => rw [partK, macL_length]; exact Nat.le_refl _
def outK (key info : List UInt8) : Nat → List UInt8
  | 0 => []
  | i + 1 => outK key info i ++ partK key info (i + 1)
theorem outK_length (key info : List UInt8) (i : Nat) : (outK key info i).length = 32 * i := by
  induction i with
  | zero => rfl
  | succ i ih => rw [outK, List.length_append, ih, partK, macL_length]; omega
/-- So many bytes of a key. -/
def expandL (key info : List UInt8) (n : Nat) : List UInt8 := (outK key info ((n + 31) / 32)).take n
theorem expandL_length (key info : List UInt8) (n : Nat) : (expandL key info n).length = n := by
  rw [expandL, List.length_take, outK_length]; omega
theorem outK_take (key info : List UInt8) (a b : Nat) (h : b ≤ a) : (outK key info a).take (32 * b) = outK key info b := by
  induction a with
  | zero =>
    obtain rfl : b = 0 := by omega
    rfl
  | succ a ih =>
    by_cases e : b = a + 1
    · subst e
      exact List.take_of_length_le (by rw [outK_length]; exact Nat.le_refl _)
    · rw [outK, List.take_append_of_le_length (by rw [outK_length]; omega)]
      exact ih (by omega)
/-- Fewer bytes are the beginning of more. -/
theorem expandL_take (key info : List UInt8) (n m : Nat) (h : n ≤ m) : (expandL key info m).take n = expandL key info n := by
  have hb : (n + 31) / 32 ≤ (m + 31) / 32 := by omega
  rw [expandL, expandL, List.take_take, Nat.min_eq_left h, ← outK_take key info _ _ hb, List.take_take, Nat.min_eq_left (by omega)]
theorem xor_same (l : List UInt8) (b : UInt8) : xorL l (List.replicate l.length b) = l.map (· ^^^ b) := by
  induction l with
  | nil => rfl
  | cons x l ih =>
    rw [List.length_cons, List.replicate_succ]
    show (x ^^^ b) :: xorL l (List.replicate l.length b) = _
    rw [ih]; rfl
theorem fill_key (key : List UInt8) (h : shortK key ≠ []) : fillL (shortK key) 64 = padK key := by
  have hl := shortK_length key
  have h0 : 0 < (shortK key).length := List.length_pos_iff.2 h
  unfold padK
  by_cases e : (shortK key).length = 64
  · rw [fill_none _ _ (by decide) (by omega), e]; simp
  · rw [fill_some _ _ (by decide) (by omega)]
    congr 2
    omega
theorem fill_empty (key : List UInt8) (h : shortK key = []) : fillL (shortK key) 64 = [] ∧ padK key = List.replicate 64 0 := by
  unfold padK
  rw [h]
  exact ⟨rfl, rfl⟩
/-- A key that is filled up has the same block. -/
theorem padK_fill (key : List UInt8) (k : Nat) (h : key.length + k ≤ 64) : padK (key ++ List.replicate k 0) = padK key := by
  have e1 : shortK key = key := by unfold shortK; rw [if_neg (by omega)]
  have e2 : shortK (key ++ List.replicate k 0) = key ++ List.replicate k 0 := by unfold shortK; rw [if_neg (by simp; omega)]
  unfold padK
  rw [e1, e2, List.append_assoc, List.length_append, List.length_replicate, List.replicate_append_replicate]
  congr 2
  omega
theorem padK_long (key : List UInt8) (h : 64 < key.length) : padK (shaL key) = padK key := by
  have e1 : shortK key = shaL key := by unfold shortK; rw [if_pos h]
  have e2 : shortK (shaL key) = shaL key := by unfold shortK; rw [if_neg (by rw [shaL_length]; omega)]
  unfold padK
  rw [e1, e2]
theorem macL_padK {k1 k2 : List UInt8} (h : padK k1 = padK k2) (text : List UInt8) : macL k1 text = macL k2 text := by
  unfold macL turnK
  rw [h]
end Go.Proofs.Ytfglhemmccihfaa
namespace Go.Proofs.Ytfglhemmccihfaa

/-- The key of a domain and an epoch. -/
def infoL (domain : List UInt8) (epoch : BitVec 64) : List UInt8 := highL (BitVec.ofNat 64 domain.length) 2 ++ domain ++ highL epoch 8
def keyB (master domain : List UInt8) (epoch : BitVec 64) : List UInt8 := expandL (macL [112, 111, 115, 116, 104, 111, 114, 110] master) (infoL domain epoch) 32
/-- What was sealed: by a key and a nonce, data and a text; what came out. -/
structure Ent where
  k : ByteArray
  n : ByteArray
  d : ByteArray
  t : ByteArray
  s : ByteArray
/-- An ideal box. -/
structure BoxSt where
  draws : ByteArray
  tab : List Ent
def findB (tab : List Ent) (k n : ByteArray) : Option Ent := tab.find? fun e => seq e.k k && seq e.n n
theorem findB_some {tab : List Ent} {k n : ByteArray} {e : Ent} (h : findB tab k n = some e) : e ∈ tab ∧ e.k = k ∧ e.n = n := by
  have h1 := List.find?_some h
  have h2 := List.mem_of_find?_eq_some h
  rw [Bool.and_eq_true, seq_iff, seq_iff] at h1
  exact ⟨h2, h1.1, h1.2⟩
theorem findB_none {tab : List Ent} {k n : ByteArray} (h : findB tab k n = none) : ∀ e ∈ tab, ¬ (e.k = k ∧ e.n = n) := by
  intro e he hh
  have := List.find?_eq_none.1 h e he
  apply this
  rw [Bool.and_eq_true, seq_iff, seq_iff]
  exact hh
/-- May sizes be? -/
def mayB (k n d : ByteArray) (len : Int) : Bool := decide (k.size = 32 ∧ n.size = 12 ∧ d.size ≤ 4096 ∧ 0 ≤ len ∧ len ≤ 16384)
/-- An ideal box seals: what comes out, the fault, the box then. -/
def sealB (st : BoxSt) (k n d t : ByteArray) : ByteArray × Int × BoxSt :=
  if mayB k n d t.size then
    match findB st.tab k n with
    | some e => if seq e.d d && seq e.t t then (e.s, 0, st) else (⟨#[]⟩, 11, st)
    | none =>
      if st.draws.size < t.size + 16 then (⟨#[]⟩, 21, st)
      else (st.draws.extract 0 (t.size + 16), 0, ⟨st.draws.extract (t.size + 16) st.draws.size, st.tab ++ [⟨k, n, d, t, st.draws.extract 0 (t.size + 16)⟩]⟩)
  else (⟨#[]⟩, 5, st)
/-- .. and opens. -/
def openB (st : BoxSt) (k n d s : ByteArray) : ByteArray × Int :=
  if mayB k n d ((s.size : Int) - 16) then
    match findB st.tab k n with
    | some e => if seq e.d d && seq e.s s then (e.t, 0) else (⟨#[]⟩, 20)
    | none => (⟨#[]⟩, 20)
  else (⟨#[]⟩, 5)
end Go.Proofs.Ytfglhemmccihfaa

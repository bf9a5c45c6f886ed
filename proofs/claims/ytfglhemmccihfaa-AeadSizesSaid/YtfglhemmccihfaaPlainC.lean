/-
  What layer 4 (chacha) computes, in plain words. No program.
-/
import Derived.Test.YtfglhemmccihfaaPlain
namespace Go.Proofs.Ytfglhemmccihfaa

/-- Four numbers stirred. -/
def stir4 (a b c d : BitVec 32) : List (BitVec 32) :=
  let a1 := a + b
  let d1 := rolI (d ^^^ a1) 16
  let c1 := c + d1
  let b1 := rolI (b ^^^ c1) 12
  let a2 := a1 + b1
  let d2 := rolI (d1 ^^^ a2) 8
  let c2 := c1 + d2
  let b2 := rolI (b1 ^^^ c2) 7
  [a2, b2, c2, d2]
theorem stir4_length (a b c d : BitVec 32) : (stir4 a b c d).length = 4 := rfl
/-- Of sixteen numbers, four are stirred. -/
def stirAt (s : List (BitVec 32)) (p : Nat × Nat × Nat × Nat) : List (BitVec 32) :=
  let q := stir4 (s.getD p.1 0) (s.getD p.2.1 0) (s.getD p.2.2.1 0) (s.getD p.2.2.2 0)
  (((s.set p.1 (q.getD 0 0)).set p.2.1 (q.getD 1 0)).set p.2.2.1 (q.getD 2 0)).set p.2.2.2 (q.getD 3 0)
theorem stirAt_length (s : List (BitVec 32)) (p : Nat × Nat × Nat × Nat) : (stirAt s p).length = s.length := by simp [stirAt]
def placesL : List (Nat × Nat × Nat × Nat) :=
  [(0, 4, 8, 12), (1, 5, 9, 13), (2, 6, 10, 14), (3, 7, 11, 15), (0, 5, 10, 15), (1, 6, 11, 12), (2, 7, 8, 13), (3, 4, 9, 14)]
/-- So many steps of a double round. -/
def stepsL (s : List (BitVec 32)) (k : Nat) : List (BitVec 32) := (placesL.take k).foldl stirAt s
theorem stepsL_length (s : List (BitVec 32)) (k : Nat) : (stepsL s k).length = s.length := by
  unfold stepsL
  generalize placesL.take k = l
  induction l generalizing s with
  | nil => rfl
  | cons p l ih => rw [List.foldl_cons, ih, stirAt_length]
def doubleL (s : List (BitVec 32)) : List (BitVec 32) := stepsL s 8
theorem stepsL_succ (s : List (BitVec 32)) (k : Nat) (h : k < placesL.length) : stepsL s (k + 1) = stirAt (stepsL s k) placesL[k] := by
  unfold stepsL
  rw [List.take_succ_eq_append_getElem h, List.foldl_append]
  rfl
/-- So many double rounds. -/
def roundsL (s : List (BitVec 32)) : Nat → List (BitVec 32)
  | 0 => s
  | k + 1 => doubleL (roundsL s k)
theorem roundsL_length (s : List (BitVec 32)) (k : Nat) : (roundsL s k).length = s.length := by
  induction k with
  | zero => rfl
  | succ k ih => unfold roundsL doubleL; rw [stepsL_length, ih]
def sigmaL : List UInt8 := [101, 120, 112, 97, 110, 100, 32, 51, 50, 45, 98, 121, 116, 101, 32, 107]
/-- The text whose numbers begin a block. -/
def headL (key : List UInt8) (counter : BitVec 32) (nonce : List UInt8) : List UInt8 := sigmaL ++ key ++ lowL (counter.setWidth 64) 4 ++ nonce
def numAt (text : List UInt8) (i : Nat) : BitVec 32 := (loV ((text.drop (4 * i)).take 4)).setWidth 32
def beginL (key : List UInt8) (counter : BitVec 32) (nonce : List UInt8) : List (BitVec 32) := (List.range 16).map (numAt (headL key counter nonce))
theorem beginL_length (key : List UInt8) (counter : BitVec 32) (nonce : List UInt8) : (beginL key counter nonce).length = 16 := by simp [beginL]
def sumAt (s f : List (BitVec 32)) (i : Nat) : List UInt8 := lowL ((s.getD i 0 + f.getD i 0).setWidth 64) 4
def outL (s f : List (BitVec 32)) (k : Nat) : List UInt8 := (List.range k).flatMap (sumAt s f)
theorem outL_succ (s f : List (BitVec 32)) (k : Nat) : outL s f (k + 1) = outL s f k ++ sumAt s f k := by
  simp [outL, List.range_succ]
theorem outL_length (s f : List (BitVec 32)) (k : Nat) : (outL s f k).length = 4 * k := by
  induction k with
  | zero => rfl
  | succ k ih => rw [outL_succ, List.length_append, ih]; simp [sumAt, lowL_length]; omega
/-- A block. -/
def blockL (key : List UInt8) (counter : BitVec 32) (nonce : List UInt8) : List UInt8 :=
  outL (roundsL (beginL key counter nonce) 10) (beginL key counter nonce) 16
theorem blockL_length (key : List UInt8) (counter : BitVec 32) (nonce : List UInt8) : (blockL key counter nonce).length = 64 := by
  unfold blockL; rw [outL_length]
/-- So many blocks. -/
def blocksL (key : List UInt8) (counter : BitVec 32) (nonce : List UInt8) : Nat → List UInt8
  | 0 => []
  | k + 1 => blocksL key counter nonce k ++ blockL key (counter + BitVec.ofNat 32 k) nonce
theorem blocksL_length (key : List UInt8) (counter : BitVec 32) (nonce : List UInt8) (k : Nat) : (blocksL key counter nonce k).length = 64 * k := by
  induction k with
  | zero => rfl
  | succ k ih => rw [blocksL, List.length_append, ih, blockL_length]; omega
/-- Bytes of a stream. -/
def streamL (key : List UInt8) (counter : BitVec 32) (nonce : List UInt8) (n : Nat) : List UInt8 := (blocksL key counter nonce ((n + 63) / 64)).take n
theorem streamL_length (key : List UInt8) (counter : BitVec 32) (nonce : List UInt8) (n : Nat) : (streamL key counter nonce n).length = n := by
  unfold streamL; rw [List.length_take, blocksL_length]; omega
theorem blocksL_add (key : List UInt8) (counter : BitVec 32) (nonce : List UInt8) (a b : Nat) :
    blocksL key counter nonce (a + b) = blocksL key counter nonce a ++ blocksL key (counter + BitVec.ofNat 32 a) nonce b := by
  induction b with
  | zero => simp [blocksL]
  | succ b ih =>
    rw [← Nat.add_assoc, blocksL, ih, blocksL, List.append_assoc, BitVec.add_assoc, BitVec.ofNat_add]
/-- Fewer bytes are the beginning of more. -/
theorem streamL_take (key : List UInt8) (counter : BitVec 32) (nonce : List UInt8) (n m : Nat) (h : n ≤ m) : (streamL key counter nonce m).take n = streamL key counter nonce n := by
  unfold streamL
  rw [List.take_take, Nat.min_eq_left h]
  obtain ⟨d, hd⟩ : ∃ d, (m + 63) / 64 = (n + 63) / 64 + d := ⟨(m + 63) / 64 - (n + 63) / 64, by omega⟩
  rw [hd, blocksL_add, List.take_append_of_le_length (by rw [blocksL_length]; omega)]
/-- A stream from a later counter on is the rest of one. -/
theorem streamL_drop (key : List UInt8) (counter : BitVec 32) (nonce : List UInt8) (b n : Nat) :
    (streamL key counter nonce (64 * b + n)).drop (64 * b) = streamL key (counter + BitVec.ofNat 32 b) nonce n := by
  unfold streamL
  rw [show (64 * b + n + 63) / 64 = b + (n + 63) / 64 by omega, blocksL_add, List.drop_take, List.drop_left' (by rw [blocksL_length]), Nat.add_sub_cancel_left]
/-- A text turned by a stream. -/
def turnL (key : List UInt8) (counter : BitVec 32) (nonce text : List UInt8) : List UInt8 := xorL text (streamL key counter nonce text.length)
theorem xorL_length (a b : List UInt8) (h : a.length = b.length) : (xorL a b).length = a.length := by simp [xorL, h]
theorem turnL_length (key : List UInt8) (counter : BitVec 32) (nonce text : List UInt8) : (turnL key counter nonce text).length = text.length := xorL_length _ _ (streamL_length ..).symm
theorem xorL_twice (a b : List UInt8) (h : a.length = b.length) : xorL (xorL a b) b = a := by
  induction a generalizing b with
  | nil => simp [xorL]
  | cons x a ih =>
    cases b with
    | nil => simp at h
    | cons y b =>
      have := ih b (by simpa using h)
      simp only [xorL, List.zipWith_cons_cons] at this ⊢
      rw [this, UInt8.xor_assoc, UInt8.xor_self, UInt8.xor_zero]
theorem turnL_twice (key : List UInt8) (counter : BitVec 32) (nonce text : List UInt8) : turnL key counter nonce (turnL key counter nonce text) = text := by
  show xorL (turnL key counter nonce text) (streamL key counter nonce (turnL key counter nonce text).length) = text
  rw [turnL_length]
  exact xorL_twice _ _ (streamL_length ..).symm
theorem xorL_zero (b : List UInt8) : xorL (List.replicate b.length 0) b = b := by
  induction b with
  | nil => rfl
  | cons y b ih => rw [List.length_cons, List.replicate_succ]; unfold xorL at ih ⊢; rw [List.zipWith_cons_cons, ih, UInt8.zero_xor]
theorem turnL_zero (key : List UInt8) (counter : BitVec 32) (nonce : List UInt8) (n : Nat) : turnL key counter nonce (List.replicate n 0) = streamL key counter nonce n := by
  unfold turnL
  rw [List.length_replicate]
  conv => lhs; lhs; rw [← streamL_length key counter nonce n]
  exact xorL_zero _
end Go.Proofs.Ytfglhemmccihfaa

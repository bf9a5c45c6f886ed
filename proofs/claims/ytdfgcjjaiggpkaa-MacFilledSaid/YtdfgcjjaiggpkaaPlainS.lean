/-
  What layer 2 (sha) computes, in plain words. No program.
-/
import Derived.Test.YtdfgcjjaiggpkaaPlain
namespace Go.Proofs.Ytdfgcjjaiggpkaa

def firstS : List (BitVec 32) := [0x6a09e667#32, 0xbb67ae85#32, 0x3c6ef372#32, 0xa54ff53a#32, 0x510e527f#32, 0x9b05688c#32, 0x1f83d9ab#32, 0x5be0cd19#32]
def tableS : List (BitVec 32) := [
  0x428a2f98#32, 0x71374491#32, 0xb5c0fbcf#32, 0xe9b5dba5#32, 0x3956c25b#32, 0x59f111f1#32, 0x923f82a4#32, 0xab1c5ed5#32,
  0xd807aa98#32, 0x12835b01#32, 0x243185be#32, 0x550c7dc3#32, 0x72be5d74#32, 0x80deb1fe#32, 0x9bdc06a7#32, 0xc19bf174#32,
  0xe49b69c1#32, 0xefbe4786#32, 0x0fc19dc6#32, 0x240ca1cc#32, 0x2de92c6f#32, 0x4a7484aa#32, 0x5cb0a9dc#32, 0x76f988da#32,
  0x983e5152#32, 0xa831c66d#32, 0xb00327c8#32, 0xbf597fc7#32, 0xc6e00bf3#32, 0xd5a79147#32, 0x06ca6351#32, 0x14292967#32,
  0x27b70a85#32, 0x2e1b2138#32, 0x4d2c6dfc#32, 0x53380d13#32, 0x650a7354#32, 0x766a0abb#32, 0x81c2c92e#32, 0x92722c85#32,
  0xa2bfe8a1#32, 0xa81a664b#32, 0xc24b8b70#32, 0xc76c51a3#32, 0xd192e819#32, 0xd6990624#32, 0xf40e3585#32, 0x106aa070#32,
  0x19a4c116#32, 0x1e376c08#32, 0x2748774c#32, 0x34b0bcb5#32, 0x391c0cb3#32, 0x4ed8aa4a#32, 0x5b9cca4f#32, 0x682e6ff3#32,
  0x748f82ee#32, 0x78a5636f#32, 0x84c87814#32, 0x8cc70208#32, 0x90befffa#32, 0xa4506ceb#32, 0xbef9a3f7#32, 0xc67178f2#32]
/-- A block's t-th number, from the high end. -/
def numHi (block : List UInt8) (t : Nat) : BitVec 32 := (hiV ((block.drop (4 * t)).take 4)).setWidth 32
def sig0 (x : BitVec 32) : BitVec 32 := rorI x 7 ^^^ rorI x 18 ^^^ x >>> 3
def sig1 (x : BitVec 32) : BitVec 32 := rorI x 17 ^^^ rorI x 19 ^^^ x >>> 10
def nextW (w : List (BitVec 32)) (t : Nat) : BitVec 32 := w.getD (t - 16) 0 + sig0 (w.getD (t - 15) 0) + w.getD (t - 7) 0 + sig1 (w.getD (t - 2) 0)
/-- A block's numbers, the first k of them. -/
def schedK (block : List UInt8) : Nat → List (BitVec 32)
  | 0 => []
  | t + 1 => schedK block t ++ [if t < 16 then numHi block t else nextW (schedK block t) t]
theorem schedK_length (block : List UInt8) (k : Nat) : (schedK block k).length = k := by
  induction k with
  | zero => rfl
  | succ k ih => rw [schedK, List.length_append, ih]; rfl
def schedL (block : List UInt8) : List (BitVec 32) := schedK block 64
/-- The first numbers, taken out of all. -/
theorem schedK_get (block : List UInt8) (k i : Nat) (h : i < k) : (schedK block k).getD i 0 = (schedK block (i + 1)).getD i 0 := by
  induction k with
  | zero => omega
  | succ k ih =>
    by_cases e : i = k
    · subst e; rfl
    · have hi : i < k := by omega
      rw [← ih hi, schedK]
      simp only [List.getD_eq_getElem?_getD]
      rw [List.getElem?_append_left (by rw [schedK_length]; exact hi)]
def bsig1 (x : BitVec 32) : BitVec 32 := rorI x 6 ^^^ rorI x 11 ^^^ rorI x 25
def bsig0 (x : BitVec 32) : BitVec 32 := rorI x 2 ^^^ rorI x 13 ^^^ rorI x 22
def chooseB (e f g : BitVec 32) : BitVec 32 := e &&& f ^^^ ~~~e &&& g
def majorB (a b c : BitVec 32) : BitVec 32 := a &&& b ^^^ a &&& c ^^^ b &&& c
def partP (v : List (BitVec 32)) (k w : BitVec 32) : BitVec 32 := v.getD 7 0 + bsig1 (v.getD 4 0) + chooseB (v.getD 4 0) (v.getD 5 0) (v.getD 6 0) + k + w
def partQ (v : List (BitVec 32)) : BitVec 32 := bsig0 (v.getD 0 0) + majorB (v.getD 0 0) (v.getD 1 0) (v.getD 2 0)
def roundS (v : List (BitVec 32)) (k w : BitVec 32) : List (BitVec 32) :=
  [partP v k w + partQ v, v.getD 0 0, v.getD 1 0, v.getD 2 0, v.getD 3 0 + partP v k w, v.getD 4 0, v.getD 5 0, v.getD 6 0]
def roundsK (s w : List (BitVec 32)) : Nat → List (BitVec 32)
  | 0 => s
  | t + 1 => roundS (roundsK s w t) (tableS.getD t 0) (w.getD t 0)
theorem roundsK_length (s w : List (BitVec 32)) (h : s.length = 8) (k : Nat) : (roundsK s w k).length = 8 := by
  cases k with
  | zero => exact h
  | succ k => rfl
def addK (s v : List (BitVec 32)) : Nat → List (BitVec 32)
  | 0 => s
  | k + 1 => (addK s v k).set k ((addK s v k).getD k 0 + v.getD k 0)
theorem addK_length (s v : List (BitVec 32)) (k : Nat) : (addK s v k).length = s.length := by
  induction k with
  | zero => rfl
  | succ k ih => rw [addK, List.length_set, ih]
/-- A block mixed into a state. -/
def mixS (s : List (BitVec 32)) (block : List UInt8) : List (BitVec 32) := addK s (roundsK s (schedL block) 64) 8
theorem mixS_length (s : List (BitVec 32)) (block : List UInt8) : (mixS s block).length = s.length := addK_length ..
/-- A padding. -/
def zerosS (n : BitVec 64) : Nat := ((119 - n.toNat % 64) % 64)
def padL (n : BitVec 64) : List UInt8 := 128 :: List.replicate (zerosS n) 0 ++ highL (n * 8#64) 8
theorem padL_length (n : BitVec 64) : (padL n).length = 9 + zerosS n := by
  simp [padL, highL_length]; omega
def blockS (t : List UInt8) (j : Nat) : List UInt8 := (t.drop (64 * j)).take 64
/-- So many blocks of a text mixed, one after the other. -/
def mixK (s : List (BitVec 32)) (t : List UInt8) : Nat → List (BitVec 32)
  | 0 => s
  | j + 1 => mixS (mixK s t j) (blockS t j)
theorem mixK_length (s : List (BitVec 32)) (t : List UInt8) (j : Nat) : (mixK s t j).length = s.length := by
  induction j with
  | zero => rfl
  | succ j ih => rw [mixK, mixS_length, ih]
def bytesS (s : List (BitVec 32)) (k : Nat) : List UInt8 := (List.range k).flatMap fun i => highL ((s.getD i 0).setWidth 64) 4
theorem bytesS_succ (s : List (BitVec 32)) (k : Nat) : bytesS s (k + 1) = bytesS s k ++ highL ((s.getD k 0).setWidth 64) 4 := by
  simp [bytesS, List.range_succ]
theorem bytesS_length (s : List (BitVec 32)) (k : Nat) : (bytesS s k).length = 4 * k := by
  induction k with
  | zero => rfl
  | succ k ih => rw [bytesS_succ, List.length_append, ih, highL_length]; omega
def allS (t : List UInt8) : List UInt8 := t ++ padL (BitVec.ofNat 64 t.length)
/-- A text's digest. -/
def shaL (t : List UInt8) : List UInt8 := bytesS (mixK firstS (allS t) ((allS t).length / 64)) 8
theorem shaL_length (t : List UInt8) : (shaL t).length = 32 := bytesS_length _ 8
theorem blockS_append (t u : List UInt8) (j : Nat) (h : 64 * (j + 1) ≤ t.length) : blockS (t ++ u) j = blockS t j := by
  unfold blockS
  rw [List.drop_append_of_le_length (by omega), List.take_append_of_le_length (by rw [List.length_drop]; omega)]
theorem mixK_append (s : List (BitVec 32)) (t u : List UInt8) (j : Nat) (h : 64 * j ≤ t.length) : mixK s (t ++ u) j = mixK s t j := by
  induction j with
  | zero => rfl
  | succ j ih => rw [mixK, mixK, ih (by omega), blockS_append _ _ _ h]
theorem blockS_drop (t : List UInt8) (a j : Nat) : blockS (t.drop (64 * a)) j = blockS t (a + j) := by
  unfold blockS
  rw [List.drop_drop, ← Nat.mul_add]
theorem mixK_add (s : List (BitVec 32)) (t : List UInt8) (a j : Nat) : mixK s t (a + j) = mixK (mixK s t a) (t.drop (64 * a)) j := by
  induction j with
  | zero => rfl
  | succ j ih => rw [← Nat.add_assoc, mixK, mixK, ih, blockS_drop]
/-- Whole blocks, and what is left. -/
def restS (t : List UInt8) : List UInt8 := t.drop (64 * (t.length / 64))
theorem restS_length (t : List UInt8) : (restS t).length < 64 := by unfold restS; rw [List.length_drop]; omega
/-- More behind what makes no whole block yet. -/
theorem mix_more (s : List (BitVec 32)) (t u : List UInt8) :
    mixK (mixK s t (t.length / 64)) (restS t ++ u) ((restS t ++ u).length / 64) = mixK s (t ++ u) ((t ++ u).length / 64) ∧ restS (restS t ++ u) = restS (t ++ u) := by
  have h1 : restS t ++ u = (t ++ u).drop (64 * (t.length / 64)) := by
    unfold restS
    rw [List.drop_append_of_le_length (by omega)]
  have hl : (restS t ++ u).length = (t ++ u).length - 64 * (t.length / 64) := by rw [h1, List.length_drop]
  have hl2 : (t ++ u).length = t.length + u.length := List.length_append
  have hq : (t ++ u).length / 64 = t.length / 64 + (restS t ++ u).length / 64 := by omega
  constructor
  · rw [hq, mixK_add, ← h1, mixK_append s t u _ (by omega)]
  · have h2 : restS (restS t ++ u) = (restS t ++ u).drop (64 * ((restS t ++ u).length / 64)) := rfl
    rw [h2]
    generalize (restS t ++ u).length / 64 = k at *
    rw [h1, List.drop_drop]
    show _ = (t ++ u).drop (64 * ((t ++ u).length / 64))
    rw [hq]
    congr 1
    omega
theorem chooseB_ref (e f g : BitVec 32) : (e &&& f) ||| ((4294967295#32 - e) &&& g) = chooseB e f g := by
  have h : 4294967295#32 - e = ~~~e := by
    apply BitVec.eq_of_toNat_eq
    have := e.isLt
    rw [BitVec.toNat_sub, BitVec.toNat_not]
    simp only [BitVec.toNat_ofNat]
    omega
  rw [h]
  unfold chooseB
  apply BitVec.eq_of_getLsbD_eq
  intro i hi
  simp only [BitVec.getLsbD_or, BitVec.getLsbD_and, BitVec.getLsbD_xor, BitVec.getLsbD_not, hi, decide_true, Bool.true_and]
  cases e.getLsbD i <;> cases f.getLsbD i <;> cases g.getLsbD i <;> rfl
theorem majorB_ref (a b c : BitVec 32) : (a &&& b) ||| (b &&& c) ||| (a &&& c) = majorB a b c := by
  unfold majorB
  apply BitVec.eq_of_getLsbD_eq
  intro i hi
  simp only [BitVec.getLsbD_or, BitVec.getLsbD_and, BitVec.getLsbD_xor]
  cases a.getLsbD i <;> cases b.getLsbD i <;> cases c.getLsbD i <;> rfl
theorem shr_three (x : BitVec 32) : x / 8#32 = x >>> 3 := by
  apply BitVec.eq_of_toNat_eq
  simp [Nat.shiftRight_eq_div_pow]
theorem shr_ten (x : BitVec 32) : x / 1024#32 = x >>> 10 := by
  apply BitVec.eq_of_toNat_eq
  simp [Nat.shiftRight_eq_div_pow]
end Go.Proofs.Ytdfgcjjaiggpkaa

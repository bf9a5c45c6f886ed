/-
  What layer 5 (poly) computes, in plain words: numbers of bytes, and numbers in five parts of 26 bits. No program.
-/
import Derived.Test.YtfglhemmccihfaaPlain
namespace Go.Proofs.Ytfglhemmccihfaa

/-! ### Numbers of bytes, from the low end -/
def leV : List UInt8 → Nat
  | [] => 0
  | b :: l => b.toNat + 256 * leV l
theorem leV_append (l m : List UInt8) : leV (l ++ m) = leV l + 256 ^ l.length * leV m := by
  induction l with
  | nil => simp [leV]
  | cons b l ih =>
    simp only [List.cons_append, leV, ih, List.length_cons]
    rw [Nat.mul_add, Nat.pow_succ, Nat.mul_comm (256 ^ l.length) 256, Nat.mul_assoc]
    omega
theorem u8_lt (b : UInt8) : b.toNat < 256 := b.toBitVec.isLt
theorem leV_lt (l : List UInt8) : leV l < 256 ^ l.length := by
  induction l with
  | nil => simp [leV]
  | cons b l ih =>
    have := u8_lt b
    rw [List.length_cons, Nat.pow_succ, leV]
    omega
/-- So many bytes of a number, from the low end. -/
def leN (x : Nat) : Nat → List UInt8
  | 0 => []
  | n + 1 => UInt8.ofNat x :: leN (x / 256) n
theorem leN_length (x n : Nat) : (leN x n).length = n := by
  induction n generalizing x with
  | zero => rfl
  | succ n ih => simp [leN, ih]
theorem leV_leN (x n : Nat) : leV (leN x n) = x % 256 ^ n := by
  induction n generalizing x with
  | zero => simp [leN, leV, Nat.mod_one]
  | succ n ih =>
    rw [leN, leV, ih, Nat.pow_succ, Nat.mul_comm (256 ^ n) 256, Nat.mod_mul]
    simp
theorem leN_leV (l : List UInt8) : leN (leV l) l.length = l := by
  induction l with
  | nil => rfl
  | cons b l ih =>
    have hb := u8_lt b
    rw [List.length_cons, leN, leV]
    rw [show (b.toNat + 256 * leV l) / 256 = leV l by omega, ih]
    congr 1
    apply UInt8.toNat_inj.1
    simp
theorem leV_inj {l m : List UInt8} (hn : l.length = m.length) (h : leV l = leV m) : l = m := by
  rw [← leN_leV l, ← leN_leV m, h, hn]
theorem leN_mod (x n : Nat) : leN (x % 256 ^ n) n = leN x n := leV_inj (by simp [leN_length]) (by rw [leV_leN, leV_leN, Nat.mod_mod])
theorem leN_get (x n i : Nat) (h : i < (leN x n).length) : (leN x n)[i] = UInt8.ofNat (x / 256 ^ i) := by
  induction n generalizing x i with
  | zero => simp [leN] at h
  | succ n ih =>
    cases i with
    | zero => simp [leN]
    | succ i =>
      simp only [leN, List.getElem_cons_succ]
      rw [ih, Nat.div_div_eq_div_mul, Nat.pow_succ, Nat.mul_comm 256]

/-! ### The tag, by definition -/
/-- The prime 2^130 - 5. -/
def prime : Nat := 1361129467683753853853498429727072845819
def clampB (i : Nat) (b : UInt8) : UInt8 := if i % 4 = 3 then b &&& 15 else if i % 4 = 0 ∧ 0 < i then b &&& 252 else b
def clampK (l : List UInt8) (k : Nat) : List UInt8 := (List.range l.length).map fun j => if j < k then clampB j (l.getD j 0) else l.getD j 0
theorem clampK_length (l : List UInt8) (k : Nat) : (clampK l k).length = l.length := by simp [clampK]
theorem clampK_get (l : List UInt8) (k j : Nat) (_h : j < (clampK l k).length) : (clampK l k)[j] = if j < k then clampB j (l.getD j 0) else l.getD j 0 := by simp [clampK]
theorem clampK_zero (l : List UInt8) : clampK l 0 = l := by
  apply List.ext_getElem (clampK_length l 0)
  intro i h1 h2
  rw [clampK_get]; simp [h2]
theorem clampK_step (l : List UInt8) (k : Nat) : (clampK l k).set k (clampB k (l.getD k 0)) = clampK l (k + 1) := by
  apply List.ext_getElem (by simp [clampK_length])
  intro i h1 h2
  rw [clampK_get, List.getElem_set]
  by_cases e : k = i
  · subst e; simp
  · rw [if_neg e, clampK_get]
    by_cases e2 : i < k
    · rw [if_pos e2, if_pos (by omega)]
    · rw [if_neg e2, if_neg (by omega)]
def clampL (l : List UInt8) : List UInt8 := clampK l l.length
theorem clampL_length (l : List UInt8) : (clampL l).length = l.length := clampK_length _ _
theorem clampK_same (l : List UInt8) (k : Nat) (hb : clampB k (l.getD k 0) = l.getD k 0) : clampK l (k + 1) = clampK l k := by
  rw [← clampK_step, hb]
  apply List.ext_getElem (by simp)
  intro i h1 h2
  rw [List.getElem_set]
  by_cases e : k = i
  · subst e; rw [if_pos rfl, clampK_get, if_neg (Nat.lt_irrefl k)]
  · rw [if_neg e]
def chunkL (t : List UInt8) (j : Nat) : List UInt8 := (t.drop (16 * j)).take 16
def stepN (r a : Nat) (c : List UInt8) : Nat := ((a + (leV c + 256 ^ c.length)) * r) % prime
/-- So many pieces taken in. -/
def accN (r : Nat) (t : List UInt8) : Nat → Nat
  | 0 => 0
  | j + 1 => stepN r (accN r t j) (chunkL t j)
def wholeN (r : Nat) (t : List UInt8) : Nat := accN r t ((t.length + 15) / 16)
def keyR (key : List UInt8) : Nat := leV (clampL (key.take 16))
def keyS (key : List UInt8) : Nat := leV (key.drop 16)
def tagL (key t : List UInt8) : List UInt8 := leN (wholeN (keyR key) t + keyS key) 16
theorem tagL_length (key t : List UInt8) : (tagL key t).length = 16 := leN_length _ _
theorem prime_pos : 0 < prime := by unfold prime; omega
theorem accN_lt (r : Nat) (t : List UInt8) (j : Nat) : accN r t j < prime := by
  cases j with
  | zero => exact prime_pos
  | succ j => exact Nat.mod_lt _ prime_pos
theorem chunkL_append (t u : List UInt8) (j : Nat) (h : 16 * (j + 1) ≤ t.length) : chunkL (t ++ u) j = chunkL t j := by
  unfold chunkL
  rw [List.drop_append_of_le_length (by omega), List.take_append_of_le_length (by rw [List.length_drop]; omega)]
theorem accN_append (r : Nat) (t u : List UInt8) (j : Nat) (h : 16 * j ≤ t.length) : accN r (t ++ u) j = accN r t j := by
  induction j with
  | zero => rfl
  | succ j ih => rw [accN, accN, ih (by omega), chunkL_append _ _ _ h]

/-! ### Numbers in five parts -/
def d64 (l : List (BitVec 64)) : List Value := l.map fun x => Value.int .u64 (bvi x)
theorem d64_length (l : List (BitVec 64)) : (d64 l).length = l.length := by simp [d64]
theorem d64_at (l : List (BitVec 64)) (i : Nat) (h : i < l.length) : (d64 l)[i]? = some (.int .u64 (bvi (l.getD i 0))) := by
  simp [d64, List.getD_eq_getElem?_getD, h]
theorem d64_set (l : List (BitVec 64)) (i : Nat) (x : BitVec 64) : (d64 l).set i (.int .u64 (bvi x)) = d64 (l.set i x) := by
  simp [d64, List.map_set]
def lim (l : List (BitVec 64)) (k : Nat) : Nat := (l.getD k 0).toNat
def val5 (l : List (BitVec 64)) : Nat := lim l 0 + lim l 1 * 67108864 + lim l 2 * 4503599627370496 + lim l 3 * 302231454903657293676544 + lim l 4 * 20282409603651670423947251286016
theorem five {α : Type} (l : List α) (h : l.length = 5) : ∃ a b c d e, l = [a, b, c, d, e] := by
  match l, h with
  | [a, b, c, d, e], _ => exact ⟨a, b, c, d, e, rfl⟩
/-- All parts are less than B. -/
def Less (l : List (BitVec 64)) (B : Nat) : Prop := l.length = 5 ∧ ∀ k, k < 5 → lim l k < B
theorem Less.len {l : List (BitVec 64)} {B : Nat} (h : Less l B) : l.length = 5 := h.1
theorem Less.mono {l : List (BitVec 64)} {B C : Nat} (h : Less l B) (hb : B ≤ C) : Less l C := ⟨h.1, fun k hk => Nat.lt_of_lt_of_le (h.2 k hk) hb⟩
theorem less5 {a b c d e : BitVec 64} {B : Nat} (h0 : a.toNat < B) (h1 : b.toNat < B) (h2 : c.toNat < B) (h3 : d.toNat < B) (h4 : e.toNat < B) : Less [a, b, c, d, e] B := by
  refine ⟨rfl, fun k hk => ?_⟩
  match k, hk with
  | 0, _ => exact h0
  | 1, _ => exact h1
  | 2, _ => exact h2
  | 3, _ => exact h3
  | 4, _ => exact h4
theorem Less.parts {a b c d e : BitVec 64} {B : Nat} (h : Less [a, b, c, d, e] B) : a.toNat < B ∧ b.toNat < B ∧ c.toNat < B ∧ d.toNat < B ∧ e.toNat < B :=
  ⟨h.2 0 (by omega), h.2 1 (by omega), h.2 2 (by omega), h.2 3 (by omega), h.2 4 (by omega)⟩
theorem val5_of (a b c d e : BitVec 64) : val5 [a, b, c, d, e] = a.toNat + b.toNat * 67108864 + c.toNat * 4503599627370496 + d.toNat * 302231454903657293676544 + e.toNat * 20282409603651670423947251286016 := rfl

theorem low26 (x : BitVec 64) : (x &&& 67108863#64).toNat = x.toNat % 67108864 := by
  rw [BitVec.toNat_and]
  exact Nat.and_two_pow_sub_one_eq_mod x.toNat 26
theorem high26 (x : BitVec 64) : (x >>> 26).toNat = x.toNat / 67108864 := by
  rw [BitVec.toNat_ushiftRight, Nat.shiftRight_eq_div_pow]
theorem add64 (x y : BitVec 64) (h : x.toNat + y.toNat < 18446744073709551616) : (x + y).toNat = x.toNat + y.toNat := by
  rw [BitVec.toNat_add, Nat.mod_eq_of_lt h]
theorem mul64 (x y : BitVec 64) (h : x.toNat * y.toNat < 18446744073709551616) : (x * y).toNat = x.toNat * y.toNat := by
  rw [BitVec.toNat_mul, Nat.mod_eq_of_lt h]

/-! ### What goes beyond 26 bits is carried on -/
def carryP (l : List (BitVec 64)) : Nat → List (BitVec 64) × BitVec 64
  | 0 => (l, 0#64)
  | k + 1 => ((carryP l k).1.set k (((carryP l k).1.getD k 0 + (carryP l k).2) &&& 67108863#64), ((carryP l k).1.getD k 0 + (carryP l k).2) >>> 26)
theorem carryP_length (l : List (BitVec 64)) (k : Nat) : (carryP l k).1.length = l.length := by
  induction k with
  | zero => rfl
  | succ k ih => rw [carryP, List.length_set, ih]
def carry1 (l : List (BitVec 64)) : List (BitVec 64) := (carryP l 5).1.set 0 ((carryP l 5).1.getD 0 0 + 5#64 * (carryP l 5).2)
theorem carry1_length (l : List (BitVec 64)) : (carry1 l).length = l.length := by rw [carry1, List.length_set, carryP_length]
def carryK (l : List (BitVec 64)) : Nat → List (BitVec 64)
  | 0 => l
  | k + 1 => carry1 (carryK l k)
theorem carryK_length (l : List (BitVec 64)) (k : Nat) : (carryK l k).length = l.length := by
  induction k with
  | zero => rfl
  | succ k ih => rw [carryK, carry1_length, ih]
def carryL (l : List (BitVec 64)) : List (BitVec 64) := carryK l 2
theorem carryL_length (l : List (BitVec 64)) : (carryL l).length = l.length := carryK_length l 2

theorem carry1_five (a b c d e : BitVec 64) (ha : a.toNat < 9223372036854775808) (hb : b.toNat < 9223372036854775808) (hc : c.toNat < 9223372036854775808) (hd : d.toNat < 9223372036854775808) (he : e.toNat < 9223372036854775808) :
    ∃ a' b' c' d' e' : BitVec 64, carry1 [a, b, c, d, e] = [a', b', c', d', e'] ∧
      ∃ v1 v2 v3 v4 : Nat, v1 = b.toNat + a.toNat / 67108864 ∧ v2 = c.toNat + v1 / 67108864 ∧ v3 = d.toNat + v2 / 67108864 ∧ v4 = e.toNat + v3 / 67108864 ∧
        a'.toNat = a.toNat % 67108864 + 5 * (v4 / 67108864) ∧ b'.toNat = v1 % 67108864 ∧ c'.toNat = v2 % 67108864 ∧ d'.toNat = v3 % 67108864 ∧ e'.toNat = v4 % 67108864 := by
  have e1 : (a + 0#64).toNat = a.toNat := by simp
  have e2 : (b + (a + 0#64) >>> 26).toNat = b.toNat + a.toNat / 67108864 := by rw [add64 _ _ (by rw [high26, e1]; omega), high26, e1]
  have e3 : (c + (b + (a + 0#64) >>> 26) >>> 26).toNat = c.toNat + (b.toNat + a.toNat / 67108864) / 67108864 := by rw [add64 _ _ (by rw [high26, e2]; omega), high26, e2]
  have e4 : (d + (c + (b + (a + 0#64) >>> 26) >>> 26) >>> 26).toNat = d.toNat + (c.toNat + (b.toNat + a.toNat / 67108864) / 67108864) / 67108864 := by rw [add64 _ _ (by rw [high26, e3]; omega), high26, e3]
  have e5 : (e + (d + (c + (b + (a + 0#64) >>> 26) >>> 26) >>> 26) >>> 26).toNat = e.toNat + (d.toNat + (c.toNat + (b.toNat + a.toNat / 67108864) / 67108864) / 67108864) / 67108864 := by rw [add64 _ _ (by rw [high26, e4]; omega), high26, e4]
  refine ⟨_, _, _, _, _, rfl, _, _, _, _, rfl, rfl, rfl, rfl, ?_, ?_, ?_, ?_, ?_⟩
  · show (((a + 0#64) &&& 67108863#64) + 5#64 * ((e + (d + (c + (b + (a + 0#64) >>> 26) >>> 26) >>> 26) >>> 26) >>> 26)).toNat = _
    have h5 : (5#64 * ((e + (d + (c + (b + (a + 0#64) >>> 26) >>> 26) >>> 26) >>> 26) >>> 26)).toNat = 5 * ((e.toNat + (d.toNat + (c.toNat + (b.toNat + a.toNat / 67108864) / 67108864) / 67108864) / 67108864) / 67108864) := by
      rw [mul64 _ _ (by rw [high26, e5]; simp; omega), high26, e5]; rfl
    rw [add64 _ _ (by rw [low26, e1, h5]; omega), low26, e1, h5]
  · show ((b + (a + 0#64) >>> 26) &&& 67108863#64).toNat = _
    rw [low26, e2]
  · show ((c + (b + (a + 0#64) >>> 26) >>> 26) &&& 67108863#64).toNat = _
    rw [low26, e3]
  · show ((d + (c + (b + (a + 0#64) >>> 26) >>> 26) >>> 26) &&& 67108863#64).toNat = _
    rw [low26, e4]
  · show ((e + (d + (c + (b + (a + 0#64) >>> 26) >>> 26) >>> 26) >>> 26) &&& 67108863#64).toNat = _
    rw [low26, e5]
/-- The number stays, modulo the prime. -/
theorem carry1_val (l : List (BitVec 64)) (h : Less l 9223372036854775808) : ∃ q, val5 l = val5 (carry1 l) + prime * q := by
  obtain ⟨a, b, c, d, e, rfl⟩ := five l h.1
  obtain ⟨ha, hb, hc, hd, he⟩ := h.parts
  obtain ⟨a', b', c', d', e', hr, v1, v2, v3, v4, h1, h2, h3, h4, k0, k1, k2, k3, k4⟩ := carry1_five a b c d e ha hb hc hd he
  refine ⟨v4 / 67108864, ?_⟩
  rw [hr, val5_of, val5_of, k0, k1, k2, k3, k4]
  unfold prime
  omega
theorem carry1_first (l : List (BitVec 64)) (h : Less l 9223372036854775808) : Less (carry1 l) 2199023255552 ∧ ∀ k, 0 < k → k < 5 → lim (carry1 l) k < 67108864 := by
  obtain ⟨a, b, c, d, e, rfl⟩ := five l h.1
  obtain ⟨ha, hb, hc, hd, he⟩ := h.parts
  obtain ⟨a', b', c', d', e', hr, v1, v2, v3, v4, h1, h2, h3, h4, k0, k1, k2, k3, k4⟩ := carry1_five a b c d e ha hb hc hd he
  rw [hr]
  refine ⟨less5 (by omega) (by omega) (by omega) (by omega) (by omega), fun k hk0 hk => ?_⟩
  match k, hk0, hk with
  | 1, _, _ => show b'.toNat < _; omega
  | 2, _, _ => show c'.toNat < _; omega
  | 3, _, _ => show d'.toNat < _; omega
  | 4, _, _ => show e'.toNat < _; omega
theorem carry1_second (l : List (BitVec 64)) (h : Less l 2199023255552) (h2 : ∀ k, 0 < k → k < 5 → lim l k < 67108864) : Less (carry1 l) 67108869 ∧ ∀ k, 0 < k → k < 5 → lim (carry1 l) k < 67108864 := by
  obtain ⟨_, hx⟩ := carry1_first l (h.mono (by omega))
  refine ⟨?_, hx⟩
  obtain ⟨a, b, c, d, e, rfl⟩ := five l h.1
  obtain ⟨ha, hb, hc, hd, he⟩ := h.parts
  have g1 : b.toNat < 67108864 := h2 1 (by omega) (by omega)
  have g2 : c.toNat < 67108864 := h2 2 (by omega) (by omega)
  have g3 : d.toNat < 67108864 := h2 3 (by omega) (by omega)
  have g4 : e.toNat < 67108864 := h2 4 (by omega) (by omega)
  obtain ⟨a', b', c', d', e', hr, v1, v2, v3, v4, h1, h2, h3, h4, k0, k1, k2, k3, k4⟩ := carry1_five a b c d e (by omega) (by omega) (by omega) (by omega) (by omega)
  rw [hr]
  exact less5 (by omega) (by omega) (by omega) (by omega) (by omega)
theorem carry1_third (l : List (BitVec 64)) (h : Less l 67108869) (h2 : ∀ k, 0 < k → k < 5 → lim l k < 67108864) : Less (carry1 l) 67108864 := by
  obtain ⟨a, b, c, d, e, rfl⟩ := five l h.1
  obtain ⟨ha, hb, hc, hd, he⟩ := h.parts
  have g1 : b.toNat < 67108864 := h2 1 (by omega) (by omega)
  have g2 : c.toNat < 67108864 := h2 2 (by omega) (by omega)
  have g3 : d.toNat < 67108864 := h2 3 (by omega) (by omega)
  have g4 : e.toNat < 67108864 := h2 4 (by omega) (by omega)
  obtain ⟨a', b', c', d', e', hr, v1, v2, v3, v4, h1, h2, h3, h4, k0, k1, k2, k3, k4⟩ := carry1_five a b c d e (by omega) (by omega) (by omega) (by omega) (by omega)
  rw [hr]
  exact less5 (by omega) (by omega) (by omega) (by omega) (by omega)
theorem carry1_tight (l : List (BitVec 64)) (h : Less l 67108864) : carry1 l = l := by
  obtain ⟨a, b, c, d, e, rfl⟩ := five l h.1
  obtain ⟨ha, hb, hc, hd, he⟩ := h.parts
  obtain ⟨a', b', c', d', e', hr, v1, v2, v3, v4, h1, h2, h3, h4, k0, k1, k2, k3, k4⟩ := carry1_five a b c d e (by omega) (by omega) (by omega) (by omega) (by omega)
  rw [hr]
  have i0 : a' = a := BitVec.eq_of_toNat_eq (by omega)
  have i1 : b' = b := BitVec.eq_of_toNat_eq (by omega)
  have i2 : c' = c := BitVec.eq_of_toNat_eq (by omega)
  have i3 : d' = d := BitVec.eq_of_toNat_eq (by omega)
  have i4 : e' = e := BitVec.eq_of_toNat_eq (by omega)
  rw [i0, i1, i2, i3, i4]
theorem carryL_val (l : List (BitVec 64)) (h : Less l 9223372036854775808) : ∃ q, val5 l = val5 (carryL l) + prime * q := by
  obtain ⟨q1, h1⟩ := carry1_val l h
  obtain ⟨q2, h2⟩ := carry1_val (carry1 l) ((carry1_first l h).1.mono (by omega))
  exact ⟨q1 + q2, by rw [h1, h2, Nat.mul_add]; unfold carryL carryK carryK carryK; omega⟩
theorem carryL_less (l : List (BitVec 64)) (h : Less l 9223372036854775808) : Less (carryL l) 67108869 ∧ ∀ k, 0 < k → k < 5 → lim (carryL l) k < 67108864 :=
  carry1_second _ (carry1_first l h).1 (carry1_first l h).2
theorem carry_twice (l : List (BitVec 64)) (h : Less l 9223372036854775808) : Less (carryL (carryL l)) 67108864 := by
  have h1 := carryL_less l h
  have h2 := carry1_third _ h1.1 h1.2
  show Less (carry1 (carry1 (carryL l))) _
  rw [carry1_tight _ h2]
  exact h2

/-! ### Sums and products -/
def plusK (l m : List (BitVec 64)) : Nat → List (BitVec 64)
  | 0 => l
  | k + 1 => (plusK l m k).set k ((plusK l m k).getD k 0 + m.getD k 0)
theorem plusK_length (l m : List (BitVec 64)) (k : Nat) : (plusK l m k).length = l.length := by
  induction k with
  | zero => rfl
  | succ k ih => rw [plusK, List.length_set, ih]
def plusL (l m : List (BitVec 64)) : List (BitVec 64) := plusK l m 5
theorem plusL_less (l m : List (BitVec 64)) (A B : Nat) (hl : Less l A) (hm : Less m B) (hs : A + B ≤ 18446744073709551616) : Less (plusL l m) (A + B) ∧ val5 (plusL l m) = val5 l + val5 m := by
  obtain ⟨a, b, c, d, e, rfl⟩ := five l hl.1
  obtain ⟨a', b', c', d', e', rfl⟩ := five m hm.1
  obtain ⟨ha, hb, hc, hd, he⟩ := hl.parts
  obtain ⟨ga, gb, gc, gd, ge⟩ := hm.parts
  have h : plusL [a, b, c, d, e] [a', b', c', d', e'] = [a + a', b + b', c + c', d + d', e + e'] := rfl
  rw [h, val5_of, val5_of, val5_of, add64 a a' (by omega), add64 b b' (by omega), add64 c c' (by omega), add64 d d' (by omega), add64 e e' (by omega)]
  refine ⟨less5 ?_ ?_ ?_ ?_ ?_, by omega⟩
  · rw [add64 a a' (by omega)]; omega
  · rw [add64 b b' (by omega)]; omega
  · rw [add64 c c' (by omega)]; omega
  · rw [add64 d d' (by omega)]; omega
  · rw [add64 e e' (by omega)]; omega
/-- One product's part. -/
def partM (n m : List (BitVec 64)) (i k : Nat) : BitVec 64 := if 5 ≤ i + k then n.getD i 0 * m.getD k 0 * 5#64 else n.getD i 0 * m.getD k 0
def timesIn (n m : List (BitVec 64)) (i : Nat) (out : List (BitVec 64)) : Nat → List (BitVec 64)
  | 0 => out
  | k + 1 => (timesIn n m i out k).set ((i + k) % 5) ((timesIn n m i out k).getD ((i + k) % 5) 0 + partM n m i k)
theorem timesIn_length (n m : List (BitVec 64)) (i : Nat) (out : List (BitVec 64)) (k : Nat) : (timesIn n m i out k).length = out.length := by
  induction k with
  | zero => rfl
  | succ k ih => rw [timesIn, List.length_set, ih]
def timesRow (n m : List (BitVec 64)) : Nat → List (BitVec 64)
  | 0 => [0#64, 0#64, 0#64, 0#64, 0#64]
  | i + 1 => timesIn n m i (timesRow n m i) 5
theorem timesRow_length (n m : List (BitVec 64)) (i : Nat) : (timesRow n m i).length = 5 := by
  induction i with
  | zero => rfl
  | succ i ih => rw [timesRow, timesIn_length, ih]
def timesL (n m : List (BitVec 64)) : List (BitVec 64) := carryL (timesRow n m 5)
theorem timesL_length (n m : List (BitVec 64)) : (timesL n m).length = 5 := by rw [timesL, carryL_length, timesRow_length]
end Go.Proofs.Ytfglhemmccihfaa

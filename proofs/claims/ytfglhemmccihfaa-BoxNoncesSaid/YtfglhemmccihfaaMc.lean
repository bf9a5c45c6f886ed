/-
What layer 5 (poly) computes: products, the whole number, its bytes, the number of bytes, in five parts of 26 bits. No program.
-/
import Derived.Test.YtfglhemmccihfaaMb
namespace Go.Proofs.Ytfglhemmccihfaa

theorem prod64 (x y : BitVec 64) (hx : x.toNat < 134217734) (hy : y.toNat < 67108864) : (x * y).toNat = x.toNat * y.toNat ∧ x.toNat * y.toNat < 9007199657394176 := by
  have h : x.toNat * y.toNat < 134217734 * 67108864 := Nat.mul_lt_mul'' hx hy
  exact ⟨mul64 _ _ (by omega), by omega⟩
theorem prod64x (x y : BitVec 64) (hx : x.toNat < 134217734) (hy : y.toNat < 67108864) : (x * y * 5#64).toNat = x.toNat * y.toNat * 5 := by
  obtain ⟨h1, h2⟩ := prod64 x y hx hy
  rw [mul64 _ _ (by rw [h1]; show _ * 5 < _; omega), h1]; rfl
theorem sum64 (a b c d e : BitVec 64) (ha : a.toNat < 72057594037927936) (hb : b.toNat < 72057594037927936) (hc : c.toNat < 72057594037927936) (hd : d.toNat < 72057594037927936) (he : e.toNat < 72057594037927936) :
    (0#64 + a + b + c + d + e).toNat = a.toNat + b.toNat + c.toNat + d.toNat + e.toNat := by
  have h1 : (0#64 + a).toNat = a.toNat := by simp
  have h2 : (0#64 + a + b).toNat = a.toNat + b.toNat := by rw [add64 _ _ (by omega), h1]
  have h3 : (0#64 + a + b + c).toNat = a.toNat + b.toNat + c.toNat := by rw [add64 _ _ (by omega), h2]
  have h4 : (0#64 + a + b + c + d).toNat = a.toNat + b.toNat + c.toNat + d.toNat := by rw [add64 _ _ (by omega), h3]
  rw [add64 _ _ (by omega), h4]
theorem timesIn_0 (n0 n1 n2 n3 n4 m0 m1 m2 m3 m4 a b c d e : BitVec 64) : timesIn [n0, n1, n2, n3, n4] [m0, m1, m2, m3, m4] 0 [a, b, c, d, e] 5 = [a + n0 * m0, b + n0 * m1, c + n0 * m2, d + n0 * m3, e + n0 * m4] := by
  simp [timesIn, partM]
theorem timesIn_1 (n0 n1 n2 n3 n4 m0 m1 m2 m3 m4 a b c d e : BitVec 64) : timesIn [n0, n1, n2, n3, n4] [m0, m1, m2, m3, m4] 1 [a, b, c, d, e] 5 = [a + n1 * m4 * 5#64, b + n1 * m0, c + n1 * m1, d + n1 * m2, e + n1 * m3] := by
  simp [timesIn, partM]
theorem timesIn_2 (n0 n1 n2 n3 n4 m0 m1 m2 m3 m4 a b c d e : BitVec 64) : timesIn [n0, n1, n2, n3, n4] [m0, m1, m2, m3, m4] 2 [a, b, c, d, e] 5 = [a + n2 * m3 * 5#64, b + n2 * m4 * 5#64, c + n2 * m0, d + n2 * m1, e + n2 * m2] := by
  simp [timesIn, partM]
theorem timesIn_3 (n0 n1 n2 n3 n4 m0 m1 m2 m3 m4 a b c d e : BitVec 64) : timesIn [n0, n1, n2, n3, n4] [m0, m1, m2, m3, m4] 3 [a, b, c, d, e] 5 = [a + n3 * m2 * 5#64, b + n3 * m3 * 5#64, c + n3 * m4 * 5#64, d + n3 * m0, e + n3 * m1] := by
  simp [timesIn, partM]
theorem timesIn_4 (n0 n1 n2 n3 n4 m0 m1 m2 m3 m4 a b c d e : BitVec 64) : timesIn [n0, n1, n2, n3, n4] [m0, m1, m2, m3, m4] 4 [a, b, c, d, e] 5 = [a + n4 * m1 * 5#64, b + n4 * m2 * 5#64, c + n4 * m3 * 5#64, d + n4 * m4 * 5#64, e + n4 * m0] := by
  simp [timesIn, partM]
theorem timesRow_five (n0 n1 n2 n3 n4 m0 m1 m2 m3 m4 : BitVec 64) : timesRow [n0, n1, n2, n3, n4] [m0, m1, m2, m3, m4] 5 =
    [0#64 + n0 * m0 + n1 * m4 * 5#64 + n2 * m3 * 5#64 + n3 * m2 * 5#64 + n4 * m1 * 5#64,
     0#64 + n0 * m1 + n1 * m0 + n2 * m4 * 5#64 + n3 * m3 * 5#64 + n4 * m2 * 5#64,
     0#64 + n0 * m2 + n1 * m1 + n2 * m0 + n3 * m4 * 5#64 + n4 * m3 * 5#64,
     0#64 + n0 * m3 + n1 * m2 + n2 * m1 + n3 * m0 + n4 * m4 * 5#64,
     0#64 + n0 * m4 + n1 * m3 + n2 * m2 + n3 * m1 + n4 * m0] := by
  rw [timesRow, timesRow, timesRow, timesRow, timesRow, timesRow, timesIn_0, timesIn_1, timesIn_2, timesIn_3, timesIn_4]
theorem bilinear (x0 x1 x2 x3 x4 y0 y1 y2 y3 y4 A B C D : Nat) :
    (x0 + x1 * A + x2 * B + x3 * C + x4 * D) * (y0 + y1 * A + y2 * B + y3 * C + y4 * D) =
      (x0 * y0 + x0 * y1 * A + x0 * y2 * B + x0 * y3 * C + x0 * y4 * D) +
      (x1 * y0 * A + x1 * y1 * (A * A) + x1 * y2 * (A * B) + x1 * y3 * (A * C) + x1 * y4 * (A * D)) +
      (x2 * y0 * B + x2 * y1 * (B * A) + x2 * y2 * (B * B) + x2 * y3 * (B * C) + x2 * y4 * (B * D)) +
      (x3 * y0 * C + x3 * y1 * (C * A) + x3 * y2 * (C * B) + x3 * y3 * (C * C) + x3 * y4 * (C * D)) +
      (x4 * y0 * D + x4 * y1 * (D * A) + x4 * y2 * (D * B) + x4 * y3 * (D * C) + x4 * y4 * (D * D)) := by
  have h : ∀ x X : Nat, (x * X) * (y0 + y1 * A + y2 * B + y3 * C + y4 * D) = x * y0 * X + x * y1 * (X * A) + x * y2 * (X * B) + x * y3 * (X * C) + x * y4 * (X * D) := by
    intro x X
    rw [Nat.mul_add, Nat.mul_add, Nat.mul_add, Nat.mul_add, Nat.mul_mul_mul_comm x X y1 A, Nat.mul_mul_mul_comm x X y2 B, Nat.mul_mul_mul_comm x X y3 C, Nat.mul_mul_mul_comm x X y4 D, Nat.mul_right_comm x X y0]
  have h0 := h x0 1
  rw [Nat.mul_one, Nat.mul_one, Nat.one_mul, Nat.one_mul, Nat.one_mul, Nat.one_mul] at h0
  rw [Nat.add_mul, Nat.add_mul, Nat.add_mul, Nat.add_mul, h0, h, h, h, h]
theorem timesRow_less (n m : List (BitVec 64)) (hn : Less n 134217734) (hm : Less m 67108864) :
    Less (timesRow n m 5) 9223372036854775808 ∧ ∃ q, val5 n * val5 m = val5 (timesRow n m 5) + prime * q := by
  obtain ⟨n0, n1, n2, n3, n4, rfl⟩ := five n hn.1
  obtain ⟨m0, m1, m2, m3, m4, rfl⟩ := five m hm.1
  obtain ⟨a0, a1, a2, a3, a4⟩ := hn.parts
  obtain ⟨b0, b1, b2, b3, b4⟩ := hm.parts
  obtain ⟨e00, f00⟩ := prod64 n0 m0 a0 b0
  obtain ⟨e01, f01⟩ := prod64 n0 m1 a0 b1
  obtain ⟨e02, f02⟩ := prod64 n0 m2 a0 b2
  obtain ⟨e03, f03⟩ := prod64 n0 m3 a0 b3
  obtain ⟨e04, f04⟩ := prod64 n0 m4 a0 b4
  obtain ⟨e10, f10⟩ := prod64 n1 m0 a1 b0
  obtain ⟨e11, f11⟩ := prod64 n1 m1 a1 b1
  obtain ⟨e12, f12⟩ := prod64 n1 m2 a1 b2
  obtain ⟨e13, f13⟩ := prod64 n1 m3 a1 b3
  obtain ⟨e14, f14⟩ := prod64 n1 m4 a1 b4
  obtain ⟨e20, f20⟩ := prod64 n2 m0 a2 b0
  obtain ⟨e21, f21⟩ := prod64 n2 m1 a2 b1
  obtain ⟨e22, f22⟩ := prod64 n2 m2 a2 b2
  obtain ⟨e23, f23⟩ := prod64 n2 m3 a2 b3
  obtain ⟨e24, f24⟩ := prod64 n2 m4 a2 b4
  obtain ⟨e30, f30⟩ := prod64 n3 m0 a3 b0
  obtain ⟨e31, f31⟩ := prod64 n3 m1 a3 b1
  obtain ⟨e32, f32⟩ := prod64 n3 m2 a3 b2
  obtain ⟨e33, f33⟩ := prod64 n3 m3 a3 b3
  obtain ⟨e34, f34⟩ := prod64 n3 m4 a3 b4
  obtain ⟨e40, f40⟩ := prod64 n4 m0 a4 b0
  obtain ⟨e41, f41⟩ := prod64 n4 m1 a4 b1
  obtain ⟨e42, f42⟩ := prod64 n4 m2 a4 b2
  obtain ⟨e43, f43⟩ := prod64 n4 m3 a4 b3
  obtain ⟨e44, f44⟩ := prod64 n4 m4 a4 b4
  have g14 := prod64x n1 m4 a1 b4
  have g23 := prod64x n2 m3 a2 b3
  have g32 := prod64x n3 m2 a3 b2
  have g41 := prod64x n4 m1 a4 b1
  have g24 := prod64x n2 m4 a2 b4
  have g33 := prod64x n3 m3 a3 b3
  have g42 := prod64x n4 m2 a4 b2
  have g34 := prod64x n3 m4 a3 b4
  have g43 := prod64x n4 m3 a4 b3
  have g44 := prod64x n4 m4 a4 b4
  have s0 := sum64 (n0 * m0) (n1 * m4 * 5#64) (n2 * m3 * 5#64) (n3 * m2 * 5#64) (n4 * m1 * 5#64) (by omega) (by omega) (by omega) (by omega) (by omega)
  have s1 := sum64 (n0 * m1) (n1 * m0) (n2 * m4 * 5#64) (n3 * m3 * 5#64) (n4 * m2 * 5#64) (by omega) (by omega) (by omega) (by omega) (by omega)
  have s2 := sum64 (n0 * m2) (n1 * m1) (n2 * m0) (n3 * m4 * 5#64) (n4 * m3 * 5#64) (by omega) (by omega) (by omega) (by omega) (by omega)
  have s3 := sum64 (n0 * m3) (n1 * m2) (n2 * m1) (n3 * m0) (n4 * m4 * 5#64) (by omega) (by omega) (by omega) (by omega) (by omega)
  have s4 := sum64 (n0 * m4) (n1 * m3) (n2 * m2) (n3 * m1) (n4 * m0) (by omega) (by omega) (by omega) (by omega) (by omega)
  rw [timesRow_five]
  rw [e00, g14, g23, g32, g41] at s0
  rw [e01, e10, g24, g33, g42] at s1
  rw [e02, e11, e20, g34, g43] at s2
  rw [e03, e12, e21, e30, g44] at s3
  rw [e04, e13, e22, e31, e40] at s4
  refine ⟨less5 (by omega) (by omega) (by omega) (by omega) (by omega),
    (n1.toNat * m4.toNat + n2.toNat * m3.toNat + n3.toNat * m2.toNat + n4.toNat * m1.toNat) +
    (n2.toNat * m4.toNat + n3.toNat * m3.toNat + n4.toNat * m2.toNat) * 67108864 +
    (n3.toNat * m4.toNat + n4.toNat * m3.toNat) * 4503599627370496 + n4.toNat * m4.toNat * 302231454903657293676544, ?_⟩
  rw [val5_of, val5_of, val5_of, s0, s1, s2, s3, s4, bilinear]
  clear s0 s1 s2 s3 s4 e00 e01 e02 e03 e04 e10 e11 e12 e13 e14 e20 e21 e22 e23 e24 e30 e31 e32 e33 e34 e40 e41 e42 e43 e44 g14 g23 g32 g41 g24 g33 g42 g34 g43 g44
  clear f00 f01 f02 f03 f04 f10 f11 f12 f13 f14 f20 f21 f22 f23 f24 f30 f31 f32 f33 f34 f40 f41 f42 f43 f44
  unfold prime
  generalize n0.toNat * m0.toNat = p00, n0.toNat * m1.toNat = p01, n0.toNat * m2.toNat = p02, n0.toNat * m3.toNat = p03, n0.toNat * m4.toNat = p04
  generalize n1.toNat * m0.toNat = p10, n1.toNat * m1.toNat = p11, n1.toNat * m2.toNat = p12, n1.toNat * m3.toNat = p13, n1.toNat * m4.toNat = p14
  generalize n2.toNat * m0.toNat = p20, n2.toNat * m1.toNat = p21, n2.toNat * m2.toNat = p22, n2.toNat * m3.toNat = p23, n2.toNat * m4.toNat = p24
  generalize n3.toNat * m0.toNat = p30, n3.toNat * m1.toNat = p31, n3.toNat * m2.toNat = p32, n3.toNat * m3.toNat = p33, n3.toNat * m4.toNat = p34
  generalize n4.toNat * m0.toNat = p40, n4.toNat * m1.toNat = p41, n4.toNat * m2.toNat = p42, n4.toNat * m3.toNat = p43, n4.toNat * m4.toNat = p44
  omega
theorem timesL_val (n m : List (BitVec 64)) (hn : Less n 134217734) (hm : Less m 67108864) : Less (timesL n m) 67108869 ∧ val5 (timesL n m) % prime = val5 n * val5 m % prime := by
  obtain ⟨h1, q, hq⟩ := timesRow_less n m hn hm
  obtain ⟨q2, hq2⟩ := carryL_val _ h1
  refine ⟨(carryL_less _ h1).1, ?_⟩
  rw [hq, hq2]
  unfold timesL
  rw [Nat.add_assoc, ← Nat.mul_add, Nat.add_mul_mod_self_left]

/-! ### Parts carried on to the last one -/
def pushK (l : List (BitVec 64)) : Nat → List (BitVec 64)
  | 0 => l
  | k + 1 => ((pushK l k).set (k + 1) ((pushK l k).getD (k + 1) 0 + (pushK l k).getD k 0 >>> 26)).set k (((pushK l k).set (k + 1) ((pushK l k).getD (k + 1) 0 + (pushK l k).getD k 0 >>> 26)).getD k 0 &&& 67108863#64)
theorem pushK_length (l : List (BitVec 64)) (k : Nat) : (pushK l k).length = l.length := by
  induction k with
  | zero => rfl
  | succ k ih => rw [pushK, List.length_set, List.length_set, ih]
theorem push_five (a b c d e : BitVec 64) (ha : a.toNat < 9223372036854775808) (hb : b.toNat < 9223372036854775808) (hc : c.toNat < 9223372036854775808) (hd : d.toNat < 9223372036854775808) (he : e.toNat < 9223372036854775808) :
    ∃ a' b' c' d' e' : BitVec 64, pushK [a, b, c, d, e] 4 = [a', b', c', d', e'] ∧
      ∃ v1 v2 v3 : Nat, v1 = b.toNat + a.toNat / 67108864 ∧ v2 = c.toNat + v1 / 67108864 ∧ v3 = d.toNat + v2 / 67108864 ∧ e'.toNat = e.toNat + v3 / 67108864 ∧
        a'.toNat = a.toNat % 67108864 ∧ b'.toNat = v1 % 67108864 ∧ c'.toNat = v2 % 67108864 ∧ d'.toNat = v3 % 67108864 := by
  have e2 : (b + a >>> 26).toNat = b.toNat + a.toNat / 67108864 := by rw [add64 _ _ (by rw [high26]; omega), high26]
  have e3 : (c + (b + a >>> 26) >>> 26).toNat = c.toNat + (b.toNat + a.toNat / 67108864) / 67108864 := by rw [add64 _ _ (by rw [high26, e2]; omega), high26, e2]
  have e4 : (d + (c + (b + a >>> 26) >>> 26) >>> 26).toNat = d.toNat + (c.toNat + (b.toNat + a.toNat / 67108864) / 67108864) / 67108864 := by rw [add64 _ _ (by rw [high26, e3]; omega), high26, e3]
  have e5 : (e + (d + (c + (b + a >>> 26) >>> 26) >>> 26) >>> 26).toNat = e.toNat + (d.toNat + (c.toNat + (b.toNat + a.toNat / 67108864) / 67108864) / 67108864) / 67108864 := by rw [add64 _ _ (by rw [high26, e4]; omega), high26, e4]
  refine ⟨_, _, _, _, _, rfl, _, _, _, rfl, rfl, rfl, ?_, ?_, ?_, ?_, ?_⟩
  · exact e5
  · show (a &&& 67108863#64).toNat = _
    rw [low26]
  · show ((b + a >>> 26) &&& 67108863#64).toNat = _
    rw [low26, e2]
  · show ((c + (b + a >>> 26) >>> 26) &&& 67108863#64).toNat = _
    rw [low26, e3]
  · show ((d + (c + (b + a >>> 26) >>> 26) >>> 26) &&& 67108863#64).toNat = _
    rw [low26, e4]
/-- A number less than the prime. -/
def moreL (n : List (BitVec 64)) : List (BitVec 64) := pushK (n.set 0 (n.getD 0 0 + 5#64)) 4
theorem moreL_length (n : List (BitVec 64)) : (moreL n).length = n.length := by rw [moreL, pushK_length, List.length_set]
def wholeL (l : List (BitVec 64)) : List (BitVec 64) :=
  if (moreL (carryL (carryL l))).getD 4 0 >>> 26 = 0#64 then carryL (carryL l) else (moreL (carryL (carryL l))).set 4 ((moreL (carryL (carryL l))).getD 4 0 &&& 67108863#64)
theorem whole_tight (n : List (BitVec 64)) (h : Less n 67108864) : Less (if (moreL n).getD 4 0 >>> 26 = 0#64 then n else (moreL n).set 4 ((moreL n).getD 4 0 &&& 67108863#64)) 67108864 ∧
    val5 (if (moreL n).getD 4 0 >>> 26 = 0#64 then n else (moreL n).set 4 ((moreL n).getD 4 0 &&& 67108863#64)) = val5 n % prime := by
  obtain ⟨a, b, c, d, e, rfl⟩ := five n h.1
  obtain ⟨ha, hb, hc, hd, he⟩ := h.parts
  have ha5 : (a + 5#64).toNat = a.toNat + 5 := by rw [add64 _ _ (by show _ + 5 < _; omega)]; rfl
  obtain ⟨a', b', c', d', e', hr, v1, v2, v3, h1, h2, h3, h4, k0, k1, k2, k3⟩ := push_five (a + 5#64) b c d e (by omega) (by omega) (by omega) (by omega) (by omega)
  have hm : moreL [a, b, c, d, e] = [a', b', c', d', e'] := hr
  rw [hm]
  show Less (if e' >>> 26 = 0#64 then [a, b, c, d, e] else [a', b', c', d', e' &&& 67108863#64]) _ ∧ val5 (if e' >>> 26 = 0#64 then [a, b, c, d, e] else [a', b', c', d', e' &&& 67108863#64]) = _
  have hz : e' >>> 26 = 0#64 ↔ e'.toNat < 67108864 := by
    constructor
    · intro hx
      have := congrArg BitVec.toNat hx
      rw [high26] at this
      simp at this
      omega
    · intro hx
      apply BitVec.eq_of_toNat_eq
      rw [high26]
      simp
      omega
  rw [ha5] at h1 k0
  by_cases hx : e'.toNat < 67108864
  · rw [if_pos (hz.2 hx)]
    refine ⟨h, ?_⟩
    rw [Nat.mod_eq_of_lt]
    rw [val5_of]; unfold prime; omega
  · rw [if_neg (mt hz.1 hx)]
    refine ⟨less5 (by omega) (by omega) (by omega) (by omega) (by rw [low26]; omega), ?_⟩
    have hd2 : val5 [a', b', c', d', e' &&& 67108863#64] + prime = val5 [a, b, c, d, e] := by
      rw [val5_of, val5_of, low26]; unfold prime; omega
    have hd3 : val5 [a', b', c', d', e' &&& 67108863#64] < prime := by
      have : val5 [a, b, c, d, e] < 1361129467683753853853498429727072845824 := by rw [val5_of]; omega
      unfold prime at hd2 ⊢
      omega
    rw [← hd2, Nat.add_mod_right, Nat.mod_eq_of_lt hd3]
theorem wholeL_val (l : List (BitVec 64)) (h : Less l 9223372036854775808) : Less (wholeL l) 67108864 ∧ val5 (wholeL l) = val5 l % prime := by
  obtain ⟨q1, h1⟩ := carryL_val l h
  obtain ⟨q2, h2⟩ := carryL_val (carryL l) ((carryL_less l h).1.mono (by omega))
  have := whole_tight _ (carry_twice l h)
  refine ⟨this.1, ?_⟩
  unfold wholeL
  rw [this.2, h1, h2, Nat.add_assoc, ← Nat.mul_add, Nat.add_mul_mod_self_left]

/-! ### Its bytes -/
def byte5 (l : List (BitVec 64)) (i : Nat) : UInt8 :=
  ⟨(if 8 * i / 26 + 1 < 5 then l.getD (8 * i / 26) 0 >>> (8 * i % 26) ||| l.getD (8 * i / 26 + 1) 0 <<< (26 - 8 * i % 26) else l.getD (8 * i / 26) 0 >>> (8 * i % 26)).setWidth 8⟩
def bytes5 (l : List (BitVec 64)) (k : Nat) : List UInt8 := (List.range k).map (byte5 l)
theorem bytes5_length (l : List (BitVec 64)) (k : Nat) : (bytes5 l k).length = k := by simp [bytes5]
theorem bytes5_succ (l : List (BitVec 64)) (k : Nat) : bytes5 l (k + 1) = bytes5 l k ++ [byte5 l k] := by simp [bytes5, List.range_succ]
theorem or_add (x y : BitVec 64) (s : Nat) (hs : s ≤ 26) (hx : x.toNat < 2 ^ s) (hy : y.toNat < 134217728) : (x ||| y <<< s).toNat = x.toNat + y.toNat * 2 ^ s := by
  have hp : 2 ^ s ≤ 2 ^ 26 := Nat.pow_le_pow_right (by omega) hs
  have hl : y.toNat * 2 ^ s < 18446744073709551616 := by
    have : y.toNat * 2 ^ s ≤ 134217728 * 2 ^ 26 := Nat.mul_le_mul (by omega) hp
    omega
  rw [BitVec.toNat_or, BitVec.toNat_shiftLeft, Nat.shiftLeft_eq, Nat.mod_eq_of_lt hl, Nat.or_comm, ← Nat.shiftLeft_eq, ← Nat.shiftLeft_add_eq_or_of_lt hx, Nat.add_comm]
theorem byte_two (x y : BitVec 64) (s : Nat) (hs : s < 26) (hx : x.toNat < 67108864) (hy : y.toNat < 134217728) :
    ((x >>> s ||| y <<< (26 - s)).setWidth 8).toNat = (x.toNat / 2 ^ s + y.toNat * 2 ^ (26 - s)) % 256 := by
  have h1 : (x >>> s).toNat = x.toNat / 2 ^ s := by rw [BitVec.toNat_ushiftRight, Nat.shiftRight_eq_div_pow]
  rw [BitVec.toNat_setWidth, or_add _ _ _ (by omega) ?_ hy, h1]
  rw [h1, Nat.div_lt_iff_lt_mul (Nat.two_pow_pos _), ← Nat.pow_add, Nat.sub_add_cancel (by omega)]
  exact hx
theorem bytes5_val (l : List (BitVec 64)) (h : Less l 134217728) (h4 : ∀ k, k < 4 → lim l k < 67108864) : bytes5 l 16 = leN (val5 l) 16 := by
  obtain ⟨a, b, c, d, e, rfl⟩ := five l h.1
  obtain ⟨ha, hb, hc, hd, he⟩ := h.parts
  have g0 : a.toNat < 67108864 := h4 0 (by omega)
  have g1 : b.toNat < 67108864 := h4 1 (by omega)
  have g2 : c.toNat < 67108864 := h4 2 (by omega)
  have g3 : d.toNat < 67108864 := h4 3 (by omega)
  rw [val5_of]
  apply List.ext_getElem (by rw [bytes5_length, leN_length])
  intro i h1 h2
  rw [leN_get]
  rw [bytes5_length] at h1
  simp only [bytes5, List.getElem_map, List.getElem_range]
  apply UInt8.toNat_inj.1
  rw [UInt8.toNat_ofNat']
  clear h2 h4 h
  obtain rfl | rfl | rfl | rfl | rfl | rfl | rfl | rfl | rfl | rfl | rfl | rfl | rfl | rfl | rfl | rfl : i = 0 ∨ i = 1 ∨ i = 2 ∨ i = 3 ∨ i = 4 ∨ i = 5 ∨ i = 6 ∨ i = 7 ∨ i = 8 ∨ i = 9 ∨ i = 10 ∨ i = 11 ∨ i = 12 ∨ i = 13 ∨ i = 14 ∨ i = 15 := by omega
  · exact (byte_two a b 0 (by omega) g0 (by omega)).trans (by simp only [Nat.reducePow, Nat.reduceSub]; omega)
  · exact (byte_two a b 8 (by omega) g0 (by omega)).trans (by simp only [Nat.reducePow, Nat.reduceSub]; omega)
  · exact (byte_two a b 16 (by omega) g0 (by omega)).trans (by simp only [Nat.reducePow, Nat.reduceSub]; omega)
  · exact (byte_two a b 24 (by omega) g0 (by omega)).trans (by simp only [Nat.reducePow, Nat.reduceSub]; omega)
  · exact (byte_two b c 6 (by omega) g1 (by omega)).trans (by simp only [Nat.reducePow, Nat.reduceSub]; omega)
  · exact (byte_two b c 14 (by omega) g1 (by omega)).trans (by simp only [Nat.reducePow, Nat.reduceSub]; omega)
  · exact (byte_two b c 22 (by omega) g1 (by omega)).trans (by simp only [Nat.reducePow, Nat.reduceSub]; omega)
  · exact (byte_two c d 4 (by omega) g2 (by omega)).trans (by simp only [Nat.reducePow, Nat.reduceSub]; omega)
  · exact (byte_two c d 12 (by omega) g2 (by omega)).trans (by simp only [Nat.reducePow, Nat.reduceSub]; omega)
  · exact (byte_two c d 20 (by omega) g2 (by omega)).trans (by simp only [Nat.reducePow, Nat.reduceSub]; omega)
  · exact (byte_two d e 2 (by omega) g3 (by omega)).trans (by simp only [Nat.reducePow, Nat.reduceSub]; omega)
  · exact (byte_two d e 10 (by omega) g3 (by omega)).trans (by simp only [Nat.reducePow, Nat.reduceSub]; omega)
  · exact (byte_two d e 18 (by omega) g3 (by omega)).trans (by simp only [Nat.reducePow, Nat.reduceSub]; omega)
  · show ((e >>> 0).setWidth 8).toNat = _
    rw [BitVec.toNat_setWidth, BitVec.toNat_ushiftRight, Nat.shiftRight_eq_div_pow]
    simp only [Nat.reducePow]; omega
  · show ((e >>> 8).setWidth 8).toNat = _
    rw [BitVec.toNat_setWidth, BitVec.toNat_ushiftRight, Nat.shiftRight_eq_div_pow]
    simp only [Nat.reducePow]; omega
  · show ((e >>> 16).setWidth 8).toNat = _
    rw [BitVec.toNat_setWidth, BitVec.toNat_ushiftRight, Nat.shiftRight_eq_div_pow]
    simp only [Nat.reducePow]; omega

/-! ### The number of bytes -/
def shiftB (s : List UInt8) (i : Nat) : BitVec 64 := (s.getD i 0).toBitVec.setWidth 64 <<< (8 * i % 26)
def readOne (n : List (BitVec 64)) (s : List UInt8) (i : Nat) : List (BitVec 64) := n.set (8 * i / 26) (n.getD (8 * i / 26) 0 + (shiftB s i &&& 67108863#64))
def readTwo (n : List (BitVec 64)) (s : List UInt8) (i : Nat) : List (BitVec 64) :=
  if 8 * i / 26 + 1 < 5 then (readOne n s i).set (8 * i / 26 + 1) ((readOne n s i).getD (8 * i / 26 + 1) 0 + shiftB s i >>> 26) else readOne n s i
def readK (s : List UInt8) : Nat → List (BitVec 64)
  | 0 => [0#64, 0#64, 0#64, 0#64, 0#64]
  | i + 1 => readTwo (readK s i) s i
theorem readTwo_length (n : List (BitVec 64)) (s : List UInt8) (i : Nat) : (readTwo n s i).length = n.length := by
  unfold readTwo
  split
  · rw [List.length_set, readOne, List.length_set]
  · rw [readOne, List.length_set]
theorem readK_length (s : List UInt8) (k : Nat) : (readK s k).length = 5 := by
  induction k with
  | zero => rfl
  | succ k ih => rw [readK, readTwo_length, ih]
def readL (s : List UInt8) : List (BitVec 64) := readK s s.length
theorem shiftB_nat (s : List UInt8) (i : Nat) : (shiftB s i).toNat = (s.getD i 0).toNat * 2 ^ (8 * i % 26) := by
  unfold shiftB
  have hb : ((s.getD i 0).toBitVec.setWidth 64).toNat = (s.getD i 0).toNat := by
    rw [BitVec.toNat_setWidth]
    have := u8_lt (s.getD i 0)
    exact Nat.mod_eq_of_lt (by omega)
  rw [BitVec.toNat_shiftLeft, hb, Nat.shiftLeft_eq, Nat.mod_eq_of_lt]
  have h1 := u8_lt (s.getD i 0)
  have h2 : 2 ^ (8 * i % 26) ≤ 2 ^ 26 := Nat.pow_le_pow_right (by omega) (by omega)
  have : (s.getD i 0).toNat * 2 ^ (8 * i % 26) ≤ 255 * 2 ^ 26 := Nat.mul_le_mul (by omega) h2
  omega
theorem leV_take (s : List UInt8) (i : Nat) (h : i < s.length) : leV (s.take (i + 1)) = leV (s.take i) + (s.getD i 0).toNat * 256 ^ i := by
  rw [List.take_succ_eq_append_getElem h, leV_append, List.length_take, Nat.min_eq_left (by omega)]
  simp [leV, List.getD_eq_getElem?_getD, h, Nat.mul_comm]
set_option maxRecDepth 20000 in
set_option maxHeartbeats 2000000 in
theorem read_step (s : List UInt8) (i : Nat) (n : List (BitVec 64)) (hi : i < 17) (V b : Nat) (hb : (s.getD i 0).toNat = b) (hb2 : b < 256) (hb3 : b * (i / 16) < 4) (hn : Less n 67108864) (hv : val5 n = V) (hV : V < 256 ^ i) :
    Less (readTwo n s i) 67108864 ∧ val5 (readTwo n s i) = V + b * 256 ^ i := by
  obtain ⟨a0, a1, a2, a3, a4, rfl⟩ := five n hn.1
  obtain ⟨h0, h1, h2, h3, h4⟩ := hn.parts
  have hs := shiftB_nat s i
  rw [hb] at hs
  have hx : b * 2 ^ (8 * i % 26) ≤ 255 * 2 ^ 26 := Nat.mul_le_mul (by omega) (Nat.pow_le_pow_right (by omega) (by omega))
  have hl := low26 (shiftB s i)
  have hh := high26 (shiftB s i)
  rw [hs] at hl hh
  unfold readTwo readOne
  generalize shiftB s i &&& 67108863#64 = lo at *
  generalize shiftB s i >>> 26 = hi2 at *
  rw [val5_of] at hv
  have l0 : lo.toNat < 67108864 := by omega
  have hd : lo.toNat + 67108864 * hi2.toNat = b * 2 ^ (8 * i % 26) := by omega
  have l1 : hi2.toNat < 256 := by omega
  have q0 := add64 a0 lo (by omega)
  have q1 := add64 a1 lo (by omega)
  have q2 := add64 a2 lo (by omega)
  have q3 := add64 a3 lo (by omega)
  have q4 := add64 a4 lo (by omega)
  have r1 := add64 a1 hi2 (by omega)
  have r2 := add64 a2 hi2 (by omega)
  have r3 := add64 a3 hi2 (by omega)
  have r4 := add64 a4 hi2 (by omega)
  clear hs hb hn hx hl hh
  obtain rfl | rfl | rfl | rfl | rfl | rfl | rfl | rfl | rfl | rfl | rfl | rfl | rfl | rfl | rfl | rfl | rfl : i = 0 ∨ i = 1 ∨ i = 2 ∨ i = 3 ∨ i = 4 ∨ i = 5 ∨ i = 6 ∨ i = 7 ∨ i = 8 ∨ i = 9 ∨ i = 10 ∨ i = 11 ∨ i = 12 ∨ i = 13 ∨ i = 14 ∨ i = 15 ∨ i = 16 := by omega
  all_goals
    simp only [Nat.reduceMul, Nat.reduceDiv, Nat.reduceMod, Nat.reducePow, Nat.reduceAdd, Nat.reduceLT, if_true, List.set_cons_zero, List.set_cons_succ, List.getD_cons_zero, List.getD_cons_succ] at hd hV hb3 ⊢
    try (have hz : hi2.toNat = 0 := by clear hv hV q0 q1 q2 q3 q4 r1 r2 r3 r4; omega)
    try rw [hz] at hd
    refine ⟨less5 ?_ ?_ ?_ ?_ ?_, (val5_of _ _ _ _ _).trans (Nat.le_antisymm ?_ ?_)⟩ <;> omega
theorem readK_val (s : List UInt8) (k : Nat) (hk : k ≤ s.length) (h : k ≤ 16 ∨ k = 17 ∧ (s.getD 16 0).toNat < 4) : Less (readK s k) 67108864 ∧ val5 (readK s k) = leV (s.take k) := by
  induction k with
  | zero => exact ⟨less5 (by simp) (by simp) (by simp) (by simp) (by simp), by simp [readK, val5_of, leV]⟩
  | succ k ih =>
    obtain ⟨h1, h2⟩ := ih (by omega) (by omega)
    have hlt := leV_lt (s.take k)
    rw [List.length_take, Nat.min_eq_left (by omega)] at hlt
    have h3 : (s.getD k 0).toNat * (k / 16) < 4 := by
      rcases Nat.lt_or_ge k 16 with g | g
      · rw [Nat.div_eq_of_lt g]; omega
      · rcases h with h | h
        · omega
        · obtain rfl : k = 16 := by omega
          have := h.2
          omega
    have := read_step s k (readK s k) (by omega) (leV (s.take k)) _ rfl (u8_lt _) h3 h1 h2 hlt
    rw [readK, leV_take s k (by omega)]
    exact this
theorem readL_val (s : List UInt8) (h : s.length ≤ 16 ∨ s.length = 17 ∧ (s.getD 16 0).toNat < 4) : Less (readL s) 67108864 ∧ val5 (readL s) = leV s := by
  have := readK_val s s.length (Nat.le_refl _) h
  rwa [List.take_of_length_le (Nat.le_refl _)] at this
theorem readL_one (s : List UInt8) (h : s.length ≤ 16) : Less (readL (s ++ [1])) 67108864 ∧ val5 (readL (s ++ [1])) = leV s + 256 ^ s.length := by
  have := readL_val (s ++ [1]) (by
    rcases Nat.lt_or_ge s.length 16 with h1 | h1
    · exact Or.inl (by simp; omega)
    · have h2 : s.length = 16 := by omega
      refine Or.inr ⟨by simp [h2], ?_⟩
      rw [List.getD_eq_getElem?_getD, List.getElem?_append_right (by omega), h2]
      decide)
  rw [leV_append] at this
  simpa [leV] using this

/-! ### A piece taken in; the tag -/
def stepL (a r : List (BitVec 64)) (s : List UInt8) : List (BitVec 64) := timesL (plusL a (readL (s ++ [1]))) r
theorem stepL_val (a r : List (BitVec 64)) (s : List UInt8) (hs : s.length ≤ 16) (ha : Less a 67108869) (hr : Less r 67108864) :
    Less (stepL a r s) 67108869 ∧ val5 (stepL a r s) % prime = stepN (val5 r) (val5 a) s := by
  obtain ⟨h1, h2⟩ := readL_one s hs
  obtain ⟨h3, h4⟩ := plusL_less a (readL (s ++ [1])) 67108869 67108864 ha h1 (by omega)
  obtain ⟨h5, h6⟩ := timesL_val _ r (h3.mono (by omega)) hr
  refine ⟨h5, ?_⟩
  unfold stepL stepN
  rw [h6, h4, h2]
theorem stepN_mod (r a : Nat) (c : List UInt8) : stepN r (a % prime) c = stepN r a c := by
  unfold stepN
  rw [Nat.mul_mod, Nat.mod_add_mod, ← Nat.mul_mod]
def finalL (a s : List (BitVec 64)) : List (BitVec 64) := pushK (plusL (wholeL a) s) 4
theorem push_val (l : List (BitVec 64)) (h : Less l 134217727) : Less (pushK l 4) 134217728 ∧ (∀ k, k < 4 → lim (pushK l 4) k < 67108864) ∧ val5 (pushK l 4) = val5 l := by
  obtain ⟨a, b, c, d, e, rfl⟩ := five l h.1
  obtain ⟨ha, hb, hc, hd, he⟩ := h.parts
  obtain ⟨a', b', c', d', e', hr, v1, v2, v3, h1, h2, h3, h4, k0, k1, k2, k3⟩ := push_five a b c d e (by omega) (by omega) (by omega) (by omega) (by omega)
  rw [hr, val5_of, val5_of]
  refine ⟨less5 (by omega) (by omega) (by omega) (by omega) (by omega), fun k hk => ?_, by omega⟩
  match k, hk with
  | 0, _ => show a'.toNat < _; omega
  | 1, _ => show b'.toNat < _; omega
  | 2, _ => show c'.toNat < _; omega
  | 3, _ => show d'.toNat < _; omega
theorem finalL_val (a s : List (BitVec 64)) (ha : Less a 67108869) (hs : Less s 67108864) : bytes5 (finalL a s) 16 = leN (val5 a % prime + val5 s) 16 := by
  obtain ⟨h1, h2⟩ := wholeL_val a (ha.mono (by omega))
  obtain ⟨h3, h4⟩ := plusL_less _ s 67108864 67108864 h1 hs (by omega)
  have h3' : Less (plusL (wholeL a) s) 134217727 := by
    obtain ⟨a0, a1, a2, a3, a4, e1⟩ := five _ h1.1
    obtain ⟨b0, b1, b2, b3, b4, rfl⟩ := five _ hs.1
    rw [e1] at h1 ⊢
    obtain ⟨x0, x1, x2, x3, x4⟩ := h1.parts
    obtain ⟨y0, y1, y2, y3, y4⟩ := hs.parts
    show Less [a0 + b0, a1 + b1, a2 + b2, a3 + b3, a4 + b4] _
    refine less5 ?_ ?_ ?_ ?_ ?_
    all_goals (rw [add64 _ _ (by omega)]; omega)
  obtain ⟨h5, h6, h7⟩ := push_val _ h3'
  unfold finalL
  rw [bytes5_val _ h5 h6, h7, h4, h2]
/-- The whole pieces of a text taken in, one after the other. -/
def foldL (r : List (BitVec 64)) (t : List UInt8) : Nat → List (BitVec 64)
  | 0 => [0#64, 0#64, 0#64, 0#64, 0#64]
  | j + 1 => stepL (foldL r t j) r (chunkL t j)
theorem chunkL_le (t : List UInt8) (j : Nat) : (chunkL t j).length ≤ 16 := by unfold chunkL; rw [List.length_take]; omega
theorem foldL_val (r : List (BitVec 64)) (t : List UInt8) (hr : Less r 67108864) (j : Nat) : Less (foldL r t j) 67108869 ∧ val5 (foldL r t j) % prime = accN (val5 r) t j := by
  induction j with
  | zero => exact ⟨less5 (by simp) (by simp) (by simp) (by simp) (by simp), by simp [foldL, val5_of, accN]⟩
  | succ j ih =>
    obtain ⟨h1, h2⟩ := stepL_val (foldL r t j) r (chunkL t j) (chunkL_le t j) ih.1 hr
    refine ⟨h1, ?_⟩
    rw [accN, ← ih.2, stepN_mod]
    exact h2
theorem foldL_append (r : List (BitVec 64)) (t u : List UInt8) (j : Nat) (h : 16 * j ≤ t.length) : foldL r (t ++ u) j = foldL r t j := by
  induction j with
  | zero => rfl
  | succ j ih => rw [foldL, foldL, ih (by omega), chunkL_append _ _ _ h]
theorem foldL_length (r : List (BitVec 64)) (t : List UInt8) (j : Nat) : (foldL r t j).length = 5 := by
  cases j with
  | zero => rw [foldL]; rfl
  | succ j => rw [foldL, stepL]; exact timesL_length _ _
theorem readL_length (s : List UInt8) : (readL s).length = 5 := readK_length _ _
theorem plusL_length (l m : List (BitVec 64)) : (plusL l m).length = l.length := plusK_length _ _ _
theorem stepL_length (a r : List (BitVec 64)) (s : List UInt8) : (stepL a r s).length = 5 := timesL_length _ _
theorem wholeL_length (l : List (BitVec 64)) : (wholeL l).length = l.length := by
  unfold wholeL
  split
  · rw [carryL_length, carryL_length]
  · rw [List.length_set, moreL_length, carryL_length, carryL_length]
/-- What the program tells of the state behind the whole pieces, and the rest. -/
def tagOf (r s a : List (BitVec 64)) (rest : List UInt8) : List UInt8 := bytes5 (finalL (if rest = [] then a else stepL a r rest) s) 16
theorem tagOf_val (r s : List (BitVec 64)) (t : List UInt8) (hr : Less r 67108864) (hs : Less s 67108864) :
    tagOf r s (foldL r t (t.length / 16)) (t.drop (16 * (t.length / 16))) = leN (wholeN (val5 r) t + val5 s) 16 := by
  obtain ⟨h1, h2⟩ := foldL_val r t hr (t.length / 16)
  unfold tagOf wholeN
  by_cases h : t.drop (16 * (t.length / 16)) = []
  · rw [if_pos h, finalL_val _ _ h1 hs, h2]
    have := List.drop_eq_nil_iff.1 h
    rw [show (t.length + 15) / 16 = t.length / 16 by omega]
  · rw [if_neg h]
    have hl : ¬ t.length ≤ 16 * (t.length / 16) := fun e => h (List.drop_eq_nil_iff.2 e)
    have hd : (t.drop (16 * (t.length / 16))).length ≤ 16 := by rw [List.length_drop]; omega
    obtain ⟨h3, h4⟩ := stepL_val _ r _ hd h1 hr
    rw [finalL_val _ _ h3 hs, h4, show (t.length + 15) / 16 = t.length / 16 + 1 by omega, accN, ← h2, stepN_mod]
    have hc : chunkL t (t.length / 16) = t.drop (16 * (t.length / 16)) := List.take_of_length_le hd
    rw [hc]
end Go.Proofs.Ytfglhemmccihfaa

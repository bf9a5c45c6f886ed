/-
  Words of 8, 16, 32 and 64 bits as bit vectors: the laws by which a walk writes Go's unsigned arithmetic as 'bvi' of a bit vector. Of no program.
-/
import Derived.WalkKit
import Derived.WalkSpells
import Derived.WalkLawsBesides
import Derived.Lib.Hide
namespace Go.Proofs.Ytfglhemmccihfaa
open Go.RowKit

/-- The number that a word is. -/
def bvi {n : Nat} (x : BitVec n) : Int := (x.toNat : Int)

theorem bvi_nonneg {n : Nat} (x : BitVec n) : 0 ≤ bvi x := by unfold bvi; omega
theorem bvi_lt {n : Nat} (x : BitVec n) : bvi x < 2 ^ n := by
  have := x.isLt; unfold bvi; exact_mod_cast this
theorem bvi_toNat {n : Nat} (x : BitVec n) : (bvi x).toNat = x.toNat := by unfold bvi; omega
theorem ofInt_bvi {n m : Nat} (x : BitVec m) : BitVec.ofInt n (bvi x) = x.setWidth n := by
  unfold bvi
  rw [BitVec.ofInt_natCast]
  apply BitVec.eq_of_toNat_eq
  simp
theorem ofInt_bvi_same {n : Nat} (x : BitVec n) : BitVec.ofInt n (bvi x) = x := by
  rw [ofInt_bvi]; simp
theorem bvi_inj {n : Nat} {x y : BitVec n} : bvi x = bvi y ↔ x = y := by
  unfold bvi
  constructor
  · intro h; exact BitVec.eq_of_toNat_eq (by omega)
  · intro h; rw [h]

theorem toNat_ofInt' (n : Nat) (a : Int) : ((BitVec.ofInt n a).toNat : Int) = a % (2 ^ n : Nat) := by
  rw [BitVec.toNat_ofInt]
  have h : (0 : Int) < ((2 ^ n : Nat) : Int) := by exact_mod_cast Nat.two_pow_pos n
  rw [Int.toNat_of_nonneg (Int.emod_nonneg _ (by omega))]

section
variable (k : IntKind) (hk : k.signed = false)
include hk
theorem wrap_bvi (a : Int) : k.wrap a = bvi (BitVec.ofInt k.bits a) := by
  unfold bvi
  rw [toNat_ofInt']
  cases k <;> simp_all [IntKind.wrap, IntKind.bits, IntKind.signed]
end


theorem bvi_ofInt (n : Nat) (c : Int) (h0 : 0 ≤ c) (h1 : c < ((2 ^ n : Nat) : Int)) : bvi (BitVec.ofInt n c) = c := by
  unfold bvi
  rw [toNat_ofInt', Int.emod_eq_of_lt h0 h1]
theorem ofInt_add' (n : Nat) (a b : Int) : BitVec.ofInt n (a + b) = BitVec.ofInt n a + BitVec.ofInt n b := BitVec.ofInt_add ..
theorem ofInt_mul' (n : Nat) (a b : Int) : BitVec.ofInt n (a * b) = BitVec.ofInt n a * BitVec.ofInt n b := BitVec.ofInt_mul ..
theorem ofInt_sub' (n : Nat) (a b : Int) : BitVec.ofInt n (a - b) = BitVec.ofInt n a - BitVec.ofInt n b := by
  apply BitVec.eq_of_toInt_eq
  simp

section
variable (k : IntKind) (hk : k.signed = false)
include hk
theorem u_add (a b : Int) : Op.intArith .add k a b = pure (.int k (bvi (BitVec.ofInt k.bits a + BitVec.ofInt k.bits b))) := by
  simp only [Op.intArith, wrap_bvi k hk, ofInt_add']
theorem u_sub (a b : Int) : Op.intArith .sub k a b = pure (.int k (bvi (BitVec.ofInt k.bits a - BitVec.ofInt k.bits b))) := by
  simp only [Op.intArith, wrap_bvi k hk, ofInt_sub']
theorem u_mul (a b : Int) : Op.intArith .mul k a b = pure (.int k (bvi (BitVec.ofInt k.bits a * BitVec.ofInt k.bits b))) := by
  simp only [Op.intArith, wrap_bvi k hk, ofInt_mul']
theorem wrap_toNat (x : BitVec k.bits) : k.wrap (x.toNat : Int) = bvi x := by
  rw [wrap_bvi k hk, BitVec.ofInt_natCast]; simp
theorem u_and (a b : Int) : Op.intBits .and k a b = pure (.int k (bvi (BitVec.ofInt k.bits a &&& BitVec.ofInt k.bits b))) := by
  simp only [Op.intBits, wrap_toNat k hk]
theorem u_or (a b : Int) : Op.intBits .or k a b = pure (.int k (bvi (BitVec.ofInt k.bits a ||| BitVec.ofInt k.bits b))) := by
  simp only [Op.intBits, wrap_toNat k hk]
theorem u_xor (a b : Int) : Op.intBits .xor k a b = pure (.int k (bvi (BitVec.ofInt k.bits a ^^^ BitVec.ofInt k.bits b))) := by
  simp only [Op.intBits, wrap_toNat k hk]
theorem u_andNot (a b : Int) : Op.intBits .andNot k a b = pure (.int k (bvi (BitVec.ofInt k.bits a &&& ~~~ BitVec.ofInt k.bits b))) := by
  simp only [Op.intBits, wrap_toNat k hk]
omit hk in
theorem shl_min {n : Nat} (a : Int) (c : Nat) : BitVec.ofInt n (a * 2 ^ min c n) = BitVec.ofInt n a <<< c := by
  rw [ofInt_mul']
  apply BitVec.eq_of_toNat_eq
  have h2 : (BitVec.ofInt n ((2 : Int) ^ min c n)).toNat = 2 ^ min c n % 2 ^ n := by
    rw [show ((2 : Int) ^ min c n) = ((2 ^ min c n : Nat) : Int) by simp, BitVec.ofInt_natCast, BitVec.toNat_ofNat]
  rw [BitVec.toNat_mul, h2, BitVec.toNat_shiftLeft, Nat.shiftLeft_eq]
  rcases Nat.lt_or_ge c n with h | h
  · rw [Nat.min_eq_left (by omega)]
    simp [Nat.mul_mod]
  · rw [Nat.min_eq_right h]
    rw [show c = n + (c - n) by omega, Nat.pow_add, ← Nat.mul_assoc]
    simp [Nat.mul_mod, Nat.mod_self]
theorem u_shl (yk : IntKind) (a b : Int) (h : 0 ≤ b) : Op.shift .shl k a yk b = pure (.int k (bvi (BitVec.ofInt k.bits a <<< b.toNat))) := by
  simp only [Op.shift]
  rw [if_neg (by omega), wrap_bvi k hk, shl_min]
omit hk in
theorem u_shr (yk : IntKind) (x : BitVec k.bits) (b : Int) (h : 0 ≤ b) : Op.shift .shr k (bvi x) yk b = pure (.int k (bvi (x >>> b.toNat))) := by
  simp only [Op.shift]
  rw [if_neg (by omega)]
  congr 2
  unfold bvi
  rw [BitVec.toNat_ushiftRight, Nat.shiftRight_eq_div_pow]
  rw [show ((2 : Int) ^ min b.toNat k.bits) = ((2 ^ min b.toNat k.bits : Nat) : Int) by simp]
  rw [Int.fdiv_eq_ediv_of_nonneg _ (Int.natCast_nonneg _)]
  rw [← Int.natCast_ediv]
  congr 1
  rcases Nat.lt_or_ge b.toNat k.bits with h | h
  · rw [Nat.min_eq_left (by omega)]
  · rw [Nat.min_eq_right h, Nat.div_eq_of_lt x.isLt, Nat.div_eq_of_lt]
    exact Nat.lt_of_lt_of_le x.isLt (Nat.pow_le_pow_right (by omega) h)
theorem u_quo (x : BitVec k.bits) (c : Int) (h0 : 0 < c) (h1 : c < ((2 ^ k.bits : Nat) : Int)) : Op.intDiv .quo k (bvi x) c = pure (.int k (bvi (x / BitVec.ofInt k.bits c))) := by
  have e := bvi_ofInt k.bits c (by omega) h1
  simp only [Op.intDiv]
  rw [if_neg (by omega), wrap_bvi k hk]
  congr 2
  have := bvi_nonneg x
  rw [Int.tdiv_eq_ediv_of_nonneg (by omega)]
  have e : bvi x / c = bvi (x / BitVec.ofInt k.bits c) := by
    rw [← e]
    simp only [ofInt_bvi_same]
    unfold bvi; rw [← Int.natCast_ediv, BitVec.toNat_udiv]
  rw [e, ofInt_bvi_same]
omit hk in
theorem u_rem (x : BitVec k.bits) (c : Int) (h0 : 0 < c) (h1 : c < ((2 ^ k.bits : Nat) : Int)) : Op.intDiv .rem k (bvi x) c = pure (.int k (bvi (x % BitVec.ofInt k.bits c))) := by
  have e := bvi_ofInt k.bits c (by omega) h1
  simp only [Op.intDiv]
  rw [if_neg (by omega)]
  congr 2
  have := bvi_nonneg x
  rw [Int.tmod_eq_emod_of_nonneg (by omega)]
  rw [← e]
  simp only [ofInt_bvi_same]
  unfold bvi; rw [← Int.natCast_emod, BitVec.toNat_umod]
end

attribute [go_sem] ofInt_bvi_same bvi_toNat bvi_nonneg
attribute [go_sem] ofInt_bvi
@[go_sem] theorem u8_raw (b : UInt8) : ((b.toNat : Nat) : Int) = bvi b.toBitVec := rfl
@[go_sem] theorem i64_of_u8 (x : BitVec 8) : IntKind.i64.wrap (bvi x) = bvi x := by
  have h0 := bvi_nonneg x; have h1 := bvi_lt x
  rw [IntKind.wrap_i64]; omega
@[go_sem] theorem i64_of_u16 (x : BitVec 16) : IntKind.i64.wrap (bvi x) = bvi x := by
  have h0 := bvi_nonneg x; have h1 := bvi_lt x
  rw [IntKind.wrap_i64]; omega
@[go_sem] theorem i64_of_u32 (x : BitVec 32) : IntKind.i64.wrap (bvi x) = bvi x := by
  have h0 := bvi_nonneg x; have h1 := bvi_lt x
  rw [IntKind.wrap_i64]; omega
@[go_sem ↓] theorem u8_add (a b : Int) : Op.intArith .add .u8 a b = pure (.int .u8 (bvi (BitVec.ofInt 8 a + BitVec.ofInt 8 b))) := u_add .u8 rfl a b
@[go_sem ↓] theorem u8_sub (a b : Int) : Op.intArith .sub .u8 a b = pure (.int .u8 (bvi (BitVec.ofInt 8 a - BitVec.ofInt 8 b))) := u_sub .u8 rfl a b
@[go_sem ↓] theorem u8_mul (a b : Int) : Op.intArith .mul .u8 a b = pure (.int .u8 (bvi (BitVec.ofInt 8 a * BitVec.ofInt 8 b))) := u_mul .u8 rfl a b
@[go_sem ↓] theorem u8_and (a b : Int) : Op.intBits .and .u8 a b = pure (.int .u8 (bvi (BitVec.ofInt 8 a &&& BitVec.ofInt 8 b))) := u_and .u8 rfl a b
@[go_sem ↓] theorem u8_or (a b : Int) : Op.intBits .or .u8 a b = pure (.int .u8 (bvi (BitVec.ofInt 8 a ||| BitVec.ofInt 8 b))) := u_or .u8 rfl a b
@[go_sem ↓] theorem u8_xor (a b : Int) : Op.intBits .xor .u8 a b = pure (.int .u8 (bvi (BitVec.ofInt 8 a ^^^ BitVec.ofInt 8 b))) := u_xor .u8 rfl a b
@[go_sem ↓] theorem u8_shl (yk : IntKind) (a b : Int) (h : 0 ≤ b) : Op.shift .shl .u8 a yk b = pure (.int .u8 (bvi (BitVec.ofInt 8 a <<< b.toNat))) := u_shl .u8 rfl yk a b h
@[go_sem ↓] theorem u8_shr (yk : IntKind) (x : BitVec 8) (b : Int) (h : 0 ≤ b) : Op.shift .shr .u8 (bvi x) yk b = pure (.int .u8 (bvi (x >>> b.toNat))) := u_shr .u8 yk x b h
@[go_sem ↓] theorem u8_quo (x : BitVec 8) (c : Int) (h0 : 0 < c) (h1 : c < 256) : Op.intDiv .quo .u8 (bvi x) c = pure (.int .u8 (bvi (x / BitVec.ofInt 8 c))) := u_quo .u8 rfl x c h0 (by simpa [IntKind.bits] using h1)
@[go_sem ↓] theorem u8_rem (x : BitVec 8) (c : Int) (h0 : 0 < c) (h1 : c < 256) : Op.intDiv .rem .u8 (bvi x) c = pure (.int .u8 (bvi (x % BitVec.ofInt 8 c))) := u_rem .u8 x c h0 (by simpa [IntKind.bits] using h1)
@[go_sem ↓] theorem u8_conv (a : Int) : Conv.intToInt .u8 a = pure (.int .u8 (bvi (BitVec.ofInt 8 a))) := by
  simp only [Conv.intToInt]; rw [wrap_bvi .u8 rfl a]; rfl
@[go_sem ↓] theorem u16_add (a b : Int) : Op.intArith .add .u16 a b = pure (.int .u16 (bvi (BitVec.ofInt 16 a + BitVec.ofInt 16 b))) := u_add .u16 rfl a b
@[go_sem ↓] theorem u16_sub (a b : Int) : Op.intArith .sub .u16 a b = pure (.int .u16 (bvi (BitVec.ofInt 16 a - BitVec.ofInt 16 b))) := u_sub .u16 rfl a b
@[go_sem ↓] theorem u16_mul (a b : Int) : Op.intArith .mul .u16 a b = pure (.int .u16 (bvi (BitVec.ofInt 16 a * BitVec.ofInt 16 b))) := u_mul .u16 rfl a b
@[go_sem ↓] theorem u16_and (a b : Int) : Op.intBits .and .u16 a b = pure (.int .u16 (bvi (BitVec.ofInt 16 a &&& BitVec.ofInt 16 b))) := u_and .u16 rfl a b
@[go_sem ↓] theorem u16_or (a b : Int) : Op.intBits .or .u16 a b = pure (.int .u16 (bvi (BitVec.ofInt 16 a ||| BitVec.ofInt 16 b))) := u_or .u16 rfl a b
@[go_sem ↓] theorem u16_xor (a b : Int) : Op.intBits .xor .u16 a b = pure (.int .u16 (bvi (BitVec.ofInt 16 a ^^^ BitVec.ofInt 16 b))) := u_xor .u16 rfl a b
@[go_sem ↓] theorem u16_shl (yk : IntKind) (a b : Int) (h : 0 ≤ b) : Op.shift .shl .u16 a yk b = pure (.int .u16 (bvi (BitVec.ofInt 16 a <<< b.toNat))) := u_shl .u16 rfl yk a b h
@[go_sem ↓] theorem u16_shr (yk : IntKind) (x : BitVec 16) (b : Int) (h : 0 ≤ b) : Op.shift .shr .u16 (bvi x) yk b = pure (.int .u16 (bvi (x >>> b.toNat))) := u_shr .u16 yk x b h
@[go_sem ↓] theorem u16_quo (x : BitVec 16) (c : Int) (h0 : 0 < c) (h1 : c < 65536) : Op.intDiv .quo .u16 (bvi x) c = pure (.int .u16 (bvi (x / BitVec.ofInt 16 c))) := u_quo .u16 rfl x c h0 (by simpa [IntKind.bits] using h1)
@[go_sem ↓] theorem u16_rem (x : BitVec 16) (c : Int) (h0 : 0 < c) (h1 : c < 65536) : Op.intDiv .rem .u16 (bvi x) c = pure (.int .u16 (bvi (x % BitVec.ofInt 16 c))) := u_rem .u16 x c h0 (by simpa [IntKind.bits] using h1)
@[go_sem ↓] theorem u16_conv (a : Int) : Conv.intToInt .u16 a = pure (.int .u16 (bvi (BitVec.ofInt 16 a))) := by
  simp only [Conv.intToInt]; rw [wrap_bvi .u16 rfl a]; rfl
@[go_sem ↓] theorem u32_add (a b : Int) : Op.intArith .add .u32 a b = pure (.int .u32 (bvi (BitVec.ofInt 32 a + BitVec.ofInt 32 b))) := u_add .u32 rfl a b
@[go_sem ↓] theorem u32_sub (a b : Int) : Op.intArith .sub .u32 a b = pure (.int .u32 (bvi (BitVec.ofInt 32 a - BitVec.ofInt 32 b))) := u_sub .u32 rfl a b
@[go_sem ↓] theorem u32_mul (a b : Int) : Op.intArith .mul .u32 a b = pure (.int .u32 (bvi (BitVec.ofInt 32 a * BitVec.ofInt 32 b))) := u_mul .u32 rfl a b
@[go_sem ↓] theorem u32_and (a b : Int) : Op.intBits .and .u32 a b = pure (.int .u32 (bvi (BitVec.ofInt 32 a &&& BitVec.ofInt 32 b))) := u_and .u32 rfl a b
@[go_sem ↓] theorem u32_or (a b : Int) : Op.intBits .or .u32 a b = pure (.int .u32 (bvi (BitVec.ofInt 32 a ||| BitVec.ofInt 32 b))) := u_or .u32 rfl a b
@[go_sem ↓] theorem u32_xor (a b : Int) : Op.intBits .xor .u32 a b = pure (.int .u32 (bvi (BitVec.ofInt 32 a ^^^ BitVec.ofInt 32 b))) := u_xor .u32 rfl a b
@[go_sem ↓] theorem u32_shl (yk : IntKind) (a b : Int) (h : 0 ≤ b) : Op.shift .shl .u32 a yk b = pure (.int .u32 (bvi (BitVec.ofInt 32 a <<< b.toNat))) := u_shl .u32 rfl yk a b h
@[go_sem ↓] theorem u32_shr (yk : IntKind) (x : BitVec 32) (b : Int) (h : 0 ≤ b) : Op.shift .shr .u32 (bvi x) yk b = pure (.int .u32 (bvi (x >>> b.toNat))) := u_shr .u32 yk x b h
@[go_sem ↓] theorem u32_quo (x : BitVec 32) (c : Int) (h0 : 0 < c) (h1 : c < 4294967296) : Op.intDiv .quo .u32 (bvi x) c = pure (.int .u32 (bvi (x / BitVec.ofInt 32 c))) := u_quo .u32 rfl x c h0 (by simpa [IntKind.bits] using h1)
@[go_sem ↓] theorem u32_rem (x : BitVec 32) (c : Int) (h0 : 0 < c) (h1 : c < 4294967296) : Op.intDiv .rem .u32 (bvi x) c = pure (.int .u32 (bvi (x % BitVec.ofInt 32 c))) := u_rem .u32 x c h0 (by simpa [IntKind.bits] using h1)
@[go_sem ↓] theorem u32_conv (a : Int) : Conv.intToInt .u32 a = pure (.int .u32 (bvi (BitVec.ofInt 32 a))) := by
  simp only [Conv.intToInt]; rw [wrap_bvi .u32 rfl a]; rfl
@[go_sem ↓] theorem u64_add (a b : Int) : Op.intArith .add .u64 a b = pure (.int .u64 (bvi (BitVec.ofInt 64 a + BitVec.ofInt 64 b))) := u_add .u64 rfl a b
@[go_sem ↓] theorem u64_sub (a b : Int) : Op.intArith .sub .u64 a b = pure (.int .u64 (bvi (BitVec.ofInt 64 a - BitVec.ofInt 64 b))) := u_sub .u64 rfl a b
@[go_sem ↓] theorem u64_mul (a b : Int) : Op.intArith .mul .u64 a b = pure (.int .u64 (bvi (BitVec.ofInt 64 a * BitVec.ofInt 64 b))) := u_mul .u64 rfl a b
@[go_sem ↓] theorem u64_and (a b : Int) : Op.intBits .and .u64 a b = pure (.int .u64 (bvi (BitVec.ofInt 64 a &&& BitVec.ofInt 64 b))) := u_and .u64 rfl a b
@[go_sem ↓] theorem u64_or (a b : Int) : Op.intBits .or .u64 a b = pure (.int .u64 (bvi (BitVec.ofInt 64 a ||| BitVec.ofInt 64 b))) := u_or .u64 rfl a b
@[go_sem ↓] theorem u64_xor (a b : Int) : Op.intBits .xor .u64 a b = pure (.int .u64 (bvi (BitVec.ofInt 64 a ^^^ BitVec.ofInt 64 b))) := u_xor .u64 rfl a b
@[go_sem ↓] theorem u64_shl (yk : IntKind) (a b : Int) (h : 0 ≤ b) : Op.shift .shl .u64 a yk b = pure (.int .u64 (bvi (BitVec.ofInt 64 a <<< b.toNat))) := u_shl .u64 rfl yk a b h
@[go_sem ↓] theorem u64_shr (yk : IntKind) (x : BitVec 64) (b : Int) (h : 0 ≤ b) : Op.shift .shr .u64 (bvi x) yk b = pure (.int .u64 (bvi (x >>> b.toNat))) := u_shr .u64 yk x b h
@[go_sem ↓] theorem u64_quo (x : BitVec 64) (c : Int) (h0 : 0 < c) (h1 : c < 18446744073709551616) : Op.intDiv .quo .u64 (bvi x) c = pure (.int .u64 (bvi (x / BitVec.ofInt 64 c))) := u_quo .u64 rfl x c h0 (by simpa [IntKind.bits] using h1)
@[go_sem ↓] theorem u64_rem (x : BitVec 64) (c : Int) (h0 : 0 < c) (h1 : c < 18446744073709551616) : Op.intDiv .rem .u64 (bvi x) c = pure (.int .u64 (bvi (x % BitVec.ofInt 64 c))) := u_rem .u64 x c h0 (by simpa [IntKind.bits] using h1)
@[go_sem ↓] theorem u64_conv (a : Int) : Conv.intToInt .u64 a = pure (.int .u64 (bvi (BitVec.ofInt 64 a))) := by
  simp only [Conv.intToInt]; rw [wrap_bvi .u64 rfl a]; rfl

@[go_sem ↓] theorem u8_wrap (a : Int) : IntKind.u8.wrap a = bvi (BitVec.ofInt 8 a) := wrap_bvi .u8 rfl a
@[go_sem ↓] theorem u16_wrap (a : Int) : IntKind.u16.wrap a = bvi (BitVec.ofInt 16 a) := wrap_bvi .u16 rfl a
@[go_sem ↓] theorem u32_wrap (a : Int) : IntKind.u32.wrap a = bvi (BitVec.ofInt 32 a) := wrap_bvi .u32 rfl a
@[go_sem ↓] theorem u64_wrap (a : Int) : IntKind.u64.wrap a = bvi (BitVec.ofInt 64 a) := wrap_bvi .u64 rfl a


theorem max_if (x y : Int) : (if y > x then y else x) = max x y := by omega
theorem min_if (x y : Int) : (if y < x then y else x) = min x y := by omega
@[go_sem ↓] theorem builtin_max2 (ats : Array TypeId) (t : TypeId) (k k' : IntKind) (x y : Int) : Builtin.max_ ats t #[.int k x, .int k' y] = pure (.int k (max x y)) := by
  rw [← max_if]; rfl
@[go_sem ↓] theorem builtin_min2 (ats : Array TypeId) (t : TypeId) (k k' : IntKind) (x y : Int) : Builtin.min_ ats t #[.int k x, .int k' y] = pure (.int k (min x y)) := by
  rw [← min_if]; rfl

end Go.Proofs.Ytfglhemmccihfaa

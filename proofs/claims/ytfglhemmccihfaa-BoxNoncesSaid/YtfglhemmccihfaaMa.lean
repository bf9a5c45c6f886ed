/-
Words of 8, 16, 32 and 64 bits as bit vectors: the laws by which a walk writes Go's unsigned arithmetic as 'bvi' of a bit vector. Of no program.
Small words for the walks: a string's bytes as a list, a row of bytes as cells, and what they give.
A region that draws its order, told by an invariant: each operation's step once, in whatever order. Of no program.
A statement 'x, y := a, f()' of two arrays: a region that draws its order, told once. Of no program.
A region that draws its order, told by a table: what each operation's slot holds once it has come up, and what is known of the world. Of no program.
Slices that the call itself makes, appended to one element at a time; bytes so gathered, as a string.
A world that is another one but for one block and new blocks; a range in the midst of a row. Of no program.
A region that draws its order, told by a table; each step also hears that whatever has come up had its own forerunners come up before. Of no program.
A map as a list of pairs, no key twice: looked up, filled, counted, ranged over. Of no program.
-/
import Derived.WalkKit
import Derived.WalkSpells
import Derived.WalkLawsBesides
import Derived.Lib.Hide
import Derived.Lib.Strings
import Derived.RegionTactic
import Derived.Great.BuildSlice
import Derived.Deep.WholeRow
import Derived.Deep.QuietTactic
import Derived.Deep.MidRow
import Derived.Maps.OwnSet
import Derived.Maps.RangeWalk
namespace Go.Proofs.Ytfglhemmccihfaa
open Go.RowKit

/-- The number that a word is. -/
def bvi {n : Nat} (x : BitVec n) : Int := (x.toNat : Int)

theorem bvi_nonneg {n : Nat} (x : BitVec n) : 0 ≤ bvi x := by unfold bvi; omega
theorem bvi_lt {n : Nat} (x : BitVec n) : bvi x < 2 ^ n := by
  have := x.isLt; unfold bvi; exact_mod_cast this
theorem bvi_toNat {n : Nat} (x : BitVec n) : (bvi x).toNat = x.toNat := by unfold bvi; omega
theorem ofInt_bvi {n m : Nat} (x : BitVec m) : BitVec.ofInt n (bvi x) = x.setWidth n := by
  unfold bvi
  rw [BitVec.ofInt_natCast]
  apply BitVec.eq_of_toNat_eq
  simp
theorem ofInt_bvi_same {n : Nat} (x : BitVec n) : BitVec.ofInt n (bvi x) = x := by
  rw [ofInt_bvi]; simp
theorem bvi_inj {n : Nat} {x y : BitVec n} : bvi x = bvi y ↔ x = y := by
  unfold bvi
  constructor
  · intro h; exact BitVec.eq_of_toNat_eq (by omega)
  · intro h; rw [h]

theorem toNat_ofInt' (n : Nat) (a : Int) : ((BitVec.ofInt n a).toNat : Int) = a % (2 ^ n : Nat) := by
  rw [BitVec.toNat_ofInt]
  have h : (0 : Int) < ((2 ^ n : Nat) : Int) := by exact_mod_cast Nat.two_pow_pos n
  rw [Int.toNat_of_nonneg (Int.emod_nonneg _ (by omega))]

section
variable (k : IntKind) (hk : k.signed = false)
include hk
theorem wrap_bvi (a : Int) : k.wrap a = bvi (BitVec.ofInt k.bits a) := by
  unfold bvi
  rw [toNat_ofInt']
  cases k <;> simp_all [IntKind.wrap, IntKind.bits, IntKind.signed]
end


theorem bvi_ofInt (n : Nat) (c : Int) (h0 : 0 ≤ c) (h1 : c < ((2 ^ n : Nat) : Int)) : bvi (BitVec.ofInt n c) = c := by
  unfold bvi
  rw [toNat_ofInt', Int.emod_eq_of_lt h0 h1]
theorem ofInt_add' (n : Nat) (a b : Int) : BitVec.ofInt n (a + b) = BitVec.ofInt n a + BitVec.ofInt n b := BitVec.ofInt_add ..
theorem ofInt_mul' (n : Nat) (a b : Int) : BitVec.ofInt n (a * b) = BitVec.ofInt n a * BitVec.ofInt n b := BitVec.ofInt_mul ..
theorem ofInt_sub' (n : Nat) (a b : Int) : BitVec.ofInt n (a - b) = BitVec.ofInt n a - BitVec.ofInt n b := by
  apply BitVec.eq_of_toInt_eq
  simp

section
variable (k : IntKind) (hk : k.signed = false)
include hk
theorem u_add (a b : Int) : Op.intArith .add k a b = pure (.int k (bvi (BitVec.ofInt k.bits a + BitVec.ofInt k.bits b))) := by
  simp only [Op.intArith, wrap_bvi k hk, ofInt_add']
theorem u_sub (a b : Int) : Op.intArith .sub k a b = pure (.int k (bvi (BitVec.ofInt k.bits a - BitVec.ofInt k.bits b))) := by
  simp only [Op.intArith, wrap_bvi k hk, ofInt_sub']
theorem u_mul (a b : Int) : Op.intArith .mul k a b = pure (.int k (bvi (BitVec.ofInt k.bits a * BitVec.ofInt k.bits b))) := by
  simp only [Op.intArith, wrap_bvi k hk, ofInt_mul']
theorem wrap_toNat (x : BitVec k.bits) : k.wrap (x.toNat : Int) = bvi x := by
  rw [wrap_bvi k hk, BitVec.ofInt_natCast]; simp
theorem u_and (a b : Int) : Op.intBits .and k a b = pure (.int k (bvi (BitVec.ofInt k.bits a &&& BitVec.ofInt k.bits b))) := by
  simp only [Op.intBits, wrap_toNat k hk]
theorem u_or (a b : Int) : Op.intBits .or k a b = pure (.int k (bvi (BitVec.ofInt k.bits a ||| BitVec.ofInt k.bits b))) := by
  simp only [Op.intBits, wrap_toNat k hk]
theorem u_xor (a b : Int) : Op.intBits .xor k a b = pure (.int k (bvi (BitVec.ofInt k.bits a ^^^ BitVec.ofInt k.bits b))) := by
  simp only [Op.intBits, wrap_toNat k hk]
theorem u_andNot (a b : Int) : Op.intBits .andNot k a b = pure (.int k (bvi (BitVec.ofInt k.bits a &&& ~~~ BitVec.ofInt k.bits b))) := by
  simp only [Op.intBits, wrap_toNat k hk]
omit hk in
theorem shl_min {n : Nat} (a : Int) (c : Nat) : BitVec.ofInt n (a * 2 ^ min c n) = BitVec.ofInt n a <<< c := by
  rw [ofInt_mul']
  apply BitVec.eq_of_toNat_eq
  have h2 : (BitVec.ofInt n ((2 : Int) ^ min c n)).toNat = 2 ^ min c n % 2 ^ n := by
    rw [show ((2 : Int) ^ min c n) = ((2 ^ min c n : Nat) : Int) by simp, BitVec.ofInt_natCast, BitVec.toNat_ofNat]
  rw [BitVec.toNat_mul, h2, BitVec.toNat_shiftLeft, Nat.shiftLeft_eq]
  rcases Nat.lt_or_ge c n with h | h
  · rw [Nat.min_eq_left (by omega)]
    simp [Nat.mul_mod]
  · rw [Nat.min_eq_right h]
    rw [show c = n + (c - n) by omega, Nat.pow_add, ← Nat.mul_assoc]
    simp [Nat.mul_mod, Nat.mod_self]
theorem u_shl (yk : IntKind) (a b : Int) (h : 0 ≤ b) : Op.shift .shl k a yk b = pure (.int k (bvi (BitVec.ofInt k.bits a <<< b.toNat))) := by
  simp only [Op.shift]
  rw [if_neg (by omega), wrap_bvi k hk, shl_min]
omit hk in
theorem u_shr (yk : IntKind) (x : BitVec k.bits) (b : Int) (h : 0 ≤ b) : Op.shift .shr k (bvi x) yk b = pure (.int k (bvi (x >>> b.toNat))) := by
  simp only [Op.shift]
  rw [if_neg (by omega)]
  congr 2
  unfold bvi
  rw [BitVec.toNat_ushiftRight, Nat.shiftRight_eq_div_pow]
  rw [show ((2 : Int) ^ min b.toNat k.bits) = ((2 ^ min b.toNat k.bits : Nat) : Int) by simp]
  rw [Int.fdiv_eq_ediv_of_nonneg _ (Int.natCast_nonneg _)]
  rw [← Int.natCast_ediv]
  congr 1
  rcases Nat.lt_or_ge b.toNat k.bits with h | h
  · rw [Nat.min_eq_left (by omega)]
  · rw [Nat.min_eq_right h, Nat.div_eq_of_lt x.isLt, Nat.div_eq_of_lt]
    exact Nat.lt_of_lt_of_le x.isLt (Nat.pow_le_pow_right (by omega) h)
theorem u_quo (x : BitVec k.bits) (c : Int) (h0 : 0 < c) (h1 : c < ((2 ^ k.bits : Nat) : Int)) : Op.intDiv .quo k (bvi x) c = pure (.int k (bvi (x / BitVec.ofInt k.bits c))) := by
  have e := bvi_ofInt k.bits c (by omega) h1
  simp only [Op.intDiv]
  rw [if_neg (by omega), wrap_bvi k hk]
  congr 2
  have := bvi_nonneg x
  rw [Int.tdiv_eq_ediv_of_nonneg (by omega)]
  have e : bvi x / c = bvi (x / BitVec.ofInt k.bits c) := by
    rw [← e]
    simp only [ofInt_bvi_same]
    unfold bvi; rw [← Int.natCast_ediv, BitVec.toNat_udiv]
  rw [e, ofInt_bvi_same]
omit hk in
theorem u_rem (x : BitVec k.bits) (c : Int) (h0 : 0 < c) (h1 : c < ((2 ^ k.bits : Nat) : Int)) : Op.intDiv .rem k (bvi x) c = pure (.int k (bvi (x % BitVec.ofInt k.bits c))) := by
  have e := bvi_ofInt k.bits c (by omega) h1
  simp only [Op.intDiv]
  rw [if_neg (by omega)]
  congr 2
  have := bvi_nonneg x
  rw [Int.tmod_eq_emod_of_nonneg (by omega)]
  rw [← e]
  simp only [ofInt_bvi_same]
  unfold bvi; rw [← Int.natCast_emod, BitVec.toNat_umod]
end

attribute [go_sem] ofInt_bvi_same bvi_toNat bvi_nonneg
attribute [go_sem] ofInt_bvi
@[go_sem] theorem u8_raw (b : UInt8) : ((b.toNat : Nat) : Int) = bvi b.toBitVec := rfl
@[go_sem] theorem i64_of_u8 (x : BitVec 8) : IntKind.i64.wrap (bvi x) = bvi x := by
  have h0 := bvi_nonneg x; have h1 := bvi_lt x
  rw [IntKind.wrap_i64]; omega
@[go_sem] theorem i64_of_u16 (x : BitVec 16) : IntKind.i64.wrap (bvi x) = bvi x := by
  have h0 := bvi_nonneg x; have h1 := bvi_lt x
  rw [IntKind.wrap_i64]; omega
@[go_sem] theorem i64_of_u32 (x : BitVec 32) : IntKind.i64.wrap (bvi x) = bvi x := by
  have h0 := bvi_nonneg x; have h1 := bvi_lt x
  rw [IntKind.wrap_i64]; omega
@[go_sem ↓] theorem u8_add (a b : Int) : Op.intArith .add .u8 a b = pure (.int .u8 (bvi (BitVec.ofInt 8 a + BitVec.ofInt 8 b))) := u_add .u8 rfl a b
@[go_sem ↓] theorem u8_sub (a b : Int) : Op.intArith .sub .u8 a b = pure (.int .u8 (bvi (BitVec.ofInt 8 a - BitVec.ofInt 8 b))) := u_sub .u8 rfl a b
@[go_sem ↓] theorem u8_mul (a b : Int) : Op.intArith .mul .u8 a b = pure (.int .u8 (bvi (BitVec.ofInt 8 a * BitVec.ofInt 8 b))) := u_mul .u8 rfl a b
@[go_sem ↓] theorem u8_and (a b : Int) : Op.intBits .and .u8 a b = pure (.int .u8 (bvi (BitVec.ofInt 8 a &&& BitVec.ofInt 8 b))) := u_and .u8 rfl a b
@[go_sem ↓] theorem u8_or (a b : Int) : Op.intBits .or .u8 a b = pure (.int .u8 (bvi (BitVec.ofInt 8 a ||| BitVec.ofInt 8 b))) := u_or .u8 rfl a b
@[go_sem ↓] theorem u8_xor (a b : Int) : Op.intBits .xor .u8 a b = pure (.int .u8 (bvi (BitVec.ofInt 8 a ^^^ BitVec.ofInt 8 b))) := u_xor .u8 rfl a b
@[go_sem ↓] theorem u8_shl (yk : IntKind) (a b : Int) (h : 0 ≤ b) : Op.shift .shl .u8 a yk b = pure (.int .u8 (bvi (BitVec.ofInt 8 a <<< b.toNat))) := u_shl .u8 rfl yk a b h
@[go_sem ↓] theorem u8_shr (yk : IntKind) (x : BitVec 8) (b : Int) (h : 0 ≤ b) : Op.shift .shr .u8 (bvi x) yk b = pure (.int .u8 (bvi (x >>> b.toNat))) := u_shr .u8 yk x b h
@[go_sem ↓] theorem u8_quo (x : BitVec 8) (c : Int) (h0 : 0 < c) (h1 : c < 256) : Op.intDiv .quo .u8 (bvi x) c = pure (.int .u8 (bvi (x / BitVec.ofInt 8 c))) := u_quo .u8 rfl x c h0 (by simpa [IntKind.bits] using h1)
@[go_sem ↓] theorem u8_rem (x : BitVec 8) (c : Int) (h0 : 0 < c) (h1 : c < 256) : Op.intDiv .rem .u8 (bvi x) c = pure (.int .u8 (bvi (x % BitVec.ofInt 8 c))) := u_rem .u8 x c h0 (by simpa [IntKind.bits] using h1)
@[go_sem ↓] theorem u8_conv (a : Int) : Conv.intToInt .u8 a = pure (.int .u8 (bvi (BitVec.ofInt 8 a))) := by
  simp only [Conv.intToInt]; rw [wrap_bvi .u8 rfl a]; rfl
@[go_sem ↓] theorem u16_add (a b : Int) : Op.intArith .add .u16 a b = pure (.int .u16 (bvi (BitVec.ofInt 16 a + BitVec.ofInt 16 b))) := u_add .u16 rfl a b
@[go_sem ↓] theorem u16_sub (a b : Int) : Op.intArith .sub .u16 a b = pure (.int .u16 (bvi (BitVec.ofInt 16 a - BitVec.ofInt 16 b))) := u_sub .u16 rfl a b
@[go_sem ↓] theorem u16_mul (a b : Int) : Op.intArith .mul .u16 a b = pure (.int .u16 (bvi (BitVec.ofInt 16 a * BitVec.ofInt 16 b))) := u_mul .u16 rfl a b
@[go_sem ↓] theorem u16_and (a b : Int) : Op.intBits .and .u16 a b = pure (.int .u16 (bvi (BitVec.ofInt 16 a &&& BitVec.ofInt 16 b))) := u_and .u16 rfl a b
@[go_sem ↓] theorem u16_or (a b : Int) : Op.intBits .or .u16 a b = pure (.int .u16 (bvi (BitVec.ofInt 16 a ||| BitVec.ofInt 16 b))) := u_or .u16 rfl a b
@[go_sem ↓] theorem u16_xor (a b : Int) : Op.intBits .xor .u16 a b = pure (.int .u16 (bvi (BitVec.ofInt 16 a ^^^ BitVec.ofInt 16 b))) := u_xor .u16 rfl a b
@[go_sem ↓] theorem u16_shl (yk : IntKind) (a b : Int) (h : 0 ≤ b) : Op.shift .shl .u16 a yk b = pure (.int .u16 (bvi (BitVec.ofInt 16 a <<< b.toNat))) := u_shl .u16 rfl yk a b h
@[go_sem ↓] theorem u16_shr (yk : IntKind) (x : BitVec 16) (b : Int) (h : 0 ≤ b) : Op.shift .shr .u16 (bvi x) yk b = pure (.int .u16 (bvi (x >>> b.toNat))) := u_shr .u16 yk x b h
@[go_sem ↓] theorem u16_quo (x : BitVec 16) (c : Int) (h0 : 0 < c) (h1 : c < 65536) : Op.intDiv .quo .u16 (bvi x) c = pure (.int .u16 (bvi (x / BitVec.ofInt 16 c))) := u_quo .u16 rfl x c h0 (by simpa [IntKind.bits] using h1)
@[go_sem ↓] theorem u16_rem (x : BitVec 16) (c : Int) (h0 : 0 < c) (h1 : c < 65536) : Op.intDiv .rem .u16 (bvi x) c = pure (.int .u16 (bvi (x % BitVec.ofInt 16 c))) := u_rem .u16 x c h0 (by simpa [IntKind.bits] using h1)
@[go_sem ↓] theorem u16_conv (a : Int) : Conv.intToInt .u16 a = pure (.int .u16 (bvi (BitVec.ofInt 16 a))) := by
  simp only [Conv.intToInt]; rw [wrap_bvi .u16 rfl a]; rfl
@[go_sem ↓] theorem u32_add (a b : Int) : Op.intArith .add .u32 a b = pure (.int .u32 (bvi (BitVec.ofInt 32 a + BitVec.ofInt 32 b))) := u_add .u32 rfl a b
@[go_sem ↓] theorem u32_sub (a b : Int) : Op.intArith .sub .u32 a b = pure (.int .u32 (bvi (BitVec.ofInt 32 a - BitVec.ofInt 32 b))) := u_sub .u32 rfl a b
@[go_sem ↓] theorem u32_mul (a b : Int) : Op.intArith .mul .u32 a b = pure (.int .u32 (bvi (BitVec.ofInt 32 a * BitVec.ofInt 32 b))) := u_mul .u32 rfl a b
@[go_sem ↓] theorem u32_and (a b : Int) : Op.intBits .and .u32 a b = pure (.int .u32 (bvi (BitVec.ofInt 32 a &&& BitVec.ofInt 32 b))) := u_and .u32 rfl a b
@[go_sem ↓] theorem u32_or (a b : Int) : Op.intBits .or .u32 a b = pure (.int .u32 (bvi (BitVec.ofInt 32 a ||| BitVec.ofInt 32 b))) := u_or .u32 rfl a b
@[go_sem ↓] theorem u32_xor (a b : Int) : Op.intBits .xor .u32 a b = pure (.int .u32 (bvi (BitVec.ofInt 32 a ^^^ BitVec.ofInt 32 b))) := u_xor .u32 rfl a b
@[go_sem ↓] theorem u32_shl (yk : IntKind) (a b : Int) (h : 0 ≤ b) : Op.shift .shl .u32 a yk b = pure (.int .u32 (bvi (BitVec.ofInt 32 a <<< b.toNat))) := u_shl .u32 rfl yk a b h
@[go_sem ↓] theorem u32_shr (yk : IntKind) (x : BitVec 32) (b : Int) (h : 0 ≤ b) : Op.shift .shr .u32 (bvi x) yk b = pure (.int .u32 (bvi (x >>> b.toNat))) := u_shr .u32 yk x b h
@[go_sem ↓] theorem u32_quo (x : BitVec 32) (c : Int) (h0 : 0 < c) (h1 : c < 4294967296) : Op.intDiv .quo .u32 (bvi x) c = pure (.int .u32 (bvi (x / BitVec.ofInt 32 c))) := u_quo .u32 rfl x c h0 (by simpa [IntKind.bits] using h1)
@[go_sem ↓] theorem u32_rem (x : BitVec 32) (c : Int) (h0 : 0 < c) (h1 : c < 4294967296) : Op.intDiv .rem .u32 (bvi x) c = pure (.int .u32 (bvi (x % BitVec.ofInt 32 c))) := u_rem .u32 x c h0 (by simpa [IntKind.bits] using h1)
@[go_sem ↓] theorem u32_conv (a : Int) : Conv.intToInt .u32 a = pure (.int .u32 (bvi (BitVec.ofInt 32 a))) := by
  simp only [Conv.intToInt]; rw [wrap_bvi .u32 rfl a]; rfl
@[go_sem ↓] theorem u64_add (a b : Int) : Op.intArith .add .u64 a b = pure (.int .u64 (bvi (BitVec.ofInt 64 a + BitVec.ofInt 64 b))) := u_add .u64 rfl a b
@[go_sem ↓] theorem u64_sub (a b : Int) : Op.intArith .sub .u64 a b = pure (.int .u64 (bvi (BitVec.ofInt 64 a - BitVec.ofInt 64 b))) := u_sub .u64 rfl a b
@[go_sem ↓] theorem u64_mul (a b : Int) : Op.intArith .mul .u64 a b = pure (.int .u64 (bvi (BitVec.ofInt 64 a * BitVec.ofInt 64 b))) := u_mul .u64 rfl a b
@[go_sem ↓] theorem u64_and (a b : Int) : Op.intBits .and .u64 a b = pure (.int .u64 (bvi (BitVec.ofInt 64 a &&& BitVec.ofInt 64 b))) := u_and .u64 rfl a b
@[go_sem ↓] theorem u64_or (a b : Int) : Op.intBits .or .u64 a b = pure (.int .u64 (bvi (BitVec.ofInt 64 a ||| BitVec.ofInt 64 b))) := u_or .u64 rfl a b
@[go_sem ↓] theorem u64_xor (a b : Int) : Op.intBits .xor .u64 a b = pure (.int .u64 (bvi (BitVec.ofInt 64 a ^^^ BitVec.ofInt 64 b))) := u_xor .u64 rfl a b
@[go_sem ↓] theorem u64_shl (yk : IntKind) (a b : Int) (h : 0 ≤ b) : Op.shift .shl .u64 a yk b = pure (.int .u64 (bvi (BitVec.ofInt 64 a <<< b.toNat))) := u_shl .u64 rfl yk a b h
@[go_sem ↓] theorem u64_shr (yk : IntKind) (x : BitVec 64) (b : Int) (h : 0 ≤ b) : Op.shift .shr .u64 (bvi x) yk b = pure (.int .u64 (bvi (x >>> b.toNat))) := u_shr .u64 yk x b h
@[go_sem ↓] theorem u64_quo (x : BitVec 64) (c : Int) (h0 : 0 < c) (h1 : c < 18446744073709551616) : Op.intDiv .quo .u64 (bvi x) c = pure (.int .u64 (bvi (x / BitVec.ofInt 64 c))) := u_quo .u64 rfl x c h0 (by simpa [IntKind.bits] using h1)
@[go_sem ↓] theorem u64_rem (x : BitVec 64) (c : Int) (h0 : 0 < c) (h1 : c < 18446744073709551616) : Op.intDiv .rem .u64 (bvi x) c = pure (.int .u64 (bvi (x % BitVec.ofInt 64 c))) := u_rem .u64 x c h0 (by simpa [IntKind.bits] using h1)
@[go_sem ↓] theorem u64_conv (a : Int) : Conv.intToInt .u64 a = pure (.int .u64 (bvi (BitVec.ofInt 64 a))) := by
  simp only [Conv.intToInt]; rw [wrap_bvi .u64 rfl a]; rfl

@[go_sem ↓] theorem u8_wrap (a : Int) : IntKind.u8.wrap a = bvi (BitVec.ofInt 8 a) := wrap_bvi .u8 rfl a
@[go_sem ↓] theorem u16_wrap (a : Int) : IntKind.u16.wrap a = bvi (BitVec.ofInt 16 a) := wrap_bvi .u16 rfl a
@[go_sem ↓] theorem u32_wrap (a : Int) : IntKind.u32.wrap a = bvi (BitVec.ofInt 32 a) := wrap_bvi .u32 rfl a
@[go_sem ↓] theorem u64_wrap (a : Int) : IntKind.u64.wrap a = bvi (BitVec.ofInt 64 a) := wrap_bvi .u64 rfl a


theorem max_if (x y : Int) : (if y > x then y else x) = max x y := by omega
theorem min_if (x y : Int) : (if y < x then y else x) = min x y := by omega
@[go_sem ↓] theorem builtin_max2 (ats : Array TypeId) (t : TypeId) (k k' : IntKind) (x y : Int) : Builtin.max_ ats t #[.int k x, .int k' y] = pure (.int k (max x y)) := by
  rw [← max_if]; rfl
@[go_sem ↓] theorem builtin_min2 (ats : Array TypeId) (t : TypeId) (k k' : IntKind) (x y : Int) : Builtin.min_ ats t #[.int k x, .int k' y] = pure (.int k (min x y)) := by
  rw [← min_if]; rfl

end Go.Proofs.Ytfglhemmccihfaa
namespace Go.Proofs.Ytfglhemmccihfaa
open Go.RowKit

/-- The string s has the bytes l. -/
def Is (s : ByteArray) (l : List UInt8) : Prop := s.data.toList = l
theorem Is.self (s : ByteArray) : Is s s.data.toList := rfl
theorem Is.of (l : List UInt8) : Is ⟨l.toArray⟩ l := rfl
theorem Is.out {s : ByteArray} {l : List UInt8} (h : Is s l) : s.data.toList = l := h
theorem Is.size {s : ByteArray} {l : List UInt8} (h : Is s l) : s.size = l.length := by
  rw [← h.out, Array.length_toList]; rfl
theorem Is.eq {s : ByteArray} {l : List UInt8} (h : Is s l) : s = ⟨l.toArray⟩ := by
  rw [← h.out]
theorem Is.inj {s t : ByteArray} {l : List UInt8} (h : Is s l) (k : Is t l) : s = t := by rw [h.eq, k.eq]
theorem Is.append {s t : ByteArray} {l m : List UInt8} (h : Is s l) (k : Is t m) : Is (s ++ t) (l ++ m) := by
  unfold Is; rw [ByteArray.data_append, Array.toList_append, h.out, k.out]
theorem Is.get {s : ByteArray} {l : List UInt8} (h : Is s l) (i : Nat) (hi : i < s.size) : s[i] = l[i]'(by rw [← h.size]; exact hi) := by
  subst h; simp; rfl
theorem Is.extract {s : ByteArray} {l : List UInt8} (h : Is s l) (a b : Nat) : Is (s.extract a b) ((l.drop a).take (b - a)) := by
  subst h
  unfold Is
  simp
/-- Go's '==' on strings. -/
def seq (a b : ByteArray) : Bool := decide (a.data.toList = b.data.toList)
theorem seq_eq {a b : ByteArray} {l m : List UInt8} (h : Is a l) (k : Is b m) : seq a b = decide (l = m) := by
  unfold seq; rw [h.out, k.out]
theorem seq_self (a : ByteArray) : seq a a = true := by simp [seq]
theorem seq_iff (a b : ByteArray) : seq a b = true ↔ a = b := by
  unfold seq
  rw [decide_eq_true_iff]
  exact ⟨fun e => (Is.self a).inj (by unfold Is; rw [e]), fun e => by rw [e]⟩
theorem seq_no {a b : ByteArray} : seq a b = false ↔ a ≠ b := by
  rw [Ne, ← seq_iff a b, Bool.not_eq_true]
theorem toList_beq (a b : ByteArray) : (a.toList == b.toList) = seq a b := by
  rw [Lib.toList_data, Lib.toList_data]
  unfold seq
  rw [Bool.eq_iff_iff, beq_iff_eq, decide_eq_true_iff]
@[go_sem high] theorem binOp_seq (t : TypeId) (a b : ByteArray) : binOp .eql t (.string a) (.string b) = pure (.bool (seq a b)) := by
  simp only [binOp, Op.stringOp, toList_beq]
@[go_sem high] theorem binOp_sne (t : TypeId) (a b : ByteArray) : binOp .neq t (.string a) (.string b) = pure (.bool (!seq a b)) := by
  simp only [binOp, Op.stringOp, toList_beq]
theorem Is.empty : Is ByteArray.empty [] := rfl

theorem below_alloc' {w w1 : World} (h : Below w.heap.size w w1) (o : Obj) : Below w.heap.size w (w1.alloc o) := h.alloc h.size o
theorem bthen {w w1 w2 : World} (h : Below w.heap.size w w1) (k : Below w1.heap.size w1 w2) : Below w.heap.size w w2 := h.trans (k.mono h.size)
theorem seq_is {a b : ByteArray} {l : List UInt8} (h : Is a l) (k : Is b l) : seq a b = true := by rw [seq_eq h k]; simp
theorem ret_bvi {k : IntKind} {n : Nat} {a b : BitVec n} (h : a = b) : Ending.returned (.int k (bvi a)) = .returned (.int k (bvi b)) := by rw [h]
theorem ret_int {k : IntKind} {a b : Int} (h : a = b) : Ending.returned (.int k a) = .returned (.int k b) := by rw [h]
theorem ret_bool {a b : Bool} (h : a = b) : Ending.returned (.bool a) = .returned (.bool b) := by rw [h]
theorem ret_val {a b : Value} (h : a = b) : Ending.returned a = .returned b := by rw [h]
/-- A byte as a cell. -/
def u8c (b : UInt8) : Value := .int .u8 (bvi b.toBitVec)
/-- Bytes as cells. -/
def cells (l : List UInt8) : List Value := l.map u8c
theorem cells_length (l : List UInt8) : (cells l).length = l.length := by simp [cells]
theorem cells_append (l r : List UInt8) : cells (l ++ r) = cells l ++ cells r := by simp [cells]
theorem cells_get {l : List UInt8} {i : Nat} (h : i < l.length) : (cells l)[i]? = some (.int .u8 (bvi l[i].toBitVec)) := by
  simp [cells, h, u8c]
theorem cells_set (l : List UInt8) (i : Nat) (b : UInt8) : (cells l).set i (u8c b) = cells (l.set i b) := by
  simp [cells, List.map_set]

theorem strOfNums_bvi (l : List UInt8) : strOfNums (l.map fun b => bvi b.toBitVec) = ⟨l.toArray⟩ := by
  unfold strOfNums
  congr 2
  rw [List.map_map]
  conv => rhs; rw [← List.map_id l]
  apply List.map_congr_left
  intro b _
  simp [bvi]

/-- 'string(b)', b a slice at the head of a row of bytes. -/
theorem run_str {P : Program} (w : World) (src e : TypeId) (hs : P.underlying src = some (.slice e)) (he : P.underlying e = some (.int .u8)) (dst : TypeId) (hd : P.underlying dst = some .string)
    (g n cap : Nat) (cs : Array Value) (T : TypeId) (fz : Nat × Nat) (l : List UInt8) (hg : w.heap[g]? = some (.cells cs T fz)) (hl : l.length = n) (hc : cs.toList.take n = cells l) :
    (convert src dst (.slice (some ⟨g, 0, none⟩) n cap)).run P w = .ok (.string ⟨l.toArray⟩) w := by
  rw [run_convert_bytes_arg w src e hs he g 0 n cap (l.map fun b => bvi b.toBitVec) (by simpa using hl) ?_ dst hd, strOfNums_bvi]
  intro i hi
  have hi' : i < l.length := by omega
  have h1 : cs[i]? = (cells l)[i]? := by
    rw [← hc, List.getElem?_take, if_pos hi]
    simp
  simp only [World.cell?, hg, Nat.zero_add]
  rw [h1, cells_get hi']
  simp [List.getD, hi']

/-! ### Rows of cells -/
/-- Block g is the row of cells cs. -/
def RowAt (w : World) (g : Nat) (cs : Array Value) (T : TypeId) (fz : Nat × Nat) : Prop := w.heap[g]? = some (.cells cs T fz)
section
variable {w w' : World} {g : Nat} {cs : Array Value} {T : TypeId} {fz : Nat × Nat}
theorem RowAt.out (h : RowAt w g cs T fz) : w.heap[g]? = some (.cells cs T fz) := h
theorem RowAt.lt (h : RowAt w g cs T fz) : g < w.heap.size := (Array.getElem?_eq_some_iff.1 h).1
theorem RowAt.cell (h : RowAt w g cs T fz) {i : Nat} {v : Value} (hi : cs[i]? = some v) : w.cell? ⟨g, i, none⟩ = some v := by
  simp only [World.cell?, h.out]; simpa using hi
theorem RowAt.free (h : RowAt w g cs T fz) {i : Nat} (hi : ¬ (fz.1 ≤ i ∧ i < fz.2)) : w.frozen? ⟨g, i, none⟩ = false := by
  obtain ⟨a, b⟩ := fz
  simp only [World.frozen?, h.out, Bool.and_eq_false_iff, decide_eq_false_iff_not]
  simp only at hi
  omega
theorem RowAt.store (h : RowAt w g cs T fz) (i : Nat) (v : Value) : RowAt (w.setCell ⟨g, i, none⟩ v) g (cs.setIfInBounds i v) T fz := by
  unfold RowAt
  simp [World.setCell, Array.getElem?_modify, h.out]
theorem RowAt.other (h : RowAt w g cs T fz) {p : Addr} (hp : p.block ≠ g) (v : Value) : RowAt (w.setCell p v) g cs T fz := by
  unfold RowAt
  rw [Below.heap_setCell _ _ _ _ (Ne.symm hp)]
  exact h
theorem RowAt.drew (h : RowAt w g cs T fz) : RowAt w.drew g cs T fz := h
theorem RowAt.alloc (h : RowAt w g cs T fz) (o : Obj) : RowAt (w.alloc o) g cs T fz := (Below.heap_alloc w o g h.lt).trans h
theorem RowAt.new (w : World) (cs : Array Value) (T : TypeId) (fz : Nat × Nat) : RowAt (w.alloc (.cells cs T fz)) w.heap.size cs T fz := by
  show (w.heap.push (.cells cs T fz))[w.heap.size]? = _
  simp
theorem RowAt.newDrew (w : World) (cs : Array Value) (T : TypeId) (fz : Nat × Nat) : RowAt (w.drew.alloc (.cells cs T fz)) w.heap.size cs T fz := RowAt.new w.drew cs T fz
theorem RowAt.below {B : Nat} (h : RowAt w g cs T fz) (hb : Below B w w') (hg : g < B) : RowAt w' g cs T fz := (hb.block g hg).trans h
end
/-- 'string([]byte{b})'. -/
theorem run_str_one {P : Program} (w : World) (src e : TypeId) (hs : P.underlying src = some (.slice e)) (he : P.underlying e = some (.int .u8)) (dst : TypeId) (hd : P.underlying dst = some .string) (x : BitVec 8) :
    (convert src dst (.slice (some ⟨w.heap.size, 0, none⟩) 1 1)).run P (w.alloc (.cells #[.int .u8 (bvi x)] e)).drew = .ok (.string ⟨#[⟨x⟩]⟩) (w.alloc (.cells #[.int .u8 (bvi x)] e)).drew :=
  run_str (w.alloc (.cells #[.int .u8 (bvi x)] e)).drew src e hs he dst hd w.heap.size 1 1 _ _ _ [⟨x⟩] (RowAt.new w _ _ _).drew rfl rfl
theorem run_str_one0 {P : Program} (w : World) (src e : TypeId) (hs : P.underlying src = some (.slice e)) (he : P.underlying e = some (.int .u8)) (dst : TypeId) (hd : P.underlying dst = some .string) (x : BitVec 8) :
    (convert src dst (.slice (some ⟨w.heap.size, 0, none⟩) 1 1)).run P (w.alloc (.cells #[.int .u8 (bvi x)] e)) = .ok (.string ⟨#[⟨x⟩]⟩) (w.alloc (.cells #[.int .u8 (bvi x)] e)) :=
  run_str (w.alloc (.cells #[.int .u8 (bvi x)] e)) src e hs he dst hd w.heap.size 1 1 _ _ _ [⟨x⟩] (RowAt.new w _ _ _) rfl rfl
theorem bytesRow_take (s : ByteArray) (cap : Nat) : (bytesRow s cap).toList.take s.size = cells s.data.toList := by
  have hl : (s.data.map (fun b => Value.int .u8 b.toNat)).toList = cells s.data.toList := by
    rw [Array.toList_map]; rfl
  unfold bytesRow
  rw [Array.toList_append, hl]
  rw [List.take_left' (by rw [cells_length, Array.length_toList]; rfl)]
theorem bytesRow_size (s : ByteArray) (cap : Nat) : s.size ≤ (bytesRow s cap).size := by
  simp [bytesRow]
/-- A row's cell, by the bytes that its head holds. -/
theorem take_cell {cs : Array Value} {n : Nat} {l : List UInt8} (h : cs.toList.take n = cells l) {i : Nat} (hi : i < l.length) (hn : i < n) : cs[i]? = some (.int .u8 (bvi l[i].toBitVec)) := by
  have h1 : (cs.toList.take n)[i]? = (cells l)[i]? := by rw [h]
  rw [List.getElem?_take, if_pos hn, cells_get hi] at h1
  simpa using h1
theorem take_set {cs : Array Value} {n : Nat} {l : List UInt8} (h : cs.toList.take n = cells l) (i : Nat) (b : UInt8) : (cs.setIfInBounds i (u8c b)).toList.take n = cells (l.set i b) := by
  rw [Array.toList_setIfInBounds, List.take_set, h, cells_set]

end Go.Proofs.Ytfglhemmccihfaa
namespace Go.Proofs.Ytfglhemmccihfaa
open Go.RowKit

theorem Below.setRow {B : Nat} {a w : World} (h : Below B a w) {g : Nat} (hg : B ≤ g) (cs : Array Value) : Below B a (w.setRow g cs) :=
  h.trans ⟨rfl, rfl, rfl, by simp [World.setRow], fun k hk => setRow_other w g k cs (by omega)⟩
theorem RowAt.setRow {w : World} {g : Nat} {old : Array Value} {T : TypeId} {fz : Nat × Nat} (h : RowAt w g old T fz) (cs : Array Value) : RowAt (w.setRow g cs) g cs T fz := setRow_heap w g old cs T fz h
theorem RowAt.setOther {w : World} {g k : Nat} {old : Array Value} {T : TypeId} {fz : Nat × Nat} (h : RowAt w k old T fz) (hne : k ≠ g) (cs : Array Value) : RowAt (w.setRow g cs) k old T fz := (setRow_other w g k cs hne).trans h

/-- 'a' is 'a0' but for the slots of S. -/
structure Apart (S : List Nat) (a0 a : Act) : Prop where
  defers : a.defers = a0.defers
  size : a.tmps.size = a0.tmps.size
  same : ∀ j, j ∉ S → a.tmps[j]? = a0.tmps[j]?
theorem Apart.refl (S : List Nat) (a : Act) : Apart S a a := ⟨rfl, rfl, fun _ _ => rfl⟩
theorem Apart.put {S : List Nat} {a0 a : Act} (h : Apart S a0 a) {d : Nat} (hd : d ∈ S) (v : Value) : Apart S a0 (a.put (some d) v) :=
  ⟨h.defers, by show (a.tmps.setIfInBounds d v).size = _; rw [Array.size_setIfInBounds]; exact h.size,
   fun j hj => by
    show (a.tmps.setIfInBounds d v)[j]? = _
    rw [Array.getElem?_setIfInBounds_ne (by rintro rfl; exact hj hd)]
    exact h.same j hj⟩
/-- A slot's value. -/
def slot (a : Act) (d : Nat) : Value := a.tmps.getD d undef
theorem slot_put (a : Act) (d : Nat) (v : Value) (h : d < a.tmps.size) : slot (a.put (some d) v) d = v := by
  unfold slot
  show (a.tmps.setIfInBounds d v).getD d undef = v
  simp [Array.getD, h]
theorem slot_ne (a : Act) (d j : Nat) (v : Value) (h : d ≠ j) : slot (a.put (some d) v) j = slot a j := by
  unfold slot
  show (a.tmps.setIfInBounds d v).getD j undef = a.tmps.getD j undef
  rw [Array.getD_eq_getD_getElem?, Array.getD_eq_getD_getElem?, Array.getElem?_setIfInBounds_ne h]
theorem Apart.slot {S : List Nat} {a0 a : Act} (h : Apart S a0 a) {j : Nat} (hj : j ∉ S) : slot a j = slot a0 j := by
  unfold Go.Proofs.Ytfglhemmccihfaa.slot
  rw [Array.getD_eq_getD_getElem?, Array.getD_eq_getD_getElem?, h.same j hj]
theorem act_ext {a b : Act} (h : a.defers = b.defers) (k : ∀ j : Nat, a.tmps[j]? = b.tmps[j]?) : a = b := by
  cases a; cases b
  simp only at h k
  subst h
  congr 1
  exact Array.ext_getElem? k
theorem fold_get (f : Nat → Value) (S : List Nat) (a : Act) (j : Nat) (hS : ∀ d ∈ S, d < a.tmps.size) :
    (S.foldl (fun b d => b.put (some d) (f d)) a).tmps[j]? = if j ∈ S then some (f j) else a.tmps[j]? := by
  induction S generalizing a with
  | nil => simp
  | cons d S ih =>
    have hsz : (a.put (some d) (f d)).tmps.size = a.tmps.size := by show (a.tmps.setIfInBounds d (f d)).size = _; simp
    rw [List.foldl_cons, ih _ (fun x hx => by rw [hsz]; exact hS x (by simp [hx]))]
    by_cases h1 : j ∈ S
    · simp [h1]
    · by_cases h2 : j = d
      · subst h2
        simp only [h1, if_false, List.mem_cons, true_or, if_true]
        show (a.tmps.setIfInBounds j (f j))[j]? = _
        simp [hS j (by simp)]
      · simp only [h1, if_false, List.mem_cons, h2, false_or]
        show (a.tmps.setIfInBounds d (f d))[j]? = _
        rw [Array.getElem?_setIfInBounds_ne (fun e => h2 e.symm)]
theorem fold_defers (f : Nat → Value) (S : List Nat) (a : Act) : (S.foldl (fun b d => b.put (some d) (f d)) a).defers = a.defers := by
  induction S generalizing a with
  | nil => rfl
  | cons d S ih => rw [List.foldl_cons, ih]; rfl
theorem Apart.eq {S : List Nat} {a0 a : Act} (h : Apart S a0 a) (hS : ∀ d ∈ S, d < a0.tmps.size) : a = S.foldl (fun b d => b.put (some d) (Go.Proofs.Ytfglhemmccihfaa.slot a d)) a0 := by
  refine act_ext ?_ fun j => ?_
  · rw [fold_defers]; exact h.defers
  · rw [fold_get _ _ _ _ hS]
    by_cases hj : j ∈ S
    · rw [if_pos hj]
      have h1 : j < a.tmps.size := by rw [h.size]; exact hS j hj
      unfold Go.Proofs.Ytfglhemmccihfaa.slot
      rw [Array.getD_eq_getD_getElem?, Array.getElem?_eq_getElem h1]; rfl
    · rw [if_neg hj]; exact h.same j hj

section
variable {P : Program} {md : Region.Mode} {ops : Array Oper} {Q : Exit → Act → World → Prop}
theorem ready_mem {listed : Array Bool} {i : Nat} (h : i ∈ Region.ready md ops listed) :
    ∃ o, ops[i]? = some o ∧ listed.getD i true = false ∧ ∀ e ∈ o.after.toList, Region.binds md e = true → listed.getD e.on false = true := by
  unfold Region.ready at h
  rw [List.mem_filter] at h
  obtain ⟨_, h2⟩ := h
  rw [Bool.and_eq_true, Bool.not_eq_true'] at h2
  obtain ⟨h3, h4⟩ := h2
  cases ho : ops[i]? with
  | none => rw [ho] at h4; cases h4
  | some o =>
    rw [ho] at h4
    refine ⟨o, rfl, h3, fun e he hb => ?_⟩
    have h5 : (o.after.all fun e => !Region.binds md e || listed.getD e.on false) = true := h4
    rw [Array.all_eq_true_iff_forall_mem] at h5
    have := h5 e (by simpa using he)
    rw [hb] at this
    simpa using this
theorem ready_nil {listed : Array Bool} (hsz : listed.size = ops.size) (hf : ∀ (i : Nat) (o : Oper), ops[i]? = some o → ∀ e ∈ o.after.toList, Region.binds md e = true → e.on < i) (h : Region.ready md ops listed = []) :
    ∀ i, i < ops.size → listed.getD i false = true := by
  intro i
  induction i using Nat.strongRecOn with
  | ind i ih =>
    intro hi
    cases hl : listed.getD i false with
    | true => rfl
    | false =>
      exfalso
      have hmem : i ∈ Region.ready md ops listed := by
        unfold Region.ready
        rw [List.mem_filter]
        refine ⟨List.mem_range.2 hi, ?_⟩
        have h1 : listed.getD i true = false := by
          rw [Array.getD_eq_getD_getElem?, Array.getElem?_eq_getElem (by omega)] at hl ⊢
          exact hl
        rw [h1]
        have h2 : ops[i]? = some ops[i] := Array.getElem?_eq_getElem hi
        rw [h2]
        have h5 : (ops[i].after.all fun e => !Region.binds md e || listed.getD e.on false) = true := by
          rw [Array.all_eq_true_iff_forall_mem]
          intro e he
          cases hb : Region.binds md e with
          | false => rfl
          | true =>
            have h3 := hf i _ h2 e (by simpa using he) hb
            rw [ih e.on h3 (by omega)]; rfl
        simpa using h5
      rw [h] at hmem
      cases hmem
theorem listed_set {listed : Array Bool} {i : Nat} (hi : i < listed.size) (k : Nat) : (listed.setIfInBounds i true).getD k false = (listed.getD k false || k == i) := by
  rw [Array.getD_eq_getD_getElem?, Array.getD_eq_getD_getElem?]
  by_cases h : i = k
  · subst h; simp [hi]
  · rw [Array.getElem?_setIfInBounds_ne h]
    have : (k == i) = false := by rw [beq_eq_false_iff_ne]; exact fun e => h e.symm
    rw [this, Bool.or_false]

/-- A region by an invariant: which operations have come up; the slots; the world. -/
theorem wpAny_inv (I : (Nat → Bool) → Act → World → Prop) (hf : ∀ (i : Nat) (o : Oper), ops[i]? = some o → ∀ e ∈ o.after.toList, Region.binds md e = true → e.on < i)
    (step : ∀ (L : Nat → Bool) (i : Nat) (o : Oper) (a : Act) (w : World) (K : Act → World → Prop), ops[i]? = some o → L i = false → (∀ e ∈ o.after.toList, Region.binds md e = true → L e.on = true) → I L a w →
      (∀ a' w', I (fun k => L k || k == i) a' w' → K a' w') → if Region.wanted o (yielded ops a.tmps) = true then o.wp P a w K Q else K (a.put o.dst undef) w)
    (fin : ∀ L a w, (∀ i, i < ops.size → L i = true) → I L a w → Q .normal a w) :
    ∀ (fuel : Nat) (listed : Array Bool) (a : Act) (w : World), listed.size = ops.size → listed.toList.count false ≤ fuel → I (fun k => listed.getD k false) a w → wpAny P md ops Q fuel listed a w := by
  intro fuel
  induction fuel with
  | zero =>
    intro listed a w hsz hc hI
    have hall : ∀ i, i < listed.size → listed.getD i false = true := by
      intro i hi
      cases hl : listed.getD i false with
      | true => rfl
      | false =>
        exfalso
        rw [Array.getD_eq_getD_getElem?, Array.getElem?_eq_getElem hi] at hl
        have hm : false ∈ listed.toList := by
          rw [Array.mem_toList_iff]
          have h2 : listed[i] = false := hl
          rw [← h2]; exact Array.getElem_mem hi
        have := List.count_pos_iff.2 hm
        omega
    have hr : Region.ready md ops listed = [] := by
      cases hr : Region.ready md ops listed with
      | nil => rfl
      | cons i rs =>
        exfalso
        obtain ⟨o, ho, hl, _⟩ := ready_mem (listed := listed) (i := i) (by rw [hr]; exact List.mem_cons_self ..)
        have hi : i < ops.size := (Array.getElem?_eq_some_iff.1 ho).1
        have := hall i (by omega)
        rw [Array.getD_eq_getD_getElem?, Array.getElem?_eq_getElem (by omega)] at this hl
        have h3 : listed[i]'(by omega) = true := this
        have h4 : listed[i]'(by omega) = false := hl
        rw [h3] at h4; cases h4
    exact ⟨hr, fin _ a w (ready_nil hsz hf hr) hI⟩
  | succ fuel ih =>
    intro listed a w hsz hc hI
    refine ⟨fun hr => fin _ a w (ready_nil hsz hf hr) hI, fun i hi => ?_⟩
    obtain ⟨o, ho, hl, he⟩ := ready_mem hi
    have hi2 : i < ops.size := (Array.getElem?_eq_some_iff.1 ho).1
    have hi3 : i < listed.size := by omega
    have hl2 : listed[i] = false := by
      rw [Array.getD_eq_getD_getElem?, Array.getElem?_eq_getElem hi3] at hl
      exact hl
    refine wpOp_step ho fun K' hK => ?_
    refine step _ i o a w K' ho ?_ he hI (fun a' w' h' => hK a' w' (ih _ a' w' (by rw [Array.size_setIfInBounds]; exact hsz) ?_ ?_))
    · show listed.getD i false = false
      rw [Array.getD_eq_getD_getElem?, Array.getElem?_eq_getElem hi3]; exact hl2
    · rw [Array.toList_setIfInBounds, List.count_set (by rw [Array.length_toList]; exact hi3)]
      have hp : 0 < listed.toList.count false := List.count_pos_iff.2 (by rw [Array.mem_toList_iff, ← hl2]; exact Array.getElem_mem hi3)
      have h7 : listed.toList[i]'(by rw [Array.length_toList]; exact hi3) = false := by rw [Array.getElem_toList]; exact hl2
      rw [h7]
      simp only [beq_self_eq_true, if_true]
      have h8 : (true == false) = false := rfl
      rw [h8]
      simp only [Bool.false_eq_true, if_false, Nat.add_zero]
      omega
    · have : (fun k => (listed.setIfInBounds i true).getD k false) = fun k => listed.getD k false || k == i := funext fun k => listed_set hi3 k
      rw [this]
      exact h'
theorem wp_region_inv {id : Nat} {a : Act} {w : World} (hm : P.follows .mixedOrders = true) (I : (Nat → Bool) → Act → World → Prop) (hf : (ops.toList.zipIdx.all fun x => x.1.after.toList.all fun e => !Region.binds .any e || decide (e.on < x.2)) = true)
    (start : I (fun _ => false) a w.drew)
    (step : ∀ (L : Nat → Bool) (i : Nat) (o : Oper) (a : Act) (w : World) (K : Act → World → Prop), ops[i]? = some o → L i = false → (∀ e ∈ o.after.toList, Region.binds .any e = true → L e.on = true) → I L a w →
      (∀ a' w', I (fun k => L k || k == i) a' w' → K a' w') → if Region.wanted o (yielded ops a.tmps) = true then o.wp P a w K Q else K (a.put o.dst undef) w)
    (fin : ∀ L a w, (∀ i, i < ops.size → L i = true) → I L a w → Q .normal a w) : (Code.region id ops true).wp P Q a w := by
  refine wp_region_any hm (wpAny_inv I ?_ step fin _ _ _ _ (by simp) (by rw [Array.toList_replicate]; simp) ?_)
  · intro i o ho e he hb
    rw [List.all_eq_true] at hf
    have hi : i < ops.size := (Array.getElem?_eq_some_iff.1 ho).1
    have ho2 : ops[i] = o := (Array.getElem?_eq_some_iff.1 ho).2
    have := hf (o, i) (by rw [List.mem_zipIdx_iff_getElem?]; simpa using ho)
    rw [List.all_eq_true] at this
    have h9 := this e he
    rw [hb] at h9
    simpa using h9
  · have : (fun k => (Array.replicate ops.size false).getD k false) = fun _ => false := funext fun k => by
      rw [Array.getD_eq_getD_getElem?, Array.getElem?_replicate]; split <;> rfl
    rw [this]
    exact start
end
end Go.Proofs.Ytfglhemmccihfaa
namespace Go.Proofs.Ytfglhemmccihfaa
open Go.RowKit

def ptrV (g : Nat) : Value := .pointer (some ⟨g, 0, none⟩)
theorem ptrV_inj {g k : Nat} (h : ptrV g = ptrV k) : g = k := by
  unfold ptrV at h; injection h with h; injection h with h; injection h
section
variable {P : Program} {Q : Exit → Act → World → Prop}
theorem edge_on {md : Region.Mode} {o : Oper} {L : Nat → Bool} {k : Nat} (h : (o.after.toList.any fun e => e.on == k && Region.binds md e) = true)
    (he : ∀ e ∈ o.after.toList, Region.binds md e = true → L e.on = true) : L k = true := by
  rw [List.any_eq_true] at h
  obtain ⟨e, h1, h2⟩ := h
  rw [Bool.and_eq_true, beq_iff_eq] at h2
  rw [← h2.1]; exact he e h1 h2.2

theorem region_two {id : Nat} {o0 o1 o2 o3 o4 o5 : Oper} {a0 : Act} {w0 : World} (hm : P.follows .mixedOrders = true)
    (d0 d1 d2 d3 : Nat) (T1 T2 : TypeId) (c1 c2 Z1 Z2 : Array Value)
    (hg : o0.guard = none ∧ o1.guard = none ∧ o2.guard = none ∧ o3.guard = none ∧ o4.guard = none ∧ o5.guard = none)
    (hd4 : o4.dst = none) (hd5 : o5.dst = none) (hnd : d0 ≠ d1 ∧ d0 ≠ d2 ∧ d0 ≠ d3 ∧ d1 ≠ d2 ∧ d1 ≠ d3 ∧ d2 ≠ d3) (n : Nat) (hn : a0.tmps.size = n) (hlt : d0 < n ∧ d1 < n ∧ d2 < n ∧ d3 < n)
    (hf : ((#[o0, o1, o2, o3, o4, o5] : Array Oper).toList.zipIdx.all fun x => x.1.after.toList.all fun e => !Region.binds .any e || decide (e.on < x.2)) = true)
    (he4 : (o4.after.toList.any fun e => e.on == 0 && Region.binds .any e) = true ∧ (o4.after.toList.any fun e => e.on == 2 && Region.binds .any e) = true)
    (he5 : (o5.after.toList.any fun e => e.on == 1 && Region.binds .any e) = true ∧ (o5.after.toList.any fun e => e.on == 3 && Region.binds .any e) = true)
    (ho4 : o4.op = .store T1 (.tmp d2) (.tmp d0)) (ho5 : o5.op = .store T2 (.tmp d3) (.tmp d1))
    (hi1 : (P.info? T1).map (·.size) = some c1.size) (hz1 : Z1.size = c1.size) (hc1 : c1.all (·.oneCell') = true)
    (hi2 : (P.info? T2).map (·.size) = some c2.size) (hz2 : Z2.size = c2.size) (hc2 : c2.all (·.oneCell') = true)
    (h0 : ∀ (a : Act) (w : World) (K : Act → World → Prop), Apart [d0, d1, d2, d3] a0 a → Below w0.heap.size w0 w → (∀ w', Below w.heap.size w w' → K (a.put (some d0) (.agg c1)) w') → o0.wp P a w K Q)
    (h1 : ∀ (a : Act) (w : World) (K : Act → World → Prop), Apart [d0, d1, d2, d3] a0 a → Below w0.heap.size w0 w → (∀ w', Below w.heap.size w w' → K (a.put (some d1) (.agg c2)) w') → o1.wp P a w K Q)
    (h2 : ∀ (a : Act) (w : World) (K : Act → World → Prop), K (a.put (some d2) (ptrV w.heap.size)) (w.alloc (.cells Z1 T1)) → o2.wp P a w K Q)
    (h3 : ∀ (a : Act) (w : World) (K : Act → World → Prop), K (a.put (some d3) (ptrV w.heap.size)) (w.alloc (.cells Z2 T2)) → o3.wp P a w K Q)
    (fin : ∀ (w : World) (g1 g2 : Nat), w0.heap.size ≤ g1 → w0.heap.size ≤ g2 → g1 ≠ g2 → RowAt w g1 c1 T1 (0, 0) → RowAt w g2 c2 T2 (0, 0) → Below w0.heap.size w0 w →
      Q .normal ((((a0.put (some d0) (.agg c1)).put (some d1) (.agg c2)).put (some d2) (ptrV g1)).put (some d3) (ptrV g2)) w) :
    (Code.region id #[o0, o1, o2, o3, o4, o5] true).wp P Q a0 w0 := by
  obtain ⟨g0, g1, g2, g3, g4, g5⟩ := hg
  obtain ⟨n01, n02, n03, n12, n13, n23⟩ := hnd
  rw [← hn] at hlt
  obtain ⟨l0, l1, l2, l3⟩ := hlt
  refine wp_region_inv hm (fun L a w => Apart [d0, d1, d2, d3] a0 a ∧ Below w0.heap.size w0 w ∧ (L 0 = true → slot a d0 = .agg c1) ∧ (L 1 = true → slot a d1 = .agg c2) ∧
    (L 2 = true → ∃ g, w0.heap.size ≤ g ∧ slot a d2 = ptrV g ∧ RowAt w g (if L 4 = true then c1 else Z1) T1 (0, 0)) ∧
    (L 3 = true → ∃ g, w0.heap.size ≤ g ∧ slot a d3 = ptrV g ∧ RowAt w g (if L 5 = true then c2 else Z2) T2 (0, 0)) ∧
    (∀ g, L 2 = true → L 3 = true → slot a d2 = ptrV g → slot a d3 ≠ ptrV g) ∧ (L 4 = true → L 2 = true) ∧ (L 5 = true → L 3 = true)) hf ?_ ?_ ?_
  · refine ⟨Apart.refl _ _, Below.drew (Below.refl _ _), ?_, ?_, ?_, ?_, ?_, ?_, ?_⟩ <;> (intros; contradiction)
  · intro L i o a w K ho hL he hI hK
    obtain ⟨ha, hb, i0, i1, i2, i3, i4, i5, i6⟩ := hI
    have sz := ha.size
    match i, ho with
    | 0, ho =>
      have ho : o0 = o := by simpa using ho
      subst ho
      rw [if_pos (by simp [Region.wanted, g0])]
      refine h0 a w K ha hb fun w' hw => hK _ _ ⟨ha.put (by simp) _, hb.trans (hw.mono hb.size), fun _ => slot_put _ _ _ (by omega), ?_, ?_, ?_, ?_, fun h => by have := i5 (by simpa using h); simp [this], fun h => by have := i6 (by simpa using h); simp [this]⟩
      · intro h; rw [slot_ne _ _ _ _ n01]; exact i1 (by simpa using h)
      · intro h
        obtain ⟨g, k1, k2, k3⟩ := i2 (by simpa using h)
        exact ⟨g, k1, by rw [slot_ne _ _ _ _ n02]; exact k2, by simpa using k3.below hw k3.lt⟩
      · intro h
        obtain ⟨g, k1, k2, k3⟩ := i3 (by simpa using h)
        exact ⟨g, k1, by rw [slot_ne _ _ _ _ n03]; exact k2, by simpa using k3.below hw k3.lt⟩
      · intro g h h' k; rw [slot_ne _ _ _ _ n02] at k; rw [slot_ne _ _ _ _ n03]; exact i4 g (by simpa using h) (by simpa using h') k
    | 1, ho =>
      have ho : o1 = o := by simpa using ho
      subst ho
      rw [if_pos (by simp [Region.wanted, g1])]
      refine h1 a w K ha hb fun w' hw => hK _ _ ⟨ha.put (by simp) _, hb.trans (hw.mono hb.size), ?_, fun _ => slot_put _ _ _ (by omega), ?_, ?_, ?_, fun h => by have := i5 (by simpa using h); simp [this], fun h => by have := i6 (by simpa using h); simp [this]⟩
      · intro h; rw [slot_ne _ _ _ _ n01.symm]; exact i0 (by simpa using h)
      · intro h
        obtain ⟨g, k1, k2, k3⟩ := i2 (by simpa using h)
        exact ⟨g, k1, by rw [slot_ne _ _ _ _ n12]; exact k2, by simpa using k3.below hw k3.lt⟩
      · intro h
        obtain ⟨g, k1, k2, k3⟩ := i3 (by simpa using h)
        exact ⟨g, k1, by rw [slot_ne _ _ _ _ n13]; exact k2, by simpa using k3.below hw k3.lt⟩
      · intro g h h' k; rw [slot_ne _ _ _ _ n12] at k; rw [slot_ne _ _ _ _ n13]; exact i4 g (by simpa using h) (by simpa using h') k
    | 2, ho =>
      have ho : o2 = o := by simpa using ho
      subst ho
      rw [if_pos (by simp [Region.wanted, g2])]
      have hL4 : L 4 = false := by
        cases h : L 4 with
        | false => rfl
        | true => rw [i5 h] at hL; cases hL
      refine h2 a w K (hK _ _ ⟨ha.put (by simp) _, hb.alloc hb.size _, ?_, ?_, ?_, ?_, ?_, fun h => by have := i5 (by simpa using h); simp [this], fun h => by have := i6 (by simpa using h); simp [this]⟩)
      · intro h; rw [slot_ne _ _ _ _ n02.symm]; exact i0 (by simpa using h)
      · intro h; rw [slot_ne _ _ _ _ n12.symm]; exact i1 (by simpa using h)
      · intro _
        refine ⟨w.heap.size, hb.size, slot_put _ _ _ (by omega), ?_⟩
        show RowAt _ _ (if (L 4 || 4 == 2) = true then c1 else Z1) T1 (0, 0)
        rw [hL4]
        exact RowAt.new w _ _ _
      · intro h
        obtain ⟨g, k1, k2, k3⟩ := i3 (by simpa using h)
        exact ⟨g, k1, by rw [slot_ne _ _ _ _ n23]; exact k2, by simpa using k3.alloc _⟩
      · intro g h h' k
        rw [slot_put _ _ _ (by omega)] at k
        have := ptrV_inj k
        subst this
        rw [slot_ne _ _ _ _ n23]
        obtain ⟨g, k1, k2, k3⟩ := i3 (by simpa using h')
        rw [k2]
        intro e
        have := ptrV_inj e
        have := k3.lt
        omega
    | 3, ho =>
      have ho : o3 = o := by simpa using ho
      subst ho
      have hL5 : L 5 = false := by
        cases h : L 5 with
        | false => rfl
        | true => rw [i6 h] at hL; cases hL
      rw [if_pos (by simp [Region.wanted, g3])]
      refine h3 a w K (hK _ _ ⟨ha.put (by simp) _, hb.alloc hb.size _, ?_, ?_, ?_, ?_, ?_, fun h => by have := i5 (by simpa using h); simp [this], fun h => by have := i6 (by simpa using h); simp [this]⟩)
      · intro h; rw [slot_ne _ _ _ _ n03.symm]; exact i0 (by simpa using h)
      · intro h; rw [slot_ne _ _ _ _ n13.symm]; exact i1 (by simpa using h)
      · intro h
        obtain ⟨g, k1, k2, k3⟩ := i2 (by simpa using h)
        exact ⟨g, k1, by rw [slot_ne _ _ _ _ n23.symm]; exact k2, by simpa using k3.alloc _⟩
      · intro _
        refine ⟨w.heap.size, hb.size, slot_put _ _ _ (by omega), ?_⟩
        show RowAt _ _ (if (L 5 || 5 == 3) = true then c2 else Z2) T2 (0, 0)
        rw [hL5]
        exact RowAt.new w _ _ _
      · intro g h h' k
        rw [slot_ne _ _ _ _ n23.symm] at k
        obtain ⟨g', k1, k2, k3⟩ := i2 (by simpa using h)
        rw [slot_put _ _ _ (by omega)]
        intro e
        have := ptrV_inj e
        have := ptrV_inj (k2.symm.trans k)
        have := k3.lt
        omega
    | 4, ho =>
      have ho : o4 = o := by simpa using ho
      subst ho
      have e0 : L 0 = true := edge_on he4.1 he
      have e2 : L 2 = true := edge_on he4.2 he
      rw [if_pos (by simp [Region.wanted, g4])]
      obtain ⟨g, k1, k2, k3⟩ := i2 e2
      rw [hL] at k3
      refine wp_store_row T1 _ _ ho4 g c1 k2 (i0 e0) T1 Z1 k3.out hi1 hz1 hc1 ?_
      rw [hd4]
      refine hK _ _ ⟨ha, Go.Proofs.Ytfglhemmccihfaa.Below.setRow hb k1 _, fun _ => i0 e0, fun h => i1 (by simpa using h), fun _ => ⟨g, k1, k2, by simpa using k3.setRow c1⟩, ?_, fun g h h' k => i4 g e2 (by simpa using h') k, fun _ => by simp [e2], fun h => by have := i6 (by simpa using h); simp [this]⟩
      intro h
      obtain ⟨g', m1, m2, m3⟩ := i3 (by simpa using h)
      refine ⟨g', m1, m2, ?_⟩
      have : g' ≠ g := by rintro rfl; exact i4 g' e2 (by simpa using h) k2 m2
      simpa using m3.setOther this c1
    | 5, ho =>
      have ho : o5 = o := by simpa using ho
      subst ho
      have e1 : L 1 = true := edge_on he5.1 he
      have e3 : L 3 = true := edge_on he5.2 he
      rw [if_pos (by simp [Region.wanted, g5])]
      obtain ⟨g, k1, k2, k3⟩ := i3 e3
      rw [hL] at k3
      refine wp_store_row T2 _ _ ho5 g c2 k2 (i1 e1) T2 Z2 k3.out hi2 hz2 hc2 ?_
      rw [hd5]
      refine hK _ _ ⟨ha, Go.Proofs.Ytfglhemmccihfaa.Below.setRow hb k1 _, fun h => i0 (by simpa using h), fun _ => i1 e1, ?_, fun _ => ⟨g, k1, k2, by simpa using k3.setRow c2⟩, fun g h h' k => i4 g (by simpa using h) e3 k, fun h => by have := i5 (by simpa using h); simp [this], fun _ => by simp [e3]⟩
      intro h
      obtain ⟨g', m1, m2, m3⟩ := i2 (by simpa using h)
      refine ⟨g', m1, m2, ?_⟩
      have : g' ≠ g := by rintro rfl; exact i4 g' (by simpa using h) e3 m2 k2
      simpa using m3.setOther this c2
    | n + 6, ho => simp at ho
  · intro L a w hall hI
    obtain ⟨ha, hb, i0, i1, i2, i3, i4, _, _⟩ := hI
    have hs : ∀ i, i < 6 → L i = true := fun i hi => hall i (by simpa using hi)
    obtain ⟨g1', k1, k2, k3⟩ := i2 (hs 2 (by omega))
    obtain ⟨g2', m1, m2, m3⟩ := i3 (hs 3 (by omega))
    rw [if_pos (hs 4 (by omega))] at k3
    rw [if_pos (hs 5 (by omega))] at m3
    have hne : g1' ≠ g2' := by rintro rfl; exact i4 g1' (hs 2 (by omega)) (hs 3 (by omega)) k2 m2
    have hact := ha.eq (by
      intro d hd
      simp only [List.mem_cons, List.not_mem_nil, or_false] at hd
      rcases hd with rfl | rfl | rfl | rfl <;> assumption)
    rw [hact]
    simp only [List.foldl_cons, List.foldl_nil]
    rw [i0 (hs 0 (by omega)), i1 (hs 1 (by omega)), k2, m2]
    exact fin w g1' g2' k1 m1 hne k3 m3 hb
end
end Go.Proofs.Ytfglhemmccihfaa
namespace Go.Proofs.Ytfglhemmccihfaa
open Go.RowKit

/-- One operation's step. -/
def StepOk (P : Program) (ops : Array Oper) (Q : Exit → Act → World → Prop) (a0 : Act) (S : List Nat) (T : Nat → Value → Prop) (R : (Nat → Bool) → (Nat → Value) → World → Prop) (i : Nat) (o : Oper) : Prop :=
  ∀ (L : Nat → Bool) (a : Act) (w : World) (K : Act → World → Prop), L i = false → a.tmps.size = a0.tmps.size → (∀ j, j ∉ S → slot a j = slot a0 j) →
    (∀ j, L j = true → ∀ dj, (ops[j]?).bind (·.dst) = some dj → T j (slot a dj)) → R L (slot a) w →
    (∀ k, (o.after.toList.any fun e => e.on == k && Region.binds .any e) = true → L k = true) →
    (∀ v w', T i v → R (fun k => L k || k == i) (slot (a.put o.dst v)) w' → K (a.put o.dst v) w') →
    if Region.wanted o (yielded ops a.tmps) = true then o.wp P a w K Q else K (a.put o.dst undef) w
def StepsOk (P : Program) (ops : Array Oper) (Q : Exit → Act → World → Prop) (a0 : Act) (S : List Nat) (T : Nat → Value → Prop) (R : (Nat → Bool) → (Nat → Value) → World → Prop) : Nat → List Oper → Prop
  | _, [] => True
  | i, o :: rest => StepOk P ops Q a0 S T R i o ∧ StepsOk P ops Q a0 S T R (i + 1) rest
theorem StepsOk.nil {P : Program} {ops : Array Oper} {Q : Exit → Act → World → Prop} {a0 : Act} {S : List Nat} {T : Nat → Value → Prop} {R : (Nat → Bool) → (Nat → Value) → World → Prop} {i : Nat} : StepsOk P ops Q a0 S T R i [] := trivial
theorem StepsOk.cons {P : Program} {ops : Array Oper} {Q : Exit → Act → World → Prop} {a0 : Act} {S : List Nat} {T : Nat → Value → Prop} {R : (Nat → Bool) → (Nat → Value) → World → Prop} {i : Nat} {o : Oper} {l : List Oper}
    (h : StepOk P ops Q a0 S T R i o) (k : StepsOk P ops Q a0 S T R (i + 1) l) : StepsOk P ops Q a0 S T R i (o :: l) := ⟨h, k⟩
theorem StepsOk.get {P : Program} {ops : Array Oper} {Q : Exit → Act → World → Prop} {a0 : Act} {S : List Nat} {T : Nat → Value → Prop} {R : (Nat → Bool) → (Nat → Value) → World → Prop} :
    ∀ (l : List Oper) (k : Nat), StepsOk P ops Q a0 S T R k l → ∀ (i : Nat) (o : Oper), l[i]? = some o → StepOk P ops Q a0 S T R (k + i) o
  | [], _, _, i, o, ho => by simp at ho
  | x :: l, k, h, 0, o, ho => by
    have e : x = o := by simpa using ho
    subst e
    exact h.1
  | x :: l, k, h, i + 1, o, ho => by
    have := StepsOk.get l (k + 1) h.2 i o (by simpa using ho)
    rwa [show k + 1 + i = k + (i + 1) by omega] at this
theorem slot_out {a : Act} {d : Nat} {v : Value} (h : d < a.tmps.size) : slot (a.put (some d) v) d = v := slot_put a d v h
/-- Do the operations write slots of their own? -/
def ownSlots (ops : Array Oper) : Bool := decide (ops.toList.filterMap (·.dst)).Nodup
theorem own_ne {l : List Oper} (h : (l.filterMap (·.dst)).Nodup) : ∀ (i j : Nat) (d : Nat), i ≠ j → (l[i]?).bind (·.dst) = some d → (l[j]?).bind (·.dst) = some d → False := by
  induction l with
  | nil => intro i j d _ hi _; simp at hi
  | cons x l ih =>
    have hn : (l.filterMap (·.dst)).Nodup := by
      cases hx : x.dst with
      | none => rw [List.filterMap_cons_none hx] at h; exact h
      | some y => rw [List.filterMap_cons_some hx] at h; exact (List.nodup_cons.1 h).2
    have hmem : ∀ (j d : Nat), (l[j]?).bind (·.dst) = some d → d ∈ l.filterMap (·.dst) := by
      intro j d hj
      cases hl : l[j]? with
      | none => rw [hl] at hj; cases hj
      | some o =>
        rw [hl] at hj
        exact List.mem_filterMap.2 ⟨o, List.mem_of_getElem? hl, hj⟩
    intro i j d hne hi hj
    match i, j, hne, hi, hj with
    | 0, 0, hne, _, _ => exact hne rfl
    | 0, j + 1, _, hi, hj =>
      have hx : x.dst = some d := by simpa using hi
      rw [List.filterMap_cons_some hx] at h
      exact (List.nodup_cons.1 h).1 (hmem j d (by simpa using hj))
    | i + 1, 0, _, hi, hj =>
      have hx : x.dst = some d := by simpa using hj
      rw [List.filterMap_cons_some hx] at h
      exact (List.nodup_cons.1 h).1 (hmem i d (by simpa using hi))
    | i + 1, j + 1, hne, hi, hj => exact ih hn i j d (by omega) (by simpa using hi) (by simpa using hj)

theorem region_table {P : Program} {Q : Exit → Act → World → Prop} {id : Nat} {ops : Array Oper} {a0 : Act} {w0 : World} (hm : P.follows .mixedOrders = true) (S : List Nat)
    (T : Nat → Value → Prop) (R : (Nat → Bool) → (Nat → Value) → World → Prop)
    (hf : (ops.toList.zipIdx.all fun x => x.1.after.toList.all fun e => !Region.binds .any e || decide (e.on < x.2)) = true)
    (hown : ownSlots ops = true) (hS : ops.toList.filterMap (·.dst) = S) (hlt : (S.all fun d => decide (d < a0.tmps.size)) = true)
    (start : R (fun _ => false) (slot a0) w0.drew)
    (steps : StepsOk P ops Q a0 S T R 0 ops.toList)
    (fin : ∀ (f : Nat → Value) (L : Nat → Bool) (w : World), (∀ j, j < ops.size → ∀ dj, (ops[j]?).bind (·.dst) = some dj → T j (f dj)) → (∀ i, i < ops.size → L i = true) → R L f w →
      Q .normal (S.foldl (fun b d => b.put (some d) (f d)) a0) w) :
    (Code.region id ops true).wp P Q a0 w0 := by
  have hnd : (ops.toList.filterMap (·.dst)).Nodup := of_decide_eq_true hown
  rw [List.all_eq_true] at hlt
  have hlt2 : ∀ d ∈ S, d < a0.tmps.size := fun d hd => by simpa using hlt d hd
  have hin : ∀ (j d : Nat), (ops[j]?).bind (·.dst) = some d → d ∈ S := by
    intro j d hj
    rw [← hS]
    cases hl : ops[j]? with
    | none => rw [hl] at hj; cases hj
    | some o =>
      rw [hl] at hj
      exact List.mem_filterMap.2 ⟨o, by rw [Array.mem_toList_iff]; exact Array.mem_of_getElem? hl, hj⟩
  refine wp_region_inv hm (fun L a w => Apart S a0 a ∧ (∀ j, L j = true → ∀ dj, (ops[j]?).bind (·.dst) = some dj → T j (slot a dj)) ∧ R L (slot a) w) hf ⟨Apart.refl _ _, fun j (h : false = true) => absurd h (by decide), start⟩ ?_ ?_
  · intro L i o a w K ho hL he hI hK
    obtain ⟨ha, ht, hr⟩ := hI
    have hstep := StepsOk.get ops.toList 0 steps i o (by rw [Array.getElem?_toList]; exact ho)
    rw [Nat.zero_add] at hstep
    refine hstep L a w K hL ha.size (fun j hj => ha.slot hj) ht hr ?_ ?_
    · intro k hk
      rw [List.any_eq_true] at hk
      obtain ⟨e, h1, h2⟩ := hk
      rw [Bool.and_eq_true, beq_iff_eq] at h2
      rw [← h2.1]; exact he e h1 h2.2
    · intro v w' hv hr'
      refine hK _ _ ⟨?_, ?_, hr'⟩
      · cases hd : o.dst with
        | none => exact ha
        | some d =>
          refine ha.put (hin i d ?_) v
          rw [ho]; exact hd
      · intro j hj dj hdj
        cases hd : o.dst with
        | none =>
          have hne : j ≠ i := by
            rintro rfl
            rw [ho] at hdj
            have : o.dst = some dj := hdj
            rw [hd] at this; cases this
          have hj2 : L j = true := by simpa [hne] using hj
          exact ht j hj2 dj hdj
        | some d =>
          have hid : (ops[i]?).bind (·.dst) = some d := by rw [ho]; exact hd
          by_cases hji : j = i
          · subst hji
            have : d = dj := by rw [hid] at hdj; injection hdj
            subst this
            rw [slot_put _ _ _ (by rw [ha.size]; exact hlt2 d (hin j d hid))]
            exact hv
          · have hj2 : L j = true := by simpa [hji] using hj
            have hdd : d ≠ dj := by
              rintro rfl
              exact own_ne hnd i j d (Ne.symm hji) (by rw [Array.getElem?_toList]; exact hid) (by rw [Array.getElem?_toList]; exact hdj)
            rw [slot_ne _ _ _ _ hdd]
            exact ht j hj2 dj hdj
  · intro L a w hall hI
    obtain ⟨ha, ht, hr⟩ := hI
    rw [ha.eq hlt2]
    exact fin (slot a) L w (fun j hj dj hdj => ht j (hall j hj) dj hdj) hall hr
theorem wp_buildTo {P : Program} {o : Oper} {a : Act} {w : World} {K : Act → World → Prop} {Q : Exit → Act → World → Prop} (t : TypeId) (parts : Array (Nat × Operand)) (ho : o.op = .build t parts) (cells : Array Value)
    (hf : P.built t (parts.map fun (i, x) => (i, a.eval x)).toList = some cells) (h : K (a.put o.dst (.agg cells)) w) : o.wp P a w K Q := by
  refine wp_build t parts ho (by rw [hf]; rfl) ?_
  rw [hf]
  exact h
/-- A step is wanted that has no guard. -/
theorem step_plain {P : Program} {ops : Array Oper} {o : Oper} {a : Act} {w : World} {K : Act → World → Prop} {Q : Exit → Act → World → Prop} (hg : o.guard = none) (h : o.wp P a w K Q) :
    if Region.wanted o (yielded ops a.tmps) = true then o.wp P a w K Q else K (a.put o.dst undef) w := by
  rw [if_pos (by simp [Region.wanted, hg])]; exact h
/-- A guarded step that is wanted, or not. -/
theorem step_guard {P : Program} {ops : Array Oper} {o : Oper} {a : Act} {w : World} {K : Act → World → Prop} {Q : Exit → Act → World → Prop} (j : Nat) (b c : Bool) (d : Nat) (hg : o.guard = some (j, b)) (hd : (ops[j]?).bind (·.dst) = some d)
    (hsz : d < a.tmps.size) (hv : slot a d = .bool c) (h : if c = b then o.wp P a w K Q else K (a.put o.dst undef) w) :
    if Region.wanted o (yielded ops a.tmps) = true then o.wp P a w K Q else K (a.put o.dst undef) w := by
  have hy : yielded ops a.tmps j = some c := by
    unfold yielded
    rw [hd]
    have : a.tmps[d]? = some (.bool c) := by
      unfold slot at hv
      rw [Array.getD_eq_getD_getElem?, Array.getElem?_eq_getElem hsz] at hv
      rw [Array.getElem?_eq_getElem hsz]
      exact congrArg some hv
    rw [Option.bind_some, this]
  have hw : Region.wanted o (yielded ops a.tmps) = decide (c = b) := by
    simp only [Region.wanted, hg, hy]
    cases c <;> cases b <;> rfl
  rw [hw]
  by_cases e : c = b
  · rw [if_pos e] at h; rw [if_pos (decide_eq_true e)]; exact h
  · rw [if_neg e] at h; rw [if_neg (by simp [e])]; exact h
end Go.Proofs.Ytfglhemmccihfaa
namespace Go.Proofs.Ytfglhemmccihfaa
open Go.RowKit

theorem quiet_left {P : Program} {f : FuncId} {args : Array Value} {w : World} {n : Nat} {v : Value}
    (h : Calls P f args (w.drewN n) fun e w' => e = .returned v ∧ w.drewN n = w') : Calls P f args (w.drewN n) fun e w'' => e = .returned v ∧ ∃ m, w'' = w.drewN m :=
  h.mono fun _ _ ⟨he, hm⟩ => ⟨he, n, hm.symm⟩
theorem cellsOne (w0 : World) (e : TypeId) (u : Value) : ∀ j x, [u][j]? = some x → (w0.alloc (.cells #[u] e)).cell? ((⟨w0.heap.size, 0, none⟩ : Addr).add j) = some x := by
  intro j x hj
  match j, hj with
  | 0, hj =>
    simp at hj
    subst hj
    exact (RowAt.new w0 #[u] e (0, 0)).cell (i := 0) (v := u) rfl

section
variable {P : Program} {ops : Array Oper} {rest : List Oper} {o : Oper} {a : Act} {Q : Exit → Act → World → Prop}
/-- 's = append(s, u)', s the call's own (from block 'base' on), u one cell, just laid. -/
theorem append_one (hgd : o.guard = none) (s x : Operand) (t : TypeId)
    (ho : o.op = .call { callee := .builtin .append, args := #[s, x], argTypes := #[t, t] })
    (w0 : World) (base : Nat) (e : TypeId) (z : Value) (bytes : Nat) (ht : P.underlying t = some (.slice e))
    (hi : (P.info? e).map (fun i => (i.zero, i.size, i.bytes)) = some (some z, 1, bytes)) (hzs : z.cells.size = 1)
    {v : Value} {n : Nat} {xs : List Value} (hown : w0.ownsRow base e 1 v n xs) (hs : a.eval s = v)
    (u : Value) (hx : a.eval x = .slice (some ⟨w0.heap.size, 0, none⟩) 1 1) (hu : u.oneCell' = true)
    (hbytes : (n + 1) * bytes ≤ 140737488355328) (hn : n + 1 ≤ 140737488355328) (hbase : base ≤ w0.heap.size)
    (h : ∀ v' w', w'.ownsRow base e 1 v' (n + 1) (xs ++ [u]) → Below base w0 w' → w0.heap.size ≤ w'.heap.size →
      (∀ k, k < w0.heap.size → some k ≠ v.ownBlock → w'.heap[k]? = w0.heap[k]?) → wpList P ops Q rest (a.put o.dst v') w') :
    wpList P ops Q (o :: rest) a (w0.alloc (.cells #[u] e)) := by
  obtain ⟨i0, hi0, hz0, hz1, hz2⟩ := info_parts hi
  refine wpList_append_own _ hgd s x t ho base e i0 z 1 bytes ht hi0 hz0 hz1 hz2 hzs (by decide) v n xs hs (hown.alloc _)
    ⟨w0.heap.size, 0, none⟩ 1 1 [u] hx rfl (cellsOne w0 e u) (by intro y hy; simp at hy; subst hy; exact hu) (by unfold maxLen; omega) hbytes (by simp; omega) ?_
  intro v' w' hown' hgrow _
  have hb : Below base w0 w' := (((Below.refl base w0).alloc hbase _).grown hgrow (by simp; omega) (fun k hk => ((hown.alloc (.cells #[u] e)).lt k hk).1))
  have hkeep : ∀ k, k < w0.heap.size → some k ≠ v.ownBlock → w'.heap[k]? = w0.heap[k]? := by
    intro k hk hne
    rw [hgrow.block k (by simp; omega) hne]
    exact Below.heap_alloc _ _ _ hk
  exact h v' w' hown' hb hb.size hkeep
end

/-- The same, as a step of a region that draws its order. -/
theorem step_append_one {P : Program} {ops : Array Oper} {o : Oper} {a : Act} {K : Act → World → Prop} {Q : Exit → Act → World → Prop} {E : Prop}
    (hg : o.guard = none) (s x : Operand) (t : TypeId)
    (ho : o.op = .call { callee := .builtin .append, args := #[s, x], argTypes := #[t, t] })
    (w0 : World) (base : Nat) (e : TypeId) (z : Value) (bytes : Nat) (ht : P.underlying t = some (.slice e))
    (hi : (P.info? e).map (fun i => (i.zero, i.size, i.bytes)) = some (some z, 1, bytes)) (hzs : z.cells.size = 1)
    {v : Value} {n : Nat} {xs : List Value} (hown : w0.ownsRow base e 1 v n xs) (hs : a.eval s = v)
    (u : Value) (hx : a.eval x = .slice (some ⟨w0.heap.size, 0, none⟩) 1 1) (hu : u.oneCell' = true)
    (hbytes : (n + 1) * bytes ≤ 140737488355328) (hn : n + 1 ≤ 140737488355328) (hbase : base ≤ w0.heap.size)
    (h : ∀ v' w', w'.ownsRow base e 1 v' (n + 1) (xs ++ [u]) → Below base w0 w' → w0.heap.size ≤ w'.heap.size →
      (∀ k, k < w0.heap.size → some k ≠ v.ownBlock → w'.heap[k]? = w0.heap[k]?) → K (a.put o.dst v') w') :
    if Region.wanted o (yielded ops a.tmps) = true then Oper.wp P o a (w0.alloc (.cells #[u] e)) K Q else E := by
  have hw : Region.wanted o (yielded ops a.tmps) = true := by simp [Region.wanted, hg]
  rw [if_pos hw]
  obtain ⟨i0, hi0, hz0, hz1, hz2⟩ := info_parts hi
  refine wp_append_own _ s x t ho base e i0 z 1 bytes ht hi0 hz0 hz1 hz2 hzs (by decide) v n xs hs (hown.alloc _)
    ⟨w0.heap.size, 0, none⟩ 1 1 [u] hx rfl (cellsOne w0 e u) (by intro y hy; simp at hy; subst hy; exact hu) (by unfold maxLen; omega) hbytes (by simp; omega) ?_
  intro v' w' hown' hgrow _
  have hb : Below base w0 w' := (((Below.refl base w0).alloc hbase _).grown hgrow (by simp; omega) (fun k hk => ((hown.alloc (.cells #[u] e)).lt k hk).1))
  have hkeep : ∀ k, k < w0.heap.size → some k ≠ v.ownBlock → w'.heap[k]? = w0.heap[k]? := by
    intro k hk hne
    rw [hgrow.block k (by simp; omega) hne]
    exact Below.heap_alloc _ _ _ hk
  exact h v' w' hown' hb hb.size hkeep

/-- An empty slice that is not nil. -/
theorem owns_zero (w : World) (e : TypeId) {base : Nat} (hb : base ≤ w.heap.size) : (w.alloc (.cells #[] e)).ownsRow base e 1 (.slice (some ⟨w.heap.size, 0, none⟩) 0 0) 0 [] :=
  ⟨rfl, .inr ⟨w.heap.size, 0, #[], rfl, hb, RowAt.new w #[] e (0, 0), Nat.le_refl _, by unfold maxLen; omega, rfl, rfl⟩⟩

/-- 'string(b)', b bytes that the call gathered. -/
theorem run_str_own {P : Program} (w : World) (src e : TypeId) (hs : P.underlying src = some (.slice e)) (he : P.underlying e = some (.int .u8)) (dst : TypeId) (hd : P.underlying dst = some .string)
    (base n : Nat) (v : Value) (l : List UInt8) (hown : w.ownsRow base e 1 v n (cells l)) :
    (convert src dst v).run P w = .ok (.string ⟨l.toArray⟩) w := by
  have hl : l.length = n := by have := hown.1; rw [cells_length] at this; omega
  rcases hown.2 with ⟨rfl, rfl⟩ | ⟨g, cap, cur, rfl, _, hg, _, _, _, ht⟩
  · rw [run_convert_bytes_nil w src e hs he 0 0 dst hd]
    have : l = [] := List.eq_nil_of_length_eq_zero hl
    subst this
    rfl
  · exact run_str w src e hs he dst hd g n cap cur e (0, 0) l hg hl (by rw [Nat.mul_one] at ht; exact ht)
end Go.Proofs.Ytfglhemmccihfaa
namespace Go.Proofs.Ytfglhemmccihfaa
open Go.RowKit

/-- w' is w but for block b, and new blocks. -/
structure Only (b : Nat) (w w' : World) : Prop where
  os : w'.os = w.os
  tape : w'.tape = w.tape
  output : w'.output = w.output
  size : w.heap.size ≤ w'.heap.size
  block : ∀ k, k < w.heap.size → k ≠ b → w'.heap[k]? = w.heap[k]?
theorem Only.refl (b : Nat) (w : World) : Only b w w := ⟨rfl, rfl, rfl, Nat.le_refl _, fun _ _ _ => rfl⟩
theorem Only.trans {b : Nat} {w w1 w2 : World} (h : Only b w w1) (k : Only b w1 w2) : Only b w w2 :=
  ⟨k.os.trans h.os, k.tape.trans h.tape, k.output.trans h.output, Nat.le_trans h.size k.size, fun i hi hb => (k.block i (Nat.lt_of_lt_of_le hi h.size) hb).trans (h.block i hi hb)⟩
theorem Only.of_below {b : Nat} {w w' : World} (h : Below w.heap.size w w') : Only b w w' := ⟨h.os, h.tape, h.output, h.size, fun k hk _ => h.block k hk⟩
theorem Only.drew {b : Nat} {w w' : World} (h : Only b w w') : Only b w w'.drew := ⟨h.os, h.tape, h.output, h.size, h.block⟩
theorem Only.setCell {b : Nat} {w w' : World} (h : Only b w w') {p : Addr} (hp : p.block = b) (v : Value) : Only b w (w'.setCell p v) :=
  h.trans ⟨rfl, rfl, rfl, by simp [World.setCell], fun k _ hb => Below.heap_setCell _ _ _ _ (by rw [hp]; exact hb)⟩
theorem Only.below {b : Nat} {w w' : World} (h : Only b w w') {B : Nat} (hb : B ≤ b) (hB : B ≤ w.heap.size) : Below B w w' :=
  ⟨h.os, h.tape, h.output, h.size, fun k hk => h.block k (by omega) (by omega)⟩

theorem only_drewN {b n : Nat} {w w' : World} (h : Only b (w.drewN n) w') : Only b w w' := ⟨h.os, h.tape, h.output, h.size, h.block⟩
theorem Only.ownsRow {b B : Nat} {w w' : World} {e : TypeId} {v : Value} {n : Nat} {xs : List Value} (h : w.ownsRow B e 1 v n xs) (ho : Only b w w') (hb : b < B) : w'.ownsRow B e 1 v n xs := by
  refine ⟨h.1, ?_⟩
  rcases h.2 with hn | ⟨g, cap, cur, hv, hBg, hg, rest⟩
  · exact .inl hn
  · exact .inr ⟨g, cap, cur, hv, hBg, (ho.block g (Array.getElem?_eq_some_iff.1 hg).1 (by omega)).trans hg, rest⟩
theorem Only.of_low {b B : Nat} {w w' w2 : World} (h : Only b w w') (hb : Below B w' w2) (hB : w.heap.size ≤ B) : Only b w w2 :=
  ⟨hb.os.trans h.os, hb.tape.trans h.tape, hb.output.trans h.output, Nat.le_trans h.size hb.size, fun k hk hne => (hb.block k (by omega)).trans (h.block k hk hne)⟩

/-! ### A range in the midst of a row -/
theorem RowAt.mid {w : World} {b : Nat} {xs cs ys : List Value} {T : TypeId} {fz : Nat × Nat} (h : RowAt w b (xs ++ cs ++ ys).toArray T fz) : w.rangeAt b xs.length cs := by
  intro j v hj
  have hlt : j < cs.length := (List.getElem?_eq_some_iff.1 hj).1
  refine RowAt.cell h (i := xs.length + j) ?_
  rw [List.getElem?_toArray, List.append_assoc, List.getElem?_append_right (by omega), Nat.add_sub_cancel_left, List.getElem?_append_left hlt, hj]
theorem RowAt.there {w : World} {b : Nat} {cs : List Value} {T : TypeId} (h : RowAt w b cs.toArray T (0, 0)) (o n : Nat) (hn : o + n ≤ cs.length) : w.there b o n := by
  intro j hj
  refine ⟨?_, RowAt.free h (by simp)⟩
  have hc : cs.toArray[o + j]? = some (cs[o + j]'(by omega)) := by rw [List.getElem?_toArray]; exact List.getElem?_eq_getElem (by omega)
  rw [RowAt.cell h hc]; rfl
theorem RowAt.setMid {b : Nat} {T : TypeId} {fz : Nat × Nat} (vs : List Value) : ∀ (w : World) (xs old ys : List Value), old.length = vs.length → RowAt w b (xs ++ old ++ ys).toArray T fz →
    RowAt (w.setCells b xs.length vs) b (xs ++ vs ++ ys).toArray T fz := by
  induction vs with
  | nil =>
    intro w xs old ys hl h
    have : old = [] := List.eq_nil_of_length_eq_zero hl
    subst this
    exact h
  | cons v r ih =>
    intro w xs old ys hl h
    cases old with
    | nil => cases hl
    | cons o s =>
      have h1 := RowAt.store h xs.length v
      rw [List.setIfInBounds_toArray, List.append_assoc, List.set_append_right _ _ (Nat.le_refl _), Nat.sub_self, List.cons_append, List.set_cons_zero] at h1
      have h2 := ih (w.setCell ⟨b, xs.length, none⟩ v) (xs ++ [v]) s ys (by simpa using hl) (by simpa using h1)
      rw [List.length_append] at h2
      simpa [World.setCells] using h2
theorem Only.setCells {b : Nat} {w : World} (vs : List Value) : ∀ (w' : World) (o : Nat), Only b w w' → Only b w (w'.setCells b o vs) := by
  induction vs with
  | nil => intro w' o h; exact h
  | cons v r ih => intro w' o h; exact ih _ _ (Only.setCell (p := ⟨b, o, none⟩) h rfl v)

end Go.Proofs.Ytfglhemmccihfaa
namespace Go.Proofs.Ytfglhemmccihfaa
open Go.RowKit

/-- Has operation j an edge to k that binds? -/
def edgeB (ops : Array Oper) (j k : Nat) : Bool := match ops[j]? with
  | some o => o.after.toList.any fun e => e.on == k && Region.binds .any e
  | none => false
def StepOk2 (P : Program) (ops : Array Oper) (Q : Exit → Act → World → Prop) (a0 : Act) (S : List Nat) (T : Nat → Value → Prop) (R : (Nat → Bool) → (Nat → Value) → World → Prop) (i : Nat) (o : Oper) : Prop :=
  ∀ (L : Nat → Bool) (a : Act) (w : World) (K : Act → World → Prop), L i = false → a.tmps.size = a0.tmps.size → (∀ j, j ∉ S → slot a j = slot a0 j) →
    (∀ j, L j = true → ∀ dj, (ops[j]?).bind (·.dst) = some dj → T j (slot a dj)) → R L (slot a) w →
    (∀ k, (o.after.toList.any fun e => e.on == k && Region.binds .any e) = true → L k = true) →
    (∀ j k, edgeB ops j k = true → L j = true → L k = true) →
    (∀ v w', T i v → R (fun k => L k || k == i) (slot (a.put o.dst v)) w' → K (a.put o.dst v) w') →
    if Region.wanted o (yielded ops a.tmps) = true then o.wp P a w K Q else K (a.put o.dst undef) w
def StepsOk2 (P : Program) (ops : Array Oper) (Q : Exit → Act → World → Prop) (a0 : Act) (S : List Nat) (T : Nat → Value → Prop) (R : (Nat → Bool) → (Nat → Value) → World → Prop) : Nat → List Oper → Prop
  | _, [] => True
  | i, o :: rest => StepOk2 P ops Q a0 S T R i o ∧ StepsOk2 P ops Q a0 S T R (i + 1) rest
section
variable {P : Program} {ops : Array Oper} {Q : Exit → Act → World → Prop} {a0 : Act} {S : List Nat} {T : Nat → Value → Prop} {R : (Nat → Bool) → (Nat → Value) → World → Prop}
theorem StepsOk2.nil {i : Nat} : StepsOk2 P ops Q a0 S T R i [] := trivial
theorem StepsOk2.cons {i : Nat} {o : Oper} {l : List Oper} (h : StepOk2 P ops Q a0 S T R i o) (k : StepsOk2 P ops Q a0 S T R (i + 1) l) : StepsOk2 P ops Q a0 S T R i (o :: l) := ⟨h, k⟩
theorem StepsOk2.get : ∀ (l : List Oper) (k : Nat), StepsOk2 P ops Q a0 S T R k l → ∀ (i : Nat) (o : Oper), l[i]? = some o → StepOk2 P ops Q a0 S T R (k + i) o
  | [], _, _, i, o, ho => by simp at ho
  | x :: l, k, h, 0, o, ho => by
    have e : x = o := by simpa using ho
    subst e
    exact h.1
  | x :: l, k, h, i + 1, o, ho => by
    have := StepsOk2.get l (k + 1) h.2 i o (by simpa using ho)
    rwa [show k + 1 + i = k + (i + 1) by omega] at this
theorem StepsOk.of_get : ∀ (l : List Oper) (k : Nat), (∀ (i : Nat) (o : Oper), l[i]? = some o → StepOk P ops Q a0 S T R (k + i) o) → StepsOk P ops Q a0 S T R k l
  | [], _, _ => trivial
  | x :: l, k, h => ⟨h 0 x rfl, StepsOk.of_get l (k + 1) fun i o ho => by
    have := h (i + 1) o (by simpa using ho)
    rwa [show k + (i + 1) = k + 1 + i by omega] at this⟩

theorem region_anc {id : Nat} {w0 : World} (hm : P.follows .mixedOrders = true) (S : List Nat)
    (T : Nat → Value → Prop) (R : (Nat → Bool) → (Nat → Value) → World → Prop)
    (hf : (ops.toList.zipIdx.all fun x => x.1.after.toList.all fun e => !Region.binds .any e || decide (e.on < x.2)) = true)
    (hown : ownSlots ops = true) (hS : ops.toList.filterMap (·.dst) = S) (hlt : (S.all fun d => decide (d < a0.tmps.size)) = true)
    (start : R (fun _ => false) (slot a0) w0.drew)
    (steps : StepsOk2 P ops Q a0 S T R 0 ops.toList)
    (fin : ∀ (f : Nat → Value) (L : Nat → Bool) (w : World), (∀ j, j < ops.size → ∀ dj, (ops[j]?).bind (·.dst) = some dj → T j (f dj)) → (∀ i, i < ops.size → L i = true) → R L f w →
      Q .normal (S.foldl (fun b d => b.put (some d) (f d)) a0) w) :
    (Code.region id ops true).wp P Q a0 w0 := by
  refine region_table hm S T (fun L f w => (∀ j k, edgeB ops j k = true → L j = true → L k = true) ∧ R L f w) hf hown hS hlt ⟨(fun j k _ h => by cases h), start⟩ ?_ (fun f L w h1 h2 h3 => fin f L w h1 h2 h3.2)
  refine StepsOk.of_get _ 0 fun i o ho => ?_
  have hst := StepsOk2.get ops.toList 0 steps i o ho
  rw [Nat.zero_add] at hst ⊢
  intro L a w K hL hsz hs ht hr he hK
  refine hst L a w K hL hsz hs ht hr.2 he hr.1 fun v w' hv hr' => hK v w' hv ⟨?_, hr'⟩
  intro j k hjk hj
  by_cases hji : j = i
  · subst hji
    have hoj : ops[j]? = some o := by rw [← Array.getElem?_toList]; exact ho
    unfold edgeB at hjk
    rw [hoj] at hjk
    have := he k hjk
    show (L k || k == j) = true
    rw [this]; rfl
  · have h2 : L j = true := by simpa [hji] using hj
    have := hr.1 j k hjk h2
    show (L k || k == i) = true
    rw [this]; rfl
end
section
variable {P : Program} {ops : Array Oper} {Q : Exit → Act → World → Prop} {a : Act} {w : World} {rest : List Oper} {o : Oper}
/-- An operation that is wanted (its guard says so). -/
theorem wpList_wanted (hw : Region.wanted o (yielded ops a.tmps) = true) (h : ∀ K : Act → World → Prop, (∀ a w, wpList P ops Q rest a w → K a w) → o.wp P a w K Q) : wpList P ops Q (o :: rest) a w :=
  wpList_step fun K hK => by rw [if_pos hw]; exact h K hK
theorem wpList_load_rowG (hw : Region.wanted o (yielded ops a.tmps) = true) (ty : TypeId) (x : Operand) (ho : o.op = .load ty x)
    (g : Nat) (hx : a.eval x = .pointer (some ⟨g, 0, none⟩)) (t : TypeId) (cs : Array Value) (fr : Nat × Nat) (d : TypeDesc) (hg : w.heap[g]? = some (.cells cs t fr))
    (hu : P.underlying ty = some d) (hd : (match d with | .struct _ | .array _ _ => true | _ => false) = true) (hi : (P.info? ty).map (·.size) = some cs.size)
    (h : wpList P ops Q rest (a.put o.dst (.agg cs)) w) : wpList P ops Q (o :: rest) a w :=
  wpList_wanted hw fun _ hK => wp_load_row ty x ho g hx t cs fr d hg hu hd hi (hK _ _ h)
end
end Go.Proofs.Ytfglhemmccihfaa
namespace Go.Proofs.Ytfglhemmccihfaa
open Go.RowKit Go.Maps

/-! ### A world but for some blocks -/
/-- w' is w but for these blocks, and new ones. -/
structure Beside (S : List Nat) (w w' : World) : Prop where
  os : w'.os = w.os
  tape : w'.tape = w.tape
  output : w'.output = w.output
  size : w.heap.size ≤ w'.heap.size
  block : ∀ k, k < w.heap.size → k ∉ S → w'.heap[k]? = w.heap[k]?
theorem Beside.refl (S : List Nat) (w : World) : Beside S w w := ⟨rfl, rfl, rfl, Nat.le_refl _, fun _ _ _ => rfl⟩
theorem Beside.trans {S : List Nat} {w w1 w2 : World} (h : Beside S w w1) (k : Beside S w1 w2) : Beside S w w2 :=
  ⟨k.os.trans h.os, k.tape.trans h.tape, k.output.trans h.output, Nat.le_trans h.size k.size, fun i hi hb => (k.block i (Nat.lt_of_lt_of_le hi h.size) hb).trans (h.block i hi hb)⟩
theorem Beside.mono {S S' : List Nat} {w w' : World} (h : Beside S w w') (hs : ∀ k, k ∈ S → k ∈ S') : Beside S' w w' := ⟨h.os, h.tape, h.output, h.size, fun k hk hn => h.block k hk (fun hh => hn (hs k hh))⟩
theorem Beside.of_below {S : List Nat} {w w' : World} (h : Below w.heap.size w w') : Beside S w w' := ⟨h.os, h.tape, h.output, h.size, fun k hk _ => h.block k hk⟩
theorem Beside.setCell {S : List Nat} {w w' : World} (h : Beside S w w') {p : Addr} (hp : p.block ∈ S) (v : Value) : Beside S w (w'.setCell p v) :=
  h.trans ⟨rfl, rfl, rfl, by simp [World.setCell], fun k _ hb => Below.heap_setCell _ _ _ _ (by rintro rfl; exact hb hp)⟩
theorem Beside.turned {S : List Nat} {w w' w2 : World} (h : Beside S w w') {b : Nat} (hb : b ∈ S) (ht : w'.mapTurned w2 b) : Beside S w w2 := by
  obtain ⟨es, clock, es', clock', _, rfl⟩ := ht
  refine h.trans ⟨rfl, rfl, rfl, by simp [ChangeMaps.setBlock], fun k _ hk => ?_⟩
  have hne : b ≠ k := by rintro rfl; exact hk hb
  simp [ChangeMaps.setBlock, hne]
theorem Beside.below {S : List Nat} {w w' : World} (h : Beside S w w') {B : Nat} (hb : ∀ k ∈ S, B ≤ k) (hB : B ≤ w.heap.size) : Below B w w' :=
  ⟨h.os, h.tape, h.output, h.size, fun k hk => h.block k (by omega) (fun hh => by have := hb k hh; omega)⟩
theorem RowAt.beside {S : List Nat} {w w' : World} {g : Nat} {cs : Array Value} {T : TypeId} {fz : Nat × Nat} (h : RowAt w g cs T fz) (hb : Beside S w w') (hg : g ∉ S) : RowAt w' g cs T fz := (hb.block g h.lt hg).trans h

/-! ### What a map holds -/
/-- An element reads as itself. -/
def heldE (v : Value) : Option (DataW Value × List MemPlace) := some (.held v, [])
theorem heldE_inv {v u : Value} {ps : List MemPlace} (h : heldE v = some (.held u, ps)) : v = u := by
  injection h with h
  injection (Prod.mk.inj h).1
/-- The datum holds just the pairs of the list. -/
structure Holds (P : Program) (k : TypeId) (D : DataW Value) (tab : List (Value × Value)) : Prop where
  size : Maps.size D = tab.length
  apart : tab.Pairwise fun p q => p.1 ≠ q.1
  inn : ∀ p ∈ tab, ∃ kl, keyOf P k p.1 = some kl ∧ Maps.has D kl = true ∧ ∀ z, D.atKey kl z = .held p.2
  out : ∀ key kl, keyOf P k key = some kl → (∀ p ∈ tab, p.1 ≠ key) → Maps.has D kl = false
/-- Block b is a map that holds just the pairs of the list. -/
def TabAt (w : World) (P : Program) (k : TypeId) (b : Nat) (tab : List (Value × Value)) : Prop := ∃ D, w.ownsMap P k heldE b tab.length D ∧ Holds P k D tab
theorem TabAt.lt {w : World} {P : Program} {k : TypeId} {b : Nat} {tab : List (Value × Value)} (h : TabAt w P k b tab) : b < w.heap.size := by obtain ⟨_, h, _⟩ := h; exact h.lt
theorem TabAt.of_block {w w' : World} {P : Program} {k : TypeId} {b : Nat} {tab : List (Value × Value)} (h : TabAt w P k b tab) (e : w'.heap[b]? = w.heap[b]?) : TabAt w' P k b tab := by
  obtain ⟨D, ⟨es, clock, hb, r⟩, hH⟩ := h
  exact ⟨D, ⟨es, clock, e.trans hb, r⟩, hH⟩
theorem TabAt.beside {S : List Nat} {w w' : World} {P : Program} {k : TypeId} {b : Nat} {tab : List (Value × Value)} (h : TabAt w P k b tab) (hb : Beside S w w') (hg : b ∉ S) : TabAt w' P k b tab := h.of_block (hb.block b h.lt hg)
theorem TabAt.below {w w' : World} {P : Program} {k : TypeId} {b : Nat} {tab : List (Value × Value)} (h : TabAt w P k b tab) {B : Nat} (hb : Below B w w') (hg : b < B) : TabAt w' P k b tab := h.of_block (hb.block b hg)
theorem TabAt.made (w : World) (P : Program) (k : TypeId) : TabAt (w.alloc (.map #[] 0)) P k w.heap.size [] :=
  ⟨.map [], World.ownsMap_made w P k heldE, ⟨rfl, List.Pairwise.nil, (fun p hp => by cases hp), fun _ _ _ _ => rfl⟩⟩
theorem TabAt.ne_row {w : World} {P : Program} {k : TypeId} {b g : Nat} {tab : List (Value × Value)} {cs : Array Value} {T : TypeId} {fz : Nat × Nat} (h : TabAt w P k b tab) (hr : RowAt w g cs T fz) : g ≠ b := by
  obtain ⟨D, ⟨es, clock, hb, _⟩, _⟩ := h
  rintro rfl
  have := hr.out
  rw [hb] at this
  cases this
theorem Holds.look_in {P : Program} {k : TypeId} {D : DataW Value} {tab : List (Value × Value)} (h : Holds P k D tab) {key v : Value} (hin : (key, v) ∈ tab) {kl : Lit} (hk : keyOf P k key = some kl) : Maps.has D kl = true ∧ ∀ z, D.atKey kl z = .held v := by
  obtain ⟨kl', h1, h2⟩ := h.inn _ hin
  have : kl' = kl := by
    have h3 : keyOf P k key = some kl' := h1
    rw [hk] at h3
    exact (Option.some.inj h3).symm
  rw [← this]; exact h2
theorem Holds.put_new {P : Program} {k : TypeId} (K : Keyed P k) {D : DataW Value} {tab : List (Value × Value)} (h : Holds P k D tab) (hT : Tidy D) {key v : Value} {kl : Lit} (hk : keyOf P k key = some kl) (hout : ∀ p ∈ tab, p.1 ≠ key) :
    Holds P k (D.put kl (.held v)) (tab ++ [(key, v)]) where
  size := by rw [size_put hT, h.out key kl hk hout, List.length_append, h.size]; rfl
  apart := by
    rw [List.pairwise_append]
    refine ⟨h.apart, List.pairwise_singleton _ _, fun p hp q hq => ?_⟩
    obtain rfl := List.mem_singleton.1 hq
    exact hout p hp
  inn := by
    intro p hp
    rcases List.mem_append.1 hp with hp | hp
    · obtain ⟨kl', h1, h2, h3⟩ := h.inn p hp
      have hne : kl' ≠ kl := by
        rintro rfl
        exact hout p hp (K.inj h1 hk)
      exact ⟨kl', h1, by rw [has_put_other hne]; exact h2, fun z => by rw [atKey_put_other hne]; exact h3 z⟩
    · obtain rfl := List.mem_singleton.1 hp
      exact ⟨kl, hk, has_put_same hT.isMap (K.key hk) _, fun z => atKey_put_same hT.isMap (K.key hk) _ z⟩
  out := by
    intro key' kl' hk' ho
    have hne : kl' ≠ kl := by
      rintro rfl
      exact ho (key, v) (by simp) (K.inj hk hk')
    rw [has_put_other hne]
    exact h.out key' kl' hk' (fun p hp => ho p (List.mem_append_left _ hp))
theorem Holds.put_same {P : Program} {k : TypeId} (K : Keyed P k) {D : DataW Value} {tab : List (Value × Value)} (h : Holds P k D tab) (hT : Tidy D) {key v : Value} {kl : Lit} (hk : keyOf P k key = some kl) (hin : (key, v) ∈ tab) : Holds P k (D.put kl (.held v)) tab where
  size := by rw [size_put hT, (h.look_in hin hk).1, h.size]; rfl
  apart := h.apart
  inn := by
    intro p hp
    obtain ⟨kl', h1, h2, h3⟩ := h.inn p hp
    by_cases hne : kl' = kl
    · subst hne
      refine ⟨kl', h1, has_put_same hT.isMap (K.key hk) _, fun z => ?_⟩
      rw [atKey_put_same hT.isMap (K.key hk) _ z, ← h3 z, (h.look_in hin hk).2 z]
    · exact ⟨kl', h1, by rw [has_put_other hne]; exact h2, fun z => by rw [atKey_put_other hne]; exact h3 z⟩
  out := by
    intro key' kl' hk' ho
    have hne : kl' ≠ kl := by
      rintro rfl
      exact ho (key, v) hin (K.inj hk hk')
    rw [has_put_other hne]
    exact h.out key' kl' hk' ho

/-! ### At the operation -/
section
variable {P : Program} (w : World) {ops : Array Oper} {rest : List Oper} {o : Oper} {a : Act} {Q : Exit → Act → World → Prop}

theorem wpList_look_in (hg : o.guard = none) (m x : Operand) (t : TypeId) (hop : o.op = Op.lookup t m x true) (k e : TypeId) (K : Keyed P k) (ht : P.underlying t = some (.map k e)) {z : Value} (hz : (zeroValue e).run P w = .ok z w)
    (b : Nat) (tab : List (Value × Value)) (hm : a.eval m = .map (some b)) (h : TabAt w P k b tab) (key v : Value) (hx : a.eval x = key) (hin : (key, v) ∈ tab)
    (hK : wpList P ops Q rest (a.put o.dst (.tuple #[v, .bool true])) w) : wpList P ops Q (o :: rest) a w := by
  obtain ⟨D, hD, hH⟩ := h
  obtain ⟨kl, hk, h1, h2⟩ := hH.inn _ hin
  have hk' : keyOf P k key = some kl := hk
  refine wpList_lookup_own_ok w hg m x t hop k e K ht heldE hz (.held z) [] rfl b _ D hm hD key kl hx hk' ?_
  intro u ps hu
  rw [h2] at hu
  obtain rfl := heldE_inv hu
  rw [h1]; exact hK
theorem wpList_look_out (hg : o.guard = none) (m x : Operand) (t : TypeId) (hop : o.op = Op.lookup t m x true) (k e : TypeId) (K : Keyed P k) (ht : P.underlying t = some (.map k e)) {z : Value} (hz : (zeroValue e).run P w = .ok z w)
    (b : Nat) (tab : List (Value × Value)) (hm : a.eval m = .map (some b)) (h : TabAt w P k b tab) (key : Value) (hx : a.eval x = key) (hk : ∃ kl, keyOf P k key = some kl) (hout : ∀ p ∈ tab, p.1 ≠ key)
    (hK : wpList P ops Q rest (a.put o.dst (.tuple #[z, .bool false])) w) : wpList P ops Q (o :: rest) a w := by
  obtain ⟨D, hD, hH⟩ := h
  obtain ⟨kl, hk⟩ := hk
  refine wpList_lookup_own_ok w hg m x t hop k e K ht heldE hz (.held z) [] rfl b _ D hm hD key kl hx hk ?_
  intro u ps hu
  rw [atKey_of_not_has (hH.out key kl hk hout)] at hu
  obtain rfl := heldE_inv hu
  rw [hH.out key kl hk hout]; exact hK
theorem run_at_in {e t k : TypeId} {w : World} {b : Nat} {tab : List (Value × Value)} (h : TabAt w P k b tab) (K : Keyed P k) (ht : P.underlying t = some (.map k e)) {z : Value} (hz : (zeroValue e).run P w = .ok z w) {key v : Value} (hin : (key, v) ∈ tab) :
    (Instr.lookup t (.map (some b)) key false).run P w = .ok v w := by
  obtain ⟨D, hD, hH⟩ := h
  obtain ⟨kl, hk, h1, h2⟩ := hH.inn _ hin
  obtain ⟨u, ps, hr, hu⟩ := hD.lookup K ht hz (R := heldE) (zd := .held z) (zp := []) rfl hk
  rw [h2] at hu
  obtain rfl := heldE_inv hu
  exact hr
theorem run_at_out {e t k : TypeId} {w : World} {b : Nat} {tab : List (Value × Value)} (h : TabAt w P k b tab) (K : Keyed P k) (ht : P.underlying t = some (.map k e)) {z : Value} (hz : (zeroValue e).run P w = .ok z w) {key : Value} (hk : ∃ kl, keyOf P k key = some kl) (hout : ∀ p ∈ tab, p.1 ≠ key) :
    (Instr.lookup t (.map (some b)) key false).run P w = .ok z w := by
  obtain ⟨D, hD, hH⟩ := h
  obtain ⟨kl, hk⟩ := hk
  obtain ⟨u, ps, hr, hu⟩ := hD.lookup K ht hz (R := heldE) (zd := .held z) (zp := []) rfl hk
  rw [atKey_of_not_has (hH.out key kl hk hout)] at hu
  obtain rfl := heldE_inv hu
  exact hr
theorem wpList_put_new (hg : o.guard = none) (m x v : Operand) (t : TypeId) (hop : o.op = Op.mapUpdate t m x v) (k e : TypeId) (K : Keyed P k) (ht : P.underlying t = some (.map k e))
    (b : Nat) (tab : List (Value × Value)) (hm : a.eval m = .map (some b)) (h : TabAt w P k b tab) (hn : tab.length < maxLen) (key val : Value) (hx : a.eval x = key) (hv : a.eval v = val) (hk : ∃ kl, keyOf P k key = some kl) (hout : ∀ p ∈ tab, p.1 ≠ key)
    (hK : ∀ w', TabAt w' P k b (tab ++ [(key, val)]) → w.mapTurned w' b → wpList P ops Q rest (a.put o.dst undef) w') : wpList P ops Q (o :: rest) a w := by
  obtain ⟨D, hD, hH⟩ := h
  obtain ⟨kl, hk⟩ := hk
  refine wpList_mapUpdate_in w hg m x v t hop k e K ht heldE b _ D hm hD hn key val kl hx hv hk (.held val) [] rfl ?_
  intro w' h1 h2
  refine hK w' ⟨_, by rw [List.length_append]; exact h1, hH.put_new K (hD.tidy K) hk hout⟩ h2
theorem wpList_put_same (hg : o.guard = none) (m x v : Operand) (t : TypeId) (hop : o.op = Op.mapUpdate t m x v) (k e : TypeId) (K : Keyed P k) (ht : P.underlying t = some (.map k e))
    (b : Nat) (tab : List (Value × Value)) (hm : a.eval m = .map (some b)) (h : TabAt w P k b tab) (hn : tab.length < maxLen) (key val : Value) (hx : a.eval x = key) (hv : a.eval v = val) (hin : (key, val) ∈ tab)
    (hK : ∀ w', TabAt w' P k b tab → w.mapTurned w' b → wpList P ops Q rest (a.put o.dst undef) w') : wpList P ops Q (o :: rest) a w := by
  obtain ⟨D, hD, hH⟩ := h
  obtain ⟨kl, hk, h3⟩ := hH.inn _ hin
  have hk' : keyOf P k key = some kl := hk
  refine wpList_mapUpdate_in w hg m x v t hop k e K ht heldE b _ D hm hD hn key val kl hx hv hk' (.held val) [] rfl ?_
  intro w' h1 h2
  refine hK w' ⟨_, ?_, hH.put_same K (hD.tidy K) hk' hin⟩ h2
  have hsz : Maps.size (D.put kl (.held val)) = tab.length := by rw [size_put (hD.tidy K), h3.1, hH.size]; rfl
  obtain ⟨es, clock, hb, F, _, hE⟩ := h1
  refine ⟨es, clock, hb, F, ?_, hE⟩
  rw [hE] at hsz
  have : (List.foldr DataW.insert [] (es.toList.map (Go.WideElems.rg P k heldE))).length = tab.length := hsz
  rw [length_sorted, List.length_map, Array.length_toList] at this
  exact Nat.le_of_eq this
theorem wpList_len_tab (hg : o.guard = none) (m : Operand) (t : TypeId) (hop : o.op = Op.call { callee := Callee.builtin Builtin.len, args := #[m], argTypes := #[t] }) (k e : TypeId) (ht : P.underlying t = some (.map k e))
    (b : Nat) (tab : List (Value × Value)) (hm : a.eval m = .map (some b)) (h : TabAt w P k b tab) (hK : wpList P ops Q rest (a.put o.dst (.int .i64 (tab.length : Int))) w) : wpList P ops Q (o :: rest) a w := by
  obtain ⟨D, hD, hH⟩ := h
  refine wpList_len_own w hg m t hop k e ht heldE b _ D hm hD ?_
  rw [hH.size]; exact hK
theorem run_len_tab {t k e : TypeId} {w : World} {b : Nat} {tab : List (Value × Value)} (h : TabAt w P k b tab) (ht : P.underlying t = some (.map k e)) (ty : TypeId) : (Builtin.len_ #[t] ty #[.map (some b)]).run P w = .ok (.int .i64 (tab.length : Int)) w := by
  obtain ⟨D, hD, hH⟩ := h
  rw [hD.len ht ty, hH.size]
/-- A map of a list is ranged over; so many entries are still to come. -/
def RangesAt (w : World) (P : Program) (k : TypeId) (b r : Nat) (tab : List (Value × Value)) (cnt : Nat) : Prop := ∃ D left, w.ranges P k heldE b r tab.length D left cnt ∧ Holds P k D tab
theorem RangesAt.tab {w : World} {P : Program} {k : TypeId} {b r : Nat} {tab : List (Value × Value)} {cnt : Nat} (h : RangesAt w P k b r tab cnt) : TabAt w P k b tab := by
  obtain ⟨D, left, h1, h2⟩ := h
  exact ⟨D, h1.owns, h2⟩
theorem RangesAt.left {w : World} {P : Program} {k : TypeId} {b r : Nat} {tab : List (Value × Value)} {cnt : Nat} (h : RangesAt w P k b r tab cnt) : w.rangeLeft b r = cnt := by
  obtain ⟨D, left, h1, h2⟩ := h
  exact h1.left_eq
theorem RangesAt.of_blocks {w w' : World} {P : Program} {k : TypeId} {b r : Nat} {tab : List (Value × Value)} {cnt : Nat} (h : RangesAt w P k b r tab cnt) (eb : w'.heap[b]? = w.heap[b]?) (er : w'.heap[r]? = w.heap[r]?) : RangesAt w' P k b r tab cnt := by
  obtain ⟨D, left, ⟨es, clock, since, seen, c0, hb, F, hs, hD, hr, rest⟩, hH⟩ := h
  exact ⟨D, left, ⟨es, clock, since, seen, c0, eb.trans hb, F, hs, hD, er.trans hr, rest⟩, hH⟩
theorem RangesAt.lt {w : World} {P : Program} {k : TypeId} {b r : Nat} {tab : List (Value × Value)} {cnt : Nat} (h : RangesAt w P k b r tab cnt) : r < w.heap.size := by
  obtain ⟨D, left, ⟨es, clock, since, seen, c0, hb, F, hs, hD, hr, rest⟩, hH⟩ := h
  exact (Array.getElem?_eq_some_iff.1 hr).1
theorem wpList_range_tab (hg : o.guard = none) (m : Operand) (t : TypeId) (hop : o.op = Op.range t m) (k e : TypeId) (K : Keyed P k) (ht : P.underlying t = some (.map k e))
    (b : Nat) (tab : List (Value × Value)) (hm : a.eval m = .map (some b)) (h : TabAt w P k b tab)
    (hK : ∀ w', RangesAt w' P k b w.heap.size tab tab.length → Below w.heap.size w w' → wpList P ops Q rest (a.put o.dst (.pointer (some ⟨w.heap.size, 0, none⟩))) w') : wpList P ops Q (o :: rest) a w := by
  obtain ⟨D, hD, hH⟩ := h
  refine wpList_range_own w hg m t hop k e K ht heldE b _ D hm hD ?_
  intro w' h1 h2 h3
  rw [hH.size] at h1
  exact hK w' ⟨D, _, h1, hH⟩ ⟨h2.os, h2.tape, h2.output, by omega, fun i hi => h2.block i hi (by simp)⟩
/-- The range's step: nothing is left, or an entry has come. -/
theorem wpList_next_tab {α : Type} (hg : o.guard = none) (it : Operand) (hop : o.op = Op.next it false) (k : TypeId) (K : Keyed P k) (mkK mkV : α → Value) (l : List α)
    (b r cnt : Nat) (hit : a.eval it = .pointer (some ⟨r, 0, none⟩)) (h : RangesAt w P k b r (l.map fun x => (mkK x, mkV x)) cnt)
    (hDone : wpList P ops Q rest (a.put o.dst (.tuple #[.bool false])) w)
    (hMore : ∀ (x : α) (w' : World) (cnt' : Nat), x ∈ l → RangesAt w' P k b r (l.map fun x => (mkK x, mkV x)) cnt' → cnt' < cnt → Beside [r] w w' → w'.heap.size = w.heap.size →
      (Instr.entry (.pointer (some ⟨r, 0, none⟩))).run P w' = .ok (.tuple #[mkK x, mkV x]) w' → wpList P ops Q rest (a.put o.dst (.tuple #[.bool true, mkK x, mkV x])) w') :
    wpList P ops Q (o :: rest) a w := by
  obtain ⟨D, left, hR, hH⟩ := h
  refine wpList_plain hg fun K' hK' => ?_
  unfold Oper.wp
  rcases hR.next K o.type with ⟨h0, hl, hrun⟩ | ⟨key, v, kl, y, w', cnt', hkey, hlk, hv, hat, hrun, hrg, hlt, hgr, hsz, hen⟩
  · simp [execOp, hop, hit, hrun, Result.andThen]
    exact hK' _ _ hDone
  · have hin : ∃ x ∈ l, key = mkK x ∧ v = mkV x := by
      obtain ⟨es, clock, since, seen, c0, hb, F, hs, hD, hr, hold, hc, hl1, hl2, _⟩ := hR
      obtain ⟨e, he, hek⟩ := hl2 kl hlk
      have hhas : Maps.has D kl = true := by
        by_cases hh : Maps.has D kl = true
        · exact hh
        · have h9 := atKey_of_not_has (D := D) (k := kl) (by simpa using hh)
          have h8 := hat (.lit (.bool true))
          have h7 := hat (.lit (.bool false))
          rw [h9] at h7 h8
          rw [← h8] at h7
          cases h7
      have hex : ∃ p ∈ l.map (fun x => (mkK x, mkV x)), p.1 = key := by
        by_cases hh : ∃ p ∈ l.map (fun x => (mkK x, mkV x)), p.1 = key
        · exact hh
        · have := hH.out key kl hkey (fun p hp hpk => hh ⟨p, hp, hpk⟩)
          rw [hhas] at this
          cases this
      obtain ⟨p, hp, hpk⟩ := hex
      obtain ⟨x, hx, hxp⟩ := List.mem_map.1 hp
      subst hxp
      have h6 := (hH.look_in (key := key) (v := mkV x) (by rw [← hpk]; exact hp) hkey).2 (.lit (.bool true))
      rw [hat] at h6
      obtain ⟨y1, y2⟩ := y
      have h6' : y1 = .held (mkV x) := h6
      subst h6'
      exact ⟨x, hx, hpk.symm, heldE_inv hv⟩
    obtain ⟨x, hx, rfl, rfl⟩ := hin
    simp [execOp, hop, hit, hrun, Result.andThen]
    exact hK' _ _ (hMore x w' cnt' hx ⟨D, _, hrg, hH⟩ hlt ⟨hgr.os, hgr.tape, hgr.output, by omega, fun i hi hn => hgr.block i hi (by simpa using hn)⟩ hsz hen)
end

/-! ### A key of strings -/
theorem mapM_some {α β : Type} (g : α → Option β) : ∀ l : List α, (∀ x ∈ l, ∃ y, g x = some y) → ∃ ys, l.mapM g = some ys
  | [], _ => ⟨[], rfl⟩
  | x :: l, h => by
    obtain ⟨y, hy⟩ := h x (by simp)
    obtain ⟨ys, hys⟩ := mapM_some g l (fun z hz => h z (by simp [hz]))
    exact ⟨y :: ys, by rw [List.mapM_cons, hy, hys]; rfl⟩
/-- A struct of strings is a key. -/
theorem keyOf_strs {P : Program} {k st : TypeId} {fs : Array Field} (hs : P.underlying st = some .string) (hc1 : P.cellsOf st = 1) (hu : P.underlying k = some (.struct fs)) (hkt : P.keyType k = true) (l : List ByteArray) (hl : ∀ s ∈ l, s.size ≤ maxLen)
    (hf : (fs.toList.all fun f => f.type == st && decide (f.offset < l.length)) = true) (hn : (fs.all fun f => f.name != "_") = true) (hc : P.cellsOf k = l.length) (hz : ∃ m, P.types.size = m + 1) : ∃ kl, keyOf P k (.agg (l.map Value.string).toArray) = some kl := by
  obtain ⟨m, hm⟩ := hz
  unfold keyOf
  simp only [hu]
  rw [if_pos (by simp [hkt, Value.formed, hu, hc]), hm]
  have hx : ∃ ys, fs.toList.mapM (fun f => P.keyLits (m + 1) f.type ((((Value.agg (l.map Value.string).toArray).cells.toList).drop f.offset).take (P.cellsOf f.type))) = some ys := by
    refine mapM_some _ _ fun f hfm => ?_
    have h1 := List.all_eq_true.1 hf f hfm
    rw [Bool.and_eq_true, beq_iff_eq, decide_eq_true_eq] at h1
    obtain ⟨h1, h2⟩ := h1
    have e : ((((Value.agg (l.map Value.string).toArray).cells.toList).drop f.offset).take (P.cellsOf f.type)) = [.string l[f.offset]] := by
      rw [h1, hc1]
      show ((l.map Value.string).drop f.offset).take 1 = _
      rw [List.drop_eq_getElem_cons (by simpa using h2)]
      simp
    rw [e, h1]
    refine ⟨[.string (l[f.offset]).data.toList], ?_⟩
    unfold Program.keyLits
    rw [hs]
    simp only []
    rw [if_pos (hl _ (List.getElem_mem h2))]
  obtain ⟨ys, hys⟩ := hx
  unfold Program.keyLits
  simp only [hu]
  rw [if_pos ⟨by show (l.map Value.string).length = _; rw [hc, List.length_map], hn⟩]
  rw [hys]
  exact ⟨_, rfl⟩
end Go.Proofs.Ytfglhemmccihfaa

/-
Layer 1, the program's package octet: each function returns what XPlain says.
strings.Repeat, by the kit's contract, laid at this translation.
Layer 1, the program's package octet: Xor, Same, Fill.
strings.Builder, where a block of some type T that begins with a Builder's two fields holds it: WriteString, String, Len. (The kit's own proofs of the forms '_k', turned: the block's type is T.)
strings.Builder in a block of type T: String. (The kit's own proof of the form '_k', turned.)
strings.Builder in a block of a type that begins with one: what is kept by calls that make memory; a new one.
strings.Builder: Len.
-/
import Derived.Test.YtfglhemmccihfaaRows
import Derived.Shelf.Strings.Repeat
import Derived.Test.YtfglhemmccihfaaProg
import Derived.Lib.OthersKept
import Derived.Lib.AppendStr
import Derived.Lib.UnsafeStr
import Derived.Laws.Externs
import Derived.Shelf.Strings.BuilderX
import Derived.Test.YtfglhemmccihfaaMa
import Derived.Test.YtfglhemmccihfaaMb
namespace Go.Proofs.Ytfglhemmccihfaa
open Go.RowKit

theorem left_eq (x : BitVec 32) (n : Int) :
    x <<< ((n % 18446744073709551616).toNat % 32) ||| x >>> ((18446744073709551616 - (n % 18446744073709551616).toNat % 32 + 32) % 18446744073709551616) = rolI x n := by
  have h : (n % 18446744073709551616).toNat % 32 = (n % 32).toNat := by omega
  rw [h]
  have hk : (n % 32).toNat < 32 := by omega
  rw [show (18446744073709551616 - (n % 32).toNat + 32) % 18446744073709551616 = 32 - (n % 32).toNat by omega, rol_or _ _ hk]
  rfl

set_option maxHeartbeats 400000 in
theorem Left_walk (x : BitVec 32) (n : Int) (w : World) :
    Calls Try.prog 84 #[.int .u32 (bvi x), .int .i64 n] w fun e w' => e = .returned (.int .u32 (bvi (rolI x n))) ∧ w = w' := by
  go_enter Try.func84, Try.ntmps84
  go_wp2
  go_ret
  exact ⟨ret_bvi (left_eq x n), rfl⟩

theorem right_arg (n : Int) : wrap64 (32 - wrap64 (bvi (BitVec.ofInt 64 n % 32#64))) = 32 - n % 32 := by
  have h : bvi (BitVec.ofInt 64 n % 32#64) = n % 32 := by
    unfold bvi
    rw [BitVec.toNat_umod, BitVec.toNat_ofInt]
    simp
    omega
  rw [h]
  unfold wrap64
  omega
theorem right_eq (x : BitVec 32) (n : Int) : rolI x (32 - n % 32) = rorI x n := by
  unfold rolI rorI
  congr 2
  omega

set_option maxHeartbeats 400000 in
theorem Right_walk (x : BitVec 32) (n : Int) (w : World) :
    Calls Try.prog 133 #[.int .u32 (bvi x), .int .i64 n] w fun e w' => e = .returned (.int .u32 (bvi (rorI x n))) ∧ w = w' := by
  go_enter Try.func133, Try.ntmps133
  go_wp2_with fail
  rw [right_arg]
  refine (Left_walk _ _ _).mono ?_
  rintro e w' ⟨rfl, rfl⟩
  go_wp2
  go_ret
  exact ⟨ret_bvi (right_eq x n), rfl⟩

theorem hiV_step (s : ByteArray) (k : Nat) (h : k < s.size) : hiV (s.data.toList.take k) <<< 8 ||| BitVec.setWidth 64 s[k].toBitVec = hiV (s.data.toList.take (k + 1)) := by
  rw [take_step s k h, hiV_snoc]

set_option maxHeartbeats 400000 in
theorem FromHigh_ok (s : ByteArray) (hs : s.size ≤ 8) (w : World) :
    Calls Try.prog 134 #[.string s] w fun e w' => e = .returned (.tuple #[.int .u64 (bvi (hiV s.data.toList)), .int .i64 0]) ∧ w = w' := by
  go_enter Try.func134, Try.ntmps134
  go_wp2
  go_loop [4, 11] (fun x i => ∃ k : Nat, k ≤ s.size ∧ i = .int .i64 k ∧ x = .int .u64 (bvi (hiV (s.data.toList.take k)))) (fun _ i => s.size - (intOf i).toNat)
  case atStart => exact ⟨0, Nat.zero_le _, rfl, rfl⟩
  case round =>
    obtain ⟨k, hk, rfl, rfl⟩ := hrel
    rcases Nat.lt_or_ge k s.size with hlt | hge
    · go_wp2
      go_round
      case rel => exact ⟨k + 1, by omega, by go_num, by rw [hiV_step s k hlt]⟩
      case measure => simp [intOf]; omega
    · obtain rfl : k = s.size := by omega
      go_wp2
      go_ret2
      exact ⟨ret_val (by rw [take_all]; rfl), rfl⟩

set_option maxHeartbeats 400000 in
theorem FromHigh_big (s : ByteArray) (hs : 8 < s.size) (w : World) :
    Calls Try.prog 134 #[.string s] w fun e w' => e = .returned (.tuple #[.int .u64 0, .int .i64 5]) ∧ w = w' := by
  go_enter Try.func134, Try.ntmps134
  go_wp2
  go_ret2
  exact ⟨rfl, rfl⟩

theorem loV_step (s : ByteArray) (k : Nat) (h : k < s.size) : loV (s.data.toList.take k) ||| (BitVec.setWidth 64 s[k].toBitVec <<< (8 * k)) = loV (s.data.toList.take (k + 1)) := by
  rw [take_step s k h, loV_snoc, List.length_take, Nat.min_eq_left]
  rw [Array.length_toList]; exact Nat.le_of_lt h

set_option maxHeartbeats 400000 in
theorem FromLow_ok (s : ByteArray) (hs : s.size ≤ 8) (w : World) :
    Calls Try.prog 83 #[.string s] w fun e w' => e = .returned (.tuple #[.int .u64 (bvi (loV s.data.toList)), .int .i64 0]) ∧ w = w' := by
  go_enter Try.func83, Try.ntmps83
  go_wp2
  go_loop [4, 11] (fun x i => ∃ k : Nat, k ≤ s.size ∧ i = .int .i64 k ∧ x = .int .u64 (bvi (loV (s.data.toList.take k)))) (fun _ i => s.size - (intOf i).toNat)
  case atStart => exact ⟨0, Nat.zero_le _, rfl, rfl⟩
  case round =>
    obtain ⟨k, hk, rfl, rfl⟩ := hrel
    rcases Nat.lt_or_ge k s.size with hlt | hge
    · have h0 : (0 : Int) ≤ 8 * (k : Int) := by omega
      go_wp2
      go_round
      case rel =>
        exact ⟨k + 1, by omega, by go_num, by rw [← loV_step s k hlt]⟩
      case measure => simp [intOf]; omega
    · obtain rfl : k = s.size := by omega
      go_wp2
      go_ret2
      exact ⟨ret_val (by rw [take_all]; rfl), rfl⟩

set_option maxHeartbeats 400000 in
theorem FromLow_big (s : ByteArray) (hs : 8 < s.size) (w : World) :
    Calls Try.prog 83 #[.string s] w fun e w' => e = .returned (.tuple #[.int .u64 0, .int .i64 5]) ∧ w = w' := by
  go_enter Try.func83, Try.ntmps83
  go_wp2
  go_ret2
  exact ⟨rfl, rfl⟩

theorem infoU8 : (Try.prog.info? 5).map (fun i => (i.zero, i.size, i.bytes)) = some (some (.int .u8 0), 1, 1) := by kernel_rfl

set_option maxHeartbeats 400000 in
theorem bytes_walk (x : BitVec 64) (n : Int) (w : World) :
    Calls Try.prog 69 #[.int .u64 (bvi x), .int .i64 n] w fun e w' =>
      e = .returned (.slice (some ⟨w.heap.size, 0, none⟩) (cut n) (cut n)) ∧ w.alloc (.cells (cells (lowL x (cut n))).toArray 5) = w' := by
  obtain ⟨i0, hi, hz0, hz1, hz2⟩ := info_parts infoU8
  have hm : min (max n 0) 64 = (cut n : Int) := by unfold cut; omega
  have hm64 : cut n ≤ 64 := by unfold cut; omega
  generalize cut n = m at hm hm64
  have hmk := run_make (P := Try.prog) w 32 5 i0 (.int .u8 0) Try.underlying32 hi hz0 .i64 .i64 m m (by omega) (by omega) (by rw [hz2]; omega) (by omega)
  rw [hz1] at hmk; simp only [Int.toNat_natCast, Nat.mul_one] at hmk
  clear hi hz0 hz1 hz2
  go_enter Try.func69, Try.ntmps69
  go_wp2
  clear hm hmk
  go_loopw [0, 13] (fun y i wr => ∃ k : Nat, k ≤ m ∧ i = .int .i64 k ∧ y = .int .u64 (bvi (x >>> (8 * k))) ∧ wr = w.alloc (.cells (lowA x m k) 5)) (fun _ i _ => m - (intOf i).toNat)
  case atStart => exact ⟨0, Nat.zero_le _, rfl, by simp, by rw [lowA_zero]⟩
  case round =>
    obtain ⟨k, hk, rfl, rfl, rfl⟩ := hrel
    rcases Nat.lt_or_ge k m with hlt | hge
    · have hc := lowA_at x m k hlt
      go_wp2
      go_roundw
      case rel => exact ⟨k + 1, by omega, by go_num, by rw [← BitVec.shiftRight_add]; rfl, by rw [← lowA_set x m k hlt]⟩
      case measure => simp [intOf]; omega
    · obtain rfl : k = m := by omega
      go_wp2
      go_ret
      exact ⟨rfl, by rw [lowA_full]⟩

set_option maxHeartbeats 400000 in
theorem Low_walk (x : BitVec 64) (n : Int) (w : World) :
    Calls Try.prog 64 #[.int .u64 (bvi x), .int .i64 n] w fun e w' => ∃ r, e = .returned (.string r) ∧ Is r (lowL x (cut n)) ∧ Below w.heap.size w w' := by
  have hst := run_str (P := Try.prog) (w.alloc (.cells (cells (lowL x (cut n))).toArray 5)) 32 5 Try.underlying32 Try.underlying5 9 Try.underlying9 w.heap.size (cut n) (cut n) _ 5 (0, 0) (lowL x (cut n)) (RowAt.new w _ _ _) (lowL_length _ _) (by
    rw [List.take_of_length_le]; rw [cells_length, lowL_length]; exact Nat.le_refl _)
  go_enter Try.func64, Try.ntmps64
  go_wp2_with fail
  refine (bytes_walk _ _ _).mono ?_
  rintro e w' ⟨rfl, rfl⟩
  go_wp2
  go_ret
  exact ⟨_, rfl, Is.of _, (Below.refl _ _).alloc (Nat.le_refl _) _⟩

set_option maxHeartbeats 1000000 in
theorem High_walk (x : BitVec 64) (n : Int) (w : World) :
    Calls Try.prog 44 #[.int .u64 (bvi x), .int .i64 n] w fun e w' => ∃ r, e = .returned (.string r) ∧ Is r (highL x (cut n)) ∧ Below w.heap.size w w' := by
  go_enter Try.func44, Try.ntmps44
  go_wp2_with fail
  refine (bytes_walk _ _ _).mono ?_
  have hL := lowL_length x (cut n)
  have hm64 : cut n ≤ 64 := by unfold cut; omega
  generalize hl : lowL x (cut n) = l at hL ⊢
  have HL := Lib.hid (show highL x (cut n) = l.reverse by rw [highL, hl]); clear hl
  generalize cut n = m at hL hm64 ⊢
  subst hL
  rintro e w' ⟨rfl, rfl⟩
  go_wp2
  go_loopw [13] (fun i wr => ∃ k : Nat, k ≤ l.length / 2 ∧ i = .int .i64 k ∧ RowAt wr w.heap.size (cells (swL l k)).toArray 5 (0, 0) ∧ Below w.heap.size w wr) (fun i _ => l.length - (intOf i).toNat)
  case atStart => exact ⟨0, Nat.zero_le _, rfl, by rw [swL_zero]; exact RowAt.new _ _ _ _, (Below.refl _ _).alloc (Nat.le_refl _) _⟩
  case round =>
    obtain ⟨k, hk, rfl, hrow, hbel⟩ := hrel
    rcases Nat.lt_or_ge k (l.length / 2) with hlt | hge
    · have hk2 : 2 * k + 1 < l.length := by omega
      have hsl := swL_length l k
      obtain ⟨g1, g2⟩ := swL_at l k hk2
      have c1 := hrow.cell (i := k) (by rw [List.getElem?_toArray, cells_get (by omega)])
      have c2 := hrow.cell (i := l.length - 1 - k) (by rw [List.getElem?_toArray, cells_get (by omega)])
      rw [g1] at c1; rw [g2] at c2
      have f1 := hrow.free (i := k) (by simp)
      have f2 := hrow.free (i := l.length - 1 - k) (by simp)
      clear g1 g2
      go_wp2
      go_region
      go_wp2
      go_roundw
      case rel =>
        have e1 := (hrow.store k (u8c (l.getD (l.length - 1 - k) 0))).store (l.length - 1 - k) (u8c (l.getD k 0))
        rw [List.setIfInBounds_toArray, List.setIfInBounds_toArray, cells_set, cells_set, swL_step l k hk2] at e1
        exact ⟨k + 1, by omega, by go_num, e1.drew, ((hbel.setCell (p := ⟨_, _, _⟩) (Nat.le_refl _) _).setCell (p := ⟨_, _, _⟩) (Nat.le_refl _) _).drew⟩
      case measure => simp [intOf]; omega
    · obtain rfl : k = l.length / 2 := by omega
      rw [swL_full] at hrow
      have hst := run_str (P := Try.prog) wr 32 5 Try.underlying32 Try.underlying5 9 Try.underlying9 w.heap.size l.length l.length _ 5 (0, 0) l.reverse hrow (by simp) (by
        rw [List.take_of_length_le]; rw [cells_length]; simp)
      go_wp2
      go_ret
      exact ⟨_, rfl, by rw [HL.out]; exact Is.of _, hbel⟩

end Go.Proofs.Ytfglhemmccihfaa
namespace Go.Proofs.Ytfglhemmccihfaa
open Go.Shelf

def lays105_ren : Go.Shelf.Ren := ⟨fun | 105 => 88 | 212 => 101 | 99 => 102 | 165 => 103 | 166 => 63 | 170 => 75 | 169 => 65 | 263 => 113 | 264 => 114 | 206 => 115 | 240 => 85 | 241 => 116 | 276 => 98 | 277 => 126 | n => n, fun | 9 => 9 | 3 => 3 | 4 => 4 | 20 => 20 | 0 => 0 | 46 => 118 | 109 => 131 | 5 => 5 | 72 => 95 | 76 => 98 | 51 => 62 | 146 => 140 | 53 => 35 | 148 => 142 | 70 => 93 | 37 => 32 | 75 => 97 | 127 => 115 | 164 => 128 | 80 => 100 | n => n, fun | n => n⟩
theorem lays105 : Go.Proofs.Lays.n105 Try.prog lays105_ren := {
  mixed := by kernel_rfl
  f99 := Try.func102.trans (congrArg some (by kernel_rfl))
  f105 := Try.func88.trans (congrArg some (by kernel_rfl))
  f165 := Try.func103.trans (congrArg some (by kernel_rfl))
  f166 := Try.func63.trans (congrArg some (by kernel_rfl))
  f169 := Try.func65.trans (congrArg some (by kernel_rfl))
  f170 := Try.func75.trans (congrArg some (by kernel_rfl))
  f206 := Try.func115.trans (congrArg some (by kernel_rfl))
  f212 := Try.func101.trans (congrArg some (by kernel_rfl))
  f240 := Try.func85.trans (congrArg some (by kernel_rfl))
  f241 := Try.func116.trans (congrArg some (by kernel_rfl))
  f263 := Try.func113.trans (congrArg some (by kernel_rfl))
  f264 := Try.func114.trans (congrArg some (by kernel_rfl))
  f276 := Try.func98.trans (congrArg some (by kernel_rfl))
  f277 := Try.func126.trans (congrArg some (by kernel_rfl))
  t0 := Try.underlying0
  a0 := Try.isAgg0
  z0 := Try.sizeOf0
  v0 := Try.zeroValue0
  t3 := Try.underlying3
  a3 := Try.isAgg3
  z3 := Try.sizeOf3
  v3 := Try.zeroValue3
  t4 := Try.underlying4
  a4 := Try.isAgg4
  z4 := Try.sizeOf4
  v4 := Try.zeroValue4
  t5 := Try.underlying5
  a5 := Try.isAgg5
  z5 := Try.sizeOf5
  v5 := Try.zeroValue5
  t9 := Try.underlying9
  a9 := Try.isAgg9
  z9 := Try.sizeOf9
  v9 := Try.zeroValue9
  t20 := Try.underlying20
  a20 := Try.isAgg20
  z20 := Try.sizeOf20
  v20 := Try.zeroValue20
  t37 := Try.underlying32
  a37 := Try.isAgg32
  z37 := Try.sizeOf32
  v37 := Try.zeroValue32
  t46 := Try.underlying118
  a46 := Try.isAgg118
  z46 := Try.sizeOf118
  v46 := Try.zeroValue118
  t51 := Try.underlying62
  a51 := Try.isAgg62
  z51 := Try.sizeOf62
  v51 := Try.zeroValue62
  t53 := Try.underlying35
  a53 := Try.isAgg35
  z53 := Try.sizeOf35
  v53 := Try.zeroValue35
  t70 := Try.underlying93
  a70 := Try.isAgg93
  z70 := Try.sizeOf93
  v70 := Try.zeroValue93
  t72 := Try.underlying95
  a72 := Try.isAgg95
  z72 := Try.sizeOf95
  v72 := Try.zeroValue95
  t75 := Try.underlying97
  a75 := Try.isAgg97
  z75 := Try.sizeOf97
  v75 := Try.zeroValue97
  t76 := Try.underlying98
  a76 := Try.isAgg98
  z76 := Try.sizeOf98
  v76 := Try.zeroValue98
  t109 := Try.underlying131
  a109 := Try.isAgg131
  z109 := Try.sizeOf131
  v109 := Try.zeroValue131
  t127 := Try.underlying115
  a127 := Try.isAgg115
  z127 := Try.sizeOf115
  v127 := Try.zeroValue115
  t146 := Try.underlying140
  a146 := Try.isAgg140
  z146 := Try.sizeOf140
  v146 := Try.zeroValue140
  t148 := Try.underlying142
  a148 := Try.isAgg142
  z148 := Try.sizeOf142
  v148 := Try.zeroValue142
  t164 := Try.underlying128
  a164 := Try.isAgg128
  z164 := Try.sizeOf128
  v164 := Try.zeroValue128 }
theorem extra105 : Builder.Extra Try.prog lays105_ren := {
  sizeBuilder := by kernel_rfl
  liesBuilder := by kernel_rfl
  t5 := Try.underlying5
  a5 := Try.isAgg5
  z5 := Try.sizeOf5
  v5 := Try.zeroValue5
  infoByte := by kernel_rfl
  cellsByte := by kernel_rfl
  sizeByte := by kernel_rfl
  neB5 := by decide }
open Go.RowKit Go.Lib in
theorem Repeat_walk (s : ByteArray) (c : Nat) (w : World) (hc : c ≤ 9223372036854775807) (hlen : s.size * c ≤ 140737488355328) :
    Calls Try.prog 88 #[.string s, .int .i64 c] w fun e w' => e = .returned (.string ⟨(Lib.repeatL s.data.toList c).toArray⟩) ∧ Below w.heap.size w w' := Any.strings_Repeat lays105 extra105 s c w hc hlen
theorem repeatL_one (b : UInt8) (c : Nat) : Lib.repeatL [b] c = List.replicate c b := by
  induction c with
  | zero => rfl
  | succ n ih => simp [Lib.repeatL, ih, List.replicate_succ]
end Go.Proofs.Ytfglhemmccihfaa
namespace Go.Proofs.Ytfglhemmccihfaa
open Go.RowKit

theorem u8_xor_bvi (a b : UInt8) : BitVec.ofInt 8 (bvi a.toBitVec) ^^^ BitVec.ofInt 8 (bvi b.toBitVec) = (a ^^^ b).toBitVec := by
  rw [ofInt_bvi_same, ofInt_bvi_same]; rfl

set_option maxHeartbeats 1000000 in
theorem Xor_ok (a b : ByteArray) (h : a.size = b.size) (hm : a.size ≤ 140737488355328) (w : World) :
    Calls Try.prog 50 #[.string a, .string b] w fun e w' => ∃ r, e = .returned (.tuple #[.string r, .int .i64 0]) ∧ Is r (xorL a.data.toList b.data.toList) ∧ Below w.heap.size w w' := by
  have hcv := run_bytes_of_string (P := Try.prog) w 9 32 5 a Try.underlying9 Try.underlying32 Try.underlying5
  have hrow0 := (RowAt.new w (bytesRow a (grownCap w a.size 0 5)) 5 ((bytesRow a (grownCap w a.size 0 5)).size, (bytesRow a (grownCap w a.size 0 5)).size + 1)).drew
  have ht0 := bytesRow_take a (grownCap w a.size 0 5)
  have hs0 := bytesRow_size a (grownCap w a.size 0 5)
  generalize grownCap w a.size 0 5 = cap at hcv hrow0 ht0 hs0
  generalize bytesRow a cap = row at hcv hrow0 ht0 hs0
  have hla : a.data.toList.length = a.size := by rw [Array.length_toList]; rfl
  have hlb : b.data.toList.length = b.size := by rw [Array.length_toList]; rfl
  have hne : ((a.size : Int) != (b.size : Int)) = false := by simp [h]
  have H := Lib.hid h; clear h
  have HA := Lib.hid hla; clear hla
  have HB := Lib.hid hlb; clear hlb
  have HT := Lib.hid ht0; clear ht0
  go_enter Try.func50, Try.ntmps50
  go_wp2
  clear hcv
  go_loopw [17] (fun i wr => ∃ k : Nat, k ≤ a.size ∧ i = .int .i64 k ∧ (∃ cs : Array Value, cs.size = row.size ∧ cs.toList.take a.size = cells (mixL a.data.toList b.data.toList k) ∧ RowAt wr w.heap.size cs 5 (row.size, row.size + 1)) ∧ Below w.heap.size w wr) (fun i _ => a.size - (intOf i).toNat)
  case atStart => exact ⟨0, Nat.zero_le _, rfl, ⟨row, rfl, by rw [mixL_zero, HT.out], hrow0⟩, ((Below.refl _ _).alloc (Nat.le_refl _) _).drew⟩
  case round =>
    clear hrow0
    obtain ⟨k, hk, rfl, ⟨cs, hcs, hct, hrow⟩, hbel⟩ := hrel
    have HC := Lib.hid hcs; clear hcs
    have HT2 := Lib.hid hct; clear hct
    rcases Nat.lt_or_ge k a.size with hlt | hge
    · have hkb : k < b.size := by have := H.out; omega
      have c1 := hrow.cell (take_cell HT2.out (i := k) (by rw [mixL_length, HA.out]; exact hlt) hlt)
      rw [mixL_get, if_neg (Nat.lt_irrefl k)] at c1
      have f1 := hrow.free (i := k) (by simp; omega)
      clear hs0
      go_wp2
      go_region
      go_wp2
      go_roundw
      case rel =>
        refine ⟨k + 1, by omega, by go_num, ⟨cs.setIfInBounds k (u8c (a.data.toList.getD k 0 ^^^ b.data.toList.getD k 0)), by rw [Array.size_setIfInBounds, HC.out], by rw [take_set HT2.out, mixL_step], ?_⟩, (hbel.setCell (p := ⟨_, _, _⟩) (Nat.le_refl _) _).drew⟩
        have e := (hrow.store k (u8c (a.data.toList.getD k 0 ^^^ b.data.toList.getD k 0))).drew
        rw [getD_byte a k hlt, getD_byte b k hkb] at e ⊢
        exact e
      case measure => simp [intOf]; omega
    · obtain rfl : k = a.size := by omega
      have hm2 := HT2.out
      rw [← HA.out, mixL_full _ _ (by rw [HA.out, HB.out, H.out]), HA.out] at hm2
      have hst := run_str (P := Try.prog) wr 32 5 Try.underlying32 Try.underlying5 9 Try.underlying9 w.heap.size a.size cap _ 5 _ _ hrow (by
        simp only [xorL, List.length_zipWith]; rw [HA.out, HB.out, H.out, Nat.min_self]) hm2
      clear hm2 HT2
      go_wp2
      go_ret2
      exact ⟨_, rfl, Is.of _, hbel⟩

set_option maxHeartbeats 400000 in
theorem Xor_no (a b : ByteArray) (h : a.size ≠ b.size) (w : World) :
    Calls Try.prog 50 #[.string a, .string b] w fun e w' => e = .returned (.tuple #[.string ByteArray.empty, .int .i64 5]) ∧ w = w' := by
  have hne : ((a.size : Int) != (b.size : Int)) = true := by simp; omega
  clear h
  go_enter Try.func50, Try.ntmps50
  go_wp2
  go_ret2
  exact ⟨rfl, rfl⟩

theorem or_zero8 (u x : BitVec 8) : u ||| x = 0#8 ↔ u = 0#8 ∧ x = 0#8 := BitVec.or_eq_zero_iff
theorem xor_zero8 (a b : UInt8) : a.toBitVec ^^^ b.toBitVec = 0#8 ↔ a = b := by
  rw [BitVec.xor_eq_zero_iff]
  exact ⟨UInt8.toBitVec_inj.1, fun e => by rw [e]⟩
theorem same_step (a b : ByteArray) (k : Nat) (ha : k < a.size) (hb : k < b.size) (u : BitVec 8) (h : u = 0#8 ↔ a.data.toList.take k = b.data.toList.take k) :
    u ||| (a[k].toBitVec ^^^ b[k].toBitVec) = 0#8 ↔ a.data.toList.take (k + 1) = b.data.toList.take (k + 1) := by
  rw [or_zero8, xor_zero8, take_step a k ha, take_step b k hb, h]
  constructor
  · rintro ⟨h1, h2⟩; rw [h1, h2]
  · intro e
    have := List.append_inj' e rfl
    exact ⟨this.1, by simpa using this.2⟩

set_option maxHeartbeats 1000000 in
theorem Same_walk (a b : ByteArray) (hm : a.size ≤ 140737488355328) (w : World) :
    Calls Try.prog 42 #[.string a, .string b] w fun e w' => e = .returned (.bool (seq a b)) ∧ Below w.heap.size w w' := by
  by_cases h : a.size = b.size
  · have hne : ((a.size : Int) != (b.size : Int)) = false := by simp [h]
    have H := Lib.hid h; clear h
    go_enter Try.func42, Try.ntmps42
    go_wp2
    go_loopw [5, 14] (fun u i wr => ∃ k : Nat, k ≤ a.size ∧ i = .int .i64 k ∧ (∃ x : BitVec 8, u = .int .u8 (bvi x) ∧ (x = 0#8 ↔ a.data.toList.take k = b.data.toList.take k)) ∧ Below w.heap.size w wr) (fun _ i _ => a.size - (intOf i).toNat)
    case atStart => exact ⟨0, Nat.zero_le _, rfl, ⟨0#8, rfl, by simp⟩, Below.refl _ _⟩
    case round =>
      obtain ⟨k, hk, rfl, ⟨x, rfl, hx⟩, hbel⟩ := hrel
      have HX := Lib.hid hx; clear hx
      rcases Nat.lt_or_ge k a.size with hlt | hge
      · have hkb : k < b.size := by have := H.out; omega
        go_wp2
        go_region
        go_wp2
        go_roundw
        case rel => exact ⟨k + 1, by omega, by go_num, ⟨_, rfl, same_step a b k hlt hkb x HX.out⟩, hbel.drew⟩
        case measure => simp [intOf]; omega
      · obtain rfl : k = a.size := by omega
        go_wp2
        go_ret
        refine ⟨?_, hbel⟩
        refine ret_bool ?_
        have e := HX.out
        rw [take_all, H.out, take_all] at e
        rw [Bool.eq_iff_iff, beq_iff_eq, show (0 : Int) = bvi (0#8) from rfl, bvi_inj, e]
        simp [seq]
  · have hne : ((a.size : Int) != (b.size : Int)) = true := by simp; omega
    have hs : seq a b = false := seq_no.2 fun e => h (by rw [e])
    clear h
    go_enter Try.func42, Try.ntmps42
    go_wp2
    go_ret
    exact ⟨ret_bool hs.symm, Below.refl _ _⟩

set_option maxHeartbeats 1000000 in
theorem Fill_walk (s : ByteArray) (n : Int) (hs : s.size ≤ 140737488351232) (hn : n ≤ 1048576) (hn0 : -9223372036854775808 ≤ n) (w : World) :
    Calls Try.prog 67 #[.string s, .int .i64 n] w fun e w' => ∃ r, e = .returned (.string r) ∧ Is r (fillL s.data.toList n) ∧ Below w.heap.size w w' := by
  have hl : s.data.toList.length = s.size := by rw [Array.length_toList]; rfl
  by_cases h1 : n < 1
  · go_enter Try.func67, Try.ntmps67
    go_wp2_with fail
    go_ret
    exact ⟨s, rfl, by unfold fillL; rw [if_pos h1]; exact Is.self s, Below.refl _ _⟩
  · have h1' : 1 ≤ n := by omega
    have h2 := Int.emod_nonneg (s.size : Int) (show n ≠ 0 by omega)
    have h3 := Int.emod_lt_of_pos (s.size : Int) (show 0 < n by omega)
    by_cases h0 : (s.size : Int) % n = 0
    · have F := Lib.hid (fill_none s.data.toList n h1' (by rw [hl]; exact h0))
      have h0b : ((s.size : Int) % n == 0) = true := by rw [beq_iff_eq]; exact h0
      clear h0 hl
      go_enter Try.func67, Try.ntmps67
      go_wp2_with fail
      go_ret
      exact ⟨s, rfl, by rw [F.out]; exact Is.self s, Below.refl _ _⟩
    · have F := Lib.hid (fill_some s.data.toList n h1' (by rw [hl]; exact h0))
      have h0b : ((s.size : Int) % n == 0) = false := by rw [beq_eq_false_iff_ne]; exact h0
      have HL := Lib.hid hl
      clear h0 hl
      go_enter Try.func67, Try.ntmps67
      go_wp2_with fail
      obtain ⟨c, hc⟩ : ∃ c : Nat, n - (s.size : Int) % n = (c : Int) := ⟨_, (Int.toNat_of_nonneg (by omega)).symm⟩
      have hc2 : c ≤ 1048576 := by omega
      rw [hc]
      refine (Repeat_walk _ c _ (by omega) (by show 1 * c ≤ _; omega)).mono ?_
      rintro e w1 ⟨rfl, hb⟩
      have hr := Is.of (Lib.repeatL (ByteArray.mk #[0]).data.toList c)
      generalize ByteArray.mk (Lib.repeatL (ByteArray.mk #[0]).data.toList c).toArray = r at hr ⊢
      rw [show (ByteArray.mk #[0]).data.toList = [0] from rfl, repeatL_one] at hr
      have hrs : r.size ≤ 1048576 := by rw [hr.size, List.length_replicate]; exact hc2
      have HC := Lib.hid hc; clear hc
      go_wp2
      go_ret
      refine ⟨_, rfl, ?_, hb⟩
      rw [F.out, HL.out, HC.out, Int.toNat_natCast]
      exact (Is.self s).append hr
end Go.Proofs.Ytfglhemmccihfaa
namespace Go.Proofs.Ytfglhemmccihfaa
open Go.RowKit

theorem infoByte : (Try.prog.info? 5).map (fun i => (i.zero, i.size, i.bytes)) = some (some (.int .u8 0), 1, 1) := by kernel_rfl
theorem sizeBuilder : (Try.prog.info? 95).map (·.size) = some 2 := by kernel_rfl
theorem cellsByte : Try.prog.cellsOf 5 = 1 := by kernel_rfl

/-- A Builder lies at the head of a block of type T. -/
def Lies (T : TypeId) : Prop := T ≠ 5 ∧ liesAt Try.prog Try.prog.depth T (2 / Try.prog.cellsOf T) 0 95 1 = true
theorem liesBuilder : Lies 95 := ⟨by decide, by kernel_rfl⟩

theorem BuilderAtF.shapeT {T e : TypeId} {B b : Nat} {p : Value} {bs : List Value} {w : World} (h : Lib.BuilderAtF T e B b p bs w) : w.shape? b = some (T, 2) := by
  obtain ⟨_, v, hb, _⟩ := h
  simp [World.shape?, hb]
theorem BuilderAtF.free0 {T e : TypeId} {B b : Nat} {p : Value} {bs : List Value} {w : World} (h : Lib.BuilderAtF T e B b p bs w) : w.frozen? ⟨b, 0, none⟩ = false := by
  obtain ⟨_, v, hb, _⟩ := h
  simp [World.frozen?, hb]

set_option maxHeartbeats 1000000 in
set_option maxRecDepth 100000 in
theorem copyCheck_used (b : Nat) (w : World) (h0 : w.cell? ⟨b, 0, none⟩ = some (.pointer (some ⟨b, 0, none⟩))) :
    Calls Try.prog 85 #[.pointer (some ⟨b, 0, none⟩)] w fun e w' => e = .returned (.tuple #[]) ∧ w' = w := by
  obtain ⟨j, hj, _⟩ := Option.map_eq_some_iff.1 sizeBuilder
  go_enter Try.func85, Try.ntmps85
  go_wp2
  rw [Lib.run_neq_ptr_same w _ Try.underlying93 hj]
  go_wp2
  go_end0
  exact ⟨rfl, rfl⟩

set_option maxHeartbeats 1000000 in
set_option maxRecDepth 100000 in
theorem copyCheck_fresh (T : TypeId) (hT : Lies T) (b : Nat) (w : World) (h0 : w.cell? ⟨b, 0, none⟩ = some (.pointer none)) (hsh : w.shape? b = some (T, 2)) (hfz : w.frozen? ⟨b, 0, none⟩ = false) :
    Calls Try.prog 85 #[.pointer (some ⟨b, 0, none⟩)] w fun e w' => e = .returned (.tuple #[]) ∧ w' = w.setCell ⟨b, 0, none⟩ (.pointer (some ⟨b, 0, none⟩)) := by
  obtain ⟨j, hj, hjs⟩ := Option.map_eq_some_iff.1 sizeBuilder
  go_enter Try.func85, Try.ntmps85
  go_wp2
  rw [Lib.run_to_unsafe w ⟨b, 0, none⟩ Try.underlying93 Try.underlying128 hj (by rw [hjs]; decide) hsh (Nat.zero_lt_succ 1)]
  simp only [Result.andThen]
  rw [Oper.upon_value]
  go_wp2
  rw [run_callFunc_extern Try.func98 (by kernel_rfl) (by kernel_rfl) (by kernel_rfl) (e := Extern.AbiNoEscape.same) (by kernel_rfl)]
  rw [Lib.run_noEscape]
  simp only [Result.andThen]
  rw [Oper.upon_value]
  go_wp2
  rw [Lib.run_from_unsafe w ⟨b, 0, none⟩ Try.underlying128 Try.underlying93 hj hsh hT.2]
  simp only [Result.andThen]
  rw [Oper.upon_value]
  go_wp2
  go_end0
  exact ⟨rfl, rfl⟩

theorem copyCheck_k (T : TypeId) (hT : Lies T) (B b : Nat) (bs : List Value) (w : World) (h : Lib.IsBuilderF T 5 B b bs w) :
    Calls Try.prog 85 #[.pointer (some ⟨b, 0, none⟩)] w fun e w' => e = .returned (.tuple #[]) ∧ (Lib.BuilderAtF T 5 B b (.pointer (some ⟨b, 0, none⟩)) bs w' ∧ Below B w w' ∧ Lib.OthersKept 5 (some b) w w') := by
  rcases h with h | h
  · refine (copyCheck_fresh T hT b w h.cell0 (BuilderAtF.shapeT h) (BuilderAtF.free0 h)).mono ?_
    rintro e w' ⟨rfl, rfl⟩
    exact ⟨rfl, h.used _, (Below.refl B w).setCell (p := ⟨b, 0, none⟩) h.1 _, (Lib.OthersKept.refl _ _ _).setCell ⟨b, 0, none⟩ rfl _⟩
  · refine (copyCheck_used b w h.cell0).mono ?_
    rintro e w' ⟨rfl, rfl⟩
    exact ⟨rfl, h, Below.refl B _, Lib.OthersKept.refl _ _ _⟩

set_option maxHeartbeats 2000000 in
set_option maxRecDepth 100000 in
theorem WriteString_k (T : TypeId) (hT : Lies T) (B b : Nat) (bs : List Value) (s : ByteArray) (w : World) (h : Lib.IsBuilderF T 5 B b bs w) (hlen : bs.length + s.size ≤ 140737488355328) (hBw : B ≤ w.heap.size) :
    Calls Try.prog 63 #[.pointer (some ⟨b, 0, none⟩), .string s] w fun e w' => e = .returned (.tuple #[.int .i64 s.size, .nilIface]) ∧ (Lib.BuilderAtF T 5 B b (.pointer (some ⟨b, 0, none⟩)) (bs ++ Lib.strCells s) w' ∧ Below B w w' ∧ Lib.OthersKept 5 (some b) w w') := by
  obtain ⟨i0, hi, hz0, hz1, hz2⟩ := info_parts infoByte
  go_enter Try.func63, Try.ntmps63
  go_wp2_with (go_at_call 85; refine (copyCheck_k T hT B b bs _ h).mono ?_)
  rintro e w1 ⟨rfl, h1, hb1, hk1⟩
  obtain ⟨hB, v, hbk, hown, hne⟩ := h1
  have c0 : w1.cell? ⟨b, 0, none⟩ = some (.pointer (some ⟨b, 0, none⟩)) := by rw [Lib.cell_of_heap hbk]; rfl
  have c1 : w1.cell? ⟨b, 1, none⟩ = some v := by rw [Lib.cell_of_heap hbk]; rfl
  go_wp2_with (at_builtin; refine Lib.wpList_append_own_stringF _ rfl _ _ 32 9 rfl B 5 i0 Try.underlying32 Try.underlying9 hi hz0 hz1 hz2 _ _ _ rfl hown s rfl ?c3 ?c4 ?c5 ?_)
  case c3 => unfold maxLen; omega
  case c4 => omega
  case c5 => have := hb1.size; omega
  intro v' w2 hown' hgrow _
  have hlt : b < w1.heap.size := by
    rcases Nat.lt_or_ge b w1.heap.size with h' | h'
    · exact h'
    · simp [Array.getElem?_eq_none h'] at hbk
  have hb2 : w2.heap[b]? = some (.cells #[.pointer (some ⟨b, 0, none⟩), v] T (0, 0)) := by
    rw [hgrow.block b hlt (fun e => hne e.symm)]
    exact hbk
  have d0 : w2.cell? ⟨b, 0, none⟩ = some (.pointer (some ⟨b, 0, none⟩)) := by rw [Lib.cell_of_heap hb2]; rfl
  have d1 : w2.cell? ⟨b, 1, none⟩ = some v := by rw [Lib.cell_of_heap hb2]; rfl
  have f1 : w2.frozen? ⟨b, 1, none⟩ = false := Lib.frozen_of_heap hb2 1
  obtain ⟨ao, n', cap, rfl⟩ : ∃ ao n' cap, v' = .slice ao n' cap := by
    rcases hown'.2 with ⟨hv, _⟩ | ⟨g, cap, cur, fz, hv, _⟩
    · exact ⟨_, _, _, hv⟩
    · exact ⟨_, _, _, hv⟩
  go_wp2
  go_ret2
  refine ⟨rfl, ?_, ?_, (hk1.grown hgrow (Lib.ownsRowF_kind hown)).setCell ⟨b, 1, none⟩ rfl _⟩
  · exact Lib.BuilderAtF.put (T := T) (e := 5) hB hb2 (bs' := bs ++ Lib.strCells s) (by simpa [Lib.strCells_length] using hown') hT.1
  · exact (hb1.grown hgrow (by have := hb1.size; omega) (fun k hk => (hown.lt k hk).1)).setCell (p := ⟨b, 1, none⟩) hB _
end Go.Proofs.Ytfglhemmccihfaa
namespace Go.Proofs.Ytfglhemmccihfaa
open Go.RowKit

theorem unsafeString_none (W : World) (q : Option Addr) : (Builtin.unsafeString_ #[115, 3] 9 #[.pointer q, .int .i64 0]).run Try.prog W = .ok (.string ⟨#[]⟩) W :=
  Lib.run_unsafeString_none W _ _ _ q

set_option maxHeartbeats 1000000 in
set_option maxRecDepth 100000 in
theorem String_k (T : TypeId) (B b : Nat) (l : List UInt8) (w : World) (h : Lib.IsBuilderF T 5 B b (Lib.byteCells l) w) (h0 : l ≠ []) :
    Calls Try.prog 65 #[.pointer (some ⟨b, 0, none⟩)] w fun e w' => e = .returned (.string ⟨l.toArray⟩) ∧ (Lib.IsBuilderF T 5 B b (Lib.byteCells l) w' ∧ Below B w w' ∧ Lib.OthersKept 5 (some b) w w') := by
  obtain ⟨p, hp, hAt⟩ : ∃ p, (p = .pointer none ∨ p = .pointer (some ⟨b, 0, none⟩)) ∧ Lib.BuilderAtF T 5 B b p (Lib.byteCells l) w := by
    rcases h with h | h
    · exact ⟨_, .inl rfl, h⟩
    · exact ⟨_, .inr rfl, h⟩
  obtain ⟨hB, v, hbk, hown, hne⟩ := hAt
  have hl0 : l.length ≠ 0 := by simpa using h0
  rw [Lib.byteCells_length] at hown
  obtain ⟨g, cap, cur, fz, rfl, hbg, hg, hfz, hnc, hcm, hcs, htake⟩ : ∃ g cap cur fz, v = .slice (some ⟨g, 0, none⟩) l.length cap ∧ B ≤ g ∧ w.heap[g]? = some (.cells cur 5 fz) ∧ fz.2 ≤ l.length * 1 ∧ l.length ≤ cap ∧ cap ≤ maxLen ∧ cur.size = cap * 1 ∧ cur.toList.take (l.length * 1) = Lib.byteCells l := by
    rcases hown.2 with ⟨_, hz⟩ | ⟨g, cap, cur, fz, hv, r⟩
    · exact absurd hz hl0
    · exact ⟨g, cap, cur, fz, hv, r⟩
  have c1 : w.drew.cell? ⟨b, 1, none⟩ = some (.slice (some ⟨g, 0, none⟩) l.length cap) := by
    have : w.drew.heap[b]? = some (.cells #[p, .slice (some ⟨g, 0, none⟩) l.length cap] T (0, 0)) := hbk
    rw [Lib.cell_of_heap this]; rfl
  have hSD : (Builtin.unsafeSliceData_ #[32] 115 #[.slice (some ⟨g, 0, none⟩) l.length cap]).run Try.prog w.drew = .ok (.pointer (some ⟨g, 0, none⟩)) w.drew :=
    Lib.run_unsafeSliceData_row _ _ _ _ _ _ (by omega)
  have hUS : (Builtin.unsafeString_ #[115, 3] 9 #[.pointer (some ⟨g, 0, none⟩), .int .i64 l.length]).run Try.prog w.drew = .ok (.string ⟨l.toArray⟩) (w.drew.freeze ⟨g, 0, none⟩ l.length) := by
    refine Lib.run_unsafeString_row w.drew 115 3 9 5 Try.underlying115 cellsByte g cur.size (by have hg' : w.drew.heap[g]? = some (.cells cur 5 fz) := hg; simp [World.shape?, hg']) l h0 (by omega) (by unfold maxLen at hcm; omega) ?_
    intro j x hx
    have := hown.cells (g := g) rfl j (.int .u8 x.toNat) (by simp [Lib.byteCells, hx])
    exact this
  have hkeep : Lib.IsBuilderF T 5 B b (Lib.byteCells l) (w.drew.freeze ⟨g, 0, none⟩ l.length) := by
    have hA : Lib.BuilderAtF T 5 B b p (Lib.byteCells l) w.drew := ⟨hB, _, hbk, by rw [Lib.byteCells_length]; exact hown, hne⟩
    have hF := hA.froze (g := g) (cap := cap) (by rw [Lib.byteCells_length]; exact c1)
    rw [Lib.byteCells_length] at hF
    rcases hp with rfl | rfl
    · exact .inl hF
    · exact .inr hF
  go_enter Try.func65, Try.ntmps65
  go_wp2
  go_region
  all_goals (go_wp2; go_ret; exact ⟨rfl, hkeep, Lib.below_freeze (Below.drew (Below.refl B w)) (p := ⟨g, 0, none⟩) hbg _, ((Lib.OthersKept.refl _ _ w).drew).freeze ⟨g, 0, none⟩ _ ⟨cur, fz, hg⟩⟩)

set_option maxHeartbeats 2000000 in
set_option maxRecDepth 100000 in
theorem String_nil_k (T : TypeId) (B b : Nat) (p : Value) (w : World) (hbk : w.heap[b]? = some (.cells #[p, .slice none 0 0] T (0, 0))) (hA : Lib.BuilderAtF T 5 B b p [] w) :
    Calls Try.prog 65 #[.pointer (some ⟨b, 0, none⟩)] w fun e w' => e = .returned (.string ⟨#[]⟩) ∧ (Lib.BuilderAtF T 5 B b p [] w' ∧ Below B w w' ∧ Lib.OthersKept 5 (some b) w w') := by
  have hUS := unsafeString_none
  have c1 : w.drew.cell? ⟨b, 1, none⟩ = some (.slice none 0 0) := by
    have : w.drew.heap[b]? = some (.cells #[p, .slice none 0 0] T (0, 0)) := hbk
    rw [Lib.cell_of_heap this]; rfl
  have hSD : (Builtin.unsafeSliceData_ #[32] 115 #[.slice none 0 0]).run Try.prog w.drew = .ok (.pointer none) w.drew := rfl
  go_enter Try.func65, Try.ntmps65
  go_wp2
  go_region
  all_goals (go_wp2; go_ret; exact ⟨rfl, hA.drew, Below.drew (Below.refl B w), (Lib.OthersKept.refl _ _ w).drew⟩)

set_option maxHeartbeats 2000000 in
set_option maxRecDepth 100000 in
theorem String_noroom_k (T : TypeId) (B b g : Nat) (p : Value) (cur : Array Value) (w : World) (hBw : B ≤ w.heap.size) (hbk : w.heap[b]? = some (.cells #[p, .slice (some ⟨g, 0, none⟩) 0 0] T (0, 0))) (fz : Nat × Nat) (hg : w.heap[g]? = some (.cells cur 5 fz)) (hA : Lib.BuilderAtF T 5 B b p [] w) :
    Calls Try.prog 65 #[.pointer (some ⟨b, 0, none⟩)] w fun e w' => e = .returned (.string ⟨#[]⟩) ∧ (Lib.BuilderAtF T 5 B b p [] w' ∧ Below B w w' ∧ Lib.OthersKept 5 (some b) w w') := by
  have hUS := unsafeString_none
  have hlt : b < w.heap.size := by
    rcases Nat.lt_or_ge b w.heap.size with h' | h'
    · exact h'
    · simp [Array.getElem?_eq_none h'] at hbk
  have c1 : w.drew.cell? ⟨b, 1, none⟩ = some (.slice (some ⟨g, 0, none⟩) 0 0) := by
    have : w.drew.heap[b]? = some (.cells #[p, .slice (some ⟨g, 0, none⟩) 0 0] T (0, 0)) := hbk
    rw [Lib.cell_of_heap this]; rfl
  have hSD : (Builtin.unsafeSliceData_ #[32] 115 #[.slice (some ⟨g, 0, none⟩) 0 0]).run Try.prog w.drew = .ok (.pointer (some ⟨w.drew.heap.size, 0, none⟩)) (w.drew.alloc (.view ⟨g, 0, none⟩ 5)) :=
    Lib.run_unsafeSliceData_zero w.drew _ _ 5 Try.underlying115 ⟨g, 0, none⟩ 0 (5, cur.size) (by have hg' : w.drew.heap[g]? = some (.cells cur 5 fz) := hg; simp [World.shape?, hg'])
  have c2 : (w.drew.alloc (.view ⟨g, 0, none⟩ 5)).cell? ⟨b, 1, none⟩ = some (.slice (some ⟨g, 0, none⟩) 0 0) := by
    have : (w.drew.alloc (.view ⟨g, 0, none⟩ 5)).heap[b]? = _ := (Lib.alloc_old w.drew _ b hlt).trans hbk
    rw [Lib.cell_of_heap this]; rfl
  have c3 : (w.alloc (.view ⟨g, 0, none⟩ 5)).drew.cell? ⟨b, 1, none⟩ = some (.slice (some ⟨g, 0, none⟩) 0 0) := c2
  have c0 : w.cell? ⟨b, 1, none⟩ = some (.slice (some ⟨g, 0, none⟩) 0 0) := c1
  go_enter Try.func65, Try.ntmps65
  go_wp2
  go_region
  all_goals (go_wp2; go_ret; exact ⟨rfl, hA.drew.alloc _, (Below.drew (Below.refl B w)).alloc hBw _, ((Lib.OthersKept.refl _ _ w).drew).alloc _⟩)

set_option maxHeartbeats 2000000 in
set_option maxRecDepth 100000 in
theorem String_room_k (T : TypeId) (B b g cap : Nat) (p : Value) (w : World) (hc0 : cap ≠ 0) (hbk : w.heap[b]? = some (.cells #[p, .slice (some ⟨g, 0, none⟩) 0 cap] T (0, 0))) (hA : Lib.BuilderAtF T 5 B b p [] w) :
    Calls Try.prog 65 #[.pointer (some ⟨b, 0, none⟩)] w fun e w' => e = .returned (.string ⟨#[]⟩) ∧ (Lib.BuilderAtF T 5 B b p [] w' ∧ Below B w w' ∧ Lib.OthersKept 5 (some b) w w') := by
  have hUS := unsafeString_none
  have c1 : w.drew.cell? ⟨b, 1, none⟩ = some (.slice (some ⟨g, 0, none⟩) 0 cap) := by
    have : w.drew.heap[b]? = some (.cells #[p, .slice (some ⟨g, 0, none⟩) 0 cap] T (0, 0)) := hbk
    rw [Lib.cell_of_heap this]; rfl
  have hSD : (Builtin.unsafeSliceData_ #[32] 115 #[.slice (some ⟨g, 0, none⟩) 0 cap]).run Try.prog w.drew = .ok (.pointer (some ⟨g, 0, none⟩)) w.drew :=
    Lib.run_unsafeSliceData_row _ _ _ _ _ _ hc0
  clear hc0
  go_enter Try.func65, Try.ntmps65
  go_wp2
  go_region
  all_goals (go_wp2; go_ret; exact ⟨rfl, hA.drew, Below.drew (Below.refl B w), (Lib.OthersKept.refl _ _ w).drew⟩)

theorem String_empty_k (T : TypeId) (B b : Nat) (w : World) (h : Lib.IsBuilderF T 5 B b [] w) (hBw : B ≤ w.heap.size) :
    Calls Try.prog 65 #[.pointer (some ⟨b, 0, none⟩)] w fun e w' => e = .returned (.string ⟨#[]⟩) ∧ (Lib.IsBuilderF T 5 B b [] w' ∧ Below B w w' ∧ Lib.OthersKept 5 (some b) w w') := by
  obtain ⟨p, hp, hA⟩ : ∃ p, (p = .pointer none ∨ p = .pointer (some ⟨b, 0, none⟩)) ∧ Lib.BuilderAtF T 5 B b p [] w := by
    rcases h with h | h
    · exact ⟨_, .inl rfl, h⟩
    · exact ⟨_, .inr rfl, h⟩
  have fin : ∀ (e : Ending) (w' : World), (e = .returned (.string ⟨#[]⟩) ∧ (Lib.BuilderAtF T 5 B b p [] w' ∧ Below B w w' ∧ Lib.OthersKept 5 (some b) w w')) → e = .returned (.string ⟨#[]⟩) ∧ (Lib.IsBuilderF T 5 B b [] w' ∧ Below B w w' ∧ Lib.OthersKept 5 (some b) w w') := by
    rintro e w' ⟨he, hk, hb, ho⟩
    rcases hp with rfl | rfl
    · exact ⟨he, .inl hk, hb, ho⟩
    · exact ⟨he, .inr hk, hb, ho⟩
  have hA' := hA
  obtain ⟨hB, v, hbk, hown, hne⟩ := hA
  rcases hown.2 with ⟨rfl, _⟩ | ⟨g, cap, cur, fz, rfl, hbg, hg, _, _, _, _, _⟩
  · exact (String_nil_k T B b p w hbk hA').mono fin
  · by_cases hc0 : cap = 0
    · subst hc0
      exact (String_noroom_k T B b g p cur w hBw hbk fz hg hA').mono fin
    · exact (String_room_k T B b g cap p w hc0 hbk hA').mono fin

theorem String_any_k (T : TypeId) (B b : Nat) (l : List UInt8) (w : World) (h : Lib.IsBuilderF T 5 B b (Lib.byteCells l) w) (hBw : B ≤ w.heap.size) :
    Calls Try.prog 65 #[.pointer (some ⟨b, 0, none⟩)] w fun e w' => e = .returned (.string ⟨l.toArray⟩) ∧ (Lib.IsBuilderF T 5 B b (Lib.byteCells l) w' ∧ Below B w w' ∧ Lib.OthersKept 5 (some b) w w') := by
  cases l with
  | nil => exact String_empty_k T B b w h hBw
  | cons x r => exact String_k T B b (x :: r) w h (by simp)

end Go.Proofs.Ytfglhemmccihfaa
namespace Go.Proofs.Ytfglhemmccihfaa
open Go.RowKit

theorem builder_below {T e : TypeId} {B b : Nat} {p : Value} {bs : List Value} {w w' : World} (h : Lib.BuilderAtF T e B b p bs w) (hb : Below w.heap.size w w') : Lib.BuilderAtF T e B b p bs w' := by
  obtain ⟨hB, v, hbk, hown, hne⟩ := h
  have hlt : b < w.heap.size := (Array.getElem?_eq_some_iff.1 hbk).1
  refine ⟨hB, v, (hb.block b hlt).trans hbk, ?_, hne⟩
  refine ⟨hown.1, ?_⟩
  rcases hown.2 with hn | ⟨g, cap, cur, fz, hv, hBg, hg, rest⟩
  · exact .inl hn
  · exact .inr ⟨g, cap, cur, fz, hv, hBg, (hb.block g (Array.getElem?_eq_some_iff.1 hg).1).trans hg, rest⟩
theorem isBuilder_below {T e : TypeId} {B b : Nat} {bs : List Value} {w w' : World} (h : Lib.IsBuilderF T e B b bs w) (hb : Below w.heap.size w w') : Lib.IsBuilderF T e B b bs w' :=
  h.elim (fun x => .inl (builder_below x hb)) (fun x => .inr (builder_below x hb))
theorem kept_below {e : TypeId} {b : Option Nat} {w w' : World} (hb : Below w.heap.size w w') : Lib.OthersKept e b w w' := fun k _ hk _ _ => (hb.block k (Array.getElem?_eq_some_iff.1 hk).1).trans hk
theorem isBuilder_lt {T e : TypeId} {B b : Nat} {bs : List Value} {w : World} (h : Lib.IsBuilderF T e B b bs w) : b < w.heap.size := by
  rcases h with ⟨_, v, hbk, _⟩ | ⟨_, v, hbk, _⟩
  all_goals exact (Array.getElem?_eq_some_iff.1 hbk).1
/-- A new builder. -/
theorem isBuilder_new (T e : TypeId) {B : Nat} {w : World} (hB : B ≤ w.heap.size) : Lib.IsBuilderF T e B w.heap.size [] (w.alloc (.cells #[.pointer none, .slice none 0 0] T)) :=
  .inl ⟨hB, _, RowAt.new w _ _ _, World.ownsRowF_nil _ _ _ _, by simp [Value.ownBlock]⟩
theorem strCells_cells {s : ByteArray} {l : List UInt8} (h : Is s l) : Lib.strCells s = cells l := by
  rw [← h.out]; rfl

end Go.Proofs.Ytfglhemmccihfaa
namespace Go.Proofs.Ytfglhemmccihfaa
open Go.RowKit

/-- How many bytes there are. -/
theorem Len_k (T : TypeId) (B b : Nat) (bs : List Value) (w : World) (h : Lib.IsBuilderF T 5 B b bs w) :
    Calls Try.prog 75 #[.pointer (some ⟨b, 0, none⟩)] w fun e w' => e = .returned (.int .i64 bs.length) ∧ w = w' := by
  obtain ⟨p, v, hbk, hown⟩ : ∃ p v, w.heap[b]? = some (.cells #[p, v] T (0, 0)) ∧ w.ownsRowF B 5 1 v bs.length bs := by
    rcases h with ⟨_, v, hbk, hown, _⟩ | ⟨_, v, hbk, hown, _⟩
    · exact ⟨_, v, hbk, hown⟩
    · exact ⟨_, v, hbk, hown⟩
  have c1 : w.cell? ⟨b, 1, none⟩ = some v := RowAt.cell (i := 1) hbk rfl
  rcases hown.2 with ⟨rfl, hz⟩ | ⟨g, cap, cur, fz, rfl, _⟩
  · have HZ := Lib.hid hz
    clear hz hown hbk h
    go_enter Try.func75, Try.ntmps75
    go_wp2_with fail
    go_ret
    exact ⟨by rw [HZ.out]; rfl, rfl⟩
  · clear hown hbk h
    go_enter Try.func75, Try.ntmps75
    go_wp2_with fail
    go_ret
    exact ⟨rfl, rfl⟩
end Go.Proofs.Ytfglhemmccihfaa

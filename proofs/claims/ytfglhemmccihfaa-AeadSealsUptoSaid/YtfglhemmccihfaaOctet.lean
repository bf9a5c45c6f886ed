/-
  Layer 1, the program's package octet: each function returns what XPlain says.
-/
import Derived.Test.YtfglhemmccihfaaPlain
import Derived.Test.YtfglhemmccihfaaRows
namespace Go.Proofs.Ytfglhemmccihfaa
open Go.RowKit

theorem left_eq (x : BitVec 32) (n : Int) :
    x <<< ((n % 18446744073709551616).toNat % 32) ||| x >>> ((18446744073709551616 - (n % 18446744073709551616).toNat % 32 + 32) % 18446744073709551616) = rolI x n := by
  have h : (n % 18446744073709551616).toNat % 32 = (n % 32).toNat := by omega
  rw [h]
  have hk : (n % 32).toNat < 32 := by omega
  rw [show (18446744073709551616 - (n % 32).toNat + 32) % 18446744073709551616 = 32 - (n % 32).toNat by omega, rol_or _ _ hk]
  rfl

set_option maxHeartbeats 400000 in
theorem Left_walk (x : BitVec 32) (n : Int) (w : World) :
    Calls Try.prog 84 #[.int .u32 (bvi x), .int .i64 n] w fun e w' => e = .returned (.int .u32 (bvi (rolI x n))) ∧ w = w' := by
  go_enter Try.func84, Try.ntmps84
  go_wp2
  go_ret
  exact ⟨ret_bvi (left_eq x n), rfl⟩

theorem right_arg (n : Int) : wrap64 (32 - wrap64 (bvi (BitVec.ofInt 64 n % 32#64))) = 32 - n % 32 := by
  have h : bvi (BitVec.ofInt 64 n % 32#64) = n % 32 := by
    unfold bvi
    rw [BitVec.toNat_umod, BitVec.toNat_ofInt]
    simp
    omega
  rw [h]
  unfold wrap64
  omega
theorem right_eq (x : BitVec 32) (n : Int) : rolI x (32 - n % 32) = rorI x n := by
  unfold rolI rorI
  congr 2
  omega

set_option maxHeartbeats 400000 in
theorem Right_walk (x : BitVec 32) (n : Int) (w : World) :
    Calls Try.prog 133 #[.int .u32 (bvi x), .int .i64 n] w fun e w' => e = .returned (.int .u32 (bvi (rorI x n))) ∧ w = w' := by
  go_enter Try.func133, Try.ntmps133
  go_wp2_with fail
  rw [right_arg]
  refine (Left_walk _ _ _).mono ?_
  rintro e w' ⟨rfl, rfl⟩
  go_wp2
  go_ret
  exact ⟨ret_bvi (right_eq x n), rfl⟩

theorem hiV_step (s : ByteArray) (k : Nat) (h : k < s.size) : hiV (s.data.toList.take k) <<< 8 ||| BitVec.setWidth 64 s[k].toBitVec = hiV (s.data.toList.take (k + 1)) := by
  rw [take_step s k h, hiV_snoc]

set_option maxHeartbeats 400000 in
theorem FromHigh_ok (s : ByteArray) (hs : s.size ≤ 8) (w : World) :
    Calls Try.prog 134 #[.string s] w fun e w' => e = .returned (.tuple #[.int .u64 (bvi (hiV s.data.toList)), .int .i64 0]) ∧ w = w' := by
  go_enter Try.func134, Try.ntmps134
  go_wp2
  go_loop [4, 11] (fun x i => ∃ k : Nat, k ≤ s.size ∧ i = .int .i64 k ∧ x = .int .u64 (bvi (hiV (s.data.toList.take k)))) (fun _ i => s.size - (intOf i).toNat)
  case atStart => exact ⟨0, Nat.zero_le _, rfl, rfl⟩
  case round =>
    obtain ⟨k, hk, rfl, rfl⟩ := hrel
    rcases Nat.lt_or_ge k s.size with hlt | hge
    · go_wp2
      go_round
      case rel => exact ⟨k + 1, by omega, by go_num, by rw [hiV_step s k hlt]⟩
      case measure => simp [intOf]; omega
    · obtain rfl : k = s.size := by omega
      go_wp2
      go_ret2
      exact ⟨ret_val (by rw [take_all]; rfl), rfl⟩

set_option maxHeartbeats 400000 in
theorem FromHigh_big (s : ByteArray) (hs : 8 < s.size) (w : World) :
    Calls Try.prog 134 #[.string s] w fun e w' => e = .returned (.tuple #[.int .u64 0, .int .i64 5]) ∧ w = w' := by
  go_enter Try.func134, Try.ntmps134
  go_wp2
  go_ret2
  exact ⟨rfl, rfl⟩

theorem loV_step (s : ByteArray) (k : Nat) (h : k < s.size) : loV (s.data.toList.take k) ||| (BitVec.setWidth 64 s[k].toBitVec <<< (8 * k)) = loV (s.data.toList.take (k + 1)) := by
  rw [take_step s k h, loV_snoc, List.length_take, Nat.min_eq_left]
  rw [Array.length_toList]; exact Nat.le_of_lt h

set_option maxHeartbeats 400000 in
theorem FromLow_ok (s : ByteArray) (hs : s.size ≤ 8) (w : World) :
    Calls Try.prog 83 #[.string s] w fun e w' => e = .returned (.tuple #[.int .u64 (bvi (loV s.data.toList)), .int .i64 0]) ∧ w = w' := by
  go_enter Try.func83, Try.ntmps83
  go_wp2
  go_loop [4, 11] (fun x i => ∃ k : Nat, k ≤ s.size ∧ i = .int .i64 k ∧ x = .int .u64 (bvi (loV (s.data.toList.take k)))) (fun _ i => s.size - (intOf i).toNat)
  case atStart => exact ⟨0, Nat.zero_le _, rfl, rfl⟩
  case round =>
    obtain ⟨k, hk, rfl, rfl⟩ := hrel
    rcases Nat.lt_or_ge k s.size with hlt | hge
    · have h0 : (0 : Int) ≤ 8 * (k : Int) := by omega
      go_wp2
      go_round
      case rel =>
        exact ⟨k + 1, by omega, by go_num, by rw [← loV_step s k hlt]⟩
      case measure => simp [intOf]; omega
    · obtain rfl : k = s.size := by omega
      go_wp2
      go_ret2
      exact ⟨ret_val (by rw [take_all]; rfl), rfl⟩

set_option maxHeartbeats 400000 in
theorem FromLow_big (s : ByteArray) (hs : 8 < s.size) (w : World) :
    Calls Try.prog 83 #[.string s] w fun e w' => e = .returned (.tuple #[.int .u64 0, .int .i64 5]) ∧ w = w' := by
  go_enter Try.func83, Try.ntmps83
  go_wp2
  go_ret2
  exact ⟨rfl, rfl⟩

theorem infoU8 : (Try.prog.info? 5).map (fun i => (i.zero, i.size, i.bytes)) = some (some (.int .u8 0), 1, 1) := by kernel_rfl

set_option maxHeartbeats 400000 in
theorem bytes_walk (x : BitVec 64) (n : Int) (w : World) :
    Calls Try.prog 69 #[.int .u64 (bvi x), .int .i64 n] w fun e w' =>
      e = .returned (.slice (some ⟨w.heap.size, 0, none⟩) (cut n) (cut n)) ∧ w.alloc (.cells (cells (lowL x (cut n))).toArray 5) = w' := by
  obtain ⟨i0, hi, hz0, hz1, hz2⟩ := info_parts infoU8
  have hm : min (max n 0) 64 = (cut n : Int) := by unfold cut; omega
  have hm64 : cut n ≤ 64 := by unfold cut; omega
  generalize cut n = m at hm hm64
  have hmk := run_make (P := Try.prog) w 32 5 i0 (.int .u8 0) Try.underlying32 hi hz0 .i64 .i64 m m (by omega) (by omega) (by rw [hz2]; omega) (by omega)
  rw [hz1] at hmk; simp only [Int.toNat_natCast, Nat.mul_one] at hmk
  clear hi hz0 hz1 hz2
  go_enter Try.func69, Try.ntmps69
  go_wp2
  clear hm hmk
  go_loopw [0, 13] (fun y i wr => ∃ k : Nat, k ≤ m ∧ i = .int .i64 k ∧ y = .int .u64 (bvi (x >>> (8 * k))) ∧ wr = w.alloc (.cells (lowA x m k) 5)) (fun _ i _ => m - (intOf i).toNat)
  case atStart => exact ⟨0, Nat.zero_le _, rfl, by simp, by rw [lowA_zero]⟩
  case round =>
    obtain ⟨k, hk, rfl, rfl, rfl⟩ := hrel
    rcases Nat.lt_or_ge k m with hlt | hge
    · have hc := lowA_at x m k hlt
      go_wp2
      go_roundw
      case rel => exact ⟨k + 1, by omega, by go_num, by rw [← BitVec.shiftRight_add]; rfl, by rw [← lowA_set x m k hlt]⟩
      case measure => simp [intOf]; omega
    · obtain rfl : k = m := by omega
      go_wp2
      go_ret
      exact ⟨rfl, by rw [lowA_full]⟩

set_option maxHeartbeats 400000 in
theorem Low_walk (x : BitVec 64) (n : Int) (w : World) :
    Calls Try.prog 64 #[.int .u64 (bvi x), .int .i64 n] w fun e w' => ∃ r, e = .returned (.string r) ∧ Is r (lowL x (cut n)) ∧ Below w.heap.size w w' := by
  have hst := run_str (P := Try.prog) (w.alloc (.cells (cells (lowL x (cut n))).toArray 5)) 32 5 Try.underlying32 Try.underlying5 9 Try.underlying9 w.heap.size (cut n) (cut n) _ 5 (0, 0) (lowL x (cut n)) (RowAt.new w _ _ _) (lowL_length _ _) (by
    rw [List.take_of_length_le]; rw [cells_length, lowL_length]; exact Nat.le_refl _)
  go_enter Try.func64, Try.ntmps64
  go_wp2_with fail
  refine (bytes_walk _ _ _).mono ?_
  rintro e w' ⟨rfl, rfl⟩
  go_wp2
  go_ret
  exact ⟨_, rfl, Is.of _, (Below.refl _ _).alloc (Nat.le_refl _) _⟩

set_option maxHeartbeats 1000000 in
theorem High_walk (x : BitVec 64) (n : Int) (w : World) :
    Calls Try.prog 44 #[.int .u64 (bvi x), .int .i64 n] w fun e w' => ∃ r, e = .returned (.string r) ∧ Is r (highL x (cut n)) ∧ Below w.heap.size w w' := by
  go_enter Try.func44, Try.ntmps44
  go_wp2_with fail
  refine (bytes_walk _ _ _).mono ?_
  have hL := lowL_length x (cut n)
  have hm64 : cut n ≤ 64 := by unfold cut; omega
  generalize hl : lowL x (cut n) = l at hL ⊢
  have HL := Lib.hid (show highL x (cut n) = l.reverse by rw [highL, hl]); clear hl
  generalize cut n = m at hL hm64 ⊢
  subst hL
  rintro e w' ⟨rfl, rfl⟩
  go_wp2
  go_loopw [13] (fun i wr => ∃ k : Nat, k ≤ l.length / 2 ∧ i = .int .i64 k ∧ RowAt wr w.heap.size (cells (swL l k)).toArray 5 (0, 0) ∧ Below w.heap.size w wr) (fun i _ => l.length - (intOf i).toNat)
  case atStart => exact ⟨0, Nat.zero_le _, rfl, by rw [swL_zero]; exact RowAt.new _ _ _ _, (Below.refl _ _).alloc (Nat.le_refl _) _⟩
  case round =>
    obtain ⟨k, hk, rfl, hrow, hbel⟩ := hrel
    rcases Nat.lt_or_ge k (l.length / 2) with hlt | hge
    · have hk2 : 2 * k + 1 < l.length := by omega
      have hsl := swL_length l k
      obtain ⟨g1, g2⟩ := swL_at l k hk2
      have c1 := hrow.cell (i := k) (by rw [List.getElem?_toArray, cells_get (by omega)])
      have c2 := hrow.cell (i := l.length - 1 - k) (by rw [List.getElem?_toArray, cells_get (by omega)])
      rw [g1] at c1; rw [g2] at c2
      have f1 := hrow.free (i := k) (by simp)
      have f2 := hrow.free (i := l.length - 1 - k) (by simp)
      clear g1 g2
      go_wp2
      go_region
      go_wp2
      go_roundw
      case rel =>
        have e1 := (hrow.store k (u8c (l.getD (l.length - 1 - k) 0))).store (l.length - 1 - k) (u8c (l.getD k 0))
        rw [List.setIfInBounds_toArray, List.setIfInBounds_toArray, cells_set, cells_set, swL_step l k hk2] at e1
        exact ⟨k + 1, by omega, by go_num, e1.drew, ((hbel.setCell (p := ⟨_, _, _⟩) (Nat.le_refl _) _).setCell (p := ⟨_, _, _⟩) (Nat.le_refl _) _).drew⟩
      case measure => simp [intOf]; omega
    · obtain rfl : k = l.length / 2 := by omega
      rw [swL_full] at hrow
      have hst := run_str (P := Try.prog) wr 32 5 Try.underlying32 Try.underlying5 9 Try.underlying9 w.heap.size l.length l.length _ 5 (0, 0) l.reverse hrow (by simp) (by
        rw [List.take_of_length_le]; rw [cells_length]; simp)
      go_wp2
      go_ret
      exact ⟨_, rfl, by rw [HL.out]; exact Is.of _, hbel⟩

end Go.Proofs.Ytfglhemmccihfaa

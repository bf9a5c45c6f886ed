/-
Layer 1, the references: each returns what XPlain says.
Layer 1, the references: Turned, High, FromHigh, FromLow, Xor, Fill.
Layer 5, the reference's package posthornref05: digits, carried, digit, plus, times, high, low, some.
Layer 5, the reference's package posthornref05: high, low, some, Modulo.
-/
import Derived.Test.YtfglhemmccihfaaRows
import Derived.Deep.RegionLaw
import Derived.Deep.QuietTactic
import Derived.BigQuiet
import Derived.Outline
import Derived.Deep.LoopGhost
import Derived.Test.YtfglhemmccihfaaMa
import Derived.Test.YtfglhemmccihfaaMb
namespace Go.Proofs.Ytfglhemmccihfaa
open Go.RowKit

theorem infoB : (Try.prog.info? 5).map (fun i => (i.zero, i.size, i.bytes)) = some (some (.int .u8 0), 1, 1) := by kernel_rfl

set_option maxHeartbeats 400000 in
theorem RRound_walk (n k : Int) (hk : 0 < k) (hk2 : k ≤ 1073741824) (w : World) :
    Calls Try.prog 68 #[.int .i64 n, .int .i64 k] w fun e w' => e = .returned (.int .i64 (n % k)) ∧ w = w' := by
  have e1 := Int.emod_nonneg n (show k ≠ 0 by omega)
  have e2 := Int.emod_lt_of_pos n hk
  have e3 : n.tmod k = if 0 ≤ n then n % k else -((-n) % k) := by
    split
    · exact Int.tmod_eq_emod_of_nonneg (by assumption)
    · rw [← Int.neg_neg (n.tmod k), ← Int.neg_tmod, Int.tmod_eq_emod_of_nonneg (by omega)]
  have e4 : (-n) % k = if n % k = 0 then 0 else k - n % k := by
    rw [Int.neg_emod]
    split
    · rename_i h; rw [if_pos (Int.emod_eq_zero_of_dvd h)]
    · rename_i h; rw [if_neg (fun e => h (Int.dvd_of_emod_eq_zero e))]; omega
  by_cases h : n.tmod k < 0
  · have hr : wrap64 (n.tmod k + k) = n % k := by
      rw [IntWalk.wrap64_in _ (by split at e3 <;> split at e4 <;> omega)]
      split at e3 <;> split at e4 <;> omega
    have HR := Lib.hid hr
    clear hr e1 e2 e3 e4
    go_enter Try.func68, Try.ntmps68
    go_wp2
    go_ret
    exact ⟨ret_int HR.out, rfl⟩
  · have HR := Lib.hid (show n.tmod k = n % k by split at e3 <;> split at e4 <;> omega)
    clear e1 e2 e3 e4
    go_enter Try.func68, Try.ntmps68
    go_wp2
    go_ret
    exact ⟨ret_int HR.out, rfl⟩

theorem rol_next (x : BitVec 32) (k : Nat) : (x.rotateLeft k).rotateLeft 1 = x.rotateLeft (k + 1) := rol_rol x k 1

set_option maxHeartbeats 400000 in
theorem RLeft_walk (x : BitVec 32) (n : Int) (w : World) :
    Calls Try.prog 112 #[.int .u32 (bvi x), .int .i64 n] w fun e w' => e = .returned (.int .u32 (bvi (rolI x n))) ∧ w = w' := by
  have e1 := Int.emod_nonneg n (show (32 : Int) ≠ 0 by omega)
  have e2 := Int.emod_lt_of_pos n (show (0 : Int) < 32 by omega)
  go_enter Try.func112, Try.ntmps112
  go_wp2
  go_loop [0, 5] (fun y i => ∃ k : Nat, (k : Int) ≤ n % 32 ∧ i = .int .i64 k ∧ y = .int .u32 (bvi (x.rotateLeft k))) (fun _ i => 32 - (intOf i).toNat)
  case atStart => exact ⟨0, by omega, rfl, by rw [rol_zero]⟩
  case round =>
    obtain ⟨k, hk, rfl, rfl⟩ := hrel
    by_cases hlt : (k : Int) < n % 32
    · go_wp2_with (go_at_call 68; refine (RRound_walk n 32 (by omega) (by omega) _).mono ?_; rintro e w' ⟨rfl, rfl⟩)
      go_round
      case rel => exact ⟨k + 1, by omega, by go_num, by rw [← rol_next, ← rol_one]⟩
      case measure => simp [intOf]; omega
    · have hfin : (k : Int) = n % 32 := by omega
      have HF := Lib.hid hfin
      clear hfin
      go_wp2_with (go_at_call 68; refine (RRound_walk n 32 (by omega) (by omega) _).mono ?_; rintro e w' ⟨rfl, rfl⟩)
      go_ret
      refine ⟨ret_bvi ?_, rfl⟩
      unfold rolI
      rw [← HF.out]; simp

set_option maxHeartbeats 400000 in
theorem RRight_walk (x : BitVec 32) (n : Int) (w : World) :
    Calls Try.prog 122 #[.int .u32 (bvi x), .int .i64 n] w fun e w' => e = .returned (.int .u32 (bvi (rorI x n))) ∧ w = w' := by
  have e1 := Int.emod_nonneg n (show (32 : Int) ≠ 0 by omega)
  have e2 := Int.emod_lt_of_pos n (show (0 : Int) < 32 by omega)
  go_enter Try.func122, Try.ntmps122
  go_wp2_with fail
  refine (RRound_walk n 32 (by omega) (by omega) _).mono ?_
  rintro e w' ⟨rfl, rfl⟩
  go_wp2_with fail
  refine (RLeft_walk _ _ _).mono ?_
  rintro e w' ⟨rfl, rfl⟩
  go_wp2_with fail
  go_ret
  refine ⟨ret_bvi ?_, rfl⟩
  unfold rolI rorI
  congr 2
  omega

theorem low_step (x : BitVec 64) (k : Nat) : lowL x k ++ [⟨BitVec.setWidth 8 (x >>> (8 * k) % 256#64)⟩] = lowL x (k + 1) := by
  rw [lowL]
  congr 3
  apply BitVec.eq_of_toNat_eq
  simp
theorem shr_step (x : BitVec 64) (k : Nat) : x >>> (8 * k) / 256#64 = x >>> (8 * (k + 1)) := by
  apply BitVec.eq_of_toNat_eq
  simp only [BitVec.toNat_udiv, BitVec.toNat_ushiftRight, Nat.shiftRight_eq_div_pow]
  rw [show 8 * (k + 1) = 8 * k + 8 by omega, Nat.pow_add, ← Nat.div_div_eq_div_mul]
  rfl

set_option maxRecDepth 100000 in
set_option maxHeartbeats 1000000 in
theorem RLow_walk (x : BitVec 64) (n : Int) (w : World) :
    Calls Try.prog 41 #[.int .u64 (bvi x), .int .i64 n] w fun e w' => ∃ r, e = .returned (.string r) ∧ Is r (lowL x (cut n)) ∧ Below w.heap.size w w' := by
  have hm64 : cut n ≤ 64 := by unfold cut; omega
  have hc1 : ∀ k : Nat, k < cut n → (k : Int) < n ∧ (k : Int) < 64 := fun k h => by unfold cut at h; omega
  have hc2 : n ≤ (cut n : Int) ∨ ((cut n : Int) < n ∧ (64 : Int) ≤ cut n) := by unfold cut; omega
  generalize hm : cut n = m at hm64 hc1 hc2
  have HM := Lib.hid hm; clear hm
  have HC1 := Lib.hid hc1; clear hc1
  have HC2 := Lib.hid hc2; clear hc2
  go_enter Try.func41, Try.ntmps41
  go_wp2
  go_loopw [0, 5, 6] (fun y v i wr => ∃ k : Nat, k ≤ m ∧ i = .int .i64 k ∧ y = .int .u64 (bvi (x >>> (8 * k))) ∧ wr.ownsRow w.heap.size 5 1 v k (cells (lowL x k)) ∧ Below w.heap.size w wr) (fun _ _ i _ => m - (intOf i).toNat)
  case atStart => exact ⟨0, Nat.zero_le _, rfl, by simp, owns_zero w _ (Nat.le_refl _), (Below.refl _ _).alloc (Nat.le_refl _) _⟩
  case round =>
    obtain ⟨k, hk, rfl, rfl, hown, hbel⟩ := hrel
    rcases Nat.lt_or_ge k m with hlt | hge
    · obtain ⟨h1, h2⟩ := HC1.out k hlt
      go_wp2_with (at_builtin; refine append_one rfl _ _ 32 rfl wr w.heap.size 5 (.int .u8 0) 1 Try.underlying32 infoB rfl hown rfl _ rfl rfl ?c1 ?c2 ?c3 ?_)
      case c1 => omega
      case c2 => omega
      case c3 => have := hbel.size; omega
      intro v' w1 hown' hb1 _ _
      clear hown h1 h2
      go_wp2
      go_roundw
      case rel => exact ⟨k + 1, by omega, by go_num, by rw [shr_step], by rw [← low_step, cells_append]; exact hown', hbel.trans hb1⟩
      case measure => simp [intOf]; omega
    · obtain rfl : k = m := by omega
      have hst := run_str_own (P := Try.prog) wr 32 5 Try.underlying32 Try.underlying5 9 Try.underlying9 _ k _ (lowL x k) hown
      clear hown
      rcases HC2.out with h1 | ⟨h1, h2⟩
      · go_wp2
        go_ret
        exact ⟨_, rfl, HM.out ▸ Is.of _, hbel⟩
      · go_wp2
        go_ret
        exact ⟨_, rfl, HM.out ▸ Is.of _, hbel⟩
end Go.Proofs.Ytfglhemmccihfaa
namespace Go.Proofs.Ytfglhemmccihfaa
open Go.RowKit

theorem turned_step (s : ByteArray) (k : Nat) (h : k < s.size) : s.data.toList.reverse.take k ++ [s[s.size - 1 - k]'(by omega)] = s.data.toList.reverse.take (k + 1) := by
  have hl : s.data.toList.length = s.size := by rw [Array.length_toList]; rfl
  rw [List.take_succ_eq_append_getElem (by rw [List.length_reverse, hl]; exact h), List.getElem_reverse]
  congr 2

set_option maxRecDepth 100000 in
set_option maxHeartbeats 1000000 in
theorem RTurned_walk (s : ByteArray) (hs : s.size ≤ 140737488351232) (w : World) :
    Calls Try.prog 74 #[.string s] w fun e w' => ∃ r, e = .returned (.string r) ∧ Is r s.data.toList.reverse ∧ Below w.heap.size w w' := by
  go_enter Try.func74, Try.ntmps74
  go_wp2
  go_loopw [3, 4] (fun v i wr => ∃ k : Nat, k ≤ s.size ∧ i = .int .i64 k ∧ wr.ownsRow w.heap.size 5 1 v k (cells (s.data.toList.reverse.take k)) ∧ Below w.heap.size w wr) (fun _ i _ => s.size - (intOf i).toNat)
  case atStart => exact ⟨0, Nat.zero_le _, rfl, owns_zero w _ (Nat.le_refl _), (Below.refl _ _).alloc (Nat.le_refl _) _⟩
  case round =>
    obtain ⟨k, hk, rfl, hown, hbel⟩ := hrel
    rcases Nat.lt_or_ge k s.size with hlt | hge
    · have hlt2 : s.size - 1 - k < s.size := by omega
      go_wp2_with (at_builtin; refine append_one rfl _ _ 32 rfl wr w.heap.size 5 (.int .u8 0) 1 Try.underlying32 infoB rfl hown rfl _ rfl rfl ?c1 ?c2 ?c3 ?_)
      case c1 => omega
      case c2 => omega
      case c3 => have := hbel.size; omega
      intro v' w1 hown' hb1 _ _
      clear hown
      go_wp2
      go_roundw
      case rel => exact ⟨k + 1, by omega, by go_num, by rw [← turned_step s k hlt, cells_append]; exact hown', hbel.trans hb1⟩
      case measure => simp [intOf]; omega
    · obtain rfl : k = s.size := by omega
      have hst := run_str_own (P := Try.prog) wr 32 5 Try.underlying32 Try.underlying5 9 Try.underlying9 _ _ _ _ hown
      clear hown
      go_wp2
      go_ret
      exact ⟨_, rfl, by unfold Is; rw [List.take_of_length_le (by rw [List.length_reverse, Array.length_toList]; exact Nat.le_refl _)], hbel⟩

set_option maxHeartbeats 400000 in
theorem RHigh_walk (x : BitVec 64) (n : Int) (w : World) :
    Calls Try.prog 47 #[.int .u64 (bvi x), .int .i64 n] w fun e w' => ∃ r, e = .returned (.string r) ∧ Is r (highL x (cut n)) ∧ Below w.heap.size w w' := by
  go_enter Try.func47, Try.ntmps47
  go_wp2_with fail
  refine (RLow_walk _ _ _).mono ?_
  rintro e w1 ⟨r, rfl, hr, hb⟩
  have hrs : r.size ≤ 64 := by rw [hr.size, lowL_length]; unfold cut; omega
  go_wp2_with fail
  refine (RTurned_walk r (by omega) _).mono ?_
  rintro e w2 ⟨r2, rfl, hr2, hb2⟩
  go_wp2_with fail
  go_ret
  refine ⟨_, rfl, ?_, hb.trans (hb2.mono hb.size)⟩
  rw [hr.out] at hr2
  exact hr2

set_option maxHeartbeats 400000 in
theorem RFromHigh_ok (s : ByteArray) (hs : s.size ≤ 8) (w : World) :
    Calls Try.prog 99 #[.string s] w fun e w' => e = .returned (.tuple #[.int .u64 (bvi (hiV s.data.toList)), .int .i64 0]) ∧ w = w' := by
  go_enter Try.func99, Try.ntmps99
  go_wp2
  go_loop [4, 5] (fun x i => ∃ k : Nat, k ≤ s.size ∧ i = .int .i64 k ∧ x = .int .u64 (bvi (hiV (s.data.toList.take k)))) (fun _ i => s.size - (intOf i).toNat)
  case atStart => exact ⟨0, Nat.zero_le _, rfl, rfl⟩
  case round =>
    obtain ⟨k, hk, rfl, rfl⟩ := hrel
    rcases Nat.lt_or_ge k s.size with hlt | hge
    · go_wp2
      go_round
      case rel => exact ⟨k + 1, by omega, by go_num, by rw [take_step s k hlt, hiV_snoc, ← mul_add_byte]⟩
      case measure => simp [intOf]; omega
    · obtain rfl : k = s.size := by omega
      go_wp2
      go_ret2
      exact ⟨ret_val (by rw [take_all]; rfl), rfl⟩

set_option maxHeartbeats 400000 in
theorem RFromHigh_big (s : ByteArray) (hs : 8 < s.size) (w : World) :
    Calls Try.prog 99 #[.string s] w fun e w' => e = .returned (.tuple #[.int .u64 0, .int .i64 5]) ∧ w = w' := by
  go_enter Try.func99, Try.ntmps99
  go_wp2
  go_ret2
  exact ⟨rfl, rfl⟩

set_option maxHeartbeats 400000 in
theorem RFromLow_ok (s : ByteArray) (hs : s.size ≤ 8) (w : World) :
    Calls Try.prog 86 #[.string s] w fun e w' => e = .returned (.tuple #[.int .u64 (bvi (loV s.data.toList)), .int .i64 0]) ∧ Below w.heap.size w w' := by
  go_enter Try.func86, Try.ntmps86
  go_wp2_with fail
  refine (RTurned_walk s (by omega) _).mono ?_
  rintro e w1 ⟨r, rfl, hr, hb⟩
  have hrs : r.size ≤ 8 := by rw [hr.size, List.length_reverse, Array.length_toList]; exact hs
  go_wp2_with fail
  refine (RFromHigh_ok r hrs _).mono ?_
  rintro e w2 ⟨rfl, rfl⟩
  go_wp2_with fail
  go_ret2
  refine ⟨ret_val ?_, hb⟩
  rw [hr.out]
  unfold hiV
  rw [List.reverse_reverse]
  rfl

set_option maxHeartbeats 400000 in
theorem RFromLow_big (s : ByteArray) (hs : 8 < s.size) (hs2 : s.size ≤ 140737488351232) (w : World) :
    Calls Try.prog 86 #[.string s] w fun e w' => e = .returned (.tuple #[.int .u64 0, .int .i64 5]) ∧ Below w.heap.size w w' := by
  go_enter Try.func86, Try.ntmps86
  go_wp2_with fail
  refine (RTurned_walk s hs2 _).mono ?_
  rintro e w1 ⟨r, rfl, hr, hb⟩
  have hrs : 8 < r.size := by rw [hr.size, List.length_reverse, Array.length_toList]; exact hs
  go_wp2_with fail
  refine (RFromHigh_big r hrs _).mono ?_
  rintro e w2 ⟨rfl, rfl⟩
  go_wp2_with fail
  go_ret2
  exact ⟨rfl, hb⟩

theorem xor_step (a b : ByteArray) (k : Nat) (ha : k < a.size) (hb : k < b.size) : xorL (a.data.toList.take k) (b.data.toList.take k) ++ [a[k] ^^^ b[k]] = xorL (a.data.toList.take (k + 1)) (b.data.toList.take (k + 1)) := by
  rw [take_step a k ha, take_step b k hb]
  unfold xorL
  rw [List.zipWith_append]
  · rfl
  · simp; omega

set_option maxRecDepth 100000 in
set_option maxHeartbeats 1000000 in
theorem RXor_ok (a b : ByteArray) (h : a.size = b.size) (hm : a.size ≤ 140737488351232) (w : World) :
    Calls Try.prog 52 #[.string a, .string b] w fun e w' => ∃ r, e = .returned (.tuple #[.string r, .int .i64 0]) ∧ Is r (xorL a.data.toList b.data.toList) ∧ Below w.heap.size w w' := by
  have hne : ((a.size : Int) != (b.size : Int)) = false := by simp [h]
  have H := Lib.hid h; clear h
  go_enter Try.func52, Try.ntmps52
  go_wp2
  go_loopw [6, 7] (fun v i wr => ∃ k : Nat, k ≤ a.size ∧ i = .int .i64 k ∧ wr.ownsRow w.heap.size 5 1 v k (cells (xorL (a.data.toList.take k) (b.data.toList.take k))) ∧ Below w.heap.size w wr) (fun _ i _ => a.size - (intOf i).toNat)
  case atStart => exact ⟨0, Nat.zero_le _, rfl, owns_zero w _ (Nat.le_refl _), (Below.refl _ _).alloc (Nat.le_refl _) _⟩
  case round =>
    obtain ⟨k, hk, rfl, hown, hbel⟩ := hrel
    rcases Nat.lt_or_ge k a.size with hlt | hge
    · have hkb : k < b.size := by have := H.out; omega
      have hbs := hbel.size
      go_wp2
      go_region_law (refine step_append_one rfl (.tmp 20) (.tmp 28) 32 rfl wr.drew w.heap.size 5 (.int .u8 0) 1 Try.underlying32 infoB rfl hown.drew rfl (u8c (a[k] ^^^ b[k])) (by simp [Act.eval]) rfl (by omega) (by omega) hbs (fun v' w1 hown' hb1 _ _ => ?_))
      all_goals
        have HO := Lib.hid hown'
        have HB := Lib.hid hb1
        clear hown hown' hb1
        go_wp2
        go_roundw
        case rel => exact ⟨k + 1, by omega, by go_num, by rw [← xor_step a b k hlt hkb, cells_append]; exact HO.out, hbel.drew.trans HB.out⟩
        case measure => simp [intOf]; omega
    · obtain rfl : k = a.size := by omega
      have hst := run_str_own (P := Try.prog) wr 32 5 Try.underlying32 Try.underlying5 9 Try.underlying9 _ _ _ _ hown
      clear hown
      go_wp2
      go_ret2
      exact ⟨_, rfl, by rw [take_all, H.out, take_all]; exact Is.of _, hbel⟩

set_option maxHeartbeats 400000 in
theorem RXor_no (a b : ByteArray) (h : a.size ≠ b.size) (w : World) :
    Calls Try.prog 52 #[.string a, .string b] w fun e w' => e = .returned (.tuple #[.string ByteArray.empty, .int .i64 5]) ∧ w = w' := by
  have hne : ((a.size : Int) != (b.size : Int)) = true := by simp; omega
  clear h
  go_enter Try.func52, Try.ntmps52
  go_wp2
  go_ret2
  exact ⟨rfl, rfl⟩

theorem cells_zeros (c : Nat) : cells (List.replicate c 0) = List.replicate c (Value.int .u8 0) := by
  unfold cells; rw [List.map_replicate]; rfl

set_option maxHeartbeats 1000000 in
theorem RFill_walk (s : ByteArray) (n : Int) (hs : s.size ≤ 140737488351232) (hn : n ≤ 1048576) (w : World) :
    Calls Try.prog 40 #[.string s, .int .i64 n] w fun e w' => ∃ r, e = .returned (.string r) ∧ Is r (fillL s.data.toList n) ∧ Below w.heap.size w w' := by
  have hl : s.data.toList.length = s.size := by rw [Array.length_toList]; rfl
  by_cases h1 : n < 1
  · go_enter Try.func40, Try.ntmps40
    go_wp2_with fail
    go_ret
    exact ⟨s, rfl, by unfold fillL; rw [if_pos h1]; exact Is.self s, Below.refl _ _⟩
  · have h2 := Int.emod_nonneg (-(s.size : Int)) (show n ≠ 0 by omega)
    have h3 := Int.emod_lt_of_pos (-(s.size : Int)) (show 0 < n by omega)
    obtain ⟨c, hc⟩ : ∃ c : Nat, (-(s.size : Int)) % n = (c : Int) := ⟨_, (Int.toNat_of_nonneg (by omega)).symm⟩
    have hc2 : c ≤ 1048576 := by omega
    have F := Lib.hid (show fillL s.data.toList n = s.data.toList ++ List.replicate c 0 by
      unfold fillL; rw [if_neg h1, hl, hc, Int.toNat_natCast])
    have HC := Lib.hid hc
    clear h2 h3 hc hl
    obtain ⟨i0, hi, hz0, hz1, hz2⟩ := info_parts infoB
    have hmk := run_make (P := Try.prog) w 32 5 i0 (.int .u8 0) Try.underlying32 hi hz0 .i64 .i64 c c (by omega) (by omega) (by rw [hz2]; omega) (by omega)
    rw [hz1] at hmk; simp only [Int.toNat_natCast, Nat.mul_one] at hmk
    rw [show (Value.int IntKind.u8 0).cells = #[Value.int .u8 0] from rfl, madeCells_one] at hmk
    clear hi hz0 hz1 hz2
    have hst := run_str (P := Try.prog) (w.alloc (.cells (Array.replicate c (Value.int .u8 0)) 5)) 32 5 Try.underlying32 Try.underlying5 9 Try.underlying9 w.heap.size c c _ 5 (0, 0) (List.replicate c 0) (RowAt.new w _ _ _) (by simp) (by
      rw [cells_zeros]; simp)
    have hsz : (ByteArray.mk (List.replicate c (0 : UInt8)).toArray).size ≤ 1048576 := by
      rw [(Is.of (List.replicate c (0 : UInt8))).size, List.length_replicate]; exact hc2
    have hr := Is.of (List.replicate c (0 : UInt8))
    generalize ByteArray.mk (List.replicate c (0 : UInt8)).toArray = r at hst hsz hr
    go_enter Try.func40, Try.ntmps40
    go_wp2_with fail
    refine (RRound_walk _ n (by omega) (by omega) _).mono ?_
    rintro e w1 ⟨rfl, rfl⟩
    rw [HC.out]
    go_wp2_with fail
    go_ret
    exact ⟨_, rfl, by rw [F.out]; exact (Is.self s).append hr, (Below.refl _ _).alloc (Nat.le_refl _) _⟩
end Go.Proofs.Ytfglhemmccihfaa
namespace Go.Proofs.Ytfglhemmccihfaa
open Go.RowKit

theorem infoInt : (Try.prog.info? 3).map (fun i => (i.zero, i.size, i.bytes)) = some (some (.int .i64 0), 1, 8) := by kernel_rfl
/-- Digits as cells. -/
def ints (l : List Nat) : List Value := l.map fun (d : Nat) => Value.int .i64 (d : Int)
theorem ints_length (l : List Nat) : (ints l).length = l.length := by simp [ints]
theorem ints_snoc (l : List Nat) (d : Nat) : ints (l ++ [d]) = ints l ++ [.int .i64 (d : Int)] := by simp [ints]
theorem ints_at (l : List Nat) (i : Nat) (h : i < l.length) : (ints l)[i]? = some (.int .i64 ((l.getD i 0 : Nat) : Int)) := by
  simp [ints, List.getD_eq_getElem?_getD, h]
/-- The slice v has the digits l. -/
def DigAt (w : World) (v : Value) (l : List Nat) : Prop :=
  ∃ ao cap, v = .slice ao l.length cap ∧ ∀ i, i < l.length → ∃ g off, ao = some ⟨g, off, none⟩ ∧ g < w.heap.size ∧ w.cell? ⟨g, off + i, none⟩ = some (.int .i64 ((l.getD i 0 : Nat) : Int))
theorem DigAt.below {w w' : World} {v : Value} {l : List Nat} (h : DigAt w v l) (hb : Below w.heap.size w w') : DigAt w' v l := by
  obtain ⟨ao, cap, hv, hc⟩ := h
  refine ⟨ao, cap, hv, fun i hi => ?_⟩
  obtain ⟨g, off, e, hg, hcell⟩ := hc i hi
  exact ⟨g, off, e, Nat.lt_of_lt_of_le hg hb.size, (hb.cell (p := ⟨g, off + i, none⟩) hg).trans hcell⟩
theorem dig_own {w : World} {B : Nat} {v : Value} {n : Nat} {l : List Nat} (h : w.ownsRow B 3 1 v n (ints l)) : DigAt w v l := by
  have hl : l.length = n := by have := h.1; rw [ints_length] at this; omega
  rcases h.2 with ⟨rfl, h0⟩ | ⟨g, cap, cur, rfl, hB, hg, hnc, _, hcs, ht⟩
  · have : l = [] := List.eq_nil_of_length_eq_zero (by omega)
    subst this
    exact ⟨none, 0, rfl, fun i hi => by simp at hi⟩
  · refine ⟨some ⟨g, 0, none⟩, cap, by rw [hl], fun i hi => ⟨g, 0, rfl, (Array.getElem?_eq_some_iff.1 hg).1, ?_⟩⟩
    have h1 : (cur.toList.take (n * 1))[i]? = (ints l)[i]? := by rw [ht]
    rw [List.getElem?_take, if_pos (by omega), ints_at l i hi] at h1
    simp only [World.cell?, hg, Nat.zero_add]
    simpa using h1
theorem dig_row {w : World} {g cap : Nat} {l : List Nat} (h : RowAt w g (ints l).toArray 3 (0, 0)) : DigAt w (.slice (some ⟨g, 0, none⟩) l.length cap) l :=
  ⟨_, cap, rfl, fun i hi => ⟨g, 0, rfl, h.lt, by rw [Nat.zero_add]; exact h.cell (by rw [List.getElem?_toArray]; exact ints_at l i hi)⟩⟩

set_option maxHeartbeats 1000000 in
theorem digits_walk (s : ByteArray) (hs : s.size ≤ 1000000) (w : World) :
    Calls Try.prog 54 #[.string s] w fun e w' => ∃ v, e = .returned v ∧ DigAt w' v (ofBytes s.data.toList) ∧ Below w.heap.size w w' := by
  go_enter Try.func54, Try.ntmps54
  go_wp2_with fail
  go_loopw [3, 4] (fun v i wr => ∃ k : Nat, k ≤ s.size ∧ i = .int .i64 k ∧ wr.ownsRow w.heap.size 3 1 v k (ints (ofBytes (s.data.toList.take k))) ∧ Below w.heap.size w wr) (fun _ i _ => s.size - (intOf i).toNat)
  case atStart => exact ⟨0, Nat.zero_le _, rfl, owns_zero w _ (Nat.le_refl _), (Below.refl _ _).alloc (Nat.le_refl _) _⟩
  case round =>
    obtain ⟨k, hk, rfl, hown, hbel⟩ := hrel
    rcases Nat.lt_or_ge k s.size with hlt | hge
    · go_wp2_with (at_builtin; refine append_one rfl _ _ 81 rfl wr w.heap.size 3 (.int .i64 0) 8 Try.underlying81 infoInt rfl hown rfl _ rfl rfl ?c1 ?c2 ?c3 ?_)
      case c1 => omega
      case c2 => omega
      case c3 => have := hbel.size; omega
      intro v' w1 hown' hb1 _ _
      clear hown
      go_wp2_with fail
      go_roundw
      case rel => exact ⟨k + 1, by omega, by go_num, by rw [take_step s k hlt]; unfold ofBytes; rw [List.map_append]; exact (ints_snoc _ _).symm ▸ hown', hbel.trans hb1⟩
      case measure => simp [intOf]; omega
    · obtain rfl : k = s.size := by omega
      rw [take_all] at hown
      have hd := dig_own hown
      clear hown
      go_wp2_with fail
      go_ret
      exact ⟨_, rfl, hd, hbel⟩

set_option maxHeartbeats 400000 in
theorem digit_walk (v : Value) (l : List Nat) (z : Int) (i : Nat) (hz : z = (i : Int)) (x : Nat) (hx : l.getD i 0 = x) (w : World) (h : DigAt w v l) :
    Calls Try.prog 58 #[v, .int .i64 z] w fun e w' => e = .returned (.int .i64 (x : Int)) ∧ w = w' := by
  subst hz
  subst hx
  obtain ⟨ao, cap, rfl, hc⟩ := h
  rcases Nat.lt_or_ge i l.length with hlt | hge
  · obtain ⟨g, off, rfl, hg, hcell⟩ := hc i hlt
    clear hc
    generalize l.getD i 0 = d at hcell ⊢
    go_enter Try.func58, Try.ntmps58
    go_wp2_with fail
    go_ret
    exact ⟨rfl, rfl⟩
  · have hd : l.getD i 0 = 0 := by rw [List.getD_eq_getElem?_getD, List.getElem?_eq_none hge]; rfl
    rw [hd]
    clear hc hd
    go_enter Try.func58, Try.ntmps58
    go_wp2_with fail
    go_ret
    exact ⟨rfl, rfl⟩

theorem dV_small (l : List Nat) (h : ∀ d ∈ l, d < 4194304) : dV l + 4194304 ≤ 256 ^ (l.length + 3) := by
  induction l with
  | nil => simp [dV]
  | cons d l ih =>
    have h1 := h d (by simp)
    have h2 := ih (fun x hx => h x (by simp [hx]))
    rw [List.length_cons, show l.length + 1 + 3 = (l.length + 3) + 1 by omega, Nat.pow_succ, dV]
    omega
theorem getD_small {l : List Nat} {B : Nat} (h : ∀ d ∈ l, d < B) (hB : 0 < B) (i : Nat) : l.getD i 0 < B := by
  rw [List.getD_eq_getElem?_getD]
  cases hl : l[i]? with
  | none => simpa using hB
  | some d => exact h d (List.mem_of_getElem? hl)

set_option maxHeartbeats 2000000 in
theorem carried_walk (v : Value) (l : List Nat) (hd : ∀ d ∈ l, d < 4194304) (hl : l.length ≤ 1000) (w : World) (h : DigAt w v l) :
    Calls Try.prog 82 #[v] w fun e w' => ∃ v' l', e = .returned v' ∧ DigAt w' v' l' ∧ Dig l' ∧ dV l' = dV l ∧ (∀ L, l.length ≤ L → dV l < 256 ^ L → l'.length ≤ L) ∧ Below w.heap.size w w' := by
  have hsm := dV_small l hd
  obtain ⟨ao, cap, rfl, hc⟩ := h
  have HC := Lib.hid hc
  have HD := Lib.hid hd
  have HSM := Lib.hid hsm
  clear hc hd hsm
  go_enter Try.func82, Try.ntmps82
  go_wp2_with fail
  go_loopw [3, 4, 5] (fun x c i wr => ∃ (o : List Nat) (cn : Nat), i = .int .i64 (o.length : Nat) ∧ c = .int .i64 (cn : Nat) ∧ cn < 4194304 ∧ wr.ownsRow w.heap.size 3 1 x o.length (ints o) ∧ Dig o ∧ Hid (dV o + 256 ^ o.length * (cn + dV (l.drop o.length)) = dV l) ∧ Hid (∀ L, l.length ≤ L → dV l < 256 ^ L → o.length ≤ L) ∧ Below w.heap.size w wr)
    (fun _ c i _ => (l.length - (intOf i).toNat) * 8388608 + (intOf c).toNat)
  case atStart => exact ⟨[], 0, rfl, rfl, by omega, owns_zero w _ (Nat.le_refl _), Dig.nil, by unfold Hid; simp [dV], fun L _ _ => Nat.zero_le _, (Below.refl _ _).alloc (Nat.le_refl _) _⟩
  case round =>
    obtain ⟨o, cn, rfl, rfl, hcn, hown, hdo, hval, hlen, hbel⟩ := hrel
    have hol : o.length ≤ l.length + 3 := hlen.out (l.length + 3) (by omega) (by have := HSM.out; omega)
    have HDO := Lib.hid hdo
    clear hdo
    rcases Nat.lt_or_ge o.length l.length with hlt | hge
    · obtain ⟨g, off, rfl, hg, hcell⟩ := HC.out o.length hlt
      have hcell2 := (hbel.cell (p := ⟨g, off + o.length, none⟩) hg).trans hcell
      have hdl := getD_small HD.out (by omega) o.length
      have HV := Lib.hid (carry_round l o cn hval.out hlt)
      generalize l.getD o.length 0 = dk at hcell2 hdl HV
      generalize hK : o.length = k at hown hol hlt hcell2 ⊢
      have HK := Lib.hid hK
      clear hcell hK hval
      go_wp2_with (at_builtin; refine append_one rfl _ _ 81 rfl wr w.heap.size 3 (.int .i64 0) 8 Try.underlying81 infoInt rfl hown rfl _ rfl rfl ?c1 ?c2 ?c3 ?_)
      case c1 => omega
      case c2 => omega
      case c3 => have := hbel.size; omega
      intro v' w1 hown' hb1 _ _
      clear hown hcell2
      go_wp2_with fail
      go_roundw
      case rel =>
        refine ⟨o ++ [(cn + dk) % 256], (cn + dk) / 256, by rw [List.length_append, HK.out]; go_num, by congr 1, by omega, ?_, HDO.out.snoc (by omega), by unfold Hid; rw [List.length_append]; exact HV.out, ?_, hbel.trans hb1⟩
        · rw [List.length_append, HK.out, ints_snoc]
          rw [show (((cn + dk) % 256 : Nat) : Int) = ((cn : Int) + (dk : Int)) % 256 by omega]
          exact hown'
        · intro L h1 h2
          rw [List.length_append, HK.out]
          show k + 1 ≤ L
          omega
      case measure => simp [intOf]; omega
    · rcases Nat.eq_zero_or_pos cn with h0 | hpos
      · subst h0
        have hd := dig_own hown
        have hfin : dV o = dV l := by have := hval.out; rw [List.drop_of_length_le hge] at this; simpa [dV] using this
        have HF := Lib.hid hfin
        clear hown hfin hval
        go_wp2_with fail
        go_ret
        exact ⟨_, o, rfl, hd, HDO.out, HF.out, hlen.out, hbel⟩
      · have HV := Lib.hid (carry_more l o cn hval.out hge)
        have HLN := Lib.hid (fun L => carry_len l o cn hval.out hpos L)
        generalize hK : o.length = k at hown hol hge ⊢
        have HK := Lib.hid hK
        clear hK hval
        go_wp2_with (at_builtin; refine append_one rfl _ _ 81 rfl wr w.heap.size 3 (.int .i64 0) 8 Try.underlying81 infoInt rfl hown rfl _ rfl rfl ?c1 ?c2 ?c3 ?_)
        case c1 => omega
        case c2 => omega
        case c3 => have := hbel.size; omega
        intro v' w1 hown' hb1 _ _
        clear hown
        go_wp2_with fail
        go_roundw
        case rel =>
          refine ⟨o ++ [cn % 256], cn / 256, by rw [List.length_append, HK.out]; go_num, by congr 1, by omega, ?_, HDO.out.snoc (by omega), by unfold Hid; rw [List.length_append]; exact HV.out, ?_, hbel.trans hb1⟩
          · rw [List.length_append, HK.out, ints_snoc]
            exact hown'
          · intro L h1 h2
            have := HLN.out L h2
            rw [List.length_append]
            exact this
        case measure => simp [intOf]; omega

set_option maxHeartbeats 2000000 in
theorem plus_ref (va vb : Value) (a b : List Nat) (ha : Dig a) (hb : Dig b) (hla : a.length ≤ 1000) (hlb : b.length ≤ 1000) (w : World) (hda : DigAt w va a) (hdb : DigAt w vb b) :
    Calls Try.prog 57 #[va, vb] w fun e w' => ∃ v' l', e = .returned v' ∧ DigAt w' v' l' ∧ Dig l' ∧ dV l' = dV a + dV b ∧ (∀ L, a.length ≤ L → b.length ≤ L → dV a + dV b < 256 ^ L → l'.length ≤ L) ∧ Below w.heap.size w w' := by
  have HDA := Lib.hid hda
  have HDB := Lib.hid hdb
  have HA := Lib.hid ha
  have HB := Lib.hid hb
  obtain ⟨ao, ca, rfl, _⟩ := hda
  obtain ⟨bo, cb, rfl, _⟩ := hdb
  clear ha hb
  go_enter Try.func57, Try.ntmps57
  go_wp2_with fail
  go_loopw [5, 6] (fun x i wr => ∃ k : Nat, k ≤ max a.length b.length ∧ i = .int .i64 k ∧ wr.ownsRow w.heap.size 3 1 x k (ints (sumD a b k)) ∧ Below w.heap.size w wr) (fun _ i _ => max a.length b.length - (intOf i).toNat)
  case atStart => exact ⟨0, Nat.zero_le _, rfl, owns_zero w _ (Nat.le_refl _), (Below.refl _ _).alloc (Nat.le_refl _) _⟩
  case round =>
    obtain ⟨k, hk, rfl, hown, hbel⟩ := hrel
    have hbw : Below w.heap.size w wr := hbel
    have hx := HA.out.get k
    have hy := HB.out.get k
    have HSD := Lib.hid (sumD_succ a b k)
    generalize hxe : a.getD k 0 = x at hx HSD
    generalize hye : b.getD k 0 = y at hy HSD
    have HXE := Lib.hid hxe
    have HYE := Lib.hid hye
    clear hxe hye
    rcases Nat.lt_or_ge k (max a.length b.length) with hlt | hge
    · have HDA2 := Lib.hid (HDA.out.below hbel)
      have HDB2 := Lib.hid (HDB.out.below hbel)
      rcases Nat.lt_or_ge k a.length with hka | hka
      all_goals
        go_wp2_with fail
        refine (digit_walk _ a k k rfl x HXE.out _ HDA2.out).mono ?_
        rintro e w2 ⟨rfl, rfl⟩
        go_wp2_with fail
        refine (digit_walk _ b k k rfl y HYE.out _ HDB2.out).mono ?_
        rintro e w2 ⟨rfl, rfl⟩
        go_wp2_with (at_builtin; refine append_one rfl _ _ 81 rfl wr w.heap.size 3 (.int .i64 0) 8 Try.underlying81 infoInt rfl hown rfl _ rfl rfl (by omega) (by omega) (by have := hbw.size; omega) ?_)
        intro v' w1 hown' hb1 _ _
        clear hown
        go_wp2_with fail
        go_roundw
        case rel => exact ⟨k + 1, by omega, by go_num, by rw [HSD.out, ints_snoc]; exact hown', hbel.trans hb1⟩
        case measure => simp [intOf]; omega
    · obtain rfl : k = max a.length b.length := by omega
      have g1 : ¬ ((max a.length b.length : Nat) : Int) < (a.length : Int) := by omega
      have g2 : ¬ ((max a.length b.length : Nat) : Int) < (b.length : Int) := by omega
      have hd := dig_own hown
      have HSF := Lib.hid (sumD_full a b)
      have HSL := Lib.hid (sumD_length a b (max a.length b.length))
      have HSB := Lib.hid (sumD_bound a b HA.out HB.out (max a.length b.length))
      have hml : max a.length b.length ≤ 1000 := by omega
      clear hown hx hy HSD HXE HYE
      generalize hSS : sumD a b (max a.length b.length) = S at hd HSF HSL HSB
      clear hSS
      have HD := Lib.hid hd
      clear hd
      generalize hM : max a.length b.length = M at *
      have HM := Lib.hid hM
      clear hM
      go_wp2_with fail
      refine (carried_walk _ S (fun d hd => by have := HSB.out d hd; omega) (by rw [HSL.out]; omega) _ HD.out).mono ?_
      rintro e w2 ⟨v2, l2, rfl, h1, h2, h3, h4, h5⟩
      go_wp2_with fail
      go_ret
      refine ⟨v2, l2, rfl, h1, h2, by rw [h3, HSF.out], fun L k1 k2 k3 => h4 L (by rw [HSL.out, ← HM.out]; omega) (by rw [HSF.out]; exact k3), bthen hbel h5⟩

theorem getD_bound {l : List Nat} {B : Nat} (h : ∀ j, l.getD j 0 ≤ B) : ∀ d ∈ l, d ≤ B := by
  intro d hd
  obtain ⟨i, hi, rfl⟩ := List.getElem_of_mem hd
  have := h i
  rwa [List.getD_eq_getElem?_getD, List.getElem?_eq_getElem hi] at this
theorem ints_set (l : List Nat) (i d : Nat) : (ints l).toArray.setIfInBounds i (.int .i64 (d : Int)) = (ints (l.set i d)).toArray := by
  rw [List.setIfInBounds_toArray]
  simp [ints, List.map_set]
theorem made_ints (n : Nat) : madeCells #[Value.int .i64 0] n = (ints (List.replicate n 0)).toArray := by
  rw [madeCells_one]
  simp [ints]

set_option maxRecDepth 100000 in
set_option maxHeartbeats 4000000 in
theorem times_ref (va vb : Value) (la b : List Nat) (ha : Dig la) (hb : Dig b) (hla : la.length ≤ 64) (hlb : b.length ≤ 64) (w : World) (hda : DigAt w va la) (hdb : DigAt w vb b) :
    Calls Try.prog 56 #[va, vb] w fun e w' => ∃ v' l', e = .returned v' ∧ DigAt w' v' l' ∧ Dig l' ∧ dV l' = dV la * dV b ∧ (∀ L, la.length + b.length ≤ L → l'.length ≤ L) ∧ Below w.heap.size w w' := by
  have HDA := Lib.hid hda
  have HDB := Lib.hid hdb
  have HA := Lib.hid ha
  have HB := Lib.hid hb
  obtain ⟨ao, ca, rfl, hca⟩ := hda
  obtain ⟨bo, cb, rfl, hcb⟩ := hdb
  have HCA := Lib.hid hca
  have HCB := Lib.hid hcb
  clear ha hb hca hcb
  obtain ⟨i0, hi, hz0, hz1, hz2⟩ := info_parts infoInt
  have hmk := run_make (P := Try.prog) w 81 3 i0 (.int .i64 0) Try.underlying81 hi hz0 .i64 .i64 ((la.length : Int) + b.length) ((la.length : Int) + b.length) (by omega) (by omega) (by rw [hz2]; omega) (by omega)
  rw [hz1, Nat.mul_one, show ((la.length : Int) + b.length).toNat = la.length + b.length by omega] at hmk
  rw [show (Value.int IntKind.i64 0).cells = #[Value.int .i64 0] from rfl, made_ints] at hmk
  clear hi hz0 hz1 hz2
  go_enter Try.func56, Try.ntmps56
  go_wp2_with fail
  clear hmk
  go_loopw [6] (fun i wr => ∃ k : Nat, k ≤ la.length ∧ i = .int .i64 k ∧ RowAt wr w.heap.size (ints (mulRow la b k)).toArray 3 (0, 0) ∧ Below w.heap.size w wr) (fun i _ => la.length - (intOf i).toNat)
  case atStart => exact ⟨0, Nat.zero_le _, rfl, RowAt.new w _ _ _, (Below.refl _ _).alloc (Nat.le_refl _) _⟩
  case round =>
    obtain ⟨k, hk, rfl, hrow, hbel⟩ := hrel
    have HR := Lib.hid hrow
    have HBL := Lib.hid hbel
    clear hrow hbel
    rcases Nat.lt_or_ge k la.length with hlt | hge
    · have hrb := mulRow_bound la b HA.out HB.out k
      have HRB := Lib.hid hrb
      have HML := Lib.hid (mulRow_length la b k)
      have HNX := Lib.hid (show mulRow la b (k + 1) = mulIn la b k (mulRow la b k) b.length from rfl)
      generalize mulRow la b k = G at HR HRB HML HNX
      clear hrb
      go_wp2_with fail
      obtain ⟨wo, hwo⟩ : ∃ wo : World, wo = wr := ⟨_, rfl⟩
      subst hwo
      go_loopw [7] (fun i wx => ∃ j : Nat, j ≤ b.length ∧ i = .int .i64 j ∧ RowAt wx w.heap.size (ints (mulIn la b k G j)).toArray 3 (0, 0) ∧ Below w.heap.size w wx) (fun i _ => b.length - (intOf i).toNat)
      case atStart => exact ⟨0, Nat.zero_le _, rfl, HR.out, HBL.out⟩
      case round =>
        obtain ⟨j, hj, rfl, hrow, hbel⟩ := hrel
        have HR2 := Lib.hid hrow
        have HB2 := Lib.hid hbel
        clear hrow hbel
        rcases Nat.lt_or_ge j b.length with hlj | hgj
        · obtain ⟨ga, oa, rfl, hga, hcella⟩ := HCA.out k hlt
          obtain ⟨gb, ob, rfl, hgb, hcellb⟩ := HCB.out j hlj
          have c1 := (HB2.out.cell (p := ⟨ga, oa + k, none⟩) hga).trans hcella
          have c2 := (HB2.out.cell (p := ⟨gb, ob + j, none⟩) hgb).trans hcellb
          have hlen : (mulIn la b k G j).length = la.length + b.length := (mulIn_length la b k G j).trans HML.out
          have hkj : k + j < la.length + b.length := by omega
          have c3 := HR2.out.cell (i := k + j) (by rw [List.getElem?_toArray]; exact ints_at _ _ (by rw [hlen]; exact hkj))
          have f3 := HR2.out.free (i := k + j) (by simp)
          have hx := HA.out.get k
          have hy := HB.out.get j
          have hzb := mulIn_bound la b HA.out HB.out k G (k * 65025) HRB.out j (k + j)
          have HSET := Lib.hid (show mulIn la b k G (j + 1) = (mulIn la b k G j).set (k + j) ((mulIn la b k G j).getD (k + j) 0 + la.getD k 0 * b.getD j 0) from rfl)
          generalize (mulIn la b k G j).getD (k + j) 0 = z at c3 hzb HSET
          generalize la.getD k 0 = x at c1 hx HSET
          generalize b.getD j 0 = y at c2 hy HSET
          have hk64 : k * 65025 ≤ 64 * 65025 := Nat.mul_le_mul_right _ (by omega)
          have hxy : x * y ≤ 255 * 255 := Nat.mul_le_mul (by omega) (by omega)
          --REGION
          have q1 : (0 : Int) ≤ (k : Int) + j := by omega
          have q3 : (k : Int) + j < (la.length : Int) + b.length := by omega
          have q4 : k + j < la.length + b.length := hkj
          clear hcella hcellb hlen
          go_wp2_with fail
          refine region_table (by kernel_rfl) [26, 27, 28, 29, 30, 31, 32, 33, 34, 35, 36, 37, 38, 39, 40, 41, 42]
            (fun i x_ => match i with
              | 0 => x_ = .slice (some ⟨w.heap.size, 0, none⟩) (la.length + b.length) (la.length + b.length)
              | 1 => x_ = .int .i64 ((k : Int))
              | 2 => x_ = .int .i64 ((j : Int))
              | 3 => x_ = .int .i64 ((k : Int) + j)
              | 4 => x_ = .pointer (some ⟨w.heap.size, k + j, none⟩)
              | 5 => x_ = .int .i64 ((z : Int))
              | 6 => x_ = .slice (some ⟨ga, oa, none⟩) la.length ca
              | 7 => x_ = .int .i64 ((k : Int))
              | 8 => x_ = .pointer (some ⟨ga, oa + k, none⟩)
              | 9 => x_ = .int .i64 ((x : Int))
              | 10 => x_ = .slice (some ⟨gb, ob, none⟩) b.length cb
              | 11 => x_ = .int .i64 ((j : Int))
              | 12 => x_ = .pointer (some ⟨gb, ob + j, none⟩)
              | 13 => x_ = .int .i64 ((y : Int))
              | 14 => x_ = .int .i64 (((x * y : Nat) : Int))
              | 15 => x_ = .int .i64 (((z + x * y : Nat) : Int))
              | 16 => x_ = .pointer (some ⟨w.heap.size, k + j, none⟩)
              | _ => True) (fun L _ w' => (L 17 = false → w' = wr.drew) ∧ (L 17 = true → w' = wr.drew.setCell ⟨w.heap.size, k + j, none⟩ (.int .i64 ((z + x * y : Nat) : Int))) ∧ (L 17 = true → L 5 = true ∧ L 9 = true ∧ L 13 = true)) (by kernel_rfl) (by kernel_rfl) rfl (by kernel_rfl) (⟨fun _ => rfl, (fun h => by cases h), (fun h => by cases h)⟩) ?_ ?_
          · refine StepsOk.cons ?_ (StepsOk.cons ?_ (StepsOk.cons ?_ (StepsOk.cons ?_ (StepsOk.cons ?_ (StepsOk.cons ?_ (StepsOk.cons ?_ (StepsOk.cons ?_ (StepsOk.cons ?_ (StepsOk.cons ?_ (StepsOk.cons ?_ (StepsOk.cons ?_ (StepsOk.cons ?_ (StepsOk.cons ?_ (StepsOk.cons ?_ (StepsOk.cons ?_ (StepsOk.cons ?_ (StepsOk.cons ?_ StepsOk.nil)))))))))))))))))
            · intro L a w4 Kx hl hsz hs ht hr he hK
              refine step_plain rfl ?_
              have h5 : a.tmps.getD 5 undef = .slice (some ⟨w.heap.size, 0, none⟩) (la.length + b.length) (la.length + b.length) := (hs 5 (by decide)).trans rfl
              go_simp
              exact hK _ _ rfl (by simpa using hr)
            · intro L a w4 Kx hl hsz hs ht hr he hK
              refine step_plain rfl ?_
              have h6 : a.tmps.getD 6 undef = .int .i64 ((k : Int)) := (hs 6 (by decide)).trans rfl
              go_simp
              exact hK _ _ rfl (by simpa using hr)
            · intro L a w4 Kx hl hsz hs ht hr he hK
              refine step_plain rfl ?_
              have h7 : a.tmps.getD 7 undef = .int .i64 ((j : Int)) := (hs 7 (by decide)).trans rfl
              go_simp
              exact hK _ _ rfl (by simpa using hr)
            · intro L a w4 Kx hl hsz hs ht hr he hK
              refine step_plain rfl ?_
              have h27 : a.tmps.getD 27 undef = .int .i64 ((k : Int)) := ht 1 (he 1 (by kernel_rfl)) 27 rfl
              have h28 : a.tmps.getD 28 undef = .int .i64 ((j : Int)) := ht 2 (he 2 (by kernel_rfl)) 28 rfl
              have hwr : IntKind.i64.wrap ((k : Int) + j) = (k : Int) + j := IntWalk.i64_in _ (by omega)
              go_simp
              exact hK _ _ rfl (by simpa using hr)
            · intro L a w4 Kx hl hsz hs ht hr he hK
              refine step_plain rfl ?_
              have h26 : a.tmps.getD 26 undef = .slice (some ⟨w.heap.size, 0, none⟩) (la.length + b.length) (la.length + b.length) := ht 0 (he 0 (by kernel_rfl)) 26 rfl
              have h29 : a.tmps.getD 29 undef = .int .i64 ((k : Int) + j) := ht 3 (he 3 (by kernel_rfl)) 29 rfl
              go_simp
              exact hK _ _ rfl (by simpa using hr)
            · intro L a w4 Kx hl hsz hs ht hr he hK
              refine step_plain rfl ?_
              have h30 : a.tmps.getD 30 undef = .pointer (some ⟨w.heap.size, k + j, none⟩) := ht 4 (he 4 (by kernel_rfl)) 30 rfl
              have hx17 : L 17 = false := by
                cases hy : L 17 with
                | false => rfl
                | true => have := (hr.2.2 hy).1; rw [hl] at this; cases this
              have hw4 := hr.1 hx17
              subst hw4
              go_simp
              refine hK _ _ rfl ⟨fun _ => rfl, fun h => ?_, fun h => ?_⟩
              all_goals
                have h' : (L 17 || false) = true := h
                rw [hx17] at h'
                cases h'
            · intro L a w4 Kx hl hsz hs ht hr he hK
              refine step_plain rfl ?_
              have h0 : a.tmps.getD 0 undef = .slice (some ⟨ga, oa, none⟩) la.length ca := (hs 0 (by decide)).trans rfl
              go_simp
              exact hK _ _ rfl (by simpa using hr)
            · intro L a w4 Kx hl hsz hs ht hr he hK
              refine step_plain rfl ?_
              have h6 : a.tmps.getD 6 undef = .int .i64 ((k : Int)) := (hs 6 (by decide)).trans rfl
              go_simp
              exact hK _ _ rfl (by simpa using hr)
            · intro L a w4 Kx hl hsz hs ht hr he hK
              refine step_plain rfl ?_
              have h32 : a.tmps.getD 32 undef = .slice (some ⟨ga, oa, none⟩) la.length ca := ht 6 (he 6 (by kernel_rfl)) 32 rfl
              have h33 : a.tmps.getD 33 undef = .int .i64 ((k : Int)) := ht 7 (he 7 (by kernel_rfl)) 33 rfl
              go_simp
              exact hK _ _ rfl (by simpa using hr)
            · intro L a w4 Kx hl hsz hs ht hr he hK
              refine step_plain rfl ?_
              have h34 : a.tmps.getD 34 undef = .pointer (some ⟨ga, oa + k, none⟩) := ht 8 (he 8 (by kernel_rfl)) 34 rfl
              have hx17 : L 17 = false := by
                cases hy : L 17 with
                | false => rfl
                | true => have := (hr.2.2 hy).2.1; rw [hl] at this; cases this
              have hw4 := hr.1 hx17
              subst hw4
              go_simp
              refine hK _ _ rfl ⟨fun _ => rfl, fun h => ?_, fun h => ?_⟩
              all_goals
                have h' : (L 17 || false) = true := h
                rw [hx17] at h'
                cases h'
            · intro L a w4 Kx hl hsz hs ht hr he hK
              refine step_plain rfl ?_
              have h1 : a.tmps.getD 1 undef = .slice (some ⟨gb, ob, none⟩) b.length cb := (hs 1 (by decide)).trans rfl
              go_simp
              exact hK _ _ rfl (by simpa using hr)
            · intro L a w4 Kx hl hsz hs ht hr he hK
              refine step_plain rfl ?_
              have h7 : a.tmps.getD 7 undef = .int .i64 ((j : Int)) := (hs 7 (by decide)).trans rfl
              go_simp
              exact hK _ _ rfl (by simpa using hr)
            · intro L a w4 Kx hl hsz hs ht hr he hK
              refine step_plain rfl ?_
              have h36 : a.tmps.getD 36 undef = .slice (some ⟨gb, ob, none⟩) b.length cb := ht 10 (he 10 (by kernel_rfl)) 36 rfl
              have h37 : a.tmps.getD 37 undef = .int .i64 ((j : Int)) := ht 11 (he 11 (by kernel_rfl)) 37 rfl
              go_simp
              exact hK _ _ rfl (by simpa using hr)
            · intro L a w4 Kx hl hsz hs ht hr he hK
              refine step_plain rfl ?_
              have h38 : a.tmps.getD 38 undef = .pointer (some ⟨gb, ob + j, none⟩) := ht 12 (he 12 (by kernel_rfl)) 38 rfl
              have hx17 : L 17 = false := by
                cases hy : L 17 with
                | false => rfl
                | true => have := (hr.2.2 hy).2.2; rw [hl] at this; cases this
              have hw4 := hr.1 hx17
              subst hw4
              go_simp
              refine hK _ _ rfl ⟨fun _ => rfl, fun h => ?_, fun h => ?_⟩
              all_goals
                have h' : (L 17 || false) = true := h
                rw [hx17] at h'
                cases h'
            · intro L a w4 Kx hl hsz hs ht hr he hK
              refine step_plain rfl ?_
              have h35 : a.tmps.getD 35 undef = .int .i64 ((x : Int)) := ht 9 (he 9 (by kernel_rfl)) 35 rfl
              have h39 : a.tmps.getD 39 undef = .int .i64 ((y : Int)) := ht 13 (he 13 (by kernel_rfl)) 39 rfl
              have hwr : IntKind.i64.wrap ((x : Int) * y) = ((x * y : Nat) : Int) := by rw [Int.natCast_mul]; exact IntWalk.i64_in _ (by rw [← Int.natCast_mul]; omega)
              have hwq : wrap64 ((x : Int) * y) = ((x * y : Nat) : Int) := by rw [Int.natCast_mul]; exact IntWalk.wrap64_in _ (by rw [← Int.natCast_mul]; omega)
              go_simp
              exact hK _ _ rfl (by simpa using hr)
            · intro L a w4 Kx hl hsz hs ht hr he hK
              refine step_plain rfl ?_
              have h31 : a.tmps.getD 31 undef = .int .i64 ((z : Int)) := ht 5 (he 5 (by kernel_rfl)) 31 rfl
              have h40 : a.tmps.getD 40 undef = .int .i64 (((x * y : Nat) : Int)) := ht 14 (he 14 (by kernel_rfl)) 40 rfl
              have hwr : IntKind.i64.wrap ((z : Int) + (x : Int) * (y : Int)) = ((z + x * y : Nat) : Int) := by
                rw [show (z : Int) + (x : Int) * (y : Int) = ((z + x * y : Nat) : Int) by simp]
                exact IntWalk.i64_in _ (by omega)
              go_simp
              exact hK _ _ rfl (by simpa using hr)
            · intro L a w4 Kx hl hsz hs ht hr he hK
              refine step_plain rfl ?_
              have h26 : a.tmps.getD 26 undef = .slice (some ⟨w.heap.size, 0, none⟩) (la.length + b.length) (la.length + b.length) := ht 0 (he 0 (by kernel_rfl)) 26 rfl
              have h29 : a.tmps.getD 29 undef = .int .i64 ((k : Int) + j) := ht 3 (he 3 (by kernel_rfl)) 29 rfl
              go_simp
              exact hK _ _ rfl (by simpa using hr)
            · intro L a w4 Kx hl hsz hs ht hr he hK
              refine step_plain rfl ?_
              have h42 : a.tmps.getD 42 undef = .pointer (some ⟨w.heap.size, k + j, none⟩) := ht 16 (he 16 (by kernel_rfl)) 42 rfl
              have h41 : a.tmps.getD 41 undef = .int .i64 (((z + x * y : Nat) : Int)) := ht 15 (he 15 (by kernel_rfl)) 41 rfl
              have hw4 := hr.1 hl
              subst hw4
              go_simp
              refine hK undef _ trivial ⟨fun h => ?_, fun _ => rfl, fun _ => ?_⟩
              · have h' : (L 17 || true) = false := h
                rw [Bool.or_true] at h'
                cases h'
              · exact ⟨by show (L 5 || false) = true; rw [he 5 (by kernel_rfl)]; rfl, by show (L 9 || false) = true; rw [he 9 (by kernel_rfl)]; rfl, by show (L 13 || false) = true; rw [he 13 (by kernel_rfl)]; rfl⟩
          · intro f L w4 hf hall hr
            have hw4 := hr.2.1 (hall 17 (by decide))
            subst hw4
            clear hf hall hr
            simp only [List.foldl, Act.put, List.setIfInBounds_toArray, List.set_cons_zero, List.set_cons_succ]
            generalize f 26 = z26
            generalize f 27 = z27
            generalize f 28 = z28
            generalize f 29 = z29
            generalize f 30 = z30
            generalize f 31 = z31
            generalize f 32 = z32
            generalize f 33 = z33
            generalize f 34 = z34
            generalize f 35 = z35
            generalize f 36 = z36
            generalize f 37 = z37
            generalize f 38 = z38
            generalize f 39 = z39
            generalize f 40 = z40
            generalize f 41 = z41
            generalize f 42 = z42
            go_wp2_with fail
            go_roundw
            case rel =>
              refine ⟨j + 1, by omega, by go_num, ?_, (HB2.out.drew).setCell (Nat.le_refl _) _⟩
              rw [HSET.out, ← ints_set]
              exact HR2.out.drew.store (k + j) _
            case measure => simp [intOf]; omega
        · obtain rfl : j = b.length := by omega
          go_wp2_with fail
          go_roundw
          case rel => exact ⟨k + 1, by omega, by go_num, by rw [HNX.out]; exact HR2.out, HB2.out⟩
          case measure => simp [intOf]; omega
    · obtain rfl : k = la.length := by omega
      have hd := dig_row (cap := la.length + b.length) HR.out
      rw [mulRow_length] at hd
      have HD := Lib.hid hd
      have HRB := Lib.hid (getD_bound (mulRow_bound la b HA.out HB.out la.length))
      have HV := Lib.hid (mulRow_full la b)
      have HML := Lib.hid (mulRow_length la b la.length)
      generalize mulRow la b la.length = S at HD HRB HV HML
      have ha64 : la.length * 65025 ≤ 64 * 65025 := Nat.mul_le_mul_right _ hla
      clear hd
      go_wp2_with fail
      refine (carried_walk _ S (fun d hd => by have := HRB.out d hd; omega) (by rw [HML.out]; omega) _ HD.out).mono ?_
      rintro e w2 ⟨v2, l2, rfl, h1, h2, h3, h4, h5⟩
      go_wp2_with fail
      go_ret
      refine ⟨v2, l2, rfl, h1, h2, by rw [h3, HV.out], fun L k1 => ?_, bthen HBL.out h5⟩
      refine h4 L (by rw [HML.out]; exact k1) ?_
      rw [HV.out]
      have e1 := dV_lt HA.out
      have e2 := dV_lt HB.out
      refine Nat.lt_of_lt_of_le (Nat.mul_lt_mul'' e1 e2) ?_
      rw [← Nat.pow_add]
      exact Nat.pow_le_pow_right (by omega) k1
end Go.Proofs.Ytfglhemmccihfaa
namespace Go.Proofs.Ytfglhemmccihfaa
open Go.RowKit

set_option maxHeartbeats 1000000 in
theorem high_walk (v : Value) (l : List Nat) (hd : Dig l) (hl : l.length ≤ 1000) (w : World) (h : DigAt w v l) :
    Calls Try.prog 80 #[v] w fun e w' => ∃ v', e = .returned v' ∧ DigAt w' v' (hiD l (l.length - 16)) ∧ Below w.heap.size w w' := by
  have HDA := Lib.hid h
  have HD := Lib.hid hd
  obtain ⟨ao, cap, rfl, _⟩ := h
  clear hd
  go_enter Try.func80, Try.ntmps80
  go_wp2_with fail
  go_loopw [3, 4] (fun x i wr => ∃ k : Nat, k ≤ l.length - 16 ∧ i = .int .i64 ((16 + k : Nat) : Int) ∧ wr.ownsRow w.heap.size 3 1 x k (ints (hiD l k)) ∧ Below w.heap.size w wr) (fun _ i _ => l.length + 16 - (intOf i).toNat)
  case atStart => exact ⟨0, Nat.zero_le _, rfl, owns_zero w _ (Nat.le_refl _), (Below.refl _ _).alloc (Nat.le_refl _) _⟩
  case round =>
    obtain ⟨k, hk, rfl, hown, hbel⟩ := hrel
    have hx := HD.out.get (16 + k)
    have hy := HD.out.get (16 + k + 1)
    have HSD := Lib.hid (hiD_succ l k)
    generalize hxe : l.getD (16 + k) 0 = x at hx HSD
    generalize hye : l.getD (16 + k + 1) 0 = y at hy HSD
    have HXE := Lib.hid hxe
    have HYE := Lib.hid hye
    clear hxe hye
    obtain ⟨m, hm⟩ : ∃ m : Nat, m = 16 + k := ⟨_, rfl⟩
    rw [← hm] at HXE HYE ⊢
    have HM := Lib.hid hm
    rcases Nat.lt_or_ge m l.length with hlt | hge
    · have HDA2 := Lib.hid (HDA.out.below hbel)
      have hk2 : k + 16 < l.length := by omega
      have hm2 : m ≤ 1000 := by omega
      clear hm
      go_wp2_with fail
      refine (digit_walk _ l m m rfl x HXE.out _ HDA2.out).mono ?_
      rintro e w2 ⟨rfl, rfl⟩
      go_wp2_with fail
      refine (digit_walk _ l (m + 1) (m + 1) (by omega) y HYE.out _ HDA2.out).mono ?_
      rintro e w2 ⟨rfl, rfl⟩
      go_wp2_with (at_builtin; refine append_one rfl _ _ 81 rfl wr w.heap.size 3 (.int .i64 0) 8 Try.underlying81 infoInt rfl hown rfl _ rfl rfl ?c1 ?c2 ?c3 ?_)
      case c1 => omega
      case c2 => omega
      case c3 => have := hbel.size; omega
      intro v' w1 hown' hb1 _ _
      clear hown
      go_wp2_with fail
      go_roundw
      case rel =>
        refine ⟨k + 1, by omega, by rw [HM.out]; go_num, ?_, hbel.trans hb1⟩
        rw [HSD.out, ints_snoc, show ((x / 4 + y % 4 * 64 : Nat) : Int) = (x : Int) / 4 + (y : Int) % 4 * 64 by omega]
        exact hown'
      case measure => simp [intOf]; omega
    · have hk3 : k = l.length - 16 := by omega
      rw [hk3] at hown
      have hd := dig_own hown
      clear hown hk3 hm HSD
      go_wp2_with fail
      go_ret
      exact ⟨_, rfl, hd, hbel⟩

theorem dig_take {w : World} {g cap : Nat} {cur : Array Value} {l : List Nat} (h : RowAt w g cur 3 (0, 0)) (ht : cur.toList.take l.length = ints l) : DigAt w (.slice (some ⟨g, 0, none⟩) l.length cap) l := by
  refine ⟨_, cap, rfl, fun i hi => ⟨g, 0, rfl, h.lt, ?_⟩⟩
  have h1 : (cur.toList.take l.length)[i]? = (ints l)[i]? := by rw [ht]
  rw [List.getElem?_take, if_pos hi, ints_at l i hi] at h1
  rw [Nat.zero_add]
  exact h.cell (by simpa using h1)

set_option maxHeartbeats 1000000 in
theorem low_walk (v : Value) (l : List Nat) (hd : Dig l) (w : World) (h : DigAt w v l) :
    Calls Try.prog 81 #[v] w fun e w' => ∃ v', e = .returned v' ∧ DigAt w' v' (loD l) ∧ Below w.heap.size w w' := by
  have HDA := Lib.hid h
  have HD := Lib.hid hd
  obtain ⟨ao, cap, rfl, _⟩ := h
  clear hd
  go_enter Try.func81, Try.ntmps81
  go_wp2_with fail
  go_loopw [3, 4] (fun x i wr => ∃ k : Nat, k ≤ 17 ∧ i = .int .i64 k ∧ wr.ownsRow w.heap.size 3 1 x k (ints (digsOf (dV l) k)) ∧ Below w.heap.size w wr) (fun _ i _ => 17 - (intOf i).toNat)
  case atStart => exact ⟨0, Nat.zero_le _, rfl, owns_zero w _ (Nat.le_refl _), (Below.refl _ _).alloc (Nat.le_refl _) _⟩
  case round =>
    obtain ⟨k, hk, rfl, hown, hbel⟩ := hrel
    rcases Nat.lt_or_ge k 17 with hlt | hge
    · have HDA2 := Lib.hid (HDA.out.below hbel)
      have HSD := Lib.hid (digsOf_succ (dV l) k)
      generalize hxe : dV l / 256 ^ k % 256 = x at HSD
      have HXE := Lib.hid ((digit_of l HD.out k).trans hxe)
      clear hxe
      go_wp2_with fail
      refine (digit_walk _ l k k rfl x HXE.out _ HDA2.out).mono ?_
      rintro e w2 ⟨rfl, rfl⟩
      go_wp2_with (at_builtin; refine append_one rfl _ _ 81 rfl wr w.heap.size 3 (.int .i64 0) 8 Try.underlying81 infoInt rfl hown rfl _ rfl rfl ?c1 ?c2 ?c3 ?_)
      case c1 => omega
      case c2 => omega
      case c3 => have := hbel.size; omega
      intro v' w1 hown' hb1 _ _
      clear hown
      go_wp2_with fail
      go_roundw
      case rel => exact ⟨k + 1, by omega, by go_num, by rw [HSD.out, ints_snoc]; exact hown', hbel.trans hb1⟩
      case measure => simp [intOf]; omega
    · obtain rfl : k = 17 := by omega
      rcases hown.2 with ⟨_, h0⟩ | ⟨g, cap2, cur, rfl, hB, hg, hnc, _, hcs, ht⟩
      · exact absurd h0 (by omega)
      have ht' : cur.toList.take 17 = ints (digsOf (dV l) 17) := by simpa using ht
      have hrow : RowAt wr g cur 3 (0, 0) := hg
      have hc16 : cur[16]? = some (.int .i64 (((digsOf (dV l) 17).getD 16 0 : Nat) : Int)) := by
        have h1 : (cur.toList.take 17)[16]? = (ints (digsOf (dV l) 17))[16]? := by rw [ht']
        rw [List.getElem?_take, if_pos (by omega), ints_at _ _ (by rw [digsOf_length]; omega)] at h1
        simpa using h1
      have c16 := hrow.cell hc16
      have f16 := hrow.free (i := 16) (by simp)
      have hgz : w.heap.size ≤ g := hB
      have HT := Lib.hid ht'
      have HRW := Lib.hid hrow
      have HLO := Lib.hid (show loD l = (digsOf (dV l) 17).set 16 ((digsOf (dV l) 17).getD 16 0 % 4) from rfl)
      generalize (digsOf (dV l) 17).getD 16 0 = x at c16 HLO
      have hcap : 17 ≤ cap2 := by omega
      clear hown ht ht' hrow hc16 hg hcs hnc
      go_wp2_with fail
      go_ret
      have hr2 := HRW.out.store 16 (.int .i64 ((x : Int) % 4))
      have hb2 : Below w.heap.size w (wr.setCell ⟨g, 16, none⟩ (.int .i64 ((x : Int) % 4))) := hbel.setCell (p := ⟨g, 16, none⟩) hgz _
      refine ⟨_, rfl, ?_, hb2⟩
      have hl17 := loD_length l
      have := dig_take (cap := cap2) (l := loD l) hr2 (by
        rw [hl17, Array.toList_setIfInBounds, List.take_set, HT.out, HLO.out]
        simp [ints, List.map_set])
      rw [hl17] at this
      exact this

set_option maxHeartbeats 1000000 in
theorem some_walk (v : Value) (l : List Nat) (hl : l.length ≤ 1000) (w : World) (h : DigAt w v l) :
    Calls Try.prog 79 #[v] w fun e w' => e = .returned (.bool (someD l)) ∧ w = w' := by
  obtain ⟨ao, cap, rfl, hc⟩ := h
  have HC := Lib.hid hc
  clear hc
  go_enter Try.func79, Try.ntmps79
  go_wp2_with fail
  go_loop [3] (fun i => ∃ k : Nat, k ≤ l.length ∧ i = .int .i64 k ∧ Hid (∀ j, j < k → l.getD j 0 = 0)) (fun i => l.length - (intOf i).toNat)
  case atStart => exact ⟨0, Nat.zero_le _, rfl, fun j hj => by omega⟩
  case round =>
    obtain ⟨k, hk, rfl, hz⟩ := hrel
    rcases Nat.lt_or_ge k l.length with hlt | hge
    · obtain ⟨g, off, rfl, hg, hcell⟩ := HC.out k hlt
      generalize hxe : l.getD k 0 = x at hcell
      have HXE := Lib.hid hxe
      have HM := Lib.hid (show l.getD k 0 ∈ l from by rw [List.getD_eq_getElem?_getD, List.getElem?_eq_getElem hlt]; exact List.getElem_mem hlt)
      clear hxe
      rcases Nat.eq_zero_or_pos x with h0 | hp
      · have h0' : ¬ (0 : Int) < (x : Int) := by omega
        have HX0 := Lib.hid h0
        clear h0
        go_wp2_with fail
        go_round
        case rel => exact ⟨k + 1, by omega, by go_num, fun j hj => by
          rcases Nat.lt_or_ge j k with h1 | h1
          · exact hz.out j h1
          · obtain rfl : j = k := by omega
            rw [HXE.out, HX0.out]⟩
        case measure => simp [intOf]; omega
      · have hne : dV l ≠ 0 := fun e => by
          have := (dV_zero l).1 e _ HM.out
          rw [HXE.out] at this; omega
        have hd : someD l = true := decide_eq_true hne
        have HDD := Lib.hid hd
        have hp' : (0 : Int) < (x : Int) := by omega
        clear hne hd
        go_wp2_with fail
        go_ret
        exact ⟨by rw [HDD.out]; rfl, rfl⟩
    · have hd : someD l = false := decide_eq_false (fun hn => hn ((dV_zero l).2 fun d hd => by
        obtain ⟨i, hi, rfl⟩ := List.getElem_of_mem hd
        have := hz.out i (by omega)
        rwa [List.getD_eq_getElem?_getD, List.getElem?_eq_getElem hi] at this))
      have HDD := Lib.hid hd
      clear hd
      go_wp2_with fail
      go_ret
      exact ⟨by rw [HDD.out]; rfl, rfl⟩

theorem dig_one (w : World) (d : Nat) : DigAt (w.alloc (.cells #[.int .i64 (d : Int)] 3)) (.slice (some ⟨w.heap.size, 0, none⟩) 1 1) [d] := dig_row (l := [d]) (cap := 1) (RowAt.new w _ _ _)
theorem hiD_pow (l : List Nat) (h : Dig l) (L : Nat) (hL : l.length ≤ L) : dV l < 256 ^ L := Nat.lt_of_lt_of_le (dV_lt h) (Nat.pow_le_pow_right (by omega) hL)

set_option maxRecDepth 100000 in
set_option maxHeartbeats 4000000 in
theorem modulo_walk (v : Value) (l : List Nat) (hd : Dig l) (hl : l.length ≤ 60) (w : World) (h : DigAt w v l) :
    Calls Try.prog 55 #[v] w fun e w' => ∃ v' l', e = .returned v' ∧ DigAt w' v' l' ∧ Dig l' ∧ dV l' = dV l % prime ∧ l'.length = 17 ∧ Below w.heap.size w w' := by
  have HDA := Lib.hid h
  have HD := Lib.hid hd
  clear h hd
  go_enter Try.func55, Try.ntmps55
  go_wp2_with fail
  go_loopg [0] (dV l) (fun g x wr => ∃ m : List Nat, DigAt wr x m ∧ Dig m ∧ Hid (dV m = g) ∧ Hid (dV m % prime = dV l % prime) ∧ m.length ≤ 60 ∧ Below w.heap.size w wr)
  case atStart => exact ⟨l, HDA.out, HD.out, rfl, rfl, hl, Below.refl _ _⟩
  case round =>
    obtain ⟨m, hda, hdm, hg, hmod, hlen, hbel⟩ := hrel
    have HDM := Lib.hid hda
    have HGM := Lib.hid hdm
    have HB0 := Lib.hid hbel
    clear hda hdm hbel
    have HHV := Lib.hid (hiD_val m HGM.out)
    have HHD := Lib.hid (hiD_dig m HGM.out (m.length - 16))
    have HHL := Lib.hid (hiD_length m (m.length - 16))
    go_wp2_with fail
    refine (high_walk _ m HGM.out (by omega) _ HDM.out).mono ?_
    rintro e w1 ⟨v1, rfl, h1, hb1⟩
    have HB1 := Lib.hid (bthen HB0.out hb1)
    have HDM1 := Lib.hid (HDM.out.below hb1)
    have H1 := Lib.hid h1
    clear hb1 h1
    go_wp2_with fail
    refine (some_walk _ _ (by rw [HHL.out]; omega) _ H1.out).mono ?_
    rintro e w1' ⟨rfl, rfl⟩
    by_cases hne : dV m / two130 ≠ 0
    · have hdd : someD (hiD m (m.length - 16)) = true := by unfold someD; rw [HHV.out]; exact decide_eq_true hne
      have HMR := Lib.hid (mod_round (dV m) hne)
      have HLV := Lib.hid (loD_val m)
      have HLL := Lib.hid (loD_length m)
      rw [hdd]
      clear hne hdd
      go_wp2_with fail
      refine (low_walk _ m HGM.out _ HDM1.out).mono ?_
      rintro e w2 ⟨v2, rfl, h2, hb2⟩
      have HDM2 := Lib.hid (HDM1.out.below hb2)
      have HB2 := Lib.hid (bthen HB1.out hb2)
      have H2 := Lib.hid h2
      clear hb2 h2
      go_wp2_with fail
      have hb3 : Below w2.heap.size w2 (w2.alloc (.cells #[.int .i64 5] 3)) := (Below.refl _ _).alloc (Nat.le_refl _) _
      have H3 := Lib.hid (show DigAt (w2.alloc (.cells #[.int .i64 5] 3)) (.slice (some ⟨w2.heap.size, 0, none⟩) 1 1) [5] from dig_one w2 5)
      have HDM3 := Lib.hid (HDM2.out.below hb3)
      have H23 := Lib.hid (H2.out.below hb3)
      have HB3 := Lib.hid (bthen HB2.out hb3)
      clear hb3
      generalize w2.alloc (.cells #[.int .i64 5] 3) = w3 at H3 HDM3 H23 HB3 ⊢
      generalize w2.heap.size = fb at H3 ⊢
      refine (high_walk _ m HGM.out (by omega) _ HDM3.out).mono ?_
      rintro e w4 ⟨v4, rfl, h4, hb4⟩
      have H34 := Lib.hid (H3.out.below hb4)
      have H24 := Lib.hid (H23.out.below hb4)
      have HB4 := Lib.hid (bthen HB3.out hb4)
      have H4 := Lib.hid h4
      clear hb4 h4
      go_wp2_with fail
      refine (times_ref _ _ [5] (hiD m (m.length - 16)) (by intro d hd; simp at hd; omega) HHD.out (by simp) (by rw [HHL.out]; omega) _ H34.out H4.out).mono ?_
      rintro e w5 ⟨v5, l5, rfl, h5, hd5, hv5, hl5, hb5⟩
      have H25 := Lib.hid (H24.out.below hb5)
      have HB5 := Lib.hid (bthen HB4.out hb5)
      have H5 := Lib.hid h5
      have HD5 := Lib.hid hd5
      have HV5 := Lib.hid (show dV l5 = 5 * (dV m / two130) by rw [hv5, HHV.out]; simp [dV])
      have hl60 : l5.length ≤ 60 := hl5 60 (by rw [HHL.out]; simp; omega)
      clear hb5 h5 hd5 hv5 hl5
      go_wp2_with fail
      refine (plus_ref _ _ (loD m) l5 (loD_dig m) HD5.out (by rw [HLL.out]; omega) (by omega) _ H25.out H5.out).mono ?_
      rintro e w6 ⟨v6, l6, rfl, h6, hd6, hv6, hl6, hb6⟩
      have HV6 := Lib.hid (show dV l6 = dV m % two130 + 5 * (dV m / two130) by rw [hv6, HLV.out, HV5.out])
      have hlt6 : l6.length ≤ 60 := hl6 60 (by rw [HLL.out]; omega) hl60 (by
        rw [HLV.out, HV5.out]
        exact Nat.lt_trans HMR.out.2 (hiD_pow m HGM.out 60 hlen))
      have HB6 := Lib.hid (bthen HB5.out hb6)
      have H6 := Lib.hid h6
      have HD6 := Lib.hid hd6
      clear hb6 h6 hd6 hv6 hl6
      go_wp2_with fail
      go_roundg (dV l6)
      case measure => rw [← hg.out, HV6.out]; exact HMR.out.2
      case rel => exact ⟨l6, H6.out, HD6.out, rfl, by unfold Hid; rw [HV6.out, HMR.out.1]; exact hmod.out, hlt6, HB6.out⟩
    · have h0 : dV m / two130 = 0 := by omega
      have hdd : someD (hiD m (m.length - 16)) = false := by unfold someD; rw [HHV.out]; exact decide_eq_false hne
      have HME := Lib.hid (mod_end (dV m) h0)
      have HLV := Lib.hid (show dV (loD m) = dV m by
        rw [loD_val]
        exact Nat.mod_eq_of_lt (by
          rcases Nat.lt_or_ge (dV m) two130 with g | g
          · exact g
          · have := Nat.div_pos g (show 0 < two130 by unfold two130; omega); omega))
      have HLL := Lib.hid (loD_length m)
      rw [hdd]
      clear hne hdd h0
      go_wp2_with fail
      refine (low_walk _ m HGM.out _ HDM1.out).mono ?_
      rintro e w2 ⟨v2, rfl, h2, hb2⟩
      have HDM2 := Lib.hid (HDM1.out.below hb2)
      have HB2 := Lib.hid (bthen HB1.out hb2)
      have H2 := Lib.hid h2
      clear hb2 h2
      go_wp2_with fail
      have hb3 : Below w2.heap.size w2 (w2.alloc (.cells #[.int .i64 5] 3)) := (Below.refl _ _).alloc (Nat.le_refl _) _
      have H3 := Lib.hid (show DigAt (w2.alloc (.cells #[.int .i64 5] 3)) (.slice (some ⟨w2.heap.size, 0, none⟩) 1 1) [5] from dig_one w2 5)
      have HDM3 := Lib.hid (HDM2.out.below hb3)
      have H23 := Lib.hid (H2.out.below hb3)
      have HB3 := Lib.hid (bthen HB2.out hb3)
      clear hb3
      generalize w2.alloc (.cells #[.int .i64 5] 3) = w3 at H3 HDM3 H23 HB3 ⊢
      generalize w2.heap.size = fb at H3 ⊢
      refine (plus_ref _ _ (loD m) [5] (loD_dig m) (by intro d hd; simp at hd; omega) (by rw [HLL.out]; omega) (by simp) _ H23.out H3.out).mono ?_
      rintro e w4 ⟨v4, l4, rfl, h4, hd4, hv4, hl4, hb4⟩
      have HV4 := Lib.hid (show dV l4 = dV m + 5 by rw [hv4, HLV.out]; simp [dV])
      have hl18 : l4.length ≤ 18 := hl4 18 (by rw [HLL.out]; omega) (by simp) (by
        have e1 : dV (loD m) < 256 ^ 17 := by have := dV_lt (loD_dig m); rwa [HLL.out] at this
        simp only [dV]; omega)
      have HDM4 := Lib.hid (HDM3.out.below hb4)
      have HB4 := Lib.hid (bthen HB3.out hb4)
      have H4 := Lib.hid h4
      have HD4 := Lib.hid hd4
      clear hb4 h4 hd4 hv4 hl4
      go_wp2_with fail
      refine (high_walk _ l4 HD4.out (by omega) _ H4.out).mono ?_
      rintro e w5 ⟨v5, rfl, h5, hb5⟩
      have HDM5 := Lib.hid (HDM4.out.below hb5)
      have H45 := Lib.hid (H4.out.below hb5)
      have HB5 := Lib.hid (bthen HB4.out hb5)
      have H5 := Lib.hid h5
      have HHV4 := Lib.hid (hiD_val l4 HD4.out)
      clear hb5 h5
      go_wp2_with fail
      refine (some_walk _ _ (by rw [hiD_length]; omega) _ H5.out).mono ?_
      rintro e w5' ⟨rfl, rfl⟩
      by_cases hq : (dV m + 5) / two130 ≠ 0
      · have hdd : someD (hiD l4 (l4.length - 16)) = true := by unfold someD; rw [HHV4.out, HV4.out]; exact decide_eq_true hq
        have HR := Lib.hid (show (dV m + 5) % two130 = dV l % prime by rw [← hmod.out, ← HME.out, if_pos hq])
        rw [hdd]
        clear hq hdd
        go_wp2_with fail
        refine (low_walk _ l4 HD4.out _ H45.out).mono ?_
        rintro e w6 ⟨v6, rfl, h6, hb6⟩
        go_wp2_with fail
        go_ret
        exact ⟨v6, _, rfl, h6, loD_dig _, by rw [loD_val, HV4.out]; exact HR.out, loD_length _, bthen HB5.out hb6⟩
      · have hdd : someD (hiD l4 (l4.length - 16)) = false := by unfold someD; rw [HHV4.out, HV4.out]; exact decide_eq_false hq
        have HR := Lib.hid (show dV m = dV l % prime by rw [← hmod.out, ← HME.out, if_neg hq])
        rw [hdd]
        clear hq hdd
        go_wp2_with fail
        refine (low_walk _ m HGM.out _ HDM5.out).mono ?_
        rintro e w6 ⟨v6, rfl, h6, hb6⟩
        go_wp2_with fail
        go_ret
        exact ⟨v6, _, rfl, h6, loD_dig _, by rw [HLV.out]; exact HR.out, loD_length _, bthen HB5.out hb6⟩
end Go.Proofs.Ytfglhemmccihfaa

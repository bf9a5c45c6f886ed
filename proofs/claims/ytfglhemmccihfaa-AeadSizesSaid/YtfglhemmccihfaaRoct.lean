/-
  Layer 1, the references: each returns what XPlain says.
-/
import Derived.Test.YtfglhemmccihfaaPlain
import Derived.Test.YtfglhemmccihfaaOwn
import Derived.Test.YtfglhemmccihfaaRows
namespace Go.Proofs.Ytfglhemmccihfaa
open Go.RowKit

theorem infoB : (Try.prog.info? 5).map (fun i => (i.zero, i.size, i.bytes)) = some (some (.int .u8 0), 1, 1) := by kernel_rfl

set_option maxHeartbeats 400000 in
theorem RRound_walk (n k : Int) (hk : 0 < k) (hk2 : k ≤ 1073741824) (w : World) :
    Calls Try.prog 68 #[.int .i64 n, .int .i64 k] w fun e w' => e = .returned (.int .i64 (n % k)) ∧ w = w' := by
  have e1 := Int.emod_nonneg n (show k ≠ 0 by omega)
  have e2 := Int.emod_lt_of_pos n hk
  have e3 : n.tmod k = if 0 ≤ n then n % k else -((-n) % k) := by
    split
    · exact Int.tmod_eq_emod_of_nonneg (by assumption)
    · rw [← Int.neg_neg (n.tmod k), ← Int.neg_tmod, Int.tmod_eq_emod_of_nonneg (by omega)]
  have e4 : (-n) % k = if n % k = 0 then 0 else k - n % k := by
    rw [Int.neg_emod]
    split
    · rename_i h; rw [if_pos (Int.emod_eq_zero_of_dvd h)]
    · rename_i h; rw [if_neg (fun e => h (Int.dvd_of_emod_eq_zero e))]; omega
  by_cases h : n.tmod k < 0
  · have hr : wrap64 (n.tmod k + k) = n % k := by
      rw [IntWalk.wrap64_in _ (by split at e3 <;> split at e4 <;> omega)]
      split at e3 <;> split at e4 <;> omega
    have HR := Lib.hid hr
    clear hr e1 e2 e3 e4
    go_enter Try.func68, Try.ntmps68
    go_wp2
    go_ret
    exact ⟨ret_int HR.out, rfl⟩
  · have HR := Lib.hid (show n.tmod k = n % k by split at e3 <;> split at e4 <;> omega)
    clear e1 e2 e3 e4
    go_enter Try.func68, Try.ntmps68
    go_wp2
    go_ret
    exact ⟨ret_int HR.out, rfl⟩

theorem rol_next (x : BitVec 32) (k : Nat) : (x.rotateLeft k).rotateLeft 1 = x.rotateLeft (k + 1) := rol_rol x k 1

set_option maxHeartbeats 400000 in
theorem RLeft_walk (x : BitVec 32) (n : Int) (w : World) :
    Calls Try.prog 112 #[.int .u32 (bvi x), .int .i64 n] w fun e w' => e = .returned (.int .u32 (bvi (rolI x n))) ∧ w = w' := by
  have e1 := Int.emod_nonneg n (show (32 : Int) ≠ 0 by omega)
  have e2 := Int.emod_lt_of_pos n (show (0 : Int) < 32 by omega)
  go_enter Try.func112, Try.ntmps112
  go_wp2
  go_loop [0, 5] (fun y i => ∃ k : Nat, (k : Int) ≤ n % 32 ∧ i = .int .i64 k ∧ y = .int .u32 (bvi (x.rotateLeft k))) (fun _ i => 32 - (intOf i).toNat)
  case atStart => exact ⟨0, by omega, rfl, by rw [rol_zero]⟩
  case round =>
    obtain ⟨k, hk, rfl, rfl⟩ := hrel
    by_cases hlt : (k : Int) < n % 32
    · go_wp2_with (go_at_call 68; refine (RRound_walk n 32 (by omega) (by omega) _).mono ?_; rintro e w' ⟨rfl, rfl⟩)
      go_round
      case rel => exact ⟨k + 1, by omega, by go_num, by rw [← rol_next, ← rol_one]⟩
      case measure => simp [intOf]; omega
    · have hfin : (k : Int) = n % 32 := by omega
      have HF := Lib.hid hfin
      clear hfin
      go_wp2_with (go_at_call 68; refine (RRound_walk n 32 (by omega) (by omega) _).mono ?_; rintro e w' ⟨rfl, rfl⟩)
      go_ret
      refine ⟨ret_bvi ?_, rfl⟩
      unfold rolI
      rw [← HF.out]; simp

set_option maxHeartbeats 400000 in
theorem RRight_walk (x : BitVec 32) (n : Int) (w : World) :
    Calls Try.prog 122 #[.int .u32 (bvi x), .int .i64 n] w fun e w' => e = .returned (.int .u32 (bvi (rorI x n))) ∧ w = w' := by
  have e1 := Int.emod_nonneg n (show (32 : Int) ≠ 0 by omega)
  have e2 := Int.emod_lt_of_pos n (show (0 : Int) < 32 by omega)
  go_enter Try.func122, Try.ntmps122
  go_wp2_with fail
  refine (RRound_walk n 32 (by omega) (by omega) _).mono ?_
  rintro e w' ⟨rfl, rfl⟩
  go_wp2_with fail
  refine (RLeft_walk _ _ _).mono ?_
  rintro e w' ⟨rfl, rfl⟩
  go_wp2_with fail
  go_ret
  refine ⟨ret_bvi ?_, rfl⟩
  unfold rolI rorI
  congr 2
  omega

theorem low_step (x : BitVec 64) (k : Nat) : lowL x k ++ [⟨BitVec.setWidth 8 (x >>> (8 * k) % 256#64)⟩] = lowL x (k + 1) := by
  rw [lowL]
  congr 3
  apply BitVec.eq_of_toNat_eq
  simp
theorem shr_step (x : BitVec 64) (k : Nat) : x >>> (8 * k) / 256#64 = x >>> (8 * (k + 1)) := by
  apply BitVec.eq_of_toNat_eq
  simp only [BitVec.toNat_udiv, BitVec.toNat_ushiftRight, Nat.shiftRight_eq_div_pow]
  rw [show 8 * (k + 1) = 8 * k + 8 by omega, Nat.pow_add, ← Nat.div_div_eq_div_mul]
  rfl

set_option maxRecDepth 100000 in
set_option maxHeartbeats 1000000 in
theorem RLow_walk (x : BitVec 64) (n : Int) (w : World) :
    Calls Try.prog 41 #[.int .u64 (bvi x), .int .i64 n] w fun e w' => ∃ r, e = .returned (.string r) ∧ Is r (lowL x (cut n)) ∧ Below w.heap.size w w' := by
  have hm64 : cut n ≤ 64 := by unfold cut; omega
  have hc1 : ∀ k : Nat, k < cut n → (k : Int) < n ∧ (k : Int) < 64 := fun k h => by unfold cut at h; omega
  have hc2 : n ≤ (cut n : Int) ∨ ((cut n : Int) < n ∧ (64 : Int) ≤ cut n) := by unfold cut; omega
  generalize hm : cut n = m at hm64 hc1 hc2
  have HM := Lib.hid hm; clear hm
  have HC1 := Lib.hid hc1; clear hc1
  have HC2 := Lib.hid hc2; clear hc2
  go_enter Try.func41, Try.ntmps41
  go_wp2
  go_loopw [0, 5, 6] (fun y v i wr => ∃ k : Nat, k ≤ m ∧ i = .int .i64 k ∧ y = .int .u64 (bvi (x >>> (8 * k))) ∧ wr.ownsRow w.heap.size 5 1 v k (cells (lowL x k)) ∧ Below w.heap.size w wr) (fun _ _ i _ => m - (intOf i).toNat)
  case atStart => exact ⟨0, Nat.zero_le _, rfl, by simp, owns_zero w _ (Nat.le_refl _), (Below.refl _ _).alloc (Nat.le_refl _) _⟩
  case round =>
    obtain ⟨k, hk, rfl, rfl, hown, hbel⟩ := hrel
    rcases Nat.lt_or_ge k m with hlt | hge
    · obtain ⟨h1, h2⟩ := HC1.out k hlt
      go_wp2_with (at_builtin; refine append_one rfl _ _ 32 rfl wr w.heap.size 5 (.int .u8 0) 1 Try.underlying32 infoB rfl hown rfl _ rfl rfl ?c1 ?c2 ?c3 ?_)
      case c1 => omega
      case c2 => omega
      case c3 => have := hbel.size; omega
      intro v' w1 hown' hb1 _ _
      clear hown h1 h2
      go_wp2
      go_roundw
      case rel => exact ⟨k + 1, by omega, by go_num, by rw [shr_step], by rw [← low_step, cells_append]; exact hown', hbel.trans hb1⟩
      case measure => simp [intOf]; omega
    · obtain rfl : k = m := by omega
      have hst := run_str_own (P := Try.prog) wr 32 5 Try.underlying32 Try.underlying5 9 Try.underlying9 _ k _ (lowL x k) hown
      clear hown
      rcases HC2.out with h1 | ⟨h1, h2⟩
      · go_wp2
        go_ret
        exact ⟨_, rfl, HM.out ▸ Is.of _, hbel⟩
      · go_wp2
        go_ret
        exact ⟨_, rfl, HM.out ▸ Is.of _, hbel⟩
end Go.Proofs.Ytfglhemmccihfaa

/-
  Layer 1, the references: Turned, High, FromHigh, FromLow, Xor, Fill.
-/
import Derived.Test.YtfglhemmccihfaaRoct
import Derived.Deep.RegionLaw
namespace Go.Proofs.Ytfglhemmccihfaa
open Go.RowKit

theorem turned_step (s : ByteArray) (k : Nat) (h : k < s.size) : s.data.toList.reverse.take k ++ [s[s.size - 1 - k]'(by omega)] = s.data.toList.reverse.take (k + 1) := by
  have hl : s.data.toList.length = s.size := by rw [Array.length_toList]; rfl
  rw [List.take_succ_eq_append_getElem (by rw [List.length_reverse, hl]; exact h), List.getElem_reverse]
  congr 2

set_option maxRecDepth 100000 in
set_option maxHeartbeats 1000000 in
theorem RTurned_walk (s : ByteArray) (hs : s.size ≤ 140737488351232) (w : World) :
    Calls Try.prog 74 #[.string s] w fun e w' => ∃ r, e = .returned (.string r) ∧ Is r s.data.toList.reverse ∧ Below w.heap.size w w' := by
  go_enter Try.func74, Try.ntmps74
  go_wp2
  go_loopw [3, 4] (fun v i wr => ∃ k : Nat, k ≤ s.size ∧ i = .int .i64 k ∧ wr.ownsRow w.heap.size 5 1 v k (cells (s.data.toList.reverse.take k)) ∧ Below w.heap.size w wr) (fun _ i _ => s.size - (intOf i).toNat)
  case atStart => exact ⟨0, Nat.zero_le _, rfl, owns_zero w _ (Nat.le_refl _), (Below.refl _ _).alloc (Nat.le_refl _) _⟩
  case round =>
    obtain ⟨k, hk, rfl, hown, hbel⟩ := hrel
    rcases Nat.lt_or_ge k s.size with hlt | hge
    · have hlt2 : s.size - 1 - k < s.size := by omega
      go_wp2_with (at_builtin; refine append_one rfl _ _ 32 rfl wr w.heap.size 5 (.int .u8 0) 1 Try.underlying32 infoB rfl hown rfl _ rfl rfl ?c1 ?c2 ?c3 ?_)
      case c1 => omega
      case c2 => omega
      case c3 => have := hbel.size; omega
      intro v' w1 hown' hb1 _ _
      clear hown
      go_wp2
      go_roundw
      case rel => exact ⟨k + 1, by omega, by go_num, by rw [← turned_step s k hlt, cells_append]; exact hown', hbel.trans hb1⟩
      case measure => simp [intOf]; omega
    · obtain rfl : k = s.size := by omega
      have hst := run_str_own (P := Try.prog) wr 32 5 Try.underlying32 Try.underlying5 9 Try.underlying9 _ _ _ _ hown
      clear hown
      go_wp2
      go_ret
      exact ⟨_, rfl, by unfold Is; rw [List.take_of_length_le (by rw [List.length_reverse, Array.length_toList]; exact Nat.le_refl _)], hbel⟩

set_option maxHeartbeats 400000 in
theorem RHigh_walk (x : BitVec 64) (n : Int) (w : World) :
    Calls Try.prog 47 #[.int .u64 (bvi x), .int .i64 n] w fun e w' => ∃ r, e = .returned (.string r) ∧ Is r (highL x (cut n)) ∧ Below w.heap.size w w' := by
  go_enter Try.func47, Try.ntmps47
  go_wp2_with fail
  refine (RLow_walk _ _ _).mono ?_
  rintro e w1 ⟨r, rfl, hr, hb⟩
  have hrs : r.size ≤ 64 := by rw [hr.size, lowL_length]; unfold cut; omega
  go_wp2_with fail
  refine (RTurned_walk r (by omega) _).mono ?_
  rintro e w2 ⟨r2, rfl, hr2, hb2⟩
  go_wp2_with fail
  go_ret
  refine ⟨_, rfl, ?_, hb.trans (hb2.mono hb.size)⟩
  rw [hr.out] at hr2
  exact hr2

set_option maxHeartbeats 400000 in
theorem RFromHigh_ok (s : ByteArray) (hs : s.size ≤ 8) (w : World) :
    Calls Try.prog 99 #[.string s] w fun e w' => e = .returned (.tuple #[.int .u64 (bvi (hiV s.data.toList)), .int .i64 0]) ∧ w = w' := by
  go_enter Try.func99, Try.ntmps99
  go_wp2
  go_loop [4, 5] (fun x i => ∃ k : Nat, k ≤ s.size ∧ i = .int .i64 k ∧ x = .int .u64 (bvi (hiV (s.data.toList.take k)))) (fun _ i => s.size - (intOf i).toNat)
  case atStart => exact ⟨0, Nat.zero_le _, rfl, rfl⟩
  case round =>
    obtain ⟨k, hk, rfl, rfl⟩ := hrel
    rcases Nat.lt_or_ge k s.size with hlt | hge
    · go_wp2
      go_round
      case rel => exact ⟨k + 1, by omega, by go_num, by rw [take_step s k hlt, hiV_snoc, ← mul_add_byte]⟩
      case measure => simp [intOf]; omega
    · obtain rfl : k = s.size := by omega
      go_wp2
      go_ret2
      exact ⟨ret_val (by rw [take_all]; rfl), rfl⟩

set_option maxHeartbeats 400000 in
theorem RFromHigh_big (s : ByteArray) (hs : 8 < s.size) (w : World) :
    Calls Try.prog 99 #[.string s] w fun e w' => e = .returned (.tuple #[.int .u64 0, .int .i64 5]) ∧ w = w' := by
  go_enter Try.func99, Try.ntmps99
  go_wp2
  go_ret2
  exact ⟨rfl, rfl⟩

set_option maxHeartbeats 400000 in
theorem RFromLow_ok (s : ByteArray) (hs : s.size ≤ 8) (w : World) :
    Calls Try.prog 86 #[.string s] w fun e w' => e = .returned (.tuple #[.int .u64 (bvi (loV s.data.toList)), .int .i64 0]) ∧ Below w.heap.size w w' := by
  go_enter Try.func86, Try.ntmps86
  go_wp2_with fail
  refine (RTurned_walk s (by omega) _).mono ?_
  rintro e w1 ⟨r, rfl, hr, hb⟩
  have hrs : r.size ≤ 8 := by rw [hr.size, List.length_reverse, Array.length_toList]; exact hs
  go_wp2_with fail
  refine (RFromHigh_ok r hrs _).mono ?_
  rintro e w2 ⟨rfl, rfl⟩
  go_wp2_with fail
  go_ret2
  refine ⟨ret_val ?_, hb⟩
  rw [hr.out]
  unfold hiV
  rw [List.reverse_reverse]
  rfl

set_option maxHeartbeats 400000 in
theorem RFromLow_big (s : ByteArray) (hs : 8 < s.size) (hs2 : s.size ≤ 140737488351232) (w : World) :
    Calls Try.prog 86 #[.string s] w fun e w' => e = .returned (.tuple #[.int .u64 0, .int .i64 5]) ∧ Below w.heap.size w w' := by
  go_enter Try.func86, Try.ntmps86
  go_wp2_with fail
  refine (RTurned_walk s hs2 _).mono ?_
  rintro e w1 ⟨r, rfl, hr, hb⟩
  have hrs : 8 < r.size := by rw [hr.size, List.length_reverse, Array.length_toList]; exact hs
  go_wp2_with fail
  refine (RFromHigh_big r hrs _).mono ?_
  rintro e w2 ⟨rfl, rfl⟩
  go_wp2_with fail
  go_ret2
  exact ⟨rfl, hb⟩

theorem xor_step (a b : ByteArray) (k : Nat) (ha : k < a.size) (hb : k < b.size) : xorL (a.data.toList.take k) (b.data.toList.take k) ++ [a[k] ^^^ b[k]] = xorL (a.data.toList.take (k + 1)) (b.data.toList.take (k + 1)) := by
  rw [take_step a k ha, take_step b k hb]
  unfold xorL
  rw [List.zipWith_append]
  · rfl
  · simp; omega

set_option maxRecDepth 100000 in
set_option maxHeartbeats 1000000 in
theorem RXor_ok (a b : ByteArray) (h : a.size = b.size) (hm : a.size ≤ 140737488351232) (w : World) :
    Calls Try.prog 52 #[.string a, .string b] w fun e w' => ∃ r, e = .returned (.tuple #[.string r, .int .i64 0]) ∧ Is r (xorL a.data.toList b.data.toList) ∧ Below w.heap.size w w' := by
  have hne : ((a.size : Int) != (b.size : Int)) = false := by simp [h]
  have H := Lib.hid h; clear h
  go_enter Try.func52, Try.ntmps52
  go_wp2
  go_loopw [6, 7] (fun v i wr => ∃ k : Nat, k ≤ a.size ∧ i = .int .i64 k ∧ wr.ownsRow w.heap.size 5 1 v k (cells (xorL (a.data.toList.take k) (b.data.toList.take k))) ∧ Below w.heap.size w wr) (fun _ i _ => a.size - (intOf i).toNat)
  case atStart => exact ⟨0, Nat.zero_le _, rfl, owns_zero w _ (Nat.le_refl _), (Below.refl _ _).alloc (Nat.le_refl _) _⟩
  case round =>
    obtain ⟨k, hk, rfl, hown, hbel⟩ := hrel
    rcases Nat.lt_or_ge k a.size with hlt | hge
    · have hkb : k < b.size := by have := H.out; omega
      have hbs := hbel.size
      go_wp2
      go_region_law (refine step_append_one rfl (.tmp 20) (.tmp 28) 32 rfl wr.drew w.heap.size 5 (.int .u8 0) 1 Try.underlying32 infoB rfl hown.drew rfl (u8c (a[k] ^^^ b[k])) (by simp [Act.eval]) rfl (by omega) (by omega) hbs (fun v' w1 hown' hb1 _ _ => ?_))
      all_goals
        have HO := Lib.hid hown'
        have HB := Lib.hid hb1
        clear hown hown' hb1
        go_wp2
        go_roundw
        case rel => exact ⟨k + 1, by omega, by go_num, by rw [← xor_step a b k hlt hkb, cells_append]; exact HO.out, hbel.drew.trans HB.out⟩
        case measure => simp [intOf]; omega
    · obtain rfl : k = a.size := by omega
      have hst := run_str_own (P := Try.prog) wr 32 5 Try.underlying32 Try.underlying5 9 Try.underlying9 _ _ _ _ hown
      clear hown
      go_wp2
      go_ret2
      exact ⟨_, rfl, by rw [take_all, H.out, take_all]; exact Is.of _, hbel⟩

set_option maxHeartbeats 400000 in
theorem RXor_no (a b : ByteArray) (h : a.size ≠ b.size) (w : World) :
    Calls Try.prog 52 #[.string a, .string b] w fun e w' => e = .returned (.tuple #[.string ByteArray.empty, .int .i64 5]) ∧ w = w' := by
  have hne : ((a.size : Int) != (b.size : Int)) = true := by simp; omega
  clear h
  go_enter Try.func52, Try.ntmps52
  go_wp2
  go_ret2
  exact ⟨rfl, rfl⟩

theorem cells_zeros (c : Nat) : cells (List.replicate c 0) = List.replicate c (Value.int .u8 0) := by
  unfold cells; rw [List.map_replicate]; rfl

set_option maxHeartbeats 1000000 in
theorem RFill_walk (s : ByteArray) (n : Int) (hs : s.size ≤ 140737488351232) (hn : n ≤ 1048576) (w : World) :
    Calls Try.prog 40 #[.string s, .int .i64 n] w fun e w' => ∃ r, e = .returned (.string r) ∧ Is r (fillL s.data.toList n) ∧ Below w.heap.size w w' := by
  have hl : s.data.toList.length = s.size := by rw [Array.length_toList]; rfl
  by_cases h1 : n < 1
  · go_enter Try.func40, Try.ntmps40
    go_wp2_with fail
    go_ret
    exact ⟨s, rfl, by unfold fillL; rw [if_pos h1]; exact Is.self s, Below.refl _ _⟩
  · have h2 := Int.emod_nonneg (-(s.size : Int)) (show n ≠ 0 by omega)
    have h3 := Int.emod_lt_of_pos (-(s.size : Int)) (show 0 < n by omega)
    obtain ⟨c, hc⟩ : ∃ c : Nat, (-(s.size : Int)) % n = (c : Int) := ⟨_, (Int.toNat_of_nonneg (by omega)).symm⟩
    have hc2 : c ≤ 1048576 := by omega
    have F := Lib.hid (show fillL s.data.toList n = s.data.toList ++ List.replicate c 0 by
      unfold fillL; rw [if_neg h1, hl, hc, Int.toNat_natCast])
    have HC := Lib.hid hc
    clear h2 h3 hc hl
    obtain ⟨i0, hi, hz0, hz1, hz2⟩ := info_parts infoB
    have hmk := run_make (P := Try.prog) w 32 5 i0 (.int .u8 0) Try.underlying32 hi hz0 .i64 .i64 c c (by omega) (by omega) (by rw [hz2]; omega) (by omega)
    rw [hz1] at hmk; simp only [Int.toNat_natCast, Nat.mul_one] at hmk
    rw [show (Value.int IntKind.u8 0).cells = #[Value.int .u8 0] from rfl, madeCells_one] at hmk
    clear hi hz0 hz1 hz2
    have hst := run_str (P := Try.prog) (w.alloc (.cells (Array.replicate c (Value.int .u8 0)) 5)) 32 5 Try.underlying32 Try.underlying5 9 Try.underlying9 w.heap.size c c _ 5 (0, 0) (List.replicate c 0) (RowAt.new w _ _ _) (by simp) (by
      rw [cells_zeros]; simp)
    have hsz : (ByteArray.mk (List.replicate c (0 : UInt8)).toArray).size ≤ 1048576 := by
      rw [(Is.of (List.replicate c (0 : UInt8))).size, List.length_replicate]; exact hc2
    have hr := Is.of (List.replicate c (0 : UInt8))
    generalize ByteArray.mk (List.replicate c (0 : UInt8)).toArray = r at hst hsz hr
    go_enter Try.func40, Try.ntmps40
    go_wp2_with fail
    refine (RRound_walk _ n (by omega) (by omega) _).mono ?_
    rintro e w1 ⟨rfl, rfl⟩
    rw [HC.out]
    go_wp2_with fail
    go_ret
    exact ⟨_, rfl, by rw [F.out]; exact (Is.self s).append hr, (Below.refl _ _).alloc (Nat.le_refl _) _⟩
end Go.Proofs.Ytfglhemmccihfaa

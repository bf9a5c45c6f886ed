/-
  Layer 1, the references: Turned, High, FromHigh, FromLow, Xor, Fill.
-/
import Derived.Test.YtdfgcjjaiggpkaaRoct
import Derived.Deep.RegionLaw
namespace Go.Proofs.Ytdfgcjjaiggpkaa
open Go.RowKit

theorem turned_step (s : ByteArray) (k : Nat) (h : k < s.size) : s.data.toList.reverse.take k ++ [s[s.size - 1 - k]'(by omega)] = s.data.toList.reverse.take (k + 1) := by
  have hl : s.data.toList.length = s.size := by rw [Array.length_toList]; rfl
  rw [List.take_succ_eq_append_getElem (by rw [List.length_reverse, hl]; exact h), List.getElem_reverse]
  congr 2

set_option maxRecDepth 100000 in
set_option maxHeartbeats 1000000 in
theorem RTurned_walk (s : ByteArray) (hs : s.size ≤ 140737488351232) (w : World) :
    Calls Try.prog 55 #[.string s] w fun e w' => ∃ r, e = .returned (.string r) ∧ Is r s.data.toList.reverse ∧ Below w.heap.size w w' := by
  go_enter Try.func55, Try.ntmps55
  go_wp2
  go_loopw [3, 4] (fun v i wr => ∃ k : Nat, k ≤ s.size ∧ i = .int .i64 k ∧ wr.ownsRow w.heap.size 5 1 v k (cells (s.data.toList.reverse.take k)) ∧ Below w.heap.size w wr) (fun _ i _ => s.size - (intOf i).toNat)
  case atStart => exact ⟨0, Nat.zero_le _, rfl, owns_zero w _ (Nat.le_refl _), (Below.refl _ _).alloc (Nat.le_refl _) _⟩
  case round =>
    obtain ⟨k, hk, rfl, hown, hbel⟩ := hrel
    rcases Nat.lt_or_ge k s.size with hlt | hge
    · have hlt2 : s.size - 1 - k < s.size := by omega
      go_wp2_with (at_builtin; refine append_one rfl _ _ 49 rfl wr w.heap.size 5 (.int .u8 0) 1 Try.underlying49 infoB rfl hown rfl _ rfl rfl ?c1 ?c2 ?c3 ?_)
      case c1 => omega
      case c2 => omega
      case c3 => have := hbel.size; omega
      intro v' w1 hown' hb1 _ _
      clear hown
      go_wp2
      go_roundw
      case rel => exact ⟨k + 1, by omega, by go_num, by rw [← turned_step s k hlt, cells_append]; exact hown', hbel.trans hb1⟩
      case measure => simp [intOf]; omega
    · obtain rfl : k = s.size := by omega
      have hst := run_str_own (P := Try.prog) wr 49 5 Try.underlying49 Try.underlying5 9 Try.underlying9 _ _ _ _ hown
      clear hown
      go_wp2
      go_ret
      exact ⟨_, rfl, by unfold Is; rw [List.take_of_length_le (by rw [List.length_reverse, Array.length_toList]; exact Nat.le_refl _)], hbel⟩

set_option maxHeartbeats 400000 in
theorem RHigh_walk (x : BitVec 64) (n : Int) (w : World) :
    Calls Try.prog 28 #[.int .u64 (bvi x), .int .i64 n] w fun e w' => ∃ r, e = .returned (.string r) ∧ Is r (highL x (cut n)) ∧ Below w.heap.size w w' := by
  go_enter Try.func28, Try.ntmps28
  go_wp2_with fail
  refine (RLow_walk _ _ _).mono ?_
  rintro e w1 ⟨r, rfl, hr, hb⟩
  have hrs : r.size ≤ 64 := by rw [hr.size, lowL_length]; unfold cut; omega
  go_wp2_with fail
  refine (RTurned_walk r (by omega) _).mono ?_
  rintro e w2 ⟨r2, rfl, hr2, hb2⟩
  go_wp2_with fail
  go_ret
  refine ⟨_, rfl, ?_, hb.trans (hb2.mono hb.size)⟩
  rw [hr.out] at hr2
  exact hr2

set_option maxHeartbeats 400000 in
theorem RFromHigh_ok (s : ByteArray) (hs : s.size ≤ 8) (w : World) :
    Calls Try.prog 45 #[.string s] w fun e w' => e = .returned (.tuple #[.int .u64 (bvi (hiV s.data.toList)), .int .i64 0]) ∧ w = w' := by
  go_enter Try.func45, Try.ntmps45
  go_wp2
  go_loop [4, 5] (fun x i => ∃ k : Nat, k ≤ s.size ∧ i = .int .i64 k ∧ x = .int .u64 (bvi (hiV (s.data.toList.take k)))) (fun _ i => s.size - (intOf i).toNat)
  case atStart => exact ⟨0, Nat.zero_le _, rfl, rfl⟩
  case round =>
    obtain ⟨k, hk, rfl, rfl⟩ := hrel
    rcases Nat.lt_or_ge k s.size with hlt | hge
    · go_wp2
      go_round
      case rel => exact ⟨k + 1, by omega, by go_num, by rw [take_step s k hlt, hiV_snoc, ← mul_add_byte]⟩
      case measure => simp [intOf]; omega
    · obtain rfl : k = s.size := by omega
      go_wp2
      go_ret2
      exact ⟨ret_val (by rw [take_all]; rfl), rfl⟩

set_option maxHeartbeats 400000 in
theorem RFromHigh_big (s : ByteArray) (hs : 8 < s.size) (w : World) :
    Calls Try.prog 45 #[.string s] w fun e w' => e = .returned (.tuple #[.int .u64 0, .int .i64 5]) ∧ w = w' := by
  go_enter Try.func45, Try.ntmps45
  go_wp2
  go_ret2
  exact ⟨rfl, rfl⟩

theorem xor_step (a b : ByteArray) (k : Nat) (ha : k < a.size) (hb : k < b.size) : xorL (a.data.toList.take k) (b.data.toList.take k) ++ [a[k] ^^^ b[k]] = xorL (a.data.toList.take (k + 1)) (b.data.toList.take (k + 1)) := by
  rw [take_step a k ha, take_step b k hb]
  unfold xorL
  rw [List.zipWith_append]
  · rfl
  · simp; omega

theorem cells_zeros (c : Nat) : cells (List.replicate c 0) = List.replicate c (Value.int .u8 0) := by
  unfold cells; rw [List.map_replicate]; rfl

end Go.Proofs.Ytdfgcjjaiggpkaa

/-
  Layer 12, the reference's package posthornref12: what packs.
-/
import Derived.Test.YtfdncifnokkclaaPackO
import Derived.Test.YtfdncifnokkclaaRoctB
namespace Go.Proofs.Ytfdncifnokkclaa
open Go.RowKit

theorem need_test (n : BitVec 64) (k : Nat) (hk : k < 8) : (0 < bvi n / 2 ^ (8 * k)) ↔ k < needN n.toNat := by
  unfold needN
  rw [needF_gt 8 _ _ hk]
  unfold bvi
  have e : ((n.toNat : Int) / 2 ^ (8 * k)) = ((n.toNat / 256 ^ k : Nat) : Int) := by
    rw [show (256 : Nat) = 2 ^ 8 from rfl, ← Nat.pow_mul]
    simp
  rw [e]
  have : 0 < ((n.toNat / 256 ^ k : Nat) : Int) ↔ 0 < n.toNat / 256 ^ k := Int.ofNat_lt (n := 0)
  rw [this]
  exact Nat.pos_iff_ne_zero

set_option maxRecDepth 100000 in
set_option maxHeartbeats 1000000 in
theorem RNum_walk (n : BitVec 64) (w : World) :
    Calls Try.prog 21 #[.int .u64 (bvi n)] w fun e w' => ∃ r, e = .returned (.string r) ∧ Is r (numL n) ∧ Below w.heap.size w w' := by
  have h8 := needN_le n.toNat
  go_enter Try.func21, Try.ntmps21
  go_wp2_with fail
  go_loop [3] (fun i => ∃ k : Nat, k ≤ needN n.toNat ∧ i = .int .i64 k) (fun i => 8 - (intOf i).toNat)
  case atStart => exact ⟨0, Nat.zero_le _, rfl⟩
  case round =>
    obtain ⟨k, hk, rfl⟩ := hrel
    rcases Nat.lt_or_ge k (needN n.toNat) with hlt | hge
    · have hk8 : k < 8 := by omega
      have hx := (need_test n k hk8).2 hlt
      go_wp2_with fail
      go_round
      case rel => exact ⟨k + 1, by omega, by go_num⟩
      case measure => simp [intOf]; omega
    · have HK := Lib.hid (show needN n.toNat = k by omega)
      have hx : k < 8 → ¬ 0 < bvi n / 2 ^ (8 * k) := fun h8 h => absurd ((need_test n k h8).1 h) (by omega)
      have hk8 : k ≤ 8 := by omega
      clear h8 hk hge
      have hst0 := fun wx => run_str_one0 (P := Try.prog) wx 27 5 Try.underlying27 Try.underlying5 9 Try.underlying9 (BitVec.ofNat 8 k)
      have hst := run_str_one w 27 5 Try.underlying27 Try.underlying5 9 Try.underlying9 (BitVec.ofNat 8 k)
      rcases Nat.lt_or_ge k 8 with hlt | hge
      · have hx2 := hx hlt
        clear hx
        go_wp2_with fail
        go_region_with (go_at_call 49; refine (RHigh_walk n (k : Int) _).mono ?_; rintro e w2 ⟨r2, rfl, hr2, hb2⟩; have hrs2 : r2.size ≤ 64 := (by rw [hr2.size, highL_length]; unfold cut; omega); first | (have hst2 := run_str (P := Try.prog) w2 27 5 Try.underlying27 Try.underlying5 9 Try.underlying9 w.heap.size 1 1 #[.int .u8 (bvi (BitVec.ofNat 8 k))] 5 (0, 0) [⟨BitVec.ofNat 8 k⟩] ((RowAt.new w _ _ _).drew.below hb2 (by simp)) rfl rfl) | skip)
        all_goals
          have hcut : cut (k : Int) = k := by unfold cut; omega
          rw [hcut] at hr2
          have HR := Lib.hid hr2
          have HB := Lib.hid hb2
          clear hr2 hst0 hst hb2
          try clear hst2
          go_wp2_with fail
          go_ret
          refine ⟨_, rfl, ?_, ?_⟩
          · unfold numL
            rw [HK.out]
            exact (Is.of [UInt8.ofNat k]).append HR.out
          · first
              | exact (((Below.refl _ _).alloc (Nat.le_refl _) _).drew).trans (HB.out.mono (by simp))
              | exact ((Below.drew (Below.refl _ _)).trans HB.out).alloc HB.out.size _
      · clear hx
        go_wp2_with fail
        go_region_with (go_at_call 49; refine (RHigh_walk n (k : Int) _).mono ?_; rintro e w2 ⟨r2, rfl, hr2, hb2⟩; have hrs2 : r2.size ≤ 64 := (by rw [hr2.size, highL_length]; unfold cut; omega); first | (have hst2 := run_str (P := Try.prog) w2 27 5 Try.underlying27 Try.underlying5 9 Try.underlying9 w.heap.size 1 1 #[.int .u8 (bvi (BitVec.ofNat 8 k))] 5 (0, 0) [⟨BitVec.ofNat 8 k⟩] ((RowAt.new w _ _ _).drew.below hb2 (by simp)) rfl rfl) | skip)
        all_goals
          have hcut : cut (k : Int) = k := by unfold cut; omega
          rw [hcut] at hr2
          have HR := Lib.hid hr2
          have HB := Lib.hid hb2
          clear hr2 hst0 hst hb2
          try clear hst2
          go_wp2_with fail
          go_ret
          refine ⟨_, rfl, ?_, ?_⟩
          · unfold numL
            rw [HK.out]
            exact (Is.of [UInt8.ofNat k]).append HR.out
          · first
              | exact (((Below.refl _ _).alloc (Nat.le_refl _) _).drew).trans (HB.out.mono (by simp))
              | exact ((Below.drew (Below.refl _ _)).trans HB.out).alloc HB.out.size _
end Go.Proofs.Ytfdncifnokkclaa

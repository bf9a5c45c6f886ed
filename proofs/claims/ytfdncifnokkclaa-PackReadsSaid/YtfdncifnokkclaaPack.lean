/-
  Layer 12, the program's package pack: what packs.
-/
import Derived.Test.YtfdncifnokkclaaPlainP
import Derived.Test.YtfdncifnokkclaaOctet
import Derived.Test.YtfdncifnokkclaaBuildS
import Derived.Test.YtfdncifnokkclaaOwn
import Derived.Deep.RegionLaw
namespace Go.Proofs.Ytfdncifnokkclaa
open Go.RowKit

set_option maxHeartbeats 400000 in
theorem need_walk (n : BitVec 64) (w : World) :
    Calls Try.prog 56 #[.int .u64 (bvi n)] w fun e w' => e = .returned (.int .i64 (needN n.toNat)) ∧ w = w' := by
  generalize hN : needN n.toNat = N
  have HN := Lib.hid hN
  clear hN
  go_enter Try.func56, Try.ntmps56
  go_wp2
  go_loop [0, 3] (fun x i => ∃ (m : BitVec 64) (k : Nat), k ≤ 8 ∧ x = .int .u64 (bvi m) ∧ i = .int .i64 k ∧ m.toNat < 256 ^ (8 - k) ∧ Hid (k + needF (8 - k) m.toNat = N)) (fun x _ => (intOf x).toNat)
  case atStart => exact ⟨n, 0, by omega, rfl, rfl, n.isLt, by unfold Hid; rw [← HN.out, Nat.zero_add]; rfl⟩
  case round =>
    obtain ⟨m, k, hk8, rfl, rfl, hlt, hk⟩ := hrel
    by_cases hm : m = 0#64
    · subst hm
      have hz : ¬ (0 < bvi (0#64)) := by decide
      clear hlt
      go_wp2
      go_ret
      refine ⟨ret_int ?_, rfl⟩
      have := hk.out
      simp [needF_zero] at this
      rw [this]
    · have hpos : 0 < bvi m := by
        have h1 := bvi_nonneg m
        have h2 : bvi m ≠ 0 := fun e => hm (bvi_inj.1 (e.trans rfl))
        omega
      have hmn : m.toNat ≠ 0 := fun e => hm (BitVec.eq_of_toNat_eq e)
      have hk9 : k < 8 := by
        rcases Nat.lt_or_ge k 8 with h | h
        · exact h
        · rw [show 8 - k = 0 by omega] at hlt
          simp at hlt
          omega
      have HL := Lib.hid hlt
      clear hlt hm
      go_wp2
      go_round
      case rel =>
        refine ⟨m >>> 8, k + 1, by omega, rfl, by go_num, ?_, ?_⟩
        · rw [BitVec.toNat_ushiftRight, Nat.shiftRight_eq_div_pow]
          have := HL.out
          rw [show 8 - k = (8 - (k + 1)) + 1 by omega, Nat.pow_succ] at this
          omega
        · have h := hk.out
          rw [show 8 - k = (8 - (k + 1)) + 1 by omega, needF, if_neg hmn] at h
          unfold Hid
          rw [BitVec.toNat_ushiftRight, Nat.shiftRight_eq_div_pow, show (2 ^ 8 : Nat) = 256 from rfl]
          omega
      case measure =>
        simp only [intOf, bvi_toNat, BitVec.toNat_ushiftRight, Nat.shiftRight_eq_div_pow]
        omega

set_option maxRecDepth 100000 in
set_option maxHeartbeats 1000000 in
theorem PNum_walk (n : BitVec 64) (w : World) :
    Calls Try.prog 24 #[.int .u64 (bvi n)] w fun e w' => ∃ r, e = .returned (.string r) ∧ Is r (numL n) ∧ Below w.heap.size w w' := by
  have h8 := needN_le n.toNat
  go_enter Try.func24, Try.ntmps24
  go_wp2_with fail
  refine (need_walk n _).mono ?_
  rintro e w1 ⟨rfl, rfl⟩
  generalize hk : needN n.toNat = k at h8 ⊢
  have HK := Lib.hid hk
  clear hk
  have hst0 := fun wx => run_str_one0 (P := Try.prog) wx 27 5 Try.underlying27 Try.underlying5 9 Try.underlying9 (BitVec.ofNat 8 k)
  have hst := run_str_one w 27 5 Try.underlying27 Try.underlying5 9 Try.underlying9 (BitVec.ofNat 8 k)
  go_wp2_with fail
  go_region_with (go_at_call 48; refine (High_walk n (k : Int) _).mono ?_; rintro e w2 ⟨r2, rfl, hr2, hb2⟩; have hrs2 : r2.size ≤ 64 := (by rw [hr2.size, highL_length]; unfold cut; omega); first | (have hst2 := run_str (P := Try.prog) w2 27 5 Try.underlying27 Try.underlying5 9 Try.underlying9 w.heap.size 1 1 #[.int .u8 (bvi (BitVec.ofNat 8 k))] 5 (0, 0) [⟨BitVec.ofNat 8 k⟩] ((RowAt.new w _ _ _).drew.below hb2 (by simp)) rfl rfl) | skip)
  all_goals
    have hcut : cut (k : Int) = k := by unfold cut; omega
    rw [hcut] at hr2
    have HR := Lib.hid hr2
    have HB := Lib.hid hb2
    clear hr2 hst0 hst hb2
    try clear hst2
    go_wp2_with fail
    go_ret
    refine ⟨_, rfl, ?_, ?_⟩
    · unfold numL
      rw [HK.out]
      exact (Is.of [UInt8.ofNat k]).append HR.out
    · first
        | exact (((Below.refl _ _).alloc (Nat.le_refl _) _).drew).trans (HB.out.mono (by simp))
        | exact ((Below.drew (Below.refl _ _)).trans HB.out).alloc HB.out.size _
end Go.Proofs.Ytfdncifnokkclaa

/-
  Layer 1's laws, walked: OctetBytes, OctetBack.
-/
import Derived.Test.YtfdncifnokkclaaL01A
import Derived.RegionCalls
namespace Go.Proofs.Ytfdncifnokkclaa
open Go.RowKit

theorem OctetBytes_w (a b : ByteArray) (n : Int) (hn0 : -9223372036854775808 ≤ n) (w : World) :
    Calls Try.prog 10 #[.string a, .string b, .int .i64 n] w fun e w' => e = .returned (.bool true) ∧ Below w.heap.size w w' := by
  by_cases hbig : 4096 < a.size ∨ 4096 < b.size ∨ 4096 < n
  · have h1 : ((4096 : Int) < a.size) ∨ (((a.size : Int) ≤ 4096) ∧ (4096 : Int) < b.size) ∨ ((a.size : Int) ≤ 4096 ∧ ((b.size : Int) ≤ 4096) ∧ 4096 < n) := by omega
    clear hbig
    rcases h1 with h1 | ⟨h1, h2⟩ | ⟨h1, h2, h3⟩
    all_goals
      go_enter Try.func10, Try.ntmps10
      go_wp2_with fail
      refine (awake01 _).mono ?_
      rintro e w1 ⟨rfl, hb1⟩
      go_wp2_with fail
      go_ret
      exact ⟨rfl, hb1⟩
  · have h1 : a.size ≤ 4096 := by omega
    have h2 : b.size ≤ 4096 := by omega
    have h3 : n ≤ 4096 := by omega
    clear hbig
    by_cases he : a.size = b.size
    · have HE := Lib.hid he
      clear he
      go_enter Try.func10, Try.ntmps10
      go_wp2_with fail
      refine (awake01 _).mono ?_
      rintro e w1 ⟨rfl, hb1⟩
      go_wp2_with fail
      refine (Xor_ok a b HE.out (by omega) _).mono ?_
      rintro e w2 ⟨r1, rfl, hr1, hb2⟩
      go_wp2_with fail
      refine (RXor_ok a b HE.out (by omega) _).mono ?_
      rintro e w3 ⟨r2, rfl, hr2, hb3⟩
      have q1 := seq_is hr1 hr2
      go_wp2_with fail
      refine (Same_walk a b (by omega) _).mono ?_
      rintro e w4 ⟨rfl, hb4⟩
      go_wp2_with fail
      refine (Fill_walk a n (by omega) (by omega) (by omega) _).mono ?_
      rintro e w5 ⟨r3, rfl, hr3, hb5⟩
      go_wp2_with fail
      refine (RFill_walk a n (by omega) (by omega) _).mono ?_
      rintro e w6 ⟨r4, rfl, hr4, hb6⟩
      have q2 := seq_is hr3 hr4
      go_wp2_with fail
      go_ret
      exact ⟨rfl, bthen (bthen (bthen (bthen (bthen hb1 hb2) hb3) hb4) hb5) hb6⟩
    · have HE := Lib.hid he
      clear he
      go_enter Try.func10, Try.ntmps10
      go_wp2_with fail
      refine (awake01 _).mono ?_
      rintro e w1 ⟨rfl, hb1⟩
      go_wp2_with fail
      refine (Xor_no a b HE.out _).mono ?_
      rintro e w2 ⟨rfl, rfl⟩
      go_wp2_with fail
      refine (RXor_no a b HE.out _).mono ?_
      rintro e w2 ⟨rfl, rfl⟩
      go_wp2_with fail
      refine (Same_walk a b (by omega) _).mono ?_
      rintro e w4 ⟨rfl, hb4⟩
      go_wp2_with fail
      refine (Fill_walk a n (by omega) (by omega) (by omega) _).mono ?_
      rintro e w5 ⟨r3, rfl, hr3, hb5⟩
      go_wp2_with fail
      refine (RFill_walk a n (by omega) (by omega) _).mono ?_
      rintro e w6 ⟨r4, rfl, hr4, hb6⟩
      have q2 := seq_is hr3 hr4
      go_wp2_with fail
      go_ret
      exact ⟨rfl, bthen (bthen (bthen hb1 hb4) hb5) hb6⟩

theorem ror_rol (x : BitVec 32) (n : Int) : rorI (rolI x n) n = x := by
  unfold rorI rolI
  rw [rol_rol]
  have h1 := Int.emod_nonneg n (show (32 : Int) ≠ 0 by omega)
  rw [← rol_mod]
  have : ((n % 32).toNat + (-n % 32).toNat) % 32 = 0 := by omega
  rw [this, rol_zero]
theorem rolI_0 (x : BitVec 32) : rolI x 0 = x := rol_zero x
theorem rolI_32 (x : BitVec 32) : rolI x 32 = x := rol_zero x
theorem loV_bit (x : BitVec 64) (k i : Nat) (hi : i < 64) : (loV (lowL x k)).getLsbD i = (decide (i < 8 * k) && x.getLsbD i) := by
  induction k with
  | zero => simp [lowL, loV]
  | succ k ih =>
    rw [lowL, loV_snoc, BitVec.getLsbD_or, ih, lowL_length]
    simp only [BitVec.getLsbD_shiftLeft, BitVec.getLsbD_setWidth, BitVec.getLsbD_ushiftRight, hi, decide_true, Bool.true_and]
    by_cases h1 : i < 8 * k
    · simp [h1, show i < 8 * (k + 1) by omega]
    · rw [show 8 * k + (i - 8 * k) = i by omega]
      by_cases h2 : i < 8 * (k + 1)
      · simp [h1, h2, show i - 8 * k < 8 by omega, show i - 8 * k < 64 by omega]
      · simp [h1, h2, show ¬ i - 8 * k < 8 by omega]
theorem loV_8 (x : BitVec 64) : loV (lowL x 8) = x := by
  apply BitVec.eq_of_getLsbD_eq
  intro i hi
  rw [loV_bit x 8 i hi]
  simp [show i < 8 * 8 by omega]
theorem xorL_xorL (a b : List UInt8) (h : a.length = b.length) : xorL (xorL a b) b = a := by
  unfold xorL
  induction a generalizing b with
  | nil => cases b <;> simp_all
  | cons x a ih =>
    cases b with
    | nil => simp at h
    | cons y b =>
      simp only [List.zipWith_cons_cons]
      rw [ih b (by simpa using h)]
      congr 1
      rw [UInt8.xor_assoc, UInt8.xor_self, UInt8.xor_zero]
theorem xorL_length (a b : List UInt8) (h : a.length = b.length) : (xorL a b).length = a.length := by simp [xorL, h]

set_option maxRecDepth 100000 in
set_option maxHeartbeats 2000000 in
theorem OctetBack_w (x : BitVec 64) (n : Int) (a b : ByteArray) (w : World) :
    Calls Try.prog 11 #[.int .u64 (bvi x), .int .i64 n, .string a, .string b] w fun e w' => e = .returned (.bool true) ∧ Below w.heap.size w w' := by
  by_cases hbig : 4096 < a.size ∨ 4096 < b.size
  · have h1 : ((4096 : Int) < a.size) ∨ (((a.size : Int) ≤ 4096) ∧ (4096 : Int) < b.size) := by omega
    clear hbig
    rcases h1 with h1 | ⟨h1, h2⟩
    all_goals
      go_enter Try.func11, Try.ntmps11
      go_wp2_with fail
      refine (awake01 _).mono ?_
      rintro e w1 ⟨rfl, hb1⟩
      go_wp2_with fail
      go_ret
      exact ⟨rfl, hb1⟩
  · have h1 : a.size ≤ 4096 := by omega
    have h2 : b.size ≤ 4096 := by omega
    clear hbig
    obtain ⟨m, hm⟩ : ∃ m : Nat, min (a.size : Int) (b.size : Int) = (m : Int) := ⟨min a.size b.size, by omega⟩
    have hma : m ≤ a.size := by omega
    have hmb : m ≤ b.size := by omega
    have ea : (a.extract 0 m).size = m := by rw [((Is.self a).extract 0 m).size]; simp; omega
    have eb : (b.extract 0 m).size = m := by rw [((Is.self b).extract 0 m).size]; simp; omega
    have EA := Lib.hid ea
    have EB := Lib.hid eb
    clear ea eb
    go_enter Try.func11, Try.ntmps11
    go_wp2_with fail
    refine (awake01 _).mono ?_
    rintro e w1 ⟨rfl, hb1⟩
    go_wp2_with fail
    refine (Left_walk _ _ _).mono ?_
    rintro e w2 ⟨rfl, rfl⟩
    go_wp2_with fail
    refine (Right_walk _ _ _).mono ?_
    rintro e w2 ⟨rfl, rfl⟩
    rw [ror_rol]
    go_wp2_with fail
    refine (Left_walk _ _ _).mono ?_
    rintro e w2 ⟨rfl, rfl⟩
    rw [rolI_0]
    go_wp2_with fail
    refine (Left_walk _ _ _).mono ?_
    rintro e w2 ⟨rfl, rfl⟩
    rw [rolI_32]
    go_wp2_with fail
    refine (Low_walk _ _ _).mono ?_
    rintro e w2 ⟨r1, rfl, hr1, hb2⟩
    have s1 : r1.size ≤ 8 := by rw [hr1.size, lowL_length]; decide
    go_wp2_with fail
    refine (FromLow_ok r1 s1 _).mono ?_
    rintro e w3 ⟨rfl, rfl⟩
    rw [show bvi (loV r1.data.toList) = bvi x by rw [hr1.out]; exact congrArg bvi (loV_8 x)]
    go_wp2_with fail
    refine (High_walk _ _ _).mono ?_
    rintro e w3 ⟨r2, rfl, hr2, hb3⟩
    have s2 : r2.size ≤ 8 := by rw [hr2.size, highL_length]; decide
    go_wp2_with fail
    refine (FromHigh_ok r2 s2 _).mono ?_
    rintro e w4 ⟨rfl, rfl⟩
    rw [show bvi (hiV r2.data.toList) = bvi x by rw [hr2.out]; unfold hiV highL; rw [List.reverse_reverse]; exact congrArg bvi (loV_8 x)]
    go_wp2_with fail
    go_region_with (go_at_call 50; refine (Xor_ok (a.extract 0 m) (b.extract 0 m) (by rw [EA.out, EB.out]) (by rw [EA.out]; omega) _).mono ?_; rintro e w4 ⟨r3, rfl, hr3, hb4⟩)
    have q3 : r3.size = m := by rw [hr3.size, xorL_length _ _ (by rw [Array.length_toList, Array.length_toList]; exact (by rw [EA.out, EB.out] : (a.extract 0 m).size = (b.extract 0 m).size)), Array.length_toList]; exact EA.out
    have Q3 := Lib.hid q3
    clear q3
    go_wp2_with fail
    refine (Xor_ok r3 (b.extract 0 m) (by rw [Q3.out, EB.out]) (by rw [Q3.out]; omega) _).mono ?_
    rintro e w5 ⟨r4, rfl, hr4, hb5⟩
    have q4 : seq r4 (a.extract 0 m) = true := by
      refine seq_is hr4 ?_
      rw [hr3.out, xorL_xorL _ _ (by rw [Array.length_toList, Array.length_toList]; exact (by rw [EA.out, EB.out] : (a.extract 0 m).size = (b.extract 0 m).size))]
      exact Is.self _
    go_wp2_with fail
    go_ret
    exact ⟨rfl, bthen (bthen (bthen (bthen hb1 hb2) hb3) (Below.drew (Below.refl _ _))) (bthen hb4 hb5)⟩
end Go.Proofs.Ytfdncifnokkclaa

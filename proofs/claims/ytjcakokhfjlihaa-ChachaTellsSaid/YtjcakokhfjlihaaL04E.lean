/-
  Layer 4's laws, walked: ChachaTells.
-/
import Derived.Test.YtjcakokhfjlihaaL04D
namespace Go.Proofs.Ytjcakokhfjlihaa
open Go.RowKit

set_option maxRecDepth 100000 in
set_option maxHeartbeats 2000000 in
theorem ChachaTells_w (a b c d : BitVec 32) (key : ByteArray) (counter : BitVec 32) (nonce : ByteArray) (w : World) :
    Calls Try.prog 3 #[.agg #[.int .u32 (bvi a), .int .u32 (bvi b), .int .u32 (bvi c), .int .u32 (bvi d)], .string key, .int .u32 (bvi counter), .string nonce] w fun e w' => e = .returned (.bool true) ∧ Below w.heap.size w w' := by
  obtain ⟨e1, l1, bb⟩ := block_both key nonce counter
  have BB := Lib.hid bb
  clear bb
  go_enter Try.func3, Try.ntmps3
  go_wp2_with fail
  refine (awake04 _).mono ?_
  rintro e w1 ⟨rfl, hb1⟩
  have HRW := Lib.hid ((RowAt.new w #[.int .u32 (bvi a), .int .u32 (bvi b), .int .u32 (bvi c), .int .u32 (bvi d)] 23 (0, 0)).below hb1 (by simp))
  have zW : w.heap.size < w1.heap.size := by have := hb1.size; simp at this; omega
  have HB1 := Lib.hid (show Below w.heap.size w w1 from Below.trans ((Below.refl _ _).alloc (Nat.le_refl _) _) (hb1.mono (by simp)))
  clear hb1
  go_wp2_with fail
  refine (large04 _ _ [key, nonce] _ (two_strs w1 key nonce) (by simp)).mono ?_
  rintro e w2 ⟨rfl, rfl⟩
  have HB2 := Lib.hid (HB1.out.alloc HB1.out.size (.cells #[.string key, .string nonce] 9))
  by_cases hL : largeB [key, nonce] = true
  · rw [hL]
    go_wp2_with fail
    go_ret
    exact ⟨rfl, HB2.out⟩
  · rw [show largeB [key, nonce] = false by simpa using hL]
    have hrow2 := HRW.out.alloc (.cells #[.string key, .string nonce] 9)
    have zW2 : w.heap.size < (w1.alloc (.cells #[.string key, .string nonce] 9)).heap.size := by simp; omega
    generalize w1.alloc (.cells #[.string key, .string nonce] 9) = w2 at HB2 hrow2 zW2 ⊢
    have HRW2 := Lib.hid hrow2
    obtain ⟨z0, z1, z2, z3, _, _, _, _⟩ := row4 HRW2.out
    obtain ⟨q0, q1, q2, q3, hq⟩ : ∃ q0 q1 q2 q3, stir4 a b c d = [q0, q1, q2, q3] := ⟨_, _, _, _, rfl⟩
    have HQ := Lib.hid hq
    clear hL hrow2 hq
    go_wp2_with fail
    refine (Stir_four a b c d q0 q1 q2 q3 _ HQ.out).mono ?_
    rintro e w3 ⟨rfl, hb3⟩
    have HR3 := Lib.hid ((HRW2.out.below hb3 zW2).alloc (.cells #[.int .u32 (bvi q0), .int .u32 (bvi q1), .int .u32 (bvi q2), .int .u32 (bvi q3)] 23))
    have HA3 := Lib.hid (RowAt.new w3 #[.int .u32 (bvi q0), .int .u32 (bvi q1), .int .u32 (bvi q2), .int .u32 (bvi q3)] 23 (0, 0))
    have HB3 := Lib.hid ((bthen HB2.out hb3).alloc (bthen HB2.out hb3).size (.cells #[.int .u32 (bvi q0), .int .u32 (bvi q1), .int .u32 (bvi q2), .int .u32 (bvi q3)] 23))
    clear hb3 z0 z1 z2 z3
    go_wp2_with fail
    have zq3 : w3.heap.size < (w3.alloc (.cells #[.int .u32 (bvi q0), .int .u32 (bvi q1), .int .u32 (bvi q2), .int .u32 (bvi q3)] 23)).heap.size := by simp
    generalize w3.alloc (.cells #[.int .u32 (bvi q0), .int .u32 (bvi q1), .int .u32 (bvi q2), .int .u32 (bvi q3)] 23) = w4 at HR3 HA3 HB3 zq3 ⊢
    generalize w3.heap.size = gb at HA3 zq3 ⊢
    obtain ⟨z0, z1, z2, z3, _, _, _, _⟩ := row4 HR3.out
    refine (RStir_walk w.heap.size 0 4 a b c d _ z0 z1 z2 z3).mono ?_
    rw [HQ.out]
    rintro e w5 ⟨rfl, rfl⟩
    have HA5 := Lib.hid (show RowAt (w4.alloc (.cells (words [q0, q1, q2, q3]).toArray 22)) gb (words [q0, q1, q2, q3]).toArray 23 (0, 0) from HA3.out.alloc _)
    have HQ5 := Lib.hid (RowAt.new w4 (words [q0, q1, q2, q3]).toArray 22 (0, 0))
    have HB5 := Lib.hid (HB3.out.alloc HB3.out.size (.cells (words [q0, q1, q2, q3]).toArray 22))
    clear z0 z1 z2 z3 zq3
    generalize w4.alloc (.cells (words [q0, q1, q2, q3]).toArray 22) = w5 at HA5 HQ5 HB5 ⊢
    generalize w4.heap.size = qb at HQ5 ⊢
    go_wp2_with fail
    go_loopw [26] (fun i wr => ∃ k : Nat, k ≤ 4 ∧ i = .int .i64 k ∧ RowAt wr gb (words [q0, q1, q2, q3]).toArray 23 (0, 0) ∧ RowAt wr qb (words [q0, q1, q2, q3]).toArray 22 (0, 0) ∧ Below w.heap.size w wr) (fun i _ => 4 - (intOf i).toNat)
    case atStart => exact ⟨0, Nat.zero_le _, rfl, HA5.out, HQ5.out, HB5.out⟩
    case round =>
      obtain ⟨k, hk, rfl, ha, hq, hb⟩ := hrel
      have HA := Lib.hid ha
      have HQQ := Lib.hid hq
      have HB := Lib.hid hb
      clear ha hq hb
      rcases Nat.lt_or_ge k 4 with hlt | hge
      · have e1 := HA.out.cell (words_at [q0, q1, q2, q3] k (by simpa using hlt))
        have e2 := HQQ.out.cell (words_at [q0, q1, q2, q3] k (by simpa using hlt))
        generalize [q0, q1, q2, q3].getD k 0 = x at e1 e2
        have b0 : (0 : Int) ≤ (k : Int) := Int.natCast_nonneg _
        have b1 : (k : Int) < 4 := by omega
        go_wp2_with fail
        go_quiet (fail)
        go_wp2_with fail
        go_roundw
        case rel => exact ⟨k + 1, by omega, by go_num, HA.out, HQQ.out, below_drewN HB.out _⟩
        case measure => simp [intOf]; omega
      · have g4 : decide ((k : Int) < 4) = false := decide_eq_false (by omega)
        go_wp2_with fail
        refine (BB.out.1 _).mono ?_
        rintro e w6 ⟨r6, rfl, hr6, hb6⟩
        go_wp2_with fail
        refine (BB.out.2 _).mono ?_
        rintro e w7 ⟨r7, rfl, hr7, hb7⟩
        have q1 : seq r6 r7 = true := seq_is hr6 hr7
        have HB7 := Lib.hid (bthen (bthen HB.out hb6) hb7)
        clear hr6 hr7 hb6 hb7
        go_wp2_with fail
        go_ret
        exact ⟨rfl, HB7.out⟩
end Go.Proofs.Ytjcakokhfjlihaa

/-
  Layer 4's laws, walked: ChachaRest, ChachaSizes.
-/
import Derived.Test.YtjcakokhfjlihaaL04B
namespace Go.Proofs.Ytjcakokhfjlihaa
open Go.RowKit

theorem rest_drop (key : List UInt8) (c c2 : BitVec 32) (nonce : List UInt8) (b n m : Nat) (hm : m = 64 * b) (hc : c2 = c + BitVec.ofNat 32 b) :
    (streamL key c nonce (m + n)).drop m = streamL key c2 nonce n := by
  subst hm hc; exact streamL_drop key c nonce b n

theorem Stream_int (key nonce : ByteArray) (counter : BitVec 32) (n : Int) (hk : key.size = 32) (hn : nonce.size = 12) (h0 : 0 ≤ n) (hm : n ≤ 65536) (w : World) :
    Calls Try.prog 21 #[.string key, .int .u32 (bvi counter), .string nonce, .int .i64 n] w fun e w' => ∃ r, e = .returned (.tuple #[.string r, .int .i64 0]) ∧ Is r (streamL key.data.toList counter nonce.data.toList n.toNat) ∧ Below w.heap.size w w' := by
  obtain ⟨m, rfl⟩ := Int.eq_ofNat_of_zero_le h0
  exact Stream_ok key nonce counter m hk hn (by omega) w
set_option maxRecDepth 100000 in
set_option maxHeartbeats 2000000 in
theorem ChachaRest_w (key : List UInt8) (lk : key.length = 32) (counter : BitVec 32) (nonce : List UInt8) (ln : nonce.length = 12) (blocks bytes : BitVec 8) (w : World) :
    Calls Try.prog 6 #[.agg (cells key).toArray, .int .u32 (bvi counter), .agg (cells nonce).toArray, .int .u8 (bvi blocks), .int .u8 (bvi bytes)] w fun e w' => e = .returned (.bool true) ∧ Below w.heap.size w w' := by
  have hb0 := bvi_nonneg bytes
  have hb1 : bvi bytes < 256 := by have := bvi_lt bytes; simpa using this
  have hm0 := bvi_nonneg (blocks % 6#8)
  have hm1 : bvi (blocks % 6#8) < 6 := by
    unfold bvi
    rw [BitVec.toNat_umod]
    have := Nat.mod_lt blocks.toNat (show 0 < (6#8).toNat by decide)
    have h6 : (6#8).toNat = 6 := rfl
    omega
  generalize hym : bvi bytes = y at hb0 hb1
  generalize hmm : bvi (blocks % 6#8) = B at hm0 hm1
  have hB5 : 64 * B < 384 := by omega
  have hBq : 64 * B / 64 = B := by omega
  have hBn : 0 ≤ 64 * B := by omega
  go_enter Try.func6, Try.ntmps6
  go_wp2_with fail
  refine (awake04 _).mono ?_
  rintro e w1 ⟨rfl, hb1⟩
  have RK := Lib.hid (((RowAt.new w (cells key).toArray 36 (0, 0)).alloc (.cells (cells nonce).toArray 37)).below hb1 (by simp <;> omega))
  have hrn2 := ((RowAt.new (w.alloc (.cells (cells key).toArray 36)) (cells nonce).toArray 37 (0, 0)).below hb1 (by simp))
  have zW : w.heap.size + 1 < w1.heap.size := by have := hb1.size; simp at this; omega
  have HB1 := Lib.hid (show Below w.heap.size w w1 from Below.trans (((Below.refl _ _).alloc (Nat.le_refl _) _).alloc (by simp) _) (hb1.mono (by simp; omega)))
  have HLK := Lib.hid lk
  have HLN := Lib.hid ln
  clear hb1 lk ln
  rw [show (w.alloc (.cells (cells key).toArray 36)).heap.size = w.heap.size + 1 by simp] at hrn2
  have hc1 := fun nq => run_str (P := Try.prog) (w1.drewN nq) 38 5 Try.underlying38 Try.underlying5 9 Try.underlying9 w.heap.size 32 32 _ _ _ key RK.out.out HLK.out (by rw [← HLK.out]; exact List.take_of_length_le (by rw [cells_length]; exact Nat.le_refl _))
  have hc2 := fun nq => run_str (P := Try.prog) (w1.drewN nq) 38 5 Try.underlying38 Try.underlying5 9 Try.underlying9 (w.heap.size + 1) 12 12 _ _ _ nonce hrn2.out HLN.out (by rw [← HLN.out]; exact List.take_of_length_le (by rw [cells_length]; exact Nat.le_refl _))
  go_wp2_with fail
  go_quiet (fail)
  clear hc1 hc2 RK hrn2
  have hK := Is.of key
  have hN := Is.of nonce
  generalize ByteArray.mk key.toArray = K at hK ⊢
  generalize ByteArray.mk nonce.toArray = N at hN ⊢
  have hKs := hK.size
  have hNs := hN.size
  rw [HLK.out] at hKs
  rw [HLN.out] at hNs
  have HK := Lib.hid hKs
  have HN := Lib.hid hNs
  have IK := Lib.hid hK
  have IN := Lib.hid hN
  have HB3 := Lib.hid (below_drewN HB1.out nq)
  generalize w1.drewN nq = w3 at HB3 ⊢
  clear hK hN hKs hNs
  go_wp2_with fail
  refine (Stream_int K N counter (64 * B + y) HK.out HN.out (by omega) (by omega) _).mono ?_
  rintro e w4 ⟨r4, rfl, hr4, hb4⟩
  rw [IK.out.out, IN.out.out] at hr4
  have hs4 : (r4.size : Int) = 64 * B + y := by rw [hr4.size, streamL_length]; omega
  have HR4 := Lib.hid hr4
  have HS4 := Lib.hid hs4
  clear hr4 hs4
  go_wp2_with fail
  refine (Stream_int K N (counter + BitVec.ofInt 32 B) y HK.out HN.out hb0 (by omega) _).mono ?_
  rintro e w5 ⟨r5, rfl, hr5, hb5⟩
  rw [IK.out.out, IN.out.out] at hr5
  go_wp2_with fail
  refine (Stream_int K N counter (64 * B) HK.out HN.out hBn (by omega) _).mono ?_
  rintro e w6 ⟨r6, rfl, hr6, hb6⟩
  rw [IK.out.out, IN.out.out] at hr6
  have q1 : ((r4.size : Int) == 64 * B + y) = true := by rw [beq_iff_eq]; exact HS4.out
  have l1 : 64 * B ≤ (r4.size : Int) := by have := HS4.out; omega
  have l2 : (64 * B).toNat ≤ r4.size := by omega
  obtain ⟨bn, rfl⟩ := Int.eq_ofNat_of_zero_le hm0
  have hbn : (64 * (bn : Int)).toNat = 64 * bn := by omega
  have hyn : (64 * (bn : Int) + y).toNat = 64 * bn + y.toNat := by omega
  rw [hbn] at hr6 l2
  have h4 := HR4.out
  rw [hyn] at h4
  have q2 : seq (r4.extract (64 * bn) r4.size) r5 = true := by
    have h := h4.extract (64 * bn) r4.size
    rw [List.take_of_length_le (by have := HS4.out; rw [List.length_drop, streamL_length]; omega)] at h
    rw [rest_drop key counter (counter + BitVec.ofInt 32 (bn : Int)) nonce bn y.toNat (64 * bn) rfl (by rw [BitVec.ofInt_natCast])] at h
    exact seq_is h hr5
  have q3 : seq (r4.extract 0 (64 * bn)) r6 = true := by
    have h := h4.extract 0 (64 * bn)
    rw [List.drop_zero, Nat.sub_zero, streamL_take _ _ _ _ _ (by omega)] at h
    exact seq_is h hr6
  clear h4 hyn hbn
  have HB6 := Lib.hid (bthen (bthen (bthen HB3.out hb4) hb5) hb6)
  clear hr5 hr6 hb4 hb5 hb6
  go_wp2_with fail
  go_ret
  exact ⟨rfl, HB6.out⟩

theorem two_strs (w : World) (a b : ByteArray) : StrsAt (w.alloc (.cells #[.string a, .string b] 9)) (some ⟨w.heap.size, 0, none⟩) [a, b] := by
  have h := RowAt.new w #[.string a, .string b] 9 (0, 0)
  intro i hi
  match i, hi with
  | 0, _ => exact ⟨_, 0, rfl, by simp, h.cell (i := 0) rfl⟩
  | 1, _ => exact ⟨_, 0, rfl, by simp, h.cell (i := 1) rfl⟩
set_option maxRecDepth 100000 in
set_option maxHeartbeats 2000000 in
theorem Sizes_large (key nonce : ByteArray) (counter : BitVec 32) (n : Int) (h : 2048 < key.size ∨ 2048 < nonce.size) (w : World) :
    Calls Try.prog 8 #[.string key, .string nonce, .int .u32 (bvi counter), .int .i64 n] w fun e w' => e = .returned (.bool true) ∧ Below w.heap.size w w' := by
  have hL : largeB [key, nonce] = true := by unfold largeB; simp; omega
  clear h
  go_enter Try.func8, Try.ntmps8
  go_wp2_with fail
  refine (awake04 _).mono ?_
  rintro e w1 ⟨rfl, hb1⟩
  have HB1 := Lib.hid hb1
  clear hb1
  go_wp2_with fail
  refine (large04 _ _ [key, nonce] _ (two_strs w1 key nonce) (by simp)).mono ?_
  rintro e w2 ⟨rfl, rfl⟩
  have HB2 := Lib.hid (HB1.out.alloc HB1.out.size (.cells #[.string key, .string nonce] 9))
  rw [hL]
  go_wp2_with fail
  go_ret
  exact ⟨rfl, HB2.out⟩
set_option maxRecDepth 100000 in
set_option maxHeartbeats 2000000 in
theorem Sizes_mid (key nonce : ByteArray) (counter : BitVec 32) (n : Int) (h : largeB [key, nonce] = false) (h1 : 2048 < n) (h2 : n ≤ 65536) (w : World) :
    Calls Try.prog 8 #[.string key, .string nonce, .int .u32 (bvi counter), .int .i64 n] w fun e w' => e = .returned (.bool true) ∧ Below w.heap.size w w' := by
  have g1 : decide ((2048 : Int) < n) = true := decide_eq_true h1
  have g2 : decide (n ≤ (65536 : Int)) = true := decide_eq_true h2
  go_enter Try.func8, Try.ntmps8
  go_wp2_with fail
  refine (awake04 _).mono ?_
  rintro e w1 ⟨rfl, hb1⟩
  have HB1 := Lib.hid hb1
  clear hb1
  go_wp2_with fail
  refine (large04 _ _ [key, nonce] _ (two_strs w1 key nonce) (by simp)).mono ?_
  rintro e w2 ⟨rfl, rfl⟩
  have HB2 := Lib.hid (HB1.out.alloc HB1.out.size (.cells #[.string key, .string nonce] 9))
  rw [h]
  go_wp2_with fail
  go_ret
  exact ⟨rfl, HB2.out⟩
set_option maxRecDepth 100000 in
set_option maxHeartbeats 2000000 in
theorem Sizes_wrong (key nonce : ByteArray) (counter : BitVec 32) (n : Int) (h : largeB [key, nonce] = false) (hR : ¬ (key.size = 32 ∧ nonce.size = 12)) (hn : n ≤ 2048 ∨ 65536 < n) (w : World) :
    Calls Try.prog 8 #[.string key, .string nonce, .int .u32 (bvi counter), .int .i64 n] w fun e w' => e = .returned (.bool true) ∧ Below w.heap.size w w' := by
  have HR := Lib.hid hR
  by_cases h1 : 2048 < n
  · have g1 : decide ((2048 : Int) < n) = true := decide_eq_true h1
    have g2 : decide (n ≤ (65536 : Int)) = false := decide_eq_false (by omega)
    by_cases k1 : key.size = 32
    · have k1b : ((key.size : Int) == 32) = true := by rw [beq_iff_eq]; omega
      have k2b : ((nonce.size : Int) == 12) = false := by rw [beq_eq_false_iff_ne]; omega
      clear hR hn k1 h1
      go_enter Try.func8, Try.ntmps8
      go_wp2_with fail
      refine (awake04 _).mono ?_
      rintro e w1 ⟨rfl, hb1⟩
      have HB1 := Lib.hid hb1
      clear hb1
      go_wp2_with fail
      refine (large04 _ _ [key, nonce] _ (two_strs w1 key nonce) (by simp)).mono ?_
      rintro e w2 ⟨rfl, rfl⟩
      have HB2 := Lib.hid (HB1.out.alloc HB1.out.size (.cells #[.string key, .string nonce] 9))
      rw [h]
      go_wp2_with fail
      refine (Block_no key nonce counter HR.out _).mono ?_
      rintro e w3 ⟨rfl, rfl⟩
      go_wp2_with fail
      refine (Stream_no key nonce counter n (Or.inl HR.out) _).mono ?_
      rintro e w3 ⟨rfl, rfl⟩
      go_wp2_with fail
      go_ret
      exact ⟨rfl, HB2.out⟩
    · have k1b : ((key.size : Int) == 32) = false := by rw [beq_eq_false_iff_ne]; omega
      clear hR hn k1 h1
      go_enter Try.func8, Try.ntmps8
      go_wp2_with fail
      refine (awake04 _).mono ?_
      rintro e w1 ⟨rfl, hb1⟩
      have HB1 := Lib.hid hb1
      clear hb1
      go_wp2_with fail
      refine (large04 _ _ [key, nonce] _ (two_strs w1 key nonce) (by simp)).mono ?_
      rintro e w2 ⟨rfl, rfl⟩
      have HB2 := Lib.hid (HB1.out.alloc HB1.out.size (.cells #[.string key, .string nonce] 9))
      rw [h]
      go_wp2_with fail
      refine (Block_no key nonce counter HR.out _).mono ?_
      rintro e w3 ⟨rfl, rfl⟩
      go_wp2_with fail
      refine (Stream_no key nonce counter n (Or.inl HR.out) _).mono ?_
      rintro e w3 ⟨rfl, rfl⟩
      go_wp2_with fail
      go_ret
      exact ⟨rfl, HB2.out⟩
  · have g1 : decide ((2048 : Int) < n) = false := decide_eq_false h1
    by_cases k1 : key.size = 32
    · have k1b : ((key.size : Int) == 32) = true := by rw [beq_iff_eq]; omega
      have k2b : ((nonce.size : Int) == 12) = false := by rw [beq_eq_false_iff_ne]; omega
      clear hR hn k1 h1
      go_enter Try.func8, Try.ntmps8
      go_wp2_with fail
      refine (awake04 _).mono ?_
      rintro e w1 ⟨rfl, hb1⟩
      have HB1 := Lib.hid hb1
      clear hb1
      go_wp2_with fail
      refine (large04 _ _ [key, nonce] _ (two_strs w1 key nonce) (by simp)).mono ?_
      rintro e w2 ⟨rfl, rfl⟩
      have HB2 := Lib.hid (HB1.out.alloc HB1.out.size (.cells #[.string key, .string nonce] 9))
      rw [h]
      go_wp2_with fail
      refine (Block_no key nonce counter HR.out _).mono ?_
      rintro e w3 ⟨rfl, rfl⟩
      go_wp2_with fail
      refine (Stream_no key nonce counter n (Or.inl HR.out) _).mono ?_
      rintro e w3 ⟨rfl, rfl⟩
      go_wp2_with fail
      go_ret
      exact ⟨rfl, HB2.out⟩
    · have k1b : ((key.size : Int) == 32) = false := by rw [beq_eq_false_iff_ne]; omega
      clear hR hn k1 h1
      go_enter Try.func8, Try.ntmps8
      go_wp2_with fail
      refine (awake04 _).mono ?_
      rintro e w1 ⟨rfl, hb1⟩
      have HB1 := Lib.hid hb1
      clear hb1
      go_wp2_with fail
      refine (large04 _ _ [key, nonce] _ (two_strs w1 key nonce) (by simp)).mono ?_
      rintro e w2 ⟨rfl, rfl⟩
      have HB2 := Lib.hid (HB1.out.alloc HB1.out.size (.cells #[.string key, .string nonce] 9))
      rw [h]
      go_wp2_with fail
      refine (Block_no key nonce counter HR.out _).mono ?_
      rintro e w3 ⟨rfl, rfl⟩
      go_wp2_with fail
      refine (Stream_no key nonce counter n (Or.inl HR.out) _).mono ?_
      rintro e w3 ⟨rfl, rfl⟩
      go_wp2_with fail
      go_ret
      exact ⟨rfl, HB2.out⟩
set_option maxRecDepth 100000 in
set_option maxHeartbeats 2000000 in
theorem Sizes_beyond (key nonce : ByteArray) (counter : BitVec 32) (n : Int) (h : largeB [key, nonce] = false) (hk : key.size = 32) (hn : nonce.size = 12) (hr : n < 0 ∨ 65536 < n) (w : World) :
    Calls Try.prog 8 #[.string key, .string nonce, .int .u32 (bvi counter), .int .i64 n] w fun e w' => e = .returned (.bool true) ∧ Below w.heap.size w w' := by
  have HK := Lib.hid hk
  have HN := Lib.hid hn
  have HRR := Lib.hid hr
  have k1b : ((key.size : Int) == 32) = true := by rw [beq_iff_eq]; omega
  have k2b : ((nonce.size : Int) == 12) = true := by rw [beq_iff_eq]; omega
  clear hk hn
  by_cases h1 : n < 0
  · have g1 : decide ((2048 : Int) < n) = false := decide_eq_false (by omega)
    have g3 : decide ((0 : Int) ≤ n) = false := decide_eq_false (by omega)
    clear hr h1
    go_enter Try.func8, Try.ntmps8
    go_wp2_with fail
    refine (awake04 _).mono ?_
    rintro e w1 ⟨rfl, hb1⟩
    have HB1 := Lib.hid hb1
    clear hb1
    go_wp2_with fail
    refine (large04 _ _ [key, nonce] _ (two_strs w1 key nonce) (by simp)).mono ?_
    rintro e w2 ⟨rfl, rfl⟩
    have HB2 := Lib.hid (HB1.out.alloc HB1.out.size (.cells #[.string key, .string nonce] 9))
    rw [h]
    go_wp2_with fail
    refine (Block_ok key nonce counter HK.out HN.out _).mono ?_
    rintro e w3 ⟨r3, rfl, hr3, hb3⟩
    have hz3 : r3.size = 64 := by rw [hr3.size, blockL_length]
    clear hr3
    go_wp2_with fail
    refine (Stream_no key nonce counter n (Or.inr HRR.out) _).mono ?_
    rintro e w4 ⟨rfl, rfl⟩
    have HB4 := Lib.hid (bthen HB2.out hb3)
    clear hb3
    go_wp2_with fail
    go_ret
    exact ⟨rfl, HB4.out⟩
  · have g1 : decide ((2048 : Int) < n) = true := decide_eq_true (by omega)
    have g2 : decide (n ≤ (65536 : Int)) = false := decide_eq_false (by omega)
    have g3 : decide ((0 : Int) ≤ n) = true := decide_eq_true (by omega)
    clear hr h1
    go_enter Try.func8, Try.ntmps8
    go_wp2_with fail
    refine (awake04 _).mono ?_
    rintro e w1 ⟨rfl, hb1⟩
    have HB1 := Lib.hid hb1
    clear hb1
    go_wp2_with fail
    refine (large04 _ _ [key, nonce] _ (two_strs w1 key nonce) (by simp)).mono ?_
    rintro e w2 ⟨rfl, rfl⟩
    have HB2 := Lib.hid (HB1.out.alloc HB1.out.size (.cells #[.string key, .string nonce] 9))
    rw [h]
    go_wp2_with fail
    refine (Block_ok key nonce counter HK.out HN.out _).mono ?_
    rintro e w3 ⟨r3, rfl, hr3, hb3⟩
    have hz3 : r3.size = 64 := by rw [hr3.size, blockL_length]
    clear hr3
    go_wp2_with fail
    refine (Stream_no key nonce counter n (Or.inr HRR.out) _).mono ?_
    rintro e w4 ⟨rfl, rfl⟩
    have HB4 := Lib.hid (bthen HB2.out hb3)
    clear hb3
    go_wp2_with fail
    go_ret
    exact ⟨rfl, HB4.out⟩
set_option maxRecDepth 100000 in
set_option maxHeartbeats 2000000 in
theorem Sizes_right (key nonce : ByteArray) (counter : BitVec 32) (n : Int) (h : largeB [key, nonce] = false) (hk : key.size = 32) (hn : nonce.size = 12) (hr : 0 ≤ n) (hr2 : n ≤ 2048) (w : World) :
    Calls Try.prog 8 #[.string key, .string nonce, .int .u32 (bvi counter), .int .i64 n] w fun e w' => e = .returned (.bool true) ∧ Below w.heap.size w w' := by
  have HK := Lib.hid hk
  have HN := Lib.hid hn
  have k1b : ((key.size : Int) == 32) = true := by rw [beq_iff_eq]; omega
  have k2b : ((nonce.size : Int) == 12) = true := by rw [beq_iff_eq]; omega
  have g1 : decide ((2048 : Int) < n) = false := decide_eq_false (by omega)
  have g2 : decide (n ≤ (65536 : Int)) = true := decide_eq_true (by omega)
  have g3 : decide ((0 : Int) ≤ n) = true := decide_eq_true (by omega)
  clear hk hn
  go_enter Try.func8, Try.ntmps8
  go_wp2_with fail
  refine (awake04 _).mono ?_
  rintro e w1 ⟨rfl, hb1⟩
  have HB1 := Lib.hid hb1
  clear hb1
  go_wp2_with fail
  refine (large04 _ _ [key, nonce] _ (two_strs w1 key nonce) (by simp)).mono ?_
  rintro e w2 ⟨rfl, rfl⟩
  have HB2 := Lib.hid (HB1.out.alloc HB1.out.size (.cells #[.string key, .string nonce] 9))
  rw [h]
  go_wp2_with fail
  refine (Block_ok key nonce counter HK.out HN.out _).mono ?_
  rintro e w3 ⟨r3, rfl, hr3, hb3⟩
  have hz3 : r3.size = 64 := by rw [hr3.size, blockL_length]
  clear hr3
  go_wp2_with fail
  refine (Stream_int key nonce counter n HK.out HN.out hr (by omega) _).mono ?_
  rintro e w4 ⟨r4, rfl, hr4, hb4⟩
  have hz4 : ((r4.size : Int) == n) = true := by rw [beq_iff_eq, hr4.size, streamL_length]; omega
  have HB4 := Lib.hid (bthen (bthen HB2.out hb3) hb4)
  clear hr4 hb3 hb4
  go_wp2_with fail
  go_ret
  exact ⟨rfl, HB4.out⟩
theorem ChachaSizes_w (key nonce : ByteArray) (counter : BitVec 32) (n : Int) (w : World) :
    Calls Try.prog 8 #[.string key, .string nonce, .int .u32 (bvi counter), .int .i64 n] w fun e w' => e = .returned (.bool true) ∧ Below w.heap.size w w' := by
  by_cases h : largeB [key, nonce] = true
  · refine Sizes_large key nonce counter n ?_ w
    unfold largeB at h
    simpa using h
  · have h : largeB [key, nonce] = false := by simpa using h
    by_cases h1 : 2048 < n ∧ n ≤ 65536
    · exact Sizes_mid key nonce counter n h h1.1 h1.2 w
    · by_cases hR : key.size = 32 ∧ nonce.size = 12
      · by_cases h2 : 0 ≤ n ∧ n ≤ 2048
        · exact Sizes_right key nonce counter n h hR.1 hR.2 h2.1 h2.2 w
        · exact Sizes_beyond key nonce counter n h hR.1 hR.2 (by omega) w
      · exact Sizes_wrong key nonce counter n h hR (by omega) w
end Go.Proofs.Ytjcakokhfjlihaa

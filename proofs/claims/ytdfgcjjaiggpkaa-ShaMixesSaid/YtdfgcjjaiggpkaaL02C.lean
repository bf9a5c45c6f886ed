/-
  Layer 2's laws, walked: ShaPads, ShaMixes.
-/
import Derived.Test.YtdfgcjjaiggpkaaL02A
import Derived.Test.YtdfgcjjaiggpkaaRegAnc
namespace Go.Proofs.Ytdfgcjjaiggpkaa
open Go.RowKit

theorem RHigh_as (x : BitVec 64) (n : Int) (q : ByteArray) (hq : Is q (highL x (cut n))) (w : World) : Calls Try.prog 28 #[.int .u64 (bvi x), .int .i64 n] w fun e w' => e = .returned (.string q) ∧ Below w.heap.size w w' :=
  (RHigh_walk x n w).mono fun e w' ⟨r, h1, h2, h3⟩ => ⟨by rw [h1, h2.inj hq], h3⟩
theorem pad_mod (n : BitVec 64) : (bvi ((n % 64#64 + BitVec.ofNat 64 (padL n).length) % 64#64) != 0) = false := by
  have hz := zerosS_lt n
  have h0 : (n % 64#64).toNat = n.toNat % 64 := by rw [BitVec.toNat_umod]; rfl
  have h1 : ((n % 64#64 + BitVec.ofNat 64 (padL n).length) % 64#64).toNat = (n.toNat % 64 + (padL n).length) % 64 := by
    rw [BitVec.toNat_umod, BitVec.toNat_add, h0, BitVec.toNat_ofNat, padL_length]
    show (n.toNat % 64 + (9 + zerosS n) % 18446744073709551616) % 18446744073709551616 % 64 = _
    omega
  unfold bvi
  rw [h1, padL_length]
  unfold zerosS at *
  generalize n.toNat = m at *
  rw [bne_eq_false_iff_eq]
  omega
theorem pad_zero (n : BitVec 64) (k : Nat) (h1 : 1 ≤ k) (h2 : k < 1 + zerosS n) : (padL n).getD k 0 = 0 := by
  obtain ⟨j, rfl⟩ : ∃ j, k = j + 1 := ⟨k - 1, by omega⟩
  unfold padL
  rw [List.cons_append, List.getD_cons_succ, List.getD_eq_getElem?_getD, List.getElem?_append_left (by rw [List.length_replicate]; omega), List.getElem?_replicate, if_pos (by omega)]
  rfl
set_option maxRecDepth 100000 in
set_option maxHeartbeats 2000000 in
theorem ShaPads_w (n : BitVec 64) (w : World) : Calls Try.prog 7 #[.int .u64 (bvi n)] w fun e w' => e = .returned (.bool true) ∧ Below w.heap.size w w' := by
  have hzl := zerosS_lt n
  obtain ⟨pd, hpd⟩ : ∃ pd, Is pd (padL n) := ⟨_, Is.of _⟩
  obtain ⟨q8, hq8⟩ : ∃ q, Is q (highL (8#64 * n) (cut 8)) := ⟨_, Is.of _⟩
  have HPD := Lib.hid hpd
  have HQ8 := Lib.hid hq8
  have hsz : pd.size = 9 + zerosS n := by rw [hpd.size, padL_length]
  obtain ⟨m, hm⟩ : ∃ m, m = 1 + zerosS n := ⟨_, rfl⟩
  have HSM := Lib.hid (show pd.size = m + 8 by omega)
  have HM := Lib.hid hm
  have b1 : 9 ≤ pd.size := by omega
  have b2 : pd.size ≤ 72 := by omega
  have b3 : m < pd.size := by omega
  have b4 : 1 ≤ m := by omega
  have HMOD := Lib.hid (show (bvi ((n % 64#64 + BitVec.ofNat 64 pd.size) % 64#64) != 0) = false by rw [hpd.size]; exact pad_mod n)
  have h0s : 0 < pd.size := by omega
  have HFST := Lib.hid (show (bvi (pd[0]'h0s).toBitVec != 128) = false by
    have := hpd.get 0 h0s
    rw [this]; rfl)
  have HSEQ := Lib.hid (show seq (pd.extract m pd.size) q8 = true by
    refine seq_is ?_ hq8
    have h := hpd.extract m pd.size
    rw [List.take_of_length_le (by rw [List.length_drop, hpd.size]; exact Nat.le_refl _)] at h
    have e : (padL n).drop m = highL (8#64 * n) (cut 8) := by
      unfold padL
      rw [hm, BitVec.mul_comm, List.drop_append_of_le_length (by simp; omega)]
      rw [List.drop_of_length_le (by simp; omega)]
      rfl
    rwa [e] at h)
  have HZ := Lib.hid (show ∀ k (hk : k < pd.size), 1 ≤ k → k < m → (bvi (pd[k]'hk).toBitVec != 0) = false by
    intro k hk h1 h2
    have h3 := pad_zero n k h1 (by omega)
    rw [List.getD_eq_getElem?_getD, List.getElem?_eq_getElem (by rw [← hpd.size]; exact hk)] at h3
    have h4 : (padL n)[k]'(by rw [← hpd.size]; exact hk) = 0 := h3
    rw [hpd.get k hk, h4]; rfl)
  clear hpd hq8 hsz hm
  go_enter Try.func7, Try.ntmps7
  go_wp2_with fail
  refine (awake02 _).mono ?_
  rintro e w1 ⟨rfl, hb1⟩
  have HB1 := Lib.hid hb1
  clear hb1
  go_wp2_with fail
  refine (Pad_as n pd HPD.out _).mono ?_
  rintro e w2 ⟨rfl, hb2⟩
  have HB2 := Lib.hid (bthen HB1.out hb2)
  clear hb2
  go_wp2_with fail
  refine region_table (by kernel_rfl) [9, 10, 11, 12, 13, 14, 15, 16, 17, 18, 19, 20, 21, 22, 23, 24, 25, 26, 27, 28, 29, 30, 31, 32, 33, 34, 35, 36, 37, 38, 39, 40, 41, 42]
    (fun i x_ => match i with
      | 0 => x_ = .string pd
      | 1 => x_ = .int .i64 ((pd.size : Int))
      | 2 => x_ = .bool (false)
      | 3 => x_ = .bool (false)
      | 4 => x_ = .string pd
      | 5 => x_ = .int .i64 ((pd.size : Int))
      | 6 => x_ = .bool (false)
      | 7 => x_ = .bool (false)
      | 8 => x_ = .bool (false)
      | 9 => x_ = .int .u64 (bvi (n))
      | 10 => x_ = .int .u64 (bvi (n % 64#64))
      | 11 => x_ = .string pd
      | 12 => x_ = .int .i64 ((pd.size : Int))
      | 13 => x_ = .int .u64 (bvi (BitVec.ofNat 64 pd.size))
      | 14 => x_ = .int .u64 (bvi (n % 64#64 + BitVec.ofNat 64 pd.size))
      | 15 => x_ = .int .u64 (bvi ((n % 64#64 + BitVec.ofNat 64 pd.size) % 64#64))
      | 16 => x_ = .bool (false)
      | 17 => x_ = .bool (false)
      | 18 => x_ = .bool (false)
      | 19 => x_ = .string pd
      | 20 => x_ = .int .u8 (bvi (pd[0]'h0s).toBitVec)
      | 21 => x_ = .bool (false)
      | 22 => x_ = .bool (false)
      | 23 => x_ = .bool (false)
      | 24 => x_ = .string pd
      | 25 => x_ = .string pd
      | 26 => x_ = .int .i64 ((pd.size : Int))
      | 27 => x_ = .int .i64 ((m : Int))
      | 28 => x_ = .string (pd.extract m pd.size)
      | 29 => x_ = .int .u64 (bvi (n))
      | 30 => x_ = .int .u64 (bvi (8#64 * n))
      | 31 => x_ = .string q8
      | 32 => x_ = .bool (false)
      | 33 => x_ = .bool (false)
      | _ => True) (fun _ _ w' => Below w2.heap.size w2 w') (by kernel_rfl) (by kernel_rfl) rfl (by kernel_rfl) ((Below.refl _ _).drew) ?_ ?_
  · refine StepsOk.cons ?_ (StepsOk.cons ?_ (StepsOk.cons ?_ (StepsOk.cons ?_ (StepsOk.cons ?_ (StepsOk.cons ?_ (StepsOk.cons ?_ (StepsOk.cons ?_ (StepsOk.cons ?_ (StepsOk.cons ?_ (StepsOk.cons ?_ (StepsOk.cons ?_ (StepsOk.cons ?_ (StepsOk.cons ?_ (StepsOk.cons ?_ (StepsOk.cons ?_ (StepsOk.cons ?_ (StepsOk.cons ?_ (StepsOk.cons ?_ (StepsOk.cons ?_ (StepsOk.cons ?_ (StepsOk.cons ?_ (StepsOk.cons ?_ (StepsOk.cons ?_ (StepsOk.cons ?_ (StepsOk.cons ?_ (StepsOk.cons ?_ (StepsOk.cons ?_ (StepsOk.cons ?_ (StepsOk.cons ?_ (StepsOk.cons ?_ (StepsOk.cons ?_ (StepsOk.cons ?_ (StepsOk.cons ?_ StepsOk.nil)))))))))))))))))))))))))))))))))
    · intro L a w4 Kx hl hsz hs ht hr he hK
      refine step_plain rfl ?_
      have h3 : a.tmps.getD 3 undef = .string pd := (hs 3 (by decide)).trans rfl
      go_simp
      exact hK _ _ rfl hr
    · intro L a w4 Kx hl hsz hs ht hr he hK
      refine step_plain rfl ?_
      have h9 : a.tmps.getD 9 undef = .string pd := ht 0 (he 0 (by kernel_rfl)) 9 rfl
      go_simp
      exact hK _ _ rfl hr
    · intro L a w4 Kx hl hsz hs ht hr he hK
      refine step_plain rfl ?_
      have h10 : a.tmps.getD 10 undef = .int .i64 ((pd.size : Int)) := ht 1 (he 1 (by kernel_rfl)) 10 rfl
      have hd : decide ((pd.size : Int) < 9) = false := decide_eq_false (by omega)
      go_simp
      exact hK _ _ rfl hr
    · intro L a w4 Kx hl hsz hs ht hr he hK
      refine step_plain rfl ?_
      have h11 : a.tmps.getD 11 undef = .bool (false) := ht 2 (he 2 (by kernel_rfl)) 11 rfl
      go_simp
      exact hK _ _ rfl hr
    · intro L a w4 Kx hl hsz hs ht hr he hK
      have h12 : a.tmps.getD 12 undef = .bool (false) := ht 3 (he 3 (by kernel_rfl)) 12 rfl
      refine step_guard 3 false (false) 12 rfl rfl (by rw [hsz]; exact of_decide_eq_true (by kernel_rfl)) h12 ?_
      rw [if_pos rfl]
      have h3 : a.tmps.getD 3 undef = .string pd := (hs 3 (by decide)).trans rfl
      go_simp
      exact hK _ _ rfl hr
    · intro L a w4 Kx hl hsz hs ht hr he hK
      have h12 : a.tmps.getD 12 undef = .bool (false) := ht 3 (he 3 (by kernel_rfl)) 12 rfl
      refine step_guard 3 false (false) 12 rfl rfl (by rw [hsz]; exact of_decide_eq_true (by kernel_rfl)) h12 ?_
      rw [if_pos rfl]
      have h13 : a.tmps.getD 13 undef = .string pd := ht 4 (he 4 (by kernel_rfl)) 13 rfl
      go_simp
      exact hK _ _ rfl hr
    · intro L a w4 Kx hl hsz hs ht hr he hK
      have h12 : a.tmps.getD 12 undef = .bool (false) := ht 3 (he 3 (by kernel_rfl)) 12 rfl
      refine step_guard 3 false (false) 12 rfl rfl (by rw [hsz]; exact of_decide_eq_true (by kernel_rfl)) h12 ?_
      rw [if_pos rfl]
      have h14 : a.tmps.getD 14 undef = .int .i64 ((pd.size : Int)) := ht 5 (he 5 (by kernel_rfl)) 14 rfl
      have hd : decide ((72 : Int) < (pd.size : Int)) = false := decide_eq_false (by omega)
      go_simp
      exact hK _ _ rfl hr
    · intro L a w4 Kx hl hsz hs ht hr he hK
      refine step_plain rfl ?_
      have h12 : a.tmps.getD 12 undef = .bool (false) := ht 3 (he 3 (by kernel_rfl)) 12 rfl
      have h15 : a.tmps.getD 15 undef = .bool (false) := ht 6 (he 6 (by kernel_rfl)) 15 rfl
      go_simp
      exact hK _ _ rfl hr
    · intro L a w4 Kx hl hsz hs ht hr he hK
      refine step_plain rfl ?_
      have h16 : a.tmps.getD 16 undef = .bool (false) := ht 7 (he 7 (by kernel_rfl)) 16 rfl
      go_simp
      exact hK _ _ rfl hr
    · intro L a w4 Kx hl hsz hs ht hr he hK
      have h17 : a.tmps.getD 17 undef = .bool (false) := ht 8 (he 8 (by kernel_rfl)) 17 rfl
      refine step_guard 8 false (false) 17 rfl rfl (by rw [hsz]; exact of_decide_eq_true (by kernel_rfl)) h17 ?_
      rw [if_pos rfl]
      have h0 : a.tmps.getD 0 undef = .int .u64 (bvi (n)) := (hs 0 (by decide)).trans rfl
      go_simp
      exact hK _ _ rfl hr
    · intro L a w4 Kx hl hsz hs ht hr he hK
      have h17 : a.tmps.getD 17 undef = .bool (false) := ht 8 (he 8 (by kernel_rfl)) 17 rfl
      refine step_guard 8 false (false) 17 rfl rfl (by rw [hsz]; exact of_decide_eq_true (by kernel_rfl)) h17 ?_
      rw [if_pos rfl]
      have h18 : a.tmps.getD 18 undef = .int .u64 (bvi (n)) := ht 9 (he 9 (by kernel_rfl)) 18 rfl
      go_simp
      exact hK _ _ rfl hr
    · intro L a w4 Kx hl hsz hs ht hr he hK
      have h17 : a.tmps.getD 17 undef = .bool (false) := ht 8 (he 8 (by kernel_rfl)) 17 rfl
      refine step_guard 8 false (false) 17 rfl rfl (by rw [hsz]; exact of_decide_eq_true (by kernel_rfl)) h17 ?_
      rw [if_pos rfl]
      have h3 : a.tmps.getD 3 undef = .string pd := (hs 3 (by decide)).trans rfl
      go_simp
      exact hK _ _ rfl hr
    · intro L a w4 Kx hl hsz hs ht hr he hK
      have h17 : a.tmps.getD 17 undef = .bool (false) := ht 8 (he 8 (by kernel_rfl)) 17 rfl
      refine step_guard 8 false (false) 17 rfl rfl (by rw [hsz]; exact of_decide_eq_true (by kernel_rfl)) h17 ?_
      rw [if_pos rfl]
      have h20 : a.tmps.getD 20 undef = .string pd := ht 11 (he 11 (by kernel_rfl)) 20 rfl
      go_simp
      exact hK _ _ rfl hr
    · intro L a w4 Kx hl hsz hs ht hr he hK
      have h17 : a.tmps.getD 17 undef = .bool (false) := ht 8 (he 8 (by kernel_rfl)) 17 rfl
      refine step_guard 8 false (false) 17 rfl rfl (by rw [hsz]; exact of_decide_eq_true (by kernel_rfl)) h17 ?_
      rw [if_pos rfl]
      have h21 : a.tmps.getD 21 undef = .int .i64 ((pd.size : Int)) := ht 12 (he 12 (by kernel_rfl)) 21 rfl
      go_simp
      exact hK _ _ rfl hr
    · intro L a w4 Kx hl hsz hs ht hr he hK
      have h17 : a.tmps.getD 17 undef = .bool (false) := ht 8 (he 8 (by kernel_rfl)) 17 rfl
      refine step_guard 8 false (false) 17 rfl rfl (by rw [hsz]; exact of_decide_eq_true (by kernel_rfl)) h17 ?_
      rw [if_pos rfl]
      have h19 : a.tmps.getD 19 undef = .int .u64 (bvi (n % 64#64)) := ht 10 (he 10 (by kernel_rfl)) 19 rfl
      have h22 : a.tmps.getD 22 undef = .int .u64 (bvi (BitVec.ofNat 64 pd.size)) := ht 13 (he 13 (by kernel_rfl)) 22 rfl
      go_simp
      exact hK _ _ rfl hr
    · intro L a w4 Kx hl hsz hs ht hr he hK
      have h17 : a.tmps.getD 17 undef = .bool (false) := ht 8 (he 8 (by kernel_rfl)) 17 rfl
      refine step_guard 8 false (false) 17 rfl rfl (by rw [hsz]; exact of_decide_eq_true (by kernel_rfl)) h17 ?_
      rw [if_pos rfl]
      have h23 : a.tmps.getD 23 undef = .int .u64 (bvi (n % 64#64 + BitVec.ofNat 64 pd.size)) := ht 14 (he 14 (by kernel_rfl)) 23 rfl
      go_simp
      exact hK _ _ rfl hr
    · intro L a w4 Kx hl hsz hs ht hr he hK
      have h17 : a.tmps.getD 17 undef = .bool (false) := ht 8 (he 8 (by kernel_rfl)) 17 rfl
      refine step_guard 8 false (false) 17 rfl rfl (by rw [hsz]; exact of_decide_eq_true (by kernel_rfl)) h17 ?_
      rw [if_pos rfl]
      have h24 : a.tmps.getD 24 undef = .int .u64 (bvi ((n % 64#64 + BitVec.ofNat 64 pd.size) % 64#64)) := ht 15 (he 15 (by kernel_rfl)) 24 rfl
      have hq := HMOD.out
      go_simp
      exact hK _ _ rfl hr
    · intro L a w4 Kx hl hsz hs ht hr he hK
      refine step_plain rfl ?_
      have h17 : a.tmps.getD 17 undef = .bool (false) := ht 8 (he 8 (by kernel_rfl)) 17 rfl
      have h25 : a.tmps.getD 25 undef = .bool (false) := ht 16 (he 16 (by kernel_rfl)) 25 rfl
      go_simp
      exact hK _ _ rfl hr
    · intro L a w4 Kx hl hsz hs ht hr he hK
      refine step_plain rfl ?_
      have h26 : a.tmps.getD 26 undef = .bool (false) := ht 17 (he 17 (by kernel_rfl)) 26 rfl
      go_simp
      exact hK _ _ rfl hr
    · intro L a w4 Kx hl hsz hs ht hr he hK
      have h27 : a.tmps.getD 27 undef = .bool (false) := ht 18 (he 18 (by kernel_rfl)) 27 rfl
      refine step_guard 18 false (false) 27 rfl rfl (by rw [hsz]; exact of_decide_eq_true (by kernel_rfl)) h27 ?_
      rw [if_pos rfl]
      have h3 : a.tmps.getD 3 undef = .string pd := (hs 3 (by decide)).trans rfl
      go_simp
      exact hK _ _ rfl hr
    · intro L a w4 Kx hl hsz hs ht hr he hK
      have h27 : a.tmps.getD 27 undef = .bool (false) := ht 18 (he 18 (by kernel_rfl)) 27 rfl
      refine step_guard 18 false (false) 27 rfl rfl (by rw [hsz]; exact of_decide_eq_true (by kernel_rfl)) h27 ?_
      rw [if_pos rfl]
      have h28 : a.tmps.getD 28 undef = .string pd := ht 19 (he 19 (by kernel_rfl)) 28 rfl
      go_simp
      exact hK _ _ rfl hr
    · intro L a w4 Kx hl hsz hs ht hr he hK
      have h27 : a.tmps.getD 27 undef = .bool (false) := ht 18 (he 18 (by kernel_rfl)) 27 rfl
      refine step_guard 18 false (false) 27 rfl rfl (by rw [hsz]; exact of_decide_eq_true (by kernel_rfl)) h27 ?_
      rw [if_pos rfl]
      have h29 : a.tmps.getD 29 undef = .int .u8 (bvi (pd[0]'h0s).toBitVec) := ht 20 (he 20 (by kernel_rfl)) 29 rfl
      have hq := HFST.out
      go_simp
      exact hK _ _ rfl hr
    · intro L a w4 Kx hl hsz hs ht hr he hK
      refine step_plain rfl ?_
      have h27 : a.tmps.getD 27 undef = .bool (false) := ht 18 (he 18 (by kernel_rfl)) 27 rfl
      have h30 : a.tmps.getD 30 undef = .bool (false) := ht 21 (he 21 (by kernel_rfl)) 30 rfl
      go_simp
      exact hK _ _ rfl hr
    · intro L a w4 Kx hl hsz hs ht hr he hK
      refine step_plain rfl ?_
      have h31 : a.tmps.getD 31 undef = .bool (false) := ht 22 (he 22 (by kernel_rfl)) 31 rfl
      go_simp
      exact hK _ _ rfl hr
    · intro L a w4 Kx hl hsz hs ht hr he hK
      have h32 : a.tmps.getD 32 undef = .bool (false) := ht 23 (he 23 (by kernel_rfl)) 32 rfl
      refine step_guard 23 false (false) 32 rfl rfl (by rw [hsz]; exact of_decide_eq_true (by kernel_rfl)) h32 ?_
      rw [if_pos rfl]
      have h3 : a.tmps.getD 3 undef = .string pd := (hs 3 (by decide)).trans rfl
      go_simp
      exact hK _ _ rfl hr
    · intro L a w4 Kx hl hsz hs ht hr he hK
      have h32 : a.tmps.getD 32 undef = .bool (false) := ht 23 (he 23 (by kernel_rfl)) 32 rfl
      refine step_guard 23 false (false) 32 rfl rfl (by rw [hsz]; exact of_decide_eq_true (by kernel_rfl)) h32 ?_
      rw [if_pos rfl]
      have h3 : a.tmps.getD 3 undef = .string pd := (hs 3 (by decide)).trans rfl
      go_simp
      exact hK _ _ rfl hr
    · intro L a w4 Kx hl hsz hs ht hr he hK
      have h32 : a.tmps.getD 32 undef = .bool (false) := ht 23 (he 23 (by kernel_rfl)) 32 rfl
      refine step_guard 23 false (false) 32 rfl rfl (by rw [hsz]; exact of_decide_eq_true (by kernel_rfl)) h32 ?_
      rw [if_pos rfl]
      have h34 : a.tmps.getD 34 undef = .string pd := ht 25 (he 25 (by kernel_rfl)) 34 rfl
      go_simp
      exact hK _ _ rfl hr
    · intro L a w4 Kx hl hsz hs ht hr he hK
      have h32 : a.tmps.getD 32 undef = .bool (false) := ht 23 (he 23 (by kernel_rfl)) 32 rfl
      refine step_guard 23 false (false) 32 rfl rfl (by rw [hsz]; exact of_decide_eq_true (by kernel_rfl)) h32 ?_
      rw [if_pos rfl]
      have h35 : a.tmps.getD 35 undef = .int .i64 ((pd.size : Int)) := ht 26 (he 26 (by kernel_rfl)) 35 rfl
      have hE := HSM.out
      have hwr : IntKind.i64.wrap ((pd.size : Int) - 8) = (m : Int) := (IntWalk.i64_in _ (by omega)).trans (by omega)
      clear hE
      go_simp
      exact hK _ _ rfl hr
    · intro L a w4 Kx hl hsz hs ht hr he hK
      have h32 : a.tmps.getD 32 undef = .bool (false) := ht 23 (he 23 (by kernel_rfl)) 32 rfl
      refine step_guard 23 false (false) 32 rfl rfl (by rw [hsz]; exact of_decide_eq_true (by kernel_rfl)) h32 ?_
      rw [if_pos rfl]
      have h33 : a.tmps.getD 33 undef = .string pd := ht 24 (he 24 (by kernel_rfl)) 33 rfl
      have h36 : a.tmps.getD 36 undef = .int .i64 ((m : Int)) := ht 27 (he 27 (by kernel_rfl)) 36 rfl
      have hk3 : (m : Int) ≤ (pd.size : Int) := by omega
      go_simp
      exact hK _ _ rfl hr
    · intro L a w4 Kx hl hsz hs ht hr he hK
      have h32 : a.tmps.getD 32 undef = .bool (false) := ht 23 (he 23 (by kernel_rfl)) 32 rfl
      refine step_guard 23 false (false) 32 rfl rfl (by rw [hsz]; exact of_decide_eq_true (by kernel_rfl)) h32 ?_
      rw [if_pos rfl]
      have h0 : a.tmps.getD 0 undef = .int .u64 (bvi (n)) := (hs 0 (by decide)).trans rfl
      go_simp
      exact hK _ _ rfl hr
    · intro L a w4 Kx hl hsz hs ht hr he hK
      have h32 : a.tmps.getD 32 undef = .bool (false) := ht 23 (he 23 (by kernel_rfl)) 32 rfl
      refine step_guard 23 false (false) 32 rfl rfl (by rw [hsz]; exact of_decide_eq_true (by kernel_rfl)) h32 ?_
      rw [if_pos rfl]
      have h38 : a.tmps.getD 38 undef = .int .u64 (bvi (n)) := ht 29 (he 29 (by kernel_rfl)) 38 rfl
      go_simp
      exact hK _ _ rfl hr
    · intro L a w4 Kx hl hsz hs ht hr he hK
      have h32 : a.tmps.getD 32 undef = .bool (false) := ht 23 (he 23 (by kernel_rfl)) 32 rfl
      refine step_guard 23 false (false) 32 rfl rfl (by rw [hsz]; exact of_decide_eq_true (by kernel_rfl)) h32 ?_
      rw [if_pos rfl]
      have h39 : a.tmps.getD 39 undef = .int .u64 (bvi (8#64 * n)) := ht 30 (he 30 (by kernel_rfl)) 39 rfl
      go_simp
      refine (RHigh_as _ 8 q8 HQ8.out _).mono ?_
      rintro e w5 ⟨rfl, hb5⟩
      exact hK _ _ rfl (bthen hr hb5)
    · intro L a w4 Kx hl hsz hs ht hr he hK
      have h32 : a.tmps.getD 32 undef = .bool (false) := ht 23 (he 23 (by kernel_rfl)) 32 rfl
      refine step_guard 23 false (false) 32 rfl rfl (by rw [hsz]; exact of_decide_eq_true (by kernel_rfl)) h32 ?_
      rw [if_pos rfl]
      have h37 : a.tmps.getD 37 undef = .string (pd.extract m pd.size) := ht 28 (he 28 (by kernel_rfl)) 37 rfl
      have h40 : a.tmps.getD 40 undef = .string q8 := ht 31 (he 31 (by kernel_rfl)) 40 rfl
      have hq := HSEQ.out
      go_simp
      exact hK _ _ rfl hr
    · intro L a w4 Kx hl hsz hs ht hr he hK
      refine step_plain rfl ?_
      have h32 : a.tmps.getD 32 undef = .bool (false) := ht 23 (he 23 (by kernel_rfl)) 32 rfl
      have h41 : a.tmps.getD 41 undef = .bool (false) := ht 32 (he 32 (by kernel_rfl)) 41 rfl
      go_simp
      exact hK _ _ rfl hr
  · intro f L w4 hf hall hr
    have h42 : f 42 = .bool false := hf 33 (by decide) 42 rfl
    simp only [List.foldl, Act.put, List.setIfInBounds_toArray, List.set_cons_zero, List.set_cons_succ]
    rw [h42]
    clear hf h42
    generalize f 9 = z9
    generalize f 10 = z10
    generalize f 11 = z11
    generalize f 12 = z12
    generalize f 13 = z13
    generalize f 14 = z14
    generalize f 15 = z15
    generalize f 16 = z16
    generalize f 17 = z17
    generalize f 18 = z18
    generalize f 19 = z19
    generalize f 20 = z20
    generalize f 21 = z21
    generalize f 22 = z22
    generalize f 23 = z23
    generalize f 24 = z24
    generalize f 25 = z25
    generalize f 26 = z26
    generalize f 27 = z27
    generalize f 28 = z28
    generalize f 29 = z29
    generalize f 30 = z30
    generalize f 31 = z31
    generalize f 32 = z32
    generalize f 33 = z33
    generalize f 34 = z34
    generalize f 35 = z35
    generalize f 36 = z36
    generalize f 37 = z37
    generalize f 38 = z38
    generalize f 39 = z39
    generalize f 40 = z40
    generalize f 41 = z41
    have HB4 := Lib.hid (bthen HB2.out hr)
    clear hr hall
    go_wp2_with fail
    go_loop [4] (fun i => ∃ k : Nat, 1 ≤ k ∧ k ≤ m ∧ i = .int .i64 k) (fun i => m - (intOf i).toNat)
    case atStart => exact ⟨1, Nat.le_refl _, b4, rfl⟩
    case round =>
      obtain ⟨k, hk1, hk, rfl⟩ := hrel
      rcases Nat.lt_or_ge k m with hlt | hge
      · have hkp : k < pd.size := by omega
        have hz := HZ.out k hkp hk1 hlt
        have hE := HSM.out
        have hd : decide ((k : Int) < (pd.size : Int) - 8) = true := decide_eq_true (by omega)
        clear hE
        go_wp2_with fail
        go_round
        case rel => exact ⟨k + 1, by omega, by omega, by go_num⟩
        case measure => simp [intOf]; omega
      · have hE := HSM.out
        have hd : decide ((k : Int) < (pd.size : Int) - 8) = false := decide_eq_false (by omega)
        clear hE
        go_wp2_with fail
        go_ret
        exact ⟨rfl, HB4.out⟩

theorem Mix_any (st : List (BitVec 32)) (hl : st.length = 8) (s : ByteArray) (A : List (BitVec 32)) (c : Int) (h : (s.size = 64 ∧ A = mixS st s.data.toList ∧ c = 0) ∨ (s.size ≠ 64 ∧ A = zero8 ∧ c = 5)) (w : World) :
    Calls Try.prog 18 #[.agg (words st).toArray, .string s] w fun e w' => e = .returned (.tuple #[.agg (words A).toArray, .int .i64 c]) ∧ Below w.heap.size w w' := by
  rcases h with ⟨h1, h2, h3⟩ | ⟨h1, h2, h3⟩
  · rw [h2, h3]; exact Mix_ok st hl s h1 w
  · rw [h2, h3]; exact Mix_no st hl s h1 w
theorem RMix_any (v : Value) (st : List (BitVec 32)) (hl : st.length = 8) (s : ByteArray) (A : List (BitVec 32)) (c : Int) (h : (s.size = 64 ∧ A = mixS st s.data.toList ∧ c = 0) ∨ (s.size ≠ 64 ∧ A = zero8 ∧ c = 5)) (w : World) (hv : WdAt w v st) :
    Calls Try.prog 19 #[v, .string s] w fun e w' => ∃ v', e = .returned (.tuple #[v', .int .i64 c]) ∧ WdAt w' v' A ∧ Below w.heap.size w w' := by
  rcases h with ⟨h1, h2, h3⟩ | ⟨h1, h2, h3⟩
  · rw [h2, h3]; exact RMix_ok v st hl s h1 w hv
  · rw [h2, h3]
    refine (RMix_no v s h1 w).mono ?_
    rintro e w' ⟨rfl, rfl⟩
    exact ⟨_, rfl, WdAt.row (RowAt.new w _ _ _), (Below.refl _ _).alloc (Nat.le_refl _) _⟩
theorem First_as (F : List (BitVec 32)) (h : F = firstS) (w : World) : Calls Try.prog 21 #[] w fun e w' => e = .returned (.agg (words F).toArray) ∧ Below w.heap.size w w' := by
  rw [h]; exact First_walk w
set_option maxRecDepth 100000 in
set_option maxHeartbeats 2000000 in
theorem ShaMixes_w (st : List (BitVec 32)) (hst : st.length = 8) (s : ByteArray) (n : BitVec 64) (w : World) :
    Calls Try.prog 4 #[.agg (words st).toArray, .string s, .int .u64 (bvi n)] w fun e w' => e = .returned (.bool true) ∧ Below w.heap.size w w' := by
  have HL := Lib.hid hst
  obtain ⟨A, c, hA, hAL⟩ : ∃ (A : List (BitVec 32)) (c : Int), ((s.size = 64 ∧ A = mixS st s.data.toList ∧ c = 0) ∨ (s.size ≠ 64 ∧ A = zero8 ∧ c = 5)) ∧ A.length = 8 := by
    by_cases h : s.size = 64
    · exact ⟨_, 0, .inl ⟨h, rfl, rfl⟩, by rw [mixS_length]; exact hst⟩
    · exact ⟨_, 5, .inr ⟨h, rfl, rfl⟩, rfl⟩
  obtain ⟨pd, hpd⟩ : ∃ pd, Is pd (padL n) := ⟨_, Is.of _⟩
  obtain ⟨G, hG⟩ : ∃ G, G = firstS := ⟨_, rfl⟩
  have HA := Lib.hid hA
  have HAL := Lib.hid hAL
  have HPD := Lib.hid hpd
  have HG := Lib.hid hG
  have HGL := Lib.hid (show G.length = 8 by rw [hG]; rfl)
  clear hA hAL hpd hG hst
  go_enter Try.func4, Try.ntmps4
  go_wp2_with fail
  refine (awake02 _).mono ?_
  rintro e w1 ⟨rfl, hb1⟩
  have HB1 := Lib.hid (show Below w.heap.size w w1 from Below.trans ((Below.refl _ _).alloc (Nat.le_refl _) _) (hb1.mono (by simp)))
  have HR1 := Lib.hid ((RowAt.new w (words st).toArray 27 (0, 0)).below hb1 (by simp))
  clear hb1
  rcases Nat.lt_or_ge 4096 s.size with ht | ht
  · go_wp2_with fail
    go_ret
    exact ⟨rfl, HB1.out⟩
  have hd : decide ((4096 : Int) < (s.size : Int)) = false := decide_eq_false (by omega)
  go_wp2_with (with_reducible refine wpList_load_row rfl 27 (.tmp 3) rfl w.heap.size ?h1 27 (words st).toArray (0, 0) _ HR1.out.out Try.underlying27 rfl ?h2 ?_)
  case h1 => rfl
  case h2 => exact w8_info _ HL.out
  refine (Mix_any st HL.out s A c HA.out _).mono ?_
  rintro e w2 ⟨rfl, hb2⟩
  have HB2 := Lib.hid (bthen HB1.out hb2)
  have HR2 := Lib.hid (HR1.out.below hb2 HR1.out.lt)
  clear hb2 hd
  go_upto_region 6 with (with_reducible refine wpList_store_rowTo rfl 27 (.tmp 7) (.tmp 22) rfl rfl w2.heap.size (words A).toArray ?g1 ?g2 27 (words zero8).toArray ?g0 ?g3 ?g4 ?g5 ?_)
  case g1 => rfl
  case g2 => rfl
  case g0 => exact (RowAt.new w2 _ _ _).out
  case g3 => exact w8_info _ HAL.out
  case g4 => rw [words_size, words_size, HAL.out]; rfl
  case g5 => exact wordsS_cells _
  rw [World.setRow_alloc_new]
  have HA3 := Lib.hid (RowAt.new w2 (words A).toArray 27 (0, 0))
  have HR3 := Lib.hid (HR2.out.alloc (.cells (words A).toArray 27))
  have HB3 := Lib.hid (below_alloc' HB2.out (.cells (words A).toArray 27))
  generalize w2.alloc (.cells (words A).toArray 27) = w3 at HA3 HR3 HB3 ⊢
  generalize w2.heap.size = ab at HA3 ⊢
  clear HR2 HB2 HR1 HB1
  go_wp2_with fail
  refine (RMix_any _ st HL.out s A c HA.out _ (by have h := WdAt.row (cap := 8) HR3.out; rwa [HL.out] at h)).mono ?_
  rintro e w4 ⟨v4, rfl, hv4, hb4⟩
  obtain ⟨g4, cap4, rfl, hg4, hc4⟩ := hv4
  rw [HAL.out] at hc4 ⊢
  have HC4 := Lib.hid hc4
  have HA4 := Lib.hid (HA3.out.below hb4 HA3.out.lt)
  have HB4 := Lib.hid (bthen HB3.out hb4)
  clear hb4 hc4
  go_wp2_with fail
  refine (RFirst_walk _).mono ?_
  rintro e w5 ⟨rfl, rfl⟩
  rw [← HG.out]
  have hb5 : Below w4.heap.size w4 (w4.alloc (.cells (words G).toArray 25)) := (Below.refl _ _).alloc (Nat.le_refl _) _
  have HA5 := Lib.hid (HA4.out.alloc (.cells (words G).toArray 25))
  have HF5 := Lib.hid (RowAt.new w4 (words G).toArray 25 (0, 0))
  have HC5 := Lib.hid (show ∀ i, i < 8 → (w4.alloc (.cells (words G).toArray 25)).cell? ⟨g4, i, none⟩ = some (.int .u32 (bvi (A.getD i 0))) from fun i hi => (hb5.cell (p := ⟨g4, i, none⟩) hg4).trans (HC4.out i hi))
  have HB5 := Lib.hid (bthen HB4.out hb5)
  have zg : g4 < (w4.alloc (.cells (words G).toArray 25)).heap.size := by simp; omega
  generalize w4.alloc (.cells (words G).toArray 25) = w5 at HA5 HF5 HC5 HB5 zg ⊢
  generalize w4.heap.size = fb at HF5 ⊢
  clear hb5 hg4 HC4 HA4 HB4
  go_wp2_with fail
  go_loopw [31] (fun i wr => ∃ k : Nat, k ≤ 8 ∧ i = .int .i64 k ∧ Below w5.heap.size w5 wr) (fun i _ => 8 - (intOf i).toNat)
  case atStart => exact ⟨0, Nat.zero_le _, rfl, Below.refl _ _⟩
  case round =>
    obtain ⟨k, hk, rfl, hb⟩ := hrel
    have HBW := Lib.hid hb
    rcases Nat.lt_or_ge k 8 with hlt | hge
    · have HKA := Lib.hid (fun wx (hbx : Below wr.heap.size wr wx) => ((HA5.out.below hb HA5.out.lt).below hbx (Nat.lt_of_lt_of_le HA5.out.lt hb.size)).cell (wordsS_at A k (by rw [HAL.out]; exact hlt)))
      have HKF := Lib.hid (fun wx (hbx : Below wr.heap.size wr wx) => ((HF5.out.below hb HF5.out.lt).below hbx (Nat.lt_of_lt_of_le HF5.out.lt hb.size)).cell (wordsS_at G k (by rw [HGL.out]; exact hlt)))
      have HKC := Lib.hid (show ∀ wx, Below wr.heap.size wr wx → wx.cell? ⟨g4, k, none⟩ = some (.int .u32 (bvi (A.getD k 0))) from fun wx hbx => (hbx.cell (p := ⟨g4, k, none⟩) (Nat.lt_of_lt_of_le zg hb.size)).trans ((hb.cell (p := ⟨g4, k, none⟩) zg).trans (HC5.out k hlt)))
      have HIX := Lib.hid (fun wx => state_index G HGL.out k hlt wx)
      generalize A.getD k 0 = x at HKA HKC
      generalize G.getD k 0 = y at HKF HIX
      have d5 : (k : Int) < 8 := by omega
      clear hb
      go_wp2_with fail
      refine region_table (by kernel_rfl) [34, 35, 36, 37, 38, 39, 40, 41, 42, 43, 44, 45, 46, 47, 48, 49, 50, 51]
        (fun i x_ => match i with
          | 0 => x_ = .int .i64 ((k : Int))
          | 1 => x_ = .pointer (some ⟨ab, k, none⟩)
          | 2 => x_ = .int .u32 (bvi (x))
          | 3 => x_ = .slice (some ⟨g4, 0, none⟩) 8 cap4
          | 4 => x_ = .int .i64 ((k : Int))
          | 5 => x_ = .pointer (some ⟨g4, k, none⟩)
          | 6 => x_ = .int .u32 (bvi (x))
          | 7 => x_ = .bool (false)
          | 8 => x_ = .bool (false)
          | 9 => x_ = .agg (words G).toArray
          | 10 => x_ = .int .i64 ((k : Int))
          | 11 => x_ = .int .u32 (bvi (y))
          | 12 => x_ = .slice (some ⟨fb, 0, none⟩) 8 8
          | 13 => x_ = .int .i64 ((k : Int))
          | 14 => x_ = .pointer (some ⟨fb, k, none⟩)
          | 15 => x_ = .int .u32 (bvi (y))
          | 16 => x_ = .bool (false)
          | 17 => x_ = .bool (false)
          | _ => True) (fun _ _ w' => Below wr.heap.size wr w') (by kernel_rfl) (by kernel_rfl) rfl (by kernel_rfl) ((Below.refl _ _).drew) ?_ ?_
      · refine StepsOk.cons ?_ (StepsOk.cons ?_ (StepsOk.cons ?_ (StepsOk.cons ?_ (StepsOk.cons ?_ (StepsOk.cons ?_ (StepsOk.cons ?_ (StepsOk.cons ?_ (StepsOk.cons ?_ (StepsOk.cons ?_ (StepsOk.cons ?_ (StepsOk.cons ?_ (StepsOk.cons ?_ (StepsOk.cons ?_ (StepsOk.cons ?_ (StepsOk.cons ?_ (StepsOk.cons ?_ (StepsOk.cons ?_ StepsOk.nil)))))))))))))))))
        · intro L a w4 Kx hl hsz hs ht hr he hK
          refine step_plain rfl ?_
          have h12 : a.tmps.getD 12 undef = .int .i64 ((k : Int)) := (hs 12 (by decide)).trans rfl
          go_simp
          exact hK _ _ rfl hr
        · intro L a w4 Kx hl hsz hs ht hr he hK
          refine step_plain rfl ?_
          have h34 : a.tmps.getD 34 undef = .int .i64 ((k : Int)) := ht 0 (he 0 (by kernel_rfl)) 34 rfl
          have h7 : a.tmps.getD 7 undef = .pointer (some ⟨ab, 0, none⟩) := (hs 7 (by decide)).trans rfl
          go_simp
          exact hK _ _ rfl hr
        · intro L a w4 Kx hl hsz hs ht hr he hK
          refine step_plain rfl ?_
          have h35 : a.tmps.getD 35 undef = .pointer (some ⟨ab, k, none⟩) := ht 1 (he 1 (by kernel_rfl)) 35 rfl
          have hc := HKA.out w4 hr
          go_simp
          exact hK _ _ rfl hr
        · intro L a w4 Kx hl hsz hs ht hr he hK
          refine step_plain rfl ?_
          have h9 : a.tmps.getD 9 undef = .slice (some ⟨g4, 0, none⟩) 8 cap4 := (hs 9 (by decide)).trans rfl
          go_simp
          exact hK _ _ rfl hr
        · intro L a w4 Kx hl hsz hs ht hr he hK
          refine step_plain rfl ?_
          have h12 : a.tmps.getD 12 undef = .int .i64 ((k : Int)) := (hs 12 (by decide)).trans rfl
          go_simp
          exact hK _ _ rfl hr
        · intro L a w4 Kx hl hsz hs ht hr he hK
          refine step_plain rfl ?_
          have h37 : a.tmps.getD 37 undef = .slice (some ⟨g4, 0, none⟩) 8 cap4 := ht 3 (he 3 (by kernel_rfl)) 37 rfl
          have h38 : a.tmps.getD 38 undef = .int .i64 ((k : Int)) := ht 4 (he 4 (by kernel_rfl)) 38 rfl
          go_simp
          exact hK _ _ rfl hr
        · intro L a w4 Kx hl hsz hs ht hr he hK
          refine step_plain rfl ?_
          have h39 : a.tmps.getD 39 undef = .pointer (some ⟨g4, k, none⟩) := ht 5 (he 5 (by kernel_rfl)) 39 rfl
          have hc := HKC.out w4 hr
          go_simp
          exact hK _ _ rfl hr
        · intro L a w4 Kx hl hsz hs ht hr he hK
          refine step_plain rfl ?_
          have h36 : a.tmps.getD 36 undef = .int .u32 (bvi (x)) := ht 2 (he 2 (by kernel_rfl)) 36 rfl
          have h40 : a.tmps.getD 40 undef = .int .u32 (bvi (x)) := ht 6 (he 6 (by kernel_rfl)) 40 rfl
          have hq : (bvi x != bvi x) = false := bne_self_eq_false _
          go_simp
          exact hK _ _ rfl hr
        · intro L a w4 Kx hl hsz hs ht hr he hK
          refine step_plain rfl ?_
          have h41 : a.tmps.getD 41 undef = .bool (false) := ht 7 (he 7 (by kernel_rfl)) 41 rfl
          go_simp
          exact hK _ _ rfl hr
        · intro L a w4 Kx hl hsz hs ht hr he hK
          have h42 : a.tmps.getD 42 undef = .bool (false) := ht 8 (he 8 (by kernel_rfl)) 42 rfl
          refine step_guard 8 false (false) 42 rfl rfl (by rw [hsz]; exact of_decide_eq_true (by kernel_rfl)) h42 ?_
          rw [if_pos rfl]
          go_simp
          refine (First_as G HG.out _).mono ?_
          rintro e w5 ⟨rfl, hb5⟩
          exact hK _ _ rfl (bthen hr hb5)
        · intro L a w4 Kx hl hsz hs ht hr he hK
          have h42 : a.tmps.getD 42 undef = .bool (false) := ht 8 (he 8 (by kernel_rfl)) 42 rfl
          refine step_guard 8 false (false) 42 rfl rfl (by rw [hsz]; exact of_decide_eq_true (by kernel_rfl)) h42 ?_
          rw [if_pos rfl]
          have h12 : a.tmps.getD 12 undef = .int .i64 ((k : Int)) := (hs 12 (by decide)).trans rfl
          go_simp
          exact hK _ _ rfl hr
        · intro L a w4 Kx hl hsz hs ht hr he hK
          have h42 : a.tmps.getD 42 undef = .bool (false) := ht 8 (he 8 (by kernel_rfl)) 42 rfl
          refine step_guard 8 false (false) 42 rfl rfl (by rw [hsz]; exact of_decide_eq_true (by kernel_rfl)) h42 ?_
          rw [if_pos rfl]
          have h43 : a.tmps.getD 43 undef = .agg (words G).toArray := ht 9 (he 9 (by kernel_rfl)) 43 rfl
          have h44 : a.tmps.getD 44 undef = .int .i64 ((k : Int)) := ht 10 (he 10 (by kernel_rfl)) 44 rfl
          have hix := HIX.out w4
          go_simp
          exact hK _ _ rfl hr
        · intro L a w4 Kx hl hsz hs ht hr he hK
          have h42 : a.tmps.getD 42 undef = .bool (false) := ht 8 (he 8 (by kernel_rfl)) 42 rfl
          refine step_guard 8 false (false) 42 rfl rfl (by rw [hsz]; exact of_decide_eq_true (by kernel_rfl)) h42 ?_
          rw [if_pos rfl]
          have h11 : a.tmps.getD 11 undef = .slice (some ⟨fb, 0, none⟩) 8 8 := (hs 11 (by decide)).trans rfl
          go_simp
          exact hK _ _ rfl hr
        · intro L a w4 Kx hl hsz hs ht hr he hK
          have h42 : a.tmps.getD 42 undef = .bool (false) := ht 8 (he 8 (by kernel_rfl)) 42 rfl
          refine step_guard 8 false (false) 42 rfl rfl (by rw [hsz]; exact of_decide_eq_true (by kernel_rfl)) h42 ?_
          rw [if_pos rfl]
          have h12 : a.tmps.getD 12 undef = .int .i64 ((k : Int)) := (hs 12 (by decide)).trans rfl
          go_simp
          exact hK _ _ rfl hr
        · intro L a w4 Kx hl hsz hs ht hr he hK
          have h42 : a.tmps.getD 42 undef = .bool (false) := ht 8 (he 8 (by kernel_rfl)) 42 rfl
          refine step_guard 8 false (false) 42 rfl rfl (by rw [hsz]; exact of_decide_eq_true (by kernel_rfl)) h42 ?_
          rw [if_pos rfl]
          have h46 : a.tmps.getD 46 undef = .slice (some ⟨fb, 0, none⟩) 8 8 := ht 12 (he 12 (by kernel_rfl)) 46 rfl
          have h47 : a.tmps.getD 47 undef = .int .i64 ((k : Int)) := ht 13 (he 13 (by kernel_rfl)) 47 rfl
          go_simp
          exact hK _ _ rfl hr
        · intro L a w4 Kx hl hsz hs ht hr he hK
          have h42 : a.tmps.getD 42 undef = .bool (false) := ht 8 (he 8 (by kernel_rfl)) 42 rfl
          refine step_guard 8 false (false) 42 rfl rfl (by rw [hsz]; exact of_decide_eq_true (by kernel_rfl)) h42 ?_
          rw [if_pos rfl]
          have h48 : a.tmps.getD 48 undef = .pointer (some ⟨fb, k, none⟩) := ht 14 (he 14 (by kernel_rfl)) 48 rfl
          have hc := HKF.out w4 hr
          go_simp
          exact hK _ _ rfl hr
        · intro L a w4 Kx hl hsz hs ht hr he hK
          have h42 : a.tmps.getD 42 undef = .bool (false) := ht 8 (he 8 (by kernel_rfl)) 42 rfl
          refine step_guard 8 false (false) 42 rfl rfl (by rw [hsz]; exact of_decide_eq_true (by kernel_rfl)) h42 ?_
          rw [if_pos rfl]
          have h45 : a.tmps.getD 45 undef = .int .u32 (bvi (y)) := ht 11 (he 11 (by kernel_rfl)) 45 rfl
          have h49 : a.tmps.getD 49 undef = .int .u32 (bvi (y)) := ht 15 (he 15 (by kernel_rfl)) 49 rfl
          have hq : (bvi y != bvi y) = false := bne_self_eq_false _
          go_simp
          exact hK _ _ rfl hr
        · intro L a w4 Kx hl hsz hs ht hr he hK
          refine step_plain rfl ?_
          have h42 : a.tmps.getD 42 undef = .bool (false) := ht 8 (he 8 (by kernel_rfl)) 42 rfl
          have h50 : a.tmps.getD 50 undef = .bool (false) := ht 16 (he 16 (by kernel_rfl)) 50 rfl
          go_simp
          exact hK _ _ rfl hr
      · intro f L w4 hf hall hr
        have h51 : f 51 = .bool false := hf 17 (by decide) 51 rfl
        simp only [List.foldl, Act.put, List.setIfInBounds_toArray, List.set_cons_zero, List.set_cons_succ]
        rw [h51]
        clear hf h51
        generalize f 34 = z34
        generalize f 35 = z35
        generalize f 36 = z36
        generalize f 37 = z37
        generalize f 38 = z38
        generalize f 39 = z39
        generalize f 40 = z40
        generalize f 41 = z41
        generalize f 42 = z42
        generalize f 43 = z43
        generalize f 44 = z44
        generalize f 45 = z45
        generalize f 46 = z46
        generalize f 47 = z47
        generalize f 48 = z48
        generalize f 49 = z49
        generalize f 50 = z50
        have HB6 := Lib.hid (HBW.out.trans (hr.mono HBW.out.size))
        clear hr hall
        go_wp2_with fail
        go_roundw
        case rel => exact ⟨k + 1, by omega, by go_num, HB6.out⟩
        case measure => simp [intOf]; omega
    · obtain rfl : k = 8 := by omega
      have hcc : (c == c) = true := by simp
      clear hb
      go_wp2_with fail
      refine (Pad_as n pd HPD.out _).mono ?_
      rintro e w6 ⟨rfl, hb6⟩
      have HB6 := Lib.hid (bthen HBW.out hb6)
      clear hb6
      go_wp2_with fail
      refine (RPad_walk n pd HPD.out _).mono ?_
      rintro e w7 ⟨rfl, hb7⟩
      have HB7 := Lib.hid (bthen HB6.out hb7)
      have hqq := seq_self pd
      clear hb7
      go_wp2_with fail
      go_ret
      exact ⟨rfl, HB5.out.trans (HB7.out.mono HB5.out.size)⟩
end Go.Proofs.Ytdfgcjjaiggpkaa

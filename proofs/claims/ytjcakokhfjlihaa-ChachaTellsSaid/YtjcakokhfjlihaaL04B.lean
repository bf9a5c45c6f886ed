/-
  Layer 4's laws, walked: ChachaStirs, ChachaBack.
-/
import Derived.Test.YtjcakokhfjlihaaL04A
import Derived.Test.YtjcakokhfjlihaaEq
namespace Go.Proofs.Ytjcakokhfjlihaa
open Go.RowKit

theorem make_zeros (m : Nat) (hm : m ≤ 140737488355328) (wx : World) : (Instr.makeSlice 38 (.int .i64 m) (.int .i64 m)).run Try.prog wx = .ok (.slice (some ⟨wx.heap.size, 0, none⟩) m m) (wx.alloc (.cells (zerosA m) 5)) := by
  obtain ⟨i0, hi, hz0, hz1, hz2⟩ := info_parts infoU8
  have hmk := run_make (P := Try.prog) wx 38 5 i0 (.int .u8 0) Try.underlying38 hi hz0 .i64 .i64 m m (by omega) (by omega) (by rw [hz2]; omega) (by omega)
  rw [hz1] at hmk; simp only [Int.toNat_natCast, Nat.mul_one] at hmk
  have e : zerosA m = madeCells #[.int .u8 0] m := by
    unfold zerosA
    rw [madeCells_one]
    have : cells (List.replicate m 0) = List.replicate m (Value.int .u8 0) := by
      unfold cells
      rw [List.map_replicate]; rfl
    rw [this]
    simp
  rw [e]
  exact hmk
def largeB (ss : List ByteArray) : Bool := ss.any fun s => decide (2048 < s.size)
theorem largeB_no {ss : List ByteArray} (h : ∀ s ∈ ss, s.size ≤ 2048) : largeB ss = false := by
  unfold largeB
  rw [List.any_eq_false]
  intro s hs
  have := h s hs
  simp; omega
set_option maxHeartbeats 400000 in
theorem large04 (ao : Option Addr) (cap : Nat) (ss : List ByteArray) (w : World) (hss : StrsAt w ao ss) (hl : ss.length ≤ 1000) :
    Calls Try.prog 16 #[.slice ao ss.length cap] w fun e w' => e = .returned (.bool (largeB ss)) ∧ w = w' := by
  have HS := Lib.hid hss
  clear hss
  go_enter Try.func16, Try.ntmps16
  go_wp2_with fail
  go_loop [6] (fun i => ∃ k : Nat, k ≤ ss.length ∧ i = .int .i64 k ∧ Hid (largeB ss = largeB (ss.drop k))) (fun i => ss.length - (intOf i).toNat)
  case atStart => exact ⟨0, Nat.zero_le _, rfl, rfl⟩
  case round =>
    obtain ⟨k, hk, rfl, hd⟩ := hrel
    rcases Nat.lt_or_ge k ss.length with hlt | hge
    · obtain ⟨b, off, rfl, hb, hc⟩ := HS.out k hlt
      have hdr : largeB (ss.drop k) = (decide (2048 < ss[k].size) || largeB (ss.drop (k + 1))) := by
        rw [List.drop_eq_getElem_cons hlt]; rfl
      have HDR := Lib.hid hdr
      clear hdr
      generalize ss[k] = s at hc HDR
      by_cases h : 2048 < s.size
      · have hx : (2048 : Int) < (s.size : Int) := by omega
        have HX := Lib.hid (decide_eq_true h)
        clear h
        go_wp2_with fail
        go_ret
        exact ⟨by rw [hd.out, HDR.out, HX.out]; rfl, rfl⟩
      · have hx : ¬ (2048 : Int) < (s.size : Int) := by omega
        have HX := Lib.hid (decide_eq_false h)
        clear h
        go_wp2_with fail
        go_round
        case rel => exact ⟨k + 1, by omega, by go_num, by unfold Hid; rw [hd.out, HDR.out, HX.out]; rfl⟩
        case measure => simp [intOf]; omega
    · have HZ := Lib.hid (show largeB ss = false by
        rw [hd.out, List.drop_of_length_le hge]; rfl)
      go_wp2_with fail
      go_ret
      exact ⟨by rw [HZ.out]; rfl, rfl⟩

theorem rolI_back (x : BitVec 32) (n : Int) : rolI (rolI x n) (32 - n) = x := by
  have h := rol_mod x ((n % 32).toNat + ((32 - n) % 32).toNat)
  unfold rolI
  rw [rol_rol, ← h]
  have : ((n % 32).toNat + ((32 - n) % 32).toNat) % 32 = 0 := by omega
  rw [this, rol_zero]
theorem rolI_nat (x : BitVec 32) (k : Nat) (h : k < 32) : rolI x (k : Int) = x.rotateLeft k := by
  unfold rolI
  congr 1
  omega
theorem rgt_eq (x : BitVec 32) (n m : Nat) (h1 : 1 ≤ n) (hm : n + m = 32) : x >>> n ||| x <<< m = rolI x (m : Int) := by
  rw [rolI_nat x m (by omega), ← rol_or x m (by omega), BitVec.or_comm, show 32 - m = n by omega]
set_option maxHeartbeats 400000 in
theorem right_walk (x : BitVec 32) (n m : Nat) (h1 : 1 ≤ n) (hm : n + m = 32) (w : World) :
    Calls Try.prog 25 #[.int .u32 (bvi x), .int .i64 n] w fun e w' => e = .returned (.int .u32 (bvi (rolI x (m : Int)))) ∧ Below w.heap.size w w' := by
  have h0 : 0 ≤ (n : Int) := by omega
  have h3 : (0 : Int) ≤ (32 : Int) - (n : Int) := by omega
  have h4 : ((32 : Int) - (n : Int)).toNat = m := by omega
  have h5 : (n : Int) ≤ 32 := by omega
  have HR := Lib.hid (rgt_eq x n m h1 hm)
  clear hm
  go_enter Try.func25, Try.ntmps25
  go_wp2_with fail
  go_quiet (fail)
  go_wp2_with fail
  go_ret
  exact ⟨by rw [← HR.out]; rfl, below_drewN (Below.refl _ _) _⟩

theorem equal_four (a b c d : BitVec 32) (wx : World) : (Op.equalIn 10000 23 (.agg #[.int .u32 (bvi a), .int .u32 (bvi b), .int .u32 (bvi c), .int .u32 (bvi d)]) (.agg #[.int .u32 (bvi a), .int .u32 (bvi b), .int .u32 (bvi c), .int .u32 (bvi d)])).run Try.prog wx = .ok true wx := by
  have := equal_words 4 Try.underlying23 [a, b, c, d] [a, b, c, d] rfl rfl wx
  rw [decide_eq_true rfl] at this
  exact this
set_option maxRecDepth 100000 in
set_option maxHeartbeats 2000000 in
theorem ChachaStirs_w (a b c d : BitVec 32) (w : World) :
    Calls Try.prog 7 #[.agg #[.int .u32 (bvi a), .int .u32 (bvi b), .int .u32 (bvi c), .int .u32 (bvi d)]] w fun e w' => e = .returned (.bool true) ∧ Below w.heap.size w w' := by
  go_enter Try.func7, Try.ntmps7
  go_wp2_with fail
  refine (awake04 _).mono ?_
  rintro e w1 ⟨rfl, hb1⟩
  have HRW := Lib.hid ((RowAt.new w #[.int .u32 (bvi a), .int .u32 (bvi b), .int .u32 (bvi c), .int .u32 (bvi d)] 23 (0, 0)).below hb1 (by simp))
  obtain ⟨z0, z1, z2, z3, _, _, _, _⟩ := row4 HRW.out
  have zW : w.heap.size < w1.heap.size := by have := hb1.size; simp at this; omega
  have HB1 := Lib.hid (show Below w.heap.size w w1 from Below.trans ((Below.refl _ _).alloc (Nat.le_refl _) _) (hb1.mono (by simp)))
  clear hb1
  obtain ⟨a1, ha1⟩ : ∃ x, x = a + b := ⟨_, rfl⟩
  obtain ⟨d1, hd1⟩ : ∃ x, x = rolI (d ^^^ a1) 16 := ⟨_, rfl⟩
  obtain ⟨c1, hc1⟩ : ∃ x, x = c + d1 := ⟨_, rfl⟩
  obtain ⟨b1, hb1⟩ : ∃ x, x = rolI (b ^^^ c1) 12 := ⟨_, rfl⟩
  obtain ⟨a2, ha2⟩ : ∃ x, x = a1 + b1 := ⟨_, rfl⟩
  obtain ⟨d2, hd2⟩ : ∃ x, x = rolI (d1 ^^^ a2) 8 := ⟨_, rfl⟩
  obtain ⟨c2, hc2⟩ : ∃ x, x = c1 + d2 := ⟨_, rfl⟩
  obtain ⟨b2, hb2⟩ : ∃ x, x = rolI (b1 ^^^ c2) 7 := ⟨_, rfl⟩
  have HQ := Lib.hid (show stir4 a b c d = [a2, b2, c2, d2] by subst hb2 hc2 hd2 ha2 hb1 hc1 hd1 ha1; rfl)
  have e1 : rolI b2 25 ^^^ c2 = b1 := by rw [hb2, show (25 : Int) = 32 - 7 from rfl, rolI_back, BitVec.xor_assoc, BitVec.xor_self, BitVec.xor_zero]
  have e2 : c2 - d2 = c1 := by rw [hc2, BitVec.add_sub_cancel]
  have e3 : rolI d2 24 ^^^ a2 = d1 := by rw [hd2, show (24 : Int) = 32 - 8 from rfl, rolI_back, BitVec.xor_assoc, BitVec.xor_self, BitVec.xor_zero]
  have e4 : a2 - b1 = a1 := by rw [ha2, BitVec.add_sub_cancel]
  have e5 : rolI b1 20 ^^^ c1 = b := by rw [hb1, show (20 : Int) = 32 - 12 from rfl, rolI_back, BitVec.xor_assoc, BitVec.xor_self, BitVec.xor_zero]
  have e6 : c1 - d1 = c := by rw [hc1, BitVec.add_sub_cancel]
  have e7 : rolI d1 16 ^^^ a1 = d := by rw [hd1, show rolI (rolI (d ^^^ a1) 16) 16 = d ^^^ a1 from rolI_back (d ^^^ a1) 16, BitVec.xor_assoc, BitVec.xor_self, BitVec.xor_zero]
  have e8 : a1 - b = a := by rw [ha1, BitVec.add_sub_cancel]
  clear ha1 hd1 hc1 hb1 ha2 hd2 hc2 hb2
  go_wp2_with fail
  refine (Stir_four a b c d a2 b2 c2 d2 _ HQ.out).mono ?_
  rintro e w2 ⟨rfl, hb2⟩
  have HB2 := Lib.hid hb2
  clear hb2
  go_wp2_with fail
  go_quiet (fail)
  go_wp2_with fail
  refine (right_walk b2 7 25 (by decide) rfl _).mono ?_
  rintro e w3 ⟨rfl, hb3⟩
  go_wp2_with fail
  refine (right_walk d2 8 24 (by decide) rfl _).mono ?_
  rintro e w4 ⟨rfl, hb4⟩
  go_wp2_with fail
  refine (right_walk b1 12 20 (by decide) rfl _).mono ?_
  rintro e w5 ⟨rfl, hb5⟩
  go_wp2_with fail
  refine (right_walk d1 16 16 (by decide) rfl _).mono ?_
  rintro e w6 ⟨rfl, hb6⟩
  have HB6 := Lib.hid (bthen (bthen (bthen (bthen HB1.out HB2.out) (bthen (below_drewN ((Below.refl _ _).alloc (Nat.le_refl _) _) _) hb3)) hb4) (bthen hb5 hb6))
  clear z0 z1 z2 z3
  have hlow : Below w1.heap.size w1 w6 := bthen (bthen (bthen HB2.out (bthen (below_drewN ((Below.refl _ _).alloc (Nat.le_refl _) _) _) hb3)) hb4) (bthen hb5 hb6)
  obtain ⟨z0, z1, z2, z3, _, _, _, _⟩ := row4 (HRW.out.below hlow zW)
  clear hb3 hb4 hb5 hb6 hlow
  have heq : ∀ wx, (Op.equalIn 10000 23 (.agg #[.int .u32 (bvi a), .int .u32 (bvi b), .int .u32 (bvi c), .int .u32 (bvi d)]) (.agg #[.int .u32 (bvi a), .int .u32 (bvi b), .int .u32 (bvi c), .int .u32 (bvi d)])).run Try.prog wx = .ok true wx := fun wx => equal_four a b c d wx
  go_wp2_with fail
  go_ret
  exact ⟨rfl, HB6.out⟩

set_option maxRecDepth 100000 in
set_option maxHeartbeats 2000000 in
theorem ChachaBack_w (key : List UInt8) (lk : key.length = 32) (counter : BitVec 32) (nonce : List UInt8) (ln : nonce.length = 12) (text : ByteArray) (w : World) :
    Calls Try.prog 5 #[.agg (cells key).toArray, .int .u32 (bvi counter), .agg (cells nonce).toArray, .string text] w fun e w' => e = .returned (.bool true) ∧ Below w.heap.size w w' := by
  go_enter Try.func5, Try.ntmps5
  go_wp2_with fail
  refine (awake04 _).mono ?_
  rintro e w1 ⟨rfl, hb1⟩
  have RK := Lib.hid (((RowAt.new w (cells key).toArray 36 (0, 0)).alloc (.cells (cells nonce).toArray 37)).below hb1 (by simp <;> omega))
  have RN := Lib.hid ((RowAt.new (w.alloc (.cells (cells key).toArray 36)) (cells nonce).toArray 37 (0, 0)).below hb1 (by simp))
  have zW : w.heap.size + 1 < w1.heap.size := by have := hb1.size; simp at this; omega
  have HB1 := Lib.hid (show Below w.heap.size w w1 from Below.trans (((Below.refl _ _).alloc (Nat.le_refl _) _).alloc (by simp) _) (hb1.mono (by simp; omega)))
  have HLK := Lib.hid lk
  have HLN := Lib.hid ln
  clear hb1 lk ln
  go_wp2_with fail
  refine (large04 _ _ [text] _ (by
    intro i hi
    obtain rfl : i = 0 := by simp at hi; omega
    exact ⟨_, 0, rfl, by simp, (RowAt.new w1 #[.string text] 9 (0, 0)).cell (i := 0) rfl⟩) (by simp)).mono ?_
  rintro e w2 ⟨rfl, rfl⟩
  rcases Nat.lt_or_ge 2048 text.size with hbig | hsm
  · rw [show largeB [text] = true by unfold largeB; simp; omega]
    go_wp2_with fail
    go_ret
    exact ⟨rfl, HB1.out.alloc HB1.out.size _⟩
  · rw [largeB_no (ss := [text]) (by simpa using hsm)]
    have HB2 := Lib.hid (HB1.out.alloc HB1.out.size (.cells #[.string text] 9))
    have RK2 := Lib.hid (RK.out.alloc (.cells #[.string text] 9))
    have hrn2 := RN.out.alloc (.cells #[.string text] 9)
    have hz2 : w1.heap.size < (w1.alloc (.cells #[.string text] 9)).heap.size := by simp
    generalize w1.alloc (.cells #[.string text] 9) = w2 at HB2 RK2 hrn2 hz2 ⊢
    rw [show (w.alloc (.cells (cells key).toArray 36)).heap.size = w.heap.size + 1 by simp] at hrn2
    have hc1 := fun nq => run_str (P := Try.prog) (w2.drewN nq) 38 5 Try.underlying38 Try.underlying5 9 Try.underlying9 w.heap.size 32 32 _ _ _ key RK2.out.out HLK.out (by rw [← HLK.out]; exact List.take_of_length_le (by rw [cells_length]; exact Nat.le_refl _))
    have hc2 := fun nq => run_str (P := Try.prog) (w2.drewN nq) 38 5 Try.underlying38 Try.underlying5 9 Try.underlying9 (w.heap.size + 1) 12 12 _ _ _ nonce hrn2.out HLN.out (by rw [← HLN.out]; exact List.take_of_length_le (by rw [cells_length]; exact Nat.le_refl _))
    go_wp2_with fail
    go_quiet (fail)
    clear hc1 hc2 RK2 hrn2 hz2
    have hK := Is.of key
    have hN := Is.of nonce
    generalize ByteArray.mk key.toArray = K at hK ⊢
    generalize ByteArray.mk nonce.toArray = N at hN ⊢
    have hKs := hK.size
    have hNs := hN.size
    rw [HLK.out] at hKs
    rw [HLN.out] at hNs
    have HK := Lib.hid hKs
    have HN := Lib.hid hNs
    have IK := Lib.hid hK
    have IN := Lib.hid hN
    have HB3 := Lib.hid (below_drewN HB2.out nq)
    generalize w2.drewN nq = w3 at HB3 ⊢
    clear hK hN hKs hNs
    go_wp2_with fail
    refine (Turn_ok K N text counter HK.out HN.out (by omega) _).mono ?_
    rintro e w4 ⟨r4, rfl, hr4, hb4⟩
    rw [IK.out.out, IN.out.out] at hr4
    have hz4 : r4.size = text.size := by rw [hr4.size, turnL_length, Array.length_toList]; rfl
    have HR4 := Lib.hid hr4
    clear hr4
    go_wp2_with fail
    refine (Turn_ok K N r4 counter HK.out HN.out (by omega) _).mono ?_
    rintro e w5 ⟨r5, rfl, hr5, hb5⟩
    rw [IK.out.out, IN.out.out, HR4.out.out, turnL_twice] at hr5
    have q5 : seq r5 text = true := seq_is hr5 (Is.self text)
    have HB5 := Lib.hid (bthen (bthen HB3.out hb4) hb5)
    clear hr5 hb4 hb5
    have hmk := make_zeros text.size (by omega)
    have hzs := zeros_str text.size
    have HZ4 := Lib.hid hz4
    have hzq : ((r4.size : Int) == (text.size : Int)) = true := by rw [beq_iff_eq, hz4]
    clear hz4
    go_wp2_with fail
    clear hmk hzs
    refine (Turn_ok K N (zeroStr text.size) counter HK.out HN.out (by rw [zeroStr_size]; omega) _).mono ?_
    rintro e w6 ⟨r6, rfl, hr6, hb6⟩
    rw [IK.out.out, IN.out.out, (zeroStr_is _).out, turnL_zero] at hr6
    have HR6 := Lib.hid hr6
    clear hr6
    go_wp2_with fail
    refine (Stream_ok K N counter text.size HK.out HN.out (by omega) _).mono ?_
    rintro e w7 ⟨r7, rfl, hr7, hb7⟩
    rw [IK.out.out, IN.out.out] at hr7
    have q7 : seq r6 r7 = true := seq_is HR6.out hr7
    have HB7 := Lib.hid (bthen (bthen (HB5.out.alloc HB5.out.size _) hb6) hb7)
    clear hr7 hb6 hb7
    go_wp2_with fail
    go_ret
    exact ⟨rfl, HB7.out⟩
end Go.Proofs.Ytjcakokhfjlihaa

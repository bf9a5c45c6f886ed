/-
Layer 5, the reference's package posthornref05: Clamp, Tag, Sum.
-/
import Derived.Test.YtfglhemmccihfaaMc
import Derived.Test.YtfglhemmccihfaaMi
namespace Go.Proofs.Ytfglhemmccihfaa
open Go.RowKit

theorem mod16 (x : BitVec 8) : x % 16#8 = x &&& 15#8 := by
  apply BitVec.eq_of_toNat_eq
  rw [BitVec.toNat_umod, BitVec.toNat_and]
  exact (Nat.and_two_pow_sub_one_eq_mod x.toNat 4).symm
theorem div4 : ∀ x : BitVec 8, x / 4#8 * 4#8 = x &&& 252#8 := by decide
/-- The first k bytes with bits taken away. -/
def clampT (l : List UInt8) (k : Nat) : List UInt8 := (List.range k).map fun j => clampB j (l.getD j 0)
theorem clampT_succ (l : List UInt8) (k : Nat) : clampT l (k + 1) = clampT l k ++ [clampB k (l.getD k 0)] := by simp [clampT, List.range_succ]
theorem clampT_full (l : List UInt8) : clampT l l.length = clampL l := by
  unfold clampT clampL clampK
  apply List.map_congr_left
  intro j hj
  rw [if_pos (List.mem_range.1 hj)]

set_option maxRecDepth 100000 in
set_option maxHeartbeats 4000000 in
theorem RClamp_ok (s : ByteArray) (h : s.size = 16) (w : World) :
    Calls Try.prog 53 #[.string s] w fun e w' => ∃ r, e = .returned (.tuple #[.string r, .int .i64 0]) ∧ Is r (clampL s.data.toList) ∧ Below w.heap.size w w' := by
  have hne : ((s.size : Int) != 16) = false := by simp [h]
  have hz : 16 ≤ s.size := by omega
  have hz2 : s.size ≤ 16 := by omega
  have HF := Lib.hid (show clampL s.data.toList = clampT s.data.toList 16 by
    have := clampT_full s.data.toList
    rw [Array.length_toList] at this
    rw [← this]
    show clampT _ s.size = _
    rw [h])
  clear h
  go_enter Try.func53, Try.ntmps53
  go_wp2_with fail
  clear hne
  go_loopw [4, 5] (fun x i wr => ∃ k : Nat, k ≤ 16 ∧ i = .int .i64 k ∧ wr.ownsRow w.heap.size 5 1 x k (cells (clampT s.data.toList k)) ∧ Below w.heap.size w wr) (fun _ i _ => 16 - (intOf i).toNat)
  case atStart => exact ⟨0, Nat.zero_le _, rfl, owns_zero w _ (Nat.le_refl _), (Below.refl _ _).alloc (Nat.le_refl _) _⟩
  case round =>
    obtain ⟨k, hk, rfl, hown, hbel⟩ := hrel
    rcases Nat.lt_or_ge k 16 with hlt | hge
    · have hks : k < s.size := by omega
      have HS := Lib.hid (clampT_succ s.data.toList k)
      have hgb := getD_byte s k hks
      rw [show clampT s.data.toList (k + 1) = clampT s.data.toList k ++ [clampB k s[k]] by rw [clampT_succ, hgb]] at HS
      have HS := Lib.hid (show clampT s.data.toList (k + 1) = clampT s.data.toList k ++ [clampB k s[k]] by rw [clampT_succ, hgb])
      clear hgb
      by_cases k3 : k % 4 = 3
      · have HV := Lib.hid (show (clampB k s[k]).toBitVec = s[k].toBitVec % 16#8 by unfold clampB; rw [if_pos k3, mod16]; rfl)
        have e3 : k = 3 ∨ k = 7 ∨ k = 11 ∨ k = 15 := by omega
        have n4 : ((k : Int) == 4) = false := by rw [beq_eq_false_iff_ne]; omega
        have n8 : ((k : Int) == 8) = false := by rw [beq_eq_false_iff_ne]; omega
        have n12 : ((k : Int) == 12) = false := by rw [beq_eq_false_iff_ne]; omega
        have y3 : k ≠ 3 → ((k : Int) == 3) = false := fun hh => by rw [beq_eq_false_iff_ne]; omega
        have HW : Hid (∀ v', wr.ownsRow w.heap.size 5 1 v' k (cells (clampT s.data.toList k)) → True) := fun _ _ => trivial
        clear k3 HW
        rcases e3 with e3 | e3 | e3 | e3
        · have t3 : ((k : Int) == 3) = true := by rw [beq_iff_eq]; omega
          clear e3 y3
          go_wp2_with (at_builtin; refine append_one rfl _ _ 32 rfl wr w.heap.size 5 (.int .u8 0) 1 Try.underlying32 infoB rfl hown rfl _ rfl rfl (by omega) (by omega) (by have := hbel.size; omega) ?_)
          intro v' w1 hown' hb1 _ _
          clear hown
          go_wp2_with fail
          go_roundw
          case rel => exact ⟨k + 1, by omega, by go_num, by rw [HS.out, cells_append]; show w1.ownsRow _ _ _ _ _ (_ ++ [Value.int .u8 (bvi (clampB k s[k]).toBitVec)]); rw [HV.out]; exact hown', hbel.trans hb1⟩
          case measure => simp [intOf]; omega
        · have f3 := y3 (by omega)
          have t7 : ((k : Int) == 7) = true := by rw [beq_iff_eq]; omega
          clear e3 y3
          go_wp2_with (at_builtin; refine append_one rfl _ _ 32 rfl wr w.heap.size 5 (.int .u8 0) 1 Try.underlying32 infoB rfl hown rfl _ rfl rfl (by omega) (by omega) (by have := hbel.size; omega) ?_)
          intro v' w1 hown' hb1 _ _
          clear hown
          go_wp2_with fail
          go_roundw
          case rel => exact ⟨k + 1, by omega, by go_num, by rw [HS.out, cells_append]; show w1.ownsRow _ _ _ _ _ (_ ++ [Value.int .u8 (bvi (clampB k s[k]).toBitVec)]); rw [HV.out]; exact hown', hbel.trans hb1⟩
          case measure => simp [intOf]; omega
        · have f3 := y3 (by omega)
          have f7 : ((k : Int) == 7) = false := by rw [beq_eq_false_iff_ne]; omega
          have t11 : ((k : Int) == 11) = true := by rw [beq_iff_eq]; omega
          clear e3 y3
          go_wp2_with (at_builtin; refine append_one rfl _ _ 32 rfl wr w.heap.size 5 (.int .u8 0) 1 Try.underlying32 infoB rfl hown rfl _ rfl rfl (by omega) (by omega) (by have := hbel.size; omega) ?_)
          intro v' w1 hown' hb1 _ _
          clear hown
          go_wp2_with fail
          go_roundw
          case rel => exact ⟨k + 1, by omega, by go_num, by rw [HS.out, cells_append]; show w1.ownsRow _ _ _ _ _ (_ ++ [Value.int .u8 (bvi (clampB k s[k]).toBitVec)]); rw [HV.out]; exact hown', hbel.trans hb1⟩
          case measure => simp [intOf]; omega
        · have f3 := y3 (by omega)
          have f7 : ((k : Int) == 7) = false := by rw [beq_eq_false_iff_ne]; omega
          have f11 : ((k : Int) == 11) = false := by rw [beq_eq_false_iff_ne]; omega
          have t15 : ((k : Int) == 15) = true := by rw [beq_iff_eq]; omega
          clear e3 y3
          go_wp2_with (at_builtin; refine append_one rfl _ _ 32 rfl wr w.heap.size 5 (.int .u8 0) 1 Try.underlying32 infoB rfl hown rfl _ rfl rfl (by omega) (by omega) (by have := hbel.size; omega) ?_)
          intro v' w1 hown' hb1 _ _
          clear hown
          go_wp2_with fail
          go_roundw
          case rel => exact ⟨k + 1, by omega, by go_num, by rw [HS.out, cells_append]; show w1.ownsRow _ _ _ _ _ (_ ++ [Value.int .u8 (bvi (clampB k s[k]).toBitVec)]); rw [HV.out]; exact hown', hbel.trans hb1⟩
          case measure => simp [intOf]; omega
      · have n3 : ((k : Int) == 3) = false := by rw [beq_eq_false_iff_ne]; omega
        have n7 : ((k : Int) == 7) = false := by rw [beq_eq_false_iff_ne]; omega
        have n11 : ((k : Int) == 11) = false := by rw [beq_eq_false_iff_ne]; omega
        have n15 : ((k : Int) == 15) = false := by rw [beq_eq_false_iff_ne]; omega
        by_cases k0 : k % 4 = 0 ∧ 0 < k
        · have HV := Lib.hid (show (clampB k s[k]).toBitVec = s[k].toBitVec / 4#8 * 4#8 by unfold clampB; rw [if_neg k3, if_pos k0, div4]; rfl)
          have e4 : k = 4 ∨ k = 8 ∨ k = 12 := by omega
          clear k3 k0
          rcases e4 with e4 | e4 | e4
          · have t4 : ((k : Int) == 4) = true := by rw [beq_iff_eq]; omega
            clear e4
            go_wp2_with (at_builtin; refine append_one rfl _ _ 32 rfl wr w.heap.size 5 (.int .u8 0) 1 Try.underlying32 infoB rfl hown rfl _ rfl rfl (by omega) (by omega) (by have := hbel.size; omega) ?_)
            intro v' w1 hown' hb1 _ _
            clear hown
            go_wp2_with fail
            go_roundw
            case rel => exact ⟨k + 1, by omega, by go_num, by rw [HS.out, cells_append]; show w1.ownsRow _ _ _ _ _ (_ ++ [Value.int .u8 (bvi (clampB k s[k]).toBitVec)]); rw [HV.out]; exact hown', hbel.trans hb1⟩
            case measure => simp [intOf]; omega
          · have f4 : ((k : Int) == 4) = false := by rw [beq_eq_false_iff_ne]; omega
            have t8 : ((k : Int) == 8) = true := by rw [beq_iff_eq]; omega
            clear e4
            go_wp2_with (at_builtin; refine append_one rfl _ _ 32 rfl wr w.heap.size 5 (.int .u8 0) 1 Try.underlying32 infoB rfl hown rfl _ rfl rfl (by omega) (by omega) (by have := hbel.size; omega) ?_)
            intro v' w1 hown' hb1 _ _
            clear hown
            go_wp2_with fail
            go_roundw
            case rel => exact ⟨k + 1, by omega, by go_num, by rw [HS.out, cells_append]; show w1.ownsRow _ _ _ _ _ (_ ++ [Value.int .u8 (bvi (clampB k s[k]).toBitVec)]); rw [HV.out]; exact hown', hbel.trans hb1⟩
            case measure => simp [intOf]; omega
          · have f4 : ((k : Int) == 4) = false := by rw [beq_eq_false_iff_ne]; omega
            have f8 : ((k : Int) == 8) = false := by rw [beq_eq_false_iff_ne]; omega
            have t12 : ((k : Int) == 12) = true := by rw [beq_iff_eq]; omega
            clear e4
            go_wp2_with (at_builtin; refine append_one rfl _ _ 32 rfl wr w.heap.size 5 (.int .u8 0) 1 Try.underlying32 infoB rfl hown rfl _ rfl rfl (by omega) (by omega) (by have := hbel.size; omega) ?_)
            intro v' w1 hown' hb1 _ _
            clear hown
            go_wp2_with fail
            go_roundw
            case rel => exact ⟨k + 1, by omega, by go_num, by rw [HS.out, cells_append]; show w1.ownsRow _ _ _ _ _ (_ ++ [Value.int .u8 (bvi (clampB k s[k]).toBitVec)]); rw [HV.out]; exact hown', hbel.trans hb1⟩
            case measure => simp [intOf]; omega
        · have HV := Lib.hid (show clampB k s[k] = s[k] by unfold clampB; rw [if_neg k3, if_neg k0])
          have n4 : ((k : Int) == 4) = false := by rw [beq_eq_false_iff_ne]; omega
          have n8 : ((k : Int) == 8) = false := by rw [beq_eq_false_iff_ne]; omega
          have n12 : ((k : Int) == 12) = false := by rw [beq_eq_false_iff_ne]; omega
          clear k3 k0
          go_wp2_with (at_builtin; refine append_one rfl _ _ 32 rfl wr w.heap.size 5 (.int .u8 0) 1 Try.underlying32 infoB rfl hown rfl _ rfl rfl (by omega) (by omega) (by have := hbel.size; omega) ?_)
          intro v' w1 hown' hb1 _ _
          clear hown
          go_wp2_with fail
          go_roundw
          case rel => exact ⟨k + 1, by omega, by go_num, by rw [HS.out, cells_append, HV.out]; exact hown', hbel.trans hb1⟩
          case measure => simp [intOf]; omega
    · obtain rfl : k = 16 := by omega
      have hst := run_str_own (P := Try.prog) wr 32 5 Try.underlying32 Try.underlying5 9 Try.underlying9 _ 16 _ (clampT s.data.toList 16) hown
      clear hown
      go_wp2_with fail
      go_ret2
      exact ⟨_, rfl, by rw [HF.out]; exact Is.of _, hbel⟩
set_option maxHeartbeats 400000 in
theorem RClamp_no (s : ByteArray) (h : s.size ≠ 16) (w : World) :
    Calls Try.prog 53 #[.string s] w fun e w' => e = .returned (.tuple #[.string ByteArray.empty, .int .i64 5]) ∧ w = w' := by
  have hne : ((s.size : Int) != 16) = true := by simp; omega
  clear h
  go_enter Try.func53, Try.ntmps53
  go_wp2_with fail
  go_ret2
  exact ⟨rfl, rfl⟩

/-! ### A number's bytes out of its digits -/
def bytesT (X k : Nat) : List UInt8 := (List.range k).map fun i => UInt8.ofNat (X / 256 ^ i % 256)
theorem bytesT_succ (X k : Nat) : bytesT X (k + 1) = bytesT X k ++ [UInt8.ofNat (X / 256 ^ k % 256)] := by simp [bytesT, List.range_succ]
theorem bytesT_full (X n : Nat) : bytesT X n = leN X n := by
  apply List.ext_getElem (by simp [bytesT, leN_length])
  intro i h1 h2
  rw [leN_get]
  simp only [bytesT, List.getElem_map, List.getElem_range]
  apply UInt8.toNat_inj.1
  rw [UInt8.toNat_ofNat', UInt8.toNat_ofNat']
  omega
theorem byte_cell (x : Nat) : (Value.int .u8 (bvi (BitVec.ofInt 8 (x : Int)))) = u8c (UInt8.ofNat x) := by
  unfold u8c
  congr 2

set_option maxRecDepth 100000 in
set_option maxHeartbeats 4000000 in
theorem RTag_ok (key text : ByteArray) (hk : key.size = 32) (ht : text.size ≤ 1000000) (w : World) :
    Calls Try.prog 36 #[.string key, .string text] w fun e w' => ∃ r, e = .returned (.tuple #[.string r, .int .i64 0]) ∧ Is r (tagL key.data.toList text.data.toList) ∧ Below w.heap.size w w' := by
  have hne : ((key.size : Int) != 32) = false := by simp [hk]
  have hk1 : 16 ≤ key.size := by omega
  have hk2 : key.size ≤ 32 := by omega
  have HX := Lib.hid (show Is (key.extract 0 16) (key.data.toList.take 16) from by have := (Is.self key).extract 0 16; rwa [List.drop_zero, Nat.sub_zero] at this)
  have HY := Lib.hid (show Is (key.extract 16 key.size) (key.data.toList.drop 16) from by
    have := (Is.self key).extract 16 key.size
    rwa [List.take_of_length_le (by rw [List.length_drop, Array.length_toList]; exact Nat.le_refl _)] at this)
  have hx16 : (key.extract 0 16).size = 16 := by rw [ByteArray.size_extract]; omega
  have hy16 : (key.extract 16 key.size).size ≤ 16 := by rw [ByteArray.size_extract]; omega
  have HXZ := Lib.hid hx16
  have HTL := Lib.hid (show text.data.toList.length = text.size by rw [Array.length_toList]; rfl)
  have HTAG := Lib.hid (show tagL key.data.toList text.data.toList = leN (accN (leV (clampL (key.data.toList.take 16))) text.data.toList ((text.data.toList.length + 15) / 16) + leV (key.data.toList.drop 16)) 16 from rfl)
  clear hk hx16
  go_enter Try.func36, Try.ntmps36
  go_wp2_with fail
  refine (RClamp_ok _ HXZ.out _).mono ?_
  rintro e w1 ⟨c, rfl, hc, hb1⟩
  rw [HX.out.out] at hc
  have hcz : c.size ≤ 16 := by rw [hc.size, clampL_length, List.length_take]; omega
  have HC := Lib.hid hc
  have HB1 := Lib.hid hb1
  clear hc hb1
  go_wp2_with fail
  refine (digits_walk c (by omega) _).mono ?_
  rintro e w2 ⟨vr, rfl, h2, hb2⟩
  rw [HC.out.out] at h2
  have HR := Lib.hid h2
  have HB2 := Lib.hid (bthen HB1.out hb2)
  have HRL := Lib.hid (show (ofBytes (clampL (key.data.toList.take 16))).length ≤ 16 by rw [ofBytes_length, clampL_length, List.length_take]; omega)
  have HRV := Lib.hid (dV_ofBytes (clampL (key.data.toList.take 16)))
  have HRD := Lib.hid (ofBytes_dig (clampL (key.data.toList.take 16)))
  generalize hRR : leV (clampL (key.data.toList.take 16)) = R at HTAG HRV
  generalize ofBytes (clampL (key.data.toList.take 16)) = rd at HR HRL HRV HRD
  clear h2 hb2 hRR
  go_wp2_with fail
  have hb3 : Below w2.heap.size w2 (w2.alloc (.cells #[.int .i64 0] 3)) := (Below.refl _ _).alloc (Nat.le_refl _) _
  have HA0 := Lib.hid (show DigAt (w2.alloc (.cells #[.int .i64 0] 3)) (.slice (some ⟨w2.heap.size, 0, none⟩) 1 1) [0] from dig_one w2 0)
  have HR3 := Lib.hid (HR.out.below hb3)
  have HB3 := Lib.hid (bthen HB2.out hb3)
  clear hb3
  generalize w2.alloc (.cells #[.int .i64 0] 3) = w3 at HA0 HR3 HB3 ⊢
  generalize w2.heap.size = ab at HA0 ⊢
  go_loopw [9, 10] (fun x i wr => ∃ (j : Nat) (la : List Nat), j ≤ (text.size + 15) / 16 ∧ i = .int .i64 ((16 * j : Nat) : Int) ∧ DigAt wr x la ∧ Dig la ∧ la.length ≤ 18 ∧ Hid (dV la = accN R text.data.toList j) ∧ DigAt wr vr rd ∧ Below w.heap.size w wr) (fun _ i _ => text.size + 16 - (intOf i).toNat)
  case atStart => exact ⟨0, [0], Nat.zero_le _, rfl, HA0.out, by intro d hd; simp at hd; omega, by simp, by unfold Hid; simp [dV, accN], HR3.out, HB3.out⟩
  case round =>
    obtain ⟨j, la, hj, rfl, hda, hdg, hlla, hacc, hdr, hbel⟩ := hrel
    have HDA := Lib.hid hda
    have HDG := Lib.hid hdg
    have HDR := Lib.hid hdr
    have HBL := Lib.hid hbel
    clear hda hdg hdr hbel
    rcases Nat.lt_or_ge (16 * j) text.size with hlt | hge
    · have HNX := Lib.hid (show accN R text.data.toList (j + 1) = stepN R (accN R text.data.toList j) (chunkL text.data.toList j) from rfl)
      obtain ⟨kk, hkk, hkk1, hkk2, hkk3⟩ : ∃ kk : Nat, 16 * j ≤ kk ∧ kk ≤ text.size ∧ kk ≤ 16 * j + 16 ∧ (kk = 16 * j + 16 ∨ (kk = text.size ∧ text.size < 16 * j + 16)) := by
        rcases Nat.lt_or_ge text.size (16 * j + 16) with g | g
        · exact ⟨text.size, by omega, by omega, by omega, Or.inr ⟨rfl, g⟩⟩
        · exact ⟨16 * j + 16, by omega, by omega, by omega, Or.inl rfl⟩
      have HCH := Lib.hid (show Is (text.extract (16 * j) kk ++ ⟨#[1]⟩) (chunkL text.data.toList j ++ [1]) from by
        refine Is.append ?_ (Is.of [1])
        have h0 := (Is.self text).extract (16 * j) kk
        have e : (text.data.toList.drop (16 * j)).take (kk - 16 * j) = chunkL text.data.toList j := by
          unfold chunkL
          rcases hkk3 with g | ⟨g1, g2⟩
          · rw [g, Nat.add_sub_cancel_left]
          · rw [List.take_of_length_le (by rw [List.length_drop, HTL.out]; omega), List.take_of_length_le (by rw [List.length_drop, HTL.out]; omega)]
        rwa [e] at h0)
      have hcs : (text.extract (16 * j) kk).size ≤ 16 := by rw [ByteArray.size_extract]; omega
      have hcs2 : (text.extract (16 * j) kk ++ ⟨#[1]⟩).size ≤ 17 := by
        rw [ByteArray.size_append]
        have : (⟨#[1]⟩ : ByteArray).size = 1 := rfl
        omega
      have HCV := Lib.hid (show dV (ofBytes (chunkL text.data.toList j ++ [1])) = leV (chunkL text.data.toList j) + 256 ^ (chunkL text.data.toList j).length by rw [dV_ofBytes, leV_append]; simp [leV])
      have HCD := Lib.hid (ofBytes_dig (chunkL text.data.toList j ++ [1]))
      have HCL := Lib.hid (show (ofBytes (chunkL text.data.toList j ++ [1])).length ≤ 17 by rw [ofBytes_length, ← HCH.out.size]; exact hcs2)
      have HST := Lib.hid (show ∀ A : Nat, stepN R A (chunkL text.data.toList j) = ((A + (leV (chunkL text.data.toList j) + 256 ^ (chunkL text.data.toList j).length)) * R) % prime from fun _ => rfl)
      have q0 : (0 : Int) ≤ ((16 * j : Nat) : Int) := by omega
      have q1 : ((16 * j : Nat) : Int) ≤ (kk : Int) := by omega
      have q2 : (kk : Int) ≤ (text.size : Int) := by omega
      rcases hkk3 with g | ⟨g1, g2⟩
      · obtain rfl : kk = 16 * j + 16 := g
        generalize hM : 16 * j = m at *
        have HM := Lib.hid hM
        clear hM
        go_wp2_with fail
        refine (digits_walk _ (by omega) _).mono ?_
        rw [HCH.out.out]
        rintro e w4 ⟨v4, rfl, h4, hb4⟩
        have HDA4 := Lib.hid (HDA.out.below hb4)
        have HDR4 := Lib.hid (HDR.out.below hb4)
        have HB4 := Lib.hid (bthen HBL.out hb4)
        have H4 := Lib.hid h4
        clear h4 hb4
        generalize ofBytes (chunkL text.data.toList j ++ [1]) = cd at H4 HCV HCD HCL
        go_wp2_with fail
        refine (plus_ref _ _ la cd HDG.out HCD.out (by omega) (by have := HCL.out; omega) _ HDA4.out H4.out).mono ?_
        rintro e w5 ⟨v5, l5, rfl, h5, hd5, hv5, hl5, hb5⟩
        have hl19 : l5.length ≤ 19 := hl5 19 (by omega) (by have := HCL.out; omega) (by
          have e1 := hiD_pow la HDG.out 18 hlla
          have e2 := hiD_pow cd HCD.out 17 HCL.out
          omega)
        have HDR5 := Lib.hid (HDR4.out.below hb5)
        have HB5 := Lib.hid (bthen HB4.out hb5)
        have H5 := Lib.hid h5
        have HD5 := Lib.hid hd5
        have HV5 := Lib.hid hv5
        clear h5 hb5 hd5 hv5 hl5
        go_wp2_with fail
        refine (times_ref _ _ l5 rd HD5.out HRD.out (by omega) (by have := HRL.out; omega) _ H5.out HDR5.out).mono ?_
        rintro e w6 ⟨v6, l6, rfl, h6, hd6, hv6, hl6, hb6⟩
        have hl35 : l6.length ≤ 60 := hl6 60 (by have := HRL.out; omega)
        have HDR6 := Lib.hid (HDR5.out.below hb6)
        have HB6 := Lib.hid (bthen HB5.out hb6)
        have H6 := Lib.hid h6
        have HD6 := Lib.hid hd6
        have HV6 := Lib.hid hv6
        clear h6 hb6 hd6 hv6 hl6
        go_wp2_with fail
        refine (modulo_walk _ l6 HD6.out hl35 _ H6.out).mono ?_
        rintro e w7 ⟨v7, l7, rfl, h7, hd7, hv7, hl7, hb7⟩
        have HDR7 := Lib.hid (HDR6.out.below hb7)
        have HB7 := Lib.hid (bthen HB6.out hb7)
        have H7 := Lib.hid h7
        have HD7 := Lib.hid hd7
        have HV7 := Lib.hid (show dV l7 = accN R text.data.toList (j + 1) by rw [hv7, HV6.out, HV5.out, HNX.out, HST.out, HCV.out, hacc.out, HRV.out])
        have hl18 : l7.length ≤ 18 := by omega
        clear h7 hb7 hd7 hv7 hl7
        go_wp2_with fail
        go_roundw
        case rel => exact ⟨j + 1, l7, by have := HM.out; omega, by have := HM.out; congr 1; omega, H7.out, HD7.out, hl18, HV7.out, HDR7.out, HB7.out⟩
        case measure => simp [intOf]; omega
      · obtain rfl : kk = text.size := g1
        generalize hM : 16 * j = m at *
        have HM := Lib.hid hM
        clear hM
        go_wp2_with fail
        refine (digits_walk _ (by omega) _).mono ?_
        rw [HCH.out.out]
        rintro e w4 ⟨v4, rfl, h4, hb4⟩
        have HDA4 := Lib.hid (HDA.out.below hb4)
        have HDR4 := Lib.hid (HDR.out.below hb4)
        have HB4 := Lib.hid (bthen HBL.out hb4)
        have H4 := Lib.hid h4
        clear h4 hb4
        generalize ofBytes (chunkL text.data.toList j ++ [1]) = cd at H4 HCV HCD HCL
        go_wp2_with fail
        refine (plus_ref _ _ la cd HDG.out HCD.out (by omega) (by have := HCL.out; omega) _ HDA4.out H4.out).mono ?_
        rintro e w5 ⟨v5, l5, rfl, h5, hd5, hv5, hl5, hb5⟩
        have hl19 : l5.length ≤ 19 := hl5 19 (by omega) (by have := HCL.out; omega) (by
          have e1 := hiD_pow la HDG.out 18 hlla
          have e2 := hiD_pow cd HCD.out 17 HCL.out
          omega)
        have HDR5 := Lib.hid (HDR4.out.below hb5)
        have HB5 := Lib.hid (bthen HB4.out hb5)
        have H5 := Lib.hid h5
        have HD5 := Lib.hid hd5
        have HV5 := Lib.hid hv5
        clear h5 hb5 hd5 hv5 hl5
        go_wp2_with fail
        refine (times_ref _ _ l5 rd HD5.out HRD.out (by omega) (by have := HRL.out; omega) _ H5.out HDR5.out).mono ?_
        rintro e w6 ⟨v6, l6, rfl, h6, hd6, hv6, hl6, hb6⟩
        have hl35 : l6.length ≤ 60 := hl6 60 (by have := HRL.out; omega)
        have HDR6 := Lib.hid (HDR5.out.below hb6)
        have HB6 := Lib.hid (bthen HB5.out hb6)
        have H6 := Lib.hid h6
        have HD6 := Lib.hid hd6
        have HV6 := Lib.hid hv6
        clear h6 hb6 hd6 hv6 hl6
        go_wp2_with fail
        refine (modulo_walk _ l6 HD6.out hl35 _ H6.out).mono ?_
        rintro e w7 ⟨v7, l7, rfl, h7, hd7, hv7, hl7, hb7⟩
        have HDR7 := Lib.hid (HDR6.out.below hb7)
        have HB7 := Lib.hid (bthen HB6.out hb7)
        have H7 := Lib.hid h7
        have HD7 := Lib.hid hd7
        have HV7 := Lib.hid (show dV l7 = accN R text.data.toList (j + 1) by rw [hv7, HV6.out, HV5.out, HNX.out, HST.out, HCV.out, hacc.out, HRV.out])
        have hl18 : l7.length ≤ 18 := by omega
        clear h7 hb7 hd7 hv7 hl7
        go_wp2_with fail
        go_roundw
        case rel => exact ⟨j + 1, l7, by have := HM.out; omega, by have := HM.out; congr 1; omega, H7.out, HD7.out, hl18, HV7.out, HDR7.out, HB7.out⟩
        case measure => simp [intOf]; omega
    · have hjj : j = (text.size + 15) / 16 := by omega
      have HJ := Lib.hid (show dV la = accN R text.data.toList ((text.data.toList.length + 15) / 16) by rw [HTL.out, ← hjj]; exact hacc.out)
      clear hjj hacc
      have hyz : (16 : Int) ≤ (key.size : Int) := by omega
      go_wp2_with fail
      refine (digits_walk (key.extract 16 key.size) (by omega) _).mono ?_
      rintro e w4 ⟨v4, rfl, h4, hb4⟩
      rw [HY.out.out] at h4
      have HDA4 := Lib.hid (HDA.out.below hb4)
      have HB4 := Lib.hid (bthen HBL.out hb4)
      have H4 := Lib.hid h4
      have HKL := Lib.hid (show (ofBytes (key.data.toList.drop 16)).length ≤ 16 by
        rw [ofBytes_length, ← HY.out.size]; exact hy16)
      clear h4 hb4
      go_wp2_with fail
      refine (plus_ref _ _ la (ofBytes (key.data.toList.drop 16)) HDG.out (ofBytes_dig _) (by omega) (by have := HKL.out; omega) _ HDA4.out H4.out).mono ?_
      rintro e w8 ⟨v3, l3, rfl, h5, hd5, hv5, _, hb5⟩
      have HBE := Lib.hid (bthen HB4.out hb5)
      have H3 := Lib.hid h5
      have HD3 := Lib.hid hd5
      have HV3 := Lib.hid (show dV l3 = accN R text.data.toList ((text.data.toList.length + 15) / 16) + leV (key.data.toList.drop 16) by rw [hv5, HJ.out, dV_ofBytes])
      clear h5 hb5 hd5 hv5
      go_wp2_with fail
      go_loopw [13, 14] (fun x i wr => ∃ k : Nat, k ≤ 16 ∧ i = .int .i64 k ∧ wr.ownsRow w8.heap.size 5 1 x k (cells (bytesT (dV l3) k)) ∧ Below w8.heap.size w8 wr) (fun _ i _ => 16 - (intOf i).toNat)
      case atStart => exact ⟨0, Nat.zero_le _, rfl, owns_zero w8 _ (Nat.le_refl _), (Below.refl _ _).alloc (Nat.le_refl _) _⟩
      case round =>
        obtain ⟨k, hk, rfl, hown, hbel⟩ := hrel
        rcases Nat.lt_or_ge k 16 with hlt | hge
        · have H4 := Lib.hid (H3.out.below hbel)
          have HS := Lib.hid (bytesT_succ (dV l3) k)
          have hx : dV l3 / 256 ^ k % 256 < 256 := Nat.mod_lt _ (by omega)
          generalize hxe : dV l3 / 256 ^ k % 256 = x at hx HS
          have HXE := Lib.hid ((digit_of l3 HD3.out k).trans hxe)
          have HBC := Lib.hid (byte_cell x)
          clear hxe
          go_wp2_with fail
          refine (digit_walk _ l3 k k rfl x HXE.out _ H4.out).mono ?_
          rintro e w4 ⟨rfl, rfl⟩
          go_wp2_with (at_builtin; refine append_one rfl _ _ 32 rfl wr w8.heap.size 5 (.int .u8 0) 1 Try.underlying32 infoB rfl hown rfl _ rfl rfl (by omega) (by omega) (by have := hbel.size; omega) ?_)
          intro v' w5 hown' hb5 _ _
          clear hown
          go_wp2_with fail
          go_roundw
          case rel => exact ⟨k + 1, by omega, by go_num, by rw [HS.out, cells_append]; show w5.ownsRow _ _ _ _ _ (_ ++ [u8c (UInt8.ofNat x)]); rw [← HBC.out]; first | exact hown' | (rw [BitVec.ofInt_natCast]; exact hown'), hbel.trans hb5⟩
          case measure => simp [intOf]; omega
        · obtain rfl : k = 16 := by omega
          have hst := run_str_own (P := Try.prog) wr 32 5 Try.underlying32 Try.underlying5 9 Try.underlying9 _ 16 _ (bytesT (dV l3) 16) hown
          clear hown
          go_wp2_with fail
          go_ret2
          exact ⟨_, rfl, by rw [HTAG.out, ← HV3.out, ← bytesT_full]; exact Is.of _, bthen HBE.out hbel⟩
set_option maxHeartbeats 400000 in
theorem RTag_no (key text : ByteArray) (hk : key.size ≠ 32) (w : World) :
    Calls Try.prog 36 #[.string key, .string text] w fun e w' => e = .returned (.tuple #[.string ByteArray.empty, .int .i64 5]) ∧ w = w' := by
  have hne : ((key.size : Int) != 32) = true := by simp; omega
  clear hk
  go_enter Try.func36, Try.ntmps36
  go_wp2_with fail
  go_ret2
  exact ⟨rfl, rfl⟩
end Go.Proofs.Ytfglhemmccihfaa

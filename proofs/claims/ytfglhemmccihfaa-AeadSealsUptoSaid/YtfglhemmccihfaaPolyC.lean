/-
  Layer 5, the program's package poly: bytes, read, Clamp.
-/
import Derived.Test.YtfglhemmccihfaaPolyB
namespace Go.Proofs.Ytfglhemmccihfaa
open Go.RowKit

/-- Bytes 0 as cells. -/
def zerosB (n : Nat) : Array Value := (cells (List.replicate n 0)).toArray
theorem make_16 (wx : World) : (Instr.makeSlice 32 (.int .i64 16) (.int .i64 16)).run Try.prog wx = .ok (.slice (some ⟨wx.heap.size, 0, none⟩) 16 16) (wx.alloc (.cells (zerosB 16) 5)) := by kernel_rfl
def bytesA (l : List (BitVec 64)) (k : Nat) : Array Value := (cells (bytes5 l k ++ List.replicate (16 - k) 0)).toArray
theorem bytesA_zero (l : List (BitVec 64)) : bytesA l 0 = zerosB 16 := rfl
theorem bytesA_at (l : List (BitVec 64)) (k : Nat) (h : k < 16) : (bytesA l k)[k]? = some (.int .u8 0) := by
  unfold bytesA
  rw [List.getElem?_toArray, cells_get (by simp [bytes5_length]; omega)]
  rw [List.getElem_append_right (by rw [bytes5_length]; exact Nat.le_refl _)]
  simp
  rfl
theorem bytesA_set (l : List (BitVec 64)) (k : Nat) (h : k < 16) : (bytesA l k).setIfInBounds k (u8c (byte5 l k)) = bytesA l (k + 1) := by
  unfold bytesA
  rw [List.setIfInBounds_toArray, cells_set, List.set_append_right _ _ (by rw [bytes5_length]; exact Nat.le_refl _), bytes5_length, Nat.sub_self, bytes5_succ]
  obtain ⟨d, hd⟩ : ∃ d, 16 - k = d + 1 := ⟨15 - k, by omega⟩
  rw [hd, show 16 - (k + 1) = d by omega, List.replicate_succ, List.set_cons_zero, List.append_assoc]
  rfl
theorem bytesA_full (l : List (BitVec 64)) : bytesA l 16 = (cells (bytes5 l 16)).toArray := by simp [bytesA]
theorem byte5_yes (l : List (BitVec 64)) (i : Nat) (h : 8 * i / 26 + 1 < 5) : byte5 l i = ⟨(l.getD (8 * i / 26) 0 >>> (8 * i % 26) ||| l.getD (8 * i / 26 + 1) 0 <<< (26 - 8 * i % 26)).setWidth 8⟩ := by
  unfold byte5; rw [if_pos h]
theorem byte5_no (l : List (BitVec 64)) (i : Nat) (h : ¬ 8 * i / 26 + 1 < 5) : byte5 l i = ⟨(l.getD (8 * i / 26) 0 >>> (8 * i % 26)).setWidth 8⟩ := by
  unfold byte5; rw [if_neg h]

theorem byte_walk (x y : BitVec 64) (a c : Nat) (h : c ≤ 64) : BitVec.setWidth 8 (x >>> a) ||| BitVec.setWidth 8 (BitVec.ofInt 64 (bvi y * 2 ^ c)) = (x >>> a ||| y <<< c).setWidth 8 := by
  have e := shl_min (n := 64) (bvi y) c
  rw [Nat.min_eq_left h, ofInt_bvi_same] at e
  rw [e, BitVec.setWidth_or]

set_option maxRecDepth 100000 in
set_option maxHeartbeats 2000000 in
theorem bytes5_walk (l : List (BitVec 64)) (hl : l.length = 5) (w : World) :
    Calls Try.prog 97 #[.agg (d64 l).toArray] w fun e w' => ∃ r, e = .returned (.string r) ∧ Is r (bytes5 l 16) ∧ Below w.heap.size w w' := by
  have HL := Lib.hid hl
  have hz := d64_size l hl
  have hmk := make_16
  clear hl
  go_enter Try.func97, Try.ntmps97
  go_upto_region 2 with fail
  clear hz hmk
  have hn0 := (NumAt.new w l).alloc (.cells (zerosB 16) 5)
  have hr0 := RowAt.new (w.alloc (.cells (d64 l).toArray 121)) (zerosB 16) 5 (0, 0)
  rw [show (w.alloc (.cells (d64 l).toArray 121)).heap.size = w.heap.size + 1 by simp] at hr0
  have hb0 : Below w.heap.size w ((w.alloc (.cells (d64 l).toArray 121)).alloc (.cells (zerosB 16) 5)) := ((Below.refl _ _).alloc (Nat.le_refl _) _).alloc (by simp) _
  generalize (w.alloc (.cells (d64 l).toArray 121)).alloc (.cells (zerosB 16) 5) = w1 at hn0 hr0 hb0 ⊢
  have HN := Lib.hid hn0
  have HR := Lib.hid hr0
  have HB := Lib.hid hb0
  clear hn0 hr0 hb0
  go_wp2_with fail
  go_loopw [12] (fun i wr => ∃ k : Nat, k ≤ 16 ∧ i = .int .i64 k ∧ RowAt wr (w.heap.size + 1) (bytesA l k) 5 (0, 0) ∧ NumAt wr w.heap.size l ∧ Below w.heap.size w wr) (fun i _ => 16 - (intOf i).toNat)
  case atStart => exact ⟨0, Nat.zero_le _, rfl, HR.out, HN.out, HB.out⟩
  case round =>
    obtain ⟨k, hk, rfl, hr, hn, hb⟩ := hrel
    have HN := Lib.hid hn
    have HR := Lib.hid hr
    have HB := Lib.hid hb
    clear hn hr hb
    rcases Nat.lt_or_ge k 16 with hlt | hge
    · have q1 : (8 * (k : Int) / 26).toNat = 8 * k / 26 := by omega
      have q2 : (8 * (k : Int) % 26).toNat = 8 * k % 26 := by omega
      have q3 : (0 : Int) ≤ 8 * (k : Int) % 26 := by omega
      have q4 : (0 : Int) ≤ 8 * (k : Int) / 26 := by omega
      have q5 : 8 * (k : Int) / 26 < 5 := by omega
      have hq : 8 * k / 26 < 5 := by omega
      have c0 := HN.out.cell (8 * k / 26) (by rw [HL.out]; exact hq)
      have cb := HR.out.cell (bytesA_at l k hlt)
      have fb := HR.out.free (i := k) (by simp)
      by_cases h5 : 8 * k / 26 + 1 < 5
      · have g5 : 8 * (k : Int) / 26 + 1 < 5 := by omega
        have q6 : (0 : Int) ≤ 26 - 8 * (k : Int) % 26 := by omega
        have q7 : (26 - 8 * (k : Int) % 26).toNat = 26 - 8 * k % 26 := by omega
        have q8 : (8 * (k : Int) / 26 + 1).toNat = 8 * k / 26 + 1 := by omega
        have c1 := HN.out.cell (8 * k / 26 + 1) (by rw [HL.out]; exact h5)
        go_wp2_with fail
        go_roundw
        case rel =>
          refine ⟨k + 1, by omega, by go_num, ?_, HN.out.other (by simp) _, HB.out.setCell (p := ⟨_, _, _⟩) (by simp) _⟩
          rw [← bytesA_set l k hlt, byte5_yes l k h5, byte_walk _ _ _ _ (by omega)]
          exact HR.out.store k _
        case measure => simp [intOf]; omega
      · have g5 : decide (8 * (k : Int) / 26 + 1 < 5) = false := decide_eq_false (by omega)
        go_wp2_with fail
        go_roundw
        case rel =>
          refine ⟨k + 1, by omega, by go_num, ?_, HN.out.other (by simp) _, HB.out.setCell (p := ⟨_, _, _⟩) (by simp) _⟩
          rw [← bytesA_set l k hlt, byte5_no l k h5]
          exact HR.out.store k _
        case measure => simp [intOf]; omega
    · obtain rfl : k = 16 := by omega
      have hr2 := HR.out
      rw [bytesA_full] at hr2
      have hst := run_str (P := Try.prog) wr 32 5 Try.underlying32 Try.underlying5 9 Try.underlying9 (w.heap.size + 1) 16 16 _ 5 _ (bytes5 l 16) hr2 (bytes5_length _ _) (by
        rw [List.take_of_length_le]; rw [cells_length, bytes5_length]; exact Nat.le_refl _)
      clear hr2
      go_wp2_with fail
      go_ret
      exact ⟨_, rfl, Is.of _, HB.out⟩

set_option maxRecDepth 100000 in
set_option maxHeartbeats 2000000 in
theorem read_walk (s : ByteArray) (hs : s.size ≤ 17) (w : World) :
    Calls Try.prog 93 #[.string s] w fun e w' => e = .returned (.agg (d64 (readL s.data.toList)).toArray) ∧ Below w.heap.size w w' := by
  have HLEN := Lib.hid (show readL s.data.toList = readK s.data.toList s.size by unfold readL; rw [Array.length_toList]; rfl)
  have hsm : s.size ≤ 9223372036854775807 := by omega
  go_enter Try.func93, Try.ntmps93
  go_upto_region 2 with fail
  have hr0 := (NumAt.new w zeroL).alloc (.cells (d64 zeroL).toArray 121)
  have hn0 := NumAt.new (w.alloc (.cells (d64 zeroL).toArray 121)) zeroL
  rw [show (w.alloc (.cells (d64 zeroL).toArray 121)).heap.size = w.heap.size + 1 by simp] at hn0
  have hb0 : Below w.heap.size w ((w.alloc (.cells (d64 zeroL).toArray 121)).alloc (.cells (d64 zeroL).toArray 121)) := ((Below.refl _ _).alloc (Nat.le_refl _) _).alloc (by simp) _
  change Code.wp _ _ _ _ ((w.alloc (.cells (d64 zeroL).toArray 121)).alloc (.cells (d64 zeroL).toArray 121))
  generalize (w.alloc (.cells (d64 zeroL).toArray 121)).alloc (.cells (d64 zeroL).toArray 121) = w1 at hn0 hr0 hb0 ⊢
  have HN := Lib.hid hn0
  have HR := Lib.hid hr0
  have HB := Lib.hid hb0
  clear hn0 hr0 hb0
  go_wp2_with fail
  go_loopw [11] (fun i wr => ∃ k : Nat, k ≤ s.size ∧ i = .int .i64 k ∧ NumAt wr (w.heap.size + 1) (readK s.data.toList k) ∧ NumAt wr w.heap.size zeroL ∧ Below w.heap.size w wr) (fun i _ => s.size - (intOf i).toNat)
  case atStart => exact ⟨0, Nat.zero_le _, rfl, HN.out, HR.out, HB.out⟩
  case round =>
    obtain ⟨k, hk, rfl, hn, hr, hb⟩ := hrel
    have HN := Lib.hid hn
    have HR := Lib.hid hr
    have HB := Lib.hid hb
    clear hn hr hb
    have HLK := Lib.hid (readK_length s.data.toList k)
    rcases Nat.lt_or_ge k s.size with hlt | hge
    · have q1 : (8 * (k : Int) / 26).toNat = 8 * k / 26 := by omega
      have q2 : (8 * (k : Int) % 26).toNat = 8 * k % 26 := by omega
      have q3 : (0 : Int) ≤ 8 * (k : Int) % 26 := by omega
      have q4 : (0 : Int) ≤ 8 * (k : Int) / 26 := by omega
      have q5 : 8 * (k : Int) / 26 < 5 := by omega
      have hq : 8 * k / 26 < 5 := by omega
      have c0 := HN.out.cell (8 * k / 26) (by rw [HLK.out]; exact hq)
      have f0 := HN.out.free (8 * k / 26)
      have HV := Lib.hid (show shiftB s.data.toList k = BitVec.setWidth 64 s[k].toBitVec <<< (8 * k % 26) by unfold shiftB; rw [getD_byte s k hlt])
      by_cases h5 : 8 * k / 26 + 1 < 5
      · have g5 : 8 * (k : Int) / 26 + 1 < 5 := by omega
        have q8 : (8 * (k : Int) / 26 + 1).toNat = 8 * k / 26 + 1 := by omega
        have q9 : (0 : Int) ≤ 8 * (k : Int) / 26 + 1 := by omega
        have c1 := HN.out.cell (8 * k / 26 + 1) (by rw [HLK.out]; exact h5)
        have f1 := HN.out.free (8 * k / 26 + 1)
        go_wp2_with fail
        go_roundw
        case rel =>
          have hs1 := (HN.out.store (8 * k / 26) ((readK s.data.toList k).getD (8 * k / 26) 0 + (shiftB s.data.toList k &&& 67108863#64))).store (8 * k / 26 + 1) ((readK s.data.toList k).getD (8 * k / 26 + 1) 0 + shiftB s.data.toList k >>> 26)
          rw [HV.out] at hs1
          refine ⟨k + 1, by omega, by go_num, ?_, (HR.out.other (by simp) _).other (by simp) _, (HB.out.setCell (by simp) _).setCell (by simp) _⟩
          rw [readK, readTwo, if_pos h5, readOne, set_getD_ne _ _ _ _ _ (by omega), HV.out]
          exact hs1
        case measure => simp [intOf]; omega
      · have g5 : decide (8 * (k : Int) / 26 + 1 < 5) = false := decide_eq_false (by omega)
        go_wp2_with fail
        go_roundw
        case rel =>
          have hs1 := HN.out.store (8 * k / 26) ((readK s.data.toList k).getD (8 * k / 26) 0 + (shiftB s.data.toList k &&& 67108863#64))
          rw [HV.out] at hs1
          refine ⟨k + 1, by omega, by go_num, ?_, HR.out.other (by simp) _, HB.out.setCell (by simp) _⟩
          rw [readK, readTwo, if_neg h5, readOne, HV.out]
          exact hs1
        case measure => simp [intOf]; omega
    · obtain rfl : k = s.size := by omega
      go_upto_region 12 with fail
      rename_i hK
      apply wp_region_lit
      refine wpList_load_row rfl 121 _ rfl (w.heap.size + 1) (by as_aux_lemma => kernel_rfl) 121 _ (0, 0) _ HN.out.out.out Try.underlying121 rfl (num_info _ HLK.out) ?_
      refine wpList_store_rowTo rfl 121 _ _ rfl rfl w.heap.size (d64 (readK s.data.toList s.size)).toArray (by as_aux_lemma => kernel_rfl) (by as_aux_lemma => kernel_rfl) 121 _ HR.out.out.out (num_info _ HLK.out) (num_same _ _ HLK.out rfl) (d64_cells _) ?_
      apply wpList_nil
      refine hK _ _ ?_
      go_wp2_with fail
      refine bodyPost_ret (v := .agg (d64 (readK s.data.toList s.size)).toArray) (results_cell_row rfl _ _ w.heap.size 121 (d64 (readK s.data.toList s.size)).toArray (0, 0) _ (by kernel_rfl) (HR.out.out.setRow _).out Try.underlying121 rfl (num_info _ HLK.out)) rfl ⟨by rw [HLEN.out], Go.Proofs.Ytfglhemmccihfaa.Below.setRow HB.out (Nat.le_refl _) _⟩
end Go.Proofs.Ytfglhemmccihfaa

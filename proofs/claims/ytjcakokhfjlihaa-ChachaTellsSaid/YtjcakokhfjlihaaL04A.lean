/-
  Layer 4's laws: 'awake' is true.
-/
import Derived.Test.YtjcakokhfjlihaaChachaD
import Derived.Test.YtjcakokhfjlihaaOpen
namespace Go.Proofs.Ytjcakokhfjlihaa
open Go.RowKit

/-- Bytes 0 as cells. -/
def zerosA (n : Nat) : Array Value := (cells (List.replicate n 0)).toArray
theorem make_32 (wx : World) : (Instr.makeSlice 38 (.int .i64 32) (.int .i64 32)).run Try.prog wx = .ok (.slice (some ⟨wx.heap.size, 0, none⟩) 32 32) (wx.alloc (.cells (zerosA 32) 5)) := by kernel_rfl
theorem make_12 (wx : World) : (Instr.makeSlice 38 (.int .i64 12) (.int .i64 12)).run Try.prog wx = .ok (.slice (some ⟨wx.heap.size, 0, none⟩) 12 12) (wx.alloc (.cells (zerosA 12) 5)) := by kernel_rfl
/-- So many bytes 0. -/
def zeroStr (n : Nat) : ByteArray := ⟨(List.replicate n 0).toArray⟩
theorem zeroStr_is (n : Nat) : Is (zeroStr n) (List.replicate n 0) := Is.of _
theorem zeroStr_size (n : Nat) : (zeroStr n).size = n := by rw [(zeroStr_is n).size]; simp
theorem zeros_str (n : Nat) (wx : World) (g : Nat) (hg : wx.heap.size = g) : (convert 38 9 (.slice (some ⟨g, 0, none⟩) n n)).run Try.prog (wx.alloc (.cells (zerosA n) 5)) = .ok (.string (zeroStr n)) (wx.alloc (.cells (zerosA n) 5)) := by
  subst hg
  exact run_str (wx.alloc (.cells (zerosA n) 5)) 38 5 Try.underlying38 Try.underlying5 9 Try.underlying9 wx.heap.size n n _ _ _ (List.replicate n 0) (RowAt.new wx _ _ _) (by simp) (by
    unfold zerosA
    exact List.take_of_length_le (by rw [cells_length]; simp))

set_option maxRecDepth 100000 in
set_option maxHeartbeats 2000000 in
theorem awake04 (w : World) : Calls Try.prog 15 #[] w fun e w' => e = .returned (.bool true) ∧ Below w.heap.size w w' := by
  go_enter Try.func15, Try.ntmps15
  go_wp2_with fail
  refine (Stir_four _ _ _ _ 0xea2a92f4#32 0xcb1cf8ce#32 0x4581472e#32 0x5881c4bb#32 _ (show stir4 0x11111111#32 0x01020304#32 0x9b8d6f43#32 0x01234567#32 = _ by decide +kernel)).mono ?_
  rintro e w1 ⟨rfl, hb1⟩
  have m1 := make_32
  have m2 := make_12
  have s1 := zeros_str 32
  have s2 := zeros_str 12
  have hzk := zeroStr_size 32
  have hzn := zeroStr_size 12
  have HZK := Lib.hid hzk
  have HZN := Lib.hid hzn
  have hkl := zeroStr_is 32
  have hnl := zeroStr_is 12
  have HKL := Lib.hid hkl
  have HNL := Lib.hid hnl
  clear hzk hzn hkl hnl
  have B0 := Lib.hid (show (blockL (List.replicate 32 0) 0#32 (List.replicate 12 0)).take 4 = [118, 184, 224, 173] by decide +kernel)
  have T0 := Lib.hid (show (turnL (List.replicate 32 0) 0#32 (List.replicate 12 0) [97, 98]).getD 0 0 = 23 by decide +kernel)
  have S0 := Lib.hid (show (streamL (List.replicate 32 0) 0#32 (List.replicate 12 0) 70).take 64 = blockL (List.replicate 32 0) 0#32 (List.replicate 12 0) by
    rw [streamL_take _ _ _ 64 70 (by omega)]
    unfold streamL
    rw [show (64 + 63) / 64 = 0 + 1 from rfl, blocksL, blocksL, List.nil_append, show (0#32 + BitVec.ofNat 32 0) = 0#32 from rfl]
    exact List.take_of_length_le (by rw [blockL_length]; exact Nat.le_refl _))
  go_wp2_with fail
  clear m1 m2 s1 s2
  have hbW := ((((Below.refl w.heap.size w).trans (hb1.mono (Nat.le_refl _))).alloc hb1.size (.cells #[.int .u32 (bvi 3928658676#32), .int .u32 (bvi 3407673550#32), .int .u32 (bvi 1166100270#32), .int .u32 (bvi 1484899515#32)] 23))).alloc (by have := hb1.size; simp; omega) (.cells (zerosA 32) 5) |>.alloc (by have := hb1.size; simp; omega) (.cells (zerosA 12) 5)
  have hq := (((RowAt.new w1 #[.int .u32 (bvi 3928658676#32), .int .u32 (bvi 3407673550#32), .int .u32 (bvi 1166100270#32), .int .u32 (bvi 1484899515#32)] 23 (0, 0)).alloc (.cells (zerosA 32) 5)).alloc (.cells (zerosA 12) 5))
  generalize ((w1.alloc (.cells #[.int .u32 (bvi 3928658676#32), .int .u32 (bvi 3407673550#32), .int .u32 (bvi 1166100270#32), .int .u32 (bvi 1484899515#32)] 23)).alloc (.cells (zerosA 32) 5)).alloc (.cells (zerosA 12) 5) = w2 at hbW hq ⊢
  generalize w1.heap.size = qb at hq ⊢
  have HBW := Lib.hid hbW
  have HQ := Lib.hid hq
  clear hbW hq hb1
  refine (Block_ok (zeroStr 32) (zeroStr 12) 0#32 HZK.out HZN.out _).mono ?_
  rintro e w3 ⟨r3, rfl, hr3, hb3⟩
  rw [HKL.out.out, HNL.out.out] at hr3
  have hz3 : r3.size = 64 := by rw [hr3.size, blockL_length]
  have HR3 := Lib.hid hr3
  clear hr3
  go_wp2_with fail
  refine (Stream_ok (zeroStr 32) (zeroStr 12) 0#32 70 HZK.out HZN.out (by omega) _).mono ?_
  rintro e w4 ⟨r4, rfl, hr4, hb4⟩
  rw [HKL.out.out, HNL.out.out] at hr4
  have hz4 : r4.size = 70 := by rw [hr4.size, streamL_length]
  have HR4 := Lib.hid hr4
  clear hr4
  go_wp2_with fail
  refine (Turn_ok (zeroStr 32) (zeroStr 12) ⟨#[97, 98]⟩ 0#32 HZK.out HZN.out (by decide) _).mono ?_
  rintro e w5 ⟨r5, rfl, hr5, hb5⟩
  rw [HKL.out.out, HNL.out.out] at hr5
  have hz5 : r5.size = 2 := by rw [hr5.size, turnL_length]; rfl
  have HR5 := Lib.hid hr5
  clear hr5
  go_wp2_with fail
  refine (Block_no ⟨#[]⟩ (zeroStr 12) 0#32 (by decide) _).mono ?_
  rintro e w6 ⟨rfl, rfl⟩
  go_wp2_with fail
  refine (Stream_no (zeroStr 32) (zeroStr 12) 0#32 (-1) (Or.inr (Or.inl (by decide))) _).mono ?_
  rintro e w6 ⟨rfl, rfl⟩
  have hq5 := ((HQ.out.below hb3 HQ.out.lt).below hb4 (by have := HQ.out.lt; have := hb3.size; omega)).below hb5 (by have := HQ.out.lt; have := hb3.size; have := hb4.size; omega)
  obtain ⟨c0, c1, c2, c3, _, _, _, _⟩ := row4 hq5
  have q3 : seq (r3.extract 0 4) ⟨#[118, 184, 224, 173]⟩ = true := by
    have h := HR3.out.extract 0 4
    rw [List.drop_zero, B0.out] at h
    rw [seq_eq h (Is.self _)]; rfl
  have q4 : seq (r4.extract 0 64) r3 = true := by
    have h := HR4.out.extract 0 64
    rw [List.drop_zero, S0.out] at h
    rw [seq_eq h HR3.out]; exact decide_eq_true rfl
  have h05 : 0 < r5.size := by omega
  have q5 : bvi (r5[0]'h05).toBitVec = 23 := by
    have h1 := HR5.out.get 0 h05
    have h2 := T0.out
    rw [List.getD_eq_getElem?_getD, List.getElem?_eq_getElem (by rw [← HR5.out.size]; exact h05)] at h2
    rw [h1]
    exact congrArg (fun x : UInt8 => bvi x.toBitVec) h2
  have l3 : 4 ≤ r3.size := by omega
  have l4 : 64 ≤ r4.size := by omega
  have HB5 := Lib.hid (bthen (bthen (bthen HBW.out hb3) hb4) hb5)
  clear hb3 hb4 hb5 hq5
  have heq : ∀ wx, (Op.equalIn 10000 23 (.agg #[.int .u32 (bvi 3928658676#32), .int .u32 (bvi 3407673550#32), .int .u32 (bvi 1166100270#32), .int .u32 (bvi 1484899515#32)]) (.agg #[.int .u32 3928658676, .int .u32 3407673550, .int .u32 1166100270, .int .u32 1484899515])).run Try.prog wx = .ok true wx := fun _ => by kernel_rfl
  go_wp2_with fail
  go_ret
  exact ⟨rfl, HB5.out⟩
end Go.Proofs.Ytjcakokhfjlihaa

/-
  Layer 5's laws, walked: PolyAdds.
-/
import Derived.Test.YtjcakokhfjlihaaL05C
namespace Go.Proofs.Ytjcakokhfjlihaa
open Go.RowKit

theorem tag_parts (r s t : List UInt8) (hr : r.length = 16) : tagL (r ++ s) t = leN (wholeN (leV (clampL r)) t + leV s) 16 := by
  unfold tagL keyR keyS
  rw [List.take_left' hr, List.drop_left' hr]
theorem leV_zeros (n : Nat) : leV (List.replicate n 0) = 0 := by
  induction n with
  | zero => rfl
  | succ n ih => rw [List.replicate_succ, show (0 : UInt8) :: List.replicate n 0 = [0] ++ List.replicate n 0 from rfl, leV_append, ih]; rfl
theorem leN_add_mod (a b n : Nat) : leN (a % 256 ^ n + b) n = leN (a + b) n := by
  rw [← leN_mod, ← leN_mod (a + b), Nat.mod_add_mod]
theorem clamp_zeros : clampL (List.replicate 16 0) = List.replicate 16 0 := by decide
theorem accN_zero (t : List UInt8) (j : Nat) : accN 0 t j = 0 := by
  induction j with
  | zero => rfl
  | succ j ih => rw [accN, ih]; unfold stepN; rw [Nat.mul_zero, Nat.zero_mod]
theorem wholeN_nil (r : Nat) : wholeN r [] = 0 := rfl
/-- The tag with an s of 0, and s added. -/
theorem adds_b (r s t : List UInt8) (hr : r.length = 16) : leN (leV (tagL (r ++ List.replicate 16 0) t) + leV s) 16 = tagL (r ++ s) t := by
  rw [tag_parts r _ t hr, tag_parts r s t hr, leV_zeros, leV_leN, Nat.add_zero, leN_add_mod]
theorem adds_c (r s m t : List UInt8) (hr : r.length = 16) : tagL (r ++ leN (leV s + leV m) 16) t = leN (leV (tagL (r ++ s) t) + leV m) 16 := by
  rw [tag_parts r _ t hr, tag_parts r s t hr, leV_leN, leV_leN, leN_add_mod, Nat.add_comm (wholeN _ _), leN_add_mod]
  congr 1
  omega
theorem adds_d (s t : List UInt8) (hs : s.length = 16) : tagL (List.replicate 16 0 ++ s) t = s := by
  rw [tag_parts _ s t (by simp), clamp_zeros, leV_zeros, wholeN, accN_zero, Nat.zero_add, ← hs, leN_leV]
theorem adds_n (r s : List UInt8) (hr : r.length = 16) (hs : s.length = 16) : tagL (r ++ s) [] = s := by
  rw [tag_parts r s [] hr, wholeN_nil, Nat.zero_add, ← hs, leN_leV]

def zeroS : ByteArray := ⟨(List.replicate 16 0).toArray⟩
theorem zeroS_is : Is zeroS (List.replicate 16 0) := Is.of _
theorem zeroS_size : zeroS.size = 16 := by rw [zeroS_is.size]; rfl
theorem zero_str (wx : World) : (convert 38 9 (.slice (some ⟨wx.heap.size, 0, none⟩) 16 16)).run Try.prog (wx.alloc (.cells (zerosB 16) 5)) = .ok (.string zeroS) (wx.alloc (.cells (zerosB 16) 5)) :=
  run_str (wx.alloc (.cells (zerosB 16) 5)) 38 5 Try.underlying38 Try.underlying5 9 Try.underlying9 wx.heap.size 16 16 _ _ _ (List.replicate 16 0) (RowAt.new wx _ _ _) (by simp) rfl

set_option maxRecDepth 100000 in
set_option maxHeartbeats 2000000 in
theorem PolyAdds_w (key : List UInt8) (lk : key.length = 32) (more : List UInt8) (lm : more.length = 16) (text : ByteArray) (w : World) :
    Calls Try.prog 12 #[.agg (cells key).toArray, .agg (cells more).toArray, .string text] w fun e w' => e = .returned (.bool true) ∧ Below w.heap.size w w' := by
  have hcz : (cells key).toArray.size = 32 := by simp [cells_length, lk]
  have hcm : (cells more).toArray.size = 16 := by simp [cells_length, lm]
  go_enter Try.func12, Try.ntmps12
  go_wp2_with fail
  refine (awake05 _).mono ?_
  rintro e w1 ⟨rfl, hb1⟩
  have RK := Lib.hid (((RowAt.new w (cells key).toArray 36 (0, 0)).alloc (.cells (cells more).toArray 55)).below hb1 (by simp <;> omega))
  have hrn2 := ((RowAt.new (w.alloc (.cells (cells key).toArray 36)) (cells more).toArray 55 (0, 0)).below hb1 (by simp))
  have zW : w.heap.size + 1 < w1.heap.size := by have := hb1.size; simp at this; omega
  have HB1 := Lib.hid (show Below w.heap.size w w1 from Below.trans (((Below.refl _ _).alloc (Nat.le_refl _) _).alloc (by simp) _) (hb1.mono (by simp; omega)))
  have HLK := Lib.hid lk
  have HLM := Lib.hid lm
  rw [show (w.alloc (.cells (cells key).toArray 36)).heap.size = w.heap.size + 1 by simp] at hrn2
  have RM := Lib.hid hrn2
  clear hb1 hrn2 hcz hcm
  rcases Nat.lt_or_ge 1024 text.size with ht | ht
  · clear lk lm
    go_wp2_with fail
    go_ret
    exact ⟨rfl, HB1.out⟩
  have hl1 : (key.take 16).length = 16 := by rw [List.length_take]; omega
  have hl2 : (key.drop 16).length = 16 := by rw [List.length_drop]; omega
  have hc1 := fun nq => run_str (P := Try.prog) (w1.drewN nq) 38 5 Try.underlying38 Try.underlying5 9 Try.underlying9 w.heap.size 16 32 _ _ _ (key.take 16) RK.out.out hl1 (by simp [cells, List.map_take])
  have hc2 := fun nq => run_str_at (P := Try.prog) (w1.drewN nq) 38 5 Try.underlying38 Try.underlying5 9 Try.underlying9 w.heap.size 16 16 16 (key.drop 16) hl2 (by
    intro i hi
    refine RowAt.cell (show RowAt (w1.drewN nq) _ _ _ _ from RK.out) ?_
    have h1 : 16 + i < key.length := by omega
    simp [cells, List.getD_eq_getElem?_getD, h1, u8c])
  clear lk lm
  have HLR := Lib.hid hl1
  have HLS := Lib.hid hl2
  clear hl1 hl2
  go_wp2_with fail
  go_quiet (fail)
  clear hc1 hc2 RK
  have HBM := Lib.hid (show ∀ w', Below w1.heap.size w1 w' → (convert 38 9 (.slice (some ⟨w.heap.size + 1, 0, none⟩) 16 16)).run Try.prog w' = .ok (.string ⟨more.toArray⟩) w' from
    fun w' hb => run_str w' 38 5 Try.underlying38 Try.underlying5 9 Try.underlying9 (w.heap.size + 1) 16 16 _ _ _ more (RM.out.below hb zW).out HLM.out (by rw [← HLM.out]; exact List.take_of_length_le (by rw [cells_length]; exact Nat.le_refl _)))
  clear RM
  have hR := Is.of (key.take 16)
  have hS := Is.of (key.drop 16)
  have hM := Is.of more
  generalize ByteArray.mk (key.take 16).toArray = R at hR ⊢
  generalize ByteArray.mk (key.drop 16).toArray = S at hS ⊢
  generalize ByteArray.mk more.toArray = M at hM HBM
  have HRZ := Lib.hid (show R.size = 16 by rw [hR.size]; exact HLR.out)
  have HSZ := Lib.hid (show S.size = 16 by rw [hS.size]; exact HLS.out)
  have HMZ := Lib.hid (show M.size = 16 by rw [hM.size]; exact HLM.out)
  have IR := Lib.hid hR
  have IS := Lib.hid hS
  have IM := Lib.hid hM
  have HB3 := Lib.hid (below_drewN HB1.out nq)
  have HC3 := Lib.hid (below_drewN (Below.refl w1.heap.size w1) nq)
  have hrz : R.size ≤ 16 := by rw [HRZ.out]; exact Nat.le_refl _
  have hsz : S.size ≤ 16 := by rw [HSZ.out]; exact Nat.le_refl _
  have hzz : zeroS.size ≤ 16 := by rw [zeroS_size]; exact Nat.le_refl _
  generalize w1.drewN nq = w3 at HB3 HC3 ⊢
  clear hR hS hM
  have hmk := make_16
  have hzs := zero_str
  go_wp2_with fail
  clear hmk hzs
  refine (Tag_is (R ++ zeroS) text (tagL (key.take 16 ++ List.replicate 16 0) text.data.toList) (by rw [ByteArray.size_append, HRZ.out, zeroS_size]) (by omega) (by rw [(IR.out.append zeroS_is).out]) _).mono ?_
  rintro e w4 ⟨ra, rfl, hra, hb4⟩
  have HB4 := Lib.hid (bthen (bthen HB3.out ((Below.refl _ _).alloc (Nat.le_refl _) _)) hb4)
  have HC4 := Lib.hid (bthen (bthen HC3.out ((Below.refl _ _).alloc (Nat.le_refl _) _)) hb4)
  have HRA := Lib.hid hra
  clear hra hb4
  go_wp2_with fail
  refine (Tag_is (R ++ S) text (tagL (key.take 16 ++ key.drop 16) text.data.toList) (by rw [ByteArray.size_append, HRZ.out, HSZ.out]) (by omega) (by rw [(IR.out.append IS.out).out]) _).mono ?_
  rintro e w5 ⟨rb, rfl, hrb, hb5⟩
  have HB5 := Lib.hid (bthen HB4.out hb5)
  have HC5 := Lib.hid (bthen HC4.out hb5)
  have HRB := Lib.hid hrb
  clear hrb hb5
  have hm5 := HBM.out w5 HC5.out
  go_wp2_with fail
  clear hm5
  refine (Sum_walk S M (by omega) (by rw [HMZ.out]; omega) _).mono ?_
  rintro e w6 ⟨sm, rfl, hsm, hb6⟩
  rw [IS.out.out, IM.out.out] at hsm
  have HB6 := Lib.hid (bthen HB5.out hb6)
  have HC6 := Lib.hid (bthen HC5.out hb6)
  have HSMZ := Lib.hid (show sm.size = 16 by rw [hsm.size, leN_length])
  have HSM := Lib.hid hsm
  have hsmz : sm.size ≤ 16 := by rw [HSMZ.out]; exact Nat.le_refl _
  clear hsm hb6
  go_wp2_with fail
  refine (Tag_is (R ++ sm) text (leN (leV (tagL (key.take 16 ++ key.drop 16) text.data.toList) + leV more) 16) (by rw [ByteArray.size_append, HRZ.out, HSMZ.out]) (by omega) (by
    rw [(IR.out.append HSM.out).out, adds_c _ _ _ _ HLR.out]) _).mono ?_
  rintro e w7 ⟨rc, rfl, hrc, hb7⟩
  have HB7 := Lib.hid (bthen HB6.out hb7)
  have HC7 := Lib.hid (bthen HC6.out hb7)
  have HRC := Lib.hid hrc
  clear hrc hb7
  go_wp2_with fail
  refine (Tag_is (zeroS ++ S) text (key.drop 16) (by rw [ByteArray.size_append, zeroS_size, HSZ.out]) (by omega) (by
    rw [(zeroS_is.append IS.out).out, adds_d _ _ HLS.out]) _).mono ?_
  rintro e w8 ⟨rd, rfl, hrd, hb8⟩
  have HB8 := Lib.hid (bthen HB7.out hb8)
  have HC8 := Lib.hid (bthen HC7.out hb8)
  have q3 : seq rd S = true := seq_is hrd IS.out
  clear hrd hb8
  go_wp2_with fail
  refine (Tag_is (R ++ S) ByteArray.empty (key.drop 16) (by rw [ByteArray.size_append, HRZ.out, HSZ.out]) (by simp) (by
    rw [(IR.out.append IS.out).out, Is.empty.out, adds_n _ _ HLR.out HLS.out]) _).mono ?_
  rintro e w9 ⟨rn, rfl, hrn, hb9⟩
  have HB9 := Lib.hid (bthen HB8.out hb9)
  have HC9 := Lib.hid (bthen HC8.out hb9)
  have q4 : seq rn S = true := seq_is hrn IS.out
  clear hrn hb9
  go_wp2_with fail
  refine (Sum_walk ra S (by rw [HRA.out.size, tagL_length]; omega) (by omega) _).mono ?_
  rintro e w10 ⟨sa, rfl, hsa, hb10⟩
  rw [HRA.out.out, IS.out.out, adds_b _ _ _ HLR.out] at hsa
  have HB10 := Lib.hid (bthen HB9.out hb10)
  have HC10 := Lib.hid (bthen HC9.out hb10)
  have q1 : seq rb sa = true := seq_is HRB.out hsa
  clear hsa hb10
  have hm10 := HBM.out w10 HC10.out
  go_wp2_with fail
  clear hm10
  refine (Sum_walk rb M (by rw [HRB.out.size, tagL_length]; omega) (by rw [HMZ.out]; omega) _).mono ?_
  rintro e w11 ⟨sb, rfl, hsb, hb11⟩
  rw [HRB.out.out, IM.out.out] at hsb
  have HB11 := Lib.hid (bthen HB10.out hb11)
  have q2 : seq rc sb = true := seq_is HRC.out hsb
  clear hsb hb11
  go_wp2_with fail
  go_ret
  exact ⟨rfl, HB11.out⟩
end Go.Proofs.Ytjcakokhfjlihaa

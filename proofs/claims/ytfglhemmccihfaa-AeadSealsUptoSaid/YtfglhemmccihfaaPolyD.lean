/-
  Layer 5, the program's package poly: Clamp, step, New.
-/
import Derived.Test.YtfglhemmccihfaaPolyC
import Derived.Test.YtfglhemmccihfaaRegTab
import Derived.Test.YtfglhemmccihfaaOnly
namespace Go.Proofs.Ytfglhemmccihfaa
open Go.RowKit

theorem and15 (b : UInt8) : b.toBitVec &&& 15#8 = (b &&& 15).toBitVec := rfl
theorem and252 (b : UInt8) : b.toBitVec &&& 252#8 = (b &&& 252).toBitVec := rfl
set_option maxHeartbeats 1000000 in
theorem Clamp_ok (s : ByteArray) (h : s.size = 16) (w : World) :
    Calls Try.prog 92 #[.string s] w fun e w' => ∃ r, e = .returned (.tuple #[.string r, .int .i64 0]) ∧ Is r (clampL s.data.toList) ∧ Below w.heap.size w w' := by
  have hcv := run_bytes_of_string (P := Try.prog) w 9 32 5 s Try.underlying9 Try.underlying32 Try.underlying5
  have hrow0 := (RowAt.new w (bytesRow s (grownCap w s.size 0 5)) 5 ((bytesRow s (grownCap w s.size 0 5)).size, (bytesRow s (grownCap w s.size 0 5)).size + 1)).drew
  have ht0 := bytesRow_take s (grownCap w s.size 0 5)
  have hs0 := bytesRow_size s (grownCap w s.size 0 5)
  generalize grownCap w s.size 0 5 = cap at hcv hrow0 ht0 hs0
  generalize bytesRow s cap = row at hcv hrow0 ht0 hs0
  have hla : s.data.toList.length = 16 := by rw [Array.length_toList]; exact h
  have hne : ((s.size : Int) != 16) = false := by simp [h]
  rw [h] at hcv ht0 hs0
  have H := Lib.hid h
  have HA := Lib.hid hla
  have HT := Lib.hid ht0
  have HF := Lib.hid (show clampL s.data.toList = clampK s.data.toList 16 by unfold clampL; rw [hla])
  clear h hla ht0
  go_enter Try.func92, Try.ntmps92
  go_wp2_with fail
  clear hcv hne
  go_loopw [13] (fun i wr => ∃ k : Nat, k ≤ 16 ∧ i = .int .i64 k ∧ (∃ cs : Array Value, cs.size = row.size ∧ cs.toList.take 16 = cells (clampK s.data.toList k) ∧ RowAt wr w.heap.size cs 5 (row.size, row.size + 1)) ∧ Below w.heap.size w wr) (fun i _ => 16 - (intOf i).toNat)
  case atStart => exact ⟨0, Nat.zero_le _, rfl, ⟨row, rfl, by rw [clampK_zero, HT.out], hrow0⟩, ((Below.refl _ _).alloc (Nat.le_refl _) _).drew⟩
  case round =>
    clear hrow0
    obtain ⟨k, hk, rfl, ⟨cs, hcs, hct, hrow⟩, hbel⟩ := hrel
    have HC := Lib.hid hcs
    have HT2 := Lib.hid hct
    have HR := Lib.hid hrow
    have HB := Lib.hid hbel
    clear hcs hct hrow hbel
    rcases Nat.lt_or_ge k 16 with hlt | hge
    · have c1 := HR.out.cell (take_cell HT2.out (i := k) (by rw [clampK_length, HA.out]; exact hlt) hlt)
      rw [clampK_get, if_neg (Nat.lt_irrefl k)] at c1
      have HST := Lib.hid (clampK_step s.data.toList k)
      have HSA := Lib.hid (clampK_same s.data.toList k)
      have f1 := HR.out.free (i := k) (by simp; omega)
      have hm0 : (0 : Int) ≤ (k : Int) % 4 := by omega
      clear hs0
      generalize hbk : s.data.toList.getD k 0 = bk at c1 HST HSA
      clear hbk
      by_cases k3 : k % 4 = 3
      · have e3 : ((k : Int) % 4 == 3) = true := by rw [beq_iff_eq]; omega
        have HV := Lib.hid (show clampB k bk = bk &&& 15 by unfold clampB; rw [if_pos k3])
        clear k3
        go_wp2_with fail
        go_roundw
        case rel =>
          refine ⟨k + 1, by omega, by go_num, ⟨cs.setIfInBounds k (u8c (clampB k bk)), by rw [Array.size_setIfInBounds, HC.out], by rw [take_set HT2.out, HST.out], ?_⟩, HB.out.setCell (p := ⟨_, _, _⟩) (Nat.le_refl _) _⟩
          rw [HV.out]
          exact HR.out.store k (u8c (bk &&& 15))
        case measure => simp [intOf]; omega
      · have e3 : ((k : Int) % 4 == 3) = false := by rw [beq_eq_false_iff_ne]; omega
        by_cases k0 : k % 4 = 0
        · have e0 : ((k : Int) % 4 == 0) = true := by rw [beq_iff_eq]; omega
          by_cases kp : 0 < k
          · have ep : decide ((0 : Int) < (k : Int)) = true := decide_eq_true (by omega)
            have HV := Lib.hid (show clampB k bk = bk &&& 252 by unfold clampB; rw [if_neg k3, if_pos ⟨k0, kp⟩])
            clear k3 k0
            go_wp2_with fail
            go_roundw
            case rel =>
              refine ⟨k + 1, by omega, by go_num, ⟨cs.setIfInBounds k (u8c (clampB k bk)), by rw [Array.size_setIfInBounds, HC.out], by rw [take_set HT2.out, HST.out], ?_⟩, HB.out.setCell (p := ⟨_, _, _⟩) (Nat.le_refl _) _⟩
              rw [HV.out]
              exact HR.out.store k (u8c (bk &&& 252))
            case measure => simp [intOf]; omega
          · obtain rfl : k = 0 := by omega
            have HV := Lib.hid (show clampB 0 bk = bk from rfl)
            clear k3 k0 e3 e0
            go_wp2_with fail
            go_roundw
            case rel => exact ⟨1, by omega, by go_num, ⟨cs, HC.out, by rw [HSA.out HV.out]; exact HT2.out, HR.out⟩, HB.out⟩
            case measure => simp [intOf]
        · have e0 : ((k : Int) % 4 == 0) = false := by rw [beq_eq_false_iff_ne]; omega
          have HV := Lib.hid (show clampB k bk = bk by unfold clampB; rw [if_neg k3, if_neg (fun h => k0 h.1)])
          clear k3 k0
          go_wp2_with fail
          go_roundw
          case rel => exact ⟨k + 1, by omega, by go_num, ⟨cs, HC.out, by rw [HSA.out HV.out]; exact HT2.out, HR.out⟩, HB.out⟩
          case measure => simp [intOf]; omega
    · obtain rfl : k = 16 := by omega
      have hst := run_str (P := Try.prog) wr 32 5 Try.underlying32 Try.underlying5 9 Try.underlying9 w.heap.size 16 cap _ 5 _ _ HR.out (by rw [clampK_length, HA.out]) HT2.out
      go_wp2_with fail
      go_ret2
      exact ⟨_, rfl, by rw [HF.out]; exact Is.of _, HB.out⟩
set_option maxHeartbeats 400000 in
theorem Clamp_no (s : ByteArray) (h : s.size ≠ 16) (w : World) :
    Calls Try.prog 92 #[.string s] w fun e w' => e = .returned (.tuple #[.string ByteArray.empty, .int .i64 5]) ∧ w = w' := by
  have hne : ((s.size : Int) != 16) = true := by simp; omega
  clear h
  go_enter Try.func92, Try.ntmps92
  go_wp2_with fail
  go_ret2
  exact ⟨rfl, rfl⟩

/-! ### A Poly -/
def polyL (r s a : List (BitVec 64)) (rest : ByteArray) : List Value := d64 r ++ d64 s ++ d64 a ++ [.string rest]
/-- Block b is a Poly. -/
def PolyIs (w : World) (b : Nat) (r s a : List (BitVec 64)) (rest : ByteArray) : Prop := r.length = 5 ∧ s.length = 5 ∧ a.length = 5 ∧ RowAt w b (polyL r s a rest).toArray 124 (0, 0)
section
variable {w w' : World} {b : Nat} {r s a : List (BitVec 64)} {rest : ByteArray}
theorem PolyIs.lt (h : PolyIs w b r s a rest) : b < w.heap.size := h.2.2.2.lt
theorem PolyIs.below {B : Nat} (h : PolyIs w b r s a rest) (hb : Below B w w') (hB : b < B) : PolyIs w' b r s a rest := ⟨h.1, h.2.1, h.2.2.1, h.2.2.2.below hb hB⟩
theorem PolyIs.drew (h : PolyIs w b r s a rest) : PolyIs w.drew b r s a rest := h
theorem PolyIs.r_mid (h : PolyIs w b r s a rest) : w.rangeAt b 0 (d64 r) := by
  obtain ⟨_, _, _, hw⟩ := h
  unfold polyL at hw
  exact RowAt.mid (xs := []) (by simpa using hw)
theorem PolyIs.s_mid (h : PolyIs w b r s a rest) : w.rangeAt b 5 (d64 s) := by
  obtain ⟨hr, _, _, hw⟩ := h
  unfold polyL at hw
  have := RowAt.mid (xs := d64 r) (cs := d64 s) (ys := d64 a ++ [.string rest]) (by simpa using hw)
  rwa [d64_length, hr] at this
theorem PolyIs.a_mid (h : PolyIs w b r s a rest) : w.rangeAt b 10 (d64 a) := by
  obtain ⟨hr, hs, _, hw⟩ := h
  unfold polyL at hw
  have := RowAt.mid (xs := d64 r ++ d64 s) (cs := d64 a) (ys := [.string rest]) (by simpa using hw)
  rwa [List.length_append, d64_length, d64_length, hr, hs] at this
theorem PolyIs.rest_cell (h : PolyIs w b r s a rest) : w.cell? ⟨b, 15, none⟩ = some (.string rest) := by
  obtain ⟨hr, hs, ha, hw⟩ := h
  refine RowAt.cell hw (i := 15) ?_
  unfold polyL
  rw [List.getElem?_toArray, List.getElem?_append_right (by simp [d64_length, hr, hs, ha])]
  simp [d64_length, hr, hs, ha]
theorem PolyIs.free (h : PolyIs w b r s a rest) (i : Nat) : w.frozen? ⟨b, i, none⟩ = false := h.2.2.2.free (by simp)
theorem PolyIs.setRest (h : PolyIs w b r s a rest) (t : ByteArray) : PolyIs (w.setCell ⟨b, 15, none⟩ (.string t)) b r s a t := by
  obtain ⟨hr, hs, ha, hw⟩ := h
  refine ⟨hr, hs, ha, ?_⟩
  have := RowAt.store hw 15 (.string t)
  unfold polyL at this ⊢
  rw [List.setIfInBounds_toArray, List.set_append_right _ _ (by simp [d64_length, hr, hs, ha])] at this
  simpa [d64_length, hr, hs, ha] using this
theorem PolyIs.setA (h : PolyIs w b r s a rest) (q : List (BitVec 64)) (hq : q.length = 5) : PolyIs (w.setCells b 10 (d64 q)) b r s q rest := by
  obtain ⟨hr, hs, ha, hw⟩ := h
  refine ⟨hr, hs, hq, ?_⟩
  unfold polyL at hw ⊢
  have := RowAt.setMid (d64 q) w (d64 r ++ d64 s) (d64 a) [.string rest] (by simp [d64_length, ha, hq]) (by simpa using hw)
  rw [List.length_append, d64_length, d64_length, hr, hs] at this
  simpa using this
theorem PolyIs.a_there (h : PolyIs w b r s a rest) : w.there b 10 5 := RowAt.there h.2.2.2 10 5 (by simp [polyL, d64_length, h.1, h.2.1, h.2.2.1])
end
theorem num_info' (l : List (BitVec 64)) (h : l.length = 5) : (Try.prog.info? 121).map (·.size) = some (d64 l).length := by
  rw [d64_length, h]; exact num_size

set_option maxRecDepth 100000 in
set_option maxHeartbeats 4000000 in
theorem step_walk (b : Nat) (rl sl al0 al : List (BitVec 64)) (rest s : ByteArray) (w : World) (hal : al.length = 5) (hp : PolyIs w b rl sl al0 rest) (hs16 : s.size ≤ 16) :
    Calls Try.prog 94 #[.pointer (some ⟨b, 0, none⟩), .agg (d64 al).toArray, .string s] w fun e w' => e = .returned (.agg (d64 (stepL al rl s.data.toList)).toArray) ∧ Below w.heap.size w w' := by
  have HAL := Lib.hid hal
  have HP := Lib.hid hp
  have hz := d64_size al hal
  have hblt := hp.lt
  clear hal hp
  go_enter Try.func94, Try.ntmps94
  go_upto_region 1 with fail
  clear hz
  have hn0 := (NumAt.new w al).alloc (.cells (d64 zeroL).toArray 121)
  have hr0 := NumAt.new (w.alloc (.cells (d64 al).toArray 121)) zeroL
  rw [show (w.alloc (.cells (d64 al).toArray 121)).heap.size = w.heap.size + 1 by simp] at hr0
  have hb0 : Below w.heap.size w ((w.alloc (.cells (d64 al).toArray 121)).alloc (.cells (d64 zeroL).toArray 121)) := ((Below.refl _ _).alloc (Nat.le_refl _) _).alloc (by simp) _
  change Code.wp _ _ _ _ ((w.alloc (.cells (d64 al).toArray 121)).alloc (.cells (d64 zeroL).toArray 121))
  generalize (w.alloc (.cells (d64 al).toArray 121)).alloc (.cells (d64 zeroL).toArray 121) = w1 at hn0 hr0 hb0 ⊢
  have HN := Lib.hid hn0
  have HR := Lib.hid hr0
  have HB := Lib.hid hb0
  clear hn0 hr0 hb0
  refine region_table (by kernel_rfl) [7, 8, 9, 10, 11, 12, 13, 14, 15, 16]
    (fun i x => match i with
      | 0 => x = .agg (d64 al).toArray
      | 1 => x = .string s
      | 2 => ∃ t, x = .string t ∧ Is t (s.data.toList ++ [1])
      | 3 => x = .agg (d64 (readL (s.data.toList ++ [1]))).toArray
      | 4 => x = .agg (d64 (plusL al (readL (s.data.toList ++ [1])))).toArray
      | 5 => x = .pointer (some ⟨b, 0, none⟩)
      | 6 => x = .pointer (some ⟨b, 0, none⟩)
      | 7 => x = .pointer (some ⟨b, 0, none⟩)
      | 8 => x = .agg (d64 rl).toArray
      | 9 => x = .agg (d64 (stepL al rl s.data.toList)).toArray
      | _ => True) (fun L _ w' => Below w.heap.size w w' ∧ NumAt w' w.heap.size al ∧ NumAt w' (w.heap.size + 1) (if L 10 = true then stepL al rl s.data.toList else zeroL)) (by kernel_rfl) (by kernel_rfl) rfl (by kernel_rfl) (⟨HB.out.drew, HN.out.drew, HR.out.drew⟩) ?_ ?_
  · refine StepsOk.cons ?_ (StepsOk.cons ?_ (StepsOk.cons ?_ (StepsOk.cons ?_ (StepsOk.cons ?_ (StepsOk.cons ?_ (StepsOk.cons ?_ (StepsOk.cons ?_ (StepsOk.cons ?_ (StepsOk.cons ?_ (StepsOk.cons ?_ StepsOk.nil))))))))))
    · intro L a w4 Kx hl hsz hs ht hr he hK
      refine step_plain rfl ?_
      have h4 : a.tmps.getD 4 undef = .pointer (some ⟨w.heap.size, 0, none⟩) := (hs 4 (by decide)).trans rfl
      refine wp_load_row 121 _ rfl w.heap.size h4 121 _ (0, 0) _ hr.2.1.out.out Try.underlying121 rfl (num_info _ HAL.out) (hK _ _ rfl (by simpa using hr))
    · intro L a w4 Kx hl hsz hs ht hr he hK
      refine step_plain rfl ?_
      have h2 : a.tmps.getD 2 undef = .string s := (hs 2 (by decide)).trans rfl
      go_simp
      exact hK _ _ rfl (by simpa using hr)
    · intro L a w4 Kx hl hsz hs ht hr he hK
      refine step_plain rfl ?_
      have h8 : a.tmps.getD 8 undef = .string s := ht 1 (he 1 (by kernel_rfl)) 8 rfl
      have hov : ¬ 9223372036854775807 < s.size + 1 := by omega
      go_simp
      exact hK _ _ ⟨_, rfl, (Is.self s).append (Is.of [1])⟩ (by simpa using hr)
    · intro L a w4 Kx hl hsz hs ht hr he hK
      refine step_plain rfl ?_
      obtain ⟨t2, h9, i2⟩ : ∃ t, a.tmps.getD 9 undef = .string t ∧ Is t (s.data.toList ++ [1]) := ht 2 (he 2 (by kernel_rfl)) 9 rfl
      have z2 : t2.size ≤ 17 := by rw [i2.size]; simp; exact hs16
      go_simp
      have hw := read_walk t2 z2 w4
      rw [i2.out] at hw
      refine hw.mono ?_
      rintro e w5 ⟨rfl, hb5⟩
      exact hK _ _ rfl (by simpa using (show Below w.heap.size w w5 ∧ NumAt w5 w.heap.size al ∧ NumAt w5 (w.heap.size + 1) (if L 10 = true then stepL al rl s.data.toList else zeroL) from ⟨hr.1.trans (hb5.mono hr.1.size), hr.2.1.below hb5 hr.2.1.lt, hr.2.2.below hb5 hr.2.2.lt⟩))
    · intro L a w4 Kx hl hsz hs ht hr he hK
      refine step_plain rfl ?_
      have h7 : a.tmps.getD 7 undef = .agg (d64 al).toArray := ht 0 (he 0 (by kernel_rfl)) 7 rfl
      have h10 : a.tmps.getD 10 undef = .agg (d64 (readL (s.data.toList ++ [1]))).toArray := ht 3 (he 3 (by kernel_rfl)) 10 rfl
      go_simp
      refine (plus_walk al (readL (s.data.toList ++ [1])) HAL.out (readL_length _) _).mono ?_
      rintro e w5 ⟨rfl, hb5⟩
      exact hK _ _ rfl (by simpa using (show Below w.heap.size w w5 ∧ NumAt w5 w.heap.size al ∧ NumAt w5 (w.heap.size + 1) (if L 10 = true then stepL al rl s.data.toList else zeroL) from ⟨hr.1.trans (hb5.mono hr.1.size), hr.2.1.below hb5 hr.2.1.lt, hr.2.2.below hb5 hr.2.2.lt⟩))
    · intro L a w4 Kx hl hsz hs ht hr he hK
      refine step_plain rfl ?_
      have h0 : a.tmps.getD 0 undef = .pointer (some ⟨b, 0, none⟩) := (hs 0 (by decide)).trans rfl
      go_simp
      exact hK _ _ rfl (by simpa using hr)
    · intro L a w4 Kx hl hsz hs ht hr he hK
      refine step_plain rfl ?_
      have h12 : a.tmps.getD 12 undef = .pointer (some ⟨b, 0, none⟩) := ht 5 (he 5 (by kernel_rfl)) 12 rfl
      go_simp
      exact hK _ _ rfl (by simpa using hr)
    · intro L a w4 Kx hl hsz hs ht hr he hK
      refine step_plain rfl ?_
      have h13 : a.tmps.getD 13 undef = .pointer (some ⟨b, 0, none⟩) := ht 6 (he 6 (by kernel_rfl)) 13 rfl
      go_simp
      exact hK _ _ rfl (by simpa using hr)
    · intro L a w4 Kx hl hsz hs ht hr he hK
      refine step_plain rfl ?_
      have h14 : a.tmps.getD 14 undef = .pointer (some ⟨b, 0, none⟩) := ht 7 (he 7 (by kernel_rfl)) 14 rfl
      refine wp_load_mid 121 _ rfl b 0 h14 (d64 rl) _ ((HP.out.below hr.1 hblt).r_mid) Try.underlying121 rfl (num_info' _ HP.out.1) (hK _ _ rfl (by simpa using hr))
    · intro L a w4 Kx hl hsz hs ht hr he hK
      refine step_plain rfl ?_
      have h11 : a.tmps.getD 11 undef = .agg (d64 (plusL al (readL (s.data.toList ++ [1])))).toArray := ht 4 (he 4 (by kernel_rfl)) 11 rfl
      have h15 : a.tmps.getD 15 undef = .agg (d64 rl).toArray := ht 8 (he 8 (by kernel_rfl)) 15 rfl
      go_simp
      refine (times_walk (plusL al (readL (s.data.toList ++ [1]))) rl ((plusL_length _ _).trans HAL.out) HP.out.1 _).mono ?_
      rintro e w5 ⟨rfl, hb5⟩
      exact hK _ _ rfl (by simpa using (show Below w.heap.size w w5 ∧ NumAt w5 w.heap.size al ∧ NumAt w5 (w.heap.size + 1) (if L 10 = true then stepL al rl s.data.toList else zeroL) from ⟨hr.1.trans (hb5.mono hr.1.size), hr.2.1.below hb5 hr.2.1.lt, hr.2.2.below hb5 hr.2.2.lt⟩))
    · intro L a w4 Kx hl hsz hs ht hr he hK
      refine step_plain rfl ?_
      have h16 : a.tmps.getD 16 undef = .agg (d64 (stepL al rl s.data.toList)).toArray := ht 9 (he 9 (by kernel_rfl)) 16 rfl
      have h6 : a.tmps.getD 6 undef = .pointer (some ⟨w.heap.size + 1, 0, none⟩) := (hs 6 (by decide)).trans rfl
      have hr2 : NumAt w4 (w.heap.size + 1) zeroL := by have := hr.2.2; rwa [hl] at this
      refine wp_store_row 121 _ _ rfl (w.heap.size + 1) (d64 (stepL al rl s.data.toList)).toArray h6 h16 121 _ hr2.out.out (num_info _ (stepL_length _ _ _)) (num_same _ _ (stepL_length _ _ _) rfl) (d64_cells _) (hK _ _ trivial ?_)
      refine ⟨Go.Proofs.Ytfglhemmccihfaa.Below.setRow hr.1 (by omega) _, RowAt.setOther hr.2.1.out (by omega) _, ?_⟩
      show NumAt _ _ (if (L 10 || true) = true then _ else _)
      rw [Bool.or_true, if_pos rfl]
      exact hr2.out.setRow _
  · intro f L w4 hf hall hr
    have hr2 : NumAt w4 (w.heap.size + 1) (stepL al rl s.data.toList) := by have := hr.2.2; rwa [hall 10 (by decide), if_pos rfl] at this
    simp only [List.foldl, Act.put, List.setIfInBounds_toArray, List.set_cons_zero, List.set_cons_succ]
    have HR2 := Lib.hid hr2
    have HB2 := Lib.hid hr.1
    clear hf hall hr hr2
    go_wp2_with fail
    refine bodyPost_ret (v := .agg (d64 (stepL al rl s.data.toList)).toArray) (results_cell_row rfl _ _ (w.heap.size + 1) 121 (d64 (stepL al rl s.data.toList)).toArray (0, 0) _ (by kernel_rfl) HR2.out.out.out Try.underlying121 rfl (num_info _ (stepL_length _ _ _))) rfl ⟨rfl, HB2.out⟩

set_option maxRecDepth 100000 in
set_option maxHeartbeats 4000000 in
theorem New_ok (key : ByteArray) (hk : key.size = 32) (w : World) :
    Calls Try.prog 76 #[.string key] w fun e w' => ∃ b, e = .returned (.tuple #[.pointer (some ⟨b, 0, none⟩), .int .i64 0]) ∧ w.heap.size ≤ b ∧ PolyIs w' b (readL (clampL (key.data.toList.take 16))) (readL (key.data.toList.drop 16)) zeroL ⟨#[]⟩ ∧ Below w.heap.size w w' := by
  have hne : ((key.size : Int) != 32) = false := by simp [hk]
  have hk1 : 16 ≤ key.size := by omega
  have hk2 : key.size ≤ 32 := by omega
  have HK := Lib.hid hk
  have HX := Lib.hid (show Is (key.extract 0 16) (key.data.toList.take 16) from by have := (Is.self key).extract 0 16; rwa [List.drop_zero, Nat.sub_zero] at this)
  have HY := Lib.hid (show Is (key.extract 16 key.size) (key.data.toList.drop 16) from by
    have := (Is.self key).extract 16 key.size
    rwa [List.take_of_length_le (by rw [List.length_drop, Array.length_toList]; exact Nat.le_refl _)] at this)
  have hx16 : (key.extract 0 16).size = 16 := by rw [ByteArray.size_extract]; omega
  have hy16 : (key.extract 16 key.size).size ≤ 17 := by rw [ByteArray.size_extract]; omega
  have HXZ := Lib.hid hx16
  clear hk hx16
  go_enter Try.func76, Try.ntmps76
  go_wp2_with fail
  refine (Clamp_ok _ HXZ.out _).mono ?_
  rintro e w1 ⟨c, rfl, hc, hb1⟩
  rw [HX.out.out] at hc
  have hcz : c.size ≤ 17 := by rw [hc.size, clampL_length, List.length_take]; omega
  have HC := Lib.hid hc
  have HB1 := Lib.hid hb1
  clear hc hb1
  go_wp2_with fail
  have hrl : (readL (clampL (key.data.toList.take 16))).length = 5 := readL_length _
  have hsl : (readL (key.data.toList.drop 16)).length = 5 := readL_length _
  have hrd := read_walk c hcz
  rw [HC.out.out] at hrd
  have hsd := read_walk (key.extract 16 key.size) hy16
  rw [HY.out.out] at hsd
  generalize hrq : readL (clampL (key.data.toList.take 16)) = rl at hrl hrd
  generalize hsq : readL (key.data.toList.drop 16) = sl at hsl hsd
  obtain ⟨r0, r1, r2, r3, r4, rfl⟩ := five rl hrl
  obtain ⟨s0, s1, s2, s3, s4, rfl⟩ := five sl hsl
  have HRD := Lib.hid hrd
  have HSD := Lib.hid hsd
  have HRQ := Lib.hid hrq
  have HSQ := Lib.hid hsq
  clear hrd hsd hrl hsl hrq hsq
  refine region_table (by kernel_rfl) [18, 19, 20, 21, 22, 23, 24, 2, 3]
    (fun i x => match i with
      | 0 => x = .string c
      | 1 => x = .agg (d64 [r0, r1, r2, r3, r4]).toArray
      | 2 => x = .string key
      | 3 => x = .string (key.extract 16 key.size)
      | 4 => x = .agg (d64 [s0, s1, s2, s3, s4]).toArray
      | 5 => x = .agg (polyL [r0, r1, r2, r3, r4] [s0, s1, s2, s3, s4] zeroL ⟨#[]⟩).toArray
      | 6 => ∃ g, x = .pointer (some ⟨g, 0, none⟩)
      | 7 => ∃ g, x = .pointer (some ⟨g, 0, none⟩)
      | 8 => x = .int .i64 0
      | _ => True) (fun L g w' => Below w.heap.size w w' ∧ (L 6 = true → ∃ n, g 24 = .pointer (some ⟨n, 0, none⟩) ∧ w.heap.size ≤ n ∧ RowAt w' n (polyL [r0, r1, r2, r3, r4] [s0, s1, s2, s3, s4] zeroL ⟨#[]⟩).toArray 124 (0, 0)) ∧ (L 7 = true → L 6 = true ∧ g 2 = g 24)) (by kernel_rfl) (by kernel_rfl) rfl (by kernel_rfl) (⟨HB1.out.drew, (fun h => by cases h), (fun h => by cases h)⟩) ?_ ?_
  · refine StepsOk.cons ?_ (StepsOk.cons ?_ (StepsOk.cons ?_ (StepsOk.cons ?_ (StepsOk.cons ?_ (StepsOk.cons ?_ (StepsOk.cons ?_ (StepsOk.cons ?_ (StepsOk.cons ?_ StepsOk.nil))))))))
    · intro L a w4 Kx hl hsz hs ht hr he hK
      refine step_plain rfl ?_
      have h4 : a.tmps.getD 4 undef = .string c := (hs 4 (by decide)).trans rfl
      go_simp
      exact hK _ _ rfl (by simpa [slot_ne] using hr)
    · intro L a w4 Kx hl hsz hs ht hr he hK
      refine step_plain rfl ?_
      have h18 : a.tmps.getD 18 undef = .string c := ht 0 (he 0 (by kernel_rfl)) 18 rfl
      go_simp
      refine (HRD.out w4).mono ?_
      rintro e w5 ⟨rfl, hb5⟩
      have hr5 : Below w.heap.size w w5 ∧ (L 6 = true → ∃ n, slot a 24 = .pointer (some ⟨n, 0, none⟩) ∧ w.heap.size ≤ n ∧ RowAt w5 n (polyL [r0, r1, r2, r3, r4] [s0, s1, s2, s3, s4] zeroL ⟨#[]⟩).toArray 124 (0, 0)) ∧ (L 7 = true → L 6 = true ∧ slot a 2 = slot a 24) :=
        ⟨hr.1.trans (hb5.mono hr.1.size), fun h => by obtain ⟨n, h1, h2, h3⟩ := hr.2.1 h; exact ⟨n, h1, h2, h3.below hb5 h3.lt⟩, hr.2.2⟩
      exact hK _ _ rfl (by simpa [slot_ne] using hr5)
    · intro L a w4 Kx hl hsz hs ht hr he hK
      refine step_plain rfl ?_
      have h0 : a.tmps.getD 0 undef = .string key := (hs 0 (by decide)).trans rfl
      go_simp
      exact hK _ _ rfl (by simpa [slot_ne] using hr)
    · intro L a w4 Kx hl hsz hs ht hr he hK
      refine step_plain rfl ?_
      have h20 : a.tmps.getD 20 undef = .string key := ht 2 (he 2 (by kernel_rfl)) 20 rfl
      have hk3 : (16 : Int) ≤ (key.size : Int) := by omega
      go_simp
      exact hK _ _ rfl (by simpa [slot_ne] using hr)
    · intro L a w4 Kx hl hsz hs ht hr he hK
      refine step_plain rfl ?_
      have h21 : a.tmps.getD 21 undef = .string (key.extract 16 key.size) := ht 3 (he 3 (by kernel_rfl)) 21 rfl
      go_simp
      refine (HSD.out w4).mono ?_
      rintro e w5 ⟨rfl, hb5⟩
      have hr5 : Below w.heap.size w w5 ∧ (L 6 = true → ∃ n, slot a 24 = .pointer (some ⟨n, 0, none⟩) ∧ w.heap.size ≤ n ∧ RowAt w5 n (polyL [r0, r1, r2, r3, r4] [s0, s1, s2, s3, s4] zeroL ⟨#[]⟩).toArray 124 (0, 0)) ∧ (L 7 = true → L 6 = true ∧ slot a 2 = slot a 24) :=
        ⟨hr.1.trans (hb5.mono hr.1.size), fun h => by obtain ⟨n, h1, h2, h3⟩ := hr.2.1 h; exact ⟨n, h1, h2, h3.below hb5 h3.lt⟩, hr.2.2⟩
      exact hK _ _ rfl (by simpa [slot_ne] using hr5)
    · intro L a w4 Kx hl hsz hs ht hr he hK
      refine step_plain rfl ?_
      have h19 : a.tmps.getD 19 undef = .agg (d64 [r0, r1, r2, r3, r4]).toArray := ht 1 (he 1 (by kernel_rfl)) 19 rfl
      have h22 : a.tmps.getD 22 undef = .agg (d64 [s0, s1, s2, s3, s4]).toArray := ht 4 (he 4 (by kernel_rfl)) 22 rfl
      have h19 : a.tmps.getD 19 undef = .agg #[.int .u64 (bvi r0), .int .u64 (bvi r1), .int .u64 (bvi r2), .int .u64 (bvi r3), .int .u64 (bvi r4)] := h19
      have h22 : a.tmps.getD 22 undef = .agg #[.int .u64 (bvi s0), .int .u64 (bvi s1), .int .u64 (bvi s2), .int .u64 (bvi s3), .int .u64 (bvi s4)] := h22
      refine wp_buildTo 124 _ rfl (polyL [r0, r1, r2, r3, r4] [s0, s1, s2, s3, s4] zeroL ⟨#[]⟩).toArray ?_ (hK _ _ rfl (by simpa [slot_ne] using hr))
      rw [Array.toList_map]
      show Try.prog.built _ [(0, a.tmps.getD 19 undef), (1, a.tmps.getD 22 undef)] = _
      rw [h19, h22]
      kernel_rfl
    · intro L a w4 Kx hl hsz hs ht hr he hK
      refine step_plain rfl ?_
      have h23 : a.tmps.getD 23 undef = .agg #[.int .u64 (bvi r0), .int .u64 (bvi r1), .int .u64 (bvi r2), .int .u64 (bvi r3), .int .u64 (bvi r4), .int .u64 (bvi s0), .int .u64 (bvi s1), .int .u64 (bvi s2), .int .u64 (bvi s3), .int .u64 (bvi s4), .int .u64 0, .int .u64 0, .int .u64 0, .int .u64 0, .int .u64 0, .string ⟨#[]⟩] := ht 5 (he 5 (by kernel_rfl)) 23 rfl
      have hx7 : L 7 = false := by
        cases hy : L 7 with
        | false => rfl
        | true => have := (hr.2.2 hy).1; rw [hl] at this; cases this
      go_simp
      refine hK _ _ ⟨_, rfl⟩ ⟨hr.1.alloc hr.1.size _, fun _ => ⟨_, slot_out (by rw [hsz]; exact of_decide_eq_true (by kernel_rfl)), hr.1.size, RowAt.new w4 _ _ _⟩, fun h => ?_⟩
      have h' : (L 7 || false) = true := h
      rw [hx7] at h'
      cases h'
    · intro L a w4 Kx hl hsz hs ht hr he hK
      refine step_plain rfl ?_
      obtain ⟨n, g24, n1, n2⟩ := hr.2.1 (he 6 (by kernel_rfl))
      have h24 : a.tmps.getD 24 undef = .pointer (some ⟨n, 0, none⟩) := g24
      have hl6 : L 6 = true := he 6 (by kernel_rfl)
      go_simp
      refine hK _ _ ⟨_, rfl⟩ ⟨hr.1, fun _ => ⟨n, ?_, n1, n2⟩, fun _ => ⟨?_, ?_⟩⟩
      · show slot (a.put (some 2) _) 24 = _
        rw [slot_ne _ _ _ _ (by decide)]; exact g24
      · show (L 6 || false) = true
        rw [hl6]; rfl
      · show slot (a.put (some 2) _) 2 = slot (a.put (some 2) _) 24
        rw [slot_ne a 2 24 _ (by decide), slot_out (by rw [hsz]; exact of_decide_eq_true (by kernel_rfl)), g24]
    · intro L a w4 Kx hl hsz hs ht hr he hK
      refine step_plain rfl ?_
      go_simp
      exact hK _ _ rfl (by simpa [slot_ne] using hr)
  · intro f L w4 hf hall hr
    obtain ⟨hb5, h6, h7⟩ := hr
    obtain ⟨n, g24, n1, n2⟩ := h6 (hall 6 (by decide))
    have g2 := (h7 (hall 7 (by decide))).2
    rw [g24] at g2
    have g3 : f 3 = .int .i64 0 := hf 8 (by decide) 3 rfl
    simp only [List.foldl, Act.put, List.setIfInBounds_toArray, List.set_cons_zero, List.set_cons_succ]
    rw [g2, g3]
    clear hf hall g24 g2 g3 h6 h7
    have HN2 := Lib.hid n2
    have HB5 := Lib.hid hb5
    clear n2 hb5
    go_wp2_with fail
    go_ret2
    exact ⟨n, rfl, n1, by rw [HRQ.out, HSQ.out]; exact ⟨rfl, rfl, rfl, HN2.out⟩, HB5.out⟩
set_option maxHeartbeats 400000 in
theorem New_no (key : ByteArray) (hk : key.size ≠ 32) (w : World) :
    Calls Try.prog 76 #[.string key] w fun e w' => e = .returned (.tuple #[.pointer none, .int .i64 5]) ∧ w = w' := by
  have hne : ((key.size : Int) != 32) = true := by simp; omega
  clear hk
  go_enter Try.func76, Try.ntmps76
  go_wp2_with fail
  go_ret2
  exact ⟨rfl, rfl⟩
end Go.Proofs.Ytfglhemmccihfaa

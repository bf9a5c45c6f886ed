/-
  Layer 5, the program's package poly: times, whole, bytes, read.
-/
import Derived.Test.YtfglhemmccihfaaPoly
namespace Go.Proofs.Ytfglhemmccihfaa
open Go.RowKit

theorem setRow_size (w : World) (g : Nat) (cs : Array Value) : (w.setRow g cs).heap.size = w.heap.size := by simp [World.setRow]
theorem set_getD_ne {α : Type} (l : List α) (i j : Nat) (x d : α) (h : i ≠ j) : (l.set i x).getD j d = l.getD j d := by
  simp [List.getD_eq_getElem?_getD, List.getElem?_set_ne h]
theorem bvi_eq_zero {n : Nat} (x : BitVec n) : (bvi x == 0) = decide (x = 0#n) := by
  rw [Bool.eq_iff_iff, beq_iff_eq, decide_eq_true_iff, ← bvi_inj]
  unfold bvi; simp
theorem nums4 (w : World) (l m : List (BitVec 64)) :
    NumAt ((((w.alloc (.cells (d64 l).toArray 121)).alloc (.cells (d64 m).toArray 121)).alloc (.cells (d64 zeroL).toArray 121)).alloc (.cells (d64 zeroL).toArray 121)) w.heap.size l ∧
    NumAt ((((w.alloc (.cells (d64 l).toArray 121)).alloc (.cells (d64 m).toArray 121)).alloc (.cells (d64 zeroL).toArray 121)).alloc (.cells (d64 zeroL).toArray 121)) (w.heap.size + 1) m ∧
    NumAt ((((w.alloc (.cells (d64 l).toArray 121)).alloc (.cells (d64 m).toArray 121)).alloc (.cells (d64 zeroL).toArray 121)).alloc (.cells (d64 zeroL).toArray 121)) (w.heap.size + 1 + 1) zeroL ∧
    NumAt ((((w.alloc (.cells (d64 l).toArray 121)).alloc (.cells (d64 m).toArray 121)).alloc (.cells (d64 zeroL).toArray 121)).alloc (.cells (d64 zeroL).toArray 121)) (w.heap.size + 1 + 1 + 1) zeroL ∧
    Below w.heap.size w ((((w.alloc (.cells (d64 l).toArray 121)).alloc (.cells (d64 m).toArray 121)).alloc (.cells (d64 zeroL).toArray 121)).alloc (.cells (d64 zeroL).toArray 121)) := by
  obtain ⟨h1, h2, h3, h4⟩ := nums3 w l m
  refine ⟨h1.alloc _, h2.alloc _, h3.alloc _, ?_, h4.alloc (by simp <;> omega) _⟩
  have := NumAt.new (((w.alloc (.cells (d64 l).toArray 121)).alloc (.cells (d64 m).toArray 121)).alloc (.cells (d64 zeroL).toArray 121)) zeroL
  rwa [show (((w.alloc (.cells (d64 l).toArray 121)).alloc (.cells (d64 m).toArray 121)).alloc (.cells (d64 zeroL).toArray 121)).heap.size = w.heap.size + 1 + 1 + 1 by simp] at this

set_option maxRecDepth 100000 in
set_option maxHeartbeats 2000000 in
theorem times_walk (l m : List (BitVec 64)) (hl : l.length = 5) (hm : m.length = 5) (w : World) :
    Calls Try.prog 110 #[.agg (d64 l).toArray, .agg (d64 m).toArray] w fun e w' => e = .returned (.agg (d64 (timesL l m)).toArray) ∧ Below w.heap.size w w' := by
  have HL := Lib.hid hl
  have HM := Lib.hid hm
  have hz := d64_size l hl
  have hz2 := d64_size m hm
  clear hl hm
  go_enter Try.func110, Try.ntmps110
  go_wp2_with fail
  clear hz hz2
  obtain ⟨hn, hn2, hr, ho, hb⟩ := nums4 w l m
  change Code.wp _ _ _ _ ((((w.alloc (.cells (d64 l).toArray 121)).alloc (.cells (d64 m).toArray 121)).alloc (.cells (d64 zeroL).toArray 121)).alloc (.cells (d64 zeroL).toArray 121))
  generalize (((w.alloc (.cells (d64 l).toArray 121)).alloc (.cells (d64 m).toArray 121)).alloc (.cells (d64 zeroL).toArray 121)).alloc (.cells (d64 zeroL).toArray 121) = w1 at hn hn2 hr ho hb ⊢
  have HN := Lib.hid hn
  have HN2 := Lib.hid hn2
  have HR := Lib.hid hr
  have HO := Lib.hid ho
  have HB := Lib.hid hb
  clear hn hn2 hr ho hb
  go_loopw [9] (fun i wr => ∃ k : Nat, k ≤ 5 ∧ i = .int .i64 k ∧ NumAt wr (w.heap.size + 1 + 1 + 1) (timesRow l m k) ∧ NumAt wr w.heap.size l ∧ NumAt wr (w.heap.size + 1) m ∧ NumAt wr (w.heap.size + 1 + 1) zeroL ∧ Below w.heap.size w wr) (fun i _ => 5 - (intOf i).toNat)
  case atStart => exact ⟨0, Nat.zero_le _, rfl, HO.out, HN.out, HN2.out, HR.out, HB.out⟩
  case round =>
    obtain ⟨k, hk, rfl, ho, hn, hn2, hr, hb⟩ := hrel
    have HN := Lib.hid hn
    have HN2 := Lib.hid hn2
    have HR := Lib.hid hr
    have HO := Lib.hid ho
    have HB := Lib.hid hb
    clear hn hn2 hr ho hb
    have HLK := Lib.hid (timesRow_length l m k)
    rcases Nat.lt_or_ge k 5 with hlt | hge
    · go_wp2_with fail
      generalize hG : timesRow l m k = G at HO HLK
      have HG := Lib.hid hG
      clear hG
      obtain ⟨wo, hwo⟩ : ∃ wo : World, wo = wr := ⟨_, rfl⟩
      subst hwo
      go_loopw [12] (fun i wx => ∃ j : Nat, j ≤ 5 ∧ i = .int .i64 j ∧ NumAt wx (w.heap.size + 1 + 1 + 1) (timesIn l m k G j) ∧ NumAt wx w.heap.size l ∧ NumAt wx (w.heap.size + 1) m ∧ NumAt wx (w.heap.size + 1 + 1) zeroL ∧ Below w.heap.size w wx) (fun i _ => 5 - (intOf i).toNat)
      case atStart => exact ⟨0, Nat.zero_le _, rfl, HO.out, HN.out, HN2.out, HR.out, HB.out⟩
      case round =>
        obtain ⟨j, hj, rfl, ho, hn, hn2, hr, hb⟩ := hrel
        have HN := Lib.hid hn
        have HN2 := Lib.hid hn2
        have HR := Lib.hid hr
        have HO := Lib.hid ho
        have HB := Lib.hid hb
        clear hn hn2 hr ho hb
        have HLI := Lib.hid ((timesIn_length l m k G j).trans HLK.out)
        rcases Nat.lt_or_ge j 5 with hlj | hgj
        · have c0 := HN.out.cell k (by rw [HL.out]; exact hlt)
          have c1 := HN2.out.cell j (by rw [HM.out]; exact hlj)
          have hm5 : (k + j) % 5 < 5 := Nat.mod_lt _ (by omega)
          have c2 := HO.out.cell ((k + j) % 5) (by rw [HLI.out]; exact hm5)
          have f2 := HO.out.free ((k + j) % 5)
          have hi : (((k : Int) + j) % 5).toNat = (k + j) % 5 := by omega
          have hi1 : (0 : Int) ≤ ((k : Int) + j) % 5 := by omega
          have hi2 : ((k : Int) + j) % 5 < 5 := by omega
          by_cases h5 : 5 ≤ k + j
          · have g5 : (5 : Int) ≤ (k : Int) + j := by omega
            go_wp2_with fail
            go_region
            go_wp2_with fail
            go_roundw
            case rel =>
              have hs := (HO.out.store ((k + j) % 5) ((timesIn l m k G j).getD ((k + j) % 5) 0 + partM l m k j)).drew
              rw [show partM l m k j = l.getD k 0 * m.getD j 0 * 5#64 from if_pos h5] at hs
              exact ⟨j + 1, by omega, by go_num, by rw [timesIn, show partM l m k j = l.getD k 0 * m.getD j 0 * 5#64 from if_pos h5]; exact hs, (HN.out.other (show w.heap.size + 1 + 1 + 1 ≠ w.heap.size by omega) _).drew, (HN2.out.other (show w.heap.size + 1 + 1 + 1 ≠ w.heap.size + 1 by omega) _).drew, (HR.out.other (show w.heap.size + 1 + 1 + 1 ≠ w.heap.size + 1 + 1 by omega) _).drew, (HB.out.setCell (show w.heap.size ≤ w.heap.size + 1 + 1 + 1 by omega) _).drew⟩
            case measure => simp [intOf]; omega
          · have g6 : decide ((5 : Int) ≤ (k : Int) + j) = false := decide_eq_false (by omega)
            go_wp2_with fail
            go_region
            go_wp2_with fail
            go_roundw
            case rel =>
              have hs := (HO.out.store ((k + j) % 5) ((timesIn l m k G j).getD ((k + j) % 5) 0 + partM l m k j)).drew
              rw [show partM l m k j = l.getD k 0 * m.getD j 0 from if_neg h5] at hs
              exact ⟨j + 1, by omega, by go_num, by rw [timesIn, show partM l m k j = l.getD k 0 * m.getD j 0 from if_neg h5]; exact hs, (HN.out.other (show w.heap.size + 1 + 1 + 1 ≠ w.heap.size by omega) _).drew, (HN2.out.other (show w.heap.size + 1 + 1 + 1 ≠ w.heap.size + 1 by omega) _).drew, (HR.out.other (show w.heap.size + 1 + 1 + 1 ≠ w.heap.size + 1 + 1 by omega) _).drew, (HB.out.setCell (show w.heap.size ≤ w.heap.size + 1 + 1 + 1 by omega) _).drew⟩
            case measure => simp [intOf]; omega
        · obtain rfl : j = 5 := by omega
          go_wp2_with fail
          go_roundw
          case rel =>
            exact ⟨k + 1, by omega, by go_num, by rw [timesRow, HG.out]; exact HO.out, HN.out, HN2.out, HR.out, HB.out⟩
          case measure => simp [intOf]; omega
    · obtain rfl : k = 5 := by omega
      go_wp2_with (with_reducible refine wpList_load_row rfl 121 (.tmp 5) rfl (w.heap.size + 1 + 1 + 1) ?h1 121 _ (0, 0) _ HO.out.out.out Try.underlying121 rfl ?h2 ?_)
      case h1 => rfl
      case h2 => exact num_info _ HLK.out
      go_wp2_with fail
      refine (carry_walk _ HLK.out _).mono ?_
      rintro e w2 ⟨rfl, hb2⟩
      have hr2 := HR.out.below hb2 HR.out.lt
      have hbw := HB.out.trans (hb2.mono HB.out.size)
      have HR2 := Lib.hid hr2
      have HB2 := Lib.hid hbw
      have hlc : (timesL l m).length = 5 := timesL_length l m
      have HLC := Lib.hid hlc
      clear hr2 hbw hlc hb2
      go_wp2_with (with_reducible refine wpList_store_rowTo rfl 121 (.tmp 4) (.tmp 40) rfl rfl (w.heap.size + 1 + 1) (d64 (timesL l m)).toArray ?h3 ?h4 121 _ HR2.out.out.out ?h5 ?h6 ?h7 ?_)
      case h3 => rfl
      case h4 => rfl
      case h5 => exact num_info _ HLC.out
      case h6 => exact num_same _ _ HLC.out rfl
      case h7 => exact d64_cells _
      go_wp2_with fail
      refine bodyPost_ret (v := .agg (d64 (timesL l m)).toArray) (results_cell_row rfl _ _ (w.heap.size + 1 + 1) 121 (d64 (timesL l m)).toArray (0, 0) _ (by kernel_rfl) (HR2.out.out.setRow _).out Try.underlying121 rfl (num_info _ HLC.out)) rfl ⟨rfl, Go.Proofs.Ytfglhemmccihfaa.Below.setRow HB2.out (by omega) _⟩

set_option maxRecDepth 100000 in
set_option maxHeartbeats 2000000 in
theorem whole_walk (l : List (BitVec 64)) (hl : l.length = 5) (w : World) :
    Calls Try.prog 95 #[.agg (d64 l).toArray] w fun e w' => e = .returned (.agg (d64 (wholeL l)).toArray) ∧ Below w.heap.size w w' := by
  have HL := Lib.hid hl
  have hz := d64_size l hl
  clear hl
  go_enter Try.func95, Try.ntmps95
  go_upto_region 1 with fail
  have hn0 := (NumAt.new w l).alloc (.cells (d64 zeroL).toArray 121)
  have hr0 := NumAt.new (w.alloc (.cells (d64 l).toArray 121)) zeroL
  rw [show (w.alloc (.cells (d64 l).toArray 121)).heap.size = w.heap.size + 1 by simp] at hr0
  have hb0 : Below w.heap.size w ((w.alloc (.cells (d64 l).toArray 121)).alloc (.cells (d64 zeroL).toArray 121)) := ((Below.refl _ _).alloc (Nat.le_refl _) _).alloc (by simp) _
  change Code.wp _ _ _ _ ((w.alloc (.cells (d64 l).toArray 121)).alloc (.cells (d64 zeroL).toArray 121))
  generalize (w.alloc (.cells (d64 l).toArray 121)).alloc (.cells (d64 zeroL).toArray 121) = w1 at hn0 hr0 hb0 ⊢
  go_wp2_with (with_reducible refine wpList_load_row rfl 121 (.tmp 1) rfl w.heap.size ?h1 121 _ (0, 0) _ hn0.out.out Try.underlying121 rfl ?h2 ?_)
  case h1 => rfl
  case h2 => exact num_info _ HL.out
  go_wp2_with fail
  refine (carry_walk _ HL.out _).mono ?_
  rintro e w2 ⟨rfl, hb2⟩
  have hl1 : (carryL l).length = 5 := (carryL_length l).trans HL.out
  have HL1 := Lib.hid hl1
  have HN2 := Lib.hid (hn0.below hb2 hn0.lt)
  have HR2 := Lib.hid (hr0.below hb2 hr0.lt)
  have HB2 := Lib.hid (hb0.trans (hb2.mono hb0.size))
  clear hl1 hn0 hr0 hb0 hb2 hz
  go_wp2_with fail
  refine (carry_walk _ HL1.out _).mono ?_
  rintro e w3 ⟨rfl, hb3⟩
  have hl2 : (carryL (carryL l)).length = 5 := (carryL_length _).trans HL1.out
  have HL2 := Lib.hid hl2
  have hn3 := HN2.out.below hb3 HN2.out.lt
  have hr3 := HR2.out.below hb3 HR2.out.lt
  have hb4 := HB2.out.trans (hb3.mono HB2.out.size)
  clear hl2 hb3 HN2 HR2 HB2
  have HW := Lib.hid (show wholeL l = if (moreL (carryL (carryL l))).getD 4 0 >>> 26 = 0#64 then carryL (carryL l) else (moreL (carryL (carryL l))).set 4 ((moreL (carryL (carryL l))).getD 4 0 &&& 67108863#64) from rfl)
  generalize carryL (carryL l) = n at HW HL2 ⊢
  have HN3 := Lib.hid hn3
  have HR3 := Lib.hid hr3
  have HB3 := Lib.hid hb4
  clear hn3 hr3 hb4
  go_upto_region 3 with (first
    | (with_reducible refine wpList_store_rowTo rfl 121 (.tmp 1) (.tmp 7) rfl rfl w.heap.size (d64 n).toArray ?p1 ?p2 121 _ HN3.out.out.out ?p3 ?p4 ?p5 ?_)
    | (with_reducible refine wpList_load_row rfl 121 (.tmp 1) rfl w.heap.size ?p6 121 _ (0, 0) _ (HN3.out.out.setRow _).out Try.underlying121 rfl ?p7 ?_)
    | (with_reducible refine wpList_store_rowTo rfl 121 (.tmp 3) (.tmp 8) rfl rfl w3.heap.size (d64 n).toArray ?q1 ?q2 121 zero5 ?q3 ?q4 ?q5 ?q6 ?_))
  case p1 => rfl
  case p2 => rfl
  case p3 => exact num_info _ HL2.out
  case p4 => exact num_same _ _ HL2.out HL.out
  case p5 => exact d64_cells _
  case p6 => rfl
  case p7 => exact num_info _ HL2.out
  case q1 => rfl
  case q2 => rfl
  case q3 =>
    have := heap_alloc_last (w3.setRow w.heap.size (d64 n).toArray) (.cells zero5 121)
    rw [setRow_size] at this
    exact this
  case q4 => exact num_info _ HL2.out
  case q5 => rw [d64_size n HL2.out]; rfl
  case q6 => exact d64_cells _
  have hz3 : w.heap.size + 1 < w3.heap.size := HR3.out.lt
  have hzr : RowAt ((w3.setRow w.heap.size (d64 n).toArray).alloc (.cells zero5 121)) w3.heap.size zero5 121 (0, 0) := by
    have := RowAt.new (w3.setRow w.heap.size (d64 n).toArray) zero5 121 (0, 0)
    rwa [setRow_size] at this
  have hm5 : NumAt (((w3.setRow w.heap.size (d64 n).toArray).alloc (.cells zero5 121)).setRow w3.heap.size (d64 n).toArray) w3.heap.size n := hzr.setRow _
  have hn5 : NumAt (((w3.setRow w.heap.size (d64 n).toArray).alloc (.cells zero5 121)).setRow w3.heap.size (d64 n).toArray) w.heap.size n := ((HN3.out.out.setRow _).alloc _).setOther (by omega) _
  have hr5 : NumAt (((w3.setRow w.heap.size (d64 n).toArray).alloc (.cells zero5 121)).setRow w3.heap.size (d64 n).toArray) (w.heap.size + 1) zeroL := ((RowAt.setOther HR3.out.out (by omega) _).alloc _).setOther (by omega) _
  have hb5 : Below w.heap.size w (((w3.setRow w.heap.size (d64 n).toArray).alloc (.cells zero5 121)).setRow w3.heap.size (d64 n).toArray) :=
    Go.Proofs.Ytfglhemmccihfaa.Below.setRow ((Go.Proofs.Ytfglhemmccihfaa.Below.setRow HB3.out (Nat.le_refl _) _).alloc (by rw [setRow_size]; omega) _) (by omega) _
  change Code.wp _ _ _ _ (((w3.setRow w.heap.size (d64 n).toArray).alloc (.cells zero5 121)).setRow w3.heap.size (d64 n).toArray)
  generalize ((w3.setRow w.heap.size (d64 n).toArray).alloc (.cells zero5 121)).setRow w3.heap.size (d64 n).toArray = w5 at hm5 hn5 hr5 hb5 ⊢
  generalize w3.heap.size = mb at hm5 hz3 ⊢
  clear hzr HN3 HR3 HB3
  have c0 := hm5.cell 0 (by rw [HL2.out]; omega)
  have f0 := hm5.free 0
  have HM6 := Lib.hid (hm5.store 0 (n.getD 0 0 + 5#64))
  have HN6 := Lib.hid (hn5.other (p := ⟨mb, 0, none⟩) (show mb ≠ w.heap.size by omega) (.int .u64 (bvi (n.getD 0 0 + 5#64))))
  have HR6 := Lib.hid (hr5.other (p := ⟨mb, 0, none⟩) (show mb ≠ w.heap.size + 1 by omega) (.int .u64 (bvi (n.getD 0 0 + 5#64))))
  have HB6 := Lib.hid (hb5.setCell (p := ⟨mb, 0, none⟩) (show w.heap.size ≤ mb by omega) (.int .u64 (bvi (n.getD 0 0 + 5#64))))
  have HL6 := Lib.hid (show (n.set 0 (n.getD 0 0 + 5#64)).length = 5 by rw [List.length_set]; exact HL2.out)
  clear hm5 hn5 hr5 hb5
  go_wp2_with fail
  have HMO := Lib.hid (show moreL n = pushK (n.set 0 (n.getD 0 0 + 5#64)) 4 from rfl)
  generalize n.set 0 (n.getD 0 0 + 5#64) = q at HM6 HL6 HMO
  go_loopw [13] (fun i wr => ∃ k : Nat, k ≤ 4 ∧ i = .int .i64 k ∧ NumAt wr mb (pushK q k) ∧ NumAt wr w.heap.size n ∧ NumAt wr (w.heap.size + 1) zeroL ∧ Below w.heap.size w wr) (fun i _ => 4 - (intOf i).toNat)
  case atStart => exact ⟨0, Nat.zero_le _, rfl, HM6.out, HN6.out, HR6.out, HB6.out⟩
  case round =>
    obtain ⟨k, hk, rfl, hm, hn, hr, hb⟩ := hrel
    have HM := Lib.hid hm
    have HN := Lib.hid hn
    have HR := Lib.hid hr
    have HB := Lib.hid hb
    clear hm hn hr hb
    have HLP := Lib.hid ((pushK_length q k).trans HL6.out)
    rcases Nat.lt_or_ge k 4 with hlt | hge
    · have c1 := HM.out.cell (k + 1) (by rw [HLP.out]; omega)
      have c2 := HM.out.cell k (by rw [HLP.out]; omega)
      have f1 := HM.out.free (k + 1)
      have f2 := HM.out.free k
      clear c0 f0
      go_wp2_with fail
      go_region
      go_wp2_with fail
      go_roundw
      case rel =>
        have hs := ((HM.out.store (k + 1) ((pushK q k).getD (k + 1) 0 + (pushK q k).getD k 0 >>> 26)).drew).store k ((pushK q k).getD k 0 &&& 67108863#64)
        exact ⟨k + 1, by omega, by go_num, by rw [pushK, set_getD_ne _ _ _ _ _ (by omega)]; exact hs, ((HN.out.other (show mb ≠ w.heap.size by omega) _).drew).other (show mb ≠ w.heap.size by omega) _, ((HR.out.other (show mb ≠ w.heap.size + 1 by omega) _).drew).other (show mb ≠ w.heap.size + 1 by omega) _, ((HB.out.setCell (show w.heap.size ≤ mb by omega) _).drew).setCell (show w.heap.size ≤ mb by omega) _⟩
      case measure => simp [intOf]; omega
    · obtain rfl : k = 4 := by omega
      have hmo : pushK q 4 = moreL n := HMO.out.symm
      rw [hmo] at HM HLP
      clear hmo c0 f0
      have c4 := HM.out.cell 4 (by rw [HLP.out]; omega)
      have f4 := HM.out.free 4
      by_cases hx : (moreL n).getD 4 0 >>> 26 = 0#64
      · have hxb : (bvi ((moreL n)[4]?.getD 0#64 >>> 26) == 0) = true := by
          show (bvi ((moreL n).getD 4 0 >>> 26) == 0) = true
          rw [bvi_eq_zero, hx]; rfl
        have HW2 := Lib.hid (show wholeL l = n by rw [HW.out, if_pos hx])
        clear hx
        go_upto_region 11 with fail
        rename_i hK
        apply wp_region_lit
        refine wpList_load_row rfl 121 _ rfl w.heap.size (by as_aux_lemma => kernel_rfl) 121 _ (0, 0) _ HN.out.out.out Try.underlying121 rfl (num_info _ HL2.out) ?_
        refine wpList_store_rowTo rfl 121 _ _ rfl rfl (w.heap.size + 1) (d64 n).toArray (by as_aux_lemma => kernel_rfl) (by as_aux_lemma => kernel_rfl) 121 _ HR.out.out.out (num_info _ HL2.out) (num_same _ _ HL2.out rfl) (d64_cells _) ?_
        apply wpList_nil
        refine hK _ _ ?_
        go_wp2_with fail
        refine bodyPost_ret (v := .agg (d64 n).toArray) (results_cell_row rfl _ _ (w.heap.size + 1) 121 (d64 n).toArray (0, 0) _ (by kernel_rfl) (HR.out.out.setRow _).out Try.underlying121 rfl (num_info _ HL2.out)) rfl ⟨by rw [HW2.out], Go.Proofs.Ytfglhemmccihfaa.Below.setRow HB.out (by omega) _⟩
      · have hxb : (bvi ((moreL n)[4]?.getD 0#64 >>> 26) == 0) = false := by
          show (bvi ((moreL n).getD 4 0 >>> 26) == 0) = false
          rw [bvi_eq_zero]; exact decide_eq_false hx
        have HW2 := Lib.hid (show wholeL l = (moreL n).set 4 ((moreL n).getD 4 0 &&& 67108863#64) by rw [HW.out, if_neg hx])
        clear hx
        have HM7 := Lib.hid (HM.out.store 4 ((moreL n).getD 4 0 &&& 67108863#64))
        have HL7 := Lib.hid (show ((moreL n).set 4 ((moreL n).getD 4 0 &&& 67108863#64)).length = 5 by rw [List.length_set]; exact HLP.out)
        have HR7 := Lib.hid (HR.out.other (p := ⟨mb, 4, none⟩) (show mb ≠ w.heap.size + 1 by omega) (.int .u64 (bvi ((moreL n).getD 4 0 &&& 67108863#64))))
        have HB7 := Lib.hid (HB.out.setCell (p := ⟨mb, 4, none⟩) (show w.heap.size ≤ mb by omega) (.int .u64 (bvi ((moreL n).getD 4 0 &&& 67108863#64))))
        go_upto_region 13 with fail
        rename_i hK
        apply wp_region_lit
        refine wpList_load_row rfl 121 _ rfl mb (by as_aux_lemma => kernel_rfl) 121 _ (0, 0) _ HM7.out.out.out Try.underlying121 rfl (num_info _ HL7.out) ?_
        refine wpList_store_rowTo rfl 121 _ _ rfl rfl (w.heap.size + 1) (d64 ((moreL n).set 4 ((moreL n).getD 4 0 &&& 67108863#64))).toArray (by as_aux_lemma => kernel_rfl) (by as_aux_lemma => kernel_rfl) 121 _ HR7.out.out.out (num_info _ HL7.out) (num_same _ _ HL7.out rfl) (d64_cells _) ?_
        apply wpList_nil
        refine hK _ _ ?_
        go_wp2_with fail
        refine bodyPost_ret (v := .agg (d64 ((moreL n).set 4 ((moreL n).getD 4 0 &&& 67108863#64))).toArray) (results_cell_row rfl _ _ (w.heap.size + 1) 121 (d64 ((moreL n).set 4 ((moreL n).getD 4 0 &&& 67108863#64))).toArray (0, 0) _ (by kernel_rfl) (HR7.out.out.setRow _).out Try.underlying121 rfl (num_info _ HL7.out)) rfl ⟨by rw [HW2.out], Go.Proofs.Ytfglhemmccihfaa.Below.setRow HB7.out (by omega) _⟩

end Go.Proofs.Ytfglhemmccihfaa

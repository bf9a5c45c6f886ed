/-
  Layer 5's laws, walked: PolyOne.
-/
import Derived.Test.YtjcakokhfjlihaaL05C
import Derived.Test.YtjcakokhfjlihaaRegTab
import Derived.Test.YtjcakokhfjlihaaPlainO
namespace Go.Proofs.Ytjcakokhfjlihaa
open Go.RowKit

theorem make_15 (wx : World) : (Instr.makeSlice 38 (.int .i64 15) (.int .i64 15)).run Try.prog wx = .ok (.slice (some ⟨wx.heap.size, 0, none⟩) 15 15) (wx.alloc (.cells (zerosB 15) 5)) := by kernel_rfl
def zero15 : ByteArray := ⟨(List.replicate 15 0).toArray⟩
theorem zero15_is : Is zero15 (List.replicate 15 0) := Is.of _
theorem zero15_size : zero15.size = 15 := by rw [zero15_is.size]; rfl
theorem zero15_str (wx : World) : (convert 38 9 (.slice (some ⟨wx.heap.size, 0, none⟩) 15 15)).run Try.prog (wx.alloc (.cells (zerosB 15) 5)) = .ok (.string zero15) (wx.alloc (.cells (zerosB 15) 5)) :=
  run_str (wx.alloc (.cells (zerosB 15) 5)) 38 5 Try.underlying38 Try.underlying5 9 Try.underlying9 wx.heap.size 15 15 _ _ _ (List.replicate 15 0) (RowAt.new wx _ _ _) (by simp) rfl
def oneS : ByteArray := ⟨#[1]⟩
theorem oneS_is : Is oneS [1] := rfl
theorem oneS_size : oneS.size = 1 := rfl
theorem one_r : leV (clampL ([1] ++ List.replicate 15 0)) = 1 := by decide
theorem tag_one (s t : List UInt8) : tagL ([1] ++ List.replicate 15 0 ++ s) t = leN (wholeN 1 t + leV s) 16 := by
  have hl : ([1] ++ List.replicate 15 (0 : UInt8)).length = 16 := by decide
  have h1 := one_r
  generalize ([1] ++ List.replicate 15 (0 : UInt8)) = r at hl h1 ⊢
  unfold tagL keyR keyS
  rw [List.take_left' hl, List.drop_left' hl, h1]
theorem set_getD_same (P : List Nat) (k : Nat) (h : P.getD k 0 = 0) : P.set k 0 = P := by
  apply List.ext_getElem (by rw [List.length_set])
  intro i h1 h2
  rw [List.getElem_set]
  split
  · rename_i e
    subst e
    rw [List.getD_eq_getElem?_getD, List.getElem?_eq_getElem h2] at h
    exact h.symm
  · rfl
theorem make_18 (wx : World) : (Instr.makeSlice 58 (.int .i64 18) (.int .i64 18)).run Try.prog wx = .ok (.slice (some ⟨wx.heap.size, 0, none⟩) 18 18) (wx.alloc (.cells (ints (List.replicate 18 0)).toArray 3)) := by kernel_rfl

def wantK (X k : Nat) : List UInt8 := bytesT X k ++ List.replicate (16 - k) 0
theorem wantK_length (X k : Nat) (h : k ≤ 16) : (wantK X k).length = 16 := by rw [wantK, List.length_append, List.length_replicate]; simp [bytesT]; omega
theorem wantK_full (X : Nat) : wantK X 16 = leN X 16 := by rw [wantK, ← bytesT_full]; simp
theorem wantK_next (X k : Nat) (h : k < 16) : (wantK X k).set k (UInt8.ofNat (X / 256 ^ k % 256)) = wantK X (k + 1) := by
  have hl : (bytesT X k).length = k := by simp [bytesT]
  rw [wantK, wantK, List.set_append_right (h := by rw [hl]; exact Nat.le_refl _), hl, Nat.sub_self, bytesT_succ, List.append_assoc]
  congr 1
  rw [show 16 - k = (16 - (k + 1)) + 1 by omega, List.replicate_succ]
  rfl
theorem wantK_set (X k : Nat) (h : k < 16) : (cells (wantK X k)).toArray.setIfInBounds k (u8c (UInt8.ofNat (X / 256 ^ k % 256))) = (cells (wantK X (k + 1))).toArray := by
  rw [← wantK_next X k h, List.setIfInBounds_toArray]
  simp [cells, List.map_set, u8c]
theorem wantK_same (X k : Nat) (h : k < 16) (h0 : X / 256 ^ k % 256 = 0) : wantK X k = wantK X (k + 1) := by
  rw [wantK, wantK, bytesT_succ, h0, List.append_assoc]
  congr 1
  rw [show 16 - k = (16 - (k + 1)) + 1 by omega, List.replicate_succ]
  rfl

set_option maxRecDepth 100000 in
set_option maxHeartbeats 4000000 in
theorem PolyOne_w (s : List UInt8) (ls : s.length = 16) (text : ByteArray) (w : World) :
    Calls Try.prog 13 #[.agg (cells s).toArray, .string text] w fun e w' => e = .returned (.bool true) ∧ Below w.heap.size w w' := by
  have hcz : (cells s).toArray.size = 16 := by simp [cells_length, ls]
  go_enter Try.func13, Try.ntmps13
  go_wp2_with fail
  refine (awake05 _).mono ?_
  rintro e w1 ⟨rfl, hb1⟩
  have HB1 := Lib.hid (show Below w.heap.size w w1 from Below.trans ((Below.refl _ _).alloc (Nat.le_refl _) _) (hb1.mono (by simp)))
  have RM := Lib.hid ((RowAt.new w (cells s).toArray 55 (0, 0)).below hb1 (by simp))
  have zW : w.heap.size < w1.heap.size := by have := hb1.size; simp at this; omega
  have HLM := Lib.hid ls
  clear hb1 hcz ls
  rcases Nat.lt_or_ge 1024 text.size with ht | ht
  · go_wp2_with fail
    go_ret
    exact ⟨rfl, HB1.out⟩
  have HBM := Lib.hid (show ∀ w', Below w1.heap.size w1 w' → (convert 38 9 (.slice (some ⟨w.heap.size, 0, none⟩) 16 16)).run Try.prog w' = .ok (.string ⟨s.toArray⟩) w' from
    fun w' hb => run_str w' 38 5 Try.underlying38 Try.underlying5 9 Try.underlying9 w.heap.size 16 16 _ _ _ s (RM.out.below hb zW).out HLM.out (by rw [← HLM.out]; exact List.take_of_length_le (by rw [cells_length]; exact Nat.le_refl _)))
  clear RM
  have hM := Is.of s
  generalize ByteArray.mk s.toArray = S at hM HBM
  have HSZ := Lib.hid (show S.size = 16 by rw [hM.size]; exact HLM.out)
  have IS := Lib.hid hM
  clear hM
  have hsz : S.size ≤ 16 := by rw [HSZ.out]; exact Nat.le_refl _
  have hmk := make_15
  have hdt : decide (1024 < (text.size : Int)) = false := decide_eq_false (by omega)
  have hzs := zero15_str
  have hzz : zero15.size ≤ 15 := by rw [zero15_size]; exact Nat.le_refl _
  have hm5 := HBM.out (w1.alloc (.cells (zerosB 15) 5)) ((Below.refl _ _).alloc (Nat.le_refl _) _)
  have hoz : oneS.size ≤ 1 := Nat.le_refl _
  go_wp2_with fail
  clear hmk hzs hm5
  refine (Tag_is (oneS ++ zero15 ++ S) text (leN (wholeN 1 text.data.toList + leV s) 16) (by rw [ByteArray.size_append, ByteArray.size_append, oneS_size, zero15_size, HSZ.out]) (by omega) (by
    rw [((oneS_is.append zero15_is).append IS.out).out, tag_one]) _).mono ?_
  rintro e w2 ⟨r2, rfl, hr2, hb2⟩
  have HC2 := Lib.hid (bthen ((Below.refl w1.heap.size w1).alloc (Nat.le_refl _) (.cells (zerosB 15) 5)) hb2)
  have HB2 := Lib.hid (bthen HB1.out HC2.out)
  have HR2 := Lib.hid hr2
  clear hr2 hb2
  go_wp2_with fail
  go_loopw [8, 9] (fun v i wr => ∃ (j : Nat) (l : List Nat), 16 * j < text.size + 16 ∧ i = .int .i64 (16 * (j : Int)) ∧ DigAt wr v l ∧ Dig l ∧ l.length ≤ 17 ∧ dV l = accN 1 text.data.toList j ∧ Below w2.heap.size w2 wr) (fun _ i _ => text.size + 16 - (intOf i).toNat)
  case atStart => exact ⟨0, [], by omega, rfl, ⟨_, _, rfl, fun i hi => absurd hi (Nat.not_lt_zero _)⟩, Dig.nil, by decide, rfl, (Below.refl _ _).alloc (Nat.le_refl _) _⟩
  case round =>
    obtain ⟨j, l, hj, rfl, hdig, hd, hl, hv, hbel⟩ := hrel
    have HDA := Lib.hid hdig
    obtain ⟨ao, cap, rfl, hcell⟩ := hdig
    have HCL := Lib.hid hcell
    have HD := Lib.hid hd
    have HV := Lib.hid hv
    have HBL := Lib.hid hbel
    clear hcell hd hv hbel
    rcases Nat.lt_or_ge (16 * j) text.size with hlt | hge
    · have HTL := Lib.hid (show text.data.toList.length = text.size by rw [Array.length_toList]; rfl)
      have hcl : (chunkL text.data.toList j).length = min 16 (text.size - 16 * j) := by unfold chunkL; rw [List.length_take, List.length_drop, HTL.out]
      have HCG := Lib.hid (show ∀ q, q < (chunkL text.data.toList j).length → (chunkL text.data.toList j).getD q 0 = text.data.toList.getD (16 * j + q) 0 from by
        intro q hq
        unfold chunkL at hq ⊢
        rw [List.getD_eq_getElem?_getD, List.getD_eq_getElem?_getD, List.getElem?_take, if_pos (by rw [List.length_take] at hq; omega), List.getElem?_drop])
      have HC := Lib.hid (show ∀ l' : List Nat, dV l' = dV (carrK (partO l (chunkL text.data.toList j) 18) 17) % prime → dV l' = accN 1 text.data.toList (j + 1) from
        fun l' h => one_step _ _ l l' hl HV.out (by omega) h)
      generalize chunkL text.data.toList j = c at hcl HCG HC
      have hm16 : c.length ≤ 16 := by omega
      have hmt : 16 * j + c.length ≤ text.size := by omega
      have hmn : min (16 * (j : Int) + 16) (text.size : Int) = 16 * (j : Int) + (c.length : Int) := by omega
      clear hcl
      have hmk := make_18
      have hdl : decide (16 * (j : Int) < (text.size : Int)) = true := decide_eq_true (by omega)
      obtain ⟨wo, hwo⟩ : ∃ wo : World, wo = wr := ⟨_, rfl⟩
      subst hwo
      go_wp2_with fail
      clear hmk hmn
      go_loopw [48] (fun i wr => ∃ k : Nat, k ≤ 18 ∧ i = .int .i64 k ∧ RowAt wr wo.heap.size (ints (partO l c k)).toArray 3 (0, 0) ∧ Below wo.heap.size wo wr) (fun i _ => 18 - (intOf i).toNat)
      case atStart => exact ⟨0, Nat.zero_le _, rfl, by rw [partO_zero]; exact RowAt.new wo _ _ _, (Below.refl _ _).alloc (Nat.le_refl _) _⟩
      case round =>
        obtain ⟨k, hk, rfl, hrow, hbel⟩ := hrel
        have HR := Lib.hid hrow
        have HB := Lib.hid hbel
        clear hrow hbel
        rcases Nat.lt_or_ge k 18 with hk18 | hk18
        · have hx := HD.out.get k
          have HG0 := Lib.hid (partO_get l c k)
          have HLP := Lib.hid (partO_length l c k hk)
          have HSET := Lib.hid (partO_set l c k hk18)
          obtain ⟨ya, u, hya, hyl, hyg, hul, hug, hxy⟩ : ∃ ya u : Nat, ya < 256 ∧ (k < c.length → (c.getD k 0).toNat = ya) ∧ (c.length ≤ k → ya = 0) ∧ (k = c.length → u = 1) ∧ (k ≠ c.length → u = 0) ∧ l.getD k 0 + (oneC c).getD k 0 = l.getD k 0 + ya + u := by
            rcases Nat.lt_trichotomy k c.length with h | h | h
            · exact ⟨_, 0, u8_lt _, fun _ => rfl, fun h2 => by omega, fun h2 => by omega, fun _ => rfl, by rw [oneC_at c k h]; rfl⟩
            · exact ⟨0, 1, by decide, fun h2 => by omega, fun _ => rfl, fun _ => rfl, fun h2 => absurd h h2, by rw [h, oneC_end]⟩
            · exact ⟨0, 0, by decide, fun h2 => by omega, fun _ => rfl, fun h2 => by omega, fun _ => rfl, by rw [oneC_past c k h]⟩
          rw [hxy] at HSET
          have HYL := Lib.hid hyl
          have HYG := Lib.hid hyg
          have HUL := Lib.hid hul
          have HUG := Lib.hid hug
          clear hxy hyl hyg hul hug
          have HX0 := Lib.hid (show l.length ≤ k → l.getD k 0 = 0 from fun h => by rw [List.getD_eq_getElem?_getD, List.getElem?_eq_none h]; rfl)
          have HCK := Lib.hid (show k < l.length → ∃ g off, ao = some ⟨g, off, none⟩ ∧ g < wo.heap.size ∧ wo.cell? ⟨g, off + k, none⟩ = some (.int .i64 ((l.getD k 0 : Nat) : Int)) from fun h => HCL.out k h)
          generalize partO l c k = P at HR HG0 HLP HSET
          generalize l.getD k 0 = x at hx HX0 HCK HSET
          have f3 := HR.out.free (i := k) (by simp)
          have c3 := HR.out.cell (i := k) (by rw [List.getElem?_toArray]; exact ints_at _ _ (by rw [HLP.out]; exact hk18))
          rw [HG0.out] at c3
          go_upto_if 54 with fail
          go_cut [] (fun wx => RowAt wx wo.heap.size (ints (P.set k x)).toArray 3 (0, 0) ∧ Below wo.heap.size wo wx)
          case first =>
            rcases Nat.lt_or_ge k l.length with hx1 | hx1
            · obtain ⟨ga, oa, rfl, hga, hca⟩ := HCK.out hx1
              have c1 := (HB.out.cell (p := ⟨ga, oa + k, none⟩) hga).trans hca
              clear hca
              go_wp2_with fail
              refine region_table (by kernel_rfl) [55, 56, 57, 58, 59, 60, 61, 62, 63, 64]
                (fun i x_ => match i with
                  | 0 => x_ = .slice (some ⟨wo.heap.size, 0, none⟩) 18 18
                  | 1 => x_ = .int .i64 ((k : Int))
                  | 2 => x_ = .pointer (some ⟨wo.heap.size, k, none⟩)
                  | 3 => x_ = .int .i64 (0)
                  | 4 => x_ = .slice (some ⟨ga, oa, none⟩) l.length cap
                  | 5 => x_ = .int .i64 ((k : Int))
                  | 6 => x_ = .pointer (some ⟨ga, oa + k, none⟩)
                  | 7 => x_ = .int .i64 ((x : Int))
                  | 8 => x_ = .int .i64 ((x : Int))
                  | 9 => x_ = .pointer (some ⟨wo.heap.size, k, none⟩)
                  | _ => True) (fun L _ w' => (L 10 = false → w' = wr.drew) ∧ (L 10 = true → w' = wr.drew.setCell ⟨wo.heap.size, k, none⟩ (.int .i64 ((x : Int)))) ∧ (L 10 = true → L 3 = true ∧ L 7 = true)) (by kernel_rfl) (by kernel_rfl) rfl (by kernel_rfl) (⟨fun _ => rfl, (fun h => by cases h), (fun h => by cases h)⟩) ?_ ?_
              · refine StepsOk.cons ?_ (StepsOk.cons ?_ (StepsOk.cons ?_ (StepsOk.cons ?_ (StepsOk.cons ?_ (StepsOk.cons ?_ (StepsOk.cons ?_ (StepsOk.cons ?_ (StepsOk.cons ?_ (StepsOk.cons ?_ (StepsOk.cons ?_ StepsOk.nil))))))))))
                · intro L a w4 Kx hl hsz hs ht hr he hK
                  refine step_plain rfl ?_
                  have h11 : a.tmps.getD 11 undef = .slice (some ⟨wo.heap.size, 0, none⟩) 18 18 := (hs 11 (by decide)).trans rfl
                  go_simp
                  exact hK _ _ rfl (by simpa using hr)
                · intro L a w4 Kx hl hsz hs ht hr he hK
                  refine step_plain rfl ?_
                  have h12 : a.tmps.getD 12 undef = .int .i64 ((k : Int)) := (hs 12 (by decide)).trans rfl
                  go_simp
                  exact hK _ _ rfl (by simpa using hr)
                · intro L a w4 Kx hl hsz hs ht hr he hK
                  refine step_plain rfl ?_
                  have h55 : a.tmps.getD 55 undef = .slice (some ⟨wo.heap.size, 0, none⟩) 18 18 := ht 0 (he 0 (by kernel_rfl)) 55 rfl
                  have h56 : a.tmps.getD 56 undef = .int .i64 ((k : Int)) := ht 1 (he 1 (by kernel_rfl)) 56 rfl
                  go_simp
                  exact hK _ _ rfl (by simpa using hr)
                · intro L a w4 Kx hl hsz hs ht hr he hK
                  refine step_plain rfl ?_
                  have h57 : a.tmps.getD 57 undef = .pointer (some ⟨wo.heap.size, k, none⟩) := ht 2 (he 2 (by kernel_rfl)) 57 rfl
                  have hx17 : L 10 = false := by
                    cases hy : L 10 with
                    | false => rfl
                    | true => have := (hr.2.2 hy).1; rw [hl] at this; cases this
                  have hw4 := hr.1 hx17
                  subst hw4
                  go_simp
                  refine hK _ _ rfl ⟨fun _ => rfl, fun h => ?_, fun h => ?_⟩
                  all_goals
                    have h' : (L 10 || false) = true := h
                    rw [hx17] at h'
                    cases h'
                · intro L a w4 Kx hl hsz hs ht hr he hK
                  refine step_plain rfl ?_
                  have h8 : a.tmps.getD 8 undef = .slice (some ⟨ga, oa, none⟩) l.length cap := (hs 8 (by decide)).trans rfl
                  go_simp
                  exact hK _ _ rfl (by simpa using hr)
                · intro L a w4 Kx hl hsz hs ht hr he hK
                  refine step_plain rfl ?_
                  have h12 : a.tmps.getD 12 undef = .int .i64 ((k : Int)) := (hs 12 (by decide)).trans rfl
                  go_simp
                  exact hK _ _ rfl (by simpa using hr)
                · intro L a w4 Kx hl hsz hs ht hr he hK
                  refine step_plain rfl ?_
                  have h59 : a.tmps.getD 59 undef = .slice (some ⟨ga, oa, none⟩) l.length cap := ht 4 (he 4 (by kernel_rfl)) 59 rfl
                  have h60 : a.tmps.getD 60 undef = .int .i64 ((k : Int)) := ht 5 (he 5 (by kernel_rfl)) 60 rfl
                  go_simp
                  exact hK _ _ rfl (by simpa using hr)
                · intro L a w4 Kx hl hsz hs ht hr he hK
                  refine step_plain rfl ?_
                  have h61 : a.tmps.getD 61 undef = .pointer (some ⟨ga, oa + k, none⟩) := ht 6 (he 6 (by kernel_rfl)) 61 rfl
                  have hx17 : L 10 = false := by
                    cases hy : L 10 with
                    | false => rfl
                    | true => have := (hr.2.2 hy).2; rw [hl] at this; cases this
                  have hw4 := hr.1 hx17
                  subst hw4
                  go_simp
                  refine hK _ _ rfl ⟨fun _ => rfl, fun h => ?_, fun h => ?_⟩
                  all_goals
                    have h' : (L 10 || false) = true := h
                    rw [hx17] at h'
                    cases h'
                · intro L a w4 Kx hl hsz hs ht hr he hK
                  refine step_plain rfl ?_
                  have h58 : a.tmps.getD 58 undef = .int .i64 (0) := ht 3 (he 3 (by kernel_rfl)) 58 rfl
                  have h62 : a.tmps.getD 62 undef = .int .i64 ((x : Int)) := ht 7 (he 7 (by kernel_rfl)) 62 rfl
                  have hwr : IntKind.i64.wrap ((0 : Int) + (x : Int)) = (x : Int) := by rw [Int.zero_add]; exact IntWalk.i64_in _ (by omega)
                  have hwq : IntKind.i64.wrap (x : Int) = (x : Int) := IntWalk.i64_in _ (by omega)
                  go_simp
                  exact hK _ _ rfl (by simpa using hr)
                · intro L a w4 Kx hl hsz hs ht hr he hK
                  refine step_plain rfl ?_
                  have h55 : a.tmps.getD 55 undef = .slice (some ⟨wo.heap.size, 0, none⟩) 18 18 := ht 0 (he 0 (by kernel_rfl)) 55 rfl
                  have h56 : a.tmps.getD 56 undef = .int .i64 ((k : Int)) := ht 1 (he 1 (by kernel_rfl)) 56 rfl
                  go_simp
                  exact hK _ _ rfl (by simpa using hr)
                · intro L a w4 Kx hl hsz hs ht hr he hK
                  refine step_plain rfl ?_
                  have h64 : a.tmps.getD 64 undef = .pointer (some ⟨wo.heap.size, k, none⟩) := ht 9 (he 9 (by kernel_rfl)) 64 rfl
                  have h63 : a.tmps.getD 63 undef = .int .i64 ((x : Int)) := ht 8 (he 8 (by kernel_rfl)) 63 rfl
                  have hw4 := hr.1 hl
                  subst hw4
                  go_simp
                  refine hK undef _ trivial ⟨fun h => ?_, fun _ => rfl, fun _ => ?_⟩
                  · have h' : (L 10 || true) = false := h
                    rw [Bool.or_true] at h'
                    cases h'
                  · exact ⟨by show (L 3 || false) = true; rw [he 3 (by kernel_rfl)]; rfl, by show (L 7 || false) = true; rw [he 7 (by kernel_rfl)]; rfl⟩
              · intro f L w4 hf hall hr
                have hw4 := hr.2.1 (hall 10 (by decide))
                subst hw4
                clear hf hall hr
                simp only [List.foldl, Act.put, List.setIfInBounds_toArray, List.set_cons_zero, List.set_cons_succ]
                generalize f 55 = z55
                generalize f 56 = z56
                generalize f 57 = z57
                generalize f 58 = z58
                generalize f 59 = z59
                generalize f 60 = z60
                generalize f 61 = z61
                generalize f 62 = z62
                generalize f 63 = z63
                generalize f 64 = z64
                go_wp2_with fail
                go_meet
                exact ⟨by rw [← ints_set]; exact HR.out.drew.store k _, HB.out.drew.setCell (Nat.le_refl _) _⟩
            · have hx0 := HX0.out hx1
              subst hx0
              go_wp2_with fail
              go_meet
              exact ⟨by rw [set_getD_same P k HG0.out]; exact HR.out, HB.out⟩
          case rest =>
            obtain ⟨hrow, hbel⟩ := hcut
            have HR1 := Lib.hid hrow
            have HB1' := Lib.hid hbel
            clear hrow hbel c3 f3
            have f3 := HR1.out.free (i := k) (by simp)
            have c3 := HR1.out.cell (i := k) (by rw [List.getElem?_toArray]; exact ints_at _ _ (by rw [List.length_set, HLP.out]; exact hk18))
            rw [getD_set_same _ _ _ (by rw [HLP.out]; exact hk18)] at c3
            go_upto_if 69 with fail
            go_cut [] (fun wx => RowAt wx wo.heap.size (ints (P.set k (x + ya))).toArray 3 (0, 0) ∧ Below wo.heap.size wo wx)
            case first =>
              rcases Nat.lt_or_ge k c.length with hy1 | hy1
              · have q1 : 16 * j + k < text.size := by omega
                have hyb := HYL.out hy1
                rw [HCG.out k hy1, List.getD_eq_getElem?_getD, List.getElem?_eq_getElem (by rw [HTL.out]; exact q1), Option.getD_some, Array.getElem_toList] at hyb
                have HYB := Lib.hid (show (bvi (text.data[16 * j + k]'q1).toBitVec : Int) = (ya : Int) from by rw [← hyb]; rfl)
                have q2 : (0 : Int) ≤ 16 * (j : Int) + k := by omega
                have q3 : (16 * (j : Int) + k) < text.size := by omega
                have q4 : (16 * (j : Int) + k).toNat = 16 * j + k := by omega
                clear hyb
                go_wp2_with fail
                refine region_table (by kernel_rfl) [70, 71, 72, 73, 74, 75, 76, 77, 78, 79, 80, 81]
                  (fun i x_ => match i with
                    | 0 => x_ = .slice (some ⟨wo.heap.size, 0, none⟩) 18 18
                    | 1 => x_ = .int .i64 ((k : Int))
                    | 2 => x_ = .pointer (some ⟨wo.heap.size, k, none⟩)
                    | 3 => x_ = .int .i64 ((x : Int))
                    | 4 => x_ = .string text
                    | 5 => x_ = .int .i64 (16 * (j : Int))
                    | 6 => x_ = .int .i64 ((k : Int))
                    | 7 => x_ = .int .i64 (16 * (j : Int) + (k : Int))
                    | 8 => x_ = .int .u8 (bvi (text[16 * j + k]).toBitVec)
                    | 9 => x_ = .int .i64 ((ya : Int))
                    | 10 => x_ = .int .i64 (((x + ya : Nat) : Int))
                    | 11 => x_ = .pointer (some ⟨wo.heap.size, k, none⟩)
                    | _ => True) (fun L _ w' => (L 12 = false → w' = wc.drew) ∧ (L 12 = true → w' = wc.drew.setCell ⟨wo.heap.size, k, none⟩ (.int .i64 (((x + ya : Nat) : Int)))) ∧ (L 12 = true → L 3 = true ∧ True)) (by kernel_rfl) (by kernel_rfl) rfl (by kernel_rfl) (⟨fun _ => rfl, (fun h => by cases h), (fun h => by cases h)⟩) ?_ ?_
                · refine StepsOk.cons ?_ (StepsOk.cons ?_ (StepsOk.cons ?_ (StepsOk.cons ?_ (StepsOk.cons ?_ (StepsOk.cons ?_ (StepsOk.cons ?_ (StepsOk.cons ?_ (StepsOk.cons ?_ (StepsOk.cons ?_ (StepsOk.cons ?_ (StepsOk.cons ?_ (StepsOk.cons ?_ StepsOk.nil))))))))))))
                  · intro L a w4 Kx hl hsz hs ht hr he hK
                    refine step_plain rfl ?_
                    have h11 : a.tmps.getD 11 undef = .slice (some ⟨wo.heap.size, 0, none⟩) 18 18 := (hs 11 (by decide)).trans rfl
                    go_simp
                    exact hK _ _ rfl (by simpa using hr)
                  · intro L a w4 Kx hl hsz hs ht hr he hK
                    refine step_plain rfl ?_
                    have h12 : a.tmps.getD 12 undef = .int .i64 ((k : Int)) := (hs 12 (by decide)).trans rfl
                    go_simp
                    exact hK _ _ rfl (by simpa using hr)
                  · intro L a w4 Kx hl hsz hs ht hr he hK
                    refine step_plain rfl ?_
                    have h70 : a.tmps.getD 70 undef = .slice (some ⟨wo.heap.size, 0, none⟩) 18 18 := ht 0 (he 0 (by kernel_rfl)) 70 rfl
                    have h71 : a.tmps.getD 71 undef = .int .i64 ((k : Int)) := ht 1 (he 1 (by kernel_rfl)) 71 rfl
                    go_simp
                    exact hK _ _ rfl (by simpa using hr)
                  · intro L a w4 Kx hl hsz hs ht hr he hK
                    refine step_plain rfl ?_
                    have h72 : a.tmps.getD 72 undef = .pointer (some ⟨wo.heap.size, k, none⟩) := ht 2 (he 2 (by kernel_rfl)) 72 rfl
                    have hx17 : L 12 = false := by
                      cases hy : L 12 with
                      | false => rfl
                      | true => have := (hr.2.2 hy).1; rw [hl] at this; cases this
                    have hw4 := hr.1 hx17
                    subst hw4
                    go_simp
                    refine hK _ _ rfl ⟨fun _ => rfl, fun h => ?_, fun h => ?_⟩
                    all_goals
                      have h' : (L 12 || false) = true := h
                      rw [hx17] at h'
                      cases h'
                  · intro L a w4 Kx hl hsz hs ht hr he hK
                    refine step_plain rfl ?_
                    have h1 : a.tmps.getD 1 undef = .string text := (hs 1 (by decide)).trans rfl
                    go_simp
                    exact hK _ _ rfl (by simpa using hr)
                  · intro L a w4 Kx hl hsz hs ht hr he hK
                    refine step_plain rfl ?_
                    have h9 : a.tmps.getD 9 undef = .int .i64 (16 * (j : Int)) := (hs 9 (by decide)).trans rfl
                    go_simp
                    exact hK _ _ rfl (by simpa using hr)
                  · intro L a w4 Kx hl hsz hs ht hr he hK
                    refine step_plain rfl ?_
                    have h12 : a.tmps.getD 12 undef = .int .i64 ((k : Int)) := (hs 12 (by decide)).trans rfl
                    go_simp
                    exact hK _ _ rfl (by simpa using hr)
                  · intro L a w4 Kx hl hsz hs ht hr he hK
                    refine step_plain rfl ?_
                    have h75 : a.tmps.getD 75 undef = .int .i64 (16 * (j : Int)) := ht 5 (he 5 (by kernel_rfl)) 75 rfl
                    have h76 : a.tmps.getD 76 undef = .int .i64 ((k : Int)) := ht 6 (he 6 (by kernel_rfl)) 76 rfl
                    have hwr : IntKind.i64.wrap (16 * (j : Int) + (k : Int)) = 16 * (j : Int) + (k : Int) := IntWalk.i64_in _ (by omega)
                    go_simp
                    exact hK _ _ rfl (by simpa using hr)
                  · intro L a w4 Kx hl hsz hs ht hr he hK
                    refine step_plain rfl ?_
                    have h74 : a.tmps.getD 74 undef = .string text := ht 4 (he 4 (by kernel_rfl)) 74 rfl
                    have h77 : a.tmps.getD 77 undef = .int .i64 (16 * (j : Int) + (k : Int)) := ht 7 (he 7 (by kernel_rfl)) 77 rfl
                    go_simp
                    exact hK _ _ rfl (by simpa using hr)
                  · intro L a w4 Kx hl hsz hs ht hr he hK
                    refine step_plain rfl ?_
                    have h78 : a.tmps.getD 78 undef = .int .u8 (bvi (text[16 * j + k]).toBitVec) := ht 8 (he 8 (by kernel_rfl)) 78 rfl
                    go_simp
                    exact hK _ _ (congrArg (Value.int IntKind.i64) HYB.out) (by simpa using hr)
                  · intro L a w4 Kx hl hsz hs ht hr he hK
                    refine step_plain rfl ?_
                    have h73 : a.tmps.getD 73 undef = .int .i64 ((x : Int)) := ht 3 (he 3 (by kernel_rfl)) 73 rfl
                    have h79 : a.tmps.getD 79 undef = .int .i64 ((ya : Int)) := ht 9 (he 9 (by kernel_rfl)) 79 rfl
                    have hwr : IntKind.i64.wrap ((x : Int) + (ya : Int)) = ((x + ya : Nat) : Int) := by rw [← Int.natCast_add]; exact IntWalk.i64_in _ (by omega)
                    go_simp
                    exact hK _ _ rfl (by simpa using hr)
                  · intro L a w4 Kx hl hsz hs ht hr he hK
                    refine step_plain rfl ?_
                    have h70 : a.tmps.getD 70 undef = .slice (some ⟨wo.heap.size, 0, none⟩) 18 18 := ht 0 (he 0 (by kernel_rfl)) 70 rfl
                    have h71 : a.tmps.getD 71 undef = .int .i64 ((k : Int)) := ht 1 (he 1 (by kernel_rfl)) 71 rfl
                    go_simp
                    exact hK _ _ rfl (by simpa using hr)
                  · intro L a w4 Kx hl hsz hs ht hr he hK
                    refine step_plain rfl ?_
                    have h81 : a.tmps.getD 81 undef = .pointer (some ⟨wo.heap.size, k, none⟩) := ht 11 (he 11 (by kernel_rfl)) 81 rfl
                    have h80 : a.tmps.getD 80 undef = .int .i64 (((x + ya : Nat) : Int)) := ht 10 (he 10 (by kernel_rfl)) 80 rfl
                    have hw4 := hr.1 hl
                    subst hw4
                    go_simp
                    refine hK undef _ trivial ⟨fun h => ?_, fun _ => rfl, fun _ => ?_⟩
                    · have h' : (L 12 || true) = false := h
                      rw [Bool.or_true] at h'
                      cases h'
                    · exact ⟨by show (L 3 || false) = true; rw [he 3 (by kernel_rfl)]; rfl, trivial⟩
                · intro f L w4 hf hall hr
                  have hw4 := hr.2.1 (hall 12 (by decide))
                  subst hw4
                  clear hf hall hr
                  simp only [List.foldl, Act.put, List.setIfInBounds_toArray, List.set_cons_zero, List.set_cons_succ]
                  generalize f 70 = z70
                  generalize f 71 = z71
                  generalize f 72 = z72
                  generalize f 73 = z73
                  generalize f 74 = z74
                  generalize f 75 = z75
                  generalize f 76 = z76
                  generalize f 77 = z77
                  generalize f 78 = z78
                  generalize f 79 = z79
                  generalize f 80 = z80
                  generalize f 81 = z81
                  go_wp2_with fail
                  go_meet
                  exact ⟨by rw [← List.set_set (b := x + ya), ← ints_set]; exact HR1.out.drew.store k _, HB1'.out.drew.setCell (Nat.le_refl _) _⟩
              · have hy0 := HYG.out hy1
                subst hy0
                go_wp2_with fail
                go_meet
                exact ⟨HR1.out, HB1'.out⟩
            case rest =>
              obtain ⟨hrow, hbel⟩ := hcut
              have HR2' := Lib.hid hrow
              have HB2' := Lib.hid hbel
              clear hrow hbel c3 f3
              have f3 := HR2'.out.free (i := k) (by simp)
              have c3 := HR2'.out.cell (i := k) (by rw [List.getElem?_toArray]; exact ints_at _ _ (by rw [List.length_set, HLP.out]; exact hk18))
              rw [getD_set_same _ _ _ (by rw [HLP.out]; exact hk18)] at c3
              rcases Nat.decEq k c.length with hu | hu
              · have hu0 := HUG.out hu
                subst hu0
                have hne : ((k : Int) == (c.length : Int)) = false := by simp; omega
                go_wp2_with fail
                go_roundw
                case rel => exact ⟨k + 1, by omega, by go_num, by rw [← HSET.out]; exact HR2'.out, HB2'.out⟩
                case measure => simp [intOf]; omega
              · have hu0 := HUL.out hu
                subst hu0
                have heq : ((k : Int) == (c.length : Int)) = true := by rw [hu]; simp
                have HU := Lib.hid hu
                clear hu
                go_wp2_with fail
                go_roundw
                case rel => exact ⟨k + 1, by omega, by go_num, by rw [← HSET.out, ← List.set_set (b := x + ya + 1), ← ints_set]; exact HR2'.out.store k _, HB2'.out.setCell (Nat.le_refl _) _⟩
                case measure => simp [intOf]; omega
        · obtain rfl : k = 18 := by omega
          have HSM := Lib.hid (partO_small l c HD.out)
          have HLN := Lib.hid (partO_length l c 18 (Nat.le_refl _))
          have HVA := Lib.hid (show dV (partO l c 18) < 256 ^ 18 by rw [partO_val l c (by omega) hm16]; exact chunk_room l c HD.out hl hm16)
          generalize partO l c 18 = P at HR HSM HLN HVA HC
          go_wp2_with fail
          go_loopw [13] (fun i wr => ∃ k : Nat, k ≤ 17 ∧ i = .int .i64 k ∧ RowAt wr wo.heap.size (ints (carrK P k)).toArray 3 (0, 0) ∧ Below wo.heap.size wo wr) (fun i _ => 17 - (intOf i).toNat)
          case atStart => exact ⟨0, Nat.zero_le _, rfl, HR.out, HB.out⟩
          case round =>
            obtain ⟨k, hk, rfl, hrow, hbel⟩ := hrel
            have HRC := Lib.hid hrow
            have HBC := Lib.hid hbel
            clear hrow hbel
            rcases Nat.lt_or_ge k 17 with hk17 | hk17
            · obtain ⟨_, b1, b2⟩ := carrK_bound P HSM.out k (by rw [HLN.out]; omega)
              have b3 := b2 (k + 1) (by omega)
              clear b2
              have HLC := Lib.hid ((carrK_length P k).trans HLN.out)
              have HST := Lib.hid (show carrK P (k + 1) = ((carrK P k).set (k + 1) ((carrK P k).getD (k + 1) 0 + (carrK P k).getD k 0 / 256)).set k ((carrK P k).getD k 0 % 256) from rfl)
              have c3 := HRC.out.cell (i := k + 1) (by rw [List.getElem?_toArray]; exact ints_at _ _ (by rw [HLC.out]; omega))
              have c4 := HRC.out.cell (i := k) (by rw [List.getElem?_toArray]; exact ints_at _ _ (by rw [HLC.out]; omega))
              have f3 := HRC.out.free (i := k + 1) (by simp)
              have f4 := HRC.out.free (i := k) (by simp)
              have HNE := Lib.hid (getD_set_ne (carrK P k) (k + 1) k ((carrK P k).getD (k + 1) 0 + (carrK P k).getD k 0 / 256) (by omega))
              generalize hG : carrK P k = G at HRC HLC HST HNE b1 b3 c3 c4
              generalize G.getD (k + 1) 0 = y at HST HNE b3 c3
              generalize hz : G.getD k 0 = z at HST HNE b1 c4
              clear hG hz
              have q0 : (k : Int) + 1 < 18 := by omega
              have q00 : (k : Int) < 18 := by omega
              go_wp2_with fail
              refine region_table (by kernel_rfl) [101, 102, 103, 104, 105, 106, 107, 108, 109, 110, 111, 112]
                (fun i x_ => match i with
                  | 0 => x_ = .slice (some ⟨wo.heap.size, 0, none⟩) 18 18
                  | 1 => x_ = .int .i64 ((k : Int))
                  | 2 => x_ = .int .i64 ((k : Int) + 1)
                  | 3 => x_ = .pointer (some ⟨wo.heap.size, k + 1, none⟩)
                  | 4 => x_ = .int .i64 ((y : Int))
                  | 5 => x_ = .slice (some ⟨wo.heap.size, 0, none⟩) 18 18
                  | 6 => x_ = .int .i64 ((k : Int))
                  | 7 => x_ = .pointer (some ⟨wo.heap.size, k, none⟩)
                  | 8 => x_ = .int .i64 ((z : Int))
                  | 9 => x_ = .int .i64 ((z : Int) / 256)
                  | 10 => x_ = .int .i64 (((y + z / 256 : Nat) : Int))
                  | 11 => x_ = .pointer (some ⟨wo.heap.size, k + 1, none⟩)
                  | _ => True) (fun L _ w' => (L 12 = false → w' = wr.drew) ∧ (L 12 = true → w' = wr.drew.setCell ⟨wo.heap.size, k + 1, none⟩ (.int .i64 (((y + z / 256 : Nat) : Int)))) ∧ (L 12 = true → L 4 = true ∧ L 8 = true)) (by kernel_rfl) (by kernel_rfl) rfl (by kernel_rfl) (⟨fun _ => rfl, (fun h => by cases h), (fun h => by cases h)⟩) ?_ ?_
              · refine StepsOk.cons ?_ (StepsOk.cons ?_ (StepsOk.cons ?_ (StepsOk.cons ?_ (StepsOk.cons ?_ (StepsOk.cons ?_ (StepsOk.cons ?_ (StepsOk.cons ?_ (StepsOk.cons ?_ (StepsOk.cons ?_ (StepsOk.cons ?_ (StepsOk.cons ?_ (StepsOk.cons ?_ StepsOk.nil))))))))))))
                · intro L a w4 Kx hl hsz hs ht hr he hK
                  refine step_plain rfl ?_
                  have h11 : a.tmps.getD 11 undef = .slice (some ⟨wo.heap.size, 0, none⟩) 18 18 := (hs 11 (by decide)).trans rfl
                  go_simp
                  exact hK _ _ rfl (by simpa using hr)
                · intro L a w4 Kx hl hsz hs ht hr he hK
                  refine step_plain rfl ?_
                  have h13 : a.tmps.getD 13 undef = .int .i64 ((k : Int)) := (hs 13 (by decide)).trans rfl
                  go_simp
                  exact hK _ _ rfl (by simpa using hr)
                · intro L a w4 Kx hl hsz hs ht hr he hK
                  refine step_plain rfl ?_
                  have h102 : a.tmps.getD 102 undef = .int .i64 ((k : Int)) := ht 1 (he 1 (by kernel_rfl)) 102 rfl
                  have hwr : IntKind.i64.wrap ((k : Int) + 1) = (k : Int) + 1 := IntWalk.i64_in _ (by omega)
                  go_simp
                  exact hK _ _ rfl (by simpa using hr)
                · intro L a w4 Kx hl hsz hs ht hr he hK
                  refine step_plain rfl ?_
                  have h101 : a.tmps.getD 101 undef = .slice (some ⟨wo.heap.size, 0, none⟩) 18 18 := ht 0 (he 0 (by kernel_rfl)) 101 rfl
                  have h103 : a.tmps.getD 103 undef = .int .i64 ((k : Int) + 1) := ht 2 (he 2 (by kernel_rfl)) 103 rfl
                  go_simp
                  exact hK _ _ rfl (by simpa using hr)
                · intro L a w4 Kx hl hsz hs ht hr he hK
                  refine step_plain rfl ?_
                  have h104 : a.tmps.getD 104 undef = .pointer (some ⟨wo.heap.size, k + 1, none⟩) := ht 3 (he 3 (by kernel_rfl)) 104 rfl
                  have hx17 : L 12 = false := by
                    cases hy : L 12 with
                    | false => rfl
                    | true => have := (hr.2.2 hy).1; rw [hl] at this; cases this
                  have hw4 := hr.1 hx17
                  subst hw4
                  go_simp
                  refine hK _ _ rfl ⟨fun _ => rfl, fun h => ?_, fun h => ?_⟩
                  all_goals
                    have h' : (L 12 || false) = true := h
                    rw [hx17] at h'
                    cases h'
                · intro L a w4 Kx hl hsz hs ht hr he hK
                  refine step_plain rfl ?_
                  have h11 : a.tmps.getD 11 undef = .slice (some ⟨wo.heap.size, 0, none⟩) 18 18 := (hs 11 (by decide)).trans rfl
                  go_simp
                  exact hK _ _ rfl (by simpa using hr)
                · intro L a w4 Kx hl hsz hs ht hr he hK
                  refine step_plain rfl ?_
                  have h13 : a.tmps.getD 13 undef = .int .i64 ((k : Int)) := (hs 13 (by decide)).trans rfl
                  go_simp
                  exact hK _ _ rfl (by simpa using hr)
                · intro L a w4 Kx hl hsz hs ht hr he hK
                  refine step_plain rfl ?_
                  have h106 : a.tmps.getD 106 undef = .slice (some ⟨wo.heap.size, 0, none⟩) 18 18 := ht 5 (he 5 (by kernel_rfl)) 106 rfl
                  have h107 : a.tmps.getD 107 undef = .int .i64 ((k : Int)) := ht 6 (he 6 (by kernel_rfl)) 107 rfl
                  go_simp
                  exact hK _ _ rfl (by simpa using hr)
                · intro L a w4 Kx hl hsz hs ht hr he hK
                  refine step_plain rfl ?_
                  have h108 : a.tmps.getD 108 undef = .pointer (some ⟨wo.heap.size, k, none⟩) := ht 7 (he 7 (by kernel_rfl)) 108 rfl
                  have hx17 : L 12 = false := by
                    cases hy : L 12 with
                    | false => rfl
                    | true => have := (hr.2.2 hy).2; rw [hl] at this; cases this
                  have hw4 := hr.1 hx17
                  subst hw4
                  go_simp
                  refine hK _ _ rfl ⟨fun _ => rfl, fun h => ?_, fun h => ?_⟩
                  all_goals
                    have h' : (L 12 || false) = true := h
                    rw [hx17] at h'
                    cases h'
                · intro L a w4 Kx hl hsz hs ht hr he hK
                  refine step_plain rfl ?_
                  have h109 : a.tmps.getD 109 undef = .int .i64 ((z : Int)) := ht 8 (he 8 (by kernel_rfl)) 109 rfl
                  have hwr : IntKind.i64.wrap ((z : Int) / 256) = (z : Int) / 256 := IntWalk.i64_in _ (by omega)
                  have hwt : (z : Int).tdiv 256 = (z : Int) / 256 := Int.tdiv_eq_ediv_of_nonneg (Int.natCast_nonneg _)
                  go_simp
                  exact hK _ _ rfl (by simpa using hr)
                · intro L a w4 Kx hl hsz hs ht hr he hK
                  refine step_plain rfl ?_
                  have h105 : a.tmps.getD 105 undef = .int .i64 ((y : Int)) := ht 4 (he 4 (by kernel_rfl)) 105 rfl
                  have h110 : a.tmps.getD 110 undef = .int .i64 ((z : Int) / 256) := ht 9 (he 9 (by kernel_rfl)) 110 rfl
                  have hwr : IntKind.i64.wrap ((y : Int) + (z : Int) / 256) = ((y + z / 256 : Nat) : Int) := IntWalk.i64_in _ (by omega)
                  go_simp
                  exact hK _ _ rfl (by simpa using hr)
                · intro L a w4 Kx hl hsz hs ht hr he hK
                  refine step_plain rfl ?_
                  have h101 : a.tmps.getD 101 undef = .slice (some ⟨wo.heap.size, 0, none⟩) 18 18 := ht 0 (he 0 (by kernel_rfl)) 101 rfl
                  have h103 : a.tmps.getD 103 undef = .int .i64 ((k : Int) + 1) := ht 2 (he 2 (by kernel_rfl)) 103 rfl
                  go_simp
                  exact hK _ _ rfl (by simpa using hr)
                · intro L a w4 Kx hl hsz hs ht hr he hK
                  refine step_plain rfl ?_
                  have h112 : a.tmps.getD 112 undef = .pointer (some ⟨wo.heap.size, k + 1, none⟩) := ht 11 (he 11 (by kernel_rfl)) 112 rfl
                  have h111 : a.tmps.getD 111 undef = .int .i64 (((y + z / 256 : Nat) : Int)) := ht 10 (he 10 (by kernel_rfl)) 111 rfl
                  have hw4 := hr.1 hl
                  subst hw4
                  go_simp
                  refine hK undef _ trivial ⟨fun h => ?_, fun _ => rfl, fun _ => ?_⟩
                  · have h' : (L 12 || true) = false := h
                    rw [Bool.or_true] at h'
                    cases h'
                  · exact ⟨by show (L 4 || false) = true; rw [he 4 (by kernel_rfl)]; rfl, by show (L 8 || false) = true; rw [he 8 (by kernel_rfl)]; rfl⟩
              · intro f L w4 hf hall hr
                have hw4 := hr.2.1 (hall 12 (by decide))
                subst hw4
                clear hf hall hr
                simp only [List.foldl, Act.put, List.setIfInBounds_toArray, List.set_cons_zero, List.set_cons_succ]
                generalize f 101 = z101
                generalize f 102 = z102
                generalize f 103 = z103
                generalize f 104 = z104
                generalize f 105 = z105
                generalize f 106 = z106
                generalize f 107 = z107
                generalize f 108 = z108
                generalize f 109 = z109
                generalize f 110 = z110
                generalize f 111 = z111
                generalize f 112 = z112
                have HR3 := Lib.hid (HRC.out.drew.store (k + 1) (.int .i64 ((y + z / 256 : Nat) : Int)))
                rw [ints_set] at HR3
                have HB3 := Lib.hid (HBC.out.drew.setCell (p := ⟨wo.heap.size, k + 1, none⟩) (Nat.le_refl _) (.int .i64 ((y + z / 256 : Nat) : Int)))
                generalize wr.drew.setCell ⟨wo.heap.size, k + 1, none⟩ (.int .i64 ((y + z / 256 : Nat) : Int)) = w5 at HR3 HB3 ⊢
                clear c3 c4 f3 f4
                have f4 := HR3.out.free (i := k) (by simp)
                have c4 := HR3.out.cell (i := k) (by rw [List.getElem?_toArray]; exact ints_at _ _ (by rw [List.length_set, HLC.out]; omega))
                rw [HNE.out] at c4
                have hzm : (z : Int).tmod 256 = (z : Int) % 256 := Int.tmod_eq_emod_of_nonneg (Int.natCast_nonneg _)
                go_wp2_with fail
                go_roundw
                case rel => exact ⟨k + 1, by omega, by go_num, by rw [HST.out, ← ints_set]; exact HR3.out.store k _, HB3.out.setCell (Nat.le_refl _) _⟩
                case measure => simp [intOf]; omega
            · obtain rfl : k = 17 := by omega
              have HDC := Lib.hid (carrK_dig P HSM.out HLN.out HVA.out)
              have hlc := (carrK_length P 17).trans HLN.out
              have hdg := dig_row (cap := 18) HRC.out
              rw [hlc] at hdg
              have HLC := Lib.hid hlc
              have HDG := Lib.hid hdg
              clear hlc hdg
              generalize carrK P 17 = G at HRC HDC HLC HDG HC
              go_wp2_with fail
              refine (modulo_walk _ G HDC.out (by rw [HLC.out]; decide) _ HDG.out).mono ?_
              rintro e w6 ⟨v6, l6, rfl, h6, hd6, hv6, hl6, hb6⟩
              have HH := Lib.hid (show ∃ l : List Nat, DigAt w6 v6 l ∧ Dig l ∧ l.length ≤ 17 ∧ dV l = accN 1 text.data.toList (j + 1) from ⟨l6, h6, hd6, by omega, HC.out l6 hv6⟩)
              have HB6 := Lib.hid (bthen (bthen HBL.out HBC.out) hb6)
              clear h6 hd6 hv6 hl6 hb6 HC
              go_wp2_with fail
              go_roundw
              case rel =>
                obtain ⟨lq, h1, h2, h3, h4⟩ := HH.out
                exact ⟨j + 1, lq, by omega, congrArg (Value.int IntKind.i64) (by omega), h1, h2, h3, h4, HB6.out⟩
              case measure => simp [intOf]; omega
    · have hjt : (text.size + 15) / 16 = j := by omega
      have HW := Lib.hid (show wholeN 1 text.data.toList = dV l by
        unfold wholeN
        rw [show text.data.toList.length = text.size by rw [Array.length_toList]; rfl, hjt, HV.out])
      clear hjt
      rw [HW.out] at HR2
      have hdl : decide (16 * (j : Int) < (text.size : Int)) = false := decide_eq_false (by omega)
      have hmk := make_16
      obtain ⟨wo, hwo⟩ : ∃ wo : World, wo = wr := ⟨_, rfl⟩
      subst hwo
      go_wp2_with fail
      clear hmk
      go_loopw [124] (fun i wr => ∃ k : Nat, k ≤ 16 ∧ i = .int .i64 k ∧ RowAt wr wo.heap.size (cells (wantK (dV l) k)).toArray 5 (0, 0) ∧ Below wo.heap.size wo wr) (fun i _ => 16 - (intOf i).toNat)
      case atStart => exact ⟨0, Nat.zero_le _, rfl, RowAt.new wo _ _ _, (Below.refl _ _).alloc (Nat.le_refl _) _⟩
      case round =>
        obtain ⟨k, hk, rfl, hrow, hbel⟩ := hrel
        have HR := Lib.hid hrow
        have HB := Lib.hid hbel
        clear hrow hbel
        rcases Nat.lt_or_ge k 16 with hk16 | hk16
        · have HST := Lib.hid (wantK_set (dV l) k hk16)
          have f3 := HR.out.free (i := k) (by simp)
          have hxe := digit_of l HD.out k
          have hx := HD.out.get k
          rw [← hxe] at HST
          have HBC := Lib.hid (byte_cell (l.getD k 0))
          rcases Nat.lt_or_ge k l.length with hx1 | hx1
          · obtain ⟨ga, oa, rfl, hga, hca⟩ := HCL.out k hx1
            have c1 := (HB.out.cell (p := ⟨ga, oa + k, none⟩) hga).trans hca
            clear hca hxe
            generalize l.getD k 0 = x at c1 hx HST HBC
            have q18 : (k : Int) < 16 := by omega
            obtain ⟨v3, c3⟩ : ∃ v3, wr.cell? ⟨wo.heap.size, k, none⟩ = some v3 := ⟨_, HR.out.cell (i := k) (Array.getElem?_eq_getElem (by simp [cells_length, wantK_length _ _ hk]; exact hk16))⟩
            go_wp2_with fail
            go_roundw
            case rel => exact ⟨k + 1, by omega, by go_num, by rw [← HST.out, ← HBC.out]; first | exact HR.out.store k _ | (rw [BitVec.ofInt_natCast]; exact HR.out.store k _), HB.out.setCell (Nat.le_refl _) _⟩
            case measure => simp [intOf]; omega
          · have hx0 : l.getD k 0 = 0 := by rw [List.getD_eq_getElem?_getD, List.getElem?_eq_none hx1]; rfl
            have HS2 := Lib.hid (wantK_same (dV l) k hk16 (hxe.symm.trans hx0))
            clear hx0 hxe hx HST HBC
            go_wp2_with fail
            go_roundw
            case rel => exact ⟨k + 1, by omega, by go_num, by rw [← HS2.out]; exact HR.out, HB.out⟩
            case measure => simp [intOf]; omega
        · obtain rfl : k = 16 := by omega
          have HWB := Lib.hid (show ∀ w', Below wr.heap.size wr w' → (convert 38 9 (.slice (some ⟨wo.heap.size, 0, none⟩) 16 16)).run Try.prog w' = .ok (.string ⟨(wantK (dV l) 16).toArray⟩) w' from
            fun w' hb => run_str w' 38 5 Try.underlying38 Try.underlying5 9 Try.underlying9 wo.heap.size 16 16 _ _ _ (wantK (dV l) 16) (HR.out.below hb HR.out.lt).out (wantK_length _ _ (Nat.le_refl _)) (by rw [List.take_of_length_le (by rw [cells_length, wantK_length _ _ (Nat.le_refl _)]; exact Nat.le_refl _)]))
          have hI := Is.of (wantK (dV l) 16)
          have HCW := Lib.hid (bthen HC2.out (bthen HBL.out HB.out))
          have HBW := Lib.hid (bthen HB2.out (bthen HBL.out HB.out))
          generalize ByteArray.mk (wantK (dV l) 16).toArray = X at hI HWB
          rw [wantK_full] at hI
          have IX := Lib.hid hI
          have hxz : X.size ≤ 900 := by rw [hI.size, leN_length]; omega
          have HSB := Lib.hid (show ∀ w', Below wr.heap.size wr w' → (convert 38 9 (.slice (some ⟨w.heap.size, 0, none⟩) 16 16)).run Try.prog w' = .ok (.string S) w' from fun w' hb => HBM.out w' (bthen HCW.out hb))
          clear hI
          go_wp2_with fail
          have HLW := Lib.hid (show leN (leV (leN (dV l) 16) + leV s) 16 = leN (dV l + leV s) 16 by rw [leV_leN, ← leN_mod, Nat.mod_add_mod, leN_mod])
          refine region_table (by kernel_rfl) [140, 141, 142, 143, 144, 145, 146, 147, 148, 149, 150, 4]
            (fun i x_ => match i with
              | 0 => x_ = .int .i64 (0)
              | 1 => x_ = .bool true
              | 2 => x_ = .bool true
              | 3 => x_ = .string r2
              | 4 => x_ = .slice (some ⟨wo.heap.size, 0, none⟩) 16 16
              | 5 => x_ = .string X
              | 6 => x_ = .slice (some ⟨w.heap.size, 0, none⟩) 16 16
              | 7 => x_ = .string S
              | 8 => ∃ q, x_ = .string q ∧ Is q (leN (dV l + leV s) 16)
              | 9 => x_ = .bool true
              | 10 => x_ = .bool true
              | 11 => x_ = .bool true
              | _ => True) (fun _ _ w' => Below wr.heap.size wr w') (by kernel_rfl) (by kernel_rfl) rfl (by kernel_rfl) ((Below.refl _ _).drew) ?_ ?_
          · refine StepsOk.cons ?_ (StepsOk.cons ?_ (StepsOk.cons ?_ (StepsOk.cons ?_ (StepsOk.cons ?_ (StepsOk.cons ?_ (StepsOk.cons ?_ (StepsOk.cons ?_ (StepsOk.cons ?_ (StepsOk.cons ?_ (StepsOk.cons ?_ (StepsOk.cons ?_ StepsOk.nil)))))))))))
            · intro L a w4 Kx hl hsz hs ht hr he hK
              refine step_plain rfl ?_
              have h7 : a.tmps.getD 7 undef = .int .i64 (0) := (hs 7 (by decide)).trans rfl
              go_simp
              exact hK _ _ rfl hr
            · intro L a w4 Kx hl hsz hs ht hr he hK
              refine step_plain rfl ?_
              have h140 : a.tmps.getD 140 undef = .int .i64 (0) := ht 0 (he 0 (by kernel_rfl)) 140 rfl
              go_simp
              exact hK _ _ rfl hr
            · intro L a w4 Kx hl hsz hs ht hr he hK
              refine step_plain rfl ?_
              have h141 : a.tmps.getD 141 undef = .bool true := ht 1 (he 1 (by kernel_rfl)) 141 rfl
              go_simp
              exact hK _ _ rfl hr
            · intro L a w4 Kx hl hsz hs ht hr he hK
              have h142 : a.tmps.getD 142 undef = .bool (true) := ht 2 (he 2 (by kernel_rfl)) 142 rfl
              refine step_guard 2 true (true) 142 rfl rfl (by rw [hsz]; exact of_decide_eq_true (by kernel_rfl)) h142 ?_
              rw [if_pos rfl]
              have h6 : a.tmps.getD 6 undef = .string r2 := (hs 6 (by decide)).trans rfl
              go_simp
              exact hK _ _ rfl hr
            · intro L a w4 Kx hl hsz hs ht hr he hK
              have h142 : a.tmps.getD 142 undef = .bool (true) := ht 2 (he 2 (by kernel_rfl)) 142 rfl
              refine step_guard 2 true (true) 142 rfl rfl (by rw [hsz]; exact of_decide_eq_true (by kernel_rfl)) h142 ?_
              rw [if_pos rfl]
              have h14 : a.tmps.getD 14 undef = .slice (some ⟨wo.heap.size, 0, none⟩) 16 16 := (hs 14 (by decide)).trans rfl
              go_simp
              exact hK _ _ rfl hr
            · intro L a w4 Kx hl hsz hs ht hr he hK
              have h142 : a.tmps.getD 142 undef = .bool (true) := ht 2 (he 2 (by kernel_rfl)) 142 rfl
              refine step_guard 2 true (true) 142 rfl rfl (by rw [hsz]; exact of_decide_eq_true (by kernel_rfl)) h142 ?_
              rw [if_pos rfl]
              have h144 : a.tmps.getD 144 undef = .slice (some ⟨wo.heap.size, 0, none⟩) 16 16 := ht 4 (he 4 (by kernel_rfl)) 144 rfl
              have hcv := HWB.out w4 hr
              go_simp
              exact hK _ _ rfl hr
            · intro L a w4 Kx hl hsz hs ht hr he hK
              have h142 : a.tmps.getD 142 undef = .bool (true) := ht 2 (he 2 (by kernel_rfl)) 142 rfl
              refine step_guard 2 true (true) 142 rfl rfl (by rw [hsz]; exact of_decide_eq_true (by kernel_rfl)) h142 ?_
              rw [if_pos rfl]
              have h2 : a.tmps.getD 2 undef = .pointer (some ⟨w.heap.size, 0, none⟩) := (hs 2 (by decide)).trans rfl
              go_simp
              exact hK _ _ rfl hr
            · intro L a w4 Kx hl hsz hs ht hr he hK
              have h142 : a.tmps.getD 142 undef = .bool (true) := ht 2 (he 2 (by kernel_rfl)) 142 rfl
              refine step_guard 2 true (true) 142 rfl rfl (by rw [hsz]; exact of_decide_eq_true (by kernel_rfl)) h142 ?_
              rw [if_pos rfl]
              have h146 : a.tmps.getD 146 undef = .slice (some ⟨w.heap.size, 0, none⟩) 16 16 := ht 6 (he 6 (by kernel_rfl)) 146 rfl
              have hcv := HSB.out w4 hr
              go_simp
              exact hK _ _ rfl hr
            · intro L a w4 Kx hl hsz hs ht hr he hK
              have h142 : a.tmps.getD 142 undef = .bool (true) := ht 2 (he 2 (by kernel_rfl)) 142 rfl
              refine step_guard 2 true (true) 142 rfl rfl (by rw [hsz]; exact of_decide_eq_true (by kernel_rfl)) h142 ?_
              rw [if_pos rfl]
              have h145 : a.tmps.getD 145 undef = .string X := ht 5 (he 5 (by kernel_rfl)) 145 rfl
              have h147 : a.tmps.getD 147 undef = .string S := ht 7 (he 7 (by kernel_rfl)) 147 rfl
              go_simp
              refine (Sum_walk X S hxz (by omega) _).mono ?_
              rintro e w5 ⟨q9, rfl, hq9, hb9⟩
              rw [IX.out.out, IS.out.out, HLW.out] at hq9
              exact hK _ _ ⟨q9, rfl, hq9⟩ (hr.trans (hb9.mono hr.size))
            · intro L a w4 Kx hl hsz hs ht hr he hK
              have h142 : a.tmps.getD 142 undef = .bool (true) := ht 2 (he 2 (by kernel_rfl)) 142 rfl
              refine step_guard 2 true (true) 142 rfl rfl (by rw [hsz]; exact of_decide_eq_true (by kernel_rfl)) h142 ?_
              rw [if_pos rfl]
              have h143 : a.tmps.getD 143 undef = .string r2 := ht 3 (he 3 (by kernel_rfl)) 143 rfl
              obtain ⟨q9, h148, i148⟩ : ∃ q, a.tmps.getD 148 undef = .string q ∧ Is q (leN (dV l + leV s) 16) := ht 8 (he 8 (by kernel_rfl)) 148 rfl
              have hq1 : seq r2 q9 = true := seq_is HR2.out i148
              clear i148
              go_simp
              exact hK _ _ rfl hr
            · intro L a w4 Kx hl hsz hs ht hr he hK
              refine step_plain rfl ?_
              have h142 : a.tmps.getD 142 undef = .bool true := ht 2 (he 2 (by kernel_rfl)) 142 rfl
              have h149 : a.tmps.getD 149 undef = .bool true := ht 9 (he 9 (by kernel_rfl)) 149 rfl
              go_simp
              exact hK _ _ rfl hr
            · intro L a w4 Kx hl hsz hs ht hr he hK
              refine step_plain rfl ?_
              have h150 : a.tmps.getD 150 undef = .bool true := ht 10 (he 10 (by kernel_rfl)) 150 rfl
              go_simp
              exact hK _ _ rfl hr
          · intro f L w4 hf hall hr
            have h4 : f 4 = .bool true := hf 11 (by decide) 4 rfl
            simp only [List.foldl, Act.put, List.setIfInBounds_toArray, List.set_cons_zero, List.set_cons_succ]
            rw [h4]
            clear hf h4
            generalize f 140 = z140
            generalize f 141 = z141
            generalize f 142 = z142
            generalize f 143 = z143
            generalize f 144 = z144
            generalize f 145 = z145
            generalize f 146 = z146
            generalize f 147 = z147
            generalize f 148 = z148
            generalize f 149 = z149
            generalize f 150 = z150
            have HB9 := Lib.hid (bthen HBW.out hr)
            clear hr
            go_wp2_with fail
            go_ret
            exact ⟨rfl, HB9.out⟩

end Go.Proofs.Ytjcakokhfjlihaa

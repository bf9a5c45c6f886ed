/-
Reference 02 (sha): choice, most.
Reference 02 (sha): First, Table, Mix.
Reference 02 (sha): Pad, Sum.
Reference 03 (mac): block, Sum, Expand, Derive.
-/
import Derived.Outline
import Derived.Deep.LoopGhost
import Derived.Test.YtfglhemmccihfaaMa
import Derived.Test.YtfglhemmccihfaaMb
import Derived.Test.YtfglhemmccihfaaMi
import Derived.Test.YtfglhemmccihfaaMl
import Derived.Test.YtfglhemmccihfaaMn
namespace Go.Proofs.Ytfglhemmccihfaa
open Go.RowKit

set_option maxHeartbeats 400000 in
theorem choice_walk (e f g : BitVec 32) (w : World) : Calls Try.prog 124 #[.int .u32 (bvi e), .int .u32 (bvi f), .int .u32 (bvi g)] w fun r w' => r = .returned (.int .u32 (bvi (chooseB e f g))) ∧ w = w' := by
  rw [← chooseB_ref]
  go_enter Try.func124, Try.ntmps124
  go_wp2_with fail
  go_ret
  exact ⟨rfl, rfl⟩
set_option maxHeartbeats 400000 in
theorem most_walk (a b c : BitVec 32) (w : World) : Calls Try.prog 125 #[.int .u32 (bvi a), .int .u32 (bvi b), .int .u32 (bvi c)] w fun r w' => r = .returned (.int .u32 (bvi (majorB a b c))) ∧ w = w' := by
  rw [← majorB_ref]
  go_enter Try.func125, Try.ntmps125
  go_wp2_with fail
  go_ret
  exact ⟨rfl, rfl⟩
end Go.Proofs.Ytfglhemmccihfaa
namespace Go.Proofs.Ytfglhemmccihfaa
open Go.RowKit

/-- v is a slice of the words l, at the head of a block. -/
def WdAt (w : World) (v : Value) (l : List (BitVec 32)) : Prop := ∃ g cap, v = .slice (some ⟨g, 0, none⟩) l.length cap ∧ g < w.heap.size ∧ ∀ i, i < l.length → w.cell? ⟨g, i, none⟩ = some (.int .u32 (bvi (l.getD i 0)))
theorem WdAt.below {w w' : World} {v : Value} {l : List (BitVec 32)} (h : WdAt w v l) (hb : Below w.heap.size w w') : WdAt w' v l := by
  obtain ⟨g, cap, hv, hg, hc⟩ := h
  exact ⟨g, cap, hv, Nat.lt_of_lt_of_le hg hb.size, fun i hi => (hb.cell (p := ⟨g, i, none⟩) hg).trans (hc i hi)⟩
theorem WdAt.row {w : World} {g cap : Nat} {l : List (BitVec 32)} {T : TypeId} (h : RowAt w g (words l).toArray T (0, 0)) : WdAt w (.slice (some ⟨g, 0, none⟩) l.length cap) l :=
  ⟨g, cap, rfl, h.lt, fun i hi => h.cell (wordsS_at l i hi)⟩
set_option maxRecDepth 100000 in
set_option maxHeartbeats 400000 in
theorem RFirst_walk (w : World) : Calls Try.prog 108 #[] w fun e w' => e = .returned (.slice (some ⟨w.heap.size, 0, none⟩) 8 8) ∧ w.alloc (.cells (words firstS).toArray 62) = w' := by
  go_enter Try.func108, Try.ntmps108
  go_wp2_with fail
  go_ret
  exact ⟨rfl, rfl⟩
set_option maxRecDepth 100000 in
set_option maxHeartbeats 400000 in
theorem RTable_walk (w : World) : Calls Try.prog 123 #[] w fun e w' => e = .returned (.slice (some ⟨w.heap.size, 0, none⟩) 64 64) ∧ w.alloc (.cells (words tableS).toArray 62) = w' := by
  obtain ⟨i0, hi, hz0, hz1, hz2⟩ := info_parts infoU32
  go_enter Try.func123, Try.ntmps123
  go_wp2_with (with_reducible refine wpList_buildSlice rfl 116 62 64 _ rfl (words tableS).toArray i0 (.int .u32 0) ?h1 hi hz0 ?h2 ?h3 ?h4 ?_)
  case h1 => exact Try.underlying116
  case h2 => rw [hz1]; decide
  case h3 => rw [hz1]; decide
  case h4 => kernel_rfl
  go_ret
  exact ⟨rfl, rfl⟩
set_option maxRecDepth 100000 in
set_option maxHeartbeats 400000 in
theorem RMix_no (v : Value) (s : ByteArray) (h : s.size ≠ 64) (w : World) :
    Calls Try.prog 109 #[v, .string s] w fun e w' => e = .returned (.tuple #[.slice (some ⟨w.heap.size, 0, none⟩) 8 8, .int .i64 5]) ∧ w.alloc (.cells (words zero8).toArray 62) = w' := by
  have hne : ((s.size : Int) != 64) = true := by simp; omega
  have hmk : ∀ wx, (Instr.makeSlice 116 (.int .i64 8) (.int .i64 8)).run Try.prog wx = .ok (.slice (some ⟨wx.heap.size, 0, none⟩) 8 8) (wx.alloc (.cells (words zero8).toArray 62)) := fun _ => by kernel_rfl
  clear h
  go_enter Try.func109, Try.ntmps109
  go_wp2_with fail
  go_ret2
  exact ⟨rfl, rfl⟩

theorem words_snoc (l : List (BitVec 32)) (x : BitVec 32) : words l ++ [.int .u32 (bvi x)] = words (l ++ [x]) := by simp [words, u32c]
theorem addK_eight (st V : List (BitVec 32)) (h : st.length = 8) : addK st V 8 = [st.getD 0 0 + V.getD 0 0, st.getD 1 0 + V.getD 1 0, st.getD 2 0 + V.getD 2 0, st.getD 3 0 + V.getD 3 0, st.getD 4 0 + V.getD 4 0, st.getD 5 0 + V.getD 5 0, st.getD 6 0 + V.getD 6 0, st.getD 7 0 + V.getD 7 0] := by
  match st, h with
  | [a, b, c, d, e, f, g, i], _ => rfl
/-- The words so far, and one more. -/
def Grew (w wr : World) (l : List (BitVec 32)) (v : Value) (w' : World) : Prop := w'.ownsRow w.heap.size 62 1 v l.length (words l) ∧ Below w.heap.size wr w'
set_option maxRecDepth 100000 in
set_option maxHeartbeats 2000000 in
theorem RMix_ok (v : Value) (st : List (BitVec 32)) (hst : st.length = 8) (s : ByteArray) (h : s.size = 64) (w : World) (hv : WdAt w v st) :
    Calls Try.prog 109 #[v, .string s] w fun e w' => ∃ v', e = .returned (.tuple #[v', .int .i64 0]) ∧ WdAt w' v' (mixS st s.data.toList) ∧ Below w.heap.size w w' := by
  have hne : ((s.size : Int) != 64) = false := by rw [h]; rfl
  obtain ⟨g, cap, rfl, hg, hcell⟩ := hv
  rw [hst] at hcell ⊢
  have HL := Lib.hid hst
  have HS := Lib.hid h
  have HC := Lib.hid hcell
  clear h hst hcell
  go_enter Try.func109, Try.ntmps109
  go_wp2_with fail
  have HO0 := Lib.hid (owns_zero w 62 (Nat.le_refl w.heap.size))
  go_loopw [6, 7] (fun v i wr => ∃ k : Nat, k ≤ 64 ∧ i = .int .i64 k ∧ wr.ownsRow w.heap.size 62 1 v k (words (schedK s.data.toList k)) ∧ Below w.heap.size w wr) (fun _ i _ => 64 - (intOf i).toNat)
  case atStart => exact ⟨0, Nat.zero_le _, rfl, HO0.out, (Below.refl _ _).alloc (Nat.le_refl _) _⟩
  case round =>
    obtain ⟨k, hk, rfl, how, hbel⟩ := hrel
    have HOW := Lib.hid how
    have HB := Lib.hid hbel
    have HLK := Lib.hid (schedK_length s.data.toList k)
    have zw := hbel.size
    rcases Nat.lt_or_ge k 64 with hlt | hge
    · have h64 : decide ((k : Int) < 64) = true := decide_eq_true (by omega)
      rcases Nat.lt_or_ge k 16 with h16 | h16
      · have hd : decide ((k : Int) < 16) = true := decide_eq_true (by omega)
        have hx := (Is.self s).extract (4 * k) (4 * k + 4)
        rw [show 4 * k + 4 - 4 * k = 4 by omega] at hx
        have hxs : (s.extract (4 * k) (4 * k + 4)).size ≤ 8 := by rw [ByteArray.size_extract]; omega
        have HX := Lib.hid hx
        have HN := Lib.hid (show schedK s.data.toList (k + 1) = schedK s.data.toList k ++ [numHi s.data.toList k] by rw [schedK, if_pos h16])
        have hz : 4 * k + 4 ≤ s.size := by rw [HS.out]; omega
        clear hx how hbel
        go_wp2_with fail
        refine (RFromHigh_ok _ hxs _).mono ?_
        rintro e w2 ⟨rfl, rfl⟩
        rw [HX.out.out]
        have how2 := HOW.out
        go_wp2_with (at_builtin; refine append_one rfl _ _ 116 rfl wr w.heap.size 62 (.int .u32 0) 4 Try.underlying116 infoU32 rfl how2 rfl _ rfl rfl ?c1 ?c2 ?c3 ?_)
        case c1 => omega
        case c2 => omega
        case c3 => omega
        intro v' w3 hown3 hb3 _ _
        go_wp2_with fail
        go_roundw
        case rel =>
          refine ⟨k + 1, by omega, by go_num, ?_, HB.out.trans hb3⟩
          rw [HN.out, ← words_snoc]
          exact hown3
        case measure => simp [intOf]; omega
      · have hd : decide ((k : Int) < 16) = false := decide_eq_false (by omega)
        obtain ⟨i1, i2, i3, i4, hi1, hi2, hi3, hi4⟩ : ∃ i1 i2 i3 i4 : Nat, k = i1 + 15 ∧ k = i2 + 2 ∧ k = i3 + 16 ∧ k = i4 + 7 := ⟨k - 15, k - 2, k - 16, k - 7, by omega, by omega, by omega, by omega⟩
        have hnx : schedK s.data.toList (k + 1) = schedK s.data.toList k ++ [nextW (schedK s.data.toList k) k] := by rw [schedK, if_neg (by omega)]
        rw [nextW, show k - 16 = i3 by omega, show k - 15 = i1 by omega, show k - 7 = i4 by omega, show k - 2 = i2 by omega] at hnx
        have hsl := sliceAt_own how (by rw [HLK.out]; omega)
        obtain ⟨g2, cap2, rfl, hg2, hlt2, hcap2, hc2, _⟩ := hsl.lt
        rw [HLK.out] at hc2 hcap2 ⊢
        have c1 := hc2 i1 (by omega)
        have c2 := hc2 i2 (by omega)
        have c3 := hc2 i3 (by omega)
        have c4 := hc2 i4 (by omega)
        generalize (schedK s.data.toList k).getD i1 0 = x1 at c1 hnx
        generalize (schedK s.data.toList k).getD i2 0 = x2 at c2 hnx
        generalize (schedK s.data.toList k).getD i3 0 = x3 at c3 hnx
        generalize (schedK s.data.toList k).getD i4 0 = x4 at c4 hnx
        have HNX := Lib.hid hnx
        have HOW2 := Lib.hid (show wr.ownsRow w.heap.size 62 1 (.slice (some ⟨g2, 0, none⟩) k cap2) k (words (schedK s.data.toList k)) by rw [HLK.out] at how; exact how)
        have e15 : (k : Int) - 15 = (i1 : Int) := by omega
        have e02 : (k : Int) - 2 = (i2 : Int) := by omega
        have b1 : i1 < k := by omega
        have b2 : i2 < k := by omega
        have b3 : i3 < k := by omega
        have b4 : i4 < k := by omega
        have b5 : (i1 : Int) < k := by omega
        have b6 : (i2 : Int) < k := by omega
        have b7 : (i3 : Int) < k := by omega
        have b8 : (i4 : Int) < k := by omega
        have HI3 := Lib.hid hi3
        have HI4 := Lib.hid hi4
        clear hi1 hi2 hi3 hi4 hnx hsl hc2 how hbel HOW
        go_wp2_with fail
        clear e15 e02
        refine (RRight_walk x1 7 _).mono ?_
        rintro e wq1 ⟨rfl, rfl⟩
        go_wp2_with fail
        refine (RRight_walk x1 18 _).mono ?_
        rintro e wq2 ⟨rfl, rfl⟩
        go_wp2_with fail
        refine (RRight_walk x2 17 _).mono ?_
        rintro e wq3 ⟨rfl, rfl⟩
        go_wp2_with fail
        refine (RRight_walk x2 19 _).mono ?_
        rintro e wq4 ⟨rfl, rfl⟩
        go_wp2_with fail
        obtain ⟨y0, hy0⟩ : ∃ y, y = rorI x1 7 ^^^ rorI x1 18 ^^^ x1 / 8#32 := ⟨_, rfl⟩
        obtain ⟨y1, hy1⟩ : ∃ y, y = rorI x2 17 ^^^ rorI x2 19 ^^^ x2 / 1024#32 := ⟨_, rfl⟩
        rw [← hy0, ← hy1]
        have HNY := Lib.hid (show schedK s.data.toList (k + 1) = schedK s.data.toList k ++ [x3 + y0 + x4 + y1] by rw [HNX.out, hy0, hy1, shr_three, shr_ten]; rfl)
        clear hy0 hy1 HNX
        refine region_anc (by kernel_rfl) [79, 80, 81, 82, 83, 84, 85, 86, 87, 88, 89, 90, 91, 92, 93, 94, 95, 96, 6]
          (fun i x_ => match i with
            | 0 => x_ = .slice (some ⟨g2, 0, none⟩) k cap2
            | 1 => x_ = .slice (some ⟨g2, 0, none⟩) k cap2
            | 2 => x_ = .int .i64 ((k : Int))
            | 3 => x_ = .int .i64 ((i3 : Int))
            | 4 => x_ = .pointer (some ⟨g2, i3, none⟩)
            | 5 => x_ = .int .u32 (bvi (x3))
            | 6 => x_ = .int .u32 (bvi (y0))
            | 7 => x_ = .int .u32 (bvi (x3 + y0))
            | 8 => x_ = .slice (some ⟨g2, 0, none⟩) k cap2
            | 9 => x_ = .int .i64 ((k : Int))
            | 10 => x_ = .int .i64 ((i4 : Int))
            | 11 => x_ = .pointer (some ⟨g2, i4, none⟩)
            | 12 => x_ = .int .u32 (bvi (x4))
            | 13 => x_ = .int .u32 (bvi ((x3 + y0) + x4))
            | 14 => x_ = .int .u32 (bvi (y1))
            | 15 => x_ = .int .u32 (bvi (((x3 + y0) + x4) + y1))
            | 16 => x_ = .slice (some ⟨wr.heap.size, 0, none⟩) 1 1
            | 17 => True
            | 18 => True
            | _ => True) (fun L sl w' => (L 16 = false → w' = wr.drew) ∧ (L 16 = true → L 17 = false → w' = wr.drew.alloc (.cells #[.int .u32 (bvi (x3 + y0 + x4 + y1))] 62)) ∧ (L 17 = true → Grew w wr (schedK s.data.toList (k + 1)) (sl 96) w') ∧ (L 18 = true → sl 6 = sl 96) ∧ (L 18 = false → sl 6 = .slice (some ⟨g2, 0, none⟩) k cap2)) (by kernel_rfl) (by kernel_rfl) rfl (by kernel_rfl) (⟨fun _ => rfl, (fun h => by cases h), (fun h => by cases h), (fun h => by cases h), fun _ => rfl⟩) ?_ ?_
        · refine StepsOk2.cons ?_ (StepsOk2.cons ?_ (StepsOk2.cons ?_ (StepsOk2.cons ?_ (StepsOk2.cons ?_ (StepsOk2.cons ?_ (StepsOk2.cons ?_ (StepsOk2.cons ?_ (StepsOk2.cons ?_ (StepsOk2.cons ?_ (StepsOk2.cons ?_ (StepsOk2.cons ?_ (StepsOk2.cons ?_ (StepsOk2.cons ?_ (StepsOk2.cons ?_ (StepsOk2.cons ?_ (StepsOk2.cons ?_ (StepsOk2.cons ?_ (StepsOk2.cons ?_ StepsOk2.nil))))))))))))))))))
          · intro L a w4 Kx hl hsz hs ht hr he hcl hK
            refine step_plain rfl ?_
            have hx18 : L 18 = false := by
              cases hy : L 18 with
              | false => rfl
              | true => have := hcl 18 0 (by kernel_rfl) hy; rw [hl] at this; cases this
            have h6 : a.tmps.getD 6 undef = .slice (some ⟨g2, 0, none⟩) k cap2 := hr.2.2.2.2 hx18
            go_simp
            exact hK _ _ rfl (by simpa [slot_ne] using hr)
          · intro L a w4 Kx hl hsz hs ht hr he hcl hK
            refine step_plain rfl ?_
            have hx18 : L 18 = false := by
              cases hy : L 18 with
              | false => rfl
              | true => have := hcl 18 1 (by kernel_rfl) hy; rw [hl] at this; cases this
            have h6 : a.tmps.getD 6 undef = .slice (some ⟨g2, 0, none⟩) k cap2 := hr.2.2.2.2 hx18
            go_simp
            exact hK _ _ rfl (by simpa [slot_ne] using hr)
          · intro L a w4 Kx hl hsz hs ht hr he hcl hK
            refine step_plain rfl ?_
            have h7 : a.tmps.getD 7 undef = .int .i64 ((k : Int)) := (hs 7 (by decide)).trans rfl
            go_simp
            exact hK _ _ rfl (by simpa [slot_ne] using hr)
          · intro L a w4 Kx hl hsz hs ht hr he hcl hK
            refine step_plain rfl ?_
            have h81 : a.tmps.getD 81 undef = .int .i64 ((k : Int)) := ht 2 (he 2 (by kernel_rfl)) 81 rfl
            have hE := HI3.out
            have hwr : IntKind.i64.wrap ((k : Int) - 16) = (i3 : Int) := (IntWalk.i64_in _ (by omega)).trans (by omega)
            clear hE
            go_simp
            exact hK _ _ rfl (by simpa [slot_ne] using hr)
          · intro L a w4 Kx hl hsz hs ht hr he hcl hK
            refine step_plain rfl ?_
            have h80 : a.tmps.getD 80 undef = .slice (some ⟨g2, 0, none⟩) k cap2 := ht 1 (he 1 (by kernel_rfl)) 80 rfl
            have h82 : a.tmps.getD 82 undef = .int .i64 ((i3 : Int)) := ht 3 (he 3 (by kernel_rfl)) 82 rfl
            go_simp
            exact hK _ _ rfl (by simpa [slot_ne] using hr)
          · intro L a w4 Kx hl hsz hs ht hr he hcl hK
            refine step_plain rfl ?_
            have h83 : a.tmps.getD 83 undef = .pointer (some ⟨g2, i3, none⟩) := ht 4 (he 4 (by kernel_rfl)) 83 rfl
            have hx : L 16 = false := by
              cases hy : L 16 with
              | false => rfl
              | true => have := hcl 7 5 (by kernel_rfl) (hcl 13 7 (by kernel_rfl) (hcl 15 13 (by kernel_rfl) (hcl 16 15 (by kernel_rfl) hy))); rw [hl] at this; cases this
            have hx17 : L 17 = false := by
              cases hy : L 17 with
              | false => rfl
              | true => have := hcl 17 16 (by kernel_rfl) hy; rw [hx] at this; cases this
            have hw4 := hr.1 hx
            subst hw4
            go_simp
            refine hK _ _ rfl ⟨fun _ => rfl, fun h => ?_, fun h => ?_, by simpa [slot_ne] using hr.2.2.2⟩
            · have h' : (L 16 || false) = true := h
              rw [hx] at h'
              cases h'
            · have h' : (L 17 || false) = true := h
              rw [hx17] at h'
              cases h'
          · intro L a w4 Kx hl hsz hs ht hr he hcl hK
            refine step_plain rfl ?_
            have h12 : a.tmps.getD 12 undef = .int .u32 (bvi (y0)) := (hs 12 (by decide)).trans rfl
            go_simp
            exact hK _ _ rfl (by simpa [slot_ne] using hr)
          · intro L a w4 Kx hl hsz hs ht hr he hcl hK
            refine step_plain rfl ?_
            have h84 : a.tmps.getD 84 undef = .int .u32 (bvi (x3)) := ht 5 (he 5 (by kernel_rfl)) 84 rfl
            have h85 : a.tmps.getD 85 undef = .int .u32 (bvi (y0)) := ht 6 (he 6 (by kernel_rfl)) 85 rfl
            go_simp
            exact hK _ _ rfl (by simpa [slot_ne] using hr)
          · intro L a w4 Kx hl hsz hs ht hr he hcl hK
            refine step_plain rfl ?_
            have hx18 : L 18 = false := by
              cases hy : L 18 with
              | false => rfl
              | true => have := hcl 18 8 (by kernel_rfl) hy; rw [hl] at this; cases this
            have h6 : a.tmps.getD 6 undef = .slice (some ⟨g2, 0, none⟩) k cap2 := hr.2.2.2.2 hx18
            go_simp
            exact hK _ _ rfl (by simpa [slot_ne] using hr)
          · intro L a w4 Kx hl hsz hs ht hr he hcl hK
            refine step_plain rfl ?_
            have h7 : a.tmps.getD 7 undef = .int .i64 ((k : Int)) := (hs 7 (by decide)).trans rfl
            go_simp
            exact hK _ _ rfl (by simpa [slot_ne] using hr)
          · intro L a w4 Kx hl hsz hs ht hr he hcl hK
            refine step_plain rfl ?_
            have h88 : a.tmps.getD 88 undef = .int .i64 ((k : Int)) := ht 9 (he 9 (by kernel_rfl)) 88 rfl
            have hE := HI4.out
            have hwr : IntKind.i64.wrap ((k : Int) - 7) = (i4 : Int) := (IntWalk.i64_in _ (by omega)).trans (by omega)
            clear hE
            go_simp
            exact hK _ _ rfl (by simpa [slot_ne] using hr)
          · intro L a w4 Kx hl hsz hs ht hr he hcl hK
            refine step_plain rfl ?_
            have h87 : a.tmps.getD 87 undef = .slice (some ⟨g2, 0, none⟩) k cap2 := ht 8 (he 8 (by kernel_rfl)) 87 rfl
            have h89 : a.tmps.getD 89 undef = .int .i64 ((i4 : Int)) := ht 10 (he 10 (by kernel_rfl)) 89 rfl
            go_simp
            exact hK _ _ rfl (by simpa [slot_ne] using hr)
          · intro L a w4 Kx hl hsz hs ht hr he hcl hK
            refine step_plain rfl ?_
            have h90 : a.tmps.getD 90 undef = .pointer (some ⟨g2, i4, none⟩) := ht 11 (he 11 (by kernel_rfl)) 90 rfl
            have hx : L 16 = false := by
              cases hy : L 16 with
              | false => rfl
              | true => have := hcl 13 12 (by kernel_rfl) (hcl 15 13 (by kernel_rfl) (hcl 16 15 (by kernel_rfl) hy)); rw [hl] at this; cases this
            have hx17 : L 17 = false := by
              cases hy : L 17 with
              | false => rfl
              | true => have := hcl 17 16 (by kernel_rfl) hy; rw [hx] at this; cases this
            have hw4 := hr.1 hx
            subst hw4
            go_simp
            refine hK _ _ rfl ⟨fun _ => rfl, fun h => ?_, fun h => ?_, by simpa [slot_ne] using hr.2.2.2⟩
            · have h' : (L 16 || false) = true := h
              rw [hx] at h'
              cases h'
            · have h' : (L 17 || false) = true := h
              rw [hx17] at h'
              cases h'
          · intro L a w4 Kx hl hsz hs ht hr he hcl hK
            refine step_plain rfl ?_
            have h86 : a.tmps.getD 86 undef = .int .u32 (bvi (x3 + y0)) := ht 7 (he 7 (by kernel_rfl)) 86 rfl
            have h91 : a.tmps.getD 91 undef = .int .u32 (bvi (x4)) := ht 12 (he 12 (by kernel_rfl)) 91 rfl
            go_simp
            exact hK _ _ rfl (by simpa [slot_ne] using hr)
          · intro L a w4 Kx hl hsz hs ht hr he hcl hK
            refine step_plain rfl ?_
            have h13 : a.tmps.getD 13 undef = .int .u32 (bvi (y1)) := (hs 13 (by decide)).trans rfl
            go_simp
            exact hK _ _ rfl (by simpa [slot_ne] using hr)
          · intro L a w4 Kx hl hsz hs ht hr he hcl hK
            refine step_plain rfl ?_
            have h92 : a.tmps.getD 92 undef = .int .u32 (bvi ((x3 + y0) + x4)) := ht 13 (he 13 (by kernel_rfl)) 92 rfl
            have h93 : a.tmps.getD 93 undef = .int .u32 (bvi (y1)) := ht 14 (he 14 (by kernel_rfl)) 93 rfl
            go_simp
            exact hK _ _ rfl (by simpa [slot_ne] using hr)
          · intro L a w4 Kx hl hsz hs ht hr he hcl hK
            refine step_plain rfl ?_
            have h94 : a.tmps.getD 94 undef = .int .u32 (bvi (((x3 + y0) + x4) + y1)) := ht 15 (he 15 (by kernel_rfl)) 94 rfl
            have hx17 : L 17 = false := by
              cases hy : L 17 with
              | false => rfl
              | true => have := hcl 17 16 (by kernel_rfl) hy; rw [hl] at this; cases this
            have hw4 := hr.1 hl
            subst hw4
            obtain ⟨i0, hi, hz0, hz1, hz2⟩ := info_parts infoU32
            refine wp_buildSlice 116 62 1 _ rfl #[.int .u32 (bvi (x3 + y0 + x4 + y1))] i0 (.int .u32 0) Try.underlying116 hi hz0 (by rw [hz1]; decide) (by rw [hz1]; decide) ?_ (hK _ _ rfl ⟨fun h => ?_, fun _ _ => rfl, fun h => ?_, by simpa [slot_ne] using hr.2.2.2⟩)
            · rw [hz1, Array.toList_map]
              show Instr.fill _ _ [(0, a.tmps.getD 94 undef)] = _
              rw [h94]
              kernel_rfl
            · have h' : (L 16 || true) = false := h
              rw [Bool.or_true] at h'
              cases h'
            · have h' : (L 17 || false) = true := h
              rw [hx17] at h'
              cases h'
          · intro L a w4 Kx hl hsz hs ht hr he hcl hK
            have h79 : a.tmps.getD 79 undef = .slice (some ⟨g2, 0, none⟩) k cap2 := ht 0 (he 0 (by kernel_rfl)) 79 rfl
            have h95 : a.tmps.getD 95 undef = .slice (some ⟨wr.heap.size, 0, none⟩) 1 1 := ht 16 (he 16 (by kernel_rfl)) 95 rfl
            have hx18 : L 18 = false := by
              cases hy : L 18 with
              | false => rfl
              | true => have := hcl 18 17 (by kernel_rfl) hy; rw [hl] at this; cases this
            have hw4 := hr.2.1 (he 16 (by kernel_rfl)) hl
            subst hw4
            refine step_append_one rfl (.tmp 79) (.tmp 95) 116 rfl wr.drew w.heap.size 62 (.int .u32 0) 4 Try.underlying116 infoU32 rfl HOW2.out (show a.eval (.tmp 79) = _ from h79) (.int .u32 (bvi (x3 + y0 + x4 + y1))) (show a.eval (.tmp 95) = _ from h95) rfl (by omega) (by omega) zw ?_
            intro v' w5 hown5 hb5 _ _
            refine hK _ _ trivial ⟨fun h => ?_, fun _ h => ?_, fun _ => ⟨?_, (Below.drew (Below.refl _ _)).trans hb5⟩, fun h => ?_, by simpa [slot_ne] using hr.2.2.2.2⟩
            · have h' : (L 16 || false) = false := h
              rw [he 16 (by kernel_rfl)] at h'
              cases h'
            · have h' : (L 17 || true) = false := h
              rw [Bool.or_true] at h'
              cases h'
            · rw [slot_out (by rw [hsz]; exact of_decide_eq_true (by kernel_rfl)), HNY.out, List.length_append, HLK.out, ← words_snoc]
              exact hown5
            · have h' : (L 18 || false) = true := h
              rw [hx18] at h'
              cases h'
          · intro L a w4 Kx hl hsz hs ht hr he hcl hK
            refine step_plain rfl ?_
            obtain ⟨v96, h96⟩ : ∃ v, a.tmps.getD 96 undef = v := ⟨_, rfl⟩
            go_simp
            refine hK _ _ trivial ⟨by simpa using hr.1, by simpa using hr.2.1, by simpa [slot_ne] using hr.2.2.1, fun _ => ?_, fun h => ?_⟩
            · rw [slot_out (by rw [hsz]; exact of_decide_eq_true (by kernel_rfl)), slot_ne _ _ _ _ (by decide)]
              exact h96.symm
            · have h' : (L 18 || true) = false := h
              rw [Bool.or_true] at h'
              cases h'
        · intro f L w4 hf hall hr
          obtain ⟨hg1, hg2'⟩ := hr.2.2.1 (hall 17 (by decide))
          have h6 := hr.2.2.2.1 (hall 18 (by decide))
          rw [← h6] at hg1
          clear h6
          simp only [List.foldl, Act.put, List.setIfInBounds_toArray, List.set_cons_zero, List.set_cons_succ]
          clear hf
          generalize f 79 = z79
          generalize f 80 = z80
          generalize f 81 = z81
          generalize f 82 = z82
          generalize f 83 = z83
          generalize f 84 = z84
          generalize f 85 = z85
          generalize f 86 = z86
          generalize f 87 = z87
          generalize f 88 = z88
          generalize f 89 = z89
          generalize f 90 = z90
          generalize f 91 = z91
          generalize f 92 = z92
          generalize f 93 = z93
          generalize f 94 = z94
          generalize f 95 = z95
          generalize f 96 = z96
          generalize f 6 = z6 at hg1 ⊢
          have HG1 := Lib.hid hg1
          have HG2 := Lib.hid hg2'
          clear hg1 hg2' hall hr
          go_wp2_with fail
          go_roundw
          case rel => exact ⟨k + 1, by omega, by go_num, by have := HG1.out; rwa [schedK_length] at this, HB.out.trans HG2.out⟩
          case measure => simp [intOf]; omega
    · obtain rfl : k = 64 := by omega
      have hsl := sliceAt_own how (by rw [HLK.out]; omega)
      obtain ⟨W, hW⟩ : ∃ W, W = schedK s.data.toList 64 := ⟨_, rfl⟩
      rw [← hW] at hsl
      have HLW := Lib.hid (show W.length = 64 by rw [hW]; exact schedK_length _ _)
      have HM := Lib.hid (show mixS st s.data.toList = addK st (roundsK st W 64) 8 by rw [hW]; rfl)
      obtain ⟨T, hT⟩ : ∃ T, T = tableS := ⟨_, rfl⟩
      have HT := Lib.hid hT
      have HLT := Lib.hid (show T.length = 64 by rw [hT]; rfl)
      obtain ⟨g2, cap2, rfl, hg2, hlt2, hcap2, hc2, _⟩ := hsl.lt
      rw [HLW.out] at hc2 hcap2 ⊢
      have HC2 := Lib.hid hc2
      have h64 : decide (((64 : Nat) : Int) < 64) = false := rfl
      clear hW hsl hc2 how hbel HOW
      go_wp2_with fail
      refine (RTable_walk _).mono ?_
      rintro e w2 ⟨rfl, rfl⟩
      rw [← hT]
      have hb2 : Below wr.heap.size wr (wr.alloc (.cells (words T).toArray 62)) := (Below.refl _ _).alloc (Nat.le_refl _) _
      have HTr := Lib.hid (RowAt.new wr (words T).toArray 62 (0, 0))
      have HCT := Lib.hid (show ∀ i, i < 64 → (wr.alloc (.cells (words T).toArray 62)).cell? ⟨g2, i, none⟩ = some (.int .u32 (bvi (W.getD i 0))) from fun i hi => (hb2.cell (p := ⟨g2, i, none⟩) hlt2).trans (HC2.out i hi))
      have HCS := Lib.hid (show ∀ i, i < 8 → (wr.alloc (.cells (words T).toArray 62)).cell? ⟨g, i, none⟩ = some (.int .u32 (bvi (st.getD i 0))) from fun i hi => ((bthen HB.out hb2).cell (p := ⟨g, i, none⟩) hg).trans (HC.out i hi))
      have HB2 := Lib.hid (bthen HB.out hb2)
      have zt : wr.heap.size < (wr.alloc (.cells (words T).toArray 62)).heap.size := by simp
      have zt2 : g2 < (wr.alloc (.cells (words T).toArray 62)).heap.size := by simp; omega
      have zt3 : g < (wr.alloc (.cells (words T).toArray 62)).heap.size := by simp; omega
      generalize wr.alloc (.cells (words T).toArray 62) = w2 at HTr HCT HCS HB2 zt zt2 zt3 ⊢
      generalize wr.heap.size = tb at HTr zt ⊢
      clear HB HC2 hT hb2 hlt2 zw
      obtain ⟨x0, e0⟩ : ∃ x, st.getD 0 0 = x := ⟨_, rfl⟩
      have c0 : w2.cell? ⟨g, 0, none⟩ = some (.int .u32 (bvi x0)) := by rw [← e0]; exact HCS.out 0 (by decide)
      have E0 := Lib.hid e0
      clear e0
      obtain ⟨x1, e1⟩ : ∃ x, st.getD 1 0 = x := ⟨_, rfl⟩
      have c1 : w2.cell? ⟨g, 1, none⟩ = some (.int .u32 (bvi x1)) := by rw [← e1]; exact HCS.out 1 (by decide)
      have E1 := Lib.hid e1
      clear e1
      obtain ⟨x2, e2⟩ : ∃ x, st.getD 2 0 = x := ⟨_, rfl⟩
      have c2 : w2.cell? ⟨g, 2, none⟩ = some (.int .u32 (bvi x2)) := by rw [← e2]; exact HCS.out 2 (by decide)
      have E2 := Lib.hid e2
      clear e2
      obtain ⟨x3, e3⟩ : ∃ x, st.getD 3 0 = x := ⟨_, rfl⟩
      have c3 : w2.cell? ⟨g, 3, none⟩ = some (.int .u32 (bvi x3)) := by rw [← e3]; exact HCS.out 3 (by decide)
      have E3 := Lib.hid e3
      clear e3
      obtain ⟨x4, e4⟩ : ∃ x, st.getD 4 0 = x := ⟨_, rfl⟩
      have c4 : w2.cell? ⟨g, 4, none⟩ = some (.int .u32 (bvi x4)) := by rw [← e4]; exact HCS.out 4 (by decide)
      have E4 := Lib.hid e4
      clear e4
      obtain ⟨x5, e5⟩ : ∃ x, st.getD 5 0 = x := ⟨_, rfl⟩
      have c5 : w2.cell? ⟨g, 5, none⟩ = some (.int .u32 (bvi x5)) := by rw [← e5]; exact HCS.out 5 (by decide)
      have E5 := Lib.hid e5
      clear e5
      obtain ⟨x6, e6⟩ : ∃ x, st.getD 6 0 = x := ⟨_, rfl⟩
      have c6 : w2.cell? ⟨g, 6, none⟩ = some (.int .u32 (bvi x6)) := by rw [← e6]; exact HCS.out 6 (by decide)
      have E6 := Lib.hid e6
      clear e6
      obtain ⟨x7, e7⟩ : ∃ x, st.getD 7 0 = x := ⟨_, rfl⟩
      have c7 : w2.cell? ⟨g, 7, none⟩ = some (.int .u32 (bvi x7)) := by rw [← e7]; exact HCS.out 7 (by decide)
      have E7 := Lib.hid e7
      clear e7
      go_wp2_with fail
      refine region_table (by kernel_rfl) [98, 99, 100, 101, 102, 103, 104, 105, 106, 107, 108, 109, 15, 16, 17, 18]
        (fun i x_ => match i with
          | 0 => x_ = .slice (some ⟨g, 0, none⟩) 8 cap
          | 1 => x_ = .pointer (some ⟨g, 0, none⟩)
          | 2 => x_ = .int .u32 (bvi (x0))
          | 3 => x_ = .slice (some ⟨g, 0, none⟩) 8 cap
          | 4 => x_ = .pointer (some ⟨g, 1, none⟩)
          | 5 => x_ = .int .u32 (bvi (x1))
          | 6 => x_ = .slice (some ⟨g, 0, none⟩) 8 cap
          | 7 => x_ = .pointer (some ⟨g, 2, none⟩)
          | 8 => x_ = .int .u32 (bvi (x2))
          | 9 => x_ = .slice (some ⟨g, 0, none⟩) 8 cap
          | 10 => x_ = .pointer (some ⟨g, 3, none⟩)
          | 11 => x_ = .int .u32 (bvi (x3))
          | 12 => x_ = .int .u32 (bvi (x0))
          | 13 => x_ = .int .u32 (bvi (x1))
          | 14 => x_ = .int .u32 (bvi (x2))
          | 15 => x_ = .int .u32 (bvi (x3))
          | _ => True) (fun _ _ w' => w' = w2.drew) (by kernel_rfl) (by kernel_rfl) rfl (by kernel_rfl) (rfl) ?_ ?_
      · refine StepsOk.cons ?_ (StepsOk.cons ?_ (StepsOk.cons ?_ (StepsOk.cons ?_ (StepsOk.cons ?_ (StepsOk.cons ?_ (StepsOk.cons ?_ (StepsOk.cons ?_ (StepsOk.cons ?_ (StepsOk.cons ?_ (StepsOk.cons ?_ (StepsOk.cons ?_ (StepsOk.cons ?_ (StepsOk.cons ?_ (StepsOk.cons ?_ (StepsOk.cons ?_ StepsOk.nil)))))))))))))))
        · intro L a w4 Kx hl hsz hs ht hr he hK
          refine step_plain rfl ?_
          have h0 : a.tmps.getD 0 undef = .slice (some ⟨g, 0, none⟩) 8 cap := (hs 0 (by decide)).trans rfl
          subst hr
          go_simp
          exact hK _ _ rfl rfl
        · intro L a w4 Kx hl hsz hs ht hr he hK
          refine step_plain rfl ?_
          have h98 : a.tmps.getD 98 undef = .slice (some ⟨g, 0, none⟩) 8 cap := ht 0 (he 0 (by kernel_rfl)) 98 rfl
          subst hr
          go_simp
          exact hK _ _ rfl rfl
        · intro L a w4 Kx hl hsz hs ht hr he hK
          refine step_plain rfl ?_
          have h99 : a.tmps.getD 99 undef = .pointer (some ⟨g, 0, none⟩) := ht 1 (he 1 (by kernel_rfl)) 99 rfl
          subst hr
          go_simp
          exact hK _ _ rfl rfl
        · intro L a w4 Kx hl hsz hs ht hr he hK
          refine step_plain rfl ?_
          have h0 : a.tmps.getD 0 undef = .slice (some ⟨g, 0, none⟩) 8 cap := (hs 0 (by decide)).trans rfl
          subst hr
          go_simp
          exact hK _ _ rfl rfl
        · intro L a w4 Kx hl hsz hs ht hr he hK
          refine step_plain rfl ?_
          have h101 : a.tmps.getD 101 undef = .slice (some ⟨g, 0, none⟩) 8 cap := ht 3 (he 3 (by kernel_rfl)) 101 rfl
          subst hr
          go_simp
          exact hK _ _ rfl rfl
        · intro L a w4 Kx hl hsz hs ht hr he hK
          refine step_plain rfl ?_
          have h102 : a.tmps.getD 102 undef = .pointer (some ⟨g, 1, none⟩) := ht 4 (he 4 (by kernel_rfl)) 102 rfl
          subst hr
          go_simp
          exact hK _ _ rfl rfl
        · intro L a w4 Kx hl hsz hs ht hr he hK
          refine step_plain rfl ?_
          have h0 : a.tmps.getD 0 undef = .slice (some ⟨g, 0, none⟩) 8 cap := (hs 0 (by decide)).trans rfl
          subst hr
          go_simp
          exact hK _ _ rfl rfl
        · intro L a w4 Kx hl hsz hs ht hr he hK
          refine step_plain rfl ?_
          have h104 : a.tmps.getD 104 undef = .slice (some ⟨g, 0, none⟩) 8 cap := ht 6 (he 6 (by kernel_rfl)) 104 rfl
          subst hr
          go_simp
          exact hK _ _ rfl rfl
        · intro L a w4 Kx hl hsz hs ht hr he hK
          refine step_plain rfl ?_
          have h105 : a.tmps.getD 105 undef = .pointer (some ⟨g, 2, none⟩) := ht 7 (he 7 (by kernel_rfl)) 105 rfl
          subst hr
          go_simp
          exact hK _ _ rfl rfl
        · intro L a w4 Kx hl hsz hs ht hr he hK
          refine step_plain rfl ?_
          have h0 : a.tmps.getD 0 undef = .slice (some ⟨g, 0, none⟩) 8 cap := (hs 0 (by decide)).trans rfl
          subst hr
          go_simp
          exact hK _ _ rfl rfl
        · intro L a w4 Kx hl hsz hs ht hr he hK
          refine step_plain rfl ?_
          have h107 : a.tmps.getD 107 undef = .slice (some ⟨g, 0, none⟩) 8 cap := ht 9 (he 9 (by kernel_rfl)) 107 rfl
          subst hr
          go_simp
          exact hK _ _ rfl rfl
        · intro L a w4 Kx hl hsz hs ht hr he hK
          refine step_plain rfl ?_
          have h108 : a.tmps.getD 108 undef = .pointer (some ⟨g, 3, none⟩) := ht 10 (he 10 (by kernel_rfl)) 108 rfl
          subst hr
          go_simp
          exact hK _ _ rfl rfl
        · intro L a w4 Kx hl hsz hs ht hr he hK
          refine step_plain rfl ?_
          have h100 : a.tmps.getD 100 undef = .int .u32 (bvi (x0)) := ht 2 (he 2 (by kernel_rfl)) 100 rfl
          subst hr
          go_simp
          exact hK _ _ rfl rfl
        · intro L a w4 Kx hl hsz hs ht hr he hK
          refine step_plain rfl ?_
          have h103 : a.tmps.getD 103 undef = .int .u32 (bvi (x1)) := ht 5 (he 5 (by kernel_rfl)) 103 rfl
          subst hr
          go_simp
          exact hK _ _ rfl rfl
        · intro L a w4 Kx hl hsz hs ht hr he hK
          refine step_plain rfl ?_
          have h106 : a.tmps.getD 106 undef = .int .u32 (bvi (x2)) := ht 8 (he 8 (by kernel_rfl)) 106 rfl
          subst hr
          go_simp
          exact hK _ _ rfl rfl
        · intro L a w4 Kx hl hsz hs ht hr he hK
          refine step_plain rfl ?_
          have h109 : a.tmps.getD 109 undef = .int .u32 (bvi (x3)) := ht 11 (he 11 (by kernel_rfl)) 109 rfl
          subst hr
          go_simp
          exact hK _ _ rfl rfl
      · intro f L w4 hf hall hr
        have h15 : f 15 = .int .u32 (bvi (x0)) := hf 12 (by decide) 15 rfl
        have h16 : f 16 = .int .u32 (bvi (x1)) := hf 13 (by decide) 16 rfl
        have h17 : f 17 = .int .u32 (bvi (x2)) := hf 14 (by decide) 17 rfl
        have h18 : f 18 = .int .u32 (bvi (x3)) := hf 15 (by decide) 18 rfl
        subst hr
        simp only [List.foldl, Act.put, List.setIfInBounds_toArray, List.set_cons_zero, List.set_cons_succ]
        rw [h15, h16, h17, h18]
        clear hf h15 h16 h17 h18
        generalize f 98 = z98
        generalize f 99 = z99
        generalize f 100 = z100
        generalize f 101 = z101
        generalize f 102 = z102
        generalize f 103 = z103
        generalize f 104 = z104
        generalize f 105 = z105
        generalize f 106 = z106
        generalize f 107 = z107
        generalize f 108 = z108
        generalize f 109 = z109
        go_wp2_with fail
        refine region_table (by kernel_rfl) [110, 111, 112, 113, 114, 115, 116, 117, 118, 119, 120, 121, 19, 20, 21, 22]
          (fun i x_ => match i with
            | 0 => x_ = .slice (some ⟨g, 0, none⟩) 8 cap
            | 1 => x_ = .pointer (some ⟨g, 4, none⟩)
            | 2 => x_ = .int .u32 (bvi (x4))
            | 3 => x_ = .slice (some ⟨g, 0, none⟩) 8 cap
            | 4 => x_ = .pointer (some ⟨g, 5, none⟩)
            | 5 => x_ = .int .u32 (bvi (x5))
            | 6 => x_ = .slice (some ⟨g, 0, none⟩) 8 cap
            | 7 => x_ = .pointer (some ⟨g, 6, none⟩)
            | 8 => x_ = .int .u32 (bvi (x6))
            | 9 => x_ = .slice (some ⟨g, 0, none⟩) 8 cap
            | 10 => x_ = .pointer (some ⟨g, 7, none⟩)
            | 11 => x_ = .int .u32 (bvi (x7))
            | 12 => x_ = .int .u32 (bvi (x4))
            | 13 => x_ = .int .u32 (bvi (x5))
            | 14 => x_ = .int .u32 (bvi (x6))
            | 15 => x_ = .int .u32 (bvi (x7))
            | _ => True) (fun _ _ w' => w' = w2.drew.drew) (by kernel_rfl) (by kernel_rfl) rfl (by kernel_rfl) (rfl) ?_ ?_
        · refine StepsOk.cons ?_ (StepsOk.cons ?_ (StepsOk.cons ?_ (StepsOk.cons ?_ (StepsOk.cons ?_ (StepsOk.cons ?_ (StepsOk.cons ?_ (StepsOk.cons ?_ (StepsOk.cons ?_ (StepsOk.cons ?_ (StepsOk.cons ?_ (StepsOk.cons ?_ (StepsOk.cons ?_ (StepsOk.cons ?_ (StepsOk.cons ?_ (StepsOk.cons ?_ StepsOk.nil)))))))))))))))
          · intro L a w4 Kx hl hsz hs ht hr he hK
            refine step_plain rfl ?_
            have h0 : a.tmps.getD 0 undef = .slice (some ⟨g, 0, none⟩) 8 cap := (hs 0 (by decide)).trans rfl
            subst hr
            go_simp
            exact hK _ _ rfl rfl
          · intro L a w4 Kx hl hsz hs ht hr he hK
            refine step_plain rfl ?_
            have h110 : a.tmps.getD 110 undef = .slice (some ⟨g, 0, none⟩) 8 cap := ht 0 (he 0 (by kernel_rfl)) 110 rfl
            subst hr
            go_simp
            exact hK _ _ rfl rfl
          · intro L a w4 Kx hl hsz hs ht hr he hK
            refine step_plain rfl ?_
            have h111 : a.tmps.getD 111 undef = .pointer (some ⟨g, 4, none⟩) := ht 1 (he 1 (by kernel_rfl)) 111 rfl
            subst hr
            go_simp
            exact hK _ _ rfl rfl
          · intro L a w4 Kx hl hsz hs ht hr he hK
            refine step_plain rfl ?_
            have h0 : a.tmps.getD 0 undef = .slice (some ⟨g, 0, none⟩) 8 cap := (hs 0 (by decide)).trans rfl
            subst hr
            go_simp
            exact hK _ _ rfl rfl
          · intro L a w4 Kx hl hsz hs ht hr he hK
            refine step_plain rfl ?_
            have h113 : a.tmps.getD 113 undef = .slice (some ⟨g, 0, none⟩) 8 cap := ht 3 (he 3 (by kernel_rfl)) 113 rfl
            subst hr
            go_simp
            exact hK _ _ rfl rfl
          · intro L a w4 Kx hl hsz hs ht hr he hK
            refine step_plain rfl ?_
            have h114 : a.tmps.getD 114 undef = .pointer (some ⟨g, 5, none⟩) := ht 4 (he 4 (by kernel_rfl)) 114 rfl
            subst hr
            go_simp
            exact hK _ _ rfl rfl
          · intro L a w4 Kx hl hsz hs ht hr he hK
            refine step_plain rfl ?_
            have h0 : a.tmps.getD 0 undef = .slice (some ⟨g, 0, none⟩) 8 cap := (hs 0 (by decide)).trans rfl
            subst hr
            go_simp
            exact hK _ _ rfl rfl
          · intro L a w4 Kx hl hsz hs ht hr he hK
            refine step_plain rfl ?_
            have h116 : a.tmps.getD 116 undef = .slice (some ⟨g, 0, none⟩) 8 cap := ht 6 (he 6 (by kernel_rfl)) 116 rfl
            subst hr
            go_simp
            exact hK _ _ rfl rfl
          · intro L a w4 Kx hl hsz hs ht hr he hK
            refine step_plain rfl ?_
            have h117 : a.tmps.getD 117 undef = .pointer (some ⟨g, 6, none⟩) := ht 7 (he 7 (by kernel_rfl)) 117 rfl
            subst hr
            go_simp
            exact hK _ _ rfl rfl
          · intro L a w4 Kx hl hsz hs ht hr he hK
            refine step_plain rfl ?_
            have h0 : a.tmps.getD 0 undef = .slice (some ⟨g, 0, none⟩) 8 cap := (hs 0 (by decide)).trans rfl
            subst hr
            go_simp
            exact hK _ _ rfl rfl
          · intro L a w4 Kx hl hsz hs ht hr he hK
            refine step_plain rfl ?_
            have h119 : a.tmps.getD 119 undef = .slice (some ⟨g, 0, none⟩) 8 cap := ht 9 (he 9 (by kernel_rfl)) 119 rfl
            subst hr
            go_simp
            exact hK _ _ rfl rfl
          · intro L a w4 Kx hl hsz hs ht hr he hK
            refine step_plain rfl ?_
            have h120 : a.tmps.getD 120 undef = .pointer (some ⟨g, 7, none⟩) := ht 10 (he 10 (by kernel_rfl)) 120 rfl
            subst hr
            go_simp
            exact hK _ _ rfl rfl
          · intro L a w4 Kx hl hsz hs ht hr he hK
            refine step_plain rfl ?_
            have h112 : a.tmps.getD 112 undef = .int .u32 (bvi (x4)) := ht 2 (he 2 (by kernel_rfl)) 112 rfl
            subst hr
            go_simp
            exact hK _ _ rfl rfl
          · intro L a w4 Kx hl hsz hs ht hr he hK
            refine step_plain rfl ?_
            have h115 : a.tmps.getD 115 undef = .int .u32 (bvi (x5)) := ht 5 (he 5 (by kernel_rfl)) 115 rfl
            subst hr
            go_simp
            exact hK _ _ rfl rfl
          · intro L a w4 Kx hl hsz hs ht hr he hK
            refine step_plain rfl ?_
            have h118 : a.tmps.getD 118 undef = .int .u32 (bvi (x6)) := ht 8 (he 8 (by kernel_rfl)) 118 rfl
            subst hr
            go_simp
            exact hK _ _ rfl rfl
          · intro L a w4 Kx hl hsz hs ht hr he hK
            refine step_plain rfl ?_
            have h121 : a.tmps.getD 121 undef = .int .u32 (bvi (x7)) := ht 11 (he 11 (by kernel_rfl)) 121 rfl
            subst hr
            go_simp
            exact hK _ _ rfl rfl
        · intro f L w4 hf hall hr
          have h19 : f 19 = .int .u32 (bvi (x4)) := hf 12 (by decide) 19 rfl
          have h20 : f 20 = .int .u32 (bvi (x5)) := hf 13 (by decide) 20 rfl
          have h21 : f 21 = .int .u32 (bvi (x6)) := hf 14 (by decide) 21 rfl
          have h22 : f 22 = .int .u32 (bvi (x7)) := hf 15 (by decide) 22 rfl
          subst hr
          simp only [List.foldl, Act.put, List.setIfInBounds_toArray, List.set_cons_zero, List.set_cons_succ]
          rw [h19, h20, h21, h22]
          clear hf h19 h20 h21 h22
          generalize f 110 = z110
          generalize f 111 = z111
          generalize f 112 = z112
          generalize f 113 = z113
          generalize f 114 = z114
          generalize f 115 = z115
          generalize f 116 = z116
          generalize f 117 = z117
          generalize f 118 = z118
          generalize f 119 = z119
          generalize f 120 = z120
          generalize f 121 = z121
          clear c0 c1 c2 c3 c4 c5 c6 c7
          have HTr3 := Lib.hid (HTr.out.drew.drew)
          have HCT3 := Lib.hid (show ∀ i, i < 64 → w2.drew.drew.cell? ⟨g2, i, none⟩ = some (.int .u32 (bvi (W.getD i 0))) from HCT.out)
          have HCS3 := Lib.hid (show ∀ i, i < 8 → w2.drew.drew.cell? ⟨g, i, none⟩ = some (.int .u32 (bvi (st.getD i 0))) from HCS.out)
          have HB3 := Lib.hid (HB2.out.drew.drew)
          have zs3 : w2.heap.size = w2.drew.drew.heap.size := rfl
          rw [zs3] at zt zt2 zt3
          generalize w2.drew.drew = w3 at HTr3 HCT3 HCS3 HB3 zt zt2 zt3 ⊢
          clear zs3 HTr HCT HCS HB2
          go_wp2_with fail
          go_loopw [15, 16, 17, 18, 19, 20, 21, 22, 23] (fun a0 a1 a2 a3 a4 a5 a6 a7 i wx => ∃ k : Nat, k ≤ 64 ∧ i = .int .i64 k ∧ a0 = .int .u32 (bvi ((roundsK st W k).getD 0 0)) ∧ a1 = .int .u32 (bvi ((roundsK st W k).getD 1 0)) ∧ a2 = .int .u32 (bvi ((roundsK st W k).getD 2 0)) ∧ a3 = .int .u32 (bvi ((roundsK st W k).getD 3 0)) ∧ a4 = .int .u32 (bvi ((roundsK st W k).getD 4 0)) ∧ a5 = .int .u32 (bvi ((roundsK st W k).getD 5 0)) ∧ a6 = .int .u32 (bvi ((roundsK st W k).getD 6 0)) ∧ a7 = .int .u32 (bvi ((roundsK st W k).getD 7 0)) ∧ Below w3.heap.size w3 wx) (fun _ _ _ _ _ _ _ _ i _ => 64 - (intOf i).toNat)
          case atStart => exact ⟨0, Nat.zero_le _, rfl, by rw [← E0.out]; rfl, by rw [← E1.out]; rfl, by rw [← E2.out]; rfl, by rw [← E3.out]; rfl, by rw [← E4.out]; rfl, by rw [← E5.out]; rfl, by rw [← E6.out]; rfl, by rw [← E7.out]; rfl, Below.refl _ _⟩
          case round =>
            obtain ⟨k, hk, rfl, rfl, rfl, rfl, rfl, rfl, rfl, rfl, rfl, hb⟩ := hrel
            have HBW := Lib.hid hb
            have HLV := Lib.hid (roundsK_length st W HL.out k)
            rcases Nat.lt_or_ge k 64 with hlt | hge
            · have HRD := Lib.hid (round_as st W T HT.out k)
              obtain ⟨y0, e0⟩ : ∃ x, (roundsK st W k).getD 0 0 = x := ⟨_, rfl⟩
              have D0 := Lib.hid e0
              rw [e0]
              clear e0
              obtain ⟨y1, e1⟩ : ∃ x, (roundsK st W k).getD 1 0 = x := ⟨_, rfl⟩
              have D1 := Lib.hid e1
              rw [e1]
              clear e1
              obtain ⟨y2, e2⟩ : ∃ x, (roundsK st W k).getD 2 0 = x := ⟨_, rfl⟩
              have D2 := Lib.hid e2
              rw [e2]
              clear e2
              obtain ⟨y3, e3⟩ : ∃ x, (roundsK st W k).getD 3 0 = x := ⟨_, rfl⟩
              have D3 := Lib.hid e3
              rw [e3]
              clear e3
              obtain ⟨y4, e4⟩ : ∃ x, (roundsK st W k).getD 4 0 = x := ⟨_, rfl⟩
              have D4 := Lib.hid e4
              rw [e4]
              clear e4
              obtain ⟨y5, e5⟩ : ∃ x, (roundsK st W k).getD 5 0 = x := ⟨_, rfl⟩
              have D5 := Lib.hid e5
              rw [e5]
              clear e5
              obtain ⟨y6, e6⟩ : ∃ x, (roundsK st W k).getD 6 0 = x := ⟨_, rfl⟩
              have D6 := Lib.hid e6
              rw [e6]
              clear e6
              obtain ⟨y7, e7⟩ : ∃ x, (roundsK st W k).getD 7 0 = x := ⟨_, rfl⟩
              have D7 := Lib.hid e7
              rw [e7]
              clear e7
              obtain ⟨kt, ek⟩ : ∃ x, T.getD k 0 = x := ⟨_, rfl⟩
              have ck : wr.cell? ⟨tb, k, none⟩ = some (.int .u32 (bvi kt)) := by rw [← ek]; exact (HTr3.out.below hb zt).cell (wordsS_at _ k (by rw [HLT.out]; exact hlt))
              obtain ⟨wt, ew⟩ : ∃ x, W.getD k 0 = x := ⟨_, rfl⟩
              have cw : wr.cell? ⟨g2, k, none⟩ = some (.int .u32 (bvi wt)) := by rw [← ew]; exact (hb.cell (p := ⟨g2, k, none⟩) zt2).trans (HCT3.out k hlt)
              have EK := Lib.hid ek
              have EW := Lib.hid ew
              have d5 : (k : Int) < 64 := by omega
              have d6 : decide ((k : Int) < 64) = true := decide_eq_true d5
              clear ek ew hb
              go_wp2_with fail
              refine region_table (by kernel_rfl) [126, 127, 128, 129, 130, 131, 132, 133, 134, 135, 136, 137, 138, 139, 140, 141, 142, 143, 144, 145, 146, 147, 148, 149, 150, 24]
                (fun i x_ => match i with
                  | 0 => x_ = .int .u32 (bvi (y7))
                  | 1 => x_ = .int .u32 (bvi (y4))
                  | 2 => x_ = .int .u32 (bvi (rorI y4 6))
                  | 3 => x_ = .int .u32 (bvi (y4))
                  | 4 => x_ = .int .u32 (bvi (rorI y4 11))
                  | 5 => x_ = .int .u32 (bvi ((rorI y4 6) ^^^ (rorI y4 11)))
                  | 6 => x_ = .int .u32 (bvi (y4))
                  | 7 => x_ = .int .u32 (bvi (rorI y4 25))
                  | 8 => x_ = .int .u32 (bvi (((rorI y4 6) ^^^ (rorI y4 11)) ^^^ (rorI y4 25)))
                  | 9 => x_ = .int .u32 (bvi (y7 + (((rorI y4 6) ^^^ (rorI y4 11)) ^^^ (rorI y4 25))))
                  | 10 => x_ = .int .u32 (bvi (y4))
                  | 11 => x_ = .int .u32 (bvi (y5))
                  | 12 => x_ = .int .u32 (bvi (y6))
                  | 13 => x_ = .int .u32 (bvi (chooseB y4 y5 y6))
                  | 14 => x_ = .int .u32 (bvi ((y7 + (((rorI y4 6) ^^^ (rorI y4 11)) ^^^ (rorI y4 25))) + (chooseB y4 y5 y6)))
                  | 15 => x_ = .slice (some ⟨tb, 0, none⟩) 64 64
                  | 16 => x_ = .int .i64 ((k : Int))
                  | 17 => x_ = .pointer (some ⟨tb, k, none⟩)
                  | 18 => x_ = .int .u32 (bvi (kt))
                  | 19 => x_ = .int .u32 (bvi (((y7 + (((rorI y4 6) ^^^ (rorI y4 11)) ^^^ (rorI y4 25))) + (chooseB y4 y5 y6)) + kt))
                  | 20 => x_ = .slice (some ⟨g2, 0, none⟩) 64 cap2
                  | 21 => x_ = .int .i64 ((k : Int))
                  | 22 => x_ = .pointer (some ⟨g2, k, none⟩)
                  | 23 => x_ = .int .u32 (bvi (wt))
                  | 24 => x_ = .int .u32 (bvi ((((y7 + (((rorI y4 6) ^^^ (rorI y4 11)) ^^^ (rorI y4 25))) + (chooseB y4 y5 y6)) + kt) + wt))
                  | 25 => x_ = .int .u32 (bvi ((((y7 + (((rorI y4 6) ^^^ (rorI y4 11)) ^^^ (rorI y4 25))) + (chooseB y4 y5 y6)) + kt) + wt))
                  | _ => True) (fun _ _ w' => w' = wr.drew) (by kernel_rfl) (by kernel_rfl) rfl (by kernel_rfl) (rfl) ?_ ?_
              · refine StepsOk.cons ?_ (StepsOk.cons ?_ (StepsOk.cons ?_ (StepsOk.cons ?_ (StepsOk.cons ?_ (StepsOk.cons ?_ (StepsOk.cons ?_ (StepsOk.cons ?_ (StepsOk.cons ?_ (StepsOk.cons ?_ (StepsOk.cons ?_ (StepsOk.cons ?_ (StepsOk.cons ?_ (StepsOk.cons ?_ (StepsOk.cons ?_ (StepsOk.cons ?_ (StepsOk.cons ?_ (StepsOk.cons ?_ (StepsOk.cons ?_ (StepsOk.cons ?_ (StepsOk.cons ?_ (StepsOk.cons ?_ (StepsOk.cons ?_ (StepsOk.cons ?_ (StepsOk.cons ?_ (StepsOk.cons ?_ StepsOk.nil)))))))))))))))))))))))))
                · intro L a w4 Kx hl hsz hs ht hr he hK
                  refine step_plain rfl ?_
                  have h22 : a.tmps.getD 22 undef = .int .u32 (bvi (y7)) := (hs 22 (by decide)).trans rfl
                  subst hr
                  go_simp
                  exact hK _ _ rfl rfl
                · intro L a w4 Kx hl hsz hs ht hr he hK
                  refine step_plain rfl ?_
                  have h19 : a.tmps.getD 19 undef = .int .u32 (bvi (y4)) := (hs 19 (by decide)).trans rfl
                  subst hr
                  go_simp
                  exact hK _ _ rfl rfl
                · intro L a w4 Kx hl hsz hs ht hr he hK
                  refine step_plain rfl ?_
                  have h127 : a.tmps.getD 127 undef = .int .u32 (bvi (y4)) := ht 1 (he 1 (by kernel_rfl)) 127 rfl
                  subst hr
                  go_simp
                  refine (RRight_walk y4 6 _).mono ?_
                  rintro e w5 ⟨rfl, rfl⟩
                  exact hK _ _ rfl rfl
                · intro L a w4 Kx hl hsz hs ht hr he hK
                  refine step_plain rfl ?_
                  have h19 : a.tmps.getD 19 undef = .int .u32 (bvi (y4)) := (hs 19 (by decide)).trans rfl
                  subst hr
                  go_simp
                  exact hK _ _ rfl rfl
                · intro L a w4 Kx hl hsz hs ht hr he hK
                  refine step_plain rfl ?_
                  have h129 : a.tmps.getD 129 undef = .int .u32 (bvi (y4)) := ht 3 (he 3 (by kernel_rfl)) 129 rfl
                  subst hr
                  go_simp
                  refine (RRight_walk y4 11 _).mono ?_
                  rintro e w5 ⟨rfl, rfl⟩
                  exact hK _ _ rfl rfl
                · intro L a w4 Kx hl hsz hs ht hr he hK
                  refine step_plain rfl ?_
                  have h128 : a.tmps.getD 128 undef = .int .u32 (bvi (rorI y4 6)) := ht 2 (he 2 (by kernel_rfl)) 128 rfl
                  have h130 : a.tmps.getD 130 undef = .int .u32 (bvi (rorI y4 11)) := ht 4 (he 4 (by kernel_rfl)) 130 rfl
                  subst hr
                  go_simp
                  exact hK _ _ rfl rfl
                · intro L a w4 Kx hl hsz hs ht hr he hK
                  refine step_plain rfl ?_
                  have h19 : a.tmps.getD 19 undef = .int .u32 (bvi (y4)) := (hs 19 (by decide)).trans rfl
                  subst hr
                  go_simp
                  exact hK _ _ rfl rfl
                · intro L a w4 Kx hl hsz hs ht hr he hK
                  refine step_plain rfl ?_
                  have h132 : a.tmps.getD 132 undef = .int .u32 (bvi (y4)) := ht 6 (he 6 (by kernel_rfl)) 132 rfl
                  subst hr
                  go_simp
                  refine (RRight_walk y4 25 _).mono ?_
                  rintro e w5 ⟨rfl, rfl⟩
                  exact hK _ _ rfl rfl
                · intro L a w4 Kx hl hsz hs ht hr he hK
                  refine step_plain rfl ?_
                  have h131 : a.tmps.getD 131 undef = .int .u32 (bvi ((rorI y4 6) ^^^ (rorI y4 11))) := ht 5 (he 5 (by kernel_rfl)) 131 rfl
                  have h133 : a.tmps.getD 133 undef = .int .u32 (bvi (rorI y4 25)) := ht 7 (he 7 (by kernel_rfl)) 133 rfl
                  subst hr
                  go_simp
                  exact hK _ _ rfl rfl
                · intro L a w4 Kx hl hsz hs ht hr he hK
                  refine step_plain rfl ?_
                  have h126 : a.tmps.getD 126 undef = .int .u32 (bvi (y7)) := ht 0 (he 0 (by kernel_rfl)) 126 rfl
                  have h134 : a.tmps.getD 134 undef = .int .u32 (bvi (((rorI y4 6) ^^^ (rorI y4 11)) ^^^ (rorI y4 25))) := ht 8 (he 8 (by kernel_rfl)) 134 rfl
                  subst hr
                  go_simp
                  exact hK _ _ rfl rfl
                · intro L a w4 Kx hl hsz hs ht hr he hK
                  refine step_plain rfl ?_
                  have h19 : a.tmps.getD 19 undef = .int .u32 (bvi (y4)) := (hs 19 (by decide)).trans rfl
                  subst hr
                  go_simp
                  exact hK _ _ rfl rfl
                · intro L a w4 Kx hl hsz hs ht hr he hK
                  refine step_plain rfl ?_
                  have h20 : a.tmps.getD 20 undef = .int .u32 (bvi (y5)) := (hs 20 (by decide)).trans rfl
                  subst hr
                  go_simp
                  exact hK _ _ rfl rfl
                · intro L a w4 Kx hl hsz hs ht hr he hK
                  refine step_plain rfl ?_
                  have h21 : a.tmps.getD 21 undef = .int .u32 (bvi (y6)) := (hs 21 (by decide)).trans rfl
                  subst hr
                  go_simp
                  exact hK _ _ rfl rfl
                · intro L a w4 Kx hl hsz hs ht hr he hK
                  refine step_plain rfl ?_
                  have h136 : a.tmps.getD 136 undef = .int .u32 (bvi (y4)) := ht 10 (he 10 (by kernel_rfl)) 136 rfl
                  have h137 : a.tmps.getD 137 undef = .int .u32 (bvi (y5)) := ht 11 (he 11 (by kernel_rfl)) 137 rfl
                  have h138 : a.tmps.getD 138 undef = .int .u32 (bvi (y6)) := ht 12 (he 12 (by kernel_rfl)) 138 rfl
                  subst hr
                  go_simp
                  refine (choice_walk y4 y5 y6 _).mono ?_
                  rintro e w5 ⟨rfl, rfl⟩
                  exact hK _ _ rfl rfl
                · intro L a w4 Kx hl hsz hs ht hr he hK
                  refine step_plain rfl ?_
                  have h135 : a.tmps.getD 135 undef = .int .u32 (bvi (y7 + (((rorI y4 6) ^^^ (rorI y4 11)) ^^^ (rorI y4 25)))) := ht 9 (he 9 (by kernel_rfl)) 135 rfl
                  have h139 : a.tmps.getD 139 undef = .int .u32 (bvi (chooseB y4 y5 y6)) := ht 13 (he 13 (by kernel_rfl)) 139 rfl
                  subst hr
                  go_simp
                  exact hK _ _ rfl rfl
                · intro L a w4 Kx hl hsz hs ht hr he hK
                  refine step_plain rfl ?_
                  have h14 : a.tmps.getD 14 undef = .slice (some ⟨tb, 0, none⟩) 64 64 := (hs 14 (by decide)).trans rfl
                  subst hr
                  go_simp
                  exact hK _ _ rfl rfl
                · intro L a w4 Kx hl hsz hs ht hr he hK
                  refine step_plain rfl ?_
                  have h23 : a.tmps.getD 23 undef = .int .i64 ((k : Int)) := (hs 23 (by decide)).trans rfl
                  subst hr
                  go_simp
                  exact hK _ _ rfl rfl
                · intro L a w4 Kx hl hsz hs ht hr he hK
                  refine step_plain rfl ?_
                  have h141 : a.tmps.getD 141 undef = .slice (some ⟨tb, 0, none⟩) 64 64 := ht 15 (he 15 (by kernel_rfl)) 141 rfl
                  have h142 : a.tmps.getD 142 undef = .int .i64 ((k : Int)) := ht 16 (he 16 (by kernel_rfl)) 142 rfl
                  subst hr
                  go_simp
                  exact hK _ _ rfl rfl
                · intro L a w4 Kx hl hsz hs ht hr he hK
                  refine step_plain rfl ?_
                  have h143 : a.tmps.getD 143 undef = .pointer (some ⟨tb, k, none⟩) := ht 17 (he 17 (by kernel_rfl)) 143 rfl
                  subst hr
                  go_simp
                  exact hK _ _ rfl rfl
                · intro L a w4 Kx hl hsz hs ht hr he hK
                  refine step_plain rfl ?_
                  have h140 : a.tmps.getD 140 undef = .int .u32 (bvi ((y7 + (((rorI y4 6) ^^^ (rorI y4 11)) ^^^ (rorI y4 25))) + (chooseB y4 y5 y6))) := ht 14 (he 14 (by kernel_rfl)) 140 rfl
                  have h144 : a.tmps.getD 144 undef = .int .u32 (bvi (kt)) := ht 18 (he 18 (by kernel_rfl)) 144 rfl
                  subst hr
                  go_simp
                  exact hK _ _ rfl rfl
                · intro L a w4 Kx hl hsz hs ht hr he hK
                  refine step_plain rfl ?_
                  have h6 : a.tmps.getD 6 undef = .slice (some ⟨g2, 0, none⟩) 64 cap2 := (hs 6 (by decide)).trans rfl
                  subst hr
                  go_simp
                  exact hK _ _ rfl rfl
                · intro L a w4 Kx hl hsz hs ht hr he hK
                  refine step_plain rfl ?_
                  have h23 : a.tmps.getD 23 undef = .int .i64 ((k : Int)) := (hs 23 (by decide)).trans rfl
                  subst hr
                  go_simp
                  exact hK _ _ rfl rfl
                · intro L a w4 Kx hl hsz hs ht hr he hK
                  refine step_plain rfl ?_
                  have h146 : a.tmps.getD 146 undef = .slice (some ⟨g2, 0, none⟩) 64 cap2 := ht 20 (he 20 (by kernel_rfl)) 146 rfl
                  have h147 : a.tmps.getD 147 undef = .int .i64 ((k : Int)) := ht 21 (he 21 (by kernel_rfl)) 147 rfl
                  subst hr
                  go_simp
                  exact hK _ _ rfl rfl
                · intro L a w4 Kx hl hsz hs ht hr he hK
                  refine step_plain rfl ?_
                  have h148 : a.tmps.getD 148 undef = .pointer (some ⟨g2, k, none⟩) := ht 22 (he 22 (by kernel_rfl)) 148 rfl
                  subst hr
                  go_simp
                  exact hK _ _ rfl rfl
                · intro L a w4 Kx hl hsz hs ht hr he hK
                  refine step_plain rfl ?_
                  have h145 : a.tmps.getD 145 undef = .int .u32 (bvi (((y7 + (((rorI y4 6) ^^^ (rorI y4 11)) ^^^ (rorI y4 25))) + (chooseB y4 y5 y6)) + kt)) := ht 19 (he 19 (by kernel_rfl)) 145 rfl
                  have h149 : a.tmps.getD 149 undef = .int .u32 (bvi (wt)) := ht 23 (he 23 (by kernel_rfl)) 149 rfl
                  subst hr
                  go_simp
                  exact hK _ _ rfl rfl
                · intro L a w4 Kx hl hsz hs ht hr he hK
                  refine step_plain rfl ?_
                  have h150 : a.tmps.getD 150 undef = .int .u32 (bvi ((((y7 + (((rorI y4 6) ^^^ (rorI y4 11)) ^^^ (rorI y4 25))) + (chooseB y4 y5 y6)) + kt) + wt)) := ht 24 (he 24 (by kernel_rfl)) 150 rfl
                  subst hr
                  go_simp
                  exact hK _ _ rfl rfl
              · intro f L w4 hf hall hr
                have h24 : f 24 = .int .u32 (bvi ((((y7 + (((rorI y4 6) ^^^ (rorI y4 11)) ^^^ (rorI y4 25))) + (chooseB y4 y5 y6)) + kt) + wt)) := hf 25 (by decide) 24 rfl
                subst hr
                simp only [List.foldl, Act.put, List.setIfInBounds_toArray, List.set_cons_zero, List.set_cons_succ]
                rw [h24]
                clear hf h24
                generalize f 126 = z126
                generalize f 127 = z127
                generalize f 128 = z128
                generalize f 129 = z129
                generalize f 130 = z130
                generalize f 131 = z131
                generalize f 132 = z132
                generalize f 133 = z133
                generalize f 134 = z134
                generalize f 135 = z135
                generalize f 136 = z136
                generalize f 137 = z137
                generalize f 138 = z138
                generalize f 139 = z139
                generalize f 140 = z140
                generalize f 141 = z141
                generalize f 142 = z142
                generalize f 143 = z143
                generalize f 144 = z144
                generalize f 145 = z145
                generalize f 146 = z146
                generalize f 147 = z147
                generalize f 148 = z148
                generalize f 149 = z149
                generalize f 150 = z150
                obtain ⟨pp, hpp⟩ : ∃ p, p = (((y7 + (((rorI y4 6) ^^^ (rorI y4 11)) ^^^ (rorI y4 25))) + (chooseB y4 y5 y6)) + kt) + wt := ⟨_, rfl⟩
                rw [← hpp]
                have HPP := Lib.hid hpp
                clear hpp
                go_wp2_with fail
                refine (RRight_walk y0 2 _).mono ?_
                rintro e wq1 ⟨rfl, rfl⟩
                go_wp2_with fail
                refine (RRight_walk y0 13 _).mono ?_
                rintro e wq2 ⟨rfl, rfl⟩
                go_wp2_with fail
                refine (RRight_walk y0 22 _).mono ?_
                rintro e wq3 ⟨rfl, rfl⟩
                go_wp2_with fail
                refine (most_walk y0 y1 y2 _).mono ?_
                rintro e wq4 ⟨rfl, rfl⟩
                obtain ⟨qq, hqq⟩ : ∃ q, q = (rorI y0 2 ^^^ rorI y0 13 ^^^ rorI y0 22) + majorB y0 y1 y2 := ⟨_, rfl⟩
                have HRE := Lib.hid (HRD.out y0 y1 y2 y3 y4 y5 y6 y7 kt wt D0.out D1.out D2.out D3.out D4.out D5.out D6.out D7.out EK.out EW.out pp qq (by rw [HPP.out]; rfl) (by rw [hqq]; rfl))
                go_wp2_with fail
                rw [← hqq]
                clear hqq
                go_roundw
                case rel => exact ⟨k + 1, by omega, by go_num, by rw [HRE.out]; rfl, by rw [HRE.out]; rfl, by rw [HRE.out]; rfl, by rw [HRE.out]; rfl, by rw [HRE.out]; rfl, by rw [HRE.out]; rfl, by rw [HRE.out]; rfl, by rw [HRE.out]; rfl, HBW.out.drew⟩
                case measure => simp [intOf]; omega
            · obtain rfl : k = 64 := by omega
              have c0 : wr.cell? ⟨g, 0, none⟩ = some (.int .u32 (bvi x0)) := by rw [← E0.out]; exact (hb.cell (p := ⟨g, 0, none⟩) zt3).trans (HCS3.out 0 (by decide))
              have c1 : wr.cell? ⟨g, 1, none⟩ = some (.int .u32 (bvi x1)) := by rw [← E1.out]; exact (hb.cell (p := ⟨g, 1, none⟩) zt3).trans (HCS3.out 1 (by decide))
              have c2 : wr.cell? ⟨g, 2, none⟩ = some (.int .u32 (bvi x2)) := by rw [← E2.out]; exact (hb.cell (p := ⟨g, 2, none⟩) zt3).trans (HCS3.out 2 (by decide))
              have c3 : wr.cell? ⟨g, 3, none⟩ = some (.int .u32 (bvi x3)) := by rw [← E3.out]; exact (hb.cell (p := ⟨g, 3, none⟩) zt3).trans (HCS3.out 3 (by decide))
              have c4 : wr.cell? ⟨g, 4, none⟩ = some (.int .u32 (bvi x4)) := by rw [← E4.out]; exact (hb.cell (p := ⟨g, 4, none⟩) zt3).trans (HCS3.out 4 (by decide))
              have c5 : wr.cell? ⟨g, 5, none⟩ = some (.int .u32 (bvi x5)) := by rw [← E5.out]; exact (hb.cell (p := ⟨g, 5, none⟩) zt3).trans (HCS3.out 5 (by decide))
              have c6 : wr.cell? ⟨g, 6, none⟩ = some (.int .u32 (bvi x6)) := by rw [← E6.out]; exact (hb.cell (p := ⟨g, 6, none⟩) zt3).trans (HCS3.out 6 (by decide))
              have c7 : wr.cell? ⟨g, 7, none⟩ = some (.int .u32 (bvi x7)) := by rw [← E7.out]; exact (hb.cell (p := ⟨g, 7, none⟩) zt3).trans (HCS3.out 7 (by decide))
              have hmm := HM.out
              rw [addK_eight st (roundsK st W 64) HL.out, E0.out, E1.out, E2.out, E3.out, E4.out, E5.out, E6.out, E7.out] at hmm
              generalize (roundsK st W 64).getD 0 0 = y0 at hmm ⊢
              generalize (roundsK st W 64).getD 1 0 = y1 at hmm ⊢
              generalize (roundsK st W 64).getD 2 0 = y2 at hmm ⊢
              generalize (roundsK st W 64).getD 3 0 = y3 at hmm ⊢
              generalize (roundsK st W 64).getD 4 0 = y4 at hmm ⊢
              generalize (roundsK st W 64).getD 5 0 = y5 at hmm ⊢
              generalize (roundsK st W 64).getD 6 0 = y6 at hmm ⊢
              generalize (roundsK st W 64).getD 7 0 = y7 at hmm ⊢
              have HMM := Lib.hid hmm
              have h64 : decide (((64 : Nat) : Int) < 64) = false := rfl
              clear hmm HM hb
              go_wp2_with fail
              refine region_anc (by kernel_rfl) [176, 177, 178, 179, 180, 181, 182, 183, 184, 185, 186, 187, 188, 189, 190, 191, 192, 193, 194, 195, 196, 197, 198, 199, 200, 201, 202, 203, 204, 205, 206, 207, 208, 209, 210, 211, 212, 213, 214, 215, 216, 4, 5]
                (fun i x_ => match i with
                  | 0 => x_ = .slice (some ⟨g, 0, none⟩) 8 cap
                  | 1 => x_ = .pointer (some ⟨g, 0, none⟩)
                  | 2 => x_ = .int .u32 (bvi (x0))
                  | 3 => x_ = .int .u32 (bvi (y0))
                  | 4 => x_ = .int .u32 (bvi (x0 + y0))
                  | 5 => x_ = .slice (some ⟨g, 0, none⟩) 8 cap
                  | 6 => x_ = .pointer (some ⟨g, 1, none⟩)
                  | 7 => x_ = .int .u32 (bvi (x1))
                  | 8 => x_ = .int .u32 (bvi (y1))
                  | 9 => x_ = .int .u32 (bvi (x1 + y1))
                  | 10 => x_ = .slice (some ⟨g, 0, none⟩) 8 cap
                  | 11 => x_ = .pointer (some ⟨g, 2, none⟩)
                  | 12 => x_ = .int .u32 (bvi (x2))
                  | 13 => x_ = .int .u32 (bvi (y2))
                  | 14 => x_ = .int .u32 (bvi (x2 + y2))
                  | 15 => x_ = .slice (some ⟨g, 0, none⟩) 8 cap
                  | 16 => x_ = .pointer (some ⟨g, 3, none⟩)
                  | 17 => x_ = .int .u32 (bvi (x3))
                  | 18 => x_ = .int .u32 (bvi (y3))
                  | 19 => x_ = .int .u32 (bvi (x3 + y3))
                  | 20 => x_ = .slice (some ⟨g, 0, none⟩) 8 cap
                  | 21 => x_ = .pointer (some ⟨g, 4, none⟩)
                  | 22 => x_ = .int .u32 (bvi (x4))
                  | 23 => x_ = .int .u32 (bvi (y4))
                  | 24 => x_ = .int .u32 (bvi (x4 + y4))
                  | 25 => x_ = .slice (some ⟨g, 0, none⟩) 8 cap
                  | 26 => x_ = .pointer (some ⟨g, 5, none⟩)
                  | 27 => x_ = .int .u32 (bvi (x5))
                  | 28 => x_ = .int .u32 (bvi (y5))
                  | 29 => x_ = .int .u32 (bvi (x5 + y5))
                  | 30 => x_ = .slice (some ⟨g, 0, none⟩) 8 cap
                  | 31 => x_ = .pointer (some ⟨g, 6, none⟩)
                  | 32 => x_ = .int .u32 (bvi (x6))
                  | 33 => x_ = .int .u32 (bvi (y6))
                  | 34 => x_ = .int .u32 (bvi (x6 + y6))
                  | 35 => x_ = .slice (some ⟨g, 0, none⟩) 8 cap
                  | 36 => x_ = .pointer (some ⟨g, 7, none⟩)
                  | 37 => x_ = .int .u32 (bvi (x7))
                  | 38 => x_ = .int .u32 (bvi (y7))
                  | 39 => x_ = .int .u32 (bvi (x7 + y7))
                  | 40 => x_ = .slice (some ⟨wr.heap.size, 0, none⟩) 8 8
                  | 41 => x_ = .slice (some ⟨wr.heap.size, 0, none⟩) 8 8
                  | 42 => x_ = .int .i64 (0)
                  | _ => True) (fun L _ w' => (L 40 = false → w' = wr.drew) ∧ (L 40 = true → w' = wr.drew.alloc (.cells (words [x0 + y0, x1 + y1, x2 + y2, x3 + y3, x4 + y4, x5 + y5, x6 + y6, x7 + y7]).toArray 62))) (by kernel_rfl) (by kernel_rfl) rfl (by kernel_rfl) (⟨fun _ => rfl, (fun h => by cases h)⟩) ?_ ?_
              · refine StepsOk2.cons ?_ (StepsOk2.cons ?_ (StepsOk2.cons ?_ (StepsOk2.cons ?_ (StepsOk2.cons ?_ (StepsOk2.cons ?_ (StepsOk2.cons ?_ (StepsOk2.cons ?_ (StepsOk2.cons ?_ (StepsOk2.cons ?_ (StepsOk2.cons ?_ (StepsOk2.cons ?_ (StepsOk2.cons ?_ (StepsOk2.cons ?_ (StepsOk2.cons ?_ (StepsOk2.cons ?_ (StepsOk2.cons ?_ (StepsOk2.cons ?_ (StepsOk2.cons ?_ (StepsOk2.cons ?_ (StepsOk2.cons ?_ (StepsOk2.cons ?_ (StepsOk2.cons ?_ (StepsOk2.cons ?_ (StepsOk2.cons ?_ (StepsOk2.cons ?_ (StepsOk2.cons ?_ (StepsOk2.cons ?_ (StepsOk2.cons ?_ (StepsOk2.cons ?_ (StepsOk2.cons ?_ (StepsOk2.cons ?_ (StepsOk2.cons ?_ (StepsOk2.cons ?_ (StepsOk2.cons ?_ (StepsOk2.cons ?_ (StepsOk2.cons ?_ (StepsOk2.cons ?_ (StepsOk2.cons ?_ (StepsOk2.cons ?_ (StepsOk2.cons ?_ (StepsOk2.cons ?_ (StepsOk2.cons ?_ StepsOk2.nil))))))))))))))))))))))))))))))))))))))))))
                · intro L a w4 Kx hl hsz hs ht hr he hcl hK
                  refine step_plain rfl ?_
                  have h0 : a.tmps.getD 0 undef = .slice (some ⟨g, 0, none⟩) 8 cap := (hs 0 (by decide)).trans rfl
                  go_simp
                  exact hK _ _ rfl (by simpa using hr)
                · intro L a w4 Kx hl hsz hs ht hr he hcl hK
                  refine step_plain rfl ?_
                  have h176 : a.tmps.getD 176 undef = .slice (some ⟨g, 0, none⟩) 8 cap := ht 0 (he 0 (by kernel_rfl)) 176 rfl
                  go_simp
                  exact hK _ _ rfl (by simpa using hr)
                · intro L a w4 Kx hl hsz hs ht hr he hcl hK
                  refine step_plain rfl ?_
                  have h177 : a.tmps.getD 177 undef = .pointer (some ⟨g, 0, none⟩) := ht 1 (he 1 (by kernel_rfl)) 177 rfl
                  have hx : L 40 = false := by
                    cases hy : L 40 with
                    | false => rfl
                    | true => have := hcl 4 2 (by kernel_rfl) (hcl 40 4 (by kernel_rfl) hy); rw [hl] at this; cases this
                  have hw4 := hr.1 hx
                  subst hw4
                  go_simp
                  refine hK _ _ rfl ⟨fun _ => rfl, fun h => ?_⟩
                  have h' : (L 40 || false) = true := h
                  rw [hx] at h'
                  cases h'
                · intro L a w4 Kx hl hsz hs ht hr he hcl hK
                  refine step_plain rfl ?_
                  have h15 : a.tmps.getD 15 undef = .int .u32 (bvi (y0)) := (hs 15 (by decide)).trans rfl
                  go_simp
                  exact hK _ _ rfl (by simpa using hr)
                · intro L a w4 Kx hl hsz hs ht hr he hcl hK
                  refine step_plain rfl ?_
                  have h178 : a.tmps.getD 178 undef = .int .u32 (bvi (x0)) := ht 2 (he 2 (by kernel_rfl)) 178 rfl
                  have h179 : a.tmps.getD 179 undef = .int .u32 (bvi (y0)) := ht 3 (he 3 (by kernel_rfl)) 179 rfl
                  go_simp
                  exact hK _ _ rfl (by simpa using hr)
                · intro L a w4 Kx hl hsz hs ht hr he hcl hK
                  refine step_plain rfl ?_
                  have h0 : a.tmps.getD 0 undef = .slice (some ⟨g, 0, none⟩) 8 cap := (hs 0 (by decide)).trans rfl
                  go_simp
                  exact hK _ _ rfl (by simpa using hr)
                · intro L a w4 Kx hl hsz hs ht hr he hcl hK
                  refine step_plain rfl ?_
                  have h181 : a.tmps.getD 181 undef = .slice (some ⟨g, 0, none⟩) 8 cap := ht 5 (he 5 (by kernel_rfl)) 181 rfl
                  go_simp
                  exact hK _ _ rfl (by simpa using hr)
                · intro L a w4 Kx hl hsz hs ht hr he hcl hK
                  refine step_plain rfl ?_
                  have h182 : a.tmps.getD 182 undef = .pointer (some ⟨g, 1, none⟩) := ht 6 (he 6 (by kernel_rfl)) 182 rfl
                  have hx : L 40 = false := by
                    cases hy : L 40 with
                    | false => rfl
                    | true => have := hcl 9 7 (by kernel_rfl) (hcl 40 9 (by kernel_rfl) hy); rw [hl] at this; cases this
                  have hw4 := hr.1 hx
                  subst hw4
                  go_simp
                  refine hK _ _ rfl ⟨fun _ => rfl, fun h => ?_⟩
                  have h' : (L 40 || false) = true := h
                  rw [hx] at h'
                  cases h'
                · intro L a w4 Kx hl hsz hs ht hr he hcl hK
                  refine step_plain rfl ?_
                  have h16 : a.tmps.getD 16 undef = .int .u32 (bvi (y1)) := (hs 16 (by decide)).trans rfl
                  go_simp
                  exact hK _ _ rfl (by simpa using hr)
                · intro L a w4 Kx hl hsz hs ht hr he hcl hK
                  refine step_plain rfl ?_
                  have h183 : a.tmps.getD 183 undef = .int .u32 (bvi (x1)) := ht 7 (he 7 (by kernel_rfl)) 183 rfl
                  have h184 : a.tmps.getD 184 undef = .int .u32 (bvi (y1)) := ht 8 (he 8 (by kernel_rfl)) 184 rfl
                  go_simp
                  exact hK _ _ rfl (by simpa using hr)
                · intro L a w4 Kx hl hsz hs ht hr he hcl hK
                  refine step_plain rfl ?_
                  have h0 : a.tmps.getD 0 undef = .slice (some ⟨g, 0, none⟩) 8 cap := (hs 0 (by decide)).trans rfl
                  go_simp
                  exact hK _ _ rfl (by simpa using hr)
                · intro L a w4 Kx hl hsz hs ht hr he hcl hK
                  refine step_plain rfl ?_
                  have h186 : a.tmps.getD 186 undef = .slice (some ⟨g, 0, none⟩) 8 cap := ht 10 (he 10 (by kernel_rfl)) 186 rfl
                  go_simp
                  exact hK _ _ rfl (by simpa using hr)
                · intro L a w4 Kx hl hsz hs ht hr he hcl hK
                  refine step_plain rfl ?_
                  have h187 : a.tmps.getD 187 undef = .pointer (some ⟨g, 2, none⟩) := ht 11 (he 11 (by kernel_rfl)) 187 rfl
                  have hx : L 40 = false := by
                    cases hy : L 40 with
                    | false => rfl
                    | true => have := hcl 14 12 (by kernel_rfl) (hcl 40 14 (by kernel_rfl) hy); rw [hl] at this; cases this
                  have hw4 := hr.1 hx
                  subst hw4
                  go_simp
                  refine hK _ _ rfl ⟨fun _ => rfl, fun h => ?_⟩
                  have h' : (L 40 || false) = true := h
                  rw [hx] at h'
                  cases h'
                · intro L a w4 Kx hl hsz hs ht hr he hcl hK
                  refine step_plain rfl ?_
                  have h17 : a.tmps.getD 17 undef = .int .u32 (bvi (y2)) := (hs 17 (by decide)).trans rfl
                  go_simp
                  exact hK _ _ rfl (by simpa using hr)
                · intro L a w4 Kx hl hsz hs ht hr he hcl hK
                  refine step_plain rfl ?_
                  have h188 : a.tmps.getD 188 undef = .int .u32 (bvi (x2)) := ht 12 (he 12 (by kernel_rfl)) 188 rfl
                  have h189 : a.tmps.getD 189 undef = .int .u32 (bvi (y2)) := ht 13 (he 13 (by kernel_rfl)) 189 rfl
                  go_simp
                  exact hK _ _ rfl (by simpa using hr)
                · intro L a w4 Kx hl hsz hs ht hr he hcl hK
                  refine step_plain rfl ?_
                  have h0 : a.tmps.getD 0 undef = .slice (some ⟨g, 0, none⟩) 8 cap := (hs 0 (by decide)).trans rfl
                  go_simp
                  exact hK _ _ rfl (by simpa using hr)
                · intro L a w4 Kx hl hsz hs ht hr he hcl hK
                  refine step_plain rfl ?_
                  have h191 : a.tmps.getD 191 undef = .slice (some ⟨g, 0, none⟩) 8 cap := ht 15 (he 15 (by kernel_rfl)) 191 rfl
                  go_simp
                  exact hK _ _ rfl (by simpa using hr)
                · intro L a w4 Kx hl hsz hs ht hr he hcl hK
                  refine step_plain rfl ?_
                  have h192 : a.tmps.getD 192 undef = .pointer (some ⟨g, 3, none⟩) := ht 16 (he 16 (by kernel_rfl)) 192 rfl
                  have hx : L 40 = false := by
                    cases hy : L 40 with
                    | false => rfl
                    | true => have := hcl 19 17 (by kernel_rfl) (hcl 40 19 (by kernel_rfl) hy); rw [hl] at this; cases this
                  have hw4 := hr.1 hx
                  subst hw4
                  go_simp
                  refine hK _ _ rfl ⟨fun _ => rfl, fun h => ?_⟩
                  have h' : (L 40 || false) = true := h
                  rw [hx] at h'
                  cases h'
                · intro L a w4 Kx hl hsz hs ht hr he hcl hK
                  refine step_plain rfl ?_
                  have h18 : a.tmps.getD 18 undef = .int .u32 (bvi (y3)) := (hs 18 (by decide)).trans rfl
                  go_simp
                  exact hK _ _ rfl (by simpa using hr)
                · intro L a w4 Kx hl hsz hs ht hr he hcl hK
                  refine step_plain rfl ?_
                  have h193 : a.tmps.getD 193 undef = .int .u32 (bvi (x3)) := ht 17 (he 17 (by kernel_rfl)) 193 rfl
                  have h194 : a.tmps.getD 194 undef = .int .u32 (bvi (y3)) := ht 18 (he 18 (by kernel_rfl)) 194 rfl
                  go_simp
                  exact hK _ _ rfl (by simpa using hr)
                · intro L a w4 Kx hl hsz hs ht hr he hcl hK
                  refine step_plain rfl ?_
                  have h0 : a.tmps.getD 0 undef = .slice (some ⟨g, 0, none⟩) 8 cap := (hs 0 (by decide)).trans rfl
                  go_simp
                  exact hK _ _ rfl (by simpa using hr)
                · intro L a w4 Kx hl hsz hs ht hr he hcl hK
                  refine step_plain rfl ?_
                  have h196 : a.tmps.getD 196 undef = .slice (some ⟨g, 0, none⟩) 8 cap := ht 20 (he 20 (by kernel_rfl)) 196 rfl
                  go_simp
                  exact hK _ _ rfl (by simpa using hr)
                · intro L a w4 Kx hl hsz hs ht hr he hcl hK
                  refine step_plain rfl ?_
                  have h197 : a.tmps.getD 197 undef = .pointer (some ⟨g, 4, none⟩) := ht 21 (he 21 (by kernel_rfl)) 197 rfl
                  have hx : L 40 = false := by
                    cases hy : L 40 with
                    | false => rfl
                    | true => have := hcl 24 22 (by kernel_rfl) (hcl 40 24 (by kernel_rfl) hy); rw [hl] at this; cases this
                  have hw4 := hr.1 hx
                  subst hw4
                  go_simp
                  refine hK _ _ rfl ⟨fun _ => rfl, fun h => ?_⟩
                  have h' : (L 40 || false) = true := h
                  rw [hx] at h'
                  cases h'
                · intro L a w4 Kx hl hsz hs ht hr he hcl hK
                  refine step_plain rfl ?_
                  have h19 : a.tmps.getD 19 undef = .int .u32 (bvi (y4)) := (hs 19 (by decide)).trans rfl
                  go_simp
                  exact hK _ _ rfl (by simpa using hr)
                · intro L a w4 Kx hl hsz hs ht hr he hcl hK
                  refine step_plain rfl ?_
                  have h198 : a.tmps.getD 198 undef = .int .u32 (bvi (x4)) := ht 22 (he 22 (by kernel_rfl)) 198 rfl
                  have h199 : a.tmps.getD 199 undef = .int .u32 (bvi (y4)) := ht 23 (he 23 (by kernel_rfl)) 199 rfl
                  go_simp
                  exact hK _ _ rfl (by simpa using hr)
                · intro L a w4 Kx hl hsz hs ht hr he hcl hK
                  refine step_plain rfl ?_
                  have h0 : a.tmps.getD 0 undef = .slice (some ⟨g, 0, none⟩) 8 cap := (hs 0 (by decide)).trans rfl
                  go_simp
                  exact hK _ _ rfl (by simpa using hr)
                · intro L a w4 Kx hl hsz hs ht hr he hcl hK
                  refine step_plain rfl ?_
                  have h201 : a.tmps.getD 201 undef = .slice (some ⟨g, 0, none⟩) 8 cap := ht 25 (he 25 (by kernel_rfl)) 201 rfl
                  go_simp
                  exact hK _ _ rfl (by simpa using hr)
                · intro L a w4 Kx hl hsz hs ht hr he hcl hK
                  refine step_plain rfl ?_
                  have h202 : a.tmps.getD 202 undef = .pointer (some ⟨g, 5, none⟩) := ht 26 (he 26 (by kernel_rfl)) 202 rfl
                  have hx : L 40 = false := by
                    cases hy : L 40 with
                    | false => rfl
                    | true => have := hcl 29 27 (by kernel_rfl) (hcl 40 29 (by kernel_rfl) hy); rw [hl] at this; cases this
                  have hw4 := hr.1 hx
                  subst hw4
                  go_simp
                  refine hK _ _ rfl ⟨fun _ => rfl, fun h => ?_⟩
                  have h' : (L 40 || false) = true := h
                  rw [hx] at h'
                  cases h'
                · intro L a w4 Kx hl hsz hs ht hr he hcl hK
                  refine step_plain rfl ?_
                  have h20 : a.tmps.getD 20 undef = .int .u32 (bvi (y5)) := (hs 20 (by decide)).trans rfl
                  go_simp
                  exact hK _ _ rfl (by simpa using hr)
                · intro L a w4 Kx hl hsz hs ht hr he hcl hK
                  refine step_plain rfl ?_
                  have h203 : a.tmps.getD 203 undef = .int .u32 (bvi (x5)) := ht 27 (he 27 (by kernel_rfl)) 203 rfl
                  have h204 : a.tmps.getD 204 undef = .int .u32 (bvi (y5)) := ht 28 (he 28 (by kernel_rfl)) 204 rfl
                  go_simp
                  exact hK _ _ rfl (by simpa using hr)
                · intro L a w4 Kx hl hsz hs ht hr he hcl hK
                  refine step_plain rfl ?_
                  have h0 : a.tmps.getD 0 undef = .slice (some ⟨g, 0, none⟩) 8 cap := (hs 0 (by decide)).trans rfl
                  go_simp
                  exact hK _ _ rfl (by simpa using hr)
                · intro L a w4 Kx hl hsz hs ht hr he hcl hK
                  refine step_plain rfl ?_
                  have h206 : a.tmps.getD 206 undef = .slice (some ⟨g, 0, none⟩) 8 cap := ht 30 (he 30 (by kernel_rfl)) 206 rfl
                  go_simp
                  exact hK _ _ rfl (by simpa using hr)
                · intro L a w4 Kx hl hsz hs ht hr he hcl hK
                  refine step_plain rfl ?_
                  have h207 : a.tmps.getD 207 undef = .pointer (some ⟨g, 6, none⟩) := ht 31 (he 31 (by kernel_rfl)) 207 rfl
                  have hx : L 40 = false := by
                    cases hy : L 40 with
                    | false => rfl
                    | true => have := hcl 34 32 (by kernel_rfl) (hcl 40 34 (by kernel_rfl) hy); rw [hl] at this; cases this
                  have hw4 := hr.1 hx
                  subst hw4
                  go_simp
                  refine hK _ _ rfl ⟨fun _ => rfl, fun h => ?_⟩
                  have h' : (L 40 || false) = true := h
                  rw [hx] at h'
                  cases h'
                · intro L a w4 Kx hl hsz hs ht hr he hcl hK
                  refine step_plain rfl ?_
                  have h21 : a.tmps.getD 21 undef = .int .u32 (bvi (y6)) := (hs 21 (by decide)).trans rfl
                  go_simp
                  exact hK _ _ rfl (by simpa using hr)
                · intro L a w4 Kx hl hsz hs ht hr he hcl hK
                  refine step_plain rfl ?_
                  have h208 : a.tmps.getD 208 undef = .int .u32 (bvi (x6)) := ht 32 (he 32 (by kernel_rfl)) 208 rfl
                  have h209 : a.tmps.getD 209 undef = .int .u32 (bvi (y6)) := ht 33 (he 33 (by kernel_rfl)) 209 rfl
                  go_simp
                  exact hK _ _ rfl (by simpa using hr)
                · intro L a w4 Kx hl hsz hs ht hr he hcl hK
                  refine step_plain rfl ?_
                  have h0 : a.tmps.getD 0 undef = .slice (some ⟨g, 0, none⟩) 8 cap := (hs 0 (by decide)).trans rfl
                  go_simp
                  exact hK _ _ rfl (by simpa using hr)
                · intro L a w4 Kx hl hsz hs ht hr he hcl hK
                  refine step_plain rfl ?_
                  have h211 : a.tmps.getD 211 undef = .slice (some ⟨g, 0, none⟩) 8 cap := ht 35 (he 35 (by kernel_rfl)) 211 rfl
                  go_simp
                  exact hK _ _ rfl (by simpa using hr)
                · intro L a w4 Kx hl hsz hs ht hr he hcl hK
                  refine step_plain rfl ?_
                  have h212 : a.tmps.getD 212 undef = .pointer (some ⟨g, 7, none⟩) := ht 36 (he 36 (by kernel_rfl)) 212 rfl
                  have hx : L 40 = false := by
                    cases hy : L 40 with
                    | false => rfl
                    | true => have := hcl 39 37 (by kernel_rfl) (hcl 40 39 (by kernel_rfl) hy); rw [hl] at this; cases this
                  have hw4 := hr.1 hx
                  subst hw4
                  go_simp
                  refine hK _ _ rfl ⟨fun _ => rfl, fun h => ?_⟩
                  have h' : (L 40 || false) = true := h
                  rw [hx] at h'
                  cases h'
                · intro L a w4 Kx hl hsz hs ht hr he hcl hK
                  refine step_plain rfl ?_
                  have h22 : a.tmps.getD 22 undef = .int .u32 (bvi (y7)) := (hs 22 (by decide)).trans rfl
                  go_simp
                  exact hK _ _ rfl (by simpa using hr)
                · intro L a w4 Kx hl hsz hs ht hr he hcl hK
                  refine step_plain rfl ?_
                  have h213 : a.tmps.getD 213 undef = .int .u32 (bvi (x7)) := ht 37 (he 37 (by kernel_rfl)) 213 rfl
                  have h214 : a.tmps.getD 214 undef = .int .u32 (bvi (y7)) := ht 38 (he 38 (by kernel_rfl)) 214 rfl
                  go_simp
                  exact hK _ _ rfl (by simpa using hr)
                · intro L a w4 Kx hl hsz hs ht hr he hcl hK
                  refine step_plain rfl ?_
                  have h180 : a.tmps.getD 180 undef = .int .u32 (bvi (x0 + y0)) := ht 4 (he 4 (by kernel_rfl)) 180 rfl
                  have h185 : a.tmps.getD 185 undef = .int .u32 (bvi (x1 + y1)) := ht 9 (he 9 (by kernel_rfl)) 185 rfl
                  have h190 : a.tmps.getD 190 undef = .int .u32 (bvi (x2 + y2)) := ht 14 (he 14 (by kernel_rfl)) 190 rfl
                  have h195 : a.tmps.getD 195 undef = .int .u32 (bvi (x3 + y3)) := ht 19 (he 19 (by kernel_rfl)) 195 rfl
                  have h200 : a.tmps.getD 200 undef = .int .u32 (bvi (x4 + y4)) := ht 24 (he 24 (by kernel_rfl)) 200 rfl
                  have h205 : a.tmps.getD 205 undef = .int .u32 (bvi (x5 + y5)) := ht 29 (he 29 (by kernel_rfl)) 205 rfl
                  have h210 : a.tmps.getD 210 undef = .int .u32 (bvi (x6 + y6)) := ht 34 (he 34 (by kernel_rfl)) 210 rfl
                  have h215 : a.tmps.getD 215 undef = .int .u32 (bvi (x7 + y7)) := ht 39 (he 39 (by kernel_rfl)) 215 rfl
                  have hw4 := hr.1 hl
                  subst hw4
                  obtain ⟨i0, hi, hz0, hz1, hz2⟩ := info_parts infoU32
                  refine wp_buildSlice 116 62 8 _ rfl (words [x0 + y0, x1 + y1, x2 + y2, x3 + y3, x4 + y4, x5 + y5, x6 + y6, x7 + y7]).toArray i0 (.int .u32 0) Try.underlying116 hi hz0 (by rw [hz1]; decide) (by rw [hz1]; decide) ?_ (hK _ _ rfl ⟨fun h => ?_, fun _ => rfl⟩)
                  · rw [hz1, Array.toList_map]
                    show Instr.fill _ _ [(0, a.tmps.getD 180 undef), (1, a.tmps.getD 185 undef), (2, a.tmps.getD 190 undef), (3, a.tmps.getD 195 undef), (4, a.tmps.getD 200 undef), (5, a.tmps.getD 205 undef), (6, a.tmps.getD 210 undef), (7, a.tmps.getD 215 undef)] = _
                    rw [h180, h185, h190, h195, h200, h205, h210, h215]
                    kernel_rfl
                  have h' : (L 40 || true) = false := h
                  rw [Bool.or_true] at h'
                  cases h'
                · intro L a w4 Kx hl hsz hs ht hr he hcl hK
                  refine step_plain rfl ?_
                  have h216 : a.tmps.getD 216 undef = .slice (some ⟨wr.heap.size, 0, none⟩) 8 8 := ht 40 (he 40 (by kernel_rfl)) 216 rfl
                  go_simp
                  exact hK _ _ rfl (by simpa using hr)
                · intro L a w4 Kx hl hsz hs ht hr he hcl hK
                  refine step_plain rfl ?_
                  go_simp
                  exact hK _ _ rfl (by simpa using hr)
              · intro f L w4 hf hall hr
                have hw4 := hr.2 (hall 40 (by decide))
                subst hw4
                have h4 : f 4 = .slice (some ⟨wr.heap.size, 0, none⟩) 8 8 := hf 41 (by decide) 4 rfl
                have h5 : f 5 = .int .i64 (0) := hf 42 (by decide) 5 rfl
                clear hall hr
                simp only [List.foldl, Act.put, List.setIfInBounds_toArray, List.set_cons_zero, List.set_cons_succ]
                rw [h4, h5]
                clear hf h4 h5
                generalize f 176 = z176
                generalize f 177 = z177
                generalize f 178 = z178
                generalize f 179 = z179
                generalize f 180 = z180
                generalize f 181 = z181
                generalize f 182 = z182
                generalize f 183 = z183
                generalize f 184 = z184
                generalize f 185 = z185
                generalize f 186 = z186
                generalize f 187 = z187
                generalize f 188 = z188
                generalize f 189 = z189
                generalize f 190 = z190
                generalize f 191 = z191
                generalize f 192 = z192
                generalize f 193 = z193
                generalize f 194 = z194
                generalize f 195 = z195
                generalize f 196 = z196
                generalize f 197 = z197
                generalize f 198 = z198
                generalize f 199 = z199
                generalize f 200 = z200
                generalize f 201 = z201
                generalize f 202 = z202
                generalize f 203 = z203
                generalize f 204 = z204
                generalize f 205 = z205
                generalize f 206 = z206
                generalize f 207 = z207
                generalize f 208 = z208
                generalize f 209 = z209
                generalize f 210 = z210
                generalize f 211 = z211
                generalize f 212 = z212
                generalize f 213 = z213
                generalize f 214 = z214
                generalize f 215 = z215
                generalize f 216 = z216
                have HRN := Lib.hid (RowAt.new wr.drew (words [x0 + y0, x1 + y1, x2 + y2, x3 + y3, x4 + y4, x5 + y5, x6 + y6, x7 + y7]).toArray 62 (0, 0))
                have zr : wr.drew.heap.size = wr.heap.size := rfl
                rw [zr] at HRN
                have HBE := Lib.hid (below_alloc' (HB3.out.trans (HBW.out.drew.mono HB3.out.size)) (.cells (words [x0 + y0, x1 + y1, x2 + y2, x3 + y3, x4 + y4, x5 + y5, x6 + y6, x7 + y7]).toArray 62))
                go_wp2_with fail
                go_ret2
                refine ⟨_, rfl, ?_, HBE.out⟩
                rw [HMM.out]
                exact WdAt.row HRN.out
end Go.Proofs.Ytfglhemmccihfaa
namespace Go.Proofs.Ytfglhemmccihfaa
open Go.RowKit

theorem pad_test (n : BitVec 64) (k : Nat) (hk : k ≤ zerosS n) : (bvi ((n % 64#64 + BitVec.ofNat 64 (k + 1)) % 64#64) != 56) = decide (k < zerosS n) := by
  have hz := zerosS_lt n
  have h0 : (n % 64#64).toNat = n.toNat % 64 := by rw [BitVec.toNat_umod]; rfl
  have h1 : ((n % 64#64 + BitVec.ofNat 64 (k + 1)) % 64#64).toNat = (n.toNat % 64 + (k + 1)) % 64 := by
    rw [BitVec.toNat_umod, BitVec.toNat_add, h0, BitVec.toNat_ofNat]
    show (n.toNat % 64 + (k + 1) % 18446744073709551616) % 18446744073709551616 % 64 = _
    omega
  unfold bvi
  rw [h1]
  unfold zerosS at hk hz ⊢
  generalize n.toNat = m at *
  by_cases h : k < (119 - m % 64) % 64
  · rw [decide_eq_true h, bne_iff_ne]; omega
  · rw [decide_eq_false h, bne_eq_false_iff_eq]; omega
set_option maxRecDepth 100000 in
set_option maxHeartbeats 400000 in
theorem RPad_walk (n : BitVec 64) (q : ByteArray) (hq : Is q (padL n)) (w : World) : Calls Try.prog 107 #[.int .u64 (bvi n)] w fun e w' => e = .returned (.string q) ∧ Below w.heap.size w w' := by
  have HQ := Lib.hid hq
  have hzl := zerosS_lt n
  clear hq
  go_enter Try.func107, Try.ntmps107
  go_wp2_with fail
  go_loopg [3] (zerosS n) (fun g v wr => ∃ (k : Nat) (rs : ByteArray), k + g = zerosS n ∧ v = .string rs ∧ Is rs (128 :: List.replicate k 0) ∧ Below w.heap.size w wr)
  case atStart => exact ⟨0, _, by omega, rfl, rfl, Below.refl _ _⟩
  case round =>
    obtain ⟨k, rs, hkg, rfl, hrs, hb⟩ := hrel
    have hz : rs.size = k + 1 := by rw [hrs.size]; simp
    have hkz : k ≤ zerosS n := by omega
    have ht := pad_test n k hkz
    rw [← hz] at ht
    have HZ := Lib.hid hz
    have HRS := Lib.hid hrs
    have HB := Lib.hid hb
    have hov : ¬ 9223372036854775807 < rs.size + 1 := by omega
    have HK := Lib.hid hkg
    clear hz hrs hb hkg
    rcases Nat.lt_or_ge k (zerosS n) with hlt | hge
    · rw [decide_eq_true hlt] at ht
      go_wp2_with fail
      go_roundg (gk - 1)
      case measure => have := HK.out; omega
      case rel =>
        refine ⟨k + 1, _, by have := HK.out; omega, rfl, ?_, HB.out⟩
        have := HRS.out.append (show Is ⟨#[0]⟩ [0] from rfl)
        rw [List.cons_append, ← List.replicate_succ'] at this
        exact this
    · rw [decide_eq_false (by omega)] at ht
      have HKK := Lib.hid (show k = zerosS n by omega)
      go_wp2_with fail
      refine (RHigh_walk _ 8 _).mono ?_
      rintro e w2 ⟨r, rfl, hr, hb2⟩
      have hrz : r.size = 8 := by rw [hr.size, highL_length]; rfl
      have hov2 : ¬ 9223372036854775807 < rs.size + r.size := by have := HZ.out; omega
      have HR := Lib.hid hr
      have HRZ := Lib.hid hrz
      have HB2 := Lib.hid hb2
      clear hr hrz hb2
      go_wp2_with fail
      go_ret
      refine ⟨ret_val (congrArg Value.string ?_), bthen HB.out HB2.out⟩
      refine Is.inj (HRS.out.append HR.out) ?_
      have e1 : padL n = (128 :: List.replicate k 0) ++ highL (8#64 * n) (cut 8) := by rw [BitVec.mul_comm, HKK.out]; rfl
      rw [← e1]
      exact HQ.out
theorem allS_mod (t : List UInt8) : (allS t).length % 64 = 0 := by
  unfold allS
  rw [List.length_append, padL_length]
  unfold zerosS
  rw [BitVec.toNat_ofNat]
  omega
theorem allS_length (t : List UInt8) : (allS t).length ≤ t.length + 73 := by
  have := zerosS_lt (BitVec.ofNat 64 t.length)
  unfold allS
  rw [List.length_append, padL_length]
  omega
set_option maxRecDepth 100000 in
set_option maxHeartbeats 1000000 in
theorem RSum_walk (s : ByteArray) (hs : s.size ≤ 140737488351232) (q : ByteArray) (hq : Is q (shaL s.data.toList)) (w : World) :
    Calls Try.prog 90 #[.string s] w fun e w' => e = .returned (.string q) ∧ Below w.heap.size w w' := by
  have HQ := Lib.hid hq
  obtain ⟨pd, hpd⟩ : ∃ pd, Is pd (padL (BitVec.ofNat 64 s.size)) := ⟨_, Is.of _⟩
  have HTL := Lib.hid (show s.data.toList.length = s.size by rw [Array.length_toList]; rfl)
  obtain ⟨ab, hab⟩ : ∃ ab, ab = s ++ pd := ⟨_, rfl⟩
  have HA := Lib.hid (show Is ab (allS s.data.toList) by
    rw [hab]
    unfold allS
    rw [HTL.out]
    exact (Is.self s).append hpd)
  have hpz : pd.size ≤ 73 := by have := zerosS_lt (BitVec.ofNat 64 s.size); rw [hpd.size, padL_length]; omega
  have hov : ¬ 9223372036854775807 < s.size + pd.size := by omega
  have hmz : ab.size % 64 = 0 := by rw [HA.out.size]; exact allS_mod _
  have haz : ab.size ≤ 140737488351305 := by have := allS_length s.data.toList; rw [HA.out.size]; rw [HTL.out] at this; omega
  have HPD := Lib.hid hpd
  have HAB := Lib.hid hab
  clear hq hpd hab
  go_enter Try.func90, Try.ntmps90
  go_wp2_with fail
  refine (RPad_walk _ pd HPD.out _).mono ?_
  rintro e w1 ⟨rfl, hb1⟩
  have HB1 := Lib.hid hb1
  clear hb1
  go_wp2_with fail
  rw [← HAB.out]
  refine (RFirst_walk _).mono ?_
  rintro e w2 ⟨rfl, rfl⟩
  have HW1 := Lib.hid (show WdAt (w1.alloc (.cells (words firstS).toArray 62)) (.slice (some ⟨w1.heap.size, 0, none⟩) 8 8) firstS from WdAt.row (RowAt.new w1 _ _ _))
  have HB2 := Lib.hid (below_alloc' HB1.out (.cells (words firstS).toArray 62))
  generalize w1.alloc (.cells (words firstS).toArray 62) = w2 at HW1 HB2 ⊢
  go_wp2_with fail
  go_loopw [4, 5] (fun v i wr => ∃ j : Nat, 64 * j ≤ ab.size ∧ i = .int .i64 (64 * (j : Int)) ∧ WdAt wr v (mixK firstS ab.data.toList j) ∧ Below w.heap.size w wr) (fun _ i _ => ab.size - (intOf i).toNat)
  case atStart => exact ⟨0, by omega, rfl, HW1.out, HB2.out⟩
  case round =>
    obtain ⟨j, hj, rfl, hwd, hb⟩ := hrel
    have HWD := Lib.hid hwd
    have HB := Lib.hid hb
    clear hwd hb
    rcases Nat.lt_or_ge (64 * j) ab.size with hlt | hge
    · have hx := (Is.self ab).extract (64 * j) (64 * j + 64)
      rw [show 64 * j + 64 - 64 * j = 64 by omega] at hx
      have hxz : (ab.extract (64 * j) (64 * j + 64)).size = 64 := by rw [ByteArray.size_extract]; omega
      have hk3 : 64 * (j : Int) + 64 ≤ (ab.size : Int) := by omega
      have hd : decide (64 * (j : Int) < (ab.size : Int)) = true := decide_eq_true (by omega)
      have HX := Lib.hid hx
      have HXZ := Lib.hid hxz
      clear hx hxz
      go_wp2_with fail
      refine (RMix_ok _ (mixK firstS ab.data.toList j) (by rw [mixK_length]; rfl) (ab.extract (64 * j) (64 * j + 64)) HXZ.out _ HWD.out).mono ?_
      rintro e w3 ⟨v3, rfl, hwd3, hb3⟩
      have HWD3 := Lib.hid (show WdAt w3 v3 (mixK firstS ab.data.toList (j + 1)) from by rw [mixK, blockS, ← HX.out.out]; exact hwd3)
      have HB3 := Lib.hid (bthen HB.out hb3)
      clear hwd3 hb3
      go_wp2_with fail
      go_roundw
      case rel => exact ⟨j + 1, by omega, by go_num, HWD3.out, HB3.out⟩
      case measure => simp [intOf]; omega
    · have hj2 : j = ab.size / 64 := by omega
      have hd : decide (64 * (j : Int) < (ab.size : Int)) = false := decide_eq_false (by omega)
      have HQ2 := Lib.hid (show Is q (bytesS (mixK firstS ab.data.toList j) 8) from by
        have h := HQ.out
        unfold shaL at h
        rwa [← HA.out.out, ← (Is.self ab).size, ← hj2] at h)
      have hvl : (mixK firstS ab.data.toList j).length = 8 := by rw [mixK_length]; rfl
      generalize mixK firstS ab.data.toList j = V at HWD HQ2 hvl
      obtain ⟨g, cap, rfl, hg, hc⟩ := HWD.out
      rw [hvl] at hc ⊢
      have HC := Lib.hid hc
      clear hc hvl hj2
      go_wp2_with fail
      obtain ⟨wo, hwo⟩ : ∃ wo : World, wo = wr := ⟨_, rfl⟩
      subst hwo
      go_loopw [6, 7] (fun v i wr => ∃ (k : Nat) (o : ByteArray), k ≤ 8 ∧ i = .int .i64 k ∧ v = .string o ∧ Is o (bytesS V k) ∧ Below wo.heap.size wo wr) (fun _ i _ => 8 - (intOf i).toNat)
      case atStart => exact ⟨0, _, by omega, rfl, rfl, Is.of [], Below.refl _ _⟩
      case round =>
        obtain ⟨k, o, hk, rfl, rfl, ho, hb⟩ := hrel
        have HO := Lib.hid ho
        have HBO := Lib.hid hb
        have hoz : o.size = 4 * k := by rw [ho.size, bytesS_length]
        rcases Nat.lt_or_ge k 8 with hlt | hge
        · have c0 := (hb.cell (p := ⟨g, k, none⟩) hg).trans (HC.out k hlt)
          have HBS := Lib.hid (bytesS_succ V k)
          generalize V.getD k 0 = x at c0 HBS
          have d5 : (k : Int) < 8 := by omega
          have d6 : decide ((k : Int) < 8) = true := decide_eq_true d5
          have hoz2 : o.size ≤ 32 := by omega
          clear ho hb hoz
          go_wp2_with fail
          refine (RHigh_walk _ 4 _).mono ?_
          rintro e w5 ⟨r, rfl, hr, hb5⟩
          have hrz : r.size = 4 := by rw [hr.size, highL_length]; rfl
          have hov2 : ¬ 9223372036854775807 < o.size + r.size := by omega
          have HR := Lib.hid hr
          have HB5 := Lib.hid (bthen HBO.out hb5)
          clear hr hrz hb5
          go_wp2_with fail
          go_roundw
          case rel => exact ⟨k + 1, o ++ r, by omega, by go_num, rfl, by rw [HBS.out]; exact HO.out.append HR.out, HB5.out⟩
          case measure => simp [intOf]; omega
        · obtain rfl : k = 8 := by omega
          have d6 : decide (((8 : Nat) : Int) < 8) = false := rfl
          clear ho hb hoz
          go_wp2_with fail
          go_ret
          exact ⟨ret_val (congrArg Value.string (HO.out.inj HQ2.out)), bthen HB.out HBO.out⟩
end Go.Proofs.Ytfglhemmccihfaa
namespace Go.Proofs.Ytfglhemmccihfaa
open Go.RowKit

/-- The first k bytes turned, zeros behind. -/
def midL (P : List UInt8) (b : UInt8) (k : Nat) : List UInt8 := (P.take k).map (· ^^^ b) ++ List.replicate (64 - k) 0
theorem midL_length (P : List UInt8) (b : UInt8) (k : Nat) (hP : P.length = 64) (h : k ≤ 64) : (midL P b k).length = 64 := by
  unfold midL
  rw [List.length_append, List.length_map, List.length_take, List.length_replicate]; omega
theorem midL_get (P : List UInt8) (b : UInt8) (k : Nat) (hP : P.length = 64) (h : k < 64) : (midL P b k).getD k 0 = 0 := by
  unfold midL
  rw [List.getD_eq_getElem?_getD, List.getElem?_append_right (by rw [List.length_map, List.length_take]; omega)]
  rw [List.length_map, List.length_take, List.getElem?_replicate]
  rw [if_pos (by omega)]; rfl
theorem midL_set (P : List UInt8) (b : UInt8) (k : Nat) (hP : P.length = 64) (h : k < 64) : (midL P b k).set k (P.getD k 0 ^^^ b) = midL P b (k + 1) := by
  have hl : ((P.take k).map (· ^^^ b)).length = k := by rw [List.length_map, List.length_take]; omega
  have hg : P.getD k 0 = P[k] := by rw [List.getD_eq_getElem?_getD, List.getElem?_eq_getElem (by omega)]; rfl
  unfold midL
  rw [List.set_append_right _ _ (by rw [hl]; exact Nat.le_refl _), hl, Nat.sub_self, List.take_succ_eq_append_getElem (by omega), List.map_append, List.append_assoc]
  congr 1
  rw [show 64 - k = (64 - (k + 1)) + 1 by omega, List.replicate_succ, List.set_cons_zero, hg]
  rfl
theorem midL_full (P : List UInt8) (b : UInt8) (hP : P.length = 64) : midL P b 64 = P.map (· ^^^ b) := by
  unfold midL
  rw [List.take_of_length_le (by omega)]; simp
theorem cells_at (l : List UInt8) (i : Nat) (h : i < l.length) : (cells l).toArray[i]? = some (.int .u8 (bvi (l.getD i 0).toBitVec)) := by
  rw [List.getElem?_toArray, cells_get h, List.getD_eq_getElem?_getD, List.getElem?_eq_getElem h]; rfl
theorem cells_put (l : List UInt8) (i : Nat) (b : UInt8) : (cells l).toArray.setIfInBounds i (.int .u8 (bvi b.toBitVec)) = (cells (l.set i b)).toArray := by
  rw [List.setIfInBounds_toArray]
  show (((cells l).set i (u8c b)).toArray) = _
  rw [cells_set]
theorem make_64 (wx : World) : (Instr.makeSlice 32 (.int .i64 64) (.int .i64 64)).run Try.prog wx = .ok (.slice (some ⟨wx.heap.size, 0, none⟩) 64 64) (wx.alloc (.cells (cells (List.replicate 64 0)).toArray 5)) := by kernel_rfl
set_option maxRecDepth 100000 in
set_option maxHeartbeats 2000000 in
theorem Rblock_walk (key : ByteArray) (hk : key.size ≤ 140737488351232) (b : UInt8) (n : Int) (hn : bvi b.toBitVec = n) (q : ByteArray) (hq : Is q (turnK key.data.toList b)) (w : World) :
    Calls Try.prog 91 #[.string key, .int .u8 n] w fun e w' => e = .returned (.string q) ∧ Below w.heap.size w w' := by
  obtain ⟨sk, hsk⟩ : ∃ sk, Is sk (shortK key.data.toList) := ⟨_, Is.of _⟩
  have hkl : key.data.toList.length = key.size := by rw [Array.length_toList]; rfl
  have skz : sk.size ≤ 64 := by rw [hsk.size]; exact shortK_length _
  have HPL := Lib.hid (padK_length key.data.toList)
  have HPG := Lib.hid (show ∀ k (hk : k < sk.size), (padK key.data.toList).getD k 0 = sk[k] by
    intro k hk
    unfold padK
    rw [List.getD_eq_getElem?_getD, List.getElem?_append_left (by rw [← hsk.size]; exact hk), List.getElem?_eq_getElem (by rw [← hsk.size]; exact hk), hsk.get k hk]; rfl)
  have HPZ := Lib.hid (show ∀ k, sk.size ≤ k → (padK key.data.toList).getD k 0 = 0 by
    intro k hk
    unfold padK
    rw [List.getD_eq_getElem?_getD, List.getElem?_append_right (by rw [← hsk.size]; exact hk), List.getElem?_replicate]
    split <;> rfl)
  have HQ := Lib.hid (show Is q ((padK key.data.toList).map (· ^^^ b)) from hq)
  have HSK := Lib.hid hsk
  rw [← hn]
  generalize padK key.data.toList = P at HPL HPG HPZ HQ
  clear hq hn
  rcases Nat.lt_or_ge 64 key.size with hlong | hshort
  · have hd : decide ((64 : Int) < (key.size : Int)) = true := decide_eq_true (by omega)
    have HSH := Lib.hid (show Is sk (shaL key.data.toList) by
      have h := hsk
      unfold shortK at h
      rwa [if_pos (by rw [hkl]; exact hlong)] at h)
    clear hsk hkl
    go_enter Try.func91, Try.ntmps91
    go_wp2_with fail
    refine (RSum_walk key hk sk HSH.out _).mono ?_
    rintro e w1 ⟨rfl, hb1⟩
    have HB1 := Lib.hid hb1
    clear hb1 hd
    have hmk := make_64
    go_wp2_with fail
    clear hmk
    have HO := Lib.hid (RowAt.new w1 (cells (midL P b 0)).toArray 5 (0, 0))
    have HB2 := Lib.hid (below_alloc' HB1.out (.cells (cells (midL P b 0)).toArray 5))
    obtain ⟨ob, hob⟩ : ∃ ob, ob = w1.heap.size := ⟨_, rfl⟩
    have zo : w.heap.size ≤ ob := by rw [hob]; exact HB1.out.size
    change Code.wp _ _ _ _ (w1.alloc (.cells (cells (midL P b 0)).toArray 5))
    rw [← hob] at HO ⊢
    generalize w1.alloc (.cells (cells (midL P b 0)).toArray 5) = w2 at HO HB2 ⊢
    clear hob
    go_loopw [6] (fun i wr => ∃ k : Nat, k ≤ 64 ∧ i = .int .i64 k ∧ RowAt wr ob (cells (midL P b k)).toArray 5 (0, 0) ∧ Below w.heap.size w wr) (fun i _ => 64 - (intOf i).toNat)
    case atStart => exact ⟨0, Nat.zero_le _, rfl, HO.out, HB2.out⟩
    case round =>
      obtain ⟨k, hk, rfl, hrow, hbel⟩ := hrel
      have HR := Lib.hid hrow
      have HB := Lib.hid hbel
      clear hrow hbel
      rcases Nat.lt_or_ge k 64 with hlt | hge
      · have HML := Lib.hid (midL_length P b k HPL.out hk)
        have HST := Lib.hid (midL_set P b k HPL.out hlt)
        have d5 : (k : Int) < 64 := by omega
        have hg0 := midL_get P b k HPL.out hlt
        have f0 := HR.out.free (i := k) (by simp)
        rcases Nat.lt_or_ge k sk.size with hks | hks
        · have hd2 : decide ((k : Int) < (sk.size : Int)) = true := decide_eq_true (by omega)
          have HG := Lib.hid (HPG.out k hks)
          have c0 := HR.out.cell (cells_at (midL P b k) k (by rw [HML.out]; exact hlt))
          generalize (midL P b k).getD k 0 = x0 at c0
          clear hg0
          go_upto_region 9 with fail
          have hr2 := HR.out.store k (.int .u8 (bvi (sk[k]'hks).toBitVec))
          rw [cells_put] at hr2
          have HR2 := Lib.hid hr2
          have HB3 := Lib.hid (HB.out.setCell (p := ⟨ob, k, none⟩) zo (.int .u8 (bvi (sk[k]'hks).toBitVec)))
          have HS2 := Lib.hid (show ((midL P b k).set k (sk[k]'hks)).set k ((sk[k]'hks) ^^^ b) = midL P b (k + 1) by
            rw [List.set_set, ← HST.out, HG.out])
          have c1 := hr2.cell (cells_at ((midL P b k).set k (sk[k]'hks)) k (by rw [List.length_set, HML.out]; exact hlt))
          have hgs : ((midL P b k).set k (sk[k]'hks)).getD k 0 = sk[k]'hks := by
            rw [List.getD_eq_getElem?_getD, List.getElem?_set_self (by rw [HML.out]; exact hlt)]; rfl
          rw [hgs] at c1
          have f1 := hr2.free (i := k) (by simp)
          clear c0 f0 hr2 hgs
          generalize wr.setCell ⟨ob, k, none⟩ (.int .u8 (bvi (sk[k]'hks).toBitVec)) = w3 at HR2 HB3 c1 f1 ⊢
          generalize (sk[k]'hks) = y at HR2 HS2 c1 ⊢
          go_wp2_with fail
          go_roundw
          case rel =>
            refine ⟨k + 1, by omega, by go_num, ?_, HB3.out.setCell (p := ⟨ob, k, none⟩) zo _⟩
            rw [← HS2.out, ← cells_put]
            exact HR2.out.store k _
          case measure => simp [intOf]; omega
        · have hd2 : decide ((k : Int) < (sk.size : Int)) = false := decide_eq_false (by omega)
          have HG := Lib.hid (HPZ.out k hks)
          have c0 := HR.out.cell (cells_at (midL P b k) k (by rw [HML.out]; exact hlt))
          rw [hg0] at c0
          have HS2 := Lib.hid (show (midL P b k).set k (0 ^^^ b) = midL P b (k + 1) by rw [← HST.out, HG.out])
          obtain ⟨z, hz⟩ : ∃ z : UInt8, z = 0 := ⟨_, rfl⟩
          rw [← hz] at c0 HS2
          clear hg0 hz
          go_wp2_with fail
          go_roundw
          case rel =>
            refine ⟨k + 1, by omega, by go_num, ?_, HB.out.setCell (p := ⟨ob, k, none⟩) zo _⟩
            rw [← HS2.out, ← cells_put]
            exact HR.out.store k _
          case measure => simp [intOf]; omega
      · obtain rfl : k = 64 := by omega
        have hst := run_str (P := Try.prog) wr 32 5 Try.underlying32 Try.underlying5 9 Try.underlying9 ob 64 64 _ 5 (0, 0) (midL P b 64) HR.out.out (midL_length P b 64 HPL.out (Nat.le_refl _)) (List.take_of_length_le (by rw [cells_length, midL_length P b 64 HPL.out (Nat.le_refl _)]; exact Nat.le_refl _))
        have hd3 : decide (((64 : Nat) : Int) < 64) = false := rfl
        go_wp2_with fail
        go_ret
        refine ⟨ret_val (congrArg Value.string ?_), HB.out⟩
        rw [HQ.out.eq, ← midL_full P b HPL.out]
  · have hd : decide ((64 : Int) < (key.size : Int)) = false := decide_eq_false (by omega)
    have hkk : key = sk := by
      refine (Is.self key).inj ?_
      have h := hsk
      unfold shortK at h
      rwa [if_neg (by rw [hkl]; omega)] at h
    subst hkk
    have HB1 := Lib.hid (Below.refl w.heap.size w)
    clear hsk hkl
    go_enter Try.func91, Try.ntmps91
    go_upto_region 3 with fail
    clear hd
    have hmk := make_64
    go_wp2_with fail
    clear hmk
    have HO := Lib.hid (RowAt.new w (cells (midL P b 0)).toArray 5 (0, 0))
    have HB2 := Lib.hid (below_alloc' HB1.out (.cells (cells (midL P b 0)).toArray 5))
    obtain ⟨ob, hob⟩ : ∃ ob, ob = w.heap.size := ⟨_, rfl⟩
    have zo : w.heap.size ≤ ob := by rw [hob]; exact HB1.out.size
    change Code.wp _ _ _ _ (w.alloc (.cells (cells (midL P b 0)).toArray 5))
    rw [← hob] at HO ⊢
    generalize w.alloc (.cells (cells (midL P b 0)).toArray 5) = w2 at HO HB2 ⊢
    clear hob
    go_loopw [6] (fun i wr => ∃ k : Nat, k ≤ 64 ∧ i = .int .i64 k ∧ RowAt wr ob (cells (midL P b k)).toArray 5 (0, 0) ∧ Below w.heap.size w wr) (fun i _ => 64 - (intOf i).toNat)
    case atStart => exact ⟨0, Nat.zero_le _, rfl, HO.out, HB2.out⟩
    case round =>
      obtain ⟨k, hk, rfl, hrow, hbel⟩ := hrel
      have HR := Lib.hid hrow
      have HB := Lib.hid hbel
      clear hrow hbel
      rcases Nat.lt_or_ge k 64 with hlt | hge
      · have HML := Lib.hid (midL_length P b k HPL.out hk)
        have HST := Lib.hid (midL_set P b k HPL.out hlt)
        have d5 : (k : Int) < 64 := by omega
        have hg0 := midL_get P b k HPL.out hlt
        have f0 := HR.out.free (i := k) (by simp)
        rcases Nat.lt_or_ge k key.size with hks | hks
        · have hd2 : decide ((k : Int) < (key.size : Int)) = true := decide_eq_true (by omega)
          have HG := Lib.hid (HPG.out k hks)
          have c0 := HR.out.cell (cells_at (midL P b k) k (by rw [HML.out]; exact hlt))
          generalize (midL P b k).getD k 0 = x0 at c0
          clear hg0
          go_upto_region 9 with fail
          have hr2 := HR.out.store k (.int .u8 (bvi (key[k]'hks).toBitVec))
          rw [cells_put] at hr2
          have HR2 := Lib.hid hr2
          have HB3 := Lib.hid (HB.out.setCell (p := ⟨ob, k, none⟩) zo (.int .u8 (bvi (key[k]'hks).toBitVec)))
          have HS2 := Lib.hid (show ((midL P b k).set k (key[k]'hks)).set k ((key[k]'hks) ^^^ b) = midL P b (k + 1) by
            rw [List.set_set, ← HST.out, HG.out])
          have c1 := hr2.cell (cells_at ((midL P b k).set k (key[k]'hks)) k (by rw [List.length_set, HML.out]; exact hlt))
          have hgs : ((midL P b k).set k (key[k]'hks)).getD k 0 = key[k]'hks := by
            rw [List.getD_eq_getElem?_getD, List.getElem?_set_self (by rw [HML.out]; exact hlt)]; rfl
          rw [hgs] at c1
          have f1 := hr2.free (i := k) (by simp)
          clear c0 f0 hr2 hgs
          generalize wr.setCell ⟨ob, k, none⟩ (.int .u8 (bvi (key[k]'hks).toBitVec)) = w3 at HR2 HB3 c1 f1 ⊢
          generalize (key[k]'hks) = y at HR2 HS2 c1 ⊢
          go_wp2_with fail
          go_roundw
          case rel =>
            refine ⟨k + 1, by omega, by go_num, ?_, HB3.out.setCell (p := ⟨ob, k, none⟩) zo _⟩
            rw [← HS2.out, ← cells_put]
            exact HR2.out.store k _
          case measure => simp [intOf]; omega
        · have hd2 : decide ((k : Int) < (key.size : Int)) = false := decide_eq_false (by omega)
          have HG := Lib.hid (HPZ.out k hks)
          have c0 := HR.out.cell (cells_at (midL P b k) k (by rw [HML.out]; exact hlt))
          rw [hg0] at c0
          have HS2 := Lib.hid (show (midL P b k).set k (0 ^^^ b) = midL P b (k + 1) by rw [← HST.out, HG.out])
          obtain ⟨z, hz⟩ : ∃ z : UInt8, z = 0 := ⟨_, rfl⟩
          rw [← hz] at c0 HS2
          clear hg0 hz
          go_wp2_with fail
          go_roundw
          case rel =>
            refine ⟨k + 1, by omega, by go_num, ?_, HB.out.setCell (p := ⟨ob, k, none⟩) zo _⟩
            rw [← HS2.out, ← cells_put]
            exact HR.out.store k _
          case measure => simp [intOf]; omega
      · obtain rfl : k = 64 := by omega
        have hst := run_str (P := Try.prog) wr 32 5 Try.underlying32 Try.underlying5 9 Try.underlying9 ob 64 64 _ 5 (0, 0) (midL P b 64) HR.out.out (midL_length P b 64 HPL.out (Nat.le_refl _)) (List.take_of_length_le (by rw [cells_length, midL_length P b 64 HPL.out (Nat.le_refl _)]; exact Nat.le_refl _))
        have hd3 : decide (((64 : Nat) : Int) < 64) = false := rfl
        go_wp2_with fail
        go_ret
        refine ⟨ret_val (congrArg Value.string ?_), HB.out⟩
        rw [HQ.out.eq, ← midL_full P b HPL.out]
set_option maxRecDepth 100000 in
set_option maxHeartbeats 1000000 in
theorem RMSum_walk (key text : ByteArray) (hk : key.size ≤ 140737488351000) (ht : text.size ≤ 140737488351000) (q : ByteArray) (hq : Is q (macL key.data.toList text.data.toList)) (w : World) :
    Calls Try.prog 73 #[.string key, .string text] w fun e w' => e = .returned (.string q) ∧ Below w.heap.size w w' := by
  obtain ⟨q1, hq1⟩ : ∃ q1, Is q1 (turnK key.data.toList 92) := ⟨_, Is.of _⟩
  obtain ⟨q2, hq2⟩ : ∃ q2, Is q2 (turnK key.data.toList 54) := ⟨_, Is.of _⟩
  obtain ⟨q3, hq3⟩ : ∃ q3, Is q3 (shaL (q2 ++ text).data.toList) := ⟨_, Is.of _⟩
  have HQ := Lib.hid (show Is q (shaL (q1 ++ q3).data.toList) by
    have h1 := hq3.out
    rw [(hq2.append (Is.self text)).out] at h1
    rw [(hq1.append (show Is q3 (shaL (turnK key.data.toList 54 ++ text.data.toList)) from h1)).out]
    exact hq)
  have z1 : q1.size = 64 := by rw [hq1.size, turnK_length]
  have z2 : q2.size = 64 := by rw [hq2.size, turnK_length]
  have z3 : q3.size = 32 := by rw [hq3.size, shaL_length]
  have hov1 : ¬ 9223372036854775807 < q2.size + text.size := by omega
  have hov2 : ¬ 9223372036854775807 < q1.size + q3.size := by omega
  have HZ1 := Lib.hid (show (q2 ++ text).size ≤ 140737488351232 by rw [ByteArray.size_append]; omega)
  have HZ2 := Lib.hid (show (q1 ++ q3).size ≤ 140737488351232 by rw [ByteArray.size_append]; omega)
  have HQ1 := Lib.hid hq1
  have HQ2 := Lib.hid hq2
  have HQ3 := Lib.hid hq3
  clear hq hq1 hq2 hq3 z1 z2 z3
  go_enter Try.func73, Try.ntmps73
  go_wp2_with fail
  refine (Rblock_walk key (by omega) 92 _ rfl q1 HQ1.out _).mono ?_
  rintro e w1 ⟨rfl, hb1⟩
  have HB1 := Lib.hid hb1
  clear hb1
  go_wp2_with fail
  refine (Rblock_walk key (by omega) 54 _ rfl q2 HQ2.out _).mono ?_
  rintro e w2 ⟨rfl, hb2⟩
  have HB2 := Lib.hid (bthen HB1.out hb2)
  clear hb2
  go_wp2_with fail
  refine (RSum_walk (q2 ++ text) HZ1.out q3 HQ3.out _).mono ?_
  rintro e w3 ⟨rfl, hb3⟩
  have HB3 := Lib.hid (bthen HB2.out hb3)
  clear hb3
  go_wp2_with fail
  refine (RSum_walk (q1 ++ q3) HZ2.out q HQ.out _).mono ?_
  rintro e w4 ⟨rfl, hb4⟩
  go_wp2_with fail
  go_ret
  exact ⟨rfl, bthen HB3.out hb4⟩
theorem Rbyte_of (k : Nat) : (⟨BitVec.ofInt 8 ((k : Int) + 1)⟩ : UInt8) = UInt8.ofNat (k + 1) := by
  have : (k : Int) + 1 = ((k + 1 : Nat) : Int) := by omega
  rw [this, BitVec.ofInt_natCast]
  rfl
set_option maxRecDepth 100000 in
set_option maxHeartbeats 1000000 in
theorem RExpand_ok (key info : ByteArray) (n : Nat) (hn : n ≤ 8160) (hk : key.size ≤ 140737488351000) (hi : info.size ≤ 140737488350000) (q : ByteArray) (hq : Is q (expandL key.data.toList info.data.toList n)) (w : World) :
    Calls Try.prog 72 #[.string key, .string info, .int .i64 n] w fun e w' => e = .returned (.tuple #[.string q, .int .i64 0]) ∧ Below w.heap.size w w' := by
  have HQ := Lib.hid hq
  have g1 : decide ((n : Int) < 0) = false := decide_eq_false (by omega)
  have g2 : decide ((8160 : Int) < (n : Int)) = false := decide_eq_false (by omega)
  clear hq
  go_enter Try.func72, Try.ntmps72
  go_wp2_with fail
  go_loopg [8, 9, 10] ((n + 31) / 32) (fun gg o p i wr => ∃ (k : Nat) (out part : ByteArray), k + gg = (n + 31) / 32 ∧ i = .int .i64 ((k : Int) + 1) ∧ o = .string out ∧ p = .string part ∧ Is part (partK key.data.toList info.data.toList k) ∧ Is out (outK key.data.toList info.data.toList k) ∧ Below w.heap.size w wr)
  case atStart => exact ⟨0, _, _, by omega, rfl, rfl, rfl, Is.of [], Is.of [], Below.refl _ _⟩
  case round =>
    obtain ⟨k, out, part, hgg, rfl, rfl, rfl, hp, ho, hb⟩ := hrel
    have HB2 := Lib.hid hb
    have HP := Lib.hid hp
    have HO := Lib.hid ho
    have hpz : part.size ≤ 32 := by rw [hp.size]; exact partK_length _ _ _
    have hoz : out.size = 32 * k := by rw [ho.size, outK_length]
    have HOZ := Lib.hid hoz
    have HGG := Lib.hid hgg
    rcases Nat.lt_or_ge (32 * k) n with hlt | hge
    · have hL : decide (out.size < n) = true := decide_eq_true (by omega)
      have hov1 : ¬ 9223372036854775807 < part.size + info.size := by omega
      have hov2 : ¬ 9223372036854775807 < part.size + info.size + 1 := by omega
      have hst := fun wx => run_str_one0 (P := Try.prog) wx 32 5 Try.underlying32 Try.underlying5 9 Try.underlying9 (BitVec.ofInt 8 ((k : Int) + 1))
      have hoz2 : out.size ≤ 8160 := by omega
      clear hb hgg hp ho hoz
      go_wp2_with fail
      clear hst
      rw [Rbyte_of]
      obtain ⟨q1, hq1⟩ : ∃ q1, Is q1 (partK key.data.toList info.data.toList (k + 1)) := ⟨_, Is.of _⟩
      have HQ1 := Lib.hid (show Is q1 (macL key.data.toList (part ++ info ++ ⟨#[UInt8.ofNat (k + 1)]⟩).data.toList) by
        rw [((HP.out.append (Is.self info)).append (Is.of [UInt8.ofNat (k + 1)])).out]
        exact hq1)
      have HPQ := Lib.hid hq1
      have q1z : q1.size = 32 := by rw [hq1.size, partK, macL_length]
      have hov3 : ¬ 9223372036854775807 < out.size + q1.size := by omega
      have htz : (part ++ info ++ ⟨#[UInt8.ofNat (k + 1)]⟩).size ≤ 140737488351000 := by
        rw [ByteArray.size_append, ByteArray.size_append]
        show part.size + info.size + 1 ≤ _
        omega
      clear hq1 q1z
      refine (RMSum_walk key _ hk htz q1 HQ1.out _).mono ?_
      rintro e w6 ⟨rfl, hb6⟩
      have HB6 := Lib.hid (bthen HB2.out (bthen ((Below.refl wr.heap.size wr).alloc (Nat.le_refl _) _) hb6))
      clear hb6
      go_wp2_with fail
      go_roundg (gk - 1)
      case measure => have := HGG.out; omega
      case rel =>
        refine ⟨k + 1, out ++ q1, q1, by have := HGG.out; omega, by go_num, rfl, rfl, HPQ.out, ?_, HB6.out⟩
        rw [outK]
        exact HO.out.append HPQ.out
    · have hL : decide (out.size < n) = false := decide_eq_false (by omega)
      have HKK := Lib.hid (show (n + 31) / 32 = k by omega)
      have hRn : n ≤ out.size := by omega
      have HRR := Lib.hid (ho.extract 0 n)
      clear hb hgg hp ho hoz
      go_wp2_with fail
      go_ret2
      refine ⟨ret_val ?_, HB2.out⟩
      have h := HRR.out
      rw [List.drop_zero, Nat.sub_zero, ← HKK.out] at h
      have h2 : out.extract 0 n = q := h.inj HQ.out
      rw [← h2]
      rfl
set_option maxHeartbeats 400000 in
theorem RExpand_no (key info : ByteArray) (n : Int) (h : n < 0 ∨ 8160 < n) (w : World) :
    Calls Try.prog 72 #[.string key, .string info, .int .i64 n] w fun e w' => e = .returned (.tuple #[.string ⟨#[]⟩, .int .i64 5]) ∧ w = w' := by
  by_cases h2 : n < 0
  · have g1 : decide (n < 0) = true := decide_eq_true h2
    clear h
    go_enter Try.func72, Try.ntmps72
    go_wp2_with fail
    go_ret2
    exact ⟨rfl, rfl⟩
  · have g1 : decide (n < 0) = false := decide_eq_false h2
    have g2 : decide ((8160 : Int) < n) = true := decide_eq_true (by omega)
    clear h
    go_enter Try.func72, Try.ntmps72
    go_wp2_with fail
    go_ret2
    exact ⟨rfl, rfl⟩
set_option maxHeartbeats 400000 in
theorem RDerive_ok (salt secret info : ByteArray) (n : Nat) (hn : n ≤ 8160) (hsa : salt.size ≤ 140737488351000) (hse : secret.size ≤ 140737488351000) (hi : info.size ≤ 140737488350000) (q : ByteArray) (hq : Is q (expandL (macL salt.data.toList secret.data.toList) info.data.toList n)) (w : World) :
    Calls Try.prog 46 #[.string salt, .string secret, .string info, .int .i64 n] w fun e w' => e = .returned (.tuple #[.string q, .int .i64 0]) ∧ Below w.heap.size w w' := by
  obtain ⟨x, hx⟩ : ∃ x, Is x (macL salt.data.toList secret.data.toList) := ⟨_, Is.of _⟩
  have HX := Lib.hid hx
  have HQ := Lib.hid (show Is q (expandL x.data.toList info.data.toList n) by rw [hx.out]; exact hq)
  have hxz : x.size ≤ 140737488351000 := by rw [hx.size, macL_length]; decide
  clear hx hq
  go_enter Try.func46, Try.ntmps46
  go_wp2_with fail
  refine (RMSum_walk salt secret hsa hse x HX.out _).mono ?_
  rintro e w1 ⟨rfl, hb1⟩
  have HB1 := Lib.hid hb1
  clear hb1
  go_wp2_with fail
  refine (RExpand_ok x info n hn hxz hi q HQ.out _).mono ?_
  rintro e w2 ⟨rfl, hb2⟩
  go_wp2_with fail
  go_ret2
  exact ⟨rfl, bthen HB1.out hb2⟩
set_option maxHeartbeats 400000 in
theorem RDerive_no (salt secret info : ByteArray) (n : Int) (h : n < 0 ∨ 8160 < n) (hsa : salt.size ≤ 140737488351000) (hse : secret.size ≤ 140737488351000) (w : World) :
    Calls Try.prog 46 #[.string salt, .string secret, .string info, .int .i64 n] w fun e w' => e = .returned (.tuple #[.string ⟨#[]⟩, .int .i64 5]) ∧ Below w.heap.size w w' := by
  obtain ⟨x, hx⟩ : ∃ x, Is x (macL salt.data.toList secret.data.toList) := ⟨_, Is.of _⟩
  have HX := Lib.hid hx
  have HH := Lib.hid h
  clear hx h
  go_enter Try.func46, Try.ntmps46
  go_wp2_with fail
  refine (RMSum_walk salt secret hsa hse x HX.out _).mono ?_
  rintro e w1 ⟨rfl, hb1⟩
  have HB1 := Lib.hid hb1
  clear hb1
  go_wp2_with fail
  refine (RExpand_no x info n HH.out _).mono ?_
  rintro e w2 ⟨rfl, rfl⟩
  go_wp2_with fail
  go_ret2
  exact ⟨rfl, HB1.out⟩
end Go.Proofs.Ytfglhemmccihfaa

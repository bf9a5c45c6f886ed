/-
The program's sha: Mix of a block of another size.
The program's sha: mix, New, Add, Len, Sum.
-/
import Derived.Laws.ResultCell
import Derived.Deep.LoopGhost
import Derived.Outline
import Derived.Test.YtfglhemmccihfaaMa
import Derived.Test.YtfglhemmccihfaaMd
import Derived.Test.YtfglhemmccihfaaMk
namespace Go.Proofs.Ytfglhemmccihfaa
open Go.RowKit

theorem results_cell_tmp_row {P : Program} {fn : Func} {p u : Tmp} {ty : TypeId} (h : fn.results = #[.cell p ty, .tmp u]) (tmps : Array Value) (w : World) (g : Nat) (t : TypeId) (cs : Array Value) (fr : Nat × Nat) (d : TypeDesc) (x : Value)
    (hp : tmps.getD p undef = .pointer (some ⟨g, 0, none⟩)) (hx : tmps.getD u undef = x) (hg : w.heap[g]? = some (.cells cs t fr))
    (hu : P.underlying ty = some d) (hd : (match d with | .struct _ | .array _ _ => true | _ => false) = true) (hi : (P.info? ty).map (·.size) = some cs.size) :
    (results fn tmps).run P w = .ok (.tuple #[.agg cs, x]) w := by
  rw [results_cell_tmp h, hp, hx]
  simp [asAddr, run_loadVar_row w g t ty cs fr d hg hu hd hi, Result.andThen]
def zero8 : List (BitVec 32) := List.replicate 8 0
set_option maxHeartbeats 1000000 in
theorem Mix_no (st : List (BitVec 32)) (_hl : st.length = 8) (s : ByteArray) (h : s.size ≠ 64) (w : World) :
    Calls Try.prog 130 #[.agg (words st).toArray, .string s] w fun e w' => e = .returned (.tuple #[.agg (words zero8).toArray, .int .i64 5]) ∧ Below w.heap.size w w' := by
  have hne : ((s.size : Int) != 64) = true := by simp; omega
  clear h
  go_enter Try.func130, Try.ntmps130
  go_wp2_with fail
  refine bodyPost_ret (v := .tuple #[.agg (words zero8).toArray, .int .i64 5]) (results_cell_tmp_row rfl _ _ (w.heap.size + 1) 152 (words zero8).toArray (0, 0) _ _ (by kernel_rfl) rfl ?_ Try.underlying152 rfl (by kernel_rfl)) rfl ⟨rfl, ((Below.refl _ _).alloc (Nat.le_refl _) _).alloc (by simp) _⟩
  have h9 := (RowAt.new (w.alloc (.cells (words st).toArray 152)) (words zero8).toArray 152 (0, 0)).out
  rw [show (w.alloc (.cells (words st).toArray 152)).heap.size = w.heap.size + 1 by simp] at h9
  exact h9
--TAIL

theorem w8_info (l : List (BitVec 32)) (h : l.length = 8) : (Try.prog.info? 152).map (·.size) = some (words l).toArray.size := by
  rw [words_size, h]; kernel_rfl
/-- The numbers of a block and of the rounds, under any names. -/
theorem schedule_as (s : ByteArray) (hs : s.size = 64) (W : List (BitVec 32)) (h : W = schedL s.data.toList) (w : World) :
    Calls Try.prog 131 #[.string s] w fun e w' => e = .returned (.agg (words W).toArray) ∧ Below w.heap.size w w' := by
  rw [h]
  exact schedule_walk s hs w
theorem table_as (T : List (BitVec 32)) (h : T = tableS) (w : World) : Calls Try.prog 132 #[] w fun e w' => e = .returned (.agg (words T).toArray) ∧ Below w.heap.size w w' := by
  have h0 : tableA = (words T).toArray := by rw [h, tableA]
  exact (table_walk w).mono fun e w' ⟨h1, h2⟩ => ⟨h1.trans (by rw [h0]), h2⟩
theorem round_as (s w T : List (BitVec 32)) (hT : T = tableS) (k : Nat) (x0 x1 x2 x3 x4 x5 x6 x7 kt wt : BitVec 32)
    (h0 : (roundsK s w k).getD 0 0 = x0) (h1 : (roundsK s w k).getD 1 0 = x1) (h2 : (roundsK s w k).getD 2 0 = x2) (h3 : (roundsK s w k).getD 3 0 = x3) (h4 : (roundsK s w k).getD 4 0 = x4) (h5 : (roundsK s w k).getD 5 0 = x5) (h6 : (roundsK s w k).getD 6 0 = x6) (h7 : (roundsK s w k).getD 7 0 = x7)
    (hk : T.getD k 0 = kt) (hw : w.getD k 0 = wt) (p q : BitVec 32) (hp : p = x7 + (rorI x4 6 ^^^ rorI x4 11 ^^^ rorI x4 25) + (x4 &&& x5 ^^^ ~~~x4 &&& x6) + kt + wt)
    (hq : q = (rorI x0 2 ^^^ rorI x0 13 ^^^ rorI x0 22) + (x0 &&& x1 ^^^ x0 &&& x2 ^^^ x1 &&& x2)) :
    roundsK s w (k + 1) = [p + q, x0, x1, x2, x3 + p, x4, x5, x6] := by
  have e1 : p = partP (roundsK s w k) (tableS.getD k 0) (w.getD k 0) := by
    rw [hp, ← hT, hk, hw, partP, h4, h5, h6, h7]; rfl
  have e2 : q = partQ (roundsK s w k) := by
    rw [hq, partQ, h0, h1, h2]; rfl
  rw [roundsK, roundS, ← e1, ← e2, h0, h1, h2, h3, h4, h5, h6]
set_option maxRecDepth 100000 in
set_option maxHeartbeats 1000000 in
theorem Mix_ok (st : List (BitVec 32)) (hl : st.length = 8) (s : ByteArray) (h : s.size = 64) (w : World) :
    Calls Try.prog 130 #[.agg (words st).toArray, .string s] w fun e w' => e = .returned (.tuple #[.agg (words (mixS st s.data.toList)).toArray, .int .i64 0]) ∧ Below w.heap.size w w' := by
  have hne : ((s.size : Int) != 64) = false := by rw [h]; rfl
  obtain ⟨W, hW⟩ : ∃ W, W = schedL s.data.toList := ⟨_, rfl⟩
  obtain ⟨T, hT⟩ : ∃ T, T = tableS := ⟨_, rfl⟩
  have HL := Lib.hid hl
  have HS := Lib.hid h
  have HW := Lib.hid hW
  have HT := Lib.hid hT
  have HLW := Lib.hid (show W.length = 64 by rw [hW]; exact schedK_length _ _)
  have HLT := Lib.hid (show T.length = 64 by rw [hT]; rfl)
  have HM := Lib.hid (show mixS st s.data.toList = addK st (roundsK st W 64) 8 by rw [hW]; rfl)
  clear h hl hW hT
  go_enter Try.func130, Try.ntmps130
  go_wp2_with fail
  refine (schedule_as s HS.out W HW.out _).mono ?_
  rintro e w1 ⟨rfl, hb1⟩
  have HB1 := Lib.hid hb1
  clear hb1
  go_wp2_with fail
  refine (table_as T HT.out _).mono ?_
  rintro e w2 ⟨rfl, hb2⟩
  have HB2 := Lib.hid hb2
  clear hb2
  go_upto_region 4 with (first | (with_reducible refine wpList_store_rowTo rfl 160 (.tmp 6) (.tmp 20) rfl rfl w2.heap.size (words W).toArray ?h1 ?h2 160 (words zero64).toArray ?h0 ?h3 ?h4 ?h5 ?_) | (with_reducible refine wpList_store_rowTo rfl 160 (.tmp 7) (.tmp 21) rfl rfl (w2.heap.size + 1) (words T).toArray ?g1 ?g2 160 (words zero64).toArray ?g0 ?g3 ?g4 ?g5 ?_))
  case h1 => rfl
  case h2 => rfl
  case h0 => exact ((RowAt.new w2 (words zero64).toArray 160 (0, 0)).alloc _).out
  case h3 => exact w64_info _ HLW.out
  case h4 => rw [words_size, words_size, HLW.out]; rfl
  case h5 => exact wordsS_cells _
  case g1 => rfl
  case g2 => rfl
  case g0 =>
    have h9 := (RowAt.setOther (RowAt.new (w2.alloc (.cells (words zero64).toArray 160)) (words zero64).toArray 160 (0, 0)) (g := w2.heap.size) (by simp) (words W).toArray).out
    rw [show (w2.alloc (.cells (words zero64).toArray 160)).heap.size = w2.heap.size + 1 by simp] at h9
    exact h9
  case g3 => exact w64_info _ HLT.out
  case g4 => rw [words_size, words_size, HLT.out]; rfl
  case g5 => exact wordsS_cells _
  rename_i hK
  have HKK := Lib.hid hK
  clear hK
  change Code.wp _ _ _ _ ((((w2.alloc (.cells (words zero64).toArray 160)).alloc (.cells (words zero64).toArray 160)).setRow w2.heap.size (words W).toArray).setRow (w2.heap.size + 1) (words T).toArray)
  obtain ⟨hWr, hTr, hSr, hRr, hB3, z1, z2⟩ : RowAt ((((w2.alloc (.cells (words zero64).toArray 160)).alloc (.cells (words zero64).toArray 160)).setRow w2.heap.size (words W).toArray).setRow (w2.heap.size + 1) (words T).toArray) w2.heap.size (words W).toArray 160 (0, 0) ∧
      RowAt ((((w2.alloc (.cells (words zero64).toArray 160)).alloc (.cells (words zero64).toArray 160)).setRow w2.heap.size (words W).toArray).setRow (w2.heap.size + 1) (words T).toArray) (w2.heap.size + 1) (words T).toArray 160 (0, 0) ∧
      RowAt ((((w2.alloc (.cells (words zero64).toArray 160)).alloc (.cells (words zero64).toArray 160)).setRow w2.heap.size (words W).toArray).setRow (w2.heap.size + 1) (words T).toArray) w.heap.size (words st).toArray 152 (0, 0) ∧
      RowAt ((((w2.alloc (.cells (words zero64).toArray 160)).alloc (.cells (words zero64).toArray 160)).setRow w2.heap.size (words W).toArray).setRow (w2.heap.size + 1) (words T).toArray) (w.heap.size + 1) (words zero8).toArray 152 (0, 0) ∧
      Below w.heap.size w ((((w2.alloc (.cells (words zero64).toArray 160)).alloc (.cells (words zero64).toArray 160)).setRow w2.heap.size (words W).toArray).setRow (w2.heap.size + 1) (words T).toArray) ∧ w.heap.size + 1 < w2.heap.size ∧
      w2.heap.size + 1 < ((((w2.alloc (.cells (words zero64).toArray 160)).alloc (.cells (words zero64).toArray 160)).setRow w2.heap.size (words W).toArray).setRow (w2.heap.size + 1) (words T).toArray).heap.size := by
    have a0 := HB1.out.size
    have a1 := HB2.out.size
    simp at a0
    have a2 : w.heap.size + 1 < w2.heap.size := by omega
    have n0 : ∀ Z : Array Value, (w2.alloc (.cells Z 160)).heap.size = w2.heap.size + 1 := fun Z => by simp
    have r1 := (RowAt.new w2 (words zero64).toArray 160 (0, 0)).alloc (.cells (words zero64).toArray 160)
    have r2 := RowAt.new (w2.alloc (.cells (words zero64).toArray 160)) (words zero64).toArray 160 (0, 0)
    rw [n0] at r2
    have s0 := ((RowAt.new w (words st).toArray 152 (0, 0)).alloc (.cells (words zero8).toArray 152))
    have s1 := RowAt.new (w.alloc (.cells (words st).toArray 152)) (words zero8).toArray 152 (0, 0)
    rw [show (w.alloc (.cells (words st).toArray 152)).heap.size = w.heap.size + 1 by simp] at s1
    have s0' := (s0.below HB1.out s0.lt).below HB2.out (by have := s0.lt; have := HB1.out.size; omega)
    have s1' := (s1.below HB1.out s1.lt).below HB2.out (by have := s1.lt; have := HB1.out.size; omega)
    refine ⟨(r1.setRow _).setOther (by omega) _, (r2.setOther (by omega) _).setRow _, (((s0'.alloc _).alloc _).setOther (by omega) _).setOther (by omega) _, (((s1'.alloc _).alloc _).setOther (by omega) _).setOther (by omega) _, ?_, a2, ?_⟩
    · have b0 : Below w.heap.size w w1 := Below.trans ((((Below.refl _ _).alloc (Nat.le_refl _) _).alloc (by simp) _)) (HB1.out.mono (by simp; omega))
      have b1 := bthen b0 HB2.out
      exact Go.Proofs.Ytfglhemmccihfaa.Below.setRow (Go.Proofs.Ytfglhemmccihfaa.Below.setRow (below_alloc' (below_alloc' b1 _) _) (by omega) _) (by omega) _
    · simp [World.setRow]
  generalize ((((w2.alloc (.cells (words zero64).toArray 160)).alloc (.cells (words zero64).toArray 160)).setRow w2.heap.size (words W).toArray).setRow (w2.heap.size + 1) (words T).toArray) = w3 at hWr hTr hSr hRr hB3 z2 ⊢
  generalize w2.heap.size = gw at hWr hTr z1 z2 ⊢
  have HWr := Lib.hid hWr
  have HTr := Lib.hid hTr
  have HSr := Lib.hid hSr
  have HRr := Lib.hid hRr
  have HB3 := Lib.hid hB3
  clear hWr hTr hSr hRr hB3 HB1 HB2
  have hK := HKK.out
  clear HKK
  go_wp2_with (first | (with_reducible refine wpList_load_row rfl 152 (.tmp 2) rfl w.heap.size ?h1 152 (words st).toArray (0, 0) _ HSr.out.out Try.underlying152 rfl ?h2 ?_) | (with_reducible refine wpList_store_rowTo rfl 152 (.tmp 8) (.tmp 22) rfl rfl w3.heap.size (words st).toArray ?g1 ?g2 152 (words zero8).toArray ?g0 ?g3 ?g4 ?g5 ?_))
  case h1 => rfl
  case h2 => exact w8_info _ HL.out
  case g1 => rfl
  case g2 => rfl
  case g0 => exact (RowAt.new w3 _ _ _).out
  case g3 => exact w8_info _ HL.out
  case g4 => rw [words_size, words_size, HL.out]; rfl
  case g5 => exact wordsS_cells _
  rw [World.setRow_alloc_new]
  have HV0 := Lib.hid (RowAt.new w3 (words st).toArray 152 (0, 0))
  have HWq := Lib.hid (HWr.out.alloc (.cells (words st).toArray 152))
  have HTq := Lib.hid (HTr.out.alloc (.cells (words st).toArray 152))
  have HSq := Lib.hid (HSr.out.alloc (.cells (words st).toArray 152))
  have HRq := Lib.hid (HRr.out.alloc (.cells (words st).toArray 152))
  have HB4 := Lib.hid (below_alloc' HB3.out (.cells (words st).toArray 152))
  generalize w3.alloc (.cells (words st).toArray 152) = w4 at HV0 HWq HTq HSq HRq HB4 ⊢
  generalize w3.heap.size = vb at z2 HV0 ⊢
  clear HWr HTr HSr HRr HB3
  generalize hsb : w.heap.size = sb at z1 HSq HRq HB4 ⊢
  have HSB := Lib.hid hsb
  clear hsb
  go_loopw [23] (fun i wr => ∃ k : Nat, k ≤ 64 ∧ i = .int .i64 k ∧ RowAt wr vb (words (roundsK st W k)).toArray 152 (0, 0) ∧ RowAt wr gw (words W).toArray 160 (0, 0) ∧ RowAt wr (gw + 1) (words T).toArray 160 (0, 0) ∧ RowAt wr sb (words st).toArray 152 (0, 0) ∧ RowAt wr (sb + 1) (words zero8).toArray 152 (0, 0) ∧ Below sb w wr) (fun i _ => 64 - (intOf i).toNat)
  case atStart => exact ⟨0, Nat.zero_le _, rfl, HV0.out, HWq.out, HTq.out, HSq.out, HRq.out, HB4.out⟩
  case round =>
    obtain ⟨k, hk, rfl, r1, r2, r3, r4, r5, r6⟩ := hrel
    have R1 := Lib.hid r1
    have R2 := Lib.hid r2
    have R3 := Lib.hid r3
    have R4 := Lib.hid r4
    have R5 := Lib.hid r5
    have R6 := Lib.hid r6
    have HLV := Lib.hid (roundsK_length st W HL.out k)
    clear r1 r2 r3 r4 r5 r6
    rcases Nat.lt_or_ge k 64 with hlt | hge
    · have HRD := Lib.hid (round_as st W T HT.out k)
      obtain ⟨x0, e0⟩ : ∃ x, (roundsK st W k).getD 0 0 = x := ⟨_, rfl⟩
      have c0 : wr.cell? ⟨vb, 0, none⟩ = some (.int .u32 (bvi x0)) := by rw [← e0]; exact R1.out.cell (wordsS_at _ 0 (by rw [HLV.out]; decide))
      have E0 := Lib.hid e0
      clear e0
      obtain ⟨x1, e1⟩ : ∃ x, (roundsK st W k).getD 1 0 = x := ⟨_, rfl⟩
      have c1 : wr.cell? ⟨vb, 1, none⟩ = some (.int .u32 (bvi x1)) := by rw [← e1]; exact R1.out.cell (wordsS_at _ 1 (by rw [HLV.out]; decide))
      have E1 := Lib.hid e1
      clear e1
      obtain ⟨x2, e2⟩ : ∃ x, (roundsK st W k).getD 2 0 = x := ⟨_, rfl⟩
      have c2 : wr.cell? ⟨vb, 2, none⟩ = some (.int .u32 (bvi x2)) := by rw [← e2]; exact R1.out.cell (wordsS_at _ 2 (by rw [HLV.out]; decide))
      have E2 := Lib.hid e2
      clear e2
      obtain ⟨x3, e3⟩ : ∃ x, (roundsK st W k).getD 3 0 = x := ⟨_, rfl⟩
      have c3 : wr.cell? ⟨vb, 3, none⟩ = some (.int .u32 (bvi x3)) := by rw [← e3]; exact R1.out.cell (wordsS_at _ 3 (by rw [HLV.out]; decide))
      have E3 := Lib.hid e3
      clear e3
      obtain ⟨x4, e4⟩ : ∃ x, (roundsK st W k).getD 4 0 = x := ⟨_, rfl⟩
      have c4 : wr.cell? ⟨vb, 4, none⟩ = some (.int .u32 (bvi x4)) := by rw [← e4]; exact R1.out.cell (wordsS_at _ 4 (by rw [HLV.out]; decide))
      have E4 := Lib.hid e4
      clear e4
      obtain ⟨x5, e5⟩ : ∃ x, (roundsK st W k).getD 5 0 = x := ⟨_, rfl⟩
      have c5 : wr.cell? ⟨vb, 5, none⟩ = some (.int .u32 (bvi x5)) := by rw [← e5]; exact R1.out.cell (wordsS_at _ 5 (by rw [HLV.out]; decide))
      have E5 := Lib.hid e5
      clear e5
      obtain ⟨x6, e6⟩ : ∃ x, (roundsK st W k).getD 6 0 = x := ⟨_, rfl⟩
      have c6 : wr.cell? ⟨vb, 6, none⟩ = some (.int .u32 (bvi x6)) := by rw [← e6]; exact R1.out.cell (wordsS_at _ 6 (by rw [HLV.out]; decide))
      have E6 := Lib.hid e6
      clear e6
      obtain ⟨x7, e7⟩ : ∃ x, (roundsK st W k).getD 7 0 = x := ⟨_, rfl⟩
      have c7 : wr.cell? ⟨vb, 7, none⟩ = some (.int .u32 (bvi x7)) := by rw [← e7]; exact R1.out.cell (wordsS_at _ 7 (by rw [HLV.out]; decide))
      have E7 := Lib.hid e7
      clear e7
      obtain ⟨kt, ek⟩ : ∃ x, T.getD k 0 = x := ⟨_, rfl⟩
      have ck : wr.cell? ⟨gw + 1, k, none⟩ = some (.int .u32 (bvi kt)) := by rw [← ek]; exact R3.out.cell (wordsS_at _ k (by rw [HLT.out]; exact hlt))
      obtain ⟨wt, ew⟩ : ∃ x, W.getD k 0 = x := ⟨_, rfl⟩
      have cw : wr.cell? ⟨gw, k, none⟩ = some (.int .u32 (bvi wt)) := by rw [← ew]; exact R2.out.cell (wordsS_at _ k (by rw [HLW.out]; exact hlt))
      have EK := Lib.hid ek
      have EW := Lib.hid ew
      clear ek ew
      have d5 : (k : Int) < 64 := by omega
      go_wp2_with fail
      refine region_table (by kernel_rfl) [26, 27, 28, 29, 10, 11]
        (fun i x_ => match i with
          | 0 => x_ = .pointer (some ⟨vb, 0, none⟩)
          | 1 => x_ = .int .u32 (bvi (x0))
          | 2 => x_ = .pointer (some ⟨vb, 4, none⟩)
          | 3 => x_ = .int .u32 (bvi (x4))
          | 4 => x_ = .int .u32 (bvi (x0))
          | 5 => x_ = .int .u32 (bvi (x4))
          | _ => True) (fun _ _ w' => w' = wr.drew) (by kernel_rfl) (by kernel_rfl) rfl (by kernel_rfl) (rfl) ?_ ?_
      · refine StepsOk.cons ?_ (StepsOk.cons ?_ (StepsOk.cons ?_ (StepsOk.cons ?_ (StepsOk.cons ?_ (StepsOk.cons ?_ StepsOk.nil)))))
        · intro L a w4 Kx hl hsz hs ht hr he hK
          refine step_plain rfl ?_
          have h8 : a.tmps.getD 8 undef = .pointer (some ⟨vb, 0, none⟩) := (hs 8 (by decide)).trans rfl
          subst hr
          go_simp
          exact hK _ _ rfl rfl
        · intro L a w4 Kx hl hsz hs ht hr he hK
          refine step_plain rfl ?_
          have h26 : a.tmps.getD 26 undef = .pointer (some ⟨vb, 0, none⟩) := ht 0 (he 0 (by kernel_rfl)) 26 rfl
          subst hr
          go_simp
          exact hK _ _ rfl rfl
        · intro L a w4 Kx hl hsz hs ht hr he hK
          refine step_plain rfl ?_
          have h8 : a.tmps.getD 8 undef = .pointer (some ⟨vb, 0, none⟩) := (hs 8 (by decide)).trans rfl
          subst hr
          go_simp
          exact hK _ _ rfl rfl
        · intro L a w4 Kx hl hsz hs ht hr he hK
          refine step_plain rfl ?_
          have h28 : a.tmps.getD 28 undef = .pointer (some ⟨vb, 4, none⟩) := ht 2 (he 2 (by kernel_rfl)) 28 rfl
          subst hr
          go_simp
          exact hK _ _ rfl rfl
        · intro L a w4 Kx hl hsz hs ht hr he hK
          refine step_plain rfl ?_
          have h27 : a.tmps.getD 27 undef = .int .u32 (bvi (x0)) := ht 1 (he 1 (by kernel_rfl)) 27 rfl
          subst hr
          go_simp
          exact hK _ _ rfl rfl
        · intro L a w4 Kx hl hsz hs ht hr he hK
          refine step_plain rfl ?_
          have h29 : a.tmps.getD 29 undef = .int .u32 (bvi (x4)) := ht 3 (he 3 (by kernel_rfl)) 29 rfl
          subst hr
          go_simp
          exact hK _ _ rfl rfl
      · intro f L w4 hf hall hr
        have h10 : f 10 = .int .u32 (bvi (x0)) := hf 4 (by decide) 10 rfl
        have h11 : f 11 = .int .u32 (bvi (x4)) := hf 5 (by decide) 11 rfl
        subst hr
        simp only [List.foldl, Act.put, List.setIfInBounds_toArray, List.set_cons_zero, List.set_cons_succ]
        rw [h10, h11]
        clear hf h10 h11
        generalize f 26 = z26
        generalize f 27 = z27
        generalize f 28 = z28
        generalize f 29 = z29
        go_wp2_with fail
        refine region_table (by kernel_rfl) [30, 31, 32, 33, 34, 35, 36, 37, 38, 39, 40, 41, 42, 43, 44, 45, 46, 47, 48, 49, 50, 51, 52, 53, 54, 55, 56, 57, 58, 59, 12]
          (fun i x_ => match i with
            | 0 => x_ = .pointer (some ⟨vb, 7, none⟩)
            | 1 => x_ = .int .u32 (bvi (x7))
            | 2 => x_ = .int .u32 (bvi (x4))
            | 3 => x_ = .int .u32 (bvi (rorI x4 6))
            | 4 => x_ = .int .u32 (bvi (x4))
            | 5 => x_ = .int .u32 (bvi (rorI x4 11))
            | 6 => x_ = .int .u32 (bvi ((rorI x4 6) ^^^ (rorI x4 11)))
            | 7 => x_ = .int .u32 (bvi (x4))
            | 8 => x_ = .int .u32 (bvi (rorI x4 25))
            | 9 => x_ = .int .u32 (bvi (((rorI x4 6) ^^^ (rorI x4 11)) ^^^ (rorI x4 25)))
            | 10 => x_ = .int .u32 (bvi (x7 + (((rorI x4 6) ^^^ (rorI x4 11)) ^^^ (rorI x4 25))))
            | 11 => x_ = .int .u32 (bvi (x4))
            | 12 => x_ = .pointer (some ⟨vb, 5, none⟩)
            | 13 => x_ = .int .u32 (bvi (x5))
            | 14 => x_ = .int .u32 (bvi (x4 &&& x5))
            | 15 => x_ = .int .u32 (bvi (x4))
            | 16 => x_ = .int .u32 (bvi (~~~x4))
            | 17 => x_ = .pointer (some ⟨vb, 6, none⟩)
            | 18 => x_ = .int .u32 (bvi (x6))
            | 19 => x_ = .int .u32 (bvi ((~~~x4) &&& x6))
            | 20 => x_ = .int .u32 (bvi ((x4 &&& x5) ^^^ ((~~~x4) &&& x6)))
            | 21 => x_ = .int .u32 (bvi ((x7 + (((rorI x4 6) ^^^ (rorI x4 11)) ^^^ (rorI x4 25))) + ((x4 &&& x5) ^^^ ((~~~x4) &&& x6))))
            | 22 => x_ = .int .i64 ((k : Int))
            | 23 => x_ = .pointer (some ⟨gw + 1, k, none⟩)
            | 24 => x_ = .int .u32 (bvi (kt))
            | 25 => x_ = .int .u32 (bvi (((x7 + (((rorI x4 6) ^^^ (rorI x4 11)) ^^^ (rorI x4 25))) + ((x4 &&& x5) ^^^ ((~~~x4) &&& x6))) + kt))
            | 26 => x_ = .int .i64 ((k : Int))
            | 27 => x_ = .pointer (some ⟨gw, k, none⟩)
            | 28 => x_ = .int .u32 (bvi (wt))
            | 29 => x_ = .int .u32 (bvi ((((x7 + (((rorI x4 6) ^^^ (rorI x4 11)) ^^^ (rorI x4 25))) + ((x4 &&& x5) ^^^ ((~~~x4) &&& x6))) + kt) + wt))
            | 30 => x_ = .int .u32 (bvi ((((x7 + (((rorI x4 6) ^^^ (rorI x4 11)) ^^^ (rorI x4 25))) + ((x4 &&& x5) ^^^ ((~~~x4) &&& x6))) + kt) + wt))
            | _ => True) (fun _ _ w' => w' = wr.drew.drew) (by kernel_rfl) (by kernel_rfl) rfl (by kernel_rfl) (rfl) ?_ ?_
        · refine StepsOk.cons ?_ (StepsOk.cons ?_ (StepsOk.cons ?_ (StepsOk.cons ?_ (StepsOk.cons ?_ (StepsOk.cons ?_ (StepsOk.cons ?_ (StepsOk.cons ?_ (StepsOk.cons ?_ (StepsOk.cons ?_ (StepsOk.cons ?_ (StepsOk.cons ?_ (StepsOk.cons ?_ (StepsOk.cons ?_ (StepsOk.cons ?_ (StepsOk.cons ?_ (StepsOk.cons ?_ (StepsOk.cons ?_ (StepsOk.cons ?_ (StepsOk.cons ?_ (StepsOk.cons ?_ (StepsOk.cons ?_ (StepsOk.cons ?_ (StepsOk.cons ?_ (StepsOk.cons ?_ (StepsOk.cons ?_ (StepsOk.cons ?_ (StepsOk.cons ?_ (StepsOk.cons ?_ (StepsOk.cons ?_ (StepsOk.cons ?_ StepsOk.nil))))))))))))))))))))))))))))))
          · intro L a w4 Kx hl hsz hs ht hr he hK
            refine step_plain rfl ?_
            have h8 : a.tmps.getD 8 undef = .pointer (some ⟨vb, 0, none⟩) := (hs 8 (by decide)).trans rfl
            subst hr
            go_simp
            exact hK _ _ rfl rfl
          · intro L a w4 Kx hl hsz hs ht hr he hK
            refine step_plain rfl ?_
            have h30 : a.tmps.getD 30 undef = .pointer (some ⟨vb, 7, none⟩) := ht 0 (he 0 (by kernel_rfl)) 30 rfl
            subst hr
            go_simp
            exact hK _ _ rfl rfl
          · intro L a w4 Kx hl hsz hs ht hr he hK
            refine step_plain rfl ?_
            have h11 : a.tmps.getD 11 undef = .int .u32 (bvi (x4)) := (hs 11 (by decide)).trans rfl
            subst hr
            go_simp
            exact hK _ _ rfl rfl
          · intro L a w4 Kx hl hsz hs ht hr he hK
            refine step_plain rfl ?_
            have h32 : a.tmps.getD 32 undef = .int .u32 (bvi (x4)) := ht 2 (he 2 (by kernel_rfl)) 32 rfl
            subst hr
            go_simp
            refine (Right_walk x4 6 _).mono ?_
            rintro e w5 ⟨rfl, rfl⟩
            exact hK _ _ rfl rfl
          · intro L a w4 Kx hl hsz hs ht hr he hK
            refine step_plain rfl ?_
            have h11 : a.tmps.getD 11 undef = .int .u32 (bvi (x4)) := (hs 11 (by decide)).trans rfl
            subst hr
            go_simp
            exact hK _ _ rfl rfl
          · intro L a w4 Kx hl hsz hs ht hr he hK
            refine step_plain rfl ?_
            have h34 : a.tmps.getD 34 undef = .int .u32 (bvi (x4)) := ht 4 (he 4 (by kernel_rfl)) 34 rfl
            subst hr
            go_simp
            refine (Right_walk x4 11 _).mono ?_
            rintro e w5 ⟨rfl, rfl⟩
            exact hK _ _ rfl rfl
          · intro L a w4 Kx hl hsz hs ht hr he hK
            refine step_plain rfl ?_
            have h33 : a.tmps.getD 33 undef = .int .u32 (bvi (rorI x4 6)) := ht 3 (he 3 (by kernel_rfl)) 33 rfl
            have h35 : a.tmps.getD 35 undef = .int .u32 (bvi (rorI x4 11)) := ht 5 (he 5 (by kernel_rfl)) 35 rfl
            subst hr
            go_simp
            exact hK _ _ rfl rfl
          · intro L a w4 Kx hl hsz hs ht hr he hK
            refine step_plain rfl ?_
            have h11 : a.tmps.getD 11 undef = .int .u32 (bvi (x4)) := (hs 11 (by decide)).trans rfl
            subst hr
            go_simp
            exact hK _ _ rfl rfl
          · intro L a w4 Kx hl hsz hs ht hr he hK
            refine step_plain rfl ?_
            have h37 : a.tmps.getD 37 undef = .int .u32 (bvi (x4)) := ht 7 (he 7 (by kernel_rfl)) 37 rfl
            subst hr
            go_simp
            refine (Right_walk x4 25 _).mono ?_
            rintro e w5 ⟨rfl, rfl⟩
            exact hK _ _ rfl rfl
          · intro L a w4 Kx hl hsz hs ht hr he hK
            refine step_plain rfl ?_
            have h36 : a.tmps.getD 36 undef = .int .u32 (bvi ((rorI x4 6) ^^^ (rorI x4 11))) := ht 6 (he 6 (by kernel_rfl)) 36 rfl
            have h38 : a.tmps.getD 38 undef = .int .u32 (bvi (rorI x4 25)) := ht 8 (he 8 (by kernel_rfl)) 38 rfl
            subst hr
            go_simp
            exact hK _ _ rfl rfl
          · intro L a w4 Kx hl hsz hs ht hr he hK
            refine step_plain rfl ?_
            have h31 : a.tmps.getD 31 undef = .int .u32 (bvi (x7)) := ht 1 (he 1 (by kernel_rfl)) 31 rfl
            have h39 : a.tmps.getD 39 undef = .int .u32 (bvi (((rorI x4 6) ^^^ (rorI x4 11)) ^^^ (rorI x4 25))) := ht 9 (he 9 (by kernel_rfl)) 39 rfl
            subst hr
            go_simp
            exact hK _ _ rfl rfl
          · intro L a w4 Kx hl hsz hs ht hr he hK
            refine step_plain rfl ?_
            have h11 : a.tmps.getD 11 undef = .int .u32 (bvi (x4)) := (hs 11 (by decide)).trans rfl
            subst hr
            go_simp
            exact hK _ _ rfl rfl
          · intro L a w4 Kx hl hsz hs ht hr he hK
            refine step_plain rfl ?_
            have h8 : a.tmps.getD 8 undef = .pointer (some ⟨vb, 0, none⟩) := (hs 8 (by decide)).trans rfl
            subst hr
            go_simp
            exact hK _ _ rfl rfl
          · intro L a w4 Kx hl hsz hs ht hr he hK
            refine step_plain rfl ?_
            have h42 : a.tmps.getD 42 undef = .pointer (some ⟨vb, 5, none⟩) := ht 12 (he 12 (by kernel_rfl)) 42 rfl
            subst hr
            go_simp
            exact hK _ _ rfl rfl
          · intro L a w4 Kx hl hsz hs ht hr he hK
            refine step_plain rfl ?_
            have h41 : a.tmps.getD 41 undef = .int .u32 (bvi (x4)) := ht 11 (he 11 (by kernel_rfl)) 41 rfl
            have h43 : a.tmps.getD 43 undef = .int .u32 (bvi (x5)) := ht 13 (he 13 (by kernel_rfl)) 43 rfl
            subst hr
            go_simp
            exact hK _ _ rfl rfl
          · intro L a w4 Kx hl hsz hs ht hr he hK
            refine step_plain rfl ?_
            have h11 : a.tmps.getD 11 undef = .int .u32 (bvi (x4)) := (hs 11 (by decide)).trans rfl
            subst hr
            go_simp
            exact hK _ _ rfl rfl
          · intro L a w4 Kx hl hsz hs ht hr he hK
            refine step_plain rfl ?_
            have h45 : a.tmps.getD 45 undef = .int .u32 (bvi (x4)) := ht 15 (he 15 (by kernel_rfl)) 45 rfl
            subst hr
            go_simp
            exact hK _ _ rfl rfl
          · intro L a w4 Kx hl hsz hs ht hr he hK
            refine step_plain rfl ?_
            have h8 : a.tmps.getD 8 undef = .pointer (some ⟨vb, 0, none⟩) := (hs 8 (by decide)).trans rfl
            subst hr
            go_simp
            exact hK _ _ rfl rfl
          · intro L a w4 Kx hl hsz hs ht hr he hK
            refine step_plain rfl ?_
            have h47 : a.tmps.getD 47 undef = .pointer (some ⟨vb, 6, none⟩) := ht 17 (he 17 (by kernel_rfl)) 47 rfl
            subst hr
            go_simp
            exact hK _ _ rfl rfl
          · intro L a w4 Kx hl hsz hs ht hr he hK
            refine step_plain rfl ?_
            have h46 : a.tmps.getD 46 undef = .int .u32 (bvi (~~~x4)) := ht 16 (he 16 (by kernel_rfl)) 46 rfl
            have h48 : a.tmps.getD 48 undef = .int .u32 (bvi (x6)) := ht 18 (he 18 (by kernel_rfl)) 48 rfl
            subst hr
            go_simp
            exact hK _ _ rfl rfl
          · intro L a w4 Kx hl hsz hs ht hr he hK
            refine step_plain rfl ?_
            have h44 : a.tmps.getD 44 undef = .int .u32 (bvi (x4 &&& x5)) := ht 14 (he 14 (by kernel_rfl)) 44 rfl
            have h49 : a.tmps.getD 49 undef = .int .u32 (bvi ((~~~x4) &&& x6)) := ht 19 (he 19 (by kernel_rfl)) 49 rfl
            subst hr
            go_simp
            exact hK _ _ rfl rfl
          · intro L a w4 Kx hl hsz hs ht hr he hK
            refine step_plain rfl ?_
            have h40 : a.tmps.getD 40 undef = .int .u32 (bvi (x7 + (((rorI x4 6) ^^^ (rorI x4 11)) ^^^ (rorI x4 25)))) := ht 10 (he 10 (by kernel_rfl)) 40 rfl
            have h50 : a.tmps.getD 50 undef = .int .u32 (bvi ((x4 &&& x5) ^^^ ((~~~x4) &&& x6))) := ht 20 (he 20 (by kernel_rfl)) 50 rfl
            subst hr
            go_simp
            exact hK _ _ rfl rfl
          · intro L a w4 Kx hl hsz hs ht hr he hK
            refine step_plain rfl ?_
            have h9 : a.tmps.getD 9 undef = .int .i64 ((k : Int)) := (hs 9 (by decide)).trans rfl
            subst hr
            go_simp
            exact hK _ _ rfl rfl
          · intro L a w4 Kx hl hsz hs ht hr he hK
            refine step_plain rfl ?_
            have h52 : a.tmps.getD 52 undef = .int .i64 ((k : Int)) := ht 22 (he 22 (by kernel_rfl)) 52 rfl
            have h7 : a.tmps.getD 7 undef = .pointer (some ⟨gw + 1, 0, none⟩) := (hs 7 (by decide)).trans rfl
            subst hr
            go_simp
            exact hK _ _ rfl rfl
          · intro L a w4 Kx hl hsz hs ht hr he hK
            refine step_plain rfl ?_
            have h53 : a.tmps.getD 53 undef = .pointer (some ⟨gw + 1, k, none⟩) := ht 23 (he 23 (by kernel_rfl)) 53 rfl
            subst hr
            go_simp
            exact hK _ _ rfl rfl
          · intro L a w4 Kx hl hsz hs ht hr he hK
            refine step_plain rfl ?_
            have h51 : a.tmps.getD 51 undef = .int .u32 (bvi ((x7 + (((rorI x4 6) ^^^ (rorI x4 11)) ^^^ (rorI x4 25))) + ((x4 &&& x5) ^^^ ((~~~x4) &&& x6)))) := ht 21 (he 21 (by kernel_rfl)) 51 rfl
            have h54 : a.tmps.getD 54 undef = .int .u32 (bvi (kt)) := ht 24 (he 24 (by kernel_rfl)) 54 rfl
            subst hr
            go_simp
            exact hK _ _ rfl rfl
          · intro L a w4 Kx hl hsz hs ht hr he hK
            refine step_plain rfl ?_
            have h9 : a.tmps.getD 9 undef = .int .i64 ((k : Int)) := (hs 9 (by decide)).trans rfl
            subst hr
            go_simp
            exact hK _ _ rfl rfl
          · intro L a w4 Kx hl hsz hs ht hr he hK
            refine step_plain rfl ?_
            have h56 : a.tmps.getD 56 undef = .int .i64 ((k : Int)) := ht 26 (he 26 (by kernel_rfl)) 56 rfl
            have h6 : a.tmps.getD 6 undef = .pointer (some ⟨gw, 0, none⟩) := (hs 6 (by decide)).trans rfl
            subst hr
            go_simp
            exact hK _ _ rfl rfl
          · intro L a w4 Kx hl hsz hs ht hr he hK
            refine step_plain rfl ?_
            have h57 : a.tmps.getD 57 undef = .pointer (some ⟨gw, k, none⟩) := ht 27 (he 27 (by kernel_rfl)) 57 rfl
            subst hr
            go_simp
            exact hK _ _ rfl rfl
          · intro L a w4 Kx hl hsz hs ht hr he hK
            refine step_plain rfl ?_
            have h55 : a.tmps.getD 55 undef = .int .u32 (bvi (((x7 + (((rorI x4 6) ^^^ (rorI x4 11)) ^^^ (rorI x4 25))) + ((x4 &&& x5) ^^^ ((~~~x4) &&& x6))) + kt)) := ht 25 (he 25 (by kernel_rfl)) 55 rfl
            have h58 : a.tmps.getD 58 undef = .int .u32 (bvi (wt)) := ht 28 (he 28 (by kernel_rfl)) 58 rfl
            subst hr
            go_simp
            exact hK _ _ rfl rfl
          · intro L a w4 Kx hl hsz hs ht hr he hK
            refine step_plain rfl ?_
            have h59 : a.tmps.getD 59 undef = .int .u32 (bvi ((((x7 + (((rorI x4 6) ^^^ (rorI x4 11)) ^^^ (rorI x4 25))) + ((x4 &&& x5) ^^^ ((~~~x4) &&& x6))) + kt) + wt)) := ht 29 (he 29 (by kernel_rfl)) 59 rfl
            subst hr
            go_simp
            exact hK _ _ rfl rfl
        · intro f L w4 hf hall hr
          have h12 : f 12 = .int .u32 (bvi ((((x7 + (((rorI x4 6) ^^^ (rorI x4 11)) ^^^ (rorI x4 25))) + ((x4 &&& x5) ^^^ ((~~~x4) &&& x6))) + kt) + wt)) := hf 30 (by decide) 12 rfl
          subst hr
          simp only [List.foldl, Act.put, List.setIfInBounds_toArray, List.set_cons_zero, List.set_cons_succ]
          rw [h12]
          clear hf h12
          generalize f 30 = z30
          generalize f 31 = z31
          generalize f 32 = z32
          generalize f 33 = z33
          generalize f 34 = z34
          generalize f 35 = z35
          generalize f 36 = z36
          generalize f 37 = z37
          generalize f 38 = z38
          generalize f 39 = z39
          generalize f 40 = z40
          generalize f 41 = z41
          generalize f 42 = z42
          generalize f 43 = z43
          generalize f 44 = z44
          generalize f 45 = z45
          generalize f 46 = z46
          generalize f 47 = z47
          generalize f 48 = z48
          generalize f 49 = z49
          generalize f 50 = z50
          generalize f 51 = z51
          generalize f 52 = z52
          generalize f 53 = z53
          generalize f 54 = z54
          generalize f 55 = z55
          generalize f 56 = z56
          generalize f 57 = z57
          generalize f 58 = z58
          generalize f 59 = z59
          obtain ⟨pp, hpp⟩ : ∃ p, p = (((x7 + (((rorI x4 6) ^^^ (rorI x4 11)) ^^^ (rorI x4 25))) + ((x4 &&& x5) ^^^ ((~~~x4) &&& x6))) + kt) + wt := ⟨_, rfl⟩
          rw [← hpp]
          have HPP := Lib.hid hpp
          clear hpp
          go_wp2_with fail
          refine region_table (by kernel_rfl) [60, 61, 62, 63, 64, 65, 66, 67, 68, 69, 70, 71, 72, 73, 74, 75, 76, 77, 78, 79, 80, 81, 82, 83, 13]
            (fun i x_ => match i with
              | 0 => x_ = .int .u32 (bvi (x0))
              | 1 => x_ = .int .u32 (bvi (rorI x0 2))
              | 2 => x_ = .int .u32 (bvi (x0))
              | 3 => x_ = .int .u32 (bvi (rorI x0 13))
              | 4 => x_ = .int .u32 (bvi ((rorI x0 2) ^^^ (rorI x0 13)))
              | 5 => x_ = .int .u32 (bvi (x0))
              | 6 => x_ = .int .u32 (bvi (rorI x0 22))
              | 7 => x_ = .int .u32 (bvi (((rorI x0 2) ^^^ (rorI x0 13)) ^^^ (rorI x0 22)))
              | 8 => x_ = .int .u32 (bvi (x0))
              | 9 => x_ = .pointer (some ⟨vb, 1, none⟩)
              | 10 => x_ = .int .u32 (bvi (x1))
              | 11 => x_ = .int .u32 (bvi (x0 &&& x1))
              | 12 => x_ = .int .u32 (bvi (x0))
              | 13 => x_ = .pointer (some ⟨vb, 2, none⟩)
              | 14 => x_ = .int .u32 (bvi (x2))
              | 15 => x_ = .int .u32 (bvi (x0 &&& x2))
              | 16 => x_ = .int .u32 (bvi ((x0 &&& x1) ^^^ (x0 &&& x2)))
              | 17 => x_ = .pointer (some ⟨vb, 1, none⟩)
              | 18 => x_ = .int .u32 (bvi (x1))
              | 19 => x_ = .pointer (some ⟨vb, 2, none⟩)
              | 20 => x_ = .int .u32 (bvi (x2))
              | 21 => x_ = .int .u32 (bvi (x1 &&& x2))
              | 22 => x_ = .int .u32 (bvi (((x0 &&& x1) ^^^ (x0 &&& x2)) ^^^ (x1 &&& x2)))
              | 23 => x_ = .int .u32 (bvi ((((rorI x0 2) ^^^ (rorI x0 13)) ^^^ (rorI x0 22)) + (((x0 &&& x1) ^^^ (x0 &&& x2)) ^^^ (x1 &&& x2))))
              | 24 => x_ = .int .u32 (bvi ((((rorI x0 2) ^^^ (rorI x0 13)) ^^^ (rorI x0 22)) + (((x0 &&& x1) ^^^ (x0 &&& x2)) ^^^ (x1 &&& x2))))
              | _ => True) (fun _ _ w' => w' = wr.drew.drew.drew) (by kernel_rfl) (by kernel_rfl) rfl (by kernel_rfl) (rfl) ?_ ?_
          · refine StepsOk.cons ?_ (StepsOk.cons ?_ (StepsOk.cons ?_ (StepsOk.cons ?_ (StepsOk.cons ?_ (StepsOk.cons ?_ (StepsOk.cons ?_ (StepsOk.cons ?_ (StepsOk.cons ?_ (StepsOk.cons ?_ (StepsOk.cons ?_ (StepsOk.cons ?_ (StepsOk.cons ?_ (StepsOk.cons ?_ (StepsOk.cons ?_ (StepsOk.cons ?_ (StepsOk.cons ?_ (StepsOk.cons ?_ (StepsOk.cons ?_ (StepsOk.cons ?_ (StepsOk.cons ?_ (StepsOk.cons ?_ (StepsOk.cons ?_ (StepsOk.cons ?_ (StepsOk.cons ?_ StepsOk.nil))))))))))))))))))))))))
            · intro L a w4 Kx hl hsz hs ht hr he hK
              refine step_plain rfl ?_
              have h10 : a.tmps.getD 10 undef = .int .u32 (bvi (x0)) := (hs 10 (by decide)).trans rfl
              subst hr
              go_simp
              exact hK _ _ rfl rfl
            · intro L a w4 Kx hl hsz hs ht hr he hK
              refine step_plain rfl ?_
              have h60 : a.tmps.getD 60 undef = .int .u32 (bvi (x0)) := ht 0 (he 0 (by kernel_rfl)) 60 rfl
              subst hr
              go_simp
              refine (Right_walk x0 2 _).mono ?_
              rintro e w5 ⟨rfl, rfl⟩
              exact hK _ _ rfl rfl
            · intro L a w4 Kx hl hsz hs ht hr he hK
              refine step_plain rfl ?_
              have h10 : a.tmps.getD 10 undef = .int .u32 (bvi (x0)) := (hs 10 (by decide)).trans rfl
              subst hr
              go_simp
              exact hK _ _ rfl rfl
            · intro L a w4 Kx hl hsz hs ht hr he hK
              refine step_plain rfl ?_
              have h62 : a.tmps.getD 62 undef = .int .u32 (bvi (x0)) := ht 2 (he 2 (by kernel_rfl)) 62 rfl
              subst hr
              go_simp
              refine (Right_walk x0 13 _).mono ?_
              rintro e w5 ⟨rfl, rfl⟩
              exact hK _ _ rfl rfl
            · intro L a w4 Kx hl hsz hs ht hr he hK
              refine step_plain rfl ?_
              have h61 : a.tmps.getD 61 undef = .int .u32 (bvi (rorI x0 2)) := ht 1 (he 1 (by kernel_rfl)) 61 rfl
              have h63 : a.tmps.getD 63 undef = .int .u32 (bvi (rorI x0 13)) := ht 3 (he 3 (by kernel_rfl)) 63 rfl
              subst hr
              go_simp
              exact hK _ _ rfl rfl
            · intro L a w4 Kx hl hsz hs ht hr he hK
              refine step_plain rfl ?_
              have h10 : a.tmps.getD 10 undef = .int .u32 (bvi (x0)) := (hs 10 (by decide)).trans rfl
              subst hr
              go_simp
              exact hK _ _ rfl rfl
            · intro L a w4 Kx hl hsz hs ht hr he hK
              refine step_plain rfl ?_
              have h65 : a.tmps.getD 65 undef = .int .u32 (bvi (x0)) := ht 5 (he 5 (by kernel_rfl)) 65 rfl
              subst hr
              go_simp
              refine (Right_walk x0 22 _).mono ?_
              rintro e w5 ⟨rfl, rfl⟩
              exact hK _ _ rfl rfl
            · intro L a w4 Kx hl hsz hs ht hr he hK
              refine step_plain rfl ?_
              have h64 : a.tmps.getD 64 undef = .int .u32 (bvi ((rorI x0 2) ^^^ (rorI x0 13))) := ht 4 (he 4 (by kernel_rfl)) 64 rfl
              have h66 : a.tmps.getD 66 undef = .int .u32 (bvi (rorI x0 22)) := ht 6 (he 6 (by kernel_rfl)) 66 rfl
              subst hr
              go_simp
              exact hK _ _ rfl rfl
            · intro L a w4 Kx hl hsz hs ht hr he hK
              refine step_plain rfl ?_
              have h10 : a.tmps.getD 10 undef = .int .u32 (bvi (x0)) := (hs 10 (by decide)).trans rfl
              subst hr
              go_simp
              exact hK _ _ rfl rfl
            · intro L a w4 Kx hl hsz hs ht hr he hK
              refine step_plain rfl ?_
              have h8 : a.tmps.getD 8 undef = .pointer (some ⟨vb, 0, none⟩) := (hs 8 (by decide)).trans rfl
              subst hr
              go_simp
              exact hK _ _ rfl rfl
            · intro L a w4 Kx hl hsz hs ht hr he hK
              refine step_plain rfl ?_
              have h69 : a.tmps.getD 69 undef = .pointer (some ⟨vb, 1, none⟩) := ht 9 (he 9 (by kernel_rfl)) 69 rfl
              subst hr
              go_simp
              exact hK _ _ rfl rfl
            · intro L a w4 Kx hl hsz hs ht hr he hK
              refine step_plain rfl ?_
              have h68 : a.tmps.getD 68 undef = .int .u32 (bvi (x0)) := ht 8 (he 8 (by kernel_rfl)) 68 rfl
              have h70 : a.tmps.getD 70 undef = .int .u32 (bvi (x1)) := ht 10 (he 10 (by kernel_rfl)) 70 rfl
              subst hr
              go_simp
              exact hK _ _ rfl rfl
            · intro L a w4 Kx hl hsz hs ht hr he hK
              refine step_plain rfl ?_
              have h10 : a.tmps.getD 10 undef = .int .u32 (bvi (x0)) := (hs 10 (by decide)).trans rfl
              subst hr
              go_simp
              exact hK _ _ rfl rfl
            · intro L a w4 Kx hl hsz hs ht hr he hK
              refine step_plain rfl ?_
              have h8 : a.tmps.getD 8 undef = .pointer (some ⟨vb, 0, none⟩) := (hs 8 (by decide)).trans rfl
              subst hr
              go_simp
              exact hK _ _ rfl rfl
            · intro L a w4 Kx hl hsz hs ht hr he hK
              refine step_plain rfl ?_
              have h73 : a.tmps.getD 73 undef = .pointer (some ⟨vb, 2, none⟩) := ht 13 (he 13 (by kernel_rfl)) 73 rfl
              subst hr
              go_simp
              exact hK _ _ rfl rfl
            · intro L a w4 Kx hl hsz hs ht hr he hK
              refine step_plain rfl ?_
              have h72 : a.tmps.getD 72 undef = .int .u32 (bvi (x0)) := ht 12 (he 12 (by kernel_rfl)) 72 rfl
              have h74 : a.tmps.getD 74 undef = .int .u32 (bvi (x2)) := ht 14 (he 14 (by kernel_rfl)) 74 rfl
              subst hr
              go_simp
              exact hK _ _ rfl rfl
            · intro L a w4 Kx hl hsz hs ht hr he hK
              refine step_plain rfl ?_
              have h71 : a.tmps.getD 71 undef = .int .u32 (bvi (x0 &&& x1)) := ht 11 (he 11 (by kernel_rfl)) 71 rfl
              have h75 : a.tmps.getD 75 undef = .int .u32 (bvi (x0 &&& x2)) := ht 15 (he 15 (by kernel_rfl)) 75 rfl
              subst hr
              go_simp
              exact hK _ _ rfl rfl
            · intro L a w4 Kx hl hsz hs ht hr he hK
              refine step_plain rfl ?_
              have h8 : a.tmps.getD 8 undef = .pointer (some ⟨vb, 0, none⟩) := (hs 8 (by decide)).trans rfl
              subst hr
              go_simp
              exact hK _ _ rfl rfl
            · intro L a w4 Kx hl hsz hs ht hr he hK
              refine step_plain rfl ?_
              have h77 : a.tmps.getD 77 undef = .pointer (some ⟨vb, 1, none⟩) := ht 17 (he 17 (by kernel_rfl)) 77 rfl
              subst hr
              go_simp
              exact hK _ _ rfl rfl
            · intro L a w4 Kx hl hsz hs ht hr he hK
              refine step_plain rfl ?_
              have h8 : a.tmps.getD 8 undef = .pointer (some ⟨vb, 0, none⟩) := (hs 8 (by decide)).trans rfl
              subst hr
              go_simp
              exact hK _ _ rfl rfl
            · intro L a w4 Kx hl hsz hs ht hr he hK
              refine step_plain rfl ?_
              have h79 : a.tmps.getD 79 undef = .pointer (some ⟨vb, 2, none⟩) := ht 19 (he 19 (by kernel_rfl)) 79 rfl
              subst hr
              go_simp
              exact hK _ _ rfl rfl
            · intro L a w4 Kx hl hsz hs ht hr he hK
              refine step_plain rfl ?_
              have h78 : a.tmps.getD 78 undef = .int .u32 (bvi (x1)) := ht 18 (he 18 (by kernel_rfl)) 78 rfl
              have h80 : a.tmps.getD 80 undef = .int .u32 (bvi (x2)) := ht 20 (he 20 (by kernel_rfl)) 80 rfl
              subst hr
              go_simp
              exact hK _ _ rfl rfl
            · intro L a w4 Kx hl hsz hs ht hr he hK
              refine step_plain rfl ?_
              have h76 : a.tmps.getD 76 undef = .int .u32 (bvi ((x0 &&& x1) ^^^ (x0 &&& x2))) := ht 16 (he 16 (by kernel_rfl)) 76 rfl
              have h81 : a.tmps.getD 81 undef = .int .u32 (bvi (x1 &&& x2)) := ht 21 (he 21 (by kernel_rfl)) 81 rfl
              subst hr
              go_simp
              exact hK _ _ rfl rfl
            · intro L a w4 Kx hl hsz hs ht hr he hK
              refine step_plain rfl ?_
              have h67 : a.tmps.getD 67 undef = .int .u32 (bvi (((rorI x0 2) ^^^ (rorI x0 13)) ^^^ (rorI x0 22))) := ht 7 (he 7 (by kernel_rfl)) 67 rfl
              have h82 : a.tmps.getD 82 undef = .int .u32 (bvi (((x0 &&& x1) ^^^ (x0 &&& x2)) ^^^ (x1 &&& x2))) := ht 22 (he 22 (by kernel_rfl)) 82 rfl
              subst hr
              go_simp
              exact hK _ _ rfl rfl
            · intro L a w4 Kx hl hsz hs ht hr he hK
              refine step_plain rfl ?_
              have h83 : a.tmps.getD 83 undef = .int .u32 (bvi ((((rorI x0 2) ^^^ (rorI x0 13)) ^^^ (rorI x0 22)) + (((x0 &&& x1) ^^^ (x0 &&& x2)) ^^^ (x1 &&& x2)))) := ht 23 (he 23 (by kernel_rfl)) 83 rfl
              subst hr
              go_simp
              exact hK _ _ rfl rfl
          · intro f L w4 hf hall hr
            have h13 : f 13 = .int .u32 (bvi ((((rorI x0 2) ^^^ (rorI x0 13)) ^^^ (rorI x0 22)) + (((x0 &&& x1) ^^^ (x0 &&& x2)) ^^^ (x1 &&& x2)))) := hf 24 (by decide) 13 rfl
            subst hr
            simp only [List.foldl, Act.put, List.setIfInBounds_toArray, List.set_cons_zero, List.set_cons_succ]
            rw [h13]
            clear hf h13
            generalize f 60 = z60
            generalize f 61 = z61
            generalize f 62 = z62
            generalize f 63 = z63
            generalize f 64 = z64
            generalize f 65 = z65
            generalize f 66 = z66
            generalize f 67 = z67
            generalize f 68 = z68
            generalize f 69 = z69
            generalize f 70 = z70
            generalize f 71 = z71
            generalize f 72 = z72
            generalize f 73 = z73
            generalize f 74 = z74
            generalize f 75 = z75
            generalize f 76 = z76
            generalize f 77 = z77
            generalize f 78 = z78
            generalize f 79 = z79
            generalize f 80 = z80
            generalize f 81 = z81
            generalize f 82 = z82
            generalize f 83 = z83
            obtain ⟨qq, hqq⟩ : ∃ q, q = (((rorI x0 2) ^^^ (rorI x0 13)) ^^^ (rorI x0 22)) + (((x0 &&& x1) ^^^ (x0 &&& x2)) ^^^ (x1 &&& x2)) := ⟨_, rfl⟩
            rw [← hqq]
            have HRE := Lib.hid (HRD.out x0 x1 x2 x3 x4 x5 x6 x7 kt wt E0.out E1.out E2.out E3.out E4.out E5.out E6.out E7.out EK.out EW.out pp qq HPP.out hqq)
            clear hqq
            go_wp2_with (with_reducible refine wpList_store_rowTo rfl 152 (.tmp 8) (.tmp 103) rfl rfl vb (words [pp + qq, x0, x1, x2, x3 + pp, x4, x5, x6]).toArray ?k1 ?k2 152 (words (roundsK st W k)).toArray ?k0 ?k3 ?k4 ?k5 ?_)
            case k1 => rfl
            case k2 => rfl
            case k0 => exact R1.out.out
            case k3 => kernel_rfl
            case k4 => rw [words_size, HLV.out]; rfl
            case k5 => exact wordsS_cells _
            go_roundw
            case rel => exact ⟨k + 1, by omega, by go_num, by rw [HRE.out]; exact (RowAt.drew (RowAt.drew (RowAt.drew R1.out))).setRow _, RowAt.setOther R2.out (by omega) _, RowAt.setOther R3.out (by omega) _, RowAt.setOther R4.out (by omega) _, RowAt.setOther R5.out (by omega) _, Go.Proofs.Ytfglhemmccihfaa.Below.setRow (Below.drew (Below.drew (Below.drew R6.out))) (by omega) _⟩
            case measure => simp [intOf]; omega
    · obtain rfl : k = 64 := by omega
      have hvl := HLV.out
      have hmm := HM.out
      generalize roundsK st W 64 = V at R1 hvl hmm
      have HVL := Lib.hid hvl
      have HMM := Lib.hid hmm
      clear hvl hmm HLV HM
      go_wp2_with fail
      obtain ⟨wo, hwo⟩ : ∃ wo : World, wo = wr := ⟨_, rfl⟩
      subst hwo
      go_loopw [105] (fun i wr => ∃ k : Nat, k ≤ 8 ∧ i = .int .i64 k ∧ RowAt wr vb (words V).toArray 152 (0, 0) ∧ RowAt wr sb (words (addK st V k)).toArray 152 (0, 0) ∧ RowAt wr (sb + 1) (words zero8).toArray 152 (0, 0) ∧ Below sb w wr) (fun i _ => 8 - (intOf i).toNat)
      case atStart => exact ⟨0, Nat.zero_le _, rfl, R1.out, R4.out, R5.out, R6.out⟩
      case round =>
        obtain ⟨k, hk, rfl, r1, r2, r3, r4⟩ := hrel
        have P1 := Lib.hid r1
        have P2 := Lib.hid r2
        have P3 := Lib.hid r3
        have P4 := Lib.hid r4
        have HLA := Lib.hid (show (addK st V k).length = 8 by rw [addK_length]; exact HL.out)
        clear r1 r2 r3 r4
        rcases Nat.lt_or_ge k 8 with hlt | hge
        · have HAS := Lib.hid (show addK st V (k + 1) = (addK st V k).set k ((addK st V k).getD k 0 + V.getD k 0) from rfl)
          have c0 := P2.out.cell (wordsS_at (addK st V k) k (by rw [HLA.out]; exact hlt))
          have c1 := P1.out.cell (wordsS_at V k (by rw [HVL.out]; exact hlt))
          have f0 := P2.out.free (i := k) (by simp)
          generalize (addK st V k).getD k 0 = xa at c0 HAS
          generalize V.getD k 0 = xv at c1 HAS
          have d5 : (k : Int) < 8 := by omega
          go_wp2_with fail
          refine region_table (by kernel_rfl) [108, 109, 110, 111, 112, 113, 114, 115]
            (fun i x_ => match i with
              | 0 => x_ = .int .i64 ((k : Int))
              | 1 => x_ = .pointer (some ⟨sb, k, none⟩)
              | 2 => x_ = .int .u32 (bvi (xa))
              | 3 => x_ = .int .i64 ((k : Int))
              | 4 => x_ = .pointer (some ⟨vb, k, none⟩)
              | 5 => x_ = .int .u32 (bvi (xv))
              | 6 => x_ = .int .u32 (bvi (xa + xv))
              | 7 => x_ = .pointer (some ⟨sb, k, none⟩)
              | 8 => True
              | _ => True) (fun L _ w' => (L 8 = false → w' = wr.drew) ∧ (L 8 = true → w' = wr.drew.setCell ⟨sb, k, none⟩ (.int .u32 (bvi (xa + xv)))) ∧ (L 8 = true → L 2 = true ∧ L 5 = true ∧ True)) (by kernel_rfl) (by kernel_rfl) rfl (by kernel_rfl) (⟨fun _ => rfl, (fun h => by cases h), (fun h => by cases h)⟩) ?_ ?_
          · refine StepsOk.cons ?_ (StepsOk.cons ?_ (StepsOk.cons ?_ (StepsOk.cons ?_ (StepsOk.cons ?_ (StepsOk.cons ?_ (StepsOk.cons ?_ (StepsOk.cons ?_ (StepsOk.cons ?_ StepsOk.nil))))))))
            · intro L a w4 Kx hl hsz hs ht hr he hK
              refine step_plain rfl ?_
              have h14 : a.tmps.getD 14 undef = .int .i64 ((k : Int)) := (hs 14 (by decide)).trans rfl
              go_simp
              exact hK _ _ rfl (by simpa using hr)
            · intro L a w4 Kx hl hsz hs ht hr he hK
              refine step_plain rfl ?_
              have h108 : a.tmps.getD 108 undef = .int .i64 ((k : Int)) := ht 0 (he 0 (by kernel_rfl)) 108 rfl
              have h2 : a.tmps.getD 2 undef = .pointer (some ⟨sb, 0, none⟩) := (hs 2 (by decide)).trans rfl
              go_simp
              exact hK _ _ rfl (by simpa using hr)
            · intro L a w4 Kx hl hsz hs ht hr he hK
              refine step_plain rfl ?_
              have h109 : a.tmps.getD 109 undef = .pointer (some ⟨sb, k, none⟩) := ht 1 (he 1 (by kernel_rfl)) 109 rfl
              have hx17 : L 8 = false := by
                cases hy : L 8 with
                | false => rfl
                | true => have := (hr.2.2 hy).1; rw [hl] at this; cases this
              have hw4 := hr.1 hx17
              subst hw4
              go_simp
              refine hK _ _ rfl ⟨fun _ => rfl, fun h => ?_, fun h => ?_⟩
              all_goals
                have h' : (L 8 || false) = true := h
                rw [hx17] at h'
                cases h'
            · intro L a w4 Kx hl hsz hs ht hr he hK
              refine step_plain rfl ?_
              have h14 : a.tmps.getD 14 undef = .int .i64 ((k : Int)) := (hs 14 (by decide)).trans rfl
              go_simp
              exact hK _ _ rfl (by simpa using hr)
            · intro L a w4 Kx hl hsz hs ht hr he hK
              refine step_plain rfl ?_
              have h111 : a.tmps.getD 111 undef = .int .i64 ((k : Int)) := ht 3 (he 3 (by kernel_rfl)) 111 rfl
              have h8 : a.tmps.getD 8 undef = .pointer (some ⟨vb, 0, none⟩) := (hs 8 (by decide)).trans rfl
              go_simp
              exact hK _ _ rfl (by simpa using hr)
            · intro L a w4 Kx hl hsz hs ht hr he hK
              refine step_plain rfl ?_
              have h112 : a.tmps.getD 112 undef = .pointer (some ⟨vb, k, none⟩) := ht 4 (he 4 (by kernel_rfl)) 112 rfl
              have hx17 : L 8 = false := by
                cases hy : L 8 with
                | false => rfl
                | true => have := (hr.2.2 hy).2.1; rw [hl] at this; cases this
              have hw4 := hr.1 hx17
              subst hw4
              go_simp
              refine hK _ _ rfl ⟨fun _ => rfl, fun h => ?_, fun h => ?_⟩
              all_goals
                have h' : (L 8 || false) = true := h
                rw [hx17] at h'
                cases h'
            · intro L a w4 Kx hl hsz hs ht hr he hK
              refine step_plain rfl ?_
              have h110 : a.tmps.getD 110 undef = .int .u32 (bvi (xa)) := ht 2 (he 2 (by kernel_rfl)) 110 rfl
              have h113 : a.tmps.getD 113 undef = .int .u32 (bvi (xv)) := ht 5 (he 5 (by kernel_rfl)) 113 rfl
              go_simp
              exact hK _ _ rfl (by simpa using hr)
            · intro L a w4 Kx hl hsz hs ht hr he hK
              refine step_plain rfl ?_
              have h108 : a.tmps.getD 108 undef = .int .i64 ((k : Int)) := ht 0 (he 0 (by kernel_rfl)) 108 rfl
              have h2 : a.tmps.getD 2 undef = .pointer (some ⟨sb, 0, none⟩) := (hs 2 (by decide)).trans rfl
              go_simp
              exact hK _ _ rfl (by simpa using hr)
            · intro L a w4 Kx hl hsz hs ht hr he hK
              refine step_plain rfl ?_
              have h115 : a.tmps.getD 115 undef = .pointer (some ⟨sb, k, none⟩) := ht 7 (he 7 (by kernel_rfl)) 115 rfl
              have h114 : a.tmps.getD 114 undef = .int .u32 (bvi (xa + xv)) := ht 6 (he 6 (by kernel_rfl)) 114 rfl
              have hw4 := hr.1 hl
              subst hw4
              go_simp
              refine hK undef _ trivial ⟨fun h => ?_, fun _ => rfl, fun _ => ?_⟩
              · have h' : (L 8 || true) = false := h
                rw [Bool.or_true] at h'
                cases h'
              · exact ⟨by show (L 2 || false) = true; rw [he 2 (by kernel_rfl)]; rfl, by show (L 5 || false) = true; rw [he 5 (by kernel_rfl)]; rfl, trivial⟩
          · intro f L w4 hf hall hr
            have hw4 := hr.2.1 (hall 8 (by decide))
            subst hw4
            clear hall hr
            simp only [List.foldl, Act.put, List.setIfInBounds_toArray, List.set_cons_zero, List.set_cons_succ]
            clear hf
            generalize f 108 = z108
            generalize f 109 = z109
            generalize f 110 = z110
            generalize f 111 = z111
            generalize f 112 = z112
            generalize f 113 = z113
            generalize f 114 = z114
            generalize f 115 = z115
            go_wp2_with fail
            go_roundw
            case rel => exact ⟨k + 1, by omega, by go_num, P1.out.drew.other (by show sb ≠ vb; omega) _, by rw [HAS.out, ← wordsS_set]; exact P2.out.drew.store k _, P3.out.drew.other (by show sb ≠ sb + 1; omega) _, P4.out.drew.setCell (by show sb ≤ sb; omega) _⟩
            case measure => simp [intOf]; omega
        · obtain rfl : k = 8 := by omega
          go_wp2_with (first | (with_reducible refine wpList_load_row rfl 152 (.tmp 2) rfl sb ?h1 152 (words (addK st V 8)).toArray (0, 0) _ P2.out.out Try.underlying152 rfl ?h2 ?_) | (with_reducible refine wpList_store_rowTo rfl 152 (.tmp 4) (.tmp 117) rfl rfl (sb + 1) (words (addK st V 8)).toArray ?g1 ?g2 152 (words zero8).toArray ?g0 ?g3 ?g4 ?g5 ?_))
          case h1 => rfl
          case h2 => exact w8_info _ HLA.out
          case g0 => exact P3.out.out
          case g3 => exact w8_info _ HLA.out
          case g4 => rw [words_size, words_size, HLA.out]; rfl
          case g5 => exact wordsS_cells _
          refine bodyPost_ret (v := .tuple #[.agg (words (addK st V 8)).toArray, .int .i64 0]) (results_cell_tmp_row rfl _ _ (sb + 1) 152 (words (addK st V 8)).toArray (0, 0) _ _ (by kernel_rfl) rfl (P3.out.setRow _).out Try.underlying152 rfl (w8_info _ HLA.out)) rfl ⟨?_, ?_⟩
          · rw [HMM.out]
          · rw [HSB.out]; exact Go.Proofs.Ytfglhemmccihfaa.Below.setRow P4.out (by omega) _
end Go.Proofs.Ytfglhemmccihfaa
namespace Go.Proofs.Ytfglhemmccihfaa
open Go.RowKit

theorem Mix_as (st : List (BitVec 32)) (hl : st.length = 8) (s : ByteArray) (h : s.size = 64) (nw : List (BitVec 32)) (hn : nw = mixS st s.data.toList) (w : World) :
    Calls Try.prog 130 #[.agg (words st).toArray, .string s] w fun e w' => e = .returned (.tuple #[.agg (words nw).toArray, .int .i64 0]) ∧ Below w.heap.size w w' := by
  rw [hn]
  exact Mix_ok st hl s h w
set_option maxRecDepth 100000 in
set_option maxHeartbeats 1000000 in
theorem mix_walk (st : List (BitVec 32)) (hst : st.length = 8) (s : ByteArray) (V : List (BitVec 32)) (hV : V = mixK st s.data.toList (s.size / 64)) (r : ByteArray) (hr : Is r (restS s.data.toList)) (w : World) :
    Calls Try.prog 128 #[.agg (words st).toArray, .string s] w fun e w' => e = .returned (.tuple #[.agg (words V).toArray, .string r]) ∧ Below w.heap.size w w' := by
  have HL := Lib.hid hst
  have HV := Lib.hid hV
  have HR := Lib.hid hr
  have HTL := Lib.hid (show s.data.toList.length = s.size by rw [Array.length_toList]; rfl)
  clear hst hV hr
  go_enter Try.func128, Try.ntmps128
  go_wp2_with fail
  have HS0 := Lib.hid ((RowAt.new w (words st).toArray 152 (0, 0)).alloc (.cells (words zero8).toArray 152))
  have HZ0 := RowAt.new (w.alloc (.cells (words st).toArray 152)) (words zero8).toArray 152 (0, 0)
  rw [show (w.alloc (.cells (words st).toArray 152)).heap.size = w.heap.size + 1 by simp] at HZ0
  have HZ1 := Lib.hid HZ0
  have HB0 := Lib.hid (((Below.refl w.heap.size w).alloc (Nat.le_refl _) (.cells (words st).toArray 152)).alloc (by simp) (.cells (words zero8).toArray 152))
  clear HZ0
  go_loopg [1] (s.size / 64) (fun g v wr => ∃ (j : Nat) (rs : ByteArray), j + g = s.size / 64 ∧ v = .string rs ∧ Is rs (s.data.toList.drop (64 * j)) ∧ RowAt wr w.heap.size (words (mixK st s.data.toList j)).toArray 152 (0, 0) ∧ RowAt wr (w.heap.size + 1) (words zero8).toArray 152 (0, 0) ∧ Below w.heap.size w wr)
  case atStart => exact ⟨0, s, by omega, rfl, Is.self s, HS0.out, HZ1.out, HB0.out⟩
  case round =>
    obtain ⟨j, rs, hjg, rfl, hrs, r1, r2, r3⟩ := hrel
    have hrz : rs.size = s.size - 64 * j := by rw [hrs.size, List.length_drop, HTL.out]
    have HJ := Lib.hid hjg
    have HRS := Lib.hid hrs
    have R1 := Lib.hid r1
    have R2 := Lib.hid r2
    have R3 := Lib.hid r3
    clear r1 r2 r3
    rcases Nat.lt_or_ge 0 gk with hg | hg
    · have h64 : 64 ≤ rs.size := by omega
      have hX := hrs.extract 0 64
      rw [List.drop_zero, Nat.sub_zero] at hX
      have HX := Lib.hid hX
      have HXZ := Lib.hid (show (rs.extract 0 64).size = 64 by rw [ByteArray.size_extract]; omega)
      have HY := Lib.hid (show Is (rs.extract 64 rs.size) (s.data.toList.drop (64 * (j + 1))) from by
        have := hrs.extract 64 rs.size
        rwa [List.drop_drop, List.take_of_length_le (by rw [List.length_drop, HTL.out, hrz]; omega), show 64 * j + 64 = 64 * (j + 1) by omega] at this)
      have HLC := Lib.hid (show (mixK st s.data.toList j).length = 8 by rw [mixK_length]; exact HL.out)
      obtain ⟨nw, hnw⟩ : ∃ nw, nw = mixK st s.data.toList (j + 1) := ⟨_, rfl⟩
      have HLN := Lib.hid (show nw.length = 8 by rw [hnw, mixK_length]; exact HL.out)
      have HNW := Lib.hid (show nw = mixS (mixK st s.data.toList j) (rs.extract 0 64).data.toList by rw [HX.out.out, hnw]; rfl)
      have HFS := Lib.hid hnw
      clear hnw
      generalize mixK st s.data.toList j = cur at R1 HLC HNW
      have hd : decide ((64 : Int) ≤ (rs.size : Int)) = true := decide_eq_true (by omega)
      have hk3 : (64 : Int) ≤ (rs.size : Int) := by omega
      clear hrs hX hrz hjg
      go_wp2_with fail
      refine region_table (by kernel_rfl) [10, 11, 12, 13, 9, 14, 15]
        (fun i x_ => match i with
          | 0 => x_ = .agg (words cur).toArray
          | 1 => x_ = .string rs
          | 2 => x_ = .string (rs.extract 0 64)
          | 3 => x_ = .tuple #[.agg (words nw).toArray, .int .i64 0]
          | 4 => x_ = .tuple #[.agg (words nw).toArray, .int .i64 0]
          | 5 => x_ = .agg (words nw).toArray
          | 6 => x_ = .int .i64 (0)
          | 7 => True
          | _ => True) (fun L _ w' => Below w.heap.size w w' ∧ RowAt w' w.heap.size (words (if L 7 = true then nw else cur)).toArray 152 (0, 0) ∧ RowAt w' (w.heap.size + 1) (words zero8).toArray 152 (0, 0) ∧ (L 7 = true → L 0 = true)) (by kernel_rfl) (by kernel_rfl) rfl (by kernel_rfl) (⟨R3.out.drew, R1.out.drew, R2.out.drew, (fun h => by cases h)⟩) ?_ ?_
      · refine StepsOk.cons ?_ (StepsOk.cons ?_ (StepsOk.cons ?_ (StepsOk.cons ?_ (StepsOk.cons ?_ (StepsOk.cons ?_ (StepsOk.cons ?_ (StepsOk.cons ?_ StepsOk.nil)))))))
        · intro L a w4 Kx hl hsz hs ht hr he hK
          refine step_plain rfl ?_
          have h2 : a.tmps.getD 2 undef = .pointer (some ⟨w.heap.size, 0, none⟩) := (hs 2 (by decide)).trans rfl
          have hx : L 7 = false := by
            cases hy : L 7 with
            | false => rfl
            | true => have := hr.2.2.2 hy; rw [hl] at this; cases this
          have hr2 : RowAt w4 w.heap.size (words cur).toArray 152 (0, 0) := by have := hr.2.1; rwa [hx] at this
          refine wp_load_row 152 _ rfl w.heap.size h2 152 (words cur).toArray (0, 0) _ hr2.out Try.underlying152 rfl (w8_info _ HLC.out) (hK _ _ rfl ⟨hr.1, ?_, hr.2.2.1, fun _ => ?_⟩)
          · show RowAt w4 w.heap.size (words (if (L 7 || false) = true then _ else _)).toArray _ _
            rw [hx]; exact hr2
          · show (L 0 || true) = true
            rw [Bool.or_true]
        · intro L a w4 Kx hl hsz hs ht hr he hK
          refine step_plain rfl ?_
          have h1 : a.tmps.getD 1 undef = .string rs := (hs 1 (by decide)).trans rfl
          go_simp
          exact hK _ _ rfl (by simpa using hr)
        · intro L a w4 Kx hl hsz hs ht hr he hK
          refine step_plain rfl ?_
          have h11 : a.tmps.getD 11 undef = .string rs := ht 1 (he 1 (by kernel_rfl)) 11 rfl
          go_simp
          exact hK _ _ rfl (by simpa using hr)
        · intro L a w4 Kx hl hsz hs ht hr he hK
          refine step_plain rfl ?_
          have h10 : a.tmps.getD 10 undef = .agg (words cur).toArray := ht 0 (he 0 (by kernel_rfl)) 10 rfl
          have h12 : a.tmps.getD 12 undef = .string (rs.extract 0 64) := ht 2 (he 2 (by kernel_rfl)) 12 rfl
          go_simp
          refine (Mix_as cur HLC.out (rs.extract 0 64) HXZ.out nw HNW.out _).mono ?_
          rintro e w5 ⟨rfl, hb5⟩
          exact hK _ _ rfl (by simpa using (show Below w.heap.size w w5 ∧ RowAt w5 w.heap.size (words (if L 7 = true then nw else cur)).toArray 152 (0, 0) ∧ RowAt w5 (w.heap.size + 1) (words zero8).toArray 152 (0, 0) ∧ (L 7 = true → L 0 = true) from ⟨bthen hr.1 hb5, hr.2.1.below hb5 hr.2.1.lt, hr.2.2.1.below hb5 hr.2.2.1.lt, hr.2.2.2⟩))
        · intro L a w4 Kx hl hsz hs ht hr he hK
          refine step_plain rfl ?_
          have h13 : a.tmps.getD 13 undef = .tuple #[.agg (words nw).toArray, .int .i64 0] := ht 3 (he 3 (by kernel_rfl)) 13 rfl
          go_simp
          exact hK _ _ rfl (by simpa using hr)
        · intro L a w4 Kx hl hsz hs ht hr he hK
          refine step_plain rfl ?_
          have h9 : a.tmps.getD 9 undef = .tuple #[.agg (words nw).toArray, .int .i64 0] := ht 4 (he 4 (by kernel_rfl)) 9 rfl
          go_simp
          exact hK _ _ rfl (by simpa using hr)
        · intro L a w4 Kx hl hsz hs ht hr he hK
          refine step_plain rfl ?_
          have h9 : a.tmps.getD 9 undef = .tuple #[.agg (words nw).toArray, .int .i64 0] := ht 4 (he 4 (by kernel_rfl)) 9 rfl
          go_simp
          exact hK _ _ rfl (by simpa using hr)
        · intro L a w4 Kx hl hsz hs ht hr he hK
          refine step_plain rfl ?_
          have h14 : a.tmps.getD 14 undef = .agg (words nw).toArray := ht 5 (he 5 (by kernel_rfl)) 14 rfl
          have h2 : a.tmps.getD 2 undef = .pointer (some ⟨w.heap.size, 0, none⟩) := (hs 2 (by decide)).trans rfl
          have hr2 : RowAt w4 w.heap.size (words cur).toArray 152 (0, 0) := by have := hr.2.1; rwa [hl] at this
          refine wp_store_row 152 _ _ rfl w.heap.size (words nw).toArray h2 h14 152 _ hr2.out (w8_info _ HLN.out) (by rw [words_size, words_size, HLC.out, HLN.out]) (wordsS_cells _) (hK _ _ trivial ⟨Go.Proofs.Ytfglhemmccihfaa.Below.setRow hr.1 (Nat.le_refl _) _, ?_, hr.2.2.1.setOther (by omega) _, fun _ => ?_⟩)
          · show RowAt _ _ (words (if (L 7 || true) = true then _ else _)).toArray _ _
            rw [Bool.or_true, if_pos rfl]
            exact hr2.setRow _
          · show (L 0 || false) = true
            rw [he 0 (by kernel_rfl)]; rfl
      · intro f L w4 hf hall hr
        have hr2 : RowAt w4 w.heap.size (words nw).toArray 152 (0, 0) := by have := hr.2.1; rwa [hall 7 (by decide), if_pos rfl] at this
        have P1 := Lib.hid hr2
        have P2 := Lib.hid hr.2.2.1
        have P3 := Lib.hid hr.1
        simp only [List.foldl, Act.put, List.setIfInBounds_toArray, List.set_cons_zero, List.set_cons_succ]
        clear hf
        generalize f 10 = z10
        generalize f 11 = z11
        generalize f 12 = z12
        generalize f 13 = z13
        generalize f 9 = z9
        generalize f 14 = z14
        generalize f 15 = z15
        clear hall hr hr2
        go_wp2_with fail
        go_roundg (gk - 1)
        case measure => omega
        case rel => exact ⟨j + 1, rs.extract 64 rs.size, by have := HJ.out; omega, rfl, HY.out, by rw [← HFS.out]; exact P1.out, P2.out, P3.out⟩
    · obtain rfl : gk = 0 := by omega
      have hd : decide ((64 : Int) ≤ (rs.size : Int)) = false := decide_eq_false (by omega)
      have hjj : j = s.size / 64 := by omega
      have HRR := Lib.hid (show rs = r by
        refine hrs.inj ?_
        rw [hjj]
        have h := HR.out
        unfold restS at h
        rwa [HTL.out] at h)
      have HLC := Lib.hid (show (mixK st s.data.toList j).length = 8 by rw [mixK_length]; exact HL.out)
      have HVV := Lib.hid (show mixK st s.data.toList j = V by rw [HV.out, hjj])
      clear hrs hrz hjg hjj
      go_wp2_with (first | (with_reducible refine wpList_load_row rfl 152 (.tmp 2) rfl w.heap.size ?h1 152 (words (mixK st s.data.toList j)).toArray (0, 0) _ R1.out.out Try.underlying152 rfl ?h2 ?_) | (with_reducible refine wpList_store_rowTo rfl 152 (.tmp 4) (.tmp 18) rfl rfl (w.heap.size + 1) (words (mixK st s.data.toList j)).toArray ?g1 ?g2 152 (words zero8).toArray ?g0 ?g3 ?g4 ?g5 ?_))
      case h1 => rfl
      case h2 => exact w8_info _ HLC.out
      case g1 => rfl
      case g2 => rfl
      case g0 => exact R2.out.out
      case g3 => exact w8_info _ HLC.out
      case g4 => rw [words_size, words_size, HLC.out]; rfl
      case g5 => exact wordsS_cells _
      refine bodyPost_ret (v := .tuple #[.agg (words (mixK st s.data.toList j)).toArray, .string rs]) (results_cell_tmp_row rfl _ _ (w.heap.size + 1) 152 (words (mixK st s.data.toList j)).toArray (0, 0) _ _ (by kernel_rfl) rfl (R2.out.setRow _).out Try.underlying152 rfl (w8_info _ HLC.out)) rfl ⟨?_, ?_⟩
      · rw [HVV.out, HRR.out]
      · exact Go.Proofs.Ytfglhemmccihfaa.Below.setRow R3.out (by omega) _

/-! ### A Hash -/
def hashL (st : List (BitVec 32)) (n : BitVec 64) (r : ByteArray) : List Value := words st ++ [.int .u64 (bvi n), .string r]
def HashIs (w : World) (b : Nat) (st : List (BitVec 32)) (n : BitVec 64) (r : ByteArray) : Prop := st.length = 8 ∧ RowAt w b (hashL st n r).toArray 155 (0, 0)
/-- Block b is a Hash to which the text t was added. -/
def HashAt (w : World) (b : Nat) (t : List UInt8) : Prop := ∃ r, Is r (restS t) ∧ HashIs w b (mixK firstS t (t.length / 64)) (BitVec.ofNat 64 t.length) r
section
variable {w w' : World} {b : Nat} {st : List (BitVec 32)} {n : BitVec 64} {r : ByteArray}
theorem HashIs.lt (h : HashIs w b st n r) : b < w.heap.size := h.2.lt
theorem HashIs.below {B : Nat} (h : HashIs w b st n r) (hb : Below B w w') (hB : b < B) : HashIs w' b st n r := ⟨h.1, h.2.below hb hB⟩
theorem HashIs.drew (h : HashIs w b st n r) : HashIs w.drew b st n r := h
theorem HashIs.mid (h : HashIs w b st n r) : w.rangeAt b 0 (words st) := by
  obtain ⟨_, hw⟩ := h
  unfold hashL at hw
  exact RowAt.mid (xs := []) (by simpa using hw)
theorem hash_at (i : Nat) (h : st.length = 8) : (hashL st n r).toArray[8 + i]? = ([Value.int .u64 (bvi n), .string r] : List Value)[i]? := by
  unfold hashL
  rw [List.getElem?_toArray, List.getElem?_append_right (by rw [words_length, h]; omega), words_length, h, Nat.add_sub_cancel_left]
theorem HashIs.n_cell (h : HashIs w b st n r) : w.cell? ⟨b, 8, none⟩ = some (.int .u64 (bvi n)) := RowAt.cell h.2 (i := 8) (hash_at 0 h.1)
theorem HashIs.rest_cell (h : HashIs w b st n r) : w.cell? ⟨b, 9, none⟩ = some (.string r) := RowAt.cell h.2 (i := 9) (hash_at 1 h.1)
theorem HashIs.free (h : HashIs w b st n r) (i : Nat) : w.frozen? ⟨b, i, none⟩ = false := h.2.free (by simp)
theorem HashIs.there (h : HashIs w b st n r) : w.there b 0 8 := RowAt.there h.2 0 8 (by simp [hashL, words_length, h.1])
theorem HashIs.setN (h : HashIs w b st n r) (m : BitVec 64) : HashIs (w.setCell ⟨b, 8, none⟩ (.int .u64 (bvi m))) b st m r := by
  obtain ⟨hl, hw⟩ := h
  refine ⟨hl, ?_⟩
  have := RowAt.store hw 8 (.int .u64 (bvi m))
  unfold hashL at this ⊢
  rw [List.setIfInBounds_toArray, List.set_append_right _ _ (by rw [words_length, hl]; decide), words_length, hl] at this
  exact this
theorem HashIs.setR (h : HashIs w b st n r) (t : ByteArray) : HashIs (w.setCell ⟨b, 9, none⟩ (.string t)) b st n t := by
  obtain ⟨hl, hw⟩ := h
  refine ⟨hl, ?_⟩
  have := RowAt.store hw 9 (.string t)
  unfold hashL at this ⊢
  rw [List.setIfInBounds_toArray, List.set_append_right _ _ (by rw [words_length, hl]; decide), words_length, hl] at this
  exact this
theorem HashIs.setS (h : HashIs w b st n r) (V : List (BitVec 32)) (hV : V.length = 8) : HashIs (w.setCells b 0 (words V)) b V n r := by
  obtain ⟨hl, hw⟩ := h
  refine ⟨hV, ?_⟩
  unfold hashL at hw ⊢
  have := RowAt.setMid (words V) w [] (words st) [Value.int .u64 (bvi n), .string r] (by rw [words_length, words_length, hl, hV]) (by simpa using hw)
  simpa using this
theorem HashAt.lt {t : List UInt8} (h : HashAt w b t) : b < w.heap.size := by
  obtain ⟨r, _, h2⟩ := h; exact h2.lt
theorem HashAt.below {t : List UInt8} {B : Nat} (h : HashAt w b t) (hb : Below B w w') (hB : b < B) : HashAt w' b t := by
  obtain ⟨r, h1, h2⟩ := h; exact ⟨r, h1, h2.below hb hB⟩
end
theorem w8_info' (l : List (BitVec 32)) (h : l.length = 8) : (Try.prog.info? 152).map (·.size) = some (words l).length := by
  rw [words_length, h]; kernel_rfl

set_option maxRecDepth 100000 in
set_option maxHeartbeats 1000000 in
theorem ShaNew_walk (w : World) : Calls Try.prog 118 #[] w fun e w' => e = .returned (.pointer (some ⟨w'.heap.size - 1, 0, none⟩)) ∧ HashAt w' (w'.heap.size - 1) [] ∧ w.heap.size < w'.heap.size ∧ Below w.heap.size w w' := by
  go_enter Try.func118, Try.ntmps118
  go_wp2_with fail
  refine (First_walk _).mono ?_
  rintro e w1 ⟨rfl, hb1⟩
  have HB := Lib.hid hb1
  clear hb1
  go_wp2_with (with_reducible refine wpList_buildTo rfl 155 _ rfl (some 2) rfl (hashL firstS 0#64 ByteArray.empty).toArray ?h1 ?_)
  case h1 => kernel_rfl
  go_ret
  have hs : (w1.alloc (.cells (hashL firstS 0#64 ByteArray.empty).toArray 155)).heap.size - 1 = w1.heap.size := by simp
  have hr := RowAt.new w1 (hashL firstS 0#64 ByteArray.empty).toArray 155 (0, 0)
  refine ⟨by rw [hs]; rfl, ?_, by have := HB.out.size; simp; omega, below_alloc' HB.out _⟩
  rw [hs]
  exact ⟨ByteArray.empty, Is.empty, rfl, hr⟩

theorem hash_next (t u : List UInt8) : mixK (mixK firstS t (t.length / 64)) (restS t ++ u) ((restS t ++ u).length / 64) = mixK firstS (t ++ u) ((t ++ u).length / 64) ∧ restS (restS t ++ u) = restS (t ++ u) := mix_more firstS t u
set_option maxRecDepth 100000 in
set_option maxHeartbeats 2000000 in
theorem HAdd_walk (b : Nat) (t : List UInt8) (text : ByteArray) (htx : text.size ≤ 140737488351232) (w : World) (h : HashAt w b t) :
    Calls Try.prog 120 #[.pointer (some ⟨b, 0, none⟩), .string text] w fun e w' => e = .returned (.tuple #[]) ∧ HashAt w' b (t ++ text.data.toList) ∧ Only b w w' := by
  obtain ⟨r, hr, hp⟩ := h
  have hrz : r.size ≤ 64 := by have := restS_length t; rw [hr.size]; omega
  have hov : r.size + text.size ≤ 9223372036854775807 := by omega
  have c8 := hp.n_cell
  have f8 := hp.free 8
  have HT := Lib.hid (show text.data.toList.length = text.size by rw [Array.length_toList]; rfl)
  have hn1 : (BitVec.ofNat 64 t.length) + BitVec.ofNat 64 text.size = BitVec.ofNat 64 (t ++ text.data.toList).length := by
    rw [List.length_append, HT.out, BitVec.ofNat_add]
  have hI : Is (r ++ text) (restS t ++ text.data.toList) := hr.append (Is.self text)
  obtain ⟨hx1, hx2⟩ := hash_next t text.data.toList
  obtain ⟨S, hS⟩ : ∃ S, S = mixK firstS t (t.length / 64) := ⟨_, rfl⟩
  obtain ⟨V, hV⟩ : ∃ V, V = mixK S (r ++ text).data.toList ((r ++ text).size / 64) := ⟨_, rfl⟩
  obtain ⟨r2, hr2⟩ : ∃ r2, Is r2 (restS (r ++ text).data.toList) := ⟨_, Is.of _⟩
  have HVT := Lib.hid (show V = mixK firstS (t ++ text.data.toList) ((t ++ text.data.toList).length / 64) by rw [hV, hS, hI.size, hI.out, hx1])
  have HR2T := Lib.hid (show Is r2 (restS (t ++ text.data.toList)) by rw [hI.out, hx2] at hr2; exact hr2)
  rw [← hS] at hp
  have HLS := Lib.hid hp.1
  have HLV := Lib.hid (show V.length = 8 by rw [hV, mixK_length]; exact hp.1)
  obtain ⟨n, hn⟩ : ∃ n, n = BitVec.ofNat 64 t.length := ⟨_, rfl⟩
  rw [← hn] at hp c8 hn1
  obtain ⟨m, hm⟩ : ∃ m, m = n + BitVec.ofNat 64 text.size := ⟨_, rfl⟩
  rw [← hm] at hn1
  have HM := Lib.hid hm
  have HP := Lib.hid (hp.setN m)
  have HO := Lib.hid ((Only.refl b w).setCell (p := ⟨b, 8, none⟩) rfl (.int .u64 (bvi m)))
  have HN1 := Lib.hid hn1
  have HV := Lib.hid hV
  have HR2 := Lib.hid hr2
  clear hr hp hn1 hI hx1 hx2 hS hV hr2 hn hm
  go_enter Try.func120, Try.ntmps120
  go_wp2_with fail
  rw [← HM.out]
  clear c8 f8
  generalize w.setCell ⟨b, 8, none⟩ (.int .u64 (bvi m)) = w1 at HP HO ⊢
  refine region_table (by kernel_rfl) [15, 16, 17, 18, 19, 20, 21, 22, 23, 24, 25, 26, 27, 14, 28, 29, 30, 31, 32, 33]
    (fun i x_ => match i with
      | 0 => x_ = .pointer (some ⟨b, 0, none⟩)
      | 1 => x_ = .pointer (some ⟨b, 0, none⟩)
      | 2 => x_ = .pointer (some ⟨b, 0, none⟩)
      | 3 => x_ = .pointer (some ⟨b, 0, none⟩)
      | 4 => x_ = .pointer (some ⟨b, 0, none⟩)
      | 5 => x_ = .agg (words S).toArray
      | 6 => x_ = .pointer (some ⟨b, 0, none⟩)
      | 7 => x_ = .pointer (some ⟨b, 0, none⟩)
      | 8 => x_ = .pointer (some ⟨b, 9, none⟩)
      | 9 => x_ = .string r
      | 10 => x_ = .string text
      | 11 => x_ = .string (r ++ text)
      | 12 => x_ = .tuple #[.agg (words V).toArray, .string r2]
      | 13 => x_ = .tuple #[.agg (words V).toArray, .string r2]
      | 14 => x_ = .agg (words V).toArray
      | 15 => x_ = .string r2
      | 16 => x_ = .pointer (some ⟨b, 0, none⟩)
      | 17 => x_ = .pointer (some ⟨b, 0, none⟩)
      | 18 => True
      | 19 => x_ = .pointer (some ⟨b, 0, none⟩)
      | 20 => x_ = .pointer (some ⟨b, 9, none⟩)
      | 21 => True
      | _ => True) (fun L _ w' => Only b w1 w' ∧ HashIs w' b (if L 18 = true then V else S) m (if L 21 = true then r2 else r) ∧ (L 18 = true → L 5 = true) ∧ (L 21 = true → L 9 = true)) (by kernel_rfl) (by kernel_rfl) rfl (by kernel_rfl) (⟨(Only.refl b w1).drew, HP.out.drew, (fun h => by cases h), (fun h => by cases h)⟩) ?_ ?_
  · refine StepsOk.cons ?_ (StepsOk.cons ?_ (StepsOk.cons ?_ (StepsOk.cons ?_ (StepsOk.cons ?_ (StepsOk.cons ?_ (StepsOk.cons ?_ (StepsOk.cons ?_ (StepsOk.cons ?_ (StepsOk.cons ?_ (StepsOk.cons ?_ (StepsOk.cons ?_ (StepsOk.cons ?_ (StepsOk.cons ?_ (StepsOk.cons ?_ (StepsOk.cons ?_ (StepsOk.cons ?_ (StepsOk.cons ?_ (StepsOk.cons ?_ (StepsOk.cons ?_ (StepsOk.cons ?_ (StepsOk.cons ?_ StepsOk.nil)))))))))))))))))))))
    · intro L a w4 Kx hl hsz hs ht hr he hK
      refine step_plain rfl ?_
      have h0 : a.tmps.getD 0 undef = .pointer (some ⟨b, 0, none⟩) := (hs 0 (by decide)).trans rfl
      go_simp
      exact hK _ _ rfl (by simpa using hr)
    · intro L a w4 Kx hl hsz hs ht hr he hK
      refine step_plain rfl ?_
      have h0 : a.tmps.getD 0 undef = .pointer (some ⟨b, 0, none⟩) := (hs 0 (by decide)).trans rfl
      go_simp
      exact hK _ _ rfl (by simpa using hr)
    · intro L a w4 Kx hl hsz hs ht hr he hK
      refine step_plain rfl ?_
      have h0 : a.tmps.getD 0 undef = .pointer (some ⟨b, 0, none⟩) := (hs 0 (by decide)).trans rfl
      go_simp
      exact hK _ _ rfl (by simpa using hr)
    · intro L a w4 Kx hl hsz hs ht hr he hK
      refine step_plain rfl ?_
      have h17 : a.tmps.getD 17 undef = .pointer (some ⟨b, 0, none⟩) := ht 2 (he 2 (by kernel_rfl)) 17 rfl
      go_simp
      exact hK _ _ rfl (by simpa using hr)
    · intro L a w4 Kx hl hsz hs ht hr he hK
      refine step_plain rfl ?_
      have h18 : a.tmps.getD 18 undef = .pointer (some ⟨b, 0, none⟩) := ht 3 (he 3 (by kernel_rfl)) 18 rfl
      go_simp
      exact hK _ _ rfl (by simpa using hr)
    · intro L a w4 Kx hl hsz hs ht hr he hK
      refine step_plain rfl ?_
      have h19 : a.tmps.getD 19 undef = .pointer (some ⟨b, 0, none⟩) := ht 4 (he 4 (by kernel_rfl)) 19 rfl
      have hx : L 18 = false := by
        cases hy : L 18 with
        | false => rfl
        | true => have := hr.2.2.1 hy; rw [hl] at this; cases this
      have hr2 : HashIs w4 b S m (if L 21 = true then r2 else r) := by have := hr.2.1; rwa [hx] at this
      refine wp_load_mid 152 _ rfl b 0 h19 (words S) _ hr2.mid Try.underlying152 rfl (w8_info' _ HLS.out) (hK _ _ rfl ⟨hr.1, by simpa using hr.2.1, fun _ => ?_, by simpa using hr.2.2.2⟩)
      show (L 5 || true) = true
      rw [Bool.or_true]
    · intro L a w4 Kx hl hsz hs ht hr he hK
      refine step_plain rfl ?_
      have h0 : a.tmps.getD 0 undef = .pointer (some ⟨b, 0, none⟩) := (hs 0 (by decide)).trans rfl
      go_simp
      exact hK _ _ rfl (by simpa using hr)
    · intro L a w4 Kx hl hsz hs ht hr he hK
      refine step_plain rfl ?_
      have h21 : a.tmps.getD 21 undef = .pointer (some ⟨b, 0, none⟩) := ht 6 (he 6 (by kernel_rfl)) 21 rfl
      go_simp
      exact hK _ _ rfl (by simpa using hr)
    · intro L a w4 Kx hl hsz hs ht hr he hK
      refine step_plain rfl ?_
      have h22 : a.tmps.getD 22 undef = .pointer (some ⟨b, 0, none⟩) := ht 7 (he 7 (by kernel_rfl)) 22 rfl
      go_simp
      exact hK _ _ rfl (by simpa using hr)
    · intro L a w4 Kx hl hsz hs ht hr he hK
      refine step_plain rfl ?_
      have h23 : a.tmps.getD 23 undef = .pointer (some ⟨b, 9, none⟩) := ht 8 (he 8 (by kernel_rfl)) 23 rfl
      have hx : L 21 = false := by
        cases hy : L 21 with
        | false => rfl
        | true => have := hr.2.2.2 hy; rw [hl] at this; cases this
      have hr2 : HashIs w4 b (if L 18 = true then V else S) m r := by have := hr.2.1; rwa [hx] at this
      have c9 := hr2.rest_cell
      go_simp
      refine hK _ _ rfl ⟨hr.1, by simpa using hr.2.1, by simpa using hr.2.2.1, fun _ => ?_⟩
      show (L 9 || true) = true
      rw [Bool.or_true]
    · intro L a w4 Kx hl hsz hs ht hr he hK
      refine step_plain rfl ?_
      have h1 : a.tmps.getD 1 undef = .string text := (hs 1 (by decide)).trans rfl
      go_simp
      exact hK _ _ rfl (by simpa using hr)
    · intro L a w4 Kx hl hsz hs ht hr he hK
      refine step_plain rfl ?_
      have h24 : a.tmps.getD 24 undef = .string r := ht 9 (he 9 (by kernel_rfl)) 24 rfl
      have h25 : a.tmps.getD 25 undef = .string text := ht 10 (he 10 (by kernel_rfl)) 25 rfl
      have hov2 : ¬ 9223372036854775807 < r.size + text.size := by omega
      go_simp
      exact hK _ _ rfl (by simpa using hr)
    · intro L a w4 Kx hl hsz hs ht hr he hK
      refine step_plain rfl ?_
      have h20 : a.tmps.getD 20 undef = .agg (words S).toArray := ht 5 (he 5 (by kernel_rfl)) 20 rfl
      have h26 : a.tmps.getD 26 undef = .string (r ++ text) := ht 11 (he 11 (by kernel_rfl)) 26 rfl
      go_simp
      refine (mix_walk S HLS.out (r ++ text) V HV.out r2 HR2.out _).mono ?_
      rintro e w5 ⟨rfl, hb5⟩
      exact hK _ _ rfl (by simpa using (show Only b w1 w5 ∧ HashIs w5 b (if L 18 = true then V else S) m (if L 21 = true then r2 else r) ∧ (L 18 = true → L 5 = true) ∧ (L 21 = true → L 9 = true) from ⟨hr.1.trans (Only.of_below hb5), hr.2.1.below hb5 hr.2.1.lt, hr.2.2.1, hr.2.2.2⟩))
    · intro L a w4 Kx hl hsz hs ht hr he hK
      refine step_plain rfl ?_
      have h27 : a.tmps.getD 27 undef = .tuple #[.agg (words V).toArray, .string r2] := ht 12 (he 12 (by kernel_rfl)) 27 rfl
      go_simp
      exact hK _ _ rfl (by simpa using hr)
    · intro L a w4 Kx hl hsz hs ht hr he hK
      refine step_plain rfl ?_
      have h14 : a.tmps.getD 14 undef = .tuple #[.agg (words V).toArray, .string r2] := ht 13 (he 13 (by kernel_rfl)) 14 rfl
      go_simp
      exact hK _ _ rfl (by simpa using hr)
    · intro L a w4 Kx hl hsz hs ht hr he hK
      refine step_plain rfl ?_
      have h14 : a.tmps.getD 14 undef = .tuple #[.agg (words V).toArray, .string r2] := ht 13 (he 13 (by kernel_rfl)) 14 rfl
      go_simp
      exact hK _ _ rfl (by simpa using hr)
    · intro L a w4 Kx hl hsz hs ht hr he hK
      refine step_plain rfl ?_
      have h15 : a.tmps.getD 15 undef = .pointer (some ⟨b, 0, none⟩) := ht 0 (he 0 (by kernel_rfl)) 15 rfl
      go_simp
      exact hK _ _ rfl (by simpa using hr)
    · intro L a w4 Kx hl hsz hs ht hr he hK
      refine step_plain rfl ?_
      have h30 : a.tmps.getD 30 undef = .pointer (some ⟨b, 0, none⟩) := ht 16 (he 16 (by kernel_rfl)) 30 rfl
      go_simp
      exact hK _ _ rfl (by simpa using hr)
    · intro L a w4 Kx hl hsz hs ht hr he hK
      refine step_plain rfl ?_
      have h31 : a.tmps.getD 31 undef = .pointer (some ⟨b, 0, none⟩) := ht 17 (he 17 (by kernel_rfl)) 31 rfl
      have h28 : a.tmps.getD 28 undef = .agg (words V).toArray := ht 14 (he 14 (by kernel_rfl)) 28 rfl
      have hr2 : HashIs w4 b S m (if L 21 = true then r2 else r) := by have := hr.2.1; rwa [hl] at this
      refine wp_store_mid 152 _ _ rfl b 0 (words V).toArray h31 h28 (by rw [words_size, HLV.out]; exact hr2.there) (w8_info _ HLV.out) (wordsS_cells _) (hK _ _ trivial ⟨Only.setCells _ _ _ hr.1, ?_, fun _ => ?_, ?_⟩)
      · show HashIs _ b (if (L 18 || true) = true then _ else _) m (if (L 21 || false) = true then _ else _)
        rw [Bool.or_true, if_pos rfl, Bool.or_false]
        exact hr2.setS V HLV.out
      · show (L 5 || false) = true
        rw [he 5 (by kernel_rfl)]; rfl
      · simpa using hr.2.2.2
    · intro L a w4 Kx hl hsz hs ht hr he hK
      refine step_plain rfl ?_
      have h16 : a.tmps.getD 16 undef = .pointer (some ⟨b, 0, none⟩) := ht 1 (he 1 (by kernel_rfl)) 16 rfl
      go_simp
      exact hK _ _ rfl (by simpa using hr)
    · intro L a w4 Kx hl hsz hs ht hr he hK
      refine step_plain rfl ?_
      have h32 : a.tmps.getD 32 undef = .pointer (some ⟨b, 0, none⟩) := ht 19 (he 19 (by kernel_rfl)) 32 rfl
      go_simp
      exact hK _ _ rfl (by simpa using hr)
    · intro L a w4 Kx hl hsz hs ht hr he hK
      refine step_plain rfl ?_
      have h33 : a.tmps.getD 33 undef = .pointer (some ⟨b, 9, none⟩) := ht 20 (he 20 (by kernel_rfl)) 33 rfl
      have h29 : a.tmps.getD 29 undef = .string r2 := ht 15 (he 15 (by kernel_rfl)) 29 rfl
      have hr2 : HashIs w4 b (if L 18 = true then V else S) m r := by have := hr.2.1; rwa [hl] at this
      have c9 := hr2.rest_cell
      have f9 := hr2.free 9
      go_simp
      refine hK undef _ trivial ⟨hr.1.setCell (p := ⟨b, 9, none⟩) rfl _, ?_, ?_, fun _ => ?_⟩
      · show HashIs _ b (if (L 18 || false) = true then _ else _) m (if (L 21 || true) = true then _ else _)
        rw [Bool.or_true, if_pos rfl, Bool.or_false]
        exact hr2.setR r2
      · simpa using hr.2.2.1
      · show (L 9 || false) = true
        rw [he 9 (by kernel_rfl)]; rfl
  · intro f L w4 hf hall hr
    have hr2 : HashIs w4 b V m r2 := by have := hr.2.1; rwa [hall 18 (by decide), if_pos rfl, hall 21 (by decide), if_pos rfl] at this
    have P1 := Lib.hid hr2
    have P2 := Lib.hid (HO.out.trans hr.1)
    simp only [List.foldl, Act.put, List.setIfInBounds_toArray, List.set_cons_zero, List.set_cons_succ]
    clear hf
    generalize f 15 = z15
    generalize f 16 = z16
    generalize f 17 = z17
    generalize f 18 = z18
    generalize f 19 = z19
    generalize f 20 = z20
    generalize f 21 = z21
    generalize f 22 = z22
    generalize f 23 = z23
    generalize f 24 = z24
    generalize f 25 = z25
    generalize f 26 = z26
    generalize f 27 = z27
    generalize f 14 = z14
    generalize f 28 = z28
    generalize f 29 = z29
    generalize f 30 = z30
    generalize f 31 = z31
    generalize f 32 = z32
    generalize f 33 = z33
    clear hall hr hr2
    go_wp2_with fail
    go_end0
    exact ⟨rfl, ⟨r2, HR2T.out, by rw [← HVT.out, ← HN1.out]; exact P1.out⟩, P2.out⟩

theorem Pad_as (n : BitVec 64) (q : ByteArray) (hq : Is q (padL n)) (w : World) : Calls Try.prog 129 #[.int .u64 (bvi n)] w fun e w' => e = .returned (.string q) ∧ Below w.heap.size w w' :=
  (Pad_walk n w).mono fun e w' ⟨r, h1, h2, h3⟩ => ⟨by rw [h1, h2.inj hq], h3⟩
theorem High_as (x : BitVec 64) (n : Int) (q : ByteArray) (hq : Is q (highL x (cut n))) (w : World) : Calls Try.prog 44 #[.int .u64 (bvi x), .int .i64 n] w fun e w' => e = .returned (.string q) ∧ Below w.heap.size w w' :=
  (High_walk x n w).mono fun e w' ⟨r, h1, h2, h3⟩ => ⟨by rw [h1, h2.inj hq], h3⟩
theorem list8 (V : List (BitVec 32)) (h : V.length = 8) : ∃ a b c d e f g i, V = [a, b, c, d, e, f, g, i] := by
  match V, h with
  | [a, b, c, d, e, f, g, i], _ => exact ⟨a, b, c, d, e, f, g, i, rfl⟩
theorem state_index (V : List (BitVec 32)) (h : V.length = 8) (k : Nat) (hk : k < 8) (wx : World) : (Instr.index 152 (.agg (words V).toArray) (.int .i64 k)).run Try.prog wx = .ok (.int .u32 (bvi (V.getD k 0))) wx := by
  obtain ⟨a, b, c, d, e, f, g, i, rfl⟩ := list8 V h
  obtain rfl | rfl | rfl | rfl | rfl | rfl | rfl | rfl : k = 0 ∨ k = 1 ∨ k = 2 ∨ k = 3 ∨ k = 4 ∨ k = 5 ∨ k = 6 ∨ k = 7 := by omega
  all_goals kernel_rfl
set_option maxRecDepth 100000 in
set_option maxHeartbeats 2000000 in
theorem HSum_walk (b : Nat) (t : List UInt8) (q : ByteArray) (hq : Is q (shaL t)) (w : World) (h : HashAt w b t) :
    Calls Try.prog 121 #[.pointer (some ⟨b, 0, none⟩)] w fun e w' => e = .returned (.string q) ∧ Below w.heap.size w w' := by
  obtain ⟨r, hr, hp⟩ := h
  have hrz : r.size ≤ 64 := by have := restS_length t; rw [hr.size]; omega
  obtain ⟨n, hn⟩ : ∃ n, n = BitVec.ofNat 64 t.length := ⟨_, rfl⟩
  obtain ⟨pd, hpd⟩ : ∃ pd, Is pd (padL n) := ⟨_, Is.of _⟩
  have hpz : pd.size ≤ 73 := by have := zerosS_lt n; rw [hpd.size, padL_length]; omega
  have hI : Is (r ++ pd) (restS t ++ padL n) := hr.append hpd
  obtain ⟨hx1, _⟩ := hash_next t (padL n)
  obtain ⟨S, hS⟩ : ∃ S, S = mixK firstS t (t.length / 64) := ⟨_, rfl⟩
  obtain ⟨V, hV⟩ : ∃ V, V = mixK S (r ++ pd).data.toList ((r ++ pd).size / 64) := ⟨_, rfl⟩
  obtain ⟨r2, hr2⟩ : ∃ r2, Is r2 (restS (r ++ pd).data.toList) := ⟨_, Is.of _⟩
  have HQ := Lib.hid (show Is q (bytesS V 8) by
    have : V = mixK firstS (allS t) ((allS t).length / 64) := by rw [hV, hS, hI.size, hI.out, hx1, hn]; rfl
    rw [this]; exact hq)
  rw [← hS, ← hn] at hp
  have HLS := Lib.hid hp.1
  have HLV := Lib.hid (show V.length = 8 by rw [hV, mixK_length]; exact hp.1)
  have HP := Lib.hid hp
  have hblt := hp.lt
  have HV := Lib.hid hV
  have HR2 := Lib.hid hr2
  have HPD := Lib.hid hpd
  clear hr hn hpd hI hx1 hS hV hr2 hp hq
  go_enter Try.func121, Try.ntmps121
  go_wp2_with fail
  refine region_table (by kernel_rfl) [9, 10, 11, 12, 13, 14, 15, 16, 17, 18, 19, 20, 21, 22, 23, 8, 24, 25, 3, 4]
    (fun i x_ => match i with
      | 0 => x_ = .pointer (some ⟨b, 0, none⟩)
      | 1 => x_ = .pointer (some ⟨b, 0, none⟩)
      | 2 => x_ = .pointer (some ⟨b, 0, none⟩)
      | 3 => x_ = .agg (words S).toArray
      | 4 => x_ = .pointer (some ⟨b, 0, none⟩)
      | 5 => x_ = .pointer (some ⟨b, 0, none⟩)
      | 6 => x_ = .pointer (some ⟨b, 9, none⟩)
      | 7 => x_ = .string r
      | 8 => x_ = .pointer (some ⟨b, 0, none⟩)
      | 9 => x_ = .pointer (some ⟨b, 0, none⟩)
      | 10 => x_ = .pointer (some ⟨b, 8, none⟩)
      | 11 => x_ = .int .u64 (bvi (n))
      | 12 => x_ = .string pd
      | 13 => x_ = .string (r ++ pd)
      | 14 => x_ = .tuple #[.agg (words V).toArray, .string r2]
      | 15 => x_ = .tuple #[.agg (words V).toArray, .string r2]
      | 16 => x_ = .agg (words V).toArray
      | 17 => x_ = .string r2
      | 18 => True
      | 19 => True
      | 20 => x_ = .string r2
      | _ => True) (fun L sl w' => Below w.heap.size w w' ∧ (L 18 = true → ∃ g, sl 3 = .pointer (some ⟨g, 0, none⟩) ∧ w.heap.size ≤ g ∧ RowAt w' g (words (if L 19 = true then V else zero8)).toArray 152 (0, 0)) ∧ (L 19 = true → L 18 = true)) (by kernel_rfl) (by kernel_rfl) rfl (by kernel_rfl) (⟨(Below.refl _ _).drew, (fun h => by cases h), (fun h => by cases h)⟩) ?_ ?_
  · refine StepsOk.cons ?_ (StepsOk.cons ?_ (StepsOk.cons ?_ (StepsOk.cons ?_ (StepsOk.cons ?_ (StepsOk.cons ?_ (StepsOk.cons ?_ (StepsOk.cons ?_ (StepsOk.cons ?_ (StepsOk.cons ?_ (StepsOk.cons ?_ (StepsOk.cons ?_ (StepsOk.cons ?_ (StepsOk.cons ?_ (StepsOk.cons ?_ (StepsOk.cons ?_ (StepsOk.cons ?_ (StepsOk.cons ?_ (StepsOk.cons ?_ (StepsOk.cons ?_ (StepsOk.cons ?_ StepsOk.nil))))))))))))))))))))
    · intro L a w4 Kx hl hsz hs ht hr he hK
      refine step_plain rfl ?_
      have h0 : a.tmps.getD 0 undef = .pointer (some ⟨b, 0, none⟩) := (hs 0 (by decide)).trans rfl
      go_simp
      exact hK _ _ rfl (by simpa [slot_ne] using hr)
    · intro L a w4 Kx hl hsz hs ht hr he hK
      refine step_plain rfl ?_
      have h9 : a.tmps.getD 9 undef = .pointer (some ⟨b, 0, none⟩) := ht 0 (he 0 (by kernel_rfl)) 9 rfl
      go_simp
      exact hK _ _ rfl (by simpa [slot_ne] using hr)
    · intro L a w4 Kx hl hsz hs ht hr he hK
      refine step_plain rfl ?_
      have h10 : a.tmps.getD 10 undef = .pointer (some ⟨b, 0, none⟩) := ht 1 (he 1 (by kernel_rfl)) 10 rfl
      go_simp
      exact hK _ _ rfl (by simpa [slot_ne] using hr)
    · intro L a w4 Kx hl hsz hs ht hr he hK
      refine step_plain rfl ?_
      have h11 : a.tmps.getD 11 undef = .pointer (some ⟨b, 0, none⟩) := ht 2 (he 2 (by kernel_rfl)) 11 rfl
      have hp := HP.out.below hr.1 hblt
      refine wp_load_mid 152 _ rfl b 0 h11 (words S) _ hp.mid Try.underlying152 rfl (w8_info' _ HLS.out) (hK _ _ rfl (by simpa [slot_ne] using hr))
    · intro L a w4 Kx hl hsz hs ht hr he hK
      refine step_plain rfl ?_
      have h0 : a.tmps.getD 0 undef = .pointer (some ⟨b, 0, none⟩) := (hs 0 (by decide)).trans rfl
      go_simp
      exact hK _ _ rfl (by simpa [slot_ne] using hr)
    · intro L a w4 Kx hl hsz hs ht hr he hK
      refine step_plain rfl ?_
      have h13 : a.tmps.getD 13 undef = .pointer (some ⟨b, 0, none⟩) := ht 4 (he 4 (by kernel_rfl)) 13 rfl
      go_simp
      exact hK _ _ rfl (by simpa [slot_ne] using hr)
    · intro L a w4 Kx hl hsz hs ht hr he hK
      refine step_plain rfl ?_
      have h14 : a.tmps.getD 14 undef = .pointer (some ⟨b, 0, none⟩) := ht 5 (he 5 (by kernel_rfl)) 14 rfl
      go_simp
      exact hK _ _ rfl (by simpa [slot_ne] using hr)
    · intro L a w4 Kx hl hsz hs ht hr he hK
      refine step_plain rfl ?_
      have h15 : a.tmps.getD 15 undef = .pointer (some ⟨b, 9, none⟩) := ht 6 (he 6 (by kernel_rfl)) 15 rfl
      have hp := HP.out.below hr.1 hblt
      have c9 := hp.rest_cell
      go_simp
      exact hK _ _ rfl (by simpa [slot_ne] using hr)
    · intro L a w4 Kx hl hsz hs ht hr he hK
      refine step_plain rfl ?_
      have h0 : a.tmps.getD 0 undef = .pointer (some ⟨b, 0, none⟩) := (hs 0 (by decide)).trans rfl
      go_simp
      exact hK _ _ rfl (by simpa [slot_ne] using hr)
    · intro L a w4 Kx hl hsz hs ht hr he hK
      refine step_plain rfl ?_
      have h17 : a.tmps.getD 17 undef = .pointer (some ⟨b, 0, none⟩) := ht 8 (he 8 (by kernel_rfl)) 17 rfl
      go_simp
      exact hK _ _ rfl (by simpa [slot_ne] using hr)
    · intro L a w4 Kx hl hsz hs ht hr he hK
      refine step_plain rfl ?_
      have h18 : a.tmps.getD 18 undef = .pointer (some ⟨b, 0, none⟩) := ht 9 (he 9 (by kernel_rfl)) 18 rfl
      go_simp
      exact hK _ _ rfl (by simpa [slot_ne] using hr)
    · intro L a w4 Kx hl hsz hs ht hr he hK
      refine step_plain rfl ?_
      have h19 : a.tmps.getD 19 undef = .pointer (some ⟨b, 8, none⟩) := ht 10 (he 10 (by kernel_rfl)) 19 rfl
      have hp := HP.out.below hr.1 hblt
      have c8 := hp.n_cell
      go_simp
      exact hK _ _ rfl (by simpa [slot_ne] using hr)
    · intro L a w4 Kx hl hsz hs ht hr he hK
      refine step_plain rfl ?_
      have h20 : a.tmps.getD 20 undef = .int .u64 (bvi (n)) := ht 11 (he 11 (by kernel_rfl)) 20 rfl
      go_simp
      refine (Pad_as n pd HPD.out _).mono ?_
      rintro e w5 ⟨rfl, hb5⟩
      exact hK _ _ rfl (by simpa [slot_ne] using (show Below w.heap.size w w5 ∧ (L 18 = true → ∃ g, slot a 3 = .pointer (some ⟨g, 0, none⟩) ∧ w.heap.size ≤ g ∧ RowAt w5 g (words (if L 19 = true then V else zero8)).toArray 152 (0, 0)) ∧ (L 19 = true → L 18 = true) from ⟨bthen hr.1 hb5, fun h => by obtain ⟨g, h3, hg, hrow⟩ := hr.2.1 h; exact ⟨g, h3, hg, hrow.below hb5 hrow.lt⟩, hr.2.2⟩))
    · intro L a w4 Kx hl hsz hs ht hr he hK
      refine step_plain rfl ?_
      have h16 : a.tmps.getD 16 undef = .string r := ht 7 (he 7 (by kernel_rfl)) 16 rfl
      have h21 : a.tmps.getD 21 undef = .string pd := ht 12 (he 12 (by kernel_rfl)) 21 rfl
      have hov2 : ¬ 9223372036854775807 < r.size + pd.size := by omega
      go_simp
      exact hK _ _ rfl (by simpa [slot_ne] using hr)
    · intro L a w4 Kx hl hsz hs ht hr he hK
      refine step_plain rfl ?_
      have h12 : a.tmps.getD 12 undef = .agg (words S).toArray := ht 3 (he 3 (by kernel_rfl)) 12 rfl
      have h22 : a.tmps.getD 22 undef = .string (r ++ pd) := ht 13 (he 13 (by kernel_rfl)) 22 rfl
      go_simp
      refine (mix_walk S HLS.out (r ++ pd) V HV.out r2 HR2.out _).mono ?_
      rintro e w5 ⟨rfl, hb5⟩
      exact hK _ _ rfl (by simpa [slot_ne] using (show Below w.heap.size w w5 ∧ (L 18 = true → ∃ g, slot a 3 = .pointer (some ⟨g, 0, none⟩) ∧ w.heap.size ≤ g ∧ RowAt w5 g (words (if L 19 = true then V else zero8)).toArray 152 (0, 0)) ∧ (L 19 = true → L 18 = true) from ⟨bthen hr.1 hb5, fun h => by obtain ⟨g, h3, hg, hrow⟩ := hr.2.1 h; exact ⟨g, h3, hg, hrow.below hb5 hrow.lt⟩, hr.2.2⟩))
    · intro L a w4 Kx hl hsz hs ht hr he hK
      refine step_plain rfl ?_
      have h23 : a.tmps.getD 23 undef = .tuple #[.agg (words V).toArray, .string r2] := ht 14 (he 14 (by kernel_rfl)) 23 rfl
      go_simp
      exact hK _ _ rfl (by simpa [slot_ne] using hr)
    · intro L a w4 Kx hl hsz hs ht hr he hK
      refine step_plain rfl ?_
      have h8 : a.tmps.getD 8 undef = .tuple #[.agg (words V).toArray, .string r2] := ht 15 (he 15 (by kernel_rfl)) 8 rfl
      go_simp
      exact hK _ _ rfl (by simpa [slot_ne] using hr)
    · intro L a w4 Kx hl hsz hs ht hr he hK
      refine step_plain rfl ?_
      have h8 : a.tmps.getD 8 undef = .tuple #[.agg (words V).toArray, .string r2] := ht 15 (he 15 (by kernel_rfl)) 8 rfl
      go_simp
      exact hK _ _ rfl (by simpa [slot_ne] using hr)
    · intro L a w4 Kx hl hsz hs ht hr he hK
      refine step_plain rfl ?_
      have hx : L 19 = false := by
        cases hy : L 19 with
        | false => rfl
        | true => have := hr.2.2 hy; rw [hl] at this; cases this
      go_simp
      refine hK _ _ trivial ⟨below_alloc' hr.1 _, fun _ => ⟨w4.heap.size, slot_out (by rw [hsz]; exact of_decide_eq_true (by kernel_rfl)), hr.1.size, ?_⟩, fun h => ?_⟩
      · show RowAt _ _ (words (if (L 19 || false) = true then _ else _)).toArray _ _
        rw [hx]
        exact RowAt.new w4 _ _ _
      · show (L 18 || true) = true
        rw [Bool.or_true]
    · intro L a w4 Kx hl hsz hs ht hr he hK
      refine step_plain rfl ?_
      have h24 : a.tmps.getD 24 undef = .agg (words V).toArray := ht 16 (he 16 (by kernel_rfl)) 24 rfl
      obtain ⟨g, h3, hg, hrow⟩ := hr.2.1 (he 18 (by kernel_rfl))
      rw [hl] at hrow
      refine wp_store_row 152 _ _ rfl g (words V).toArray h3 h24 152 _ hrow.out (w8_info _ HLV.out) (by rw [if_neg (by decide), words_size, words_size, HLV.out]; rfl) (wordsS_cells _) (hK _ _ trivial ⟨Go.Proofs.Ytfglhemmccihfaa.Below.setRow hr.1 hg _, fun _ => ⟨g, h3, hg, ?_⟩, fun _ => ?_⟩)
      · show RowAt _ _ (words (if (L 19 || true) = true then _ else _)).toArray _ _
        rw [Bool.or_true, if_pos rfl]
        exact hrow.setRow _
      · show (L 18 || false) = true
        rw [he 18 (by kernel_rfl)]; rfl
    · intro L a w4 Kx hl hsz hs ht hr he hK
      refine step_plain rfl ?_
      have h25 : a.tmps.getD 25 undef = .string r2 := ht 17 (he 17 (by kernel_rfl)) 25 rfl
      go_simp
      exact hK _ _ rfl (by simpa [slot_ne] using hr)
  · intro f L w4 hf hall hr
    obtain ⟨g, h3, hg, hrow⟩ := hr.2.1 (hall 18 (by decide))
    rw [hall 19 (by decide), if_pos rfl] at hrow
    have P1 := Lib.hid hrow
    have P2 := Lib.hid hr.1
    simp only [List.foldl, Act.put, List.setIfInBounds_toArray, List.set_cons_zero, List.set_cons_succ]
    rw [h3]
    clear hf h3
    generalize f 9 = z9
    generalize f 10 = z10
    generalize f 11 = z11
    generalize f 12 = z12
    generalize f 13 = z13
    generalize f 14 = z14
    generalize f 15 = z15
    generalize f 16 = z16
    generalize f 17 = z17
    generalize f 18 = z18
    generalize f 19 = z19
    generalize f 20 = z20
    generalize f 21 = z21
    generalize f 22 = z22
    generalize f 23 = z23
    generalize f 8 = z8
    generalize f 24 = z24
    generalize f 25 = z25
    generalize f 4 = z4
    clear hall hr hrow
    go_wp2_with (with_reducible refine wpList_load_row rfl 152 (.tmp 3) rfl g ?h1 152 (words V).toArray (0, 0) _ (P1.out.alloc _).out Try.underlying152 rfl ?h2 ?_)
    case h1 => rfl
    case h2 => exact w8_info _ HLV.out
    have hO := Lib.hid (isBuilder_new 95 5 (w := w4) (Nat.le_refl w4.heap.size))
    have HBB := Lib.hid (below_alloc' P2.out (.cells #[.pointer none, .slice none 0 0] 95))
    have zz : w4.heap.size ≤ (w4.alloc (.cells #[.pointer none, .slice none 0 0] 95)).heap.size := by simp
    have zw := P2.out.size
    generalize w4.alloc (.cells #[.pointer none, .slice none 0 0] 95) = w5 at hO HBB zz ⊢
    generalize w4.heap.size = bb at hO zz zw ⊢
    clear P1 P2
    go_loopw [27] (fun i wz => ∃ k : Nat, k ≤ 8 ∧ i = .int .i64 k ∧ Lib.IsBuilderF 95 5 bb bb (cells (bytesS V k)) wz ∧ Below w.heap.size w wz ∧ bb ≤ wz.heap.size) (fun i _ => 8 - (intOf i).toNat)
    case atStart => exact ⟨0, Nat.zero_le _, rfl, hO.out, HBB.out, zz⟩
    case round =>
      obtain ⟨k, hk, rfl, r1, r4, zz⟩ := hrel
      have R1 := Lib.hid r1
      have R4 := Lib.hid r4
      have HOL := Lib.hid (bytesS_length V k)
      clear r1 r4
      rcases Nat.lt_or_ge k 8 with hlt | hge
      · have hix := fun wx => state_index V HLV.out k hlt wx
        have HBS := Lib.hid (bytesS_succ V k)
        generalize V.getD k 0 = x at hix HBS
        go_wp2_with fail
        clear hix
        obtain ⟨rl, hrl⟩ : ∃ rl, Is rl (highL (BitVec.setWidth 64 x) 4) := ⟨_, Is.of _⟩
        have hzl : rl.size = 4 := by rw [hrl.size, highL_length]
        have HRL := Lib.hid hrl
        have HZL := Lib.hid hzl
        clear hrl hzl
        refine (High_as _ 4 rl HRL.out _).mono ?_
        rintro e w6 ⟨rfl, hb6⟩
        have h1 := isBuilder_below R1.out hb6
        have HB6 := Lib.hid hb6
        clear hb6
        go_wp2_with fail
        refine (WriteString_k 95 liesBuilder bb bb _ rl _ h1 (by rw [cells_length, HOL.out, HZL.out]; omega) (Nat.le_trans zz HB6.out.size)).mono ?_
        rintro e w7 ⟨rfl, h6, hb7, _⟩
        go_wp2_with fail
        go_roundw
        case rel =>
          refine ⟨k + 1, by omega, by go_num, ?_, (bthen R4.out HB6.out).trans (hb7.mono zw), Nat.le_trans zz (Nat.le_trans HB6.out.size hb7.size)⟩
          rw [HBS.out, cells_append, ← strCells_cells HRL.out]
          exact .inr h6
        case measure => simp [intOf]; omega
      · obtain rfl : k = 8 := by omega
        go_wp2_with fail
        refine (String_any_k 95 bb bb _ _ R1.out zz).mono ?_
        rintro e w6 ⟨rfl, _, hb6, _⟩
        go_wp2_with fail
        go_ret
        exact ⟨ret_val (congrArg Value.string (HQ.out.eq).symm), R4.out.trans (hb6.mono zw)⟩

set_option maxRecDepth 100000 in
set_option maxHeartbeats 1000000 in
theorem ShaSum_walk (s : ByteArray) (hs : s.size ≤ 140737488351232) (q : ByteArray) (hq : Is q (shaL s.data.toList)) (w : World) :
    Calls Try.prog 117 #[.string s] w fun e w' => e = .returned (.string q) ∧ Below w.heap.size w w' := by
  have HQ := Lib.hid hq
  clear hq
  go_enter Try.func117, Try.ntmps117
  go_wp2_with fail
  refine (ShaNew_walk _).mono ?_
  rintro e w1 ⟨rfl, h1, hz1, hb1⟩
  obtain ⟨b, hb⟩ : ∃ b, b = w1.heap.size - 1 := ⟨_, rfl⟩
  have hwb : w.heap.size ≤ b := by omega
  rw [← hb] at h1 ⊢
  have H1 := Lib.hid h1
  have HB1 := Lib.hid hb1
  clear hb h1 hb1
  go_wp2_with fail
  refine (HAdd_walk b [] s hs _ H1.out).mono ?_
  rintro e w2 ⟨rfl, h2, ho2⟩
  have H2 := Lib.hid (show HashAt w2 b s.data.toList from h2)
  have HB2 := Lib.hid (HB1.out.trans (ho2.below hwb HB1.out.size))
  clear h2 ho2
  go_wp2_with fail
  refine (HSum_walk b s.data.toList q HQ.out _ H2.out).mono ?_
  rintro e w3 ⟨rfl, hb3⟩
  go_wp2_with fail
  go_ret
  exact ⟨rfl, bthen HB2.out hb3⟩
end Go.Proofs.Ytfglhemmccihfaa

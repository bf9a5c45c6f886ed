/-
  The program's sha: Mix of a block of another size.
-/
import Derived.Test.YtdfgcjjaiggpkaaShaB
import Derived.Laws.ResultCell
namespace Go.Proofs.Ytdfgcjjaiggpkaa
open Go.RowKit

theorem results_cell_tmp_row {P : Program} {fn : Func} {p u : Tmp} {ty : TypeId} (h : fn.results = #[.cell p ty, .tmp u]) (tmps : Array Value) (w : World) (g : Nat) (t : TypeId) (cs : Array Value) (fr : Nat × Nat) (d : TypeDesc) (x : Value)
    (hp : tmps.getD p undef = .pointer (some ⟨g, 0, none⟩)) (hx : tmps.getD u undef = x) (hg : w.heap[g]? = some (.cells cs t fr))
    (hu : P.underlying ty = some d) (hd : (match d with | .struct _ | .array _ _ => true | _ => false) = true) (hi : (P.info? ty).map (·.size) = some cs.size) :
    (results fn tmps).run P w = .ok (.tuple #[.agg cs, x]) w := by
  rw [results_cell_tmp h, hp, hx]
  simp [asAddr, run_loadVar_row w g t ty cs fr d hg hu hd hi, Result.andThen]
def zero8 : List (BitVec 32) := List.replicate 8 0
set_option maxHeartbeats 1000000 in
theorem Mix_no (st : List (BitVec 32)) (_hl : st.length = 8) (s : ByteArray) (h : s.size ≠ 64) (w : World) :
    Calls Try.prog 18 #[.agg (words st).toArray, .string s] w fun e w' => e = .returned (.tuple #[.agg (words zero8).toArray, .int .i64 5]) ∧ Below w.heap.size w w' := by
  have hne : ((s.size : Int) != 64) = true := by simp; omega
  clear h
  go_enter Try.func18, Try.ntmps18
  go_wp2_with fail
  refine bodyPost_ret (v := .tuple #[.agg (words zero8).toArray, .int .i64 5]) (results_cell_tmp_row rfl _ _ (w.heap.size + 1) 27 (words zero8).toArray (0, 0) _ _ (by kernel_rfl) rfl ?_ Try.underlying27 rfl (by kernel_rfl)) rfl ⟨rfl, ((Below.refl _ _).alloc (Nat.le_refl _) _).alloc (by simp) _⟩
  have h9 := (RowAt.new (w.alloc (.cells (words st).toArray 27)) (words zero8).toArray 27 (0, 0)).out
  rw [show (w.alloc (.cells (words st).toArray 27)).heap.size = w.heap.size + 1 by simp] at h9
  exact h9
--TAIL

theorem w8_info (l : List (BitVec 32)) (h : l.length = 8) : (Try.prog.info? 27).map (·.size) = some (words l).toArray.size := by
  rw [words_size, h]; kernel_rfl
/-- The numbers of a block and of the rounds, under any names. -/
theorem schedule_as (s : ByteArray) (hs : s.size = 64) (W : List (BitVec 32)) (h : W = schedL s.data.toList) (w : World) :
    Calls Try.prog 42 #[.string s] w fun e w' => e = .returned (.agg (words W).toArray) ∧ Below w.heap.size w w' := by
  rw [h]
  exact schedule_walk s hs w
theorem table_as (T : List (BitVec 32)) (h : T = tableS) (w : World) : Calls Try.prog 43 #[] w fun e w' => e = .returned (.agg (words T).toArray) ∧ Below w.heap.size w w' := by
  have h0 : tableA = (words T).toArray := by rw [h, tableA]
  exact (table_walk w).mono fun e w' ⟨h1, h2⟩ => ⟨h1.trans (by rw [h0]), h2⟩
theorem round_as (s w T : List (BitVec 32)) (hT : T = tableS) (k : Nat) (x0 x1 x2 x3 x4 x5 x6 x7 kt wt : BitVec 32)
    (h0 : (roundsK s w k).getD 0 0 = x0) (h1 : (roundsK s w k).getD 1 0 = x1) (h2 : (roundsK s w k).getD 2 0 = x2) (h3 : (roundsK s w k).getD 3 0 = x3) (h4 : (roundsK s w k).getD 4 0 = x4) (h5 : (roundsK s w k).getD 5 0 = x5) (h6 : (roundsK s w k).getD 6 0 = x6) (h7 : (roundsK s w k).getD 7 0 = x7)
    (hk : T.getD k 0 = kt) (hw : w.getD k 0 = wt) (p q : BitVec 32) (hp : p = x7 + (rorI x4 6 ^^^ rorI x4 11 ^^^ rorI x4 25) + (x4 &&& x5 ^^^ ~~~x4 &&& x6) + kt + wt)
    (hq : q = (rorI x0 2 ^^^ rorI x0 13 ^^^ rorI x0 22) + (x0 &&& x1 ^^^ x0 &&& x2 ^^^ x1 &&& x2)) :
    roundsK s w (k + 1) = [p + q, x0, x1, x2, x3 + p, x4, x5, x6] := by
  have e1 : p = partP (roundsK s w k) (tableS.getD k 0) (w.getD k 0) := by
    rw [hp, ← hT, hk, hw, partP, h4, h5, h6, h7]; rfl
  have e2 : q = partQ (roundsK s w k) := by
    rw [hq, partQ, h0, h1, h2]; rfl
  rw [roundsK, roundS, ← e1, ← e2, h0, h1, h2, h3, h4, h5, h6]
set_option maxRecDepth 100000 in
set_option maxHeartbeats 1000000 in
theorem Mix_ok (st : List (BitVec 32)) (hl : st.length = 8) (s : ByteArray) (h : s.size = 64) (w : World) :
    Calls Try.prog 18 #[.agg (words st).toArray, .string s] w fun e w' => e = .returned (.tuple #[.agg (words (mixS st s.data.toList)).toArray, .int .i64 0]) ∧ Below w.heap.size w w' := by
  have hne : ((s.size : Int) != 64) = false := by rw [h]; rfl
  obtain ⟨W, hW⟩ : ∃ W, W = schedL s.data.toList := ⟨_, rfl⟩
  obtain ⟨T, hT⟩ : ∃ T, T = tableS := ⟨_, rfl⟩
  have HL := Lib.hid hl
  have HS := Lib.hid h
  have HW := Lib.hid hW
  have HT := Lib.hid hT
  have HLW := Lib.hid (show W.length = 64 by rw [hW]; exact schedK_length _ _)
  have HLT := Lib.hid (show T.length = 64 by rw [hT]; rfl)
  have HM := Lib.hid (show mixS st s.data.toList = addK st (roundsK st W 64) 8 by rw [hW]; rfl)
  clear h hl hW hT
  go_enter Try.func18, Try.ntmps18
  go_wp2_with fail
  refine (schedule_as s HS.out W HW.out _).mono ?_
  rintro e w1 ⟨rfl, hb1⟩
  have HB1 := Lib.hid hb1
  clear hb1
  go_wp2_with fail
  refine (table_as T HT.out _).mono ?_
  rintro e w2 ⟨rfl, hb2⟩
  have HB2 := Lib.hid hb2
  clear hb2
  go_upto_region 4 with (first | (with_reducible refine wpList_store_rowTo rfl 64 (.tmp 6) (.tmp 20) rfl rfl w2.heap.size (words W).toArray ?h1 ?h2 64 (words zero64).toArray ?h0 ?h3 ?h4 ?h5 ?_) | (with_reducible refine wpList_store_rowTo rfl 64 (.tmp 7) (.tmp 21) rfl rfl (w2.heap.size + 1) (words T).toArray ?g1 ?g2 64 (words zero64).toArray ?g0 ?g3 ?g4 ?g5 ?_))
  case h1 => rfl
  case h2 => rfl
  case h0 => exact ((RowAt.new w2 (words zero64).toArray 64 (0, 0)).alloc _).out
  case h3 => exact w64_info _ HLW.out
  case h4 => rw [words_size, words_size, HLW.out]; rfl
  case h5 => exact wordsS_cells _
  case g1 => rfl
  case g2 => rfl
  case g0 =>
    have h9 := (RowAt.setOther (RowAt.new (w2.alloc (.cells (words zero64).toArray 64)) (words zero64).toArray 64 (0, 0)) (g := w2.heap.size) (by simp) (words W).toArray).out
    rw [show (w2.alloc (.cells (words zero64).toArray 64)).heap.size = w2.heap.size + 1 by simp] at h9
    exact h9
  case g3 => exact w64_info _ HLT.out
  case g4 => rw [words_size, words_size, HLT.out]; rfl
  case g5 => exact wordsS_cells _
  rename_i hK
  have HKK := Lib.hid hK
  clear hK
  change Code.wp _ _ _ _ ((((w2.alloc (.cells (words zero64).toArray 64)).alloc (.cells (words zero64).toArray 64)).setRow w2.heap.size (words W).toArray).setRow (w2.heap.size + 1) (words T).toArray)
  obtain ⟨hWr, hTr, hSr, hRr, hB3, z1, z2⟩ : RowAt ((((w2.alloc (.cells (words zero64).toArray 64)).alloc (.cells (words zero64).toArray 64)).setRow w2.heap.size (words W).toArray).setRow (w2.heap.size + 1) (words T).toArray) w2.heap.size (words W).toArray 64 (0, 0) ∧
      RowAt ((((w2.alloc (.cells (words zero64).toArray 64)).alloc (.cells (words zero64).toArray 64)).setRow w2.heap.size (words W).toArray).setRow (w2.heap.size + 1) (words T).toArray) (w2.heap.size + 1) (words T).toArray 64 (0, 0) ∧
      RowAt ((((w2.alloc (.cells (words zero64).toArray 64)).alloc (.cells (words zero64).toArray 64)).setRow w2.heap.size (words W).toArray).setRow (w2.heap.size + 1) (words T).toArray) w.heap.size (words st).toArray 27 (0, 0) ∧
      RowAt ((((w2.alloc (.cells (words zero64).toArray 64)).alloc (.cells (words zero64).toArray 64)).setRow w2.heap.size (words W).toArray).setRow (w2.heap.size + 1) (words T).toArray) (w.heap.size + 1) (words zero8).toArray 27 (0, 0) ∧
      Below w.heap.size w ((((w2.alloc (.cells (words zero64).toArray 64)).alloc (.cells (words zero64).toArray 64)).setRow w2.heap.size (words W).toArray).setRow (w2.heap.size + 1) (words T).toArray) ∧ w.heap.size + 1 < w2.heap.size ∧
      w2.heap.size + 1 < ((((w2.alloc (.cells (words zero64).toArray 64)).alloc (.cells (words zero64).toArray 64)).setRow w2.heap.size (words W).toArray).setRow (w2.heap.size + 1) (words T).toArray).heap.size := by
    have a0 := HB1.out.size
    have a1 := HB2.out.size
    simp at a0
    have a2 : w.heap.size + 1 < w2.heap.size := by omega
    have n0 : ∀ Z : Array Value, (w2.alloc (.cells Z 64)).heap.size = w2.heap.size + 1 := fun Z => by simp
    have r1 := (RowAt.new w2 (words zero64).toArray 64 (0, 0)).alloc (.cells (words zero64).toArray 64)
    have r2 := RowAt.new (w2.alloc (.cells (words zero64).toArray 64)) (words zero64).toArray 64 (0, 0)
    rw [n0] at r2
    have s0 := ((RowAt.new w (words st).toArray 27 (0, 0)).alloc (.cells (words zero8).toArray 27))
    have s1 := RowAt.new (w.alloc (.cells (words st).toArray 27)) (words zero8).toArray 27 (0, 0)
    rw [show (w.alloc (.cells (words st).toArray 27)).heap.size = w.heap.size + 1 by simp] at s1
    have s0' := (s0.below HB1.out s0.lt).below HB2.out (by have := s0.lt; have := HB1.out.size; omega)
    have s1' := (s1.below HB1.out s1.lt).below HB2.out (by have := s1.lt; have := HB1.out.size; omega)
    refine ⟨(r1.setRow _).setOther (by omega) _, (r2.setOther (by omega) _).setRow _, (((s0'.alloc _).alloc _).setOther (by omega) _).setOther (by omega) _, (((s1'.alloc _).alloc _).setOther (by omega) _).setOther (by omega) _, ?_, a2, ?_⟩
    · have b0 : Below w.heap.size w w1 := Below.trans ((((Below.refl _ _).alloc (Nat.le_refl _) _).alloc (by simp) _)) (HB1.out.mono (by simp; omega))
      have b1 := bthen b0 HB2.out
      exact Go.Proofs.Ytdfgcjjaiggpkaa.Below.setRow (Go.Proofs.Ytdfgcjjaiggpkaa.Below.setRow (below_alloc' (below_alloc' b1 _) _) (by omega) _) (by omega) _
    · simp [World.setRow]
  generalize ((((w2.alloc (.cells (words zero64).toArray 64)).alloc (.cells (words zero64).toArray 64)).setRow w2.heap.size (words W).toArray).setRow (w2.heap.size + 1) (words T).toArray) = w3 at hWr hTr hSr hRr hB3 z2 ⊢
  generalize w2.heap.size = gw at hWr hTr z1 z2 ⊢
  have HWr := Lib.hid hWr
  have HTr := Lib.hid hTr
  have HSr := Lib.hid hSr
  have HRr := Lib.hid hRr
  have HB3 := Lib.hid hB3
  clear hWr hTr hSr hRr hB3 HB1 HB2
  have hK := HKK.out
  clear HKK
  go_wp2_with (first | (with_reducible refine wpList_load_row rfl 27 (.tmp 2) rfl w.heap.size ?h1 27 (words st).toArray (0, 0) _ HSr.out.out Try.underlying27 rfl ?h2 ?_) | (with_reducible refine wpList_store_rowTo rfl 27 (.tmp 8) (.tmp 22) rfl rfl w3.heap.size (words st).toArray ?g1 ?g2 27 (words zero8).toArray ?g0 ?g3 ?g4 ?g5 ?_))
  case h1 => rfl
  case h2 => exact w8_info _ HL.out
  case g1 => rfl
  case g2 => rfl
  case g0 => exact (RowAt.new w3 _ _ _).out
  case g3 => exact w8_info _ HL.out
  case g4 => rw [words_size, words_size, HL.out]; rfl
  case g5 => exact wordsS_cells _
  rw [World.setRow_alloc_new]
  have HV0 := Lib.hid (RowAt.new w3 (words st).toArray 27 (0, 0))
  have HWq := Lib.hid (HWr.out.alloc (.cells (words st).toArray 27))
  have HTq := Lib.hid (HTr.out.alloc (.cells (words st).toArray 27))
  have HSq := Lib.hid (HSr.out.alloc (.cells (words st).toArray 27))
  have HRq := Lib.hid (HRr.out.alloc (.cells (words st).toArray 27))
  have HB4 := Lib.hid (below_alloc' HB3.out (.cells (words st).toArray 27))
  generalize w3.alloc (.cells (words st).toArray 27) = w4 at HV0 HWq HTq HSq HRq HB4 ⊢
  generalize w3.heap.size = vb at z2 HV0 ⊢
  clear HWr HTr HSr HRr HB3
  generalize hsb : w.heap.size = sb at z1 HSq HRq HB4 ⊢
  have HSB := Lib.hid hsb
  clear hsb
  go_loopw [23] (fun i wr => ∃ k : Nat, k ≤ 64 ∧ i = .int .i64 k ∧ RowAt wr vb (words (roundsK st W k)).toArray 27 (0, 0) ∧ RowAt wr gw (words W).toArray 64 (0, 0) ∧ RowAt wr (gw + 1) (words T).toArray 64 (0, 0) ∧ RowAt wr sb (words st).toArray 27 (0, 0) ∧ RowAt wr (sb + 1) (words zero8).toArray 27 (0, 0) ∧ Below sb w wr) (fun i _ => 64 - (intOf i).toNat)
  case atStart => exact ⟨0, Nat.zero_le _, rfl, HV0.out, HWq.out, HTq.out, HSq.out, HRq.out, HB4.out⟩
  case round =>
    obtain ⟨k, hk, rfl, r1, r2, r3, r4, r5, r6⟩ := hrel
    have R1 := Lib.hid r1
    have R2 := Lib.hid r2
    have R3 := Lib.hid r3
    have R4 := Lib.hid r4
    have R5 := Lib.hid r5
    have R6 := Lib.hid r6
    have HLV := Lib.hid (roundsK_length st W HL.out k)
    clear r1 r2 r3 r4 r5 r6
    rcases Nat.lt_or_ge k 64 with hlt | hge
    · have HRD := Lib.hid (round_as st W T HT.out k)
      obtain ⟨x0, e0⟩ : ∃ x, (roundsK st W k).getD 0 0 = x := ⟨_, rfl⟩
      have c0 : wr.cell? ⟨vb, 0, none⟩ = some (.int .u32 (bvi x0)) := by rw [← e0]; exact R1.out.cell (wordsS_at _ 0 (by rw [HLV.out]; decide))
      have E0 := Lib.hid e0
      clear e0
      obtain ⟨x1, e1⟩ : ∃ x, (roundsK st W k).getD 1 0 = x := ⟨_, rfl⟩
      have c1 : wr.cell? ⟨vb, 1, none⟩ = some (.int .u32 (bvi x1)) := by rw [← e1]; exact R1.out.cell (wordsS_at _ 1 (by rw [HLV.out]; decide))
      have E1 := Lib.hid e1
      clear e1
      obtain ⟨x2, e2⟩ : ∃ x, (roundsK st W k).getD 2 0 = x := ⟨_, rfl⟩
      have c2 : wr.cell? ⟨vb, 2, none⟩ = some (.int .u32 (bvi x2)) := by rw [← e2]; exact R1.out.cell (wordsS_at _ 2 (by rw [HLV.out]; decide))
      have E2 := Lib.hid e2
      clear e2
      obtain ⟨x3, e3⟩ : ∃ x, (roundsK st W k).getD 3 0 = x := ⟨_, rfl⟩
      have c3 : wr.cell? ⟨vb, 3, none⟩ = some (.int .u32 (bvi x3)) := by rw [← e3]; exact R1.out.cell (wordsS_at _ 3 (by rw [HLV.out]; decide))
      have E3 := Lib.hid e3
      clear e3
      obtain ⟨x4, e4⟩ : ∃ x, (roundsK st W k).getD 4 0 = x := ⟨_, rfl⟩
      have c4 : wr.cell? ⟨vb, 4, none⟩ = some (.int .u32 (bvi x4)) := by rw [← e4]; exact R1.out.cell (wordsS_at _ 4 (by rw [HLV.out]; decide))
      have E4 := Lib.hid e4
      clear e4
      obtain ⟨x5, e5⟩ : ∃ x, (roundsK st W k).getD 5 0 = x := ⟨_, rfl⟩
      have c5 : wr.cell? ⟨vb, 5, none⟩ = some (.int .u32 (bvi x5)) := by rw [← e5]; exact R1.out.cell (wordsS_at _ 5 (by rw [HLV.out]; decide))
      have E5 := Lib.hid e5
      clear e5
      obtain ⟨x6, e6⟩ : ∃ x, (roundsK st W k).getD 6 0 = x := ⟨_, rfl⟩
      have c6 : wr.cell? ⟨vb, 6, none⟩ = some (.int .u32 (bvi x6)) := by rw [← e6]; exact R1.out.cell (wordsS_at _ 6 (by rw [HLV.out]; decide))
      have E6 := Lib.hid e6
      clear e6
      obtain ⟨x7, e7⟩ : ∃ x, (roundsK st W k).getD 7 0 = x := ⟨_, rfl⟩
      have c7 : wr.cell? ⟨vb, 7, none⟩ = some (.int .u32 (bvi x7)) := by rw [← e7]; exact R1.out.cell (wordsS_at _ 7 (by rw [HLV.out]; decide))
      have E7 := Lib.hid e7
      clear e7
      obtain ⟨kt, ek⟩ : ∃ x, T.getD k 0 = x := ⟨_, rfl⟩
      have ck : wr.cell? ⟨gw + 1, k, none⟩ = some (.int .u32 (bvi kt)) := by rw [← ek]; exact R3.out.cell (wordsS_at _ k (by rw [HLT.out]; exact hlt))
      obtain ⟨wt, ew⟩ : ∃ x, W.getD k 0 = x := ⟨_, rfl⟩
      have cw : wr.cell? ⟨gw, k, none⟩ = some (.int .u32 (bvi wt)) := by rw [← ew]; exact R2.out.cell (wordsS_at _ k (by rw [HLW.out]; exact hlt))
      have EK := Lib.hid ek
      have EW := Lib.hid ew
      clear ek ew
      have d5 : (k : Int) < 64 := by omega
      go_wp2_with fail
      refine region_table (by kernel_rfl) [26, 27, 28, 29, 10, 11]
        (fun i x_ => match i with
          | 0 => x_ = .pointer (some ⟨vb, 0, none⟩)
          | 1 => x_ = .int .u32 (bvi (x0))
          | 2 => x_ = .pointer (some ⟨vb, 4, none⟩)
          | 3 => x_ = .int .u32 (bvi (x4))
          | 4 => x_ = .int .u32 (bvi (x0))
          | 5 => x_ = .int .u32 (bvi (x4))
          | _ => True) (fun _ _ w' => w' = wr.drew) (by kernel_rfl) (by kernel_rfl) rfl (by kernel_rfl) (rfl) ?_ ?_
      · refine StepsOk.cons ?_ (StepsOk.cons ?_ (StepsOk.cons ?_ (StepsOk.cons ?_ (StepsOk.cons ?_ (StepsOk.cons ?_ StepsOk.nil)))))
        · intro L a w4 Kx hl hsz hs ht hr he hK
          refine step_plain rfl ?_
          have h8 : a.tmps.getD 8 undef = .pointer (some ⟨vb, 0, none⟩) := (hs 8 (by decide)).trans rfl
          subst hr
          go_simp
          exact hK _ _ rfl rfl
        · intro L a w4 Kx hl hsz hs ht hr he hK
          refine step_plain rfl ?_
          have h26 : a.tmps.getD 26 undef = .pointer (some ⟨vb, 0, none⟩) := ht 0 (he 0 (by kernel_rfl)) 26 rfl
          subst hr
          go_simp
          exact hK _ _ rfl rfl
        · intro L a w4 Kx hl hsz hs ht hr he hK
          refine step_plain rfl ?_
          have h8 : a.tmps.getD 8 undef = .pointer (some ⟨vb, 0, none⟩) := (hs 8 (by decide)).trans rfl
          subst hr
          go_simp
          exact hK _ _ rfl rfl
        · intro L a w4 Kx hl hsz hs ht hr he hK
          refine step_plain rfl ?_
          have h28 : a.tmps.getD 28 undef = .pointer (some ⟨vb, 4, none⟩) := ht 2 (he 2 (by kernel_rfl)) 28 rfl
          subst hr
          go_simp
          exact hK _ _ rfl rfl
        · intro L a w4 Kx hl hsz hs ht hr he hK
          refine step_plain rfl ?_
          have h27 : a.tmps.getD 27 undef = .int .u32 (bvi (x0)) := ht 1 (he 1 (by kernel_rfl)) 27 rfl
          subst hr
          go_simp
          exact hK _ _ rfl rfl
        · intro L a w4 Kx hl hsz hs ht hr he hK
          refine step_plain rfl ?_
          have h29 : a.tmps.getD 29 undef = .int .u32 (bvi (x4)) := ht 3 (he 3 (by kernel_rfl)) 29 rfl
          subst hr
          go_simp
          exact hK _ _ rfl rfl
      · intro f L w4 hf hall hr
        have h10 : f 10 = .int .u32 (bvi (x0)) := hf 4 (by decide) 10 rfl
        have h11 : f 11 = .int .u32 (bvi (x4)) := hf 5 (by decide) 11 rfl
        subst hr
        simp only [List.foldl, Act.put, List.setIfInBounds_toArray, List.set_cons_zero, List.set_cons_succ]
        rw [h10, h11]
        clear hf h10 h11
        generalize f 26 = z26
        generalize f 27 = z27
        generalize f 28 = z28
        generalize f 29 = z29
        go_wp2_with fail
        refine region_table (by kernel_rfl) [30, 31, 32, 33, 34, 35, 36, 37, 38, 39, 40, 41, 42, 43, 44, 45, 46, 47, 48, 49, 50, 51, 52, 53, 54, 55, 56, 57, 58, 59, 12]
          (fun i x_ => match i with
            | 0 => x_ = .pointer (some ⟨vb, 7, none⟩)
            | 1 => x_ = .int .u32 (bvi (x7))
            | 2 => x_ = .int .u32 (bvi (x4))
            | 3 => x_ = .int .u32 (bvi (rorI x4 6))
            | 4 => x_ = .int .u32 (bvi (x4))
            | 5 => x_ = .int .u32 (bvi (rorI x4 11))
            | 6 => x_ = .int .u32 (bvi ((rorI x4 6) ^^^ (rorI x4 11)))
            | 7 => x_ = .int .u32 (bvi (x4))
            | 8 => x_ = .int .u32 (bvi (rorI x4 25))
            | 9 => x_ = .int .u32 (bvi (((rorI x4 6) ^^^ (rorI x4 11)) ^^^ (rorI x4 25)))
            | 10 => x_ = .int .u32 (bvi (x7 + (((rorI x4 6) ^^^ (rorI x4 11)) ^^^ (rorI x4 25))))
            | 11 => x_ = .int .u32 (bvi (x4))
            | 12 => x_ = .pointer (some ⟨vb, 5, none⟩)
            | 13 => x_ = .int .u32 (bvi (x5))
            | 14 => x_ = .int .u32 (bvi (x4 &&& x5))
            | 15 => x_ = .int .u32 (bvi (x4))
            | 16 => x_ = .int .u32 (bvi (~~~x4))
            | 17 => x_ = .pointer (some ⟨vb, 6, none⟩)
            | 18 => x_ = .int .u32 (bvi (x6))
            | 19 => x_ = .int .u32 (bvi ((~~~x4) &&& x6))
            | 20 => x_ = .int .u32 (bvi ((x4 &&& x5) ^^^ ((~~~x4) &&& x6)))
            | 21 => x_ = .int .u32 (bvi ((x7 + (((rorI x4 6) ^^^ (rorI x4 11)) ^^^ (rorI x4 25))) + ((x4 &&& x5) ^^^ ((~~~x4) &&& x6))))
            | 22 => x_ = .int .i64 ((k : Int))
            | 23 => x_ = .pointer (some ⟨gw + 1, k, none⟩)
            | 24 => x_ = .int .u32 (bvi (kt))
            | 25 => x_ = .int .u32 (bvi (((x7 + (((rorI x4 6) ^^^ (rorI x4 11)) ^^^ (rorI x4 25))) + ((x4 &&& x5) ^^^ ((~~~x4) &&& x6))) + kt))
            | 26 => x_ = .int .i64 ((k : Int))
            | 27 => x_ = .pointer (some ⟨gw, k, none⟩)
            | 28 => x_ = .int .u32 (bvi (wt))
            | 29 => x_ = .int .u32 (bvi ((((x7 + (((rorI x4 6) ^^^ (rorI x4 11)) ^^^ (rorI x4 25))) + ((x4 &&& x5) ^^^ ((~~~x4) &&& x6))) + kt) + wt))
            | 30 => x_ = .int .u32 (bvi ((((x7 + (((rorI x4 6) ^^^ (rorI x4 11)) ^^^ (rorI x4 25))) + ((x4 &&& x5) ^^^ ((~~~x4) &&& x6))) + kt) + wt))
            | _ => True) (fun _ _ w' => w' = wr.drew.drew) (by kernel_rfl) (by kernel_rfl) rfl (by kernel_rfl) (rfl) ?_ ?_
        · refine StepsOk.cons ?_ (StepsOk.cons ?_ (StepsOk.cons ?_ (StepsOk.cons ?_ (StepsOk.cons ?_ (StepsOk.cons ?_ (StepsOk.cons ?_ (StepsOk.cons ?_ (StepsOk.cons ?_ (StepsOk.cons ?_ (StepsOk.cons ?_ (StepsOk.cons ?_ (StepsOk.cons ?_ (StepsOk.cons ?_ (StepsOk.cons ?_ (StepsOk.cons ?_ (StepsOk.cons ?_ (StepsOk.cons ?_ (StepsOk.cons ?_ (StepsOk.cons ?_ (StepsOk.cons ?_ (StepsOk.cons ?_ (StepsOk.cons ?_ (StepsOk.cons ?_ (StepsOk.cons ?_ (StepsOk.cons ?_ (StepsOk.cons ?_ (StepsOk.cons ?_ (StepsOk.cons ?_ (StepsOk.cons ?_ (StepsOk.cons ?_ StepsOk.nil))))))))))))))))))))))))))))))
          · intro L a w4 Kx hl hsz hs ht hr he hK
            refine step_plain rfl ?_
            have h8 : a.tmps.getD 8 undef = .pointer (some ⟨vb, 0, none⟩) := (hs 8 (by decide)).trans rfl
            subst hr
            go_simp
            exact hK _ _ rfl rfl
          · intro L a w4 Kx hl hsz hs ht hr he hK
            refine step_plain rfl ?_
            have h30 : a.tmps.getD 30 undef = .pointer (some ⟨vb, 7, none⟩) := ht 0 (he 0 (by kernel_rfl)) 30 rfl
            subst hr
            go_simp
            exact hK _ _ rfl rfl
          · intro L a w4 Kx hl hsz hs ht hr he hK
            refine step_plain rfl ?_
            have h11 : a.tmps.getD 11 undef = .int .u32 (bvi (x4)) := (hs 11 (by decide)).trans rfl
            subst hr
            go_simp
            exact hK _ _ rfl rfl
          · intro L a w4 Kx hl hsz hs ht hr he hK
            refine step_plain rfl ?_
            have h32 : a.tmps.getD 32 undef = .int .u32 (bvi (x4)) := ht 2 (he 2 (by kernel_rfl)) 32 rfl
            subst hr
            go_simp
            refine (Right_walk x4 6 _).mono ?_
            rintro e w5 ⟨rfl, rfl⟩
            exact hK _ _ rfl rfl
          · intro L a w4 Kx hl hsz hs ht hr he hK
            refine step_plain rfl ?_
            have h11 : a.tmps.getD 11 undef = .int .u32 (bvi (x4)) := (hs 11 (by decide)).trans rfl
            subst hr
            go_simp
            exact hK _ _ rfl rfl
          · intro L a w4 Kx hl hsz hs ht hr he hK
            refine step_plain rfl ?_
            have h34 : a.tmps.getD 34 undef = .int .u32 (bvi (x4)) := ht 4 (he 4 (by kernel_rfl)) 34 rfl
            subst hr
            go_simp
            refine (Right_walk x4 11 _).mono ?_
            rintro e w5 ⟨rfl, rfl⟩
            exact hK _ _ rfl rfl
          · intro L a w4 Kx hl hsz hs ht hr he hK
            refine step_plain rfl ?_
            have h33 : a.tmps.getD 33 undef = .int .u32 (bvi (rorI x4 6)) := ht 3 (he 3 (by kernel_rfl)) 33 rfl
            have h35 : a.tmps.getD 35 undef = .int .u32 (bvi (rorI x4 11)) := ht 5 (he 5 (by kernel_rfl)) 35 rfl
            subst hr
            go_simp
            exact hK _ _ rfl rfl
          · intro L a w4 Kx hl hsz hs ht hr he hK
            refine step_plain rfl ?_
            have h11 : a.tmps.getD 11 undef = .int .u32 (bvi (x4)) := (hs 11 (by decide)).trans rfl
            subst hr
            go_simp
            exact hK _ _ rfl rfl
          · intro L a w4 Kx hl hsz hs ht hr he hK
            refine step_plain rfl ?_
            have h37 : a.tmps.getD 37 undef = .int .u32 (bvi (x4)) := ht 7 (he 7 (by kernel_rfl)) 37 rfl
            subst hr
            go_simp
            refine (Right_walk x4 25 _).mono ?_
            rintro e w5 ⟨rfl, rfl⟩
            exact hK _ _ rfl rfl
          · intro L a w4 Kx hl hsz hs ht hr he hK
            refine step_plain rfl ?_
            have h36 : a.tmps.getD 36 undef = .int .u32 (bvi ((rorI x4 6) ^^^ (rorI x4 11))) := ht 6 (he 6 (by kernel_rfl)) 36 rfl
            have h38 : a.tmps.getD 38 undef = .int .u32 (bvi (rorI x4 25)) := ht 8 (he 8 (by kernel_rfl)) 38 rfl
            subst hr
            go_simp
            exact hK _ _ rfl rfl
          · intro L a w4 Kx hl hsz hs ht hr he hK
            refine step_plain rfl ?_
            have h31 : a.tmps.getD 31 undef = .int .u32 (bvi (x7)) := ht 1 (he 1 (by kernel_rfl)) 31 rfl
            have h39 : a.tmps.getD 39 undef = .int .u32 (bvi (((rorI x4 6) ^^^ (rorI x4 11)) ^^^ (rorI x4 25))) := ht 9 (he 9 (by kernel_rfl)) 39 rfl
            subst hr
            go_simp
            exact hK _ _ rfl rfl
          · intro L a w4 Kx hl hsz hs ht hr he hK
            refine step_plain rfl ?_
            have h11 : a.tmps.getD 11 undef = .int .u32 (bvi (x4)) := (hs 11 (by decide)).trans rfl
            subst hr
            go_simp
            exact hK _ _ rfl rfl
          · intro L a w4 Kx hl hsz hs ht hr he hK
            refine step_plain rfl ?_
            have h8 : a.tmps.getD 8 undef = .pointer (some ⟨vb, 0, none⟩) := (hs 8 (by decide)).trans rfl
            subst hr
            go_simp
            exact hK _ _ rfl rfl
          · intro L a w4 Kx hl hsz hs ht hr he hK
            refine step_plain rfl ?_
            have h42 : a.tmps.getD 42 undef = .pointer (some ⟨vb, 5, none⟩) := ht 12 (he 12 (by kernel_rfl)) 42 rfl
            subst hr
            go_simp
            exact hK _ _ rfl rfl
          · intro L a w4 Kx hl hsz hs ht hr he hK
            refine step_plain rfl ?_
            have h41 : a.tmps.getD 41 undef = .int .u32 (bvi (x4)) := ht 11 (he 11 (by kernel_rfl)) 41 rfl
            have h43 : a.tmps.getD 43 undef = .int .u32 (bvi (x5)) := ht 13 (he 13 (by kernel_rfl)) 43 rfl
            subst hr
            go_simp
            exact hK _ _ rfl rfl
          · intro L a w4 Kx hl hsz hs ht hr he hK
            refine step_plain rfl ?_
            have h11 : a.tmps.getD 11 undef = .int .u32 (bvi (x4)) := (hs 11 (by decide)).trans rfl
            subst hr
            go_simp
            exact hK _ _ rfl rfl
          · intro L a w4 Kx hl hsz hs ht hr he hK
            refine step_plain rfl ?_
            have h45 : a.tmps.getD 45 undef = .int .u32 (bvi (x4)) := ht 15 (he 15 (by kernel_rfl)) 45 rfl
            subst hr
            go_simp
            exact hK _ _ rfl rfl
          · intro L a w4 Kx hl hsz hs ht hr he hK
            refine step_plain rfl ?_
            have h8 : a.tmps.getD 8 undef = .pointer (some ⟨vb, 0, none⟩) := (hs 8 (by decide)).trans rfl
            subst hr
            go_simp
            exact hK _ _ rfl rfl
          · intro L a w4 Kx hl hsz hs ht hr he hK
            refine step_plain rfl ?_
            have h47 : a.tmps.getD 47 undef = .pointer (some ⟨vb, 6, none⟩) := ht 17 (he 17 (by kernel_rfl)) 47 rfl
            subst hr
            go_simp
            exact hK _ _ rfl rfl
          · intro L a w4 Kx hl hsz hs ht hr he hK
            refine step_plain rfl ?_
            have h46 : a.tmps.getD 46 undef = .int .u32 (bvi (~~~x4)) := ht 16 (he 16 (by kernel_rfl)) 46 rfl
            have h48 : a.tmps.getD 48 undef = .int .u32 (bvi (x6)) := ht 18 (he 18 (by kernel_rfl)) 48 rfl
            subst hr
            go_simp
            exact hK _ _ rfl rfl
          · intro L a w4 Kx hl hsz hs ht hr he hK
            refine step_plain rfl ?_
            have h44 : a.tmps.getD 44 undef = .int .u32 (bvi (x4 &&& x5)) := ht 14 (he 14 (by kernel_rfl)) 44 rfl
            have h49 : a.tmps.getD 49 undef = .int .u32 (bvi ((~~~x4) &&& x6)) := ht 19 (he 19 (by kernel_rfl)) 49 rfl
            subst hr
            go_simp
            exact hK _ _ rfl rfl
          · intro L a w4 Kx hl hsz hs ht hr he hK
            refine step_plain rfl ?_
            have h40 : a.tmps.getD 40 undef = .int .u32 (bvi (x7 + (((rorI x4 6) ^^^ (rorI x4 11)) ^^^ (rorI x4 25)))) := ht 10 (he 10 (by kernel_rfl)) 40 rfl
            have h50 : a.tmps.getD 50 undef = .int .u32 (bvi ((x4 &&& x5) ^^^ ((~~~x4) &&& x6))) := ht 20 (he 20 (by kernel_rfl)) 50 rfl
            subst hr
            go_simp
            exact hK _ _ rfl rfl
          · intro L a w4 Kx hl hsz hs ht hr he hK
            refine step_plain rfl ?_
            have h9 : a.tmps.getD 9 undef = .int .i64 ((k : Int)) := (hs 9 (by decide)).trans rfl
            subst hr
            go_simp
            exact hK _ _ rfl rfl
          · intro L a w4 Kx hl hsz hs ht hr he hK
            refine step_plain rfl ?_
            have h52 : a.tmps.getD 52 undef = .int .i64 ((k : Int)) := ht 22 (he 22 (by kernel_rfl)) 52 rfl
            have h7 : a.tmps.getD 7 undef = .pointer (some ⟨gw + 1, 0, none⟩) := (hs 7 (by decide)).trans rfl
            subst hr
            go_simp
            exact hK _ _ rfl rfl
          · intro L a w4 Kx hl hsz hs ht hr he hK
            refine step_plain rfl ?_
            have h53 : a.tmps.getD 53 undef = .pointer (some ⟨gw + 1, k, none⟩) := ht 23 (he 23 (by kernel_rfl)) 53 rfl
            subst hr
            go_simp
            exact hK _ _ rfl rfl
          · intro L a w4 Kx hl hsz hs ht hr he hK
            refine step_plain rfl ?_
            have h51 : a.tmps.getD 51 undef = .int .u32 (bvi ((x7 + (((rorI x4 6) ^^^ (rorI x4 11)) ^^^ (rorI x4 25))) + ((x4 &&& x5) ^^^ ((~~~x4) &&& x6)))) := ht 21 (he 21 (by kernel_rfl)) 51 rfl
            have h54 : a.tmps.getD 54 undef = .int .u32 (bvi (kt)) := ht 24 (he 24 (by kernel_rfl)) 54 rfl
            subst hr
            go_simp
            exact hK _ _ rfl rfl
          · intro L a w4 Kx hl hsz hs ht hr he hK
            refine step_plain rfl ?_
            have h9 : a.tmps.getD 9 undef = .int .i64 ((k : Int)) := (hs 9 (by decide)).trans rfl
            subst hr
            go_simp
            exact hK _ _ rfl rfl
          · intro L a w4 Kx hl hsz hs ht hr he hK
            refine step_plain rfl ?_
            have h56 : a.tmps.getD 56 undef = .int .i64 ((k : Int)) := ht 26 (he 26 (by kernel_rfl)) 56 rfl
            have h6 : a.tmps.getD 6 undef = .pointer (some ⟨gw, 0, none⟩) := (hs 6 (by decide)).trans rfl
            subst hr
            go_simp
            exact hK _ _ rfl rfl
          · intro L a w4 Kx hl hsz hs ht hr he hK
            refine step_plain rfl ?_
            have h57 : a.tmps.getD 57 undef = .pointer (some ⟨gw, k, none⟩) := ht 27 (he 27 (by kernel_rfl)) 57 rfl
            subst hr
            go_simp
            exact hK _ _ rfl rfl
          · intro L a w4 Kx hl hsz hs ht hr he hK
            refine step_plain rfl ?_
            have h55 : a.tmps.getD 55 undef = .int .u32 (bvi (((x7 + (((rorI x4 6) ^^^ (rorI x4 11)) ^^^ (rorI x4 25))) + ((x4 &&& x5) ^^^ ((~~~x4) &&& x6))) + kt)) := ht 25 (he 25 (by kernel_rfl)) 55 rfl
            have h58 : a.tmps.getD 58 undef = .int .u32 (bvi (wt)) := ht 28 (he 28 (by kernel_rfl)) 58 rfl
            subst hr
            go_simp
            exact hK _ _ rfl rfl
          · intro L a w4 Kx hl hsz hs ht hr he hK
            refine step_plain rfl ?_
            have h59 : a.tmps.getD 59 undef = .int .u32 (bvi ((((x7 + (((rorI x4 6) ^^^ (rorI x4 11)) ^^^ (rorI x4 25))) + ((x4 &&& x5) ^^^ ((~~~x4) &&& x6))) + kt) + wt)) := ht 29 (he 29 (by kernel_rfl)) 59 rfl
            subst hr
            go_simp
            exact hK _ _ rfl rfl
        · intro f L w4 hf hall hr
          have h12 : f 12 = .int .u32 (bvi ((((x7 + (((rorI x4 6) ^^^ (rorI x4 11)) ^^^ (rorI x4 25))) + ((x4 &&& x5) ^^^ ((~~~x4) &&& x6))) + kt) + wt)) := hf 30 (by decide) 12 rfl
          subst hr
          simp only [List.foldl, Act.put, List.setIfInBounds_toArray, List.set_cons_zero, List.set_cons_succ]
          rw [h12]
          clear hf h12
          generalize f 30 = z30
          generalize f 31 = z31
          generalize f 32 = z32
          generalize f 33 = z33
          generalize f 34 = z34
          generalize f 35 = z35
          generalize f 36 = z36
          generalize f 37 = z37
          generalize f 38 = z38
          generalize f 39 = z39
          generalize f 40 = z40
          generalize f 41 = z41
          generalize f 42 = z42
          generalize f 43 = z43
          generalize f 44 = z44
          generalize f 45 = z45
          generalize f 46 = z46
          generalize f 47 = z47
          generalize f 48 = z48
          generalize f 49 = z49
          generalize f 50 = z50
          generalize f 51 = z51
          generalize f 52 = z52
          generalize f 53 = z53
          generalize f 54 = z54
          generalize f 55 = z55
          generalize f 56 = z56
          generalize f 57 = z57
          generalize f 58 = z58
          generalize f 59 = z59
          obtain ⟨pp, hpp⟩ : ∃ p, p = (((x7 + (((rorI x4 6) ^^^ (rorI x4 11)) ^^^ (rorI x4 25))) + ((x4 &&& x5) ^^^ ((~~~x4) &&& x6))) + kt) + wt := ⟨_, rfl⟩
          rw [← hpp]
          have HPP := Lib.hid hpp
          clear hpp
          go_wp2_with fail
          refine region_table (by kernel_rfl) [60, 61, 62, 63, 64, 65, 66, 67, 68, 69, 70, 71, 72, 73, 74, 75, 76, 77, 78, 79, 80, 81, 82, 83, 13]
            (fun i x_ => match i with
              | 0 => x_ = .int .u32 (bvi (x0))
              | 1 => x_ = .int .u32 (bvi (rorI x0 2))
              | 2 => x_ = .int .u32 (bvi (x0))
              | 3 => x_ = .int .u32 (bvi (rorI x0 13))
              | 4 => x_ = .int .u32 (bvi ((rorI x0 2) ^^^ (rorI x0 13)))
              | 5 => x_ = .int .u32 (bvi (x0))
              | 6 => x_ = .int .u32 (bvi (rorI x0 22))
              | 7 => x_ = .int .u32 (bvi (((rorI x0 2) ^^^ (rorI x0 13)) ^^^ (rorI x0 22)))
              | 8 => x_ = .int .u32 (bvi (x0))
              | 9 => x_ = .pointer (some ⟨vb, 1, none⟩)
              | 10 => x_ = .int .u32 (bvi (x1))
              | 11 => x_ = .int .u32 (bvi (x0 &&& x1))
              | 12 => x_ = .int .u32 (bvi (x0))
              | 13 => x_ = .pointer (some ⟨vb, 2, none⟩)
              | 14 => x_ = .int .u32 (bvi (x2))
              | 15 => x_ = .int .u32 (bvi (x0 &&& x2))
              | 16 => x_ = .int .u32 (bvi ((x0 &&& x1) ^^^ (x0 &&& x2)))
              | 17 => x_ = .pointer (some ⟨vb, 1, none⟩)
              | 18 => x_ = .int .u32 (bvi (x1))
              | 19 => x_ = .pointer (some ⟨vb, 2, none⟩)
              | 20 => x_ = .int .u32 (bvi (x2))
              | 21 => x_ = .int .u32 (bvi (x1 &&& x2))
              | 22 => x_ = .int .u32 (bvi (((x0 &&& x1) ^^^ (x0 &&& x2)) ^^^ (x1 &&& x2)))
              | 23 => x_ = .int .u32 (bvi ((((rorI x0 2) ^^^ (rorI x0 13)) ^^^ (rorI x0 22)) + (((x0 &&& x1) ^^^ (x0 &&& x2)) ^^^ (x1 &&& x2))))
              | 24 => x_ = .int .u32 (bvi ((((rorI x0 2) ^^^ (rorI x0 13)) ^^^ (rorI x0 22)) + (((x0 &&& x1) ^^^ (x0 &&& x2)) ^^^ (x1 &&& x2))))
              | _ => True) (fun _ _ w' => w' = wr.drew.drew.drew) (by kernel_rfl) (by kernel_rfl) rfl (by kernel_rfl) (rfl) ?_ ?_
          · refine StepsOk.cons ?_ (StepsOk.cons ?_ (StepsOk.cons ?_ (StepsOk.cons ?_ (StepsOk.cons ?_ (StepsOk.cons ?_ (StepsOk.cons ?_ (StepsOk.cons ?_ (StepsOk.cons ?_ (StepsOk.cons ?_ (StepsOk.cons ?_ (StepsOk.cons ?_ (StepsOk.cons ?_ (StepsOk.cons ?_ (StepsOk.cons ?_ (StepsOk.cons ?_ (StepsOk.cons ?_ (StepsOk.cons ?_ (StepsOk.cons ?_ (StepsOk.cons ?_ (StepsOk.cons ?_ (StepsOk.cons ?_ (StepsOk.cons ?_ (StepsOk.cons ?_ (StepsOk.cons ?_ StepsOk.nil))))))))))))))))))))))))
            · intro L a w4 Kx hl hsz hs ht hr he hK
              refine step_plain rfl ?_
              have h10 : a.tmps.getD 10 undef = .int .u32 (bvi (x0)) := (hs 10 (by decide)).trans rfl
              subst hr
              go_simp
              exact hK _ _ rfl rfl
            · intro L a w4 Kx hl hsz hs ht hr he hK
              refine step_plain rfl ?_
              have h60 : a.tmps.getD 60 undef = .int .u32 (bvi (x0)) := ht 0 (he 0 (by kernel_rfl)) 60 rfl
              subst hr
              go_simp
              refine (Right_walk x0 2 _).mono ?_
              rintro e w5 ⟨rfl, rfl⟩
              exact hK _ _ rfl rfl
            · intro L a w4 Kx hl hsz hs ht hr he hK
              refine step_plain rfl ?_
              have h10 : a.tmps.getD 10 undef = .int .u32 (bvi (x0)) := (hs 10 (by decide)).trans rfl
              subst hr
              go_simp
              exact hK _ _ rfl rfl
            · intro L a w4 Kx hl hsz hs ht hr he hK
              refine step_plain rfl ?_
              have h62 : a.tmps.getD 62 undef = .int .u32 (bvi (x0)) := ht 2 (he 2 (by kernel_rfl)) 62 rfl
              subst hr
              go_simp
              refine (Right_walk x0 13 _).mono ?_
              rintro e w5 ⟨rfl, rfl⟩
              exact hK _ _ rfl rfl
            · intro L a w4 Kx hl hsz hs ht hr he hK
              refine step_plain rfl ?_
              have h61 : a.tmps.getD 61 undef = .int .u32 (bvi (rorI x0 2)) := ht 1 (he 1 (by kernel_rfl)) 61 rfl
              have h63 : a.tmps.getD 63 undef = .int .u32 (bvi (rorI x0 13)) := ht 3 (he 3 (by kernel_rfl)) 63 rfl
              subst hr
              go_simp
              exact hK _ _ rfl rfl
            · intro L a w4 Kx hl hsz hs ht hr he hK
              refine step_plain rfl ?_
              have h10 : a.tmps.getD 10 undef = .int .u32 (bvi (x0)) := (hs 10 (by decide)).trans rfl
              subst hr
              go_simp
              exact hK _ _ rfl rfl
            · intro L a w4 Kx hl hsz hs ht hr he hK
              refine step_plain rfl ?_
              have h65 : a.tmps.getD 65 undef = .int .u32 (bvi (x0)) := ht 5 (he 5 (by kernel_rfl)) 65 rfl
              subst hr
              go_simp
              refine (Right_walk x0 22 _).mono ?_
              rintro e w5 ⟨rfl, rfl⟩
              exact hK _ _ rfl rfl
            · intro L a w4 Kx hl hsz hs ht hr he hK
              refine step_plain rfl ?_
              have h64 : a.tmps.getD 64 undef = .int .u32 (bvi ((rorI x0 2) ^^^ (rorI x0 13))) := ht 4 (he 4 (by kernel_rfl)) 64 rfl
              have h66 : a.tmps.getD 66 undef = .int .u32 (bvi (rorI x0 22)) := ht 6 (he 6 (by kernel_rfl)) 66 rfl
              subst hr
              go_simp
              exact hK _ _ rfl rfl
            · intro L a w4 Kx hl hsz hs ht hr he hK
              refine step_plain rfl ?_
              have h10 : a.tmps.getD 10 undef = .int .u32 (bvi (x0)) := (hs 10 (by decide)).trans rfl
              subst hr
              go_simp
              exact hK _ _ rfl rfl
            · intro L a w4 Kx hl hsz hs ht hr he hK
              refine step_plain rfl ?_
              have h8 : a.tmps.getD 8 undef = .pointer (some ⟨vb, 0, none⟩) := (hs 8 (by decide)).trans rfl
              subst hr
              go_simp
              exact hK _ _ rfl rfl
            · intro L a w4 Kx hl hsz hs ht hr he hK
              refine step_plain rfl ?_
              have h69 : a.tmps.getD 69 undef = .pointer (some ⟨vb, 1, none⟩) := ht 9 (he 9 (by kernel_rfl)) 69 rfl
              subst hr
              go_simp
              exact hK _ _ rfl rfl
            · intro L a w4 Kx hl hsz hs ht hr he hK
              refine step_plain rfl ?_
              have h68 : a.tmps.getD 68 undef = .int .u32 (bvi (x0)) := ht 8 (he 8 (by kernel_rfl)) 68 rfl
              have h70 : a.tmps.getD 70 undef = .int .u32 (bvi (x1)) := ht 10 (he 10 (by kernel_rfl)) 70 rfl
              subst hr
              go_simp
              exact hK _ _ rfl rfl
            · intro L a w4 Kx hl hsz hs ht hr he hK
              refine step_plain rfl ?_
              have h10 : a.tmps.getD 10 undef = .int .u32 (bvi (x0)) := (hs 10 (by decide)).trans rfl
              subst hr
              go_simp
              exact hK _ _ rfl rfl
            · intro L a w4 Kx hl hsz hs ht hr he hK
              refine step_plain rfl ?_
              have h8 : a.tmps.getD 8 undef = .pointer (some ⟨vb, 0, none⟩) := (hs 8 (by decide)).trans rfl
              subst hr
              go_simp
              exact hK _ _ rfl rfl
            · intro L a w4 Kx hl hsz hs ht hr he hK
              refine step_plain rfl ?_
              have h73 : a.tmps.getD 73 undef = .pointer (some ⟨vb, 2, none⟩) := ht 13 (he 13 (by kernel_rfl)) 73 rfl
              subst hr
              go_simp
              exact hK _ _ rfl rfl
            · intro L a w4 Kx hl hsz hs ht hr he hK
              refine step_plain rfl ?_
              have h72 : a.tmps.getD 72 undef = .int .u32 (bvi (x0)) := ht 12 (he 12 (by kernel_rfl)) 72 rfl
              have h74 : a.tmps.getD 74 undef = .int .u32 (bvi (x2)) := ht 14 (he 14 (by kernel_rfl)) 74 rfl
              subst hr
              go_simp
              exact hK _ _ rfl rfl
            · intro L a w4 Kx hl hsz hs ht hr he hK
              refine step_plain rfl ?_
              have h71 : a.tmps.getD 71 undef = .int .u32 (bvi (x0 &&& x1)) := ht 11 (he 11 (by kernel_rfl)) 71 rfl
              have h75 : a.tmps.getD 75 undef = .int .u32 (bvi (x0 &&& x2)) := ht 15 (he 15 (by kernel_rfl)) 75 rfl
              subst hr
              go_simp
              exact hK _ _ rfl rfl
            · intro L a w4 Kx hl hsz hs ht hr he hK
              refine step_plain rfl ?_
              have h8 : a.tmps.getD 8 undef = .pointer (some ⟨vb, 0, none⟩) := (hs 8 (by decide)).trans rfl
              subst hr
              go_simp
              exact hK _ _ rfl rfl
            · intro L a w4 Kx hl hsz hs ht hr he hK
              refine step_plain rfl ?_
              have h77 : a.tmps.getD 77 undef = .pointer (some ⟨vb, 1, none⟩) := ht 17 (he 17 (by kernel_rfl)) 77 rfl
              subst hr
              go_simp
              exact hK _ _ rfl rfl
            · intro L a w4 Kx hl hsz hs ht hr he hK
              refine step_plain rfl ?_
              have h8 : a.tmps.getD 8 undef = .pointer (some ⟨vb, 0, none⟩) := (hs 8 (by decide)).trans rfl
              subst hr
              go_simp
              exact hK _ _ rfl rfl
            · intro L a w4 Kx hl hsz hs ht hr he hK
              refine step_plain rfl ?_
              have h79 : a.tmps.getD 79 undef = .pointer (some ⟨vb, 2, none⟩) := ht 19 (he 19 (by kernel_rfl)) 79 rfl
              subst hr
              go_simp
              exact hK _ _ rfl rfl
            · intro L a w4 Kx hl hsz hs ht hr he hK
              refine step_plain rfl ?_
              have h78 : a.tmps.getD 78 undef = .int .u32 (bvi (x1)) := ht 18 (he 18 (by kernel_rfl)) 78 rfl
              have h80 : a.tmps.getD 80 undef = .int .u32 (bvi (x2)) := ht 20 (he 20 (by kernel_rfl)) 80 rfl
              subst hr
              go_simp
              exact hK _ _ rfl rfl
            · intro L a w4 Kx hl hsz hs ht hr he hK
              refine step_plain rfl ?_
              have h76 : a.tmps.getD 76 undef = .int .u32 (bvi ((x0 &&& x1) ^^^ (x0 &&& x2))) := ht 16 (he 16 (by kernel_rfl)) 76 rfl
              have h81 : a.tmps.getD 81 undef = .int .u32 (bvi (x1 &&& x2)) := ht 21 (he 21 (by kernel_rfl)) 81 rfl
              subst hr
              go_simp
              exact hK _ _ rfl rfl
            · intro L a w4 Kx hl hsz hs ht hr he hK
              refine step_plain rfl ?_
              have h67 : a.tmps.getD 67 undef = .int .u32 (bvi (((rorI x0 2) ^^^ (rorI x0 13)) ^^^ (rorI x0 22))) := ht 7 (he 7 (by kernel_rfl)) 67 rfl
              have h82 : a.tmps.getD 82 undef = .int .u32 (bvi (((x0 &&& x1) ^^^ (x0 &&& x2)) ^^^ (x1 &&& x2))) := ht 22 (he 22 (by kernel_rfl)) 82 rfl
              subst hr
              go_simp
              exact hK _ _ rfl rfl
            · intro L a w4 Kx hl hsz hs ht hr he hK
              refine step_plain rfl ?_
              have h83 : a.tmps.getD 83 undef = .int .u32 (bvi ((((rorI x0 2) ^^^ (rorI x0 13)) ^^^ (rorI x0 22)) + (((x0 &&& x1) ^^^ (x0 &&& x2)) ^^^ (x1 &&& x2)))) := ht 23 (he 23 (by kernel_rfl)) 83 rfl
              subst hr
              go_simp
              exact hK _ _ rfl rfl
          · intro f L w4 hf hall hr
            have h13 : f 13 = .int .u32 (bvi ((((rorI x0 2) ^^^ (rorI x0 13)) ^^^ (rorI x0 22)) + (((x0 &&& x1) ^^^ (x0 &&& x2)) ^^^ (x1 &&& x2)))) := hf 24 (by decide) 13 rfl
            subst hr
            simp only [List.foldl, Act.put, List.setIfInBounds_toArray, List.set_cons_zero, List.set_cons_succ]
            rw [h13]
            clear hf h13
            generalize f 60 = z60
            generalize f 61 = z61
            generalize f 62 = z62
            generalize f 63 = z63
            generalize f 64 = z64
            generalize f 65 = z65
            generalize f 66 = z66
            generalize f 67 = z67
            generalize f 68 = z68
            generalize f 69 = z69
            generalize f 70 = z70
            generalize f 71 = z71
            generalize f 72 = z72
            generalize f 73 = z73
            generalize f 74 = z74
            generalize f 75 = z75
            generalize f 76 = z76
            generalize f 77 = z77
            generalize f 78 = z78
            generalize f 79 = z79
            generalize f 80 = z80
            generalize f 81 = z81
            generalize f 82 = z82
            generalize f 83 = z83
            obtain ⟨qq, hqq⟩ : ∃ q, q = (((rorI x0 2) ^^^ (rorI x0 13)) ^^^ (rorI x0 22)) + (((x0 &&& x1) ^^^ (x0 &&& x2)) ^^^ (x1 &&& x2)) := ⟨_, rfl⟩
            rw [← hqq]
            have HRE := Lib.hid (HRD.out x0 x1 x2 x3 x4 x5 x6 x7 kt wt E0.out E1.out E2.out E3.out E4.out E5.out E6.out E7.out EK.out EW.out pp qq HPP.out hqq)
            clear hqq
            go_wp2_with (with_reducible refine wpList_store_rowTo rfl 27 (.tmp 8) (.tmp 103) rfl rfl vb (words [pp + qq, x0, x1, x2, x3 + pp, x4, x5, x6]).toArray ?k1 ?k2 27 (words (roundsK st W k)).toArray ?k0 ?k3 ?k4 ?k5 ?_)
            case k1 => rfl
            case k2 => rfl
            case k0 => exact R1.out.out
            case k3 => kernel_rfl
            case k4 => rw [words_size, HLV.out]; rfl
            case k5 => exact wordsS_cells _
            go_roundw
            case rel => exact ⟨k + 1, by omega, by go_num, by rw [HRE.out]; exact (RowAt.drew (RowAt.drew (RowAt.drew R1.out))).setRow _, RowAt.setOther R2.out (by omega) _, RowAt.setOther R3.out (by omega) _, RowAt.setOther R4.out (by omega) _, RowAt.setOther R5.out (by omega) _, Go.Proofs.Ytdfgcjjaiggpkaa.Below.setRow (Below.drew (Below.drew (Below.drew R6.out))) (by omega) _⟩
            case measure => simp [intOf]; omega
    · obtain rfl : k = 64 := by omega
      have hvl := HLV.out
      have hmm := HM.out
      generalize roundsK st W 64 = V at R1 hvl hmm
      have HVL := Lib.hid hvl
      have HMM := Lib.hid hmm
      clear hvl hmm HLV HM
      go_wp2_with fail
      obtain ⟨wo, hwo⟩ : ∃ wo : World, wo = wr := ⟨_, rfl⟩
      subst hwo
      go_loopw [105] (fun i wr => ∃ k : Nat, k ≤ 8 ∧ i = .int .i64 k ∧ RowAt wr vb (words V).toArray 27 (0, 0) ∧ RowAt wr sb (words (addK st V k)).toArray 27 (0, 0) ∧ RowAt wr (sb + 1) (words zero8).toArray 27 (0, 0) ∧ Below sb w wr) (fun i _ => 8 - (intOf i).toNat)
      case atStart => exact ⟨0, Nat.zero_le _, rfl, R1.out, R4.out, R5.out, R6.out⟩
      case round =>
        obtain ⟨k, hk, rfl, r1, r2, r3, r4⟩ := hrel
        have P1 := Lib.hid r1
        have P2 := Lib.hid r2
        have P3 := Lib.hid r3
        have P4 := Lib.hid r4
        have HLA := Lib.hid (show (addK st V k).length = 8 by rw [addK_length]; exact HL.out)
        clear r1 r2 r3 r4
        rcases Nat.lt_or_ge k 8 with hlt | hge
        · have HAS := Lib.hid (show addK st V (k + 1) = (addK st V k).set k ((addK st V k).getD k 0 + V.getD k 0) from rfl)
          have c0 := P2.out.cell (wordsS_at (addK st V k) k (by rw [HLA.out]; exact hlt))
          have c1 := P1.out.cell (wordsS_at V k (by rw [HVL.out]; exact hlt))
          have f0 := P2.out.free (i := k) (by simp)
          generalize (addK st V k).getD k 0 = xa at c0 HAS
          generalize V.getD k 0 = xv at c1 HAS
          have d5 : (k : Int) < 8 := by omega
          go_wp2_with fail
          refine region_table (by kernel_rfl) [108, 109, 110, 111, 112, 113, 114, 115]
            (fun i x_ => match i with
              | 0 => x_ = .int .i64 ((k : Int))
              | 1 => x_ = .pointer (some ⟨sb, k, none⟩)
              | 2 => x_ = .int .u32 (bvi (xa))
              | 3 => x_ = .int .i64 ((k : Int))
              | 4 => x_ = .pointer (some ⟨vb, k, none⟩)
              | 5 => x_ = .int .u32 (bvi (xv))
              | 6 => x_ = .int .u32 (bvi (xa + xv))
              | 7 => x_ = .pointer (some ⟨sb, k, none⟩)
              | 8 => True
              | _ => True) (fun L _ w' => (L 8 = false → w' = wr.drew) ∧ (L 8 = true → w' = wr.drew.setCell ⟨sb, k, none⟩ (.int .u32 (bvi (xa + xv)))) ∧ (L 8 = true → L 2 = true ∧ L 5 = true ∧ True)) (by kernel_rfl) (by kernel_rfl) rfl (by kernel_rfl) (⟨fun _ => rfl, (fun h => by cases h), (fun h => by cases h)⟩) ?_ ?_
          · refine StepsOk.cons ?_ (StepsOk.cons ?_ (StepsOk.cons ?_ (StepsOk.cons ?_ (StepsOk.cons ?_ (StepsOk.cons ?_ (StepsOk.cons ?_ (StepsOk.cons ?_ (StepsOk.cons ?_ StepsOk.nil))))))))
            · intro L a w4 Kx hl hsz hs ht hr he hK
              refine step_plain rfl ?_
              have h14 : a.tmps.getD 14 undef = .int .i64 ((k : Int)) := (hs 14 (by decide)).trans rfl
              go_simp
              exact hK _ _ rfl (by simpa using hr)
            · intro L a w4 Kx hl hsz hs ht hr he hK
              refine step_plain rfl ?_
              have h108 : a.tmps.getD 108 undef = .int .i64 ((k : Int)) := ht 0 (he 0 (by kernel_rfl)) 108 rfl
              have h2 : a.tmps.getD 2 undef = .pointer (some ⟨sb, 0, none⟩) := (hs 2 (by decide)).trans rfl
              go_simp
              exact hK _ _ rfl (by simpa using hr)
            · intro L a w4 Kx hl hsz hs ht hr he hK
              refine step_plain rfl ?_
              have h109 : a.tmps.getD 109 undef = .pointer (some ⟨sb, k, none⟩) := ht 1 (he 1 (by kernel_rfl)) 109 rfl
              have hx17 : L 8 = false := by
                cases hy : L 8 with
                | false => rfl
                | true => have := (hr.2.2 hy).1; rw [hl] at this; cases this
              have hw4 := hr.1 hx17
              subst hw4
              go_simp
              refine hK _ _ rfl ⟨fun _ => rfl, fun h => ?_, fun h => ?_⟩
              all_goals
                have h' : (L 8 || false) = true := h
                rw [hx17] at h'
                cases h'
            · intro L a w4 Kx hl hsz hs ht hr he hK
              refine step_plain rfl ?_
              have h14 : a.tmps.getD 14 undef = .int .i64 ((k : Int)) := (hs 14 (by decide)).trans rfl
              go_simp
              exact hK _ _ rfl (by simpa using hr)
            · intro L a w4 Kx hl hsz hs ht hr he hK
              refine step_plain rfl ?_
              have h111 : a.tmps.getD 111 undef = .int .i64 ((k : Int)) := ht 3 (he 3 (by kernel_rfl)) 111 rfl
              have h8 : a.tmps.getD 8 undef = .pointer (some ⟨vb, 0, none⟩) := (hs 8 (by decide)).trans rfl
              go_simp
              exact hK _ _ rfl (by simpa using hr)
            · intro L a w4 Kx hl hsz hs ht hr he hK
              refine step_plain rfl ?_
              have h112 : a.tmps.getD 112 undef = .pointer (some ⟨vb, k, none⟩) := ht 4 (he 4 (by kernel_rfl)) 112 rfl
              have hx17 : L 8 = false := by
                cases hy : L 8 with
                | false => rfl
                | true => have := (hr.2.2 hy).2.1; rw [hl] at this; cases this
              have hw4 := hr.1 hx17
              subst hw4
              go_simp
              refine hK _ _ rfl ⟨fun _ => rfl, fun h => ?_, fun h => ?_⟩
              all_goals
                have h' : (L 8 || false) = true := h
                rw [hx17] at h'
                cases h'
            · intro L a w4 Kx hl hsz hs ht hr he hK
              refine step_plain rfl ?_
              have h110 : a.tmps.getD 110 undef = .int .u32 (bvi (xa)) := ht 2 (he 2 (by kernel_rfl)) 110 rfl
              have h113 : a.tmps.getD 113 undef = .int .u32 (bvi (xv)) := ht 5 (he 5 (by kernel_rfl)) 113 rfl
              go_simp
              exact hK _ _ rfl (by simpa using hr)
            · intro L a w4 Kx hl hsz hs ht hr he hK
              refine step_plain rfl ?_
              have h108 : a.tmps.getD 108 undef = .int .i64 ((k : Int)) := ht 0 (he 0 (by kernel_rfl)) 108 rfl
              have h2 : a.tmps.getD 2 undef = .pointer (some ⟨sb, 0, none⟩) := (hs 2 (by decide)).trans rfl
              go_simp
              exact hK _ _ rfl (by simpa using hr)
            · intro L a w4 Kx hl hsz hs ht hr he hK
              refine step_plain rfl ?_
              have h115 : a.tmps.getD 115 undef = .pointer (some ⟨sb, k, none⟩) := ht 7 (he 7 (by kernel_rfl)) 115 rfl
              have h114 : a.tmps.getD 114 undef = .int .u32 (bvi (xa + xv)) := ht 6 (he 6 (by kernel_rfl)) 114 rfl
              have hw4 := hr.1 hl
              subst hw4
              go_simp
              refine hK undef _ trivial ⟨fun h => ?_, fun _ => rfl, fun _ => ?_⟩
              · have h' : (L 8 || true) = false := h
                rw [Bool.or_true] at h'
                cases h'
              · exact ⟨by show (L 2 || false) = true; rw [he 2 (by kernel_rfl)]; rfl, by show (L 5 || false) = true; rw [he 5 (by kernel_rfl)]; rfl, trivial⟩
          · intro f L w4 hf hall hr
            have hw4 := hr.2.1 (hall 8 (by decide))
            subst hw4
            clear hall hr
            simp only [List.foldl, Act.put, List.setIfInBounds_toArray, List.set_cons_zero, List.set_cons_succ]
            clear hf
            generalize f 108 = z108
            generalize f 109 = z109
            generalize f 110 = z110
            generalize f 111 = z111
            generalize f 112 = z112
            generalize f 113 = z113
            generalize f 114 = z114
            generalize f 115 = z115
            go_wp2_with fail
            go_roundw
            case rel => exact ⟨k + 1, by omega, by go_num, P1.out.drew.other (by show sb ≠ vb; omega) _, by rw [HAS.out, ← wordsS_set]; exact P2.out.drew.store k _, P3.out.drew.other (by show sb ≠ sb + 1; omega) _, P4.out.drew.setCell (by show sb ≤ sb; omega) _⟩
            case measure => simp [intOf]; omega
        · obtain rfl : k = 8 := by omega
          go_wp2_with (first | (with_reducible refine wpList_load_row rfl 27 (.tmp 2) rfl sb ?h1 27 (words (addK st V 8)).toArray (0, 0) _ P2.out.out Try.underlying27 rfl ?h2 ?_) | (with_reducible refine wpList_store_rowTo rfl 27 (.tmp 4) (.tmp 117) rfl rfl (sb + 1) (words (addK st V 8)).toArray ?g1 ?g2 27 (words zero8).toArray ?g0 ?g3 ?g4 ?g5 ?_))
          case h1 => rfl
          case h2 => exact w8_info _ HLA.out
          case g0 => exact P3.out.out
          case g3 => exact w8_info _ HLA.out
          case g4 => rw [words_size, words_size, HLA.out]; rfl
          case g5 => exact wordsS_cells _
          refine bodyPost_ret (v := .tuple #[.agg (words (addK st V 8)).toArray, .int .i64 0]) (results_cell_tmp_row rfl _ _ (sb + 1) 27 (words (addK st V 8)).toArray (0, 0) _ _ (by kernel_rfl) rfl (P3.out.setRow _).out Try.underlying27 rfl (w8_info _ HLA.out)) rfl ⟨?_, ?_⟩
          · rw [HMM.out]
          · rw [HSB.out]; exact Go.Proofs.Ytdfgcjjaiggpkaa.Below.setRow P4.out (by omega) _
end Go.Proofs.Ytdfgcjjaiggpkaa

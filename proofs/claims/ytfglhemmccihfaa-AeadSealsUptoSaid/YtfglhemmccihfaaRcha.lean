/-
  Layer 4, the reference's package posthornref04: Stir, stirred.
-/
import Derived.Test.YtfglhemmccihfaaChachaC
import Derived.Test.YtfglhemmccihfaaRoctB
import Derived.Test.YtfglhemmccihfaaOwn
namespace Go.Proofs.Ytfglhemmccihfaa
open Go.RowKit

theorem infoU32 : (Try.prog.info? 62).map (fun i => (i.zero, i.size, i.bytes)) = some (some (.int .u32 0), 1, 4) := by kernel_rfl
/-- A slice of words, at the head of a row, from block B on. -/
def SliceAt (w : World) (B : Nat) (v : Value) (l : List (BitVec 32)) : Prop :=
  ∃ g cap cur fz, v = .slice (some ⟨g, 0, none⟩) l.length cap ∧ B ≤ g ∧ w.heap[g]? = some (.cells cur 62 fz) ∧ fz = (0, 0) ∧ l.length ≤ cap ∧ cur.toList.take l.length = words l
theorem SliceAt.lt {w : World} {B : Nat} {v : Value} {l : List (BitVec 32)} (h : SliceAt w B v l) : ∃ g cap, v = .slice (some ⟨g, 0, none⟩) l.length cap ∧ B ≤ g ∧ g < w.heap.size ∧ l.length ≤ cap ∧
    (∀ i, i < l.length → w.cell? ⟨g, i, none⟩ = some (.int .u32 (bvi (l.getD i 0)))) ∧ (∀ i, w.frozen? ⟨g, i, none⟩ = false) := by
  obtain ⟨g, cap, cur, fz, rfl, hB, hg, rfl, hc, ht⟩ := h
  refine ⟨g, cap, rfl, hB, (Array.getElem?_eq_some_iff.1 hg).1, hc, fun i hi => ?_, fun i => RowAt.free (w := w) hg (by simp)⟩
  have h1 : (cur.toList.take l.length)[i]? = (words l)[i]? := by rw [ht]
  rw [List.getElem?_take, if_pos hi] at h1
  refine RowAt.cell (w := w) hg (i := i) ?_
  rw [← Array.getElem?_toList, h1]
  simp [words, u32c, List.getD_eq_getElem?_getD, hi]
theorem SliceAt.below {w w' : World} {B : Nat} {v : Value} {l : List (BitVec 32)} (h : SliceAt w B v l) (hb : Below w.heap.size w w') : SliceAt w' B v l := by
  obtain ⟨g, cap, cur, fz, rfl, hB, hg, rest⟩ := h
  exact ⟨g, cap, cur, fz, rfl, hB, (hb.block g (Array.getElem?_eq_some_iff.1 hg).1).trans hg, rest⟩
theorem SliceAt.low {w w' : World} {B C : Nat} {v : Value} {l : List (BitVec 32)} (h : SliceAt w B v l) (hb : Below C w w') (hC : ∀ g n cap, v = .slice (some ⟨g, 0, none⟩) n cap → g < C) : SliceAt w' B v l := by
  obtain ⟨g, cap, cur, fz, rfl, hB, hg, rest⟩ := h
  exact ⟨g, cap, cur, fz, rfl, hB, (hb.block g (hC g _ cap rfl)).trans hg, rest⟩
theorem SliceAt.mono {w : World} {B C : Nat} {v : Value} {l : List (BitVec 32)} (h : SliceAt w B v l) (hC : C ≤ B) : SliceAt w C v l := by
  obtain ⟨g, cap, cur, fz, hv, hB, rest⟩ := h
  exact ⟨g, cap, cur, fz, hv, Nat.le_trans hC hB, rest⟩
theorem SliceAt.set {w : World} {B g : Nat} {n cap : Nat} {l : List (BitVec 32)} (h : SliceAt w B (.slice (some ⟨g, 0, none⟩) n cap) l) (i : Nat) (x : BitVec 32) :
    SliceAt (w.setCell ⟨g, i, none⟩ (.int .u32 (bvi x))) B (.slice (some ⟨g, 0, none⟩) n cap) (l.set i x) := by
  obtain ⟨g', cap', cur, fz, e, hB, hg, rfl, hc, ht⟩ := h
  injection e with e1 e2 e3
  injection e1 with e1
  injection e1 with e1
  subst e1 e2 e3
  refine ⟨g, cap, _, _, by rw [List.length_set], hB, (RowAt.store (w := w) hg i _).out, rfl, by rw [List.length_set]; exact hc, ?_⟩
  rw [List.length_set, Array.toList_setIfInBounds, List.take_set, ht]
  simp [words, List.map_set, u32c]

theorem SliceAt.at_ {w : World} {B g n cap : Nat} {l : List (BitVec 32)} (h : SliceAt w B (.slice (some ⟨g, 0, none⟩) n cap) l) (i : Nat) (hi : i < l.length) :
    w.cell? ⟨g, i, none⟩ = some (.int .u32 (bvi (l.getD i 0))) ∧ w.frozen? ⟨g, i, none⟩ = false := by
  obtain ⟨g', cap', e, _, _, _, h1, h2⟩ := h.lt
  injection e with e
  injection e with e
  injection e with e
  subst e
  exact ⟨h1 i hi, h2 i⟩
theorem sliceAt_own {w : World} {B : Nat} {v : Value} {n : Nat} {l : List (BitVec 32)} (h : w.ownsRow B 62 1 v n (words l)) (hl : 0 < l.length) : SliceAt w B v l := by
  have hn : l.length = n := by have := h.1; rw [words_length] at this; omega
  rcases h.2 with ⟨rfl, h0⟩ | ⟨g, cap, cur, rfl, hB, hg, hnc, _, hcs, ht⟩
  · omega
  · exact ⟨g, cap, cur, _, by rw [hn], hB, hg, rfl, by omega, by rw [hn]; simpa using ht⟩
set_option maxRecDepth 100000 in
set_option maxHeartbeats 1000000 in
theorem RStir_walk (g o cap : Nat) (a b c d : BitVec 32) (w : World) (c0 : w.cell? ⟨g, o, none⟩ = some (.int .u32 (bvi a))) (c1 : w.cell? ⟨g, o + 1, none⟩ = some (.int .u32 (bvi b))) (c2 : w.cell? ⟨g, o + 2, none⟩ = some (.int .u32 (bvi c))) (c3 : w.cell? ⟨g, o + 3, none⟩ = some (.int .u32 (bvi d))) :
    Calls Try.prog 100 #[.slice (some ⟨g, o, none⟩) 4 cap] w fun e w' => e = .returned (.slice (some ⟨w.heap.size, 0, none⟩) 4 4) ∧ w.alloc (.cells (words (stir4 a b c d)).toArray 62) = w' := by
  go_enter Try.func100, Try.ntmps100
  go_wp2_with fail
  refine (RLeft_walk _ _ _).mono ?_
  rintro e w1 ⟨rfl, rfl⟩
  go_wp2_with fail
  refine (RLeft_walk _ _ _).mono ?_
  rintro e w1 ⟨rfl, rfl⟩
  go_wp2_with fail
  refine (RLeft_walk _ _ _).mono ?_
  rintro e w1 ⟨rfl, rfl⟩
  go_wp2_with fail
  refine (RLeft_walk _ _ _).mono ?_
  rintro e w1 ⟨rfl, rfl⟩
  go_wp2_with fail
  go_ret
  exact ⟨rfl, rfl⟩

set_option maxRecDepth 100000 in
set_option maxHeartbeats 2000000 in
theorem Rstirred_walk (B : Nat) (v : Value) (s : List (BitVec 32)) (hs : s.length = 16) (pa pb pc pd : Nat) (ha : pa < 16) (hb : pb < 16) (hc : pc < 16) (hd : pd < 16) (w : World) (h : SliceAt w B v s) :
    Calls Try.prog 87 #[v, .int .i64 pa, .int .i64 pb, .int .i64 pc, .int .i64 pd] w fun e w' => ∃ v', e = .returned v' ∧ SliceAt w' w.heap.size v' (stirAt s (pa, pb, pc, pd)) ∧ Below w.heap.size w w' := by
  obtain ⟨g, cap, rfl, hB, hg, hcap, hcell, _⟩ := h.lt
  have e0 := hcell pa (by omega)
  have e1 := hcell pb (by omega)
  have e2 := hcell pc (by omega)
  have e3 := hcell pd (by omega)
  rw [hs] at hcap ⊢
  have HS := Lib.hid h
  have HL := Lib.hid hs
  have HC := Lib.hid hcell
  have a0 : (0 : Int) ≤ (pa : Int) := by omega
  have a1 : (pa : Int) < 16 := by omega
  have b0 : (0 : Int) ≤ (pb : Int) := by omega
  have b1 : (pb : Int) < 16 := by omega
  have c0 : (0 : Int) ≤ (pc : Int) := by omega
  have c1 : (pc : Int) < 16 := by omega
  have d0 : (0 : Int) ≤ (pd : Int) := by omega
  have d1 : (pd : Int) < 16 := by omega
  generalize hxa : s.getD pa 0 = xa at e0
  generalize hxb : s.getD pb 0 = xb at e1
  generalize hxc : s.getD pc 0 = xc at e2
  generalize hxd : s.getD pd 0 = xd at e3
  have HXA := Lib.hid hxa
  have HXB := Lib.hid hxb
  have HXC := Lib.hid hxc
  have HXD := Lib.hid hxd
  clear hxa hxb hxc hxd hcell h hs
  go_enter Try.func87, Try.ntmps87
  go_wp2_with fail
  go_still_tail 16, (by kernel_rfl)
  go_wp2_with fail
  obtain ⟨q0, q1, q2, q3, hq⟩ : ∃ q0 q1 q2 q3, stir4 xa xb xc xd = [q0, q1, q2, q3] := ⟨_, _, _, _, rfl⟩
  have HQ := Lib.hid hq
  have hN := (RowAt.new w #[.int .u32 (bvi xa), .int .u32 (bvi xb), .int .u32 (bvi xc), .int .u32 (bvi xd)] 62 (0, 0)).drew
  refine (RStir_walk w.heap.size 0 4 xa xb xc xd _ (hN.cell (i := 0) rfl) (hN.cell (i := 1) rfl) (hN.cell (i := 2) rfl) (hN.cell (i := 3) rfl)).mono ?_
  rw [hq]
  clear hq hN
  rintro e w2 ⟨rfl, rfl⟩
  have hw2 : Below w.heap.size w (((w.alloc (.cells #[.int .u32 (bvi xa), .int .u32 (bvi xb), .int .u32 (bvi xc), .int .u32 (bvi xd)] 62)).drew).alloc (.cells (words [q0, q1, q2, q3]).toArray 62)) := ((Below.refl _ _).alloc (Nat.le_refl _) _).drew.alloc (by simp) _
  have hq2 := RowAt.new ((w.alloc (.cells #[.int .u32 (bvi xa), .int .u32 (bvi xb), .int .u32 (bvi xc), .int .u32 (bvi xd)] 62)).drew) (words [q0, q1, q2, q3]).toArray 62 (0, 0)
  have hqz : w.heap.size < ((w.alloc (.cells #[.int .u32 (bvi xa), .int .u32 (bvi xb), .int .u32 (bvi xc), .int .u32 (bvi xd)] 62)).drew).heap.size := by simp
  generalize (((w.alloc (.cells #[.int .u32 (bvi xa), .int .u32 (bvi xb), .int .u32 (bvi xc), .int .u32 (bvi xd)] 62)).drew).alloc (.cells (words [q0, q1, q2, q3]).toArray 62)) = w2 at hw2 hq2 ⊢
  generalize ((w.alloc (.cells #[.int .u32 (bvi xa), .int .u32 (bvi xb), .int .u32 (bvi xc), .int .u32 (bvi xd)] 62)).drew).heap.size = qb at hq2 hqz ⊢
  have HS2 := Lib.hid (HS.out.below hw2)
  have HW2 := Lib.hid hw2
  have HQ2 := Lib.hid hq2
  obtain ⟨_, _, e4, _, _, _, cs2, _⟩ := HS2.out.lt
  injection e4 with e4a e4b e4c
  injection e4a with e4a
  injection e4a with e4a
  subst e4a
  have zq : qb < w2.heap.size := hq2.lt
  have zw : w.heap.size ≤ w2.heap.size := hw2.size
  have CS2 := Lib.hid cs2
  obtain ⟨i0, hi0, hz0, hz1, hz2⟩ := info_parts infoU32
  clear hq2 hw2 cs2 e0 e1 e2 e3 e4b e4c
  go_wp2_with (at_builtin; refine wpList_append_own _ rfl (.tmp 31) (.tmp 32) 116 rfl w2.heap.size 62 i0 (.int .u32 0) 1 4 Try.underlying116 hi0 hz0 hz1 hz2 rfl (by decide) _ 0 [] rfl (owns_zero w2 62 (Nat.le_refl _)) ⟨g, 0, none⟩ 16 cap (words s) rfl ?e1 ?e2 ?e3 ?e4 ?e5 ?e6 ?_)
  case e1 => rw [words_length, HL.out]
  case e2 =>
    intro j u hu
    rcases Nat.lt_or_ge j s.length with hj | hj
    · have h1 := CS2.out j hj
      have e2 : (Addr.mk g 0 none).add j = ⟨g, j, none⟩ := by unfold Addr.add; split <;> simp_all
      rw [e2, World.cell?_alloc_lt w2 _ ⟨g, j, none⟩ (show g < w2.heap.size by omega), h1, ← hu]
      simp [words, u32c, List.getD_eq_getElem?_getD, hj]
    · rw [List.getElem?_eq_none (by rw [words_length]; exact hj)] at hu; cases hu
  case e3 =>
    intro u hu
    simp only [words, List.mem_map] at hu
    obtain ⟨x, _, rfl⟩ := hu
    rfl
  case e4 => unfold maxLen; omega
  case e5 => omega
  case e6 => simp
  intro v3 w3 hown3 hgrow _
  clear hi0 hz0 hz1 hz2
  have s0 := sliceAt_own hown3 (by rw [HL.out]; omega)
  have B0 := Lib.hid ((HW2.out.alloc HW2.out.size (.cells #[] 62)).grown hgrow (by simp; omega) (fun k hk => by
    have : w2.heap.size = k := by simpa [Value.ownBlock] using hk
    omega))
  have Q0 := Lib.hid (show RowAt w3 qb #[.int .u32 (bvi q0), .int .u32 (bvi q1), .int .u32 (bvi q2), .int .u32 (bvi q3)] 62 (0, 0) from
    (hgrow.block qb (by simp; omega) (by
      intro e
      have : qb = w2.heap.size := by simpa [Value.ownBlock] using e
      omega)).trans (HQ2.out.alloc (.cells #[] 62)).out)
  obtain ⟨g2, cap2, rfl, hg2, hlt2, hcap2, _, _⟩ := s0.lt
  rw [HL.out] at hcap2 ⊢
  have S0 := Lib.hid s0
  have hne : g2 ≠ qb := by omega
  have hwg : w.heap.size ≤ g2 := by omega
  clear hown3 hgrow s0
  obtain ⟨c0, f0⟩ := S0.out.at_ pa (by rw [HL.out]; omega)
  obtain ⟨y0, y1, y2, y3, _, _, _, _⟩ := row4 Q0.out
  go_upto_region 4 with fail
  have s1 := S0.out.set pa q0
  have r1 := Q0.out.other (p := ⟨g2, pa, none⟩) hne (.int .u32 (bvi q0))
  have b2 := B0.out.setCell (p := ⟨g2, pa, none⟩) hwg (.int .u32 (bvi q0))
  generalize w3.setCell ⟨g2, pa, none⟩ (.int .u32 (bvi q0)) = w4 at s1 r1 b2 ⊢
  have S1 := Lib.hid s1
  have Q1 := Lib.hid r1
  have B1 := Lib.hid b2
  clear s1 r1 b2 c0 f0 y0 y1 y2 y3
  obtain ⟨c0, f0⟩ := S1.out.at_ pb (by rw [List.length_set]; rw [HL.out]; omega)
  obtain ⟨y0, y1, y2, y3, _, _, _, _⟩ := row4 Q1.out
  go_upto_region 5 with fail
  have s1 := S1.out.set pb q1
  have r1 := Q1.out.other (p := ⟨g2, pb, none⟩) hne (.int .u32 (bvi q1))
  have b2 := B1.out.setCell (p := ⟨g2, pb, none⟩) hwg (.int .u32 (bvi q1))
  generalize w4.setCell ⟨g2, pb, none⟩ (.int .u32 (bvi q1)) = w5 at s1 r1 b2 ⊢
  have S2 := Lib.hid s1
  have Q2 := Lib.hid r1
  have B2 := Lib.hid b2
  clear s1 r1 b2 c0 f0 y0 y1 y2 y3
  obtain ⟨c0, f0⟩ := S2.out.at_ pc (by rw [List.length_set]; rw [List.length_set]; rw [HL.out]; omega)
  obtain ⟨y0, y1, y2, y3, _, _, _, _⟩ := row4 Q2.out
  go_upto_region 6 with fail
  have s1 := S2.out.set pc q2
  have r1 := Q2.out.other (p := ⟨g2, pc, none⟩) hne (.int .u32 (bvi q2))
  have b2 := B2.out.setCell (p := ⟨g2, pc, none⟩) hwg (.int .u32 (bvi q2))
  generalize w5.setCell ⟨g2, pc, none⟩ (.int .u32 (bvi q2)) = w6 at s1 r1 b2 ⊢
  have S3 := Lib.hid s1
  have Q3 := Lib.hid r1
  have B3 := Lib.hid b2
  clear s1 r1 b2 c0 f0 y0 y1 y2 y3
  obtain ⟨c0, f0⟩ := S3.out.at_ pd (by rw [List.length_set]; rw [List.length_set]; rw [List.length_set]; rw [HL.out]; omega)
  obtain ⟨y0, y1, y2, y3, _, _, _, _⟩ := row4 Q3.out
  go_upto_region 7 with fail
  have s1 := S3.out.set pd q3
  have r1 := Q3.out.other (p := ⟨g2, pd, none⟩) hne (.int .u32 (bvi q3))
  have b2 := B3.out.setCell (p := ⟨g2, pd, none⟩) hwg (.int .u32 (bvi q3))
  generalize w6.setCell ⟨g2, pd, none⟩ (.int .u32 (bvi q3)) = w7 at s1 r1 b2 ⊢
  have S4 := Lib.hid s1
  have Q4 := Lib.hid r1
  have B4 := Lib.hid b2
  clear s1 r1 b2 c0 f0 y0 y1 y2 y3
  go_wp2_with fail
  go_ret
  refine ⟨_, rfl, ?_, B4.out⟩
  have e : stirAt s (pa, pb, pc, pd) = (((s.set pa q0).set pb q1).set pc q2).set pd q3 := by
    unfold stirAt
    simp only []
    rw [HXA.out, HXB.out, HXC.out, HXD.out, HQ.out]
    rfl
  rw [e]
  have h4 := S4.out.mono zw
  rw [HL.out] at h4
  exact h4
end Go.Proofs.Ytfglhemmccihfaa

/-
Layer 4, the reference's package posthornref04: Stir, stirred.
Layer 4, the reference's package posthornref04: Block.
Layer 4, the reference's package posthornref04: Stream, Turn, and what is refused.
-/
import Derived.Deep.RegionHeld3
import Derived.Deep.LoopGhost
import Derived.Test.YtfglhemmccihfaaMa
import Derived.Test.YtfglhemmccihfaaMg
import Derived.Test.YtfglhemmccihfaaMi
namespace Go.Proofs.Ytfglhemmccihfaa
open Go.RowKit

theorem infoU32 : (Try.prog.info? 62).map (fun i => (i.zero, i.size, i.bytes)) = some (some (.int .u32 0), 1, 4) := by kernel_rfl
/-- A slice of words, at the head of a row, from block B on. -/
def SliceAt (w : World) (B : Nat) (v : Value) (l : List (BitVec 32)) : Prop :=
  ∃ g cap cur fz, v = .slice (some ⟨g, 0, none⟩) l.length cap ∧ B ≤ g ∧ w.heap[g]? = some (.cells cur 62 fz) ∧ fz = (0, 0) ∧ l.length ≤ cap ∧ cur.toList.take l.length = words l
theorem SliceAt.lt {w : World} {B : Nat} {v : Value} {l : List (BitVec 32)} (h : SliceAt w B v l) : ∃ g cap, v = .slice (some ⟨g, 0, none⟩) l.length cap ∧ B ≤ g ∧ g < w.heap.size ∧ l.length ≤ cap ∧
    (∀ i, i < l.length → w.cell? ⟨g, i, none⟩ = some (.int .u32 (bvi (l.getD i 0)))) ∧ (∀ i, w.frozen? ⟨g, i, none⟩ = false) := by
  obtain ⟨g, cap, cur, fz, rfl, hB, hg, rfl, hc, ht⟩ := h
  refine ⟨g, cap, rfl, hB, (Array.getElem?_eq_some_iff.1 hg).1, hc, fun i hi => ?_, fun i => RowAt.free (w := w) hg (by simp)⟩
  have h1 : (cur.toList.take l.length)[i]? = (words l)[i]? := by rw [ht]
  rw [List.getElem?_take, if_pos hi] at h1
  refine RowAt.cell (w := w) hg (i := i) ?_
  rw [← Array.getElem?_toList, h1]
  simp [words, u32c, List.getD_eq_getElem?_getD, hi]
theorem SliceAt.below {w w' : World} {B : Nat} {v : Value} {l : List (BitVec 32)} (h : SliceAt w B v l) (hb : Below w.heap.size w w') : SliceAt w' B v l := by
  obtain ⟨g, cap, cur, fz, rfl, hB, hg, rest⟩ := h
  exact ⟨g, cap, cur, fz, rfl, hB, (hb.block g (Array.getElem?_eq_some_iff.1 hg).1).trans hg, rest⟩
theorem SliceAt.low {w w' : World} {B C : Nat} {v : Value} {l : List (BitVec 32)} (h : SliceAt w B v l) (hb : Below C w w') (hC : ∀ g n cap, v = .slice (some ⟨g, 0, none⟩) n cap → g < C) : SliceAt w' B v l := by
  obtain ⟨g, cap, cur, fz, rfl, hB, hg, rest⟩ := h
  exact ⟨g, cap, cur, fz, rfl, hB, (hb.block g (hC g _ cap rfl)).trans hg, rest⟩
theorem SliceAt.mono {w : World} {B C : Nat} {v : Value} {l : List (BitVec 32)} (h : SliceAt w B v l) (hC : C ≤ B) : SliceAt w C v l := by
  obtain ⟨g, cap, cur, fz, hv, hB, rest⟩ := h
  exact ⟨g, cap, cur, fz, hv, Nat.le_trans hC hB, rest⟩
theorem SliceAt.set {w : World} {B g : Nat} {n cap : Nat} {l : List (BitVec 32)} (h : SliceAt w B (.slice (some ⟨g, 0, none⟩) n cap) l) (i : Nat) (x : BitVec 32) :
    SliceAt (w.setCell ⟨g, i, none⟩ (.int .u32 (bvi x))) B (.slice (some ⟨g, 0, none⟩) n cap) (l.set i x) := by
  obtain ⟨g', cap', cur, fz, e, hB, hg, rfl, hc, ht⟩ := h
  injection e with e1 e2 e3
  injection e1 with e1
  injection e1 with e1
  subst e1 e2 e3
  refine ⟨g, cap, _, _, by rw [List.length_set], hB, (RowAt.store (w := w) hg i _).out, rfl, by rw [List.length_set]; exact hc, ?_⟩
  rw [List.length_set, Array.toList_setIfInBounds, List.take_set, ht]
  simp [words, List.map_set, u32c]

theorem SliceAt.at_ {w : World} {B g n cap : Nat} {l : List (BitVec 32)} (h : SliceAt w B (.slice (some ⟨g, 0, none⟩) n cap) l) (i : Nat) (hi : i < l.length) :
    w.cell? ⟨g, i, none⟩ = some (.int .u32 (bvi (l.getD i 0))) ∧ w.frozen? ⟨g, i, none⟩ = false := by
  obtain ⟨g', cap', e, _, _, _, h1, h2⟩ := h.lt
  injection e with e
  injection e with e
  injection e with e
  subst e
  exact ⟨h1 i hi, h2 i⟩
theorem sliceAt_own {w : World} {B : Nat} {v : Value} {n : Nat} {l : List (BitVec 32)} (h : w.ownsRow B 62 1 v n (words l)) (hl : 0 < l.length) : SliceAt w B v l := by
  have hn : l.length = n := by have := h.1; rw [words_length] at this; omega
  rcases h.2 with ⟨rfl, h0⟩ | ⟨g, cap, cur, rfl, hB, hg, hnc, _, hcs, ht⟩
  · omega
  · exact ⟨g, cap, cur, _, by rw [hn], hB, hg, rfl, by omega, by rw [hn]; simpa using ht⟩
set_option maxRecDepth 100000 in
set_option maxHeartbeats 1000000 in
theorem RStir_walk (g o cap : Nat) (a b c d : BitVec 32) (w : World) (c0 : w.cell? ⟨g, o, none⟩ = some (.int .u32 (bvi a))) (c1 : w.cell? ⟨g, o + 1, none⟩ = some (.int .u32 (bvi b))) (c2 : w.cell? ⟨g, o + 2, none⟩ = some (.int .u32 (bvi c))) (c3 : w.cell? ⟨g, o + 3, none⟩ = some (.int .u32 (bvi d))) :
    Calls Try.prog 100 #[.slice (some ⟨g, o, none⟩) 4 cap] w fun e w' => e = .returned (.slice (some ⟨w.heap.size, 0, none⟩) 4 4) ∧ w.alloc (.cells (words (stir4 a b c d)).toArray 62) = w' := by
  go_enter Try.func100, Try.ntmps100
  go_wp2_with fail
  refine (RLeft_walk _ _ _).mono ?_
  rintro e w1 ⟨rfl, rfl⟩
  go_wp2_with fail
  refine (RLeft_walk _ _ _).mono ?_
  rintro e w1 ⟨rfl, rfl⟩
  go_wp2_with fail
  refine (RLeft_walk _ _ _).mono ?_
  rintro e w1 ⟨rfl, rfl⟩
  go_wp2_with fail
  refine (RLeft_walk _ _ _).mono ?_
  rintro e w1 ⟨rfl, rfl⟩
  go_wp2_with fail
  go_ret
  exact ⟨rfl, rfl⟩

set_option maxRecDepth 100000 in
set_option maxHeartbeats 2000000 in
theorem Rstirred_walk (B : Nat) (v : Value) (s : List (BitVec 32)) (hs : s.length = 16) (pa pb pc pd : Nat) (ha : pa < 16) (hb : pb < 16) (hc : pc < 16) (hd : pd < 16) (w : World) (h : SliceAt w B v s) :
    Calls Try.prog 87 #[v, .int .i64 pa, .int .i64 pb, .int .i64 pc, .int .i64 pd] w fun e w' => ∃ v', e = .returned v' ∧ SliceAt w' w.heap.size v' (stirAt s (pa, pb, pc, pd)) ∧ Below w.heap.size w w' := by
  obtain ⟨g, cap, rfl, hB, hg, hcap, hcell, _⟩ := h.lt
  have e0 := hcell pa (by omega)
  have e1 := hcell pb (by omega)
  have e2 := hcell pc (by omega)
  have e3 := hcell pd (by omega)
  rw [hs] at hcap ⊢
  have HS := Lib.hid h
  have HL := Lib.hid hs
  have HC := Lib.hid hcell
  have a0 : (0 : Int) ≤ (pa : Int) := by omega
  have a1 : (pa : Int) < 16 := by omega
  have b0 : (0 : Int) ≤ (pb : Int) := by omega
  have b1 : (pb : Int) < 16 := by omega
  have c0 : (0 : Int) ≤ (pc : Int) := by omega
  have c1 : (pc : Int) < 16 := by omega
  have d0 : (0 : Int) ≤ (pd : Int) := by omega
  have d1 : (pd : Int) < 16 := by omega
  generalize hxa : s.getD pa 0 = xa at e0
  generalize hxb : s.getD pb 0 = xb at e1
  generalize hxc : s.getD pc 0 = xc at e2
  generalize hxd : s.getD pd 0 = xd at e3
  have HXA := Lib.hid hxa
  have HXB := Lib.hid hxb
  have HXC := Lib.hid hxc
  have HXD := Lib.hid hxd
  clear hxa hxb hxc hxd hcell h hs
  go_enter Try.func87, Try.ntmps87
  go_wp2_with fail
  go_still_tail 16, (by kernel_rfl)
  go_wp2_with fail
  obtain ⟨q0, q1, q2, q3, hq⟩ : ∃ q0 q1 q2 q3, stir4 xa xb xc xd = [q0, q1, q2, q3] := ⟨_, _, _, _, rfl⟩
  have HQ := Lib.hid hq
  have hN := (RowAt.new w #[.int .u32 (bvi xa), .int .u32 (bvi xb), .int .u32 (bvi xc), .int .u32 (bvi xd)] 62 (0, 0)).drew
  refine (RStir_walk w.heap.size 0 4 xa xb xc xd _ (hN.cell (i := 0) rfl) (hN.cell (i := 1) rfl) (hN.cell (i := 2) rfl) (hN.cell (i := 3) rfl)).mono ?_
  rw [hq]
  clear hq hN
  rintro e w2 ⟨rfl, rfl⟩
  have hw2 : Below w.heap.size w (((w.alloc (.cells #[.int .u32 (bvi xa), .int .u32 (bvi xb), .int .u32 (bvi xc), .int .u32 (bvi xd)] 62)).drew).alloc (.cells (words [q0, q1, q2, q3]).toArray 62)) := ((Below.refl _ _).alloc (Nat.le_refl _) _).drew.alloc (by simp) _
  have hq2 := RowAt.new ((w.alloc (.cells #[.int .u32 (bvi xa), .int .u32 (bvi xb), .int .u32 (bvi xc), .int .u32 (bvi xd)] 62)).drew) (words [q0, q1, q2, q3]).toArray 62 (0, 0)
  have hqz : w.heap.size < ((w.alloc (.cells #[.int .u32 (bvi xa), .int .u32 (bvi xb), .int .u32 (bvi xc), .int .u32 (bvi xd)] 62)).drew).heap.size := by simp
  generalize (((w.alloc (.cells #[.int .u32 (bvi xa), .int .u32 (bvi xb), .int .u32 (bvi xc), .int .u32 (bvi xd)] 62)).drew).alloc (.cells (words [q0, q1, q2, q3]).toArray 62)) = w2 at hw2 hq2 ⊢
  generalize ((w.alloc (.cells #[.int .u32 (bvi xa), .int .u32 (bvi xb), .int .u32 (bvi xc), .int .u32 (bvi xd)] 62)).drew).heap.size = qb at hq2 hqz ⊢
  have HS2 := Lib.hid (HS.out.below hw2)
  have HW2 := Lib.hid hw2
  have HQ2 := Lib.hid hq2
  obtain ⟨_, _, e4, _, _, _, cs2, _⟩ := HS2.out.lt
  injection e4 with e4a e4b e4c
  injection e4a with e4a
  injection e4a with e4a
  subst e4a
  have zq : qb < w2.heap.size := hq2.lt
  have zw : w.heap.size ≤ w2.heap.size := hw2.size
  have CS2 := Lib.hid cs2
  obtain ⟨i0, hi0, hz0, hz1, hz2⟩ := info_parts infoU32
  clear hq2 hw2 cs2 e0 e1 e2 e3 e4b e4c
  go_wp2_with (at_builtin; refine wpList_append_own _ rfl (.tmp 31) (.tmp 32) 116 rfl w2.heap.size 62 i0 (.int .u32 0) 1 4 Try.underlying116 hi0 hz0 hz1 hz2 rfl (by decide) _ 0 [] rfl (owns_zero w2 62 (Nat.le_refl _)) ⟨g, 0, none⟩ 16 cap (words s) rfl ?e1 ?e2 ?e3 ?e4 ?e5 ?e6 ?_)
  case e1 => rw [words_length, HL.out]
  case e2 =>
    intro j u hu
    rcases Nat.lt_or_ge j s.length with hj | hj
    · have h1 := CS2.out j hj
      have e2 : (Addr.mk g 0 none).add j = ⟨g, j, none⟩ := by unfold Addr.add; split <;> simp_all
      rw [e2, World.cell?_alloc_lt w2 _ ⟨g, j, none⟩ (show g < w2.heap.size by omega), h1, ← hu]
      simp [words, u32c, List.getD_eq_getElem?_getD, hj]
    · rw [List.getElem?_eq_none (by rw [words_length]; exact hj)] at hu; cases hu
  case e3 =>
    intro u hu
    simp only [words, List.mem_map] at hu
    obtain ⟨x, _, rfl⟩ := hu
    rfl
  case e4 => unfold maxLen; omega
  case e5 => omega
  case e6 => simp
  intro v3 w3 hown3 hgrow _
  clear hi0 hz0 hz1 hz2
  have s0 := sliceAt_own hown3 (by rw [HL.out]; omega)
  have B0 := Lib.hid ((HW2.out.alloc HW2.out.size (.cells #[] 62)).grown hgrow (by simp; omega) (fun k hk => by
    have : w2.heap.size = k := by simpa [Value.ownBlock] using hk
    omega))
  have Q0 := Lib.hid (show RowAt w3 qb #[.int .u32 (bvi q0), .int .u32 (bvi q1), .int .u32 (bvi q2), .int .u32 (bvi q3)] 62 (0, 0) from
    (hgrow.block qb (by simp; omega) (by
      intro e
      have : qb = w2.heap.size := by simpa [Value.ownBlock] using e
      omega)).trans (HQ2.out.alloc (.cells #[] 62)).out)
  obtain ⟨g2, cap2, rfl, hg2, hlt2, hcap2, _, _⟩ := s0.lt
  rw [HL.out] at hcap2 ⊢
  have S0 := Lib.hid s0
  have hne : g2 ≠ qb := by omega
  have hwg : w.heap.size ≤ g2 := by omega
  clear hown3 hgrow s0
  obtain ⟨c0, f0⟩ := S0.out.at_ pa (by rw [HL.out]; omega)
  obtain ⟨y0, y1, y2, y3, _, _, _, _⟩ := row4 Q0.out
  go_upto_region 4 with fail
  have s1 := S0.out.set pa q0
  have r1 := Q0.out.other (p := ⟨g2, pa, none⟩) hne (.int .u32 (bvi q0))
  have b2 := B0.out.setCell (p := ⟨g2, pa, none⟩) hwg (.int .u32 (bvi q0))
  generalize w3.setCell ⟨g2, pa, none⟩ (.int .u32 (bvi q0)) = w4 at s1 r1 b2 ⊢
  have S1 := Lib.hid s1
  have Q1 := Lib.hid r1
  have B1 := Lib.hid b2
  clear s1 r1 b2 c0 f0 y0 y1 y2 y3
  obtain ⟨c0, f0⟩ := S1.out.at_ pb (by rw [List.length_set]; rw [HL.out]; omega)
  obtain ⟨y0, y1, y2, y3, _, _, _, _⟩ := row4 Q1.out
  go_upto_region 5 with fail
  have s1 := S1.out.set pb q1
  have r1 := Q1.out.other (p := ⟨g2, pb, none⟩) hne (.int .u32 (bvi q1))
  have b2 := B1.out.setCell (p := ⟨g2, pb, none⟩) hwg (.int .u32 (bvi q1))
  generalize w4.setCell ⟨g2, pb, none⟩ (.int .u32 (bvi q1)) = w5 at s1 r1 b2 ⊢
  have S2 := Lib.hid s1
  have Q2 := Lib.hid r1
  have B2 := Lib.hid b2
  clear s1 r1 b2 c0 f0 y0 y1 y2 y3
  obtain ⟨c0, f0⟩ := S2.out.at_ pc (by rw [List.length_set]; rw [List.length_set]; rw [HL.out]; omega)
  obtain ⟨y0, y1, y2, y3, _, _, _, _⟩ := row4 Q2.out
  go_upto_region 6 with fail
  have s1 := S2.out.set pc q2
  have r1 := Q2.out.other (p := ⟨g2, pc, none⟩) hne (.int .u32 (bvi q2))
  have b2 := B2.out.setCell (p := ⟨g2, pc, none⟩) hwg (.int .u32 (bvi q2))
  generalize w5.setCell ⟨g2, pc, none⟩ (.int .u32 (bvi q2)) = w6 at s1 r1 b2 ⊢
  have S3 := Lib.hid s1
  have Q3 := Lib.hid r1
  have B3 := Lib.hid b2
  clear s1 r1 b2 c0 f0 y0 y1 y2 y3
  obtain ⟨c0, f0⟩ := S3.out.at_ pd (by rw [List.length_set]; rw [List.length_set]; rw [List.length_set]; rw [HL.out]; omega)
  obtain ⟨y0, y1, y2, y3, _, _, _, _⟩ := row4 Q3.out
  go_upto_region 7 with fail
  have s1 := S3.out.set pd q3
  have r1 := Q3.out.other (p := ⟨g2, pd, none⟩) hne (.int .u32 (bvi q3))
  have b2 := B3.out.setCell (p := ⟨g2, pd, none⟩) hwg (.int .u32 (bvi q3))
  generalize w6.setCell ⟨g2, pd, none⟩ (.int .u32 (bvi q3)) = w7 at s1 r1 b2 ⊢
  have S4 := Lib.hid s1
  have Q4 := Lib.hid r1
  have B4 := Lib.hid b2
  clear s1 r1 b2 c0 f0 y0 y1 y2 y3
  go_wp2_with fail
  go_ret
  refine ⟨_, rfl, ?_, B4.out⟩
  have e : stirAt s (pa, pb, pc, pd) = (((s.set pa q0).set pb q1).set pc q2).set pd q3 := by
    unfold stirAt
    simp only []
    rw [HXA.out, HXB.out, HXC.out, HXD.out, HQ.out]
    rfl
  rw [e]
  have h4 := S4.out.mono zw
  rw [HL.out] at h4
  exact h4
end Go.Proofs.Ytfglhemmccihfaa
namespace Go.Proofs.Ytfglhemmccihfaa
open Go.RowKit

theorem Rstirred_int (B : Nat) (v : Value) (s : List (BitVec 32)) (hs : s.length = 16) (p : Nat × Nat × Nat × Nat) (hp : p.1 < 16 ∧ p.2.1 < 16 ∧ p.2.2.1 < 16 ∧ p.2.2.2 < 16) (ia ib ic id : Int) (ha : ia = (p.1 : Int)) (hb : ib = (p.2.1 : Int)) (hc : ic = (p.2.2.1 : Int)) (hd : id = (p.2.2.2 : Int)) (w : World) (h : SliceAt w B v s) :
    Calls Try.prog 87 #[v, .int .i64 ia, .int .i64 ib, .int .i64 ic, .int .i64 id] w fun e w' => ∃ v', e = .returned v' ∧ SliceAt w' w.heap.size v' (stirAt s p) ∧ Below w.heap.size w w' := by
  subst ha hb hc hd
  exact Rstirred_walk B v s hs p.1 p.2.1 p.2.2.1 p.2.2.2 hp.1 hp.2.1 hp.2.2.1 hp.2.2.2 w h
theorem ownsRow_below {w w' : World} {B : Nat} {e : TypeId} {v : Value} {n : Nat} {xs : List Value} (h : w.ownsRow B e 1 v n xs) (hb : Below w.heap.size w w') : w'.ownsRow B e 1 v n xs := by
  refine ⟨h.1, ?_⟩
  rcases h.2 with hn | ⟨g, cap, cur, hv, hB, hg, rest⟩
  · exact .inl hn
  · exact .inr ⟨g, cap, cur, hv, hB, (hb.block g (Array.getElem?_eq_some_iff.1 hg).1).trans hg, rest⟩
theorem place_low (j : Nat) (h : j < 4) : placeAt j = (j, 4 + j, 8 + j, 12 + j) := by
  obtain rfl | rfl | rfl | rfl : j = 0 ∨ j = 1 ∨ j = 2 ∨ j = 3 := by omega
  all_goals rfl
theorem place_high (j : Nat) (h : j < 4) : placeAt (4 + j) = (j, 4 + (j + 1) % 4, 8 + (j + 2) % 4, 12 + (j + 3) % 4) := by
  obtain rfl | rfl | rfl | rfl : j = 0 ∨ j = 1 ∨ j = 2 ∨ j = 3 := by omega
  all_goals rfl

set_option maxRecDepth 100000 in
set_option maxHeartbeats 4000000 in
theorem RBlock_ok (key nonce : ByteArray) (counter : BitVec 32) (hk : key.size = 32) (hn : nonce.size = 12) (w : World) :
    Calls Try.prog 66 #[.string key, .int .u32 (bvi counter), .string nonce] w fun e w' => ∃ r, e = .returned (.tuple #[.string r, .int .i64 0]) ∧ Is r (blockL key.data.toList counter nonce.data.toList) ∧ Below w.heap.size w w' := by
  have k1 : ((key.size : Int) != 32) = false := by rw [bne_eq_false_iff_eq]; omega
  have k2 : ((nonce.size : Int) != 12) = false := by rw [bne_eq_false_iff_eq]; omega
  have HKZ := Lib.hid hk
  have HNZ := Lib.hid hn
  have hk1 : key.size ≤ 32 := by omega
  have hn1 : nonce.size ≤ 12 := by omega
  clear hk hn
  go_enter Try.func66, Try.ntmps66
  go_wp2_with fail
  refine (RLow_walk _ 4 _).mono ?_
  rintro e w1 ⟨r1, rfl, hr1, hb1⟩
  have hz1 : r1.size = 4 := by rw [hr1.size, lowL_length]; rfl
  have hz2 : r1.size ≤ 4 := by omega
  go_wp2_with fail
  have htx := (((Is.of [101, 120, 112, 97, 110, 100, 32, 51, 50, 45, 98, 121, 116, 101, 32, 107]).append (Is.self key)).append hr1).append (Is.self nonce)
  have hzt := htx.size
  have hlk : key.data.toList.length = 32 := by have := HKZ.out; rw [Array.length_toList]; exact this
  have hln : nonce.data.toList.length = 12 := by have := HNZ.out; rw [Array.length_toList]; exact this
  rw [List.length_append, List.length_append, List.length_append, hlk, hln, lowL_length] at hzt
  have hz64 : (ByteArray.mk #[101, 120, 112, 97, 110, 100, 32, 51, 50, 45, 98, 121, 116, 101, 32, 107] ++ key ++ r1 ++ nonce).size = 64 := hzt
  clear hzt hlk hln
  generalize (ByteArray.mk #[101, 120, 112, 97, 110, 100, 32, 51, 50, 45, 98, 121, 116, 101, 32, 107] ++ key ++ r1 ++ nonce) = t at htx hz64 ⊢
  have HT := Lib.hid (show Is t (headL key.data.toList counter nonce.data.toList) from htx)
  have hzl : 64 ≤ t.size := by omega
  have HZ := Lib.hid hz64
  have HB1 := Lib.hid hb1
  have hz11 : w.heap.size ≤ w1.heap.size := hb1.size
  have HOW := Lib.hid (owns_zero w1 62 hz11)
  clear htx hz64 hz1 hz2 hk1 hn1 hr1 hb1 k1 k2
  go_loopw [9, 10] (fun v i wr => ∃ k : Nat, k ≤ 16 ∧ i = .int .i64 k ∧ wr.ownsRow w.heap.size 62 1 v k (words ((List.range k).map (numAt (headL key.data.toList counter nonce.data.toList)))) ∧ Below w.heap.size w wr) (fun _ i _ => 16 - (intOf i).toNat)
  case atStart => exact ⟨0, Nat.zero_le _, rfl, HOW.out, HB1.out.alloc HB1.out.size _⟩
  case round =>
    obtain ⟨k, hk, rfl, how, hbel⟩ := hrel
    have HO := Lib.hid how
    have HB := Lib.hid hbel
    clear how hbel
    rcases Nat.lt_or_ge k 16 with hlt | hge
    · have hx : Is (t.extract (4 * k) (4 * k + 4)) (((headL key.data.toList counter nonce.data.toList).drop (4 * k)).take 4) := by
        have := HT.out.extract (4 * k) (4 * k + 4)
        rwa [show 4 * k + 4 - 4 * k = 4 by omega] at this
      have hxz : (t.extract (4 * k) (4 * k + 4)).size ≤ 8 := by rw [ByteArray.size_extract]; omega
      have HX := Lib.hid hx
      clear hx
      go_wp2_with fail
      refine (RFromLow_ok _ hxz _).mono ?_
      rintro e w2 ⟨rfl, hb2⟩
      rw [HX.out.out]
      have hzw : w.heap.size ≤ w2.heap.size := Nat.le_trans HB.out.size hb2.size
      have how2 : w2.ownsRow w.heap.size 62 1 _ k _ := ownsRow_below HO.out hb2
      have HB2 := Lib.hid (bthen HB.out hb2)
      clear hb2
      go_wp2_with (at_builtin; refine append_one rfl _ _ 116 rfl w2 w.heap.size 62 (.int .u32 0) 4 Try.underlying116 infoU32 rfl how2 rfl _ rfl rfl ?c1 ?c2 ?c3 ?_)
      case c1 => omega
      case c2 => omega
      case c3 => omega
      intro v' w3 hown3 hb3 _ _
      go_wp2_with fail
      go_roundw
      case rel =>
        refine ⟨k + 1, by omega, by go_num, ?_, HB2.out.trans hb3⟩
        rw [List.range_succ, List.map_append]
        unfold words at hown3 ⊢
        rw [List.map_append]
        exact hown3
      case measure => simp [intOf]; omega
    · have HK := Lib.hid (show k = 16 by omega)
      have hF : SliceAt wr w.heap.size u9 (beginL key.data.toList counter nonce.data.toList) := by
        have h := HO.out
        rw [HK.out] at h
        exact sliceAt_own h (by rw [beginL_length]; omega)
      have hfl := beginL_length key.data.toList counter nonce.data.toList
      generalize hFq : beginL key.data.toList counter nonce.data.toList = F at hF hfl
      have HFQ := Lib.hid hFq
      have HFL := Lib.hid hfl
      have HF := Lib.hid hF
      have hkk : 16 ≤ k := hge
      have h16 : decide ((k : Int) < 16) = false := decide_eq_false (by omega)
      clear hFq hfl hF HO HK hk hge
      go_wp2_with fail
      obtain ⟨wa, hwa⟩ : ∃ wa : World, wa = wr := ⟨_, rfl⟩
      go_loopw [13, 14] (fun v i wx => ∃ k : Nat, k ≤ 10 ∧ i = .int .i64 k ∧ SliceAt wx w.heap.size v (roundsL F k) ∧ SliceAt wx w.heap.size u9 F ∧ Below w.heap.size w wx) (fun _ i _ => 10 - (intOf i).toNat)
      case atStart => exact ⟨0, Nat.zero_le _, rfl, HF.out, HF.out, HB.out⟩
      case round =>
        obtain ⟨c, hc, rfl, hs, hf, hb⟩ := hrel
        have HS := Lib.hid hs
        have HF2 := Lib.hid hf
        have HB2 := Lib.hid hb
        have hlS : (roundsL F c).length = 16 := by rw [roundsL_length, HFL.out]
        have HLS := Lib.hid hlS
        clear hs hf hb hlS
        rcases Nat.lt_or_ge c 10 with hlt | hge
        · have hc10 : decide ((c : Int) < 10) = true := decide_eq_true (by omega)
          go_wp2_with fail
          generalize hG : roundsL F c = G at HS HLS
          have HG := Lib.hid hG
          clear hG
          obtain ⟨wb, hwb⟩ : ∃ wb : World, wb = wr := ⟨_, rfl⟩
          go_loopw [13, 15] (fun v i wx => ∃ j : Nat, j ≤ 4 ∧ i = .int .i64 j ∧ SliceAt wx w.heap.size v (stepsL G j) ∧ SliceAt wx w.heap.size u9 F ∧ Below w.heap.size w wx) (fun _ i _ => 4 - (intOf i).toNat)
          case atStart => exact ⟨0, Nat.zero_le _, rfl, HS.out, HF2.out, HB2.out⟩
          case round =>
            obtain ⟨j, hj, rfl, hs, hf, hb⟩ := hrel
            have HS3 := Lib.hid hs
            have HF3 := Lib.hid hf
            have HB3 := Lib.hid hb
            have hl3 : (stepsL G j).length = 16 := by rw [stepsL_length, HLS.out]
            have HL3 := Lib.hid hl3
            clear hs hf hb hl3
            rcases Nat.lt_or_ge j 4 with hlj | hgj
            · go_wp2_with fail
              refine (Rstirred_int w.heap.size _ _ HL3.out (j, 4 + j, 8 + j, 12 + j) ⟨by omega, by show 4 + j < 16; omega, by show 8 + j < 16; omega, by show 12 + j < 16; omega⟩ _ _ _ _ rfl (by show (4 : Int) + (j : Int) = ((4 + j : Nat) : Int); omega) (by show (8 : Int) + (j : Int) = ((8 + j : Nat) : Int); omega) (by show (12 : Int) + (j : Int) = ((12 + j : Nat) : Int); omega) _ HS3.out).mono ?_
              rintro e w5 ⟨v5, rfl, hs5, hb5⟩
              have hx5 : stirAt (stepsL G j) (j, 4 + j, 8 + j, 12 + j) = stepsL G (j + 1) := by rw [stepsL_next G j (by omega), place_low j hlj]
              rw [hx5] at hs5
              have HS5 := Lib.hid (hs5.mono HB3.out.size)
              have HF5 := Lib.hid (HF3.out.below hb5)
              have HB5 := Lib.hid (bthen HB3.out hb5)
              clear hs5 hx5 hb5
              go_wp2_with fail
              go_roundw
              case rel => exact ⟨j + 1, by omega, by go_num, HS5.out, HF5.out, HB5.out⟩
              case measure => simp [intOf]; omega
            · have HJ := Lib.hid (show j = 4 by omega)
              have hj4 : decide ((j : Int) < 4) = false := decide_eq_false (by omega)
              go_wp2_with fail
              obtain ⟨wd, hwd⟩ : ∃ wd : World, wd = wr := ⟨_, rfl⟩
              go_loopw [13, 16] (fun v i wx => ∃ q : Nat, q ≤ 4 ∧ i = .int .i64 q ∧ SliceAt wx w.heap.size v (stepsL G (4 + q)) ∧ SliceAt wx w.heap.size u9 F ∧ Below w.heap.size w wx) (fun _ i _ => 4 - (intOf i).toNat)
              case atStart => exact ⟨0, Nat.zero_le _, rfl, by have := HS3.out; rwa [HJ.out] at this, HF3.out, HB3.out⟩
              case round =>
                obtain ⟨q, hq, rfl, hs, hf, hb⟩ := hrel
                have HS4 := Lib.hid hs
                have HF4 := Lib.hid hf
                have HB4 := Lib.hid hb
                have hl4 : (stepsL G (4 + q)).length = 16 := by rw [stepsL_length, HLS.out]
                have HL4 := Lib.hid hl4
                clear hs hf hb hl4
                rcases Nat.lt_or_ge q 4 with hlq | hgq
                · go_wp2_with fail
                  refine (Rstirred_int w.heap.size _ _ HL4.out (q, 4 + (q + 1) % 4, 8 + (q + 2) % 4, 12 + (q + 3) % 4) ⟨by omega, by show 4 + (q + 1) % 4 < 16; omega, by show 8 + (q + 2) % 4 < 16; omega, by show 12 + (q + 3) % 4 < 16; omega⟩ _ _ _ _ rfl (by show (4 : Int) + ((q : Int) + 1) % 4 = ((4 + (q + 1) % 4 : Nat) : Int); omega) (by show (8 : Int) + ((q : Int) + 2) % 4 = ((8 + (q + 2) % 4 : Nat) : Int); omega) (by show (12 : Int) + ((q : Int) + 3) % 4 = ((12 + (q + 3) % 4 : Nat) : Int); omega) _ HS4.out).mono ?_
                  rintro e w6 ⟨v6, rfl, hs6, hb6⟩
                  have hx6 : stirAt (stepsL G (4 + q)) (q, 4 + (q + 1) % 4, 8 + (q + 2) % 4, 12 + (q + 3) % 4) = stepsL G (4 + (q + 1)) := by rw [show 4 + (q + 1) = (4 + q) + 1 by omega, stepsL_next G (4 + q) (by omega), place_high q hlq]
                  rw [hx6] at hs6
                  have HS6 := Lib.hid (hs6.mono HB4.out.size)
                  have HF6 := Lib.hid (HF4.out.below hb6)
                  have HB6 := Lib.hid (bthen HB4.out hb6)
                  clear hs6 hx6 hb6
                  go_wp2_with fail
                  go_roundw
                  case rel => exact ⟨q + 1, by omega, by go_num, HS6.out, HF6.out, HB6.out⟩
                  case measure => simp [intOf]; omega
                · have HQ4 := Lib.hid (show q = 4 by omega)
                  have hq4 : decide ((q : Int) < 4) = false := decide_eq_false (by omega)
                  go_wp2_with fail
                  go_roundw
                  case rel =>
                    refine ⟨c + 1, by omega, by go_num, ?_, HF4.out, HB4.out⟩
                    have h8 := HS4.out
                    rw [HQ4.out, ← HG.out] at h8
                    exact h8
                  case measure => simp [intOf]; omega
        · have hc10 : decide ((c : Int) < 10) = false := decide_eq_false (by omega)
          have HC := Lib.hid (show c = 10 by omega)
          go_wp2_with fail
          generalize hG : roundsL F c = G at HS HLS
          have HG := Lib.hid hG
          clear hG
          obtain ⟨wb, hwb⟩ : ∃ wb : World, wb = wr := ⟨_, rfl⟩
          go_loopw [17, 18] (fun v i wx => ∃ (q : Nat) (r : ByteArray), q ≤ 16 ∧ i = .int .i64 q ∧ v = .string r ∧ Is r (outL G F q) ∧ SliceAt wx w.heap.size u13 G ∧ SliceAt wx w.heap.size u9 F ∧ Below w.heap.size w wx) (fun _ i _ => 16 - (intOf i).toNat)
          case atStart => exact ⟨0, ⟨#[]⟩, Nat.zero_le _, rfl, rfl, Is.of [], HS.out, HF2.out, HB2.out⟩
          case round =>
            obtain ⟨q, r, hq, rfl, rfl, hr, hs, hf, hb⟩ := hrel
            have HR := Lib.hid hr
            have HS5 := Lib.hid hs
            have HF5 := Lib.hid hf
            have HB5 := Lib.hid hb
            have hrz : r.size ≤ 64 := by rw [hr.size, outL_length]; omega
            rcases Nat.lt_or_ge q 16 with hlq | hgq
            · obtain ⟨gs, caps, rfl, _, _, hcs, hcells, _⟩ := hs.lt
              obtain ⟨gf, capf, rfl, _, _, hcf, hcellf, _⟩ := hf.lt
              have e1 := hcells q (by rw [HLS.out]; exact hlq)
              have e2 := hcellf q (by rw [HFL.out]; exact hlq)
              have hlS := HLS.out
              have hlF := HFL.out
              have hos := outL_succ G F q
              unfold sumAt at hos
              have HOS := Lib.hid hos
              rw [hlS, hlF]
              generalize G.getD q 0 = xg at e1 HOS
              generalize F.getD q 0 = xf at e2 HOS
              have b0 : (0 : Int) ≤ (q : Int) := Int.natCast_nonneg _
              have b1 : (q : Int) < 16 := by omega
              clear hr hs hf hb hos hcells hcellf hlS hlF
              go_wp2_with fail
              go_region_with (go_at_call 41; refine (RLow_walk _ 4 _).mono ?_; rintro e w7 ⟨rl, rfl, hrl, hbl⟩; have hzl : rl.size ≤ 4 := (by rw [hrl.size, lowL_length]; exact Nat.le_refl _))
              all_goals
                have HRL := Lib.hid (show Is rl (lowL (BitVec.setWidth 64 (xg + xf)) 4) from hrl)
                have HBL := Lib.hid (show Below wr.heap.size wr w7 from (Below.drew (Below.refl _ _)).trans hbl)
                clear hrl hbl
                go_wp2_with fail
                go_roundw
                case rel =>
                  refine ⟨q + 1, _, by omega, by go_num, rfl, ?_, by have := HS5.out.below HBL.out; rwa [HLS.out] at this, by have := HF5.out.below HBL.out; rwa [HFL.out] at this, bthen HB5.out HBL.out⟩
                  rw [HOS.out]
                  exact HR.out.append HRL.out
                case measure => simp [intOf]; omega
            · have HQ := Lib.hid (show q = 16 by omega)
              go_wp2_with fail
              go_ret2
              refine ⟨_, rfl, ?_, HB5.out⟩
              unfold blockL
              rw [HFQ.out, ← HC.out, HG.out, ← HQ.out]
              exact HR.out
end Go.Proofs.Ytfglhemmccihfaa
namespace Go.Proofs.Ytfglhemmccihfaa
open Go.RowKit

set_option maxHeartbeats 400000 in
theorem RBlock_no (key nonce : ByteArray) (counter : BitVec 32) (h : ¬ (key.size = 32 ∧ nonce.size = 12)) (w : World) :
    Calls Try.prog 66 #[.string key, .int .u32 (bvi counter), .string nonce] w fun e w' => e = .returned (.tuple #[.string ⟨#[]⟩, .int .i64 5]) ∧ w = w' := by
  by_cases h1 : key.size = 32
  · have k1 : ((key.size : Int) != 32) = false := by rw [bne_eq_false_iff_eq]; omega
    have k2 : ((nonce.size : Int) != 12) = true := by rw [bne_iff_ne]; omega
    clear h h1
    go_enter Try.func66, Try.ntmps66
    go_wp2_with fail
    go_ret2
    exact ⟨rfl, rfl⟩
  · have k1 : ((key.size : Int) != 32) = true := by rw [bne_iff_ne]; omega
    clear h h1
    go_enter Try.func66, Try.ntmps66
    go_wp2_with fail
    go_ret2
    exact ⟨rfl, rfl⟩

set_option maxHeartbeats 400000 in
theorem RStream_no (key nonce : ByteArray) (counter : BitVec 32) (n : Int) (h : ¬ (key.size = 32 ∧ nonce.size = 12) ∨ n < 0 ∨ 65536 < n) (w : World) :
    Calls Try.prog 38 #[.string key, .int .u32 (bvi counter), .string nonce, .int .i64 n] w fun e w' => e = .returned (.tuple #[.string ⟨#[]⟩, .int .i64 5]) ∧ w = w' := by
  by_cases h1 : key.size = 32
  · have k1 : ((key.size : Int) != 32) = false := by rw [bne_eq_false_iff_eq]; omega
    by_cases h2 : nonce.size = 12
    · have k2 : ((nonce.size : Int) != 12) = false := by rw [bne_eq_false_iff_eq]; omega
      by_cases h3 : n < 0
      · have g1 : decide (n < 0) = true := decide_eq_true h3
        clear h h1 h2
        go_enter Try.func38, Try.ntmps38
        go_wp2_with fail
        go_ret2
        exact ⟨rfl, rfl⟩
      · have g1 : decide (n < 0) = false := decide_eq_false h3
        have g2 : decide ((65536 : Int) < n) = true := decide_eq_true (by omega)
        clear h h1 h2
        go_enter Try.func38, Try.ntmps38
        go_wp2_with fail
        go_ret2
        exact ⟨rfl, rfl⟩
    · have k2 : ((nonce.size : Int) != 12) = true := by rw [bne_iff_ne]; omega
      clear h h1 h2
      go_enter Try.func38, Try.ntmps38
      go_wp2_with fail
      go_ret2
      exact ⟨rfl, rfl⟩
  · have k1 : ((key.size : Int) != 32) = true := by rw [bne_iff_ne]; omega
    clear h h1
    go_enter Try.func38, Try.ntmps38
    go_wp2_with fail
    go_ret2
    exact ⟨rfl, rfl⟩

set_option maxRecDepth 100000 in
set_option maxHeartbeats 1000000 in
theorem RStream_ok (key nonce : ByteArray) (counter : BitVec 32) (n : Nat) (hk : key.size = 32) (hn : nonce.size = 12) (hm : n ≤ 65536) (w : World) :
    Calls Try.prog 38 #[.string key, .int .u32 (bvi counter), .string nonce, .int .i64 n] w fun e w' => ∃ r, e = .returned (.tuple #[.string r, .int .i64 0]) ∧ Is r (streamL key.data.toList counter nonce.data.toList n) ∧ Below w.heap.size w w' := by
  have HK := Lib.hid hk
  have HN := Lib.hid hn
  have k1 : ((key.size : Int) != 32) = false := by rw [bne_eq_false_iff_eq]; omega
  have k2 : ((nonce.size : Int) != 12) = false := by rw [bne_eq_false_iff_eq]; omega
  have g1 : decide ((n : Int) < 0) = false := decide_eq_false (by omega)
  have g2 : decide ((65536 : Int) < (n : Int)) = false := decide_eq_false (by omega)
  clear hk hn
  go_enter Try.func38, Try.ntmps38
  go_wp2_with fail
  go_loopg [10, 11] ((n + 63) / 64) (fun gg o c wr => ∃ (k : Nat) (r : ByteArray), k ≤ (n + 63) / 64 ∧ gg = (n + 63) / 64 - k ∧ o = .string r ∧ c = .int .u32 (bvi (BitVec.ofNat 32 k)) ∧ Is r (blocksL key.data.toList counter nonce.data.toList k) ∧ Below w.heap.size w wr)
  case atStart => exact ⟨0, ⟨#[]⟩, Nat.zero_le _, rfl, rfl, rfl, Is.of [], Below.refl _ _⟩
  case round =>
    obtain ⟨k, r, hkn, hgg, rfl, rfl, hr, hb⟩ := hrel
    have HB2 := Lib.hid hb
    have hrz : r.size = 64 * k := by rw [hr.size, blocksL_length]
    have HGG := Lib.hid hgg
    have HR := Lib.hid hr
    have hrz2 : r.size ≤ 70000 := by omega
    have HZ := Lib.hid hrz
    clear hb hgg hr
    rcases Nat.lt_or_ge (64 * k) n with hlt | hge
    · have hL2 : (r.size : Int) < (n : Int) := by omega
      clear hrz
      go_wp2_with fail
      refine (RBlock_ok key nonce (counter + BitVec.ofNat 32 k) HK.out HN.out _).mono ?_
      rintro e w5 ⟨r5, rfl, hr5, hb5⟩
      have hz5 : r5.size ≤ 64 := by rw [hr5.size, blockL_length]; exact Nat.le_refl _
      have HR5 := Lib.hid hr5
      have HB5 := Lib.hid (bthen HB2.out hb5)
      clear hr5 hb5
      go_wp2_with fail
      go_roundg ((n + 63) / 64 - (k + 1))
      case measure => rw [HGG.out]; omega
      case rel =>
        refine ⟨k + 1, _, by omega, rfl, rfl, ?_, ?_, HB5.out⟩
        · rw [BitVec.ofNat_add]
        · rw [blocksL]
          exact HR.out.append HR5.out
    · have HKK := Lib.hid (show (n + 63) / 64 = k by omega)
      have hL2 : ¬ ((r.size : Int) < (n : Int)) := by omega
      have hRn : n ≤ r.size := by omega
      have HRR := Lib.hid (HR.out.extract 0 n)
      clear hrz
      go_wp2_with fail
      go_ret2
      refine ⟨_, rfl, ?_, HB2.out⟩
      unfold streamL
      rw [HKK.out]
      exact HRR.out

set_option maxHeartbeats 400000 in
theorem RTurn_ok (key nonce text : ByteArray) (counter : BitVec 32) (hk : key.size = 32) (hn : nonce.size = 12) (hm : text.size ≤ 65536) (w : World) :
    Calls Try.prog 35 #[.string key, .int .u32 (bvi counter), .string nonce, .string text] w fun e w' => ∃ r, e = .returned (.tuple #[.string r, .int .i64 0]) ∧ Is r (turnL key.data.toList counter nonce.data.toList text.data.toList) ∧ Below w.heap.size w w' := by
  have HK := Lib.hid hk
  have HN := Lib.hid hn
  clear hk hn
  go_enter Try.func35, Try.ntmps35
  go_wp2_with fail
  refine (RStream_ok key nonce counter text.size HK.out HN.out hm _).mono ?_
  rintro e w1 ⟨r1, rfl, hr1, hb1⟩
  have hz : text.size = r1.size := by rw [hr1.size, streamL_length]
  have HR := Lib.hid hr1
  have HZ := Lib.hid hz
  clear hr1 hz
  go_wp2_with fail
  refine (RXor_ok text r1 HZ.out (by omega) _).mono ?_
  rintro e w2 ⟨r2, rfl, hr2, hb2⟩
  have HR2 := Lib.hid hr2
  clear hr2
  go_wp2_with fail
  go_ret2
  refine ⟨_, rfl, ?_, bthen hb1 hb2⟩
  have h := HR2.out
  rw [HR.out.out] at h
  unfold turnL
  rw [Array.length_toList]
  exact h

set_option maxHeartbeats 400000 in
theorem RTurn_no (key nonce text : ByteArray) (counter : BitVec 32) (h : ¬ (key.size = 32 ∧ nonce.size = 12) ∨ 65536 < text.size) (w : World) :
    Calls Try.prog 35 #[.string key, .int .u32 (bvi counter), .string nonce, .string text] w fun e w' => e = .returned (.tuple #[.string ⟨#[]⟩, .int .i64 5]) ∧ w = w' := by
  have HH := Lib.hid h
  clear h
  go_enter Try.func35, Try.ntmps35
  go_wp2_with fail
  refine (RStream_no key nonce counter text.size (HH.out.elim Or.inl fun h => Or.inr (Or.inr (by omega))) _).mono ?_
  rintro e w1 ⟨rfl, rfl⟩
  go_wp2_with fail
  go_ret2
  exact ⟨rfl, rfl⟩
end Go.Proofs.Ytfglhemmccihfaa

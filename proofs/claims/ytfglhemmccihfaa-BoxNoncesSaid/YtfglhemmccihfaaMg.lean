/-
Layer 4, the program's package chacha: Block.
-/
import Derived.Deep.DeepCutAuto
import Derived.Deep.RegionHeld3
import Derived.StillTailTactics
import Derived.Test.YtfglhemmccihfaaMd
import Derived.Test.YtfglhemmccihfaaMf
namespace Go.Proofs.Ytfglhemmccihfaa
open Go.RowKit
theorem words_cells (l : List (BitVec 32)) : (words l).toArray.all (·.oneCell') = true := by
  rw [Array.all_eq_true_iff_forall_mem]
  intro x hx
  simp only [List.mem_toArray, words, List.mem_map] at hx
  obtain ⟨a, _, rfl⟩ := hx
  rfl
def zero16 : Array Value := #[.int .u32 0, .int .u32 0, .int .u32 0, .int .u32 0, .int .u32 0, .int .u32 0, .int .u32 0, .int .u32 0, .int .u32 0, .int .u32 0, .int .u32 0, .int .u32 0, .int .u32 0, .int .u32 0, .int .u32 0, .int .u32 0]
def zeroP : Array Value := #[.int .i64 0, .int .i64 0, .int .i64 0, .int .i64 0, .int .i64 0, .int .i64 0, .int .i64 0, .int .i64 0, .int .i64 0, .int .i64 0, .int .i64 0, .int .i64 0, .int .i64 0, .int .i64 0, .int .i64 0, .int .i64 0, .int .i64 0, .int .i64 0, .int .i64 0, .int .i64 0, .int .i64 0, .int .i64 0, .int .i64 0, .int .i64 0, .int .i64 0, .int .i64 0, .int .i64 0, .int .i64 0, .int .i64 0, .int .i64 0, .int .i64 0, .int .i64 0]
theorem cells_keep {w w' : World} {b o : Nat} {v : Value} (h : w.cell? ⟨b, o, none⟩ = some v) (hb : Below w.heap.size w w') : w'.cell? ⟨b, o, none⟩ = some v :=
  (hb.cell (p := ⟨b, o, none⟩) (cell_lt h)).trans h
theorem Stir_four (a b c d q0 q1 q2 q3 : BitVec 32) (w : World) (h : stir4 a b c d = [q0, q1, q2, q3]) :
    Calls Try.prog 62 #[.agg #[.int .u32 (bvi a), .int .u32 (bvi b), .int .u32 (bvi c), .int .u32 (bvi d)]] w fun e w' => e = .returned (.agg #[.int .u32 (bvi q0), .int .u32 (bvi q1), .int .u32 (bvi q2), .int .u32 (bvi q3)]) ∧ Below w.heap.size w w' := by
  have := Stir_walk a b c d w
  rw [h] at this
  exact this
theorem RowAt.newDrew' (w : World) (cs : Array Value) (T : TypeId) (fz : Nat × Nat) : RowAt (w.alloc (.cells cs T fz)).drew w.heap.size cs T fz := RowAt.new w cs T fz
theorem row4 {w : World} {g : Nat} {z0 z1 z2 z3 : Value} {T : TypeId} (h : RowAt w g #[z0, z1, z2, z3] T (0, 0)) :
    w.cell? ⟨g, 0, none⟩ = some z0 ∧ w.cell? ⟨g, 1, none⟩ = some z1 ∧ w.cell? ⟨g, 2, none⟩ = some z2 ∧ w.cell? ⟨g, 3, none⟩ = some z3 ∧
    w.frozen? ⟨g, 0, none⟩ = false ∧ w.frozen? ⟨g, 1, none⟩ = false ∧ w.frozen? ⟨g, 2, none⟩ = false ∧ w.frozen? ⟨g, 3, none⟩ = false :=
  ⟨h.cell (i := 0) rfl, h.cell (i := 1) rfl, h.cell (i := 2) rfl, h.cell (i := 3) rfl, h.free (by simp), h.free (by simp), h.free (by simp), h.free (by simp)⟩
/-- A row of places. -/
def placeAt (j : Nat) : Nat × Nat × Nat × Nat := placesL.getD j (0, 0, 0, 0)
def placeV (j : Nat) : Array Value := #[.int .i64 ((placeAt j).1 : Nat), .int .i64 ((placeAt j).2.1 : Nat), .int .i64 ((placeAt j).2.2.1 : Nat), .int .i64 ((placeAt j).2.2.2 : Nat)]
theorem place_index (j : Nat) (h : j < 8) (wx : World) : (Instr.index 89 (.agg placesA) (.int .i64 j)).run Try.prog wx =
    .ok (.agg #[.int .i64 ((placeAt j).1 : Nat), .int .i64 ((placeAt j).2.1 : Nat), .int .i64 ((placeAt j).2.2.1 : Nat), .int .i64 ((placeAt j).2.2.2 : Nat)]) wx := by
  obtain rfl | rfl | rfl | rfl | rfl | rfl | rfl | rfl : j = 0 ∨ j = 1 ∨ j = 2 ∨ j = 3 ∨ j = 4 ∨ j = 5 ∨ j = 6 ∨ j = 7 := by omega
  all_goals kernel_rfl
theorem place_lt (j : Nat) : (placeAt j).1 < 16 ∧ (placeAt j).2.1 < 16 ∧ (placeAt j).2.2.1 < 16 ∧ (placeAt j).2.2.2 < 16 := by
  unfold placeAt
  rw [List.getD_eq_getElem?_getD]
  rcases Nat.lt_or_ge j placesL.length with h | h
  · rw [List.getElem?_eq_getElem h]
    exact (show ∀ p ∈ placesL, p.1 < 16 ∧ p.2.1 < 16 ∧ p.2.2.1 < 16 ∧ p.2.2.2 < 16 by decide) _ (List.getElem_mem h)
  · rw [List.getElem?_eq_none h]; decide
theorem words_at (l : List (BitVec 32)) (i : Nat) (h : i < l.length) : (words l).toArray[i]? = some (.int .u32 (bvi (l.getD i 0))) := by
  rw [List.getElem?_toArray]
  simp [words, u32c, List.getD_eq_getElem?_getD, h]
theorem words_set (l : List (BitVec 32)) (i : Nat) (x : BitVec 32) : (words l).toArray.setIfInBounds i (.int .u32 (bvi x)) = (words (l.set i x)).toArray := by
  rw [List.setIfInBounds_toArray]
  simp [words, List.map_set, u32c]
/-- So many of four numbers laid back. -/
def putL (S : List (BitVec 32)) (P : List Nat) (Q : List (BitVec 32)) : Nat → List (BitVec 32)
  | 0 => S
  | q + 1 => (putL S P Q q).set (P.getD q 0) (Q.getD q 0)
theorem putL_length (S : List (BitVec 32)) (P : List Nat) (Q : List (BitVec 32)) (q : Nat) : (putL S P Q q).length = S.length := by
  induction q with
  | zero => rfl
  | succ q ih => rw [putL, List.length_set, ih]
def places4 (j : Nat) : List Nat := [(placeAt j).1, (placeAt j).2.1, (placeAt j).2.2.1, (placeAt j).2.2.2]
def quadOf (S : List (BitVec 32)) (j : Nat) : List (BitVec 32) := stir4 (S.getD (placeAt j).1 0) (S.getD (placeAt j).2.1 0) (S.getD (placeAt j).2.2.1 0) (S.getD (placeAt j).2.2.2 0)
theorem putL_stir (S : List (BitVec 32)) (j : Nat) : putL S (places4 j) (quadOf S j) 4 = stirAt S (placeAt j) := rfl
theorem stepsL_next (S : List (BitVec 32)) (j : Nat) (h : j < 8) : stepsL S (j + 1) = stirAt (stepsL S j) (placeAt j) := by
  rw [stepsL_succ S j h]
  unfold placeAt
  rw [List.getD_eq_getElem?_getD, List.getElem?_eq_getElem h]; rfl
theorem place_cell (j q : Nat) (hq : q < 4) : (placeV j)[q]? = some (.int .i64 (((places4 j).getD q 0 : Nat) : Int)) := by
  match q, hq with
  | 0, _ => rfl
  | 1, _ => rfl
  | 2, _ => rfl
  | 3, _ => rfl
theorem places4_lt (j q : Nat) : (places4 j).getD q 0 < 16 := by
  have := place_lt j
  match q with
  | 0 => exact this.1
  | 1 => exact this.2.1
  | 2 => exact this.2.2.1
  | 3 => exact this.2.2.2
  | q + 4 => show 0 < 16; omega

set_option maxRecDepth 100000 in
set_option maxHeartbeats 8000000 in
theorem Block_ok (key nonce : ByteArray) (counter : BitVec 32) (hk : key.size = 32) (hn : nonce.size = 12) (w : World) :
    Calls Try.prog 37 #[.string key, .int .u32 (bvi counter), .string nonce] w fun e w' => ∃ r, e = .returned (.tuple #[.string r, .int .i64 0]) ∧ Is r (blockL key.data.toList counter nonce.data.toList) ∧ Below w.heap.size w w' := by
  have hd : decide (key.size = 32 ∧ nonce.size = 12) = true := decide_eq_true ⟨hk, hn⟩
  go_enter Try.func37, Try.ntmps37
  go_wp2_with fail
  refine (may_walk _ _ _).mono ?_
  rintro e w1 ⟨rfl, rfl⟩
  rw [hd]
  clear hd
  go_wp2_with fail
  refine (begin_walk _ _ _ hk hn _).mono ?_
  rintro e w1 ⟨rfl, hb1⟩
  have hfl := beginL_length key.data.toList counter nonce.data.toList
  have HFQ := Lib.hid (show beginL key.data.toList counter nonce.data.toList = beginL key.data.toList counter nonce.data.toList from rfl)
  generalize hF : beginL key.data.toList counter nonce.data.toList = F at hfl ⊢
  have HF := Lib.hid hF
  clear hF HFQ
  have HSZ := Lib.hid (show (words F).toArray.size = 16 by simp [words_length, hfl])
  have HFL := Lib.hid hfl
  have HB1 := Lib.hid hb1
  clear hfl hb1
  unfold wordsV
  go_wp2_with (with_reducible refine wpList_store_rowTo rfl 86 (.tmp 8) (.tmp 24) rfl rfl w1.heap.size (words F).toArray ?h1 ?h2 86 _ (heap_alloc_last w1 _) ?h3 ?h4 ?h5 ?_)
  case h1 => rfl
  case h2 => rfl
  case h3 => rw [HSZ.out]; kernel_rfl
  case h4 => rw [HSZ.out]; rfl
  case h5 => exact words_cells _
  rw [World.setRow_alloc_new]
  go_wp2_with fail
  refine region_two (by kernel_rfl) 25 26 9 10 86 89 (words F).toArray placesA zero16 zeroP ⟨rfl, rfl, rfl, rfl, rfl, rfl⟩ rfl rfl (by decide) 79 rfl (by decide)
    (by kernel_rfl) ⟨by kernel_rfl, by kernel_rfl⟩ ⟨by kernel_rfl, by kernel_rfl⟩ rfl rfl (by rw [HSZ.out]; kernel_rfl) (by rw [HSZ.out]; rfl) (words_cells _) (by kernel_rfl) (by kernel_rfl) (by kernel_rfl) ?_ ?_ ?_ ?_ ?_
  · intro a w2 K ha hb hK
    refine wp_load_row 86 _ rfl w1.heap.size ((ha.slot (j := 8) (by decide)).trans rfl) 86 (words F).toArray (0, 0) _ ((RowAt.new w1 _ _ _).below hb (by simp)).out Try.underlying86 rfl (by rw [HSZ.out]; kernel_rfl) (hK w2 (Below.refl _ _))
  · intro a w2 K ha hb hK
    go_simp
    refine (places_walk _).mono ?_
    rintro e w3 ⟨rfl, hb3⟩
    exact hK w3 hb3
  · intro a w2 K hK
    go_simp
    exact hK
  · intro a w2 K hK
    go_simp
    exact hK
  intro w2 sb ab hsb hab hne hrs hra hb2
  simp only [Act.put, List.setIfInBounds_toArray, List.set_cons_zero, List.set_cons_succ]
  have HB2 := Lib.hid (show Below w.heap.size w w2 from (HB1.out.alloc HB1.out.size _).trans (hb2.mono (by have := HB1.out.size; simp; omega)))
  have hfb : RowAt w2 w1.heap.size (words F).toArray 86 (0, 0) := (RowAt.new w1 _ _ _).below hb2 (by simp)
  have z1 : w.heap.size ≤ w1.heap.size := HB1.out.size
  have z2 : w1.heap.size < sb := by simp at hsb; omega
  have z3 : w1.heap.size < ab := by simp at hab; omega
  have HFB := Lib.hid hfb
  have HSB := Lib.hid hrs
  have HAB := Lib.hid hra
  unfold ptrV
  generalize w1.heap.size = fb at HFB z1 z2 z3 ⊢
  clear hfb hrs hra hb2 hsb hab HB1
  go_wp2_with fail
  go_loopw [27] (fun i wr => ∃ k : Nat, k ≤ 10 ∧ i = .int .i64 k ∧ RowAt wr sb (words (roundsL F k)).toArray 86 (0, 0) ∧ RowAt wr fb (words F).toArray 86 (0, 0) ∧ RowAt wr ab placesA 89 (0, 0) ∧ Below w.heap.size w wr) (fun i _ => 10 - (intOf i).toNat)
  case atStart => exact ⟨0, Nat.zero_le _, rfl, HSB.out, HFB.out, HAB.out, HB2.out⟩
  case round =>
    obtain ⟨k, hk, rfl, hrs, hrf, hra, hbel⟩ := hrel
    have HS := Lib.hid hrs
    have HR := Lib.hid hrf
    have HA := Lib.hid hra
    have HB := Lib.hid hbel
    have hlS : (roundsL F k).length = 16 := by rw [roundsL_length, HFL.out]
    have HLS := Lib.hid hlS
    clear hrs hrf hra hbel hlS
    rcases Nat.lt_or_ge k 10 with hlt | hge
    · go_wp2_with (with_reducible refine wpList_load_row rfl 89 (.tmp 10) rfl ab ?h1 89 placesA (0, 0) _ HA.out.out Try.underlying89 rfl ?h2 ?_)
      case h1 => rfl
      case h2 => kernel_rfl
      go_wp2_with fail
      generalize hG : roundsL F k = G at HS HLS
      have HG := Lib.hid hG
      clear hG
      obtain ⟨wo, hwo⟩ : ∃ wo : World, wo = wr := ⟨_, rfl⟩
      subst hwo
      go_loopw [30] (fun i wx => ∃ j : Nat, j ≤ 8 ∧ i = .int .i64 j ∧ RowAt wx sb (words (stepsL G j)).toArray 86 (0, 0) ∧ RowAt wx fb (words F).toArray 86 (0, 0) ∧ RowAt wx ab placesA 89 (0, 0) ∧ Below w.heap.size w wx) (fun i _ => 8 - (intOf i).toNat)
      case atStart => exact ⟨0, Nat.zero_le _, rfl, HS.out, HR.out, HA.out, HB.out⟩
      case round =>
        obtain ⟨j, hj, rfl, hrs2, hrf2, hra2, hbel2⟩ := hrel
        have HS2 := Lib.hid hrs2
        have HR2 := Lib.hid hrf2
        have HA2 := Lib.hid hra2
        have HBB := Lib.hid hbel2
        have hl2 : (stepsL G j).length = 16 := by rw [stepsL_length, HLS.out]
        have HL2 := Lib.hid hl2
        clear hrs2 hrf2 hra2 hbel2 hl2
        rcases Nat.lt_or_ge j 8 with hlj | hgj
        · have hix := place_index j hlj
          go_wp2_with fail
          obtain ⟨hp0, hp1, hp2, hp3⟩ := place_lt j
          have HP := Lib.hid (RowAt.new wr (placeV j) 88 (0, 0))
          have HS3 := Lib.hid (HS2.out.alloc (.cells (placeV j) 88))
          have HR3 := Lib.hid (HR2.out.alloc (.cells (placeV j) 88))
          have HA3 := Lib.hid (HA2.out.alloc (.cells (placeV j) 88))
          have HB3 := Lib.hid (HBB.out.alloc HBB.out.size (.cells (placeV j) 88))
          have zs : sb < wr.heap.size := HS2.out.lt
          change Code.wp _ _ _ _ (wr.alloc (.cells (placeV j) 88))
          generalize hwy : wr.alloc (.cells (placeV j) 88) = wy at HP HS3 HR3 HA3 HB3 ⊢
          have hpz : wr.heap.size < wy.heap.size := by rw [← hwy]; simp
          generalize wr.heap.size = pb at HP zs hpz ⊢
          clear hwy
          have c0 : wy.cell? ⟨pb, 0, none⟩ = some (.int .i64 (((placeAt j).1 : Nat) : Int)) := HP.out.cell (i := 0) rfl
          have c1 : wy.cell? ⟨pb, 1, none⟩ = some (.int .i64 (((placeAt j).2.1 : Nat) : Int)) := HP.out.cell (i := 1) rfl
          have c2 : wy.cell? ⟨pb, 2, none⟩ = some (.int .i64 (((placeAt j).2.2.1 : Nat) : Int)) := HP.out.cell (i := 2) rfl
          have c3 : wy.cell? ⟨pb, 3, none⟩ = some (.int .i64 (((placeAt j).2.2.2 : Nat) : Int)) := HP.out.cell (i := 3) rfl
          have s0 : wy.cell? ⟨sb, (placeAt j).1, none⟩ = some (.int .u32 (bvi ((stepsL G j).getD (placeAt j).1 0))) := HS3.out.cell (words_at _ _ (by rw [HL2.out]; omega))
          have s1 : wy.cell? ⟨sb, (placeAt j).2.1, none⟩ = some (.int .u32 (bvi ((stepsL G j).getD (placeAt j).2.1 0))) := HS3.out.cell (words_at _ _ (by rw [HL2.out]; omega))
          have s2 : wy.cell? ⟨sb, (placeAt j).2.2.1, none⟩ = some (.int .u32 (bvi ((stepsL G j).getD (placeAt j).2.2.1 0))) := HS3.out.cell (words_at _ _ (by rw [HL2.out]; omega))
          have s3 : wy.cell? ⟨sb, (placeAt j).2.2.2, none⟩ = some (.int .u32 (bvi ((stepsL G j).getD (placeAt j).2.2.2 0))) := HS3.out.cell (words_at _ _ (by rw [HL2.out]; omega))
          have b0 : (0 : Int) ≤ (((placeAt j).1 : Nat) : Int) := Int.natCast_nonneg _
          have d0 : (((placeAt j).1 : Nat) : Int) < 16 := by omega
          have b1 : (0 : Int) ≤ (((placeAt j).2.1 : Nat) : Int) := Int.natCast_nonneg _
          have d1 : (((placeAt j).2.1 : Nat) : Int) < 16 := by omega
          have b2 : (0 : Int) ≤ (((placeAt j).2.2.1 : Nat) : Int) := Int.natCast_nonneg _
          have d2 : (((placeAt j).2.2.1 : Nat) : Int) < 16 := by omega
          have b3 : (0 : Int) ≤ (((placeAt j).2.2.2 : Nat) : Int) := Int.natCast_nonneg _
          have d3 : (((placeAt j).2.2.2 : Nat) : Int) < 16 := by omega
          have n1 : wy.heap.size ≠ pb := by omega
          have n2 : pb ≠ wy.heap.size := by omega
          have n3 : wy.heap.size ≠ sb := by omega
          have n4 : sb ≠ wy.heap.size := by omega
          obtain ⟨q0, q1, q2, q3, hq⟩ : ∃ q0 q1 q2 q3, quadOf (stepsL G j) j = [q0, q1, q2, q3] := ⟨_, _, _, _, rfl⟩
          have HST := Lib.hid (fun wz => Stir_four _ _ _ _ q0 q1 q2 q3 wz hq)
          have HQ := Lib.hid hq
          clear hq
          go_cut [13] (fun s13 wx => ∃ g, s13 = .pointer (some ⟨g, 0, none⟩) ∧ wy.heap.size ≤ g ∧ RowAt wx g (words [q0, q1, q2, q3]).toArray 91 (0, 0) ∧ Below wy.heap.size wy wx)
          case first =>
            go_region_held3 (fun w' => w'.cell? ⟨pb, 0, none⟩ = some (.int .i64 (((placeAt j).1 : Nat) : Int)) ∧ w'.cell? ⟨pb, 1, none⟩ = some (.int .i64 (((placeAt j).2.1 : Nat) : Int)) ∧ w'.cell? ⟨pb, 2, none⟩ = some (.int .i64 (((placeAt j).2.2.1 : Nat) : Int)) ∧ w'.cell? ⟨pb, 3, none⟩ = some (.int .i64 (((placeAt j).2.2.2 : Nat) : Int)) ∧ w'.cell? ⟨sb, (placeAt j).1, none⟩ = some (.int .u32 (bvi ((stepsL G j).getD (placeAt j).1 0))) ∧ w'.cell? ⟨sb, (placeAt j).2.1, none⟩ = some (.int .u32 (bvi ((stepsL G j).getD (placeAt j).2.1 0))) ∧ w'.cell? ⟨sb, (placeAt j).2.2.1, none⟩ = some (.int .u32 (bvi ((stepsL G j).getD (placeAt j).2.2.1 0))) ∧ w'.cell? ⟨sb, (placeAt j).2.2.2, none⟩ = some (.int .u32 (bvi ((stepsL G j).getD (placeAt j).2.2.2 0)))) (first | exact ⟨k0, k1, k2, k3, m0, m1, m2, m3⟩ | go_keep) ((go_at_call 62; refine (HST.out _).mono ?_; rintro e w3 ⟨rfl, hb3⟩; (try obtain ⟨y0, y1, y2, y3, y4, y5, y6, y7⟩ := row4 (RowAt.below (RowAt.newDrew' wy #[.int .u32 0, .int .u32 0, .int .u32 0, .int .u32 0] 91 (0, 0)) hb3 (by simp))); have z9 : wy.heap.size ≤ w3.heap.size := (by have := hb3.size; simp at this; omega); have n5 : w3.heap.size ≠ pb := (by omega); have n6 : pb ≠ w3.heap.size := (by omega); have n7 : w3.heap.size ≠ sb := (by omega); have n8 : sb ≠ w3.heap.size := (by omega); have k0 : w3.cell? ⟨pb, 0, none⟩ = some (.int .i64 (((placeAt j).1 : Nat) : Int)) := cells_keep (by first | assumption | go_keep) hb3; have k1 : w3.cell? ⟨pb, 1, none⟩ = some (.int .i64 (((placeAt j).2.1 : Nat) : Int)) := cells_keep (by first | assumption | go_keep) hb3; have k2 : w3.cell? ⟨pb, 2, none⟩ = some (.int .i64 (((placeAt j).2.2.1 : Nat) : Int)) := cells_keep (by first | assumption | go_keep) hb3; have k3 : w3.cell? ⟨pb, 3, none⟩ = some (.int .i64 (((placeAt j).2.2.2 : Nat) : Int)) := cells_keep (by first | assumption | go_keep) hb3; have m0 : w3.cell? ⟨sb, (placeAt j).1, none⟩ = some (.int .u32 (bvi ((stepsL G j).getD (placeAt j).1 0))) := cells_keep (by first | assumption | go_keep) hb3; have m1 : w3.cell? ⟨sb, (placeAt j).2.1, none⟩ = some (.int .u32 (bvi ((stepsL G j).getD (placeAt j).2.1 0))) := cells_keep (by first | assumption | go_keep) hb3; have m2 : w3.cell? ⟨sb, (placeAt j).2.2.1, none⟩ = some (.int .u32 (bvi ((stepsL G j).getD (placeAt j).2.2.1 0))) := cells_keep (by first | assumption | go_keep) hb3; have m3 : w3.cell? ⟨sb, (placeAt j).2.2.2, none⟩ = some (.int .u32 (bvi ((stepsL G j).getD (placeAt j).2.2.2 0))) := cells_keep (by first | assumption | go_keep) hb3))
            all_goals
              go_wp2_with fail
              go_meet
              first
                | exact ⟨w3.heap.size, rfl, z9, RowAt.new w3 _ _ _, ((Below.drew (Below.refl _ _)).trans hb3).alloc z9 _⟩
                | exact ⟨wy.heap.size, rfl, Nat.le_refl _, ((((RowAt.below (RowAt.newDrew' wy _ _ _) hb3 (by simp)).store 0 _).store 1 _).store 2 _).store 3 _,
                    ((((((Below.refl _ _).alloc (Nat.le_refl _) _).drew.trans (hb3.mono (by simp))).setCell (p := ⟨_, _, _⟩) (Nat.le_refl _) _).setCell (p := ⟨_, _, _⟩) (Nat.le_refl _) _).setCell (p := ⟨_, _, _⟩) (Nat.le_refl _) _).setCell (p := ⟨_, _, _⟩) (Nat.le_refl _) _⟩
          case rest =>
            obtain ⟨g, rfl, hgz, hgr, hgb⟩ := hcut
            have HP5 := Lib.hid (HP.out.below hgb HP.out.lt)
            have HS5 := Lib.hid (HS3.out.below hgb HS3.out.lt)
            have HR5 := Lib.hid (HR3.out.below hgb HR3.out.lt)
            have HA5 := Lib.hid (HA3.out.below hgb HA3.out.lt)
            have HB5 := Lib.hid (HB3.out.trans (hgb.mono HB3.out.size))
            have HG5 := Lib.hid hgr
            have y1 : sb ≠ g := by omega
            have y2 : sb ≠ pb := by omega
            have y3 : sb ≠ fb := by omega
            have y4 : w.heap.size ≤ sb := by omega
            clear c0 c1 c2 c3 s0 s1 s2 s3 n1 n2 n3 n4 b0 b1 b2 b3 d0 d1 d2 d3 hix HST hp0 hp1 hp2 hp3 hgr hgb HP HS3 HR3 HA3 HB3 HS2 HR2 HA2 HBB
            go_wp2_with fail
            go_loopw [51] (fun i wz => ∃ q : Nat, q ≤ 4 ∧ i = .int .i64 q ∧ RowAt wz sb (words (putL (stepsL G j) (places4 j) [q0, q1, q2, q3] q)).toArray 86 (0, 0) ∧ RowAt wz pb (placeV j) 88 (0, 0) ∧ RowAt wz g (words [q0, q1, q2, q3]).toArray 91 (0, 0) ∧
              RowAt wz fb (words F).toArray 86 (0, 0) ∧ RowAt wz ab placesA 89 (0, 0) ∧ Below w.heap.size w wz) (fun i _ => 4 - (intOf i).toNat)
            case atStart => exact ⟨0, Nat.zero_le _, rfl, HS5.out, HP5.out, HG5.out, HR5.out, HA5.out, HB5.out⟩
            case round =>
              obtain ⟨q, hq, rfl, r1, r2, r3, r4, r5, r6⟩ := hrel
              have R1 := Lib.hid r1
              have R2 := Lib.hid r2
              have R3 := Lib.hid r3
              have R4 := Lib.hid r4
              have R5 := Lib.hid r5
              have R6 := Lib.hid r6
              clear r1 r2 r3 r4 r5 r6
              rcases Nat.lt_or_ge q 4 with hlq | hgq
              · have hpl := places4_lt j q
                have e1 := R2.out.cell (place_cell j q hlq)
                have e2 := R3.out.cell (words_at [q0, q1, q2, q3] q (by simpa using hlq))
                have e3 := R1.out.cell (words_at _ _ (show (places4 j).getD q 0 < (putL (stepsL G j) (places4 j) [q0, q1, q2, q3] q).length by rw [putL_length, HL2.out]; exact hpl))
                have e4 := R1.out.free (i := (places4 j).getD q 0) (by simp)
                have HN := Lib.hid (words_set (putL (stepsL G j) (places4 j) [q0, q1, q2, q3] q) ((places4 j).getD q 0) ([q0, q1, q2, q3].getD q 0))
                have HM := Lib.hid (show putL (stepsL G j) (places4 j) [q0, q1, q2, q3] (q + 1) = (putL (stepsL G j) (places4 j) [q0, q1, q2, q3] q).set ((places4 j).getD q 0) ([q0, q1, q2, q3].getD q 0) from rfl)
                generalize (places4 j).getD q 0 = pq at hpl e1 e3 e4 HN HM
                generalize [q0, q1, q2, q3].getD q 0 = vq at e2 HN HM
                have b0 : (0 : Int) ≤ (pq : Int) := Int.natCast_nonneg _
                have b1 : (pq : Int) < 16 := by omega
                go_wp2_with fail
                go_still_tail 7, (by kernel_rfl)
                go_wp2_with fail
                go_roundw
                case rel =>
                  refine ⟨q + 1, by omega, by go_num, ?_, R2.out.other (show sb ≠ pb from y2) _, R3.out.other (show sb ≠ g from y1) _, R4.out.other (show sb ≠ fb from y3) _, R5.out.other (show sb ≠ ab from hne) _, (R6.out.setCell (p := ⟨sb, pq, none⟩) y4 _).drew⟩
                  rw [HM.out, ← HN.out]
                  exact R1.out.store pq _
                case measure => simp [intOf]; omega
              · obtain rfl : q = 4 := by omega
                go_wp2_with fail
                go_roundw
                case rel =>
                  refine ⟨j + 1, by omega, by go_num, ?_, R4.out, R5.out, R6.out⟩
                  rw [stepsL_next _ _ hlj, ← putL_stir, HQ.out]
                  exact R1.out
                case measure => simp [intOf]; omega
        · obtain rfl : j = 8 := by omega
          go_wp2_with fail
          go_roundw
          case rel => exact ⟨k + 1, by omega, by go_num, by have := HS2.out; rwa [← HG.out] at this, HR2.out, HA2.out, HBB.out⟩
          case measure => simp [intOf]; omega
    · have HK := Lib.hid (show k = 10 by omega)
      have hB0 := isBuilder_new 95 5 (Nat.le_refl wr.heap.size)
      have HO := Lib.hid hB0
      have zs : sb < wr.heap.size := HS.out.lt
      have zf : fb < wr.heap.size := HR.out.lt
      have zb := HB.out.size
      clear hB0
      go_wp2_with fail
      generalize hG : roundsL F k = G at HS HLS
      have HG := Lib.hid hG
      clear hG
      have HS1 := Lib.hid (HS.out.alloc (.cells #[.pointer none, .slice none 0 0] 95))
      have HR1 := Lib.hid (HR.out.alloc (.cells #[.pointer none, .slice none 0 0] 95))
      have HB3 := Lib.hid (HB.out.alloc HB.out.size (.cells #[.pointer none, .slice none 0 0] 95))
      have zt : wr.heap.size < (wr.alloc (.cells #[.pointer none, .slice none 0 0] 95)).heap.size := by simp
      generalize hwy : wr.alloc (.cells #[.pointer none, .slice none 0 0] 95) = wy at HO HS1 HR1 HB3 zt ⊢
      generalize hbb : wr.heap.size = bb at HO zs zf zb zt ⊢
      clear hwy hbb HS HR HA HB
      go_loopw [64] (fun i wz => ∃ q : Nat, q ≤ 16 ∧ i = .int .i64 q ∧ Lib.IsBuilderF 95 5 bb bb (cells (outL G F q)) wz ∧ RowAt wz sb (words G).toArray 86 (0, 0) ∧ RowAt wz fb (words F).toArray 86 (0, 0) ∧ Below w.heap.size w wz ∧ bb ≤ wz.heap.size) (fun i _ => 16 - (intOf i).toNat)
      case atStart => exact ⟨0, Nat.zero_le _, rfl, HO.out, HS1.out, HR1.out, HB3.out, Nat.le_of_lt zt⟩
      case round =>
        obtain ⟨q, hq, rfl, r1, r2, r3, r4, zz⟩ := hrel
        have R1 := Lib.hid r1
        have R2 := Lib.hid r2
        have R3 := Lib.hid r3
        have R4 := Lib.hid r4
        have hol := outL_length G F q
        clear r1 r2 r3 r4
        rcases Nat.lt_or_ge q 16 with hlq | hgq
        · have e1 := R2.out.cell (words_at G q (by rw [HLS.out]; exact hlq))
          have e2 := R3.out.cell (words_at F q (by rw [HFL.out]; exact hlq))
          have hos := outL_succ G F q
          unfold sumAt at hos
          have HOS := Lib.hid hos
          clear hos
          generalize G.getD q 0 = xg at e1 HOS
          generalize F.getD q 0 = xf at e2 HOS
          have b0 : (0 : Int) ≤ (q : Int) := Int.natCast_nonneg _
          have b1 : (q : Int) < 16 := by omega
          have HOL := Lib.hid hol
          clear hol
          go_wp2_with fail
          go_still_tail 8, (by kernel_rfl)
          go_wp2_with fail
          refine (Low_walk _ 4 _).mono ?_
          rintro e w5 ⟨rl, rfl, hrl, hbl⟩
          have hzl : rl.size = 4 := by rw [hrl.size, lowL_length]; rfl
          have HRL := Lib.hid (show Is rl (lowL (BitVec.setWidth 64 (xg + xf)) 4) from hrl)
          have HBL := Lib.hid (show Below wr.heap.size wr w5 from (Below.drew (Below.refl _ _)).trans hbl)
          have h1 := isBuilder_below R1.out HBL.out
          have HZL := Lib.hid hzl
          clear hrl hbl hzl
          go_wp2_with fail
          refine (WriteString_k 95 liesBuilder bb bb _ rl _ h1 (by rw [cells_length, HOL.out, HZL.out]; omega) (Nat.le_trans zz HBL.out.size)).mono ?_
          rintro e w6 ⟨rfl, h6, hb6, _⟩
          go_wp2_with fail
          go_roundw
          case rel =>
            refine ⟨q + 1, by omega, by go_num, ?_, (R2.out.below HBL.out R2.out.lt).below hb6 zs, (R3.out.below HBL.out R3.out.lt).below hb6 zf, ?_, ?_⟩
            · rw [HOS.out, cells_append, ← strCells_cells HRL.out]
              exact .inr h6
            · exact (R4.out.trans (HBL.out.mono R4.out.size)).trans (hb6.mono zb)
            · exact Nat.le_trans zz (Nat.le_trans HBL.out.size hb6.size)
          case measure => simp [intOf]; omega
        · obtain rfl : q = 16 := by omega
          go_wp2_with fail
          refine (String_any_k 95 bb bb _ _ R1.out zz).mono ?_
          rintro e w6 ⟨rfl, _, hb6, _⟩
          go_wp2_with fail
          go_ret2
          refine ⟨_, rfl, ?_, R4.out.trans (hb6.mono zb)⟩
          unfold blockL
          rw [HF.out, ← HK.out, HG.out]
          exact Is.of _

set_option maxHeartbeats 400000 in
theorem Block_no (key nonce : ByteArray) (counter : BitVec 32) (h : ¬ (key.size = 32 ∧ nonce.size = 12)) (w : World) :
    Calls Try.prog 37 #[.string key, .int .u32 (bvi counter), .string nonce] w fun e w' => e = .returned (.tuple #[.string ⟨#[]⟩, .int .i64 5]) ∧ w = w' := by
  have hd : decide (key.size = 32 ∧ nonce.size = 12) = false := decide_eq_false h
  clear h
  go_enter Try.func37, Try.ntmps37
  go_wp2_with fail
  refine (may_walk _ _ _).mono ?_
  rintro e w1 ⟨rfl, rfl⟩
  rw [hd]
  clear hd
  go_wp2_with fail
  go_ret2
  exact ⟨rfl, rfl⟩
end Go.Proofs.Ytfglhemmccihfaa

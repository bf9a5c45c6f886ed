/-
Layer 5, the program's package poly: carry.
Layer 5, the program's package poly: times, whole, bytes, read.
Layer 5, the program's package poly: bytes, read, Clamp.
Layer 5, the program's package poly: Clamp, step, New.
Layer 5, the program's package poly: Add, Tag, Check.
-/
import Derived.Deep.QuietTactic
import Derived.BigQuiet
import Derived.Great.BuildSlice
import Derived.Deep.WholeRow
import Derived.Outline
import Derived.Deep.LoopGhost
import Derived.Test.YtfglhemmccihfaaMa
import Derived.Test.YtfglhemmccihfaaMc
import Derived.Test.YtfglhemmccihfaaMd
namespace Go.Proofs.Ytfglhemmccihfaa
open Go.RowKit

/-- Block g is a number in five parts. -/
def NumAt (w : World) (g : Nat) (l : List (BitVec 64)) : Prop := RowAt w g (d64 l).toArray 121 (0, 0)
def numV (l : List (BitVec 64)) : Value := .agg (d64 l).toArray
theorem NumAt.out {w : World} {g : Nat} {l : List (BitVec 64)} (h : NumAt w g l) : RowAt w g (d64 l).toArray 121 (0, 0) := h
theorem NumAt.cell {w : World} {g : Nat} {l : List (BitVec 64)} (h : NumAt w g l) (i : Nat) (hi : i < l.length) : w.cell? ⟨g, i, none⟩ = some (.int .u64 (bvi (l.getD i 0))) :=
  RowAt.cell h (i := i) (by rw [List.getElem?_toArray]; exact d64_at l i hi)
theorem NumAt.free {w : World} {g : Nat} {l : List (BitVec 64)} (h : NumAt w g l) (i : Nat) : w.frozen? ⟨g, i, none⟩ = false := RowAt.free h (by simp)
theorem NumAt.store {w : World} {g : Nat} {l : List (BitVec 64)} (h : NumAt w g l) (i : Nat) (x : BitVec 64) : NumAt (w.setCell ⟨g, i, none⟩ (.int .u64 (bvi x))) g (l.set i x) := by
  have := RowAt.store h i (.int .u64 (bvi x))
  rwa [List.setIfInBounds_toArray, d64_set] at this
theorem NumAt.other {w : World} {g : Nat} {l : List (BitVec 64)} (h : NumAt w g l) {p : Addr} (hp : p.block ≠ g) (v : Value) : NumAt (w.setCell p v) g l := RowAt.other h hp v
theorem NumAt.drew {w : World} {g : Nat} {l : List (BitVec 64)} (h : NumAt w g l) : NumAt w.drew g l := h
theorem NumAt.alloc {w : World} {g : Nat} {l : List (BitVec 64)} (h : NumAt w g l) (o : Obj) : NumAt (w.alloc o) g l := RowAt.alloc h o
theorem NumAt.new (w : World) (l : List (BitVec 64)) : NumAt (w.alloc (.cells (d64 l).toArray 121)) w.heap.size l := RowAt.new w _ _ _
theorem NumAt.below {w w' : World} {g : Nat} {l : List (BitVec 64)} {B : Nat} (h : NumAt w g l) (hb : Below B w w') (hg : g < B) : NumAt w' g l := RowAt.below h hb hg
theorem NumAt.lt {w : World} {g : Nat} {l : List (BitVec 64)} (h : NumAt w g l) : g < w.heap.size := RowAt.lt h
theorem d64_cells (l : List (BitVec 64)) : (d64 l).toArray.all (·.oneCell') = true := by
  rw [Array.all_eq_true_iff_forall_mem]
  intro x hx
  simp only [List.mem_toArray, d64, List.mem_map] at hx
  obtain ⟨a, _, rfl⟩ := hx
  rfl
theorem d64_size (l : List (BitVec 64)) (h : l.length = 5) : (d64 l).toArray.size = 5 := by simp [d64_length, h]
theorem num_size : (Try.prog.info? 121).map (·.size) = some 5 := by kernel_rfl
theorem num_info (l : List (BitVec 64)) (h : l.length = 5) : (Try.prog.info? 121).map (·.size) = some (d64 l).toArray.size := by
  rw [d64_size l h]; exact num_size
theorem num_same (l m : List (BitVec 64)) (h : l.length = 5) (k : m.length = 5) : (d64 m).toArray.size = (d64 l).toArray.size := by
  rw [d64_size l h, d64_size m k]
def zero5 : Array Value := #[.int .u64 0, .int .u64 0, .int .u64 0, .int .u64 0, .int .u64 0]
theorem zero5_num : zero5 = (d64 [0#64, 0#64, 0#64, 0#64, 0#64]).toArray := rfl

set_option maxRecDepth 100000 in
set_option maxHeartbeats 2000000 in
theorem carry_walk (l : List (BitVec 64)) (hl : l.length = 5) (w : World) :
    Calls Try.prog 111 #[.agg (d64 l).toArray] w fun e w' => e = .returned (.agg (d64 (carryL l)).toArray) ∧ Below w.heap.size w w' := by
  have HL := Lib.hid hl
  have hz := d64_size l hl
  clear hl
  go_enter Try.func111, Try.ntmps111
  go_wp2_with fail
  have HN := Lib.hid ((NumAt.new w l).alloc (.cells zero5 121))
  have HR := Lib.hid (NumAt.new (w.alloc (.cells (d64 l).toArray 121)) [0#64, 0#64, 0#64, 0#64, 0#64])
  change Code.wp _ _ _ _ ((w.alloc (.cells (d64 l).toArray 121)).alloc (.cells (d64 [0#64, 0#64, 0#64, 0#64, 0#64]).toArray 121))
  have HB := Lib.hid (show Below w.heap.size w ((w.alloc (.cells (d64 l).toArray 121)).alloc (.cells (d64 [0#64, 0#64, 0#64, 0#64, 0#64]).toArray 121)) from ((Below.refl _ _).alloc (Nat.le_refl _) _).alloc (by simp) _)
  have hrz : (w.alloc (.cells (d64 l).toArray 121)).heap.size = w.heap.size + 1 := by simp
  rw [hrz] at HR
  change Hid (NumAt ((w.alloc (.cells (d64 l).toArray 121)).alloc (.cells (d64 [0#64, 0#64, 0#64, 0#64, 0#64]).toArray 121)) w.heap.size l) at HN
  generalize (w.alloc (.cells (d64 l).toArray 121)).alloc (.cells (d64 [0#64, 0#64, 0#64, 0#64, 0#64]).toArray 121) = w1 at HN HR HB ⊢
  clear hz hrz
  go_loopw [5] (fun i wr => ∃ k : Nat, k ≤ 2 ∧ i = .int .i64 k ∧ NumAt wr w.heap.size (carryK l k) ∧ NumAt wr (w.heap.size + 1) [0#64, 0#64, 0#64, 0#64, 0#64] ∧ Below w.heap.size w wr) (fun i _ => 2 - (intOf i).toNat)
  case atStart => exact ⟨0, Nat.zero_le _, rfl, HN.out, HR.out, HB.out⟩
  case round =>
    obtain ⟨k, hk, rfl, hn, hr, hb⟩ := hrel
    have HN := Lib.hid hn
    have HR := Lib.hid hr
    have HB := Lib.hid hb
    clear hn hr hb
    have hlk : (carryK l k).length = 5 := by rw [carryK_length, HL.out]
    have HLK := Lib.hid hlk
    clear hlk
    rcases Nat.lt_or_ge k 2 with hlt | hge
    · go_wp2_with fail
      generalize hm : carryK l k = m at HN HLK
      have HM := Lib.hid hm
      clear hm
      obtain ⟨wo, hwo⟩ : ∃ wo : World, wo = wr := ⟨_, rfl⟩
      subst hwo
      go_loopw [3, 7] (fun c i wx => ∃ j : Nat, j ≤ 5 ∧ i = .int .i64 j ∧ c = .int .u64 (bvi (carryP m j).2) ∧ NumAt wx w.heap.size (carryP m j).1 ∧ NumAt wx (w.heap.size + 1) [0#64, 0#64, 0#64, 0#64, 0#64] ∧ Below w.heap.size w wx) (fun _ i _ => 5 - (intOf i).toNat)
      case atStart => exact ⟨0, Nat.zero_le _, rfl, rfl, HN.out, HR.out, HB.out⟩
      case round =>
        obtain ⟨j, hj, rfl, rfl, hn2, hr2, hb2⟩ := hrel
        have HN2 := Lib.hid hn2
        have HR2 := Lib.hid hr2
        have HB2 := Lib.hid hb2
        clear hn2 hr2 hb2
        have hl2 : (carryP m j).1.length = 5 := by rw [carryP_length, HLK.out]
        have HL2 := Lib.hid hl2
        clear hl2
        rcases Nat.lt_or_ge j 5 with hlj | hgj
        · have c0 := HN2.out.cell j (by rw [HL2.out]; exact hlj)
          have f0 := HN2.out.free j
          go_wp2_with fail
          go_roundw
          case rel =>
            refine ⟨j + 1, by omega, by go_num, rfl, ?_, (HR2.out.other (by simp) _).other (by simp) _, (HB2.out.setCell (Nat.le_refl _) _).setCell (Nat.le_refl _) _⟩
            have hst := (HN2.out.store j ((carryP m j).1.getD j 0 + (carryP m j).2)).store j (((carryP m j).1.getD j 0 + (carryP m j).2) &&& 67108863#64)
            rw [List.set_set] at hst
            exact hst
          case measure => simp [intOf]; omega
        · obtain rfl : j = 5 := by omega
          have c0 := HN2.out.cell 0 (by rw [HL2.out]; omega)
          have f0 := HN2.out.free 0
          go_wp2_with fail
          go_roundw
          case rel =>
            exact ⟨k + 1, by omega, by go_num, by rw [carryK, HM.out]; exact HN2.out.store 0 _, HR2.out.other (by simp) _, HB2.out.setCell (Nat.le_refl _) _⟩
          case measure => simp [intOf]; omega
    · obtain rfl : k = 2 := by omega
      go_upto_region 13 with fail
      rename_i hK
      apply wp_region_lit
      refine wpList_load_row rfl 121 _ rfl w.heap.size (by as_aux_lemma => kernel_rfl) 121 _ (0, 0) _ HN.out.out.out Try.underlying121 rfl (num_info _ HLK.out) ?_
      refine wpList_store_rowTo rfl 121 _ _ rfl rfl (w.heap.size + 1) (d64 (carryK l 2)).toArray (by as_aux_lemma => kernel_rfl) (by as_aux_lemma => kernel_rfl) 121 _ HR.out.out.out (num_info _ HLK.out) (num_same _ _ HLK.out rfl) (d64_cells _) ?_
      apply wpList_nil
      refine hK _ _ ?_
      go_wp2_with fail
      refine bodyPost_ret (v := .agg (d64 (carryK l 2)).toArray) (results_cell_row rfl _ _ (w.heap.size + 1) 121 (d64 (carryK l 2)).toArray (0, 0) _ (by kernel_rfl) (HR.out.out.setRow _).out Try.underlying121 rfl (num_info _ HLK.out)) rfl ⟨rfl, Go.Proofs.Ytfglhemmccihfaa.Below.setRow HB.out (by omega) _⟩

def zeroL : List (BitVec 64) := [0#64, 0#64, 0#64, 0#64, 0#64]
theorem nums3 (w : World) (l m : List (BitVec 64)) :
    NumAt (((w.alloc (.cells (d64 l).toArray 121)).alloc (.cells (d64 m).toArray 121)).alloc (.cells (d64 zeroL).toArray 121)) w.heap.size l ∧
    NumAt (((w.alloc (.cells (d64 l).toArray 121)).alloc (.cells (d64 m).toArray 121)).alloc (.cells (d64 zeroL).toArray 121)) (w.heap.size + 1) m ∧
    NumAt (((w.alloc (.cells (d64 l).toArray 121)).alloc (.cells (d64 m).toArray 121)).alloc (.cells (d64 zeroL).toArray 121)) (w.heap.size + 1 + 1) zeroL ∧
    Below w.heap.size w (((w.alloc (.cells (d64 l).toArray 121)).alloc (.cells (d64 m).toArray 121)).alloc (.cells (d64 zeroL).toArray 121)) := by
  refine ⟨((NumAt.new w l).alloc _).alloc _, ?_, ?_, (((Below.refl _ _).alloc (Nat.le_refl _) _).alloc (by simp) _).alloc (by simp; omega) _⟩
  · have := (NumAt.new (w.alloc (.cells (d64 l).toArray 121)) m).alloc (.cells (d64 zeroL).toArray 121)
    rwa [show (w.alloc (.cells (d64 l).toArray 121)).heap.size = w.heap.size + 1 by simp] at this
  · have := NumAt.new ((w.alloc (.cells (d64 l).toArray 121)).alloc (.cells (d64 m).toArray 121)) zeroL
    rwa [show ((w.alloc (.cells (d64 l).toArray 121)).alloc (.cells (d64 m).toArray 121)).heap.size = w.heap.size + 1 + 1 by simp] at this

set_option maxRecDepth 100000 in
set_option maxHeartbeats 2000000 in
theorem plus_walk (l m : List (BitVec 64)) (hl : l.length = 5) (hm : m.length = 5) (w : World) :
    Calls Try.prog 96 #[.agg (d64 l).toArray, .agg (d64 m).toArray] w fun e w' => e = .returned (.agg (d64 (plusL l m)).toArray) ∧ Below w.heap.size w w' := by
  have HL := Lib.hid hl
  have HM := Lib.hid hm
  have hz := d64_size l hl
  have hz2 := d64_size m hm
  clear hl hm
  go_enter Try.func96, Try.ntmps96
  go_wp2_with fail
  clear hz hz2
  obtain ⟨hn, hn2, hr, hb⟩ := nums3 w l m
  change Code.wp _ _ _ _ (((w.alloc (.cells (d64 l).toArray 121)).alloc (.cells (d64 m).toArray 121)).alloc (.cells (d64 zeroL).toArray 121))
  generalize ((w.alloc (.cells (d64 l).toArray 121)).alloc (.cells (d64 m).toArray 121)).alloc (.cells (d64 zeroL).toArray 121) = w1 at hn hn2 hr hb ⊢
  have HN := Lib.hid hn
  have HN2 := Lib.hid hn2
  have HR := Lib.hid hr
  have HB := Lib.hid hb
  clear hn hn2 hr hb
  go_loopw [6] (fun i wr => ∃ k : Nat, k ≤ 5 ∧ i = .int .i64 k ∧ NumAt wr w.heap.size (plusK l m k) ∧ NumAt wr (w.heap.size + 1) m ∧ NumAt wr (w.heap.size + 1 + 1) zeroL ∧ Below w.heap.size w wr) (fun i _ => 5 - (intOf i).toNat)
  case atStart => exact ⟨0, Nat.zero_le _, rfl, HN.out, HN2.out, HR.out, HB.out⟩
  case round =>
    obtain ⟨k, hk, rfl, hn, hn2, hr, hb⟩ := hrel
    have HN := Lib.hid hn
    have HN2 := Lib.hid hn2
    have HR := Lib.hid hr
    have HB := Lib.hid hb
    clear hn hn2 hr hb
    have hlk : (plusK l m k).length = 5 := by rw [plusK_length, HL.out]
    have HLK := Lib.hid hlk
    clear hlk
    rcases Nat.lt_or_ge k 5 with hlt | hge
    · have c0 := HN.out.cell k (by rw [HLK.out]; exact hlt)
      have c1 := HN2.out.cell k (by rw [HM.out]; exact hlt)
      have f0 := HN.out.free k
      go_wp2_with fail
      go_region
      go_wp2_with fail
      go_roundw
      case rel =>
        exact ⟨k + 1, by omega, by go_num, (HN.out.store k ((plusK l m k).getD k 0 + m.getD k 0)).drew, (HN2.out.other (by simp) _).drew, (HR.out.other (by simp <;> omega) _).drew, (HB.out.setCell (Nat.le_refl _) _).drew⟩
      case measure => simp [intOf]; omega
    · obtain rfl : k = 5 := by omega
      go_upto_region 6 with fail
      rename_i hK
      apply wp_region_lit
      refine wpList_load_row rfl 121 _ rfl w.heap.size (by as_aux_lemma => kernel_rfl) 121 _ (0, 0) _ HN.out.out.out Try.underlying121 rfl (num_info _ HLK.out) ?_
      refine wpList_store_rowTo rfl 121 _ _ rfl rfl (w.heap.size + 1 + 1) (d64 (plusK l m 5)).toArray (by as_aux_lemma => kernel_rfl) (by as_aux_lemma => kernel_rfl) 121 _ HR.out.out.out (num_info _ HLK.out) (num_same _ _ HLK.out rfl) (d64_cells _) ?_
      apply wpList_nil
      refine hK _ _ ?_
      go_wp2_with fail
      refine bodyPost_ret (v := .agg (d64 (plusK l m 5)).toArray) (results_cell_row rfl _ _ (w.heap.size + 1 + 1) 121 (d64 (plusK l m 5)).toArray (0, 0) _ (by kernel_rfl) (HR.out.out.setRow _).out Try.underlying121 rfl (num_info _ HLK.out)) rfl ⟨rfl, Go.Proofs.Ytfglhemmccihfaa.Below.setRow HB.out (by omega) _⟩
end Go.Proofs.Ytfglhemmccihfaa
namespace Go.Proofs.Ytfglhemmccihfaa
open Go.RowKit

theorem setRow_size (w : World) (g : Nat) (cs : Array Value) : (w.setRow g cs).heap.size = w.heap.size := by simp [World.setRow]
theorem set_getD_ne {α : Type} (l : List α) (i j : Nat) (x d : α) (h : i ≠ j) : (l.set i x).getD j d = l.getD j d := by
  simp [List.getD_eq_getElem?_getD, List.getElem?_set_ne h]
theorem bvi_eq_zero {n : Nat} (x : BitVec n) : (bvi x == 0) = decide (x = 0#n) := by
  rw [Bool.eq_iff_iff, beq_iff_eq, decide_eq_true_iff, ← bvi_inj]
  unfold bvi; simp
theorem nums4 (w : World) (l m : List (BitVec 64)) :
    NumAt ((((w.alloc (.cells (d64 l).toArray 121)).alloc (.cells (d64 m).toArray 121)).alloc (.cells (d64 zeroL).toArray 121)).alloc (.cells (d64 zeroL).toArray 121)) w.heap.size l ∧
    NumAt ((((w.alloc (.cells (d64 l).toArray 121)).alloc (.cells (d64 m).toArray 121)).alloc (.cells (d64 zeroL).toArray 121)).alloc (.cells (d64 zeroL).toArray 121)) (w.heap.size + 1) m ∧
    NumAt ((((w.alloc (.cells (d64 l).toArray 121)).alloc (.cells (d64 m).toArray 121)).alloc (.cells (d64 zeroL).toArray 121)).alloc (.cells (d64 zeroL).toArray 121)) (w.heap.size + 1 + 1) zeroL ∧
    NumAt ((((w.alloc (.cells (d64 l).toArray 121)).alloc (.cells (d64 m).toArray 121)).alloc (.cells (d64 zeroL).toArray 121)).alloc (.cells (d64 zeroL).toArray 121)) (w.heap.size + 1 + 1 + 1) zeroL ∧
    Below w.heap.size w ((((w.alloc (.cells (d64 l).toArray 121)).alloc (.cells (d64 m).toArray 121)).alloc (.cells (d64 zeroL).toArray 121)).alloc (.cells (d64 zeroL).toArray 121)) := by
  obtain ⟨h1, h2, h3, h4⟩ := nums3 w l m
  refine ⟨h1.alloc _, h2.alloc _, h3.alloc _, ?_, h4.alloc (by simp <;> omega) _⟩
  have := NumAt.new (((w.alloc (.cells (d64 l).toArray 121)).alloc (.cells (d64 m).toArray 121)).alloc (.cells (d64 zeroL).toArray 121)) zeroL
  rwa [show (((w.alloc (.cells (d64 l).toArray 121)).alloc (.cells (d64 m).toArray 121)).alloc (.cells (d64 zeroL).toArray 121)).heap.size = w.heap.size + 1 + 1 + 1 by simp] at this

set_option maxRecDepth 100000 in
set_option maxHeartbeats 2000000 in
theorem times_walk (l m : List (BitVec 64)) (hl : l.length = 5) (hm : m.length = 5) (w : World) :
    Calls Try.prog 110 #[.agg (d64 l).toArray, .agg (d64 m).toArray] w fun e w' => e = .returned (.agg (d64 (timesL l m)).toArray) ∧ Below w.heap.size w w' := by
  have HL := Lib.hid hl
  have HM := Lib.hid hm
  have hz := d64_size l hl
  have hz2 := d64_size m hm
  clear hl hm
  go_enter Try.func110, Try.ntmps110
  go_wp2_with fail
  clear hz hz2
  obtain ⟨hn, hn2, hr, ho, hb⟩ := nums4 w l m
  change Code.wp _ _ _ _ ((((w.alloc (.cells (d64 l).toArray 121)).alloc (.cells (d64 m).toArray 121)).alloc (.cells (d64 zeroL).toArray 121)).alloc (.cells (d64 zeroL).toArray 121))
  generalize (((w.alloc (.cells (d64 l).toArray 121)).alloc (.cells (d64 m).toArray 121)).alloc (.cells (d64 zeroL).toArray 121)).alloc (.cells (d64 zeroL).toArray 121) = w1 at hn hn2 hr ho hb ⊢
  have HN := Lib.hid hn
  have HN2 := Lib.hid hn2
  have HR := Lib.hid hr
  have HO := Lib.hid ho
  have HB := Lib.hid hb
  clear hn hn2 hr ho hb
  go_loopw [9] (fun i wr => ∃ k : Nat, k ≤ 5 ∧ i = .int .i64 k ∧ NumAt wr (w.heap.size + 1 + 1 + 1) (timesRow l m k) ∧ NumAt wr w.heap.size l ∧ NumAt wr (w.heap.size + 1) m ∧ NumAt wr (w.heap.size + 1 + 1) zeroL ∧ Below w.heap.size w wr) (fun i _ => 5 - (intOf i).toNat)
  case atStart => exact ⟨0, Nat.zero_le _, rfl, HO.out, HN.out, HN2.out, HR.out, HB.out⟩
  case round =>
    obtain ⟨k, hk, rfl, ho, hn, hn2, hr, hb⟩ := hrel
    have HN := Lib.hid hn
    have HN2 := Lib.hid hn2
    have HR := Lib.hid hr
    have HO := Lib.hid ho
    have HB := Lib.hid hb
    clear hn hn2 hr ho hb
    have HLK := Lib.hid (timesRow_length l m k)
    rcases Nat.lt_or_ge k 5 with hlt | hge
    · go_wp2_with fail
      generalize hG : timesRow l m k = G at HO HLK
      have HG := Lib.hid hG
      clear hG
      obtain ⟨wo, hwo⟩ : ∃ wo : World, wo = wr := ⟨_, rfl⟩
      subst hwo
      go_loopw [12] (fun i wx => ∃ j : Nat, j ≤ 5 ∧ i = .int .i64 j ∧ NumAt wx (w.heap.size + 1 + 1 + 1) (timesIn l m k G j) ∧ NumAt wx w.heap.size l ∧ NumAt wx (w.heap.size + 1) m ∧ NumAt wx (w.heap.size + 1 + 1) zeroL ∧ Below w.heap.size w wx) (fun i _ => 5 - (intOf i).toNat)
      case atStart => exact ⟨0, Nat.zero_le _, rfl, HO.out, HN.out, HN2.out, HR.out, HB.out⟩
      case round =>
        obtain ⟨j, hj, rfl, ho, hn, hn2, hr, hb⟩ := hrel
        have HN := Lib.hid hn
        have HN2 := Lib.hid hn2
        have HR := Lib.hid hr
        have HO := Lib.hid ho
        have HB := Lib.hid hb
        clear hn hn2 hr ho hb
        have HLI := Lib.hid ((timesIn_length l m k G j).trans HLK.out)
        rcases Nat.lt_or_ge j 5 with hlj | hgj
        · have c0 := HN.out.cell k (by rw [HL.out]; exact hlt)
          have c1 := HN2.out.cell j (by rw [HM.out]; exact hlj)
          have hm5 : (k + j) % 5 < 5 := Nat.mod_lt _ (by omega)
          have c2 := HO.out.cell ((k + j) % 5) (by rw [HLI.out]; exact hm5)
          have f2 := HO.out.free ((k + j) % 5)
          have hi : (((k : Int) + j) % 5).toNat = (k + j) % 5 := by omega
          have hi1 : (0 : Int) ≤ ((k : Int) + j) % 5 := by omega
          have hi2 : ((k : Int) + j) % 5 < 5 := by omega
          by_cases h5 : 5 ≤ k + j
          · have g5 : (5 : Int) ≤ (k : Int) + j := by omega
            go_wp2_with fail
            go_region
            go_wp2_with fail
            go_roundw
            case rel =>
              have hs := (HO.out.store ((k + j) % 5) ((timesIn l m k G j).getD ((k + j) % 5) 0 + partM l m k j)).drew
              rw [show partM l m k j = l.getD k 0 * m.getD j 0 * 5#64 from if_pos h5] at hs
              exact ⟨j + 1, by omega, by go_num, by rw [timesIn, show partM l m k j = l.getD k 0 * m.getD j 0 * 5#64 from if_pos h5]; exact hs, (HN.out.other (show w.heap.size + 1 + 1 + 1 ≠ w.heap.size by omega) _).drew, (HN2.out.other (show w.heap.size + 1 + 1 + 1 ≠ w.heap.size + 1 by omega) _).drew, (HR.out.other (show w.heap.size + 1 + 1 + 1 ≠ w.heap.size + 1 + 1 by omega) _).drew, (HB.out.setCell (show w.heap.size ≤ w.heap.size + 1 + 1 + 1 by omega) _).drew⟩
            case measure => simp [intOf]; omega
          · have g6 : decide ((5 : Int) ≤ (k : Int) + j) = false := decide_eq_false (by omega)
            go_wp2_with fail
            go_region
            go_wp2_with fail
            go_roundw
            case rel =>
              have hs := (HO.out.store ((k + j) % 5) ((timesIn l m k G j).getD ((k + j) % 5) 0 + partM l m k j)).drew
              rw [show partM l m k j = l.getD k 0 * m.getD j 0 from if_neg h5] at hs
              exact ⟨j + 1, by omega, by go_num, by rw [timesIn, show partM l m k j = l.getD k 0 * m.getD j 0 from if_neg h5]; exact hs, (HN.out.other (show w.heap.size + 1 + 1 + 1 ≠ w.heap.size by omega) _).drew, (HN2.out.other (show w.heap.size + 1 + 1 + 1 ≠ w.heap.size + 1 by omega) _).drew, (HR.out.other (show w.heap.size + 1 + 1 + 1 ≠ w.heap.size + 1 + 1 by omega) _).drew, (HB.out.setCell (show w.heap.size ≤ w.heap.size + 1 + 1 + 1 by omega) _).drew⟩
            case measure => simp [intOf]; omega
        · obtain rfl : j = 5 := by omega
          go_wp2_with fail
          go_roundw
          case rel =>
            exact ⟨k + 1, by omega, by go_num, by rw [timesRow, HG.out]; exact HO.out, HN.out, HN2.out, HR.out, HB.out⟩
          case measure => simp [intOf]; omega
    · obtain rfl : k = 5 := by omega
      go_wp2_with (with_reducible refine wpList_load_row rfl 121 (.tmp 5) rfl (w.heap.size + 1 + 1 + 1) ?h1 121 _ (0, 0) _ HO.out.out.out Try.underlying121 rfl ?h2 ?_)
      case h1 => rfl
      case h2 => exact num_info _ HLK.out
      go_wp2_with fail
      refine (carry_walk _ HLK.out _).mono ?_
      rintro e w2 ⟨rfl, hb2⟩
      have hr2 := HR.out.below hb2 HR.out.lt
      have hbw := HB.out.trans (hb2.mono HB.out.size)
      have HR2 := Lib.hid hr2
      have HB2 := Lib.hid hbw
      have hlc : (timesL l m).length = 5 := timesL_length l m
      have HLC := Lib.hid hlc
      clear hr2 hbw hlc hb2
      go_wp2_with (with_reducible refine wpList_store_rowTo rfl 121 (.tmp 4) (.tmp 40) rfl rfl (w.heap.size + 1 + 1) (d64 (timesL l m)).toArray ?h3 ?h4 121 _ HR2.out.out.out ?h5 ?h6 ?h7 ?_)
      case h3 => rfl
      case h4 => rfl
      case h5 => exact num_info _ HLC.out
      case h6 => exact num_same _ _ HLC.out rfl
      case h7 => exact d64_cells _
      go_wp2_with fail
      refine bodyPost_ret (v := .agg (d64 (timesL l m)).toArray) (results_cell_row rfl _ _ (w.heap.size + 1 + 1) 121 (d64 (timesL l m)).toArray (0, 0) _ (by kernel_rfl) (HR2.out.out.setRow _).out Try.underlying121 rfl (num_info _ HLC.out)) rfl ⟨rfl, Go.Proofs.Ytfglhemmccihfaa.Below.setRow HB2.out (by omega) _⟩

set_option maxRecDepth 100000 in
set_option maxHeartbeats 2000000 in
theorem whole_walk (l : List (BitVec 64)) (hl : l.length = 5) (w : World) :
    Calls Try.prog 95 #[.agg (d64 l).toArray] w fun e w' => e = .returned (.agg (d64 (wholeL l)).toArray) ∧ Below w.heap.size w w' := by
  have HL := Lib.hid hl
  have hz := d64_size l hl
  clear hl
  go_enter Try.func95, Try.ntmps95
  go_upto_region 1 with fail
  have hn0 := (NumAt.new w l).alloc (.cells (d64 zeroL).toArray 121)
  have hr0 := NumAt.new (w.alloc (.cells (d64 l).toArray 121)) zeroL
  rw [show (w.alloc (.cells (d64 l).toArray 121)).heap.size = w.heap.size + 1 by simp] at hr0
  have hb0 : Below w.heap.size w ((w.alloc (.cells (d64 l).toArray 121)).alloc (.cells (d64 zeroL).toArray 121)) := ((Below.refl _ _).alloc (Nat.le_refl _) _).alloc (by simp) _
  change Code.wp _ _ _ _ ((w.alloc (.cells (d64 l).toArray 121)).alloc (.cells (d64 zeroL).toArray 121))
  generalize (w.alloc (.cells (d64 l).toArray 121)).alloc (.cells (d64 zeroL).toArray 121) = w1 at hn0 hr0 hb0 ⊢
  go_wp2_with (with_reducible refine wpList_load_row rfl 121 (.tmp 1) rfl w.heap.size ?h1 121 _ (0, 0) _ hn0.out.out Try.underlying121 rfl ?h2 ?_)
  case h1 => rfl
  case h2 => exact num_info _ HL.out
  go_wp2_with fail
  refine (carry_walk _ HL.out _).mono ?_
  rintro e w2 ⟨rfl, hb2⟩
  have hl1 : (carryL l).length = 5 := (carryL_length l).trans HL.out
  have HL1 := Lib.hid hl1
  have HN2 := Lib.hid (hn0.below hb2 hn0.lt)
  have HR2 := Lib.hid (hr0.below hb2 hr0.lt)
  have HB2 := Lib.hid (hb0.trans (hb2.mono hb0.size))
  clear hl1 hn0 hr0 hb0 hb2 hz
  go_wp2_with fail
  refine (carry_walk _ HL1.out _).mono ?_
  rintro e w3 ⟨rfl, hb3⟩
  have hl2 : (carryL (carryL l)).length = 5 := (carryL_length _).trans HL1.out
  have HL2 := Lib.hid hl2
  have hn3 := HN2.out.below hb3 HN2.out.lt
  have hr3 := HR2.out.below hb3 HR2.out.lt
  have hb4 := HB2.out.trans (hb3.mono HB2.out.size)
  clear hl2 hb3 HN2 HR2 HB2
  have HW := Lib.hid (show wholeL l = if (moreL (carryL (carryL l))).getD 4 0 >>> 26 = 0#64 then carryL (carryL l) else (moreL (carryL (carryL l))).set 4 ((moreL (carryL (carryL l))).getD 4 0 &&& 67108863#64) from rfl)
  generalize carryL (carryL l) = n at HW HL2 ⊢
  have HN3 := Lib.hid hn3
  have HR3 := Lib.hid hr3
  have HB3 := Lib.hid hb4
  clear hn3 hr3 hb4
  go_upto_region 3 with (first
    | (with_reducible refine wpList_store_rowTo rfl 121 (.tmp 1) (.tmp 7) rfl rfl w.heap.size (d64 n).toArray ?p1 ?p2 121 _ HN3.out.out.out ?p3 ?p4 ?p5 ?_)
    | (with_reducible refine wpList_load_row rfl 121 (.tmp 1) rfl w.heap.size ?p6 121 _ (0, 0) _ (HN3.out.out.setRow _).out Try.underlying121 rfl ?p7 ?_)
    | (with_reducible refine wpList_store_rowTo rfl 121 (.tmp 3) (.tmp 8) rfl rfl w3.heap.size (d64 n).toArray ?q1 ?q2 121 zero5 ?q3 ?q4 ?q5 ?q6 ?_))
  case p1 => rfl
  case p2 => rfl
  case p3 => exact num_info _ HL2.out
  case p4 => exact num_same _ _ HL2.out HL.out
  case p5 => exact d64_cells _
  case p6 => rfl
  case p7 => exact num_info _ HL2.out
  case q1 => rfl
  case q2 => rfl
  case q3 =>
    have := heap_alloc_last (w3.setRow w.heap.size (d64 n).toArray) (.cells zero5 121)
    rw [setRow_size] at this
    exact this
  case q4 => exact num_info _ HL2.out
  case q5 => rw [d64_size n HL2.out]; rfl
  case q6 => exact d64_cells _
  have hz3 : w.heap.size + 1 < w3.heap.size := HR3.out.lt
  have hzr : RowAt ((w3.setRow w.heap.size (d64 n).toArray).alloc (.cells zero5 121)) w3.heap.size zero5 121 (0, 0) := by
    have := RowAt.new (w3.setRow w.heap.size (d64 n).toArray) zero5 121 (0, 0)
    rwa [setRow_size] at this
  have hm5 : NumAt (((w3.setRow w.heap.size (d64 n).toArray).alloc (.cells zero5 121)).setRow w3.heap.size (d64 n).toArray) w3.heap.size n := hzr.setRow _
  have hn5 : NumAt (((w3.setRow w.heap.size (d64 n).toArray).alloc (.cells zero5 121)).setRow w3.heap.size (d64 n).toArray) w.heap.size n := ((HN3.out.out.setRow _).alloc _).setOther (by omega) _
  have hr5 : NumAt (((w3.setRow w.heap.size (d64 n).toArray).alloc (.cells zero5 121)).setRow w3.heap.size (d64 n).toArray) (w.heap.size + 1) zeroL := ((RowAt.setOther HR3.out.out (by omega) _).alloc _).setOther (by omega) _
  have hb5 : Below w.heap.size w (((w3.setRow w.heap.size (d64 n).toArray).alloc (.cells zero5 121)).setRow w3.heap.size (d64 n).toArray) :=
    Go.Proofs.Ytfglhemmccihfaa.Below.setRow ((Go.Proofs.Ytfglhemmccihfaa.Below.setRow HB3.out (Nat.le_refl _) _).alloc (by rw [setRow_size]; omega) _) (by omega) _
  change Code.wp _ _ _ _ (((w3.setRow w.heap.size (d64 n).toArray).alloc (.cells zero5 121)).setRow w3.heap.size (d64 n).toArray)
  generalize ((w3.setRow w.heap.size (d64 n).toArray).alloc (.cells zero5 121)).setRow w3.heap.size (d64 n).toArray = w5 at hm5 hn5 hr5 hb5 ⊢
  generalize w3.heap.size = mb at hm5 hz3 ⊢
  clear hzr HN3 HR3 HB3
  have c0 := hm5.cell 0 (by rw [HL2.out]; omega)
  have f0 := hm5.free 0
  have HM6 := Lib.hid (hm5.store 0 (n.getD 0 0 + 5#64))
  have HN6 := Lib.hid (hn5.other (p := ⟨mb, 0, none⟩) (show mb ≠ w.heap.size by omega) (.int .u64 (bvi (n.getD 0 0 + 5#64))))
  have HR6 := Lib.hid (hr5.other (p := ⟨mb, 0, none⟩) (show mb ≠ w.heap.size + 1 by omega) (.int .u64 (bvi (n.getD 0 0 + 5#64))))
  have HB6 := Lib.hid (hb5.setCell (p := ⟨mb, 0, none⟩) (show w.heap.size ≤ mb by omega) (.int .u64 (bvi (n.getD 0 0 + 5#64))))
  have HL6 := Lib.hid (show (n.set 0 (n.getD 0 0 + 5#64)).length = 5 by rw [List.length_set]; exact HL2.out)
  clear hm5 hn5 hr5 hb5
  go_wp2_with fail
  have HMO := Lib.hid (show moreL n = pushK (n.set 0 (n.getD 0 0 + 5#64)) 4 from rfl)
  generalize n.set 0 (n.getD 0 0 + 5#64) = q at HM6 HL6 HMO
  go_loopw [13] (fun i wr => ∃ k : Nat, k ≤ 4 ∧ i = .int .i64 k ∧ NumAt wr mb (pushK q k) ∧ NumAt wr w.heap.size n ∧ NumAt wr (w.heap.size + 1) zeroL ∧ Below w.heap.size w wr) (fun i _ => 4 - (intOf i).toNat)
  case atStart => exact ⟨0, Nat.zero_le _, rfl, HM6.out, HN6.out, HR6.out, HB6.out⟩
  case round =>
    obtain ⟨k, hk, rfl, hm, hn, hr, hb⟩ := hrel
    have HM := Lib.hid hm
    have HN := Lib.hid hn
    have HR := Lib.hid hr
    have HB := Lib.hid hb
    clear hm hn hr hb
    have HLP := Lib.hid ((pushK_length q k).trans HL6.out)
    rcases Nat.lt_or_ge k 4 with hlt | hge
    · have c1 := HM.out.cell (k + 1) (by rw [HLP.out]; omega)
      have c2 := HM.out.cell k (by rw [HLP.out]; omega)
      have f1 := HM.out.free (k + 1)
      have f2 := HM.out.free k
      clear c0 f0
      go_wp2_with fail
      go_region
      go_wp2_with fail
      go_roundw
      case rel =>
        have hs := ((HM.out.store (k + 1) ((pushK q k).getD (k + 1) 0 + (pushK q k).getD k 0 >>> 26)).drew).store k ((pushK q k).getD k 0 &&& 67108863#64)
        exact ⟨k + 1, by omega, by go_num, by rw [pushK, set_getD_ne _ _ _ _ _ (by omega)]; exact hs, ((HN.out.other (show mb ≠ w.heap.size by omega) _).drew).other (show mb ≠ w.heap.size by omega) _, ((HR.out.other (show mb ≠ w.heap.size + 1 by omega) _).drew).other (show mb ≠ w.heap.size + 1 by omega) _, ((HB.out.setCell (show w.heap.size ≤ mb by omega) _).drew).setCell (show w.heap.size ≤ mb by omega) _⟩
      case measure => simp [intOf]; omega
    · obtain rfl : k = 4 := by omega
      have hmo : pushK q 4 = moreL n := HMO.out.symm
      rw [hmo] at HM HLP
      clear hmo c0 f0
      have c4 := HM.out.cell 4 (by rw [HLP.out]; omega)
      have f4 := HM.out.free 4
      by_cases hx : (moreL n).getD 4 0 >>> 26 = 0#64
      · have hxb : (bvi ((moreL n)[4]?.getD 0#64 >>> 26) == 0) = true := by
          show (bvi ((moreL n).getD 4 0 >>> 26) == 0) = true
          rw [bvi_eq_zero, hx]; rfl
        have HW2 := Lib.hid (show wholeL l = n by rw [HW.out, if_pos hx])
        clear hx
        go_upto_region 11 with fail
        rename_i hK
        apply wp_region_lit
        refine wpList_load_row rfl 121 _ rfl w.heap.size (by as_aux_lemma => kernel_rfl) 121 _ (0, 0) _ HN.out.out.out Try.underlying121 rfl (num_info _ HL2.out) ?_
        refine wpList_store_rowTo rfl 121 _ _ rfl rfl (w.heap.size + 1) (d64 n).toArray (by as_aux_lemma => kernel_rfl) (by as_aux_lemma => kernel_rfl) 121 _ HR.out.out.out (num_info _ HL2.out) (num_same _ _ HL2.out rfl) (d64_cells _) ?_
        apply wpList_nil
        refine hK _ _ ?_
        go_wp2_with fail
        refine bodyPost_ret (v := .agg (d64 n).toArray) (results_cell_row rfl _ _ (w.heap.size + 1) 121 (d64 n).toArray (0, 0) _ (by kernel_rfl) (HR.out.out.setRow _).out Try.underlying121 rfl (num_info _ HL2.out)) rfl ⟨by rw [HW2.out], Go.Proofs.Ytfglhemmccihfaa.Below.setRow HB.out (by omega) _⟩
      · have hxb : (bvi ((moreL n)[4]?.getD 0#64 >>> 26) == 0) = false := by
          show (bvi ((moreL n).getD 4 0 >>> 26) == 0) = false
          rw [bvi_eq_zero]; exact decide_eq_false hx
        have HW2 := Lib.hid (show wholeL l = (moreL n).set 4 ((moreL n).getD 4 0 &&& 67108863#64) by rw [HW.out, if_neg hx])
        clear hx
        have HM7 := Lib.hid (HM.out.store 4 ((moreL n).getD 4 0 &&& 67108863#64))
        have HL7 := Lib.hid (show ((moreL n).set 4 ((moreL n).getD 4 0 &&& 67108863#64)).length = 5 by rw [List.length_set]; exact HLP.out)
        have HR7 := Lib.hid (HR.out.other (p := ⟨mb, 4, none⟩) (show mb ≠ w.heap.size + 1 by omega) (.int .u64 (bvi ((moreL n).getD 4 0 &&& 67108863#64))))
        have HB7 := Lib.hid (HB.out.setCell (p := ⟨mb, 4, none⟩) (show w.heap.size ≤ mb by omega) (.int .u64 (bvi ((moreL n).getD 4 0 &&& 67108863#64))))
        go_upto_region 13 with fail
        rename_i hK
        apply wp_region_lit
        refine wpList_load_row rfl 121 _ rfl mb (by as_aux_lemma => kernel_rfl) 121 _ (0, 0) _ HM7.out.out.out Try.underlying121 rfl (num_info _ HL7.out) ?_
        refine wpList_store_rowTo rfl 121 _ _ rfl rfl (w.heap.size + 1) (d64 ((moreL n).set 4 ((moreL n).getD 4 0 &&& 67108863#64))).toArray (by as_aux_lemma => kernel_rfl) (by as_aux_lemma => kernel_rfl) 121 _ HR7.out.out.out (num_info _ HL7.out) (num_same _ _ HL7.out rfl) (d64_cells _) ?_
        apply wpList_nil
        refine hK _ _ ?_
        go_wp2_with fail
        refine bodyPost_ret (v := .agg (d64 ((moreL n).set 4 ((moreL n).getD 4 0 &&& 67108863#64))).toArray) (results_cell_row rfl _ _ (w.heap.size + 1) 121 (d64 ((moreL n).set 4 ((moreL n).getD 4 0 &&& 67108863#64))).toArray (0, 0) _ (by kernel_rfl) (HR7.out.out.setRow _).out Try.underlying121 rfl (num_info _ HL7.out)) rfl ⟨by rw [HW2.out], Go.Proofs.Ytfglhemmccihfaa.Below.setRow HB7.out (by omega) _⟩

end Go.Proofs.Ytfglhemmccihfaa
namespace Go.Proofs.Ytfglhemmccihfaa
open Go.RowKit

/-- Bytes 0 as cells. -/
def zerosB (n : Nat) : Array Value := (cells (List.replicate n 0)).toArray
theorem make_16 (wx : World) : (Instr.makeSlice 32 (.int .i64 16) (.int .i64 16)).run Try.prog wx = .ok (.slice (some ⟨wx.heap.size, 0, none⟩) 16 16) (wx.alloc (.cells (zerosB 16) 5)) := by kernel_rfl
def bytesA (l : List (BitVec 64)) (k : Nat) : Array Value := (cells (bytes5 l k ++ List.replicate (16 - k) 0)).toArray
theorem bytesA_zero (l : List (BitVec 64)) : bytesA l 0 = zerosB 16 := rfl
theorem bytesA_at (l : List (BitVec 64)) (k : Nat) (h : k < 16) : (bytesA l k)[k]? = some (.int .u8 0) := by
  unfold bytesA
  rw [List.getElem?_toArray, cells_get (by simp [bytes5_length]; omega)]
  rw [List.getElem_append_right (by rw [bytes5_length]; exact Nat.le_refl _)]
  simp
  rfl
theorem bytesA_set (l : List (BitVec 64)) (k : Nat) (h : k < 16) : (bytesA l k).setIfInBounds k (u8c (byte5 l k)) = bytesA l (k + 1) := by
  unfold bytesA
  rw [List.setIfInBounds_toArray, cells_set, List.set_append_right _ _ (by rw [bytes5_length]; exact Nat.le_refl _), bytes5_length, Nat.sub_self, bytes5_succ]
  obtain ⟨d, hd⟩ : ∃ d, 16 - k = d + 1 := ⟨15 - k, by omega⟩
  rw [hd, show 16 - (k + 1) = d by omega, List.replicate_succ, List.set_cons_zero, List.append_assoc]
  rfl
theorem bytesA_full (l : List (BitVec 64)) : bytesA l 16 = (cells (bytes5 l 16)).toArray := by simp [bytesA]
theorem byte5_yes (l : List (BitVec 64)) (i : Nat) (h : 8 * i / 26 + 1 < 5) : byte5 l i = ⟨(l.getD (8 * i / 26) 0 >>> (8 * i % 26) ||| l.getD (8 * i / 26 + 1) 0 <<< (26 - 8 * i % 26)).setWidth 8⟩ := by
  unfold byte5; rw [if_pos h]
theorem byte5_no (l : List (BitVec 64)) (i : Nat) (h : ¬ 8 * i / 26 + 1 < 5) : byte5 l i = ⟨(l.getD (8 * i / 26) 0 >>> (8 * i % 26)).setWidth 8⟩ := by
  unfold byte5; rw [if_neg h]

theorem byte_walk (x y : BitVec 64) (a c : Nat) (h : c ≤ 64) : BitVec.setWidth 8 (x >>> a) ||| BitVec.setWidth 8 (BitVec.ofInt 64 (bvi y * 2 ^ c)) = (x >>> a ||| y <<< c).setWidth 8 := by
  have e := shl_min (n := 64) (bvi y) c
  rw [Nat.min_eq_left h, ofInt_bvi_same] at e
  rw [e, BitVec.setWidth_or]

set_option maxRecDepth 100000 in
set_option maxHeartbeats 2000000 in
theorem bytes5_walk (l : List (BitVec 64)) (hl : l.length = 5) (w : World) :
    Calls Try.prog 97 #[.agg (d64 l).toArray] w fun e w' => ∃ r, e = .returned (.string r) ∧ Is r (bytes5 l 16) ∧ Below w.heap.size w w' := by
  have HL := Lib.hid hl
  have hz := d64_size l hl
  have hmk := make_16
  clear hl
  go_enter Try.func97, Try.ntmps97
  go_upto_region 2 with fail
  clear hz hmk
  have hn0 := (NumAt.new w l).alloc (.cells (zerosB 16) 5)
  have hr0 := RowAt.new (w.alloc (.cells (d64 l).toArray 121)) (zerosB 16) 5 (0, 0)
  rw [show (w.alloc (.cells (d64 l).toArray 121)).heap.size = w.heap.size + 1 by simp] at hr0
  have hb0 : Below w.heap.size w ((w.alloc (.cells (d64 l).toArray 121)).alloc (.cells (zerosB 16) 5)) := ((Below.refl _ _).alloc (Nat.le_refl _) _).alloc (by simp) _
  generalize (w.alloc (.cells (d64 l).toArray 121)).alloc (.cells (zerosB 16) 5) = w1 at hn0 hr0 hb0 ⊢
  have HN := Lib.hid hn0
  have HR := Lib.hid hr0
  have HB := Lib.hid hb0
  clear hn0 hr0 hb0
  go_wp2_with fail
  go_loopw [12] (fun i wr => ∃ k : Nat, k ≤ 16 ∧ i = .int .i64 k ∧ RowAt wr (w.heap.size + 1) (bytesA l k) 5 (0, 0) ∧ NumAt wr w.heap.size l ∧ Below w.heap.size w wr) (fun i _ => 16 - (intOf i).toNat)
  case atStart => exact ⟨0, Nat.zero_le _, rfl, HR.out, HN.out, HB.out⟩
  case round =>
    obtain ⟨k, hk, rfl, hr, hn, hb⟩ := hrel
    have HN := Lib.hid hn
    have HR := Lib.hid hr
    have HB := Lib.hid hb
    clear hn hr hb
    rcases Nat.lt_or_ge k 16 with hlt | hge
    · have q1 : (8 * (k : Int) / 26).toNat = 8 * k / 26 := by omega
      have q2 : (8 * (k : Int) % 26).toNat = 8 * k % 26 := by omega
      have q3 : (0 : Int) ≤ 8 * (k : Int) % 26 := by omega
      have q4 : (0 : Int) ≤ 8 * (k : Int) / 26 := by omega
      have q5 : 8 * (k : Int) / 26 < 5 := by omega
      have hq : 8 * k / 26 < 5 := by omega
      have c0 := HN.out.cell (8 * k / 26) (by rw [HL.out]; exact hq)
      have cb := HR.out.cell (bytesA_at l k hlt)
      have fb := HR.out.free (i := k) (by simp)
      by_cases h5 : 8 * k / 26 + 1 < 5
      · have g5 : 8 * (k : Int) / 26 + 1 < 5 := by omega
        have q6 : (0 : Int) ≤ 26 - 8 * (k : Int) % 26 := by omega
        have q7 : (26 - 8 * (k : Int) % 26).toNat = 26 - 8 * k % 26 := by omega
        have q8 : (8 * (k : Int) / 26 + 1).toNat = 8 * k / 26 + 1 := by omega
        have c1 := HN.out.cell (8 * k / 26 + 1) (by rw [HL.out]; exact h5)
        go_wp2_with fail
        go_roundw
        case rel =>
          refine ⟨k + 1, by omega, by go_num, ?_, HN.out.other (by simp) _, HB.out.setCell (p := ⟨_, _, _⟩) (by simp) _⟩
          rw [← bytesA_set l k hlt, byte5_yes l k h5, byte_walk _ _ _ _ (by omega)]
          exact HR.out.store k _
        case measure => simp [intOf]; omega
      · have g5 : decide (8 * (k : Int) / 26 + 1 < 5) = false := decide_eq_false (by omega)
        go_wp2_with fail
        go_roundw
        case rel =>
          refine ⟨k + 1, by omega, by go_num, ?_, HN.out.other (by simp) _, HB.out.setCell (p := ⟨_, _, _⟩) (by simp) _⟩
          rw [← bytesA_set l k hlt, byte5_no l k h5]
          exact HR.out.store k _
        case measure => simp [intOf]; omega
    · obtain rfl : k = 16 := by omega
      have hr2 := HR.out
      rw [bytesA_full] at hr2
      have hst := run_str (P := Try.prog) wr 32 5 Try.underlying32 Try.underlying5 9 Try.underlying9 (w.heap.size + 1) 16 16 _ 5 _ (bytes5 l 16) hr2 (bytes5_length _ _) (by
        rw [List.take_of_length_le]; rw [cells_length, bytes5_length]; exact Nat.le_refl _)
      clear hr2
      go_wp2_with fail
      go_ret
      exact ⟨_, rfl, Is.of _, HB.out⟩

set_option maxRecDepth 100000 in
set_option maxHeartbeats 2000000 in
theorem read_walk (s : ByteArray) (hs : s.size ≤ 17) (w : World) :
    Calls Try.prog 93 #[.string s] w fun e w' => e = .returned (.agg (d64 (readL s.data.toList)).toArray) ∧ Below w.heap.size w w' := by
  have HLEN := Lib.hid (show readL s.data.toList = readK s.data.toList s.size by unfold readL; rw [Array.length_toList]; rfl)
  have hsm : s.size ≤ 9223372036854775807 := by omega
  go_enter Try.func93, Try.ntmps93
  go_upto_region 2 with fail
  have hr0 := (NumAt.new w zeroL).alloc (.cells (d64 zeroL).toArray 121)
  have hn0 := NumAt.new (w.alloc (.cells (d64 zeroL).toArray 121)) zeroL
  rw [show (w.alloc (.cells (d64 zeroL).toArray 121)).heap.size = w.heap.size + 1 by simp] at hn0
  have hb0 : Below w.heap.size w ((w.alloc (.cells (d64 zeroL).toArray 121)).alloc (.cells (d64 zeroL).toArray 121)) := ((Below.refl _ _).alloc (Nat.le_refl _) _).alloc (by simp) _
  change Code.wp _ _ _ _ ((w.alloc (.cells (d64 zeroL).toArray 121)).alloc (.cells (d64 zeroL).toArray 121))
  generalize (w.alloc (.cells (d64 zeroL).toArray 121)).alloc (.cells (d64 zeroL).toArray 121) = w1 at hn0 hr0 hb0 ⊢
  have HN := Lib.hid hn0
  have HR := Lib.hid hr0
  have HB := Lib.hid hb0
  clear hn0 hr0 hb0
  go_wp2_with fail
  go_loopw [11] (fun i wr => ∃ k : Nat, k ≤ s.size ∧ i = .int .i64 k ∧ NumAt wr (w.heap.size + 1) (readK s.data.toList k) ∧ NumAt wr w.heap.size zeroL ∧ Below w.heap.size w wr) (fun i _ => s.size - (intOf i).toNat)
  case atStart => exact ⟨0, Nat.zero_le _, rfl, HN.out, HR.out, HB.out⟩
  case round =>
    obtain ⟨k, hk, rfl, hn, hr, hb⟩ := hrel
    have HN := Lib.hid hn
    have HR := Lib.hid hr
    have HB := Lib.hid hb
    clear hn hr hb
    have HLK := Lib.hid (readK_length s.data.toList k)
    rcases Nat.lt_or_ge k s.size with hlt | hge
    · have q1 : (8 * (k : Int) / 26).toNat = 8 * k / 26 := by omega
      have q2 : (8 * (k : Int) % 26).toNat = 8 * k % 26 := by omega
      have q3 : (0 : Int) ≤ 8 * (k : Int) % 26 := by omega
      have q4 : (0 : Int) ≤ 8 * (k : Int) / 26 := by omega
      have q5 : 8 * (k : Int) / 26 < 5 := by omega
      have hq : 8 * k / 26 < 5 := by omega
      have c0 := HN.out.cell (8 * k / 26) (by rw [HLK.out]; exact hq)
      have f0 := HN.out.free (8 * k / 26)
      have HV := Lib.hid (show shiftB s.data.toList k = BitVec.setWidth 64 s[k].toBitVec <<< (8 * k % 26) by unfold shiftB; rw [getD_byte s k hlt])
      by_cases h5 : 8 * k / 26 + 1 < 5
      · have g5 : 8 * (k : Int) / 26 + 1 < 5 := by omega
        have q8 : (8 * (k : Int) / 26 + 1).toNat = 8 * k / 26 + 1 := by omega
        have q9 : (0 : Int) ≤ 8 * (k : Int) / 26 + 1 := by omega
        have c1 := HN.out.cell (8 * k / 26 + 1) (by rw [HLK.out]; exact h5)
        have f1 := HN.out.free (8 * k / 26 + 1)
        go_wp2_with fail
        go_roundw
        case rel =>
          have hs1 := (HN.out.store (8 * k / 26) ((readK s.data.toList k).getD (8 * k / 26) 0 + (shiftB s.data.toList k &&& 67108863#64))).store (8 * k / 26 + 1) ((readK s.data.toList k).getD (8 * k / 26 + 1) 0 + shiftB s.data.toList k >>> 26)
          rw [HV.out] at hs1
          refine ⟨k + 1, by omega, by go_num, ?_, (HR.out.other (by simp) _).other (by simp) _, (HB.out.setCell (by simp) _).setCell (by simp) _⟩
          rw [readK, readTwo, if_pos h5, readOne, set_getD_ne _ _ _ _ _ (by omega), HV.out]
          exact hs1
        case measure => simp [intOf]; omega
      · have g5 : decide (8 * (k : Int) / 26 + 1 < 5) = false := decide_eq_false (by omega)
        go_wp2_with fail
        go_roundw
        case rel =>
          have hs1 := HN.out.store (8 * k / 26) ((readK s.data.toList k).getD (8 * k / 26) 0 + (shiftB s.data.toList k &&& 67108863#64))
          rw [HV.out] at hs1
          refine ⟨k + 1, by omega, by go_num, ?_, HR.out.other (by simp) _, HB.out.setCell (by simp) _⟩
          rw [readK, readTwo, if_neg h5, readOne, HV.out]
          exact hs1
        case measure => simp [intOf]; omega
    · obtain rfl : k = s.size := by omega
      go_upto_region 12 with fail
      rename_i hK
      apply wp_region_lit
      refine wpList_load_row rfl 121 _ rfl (w.heap.size + 1) (by as_aux_lemma => kernel_rfl) 121 _ (0, 0) _ HN.out.out.out Try.underlying121 rfl (num_info _ HLK.out) ?_
      refine wpList_store_rowTo rfl 121 _ _ rfl rfl w.heap.size (d64 (readK s.data.toList s.size)).toArray (by as_aux_lemma => kernel_rfl) (by as_aux_lemma => kernel_rfl) 121 _ HR.out.out.out (num_info _ HLK.out) (num_same _ _ HLK.out rfl) (d64_cells _) ?_
      apply wpList_nil
      refine hK _ _ ?_
      go_wp2_with fail
      refine bodyPost_ret (v := .agg (d64 (readK s.data.toList s.size)).toArray) (results_cell_row rfl _ _ w.heap.size 121 (d64 (readK s.data.toList s.size)).toArray (0, 0) _ (by kernel_rfl) (HR.out.out.setRow _).out Try.underlying121 rfl (num_info _ HLK.out)) rfl ⟨by rw [HLEN.out], Go.Proofs.Ytfglhemmccihfaa.Below.setRow HB.out (Nat.le_refl _) _⟩
end Go.Proofs.Ytfglhemmccihfaa
namespace Go.Proofs.Ytfglhemmccihfaa
open Go.RowKit

theorem and15 (b : UInt8) : b.toBitVec &&& 15#8 = (b &&& 15).toBitVec := rfl
theorem and252 (b : UInt8) : b.toBitVec &&& 252#8 = (b &&& 252).toBitVec := rfl
set_option maxHeartbeats 1000000 in
theorem Clamp_ok (s : ByteArray) (h : s.size = 16) (w : World) :
    Calls Try.prog 92 #[.string s] w fun e w' => ∃ r, e = .returned (.tuple #[.string r, .int .i64 0]) ∧ Is r (clampL s.data.toList) ∧ Below w.heap.size w w' := by
  have hcv := run_bytes_of_string (P := Try.prog) w 9 32 5 s Try.underlying9 Try.underlying32 Try.underlying5
  have hrow0 := (RowAt.new w (bytesRow s (grownCap w s.size 0 5)) 5 ((bytesRow s (grownCap w s.size 0 5)).size, (bytesRow s (grownCap w s.size 0 5)).size + 1)).drew
  have ht0 := bytesRow_take s (grownCap w s.size 0 5)
  have hs0 := bytesRow_size s (grownCap w s.size 0 5)
  generalize grownCap w s.size 0 5 = cap at hcv hrow0 ht0 hs0
  generalize bytesRow s cap = row at hcv hrow0 ht0 hs0
  have hla : s.data.toList.length = 16 := by rw [Array.length_toList]; exact h
  have hne : ((s.size : Int) != 16) = false := by simp [h]
  rw [h] at hcv ht0 hs0
  have H := Lib.hid h
  have HA := Lib.hid hla
  have HT := Lib.hid ht0
  have HF := Lib.hid (show clampL s.data.toList = clampK s.data.toList 16 by unfold clampL; rw [hla])
  clear h hla ht0
  go_enter Try.func92, Try.ntmps92
  go_wp2_with fail
  clear hcv hne
  go_loopw [13] (fun i wr => ∃ k : Nat, k ≤ 16 ∧ i = .int .i64 k ∧ (∃ cs : Array Value, cs.size = row.size ∧ cs.toList.take 16 = cells (clampK s.data.toList k) ∧ RowAt wr w.heap.size cs 5 (row.size, row.size + 1)) ∧ Below w.heap.size w wr) (fun i _ => 16 - (intOf i).toNat)
  case atStart => exact ⟨0, Nat.zero_le _, rfl, ⟨row, rfl, by rw [clampK_zero, HT.out], hrow0⟩, ((Below.refl _ _).alloc (Nat.le_refl _) _).drew⟩
  case round =>
    clear hrow0
    obtain ⟨k, hk, rfl, ⟨cs, hcs, hct, hrow⟩, hbel⟩ := hrel
    have HC := Lib.hid hcs
    have HT2 := Lib.hid hct
    have HR := Lib.hid hrow
    have HB := Lib.hid hbel
    clear hcs hct hrow hbel
    rcases Nat.lt_or_ge k 16 with hlt | hge
    · have c1 := HR.out.cell (take_cell HT2.out (i := k) (by rw [clampK_length, HA.out]; exact hlt) hlt)
      rw [clampK_get, if_neg (Nat.lt_irrefl k)] at c1
      have HST := Lib.hid (clampK_step s.data.toList k)
      have HSA := Lib.hid (clampK_same s.data.toList k)
      have f1 := HR.out.free (i := k) (by simp; omega)
      have hm0 : (0 : Int) ≤ (k : Int) % 4 := by omega
      clear hs0
      generalize hbk : s.data.toList.getD k 0 = bk at c1 HST HSA
      clear hbk
      by_cases k3 : k % 4 = 3
      · have e3 : ((k : Int) % 4 == 3) = true := by rw [beq_iff_eq]; omega
        have HV := Lib.hid (show clampB k bk = bk &&& 15 by unfold clampB; rw [if_pos k3])
        clear k3
        go_wp2_with fail
        go_roundw
        case rel =>
          refine ⟨k + 1, by omega, by go_num, ⟨cs.setIfInBounds k (u8c (clampB k bk)), by rw [Array.size_setIfInBounds, HC.out], by rw [take_set HT2.out, HST.out], ?_⟩, HB.out.setCell (p := ⟨_, _, _⟩) (Nat.le_refl _) _⟩
          rw [HV.out]
          exact HR.out.store k (u8c (bk &&& 15))
        case measure => simp [intOf]; omega
      · have e3 : ((k : Int) % 4 == 3) = false := by rw [beq_eq_false_iff_ne]; omega
        by_cases k0 : k % 4 = 0
        · have e0 : ((k : Int) % 4 == 0) = true := by rw [beq_iff_eq]; omega
          by_cases kp : 0 < k
          · have ep : decide ((0 : Int) < (k : Int)) = true := decide_eq_true (by omega)
            have HV := Lib.hid (show clampB k bk = bk &&& 252 by unfold clampB; rw [if_neg k3, if_pos ⟨k0, kp⟩])
            clear k3 k0
            go_wp2_with fail
            go_roundw
            case rel =>
              refine ⟨k + 1, by omega, by go_num, ⟨cs.setIfInBounds k (u8c (clampB k bk)), by rw [Array.size_setIfInBounds, HC.out], by rw [take_set HT2.out, HST.out], ?_⟩, HB.out.setCell (p := ⟨_, _, _⟩) (Nat.le_refl _) _⟩
              rw [HV.out]
              exact HR.out.store k (u8c (bk &&& 252))
            case measure => simp [intOf]; omega
          · obtain rfl : k = 0 := by omega
            have HV := Lib.hid (show clampB 0 bk = bk from rfl)
            clear k3 k0 e3 e0
            go_wp2_with fail
            go_roundw
            case rel => exact ⟨1, by omega, by go_num, ⟨cs, HC.out, by rw [HSA.out HV.out]; exact HT2.out, HR.out⟩, HB.out⟩
            case measure => simp [intOf]
        · have e0 : ((k : Int) % 4 == 0) = false := by rw [beq_eq_false_iff_ne]; omega
          have HV := Lib.hid (show clampB k bk = bk by unfold clampB; rw [if_neg k3, if_neg (fun h => k0 h.1)])
          clear k3 k0
          go_wp2_with fail
          go_roundw
          case rel => exact ⟨k + 1, by omega, by go_num, ⟨cs, HC.out, by rw [HSA.out HV.out]; exact HT2.out, HR.out⟩, HB.out⟩
          case measure => simp [intOf]; omega
    · obtain rfl : k = 16 := by omega
      have hst := run_str (P := Try.prog) wr 32 5 Try.underlying32 Try.underlying5 9 Try.underlying9 w.heap.size 16 cap _ 5 _ _ HR.out (by rw [clampK_length, HA.out]) HT2.out
      go_wp2_with fail
      go_ret2
      exact ⟨_, rfl, by rw [HF.out]; exact Is.of _, HB.out⟩
set_option maxHeartbeats 400000 in
theorem Clamp_no (s : ByteArray) (h : s.size ≠ 16) (w : World) :
    Calls Try.prog 92 #[.string s] w fun e w' => e = .returned (.tuple #[.string ByteArray.empty, .int .i64 5]) ∧ w = w' := by
  have hne : ((s.size : Int) != 16) = true := by simp; omega
  clear h
  go_enter Try.func92, Try.ntmps92
  go_wp2_with fail
  go_ret2
  exact ⟨rfl, rfl⟩

/-! ### A Poly -/
def polyL (r s a : List (BitVec 64)) (rest : ByteArray) : List Value := d64 r ++ d64 s ++ d64 a ++ [.string rest]
/-- Block b is a Poly. -/
def PolyIs (w : World) (b : Nat) (r s a : List (BitVec 64)) (rest : ByteArray) : Prop := r.length = 5 ∧ s.length = 5 ∧ a.length = 5 ∧ RowAt w b (polyL r s a rest).toArray 124 (0, 0)
section
variable {w w' : World} {b : Nat} {r s a : List (BitVec 64)} {rest : ByteArray}
theorem PolyIs.lt (h : PolyIs w b r s a rest) : b < w.heap.size := h.2.2.2.lt
theorem PolyIs.below {B : Nat} (h : PolyIs w b r s a rest) (hb : Below B w w') (hB : b < B) : PolyIs w' b r s a rest := ⟨h.1, h.2.1, h.2.2.1, h.2.2.2.below hb hB⟩
theorem PolyIs.drew (h : PolyIs w b r s a rest) : PolyIs w.drew b r s a rest := h
theorem PolyIs.r_mid (h : PolyIs w b r s a rest) : w.rangeAt b 0 (d64 r) := by
  obtain ⟨_, _, _, hw⟩ := h
  unfold polyL at hw
  exact RowAt.mid (xs := []) (by simpa using hw)
theorem PolyIs.s_mid (h : PolyIs w b r s a rest) : w.rangeAt b 5 (d64 s) := by
  obtain ⟨hr, _, _, hw⟩ := h
  unfold polyL at hw
  have := RowAt.mid (xs := d64 r) (cs := d64 s) (ys := d64 a ++ [.string rest]) (by simpa using hw)
  rwa [d64_length, hr] at this
theorem PolyIs.a_mid (h : PolyIs w b r s a rest) : w.rangeAt b 10 (d64 a) := by
  obtain ⟨hr, hs, _, hw⟩ := h
  unfold polyL at hw
  have := RowAt.mid (xs := d64 r ++ d64 s) (cs := d64 a) (ys := [.string rest]) (by simpa using hw)
  rwa [List.length_append, d64_length, d64_length, hr, hs] at this
theorem PolyIs.rest_cell (h : PolyIs w b r s a rest) : w.cell? ⟨b, 15, none⟩ = some (.string rest) := by
  obtain ⟨hr, hs, ha, hw⟩ := h
  refine RowAt.cell hw (i := 15) ?_
  unfold polyL
  rw [List.getElem?_toArray, List.getElem?_append_right (by simp [d64_length, hr, hs, ha])]
  simp [d64_length, hr, hs, ha]
theorem PolyIs.free (h : PolyIs w b r s a rest) (i : Nat) : w.frozen? ⟨b, i, none⟩ = false := h.2.2.2.free (by simp)
theorem PolyIs.setRest (h : PolyIs w b r s a rest) (t : ByteArray) : PolyIs (w.setCell ⟨b, 15, none⟩ (.string t)) b r s a t := by
  obtain ⟨hr, hs, ha, hw⟩ := h
  refine ⟨hr, hs, ha, ?_⟩
  have := RowAt.store hw 15 (.string t)
  unfold polyL at this ⊢
  rw [List.setIfInBounds_toArray, List.set_append_right _ _ (by simp [d64_length, hr, hs, ha])] at this
  simpa [d64_length, hr, hs, ha] using this
theorem PolyIs.setA (h : PolyIs w b r s a rest) (q : List (BitVec 64)) (hq : q.length = 5) : PolyIs (w.setCells b 10 (d64 q)) b r s q rest := by
  obtain ⟨hr, hs, ha, hw⟩ := h
  refine ⟨hr, hs, hq, ?_⟩
  unfold polyL at hw ⊢
  have := RowAt.setMid (d64 q) w (d64 r ++ d64 s) (d64 a) [.string rest] (by simp [d64_length, ha, hq]) (by simpa using hw)
  rw [List.length_append, d64_length, d64_length, hr, hs] at this
  simpa using this
theorem PolyIs.a_there (h : PolyIs w b r s a rest) : w.there b 10 5 := RowAt.there h.2.2.2 10 5 (by simp [polyL, d64_length, h.1, h.2.1, h.2.2.1])
end
theorem num_info' (l : List (BitVec 64)) (h : l.length = 5) : (Try.prog.info? 121).map (·.size) = some (d64 l).length := by
  rw [d64_length, h]; exact num_size

set_option maxRecDepth 100000 in
set_option maxHeartbeats 4000000 in
theorem step_walk (b : Nat) (rl sl al0 al : List (BitVec 64)) (rest s : ByteArray) (w : World) (hal : al.length = 5) (hp : PolyIs w b rl sl al0 rest) (hs16 : s.size ≤ 16) :
    Calls Try.prog 94 #[.pointer (some ⟨b, 0, none⟩), .agg (d64 al).toArray, .string s] w fun e w' => e = .returned (.agg (d64 (stepL al rl s.data.toList)).toArray) ∧ Below w.heap.size w w' := by
  have HAL := Lib.hid hal
  have HP := Lib.hid hp
  have hz := d64_size al hal
  have hblt := hp.lt
  clear hal hp
  go_enter Try.func94, Try.ntmps94
  go_upto_region 1 with fail
  clear hz
  have hn0 := (NumAt.new w al).alloc (.cells (d64 zeroL).toArray 121)
  have hr0 := NumAt.new (w.alloc (.cells (d64 al).toArray 121)) zeroL
  rw [show (w.alloc (.cells (d64 al).toArray 121)).heap.size = w.heap.size + 1 by simp] at hr0
  have hb0 : Below w.heap.size w ((w.alloc (.cells (d64 al).toArray 121)).alloc (.cells (d64 zeroL).toArray 121)) := ((Below.refl _ _).alloc (Nat.le_refl _) _).alloc (by simp) _
  change Code.wp _ _ _ _ ((w.alloc (.cells (d64 al).toArray 121)).alloc (.cells (d64 zeroL).toArray 121))
  generalize (w.alloc (.cells (d64 al).toArray 121)).alloc (.cells (d64 zeroL).toArray 121) = w1 at hn0 hr0 hb0 ⊢
  have HN := Lib.hid hn0
  have HR := Lib.hid hr0
  have HB := Lib.hid hb0
  clear hn0 hr0 hb0
  refine region_table (by kernel_rfl) [7, 8, 9, 10, 11, 12, 13, 14, 15, 16]
    (fun i x => match i with
      | 0 => x = .agg (d64 al).toArray
      | 1 => x = .string s
      | 2 => ∃ t, x = .string t ∧ Is t (s.data.toList ++ [1])
      | 3 => x = .agg (d64 (readL (s.data.toList ++ [1]))).toArray
      | 4 => x = .agg (d64 (plusL al (readL (s.data.toList ++ [1])))).toArray
      | 5 => x = .pointer (some ⟨b, 0, none⟩)
      | 6 => x = .pointer (some ⟨b, 0, none⟩)
      | 7 => x = .pointer (some ⟨b, 0, none⟩)
      | 8 => x = .agg (d64 rl).toArray
      | 9 => x = .agg (d64 (stepL al rl s.data.toList)).toArray
      | _ => True) (fun L _ w' => Below w.heap.size w w' ∧ NumAt w' w.heap.size al ∧ NumAt w' (w.heap.size + 1) (if L 10 = true then stepL al rl s.data.toList else zeroL)) (by kernel_rfl) (by kernel_rfl) rfl (by kernel_rfl) (⟨HB.out.drew, HN.out.drew, HR.out.drew⟩) ?_ ?_
  · refine StepsOk.cons ?_ (StepsOk.cons ?_ (StepsOk.cons ?_ (StepsOk.cons ?_ (StepsOk.cons ?_ (StepsOk.cons ?_ (StepsOk.cons ?_ (StepsOk.cons ?_ (StepsOk.cons ?_ (StepsOk.cons ?_ (StepsOk.cons ?_ StepsOk.nil))))))))))
    · intro L a w4 Kx hl hsz hs ht hr he hK
      refine step_plain rfl ?_
      have h4 : a.tmps.getD 4 undef = .pointer (some ⟨w.heap.size, 0, none⟩) := (hs 4 (by decide)).trans rfl
      refine wp_load_row 121 _ rfl w.heap.size h4 121 _ (0, 0) _ hr.2.1.out.out Try.underlying121 rfl (num_info _ HAL.out) (hK _ _ rfl (by simpa using hr))
    · intro L a w4 Kx hl hsz hs ht hr he hK
      refine step_plain rfl ?_
      have h2 : a.tmps.getD 2 undef = .string s := (hs 2 (by decide)).trans rfl
      go_simp
      exact hK _ _ rfl (by simpa using hr)
    · intro L a w4 Kx hl hsz hs ht hr he hK
      refine step_plain rfl ?_
      have h8 : a.tmps.getD 8 undef = .string s := ht 1 (he 1 (by kernel_rfl)) 8 rfl
      have hov : ¬ 9223372036854775807 < s.size + 1 := by omega
      go_simp
      exact hK _ _ ⟨_, rfl, (Is.self s).append (Is.of [1])⟩ (by simpa using hr)
    · intro L a w4 Kx hl hsz hs ht hr he hK
      refine step_plain rfl ?_
      obtain ⟨t2, h9, i2⟩ : ∃ t, a.tmps.getD 9 undef = .string t ∧ Is t (s.data.toList ++ [1]) := ht 2 (he 2 (by kernel_rfl)) 9 rfl
      have z2 : t2.size ≤ 17 := by rw [i2.size]; simp; exact hs16
      go_simp
      have hw := read_walk t2 z2 w4
      rw [i2.out] at hw
      refine hw.mono ?_
      rintro e w5 ⟨rfl, hb5⟩
      exact hK _ _ rfl (by simpa using (show Below w.heap.size w w5 ∧ NumAt w5 w.heap.size al ∧ NumAt w5 (w.heap.size + 1) (if L 10 = true then stepL al rl s.data.toList else zeroL) from ⟨hr.1.trans (hb5.mono hr.1.size), hr.2.1.below hb5 hr.2.1.lt, hr.2.2.below hb5 hr.2.2.lt⟩))
    · intro L a w4 Kx hl hsz hs ht hr he hK
      refine step_plain rfl ?_
      have h7 : a.tmps.getD 7 undef = .agg (d64 al).toArray := ht 0 (he 0 (by kernel_rfl)) 7 rfl
      have h10 : a.tmps.getD 10 undef = .agg (d64 (readL (s.data.toList ++ [1]))).toArray := ht 3 (he 3 (by kernel_rfl)) 10 rfl
      go_simp
      refine (plus_walk al (readL (s.data.toList ++ [1])) HAL.out (readL_length _) _).mono ?_
      rintro e w5 ⟨rfl, hb5⟩
      exact hK _ _ rfl (by simpa using (show Below w.heap.size w w5 ∧ NumAt w5 w.heap.size al ∧ NumAt w5 (w.heap.size + 1) (if L 10 = true then stepL al rl s.data.toList else zeroL) from ⟨hr.1.trans (hb5.mono hr.1.size), hr.2.1.below hb5 hr.2.1.lt, hr.2.2.below hb5 hr.2.2.lt⟩))
    · intro L a w4 Kx hl hsz hs ht hr he hK
      refine step_plain rfl ?_
      have h0 : a.tmps.getD 0 undef = .pointer (some ⟨b, 0, none⟩) := (hs 0 (by decide)).trans rfl
      go_simp
      exact hK _ _ rfl (by simpa using hr)
    · intro L a w4 Kx hl hsz hs ht hr he hK
      refine step_plain rfl ?_
      have h12 : a.tmps.getD 12 undef = .pointer (some ⟨b, 0, none⟩) := ht 5 (he 5 (by kernel_rfl)) 12 rfl
      go_simp
      exact hK _ _ rfl (by simpa using hr)
    · intro L a w4 Kx hl hsz hs ht hr he hK
      refine step_plain rfl ?_
      have h13 : a.tmps.getD 13 undef = .pointer (some ⟨b, 0, none⟩) := ht 6 (he 6 (by kernel_rfl)) 13 rfl
      go_simp
      exact hK _ _ rfl (by simpa using hr)
    · intro L a w4 Kx hl hsz hs ht hr he hK
      refine step_plain rfl ?_
      have h14 : a.tmps.getD 14 undef = .pointer (some ⟨b, 0, none⟩) := ht 7 (he 7 (by kernel_rfl)) 14 rfl
      refine wp_load_mid 121 _ rfl b 0 h14 (d64 rl) _ ((HP.out.below hr.1 hblt).r_mid) Try.underlying121 rfl (num_info' _ HP.out.1) (hK _ _ rfl (by simpa using hr))
    · intro L a w4 Kx hl hsz hs ht hr he hK
      refine step_plain rfl ?_
      have h11 : a.tmps.getD 11 undef = .agg (d64 (plusL al (readL (s.data.toList ++ [1])))).toArray := ht 4 (he 4 (by kernel_rfl)) 11 rfl
      have h15 : a.tmps.getD 15 undef = .agg (d64 rl).toArray := ht 8 (he 8 (by kernel_rfl)) 15 rfl
      go_simp
      refine (times_walk (plusL al (readL (s.data.toList ++ [1]))) rl ((plusL_length _ _).trans HAL.out) HP.out.1 _).mono ?_
      rintro e w5 ⟨rfl, hb5⟩
      exact hK _ _ rfl (by simpa using (show Below w.heap.size w w5 ∧ NumAt w5 w.heap.size al ∧ NumAt w5 (w.heap.size + 1) (if L 10 = true then stepL al rl s.data.toList else zeroL) from ⟨hr.1.trans (hb5.mono hr.1.size), hr.2.1.below hb5 hr.2.1.lt, hr.2.2.below hb5 hr.2.2.lt⟩))
    · intro L a w4 Kx hl hsz hs ht hr he hK
      refine step_plain rfl ?_
      have h16 : a.tmps.getD 16 undef = .agg (d64 (stepL al rl s.data.toList)).toArray := ht 9 (he 9 (by kernel_rfl)) 16 rfl
      have h6 : a.tmps.getD 6 undef = .pointer (some ⟨w.heap.size + 1, 0, none⟩) := (hs 6 (by decide)).trans rfl
      have hr2 : NumAt w4 (w.heap.size + 1) zeroL := by have := hr.2.2; rwa [hl] at this
      refine wp_store_row 121 _ _ rfl (w.heap.size + 1) (d64 (stepL al rl s.data.toList)).toArray h6 h16 121 _ hr2.out.out (num_info _ (stepL_length _ _ _)) (num_same _ _ (stepL_length _ _ _) rfl) (d64_cells _) (hK _ _ trivial ?_)
      refine ⟨Go.Proofs.Ytfglhemmccihfaa.Below.setRow hr.1 (by omega) _, RowAt.setOther hr.2.1.out (by omega) _, ?_⟩
      show NumAt _ _ (if (L 10 || true) = true then _ else _)
      rw [Bool.or_true, if_pos rfl]
      exact hr2.out.setRow _
  · intro f L w4 hf hall hr
    have hr2 : NumAt w4 (w.heap.size + 1) (stepL al rl s.data.toList) := by have := hr.2.2; rwa [hall 10 (by decide), if_pos rfl] at this
    simp only [List.foldl, Act.put, List.setIfInBounds_toArray, List.set_cons_zero, List.set_cons_succ]
    have HR2 := Lib.hid hr2
    have HB2 := Lib.hid hr.1
    clear hf hall hr hr2
    go_wp2_with fail
    refine bodyPost_ret (v := .agg (d64 (stepL al rl s.data.toList)).toArray) (results_cell_row rfl _ _ (w.heap.size + 1) 121 (d64 (stepL al rl s.data.toList)).toArray (0, 0) _ (by kernel_rfl) HR2.out.out.out Try.underlying121 rfl (num_info _ (stepL_length _ _ _))) rfl ⟨rfl, HB2.out⟩

set_option maxRecDepth 100000 in
set_option maxHeartbeats 4000000 in
theorem New_ok (key : ByteArray) (hk : key.size = 32) (w : World) :
    Calls Try.prog 76 #[.string key] w fun e w' => ∃ b, e = .returned (.tuple #[.pointer (some ⟨b, 0, none⟩), .int .i64 0]) ∧ w.heap.size ≤ b ∧ PolyIs w' b (readL (clampL (key.data.toList.take 16))) (readL (key.data.toList.drop 16)) zeroL ⟨#[]⟩ ∧ Below w.heap.size w w' := by
  have hne : ((key.size : Int) != 32) = false := by simp [hk]
  have hk1 : 16 ≤ key.size := by omega
  have hk2 : key.size ≤ 32 := by omega
  have HK := Lib.hid hk
  have HX := Lib.hid (show Is (key.extract 0 16) (key.data.toList.take 16) from by have := (Is.self key).extract 0 16; rwa [List.drop_zero, Nat.sub_zero] at this)
  have HY := Lib.hid (show Is (key.extract 16 key.size) (key.data.toList.drop 16) from by
    have := (Is.self key).extract 16 key.size
    rwa [List.take_of_length_le (by rw [List.length_drop, Array.length_toList]; exact Nat.le_refl _)] at this)
  have hx16 : (key.extract 0 16).size = 16 := by rw [ByteArray.size_extract]; omega
  have hy16 : (key.extract 16 key.size).size ≤ 17 := by rw [ByteArray.size_extract]; omega
  have HXZ := Lib.hid hx16
  clear hk hx16
  go_enter Try.func76, Try.ntmps76
  go_wp2_with fail
  refine (Clamp_ok _ HXZ.out _).mono ?_
  rintro e w1 ⟨c, rfl, hc, hb1⟩
  rw [HX.out.out] at hc
  have hcz : c.size ≤ 17 := by rw [hc.size, clampL_length, List.length_take]; omega
  have HC := Lib.hid hc
  have HB1 := Lib.hid hb1
  clear hc hb1
  go_wp2_with fail
  have hrl : (readL (clampL (key.data.toList.take 16))).length = 5 := readL_length _
  have hsl : (readL (key.data.toList.drop 16)).length = 5 := readL_length _
  have hrd := read_walk c hcz
  rw [HC.out.out] at hrd
  have hsd := read_walk (key.extract 16 key.size) hy16
  rw [HY.out.out] at hsd
  generalize hrq : readL (clampL (key.data.toList.take 16)) = rl at hrl hrd
  generalize hsq : readL (key.data.toList.drop 16) = sl at hsl hsd
  obtain ⟨r0, r1, r2, r3, r4, rfl⟩ := five rl hrl
  obtain ⟨s0, s1, s2, s3, s4, rfl⟩ := five sl hsl
  have HRD := Lib.hid hrd
  have HSD := Lib.hid hsd
  have HRQ := Lib.hid hrq
  have HSQ := Lib.hid hsq
  clear hrd hsd hrl hsl hrq hsq
  refine region_table (by kernel_rfl) [18, 19, 20, 21, 22, 23, 24, 2, 3]
    (fun i x => match i with
      | 0 => x = .string c
      | 1 => x = .agg (d64 [r0, r1, r2, r3, r4]).toArray
      | 2 => x = .string key
      | 3 => x = .string (key.extract 16 key.size)
      | 4 => x = .agg (d64 [s0, s1, s2, s3, s4]).toArray
      | 5 => x = .agg (polyL [r0, r1, r2, r3, r4] [s0, s1, s2, s3, s4] zeroL ⟨#[]⟩).toArray
      | 6 => ∃ g, x = .pointer (some ⟨g, 0, none⟩)
      | 7 => ∃ g, x = .pointer (some ⟨g, 0, none⟩)
      | 8 => x = .int .i64 0
      | _ => True) (fun L g w' => Below w.heap.size w w' ∧ (L 6 = true → ∃ n, g 24 = .pointer (some ⟨n, 0, none⟩) ∧ w.heap.size ≤ n ∧ RowAt w' n (polyL [r0, r1, r2, r3, r4] [s0, s1, s2, s3, s4] zeroL ⟨#[]⟩).toArray 124 (0, 0)) ∧ (L 7 = true → L 6 = true ∧ g 2 = g 24)) (by kernel_rfl) (by kernel_rfl) rfl (by kernel_rfl) (⟨HB1.out.drew, (fun h => by cases h), (fun h => by cases h)⟩) ?_ ?_
  · refine StepsOk.cons ?_ (StepsOk.cons ?_ (StepsOk.cons ?_ (StepsOk.cons ?_ (StepsOk.cons ?_ (StepsOk.cons ?_ (StepsOk.cons ?_ (StepsOk.cons ?_ (StepsOk.cons ?_ StepsOk.nil))))))))
    · intro L a w4 Kx hl hsz hs ht hr he hK
      refine step_plain rfl ?_
      have h4 : a.tmps.getD 4 undef = .string c := (hs 4 (by decide)).trans rfl
      go_simp
      exact hK _ _ rfl (by simpa [slot_ne] using hr)
    · intro L a w4 Kx hl hsz hs ht hr he hK
      refine step_plain rfl ?_
      have h18 : a.tmps.getD 18 undef = .string c := ht 0 (he 0 (by kernel_rfl)) 18 rfl
      go_simp
      refine (HRD.out w4).mono ?_
      rintro e w5 ⟨rfl, hb5⟩
      have hr5 : Below w.heap.size w w5 ∧ (L 6 = true → ∃ n, slot a 24 = .pointer (some ⟨n, 0, none⟩) ∧ w.heap.size ≤ n ∧ RowAt w5 n (polyL [r0, r1, r2, r3, r4] [s0, s1, s2, s3, s4] zeroL ⟨#[]⟩).toArray 124 (0, 0)) ∧ (L 7 = true → L 6 = true ∧ slot a 2 = slot a 24) :=
        ⟨hr.1.trans (hb5.mono hr.1.size), fun h => by obtain ⟨n, h1, h2, h3⟩ := hr.2.1 h; exact ⟨n, h1, h2, h3.below hb5 h3.lt⟩, hr.2.2⟩
      exact hK _ _ rfl (by simpa [slot_ne] using hr5)
    · intro L a w4 Kx hl hsz hs ht hr he hK
      refine step_plain rfl ?_
      have h0 : a.tmps.getD 0 undef = .string key := (hs 0 (by decide)).trans rfl
      go_simp
      exact hK _ _ rfl (by simpa [slot_ne] using hr)
    · intro L a w4 Kx hl hsz hs ht hr he hK
      refine step_plain rfl ?_
      have h20 : a.tmps.getD 20 undef = .string key := ht 2 (he 2 (by kernel_rfl)) 20 rfl
      have hk3 : (16 : Int) ≤ (key.size : Int) := by omega
      go_simp
      exact hK _ _ rfl (by simpa [slot_ne] using hr)
    · intro L a w4 Kx hl hsz hs ht hr he hK
      refine step_plain rfl ?_
      have h21 : a.tmps.getD 21 undef = .string (key.extract 16 key.size) := ht 3 (he 3 (by kernel_rfl)) 21 rfl
      go_simp
      refine (HSD.out w4).mono ?_
      rintro e w5 ⟨rfl, hb5⟩
      have hr5 : Below w.heap.size w w5 ∧ (L 6 = true → ∃ n, slot a 24 = .pointer (some ⟨n, 0, none⟩) ∧ w.heap.size ≤ n ∧ RowAt w5 n (polyL [r0, r1, r2, r3, r4] [s0, s1, s2, s3, s4] zeroL ⟨#[]⟩).toArray 124 (0, 0)) ∧ (L 7 = true → L 6 = true ∧ slot a 2 = slot a 24) :=
        ⟨hr.1.trans (hb5.mono hr.1.size), fun h => by obtain ⟨n, h1, h2, h3⟩ := hr.2.1 h; exact ⟨n, h1, h2, h3.below hb5 h3.lt⟩, hr.2.2⟩
      exact hK _ _ rfl (by simpa [slot_ne] using hr5)
    · intro L a w4 Kx hl hsz hs ht hr he hK
      refine step_plain rfl ?_
      have h19 : a.tmps.getD 19 undef = .agg (d64 [r0, r1, r2, r3, r4]).toArray := ht 1 (he 1 (by kernel_rfl)) 19 rfl
      have h22 : a.tmps.getD 22 undef = .agg (d64 [s0, s1, s2, s3, s4]).toArray := ht 4 (he 4 (by kernel_rfl)) 22 rfl
      have h19 : a.tmps.getD 19 undef = .agg #[.int .u64 (bvi r0), .int .u64 (bvi r1), .int .u64 (bvi r2), .int .u64 (bvi r3), .int .u64 (bvi r4)] := h19
      have h22 : a.tmps.getD 22 undef = .agg #[.int .u64 (bvi s0), .int .u64 (bvi s1), .int .u64 (bvi s2), .int .u64 (bvi s3), .int .u64 (bvi s4)] := h22
      refine wp_buildTo 124 _ rfl (polyL [r0, r1, r2, r3, r4] [s0, s1, s2, s3, s4] zeroL ⟨#[]⟩).toArray ?_ (hK _ _ rfl (by simpa [slot_ne] using hr))
      rw [Array.toList_map]
      show Try.prog.built _ [(0, a.tmps.getD 19 undef), (1, a.tmps.getD 22 undef)] = _
      rw [h19, h22]
      kernel_rfl
    · intro L a w4 Kx hl hsz hs ht hr he hK
      refine step_plain rfl ?_
      have h23 : a.tmps.getD 23 undef = .agg #[.int .u64 (bvi r0), .int .u64 (bvi r1), .int .u64 (bvi r2), .int .u64 (bvi r3), .int .u64 (bvi r4), .int .u64 (bvi s0), .int .u64 (bvi s1), .int .u64 (bvi s2), .int .u64 (bvi s3), .int .u64 (bvi s4), .int .u64 0, .int .u64 0, .int .u64 0, .int .u64 0, .int .u64 0, .string ⟨#[]⟩] := ht 5 (he 5 (by kernel_rfl)) 23 rfl
      have hx7 : L 7 = false := by
        cases hy : L 7 with
        | false => rfl
        | true => have := (hr.2.2 hy).1; rw [hl] at this; cases this
      go_simp
      refine hK _ _ ⟨_, rfl⟩ ⟨hr.1.alloc hr.1.size _, fun _ => ⟨_, slot_out (by rw [hsz]; exact of_decide_eq_true (by kernel_rfl)), hr.1.size, RowAt.new w4 _ _ _⟩, fun h => ?_⟩
      have h' : (L 7 || false) = true := h
      rw [hx7] at h'
      cases h'
    · intro L a w4 Kx hl hsz hs ht hr he hK
      refine step_plain rfl ?_
      obtain ⟨n, g24, n1, n2⟩ := hr.2.1 (he 6 (by kernel_rfl))
      have h24 : a.tmps.getD 24 undef = .pointer (some ⟨n, 0, none⟩) := g24
      have hl6 : L 6 = true := he 6 (by kernel_rfl)
      go_simp
      refine hK _ _ ⟨_, rfl⟩ ⟨hr.1, fun _ => ⟨n, ?_, n1, n2⟩, fun _ => ⟨?_, ?_⟩⟩
      · show slot (a.put (some 2) _) 24 = _
        rw [slot_ne _ _ _ _ (by decide)]; exact g24
      · show (L 6 || false) = true
        rw [hl6]; rfl
      · show slot (a.put (some 2) _) 2 = slot (a.put (some 2) _) 24
        rw [slot_ne a 2 24 _ (by decide), slot_out (by rw [hsz]; exact of_decide_eq_true (by kernel_rfl)), g24]
    · intro L a w4 Kx hl hsz hs ht hr he hK
      refine step_plain rfl ?_
      go_simp
      exact hK _ _ rfl (by simpa [slot_ne] using hr)
  · intro f L w4 hf hall hr
    obtain ⟨hb5, h6, h7⟩ := hr
    obtain ⟨n, g24, n1, n2⟩ := h6 (hall 6 (by decide))
    have g2 := (h7 (hall 7 (by decide))).2
    rw [g24] at g2
    have g3 : f 3 = .int .i64 0 := hf 8 (by decide) 3 rfl
    simp only [List.foldl, Act.put, List.setIfInBounds_toArray, List.set_cons_zero, List.set_cons_succ]
    rw [g2, g3]
    clear hf hall g24 g2 g3 h6 h7
    have HN2 := Lib.hid n2
    have HB5 := Lib.hid hb5
    clear n2 hb5
    go_wp2_with fail
    go_ret2
    exact ⟨n, rfl, n1, by rw [HRQ.out, HSQ.out]; exact ⟨rfl, rfl, rfl, HN2.out⟩, HB5.out⟩
set_option maxHeartbeats 400000 in
theorem New_no (key : ByteArray) (hk : key.size ≠ 32) (w : World) :
    Calls Try.prog 76 #[.string key] w fun e w' => e = .returned (.tuple #[.pointer none, .int .i64 5]) ∧ w = w' := by
  have hne : ((key.size : Int) != 32) = true := by simp; omega
  clear hk
  go_enter Try.func76, Try.ntmps76
  go_wp2_with fail
  go_ret2
  exact ⟨rfl, rfl⟩
end Go.Proofs.Ytfglhemmccihfaa
namespace Go.Proofs.Ytfglhemmccihfaa
open Go.RowKit

/-- Block b is a Poly to which the text t was added. -/
def PolyAt (w : World) (b : Nat) (rl sl : List (BitVec 64)) (t : List UInt8) : Prop := ∃ rest, Is rest (t.drop (16 * (t.length / 16))) ∧ PolyIs w b rl sl (foldL rl t (t.length / 16)) rest
theorem PolyAt.below {B : Nat} {w w' : World} {b : Nat} {rl sl : List (BitVec 64)} {t : List UInt8} (h : PolyAt w b rl sl t) (hb : Below B w w') (hB : b < B) : PolyAt w' b rl sl t := by
  obtain ⟨rest, hr, hp⟩ := h
  exact ⟨rest, hr, hp.below hb hB⟩
theorem PolyAt.lt {w : World} {b : Nat} {rl sl : List (BitVec 64)} {t : List UInt8} (h : PolyAt w b rl sl t) : b < w.heap.size := by
  obtain ⟨rest, hr, hp⟩ := h
  exact hp.lt
theorem PolyIs.setRest' {w : World} {b : Nat} {rl sl al : List (BitVec 64)} {rest : ByteArray} (h : PolyIs w b rl sl al rest) (t : ByteArray) : PolyIs (w.setCell ⟨b, 15, none⟩ (.string t)) b rl sl al t := h.setRest t

set_option maxRecDepth 100000 in
set_option maxHeartbeats 4000000 in
theorem Add_walk (b : Nat) (rl sl : List (BitVec 64)) (t : List UInt8) (text : ByteArray) (htx : text.size ≤ 140737488351232) (w : World) (h : PolyAt w b rl sl t) :
    Calls Try.prog 77 #[.pointer (some ⟨b, 0, none⟩), .string text] w fun e w' => e = .returned (.tuple #[]) ∧ PolyAt w' b rl sl (t ++ text.data.toList) ∧ Only b w w' := by
  obtain ⟨rest, hrest, hp⟩ := h
  have hrz : rest.size ≤ 16 := by rw [hrest.size, List.length_drop]; omega
  have hblt := hp.lt
  have hra := hp.1
  have c15 := hp.rest_cell
  have f15 := hp.free 15
  have hov : rest.size + text.size ≤ 9223372036854775807 := by omega
  obtain ⟨t', ht'⟩ : ∃ t', t' = t ++ text.data.toList := ⟨_, rfl⟩
  have hj : t.length / 16 ≤ t'.length / 16 := by rw [ht', List.length_append]; omega
  have HT' := Lib.hid ht'
  have HRE := Lib.hid (show Is (rest ++ text) (t'.drop (16 * (t.length / 16))) from by
    rw [ht', List.drop_append_of_le_length (by omega)]
    exact hrest.append (Is.self text))
  have HP := Lib.hid (show PolyIs (w.setCell ⟨b, 15, none⟩ (.string (rest ++ text))) b rl sl (foldL rl t' (t.length / 16)) (rest ++ text) from by
    rw [ht', foldL_append _ _ _ _ (by omega)]
    exact hp.setRest (rest ++ text))
  rw [← ht']
  clear hrest hp ht'
  go_enter Try.func77, Try.ntmps77
  go_wp2_with fail
  have HO := Lib.hid ((Only.refl b w).setCell (p := ⟨b, 15, none⟩) rfl (.string (rest ++ text)))
  clear c15 f15
  generalize w.setCell ⟨b, 15, none⟩ (.string (rest ++ text)) = w1 at HP HO ⊢
  go_loopg [12] (t'.length / 16 - t.length / 16) (fun g u wr => ∃ (j : Nat) (rest : ByteArray), j + g = t'.length / 16 ∧ Is rest (t'.drop (16 * j)) ∧ PolyIs wr b rl sl (foldL rl t' j) rest ∧ Only b w wr)
  case atStart => exact ⟨t.length / 16, rest ++ text, by omega, HRE.out, HP.out, HO.out⟩
  case round =>
    obtain ⟨j, rs, hjg, hrs, hps, hos⟩ := hrel
    have hrz : rs.size = t'.length - 16 * j := by rw [hrs.size, List.length_drop]
    have HJ := Lib.hid hjg
    have HRS := Lib.hid hrs
    have HPS := Lib.hid hps
    have HOS := Lib.hid hos
    have c15 := hps.rest_cell
    rcases Nat.lt_or_ge 0 gk with hg | hg
    · have h16 : 16 ≤ rs.size := by omega
      have HZ := Lib.hid hrz
      have HX := Lib.hid (show Is (rs.extract 0 16) (chunkL t' j) from by have := hrs.extract 0 16; rwa [List.drop_zero, Nat.sub_zero] at this)
      have HY := Lib.hid (show Is (rs.extract 16 rs.size) (t'.drop (16 * (j + 1))) from by
        have := hrs.extract 16 rs.size
        rwa [List.drop_drop, List.take_of_length_le (by rw [List.length_drop, hrz]; omega), show 16 * j + 16 = 16 * (j + 1) by omega] at this)
      have hd16 : decide ((16 : Int) ≤ (rs.size : Int)) = true := decide_eq_true (by omega)
      have hl5 := foldL_length rl t' j
      have HL5 := Lib.hid hl5
      have hx16 : (rs.extract 0 16).size ≤ 16 := by rw [ByteArray.size_extract]; omega
      obtain ⟨nw, hnw⟩ : ∃ nw, nw = foldL rl t' (j + 1) := ⟨_, rfl⟩
      have HNL := Lib.hid (show nw.length = 5 by rw [hnw]; exact foldL_length _ _ _)
      have HNW := Lib.hid (show nw = stepL (foldL rl t' j) rl (chunkL t' j) by rw [hnw, foldL])
      have HFS := Lib.hid hnw
      clear hnw
      generalize foldL rl t' j = al at HPS HL5 HNW
      have hblt2 := HPS.out.lt
      clear hrs hps hos hrz hjg hl5
      go_wp2_with fail
      refine region_table (by kernel_rfl) [18, 19, 20, 21, 22, 23, 24, 25, 26, 27, 28, 29, 30, 31]
        (fun i x => match i with
          | 0 => x = .pointer (some ⟨b, 0, none⟩)
          | 1 => x = .pointer (some ⟨b, 0, none⟩)
          | 2 => x = .pointer (some ⟨b, 0, none⟩)
          | 3 => x = .pointer (some ⟨b, 0, none⟩)
          | 4 => x = .pointer (some ⟨b, 10, none⟩)
          | 5 => x = .agg (d64 al).toArray
          | 6 => x = .pointer (some ⟨b, 0, none⟩)
          | 7 => x = .pointer (some ⟨b, 0, none⟩)
          | 8 => x = .pointer (some ⟨b, 15, none⟩)
          | 9 => x = .string rs
          | 10 => x = .string (rs.extract 0 16)
          | 11 => x = .agg (d64 nw).toArray
          | 12 => x = .pointer (some ⟨b, 0, none⟩)
          | 13 => x = .pointer (some ⟨b, 10, none⟩)
          | _ => True) (fun L _ w' => Only b wr w' ∧ PolyIs w' b rl sl (if L 14 = true then nw else al) rs ∧ (L 14 = true → L 5 = true)) (by kernel_rfl) (by kernel_rfl) rfl (by kernel_rfl) (⟨(Only.refl b wr).drew, HPS.out.drew, (fun h => by cases h)⟩) ?_ ?_
      · refine StepsOk.cons ?_ (StepsOk.cons ?_ (StepsOk.cons ?_ (StepsOk.cons ?_ (StepsOk.cons ?_ (StepsOk.cons ?_ (StepsOk.cons ?_ (StepsOk.cons ?_ (StepsOk.cons ?_ (StepsOk.cons ?_ (StepsOk.cons ?_ (StepsOk.cons ?_ (StepsOk.cons ?_ (StepsOk.cons ?_ (StepsOk.cons ?_ StepsOk.nil))))))))))))))
        · intro L a w4 Kx hl hsz hs ht hr he hK
          refine step_plain rfl ?_
          have h0 : a.tmps.getD 0 undef = .pointer (some ⟨b, 0, none⟩) := (hs 0 (by decide)).trans rfl
          go_simp
          exact hK _ _ rfl (by simpa using hr)
        · intro L a w4 Kx hl hsz hs ht hr he hK
          refine step_plain rfl ?_
          have h0 : a.tmps.getD 0 undef = .pointer (some ⟨b, 0, none⟩) := (hs 0 (by decide)).trans rfl
          go_simp
          exact hK _ _ rfl (by simpa using hr)
        · intro L a w4 Kx hl hsz hs ht hr he hK
          refine step_plain rfl ?_
          have h0 : a.tmps.getD 0 undef = .pointer (some ⟨b, 0, none⟩) := (hs 0 (by decide)).trans rfl
          go_simp
          exact hK _ _ rfl (by simpa using hr)
        · intro L a w4 Kx hl hsz hs ht hr he hK
          refine step_plain rfl ?_
          have h20 : a.tmps.getD 20 undef = .pointer (some ⟨b, 0, none⟩) := ht 2 (he 2 (by kernel_rfl)) 20 rfl
          go_simp
          exact hK _ _ rfl (by simpa using hr)
        · intro L a w4 Kx hl hsz hs ht hr he hK
          refine step_plain rfl ?_
          have h21 : a.tmps.getD 21 undef = .pointer (some ⟨b, 0, none⟩) := ht 3 (he 3 (by kernel_rfl)) 21 rfl
          go_simp
          exact hK _ _ rfl (by simpa using hr)
        · intro L a w4 Kx hl hsz hs ht hr he hK
          refine step_plain rfl ?_
          have h22 : a.tmps.getD 22 undef = .pointer (some ⟨b, 10, none⟩) := ht 4 (he 4 (by kernel_rfl)) 22 rfl
          have hx : L 14 = false := by
            cases hy : L 14 with
            | false => rfl
            | true => have := hr.2.2 hy; rw [hl] at this; cases this
          have hr2 : PolyIs w4 b rl sl al rs := by have := hr.2.1; rwa [hx] at this
          refine wp_load_mid 121 _ rfl b 10 h22 (d64 al) _ hr2.a_mid Try.underlying121 rfl (num_info' _ HL5.out) (hK _ _ rfl ⟨hr.1, ?_, fun _ => ?_⟩)
          · show PolyIs w4 b rl sl (if (L 14 || false) = true then _ else _) rs
            rw [hx]; exact hr2
          · show (L 5 || true) = true
            rw [Bool.or_true]
        · intro L a w4 Kx hl hsz hs ht hr he hK
          refine step_plain rfl ?_
          have h0 : a.tmps.getD 0 undef = .pointer (some ⟨b, 0, none⟩) := (hs 0 (by decide)).trans rfl
          go_simp
          exact hK _ _ rfl (by simpa using hr)
        · intro L a w4 Kx hl hsz hs ht hr he hK
          refine step_plain rfl ?_
          have h24 : a.tmps.getD 24 undef = .pointer (some ⟨b, 0, none⟩) := ht 6 (he 6 (by kernel_rfl)) 24 rfl
          go_simp
          exact hK _ _ rfl (by simpa using hr)
        · intro L a w4 Kx hl hsz hs ht hr he hK
          refine step_plain rfl ?_
          have h25 : a.tmps.getD 25 undef = .pointer (some ⟨b, 0, none⟩) := ht 7 (he 7 (by kernel_rfl)) 25 rfl
          go_simp
          exact hK _ _ rfl (by simpa using hr)
        · intro L a w4 Kx hl hsz hs ht hr he hK
          refine step_plain rfl ?_
          have h26 : a.tmps.getD 26 undef = .pointer (some ⟨b, 15, none⟩) := ht 8 (he 8 (by kernel_rfl)) 26 rfl
          have c := hr.2.1.rest_cell
          go_simp
          exact hK _ _ rfl (by simpa using hr)
        · intro L a w4 Kx hl hsz hs ht hr he hK
          refine step_plain rfl ?_
          have h27 : a.tmps.getD 27 undef = .string rs := ht 9 (he 9 (by kernel_rfl)) 27 rfl
          have hk3 : (16 : Int) ≤ (rs.size : Int) := by omega
          go_simp
          exact hK _ _ rfl (by simpa using hr)
        · intro L a w4 Kx hl hsz hs ht hr he hK
          refine step_plain rfl ?_
          have h19 : a.tmps.getD 19 undef = .pointer (some ⟨b, 0, none⟩) := ht 1 (he 1 (by kernel_rfl)) 19 rfl
          have h23 : a.tmps.getD 23 undef = .agg (d64 al).toArray := ht 5 (he 5 (by kernel_rfl)) 23 rfl
          have h28 : a.tmps.getD 28 undef = .string (rs.extract 0 16) := ht 10 (he 10 (by kernel_rfl)) 28 rfl
          go_simp
          have hw := step_walk b rl sl _ al rs (rs.extract 0 16) w4 HL5.out hr.2.1 hx16
          rw [HX.out.out, ← HNW.out] at hw
          refine hw.mono ?_
          rintro e w5 ⟨rfl, hb5⟩
          exact hK _ _ rfl (by simpa using (show Only b wr w5 ∧ PolyIs w5 b rl sl (if L 14 = true then nw else al) rs ∧ (L 14 = true → L 5 = true) from ⟨hr.1.trans (Only.of_below hb5), hr.2.1.below hb5 hr.2.1.lt, hr.2.2⟩))
        · intro L a w4 Kx hl hsz hs ht hr he hK
          refine step_plain rfl ?_
          have h18 : a.tmps.getD 18 undef = .pointer (some ⟨b, 0, none⟩) := ht 0 (he 0 (by kernel_rfl)) 18 rfl
          go_simp
          exact hK _ _ rfl (by simpa using hr)
        · intro L a w4 Kx hl hsz hs ht hr he hK
          refine step_plain rfl ?_
          have h30 : a.tmps.getD 30 undef = .pointer (some ⟨b, 0, none⟩) := ht 12 (he 12 (by kernel_rfl)) 30 rfl
          go_simp
          exact hK _ _ rfl (by simpa using hr)
        · intro L a w4 Kx hl hsz hs ht hr he hK
          refine step_plain rfl ?_
          have h31 : a.tmps.getD 31 undef = .pointer (some ⟨b, 10, none⟩) := ht 13 (he 13 (by kernel_rfl)) 31 rfl
          have h29 : a.tmps.getD 29 undef = .agg (d64 nw).toArray := ht 11 (he 11 (by kernel_rfl)) 29 rfl
          have hr2 : PolyIs w4 b rl sl al rs := by have := hr.2.1; rwa [hl] at this
          have hsz5 : (d64 nw).toArray.size = 5 := d64_size _ HNL.out
          refine wp_store_mid 121 _ _ rfl b 10 (d64 nw).toArray h31 h29 (by rw [hsz5]; exact hr2.a_there) (num_info _ HNL.out) (d64_cells _) (hK _ _ trivial ⟨Only.setCells _ _ _ hr.1, ?_, fun _ => ?_⟩)
          · show PolyIs _ b rl sl (if (L 14 || true) = true then _ else _) rs
            rw [Bool.or_true, if_pos rfl]
            exact hr2.setA nw HNL.out
          · show (L 5 || false) = true
            rw [he 5 (by kernel_rfl)]; rfl
      · intro f L w4 hf hall hr
        have hr2 : PolyIs w4 b rl sl nw rs := by have := hr.2.1; rwa [hall 14 (by decide), if_pos rfl] at this
        have HO2 := Lib.hid (HOS.out.trans hr.1)
        have c15 := hr2.rest_cell
        have f15 := hr2.free 15
        have HP3 := Lib.hid (hr2.setRest (rs.extract 16 rs.size))
        simp only [List.foldl, Act.put, List.setIfInBounds_toArray, List.set_cons_zero, List.set_cons_succ]
        clear hf hall hr hr2
        have hk3 : (16 : Int) ≤ (rs.size : Int) := by omega
        go_wp2_with fail
        go_roundg (gk - 1)
        case measure => omega
        case rel =>
          exact ⟨j + 1, rs.extract 16 rs.size, by have := HJ.out; omega, HY.out, by rw [← HFS.out]; exact HP3.out, HO2.out.setCell (p := ⟨b, 15, none⟩) rfl _⟩
    · obtain rfl : gk = 0 := by omega
      have hd16 : decide ((16 : Int) ≤ (rs.size : Int)) = false := decide_eq_false (by omega)
      have hjj : j = t'.length / 16 := by omega
      have HJJ := Lib.hid hjj
      clear hrs hps hos hrz hjg hjj
      go_wp2_with fail
      go_end0
      exact ⟨rfl, ⟨rs, by rw [← HJJ.out]; exact HRS.out, by rw [← HJJ.out]; exact HPS.out⟩, HOS.out⟩

theorem rest_empty (r : ByteArray) : seq r ⟨#[]⟩ = decide (r.data.toList = []) := rfl
set_option maxRecDepth 100000 in
set_option maxHeartbeats 8000000 in
theorem PTag_walk (b : Nat) (rl sl al : List (BitVec 64)) (rest : ByteArray) (hz16 : rest.size ≤ 16) (w : World) (hp : PolyIs w b rl sl al rest) :
    Calls Try.prog 78 #[.pointer (some ⟨b, 0, none⟩)] w fun e w' => ∃ r, e = .returned (.string r) ∧ Is r (tagOf rl sl al rest.data.toList) ∧ Below w.heap.size w w' := by
  have HP := Lib.hid hp
  have hblt := hp.lt
  have HAL := Lib.hid hp.2.2.1
  have HSL := Lib.hid hp.2.1
  have c15 := hp.rest_cell
  clear hp
  go_enter Try.func78, Try.ntmps78
  go_upto_region 2 with (first
    | (with_reducible refine wpList_load_mid rfl 121 (.tmp 7) rfl b 10 ?p1 (d64 al) _ HP.out.a_mid Try.underlying121 rfl ?p2 ?_)
    | (with_reducible refine wpList_store_rowTo rfl 121 (.tmp 3) (.tmp 8) rfl rfl w.heap.size (d64 al).toArray ?q1 ?q2 121 zero5 ?q3 ?q4 ?q5 ?q6 ?_))
  case p1 => rfl
  case p2 => exact num_info' _ HAL.out
  case q1 => rfl
  case q2 => rfl
  case q3 => exact heap_alloc_last w _
  case q4 => exact num_info _ HAL.out
  case q5 => rw [d64_size _ HAL.out]; rfl
  case q6 => exact d64_cells _
  rw [World.setRow_alloc_new]
  have hn1 := NumAt.new w al
  have hb1 : Below w.heap.size w (w.alloc (.cells (d64 al).toArray 121)) := (Below.refl _ _).alloc (Nat.le_refl _) _
  have c15' : (w.alloc (.cells (d64 al).toArray 121)).cell? ⟨b, 15, none⟩ = some (.string rest) := (HP.out.below hb1 hblt).rest_cell
  clear c15
  generalize w.alloc (.cells (d64 al).toArray 121) = w1 at hn1 hb1 c15' ⊢
  have HN1 := Lib.hid hn1
  have HB1 := Lib.hid hb1
  clear hn1 hb1
  have HTO := Lib.hid (show tagOf rl sl al rest.data.toList = bytes5 (finalL (if rest.data.toList = [] then al else stepL al rl rest.data.toList) sl) 16 from rfl)
  by_cases hre : rest.data.toList = []
  · have hq : seq rest ⟨#[]⟩ = true := by rw [rest_empty]; exact decide_eq_true hre
    have HT2 := Lib.hid (show tagOf rl sl al rest.data.toList = bytes5 (finalL al sl) 16 by rw [HTO.out, if_pos hre])
    clear hre HTO
    go_wp2_with fail
    refine region_table (by kernel_rfl) [21, 22, 23, 24, 25, 26, 27]
      (fun i x => match i with
        | 0 => x = .agg (d64 al).toArray
        | 1 => x = .agg (d64 (wholeL al)).toArray
        | 2 => x = .pointer (some ⟨b, 0, none⟩)
        | 3 => x = .pointer (some ⟨b, 0, none⟩)
        | 4 => x = .pointer (some ⟨b, 5, none⟩)
        | 5 => x = .agg (d64 sl).toArray
        | 6 => x = .agg (d64 (plusL (wholeL al) sl)).toArray
        | _ => True) (fun L _ w' => Below w.heap.size w w' ∧ NumAt w' w.heap.size (if L 7 = true then (plusL (wholeL al) sl) else al) ∧ (L 7 = true → L 0 = true)) (by kernel_rfl) (by kernel_rfl) rfl (by kernel_rfl) (⟨HB1.out.drew, HN1.out.drew, (fun h => by cases h)⟩) ?_ ?_
    · refine StepsOk.cons ?_ (StepsOk.cons ?_ (StepsOk.cons ?_ (StepsOk.cons ?_ (StepsOk.cons ?_ (StepsOk.cons ?_ (StepsOk.cons ?_ (StepsOk.cons ?_ StepsOk.nil)))))))
      · intro L a w4 Kx hl hsz hs ht hr he hK
        refine step_plain rfl ?_
        have h3 : a.tmps.getD 3 undef = .pointer (some ⟨w.heap.size, 0, none⟩) := (hs 3 (by decide)).trans rfl
        have hx : L 7 = false := by
          cases hy : L 7 with
          | false => rfl
          | true => have := hr.2.2 hy; rw [hl] at this; cases this
        have hr2 : NumAt w4 w.heap.size al := by have := hr.2.1; rwa [hx] at this
        refine wp_load_row 121 _ rfl w.heap.size h3 121 _ (0, 0) _ hr2.out.out Try.underlying121 rfl (num_info _ HAL.out) (hK _ _ rfl ⟨hr.1, ?_, fun _ => ?_⟩)
        · show NumAt w4 w.heap.size (if (L 7 || false) = true then _ else _)
          rw [hx]; exact hr2
        · show (L 0 || true) = true
          rw [Bool.or_true]
      · intro L a w4 Kx hl hsz hs ht hr he hK
        refine step_plain rfl ?_
        have h21 : a.tmps.getD 21 undef = .agg (d64 al).toArray := ht 0 (he 0 (by kernel_rfl)) 21 rfl
        go_simp
        refine (whole_walk al HAL.out _).mono ?_
        rintro e w5 ⟨rfl, hb5⟩
        exact hK _ _ rfl (by simpa using (show Below w.heap.size w w5 ∧ NumAt w5 w.heap.size (if L 7 = true then (plusL (wholeL al) sl) else al) ∧ (L 7 = true → L 0 = true) from ⟨hr.1.trans (hb5.mono hr.1.size), hr.2.1.below hb5 hr.2.1.lt, hr.2.2⟩))
      · intro L a w4 Kx hl hsz hs ht hr he hK
        refine step_plain rfl ?_
        have h0 : a.tmps.getD 0 undef = .pointer (some ⟨b, 0, none⟩) := (hs 0 (by decide)).trans rfl
        go_simp
        exact hK _ _ rfl (by simpa using hr)
      · intro L a w4 Kx hl hsz hs ht hr he hK
        refine step_plain rfl ?_
        have h23 : a.tmps.getD 23 undef = .pointer (some ⟨b, 0, none⟩) := ht 2 (he 2 (by kernel_rfl)) 23 rfl
        go_simp
        exact hK _ _ rfl (by simpa using hr)
      · intro L a w4 Kx hl hsz hs ht hr he hK
        refine step_plain rfl ?_
        have h24 : a.tmps.getD 24 undef = .pointer (some ⟨b, 0, none⟩) := ht 3 (he 3 (by kernel_rfl)) 24 rfl
        go_simp
        exact hK _ _ rfl (by simpa using hr)
      · intro L a w4 Kx hl hsz hs ht hr he hK
        refine step_plain rfl ?_
        have h25 : a.tmps.getD 25 undef = .pointer (some ⟨b, 5, none⟩) := ht 4 (he 4 (by kernel_rfl)) 25 rfl
        refine wp_load_mid 121 _ rfl b 5 h25 (d64 sl) _ ((HP.out.below hr.1 hblt).s_mid) Try.underlying121 rfl (num_info' _ HSL.out) (hK _ _ rfl (by simpa using hr))
      · intro L a w4 Kx hl hsz hs ht hr he hK
        refine step_plain rfl ?_
        have h22 : a.tmps.getD 22 undef = .agg (d64 (wholeL al)).toArray := ht 1 (he 1 (by kernel_rfl)) 22 rfl
        have h26 : a.tmps.getD 26 undef = .agg (d64 sl).toArray := ht 5 (he 5 (by kernel_rfl)) 26 rfl
        go_simp
        refine (plus_walk (wholeL al) sl ((wholeL_length _).trans HAL.out) HSL.out _).mono ?_
        rintro e w5 ⟨rfl, hb5⟩
        exact hK _ _ rfl (by simpa using (show Below w.heap.size w w5 ∧ NumAt w5 w.heap.size (if L 7 = true then (plusL (wholeL al) sl) else al) ∧ (L 7 = true → L 0 = true) from ⟨hr.1.trans (hb5.mono hr.1.size), hr.2.1.below hb5 hr.2.1.lt, hr.2.2⟩))
      · intro L a w4 Kx hl hsz hs ht hr he hK
        refine step_plain rfl ?_
        have h27 : a.tmps.getD 27 undef = .agg (d64 (plusL (wholeL al) sl)).toArray := ht 6 (he 6 (by kernel_rfl)) 27 rfl
        have h3 : a.tmps.getD 3 undef = .pointer (some ⟨w.heap.size, 0, none⟩) := (hs 3 (by decide)).trans rfl
        have hr2 : NumAt w4 w.heap.size al := by have := hr.2.1; rwa [hl] at this
        refine wp_store_row 121 _ _ rfl w.heap.size (d64 (plusL (wholeL al) sl)).toArray h3 h27 121 _ hr2.out.out (num_info _ ((plusL_length _ _).trans ((wholeL_length _).trans HAL.out))) (num_same _ _ ((plusL_length _ _).trans ((wholeL_length _).trans HAL.out)) HAL.out) (d64_cells _) (hK _ _ trivial ⟨Go.Proofs.Ytfglhemmccihfaa.Below.setRow hr.1 (Nat.le_refl _) _, ?_, fun _ => ?_⟩)
        · show NumAt _ _ (if (L 7 || true) = true then _ else _)
          rw [Bool.or_true, if_pos rfl]
          exact hr2.out.setRow _
        · show (L 0 || false) = true
          rw [he 0 (by kernel_rfl)]; rfl
    · intro f L w4 hf hall hr
      have hr2 : NumAt w4 w.heap.size (plusL (wholeL al) sl) := by have := hr.2.1; rwa [hall 7 (by decide), if_pos rfl] at this
      simp only [List.foldl, Act.put, List.setIfInBounds_toArray, List.set_cons_zero, List.set_cons_succ]
      have HN2 := Lib.hid hr2
      have HB2 := Lib.hid hr.1
      have HQL := Lib.hid (show (plusL (wholeL al) sl).length = 5 from ((plusL_length _ _).trans ((wholeL_length _).trans HAL.out)))
      have HFL := Lib.hid (show finalL al sl = pushK (plusL (wholeL al) sl) 4 from rfl)
      clear hf hall hr hr2
      generalize (plusL (wholeL al) sl) = q at HN2 HQL HFL ⊢
      generalize f 21 = z21
      generalize f 22 = z22
      generalize f 23 = z23
      generalize f 24 = z24
      generalize f 25 = z25
      generalize f 26 = z26
      generalize f 27 = z27
      go_wp2_with fail
      go_loopw [28] (fun i wr => ∃ k : Nat, k ≤ 4 ∧ i = .int .i64 k ∧ NumAt wr w.heap.size (pushK q k) ∧ Below w.heap.size w wr) (fun i _ => 4 - (intOf i).toNat)
      case atStart => exact ⟨0, Nat.zero_le _, rfl, HN2.out, HB2.out⟩
      case round =>
        obtain ⟨k, hk, rfl, hm, hb⟩ := hrel
        have HM := Lib.hid hm
        have HB := Lib.hid hb
        clear hm hb
        have HLP := Lib.hid ((pushK_length q k).trans HQL.out)
        rcases Nat.lt_or_ge k 4 with hlt | hge
        · have c1 := HM.out.cell (k + 1) (by rw [HLP.out]; omega)
          have c2 := HM.out.cell k (by rw [HLP.out]; omega)
          have f1 := HM.out.free (k + 1)
          have f2 := HM.out.free k
          go_wp2_with fail
          go_region
          go_wp2_with fail
          go_roundw
          case rel =>
            have hs := ((HM.out.store (k + 1) ((pushK q k).getD (k + 1) 0 + (pushK q k).getD k 0 >>> 26)).drew).store k ((pushK q k).getD k 0 &&& 67108863#64)
            exact ⟨k + 1, by omega, by go_num, by rw [pushK, set_getD_ne _ _ _ _ _ (by omega)]; exact hs, ((HB.out.setCell (Nat.le_refl _) _).drew).setCell (Nat.le_refl _) _⟩
          case measure => simp [intOf]; omega
        · obtain rfl : k = 4 := by omega
          go_wp2_with (with_reducible refine wpList_load_row rfl 121 (.tmp 3) rfl w.heap.size ?u1 121 _ (0, 0) _ HM.out.out.out Try.underlying121 rfl ?u2 ?_)
          case u1 => rfl
          case u2 => exact num_info _ HLP.out
          go_wp2_with fail
          refine (bytes5_walk _ HLP.out _).mono ?_
          rintro e w9 ⟨r9, rfl, hr9, hb9⟩
          go_wp2_with fail
          go_ret
          exact ⟨r9, rfl, by rw [HT2.out, HFL.out]; exact hr9, HB.out.trans (hb9.mono HB.out.size)⟩
  · have hq : seq rest ⟨#[]⟩ = false := by rw [rest_empty]; exact decide_eq_false hre
    have HT2 := Lib.hid (show tagOf rl sl al rest.data.toList = bytes5 (finalL (stepL al rl rest.data.toList) sl) 16 by rw [HTO.out, if_neg hre])
    clear hre HTO
    go_wp2_with fail
    refine region_table (by kernel_rfl) [14, 15, 16, 17, 18, 19, 20]
      (fun i x => match i with
        | 0 => x = .pointer (some ⟨b, 0, none⟩)
        | 1 => x = .agg (d64 al).toArray
        | 2 => x = .pointer (some ⟨b, 0, none⟩)
        | 3 => x = .pointer (some ⟨b, 0, none⟩)
        | 4 => x = .pointer (some ⟨b, 15, none⟩)
        | 5 => x = .string rest
        | 6 => x = .agg (d64 (stepL al rl rest.data.toList)).toArray
        | _ => True) (fun L _ w' => Below w.heap.size w w' ∧ NumAt w' w.heap.size (if L 7 = true then (stepL al rl rest.data.toList) else al) ∧ (L 7 = true → L 1 = true)) (by kernel_rfl) (by kernel_rfl) rfl (by kernel_rfl) (⟨HB1.out.drew, HN1.out.drew, (fun h => by cases h)⟩) ?_ ?_
    · refine StepsOk.cons ?_ (StepsOk.cons ?_ (StepsOk.cons ?_ (StepsOk.cons ?_ (StepsOk.cons ?_ (StepsOk.cons ?_ (StepsOk.cons ?_ (StepsOk.cons ?_ StepsOk.nil)))))))
      · intro L a w4 Kx hl hsz hs ht hr he hK
        refine step_plain rfl ?_
        have h0 : a.tmps.getD 0 undef = .pointer (some ⟨b, 0, none⟩) := (hs 0 (by decide)).trans rfl
        go_simp
        exact hK _ _ rfl (by simpa using hr)
      · intro L a w4 Kx hl hsz hs ht hr he hK
        refine step_plain rfl ?_
        have h3 : a.tmps.getD 3 undef = .pointer (some ⟨w.heap.size, 0, none⟩) := (hs 3 (by decide)).trans rfl
        have hx : L 7 = false := by
          cases hy : L 7 with
          | false => rfl
          | true => have := hr.2.2 hy; rw [hl] at this; cases this
        have hr2 : NumAt w4 w.heap.size al := by have := hr.2.1; rwa [hx] at this
        refine wp_load_row 121 _ rfl w.heap.size h3 121 _ (0, 0) _ hr2.out.out Try.underlying121 rfl (num_info _ HAL.out) (hK _ _ rfl ⟨hr.1, ?_, fun _ => ?_⟩)
        · show NumAt w4 w.heap.size (if (L 7 || false) = true then _ else _)
          rw [hx]; exact hr2
        · show (L 1 || true) = true
          rw [Bool.or_true]
      · intro L a w4 Kx hl hsz hs ht hr he hK
        refine step_plain rfl ?_
        have h0 : a.tmps.getD 0 undef = .pointer (some ⟨b, 0, none⟩) := (hs 0 (by decide)).trans rfl
        go_simp
        exact hK _ _ rfl (by simpa using hr)
      · intro L a w4 Kx hl hsz hs ht hr he hK
        refine step_plain rfl ?_
        have h16 : a.tmps.getD 16 undef = .pointer (some ⟨b, 0, none⟩) := ht 2 (he 2 (by kernel_rfl)) 16 rfl
        go_simp
        exact hK _ _ rfl (by simpa using hr)
      · intro L a w4 Kx hl hsz hs ht hr he hK
        refine step_plain rfl ?_
        have h17 : a.tmps.getD 17 undef = .pointer (some ⟨b, 0, none⟩) := ht 3 (he 3 (by kernel_rfl)) 17 rfl
        go_simp
        exact hK _ _ rfl (by simpa using hr)
      · intro L a w4 Kx hl hsz hs ht hr he hK
        refine step_plain rfl ?_
        have h18 : a.tmps.getD 18 undef = .pointer (some ⟨b, 15, none⟩) := ht 4 (he 4 (by kernel_rfl)) 18 rfl
        have c := (HP.out.below hr.1 hblt).rest_cell
        go_simp
        exact hK _ _ rfl (by simpa using hr)
      · intro L a w4 Kx hl hsz hs ht hr he hK
        refine step_plain rfl ?_
        have h14 : a.tmps.getD 14 undef = .pointer (some ⟨b, 0, none⟩) := ht 0 (he 0 (by kernel_rfl)) 14 rfl
        have h15 : a.tmps.getD 15 undef = .agg (d64 al).toArray := ht 1 (he 1 (by kernel_rfl)) 15 rfl
        have h19 : a.tmps.getD 19 undef = .string rest := ht 5 (he 5 (by kernel_rfl)) 19 rfl
        go_simp
        refine (step_walk b rl sl _ al rest rest w4 HAL.out (HP.out.below hr.1 hblt) hz16).mono ?_
        rintro e w5 ⟨rfl, hb5⟩
        exact hK _ _ rfl (by simpa using (show Below w.heap.size w w5 ∧ NumAt w5 w.heap.size (if L 7 = true then (stepL al rl rest.data.toList) else al) ∧ (L 7 = true → L 1 = true) from ⟨hr.1.trans (hb5.mono hr.1.size), hr.2.1.below hb5 hr.2.1.lt, hr.2.2⟩))
      · intro L a w4 Kx hl hsz hs ht hr he hK
        refine step_plain rfl ?_
        have h20 : a.tmps.getD 20 undef = .agg (d64 (stepL al rl rest.data.toList)).toArray := ht 6 (he 6 (by kernel_rfl)) 20 rfl
        have h3 : a.tmps.getD 3 undef = .pointer (some ⟨w.heap.size, 0, none⟩) := (hs 3 (by decide)).trans rfl
        have hr2 : NumAt w4 w.heap.size al := by have := hr.2.1; rwa [hl] at this
        refine wp_store_row 121 _ _ rfl w.heap.size (d64 (stepL al rl rest.data.toList)).toArray h3 h20 121 _ hr2.out.out (num_info _ (stepL_length _ _ _)) (num_same _ _ (stepL_length _ _ _) HAL.out) (d64_cells _) (hK _ _ trivial ⟨Go.Proofs.Ytfglhemmccihfaa.Below.setRow hr.1 (Nat.le_refl _) _, ?_, fun _ => ?_⟩)
        · show NumAt _ _ (if (L 7 || true) = true then _ else _)
          rw [Bool.or_true, if_pos rfl]
          exact hr2.out.setRow _
        · show (L 1 || false) = true
          rw [he 1 (by kernel_rfl)]; rfl
    · intro f L w4 hf hall hr
      have hr2 : NumAt w4 w.heap.size (stepL al rl rest.data.toList) := by have := hr.2.1; rwa [hall 7 (by decide), if_pos rfl] at this
      simp only [List.foldl, Act.put, List.setIfInBounds_toArray, List.set_cons_zero, List.set_cons_succ]
      have HN1 := Lib.hid hr2
      have HB1 := Lib.hid hr.1
      have HAS := Lib.hid (stepL_length al rl rest.data.toList)
      clear hf hall hr hr2 c15'
      generalize (stepL al rl rest.data.toList) = al2 at HN1 HT2 HAS ⊢
      generalize f 14 = y14
      generalize f 15 = y15
      generalize f 16 = y16
      generalize f 17 = y17
      generalize f 18 = y18
      generalize f 19 = y19
      generalize f 20 = y20
      clear HAL
      have HAL := HAS
      clear HAS
      go_wp2_with fail
      refine region_table (by kernel_rfl) [21, 22, 23, 24, 25, 26, 27]
        (fun i x => match i with
          | 0 => x = .agg (d64 al2).toArray
          | 1 => x = .agg (d64 (wholeL al2)).toArray
          | 2 => x = .pointer (some ⟨b, 0, none⟩)
          | 3 => x = .pointer (some ⟨b, 0, none⟩)
          | 4 => x = .pointer (some ⟨b, 5, none⟩)
          | 5 => x = .agg (d64 sl).toArray
          | 6 => x = .agg (d64 (plusL (wholeL al2) sl)).toArray
          | _ => True) (fun L _ w' => Below w.heap.size w w' ∧ NumAt w' w.heap.size (if L 7 = true then (plusL (wholeL al2) sl) else al2) ∧ (L 7 = true → L 0 = true)) (by kernel_rfl) (by kernel_rfl) rfl (by kernel_rfl) (⟨HB1.out.drew, HN1.out.drew, (fun h => by cases h)⟩) ?_ ?_
      · refine StepsOk.cons ?_ (StepsOk.cons ?_ (StepsOk.cons ?_ (StepsOk.cons ?_ (StepsOk.cons ?_ (StepsOk.cons ?_ (StepsOk.cons ?_ (StepsOk.cons ?_ StepsOk.nil)))))))
        · intro L a w4 Kx hl hsz hs ht hr he hK
          refine step_plain rfl ?_
          have h3 : a.tmps.getD 3 undef = .pointer (some ⟨w.heap.size, 0, none⟩) := (hs 3 (by decide)).trans rfl
          have hx : L 7 = false := by
            cases hy : L 7 with
            | false => rfl
            | true => have := hr.2.2 hy; rw [hl] at this; cases this
          have hr2 : NumAt w4 w.heap.size al2 := by have := hr.2.1; rwa [hx] at this
          refine wp_load_row 121 _ rfl w.heap.size h3 121 _ (0, 0) _ hr2.out.out Try.underlying121 rfl (num_info _ HAL.out) (hK _ _ rfl ⟨hr.1, ?_, fun _ => ?_⟩)
          · show NumAt w4 w.heap.size (if (L 7 || false) = true then _ else _)
            rw [hx]; exact hr2
          · show (L 0 || true) = true
            rw [Bool.or_true]
        · intro L a w4 Kx hl hsz hs ht hr he hK
          refine step_plain rfl ?_
          have h21 : a.tmps.getD 21 undef = .agg (d64 al2).toArray := ht 0 (he 0 (by kernel_rfl)) 21 rfl
          go_simp
          refine (whole_walk al2 HAL.out _).mono ?_
          rintro e w5 ⟨rfl, hb5⟩
          exact hK _ _ rfl (by simpa using (show Below w.heap.size w w5 ∧ NumAt w5 w.heap.size (if L 7 = true then (plusL (wholeL al2) sl) else al2) ∧ (L 7 = true → L 0 = true) from ⟨hr.1.trans (hb5.mono hr.1.size), hr.2.1.below hb5 hr.2.1.lt, hr.2.2⟩))
        · intro L a w4 Kx hl hsz hs ht hr he hK
          refine step_plain rfl ?_
          have h0 : a.tmps.getD 0 undef = .pointer (some ⟨b, 0, none⟩) := (hs 0 (by decide)).trans rfl
          go_simp
          exact hK _ _ rfl (by simpa using hr)
        · intro L a w4 Kx hl hsz hs ht hr he hK
          refine step_plain rfl ?_
          have h23 : a.tmps.getD 23 undef = .pointer (some ⟨b, 0, none⟩) := ht 2 (he 2 (by kernel_rfl)) 23 rfl
          go_simp
          exact hK _ _ rfl (by simpa using hr)
        · intro L a w4 Kx hl hsz hs ht hr he hK
          refine step_plain rfl ?_
          have h24 : a.tmps.getD 24 undef = .pointer (some ⟨b, 0, none⟩) := ht 3 (he 3 (by kernel_rfl)) 24 rfl
          go_simp
          exact hK _ _ rfl (by simpa using hr)
        · intro L a w4 Kx hl hsz hs ht hr he hK
          refine step_plain rfl ?_
          have h25 : a.tmps.getD 25 undef = .pointer (some ⟨b, 5, none⟩) := ht 4 (he 4 (by kernel_rfl)) 25 rfl
          refine wp_load_mid 121 _ rfl b 5 h25 (d64 sl) _ ((HP.out.below hr.1 hblt).s_mid) Try.underlying121 rfl (num_info' _ HSL.out) (hK _ _ rfl (by simpa using hr))
        · intro L a w4 Kx hl hsz hs ht hr he hK
          refine step_plain rfl ?_
          have h22 : a.tmps.getD 22 undef = .agg (d64 (wholeL al2)).toArray := ht 1 (he 1 (by kernel_rfl)) 22 rfl
          have h26 : a.tmps.getD 26 undef = .agg (d64 sl).toArray := ht 5 (he 5 (by kernel_rfl)) 26 rfl
          go_simp
          refine (plus_walk (wholeL al2) sl ((wholeL_length _).trans HAL.out) HSL.out _).mono ?_
          rintro e w5 ⟨rfl, hb5⟩
          exact hK _ _ rfl (by simpa using (show Below w.heap.size w w5 ∧ NumAt w5 w.heap.size (if L 7 = true then (plusL (wholeL al2) sl) else al2) ∧ (L 7 = true → L 0 = true) from ⟨hr.1.trans (hb5.mono hr.1.size), hr.2.1.below hb5 hr.2.1.lt, hr.2.2⟩))
        · intro L a w4 Kx hl hsz hs ht hr he hK
          refine step_plain rfl ?_
          have h27 : a.tmps.getD 27 undef = .agg (d64 (plusL (wholeL al2) sl)).toArray := ht 6 (he 6 (by kernel_rfl)) 27 rfl
          have h3 : a.tmps.getD 3 undef = .pointer (some ⟨w.heap.size, 0, none⟩) := (hs 3 (by decide)).trans rfl
          have hr2 : NumAt w4 w.heap.size al2 := by have := hr.2.1; rwa [hl] at this
          refine wp_store_row 121 _ _ rfl w.heap.size (d64 (plusL (wholeL al2) sl)).toArray h3 h27 121 _ hr2.out.out (num_info _ ((plusL_length _ _).trans ((wholeL_length _).trans HAL.out))) (num_same _ _ ((plusL_length _ _).trans ((wholeL_length _).trans HAL.out)) HAL.out) (d64_cells _) (hK _ _ trivial ⟨Go.Proofs.Ytfglhemmccihfaa.Below.setRow hr.1 (Nat.le_refl _) _, ?_, fun _ => ?_⟩)
          · show NumAt _ _ (if (L 7 || true) = true then _ else _)
            rw [Bool.or_true, if_pos rfl]
            exact hr2.out.setRow _
          · show (L 0 || false) = true
            rw [he 0 (by kernel_rfl)]; rfl
      · intro f L w4 hf hall hr
        have hr2 : NumAt w4 w.heap.size (plusL (wholeL al2) sl) := by have := hr.2.1; rwa [hall 7 (by decide), if_pos rfl] at this
        simp only [List.foldl, Act.put, List.setIfInBounds_toArray, List.set_cons_zero, List.set_cons_succ]
        have HN2 := Lib.hid hr2
        have HB2 := Lib.hid hr.1
        have HQL := Lib.hid (show (plusL (wholeL al2) sl).length = 5 from ((plusL_length _ _).trans ((wholeL_length _).trans HAL.out)))
        have HFL := Lib.hid (show finalL al2 sl = pushK (plusL (wholeL al2) sl) 4 from rfl)
        clear hf hall hr hr2
        generalize (plusL (wholeL al2) sl) = q at HN2 HQL HFL ⊢
        generalize f 21 = z21
        generalize f 22 = z22
        generalize f 23 = z23
        generalize f 24 = z24
        generalize f 25 = z25
        generalize f 26 = z26
        generalize f 27 = z27
        go_wp2_with fail
        go_loopw [28] (fun i wr => ∃ k : Nat, k ≤ 4 ∧ i = .int .i64 k ∧ NumAt wr w.heap.size (pushK q k) ∧ Below w.heap.size w wr) (fun i _ => 4 - (intOf i).toNat)
        case atStart => exact ⟨0, Nat.zero_le _, rfl, HN2.out, HB2.out⟩
        case round =>
          obtain ⟨k, hk, rfl, hm, hb⟩ := hrel
          have HM := Lib.hid hm
          have HB := Lib.hid hb
          clear hm hb
          have HLP := Lib.hid ((pushK_length q k).trans HQL.out)
          rcases Nat.lt_or_ge k 4 with hlt | hge
          · have c1 := HM.out.cell (k + 1) (by rw [HLP.out]; omega)
            have c2 := HM.out.cell k (by rw [HLP.out]; omega)
            have f1 := HM.out.free (k + 1)
            have f2 := HM.out.free k
            go_wp2_with fail
            go_region
            go_wp2_with fail
            go_roundw
            case rel =>
              have hs := ((HM.out.store (k + 1) ((pushK q k).getD (k + 1) 0 + (pushK q k).getD k 0 >>> 26)).drew).store k ((pushK q k).getD k 0 &&& 67108863#64)
              exact ⟨k + 1, by omega, by go_num, by rw [pushK, set_getD_ne _ _ _ _ _ (by omega)]; exact hs, ((HB.out.setCell (Nat.le_refl _) _).drew).setCell (Nat.le_refl _) _⟩
            case measure => simp [intOf]; omega
          · obtain rfl : k = 4 := by omega
            go_wp2_with (with_reducible refine wpList_load_row rfl 121 (.tmp 3) rfl w.heap.size ?u1 121 _ (0, 0) _ HM.out.out.out Try.underlying121 rfl ?u2 ?_)
            case u1 => rfl
            case u2 => exact num_info _ HLP.out
            go_wp2_with fail
            refine (bytes5_walk _ HLP.out _).mono ?_
            rintro e w9 ⟨r9, rfl, hr9, hb9⟩
            go_wp2_with fail
            go_ret
            exact ⟨r9, rfl, by rw [HT2.out, HFL.out]; exact hr9, HB.out.trans (hb9.mono HB.out.size)⟩

/-- A text's tag by a key. -/
theorem tagOf_tagL (key t : List UInt8) (hk : key.length = 32) :
    tagOf (readL (clampL (key.take 16))) (readL (key.drop 16)) (foldL (readL (clampL (key.take 16))) t (t.length / 16)) (t.drop (16 * (t.length / 16))) = tagL key t := by
  obtain ⟨h1, h2⟩ := readL_val (clampL (key.take 16)) (Or.inl (by rw [clampL_length, List.length_take]; omega))
  obtain ⟨h3, h4⟩ := readL_val (key.drop 16) (Or.inl (by rw [List.length_drop]; omega))
  rw [tagOf_val _ _ _ h1 h3, h2, h4]
  rfl
/-- Block b is a Poly of a key to which the text t was added. -/
def PolyK (w : World) (b : Nat) (key t : List UInt8) : Prop := PolyAt w b (readL (clampL (key.take 16))) (readL (key.drop 16)) t
theorem New_walk (key : ByteArray) (hk : key.size = 32) (w : World) :
    Calls Try.prog 76 #[.string key] w fun e w' => ∃ b, e = .returned (.tuple #[.pointer (some ⟨b, 0, none⟩), .int .i64 0]) ∧ w.heap.size ≤ b ∧ PolyK w' b key.data.toList [] ∧ Below w.heap.size w w' := by
  refine (New_ok key hk w).mono ?_
  rintro e w' ⟨b, rfl, hb, hp, hw⟩
  exact ⟨b, rfl, hb, ⟨⟨#[]⟩, Is.of [], hp⟩, hw⟩
theorem AddK_walk (b : Nat) (key t : List UInt8) (text : ByteArray) (htx : text.size ≤ 140737488351232) (w : World) (h : PolyK w b key t) :
    Calls Try.prog 77 #[.pointer (some ⟨b, 0, none⟩), .string text] w fun e w' => e = .returned (.tuple #[]) ∧ PolyK w' b key (t ++ text.data.toList) ∧ Only b w w' := Add_walk b _ _ t text htx w h
theorem TagK_walk (b : Nat) (key t : List UInt8) (hk : key.length = 32) (w : World) (h : PolyK w b key t) :
    Calls Try.prog 78 #[.pointer (some ⟨b, 0, none⟩)] w fun e w' => ∃ r, e = .returned (.string r) ∧ Is r (tagL key t) ∧ Below w.heap.size w w' := by
  obtain ⟨rest, hr, hp⟩ := h
  have := PTag_walk b _ _ _ rest (by rw [hr.size, List.length_drop]; omega) w hp
  rw [hr.out, tagOf_tagL key t hk] at this
  exact this

set_option maxHeartbeats 1000000 in
theorem Tag_ok (key text : ByteArray) (hk : key.size = 32) (ht : text.size ≤ 140737488351232) (w : World) :
    Calls Try.prog 51 #[.string key, .string text] w fun e w' => ∃ r, e = .returned (.tuple #[.string r, .int .i64 0]) ∧ Is r (tagL key.data.toList text.data.toList) ∧ Below w.heap.size w w' := by
  have HK := Lib.hid hk
  have HKL := Lib.hid (show key.data.toList.length = 32 by rw [Array.length_toList]; exact hk)
  clear hk
  go_enter Try.func51, Try.ntmps51
  go_wp2_with fail
  refine (New_walk key HK.out _).mono ?_
  rintro e w1 ⟨b, rfl, hwb, hp, hb1⟩
  go_wp2_with fail
  refine (AddK_walk b _ [] text ht _ hp).mono ?_
  rintro e w2 ⟨rfl, hp2, ho2⟩
  rw [List.nil_append] at hp2
  go_wp2_with fail
  refine (TagK_walk b _ _ HKL.out _ hp2).mono ?_
  rintro e w3 ⟨r, rfl, hr, hb3⟩
  go_wp2_with fail
  go_ret2
  exact ⟨r, rfl, hr, bthen (hb1.trans (ho2.below hwb hb1.size)) hb3⟩
set_option maxHeartbeats 400000 in
theorem Tag_no (key text : ByteArray) (hk : key.size ≠ 32) (w : World) :
    Calls Try.prog 51 #[.string key, .string text] w fun e w' => e = .returned (.tuple #[.string ByteArray.empty, .int .i64 5]) ∧ w = w' := by
  go_enter Try.func51, Try.ntmps51
  go_wp2_with fail
  refine (New_no key hk _).mono ?_
  rintro e w1 ⟨rfl, rfl⟩
  go_wp2_with fail
  go_ret2
  exact ⟨rfl, rfl⟩
end Go.Proofs.Ytfglhemmccihfaa

/-
  Layer 5, the program's package poly: carry.
-/
import Derived.Test.YtfglhemmccihfaaPlainG
import Derived.Test.YtfglhemmccihfaaRegTwo
import Derived.Test.YtfglhemmccihfaaOctetB
import Derived.Deep.QuietTactic
import Derived.BigQuiet
import Derived.Great.BuildSlice
import Derived.Deep.WholeRow
import Derived.Outline
namespace Go.Proofs.Ytfglhemmccihfaa
open Go.RowKit

/-- Block g is a number in five parts. -/
def NumAt (w : World) (g : Nat) (l : List (BitVec 64)) : Prop := RowAt w g (d64 l).toArray 121 (0, 0)
def numV (l : List (BitVec 64)) : Value := .agg (d64 l).toArray
theorem NumAt.out {w : World} {g : Nat} {l : List (BitVec 64)} (h : NumAt w g l) : RowAt w g (d64 l).toArray 121 (0, 0) := h
theorem NumAt.cell {w : World} {g : Nat} {l : List (BitVec 64)} (h : NumAt w g l) (i : Nat) (hi : i < l.length) : w.cell? ⟨g, i, none⟩ = some (.int .u64 (bvi (l.getD i 0))) :=
  RowAt.cell h (i := i) (by rw [List.getElem?_toArray]; exact d64_at l i hi)
theorem NumAt.free {w : World} {g : Nat} {l : List (BitVec 64)} (h : NumAt w g l) (i : Nat) : w.frozen? ⟨g, i, none⟩ = false := RowAt.free h (by simp)
theorem NumAt.store {w : World} {g : Nat} {l : List (BitVec 64)} (h : NumAt w g l) (i : Nat) (x : BitVec 64) : NumAt (w.setCell ⟨g, i, none⟩ (.int .u64 (bvi x))) g (l.set i x) := by
  have := RowAt.store h i (.int .u64 (bvi x))
  rwa [List.setIfInBounds_toArray, d64_set] at this
theorem NumAt.other {w : World} {g : Nat} {l : List (BitVec 64)} (h : NumAt w g l) {p : Addr} (hp : p.block ≠ g) (v : Value) : NumAt (w.setCell p v) g l := RowAt.other h hp v
theorem NumAt.drew {w : World} {g : Nat} {l : List (BitVec 64)} (h : NumAt w g l) : NumAt w.drew g l := h
theorem NumAt.alloc {w : World} {g : Nat} {l : List (BitVec 64)} (h : NumAt w g l) (o : Obj) : NumAt (w.alloc o) g l := RowAt.alloc h o
theorem NumAt.new (w : World) (l : List (BitVec 64)) : NumAt (w.alloc (.cells (d64 l).toArray 121)) w.heap.size l := RowAt.new w _ _ _
theorem NumAt.below {w w' : World} {g : Nat} {l : List (BitVec 64)} {B : Nat} (h : NumAt w g l) (hb : Below B w w') (hg : g < B) : NumAt w' g l := RowAt.below h hb hg
theorem NumAt.lt {w : World} {g : Nat} {l : List (BitVec 64)} (h : NumAt w g l) : g < w.heap.size := RowAt.lt h
theorem d64_cells (l : List (BitVec 64)) : (d64 l).toArray.all (·.oneCell') = true := by
  rw [Array.all_eq_true_iff_forall_mem]
  intro x hx
  simp only [List.mem_toArray, d64, List.mem_map] at hx
  obtain ⟨a, _, rfl⟩ := hx
  rfl
theorem d64_size (l : List (BitVec 64)) (h : l.length = 5) : (d64 l).toArray.size = 5 := by simp [d64_length, h]
theorem num_size : (Try.prog.info? 121).map (·.size) = some 5 := by kernel_rfl
theorem num_info (l : List (BitVec 64)) (h : l.length = 5) : (Try.prog.info? 121).map (·.size) = some (d64 l).toArray.size := by
  rw [d64_size l h]; exact num_size
theorem num_same (l m : List (BitVec 64)) (h : l.length = 5) (k : m.length = 5) : (d64 m).toArray.size = (d64 l).toArray.size := by
  rw [d64_size l h, d64_size m k]
def zero5 : Array Value := #[.int .u64 0, .int .u64 0, .int .u64 0, .int .u64 0, .int .u64 0]
theorem zero5_num : zero5 = (d64 [0#64, 0#64, 0#64, 0#64, 0#64]).toArray := rfl

set_option maxRecDepth 100000 in
set_option maxHeartbeats 2000000 in
theorem carry_walk (l : List (BitVec 64)) (hl : l.length = 5) (w : World) :
    Calls Try.prog 111 #[.agg (d64 l).toArray] w fun e w' => e = .returned (.agg (d64 (carryL l)).toArray) ∧ Below w.heap.size w w' := by
  have HL := Lib.hid hl
  have hz := d64_size l hl
  clear hl
  go_enter Try.func111, Try.ntmps111
  go_wp2_with fail
  have HN := Lib.hid ((NumAt.new w l).alloc (.cells zero5 121))
  have HR := Lib.hid (NumAt.new (w.alloc (.cells (d64 l).toArray 121)) [0#64, 0#64, 0#64, 0#64, 0#64])
  change Code.wp _ _ _ _ ((w.alloc (.cells (d64 l).toArray 121)).alloc (.cells (d64 [0#64, 0#64, 0#64, 0#64, 0#64]).toArray 121))
  have HB := Lib.hid (show Below w.heap.size w ((w.alloc (.cells (d64 l).toArray 121)).alloc (.cells (d64 [0#64, 0#64, 0#64, 0#64, 0#64]).toArray 121)) from ((Below.refl _ _).alloc (Nat.le_refl _) _).alloc (by simp) _)
  have hrz : (w.alloc (.cells (d64 l).toArray 121)).heap.size = w.heap.size + 1 := by simp
  rw [hrz] at HR
  change Hid (NumAt ((w.alloc (.cells (d64 l).toArray 121)).alloc (.cells (d64 [0#64, 0#64, 0#64, 0#64, 0#64]).toArray 121)) w.heap.size l) at HN
  generalize (w.alloc (.cells (d64 l).toArray 121)).alloc (.cells (d64 [0#64, 0#64, 0#64, 0#64, 0#64]).toArray 121) = w1 at HN HR HB ⊢
  clear hz hrz
  go_loopw [5] (fun i wr => ∃ k : Nat, k ≤ 2 ∧ i = .int .i64 k ∧ NumAt wr w.heap.size (carryK l k) ∧ NumAt wr (w.heap.size + 1) [0#64, 0#64, 0#64, 0#64, 0#64] ∧ Below w.heap.size w wr) (fun i _ => 2 - (intOf i).toNat)
  case atStart => exact ⟨0, Nat.zero_le _, rfl, HN.out, HR.out, HB.out⟩
  case round =>
    obtain ⟨k, hk, rfl, hn, hr, hb⟩ := hrel
    have HN := Lib.hid hn
    have HR := Lib.hid hr
    have HB := Lib.hid hb
    clear hn hr hb
    have hlk : (carryK l k).length = 5 := by rw [carryK_length, HL.out]
    have HLK := Lib.hid hlk
    clear hlk
    rcases Nat.lt_or_ge k 2 with hlt | hge
    · go_wp2_with fail
      generalize hm : carryK l k = m at HN HLK
      have HM := Lib.hid hm
      clear hm
      obtain ⟨wo, hwo⟩ : ∃ wo : World, wo = wr := ⟨_, rfl⟩
      subst hwo
      go_loopw [3, 7] (fun c i wx => ∃ j : Nat, j ≤ 5 ∧ i = .int .i64 j ∧ c = .int .u64 (bvi (carryP m j).2) ∧ NumAt wx w.heap.size (carryP m j).1 ∧ NumAt wx (w.heap.size + 1) [0#64, 0#64, 0#64, 0#64, 0#64] ∧ Below w.heap.size w wx) (fun _ i _ => 5 - (intOf i).toNat)
      case atStart => exact ⟨0, Nat.zero_le _, rfl, rfl, HN.out, HR.out, HB.out⟩
      case round =>
        obtain ⟨j, hj, rfl, rfl, hn2, hr2, hb2⟩ := hrel
        have HN2 := Lib.hid hn2
        have HR2 := Lib.hid hr2
        have HB2 := Lib.hid hb2
        clear hn2 hr2 hb2
        have hl2 : (carryP m j).1.length = 5 := by rw [carryP_length, HLK.out]
        have HL2 := Lib.hid hl2
        clear hl2
        rcases Nat.lt_or_ge j 5 with hlj | hgj
        · have c0 := HN2.out.cell j (by rw [HL2.out]; exact hlj)
          have f0 := HN2.out.free j
          go_wp2_with fail
          go_roundw
          case rel =>
            refine ⟨j + 1, by omega, by go_num, rfl, ?_, (HR2.out.other (by simp) _).other (by simp) _, (HB2.out.setCell (Nat.le_refl _) _).setCell (Nat.le_refl _) _⟩
            have hst := (HN2.out.store j ((carryP m j).1.getD j 0 + (carryP m j).2)).store j (((carryP m j).1.getD j 0 + (carryP m j).2) &&& 67108863#64)
            rw [List.set_set] at hst
            exact hst
          case measure => simp [intOf]; omega
        · obtain rfl : j = 5 := by omega
          have c0 := HN2.out.cell 0 (by rw [HL2.out]; omega)
          have f0 := HN2.out.free 0
          go_wp2_with fail
          go_roundw
          case rel =>
            exact ⟨k + 1, by omega, by go_num, by rw [carryK, HM.out]; exact HN2.out.store 0 _, HR2.out.other (by simp) _, HB2.out.setCell (Nat.le_refl _) _⟩
          case measure => simp [intOf]; omega
    · obtain rfl : k = 2 := by omega
      go_upto_region 13 with fail
      rename_i hK
      apply wp_region_lit
      refine wpList_load_row rfl 121 _ rfl w.heap.size (by as_aux_lemma => kernel_rfl) 121 _ (0, 0) _ HN.out.out.out Try.underlying121 rfl (num_info _ HLK.out) ?_
      refine wpList_store_rowTo rfl 121 _ _ rfl rfl (w.heap.size + 1) (d64 (carryK l 2)).toArray (by as_aux_lemma => kernel_rfl) (by as_aux_lemma => kernel_rfl) 121 _ HR.out.out.out (num_info _ HLK.out) (num_same _ _ HLK.out rfl) (d64_cells _) ?_
      apply wpList_nil
      refine hK _ _ ?_
      go_wp2_with fail
      refine bodyPost_ret (v := .agg (d64 (carryK l 2)).toArray) (results_cell_row rfl _ _ (w.heap.size + 1) 121 (d64 (carryK l 2)).toArray (0, 0) _ (by kernel_rfl) (HR.out.out.setRow _).out Try.underlying121 rfl (num_info _ HLK.out)) rfl ⟨rfl, Go.Proofs.Ytfglhemmccihfaa.Below.setRow HB.out (by omega) _⟩

def zeroL : List (BitVec 64) := [0#64, 0#64, 0#64, 0#64, 0#64]
theorem nums3 (w : World) (l m : List (BitVec 64)) :
    NumAt (((w.alloc (.cells (d64 l).toArray 121)).alloc (.cells (d64 m).toArray 121)).alloc (.cells (d64 zeroL).toArray 121)) w.heap.size l ∧
    NumAt (((w.alloc (.cells (d64 l).toArray 121)).alloc (.cells (d64 m).toArray 121)).alloc (.cells (d64 zeroL).toArray 121)) (w.heap.size + 1) m ∧
    NumAt (((w.alloc (.cells (d64 l).toArray 121)).alloc (.cells (d64 m).toArray 121)).alloc (.cells (d64 zeroL).toArray 121)) (w.heap.size + 1 + 1) zeroL ∧
    Below w.heap.size w (((w.alloc (.cells (d64 l).toArray 121)).alloc (.cells (d64 m).toArray 121)).alloc (.cells (d64 zeroL).toArray 121)) := by
  refine ⟨((NumAt.new w l).alloc _).alloc _, ?_, ?_, (((Below.refl _ _).alloc (Nat.le_refl _) _).alloc (by simp) _).alloc (by simp; omega) _⟩
  · have := (NumAt.new (w.alloc (.cells (d64 l).toArray 121)) m).alloc (.cells (d64 zeroL).toArray 121)
    rwa [show (w.alloc (.cells (d64 l).toArray 121)).heap.size = w.heap.size + 1 by simp] at this
  · have := NumAt.new ((w.alloc (.cells (d64 l).toArray 121)).alloc (.cells (d64 m).toArray 121)) zeroL
    rwa [show ((w.alloc (.cells (d64 l).toArray 121)).alloc (.cells (d64 m).toArray 121)).heap.size = w.heap.size + 1 + 1 by simp] at this

set_option maxRecDepth 100000 in
set_option maxHeartbeats 2000000 in
theorem plus_walk (l m : List (BitVec 64)) (hl : l.length = 5) (hm : m.length = 5) (w : World) :
    Calls Try.prog 96 #[.agg (d64 l).toArray, .agg (d64 m).toArray] w fun e w' => e = .returned (.agg (d64 (plusL l m)).toArray) ∧ Below w.heap.size w w' := by
  have HL := Lib.hid hl
  have HM := Lib.hid hm
  have hz := d64_size l hl
  have hz2 := d64_size m hm
  clear hl hm
  go_enter Try.func96, Try.ntmps96
  go_wp2_with fail
  clear hz hz2
  obtain ⟨hn, hn2, hr, hb⟩ := nums3 w l m
  change Code.wp _ _ _ _ (((w.alloc (.cells (d64 l).toArray 121)).alloc (.cells (d64 m).toArray 121)).alloc (.cells (d64 zeroL).toArray 121))
  generalize ((w.alloc (.cells (d64 l).toArray 121)).alloc (.cells (d64 m).toArray 121)).alloc (.cells (d64 zeroL).toArray 121) = w1 at hn hn2 hr hb ⊢
  have HN := Lib.hid hn
  have HN2 := Lib.hid hn2
  have HR := Lib.hid hr
  have HB := Lib.hid hb
  clear hn hn2 hr hb
  go_loopw [6] (fun i wr => ∃ k : Nat, k ≤ 5 ∧ i = .int .i64 k ∧ NumAt wr w.heap.size (plusK l m k) ∧ NumAt wr (w.heap.size + 1) m ∧ NumAt wr (w.heap.size + 1 + 1) zeroL ∧ Below w.heap.size w wr) (fun i _ => 5 - (intOf i).toNat)
  case atStart => exact ⟨0, Nat.zero_le _, rfl, HN.out, HN2.out, HR.out, HB.out⟩
  case round =>
    obtain ⟨k, hk, rfl, hn, hn2, hr, hb⟩ := hrel
    have HN := Lib.hid hn
    have HN2 := Lib.hid hn2
    have HR := Lib.hid hr
    have HB := Lib.hid hb
    clear hn hn2 hr hb
    have hlk : (plusK l m k).length = 5 := by rw [plusK_length, HL.out]
    have HLK := Lib.hid hlk
    clear hlk
    rcases Nat.lt_or_ge k 5 with hlt | hge
    · have c0 := HN.out.cell k (by rw [HLK.out]; exact hlt)
      have c1 := HN2.out.cell k (by rw [HM.out]; exact hlt)
      have f0 := HN.out.free k
      go_wp2_with fail
      go_region
      go_wp2_with fail
      go_roundw
      case rel =>
        exact ⟨k + 1, by omega, by go_num, (HN.out.store k ((plusK l m k).getD k 0 + m.getD k 0)).drew, (HN2.out.other (by simp) _).drew, (HR.out.other (by simp <;> omega) _).drew, (HB.out.setCell (Nat.le_refl _) _).drew⟩
      case measure => simp [intOf]; omega
    · obtain rfl : k = 5 := by omega
      go_upto_region 6 with fail
      rename_i hK
      apply wp_region_lit
      refine wpList_load_row rfl 121 _ rfl w.heap.size (by as_aux_lemma => kernel_rfl) 121 _ (0, 0) _ HN.out.out.out Try.underlying121 rfl (num_info _ HLK.out) ?_
      refine wpList_store_rowTo rfl 121 _ _ rfl rfl (w.heap.size + 1 + 1) (d64 (plusK l m 5)).toArray (by as_aux_lemma => kernel_rfl) (by as_aux_lemma => kernel_rfl) 121 _ HR.out.out.out (num_info _ HLK.out) (num_same _ _ HLK.out rfl) (d64_cells _) ?_
      apply wpList_nil
      refine hK _ _ ?_
      go_wp2_with fail
      refine bodyPost_ret (v := .agg (d64 (plusK l m 5)).toArray) (results_cell_row rfl _ _ (w.heap.size + 1 + 1) 121 (d64 (plusK l m 5)).toArray (0, 0) _ (by kernel_rfl) (HR.out.out.setRow _).out Try.underlying121 rfl (num_info _ HLK.out)) rfl ⟨rfl, Go.Proofs.Ytfglhemmccihfaa.Below.setRow HB.out (by omega) _⟩
end Go.Proofs.Ytfglhemmccihfaa

/-
  Layer 4, the program's package chacha: Stir, places, begin.
-/
import Derived.Test.YtfglhemmccihfaaPlainC
import Derived.Test.YtfglhemmccihfaaRegTwo
import Derived.Test.YtfglhemmccihfaaOctetB
import Derived.Deep.QuietTactic
import Derived.BigQuiet
import Derived.Great.BuildSlice
import Derived.Deep.WholeRow
namespace Go.Proofs.Ytfglhemmccihfaa
open Go.RowKit

/-- Words as cells. -/
def u32c (x : BitVec 32) : Value := .int .u32 (bvi x)
def words (l : List (BitVec 32)) : List Value := l.map u32c
theorem words_length (l : List (BitVec 32)) : (words l).length = l.length := by simp [words]
/-- An array of words. -/
def wordsV (l : List (BitVec 32)) : Value := .agg (words l).toArray

set_option maxRecDepth 100000 in
set_option maxHeartbeats 2000000 in
theorem Stir_walk (a b c d : BitVec 32) (w : World) :
    Calls Try.prog 62 #[.agg #[.int .u32 (bvi a), .int .u32 (bvi b), .int .u32 (bvi c), .int .u32 (bvi d)]] w fun e w' => e = .returned (wordsV (stir4 a b c d)) ∧ Below w.heap.size w w' := by
  go_enter Try.func62, Try.ntmps62
  go_wp2_with fail
  go_quiet (fail)
  go_wp2_with fail
  have i0 : ∀ wx, (Instr.index 113 (.agg #[.int .i64 16, .int .i64 12, .int .i64 8, .int .i64 7]) (.int .i64 0)).run Try.prog wx = .ok (.agg #[.int .i64 16, .int .i64 12]) wx := fun _ => by kernel_rfl
  have i1 : ∀ wx, (Instr.index 113 (.agg #[.int .i64 16, .int .i64 12, .int .i64 8, .int .i64 7]) (.int .i64 1)).run Try.prog wx = .ok (.agg #[.int .i64 8, .int .i64 7]) wx := fun _ => by kernel_rfl
  refine wp_loop_rounds 3 ?_
  rw [rounds_succ]
  go_wp2_with fail
  refine (Left_walk _ _ _).mono ?_
  rintro e w1 ⟨rfl, rfl⟩
  go_wp2_with fail
  refine (Left_walk _ _ _).mono ?_
  rintro e w1 ⟨rfl, rfl⟩
  go_wp2_with fail
  rw [rounds_succ]
  go_wp2_with fail
  refine (Left_walk _ _ _).mono ?_
  rintro e w1 ⟨rfl, rfl⟩
  go_wp2_with fail
  refine (Left_walk _ _ _).mono ?_
  rintro e w1 ⟨rfl, rfl⟩
  go_wp2_with fail
  rw [rounds_succ]
  go_wp2_with fail
  refine bodyPost_ret (v := wordsV (stir4 a b c d)) (by simp [results, Try.results62, go_sem, wordsV, words, stir4, u32c]) rfl ⟨rfl, ?_⟩
  (repeat' (first | (with_reducible exact Below.refl _ _) | (with_reducible assumption) | refine Below.setCell ?_ (by simp <;> omega) _ | refine below_alloc' ?_ _ | refine Below.alloc ?_ (by simp <;> omega) _ | refine below_drewN ?_ _ | refine Below.drew ?_))

/-- The places' cells. -/
def placesA : Array Value := #[.int .i64 0, .int .i64 4, .int .i64 8, .int .i64 12, .int .i64 1, .int .i64 5, .int .i64 9, .int .i64 13, .int .i64 2, .int .i64 6, .int .i64 10, .int .i64 14, .int .i64 3, .int .i64 7, .int .i64 11, .int .i64 15, .int .i64 0, .int .i64 5, .int .i64 10, .int .i64 15, .int .i64 1, .int .i64 6, .int .i64 11, .int .i64 12, .int .i64 2, .int .i64 7, .int .i64 8, .int .i64 13, .int .i64 3, .int .i64 4, .int .i64 9, .int .i64 14]
set_option maxRecDepth 100000 in
set_option maxHeartbeats 100000 in
theorem places_walk (w : World) :
    Calls Try.prog 61 #[] w fun e w' => e = .returned (.agg placesA) ∧ Below w.heap.size w w' := by
  go_enter Try.func61, Try.ntmps61
  go_upto_region 1 with fail
  rename_i hK
  apply wp_region_lit
  refine wpList_buildTo rfl 88 _ rfl (some 1) rfl #[.int .i64 0, .int .i64 4, .int .i64 8, .int .i64 12] (by as_aux_lemma => kernel_rfl) ?_
  refine wpList_buildTo rfl 88 _ rfl (some 2) rfl #[.int .i64 1, .int .i64 5, .int .i64 9, .int .i64 13] (by as_aux_lemma => kernel_rfl) ?_
  refine wpList_buildTo rfl 88 _ rfl (some 3) rfl #[.int .i64 2, .int .i64 6, .int .i64 10, .int .i64 14] (by as_aux_lemma => kernel_rfl) ?_
  refine wpList_buildTo rfl 88 _ rfl (some 4) rfl #[.int .i64 3, .int .i64 7, .int .i64 11, .int .i64 15] (by as_aux_lemma => kernel_rfl) ?_
  refine wpList_buildTo rfl 88 _ rfl (some 5) rfl #[.int .i64 0, .int .i64 5, .int .i64 10, .int .i64 15] (by as_aux_lemma => kernel_rfl) ?_
  refine wpList_buildTo rfl 88 _ rfl (some 6) rfl #[.int .i64 1, .int .i64 6, .int .i64 11, .int .i64 12] (by as_aux_lemma => kernel_rfl) ?_
  refine wpList_buildTo rfl 88 _ rfl (some 7) rfl #[.int .i64 2, .int .i64 7, .int .i64 8, .int .i64 13] (by as_aux_lemma => kernel_rfl) ?_
  refine wpList_buildTo rfl 88 _ rfl (some 8) rfl #[.int .i64 3, .int .i64 4, .int .i64 9, .int .i64 14] (by as_aux_lemma => kernel_rfl) ?_
  refine wpList_buildTo rfl 89 _ rfl (some 9) rfl placesA (by as_aux_lemma => kernel_rfl) ?_
  refine wpList_store_rowTo rfl 89 _ _ rfl rfl w.heap.size placesA (by as_aux_lemma => kernel_rfl) (by as_aux_lemma => kernel_rfl) 89 _ (heap_alloc_last w _) (by as_aux_lemma => kernel_rfl) (by as_aux_lemma => kernel_rfl) (by as_aux_lemma => kernel_rfl) ?_
  rw [World.setRow_alloc_new]
  apply wpList_nil
  refine hK _ _ ?_
  go_wp2_with fail
  exact bodyPost_ret (v := .agg placesA) (results_cell_row rfl _ _ w.heap.size 89 placesA (0, 0) _ (by kernel_rfl) (heap_alloc_last w _) Try.underlying89 rfl (by kernel_rfl)) rfl ⟨rfl, (Below.refl _ _).alloc (Nat.le_refl _) _⟩
end Go.Proofs.Ytfglhemmccihfaa

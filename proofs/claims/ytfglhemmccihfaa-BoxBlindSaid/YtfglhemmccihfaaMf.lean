/-
Layer 4, the program's package chacha: Stir, places, begin.
Layer 4, the program's package chacha: may, begin.
-/
import Derived.Deep.QuietTactic
import Derived.BigQuiet
import Derived.Great.BuildSlice
import Derived.Deep.WholeRow
import Derived.Test.YtfglhemmccihfaaMa
import Derived.Test.YtfglhemmccihfaaMb
import Derived.Test.YtfglhemmccihfaaMd
namespace Go.Proofs.Ytfglhemmccihfaa
open Go.RowKit

/-- Words as cells. -/
def u32c (x : BitVec 32) : Value := .int .u32 (bvi x)
def words (l : List (BitVec 32)) : List Value := l.map u32c
theorem words_length (l : List (BitVec 32)) : (words l).length = l.length := by simp [words]
/-- An array of words. -/
def wordsV (l : List (BitVec 32)) : Value := .agg (words l).toArray

set_option maxRecDepth 100000 in
set_option maxHeartbeats 2000000 in
theorem Stir_walk (a b c d : BitVec 32) (w : World) :
    Calls Try.prog 62 #[.agg #[.int .u32 (bvi a), .int .u32 (bvi b), .int .u32 (bvi c), .int .u32 (bvi d)]] w fun e w' => e = .returned (wordsV (stir4 a b c d)) ∧ Below w.heap.size w w' := by
  go_enter Try.func62, Try.ntmps62
  go_wp2_with fail
  go_quiet (fail)
  go_wp2_with fail
  have i0 : ∀ wx, (Instr.index 113 (.agg #[.int .i64 16, .int .i64 12, .int .i64 8, .int .i64 7]) (.int .i64 0)).run Try.prog wx = .ok (.agg #[.int .i64 16, .int .i64 12]) wx := fun _ => by kernel_rfl
  have i1 : ∀ wx, (Instr.index 113 (.agg #[.int .i64 16, .int .i64 12, .int .i64 8, .int .i64 7]) (.int .i64 1)).run Try.prog wx = .ok (.agg #[.int .i64 8, .int .i64 7]) wx := fun _ => by kernel_rfl
  refine wp_loop_rounds 3 ?_
  rw [rounds_succ]
  go_wp2_with fail
  refine (Left_walk _ _ _).mono ?_
  rintro e w1 ⟨rfl, rfl⟩
  go_wp2_with fail
  refine (Left_walk _ _ _).mono ?_
  rintro e w1 ⟨rfl, rfl⟩
  go_wp2_with fail
  rw [rounds_succ]
  go_wp2_with fail
  refine (Left_walk _ _ _).mono ?_
  rintro e w1 ⟨rfl, rfl⟩
  go_wp2_with fail
  refine (Left_walk _ _ _).mono ?_
  rintro e w1 ⟨rfl, rfl⟩
  go_wp2_with fail
  rw [rounds_succ]
  go_wp2_with fail
  refine bodyPost_ret (v := wordsV (stir4 a b c d)) (by simp [results, Try.results62, go_sem, wordsV, words, stir4, u32c]) rfl ⟨rfl, ?_⟩
  (repeat' (first | (with_reducible exact Below.refl _ _) | (with_reducible assumption) | refine Below.setCell ?_ (by simp <;> omega) _ | refine below_alloc' ?_ _ | refine Below.alloc ?_ (by simp <;> omega) _ | refine below_drewN ?_ _ | refine Below.drew ?_))

/-- The places' cells. -/
def placesA : Array Value := #[.int .i64 0, .int .i64 4, .int .i64 8, .int .i64 12, .int .i64 1, .int .i64 5, .int .i64 9, .int .i64 13, .int .i64 2, .int .i64 6, .int .i64 10, .int .i64 14, .int .i64 3, .int .i64 7, .int .i64 11, .int .i64 15, .int .i64 0, .int .i64 5, .int .i64 10, .int .i64 15, .int .i64 1, .int .i64 6, .int .i64 11, .int .i64 12, .int .i64 2, .int .i64 7, .int .i64 8, .int .i64 13, .int .i64 3, .int .i64 4, .int .i64 9, .int .i64 14]
set_option maxRecDepth 100000 in
set_option maxHeartbeats 100000 in
theorem places_walk (w : World) :
    Calls Try.prog 61 #[] w fun e w' => e = .returned (.agg placesA) ∧ Below w.heap.size w w' := by
  go_enter Try.func61, Try.ntmps61
  go_upto_region 1 with fail
  rename_i hK
  apply wp_region_lit
  refine wpList_buildTo rfl 88 _ rfl (some 1) rfl #[.int .i64 0, .int .i64 4, .int .i64 8, .int .i64 12] (by as_aux_lemma => kernel_rfl) ?_
  refine wpList_buildTo rfl 88 _ rfl (some 2) rfl #[.int .i64 1, .int .i64 5, .int .i64 9, .int .i64 13] (by as_aux_lemma => kernel_rfl) ?_
  refine wpList_buildTo rfl 88 _ rfl (some 3) rfl #[.int .i64 2, .int .i64 6, .int .i64 10, .int .i64 14] (by as_aux_lemma => kernel_rfl) ?_
  refine wpList_buildTo rfl 88 _ rfl (some 4) rfl #[.int .i64 3, .int .i64 7, .int .i64 11, .int .i64 15] (by as_aux_lemma => kernel_rfl) ?_
  refine wpList_buildTo rfl 88 _ rfl (some 5) rfl #[.int .i64 0, .int .i64 5, .int .i64 10, .int .i64 15] (by as_aux_lemma => kernel_rfl) ?_
  refine wpList_buildTo rfl 88 _ rfl (some 6) rfl #[.int .i64 1, .int .i64 6, .int .i64 11, .int .i64 12] (by as_aux_lemma => kernel_rfl) ?_
  refine wpList_buildTo rfl 88 _ rfl (some 7) rfl #[.int .i64 2, .int .i64 7, .int .i64 8, .int .i64 13] (by as_aux_lemma => kernel_rfl) ?_
  refine wpList_buildTo rfl 88 _ rfl (some 8) rfl #[.int .i64 3, .int .i64 4, .int .i64 9, .int .i64 14] (by as_aux_lemma => kernel_rfl) ?_
  refine wpList_buildTo rfl 89 _ rfl (some 9) rfl placesA (by as_aux_lemma => kernel_rfl) ?_
  refine wpList_store_rowTo rfl 89 _ _ rfl rfl w.heap.size placesA (by as_aux_lemma => kernel_rfl) (by as_aux_lemma => kernel_rfl) 89 _ (heap_alloc_last w _) (by as_aux_lemma => kernel_rfl) (by as_aux_lemma => kernel_rfl) (by as_aux_lemma => kernel_rfl) ?_
  rw [World.setRow_alloc_new]
  apply wpList_nil
  refine hK _ _ ?_
  go_wp2_with fail
  exact bodyPost_ret (v := .agg placesA) (results_cell_row rfl _ _ w.heap.size 89 placesA (0, 0) _ (by kernel_rfl) (heap_alloc_last w _) Try.underlying89 rfl (by kernel_rfl)) rfl ⟨rfl, (Below.refl _ _).alloc (Nat.le_refl _) _⟩
end Go.Proofs.Ytfglhemmccihfaa
namespace Go.Proofs.Ytfglhemmccihfaa
open Go.RowKit

set_option maxHeartbeats 400000 in
theorem may_walk (a b : ByteArray) (w : World) :
    Calls Try.prog 59 #[.string a, .string b] w fun e w' => e = .returned (.bool (decide (a.size = 32 ∧ b.size = 12))) ∧ w = w' := by
  by_cases h1 : a.size = 32
  · by_cases h2 : b.size = 12
    · have g1 : ((a.size : Int) == 32) = true := by rw [beq_iff_eq]; omega
      have g2 : ((b.size : Int) == 12) = true := by rw [beq_iff_eq]; omega
      have hd : decide (a.size = 32 ∧ b.size = 12) = true := decide_eq_true ⟨h1, h2⟩
      have HD := Lib.hid hd
      clear h1 h2 hd
      go_enter Try.func59, Try.ntmps59
      go_wp2_with fail
      go_ret
      exact ⟨by rw [HD.out]; rfl, rfl⟩
    · have g1 : ((a.size : Int) == 32) = true := by rw [beq_iff_eq]; omega
      have g2 : ((b.size : Int) == 12) = false := by rw [beq_eq_false_iff_ne]; omega
      have hd : decide (a.size = 32 ∧ b.size = 12) = false := decide_eq_false (fun h => h2 h.2)
      have HD := Lib.hid hd
      clear h1 h2 hd
      go_enter Try.func59, Try.ntmps59
      go_wp2_with fail
      go_ret
      exact ⟨by rw [HD.out]; rfl, rfl⟩
  · have g1 : ((a.size : Int) == 32) = false := by rw [beq_eq_false_iff_ne]; omega
    have hd : decide (a.size = 32 ∧ b.size = 12) = false := decide_eq_false (fun h => h1 h.1)
    have HD := Lib.hid hd
    clear h1 hd
    go_enter Try.func59, Try.ntmps59
    go_wp2_with fail
    go_ret
    exact ⟨by rw [HD.out]; rfl, rfl⟩

/-- An array whose first k words are told. -/
def begA (text : List UInt8) (k : Nat) : Array Value := (words ((List.range k).map (numAt text)) ++ List.replicate (16 - k) (Value.int .u32 0)).toArray
theorem begA_zero (text : List UInt8) : begA text 0 = #[.int .u32 0, .int .u32 0, .int .u32 0, .int .u32 0, .int .u32 0, .int .u32 0, .int .u32 0, .int .u32 0, .int .u32 0, .int .u32 0, .int .u32 0, .int .u32 0, .int .u32 0, .int .u32 0, .int .u32 0, .int .u32 0] := rfl
theorem begA_at (text : List UInt8) (k : Nat) (h : k < 16) : (begA text k)[k]? = some (.int .u32 0) := by
  unfold begA
  rw [List.getElem?_toArray, List.getElem?_append_right (by rw [words_length]; simp), words_length, List.length_map, List.length_range, Nat.sub_self]
  obtain ⟨d, hd⟩ : ∃ d, 16 - k = d + 1 := ⟨15 - k, by omega⟩
  rw [hd]; rfl
theorem begA_set (text : List UInt8) (k : Nat) (h : k < 16) : (begA text k).setIfInBounds k (.int .u32 (bvi (numAt text k))) = begA text (k + 1) := by
  unfold begA
  rw [List.setIfInBounds_toArray, List.set_append_right _ _ (by rw [words_length]; simp), words_length, List.length_map, List.length_range, Nat.sub_self, List.range_succ, List.map_append]
  obtain ⟨d, hd⟩ : ∃ d, 16 - k = d + 1 := ⟨15 - k, by omega⟩
  rw [hd, show 16 - (k + 1) = d by omega, List.replicate_succ, List.set_cons_zero]
  simp [words, u32c]
theorem begA_full (text : List UInt8) : begA text 16 = (words ((List.range 16).map (numAt text))).toArray := by simp [begA]
theorem begA_size (text : List UInt8) (k : Nat) (h : k ≤ 16) : (begA text k).size = 16 := by
  simp [begA, words_length]; omega
theorem begA_cells (text : List UInt8) (k : Nat) : (begA text k).all (·.oneCell') = true := by
  rw [Array.all_eq_true_iff_forall_mem]
  intro x hx
  simp only [begA, List.mem_toArray, List.mem_append, words, List.mem_map, List.mem_replicate] at hx
  rcases hx with ⟨a, _, rfl⟩ | ⟨_, rfl⟩ <;> rfl

set_option maxRecDepth 100000 in
set_option maxHeartbeats 2000000 in
theorem begin_walk (key nonce : ByteArray) (counter : BitVec 32) (hk : key.size = 32) (hn : nonce.size = 12) (w : World) :
    Calls Try.prog 60 #[.string key, .int .u32 (bvi counter), .string nonce] w fun e w' => e = .returned (wordsV (beginL key.data.toList counter nonce.data.toList)) ∧ Below w.heap.size w w' := by
  have HKZ := Lib.hid hk
  have HNZ := Lib.hid hn
  have hk1 : key.size ≤ 32 := by omega
  have hn1 : nonce.size ≤ 12 := by omega
  clear hk hn
  go_enter Try.func60, Try.ntmps60
  go_wp2_with fail
  refine (Low_walk _ 4 _).mono ?_
  rintro e w1 ⟨r1, rfl, hr1, hb1⟩
  have hz1 : r1.size = 4 := by rw [hr1.size, lowL_length]; rfl
  have hz2 : r1.size ≤ 4 := by omega
  go_wp2_with fail
  have htx := (((Is.of [101, 120, 112, 97, 110, 100, 32, 51, 50, 45, 98, 121, 116, 101, 32, 107]).append (Is.self key)).append hr1).append (Is.self nonce)
  have hzt := htx.size
  have hlk : key.data.toList.length = 32 := by have := HKZ.out; rw [Array.length_toList]; exact this
  have hln : nonce.data.toList.length = 12 := by have := HNZ.out; rw [Array.length_toList]; exact this
  rw [List.length_append, List.length_append, List.length_append, hlk, hln, lowL_length] at hzt
  have hz64 : (ByteArray.mk #[101, 120, 112, 97, 110, 100, 32, 51, 50, 45, 98, 121, 116, 101, 32, 107] ++ key ++ r1 ++ nonce).size = 64 := hzt
  clear hzt hlk hln
  generalize (ByteArray.mk #[101, 120, 112, 97, 110, 100, 32, 51, 50, 45, 98, 121, 116, 101, 32, 107] ++ key ++ r1 ++ nonce) = t at htx hz64 ⊢
  have HT := Lib.hid (show Is t (headL key.data.toList counter nonce.data.toList) from htx)
  have hzl : 64 ≤ t.size := by omega
  have HZ := Lib.hid hz64
  have zW : w.heap.size < w1.heap.size := by have := hb1.size; simp at this; omega
  have HB1 := Lib.hid (show Below w.heap.size w w1 from Below.trans ((Below.refl _ _).alloc (Nat.le_refl _) _) (hb1.mono (by simp)))
  have HRB := Lib.hid (show RowAt w1 w.heap.size (begA [] 0) 86 (0, 0) from (RowAt.new w _ _ _).below hb1 (by simp))
  clear htx hz64 hz1 hz2 hk1 hn1 hr1 hb1
  go_loopw [20] (fun i wr => ∃ k : Nat, k ≤ 16 ∧ i = .int .i64 k ∧ RowAt wr w1.heap.size (begA (headL key.data.toList counter nonce.data.toList) k) 86 (0, 0) ∧ RowAt wr w.heap.size (begA [] 0) 86 (0, 0) ∧ Below w.heap.size w wr) (fun i _ => 16 - (intOf i).toNat)
  case atStart => exact ⟨0, Nat.zero_le _, rfl, RowAt.new w1 _ _ _, HRB.out.alloc _, HB1.out.alloc HB1.out.size _⟩
  case round =>
    obtain ⟨k, hk, rfl, hrow, hrb, hbel⟩ := hrel
    have HRW := Lib.hid hrow
    have HRB2 := Lib.hid hrb
    have HB := Lib.hid hbel
    clear hrow hrb hbel
    rcases Nat.lt_or_ge k 16 with hlt | hge
    · have hx : Is (t.extract (4 * k) (4 * (k + 1))) (((headL key.data.toList counter nonce.data.toList).drop (4 * k)).take 4) := by
        have := HT.out.extract (4 * k) (4 * (k + 1))
        rwa [show 4 * (k + 1) - 4 * k = 4 by omega] at this
      have hxz : (t.extract (4 * k) (4 * (k + 1))).size ≤ 8 := by rw [ByteArray.size_extract]; omega
      have HX := Lib.hid hx
      clear hx
      have c0 := HRW.out.cell (begA_at _ k hlt)
      have f0 := HRW.out.free (i := k) (by simp)
      go_wp2_with fail
      refine (FromLow_ok _ hxz _).mono ?_
      rintro e w2 ⟨rfl, rfl⟩
      rw [HX.out.out]
      go_wp2_with fail
      go_roundw
      case rel =>
        refine ⟨k + 1, by omega, by go_num, ?_, HRB2.out.other (by show w1.heap.size ≠ w.heap.size; omega) _, HB.out.setCell (by show w.heap.size ≤ w1.heap.size; omega) _⟩
        rw [← begA_set _ k hlt]
        exact HRW.out.store k _
      case measure => simp [intOf]; omega
    · obtain rfl : k = 16 := by omega
      go_upto_region 9 with fail
      rename_i hK
      apply wp_region_lit
      refine wpList_load_row rfl 86 _ rfl w1.heap.size (by as_aux_lemma => kernel_rfl) 86 _ (0, 0) _ HRW.out.out Try.underlying86 rfl ?_ ?_
      · rw [begA_size _ _ (Nat.le_refl _)]; kernel_rfl
      refine wpList_store_rowTo rfl 86 _ _ rfl rfl w.heap.size (begA (headL key.data.toList counter nonce.data.toList) 16) (by as_aux_lemma => kernel_rfl) (by as_aux_lemma => kernel_rfl) 86 _ HRB2.out.out ?_ ?_ ?_ ?_
      · rw [begA_size _ _ (Nat.le_refl _)]; kernel_rfl
      · rw [begA_size _ _ (Nat.le_refl _)]; rfl
      · exact begA_cells _ _
      apply wpList_nil
      refine hK _ _ ?_
      go_wp2_with fail
      refine bodyPost_ret (v := wordsV (beginL key.data.toList counter nonce.data.toList)) (results_cell_row rfl _ _ w.heap.size 86 (begA (headL key.data.toList counter nonce.data.toList) 16) (0, 0) _ (by kernel_rfl) ?_ Try.underlying86 rfl ?_) rfl ⟨rfl, ?_⟩
      · exact (HRB2.out.setRow _).out
      · rw [begA_size _ _ (Nat.le_refl _)]; kernel_rfl
      · exact Go.Proofs.Ytfglhemmccihfaa.Below.setRow HB.out (Nat.le_refl _) _
end Go.Proofs.Ytfglhemmccihfaa

/-
  Go's '==' on arrays of words.
-/
import Derived.Test.YtdfgcjjaiggpkaaChachaC
import Derived.ChangeKeysEq
namespace Go.Proofs.Ytdfgcjjaiggpkaa
open Go.RowKit

theorem equalIn_u32 (d : Nat) (x y : BitVec 32) (w : World) : (Op.equalIn (d + 1) 25 (.int .u32 (bvi x)) (.int .u32 (bvi y))).run Try.prog w = .ok (bvi x == bvi y) w := by
  simp only [Op.equalIn, Sem.run_bind, run_underlying Try.underlying25, Result.andThen_ok, if_true, Sem.run_pure]
theorem eqItems_words (d : Nat) (l m : List (BitVec 32)) (w : World) : ∀ is : List Nat, (∀ i ∈ is, i < l.length ∧ i < m.length) →
    (Op.eqItems (d + 1) 25 1 (words l).toArray (words m).toArray is).run Try.prog w = .ok (is.all fun i => l.getD i 0 == m.getD i 0) w
  | [], _ => rfl
  | i :: is, h => by
    have h1 := h i (by simp)
    have e1 := run_part_plain (P := Try.prog) (w := w) (e := 25) (by kernel_rfl) (words_at l i h1.1)
    have e2 := run_part_plain (P := Try.prog) (w := w) (e := 25) (by kernel_rfl) (words_at m i h1.2)
    simp only [Op.eqItems, Nat.mul_one, Sem.run_bind, e1, e2, equalIn_u32, Result.andThen_ok]
    have hb : (bvi (l.getD i 0) == bvi (m.getD i 0)) = (l.getD i 0 == m.getD i 0) := by
      rw [Bool.eq_iff_iff, beq_iff_eq, beq_iff_eq]; exact bvi_inj
    rw [hb, List.all_cons]
    cases hq : (l.getD i 0 == m.getD i 0)
    · rfl
    · simp only [Bool.not_true, Bool.false_eq_true, if_false, Bool.true_and]
      exact eqItems_words d l m w is fun j hj => h j (by simp [hj])
theorem all_get (l m : List (BitVec 32)) (n : Nat) (hl : l.length = n) (hm : m.length = n) : ((List.range n).all fun i => l.getD i 0 == m.getD i 0) = decide (l = m) := by
  rw [Bool.eq_iff_iff, decide_eq_true_iff, List.all_eq_true]
  constructor
  · intro h
    apply List.ext_getElem (by omega)
    intro i h1 h2
    have := h i (List.mem_range.2 (by omega))
    rw [beq_iff_eq, List.getD_eq_getElem?_getD, List.getD_eq_getElem?_getD, List.getElem?_eq_getElem h1, List.getElem?_eq_getElem h2] at this
    exact this
  · rintro rfl i _
    exact beq_self_eq_true _
/-- '==' on arrays of n words. -/
theorem equal_words {T : TypeId} (n : Nat) (hT : Try.prog.underlying T = some (.array n 25)) (l m : List (BitVec 32)) (hl : l.length = n) (hm : m.length = n) (w : World) :
    (Op.equalIn 10000 T (.agg (words l).toArray) (.agg (words m).toArray)).run Try.prog w = .ok (decide (l = m)) w := by
  obtain ⟨i, hi⟩ : ∃ i, Try.prog.info? 25 = some i := by
    cases h : Try.prog.info? 25 with
    | some i => exact ⟨i, rfl⟩
    | none =>
      have k : (Try.prog.info? 25).isSome = true := by kernel_rfl
      rw [h] at k; cases k
  have := run_equalIn_array (P := Try.prog) (w := w) 9999 (words l).toArray (words m).toArray hT hi
  refine Eq.trans this ?_
  have hc : Try.prog.cellsOf 25 = 1 := by kernel_rfl
  rw [hc]
  refine (eqItems_words 9998 l m w (List.range n) fun i hi => by have := List.mem_range.1 hi; omega).trans ?_
  rw [all_get l m n hl hm]
end Go.Proofs.Ytdfgcjjaiggpkaa

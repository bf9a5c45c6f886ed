/-
  For every four numbers: to stir can be undone, step by step. No condition.
-/
import Derived.Test.YtjcakokhfjlihaaL04B
namespace Go.Proofs.Ytjcakokhfjlihaa
open Go.ChangeShapes Go.WideShapes Go.ChangeAt Go.RowKit
open Go.ChangeMaps (open_string shut_string)

theorem ChachaStirs_walk (q : List (BitVec 32)) (lq : q.length = 4) (w : World) :
    Calls Try.prog 7 #[.agg (q.map (fun x => Value.int .u32 (bvi x))).toArray] w fun e w' => e = .returned (.bool true) ∧ Below w.heap.size w w' := by
  match q, lq with
  | [a, b, c, d], _ => exact ChachaStirs_w a b c d w
set_option maxRecDepth 100000 in
theorem ChachaStirs_lifted (os : Os) (started : os.Started) (H : Type) (enc : TypeId × Value → H) :
    ReturnsInHanded {} Try.checked os 7 .any (Rows.chachaStirsSpec.pre6 enc Try.prog Try.f7 Rows.chachaStirsRow.domain false) (Rows.chachaStirsSpec.post enc Try.prog Try.f7 false true false false) := by
  refine law_lifted 7 Try.f7 Rows.chachaStirsSpec rfl Try.func7 (by kernel_rfl) (by kernel_rfl) (by kernel_rfl) ?_ os started H enc (ChangeSpec.witness6 (enc := enc) (C := Try.checked) false ⟨#[], #[.agg #[.int .u32 0, .int .u32 0, .int .u32 0, .int .u32 0]], []⟩ 8 (by kernel_rfl) (by kernel_rfl) (by kernel_rfl) (by kernel_rfl)) ?_
  · intro H ds h
    match ds, h with
    | [d0], _ => rfl
  intro W base args ds before hval0 hA0 hlt hsz0
  have hval : ∀ (j : Nat) t v, Try.f7.params[j]? = some t → args[j]? = some v → Value.okWide Try.prog W .any base t v := hval0
  have hA : DataW.TrodAll enc Try.prog W 0 (fun _ => true) true Try.f7.params.toList args.toList ds before := hA0
  have hsz : (DataW.weightsEach Try.prog Try.f7.params.toList ds).all (· ≤ reachBytes) = true := hsz0
  clear hval0 hA0 hsz0
  rw [Try.params7] at hA hval hsz
  obtain ⟨v0, vs0, d0, ds0, p0, q0, hargs, rfl, rfl, h0, r0⟩ := trodAll_cons hA
  obtain ⟨rfl, rfl, rfl⟩ := trodAll_nil r0
  obtain rfl : args = #[v0] := by cases args; simp_all
  obtain ⟨a0, la0, rfl⟩ := open_arr_u32 Try.underlying23 (by kernel_rfl) (hval 0 23 v0 rfl rfl) h0
  exact ChachaStirs_walk a0 la0 W 

theorem ChachaStirs_holds : Rows.ChachaStirsSaid :=
  OpenClaim.holds_of_wide 7 Try.f7 rfl rfl rfl rfl rfl rfl rfl ⟨rfl, rfl, rfl, rfl, rfl⟩ rfl rfl rfl rfl rfl (by kernel_rfl) Try.func7 (by kernel_rfl)
    (of_decide_eq_true (by kernel_rfl)) (by unfold Func.isWrapper; first | (rw [if_pos (by decide +kernel)]; kernel_rfl) | (rw [if_neg (by decide +kernel)]; exact ⟨rfl, rfl⟩))
    (fun os started H enc _ => ChachaStirs_lifted os started H enc)
#print axioms ChachaStirs_holds
end Go.Proofs.Ytjcakokhfjlihaa

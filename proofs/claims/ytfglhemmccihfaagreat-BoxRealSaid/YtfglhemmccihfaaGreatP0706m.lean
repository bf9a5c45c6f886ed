/-
  For every act: a real box seals and opens as the cipher does, and keeps nothing. No condition.
-/
import Derived.Test.YtfglhemmccihfaaGreatMu
namespace Go.Proofs.YtfglhemmccihfaaGreat
open Go.ChangeShapes Go.WideShapes Go.ChangeAt Go.RowKit
open Go.ChangeMaps (open_string shut_string)

theorem BoxReal_walk (q : ActB) (w : World) (hok : q.ok) :
    Calls Tryz.prog 4 #[actV q] w fun e w' => e = .returned (.bool true) ∧ Below w.heap.size w w' := BoxReal_w q hok w
set_option maxRecDepth 100000 in
theorem BoxReal_lifted (os : Os) (started : os.Started) (H : Type) (enc : TypeId × Value → H) :
    ReturnsInHanded {} Tryz.checked os 4 .any (Rows.boxRealSpec.pre6 enc Tryz.prog Tryz.f4 Rows.boxRealRow.domain false) (Rows.boxRealSpec.post enc Tryz.prog Tryz.f4 false true false false) := by
  refine law_lifted 4 Tryz.f4 Rows.boxRealSpec rfl Tryz.func4 (by kernel_rfl) (by kernel_rfl) (by kernel_rfl) ?_ os started H enc (ChangeSpec.witness6 (enc := enc) (C := Tryz.checked) false ⟨#[], #[.agg #[.int .i64 0, .string ByteArray.empty, .string ByteArray.empty, .string ByteArray.empty, .string ByteArray.empty]], []⟩ 8 (by kernel_rfl) (by kernel_rfl) (by kernel_rfl) (by kernel_rfl)) ?_
  · intro H ds h
    match ds, h with
    | [d0], _ => rfl
  intro W base args ds before hval0 hA0 hlt hsz0
  have hval : ∀ (j : Nat) t v, Tryz.f4.params[j]? = some t → args[j]? = some v → Value.okWide Tryz.prog W .any base t v := hval0
  have hA : DataW.TrodAll enc Tryz.prog W 0 (fun _ => true) true Tryz.f4.params.toList args.toList ds before := hA0
  have hsz : (DataW.weightsEach Tryz.prog Tryz.f4.params.toList ds).all (· ≤ reachBytes) = true := hsz0
  clear hval0 hA0 hsz0
  rw [Tryz.params4] at hA hval hsz
  obtain ⟨v0, vs0, d0, ds0, p0, q0, hargs, rfl, rfl, h0, r0⟩ := trodAll_cons hA
  obtain ⟨rfl, rfl, rfl⟩ := trodAll_nil r0
  obtain rfl : args = #[v0] := by cases args; simp_all
  obtain ⟨q0, ok0, rfl⟩ := open_act (hval 0 33 v0 rfl rfl) h0
  exact BoxReal_walk q0 W ok0

theorem BoxReal_holds : Rows.BoxRealSaid :=
  OpenClaim.holds_of_wide 4 Tryz.f4 rfl rfl rfl rfl rfl rfl rfl ⟨rfl, rfl, rfl, rfl, rfl⟩ rfl rfl rfl rfl rfl (by kernel_rfl) Tryz.func4 (by kernel_rfl)
    (of_decide_eq_true (by kernel_rfl)) (by unfold Func.isWrapper; first | (rw [if_pos (by decide +kernel)]; kernel_rfl) | (rw [if_neg (by decide +kernel)]; exact ⟨rfl, rfl⟩))
    (fun os started H enc _ => BoxReal_lifted os started H enc)
#print axioms BoxReal_holds
end Go.Proofs.YtfglhemmccihfaaGreat

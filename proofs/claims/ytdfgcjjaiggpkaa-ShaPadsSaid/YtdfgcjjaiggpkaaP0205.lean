/-
  For every number of bytes: a padding makes whole blocks, begins with the byte 128, and ends with how many bits there are. No condition.
-/
import Derived.Test.YtdfgcjjaiggpkaaL02C
namespace Go.Proofs.Ytdfgcjjaiggpkaa
open Go.ChangeShapes Go.WideShapes Go.ChangeAt Go.RowKit
open Go.ChangeMaps (open_string shut_string)

theorem ShaPads_walk (n : BitVec 64) (w : World) :
    Calls Try.prog 7 #[.int .u64 (bvi n)] w fun e w' => e = .returned (.bool true) ∧ Below w.heap.size w w' := ShaPads_w n w
set_option maxRecDepth 100000 in
theorem ShaPads_lifted (os : Os) (started : os.Started) (H : Type) (enc : TypeId × Value → H) :
    ReturnsInHanded {} Try.checked os 7 .any (Rows.shaPadsSpec.pre6 enc Try.prog Try.f7 Rows.shaPadsRow.domain false) (Rows.shaPadsSpec.post enc Try.prog Try.f7 false true false false) := by
  refine law_lifted 7 Try.f7 Rows.shaPadsSpec rfl Try.func7 (by kernel_rfl) (by kernel_rfl) (by kernel_rfl) ?_ os started H enc (ChangeSpec.witness6 (enc := enc) (C := Try.checked) false ⟨#[], #[.int .u64 0], []⟩ 8 (by kernel_rfl) (by kernel_rfl) (by kernel_rfl) (by kernel_rfl)) ?_
  · intro H ds h
    match ds, h with
    | [d0], _ => rfl
  intro W base args ds before hval0 hA0 hlt hsz0
  have hval : ∀ (j : Nat) t v, Try.f7.params[j]? = some t → args[j]? = some v → Value.okWide Try.prog W .any base t v := hval0
  have hA : DataW.TrodAll enc Try.prog W 0 (fun _ => true) true Try.f7.params.toList args.toList ds before := hA0
  have hsz : (DataW.weightsEach Try.prog Try.f7.params.toList ds).all (· ≤ reachBytes) = true := hsz0
  clear hval0 hA0 hsz0
  rw [Try.params7] at hA hval hsz
  obtain ⟨v0, vs0, d0, ds0, p0, q0, hargs, rfl, rfl, h0, r0⟩ := trodAll_cons hA
  obtain ⟨rfl, rfl, rfl⟩ := trodAll_nil r0
  obtain rfl : args = #[v0] := by cases args; simp_all
  obtain ⟨b0, rfl, rfl, rfl, wf0⟩ := open_int Try.underlying28 (hval 0 28 v0 rfl rfl) h0
  obtain ⟨a0, rfl⟩ := wf_u64 wf0
  exact ShaPads_walk a0 W 

theorem ShaPads_holds : Rows.ShaPadsSaid :=
  OpenClaim.holds_of_wide 7 Try.f7 rfl rfl rfl rfl rfl rfl rfl ⟨rfl, rfl, rfl, rfl, rfl⟩ rfl rfl rfl rfl rfl (by kernel_rfl) Try.func7 (by kernel_rfl)
    (of_decide_eq_true (by kernel_rfl)) (by unfold Func.isWrapper; first | (rw [if_pos (by decide +kernel)]; kernel_rfl) | (rw [if_neg (by decide +kernel)]; exact ⟨rfl, rfl⟩))
    (fun os started H enc _ => ShaPads_lifted os started H enc)
#print axioms ShaPads_holds
end Go.Proofs.Ytdfgcjjaiggpkaa

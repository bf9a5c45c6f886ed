/-
  For every list of texts: how a text is parted does not matter. No condition.
-/
import Derived.Test.YtdfgcjjaiggpkaaL02B
namespace Go.Proofs.Ytdfgcjjaiggpkaa
open Go.ChangeShapes Go.WideShapes Go.ChangeAt Go.RowKit
open Go.ChangeMaps (open_string shut_string)

theorem ShaParts_walk (ao : Option Addr) (cap : Nat) (ss : List ByteArray) (w : World) (hss : StrsAt w ao ss) (hsz : ∀ t ∈ ss, t.size ≤ 140737488351232) (hln : ss.length * 16 ≤ 140737488351232) (_hnl : ao = none → cap = 0) :
    Calls Try.prog 5 #[.slice ao ss.length cap] w fun e w' => e = .returned (.bool true) ∧ Below w.heap.size w w' := ShaParts_w ao cap ss w hss hsz (by omega)
set_option maxRecDepth 100000 in
theorem ShaParts_lifted (os : Os) (started : os.Started) (H : Type) (enc : TypeId × Value → H) :
    ReturnsInHanded {} Try.checked os 5 .any (Rows.shaPartsSpec.pre6 enc Try.prog Try.f5 Rows.shaPartsRow.domain false) (Rows.shaPartsSpec.post enc Try.prog Try.f5 false true false false) := by
  refine law_lifted 5 Try.f5 Rows.shaPartsSpec rfl Try.func5 (by kernel_rfl) (by kernel_rfl) (by kernel_rfl) ?_ os started H enc (ChangeSpec.witness6 (enc := enc) (C := Try.checked) false ⟨#[], #[.slice none 0 0], []⟩ 8 (by kernel_rfl) (by kernel_rfl) (by kernel_rfl) (by kernel_rfl)) ?_
  · intro H ds h
    match ds, h with
    | [d0], _ => rfl
  intro W base args ds before hval0 hA0 hlt hsz0
  have hval : ∀ (j : Nat) t v, Try.f5.params[j]? = some t → args[j]? = some v → Value.okWide Try.prog W .any base t v := hval0
  have hA : DataW.TrodAll enc Try.prog W 0 (fun _ => true) true Try.f5.params.toList args.toList ds before := hA0
  have hsz : (DataW.weightsEach Try.prog Try.f5.params.toList ds).all (· ≤ reachBytes) = true := hsz0
  clear hval0 hA0 hsz0
  rw [Try.params5] at hA hval hsz
  obtain ⟨v0, vs0, d0, ds0, p0, q0, hargs, rfl, rfl, h0, r0⟩ := trodAll_cons hA
  obtain ⟨rfl, rfl, rfl⟩ := trodAll_nil r0
  obtain rfl : args = #[v0] := by cases args; simp_all
  obtain ⟨ao0, cap0, ss0, rfl, at0, sz0, ln0, nl0⟩ := open_strs (hval 0 39 v0 rfl rfl) h0 (hsz := hsz) (j := 0) rfl rfl
  exact ShaParts_walk ao0 cap0 ss0 W at0 sz0 ln0 nl0

theorem ShaParts_holds : Rows.ShaPartsSaid :=
  OpenClaim.holds_of_wide 5 Try.f5 rfl rfl rfl rfl rfl rfl rfl ⟨rfl, rfl, rfl, rfl, rfl⟩ rfl rfl rfl rfl rfl (by kernel_rfl) Try.func5 (by kernel_rfl)
    (of_decide_eq_true (by kernel_rfl)) (by unfold Func.isWrapper; first | (rw [if_pos (by decide +kernel)]; kernel_rfl) | (rw [if_neg (by decide +kernel)]; exact ⟨rfl, rfl⟩))
    (fun os started H enc _ => ShaParts_lifted os started H enc)
#print axioms ShaParts_holds
end Go.Proofs.Ytdfgcjjaiggpkaa

/-
  For every key and list of texts: how a text is parted does not matter. No condition.
-/
import Derived.Test.YtdfgcjjaiggpkaaL03C
namespace Go.Proofs.Ytdfgcjjaiggpkaa
open Go.ChangeShapes Go.WideShapes Go.ChangeAt Go.RowKit
open Go.ChangeMaps (open_string shut_string)

theorem MacParts_walk (a : ByteArray) (_ha : a.size ≤ 140737488351232) (ao : Option Addr) (cap : Nat) (ss : List ByteArray) (w : World) (hss : StrsAt w ao ss) (hsz : ∀ t ∈ ss, t.size ≤ 140737488351232) (_hln : ss.length * 16 ≤ 140737488351232) (_hnl : ao = none → cap = 0) :
    Calls Try.prog 11 #[.string a, .slice ao ss.length cap] w fun e w' => e = .returned (.bool true) ∧ Below w.heap.size w w' := MacParts_w a ao cap ss w hss hsz
set_option maxRecDepth 100000 in
theorem MacParts_lifted (os : Os) (started : os.Started) (H : Type) (enc : TypeId × Value → H) :
    ReturnsInHanded {} Try.checked os 11 .any (Rows.macPartsSpec.pre6 enc Try.prog Try.f11 Rows.macPartsRow.domain false) (Rows.macPartsSpec.post enc Try.prog Try.f11 false true false false) := by
  refine law_lifted 11 Try.f11 Rows.macPartsSpec rfl Try.func11 (by kernel_rfl) (by kernel_rfl) (by kernel_rfl) ?_ os started H enc (ChangeSpec.witness6 (enc := enc) (C := Try.checked) false ⟨#[], #[.string ByteArray.empty, .slice none 0 0], []⟩ 8 (by kernel_rfl) (by kernel_rfl) (by kernel_rfl) (by kernel_rfl)) ?_
  · intro H ds h
    match ds, h with
    | [d0, d1], _ => rfl
  intro W base args ds before hval0 hA0 hlt hsz0
  have hval : ∀ (j : Nat) t v, Try.f11.params[j]? = some t → args[j]? = some v → Value.okWide Try.prog W .any base t v := hval0
  have hA : DataW.TrodAll enc Try.prog W 0 (fun _ => true) true Try.f11.params.toList args.toList ds before := hA0
  have hsz : (DataW.weightsEach Try.prog Try.f11.params.toList ds).all (· ≤ reachBytes) = true := hsz0
  clear hval0 hA0 hsz0
  rw [Try.params11] at hA hval hsz
  obtain ⟨v0, vs0, d0, ds0, p0, q0, hargs, rfl, rfl, h0, r0⟩ := trodAll_cons hA
  obtain ⟨v1, vs1, d1, ds1, p1, q1, rfl, rfl, rfl, h1, r1⟩ := trodAll_cons r0
  obtain ⟨rfl, rfl, rfl⟩ := trodAll_nil r1
  obtain rfl : args = #[v0, v1] := by cases args; simp_all
  obtain ⟨a0, rfl, rfl, rfl, sz0⟩ := open_string Try.underlying9 (hval 0 9 v0 rfl rfl) h0
  obtain ⟨ao1, cap1, ss1, rfl, at1, sz1, ln1, nl1⟩ := open_strs (hval 1 39 v1 rfl rfl) h1 (hsz := hsz) (j := 1) rfl rfl
  have ws0 := str_size hsz (j := 0) (t := 9) (s := a0) rfl rfl
  exact MacParts_walk a0 ws0 ao1 cap1 ss1 W at1 sz1 ln1 nl1

theorem MacParts_holds : Rows.MacPartsSaid :=
  OpenClaim.holds_of_wide 11 Try.f11 rfl rfl rfl rfl rfl rfl rfl ⟨rfl, rfl, rfl, rfl, rfl⟩ rfl rfl rfl rfl rfl (by kernel_rfl) Try.func11 (by kernel_rfl)
    (of_decide_eq_true (by kernel_rfl)) (by unfold Func.isWrapper; first | (rw [if_pos (by decide +kernel)]; kernel_rfl) | (rw [if_neg (by decide +kernel)]; exact ⟨rfl, rfl⟩))
    (fun os started H enc _ => MacParts_lifted os started H enc)
#print axioms MacParts_holds
end Go.Proofs.Ytdfgcjjaiggpkaa

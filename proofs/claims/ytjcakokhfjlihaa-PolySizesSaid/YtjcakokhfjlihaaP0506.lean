/-
  For every key and text: a key of 32 bytes has tags of 16 bytes, and no other key has any. No condition.
-/
import Derived.Test.YtjcakokhfjlihaaL05B
namespace Go.Proofs.Ytjcakokhfjlihaa
open Go.ChangeShapes Go.WideShapes Go.ChangeAt Go.RowKit
open Go.ChangeMaps (open_string shut_string)

theorem PolySizes_walk (key : ByteArray) (_hk : key.size ≤ 140737488351232) (text : ByteArray) (_ht : text.size ≤ 140737488351232) (w : World) :
    Calls Try.prog 14 #[.string key, .string text] w fun e w' => e = .returned (.bool true) ∧ Below w.heap.size w w' := PolySizes_w key text w
set_option maxRecDepth 100000 in
theorem PolySizes_lifted (os : Os) (started : os.Started) (H : Type) (enc : TypeId × Value → H) :
    ReturnsInHanded {} Try.checked os 14 .any (Rows.polySizesSpec.pre6 enc Try.prog Try.f14 Rows.polySizesRow.domain false) (Rows.polySizesSpec.post enc Try.prog Try.f14 false true false false) := by
  refine law_lifted 14 Try.f14 Rows.polySizesSpec rfl Try.func14 (by kernel_rfl) (by kernel_rfl) (by kernel_rfl) ?_ os started H enc (ChangeSpec.witness6 (enc := enc) (C := Try.checked) false ⟨#[], #[.string ByteArray.empty, .string ByteArray.empty], []⟩ 8 (by kernel_rfl) (by kernel_rfl) (by kernel_rfl) (by kernel_rfl)) ?_
  · intro H ds h
    match ds, h with
    | [d0, d1], _ => rfl
  intro W base args ds before hval0 hA0 hlt hsz0
  have hval : ∀ (j : Nat) t v, Try.f14.params[j]? = some t → args[j]? = some v → Value.okWide Try.prog W .any base t v := hval0
  have hA : DataW.TrodAll enc Try.prog W 0 (fun _ => true) true Try.f14.params.toList args.toList ds before := hA0
  have hsz : (DataW.weightsEach Try.prog Try.f14.params.toList ds).all (· ≤ reachBytes) = true := hsz0
  clear hval0 hA0 hsz0
  rw [Try.params14] at hA hval hsz
  obtain ⟨v0, vs0, d0, ds0, p0, q0, hargs, rfl, rfl, h0, r0⟩ := trodAll_cons hA
  obtain ⟨v1, vs1, d1, ds1, p1, q1, rfl, rfl, rfl, h1, r1⟩ := trodAll_cons r0
  obtain ⟨rfl, rfl, rfl⟩ := trodAll_nil r1
  obtain rfl : args = #[v0, v1] := by cases args; simp_all
  obtain ⟨a0, rfl, rfl, rfl, sz0⟩ := open_string Try.underlying9 (hval 0 9 v0 rfl rfl) h0
  obtain ⟨a1, rfl, rfl, rfl, sz1⟩ := open_string Try.underlying9 (hval 1 9 v1 rfl rfl) h1
  have ws0 := str_size hsz (j := 0) (t := 9) (s := a0) rfl rfl
  have ws1 := str_size hsz (j := 1) (t := 9) (s := a1) rfl rfl
  exact PolySizes_walk a0 ws0 a1 ws1 W 

theorem PolySizes_holds : Rows.PolySizesSaid :=
  OpenClaim.holds_of_wide 14 Try.f14 rfl rfl rfl rfl rfl rfl rfl ⟨rfl, rfl, rfl, rfl, rfl⟩ rfl rfl rfl rfl rfl (by kernel_rfl) Try.func14 (by kernel_rfl)
    (of_decide_eq_true (by kernel_rfl)) (by unfold Func.isWrapper; first | (rw [if_pos (by decide +kernel)]; kernel_rfl) | (rw [if_neg (by decide +kernel)]; exact ⟨rfl, rfl⟩))
    (fun os started H enc _ => PolySizes_lifted os started H enc)
#print axioms PolySizes_holds
end Go.Proofs.Ytjcakokhfjlihaa

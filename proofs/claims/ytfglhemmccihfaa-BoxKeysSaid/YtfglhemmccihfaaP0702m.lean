/-
  For every master secret, domain and epoch: the key, or that a size is wrong, is as the reference says. No condition.
-/
import Derived.Test.YtfglhemmccihfaaMu
namespace Go.Proofs.Ytfglhemmccihfaa
open Go.ChangeShapes Go.WideShapes Go.ChangeAt Go.RowKit
open Go.ChangeMaps (open_string shut_string)

theorem BoxKeys_walk (a : ByteArray) (_ha : a.size ≤ 140737488351232) (b : ByteArray) (_hb : b.size ≤ 140737488351232) (c : BitVec 64) (w : World) :
    Calls Try.prog 9 #[.string a, .string b, .int .u64 (bvi c)] w fun e w' => e = .returned (.bool true) ∧ Below w.heap.size w w' := BoxKeys_w a b c w
set_option maxRecDepth 100000 in
theorem BoxKeys_lifted (os : Os) (started : os.Started) (H : Type) (enc : TypeId × Value → H) :
    ReturnsInHanded {} Try.checked os 9 .any (Rows.boxKeysSpec.pre6 enc Try.prog Try.f9 Rows.boxKeysRow.domain false) (Rows.boxKeysSpec.post enc Try.prog Try.f9 false true false false) := by
  refine law_lifted 9 Try.f9 Rows.boxKeysSpec rfl Try.func9 (by kernel_rfl) (by kernel_rfl) (by kernel_rfl) ?_ os started H enc (ChangeSpec.witness6 (enc := enc) (C := Try.checked) false ⟨#[], #[.string ByteArray.empty, .string ByteArray.empty, .int .u64 0], []⟩ 8 (by kernel_rfl) (by kernel_rfl) (by kernel_rfl) (by kernel_rfl)) ?_
  · intro H ds h
    match ds, h with
    | [d0, d1, d2], _ => rfl
  intro W base args ds before hval0 hA0 hlt hsz0
  have hval : ∀ (j : Nat) t v, Try.f9.params[j]? = some t → args[j]? = some v → Value.okWide Try.prog W .any base t v := hval0
  have hA : DataW.TrodAll enc Try.prog W 0 (fun _ => true) true Try.f9.params.toList args.toList ds before := hA0
  have hsz : (DataW.weightsEach Try.prog Try.f9.params.toList ds).all (· ≤ reachBytes) = true := hsz0
  clear hval0 hA0 hsz0
  rw [Try.params9] at hA hval hsz
  obtain ⟨v0, vs0, d0, ds0, p0, q0, hargs, rfl, rfl, h0, r0⟩ := trodAll_cons hA
  obtain ⟨v1, vs1, d1, ds1, p1, q1, rfl, rfl, rfl, h1, r1⟩ := trodAll_cons r0
  obtain ⟨v2, vs2, d2, ds2, p2, q2, rfl, rfl, rfl, h2, r2⟩ := trodAll_cons r1
  obtain ⟨rfl, rfl, rfl⟩ := trodAll_nil r2
  obtain rfl : args = #[v0, v1, v2] := by cases args; simp_all
  obtain ⟨a0, rfl, rfl, rfl, sz0⟩ := open_string Try.underlying9 (hval 0 9 v0 rfl rfl) h0
  obtain ⟨a1, rfl, rfl, rfl, sz1⟩ := open_string Try.underlying9 (hval 1 9 v1 rfl rfl) h1
  obtain ⟨b2, rfl, rfl, rfl, wf2⟩ := open_int Try.underlying35 (hval 2 35 v2 rfl rfl) h2
  obtain ⟨a2, rfl⟩ := wf_u64 wf2
  have ws0 := str_size hsz (j := 0) (t := 9) (s := a0) rfl rfl
  have ws1 := str_size hsz (j := 1) (t := 9) (s := a1) rfl rfl
  exact BoxKeys_walk a0 ws0 a1 ws1 a2 W 

theorem BoxKeys_holds : Rows.BoxKeysSaid :=
  OpenClaim.holds_of_wide 9 Try.f9 rfl rfl rfl rfl rfl rfl rfl ⟨rfl, rfl, rfl, rfl, rfl⟩ rfl rfl rfl rfl rfl (by kernel_rfl) Try.func9 (by kernel_rfl)
    (of_decide_eq_true (by kernel_rfl)) (by unfold Func.isWrapper; first | (rw [if_pos (by decide +kernel)]; kernel_rfl) | (rw [if_neg (by decide +kernel)]; exact ⟨rfl, rfl⟩))
    (fun os started H enc _ => BoxKeys_lifted os started H enc)
#print axioms BoxKeys_holds
end Go.Proofs.Ytfglhemmccihfaa

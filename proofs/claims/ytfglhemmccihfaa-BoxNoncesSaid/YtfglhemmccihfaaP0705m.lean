/-
  For all draws and every list of acts: an ideal box seals with a key and a nonce one text alone; the same again is told again. No condition.
-/
import Derived.Test.YtfglhemmccihfaaML07F
namespace Go.Proofs.Ytfglhemmccihfaa
open Go.ChangeShapes Go.WideShapes Go.ChangeAt Go.RowKit
open Go.ChangeMaps (open_string shut_string)

theorem BoxNonces_walk (b : ByteArray) (_hb : b.size ≤ 140737488351232) (ao : Option Addr) (cap : Nat) (l : List ActB) (w : World) (hat : ActsAt w ao l) (hok : ∀ a ∈ l, a.ok) :
    Calls Try.prog 12 #[.string b, .slice ao l.length cap] w fun e w' => e = .returned (.bool true) ∧ Below w.heap.size w w' := BoxNonces_w b ao cap l w hat hok
set_option maxRecDepth 100000 in
theorem BoxNonces_lifted (os : Os) (started : os.Started) (H : Type) (enc : TypeId × Value → H) :
    ReturnsInHanded {} Try.checked os 12 .any (Rows.boxNoncesSpec.pre6 enc Try.prog Try.f12 Rows.boxNoncesRow.domain false) (Rows.boxNoncesSpec.post enc Try.prog Try.f12 false true false false) := by
  refine law_lifted 12 Try.f12 Rows.boxNoncesSpec rfl Try.func12 (by kernel_rfl) (by kernel_rfl) (by kernel_rfl) ?_ os started H enc (ChangeSpec.witness6 (enc := enc) (C := Try.checked) false ⟨#[], #[.string ByteArray.empty, .slice none 0 0], []⟩ 8 (by kernel_rfl) (by kernel_rfl) (by kernel_rfl) (by kernel_rfl)) ?_
  · intro H ds h
    match ds, h with
    | [d0, d1], _ => rfl
  intro W base args ds before hval0 hA0 hlt hsz0
  have hval : ∀ (j : Nat) t v, Try.f12.params[j]? = some t → args[j]? = some v → Value.okWide Try.prog W .any base t v := hval0
  have hA : DataW.TrodAll enc Try.prog W 0 (fun _ => true) true Try.f12.params.toList args.toList ds before := hA0
  have hsz : (DataW.weightsEach Try.prog Try.f12.params.toList ds).all (· ≤ reachBytes) = true := hsz0
  clear hval0 hA0 hsz0
  rw [Try.params12] at hA hval hsz
  obtain ⟨v0, vs0, d0, ds0, p0, q0, hargs, rfl, rfl, h0, r0⟩ := trodAll_cons hA
  obtain ⟨v1, vs1, d1, ds1, p1, q1, rfl, rfl, rfl, h1, r1⟩ := trodAll_cons r0
  obtain ⟨rfl, rfl, rfl⟩ := trodAll_nil r1
  obtain rfl : args = #[v0, v1] := by cases args; simp_all
  obtain ⟨a0, rfl, rfl, rfl, sz0⟩ := open_string Try.underlying9 (hval 0 9 v0 rfl rfl) h0
  obtain ⟨ao1, cap1, l1, rfl, at1, ok1⟩ := open_acts (hval 1 38 v1 rfl rfl) h1
  have ws0 := str_size hsz (j := 0) (t := 9) (s := a0) rfl rfl
  exact BoxNonces_walk a0 ws0 ao1 cap1 l1 W at1 ok1

theorem BoxNonces_holds : Rows.BoxNoncesSaid :=
  OpenClaim.holds_of_wide 12 Try.f12 rfl rfl rfl rfl rfl rfl rfl ⟨rfl, rfl, rfl, rfl, rfl⟩ rfl rfl rfl rfl rfl (by kernel_rfl) Try.func12 (by kernel_rfl)
    (of_decide_eq_true (by kernel_rfl)) (by unfold Func.isWrapper; first | (rw [if_pos (by decide +kernel)]; kernel_rfl) | (rw [if_neg (by decide +kernel)]; exact ⟨rfl, rfl⟩))
    (fun os started H enc _ => BoxNonces_lifted os started H enc)
#print axioms BoxNonces_holds
end Go.Proofs.Ytfglhemmccihfaa

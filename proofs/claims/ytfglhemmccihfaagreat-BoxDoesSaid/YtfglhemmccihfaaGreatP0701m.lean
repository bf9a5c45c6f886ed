/-
  For every list of acts, and all draws: a real box and an ideal one answer as the reference does. No condition.
-/
import Derived.Test.YtfglhemmccihfaaGreatMv
namespace Go.Proofs.YtfglhemmccihfaaGreat
open Go.ChangeShapes Go.WideShapes Go.ChangeAt Go.RowKit
open Go.ChangeMaps (open_string shut_string)

theorem BoxDoes_walk (a : Bool) (b : ByteArray) (_hb : b.size ≤ 140737488351232) (ao : Option Addr) (cap : Nat) (l : List ActB) (w : World) (hat : ActsAt w ao l) (hok : ∀ a ∈ l, a.ok) :
    Calls Tryz.prog 3 #[.bool a, .string b, .slice ao l.length cap] w fun e w' => e = .returned (.bool true) ∧ Below w.heap.size w w' := BoxDoes_w a b ao cap l w hat hok
set_option maxRecDepth 100000 in
theorem BoxDoes_lifted (os : Os) (started : os.Started) (H : Type) (enc : TypeId × Value → H) :
    ReturnsInHanded {} Tryz.checked os 3 .any (Rows.boxDoesSpec.pre6 enc Tryz.prog Tryz.f3 Rows.boxDoesRow.domain false) (Rows.boxDoesSpec.post enc Tryz.prog Tryz.f3 false true false false) := by
  refine law_lifted 3 Tryz.f3 Rows.boxDoesSpec rfl Tryz.func3 (by kernel_rfl) (by kernel_rfl) (by kernel_rfl) ?_ os started H enc (ChangeSpec.witness6 (enc := enc) (C := Tryz.checked) false ⟨#[], #[.bool false, .string ByteArray.empty, .slice none 0 0], []⟩ 8 (by kernel_rfl) (by kernel_rfl) (by kernel_rfl) (by kernel_rfl)) ?_
  · intro H ds h
    match ds, h with
    | [d0, d1, d2], _ => rfl
  intro W base args ds before hval0 hA0 hlt hsz0
  have hval : ∀ (j : Nat) t v, Tryz.f3.params[j]? = some t → args[j]? = some v → Value.okWide Tryz.prog W .any base t v := hval0
  have hA : DataW.TrodAll enc Tryz.prog W 0 (fun _ => true) true Tryz.f3.params.toList args.toList ds before := hA0
  have hsz : (DataW.weightsEach Tryz.prog Tryz.f3.params.toList ds).all (· ≤ reachBytes) = true := hsz0
  clear hval0 hA0 hsz0
  rw [Tryz.params3] at hA hval hsz
  obtain ⟨v0, vs0, d0, ds0, p0, q0, hargs, rfl, rfl, h0, r0⟩ := trodAll_cons hA
  obtain ⟨v1, vs1, d1, ds1, p1, q1, rfl, rfl, rfl, h1, r1⟩ := trodAll_cons r0
  obtain ⟨v2, vs2, d2, ds2, p2, q2, rfl, rfl, rfl, h2, r2⟩ := trodAll_cons r1
  obtain ⟨rfl, rfl, rfl⟩ := trodAll_nil r2
  obtain rfl : args = #[v0, v1, v2] := by cases args; simp_all
  obtain ⟨a0, rfl, rfl, rfl⟩ := open_bool Tryz.underlying4 (hval 0 4 v0 rfl rfl) h0
  obtain ⟨a1, rfl, rfl, rfl, sz1⟩ := open_string Tryz.underlying9 (hval 1 9 v1 rfl rfl) h1
  obtain ⟨ao2, cap2, l2, rfl, at2, ok2⟩ := open_acts (hval 2 22 v2 rfl rfl) h2
  have ws1 := str_size hsz (j := 1) (t := 9) (s := a1) rfl rfl
  exact BoxDoes_walk a0 a1 ws1 ao2 cap2 l2 W at2 ok2

theorem BoxDoes_holds : Rows.BoxDoesSaid :=
  OpenClaim.holds_of_wide 3 Tryz.f3 rfl rfl rfl rfl rfl rfl rfl ⟨rfl, rfl, rfl, rfl, rfl⟩ rfl rfl rfl rfl rfl (by kernel_rfl) Tryz.func3 (by kernel_rfl)
    (of_decide_eq_true (by kernel_rfl)) (by unfold Func.isWrapper; first | (rw [if_pos (by decide +kernel)]; kernel_rfl) | (rw [if_neg (by decide +kernel)]; exact ⟨rfl, rfl⟩))
    (fun os started H enc _ => BoxDoes_lifted os started H enc)
#print axioms BoxDoes_holds
end Go.Proofs.YtfglhemmccihfaaGreat

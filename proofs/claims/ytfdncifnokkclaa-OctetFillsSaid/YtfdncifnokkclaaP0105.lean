/-
  For every string and every small number: what Fill tells begins as it was, has a multiple of bytes, and zeros behind. No condition.
-/
import Derived.Test.YtfdncifnokkclaaL01D
import Derived.Test.YtfdncifnokkclaaFrame
namespace Go.Proofs.Ytfdncifnokkclaa
open Go.ChangeShapes Go.WideShapes Go.ChangeAt Go.RowKit
open Go.ChangeMaps (open_string shut_string)

theorem OctetFills_walk (s : ByteArray) (_hss : s.size ≤ 140737488351232) (n : BitVec 8) (w : World) :
    Calls Try.prog 13 #[.string s, .int .u8 (bvi n)] w fun e w' => e = .returned (.bool true) ∧ Below w.heap.size w w' := OctetFills_w s n w
set_option maxRecDepth 100000 in
theorem OctetFills_lifted (os : Os) (started : os.Started) (H : Type) (enc : TypeId × Value → H) :
    ReturnsInHanded {} Try.checked os 13 .any (Rows.octetFillsSpec.pre6 enc Try.prog Try.f13 Rows.octetFillsRow.domain false) (Rows.octetFillsSpec.post enc Try.prog Try.f13 false true false false) := by
  refine law_lifted 13 Try.f13 Rows.octetFillsSpec rfl Try.func13 (by kernel_rfl) (by kernel_rfl) (by kernel_rfl) ?_ os started H enc (ChangeSpec.witness6 (enc := enc) (C := Try.checked) false ⟨#[], #[.string ByteArray.empty, .int .u8 0], []⟩ 8 (by kernel_rfl) (by kernel_rfl) (by kernel_rfl) (by kernel_rfl)) ?_
  · intro H ds h
    match ds, h with
    | [d0, d1], _ => rfl
  intro W base args ds before hval0 hA0 hlt hsz0
  have hval : ∀ (j : Nat) t v, Try.f13.params[j]? = some t → args[j]? = some v → Value.okWide Try.prog W .any base t v := hval0
  have hA : DataW.TrodAll enc Try.prog W 0 (fun _ => true) true Try.f13.params.toList args.toList ds before := hA0
  have hsz : (DataW.weightsEach Try.prog Try.f13.params.toList ds).all (· ≤ reachBytes) = true := hsz0
  clear hval0 hA0 hsz0
  rw [Try.params13] at hA hval hsz
  obtain ⟨v0, vs0, d0, ds0, p0, q0, hargs, rfl, rfl, h0, r0⟩ := trodAll_cons hA
  obtain ⟨v1, vs1, d1, ds1, p1, q1, rfl, rfl, rfl, h1, r1⟩ := trodAll_cons r0
  obtain ⟨rfl, rfl, rfl⟩ := trodAll_nil r1
  obtain rfl : args = #[v0, v1] := by cases args; simp_all
  obtain ⟨a0, rfl, rfl, rfl, sz0⟩ := open_string Try.underlying9 (hval 0 9 v0 rfl rfl) h0
  obtain ⟨b1, rfl, rfl, rfl, wf1⟩ := open_int Try.underlying5 (hval 1 5 v1 rfl rfl) h1
  obtain ⟨a1, rfl⟩ := wf_u8 wf1
  have ws0 := str_size hsz (j := 0) (t := 9) (s := a0) rfl rfl
  exact OctetFills_walk a0 ws0 a1 W

theorem OctetFills_holds : Rows.OctetFillsSaid :=
  OpenClaim.holds_of_wide 13 Try.f13 rfl rfl rfl rfl rfl rfl rfl ⟨rfl, rfl, rfl, rfl, rfl⟩ rfl rfl rfl rfl rfl (by kernel_rfl) Try.func13 (by kernel_rfl)
    (of_decide_eq_true (by kernel_rfl)) (by unfold Func.isWrapper; first | (rw [if_pos (by decide +kernel)]; kernel_rfl) | (rw [if_neg (by decide +kernel)]; exact ⟨rfl, rfl⟩))
    (fun os started H enc _ => OctetFills_lifted os started H enc)
#print axioms OctetFills_holds
end Go.Proofs.Ytfdncifnokkclaa

/-
  For every two numbers and every two strings: no number's packed bytes are a beginning of another's, nor a text's of another's. No condition.
-/
import Derived.Test.YtfdncifnokkclaaL12B
namespace Go.Proofs.Ytfdncifnokkclaa
open Go.ChangeShapes Go.WideShapes Go.ChangeAt Go.RowKit
open Go.ChangeMaps (open_string shut_string)

theorem PackApart_walk (n m : BitVec 64) (s : ByteArray) (_hs : s.size ≤ 140737488351232) (t : ByteArray) (_ht : t.size ≤ 140737488351232) (w : World) :
    Calls Try.prog 4 #[.int .u64 (bvi n), .int .u64 (bvi m), .string s, .string t] w fun e w' => e = .returned (.bool true) ∧ Below w.heap.size w w' := PackApart_w n m s t w
set_option maxRecDepth 100000 in
theorem PackApart_lifted (os : Os) (started : os.Started) (H : Type) (enc : TypeId × Value → H) :
    ReturnsInHanded {} Try.checked os 4 .any (Rows.packApartSpec.pre6 enc Try.prog Try.f4 Rows.packApartRow.domain false) (Rows.packApartSpec.post enc Try.prog Try.f4 false true false false) := by
  refine law_lifted 4 Try.f4 Rows.packApartSpec rfl Try.func4 (by kernel_rfl) (by kernel_rfl) (by kernel_rfl) ?_ os started H enc (ChangeSpec.witness6 (enc := enc) (C := Try.checked) false ⟨#[], #[.int .u64 0, .int .u64 0, .string ByteArray.empty, .string ByteArray.empty], []⟩ 8 (by kernel_rfl) (by kernel_rfl) (by kernel_rfl) (by kernel_rfl)) ?_
  · intro H ds h
    match ds, h with
    | [d0, d1, d2, d3], _ => rfl
  intro W base args ds before hval0 hA0 hlt hsz0
  have hval : ∀ (j : Nat) t v, Try.f4.params[j]? = some t → args[j]? = some v → Value.okWide Try.prog W .any base t v := hval0
  have hA : DataW.TrodAll enc Try.prog W 0 (fun _ => true) true Try.f4.params.toList args.toList ds before := hA0
  have hsz : (DataW.weightsEach Try.prog Try.f4.params.toList ds).all (· ≤ reachBytes) = true := hsz0
  clear hval0 hA0 hsz0
  rw [Try.params4] at hA hval hsz
  obtain ⟨v0, vs0, d0, ds0, p0, q0, hargs, rfl, rfl, h0, r0⟩ := trodAll_cons hA
  obtain ⟨v1, vs1, d1, ds1, p1, q1, rfl, rfl, rfl, h1, r1⟩ := trodAll_cons r0
  obtain ⟨v2, vs2, d2, ds2, p2, q2, rfl, rfl, rfl, h2, r2⟩ := trodAll_cons r1
  obtain ⟨v3, vs3, d3, ds3, p3, q3, rfl, rfl, rfl, h3, r3⟩ := trodAll_cons r2
  obtain ⟨rfl, rfl, rfl⟩ := trodAll_nil r3
  obtain rfl : args = #[v0, v1, v2, v3] := by cases args; simp_all
  obtain ⟨b0, rfl, rfl, rfl, wf0⟩ := open_int Try.underlying22 (hval 0 22 v0 rfl rfl) h0
  obtain ⟨a0, rfl⟩ := wf_u64 wf0
  obtain ⟨b1, rfl, rfl, rfl, wf1⟩ := open_int Try.underlying22 (hval 1 22 v1 rfl rfl) h1
  obtain ⟨a1, rfl⟩ := wf_u64 wf1
  obtain ⟨a2, rfl, rfl, rfl, sz2⟩ := open_string Try.underlying9 (hval 2 9 v2 rfl rfl) h2
  obtain ⟨a3, rfl, rfl, rfl, sz3⟩ := open_string Try.underlying9 (hval 3 9 v3 rfl rfl) h3
  have ws2 := str_size hsz (j := 2) (t := 9) (s := a2) rfl rfl
  have ws3 := str_size hsz (j := 3) (t := 9) (s := a3) rfl rfl
  exact PackApart_walk a0 a1 a2 ws2 a3 ws3 W

theorem PackApart_holds : Rows.PackApartSaid :=
  OpenClaim.holds_of_wide 4 Try.f4 rfl rfl rfl rfl rfl rfl rfl ⟨rfl, rfl, rfl, rfl, rfl⟩ rfl rfl rfl rfl rfl (by kernel_rfl) Try.func4 (by kernel_rfl)
    (of_decide_eq_true (by kernel_rfl)) (by unfold Func.isWrapper; first | (rw [if_pos (by decide +kernel)]; kernel_rfl) | (rw [if_neg (by decide +kernel)]; exact ⟨rfl, rfl⟩))
    (fun os started H enc _ => PackApart_lifted os started H enc)
#print axioms PackApart_holds
end Go.Proofs.Ytfdncifnokkclaa

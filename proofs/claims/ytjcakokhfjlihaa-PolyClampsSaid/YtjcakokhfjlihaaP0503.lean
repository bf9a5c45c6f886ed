/-
  For every key and text: the bits that clamping takes away change no tag. No condition.
-/
import Derived.Test.YtjcakokhfjlihaaL05C
namespace Go.Proofs.Ytjcakokhfjlihaa
open Go.ChangeShapes Go.WideShapes Go.ChangeAt Go.RowKit
open Go.ChangeMaps (open_string shut_string)

theorem PolyClamps_walk (key : List UInt8) (lk : key.length = 32) (text : ByteArray) (_ht : text.size ≤ 140737488351232) (w : World) :
    Calls Try.prog 11 #[.agg (cells key).toArray, .string text] w fun e w' => e = .returned (.bool true) ∧ Below w.heap.size w w' := PolyClamps_w key lk text w
set_option maxRecDepth 100000 in
theorem PolyClamps_lifted (os : Os) (started : os.Started) (H : Type) (enc : TypeId × Value → H) :
    ReturnsInHanded {} Try.checked os 11 .any (Rows.polyClampsSpec.pre6 enc Try.prog Try.f11 Rows.polyClampsRow.domain false) (Rows.polyClampsSpec.post enc Try.prog Try.f11 false true false false) := by
  refine law_lifted 11 Try.f11 Rows.polyClampsSpec rfl Try.func11 (by kernel_rfl) (by kernel_rfl) (by kernel_rfl) ?_ os started H enc (ChangeSpec.witness6 (enc := enc) (C := Try.checked) false ⟨#[], #[.agg #[.int .u8 0, .int .u8 0, .int .u8 0, .int .u8 0, .int .u8 0, .int .u8 0, .int .u8 0, .int .u8 0, .int .u8 0, .int .u8 0, .int .u8 0, .int .u8 0, .int .u8 0, .int .u8 0, .int .u8 0, .int .u8 0, .int .u8 0, .int .u8 0, .int .u8 0, .int .u8 0, .int .u8 0, .int .u8 0, .int .u8 0, .int .u8 0, .int .u8 0, .int .u8 0, .int .u8 0, .int .u8 0, .int .u8 0, .int .u8 0, .int .u8 0, .int .u8 0], .string ByteArray.empty], []⟩ 8 (by kernel_rfl) (by kernel_rfl) (by kernel_rfl) (by kernel_rfl)) ?_
  · intro H ds h
    match ds, h with
    | [d0, d1], _ => rfl
  intro W base args ds before hval0 hA0 hlt hsz0
  have hval : ∀ (j : Nat) t v, Try.f11.params[j]? = some t → args[j]? = some v → Value.okWide Try.prog W .any base t v := hval0
  have hA : DataW.TrodAll enc Try.prog W 0 (fun _ => true) true Try.f11.params.toList args.toList ds before := hA0
  have hsz : (DataW.weightsEach Try.prog Try.f11.params.toList ds).all (· ≤ reachBytes) = true := hsz0
  clear hval0 hA0 hsz0
  rw [Try.params11] at hA hval hsz
  obtain ⟨v0, vs0, d0, ds0, p0, q0, hargs, rfl, rfl, h0, r0⟩ := trodAll_cons hA
  obtain ⟨v1, vs1, d1, ds1, p1, q1, rfl, rfl, rfl, h1, r1⟩ := trodAll_cons r0
  obtain ⟨rfl, rfl, rfl⟩ := trodAll_nil r1
  obtain rfl : args = #[v0, v1] := by cases args; simp_all
  obtain ⟨a0, la0, rfl⟩ := open_arr_u8 Try.underlying36 (by kernel_rfl) (hval 0 36 v0 rfl rfl) h0
  obtain ⟨a1, rfl, rfl, rfl, sz1⟩ := open_string Try.underlying9 (hval 1 9 v1 rfl rfl) h1
  have ws1 := str_size hsz (j := 1) (t := 9) (s := a1) rfl rfl
  exact PolyClamps_walk a0 la0 a1 ws1 W 

theorem PolyClamps_holds : Rows.PolyClampsSaid :=
  OpenClaim.holds_of_wide 11 Try.f11 rfl rfl rfl rfl rfl rfl rfl ⟨rfl, rfl, rfl, rfl, rfl⟩ rfl rfl rfl rfl rfl (by kernel_rfl) Try.func11 (by kernel_rfl)
    (of_decide_eq_true (by kernel_rfl)) (by unfold Func.isWrapper; first | (rw [if_pos (by decide +kernel)]; kernel_rfl) | (rw [if_neg (by decide +kernel)]; exact ⟨rfl, rfl⟩))
    (fun os started H enc _ => PolyClamps_lifted os started H enc)
#print axioms PolyClamps_holds
end Go.Proofs.Ytjcakokhfjlihaa

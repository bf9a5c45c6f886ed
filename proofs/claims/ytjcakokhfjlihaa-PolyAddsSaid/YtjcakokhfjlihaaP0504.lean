/-
  For every key, number and text: another s makes the tag more by as much. No condition.
-/
import Derived.Test.YtjcakokhfjlihaaL05E
namespace Go.Proofs.Ytjcakokhfjlihaa
open Go.ChangeShapes Go.WideShapes Go.ChangeAt Go.RowKit
open Go.ChangeMaps (open_string shut_string)

theorem PolyAdds_walk (key : List UInt8) (lk : key.length = 32) (more : List UInt8) (lm : more.length = 16) (text : ByteArray) (_ht : text.size ≤ 140737488351232) (w : World) :
    Calls Try.prog 12 #[.agg (cells key).toArray, .agg (cells more).toArray, .string text] w fun e w' => e = .returned (.bool true) ∧ Below w.heap.size w w' := PolyAdds_w key lk more lm text w
set_option maxRecDepth 100000 in
theorem PolyAdds_lifted (os : Os) (started : os.Started) (H : Type) (enc : TypeId × Value → H) :
    ReturnsInHanded {} Try.checked os 12 .any (Rows.polyAddsSpec.pre6 enc Try.prog Try.f12 Rows.polyAddsRow.domain false) (Rows.polyAddsSpec.post enc Try.prog Try.f12 false true false false) := by
  refine law_lifted 12 Try.f12 Rows.polyAddsSpec rfl Try.func12 (by kernel_rfl) (by kernel_rfl) (by kernel_rfl) ?_ os started H enc (ChangeSpec.witness6 (enc := enc) (C := Try.checked) false ⟨#[], #[.agg #[.int .u8 0, .int .u8 0, .int .u8 0, .int .u8 0, .int .u8 0, .int .u8 0, .int .u8 0, .int .u8 0, .int .u8 0, .int .u8 0, .int .u8 0, .int .u8 0, .int .u8 0, .int .u8 0, .int .u8 0, .int .u8 0, .int .u8 0, .int .u8 0, .int .u8 0, .int .u8 0, .int .u8 0, .int .u8 0, .int .u8 0, .int .u8 0, .int .u8 0, .int .u8 0, .int .u8 0, .int .u8 0, .int .u8 0, .int .u8 0, .int .u8 0, .int .u8 0], .agg #[.int .u8 0, .int .u8 0, .int .u8 0, .int .u8 0, .int .u8 0, .int .u8 0, .int .u8 0, .int .u8 0, .int .u8 0, .int .u8 0, .int .u8 0, .int .u8 0, .int .u8 0, .int .u8 0, .int .u8 0, .int .u8 0], .string ByteArray.empty], []⟩ 8 (by kernel_rfl) (by kernel_rfl) (by kernel_rfl) (by kernel_rfl)) ?_
  · intro H ds h
    match ds, h with
    | [d0, d1, d2], _ => rfl
  intro W base args ds before hval0 hA0 hlt hsz0
  have hval : ∀ (j : Nat) t v, Try.f12.params[j]? = some t → args[j]? = some v → Value.okWide Try.prog W .any base t v := hval0
  have hA : DataW.TrodAll enc Try.prog W 0 (fun _ => true) true Try.f12.params.toList args.toList ds before := hA0
  have hsz : (DataW.weightsEach Try.prog Try.f12.params.toList ds).all (· ≤ reachBytes) = true := hsz0
  clear hval0 hA0 hsz0
  rw [Try.params12] at hA hval hsz
  obtain ⟨v0, vs0, d0, ds0, p0, q0, hargs, rfl, rfl, h0, r0⟩ := trodAll_cons hA
  obtain ⟨v1, vs1, d1, ds1, p1, q1, rfl, rfl, rfl, h1, r1⟩ := trodAll_cons r0
  obtain ⟨v2, vs2, d2, ds2, p2, q2, rfl, rfl, rfl, h2, r2⟩ := trodAll_cons r1
  obtain ⟨rfl, rfl, rfl⟩ := trodAll_nil r2
  obtain rfl : args = #[v0, v1, v2] := by cases args; simp_all
  obtain ⟨a0, la0, rfl⟩ := open_arr_u8 Try.underlying36 (by kernel_rfl) (hval 0 36 v0 rfl rfl) h0
  obtain ⟨a1, la1, rfl⟩ := open_arr_u8 Try.underlying55 (by kernel_rfl) (hval 1 55 v1 rfl rfl) h1
  obtain ⟨a2, rfl, rfl, rfl, sz2⟩ := open_string Try.underlying9 (hval 2 9 v2 rfl rfl) h2
  have ws2 := str_size hsz (j := 2) (t := 9) (s := a2) rfl rfl
  exact PolyAdds_walk a0 la0 a1 la1 a2 ws2 W 

theorem PolyAdds_holds : Rows.PolyAddsSaid :=
  OpenClaim.holds_of_wide 12 Try.f12 rfl rfl rfl rfl rfl rfl rfl ⟨rfl, rfl, rfl, rfl, rfl⟩ rfl rfl rfl rfl rfl (by kernel_rfl) Try.func12 (by kernel_rfl)
    (of_decide_eq_true (by kernel_rfl)) (by unfold Func.isWrapper; first | (rw [if_pos (by decide +kernel)]; kernel_rfl) | (rw [if_neg (by decide +kernel)]; exact ⟨rfl, rfl⟩))
    (fun os started H enc _ => PolyAdds_lifted os started H enc)
#print axioms PolyAdds_holds
end Go.Proofs.Ytjcakokhfjlihaa

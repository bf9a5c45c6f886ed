/-
  For every key, nonce, data, text and bytes: what is sealed is opened to the same; what is opened is just that text sealed. No condition.
-/
import Derived.Test.YtfglhemmccihfaaL06D
namespace Go.Proofs.Ytfglhemmccihfaa
open Go.ChangeShapes Go.WideShapes Go.ChangeAt Go.RowKit
open Go.ChangeMaps (open_string shut_string)

theorem AeadBack_walk (k : List UInt8) (lk : k.length = 32) (n : List UInt8) (ln : n.length = 12) (a : ByteArray) (_ha : a.size ≤ 140737488351232) (b : ByteArray) (_hb : b.size ≤ 140737488351232) (c : ByteArray) (_hc : c.size ≤ 140737488351232) (w : World) :
    Calls Try.prog 5 #[.agg (cells k).toArray, .agg (cells n).toArray, .string a, .string b, .string c] w fun e w' => e = .returned (.bool true) ∧ Below w.heap.size w w' := AeadBack_w k lk n ln a b c w
set_option maxRecDepth 100000 in
theorem AeadBack_lifted (os : Os) (started : os.Started) (H : Type) (enc : TypeId × Value → H) :
    ReturnsInHanded {} Try.checked os 5 .any (Rows.aeadBackSpec.pre6 enc Try.prog Try.f5 Rows.aeadBackRow.domain false) (Rows.aeadBackSpec.post enc Try.prog Try.f5 false true false false) := by
  refine law_lifted 5 Try.f5 Rows.aeadBackSpec rfl Try.func5 (by kernel_rfl) (by kernel_rfl) (by kernel_rfl) ?_ os started H enc (ChangeSpec.witness6 (enc := enc) (C := Try.checked) false ⟨#[], #[.agg #[.int .u8 0, .int .u8 0, .int .u8 0, .int .u8 0, .int .u8 0, .int .u8 0, .int .u8 0, .int .u8 0, .int .u8 0, .int .u8 0, .int .u8 0, .int .u8 0, .int .u8 0, .int .u8 0, .int .u8 0, .int .u8 0, .int .u8 0, .int .u8 0, .int .u8 0, .int .u8 0, .int .u8 0, .int .u8 0, .int .u8 0, .int .u8 0, .int .u8 0, .int .u8 0, .int .u8 0, .int .u8 0, .int .u8 0, .int .u8 0, .int .u8 0, .int .u8 0], .agg #[.int .u8 0, .int .u8 0, .int .u8 0, .int .u8 0, .int .u8 0, .int .u8 0, .int .u8 0, .int .u8 0, .int .u8 0, .int .u8 0, .int .u8 0, .int .u8 0], .string ByteArray.empty, .string ByteArray.empty, .string ByteArray.empty], []⟩ 8 (by kernel_rfl) (by kernel_rfl) (by kernel_rfl) (by kernel_rfl)) ?_
  · intro H ds h
    match ds, h with
    | [d0, d1, d2, d3, d4], _ => rfl
  intro W base args ds before hval0 hA0 hlt hsz0
  have hval : ∀ (j : Nat) t v, Try.f5.params[j]? = some t → args[j]? = some v → Value.okWide Try.prog W .any base t v := hval0
  have hA : DataW.TrodAll enc Try.prog W 0 (fun _ => true) true Try.f5.params.toList args.toList ds before := hA0
  have hsz : (DataW.weightsEach Try.prog Try.f5.params.toList ds).all (· ≤ reachBytes) = true := hsz0
  clear hval0 hA0 hsz0
  rw [Try.params5] at hA hval hsz
  obtain ⟨v0, vs0, d0, ds0, p0, q0, hargs, rfl, rfl, h0, r0⟩ := trodAll_cons hA
  obtain ⟨v1, vs1, d1, ds1, p1, q1, rfl, rfl, rfl, h1, r1⟩ := trodAll_cons r0
  obtain ⟨v2, vs2, d2, ds2, p2, q2, rfl, rfl, rfl, h2, r2⟩ := trodAll_cons r1
  obtain ⟨v3, vs3, d3, ds3, p3, q3, rfl, rfl, rfl, h3, r3⟩ := trodAll_cons r2
  obtain ⟨v4, vs4, d4, ds4, p4, q4, rfl, rfl, rfl, h4, r4⟩ := trodAll_cons r3
  obtain ⟨rfl, rfl, rfl⟩ := trodAll_nil r4
  obtain rfl : args = #[v0, v1, v2, v3, v4] := by cases args; simp_all
  obtain ⟨a0, la0, rfl⟩ := open_arr_u8 Try.underlying30 (by kernel_rfl) (hval 0 30 v0 rfl rfl) h0
  obtain ⟨a1, la1, rfl⟩ := open_arr_u8 Try.underlying31 (by kernel_rfl) (hval 1 31 v1 rfl rfl) h1
  obtain ⟨a2, rfl, rfl, rfl, sz2⟩ := open_string Try.underlying9 (hval 2 9 v2 rfl rfl) h2
  obtain ⟨a3, rfl, rfl, rfl, sz3⟩ := open_string Try.underlying9 (hval 3 9 v3 rfl rfl) h3
  obtain ⟨a4, rfl, rfl, rfl, sz4⟩ := open_string Try.underlying9 (hval 4 9 v4 rfl rfl) h4
  have ws2 := str_size hsz (j := 2) (t := 9) (s := a2) rfl rfl
  have ws3 := str_size hsz (j := 3) (t := 9) (s := a3) rfl rfl
  have ws4 := str_size hsz (j := 4) (t := 9) (s := a4) rfl rfl
  exact AeadBack_walk a0 la0 a1 la1 a2 ws2 a3 ws3 a4 ws4 W 

theorem AeadBack_holds : Rows.AeadBackSaid :=
  OpenClaim.holds_of_wide 5 Try.f5 rfl rfl rfl rfl rfl rfl rfl ⟨rfl, rfl, rfl, rfl, rfl⟩ rfl rfl rfl rfl rfl (by kernel_rfl) Try.func5 (by kernel_rfl)
    (of_decide_eq_true (by kernel_rfl)) (by unfold Func.isWrapper; first | (rw [if_pos (by decide +kernel)]; kernel_rfl) | (rw [if_neg (by decide +kernel)]; exact ⟨rfl, rfl⟩))
    (fun os started H enc _ => AeadBack_lifted os started H enc)
#print axioms AeadBack_holds
end Go.Proofs.Ytfglhemmccihfaa

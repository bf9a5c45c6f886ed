/-
  For every key, counter and nonce: a stream from a later counter on is the rest of one, also where the counter goes round; fewer bytes are the beginning of more. No condition.
-/
import Derived.Test.YtjcakokhfjlihaaL04C
namespace Go.Proofs.Ytjcakokhfjlihaa
open Go.ChangeShapes Go.WideShapes Go.ChangeAt Go.RowKit
open Go.ChangeMaps (open_string shut_string)

theorem ChachaRest_walk (key : List UInt8) (lk : key.length = 32) (counter : BitVec 32) (nonce : List UInt8) (ln : nonce.length = 12) (blocks bytes : BitVec 8) (w : World) :
    Calls Try.prog 6 #[.agg (cells key).toArray, .int .u32 (bvi counter), .agg (cells nonce).toArray, .int .u8 (bvi blocks), .int .u8 (bvi bytes)] w fun e w' => e = .returned (.bool true) ∧ Below w.heap.size w w' := ChachaRest_w key lk counter nonce ln blocks bytes w
set_option maxRecDepth 100000 in
theorem ChachaRest_lifted (os : Os) (started : os.Started) (H : Type) (enc : TypeId × Value → H) :
    ReturnsInHanded {} Try.checked os 6 .any (Rows.chachaRestSpec.pre6 enc Try.prog Try.f6 Rows.chachaRestRow.domain false) (Rows.chachaRestSpec.post enc Try.prog Try.f6 false true false false) := by
  refine law_lifted 6 Try.f6 Rows.chachaRestSpec rfl Try.func6 (by kernel_rfl) (by kernel_rfl) (by kernel_rfl) ?_ os started H enc (ChangeSpec.witness6 (enc := enc) (C := Try.checked) false ⟨#[], #[.agg #[.int .u8 0, .int .u8 0, .int .u8 0, .int .u8 0, .int .u8 0, .int .u8 0, .int .u8 0, .int .u8 0, .int .u8 0, .int .u8 0, .int .u8 0, .int .u8 0, .int .u8 0, .int .u8 0, .int .u8 0, .int .u8 0, .int .u8 0, .int .u8 0, .int .u8 0, .int .u8 0, .int .u8 0, .int .u8 0, .int .u8 0, .int .u8 0, .int .u8 0, .int .u8 0, .int .u8 0, .int .u8 0, .int .u8 0, .int .u8 0, .int .u8 0, .int .u8 0], .int .u32 0, .agg #[.int .u8 0, .int .u8 0, .int .u8 0, .int .u8 0, .int .u8 0, .int .u8 0, .int .u8 0, .int .u8 0, .int .u8 0, .int .u8 0, .int .u8 0, .int .u8 0], .int .u8 0, .int .u8 0], []⟩ 8 (by kernel_rfl) (by kernel_rfl) (by kernel_rfl) (by kernel_rfl)) ?_
  · intro H ds h
    match ds, h with
    | [d0, d1, d2, d3, d4], _ => rfl
  intro W base args ds before hval0 hA0 hlt hsz0
  have hval : ∀ (j : Nat) t v, Try.f6.params[j]? = some t → args[j]? = some v → Value.okWide Try.prog W .any base t v := hval0
  have hA : DataW.TrodAll enc Try.prog W 0 (fun _ => true) true Try.f6.params.toList args.toList ds before := hA0
  have hsz : (DataW.weightsEach Try.prog Try.f6.params.toList ds).all (· ≤ reachBytes) = true := hsz0
  clear hval0 hA0 hsz0
  rw [Try.params6] at hA hval hsz
  obtain ⟨v0, vs0, d0, ds0, p0, q0, hargs, rfl, rfl, h0, r0⟩ := trodAll_cons hA
  obtain ⟨v1, vs1, d1, ds1, p1, q1, rfl, rfl, rfl, h1, r1⟩ := trodAll_cons r0
  obtain ⟨v2, vs2, d2, ds2, p2, q2, rfl, rfl, rfl, h2, r2⟩ := trodAll_cons r1
  obtain ⟨v3, vs3, d3, ds3, p3, q3, rfl, rfl, rfl, h3, r3⟩ := trodAll_cons r2
  obtain ⟨v4, vs4, d4, ds4, p4, q4, rfl, rfl, rfl, h4, r4⟩ := trodAll_cons r3
  obtain ⟨rfl, rfl, rfl⟩ := trodAll_nil r4
  obtain rfl : args = #[v0, v1, v2, v3, v4] := by cases args; simp_all
  obtain ⟨a0, la0, rfl⟩ := open_arr_u8 Try.underlying36 (by kernel_rfl) (hval 0 36 v0 rfl rfl) h0
  obtain ⟨b1, rfl, rfl, rfl, wf1⟩ := open_int Try.underlying22 (hval 1 22 v1 rfl rfl) h1
  obtain ⟨a1, rfl⟩ := wf_u32 wf1
  obtain ⟨a2, la2, rfl⟩ := open_arr_u8 Try.underlying37 (by kernel_rfl) (hval 2 37 v2 rfl rfl) h2
  obtain ⟨b3, rfl, rfl, rfl, wf3⟩ := open_int Try.underlying5 (hval 3 5 v3 rfl rfl) h3
  obtain ⟨a3, rfl⟩ := wf_u8 wf3
  obtain ⟨b4, rfl, rfl, rfl, wf4⟩ := open_int Try.underlying5 (hval 4 5 v4 rfl rfl) h4
  obtain ⟨a4, rfl⟩ := wf_u8 wf4
  exact ChachaRest_walk a0 la0 a1 a2 la2 a3 a4 W 

theorem ChachaRest_holds : Rows.ChachaRestSaid :=
  OpenClaim.holds_of_wide 6 Try.f6 rfl rfl rfl rfl rfl rfl rfl ⟨rfl, rfl, rfl, rfl, rfl⟩ rfl rfl rfl rfl rfl (by kernel_rfl) Try.func6 (by kernel_rfl)
    (of_decide_eq_true (by kernel_rfl)) (by unfold Func.isWrapper; first | (rw [if_pos (by decide +kernel)]; kernel_rfl) | (rw [if_neg (by decide +kernel)]; exact ⟨rfl, rfl⟩))
    (fun os started H enc _ => ChachaRest_lifted os started H enc)
#print axioms ChachaRest_holds
end Go.Proofs.Ytjcakokhfjlihaa

/-
  For every key, counter, nonce, text and number: a stream, and a text turned by it, or that a size is wrong, are as the reference says. No condition.
-/
import Derived.Test.YtjcakokhfjlihaaL04D
namespace Go.Proofs.Ytjcakokhfjlihaa
open Go.ChangeShapes Go.WideShapes Go.ChangeAt Go.RowKit
open Go.ChangeMaps (open_string shut_string)

theorem ChachaStreams_walk (key : ByteArray) (_hk : key.size ≤ 140737488351232) (counter : BitVec 32) (nonce : ByteArray) (_hn : nonce.size ≤ 140737488351232) (text : ByteArray) (_ht : text.size ≤ 140737488351232) (n : Int) (_l : -9223372036854775808 ≤ n) (_h : n ≤ 9223372036854775807) (w : World) :
    Calls Try.prog 4 #[.string key, .int .u32 (bvi counter), .string nonce, .string text, .int .i64 n] w fun e w' => e = .returned (.bool true) ∧ Below w.heap.size w w' := ChachaStreams_w key counter nonce text n w
set_option maxRecDepth 100000 in
theorem ChachaStreams_lifted (os : Os) (started : os.Started) (H : Type) (enc : TypeId × Value → H) :
    ReturnsInHanded {} Try.checked os 4 .any (Rows.chachaStreamsSpec.pre6 enc Try.prog Try.f4 Rows.chachaStreamsRow.domain false) (Rows.chachaStreamsSpec.post enc Try.prog Try.f4 false true false false) := by
  refine law_lifted 4 Try.f4 Rows.chachaStreamsSpec rfl Try.func4 (by kernel_rfl) (by kernel_rfl) (by kernel_rfl) ?_ os started H enc (ChangeSpec.witness6 (enc := enc) (C := Try.checked) false ⟨#[], #[.string ByteArray.empty, .int .u32 0, .string ByteArray.empty, .string ByteArray.empty, .int .i64 0], []⟩ 8 (by kernel_rfl) (by kernel_rfl) (by kernel_rfl) (by kernel_rfl)) ?_
  · intro H ds h
    match ds, h with
    | [d0, d1, d2, d3, d4], _ => rfl
  intro W base args ds before hval0 hA0 hlt hsz0
  have hval : ∀ (j : Nat) t v, Try.f4.params[j]? = some t → args[j]? = some v → Value.okWide Try.prog W .any base t v := hval0
  have hA : DataW.TrodAll enc Try.prog W 0 (fun _ => true) true Try.f4.params.toList args.toList ds before := hA0
  have hsz : (DataW.weightsEach Try.prog Try.f4.params.toList ds).all (· ≤ reachBytes) = true := hsz0
  clear hval0 hA0 hsz0
  rw [Try.params4] at hA hval hsz
  obtain ⟨v0, vs0, d0, ds0, p0, q0, hargs, rfl, rfl, h0, r0⟩ := trodAll_cons hA
  obtain ⟨v1, vs1, d1, ds1, p1, q1, rfl, rfl, rfl, h1, r1⟩ := trodAll_cons r0
  obtain ⟨v2, vs2, d2, ds2, p2, q2, rfl, rfl, rfl, h2, r2⟩ := trodAll_cons r1
  obtain ⟨v3, vs3, d3, ds3, p3, q3, rfl, rfl, rfl, h3, r3⟩ := trodAll_cons r2
  obtain ⟨v4, vs4, d4, ds4, p4, q4, rfl, rfl, rfl, h4, r4⟩ := trodAll_cons r3
  obtain ⟨rfl, rfl, rfl⟩ := trodAll_nil r4
  obtain rfl : args = #[v0, v1, v2, v3, v4] := by cases args; simp_all
  obtain ⟨a0, rfl, rfl, rfl, sz0⟩ := open_string Try.underlying9 (hval 0 9 v0 rfl rfl) h0
  obtain ⟨b1, rfl, rfl, rfl, wf1⟩ := open_int Try.underlying22 (hval 1 22 v1 rfl rfl) h1
  obtain ⟨a1, rfl⟩ := wf_u32 wf1
  obtain ⟨a2, rfl, rfl, rfl, sz2⟩ := open_string Try.underlying9 (hval 2 9 v2 rfl rfl) h2
  obtain ⟨a3, rfl, rfl, rfl, sz3⟩ := open_string Try.underlying9 (hval 3 9 v3 rfl rfl) h3
  obtain ⟨a4, rfl, rfl, rfl, wf4⟩ := open_int Try.underlying3 (hval 4 3 v4 rfl rfl) h4
  obtain ⟨lo4, hi4⟩ := wf_i64 wf4
  have ws0 := str_size hsz (j := 0) (t := 9) (s := a0) rfl rfl
  have ws2 := str_size hsz (j := 2) (t := 9) (s := a2) rfl rfl
  have ws3 := str_size hsz (j := 3) (t := 9) (s := a3) rfl rfl
  exact ChachaStreams_walk a0 ws0 a1 a2 ws2 a3 ws3 a4 lo4 hi4 W 

theorem ChachaStreams_holds : Rows.ChachaStreamsSaid :=
  OpenClaim.holds_of_wide 4 Try.f4 rfl rfl rfl rfl rfl rfl rfl ⟨rfl, rfl, rfl, rfl, rfl⟩ rfl rfl rfl rfl rfl (by kernel_rfl) Try.func4 (by kernel_rfl)
    (of_decide_eq_true (by kernel_rfl)) (by unfold Func.isWrapper; first | (rw [if_pos (by decide +kernel)]; kernel_rfl) | (rw [if_neg (by decide +kernel)]; exact ⟨rfl, rfl⟩))
    (fun os started H enc _ => ChachaStreams_lifted os started H enc)
#print axioms ChachaStreams_holds
end Go.Proofs.Ytjcakokhfjlihaa

/-
  For every four numbers, key, counter and nonce: what is stirred, and a block, or that a size is wrong, are as the reference says. No condition.
-/
import Derived.Test.YtjcakokhfjlihaaL04E
namespace Go.Proofs.Ytjcakokhfjlihaa
open Go.ChangeShapes Go.WideShapes Go.ChangeAt Go.RowKit
open Go.ChangeMaps (open_string shut_string)

theorem ChachaTells_walk (q : List (BitVec 32)) (lq : q.length = 4) (key : ByteArray) (_hk : key.size ≤ 140737488351232) (counter : BitVec 32) (nonce : ByteArray) (_hn : nonce.size ≤ 140737488351232) (w : World) :
    Calls Try.prog 3 #[.agg (q.map (fun x => Value.int .u32 (bvi x))).toArray, .string key, .int .u32 (bvi counter), .string nonce] w fun e w' => e = .returned (.bool true) ∧ Below w.heap.size w w' := by
  match q, lq with
  | [a, b, c, d], _ => exact ChachaTells_w a b c d key counter nonce w
set_option maxRecDepth 100000 in
theorem ChachaTells_lifted (os : Os) (started : os.Started) (H : Type) (enc : TypeId × Value → H) :
    ReturnsInHanded {} Try.checked os 3 .any (Rows.chachaTellsSpec.pre6 enc Try.prog Try.f3 Rows.chachaTellsRow.domain false) (Rows.chachaTellsSpec.post enc Try.prog Try.f3 false true false false) := by
  refine law_lifted 3 Try.f3 Rows.chachaTellsSpec rfl Try.func3 (by kernel_rfl) (by kernel_rfl) (by kernel_rfl) ?_ os started H enc (ChangeSpec.witness6 (enc := enc) (C := Try.checked) false ⟨#[], #[.agg #[.int .u32 0, .int .u32 0, .int .u32 0, .int .u32 0], .string ByteArray.empty, .int .u32 0, .string ByteArray.empty], []⟩ 8 (by kernel_rfl) (by kernel_rfl) (by kernel_rfl) (by kernel_rfl)) ?_
  · intro H ds h
    match ds, h with
    | [d0, d1, d2, d3], _ => rfl
  intro W base args ds before hval0 hA0 hlt hsz0
  have hval : ∀ (j : Nat) t v, Try.f3.params[j]? = some t → args[j]? = some v → Value.okWide Try.prog W .any base t v := hval0
  have hA : DataW.TrodAll enc Try.prog W 0 (fun _ => true) true Try.f3.params.toList args.toList ds before := hA0
  have hsz : (DataW.weightsEach Try.prog Try.f3.params.toList ds).all (· ≤ reachBytes) = true := hsz0
  clear hval0 hA0 hsz0
  rw [Try.params3] at hA hval hsz
  obtain ⟨v0, vs0, d0, ds0, p0, q0, hargs, rfl, rfl, h0, r0⟩ := trodAll_cons hA
  obtain ⟨v1, vs1, d1, ds1, p1, q1, rfl, rfl, rfl, h1, r1⟩ := trodAll_cons r0
  obtain ⟨v2, vs2, d2, ds2, p2, q2, rfl, rfl, rfl, h2, r2⟩ := trodAll_cons r1
  obtain ⟨v3, vs3, d3, ds3, p3, q3, rfl, rfl, rfl, h3, r3⟩ := trodAll_cons r2
  obtain ⟨rfl, rfl, rfl⟩ := trodAll_nil r3
  obtain rfl : args = #[v0, v1, v2, v3] := by cases args; simp_all
  obtain ⟨a0, la0, rfl⟩ := open_arr_u32 Try.underlying23 (by kernel_rfl) (hval 0 23 v0 rfl rfl) h0
  obtain ⟨a1, rfl, rfl, rfl, sz1⟩ := open_string Try.underlying9 (hval 1 9 v1 rfl rfl) h1
  obtain ⟨b2, rfl, rfl, rfl, wf2⟩ := open_int Try.underlying22 (hval 2 22 v2 rfl rfl) h2
  obtain ⟨a2, rfl⟩ := wf_u32 wf2
  obtain ⟨a3, rfl, rfl, rfl, sz3⟩ := open_string Try.underlying9 (hval 3 9 v3 rfl rfl) h3
  have ws1 := str_size hsz (j := 1) (t := 9) (s := a1) rfl rfl
  have ws3 := str_size hsz (j := 3) (t := 9) (s := a3) rfl rfl
  exact ChachaTells_walk a0 la0 a1 ws1 a2 a3 ws3 W 

theorem ChachaTells_holds : Rows.ChachaTellsSaid :=
  OpenClaim.holds_of_wide 3 Try.f3 rfl rfl rfl rfl rfl rfl rfl ⟨rfl, rfl, rfl, rfl, rfl⟩ rfl rfl rfl rfl rfl (by kernel_rfl) Try.func3 (by kernel_rfl)
    (of_decide_eq_true (by kernel_rfl)) (by unfold Func.isWrapper; first | (rw [if_pos (by decide +kernel)]; kernel_rfl) | (rw [if_neg (by decide +kernel)]; exact ⟨rfl, rfl⟩))
    (fun os started H enc _ => ChachaTells_lifted os started H enc)
#print axioms ChachaTells_holds
end Go.Proofs.Ytjcakokhfjlihaa

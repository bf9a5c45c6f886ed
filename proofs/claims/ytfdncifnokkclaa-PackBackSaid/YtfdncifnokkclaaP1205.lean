/-
  For all numbers and texts: what is packed is taken again, in that order, and nothing is left. No condition.
-/
import Derived.Test.YtfdncifnokkclaaL12G
namespace Go.Proofs.Ytfdncifnokkclaa
open Go.ChangeShapes Go.WideShapes Go.ChangeAt Go.RowKit
open Go.ChangeMaps (open_string shut_string)

theorem PackBack_walk (no : Option Addr) (nc : Nat) (ns : List (BitVec 64)) (ao : Option Addr) (cap : Nat) (ss : List ByteArray) (w : World) (hns : NumsAt w no ns) (hnl : ns.length ≤ 9223372036854775807) (hss : StrsAt w ao ss) (hsz : ∀ t ∈ ss, t.size ≤ 140737488351232) (hln : ss.length * 16 ≤ 140737488351232) (_hn : ao = none → cap = 0) :
    Calls Try.prog 7 #[.slice no ns.length nc, .slice ao ss.length cap] w fun e w' => e = .returned (.bool true) ∧ Below w.heap.size w w' := PackBack_w no nc ns ao cap ss w hns hnl hss hsz hln
set_option maxRecDepth 100000 in
theorem PackBack_lifted (os : Os) (started : os.Started) (H : Type) (enc : TypeId × Value → H) :
    ReturnsInHanded {} Try.checked os 7 .any (Rows.packBackSpec.pre6 enc Try.prog Try.f7 Rows.packBackRow.domain false) (Rows.packBackSpec.post enc Try.prog Try.f7 false true false false) := by
  refine law_lifted 7 Try.f7 Rows.packBackSpec rfl Try.func7 (by kernel_rfl) (by kernel_rfl) (by kernel_rfl) ?_ os started H enc (ChangeSpec.witness6 (enc := enc) (C := Try.checked) false ⟨#[], #[.slice none 0 0, .slice none 0 0], []⟩ 8 (by kernel_rfl) (by kernel_rfl) (by kernel_rfl) (by kernel_rfl)) ?_
  · intro H ds h
    match ds, h with
    | [d0, d1], _ => rfl
  intro W base args ds before hval0 hA0 hlt hsz0
  have hval : ∀ (j : Nat) t v, Try.f7.params[j]? = some t → args[j]? = some v → Value.okWide Try.prog W .any base t v := hval0
  have hA : DataW.TrodAll enc Try.prog W 0 (fun _ => true) true Try.f7.params.toList args.toList ds before := hA0
  have hsz : (DataW.weightsEach Try.prog Try.f7.params.toList ds).all (· ≤ reachBytes) = true := hsz0
  clear hval0 hA0 hsz0
  rw [Try.params7] at hA hval hsz
  obtain ⟨v0, vs0, d0, ds0, p0, q0, hargs, rfl, rfl, h0, r0⟩ := trodAll_cons hA
  obtain ⟨v1, vs1, d1, ds1, p1, q1, rfl, rfl, rfl, h1, r1⟩ := trodAll_cons r0
  obtain ⟨rfl, rfl, rfl⟩ := trodAll_nil r1
  obtain rfl : args = #[v0, v1] := by cases args; simp_all
  obtain ⟨ao0, cap0, ns0, rfl, at0, ln0⟩ := open_nums (hval 0 62 v0 rfl rfl) h0
  obtain ⟨ao1, cap1, ss1, rfl, at1, sz1, ln1, nl1⟩ := open_strs (hval 1 23 v1 rfl rfl) h1 (hsz := hsz) (j := 1) rfl rfl
  exact PackBack_walk ao0 cap0 ns0 ao1 cap1 ss1 W at0 ln0 at1 sz1 ln1 nl1

theorem PackBack_holds : Rows.PackBackSaid :=
  OpenClaim.holds_of_wide 7 Try.f7 rfl rfl rfl rfl rfl rfl rfl ⟨rfl, rfl, rfl, rfl, rfl⟩ rfl rfl rfl rfl rfl (by kernel_rfl) Try.func7 (by kernel_rfl)
    (of_decide_eq_true (by kernel_rfl)) (by unfold Func.isWrapper; first | (rw [if_pos (by decide +kernel)]; kernel_rfl) | (rw [if_neg (by decide +kernel)]; exact ⟨rfl, rfl⟩))
    (fun os started H enc _ => PackBack_lifted os started H enc)
#print axioms PackBack_holds
end Go.Proofs.Ytfdncifnokkclaa

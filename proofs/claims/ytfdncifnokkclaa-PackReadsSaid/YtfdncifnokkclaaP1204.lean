/-
  For all bytes and asks: whatever is asked for, one after the other, is told by the program as by the reference. No condition.
-/
import Derived.Test.YtfdncifnokkclaaOpenA
import Derived.Test.YtfdncifnokkclaaL12H
namespace Go.Proofs.Ytfdncifnokkclaa
open Go.ChangeShapes Go.WideShapes Go.ChangeAt Go.RowKit
open Go.ChangeMaps (open_string shut_string)

theorem PackReads_walk (s : ByteArray) (_hs : s.size ≤ 140737488351232) (ao : Option Addr) (cap : Nat) (aks : List AskV) (W : World) (hat : AsksAt W ao aks) (hok : ∀ a ∈ aks, a.ok) :
    Calls Try.prog 6 #[.string s, .slice ao aks.length cap] W fun e w' => e = .returned (.bool true) ∧ Below W.heap.size W w' := PackReads_w s ao cap aks W hat hok
set_option maxRecDepth 100000 in
theorem PackReads_lifted (os : Os) (started : os.Started) (H : Type) (enc : TypeId × Value → H) :
    ReturnsInHanded {} Try.checked os 6 .any (Rows.packReadsSpec.pre6 enc Try.prog Try.f6 Rows.packReadsRow.domain false) (Rows.packReadsSpec.post enc Try.prog Try.f6 false true false false) := by
  refine law_lifted 6 Try.f6 Rows.packReadsSpec rfl Try.func6 (by kernel_rfl) (by kernel_rfl) (by kernel_rfl) ?_ os started H enc (ChangeSpec.witness6 (enc := enc) (C := Try.checked) false ⟨#[], #[.string ByteArray.empty, .slice none 0 0], []⟩ 8 (by kernel_rfl) (by kernel_rfl) (by kernel_rfl) (by kernel_rfl)) ?_
  · intro H ds h
    match ds, h with
    | [d0, d1], _ => rfl
  intro W base args ds before hval0 hA0 hlt hsz0
  have hval : ∀ (j : Nat) t v, Try.f6.params[j]? = some t → args[j]? = some v → Value.okWide Try.prog W .any base t v := hval0
  have hA : DataW.TrodAll enc Try.prog W 0 (fun _ => true) true Try.f6.params.toList args.toList ds before := hA0
  have hsz : (DataW.weightsEach Try.prog Try.f6.params.toList ds).all (· ≤ reachBytes) = true := hsz0
  clear hval0 hA0 hsz0
  rw [Try.params6] at hA hval hsz
  obtain ⟨v0, vs0, d0, ds0, p0, q0, hargs, rfl, rfl, h0, r0⟩ := trodAll_cons hA
  obtain ⟨v1, vs1, d1, ds1, p1, q1, rfl, rfl, rfl, h1, r1⟩ := trodAll_cons r0
  obtain ⟨rfl, rfl, rfl⟩ := trodAll_nil r1
  obtain rfl : args = #[v0, v1] := by cases args; simp_all
  obtain ⟨a0, rfl, rfl, rfl, sz0⟩ := open_string Try.underlying9 (hval 0 9 v0 rfl rfl) h0
  obtain ⟨ao1, cap1, aks1, rfl, at1, ok1⟩ := open_asks (hval 1 51 v1 rfl rfl) h1
  have ws0 := str_size hsz (j := 0) (t := 9) (s := a0) rfl rfl
  exact PackReads_walk a0 ws0 ao1 cap1 aks1 W at1 ok1

theorem PackReads_holds : Rows.PackReadsSaid :=
  OpenClaim.holds_of_wide 6 Try.f6 rfl rfl rfl rfl rfl rfl rfl ⟨rfl, rfl, rfl, rfl, rfl⟩ rfl rfl rfl rfl rfl (by kernel_rfl) Try.func6 (by kernel_rfl)
    (of_decide_eq_true (by kernel_rfl)) (by unfold Func.isWrapper; first | (rw [if_pos (by decide +kernel)]; kernel_rfl) | (rw [if_neg (by decide +kernel)]; exact ⟨rfl, rfl⟩))
    (fun os started H enc _ => PackReads_lifted os started H enc)
#print axioms PackReads_holds
end Go.Proofs.Ytfdncifnokkclaa

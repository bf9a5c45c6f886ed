/-
  For all draws, every list of acts and all other bytes: what an ideal box seals hangs on nothing of the text but its size. No condition.
-/
import Derived.Test.YtfglhemmccihfaaML07G
namespace Go.Proofs.Ytfglhemmccihfaa
open Go.ChangeShapes Go.WideShapes Go.ChangeAt Go.RowKit
open Go.ChangeMaps (open_string shut_string)

theorem BoxBlind_walk (b : ByteArray) (_hb : b.size ≤ 140737488351232) (ao : Option Addr) (cap : Nat) (l : List ActB) (c : ByteArray) (_hc : c.size ≤ 140737488351232) (w : World) (hat : ActsAt w ao l) (hok : ∀ a ∈ l, a.ok) :
    Calls Try.prog 11 #[.string b, .slice ao l.length cap, .string c] w fun e w' => e = .returned (.bool true) ∧ Below w.heap.size w w' := BoxBlind_w b ao cap l c _hc w hat hok
set_option maxRecDepth 100000 in
theorem BoxBlind_lifted (os : Os) (started : os.Started) (H : Type) (enc : TypeId × Value → H) :
    ReturnsInHanded {} Try.checked os 11 .any (Rows.boxBlindSpec.pre6 enc Try.prog Try.f11 Rows.boxBlindRow.domain false) (Rows.boxBlindSpec.post enc Try.prog Try.f11 false true false false) := by
  refine law_lifted 11 Try.f11 Rows.boxBlindSpec rfl Try.func11 (by kernel_rfl) (by kernel_rfl) (by kernel_rfl) ?_ os started H enc (ChangeSpec.witness6 (enc := enc) (C := Try.checked) false ⟨#[], #[.string ByteArray.empty, .slice none 0 0, .string ByteArray.empty], []⟩ 8 (by kernel_rfl) (by kernel_rfl) (by kernel_rfl) (by kernel_rfl)) ?_
  · intro H ds h
    match ds, h with
    | [d0, d1, d2], _ => rfl
  intro W base args ds before hval0 hA0 hlt hsz0
  have hval : ∀ (j : Nat) t v, Try.f11.params[j]? = some t → args[j]? = some v → Value.okWide Try.prog W .any base t v := hval0
  have hA : DataW.TrodAll enc Try.prog W 0 (fun _ => true) true Try.f11.params.toList args.toList ds before := hA0
  have hsz : (DataW.weightsEach Try.prog Try.f11.params.toList ds).all (· ≤ reachBytes) = true := hsz0
  clear hval0 hA0 hsz0
  rw [Try.params11] at hA hval hsz
  obtain ⟨v0, vs0, d0, ds0, p0, q0, hargs, rfl, rfl, h0, r0⟩ := trodAll_cons hA
  obtain ⟨v1, vs1, d1, ds1, p1, q1, rfl, rfl, rfl, h1, r1⟩ := trodAll_cons r0
  obtain ⟨v2, vs2, d2, ds2, p2, q2, rfl, rfl, rfl, h2, r2⟩ := trodAll_cons r1
  obtain ⟨rfl, rfl, rfl⟩ := trodAll_nil r2
  obtain rfl : args = #[v0, v1, v2] := by cases args; simp_all
  obtain ⟨a0, rfl, rfl, rfl, sz0⟩ := open_string Try.underlying9 (hval 0 9 v0 rfl rfl) h0
  obtain ⟨ao1, cap1, l1, rfl, at1, ok1⟩ := open_acts (hval 1 38 v1 rfl rfl) h1
  obtain ⟨a2, rfl, rfl, rfl, sz2⟩ := open_string Try.underlying9 (hval 2 9 v2 rfl rfl) h2
  have ws0 := str_size hsz (j := 0) (t := 9) (s := a0) rfl rfl
  have ws2 := str_size hsz (j := 2) (t := 9) (s := a2) rfl rfl
  exact BoxBlind_walk a0 ws0 ao1 cap1 l1 a2 ws2 W at1 ok1

theorem BoxBlind_holds : Rows.BoxBlindSaid :=
  OpenClaim.holds_of_wide 11 Try.f11 rfl rfl rfl rfl rfl rfl rfl ⟨rfl, rfl, rfl, rfl, rfl⟩ rfl rfl rfl rfl rfl (by kernel_rfl) Try.func11 (by kernel_rfl)
    (of_decide_eq_true (by kernel_rfl)) (by unfold Func.isWrapper; first | (rw [if_pos (by decide +kernel)]; kernel_rfl) | (rw [if_neg (by decide +kernel)]; exact ⟨rfl, rfl⟩))
    (fun os started H enc _ => BoxBlind_lifted os started H enc)
#print axioms BoxBlind_holds
end Go.Proofs.Ytfglhemmccihfaa

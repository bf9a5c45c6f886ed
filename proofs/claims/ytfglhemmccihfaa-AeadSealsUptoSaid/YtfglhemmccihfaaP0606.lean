/-
  For every key, nonce, data and text, of bulk at most 1048576 together: what is sealed, what a tag covers, and the key once used, or that a size is wrong, are as the reference says.
-/
import Derived.Test.YtfglhemmccihfaaL06E
import Derived.JoinedCond
namespace Go.Proofs.Ytfglhemmccihfaa
open Go.ChangeShapes Go.WideShapes Go.ChangeAt Go.RowKit
open Go.ChangeMaps (open_string shut_string)

theorem small4 {H : Type} {a b c d : ByteArray} {gs : List (DataW H)} (hk : Rows.uptoSmall H ([.lit (.string a.data.toList), .lit (.string b.data.toList), .lit (.string c.data.toList), .lit (.string d.data.toList)] ++ gs) = true) : c.size ≤ 1048576 ∧ d.size ≤ 1048576 := by
  have h : Rows.uptoBulkAll ([.lit (.string a.data.toList), .lit (.string b.data.toList), .lit (.string c.data.toList), .lit (.string d.data.toList)] ++ gs : List (DataW H)) ≤ 1048576 := of_decide_eq_true hk
  simp only [List.cons_append, List.nil_append, Rows.uptoBulkAll, Rows.uptoBulk] at h
  have e1 : c.data.toList.length = c.size := by rw [Array.length_toList]; rfl
  have e2 : d.data.toList.length = d.size := by rw [Array.length_toList]; rfl
  omega
set_option maxRecDepth 100000 in
theorem AeadSeals_lifted (os : Os) (started : os.Started) (H : Type) (enc : TypeId × Value → H) (F : Stop.Interp) :
    ReturnsInHanded {} Try.checked os 3 .any ((Rows.OpenSpec.upto Rows.aeadSealsSpec).pre6 enc Try.prog Try.f3 Rows.aeadSealsUptoRow.domain false) (((Rows.OpenSpec.upto Rows.aeadSealsSpec).at F).post enc Try.prog Try.f3 false true false false) := by
  refine returnsInHanded_of_cond (C := Try.checked) (s := Rows.OpenSpec.upto Rows.aeadSealsSpec) (k := Rows.uptoSmall) rfl Try.ownKnob started (by kernel_rfl) Try.func3
    (OpenSpec.witness (enc := enc) (C := Try.checked) (s := Rows.OpenSpec.upto Rows.aeadSealsSpec) (k := Rows.uptoSmall) rfl false ⟨#[], #[.string .empty, .string .empty, .string .empty, .string .empty], []⟩ 8 (by kernel_rfl) (by kernel_rfl) (by kernel_rfl)
      (x := ([.lit (.string []), .lit (.string []), .lit (.string []), .lit (.string [])], [], [])) (by kernel_rfl) rfl (by kernel_rfl)) ?_
  intro W base args ds gs before hval0 hW0 _ hk0 _
  have hval : ∀ (j : Nat) t v, Try.f3.params[j]? = some t → args[j]? = some v → Value.okWide Try.prog W .any base t v := hval0
  have hW : DataW.Whole enc Try.prog Try.f3.params.toList Rows.aeadSealsSpec.vars false W args.toList ds gs before := hW0
  have hk : Rows.uptoSmall H (ds ++ gs) = true := hk0
  clear hval0 hW0 hk0
  obtain ⟨p, q, hA0, _⟩ := id hW
  have hA : DataW.TrodAll enc Try.prog W 0 (fun _ => true) true Try.f3.params.toList args.toList ds p := hA0
  have hlen : ds.length = Try.f3.params.toList.length := trodAll_length _ _ _ _ hA
  have hspec : ∀ (ds : List (DataW H)), ds.length = Try.f3.params.toList.length → Rows.aeadSealsSpec.fn H ds = { results := [.lit (.bool true)], args := ds } := by
    intro ds h
    match ds, h with
    | [d0, d1, d2, d3], _ => rfl
  have hw : Calls Try.prog 3 args W fun e W' => e = .returned (.bool true) ∧ Below W.heap.size W W' := by
    clear hW hspec hlen hA0
    rw [Try.params3] at hA hval
    obtain ⟨v0, vs0, d0, ds0, p0, q0, hargs, rfl, rfl, h0, r0⟩ := trodAll_cons hA
    obtain ⟨v1, vs1, d1, ds1, p1, q1, rfl, rfl, rfl, h1, r1⟩ := trodAll_cons r0
    obtain ⟨v2, vs2, d2, ds2, p2, q2, rfl, rfl, rfl, h2, r2⟩ := trodAll_cons r1
    obtain ⟨v3, vs3, d3, ds3, p3, q3, rfl, rfl, rfl, h3, r3⟩ := trodAll_cons r2
    obtain ⟨rfl, rfl, rfl⟩ := trodAll_nil r3
    obtain rfl : args = #[v0, v1, v2, v3] := by cases args; simp_all
    obtain ⟨a0, rfl, rfl, rfl, sz0⟩ := open_string Try.underlying9 (hval 0 9 v0 rfl rfl) h0
    obtain ⟨a1, rfl, rfl, rfl, sz1⟩ := open_string Try.underlying9 (hval 1 9 v1 rfl rfl) h1
    obtain ⟨a2, rfl, rfl, rfl, sz2⟩ := open_string Try.underlying9 (hval 2 9 v2 rfl rfl) h2
    obtain ⟨a3, rfl, rfl, rfl, sz3⟩ := open_string Try.underlying9 (hval 3 9 v3 rfl rfl) h3
    obtain ⟨b2, b3⟩ := small4 hk
    exact AeadSeals_w a0 a1 a2 a3 b2 b3 W
  refine hw.mono fun e W' ⟨he, hb⟩ => ?_
  subst he
  exact ⟨_, rfl, law_post rfl (by kernel_rfl) (by kernel_rfl) (fun _ => hspec ds hlen) hW hb⟩

theorem AeadSealsUpto_holds : Rows.AeadSealsUptoSaid :=
  OpenClaim.holds_of_cond 3 Try.f3 rfl rfl rfl rfl rfl rfl rfl ⟨rfl, rfl, rfl, rfl, rfl⟩ rfl rfl rfl rfl rfl (by kernel_rfl) Try.func3 (by kernel_rfl)
    (of_decide_eq_true (by kernel_rfl)) (by unfold Func.isWrapper; first | (rw [if_pos (by decide +kernel)]; kernel_rfl) | (rw [if_neg (by decide +kernel)]; exact ⟨rfl, rfl⟩))
    (fun os started H enc _ F => AeadSeals_lifted os started H enc F)
#print axioms AeadSealsUpto_holds
end Go.Proofs.Ytfglhemmccihfaa

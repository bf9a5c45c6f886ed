/-
  Layer 12's laws, walked: PackBack.
-/
import Derived.Test.YtfdncifnokkclaaL12E
import Derived.Deep.Slices
namespace Go.Proofs.Ytfdncifnokkclaa
open Go.ChangeShapes Go.WideShapes Go.ChangeAt Go.RowKit

/-- At 'ao' lie the numbers ns. -/
def NumsAt (w : World) (ao : Option Addr) (ns : List (BitVec 64)) : Prop :=
  ∀ i (h : i < ns.length), ∃ b off, ao = some ⟨b, off, none⟩ ∧ b < w.heap.size ∧ w.cell? ⟨b, off + i, none⟩ = some (.int .u64 (bvi ns[i]))
theorem NumsAt.below {w w' : World} {ao : Option Addr} {ns : List (BitVec 64)} (h : NumsAt w ao ns) (hb : Below w.heap.size w w') : NumsAt w' ao ns := by
  intro i hi
  obtain ⟨b, off, e, hl, hc⟩ := h i hi
  exact ⟨b, off, e, Nat.lt_of_lt_of_le hl hb.size, (hb.cell (p := ⟨b, off + i, none⟩) hl).trans hc⟩

/-- A slice of numbers that came in. -/
theorem open_nums {H : Type} {enc : TypeId × Value → H} {W : World} {base : Nat} {sp : Nat → Bool} {held : Bool} {v : Value} {d : DataW H} {p : List MemPlace} {r : Reach} {b0 : Nat}
    (hv : Value.okWide Try.prog W r b0 62 v) (h : DataW.Trod enc Try.prog W base sp held 62 v d p) :
    ∃ (ao : Option Addr) (cap : Nat) (ns : List (BitVec 64)), v = .slice ao ns.length cap ∧ NumsAt W ao ns ∧ ns.length ≤ 9223372036854775807 := by
  obtain ⟨ao, n, cap, rfl⟩ := okWide_slice Try.underlying62 hv
  obtain ⟨fuel, hf⟩ := h
  rcases Go.Deep.open_slice1 Try.underlying62 (by kernel_rfl) hf with ⟨hcs, hx⟩ | ⟨a, len, cap', m, nn, V, D, Pl, hcs, hb, hl, hm, hmm, hx, hi⟩
  · simp [Value.cells] at hcs
    obtain ⟨rfl, rfl, rfl⟩ := hcs
    exact ⟨none, 0, [], rfl, fun i hi => absurd hi (by simp), by simp⟩
  · simp [Value.cells] at hcs
    obtain ⟨rfl, rfl, rfl⟩ := hcs
    have hn : n ≤ m := by rw [hmm]; split <;> omega
    have each : ∀ i, i < n → ∃ x : BitVec 64, W.cell? (a.add i) = some (.int .u64 (bvi x)) := by
      intro i hin
      obtain ⟨hc, ht⟩ := hi i (by omega)
      obtain ⟨z, e, _, wz⟩ := DataW.trod_int Try.underlying22 ht
      obtain ⟨x, rfl⟩ := wf_u64 wz
      injection e with e
      exact ⟨x, by rw [hc, e]⟩
    refine ⟨some a, cap, List.ofFn fun i : Fin n => Classical.choose (each i.1 i.2), by rw [List.length_ofFn], ?_, by rw [List.length_ofFn]; unfold maxLen at hm; omega⟩
    intro i hi
    rw [List.length_ofFn] at hi
    have hc := Classical.choose_spec (each i hi)
    obtain ⟨x0, hx0⟩ := each 0 (by omega)
    rw [show a.add 0 = a from by unfold Addr.add; simp] at hx0
    obtain ⟨b, off, hab, hbl⟩ := addr_plain hx0
    rw [List.getElem_ofFn]
    refine ⟨b, off, by rw [hab], hbl, ?_⟩
    have ha : a.add i = ⟨b, off + i, none⟩ := by rw [hab]; exact add_plain ..
    rw [← ha]; exact hc

theorem textR_back (s t : List UInt8) (most : Int) (h1 : (s.length : Int) ≤ most) (h2 : most ≤ 9223372036854775807) : textR ⟨textL s ++ t, false⟩ most = (s, ⟨t, false⟩) := by
  have hm := mostOf_toNat most h2
  have hle : ¬ mostOf most < BitVec.ofNat 64 s.length := by
    rw [BitVec.lt_def, BitVec.toNat_ofNat, Nat.mod_eq_of_lt (by omega)]
    omega
  unfold textR textL
  rw [List.append_assoc, numR_back, if_neg hle]
  simp only [BitVec.toNat_ofNat]
  rw [Nat.mod_eq_of_lt (by omega)]
  unfold takeR
  rw [if_neg (by simp)]
  simp
theorem textsR_back (most : Int) (h2 : most ≤ 9223372036854775807) (ls : List (List UInt8)) (h : ∀ l ∈ ls, (l.length : Int) ≤ most) (t : List UInt8) :
    textsR most ls.length ⟨ls.flatMap textL ++ t, false⟩ = (some ls, ⟨t, false⟩) := by
  induction ls with
  | nil => rfl
  | cons l ls ih =>
    rw [List.length_cons, textsR, List.flatMap_cons, List.append_assoc, textR_back _ _ _ (h l (by simp)) h2]
    simp only [Bool.false_eq_true, if_false]
    rw [ih fun x hx => h x (by simp [hx])]
theorem listR_back (ls : List (List UInt8)) (many most : Int) (h2 : most ≤ 9223372036854775807) (h : ∀ l ∈ ls, (l.length : Int) ≤ most) (h3 : (ls.length : Int) ≤ many) (h4 : many ≤ 9223372036854775807) (t : List UInt8) :
    listR ⟨listL ls ++ t, false⟩ many most = (some ls, ⟨t, false⟩) := by
  have hm := mostOf_toNat many h4
  have hle : ¬ mostOf many < BitVec.ofNat 64 ls.length := by
    rw [BitVec.lt_def, BitVec.toNat_ofNat, Nat.mod_eq_of_lt (by omega)]
    omega
  unfold listR listL
  rw [List.append_assoc, numR_back, if_neg hle]
  simp only [BitVec.toNat_ofNat]
  rw [Nat.mod_eq_of_lt (by omega)]
  exact textsR_back most h2 ls h t
theorem nums_len (ns : List (BitVec 64)) : (ns.flatMap numL).length ≤ 9 * ns.length := by
  induction ns with
  | nil => simp
  | cons n ns ih =>
    have := numL_short n
    rw [List.flatMap_cons, List.length_append, List.length_cons]
    omega
theorem nums_step (ns : List (BitVec 64)) (k : Nat) (h : k < ns.length) : (ns.take k).flatMap numL ++ numL ns[k] = (ns.take (k + 1)).flatMap numL := by
  rw [List.take_succ_eq_append_getElem h, List.flatMap_append]
  simp
end Go.Proofs.Ytfdncifnokkclaa

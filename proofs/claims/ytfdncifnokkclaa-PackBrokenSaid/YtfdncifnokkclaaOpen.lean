/-
  The frame's openers: slices of strings, of numbers, arrays of words.
-/
import Derived.Test.YtfdncifnokkclaaFrame
import Derived.Test.YtfdncifnokkclaaStrs
import Derived.Deep.Slices
import Derived.SliceStrings
namespace Go.Proofs.Ytfdncifnokkclaa
open Go.ChangeShapes Go.WideShapes Go.ChangeAt Go.RowKit

theorem addr_plain {w : World} {a : Addr} {v : Value} (h : w.cell? a = some v) : ∃ b off, a = ⟨b, off, none⟩ ∧ b < w.heap.size := by
  obtain ⟨b, off, spot⟩ := a
  have hspot : spot = none := World.cell?_spot h
  subst hspot
  exact ⟨b, off, rfl, cell_lt h⟩
theorem all_sizes {H : Type} {P : Program} {e : TypeId} (l : List ByteArray) (d : List (DataW H)) (hd : d = l.map fun s => .lit (.string s.data.toList)) (h : ∀ n ∈ DataW.weightsAll P e d, n ≤ reachBytes) : ∀ s ∈ l, s.size ≤ 140737488351232 := by
  subst hd
  induction l with
  | nil => intro s hs; cases hs
  | cons x l ih =>
    intro s hs
    simp only [List.map_cons, DataW.weightsAll, DataW.weights, List.mem_append, List.mem_singleton] at h
    rcases List.mem_cons.1 hs with rfl | hs
    · have := h _ (Or.inl rfl)
      rw [Array.length_toList] at this
      exact this
    · exact ih (fun n hn => h n (Or.inr hn)) s hs

/-- A slice of strings that came in. -/
theorem open_strs {H : Type} {enc : TypeId × Value → H} {W : World} {base : Nat} {sp : Nat → Bool} {held : Bool} {v : Value} {d : DataW H} {p : List MemPlace} {r : Reach} {b0 : Nat}
    (hv : Value.okWide Try.prog W r b0 23 v) (h : DataW.Trod enc Try.prog W base sp held 23 v d p)
    {ts : List TypeId} {ds : List (DataW H)} (hsz : (DataW.weightsEach Try.prog ts ds).all (· ≤ reachBytes) = true) {j : Nat} (ht : ts[j]? = some 23) (hd : ds[j]? = some d) :
    ∃ (ao : Option Addr) (cap : Nat) (ss : List ByteArray), v = .slice ao ss.length cap ∧ StrsAt W ao ss ∧ (∀ s ∈ ss, s.size ≤ 140737488351232) ∧ ss.length * 16 ≤ 140737488351232 := by
  obtain ⟨ao, n, cap, rfl⟩ := okWide_slice Try.underlying23 hv
  obtain ⟨fuel, hf⟩ := h
  rcases open_strings Try.underlying23 Try.underlying9 (by kernel_rfl) hf with ⟨hcs, hx⟩ | ⟨a, len, cap', ss, hcs, _, hl, hm, hz, hx, hcell, hws⟩
  · simp [Value.cells] at hcs
    obtain ⟨rfl, rfl, rfl⟩ := hcs
    exact ⟨none, 0, [], rfl, fun i hi => absurd hi (by simp), fun s hs => absurd hs (by simp), by simp⟩
  · simp [Value.cells] at hcs
    obtain ⟨rfl, rfl, rfl⟩ := hcs
    injection hx with hx1 hx2
    subst hx1
    have hl2 : n ≤ ss.length := by rw [hz]; split <;> omega
    have hw := DataW.weights_mem_each (P := Try.prog) ht hd
    have hall := fun m hm => of_decide_eq_true (List.all_eq_true.1 hsz m (hw m hm))
    have hwt : (DataW.slice (strs (ss.take n)) (strs (ss.drop n)) : DataW H).weights Try.prog 23 = ((strs (ss.take n) : List (DataW H)).length + (strs (ss.drop n) : List (DataW H)).length) * Try.prog.bytesOf 9 :: (DataW.weightsAll Try.prog 9 (strs (ss.take n) : List (DataW H)) ++ DataW.weightsAll Try.prog 9 (strs (ss.drop n) : List (DataW H))) := by
      simp only [DataW.weights, Try.underlying23]
    rw [hwt] at hall
    refine ⟨some a, cap, ss.take n, by rw [List.length_take, Nat.min_eq_left hl2], ?_, ?_, ?_⟩
    · intro i hi
      have hi2 : i < n := by rw [List.length_take, Nat.min_eq_left hl2] at hi; exact hi
      obtain ⟨b, off, rfl, hb⟩ := addr_plain (by have := hcell 0 (by omega); simpa [Addr.add] using this : W.cell? a = _)
      refine ⟨b, off, rfl, hb, ?_⟩
      have := hcell i (by omega)
      rw [add_plain] at this
      rw [this, List.getElem_take, List.getD_eq_getElem?_getD, List.getElem?_eq_getElem (by omega)]
      rfl
    · exact all_sizes (ss.take n) (strs (ss.take n)) rfl (fun m hm => hall m (List.mem_cons_of_mem _ (List.mem_append_left _ hm)))
    · have := hall _ (List.mem_cons_self ..)
      rw [show Try.prog.bytesOf 9 = 16 from by kernel_rfl] at this
      have h1 : ((strs (ss.take n) : List (DataW H))).length = n := by simp [strs]; omega
      rw [h1] at this
      rw [List.length_take, Nat.min_eq_left hl2]
      have h2 : reachBytes = 140737488351232 := rfl
      omega
end Go.Proofs.Ytfdncifnokkclaa

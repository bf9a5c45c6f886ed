/-
  The frame's openers: slices of strings, of numbers, arrays of words.
-/
import Derived.Test.YtfglhemmccihfaaFrame
import Derived.Test.YtfglhemmccihfaaStrs
import Derived.Deep.Slices
import Derived.SliceStrings
namespace Go.Proofs.Ytfglhemmccihfaa
open Go.ChangeShapes Go.WideShapes Go.ChangeAt Go.RowKit

theorem addr_plain {w : World} {a : Addr} {v : Value} (h : w.cell? a = some v) : ∃ b off, a = ⟨b, off, none⟩ ∧ b < w.heap.size := by
  obtain ⟨b, off, spot⟩ := a
  have hspot : spot = none := World.cell?_spot h
  subst hspot
  exact ⟨b, off, rfl, cell_lt h⟩
theorem all_sizes {H : Type} {P : Program} {e : TypeId} (l : List ByteArray) (d : List (DataW H)) (hd : d = l.map fun s => .lit (.string s.data.toList)) (h : ∀ n ∈ DataW.weightsAll P e d, n ≤ reachBytes) : ∀ s ∈ l, s.size ≤ 140737488351232 := by
  subst hd
  induction l with
  | nil => intro s hs; cases hs
  | cons x l ih =>
    intro s hs
    simp only [List.map_cons, DataW.weightsAll, DataW.weights, List.mem_append, List.mem_singleton] at h
    rcases List.mem_cons.1 hs with rfl | hs
    · have := h _ (Or.inl rfl)
      rw [Array.length_toList] at this
      exact this
    · exact ih (fun n hn => h n (Or.inr hn)) s hs

set_option maxRecDepth 100000 in
/-- A slice of strings that came in. -/
theorem open_strs {H : Type} {enc : TypeId × Value → H} {W : World} {base : Nat} {sp : Nat → Bool} {held : Bool} {v : Value} {d : DataW H} {p : List MemPlace} {r : Reach} {b0 : Nat}
    (hv : Value.okWide Try.prog W r b0 60 v) (h : DataW.Trod enc Try.prog W base sp held 60 v d p)
    {ts : List TypeId} {ds : List (DataW H)} (hsz : (DataW.weightsEach Try.prog ts ds).all (· ≤ reachBytes) = true) {j : Nat} (ht : ts[j]? = some 60) (hd : ds[j]? = some d) :
    ∃ (ao : Option Addr) (cap : Nat) (ss : List ByteArray), v = .slice ao ss.length cap ∧ StrsAt W ao ss ∧ (∀ s ∈ ss, s.size ≤ 140737488351232) ∧ ss.length * 16 ≤ 140737488351232 ∧ (ao = none → cap = 0) := by
  obtain ⟨ao, n, cap, rfl⟩ := okWide_slice Try.underlying60 hv
  obtain ⟨fuel, hf⟩ := h
  rcases open_strings Try.underlying60 Try.underlying9 (by kernel_rfl) hf with ⟨hcs, hx⟩ | ⟨a, len, cap', ss, hcs, _, hl, hm, hz, hx, hcell, hws⟩
  · simp [Value.cells] at hcs
    obtain ⟨rfl, rfl, rfl⟩ := hcs
    exact ⟨none, 0, [], rfl, fun i hi => absurd hi (by simp), fun s hs => absurd hs (by simp), by simp, fun _ => rfl⟩
  · simp [Value.cells] at hcs
    obtain ⟨rfl, rfl, rfl⟩ := hcs
    injection hx with hx1 hx2
    subst hx1
    have hl2 : n ≤ ss.length := by rw [hz]; split <;> omega
    have hw := DataW.weights_mem_each (P := Try.prog) ht hd
    have hall := fun m hm => of_decide_eq_true (List.all_eq_true.1 hsz m (hw m hm))
    have hwt : (DataW.slice (strs (ss.take n)) (strs (ss.drop n)) : DataW H).weights Try.prog 60 = ((strs (ss.take n) : List (DataW H)).length + (strs (ss.drop n) : List (DataW H)).length) * Try.prog.bytesOf 9 :: (DataW.weightsAll Try.prog 9 (strs (ss.take n) : List (DataW H)) ++ DataW.weightsAll Try.prog 9 (strs (ss.drop n) : List (DataW H))) := by
      simp only [DataW.weights, Try.underlying60]
    rw [hwt] at hall
    refine ⟨some a, cap, ss.take n, by rw [List.length_take, Nat.min_eq_left hl2], ?_, ?_, ?_, fun h => by cases h⟩
    · intro i hi
      have hi2 : i < n := by rw [List.length_take, Nat.min_eq_left hl2] at hi; exact hi
      obtain ⟨b, off, rfl, hb⟩ := addr_plain (by have := hcell 0 (by omega); simpa [Addr.add] using this : W.cell? a = _)
      refine ⟨b, off, rfl, hb, ?_⟩
      have := hcell i (by omega)
      rw [add_plain] at this
      rw [this, List.getElem_take, List.getD_eq_getElem?_getD, List.getElem?_eq_getElem (by omega)]
      rfl
    · exact all_sizes (ss.take n) (strs (ss.take n)) rfl (fun m hm => hall m (List.mem_cons_of_mem _ (List.mem_append_left _ hm)))
    · have := hall _ (List.mem_cons_self ..)
      rw [show Try.prog.bytesOf 9 = 16 from by kernel_rfl] at this
      have h1 : ((strs (ss.take n) : List (DataW H))).length = n := by simp [strs]; omega
      rw [h1] at this
      rw [List.length_take, Nat.min_eq_left hl2]
      have h2 : reachBytes = 140737488351232 := rfl
      omega

set_option maxRecDepth 100000 in
theorem okWide_arr {W : World} {r : Reach} {b0 n : Nat} {T E : TypeId} {v : Value} (ht : Try.prog.underlying T = some (.array n E)) (h : Value.okWide Try.prog W r b0 T v) : ∃ cs, v = .agg cs ∧ cs.size = Try.prog.cellsOf T := by
  simp only [Value.okWide, ht] at h
  obtain ⟨cs, h1, h2, _⟩ := h
  exact ⟨cs, h1, h2⟩
set_option maxRecDepth 100000 in
/-- An array of integers that came in. -/
theorem open_arr {H : Type} {enc : TypeId × Value → H} {W : World} {base : Nat} {sp : Nat → Bool} {held : Bool} {v : Value} {d : DataW H} {p : List MemPlace} {r : Reach} {b0 n : Nat} {T E : TypeId} {k : IntKind}
    (ht : Try.prog.underlying T = some (.array n E)) (he : Try.prog.underlying E = some (.int k)) (hc : Try.prog.cellsOf E = 1) (hn : Try.prog.cellsOf T = n)
    (hv : Value.okWide Try.prog W r b0 T v) (h : DataW.Trod enc Try.prog W base sp held T v d p) : ∃ l : List Int, l.length = n ∧ v = .agg (l.map (Value.int k)).toArray ∧ ∀ z ∈ l, (Lit.int k z).wf = true := by
  obtain ⟨cs, rfl, hsz⟩ := okWide_arr ht hv
  rw [hn] at hsz
  obtain ⟨fuel, hf⟩ := h
  obtain ⟨xs, m, _, _, _, hxl, hx⟩ := DataW.trod_array ht hf
  have each : ∀ i, i < n → ∃ z, cs[i]? = some (.int k z) ∧ (Lit.int k z).wf = true := by
    intro i hi
    have h1 := hx i hi
    have hi2 : i < cs.size := by rw [hsz]; exact hi
    rw [hc, Nat.mul_one] at h1
    have h2 : ((Value.agg cs).cells.toList.drop i).take 1 = [cs[i]'hi2] := by
      show ((cs.toList).drop i).take 1 = _
      rw [List.drop_eq_getElem_cons (by rw [Array.length_toList]; exact hi2)]
      simp
    rw [h2, List.getElem?_eq_getElem (by rw [hxl]; exact hi)] at h1
    obtain ⟨z, e, _, wz⟩ := DataW.trod_int he h1
    injection e with e
    exact ⟨z, by rw [Array.getElem?_eq_getElem hi2, e], wz⟩
  refine ⟨List.ofFn fun i : Fin n => Classical.choose (each i.1 i.2), by rw [List.length_ofFn], ?_, ?_⟩
  · congr 1
    apply Array.ext_getElem?
    intro i
    show cs[i]? = _
    have e0 : ((List.map (Value.int k) (List.ofFn fun i : Fin n => Classical.choose (each i.1 i.2))).toArray)[i]? = ((List.ofFn fun i : Fin n => Classical.choose (each i.1 i.2))[i]?).map (Value.int k) := by rw [List.getElem?_toArray, List.getElem?_map]
    refine Eq.trans ?_ e0.symm
    rcases Nat.lt_or_ge i n with hi | hi
    · rw [List.getElem?_eq_getElem (by rw [List.length_ofFn]; exact hi), List.getElem_ofFn]
      exact (Classical.choose_spec (each i hi)).1
    · rw [List.getElem?_eq_none (by rw [List.length_ofFn]; exact hi), Array.getElem?_eq_none (by omega)]; rfl
  · intro z hz
    obtain ⟨i, rfl⟩ := List.mem_ofFn.1 hz
    exact (Classical.choose_spec (each i.1 i.2)).2
theorem ints_u32 (l : List Int) (h : ∀ z ∈ l, (Lit.int .u32 z).wf = true) : ∃ m : List (BitVec 32), l.map (Value.int .u32) = m.map (fun x => Value.int .u32 (bvi x)) := by
  induction l with
  | nil => exact ⟨[], rfl⟩
  | cons z l ih =>
    obtain ⟨m, hm⟩ := ih fun y hy => h y (by simp [hy])
    obtain ⟨x, rfl⟩ := wf_u32 (h z (by simp))
    exact ⟨x :: m, by rw [List.map_cons, List.map_cons, hm]⟩
theorem ints_u8 (l : List Int) (h : ∀ z ∈ l, (Lit.int .u8 z).wf = true) : ∃ m : List UInt8, l.map (Value.int .u8) = cells m := by
  induction l with
  | nil => exact ⟨[], rfl⟩
  | cons z l ih =>
    obtain ⟨m, hm⟩ := ih fun y hy => h y (by simp [hy])
    obtain ⟨x, rfl⟩ := wf_u8 (h z (by simp))
    exact ⟨⟨x⟩ :: m, by rw [List.map_cons, hm]; rfl⟩
set_option maxRecDepth 100000 in
theorem open_arr_u32 {H : Type} {enc : TypeId × Value → H} {W : World} {base : Nat} {sp : Nat → Bool} {held : Bool} {v : Value} {d : DataW H} {p : List MemPlace} {r : Reach} {b0 n : Nat} {T : TypeId}
    (ht : Try.prog.underlying T = some (.array n 62)) (hn : Try.prog.cellsOf T = n)
    (hv : Value.okWide Try.prog W r b0 T v) (h : DataW.Trod enc Try.prog W base sp held T v d p) : ∃ l : List (BitVec 32), l.length = n ∧ v = .agg (l.map (fun x => Value.int .u32 (bvi x))).toArray := by
  obtain ⟨l, hl, rfl, hw⟩ := open_arr ht Try.underlying62 (by kernel_rfl) hn hv h
  obtain ⟨m, hm⟩ := ints_u32 l hw
  refine ⟨m, ?_, by rw [hm]⟩
  have := congrArg List.length hm
  simp at this
  omega
set_option maxRecDepth 100000 in
theorem open_arr_u8 {H : Type} {enc : TypeId × Value → H} {W : World} {base : Nat} {sp : Nat → Bool} {held : Bool} {v : Value} {d : DataW H} {p : List MemPlace} {r : Reach} {b0 n : Nat} {T : TypeId}
    (ht : Try.prog.underlying T = some (.array n 5)) (hn : Try.prog.cellsOf T = n)
    (hv : Value.okWide Try.prog W r b0 T v) (h : DataW.Trod enc Try.prog W base sp held T v d p) : ∃ l : List UInt8, l.length = n ∧ v = .agg (cells l).toArray := by
  obtain ⟨l, hl, rfl, hw⟩ := open_arr ht Try.underlying5 (by kernel_rfl) hn hv h
  obtain ⟨m, hm⟩ := ints_u8 l hw
  refine ⟨m, ?_, by rw [hm]⟩
  have := congrArg List.length hm
  rw [cells_length] at this
  simp at this
  omega
end Go.Proofs.Ytfglhemmccihfaa

/-
  strings.Builder in a block of a type that begins with one: what is kept by calls that make memory; a new one.
-/
import Derived.Test.YtfglhemmccihfaaBuildS
import Derived.Test.YtfglhemmccihfaaStrs
namespace Go.Proofs.Ytfglhemmccihfaa
open Go.RowKit

theorem builder_below {T e : TypeId} {B b : Nat} {p : Value} {bs : List Value} {w w' : World} (h : Lib.BuilderAtF T e B b p bs w) (hb : Below w.heap.size w w') : Lib.BuilderAtF T e B b p bs w' := by
  obtain ⟨hB, v, hbk, hown, hne⟩ := h
  have hlt : b < w.heap.size := (Array.getElem?_eq_some_iff.1 hbk).1
  refine ⟨hB, v, (hb.block b hlt).trans hbk, ?_, hne⟩
  refine ⟨hown.1, ?_⟩
  rcases hown.2 with hn | ⟨g, cap, cur, fz, hv, hBg, hg, rest⟩
  · exact .inl hn
  · exact .inr ⟨g, cap, cur, fz, hv, hBg, (hb.block g (Array.getElem?_eq_some_iff.1 hg).1).trans hg, rest⟩
theorem isBuilder_below {T e : TypeId} {B b : Nat} {bs : List Value} {w w' : World} (h : Lib.IsBuilderF T e B b bs w) (hb : Below w.heap.size w w') : Lib.IsBuilderF T e B b bs w' :=
  h.elim (fun x => .inl (builder_below x hb)) (fun x => .inr (builder_below x hb))
theorem kept_below {e : TypeId} {b : Option Nat} {w w' : World} (hb : Below w.heap.size w w') : Lib.OthersKept e b w w' := fun k _ hk _ _ => (hb.block k (Array.getElem?_eq_some_iff.1 hk).1).trans hk
theorem isBuilder_lt {T e : TypeId} {B b : Nat} {bs : List Value} {w : World} (h : Lib.IsBuilderF T e B b bs w) : b < w.heap.size := by
  rcases h with ⟨_, v, hbk, _⟩ | ⟨_, v, hbk, _⟩
  all_goals exact (Array.getElem?_eq_some_iff.1 hbk).1
/-- A new builder. -/
theorem isBuilder_new (T e : TypeId) {B : Nat} {w : World} (hB : B ≤ w.heap.size) : Lib.IsBuilderF T e B w.heap.size [] (w.alloc (.cells #[.pointer none, .slice none 0 0] T)) :=
  .inl ⟨hB, _, RowAt.new w _ _ _, World.ownsRowF_nil _ _ _ _, by simp [Value.ownBlock]⟩
theorem strCells_cells {s : ByteArray} {l : List UInt8} (h : Is s l) : Lib.strCells s = cells l := by
  rw [← h.out]; rfl

end Go.Proofs.Ytfglhemmccihfaa

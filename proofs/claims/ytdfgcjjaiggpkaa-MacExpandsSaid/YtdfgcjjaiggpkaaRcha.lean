/-
  Layer 4, the reference's package posthornref04: Stir, stirred.
-/
import Derived.Test.YtdfgcjjaiggpkaaChachaC
import Derived.Test.YtdfgcjjaiggpkaaRoctB
import Derived.Test.YtdfgcjjaiggpkaaOwn
namespace Go.Proofs.Ytdfgcjjaiggpkaa
open Go.RowKit

theorem infoU32 : (Try.prog.info? 25).map (fun i => (i.zero, i.size, i.bytes)) = some (some (.int .u32 0), 1, 4) := by kernel_rfl
/-- A slice of words, at the head of a row, from block B on. -/
def SliceAt (w : World) (B : Nat) (v : Value) (l : List (BitVec 32)) : Prop :=
  ∃ g cap cur fz, v = .slice (some ⟨g, 0, none⟩) l.length cap ∧ B ≤ g ∧ w.heap[g]? = some (.cells cur 25 fz) ∧ fz = (0, 0) ∧ l.length ≤ cap ∧ cur.toList.take l.length = words l
theorem SliceAt.lt {w : World} {B : Nat} {v : Value} {l : List (BitVec 32)} (h : SliceAt w B v l) : ∃ g cap, v = .slice (some ⟨g, 0, none⟩) l.length cap ∧ B ≤ g ∧ g < w.heap.size ∧ l.length ≤ cap ∧
    (∀ i, i < l.length → w.cell? ⟨g, i, none⟩ = some (.int .u32 (bvi (l.getD i 0)))) ∧ (∀ i, w.frozen? ⟨g, i, none⟩ = false) := by
  obtain ⟨g, cap, cur, fz, rfl, hB, hg, rfl, hc, ht⟩ := h
  refine ⟨g, cap, rfl, hB, (Array.getElem?_eq_some_iff.1 hg).1, hc, fun i hi => ?_, fun i => RowAt.free (w := w) hg (by simp)⟩
  have h1 : (cur.toList.take l.length)[i]? = (words l)[i]? := by rw [ht]
  rw [List.getElem?_take, if_pos hi] at h1
  refine RowAt.cell (w := w) hg (i := i) ?_
  rw [← Array.getElem?_toList, h1]
  simp [words, u32c, List.getD_eq_getElem?_getD, hi]
theorem SliceAt.below {w w' : World} {B : Nat} {v : Value} {l : List (BitVec 32)} (h : SliceAt w B v l) (hb : Below w.heap.size w w') : SliceAt w' B v l := by
  obtain ⟨g, cap, cur, fz, rfl, hB, hg, rest⟩ := h
  exact ⟨g, cap, cur, fz, rfl, hB, (hb.block g (Array.getElem?_eq_some_iff.1 hg).1).trans hg, rest⟩
theorem SliceAt.low {w w' : World} {B C : Nat} {v : Value} {l : List (BitVec 32)} (h : SliceAt w B v l) (hb : Below C w w') (hC : ∀ g n cap, v = .slice (some ⟨g, 0, none⟩) n cap → g < C) : SliceAt w' B v l := by
  obtain ⟨g, cap, cur, fz, rfl, hB, hg, rest⟩ := h
  exact ⟨g, cap, cur, fz, rfl, hB, (hb.block g (hC g _ cap rfl)).trans hg, rest⟩
theorem SliceAt.mono {w : World} {B C : Nat} {v : Value} {l : List (BitVec 32)} (h : SliceAt w B v l) (hC : C ≤ B) : SliceAt w C v l := by
  obtain ⟨g, cap, cur, fz, hv, hB, rest⟩ := h
  exact ⟨g, cap, cur, fz, hv, Nat.le_trans hC hB, rest⟩
theorem SliceAt.set {w : World} {B g : Nat} {n cap : Nat} {l : List (BitVec 32)} (h : SliceAt w B (.slice (some ⟨g, 0, none⟩) n cap) l) (i : Nat) (x : BitVec 32) :
    SliceAt (w.setCell ⟨g, i, none⟩ (.int .u32 (bvi x))) B (.slice (some ⟨g, 0, none⟩) n cap) (l.set i x) := by
  obtain ⟨g', cap', cur, fz, e, hB, hg, rfl, hc, ht⟩ := h
  injection e with e1 e2 e3
  injection e1 with e1
  injection e1 with e1
  subst e1 e2 e3
  refine ⟨g, cap, _, _, by rw [List.length_set], hB, (RowAt.store (w := w) hg i _).out, rfl, by rw [List.length_set]; exact hc, ?_⟩
  rw [List.length_set, Array.toList_setIfInBounds, List.take_set, ht]
  simp [words, List.map_set, u32c]

theorem SliceAt.at_ {w : World} {B g n cap : Nat} {l : List (BitVec 32)} (h : SliceAt w B (.slice (some ⟨g, 0, none⟩) n cap) l) (i : Nat) (hi : i < l.length) :
    w.cell? ⟨g, i, none⟩ = some (.int .u32 (bvi (l.getD i 0))) ∧ w.frozen? ⟨g, i, none⟩ = false := by
  obtain ⟨g', cap', e, _, _, _, h1, h2⟩ := h.lt
  injection e with e
  injection e with e
  injection e with e
  subst e
  exact ⟨h1 i hi, h2 i⟩
theorem sliceAt_own {w : World} {B : Nat} {v : Value} {n : Nat} {l : List (BitVec 32)} (h : w.ownsRow B 25 1 v n (words l)) (hl : 0 < l.length) : SliceAt w B v l := by
  have hn : l.length = n := by have := h.1; rw [words_length] at this; omega
  rcases h.2 with ⟨rfl, h0⟩ | ⟨g, cap, cur, rfl, hB, hg, hnc, _, hcs, ht⟩
  · omega
  · exact ⟨g, cap, cur, _, by rw [hn], hB, hg, rfl, by omega, by rw [hn]; simpa using ht⟩
end Go.Proofs.Ytdfgcjjaiggpkaa

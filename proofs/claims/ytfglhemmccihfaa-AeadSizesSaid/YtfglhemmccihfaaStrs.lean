/-
  A slice's strings, as the walks know them.
-/
import Derived.Test.YtfglhemmccihfaaPlain
namespace Go.Proofs.Ytfglhemmccihfaa
open Go.RowKit

/-- At 'ao' lie the strings ss. -/
def StrsAt (w : World) (ao : Option Addr) (ss : List ByteArray) : Prop :=
  ∀ i (h : i < ss.length), ∃ b off, ao = some ⟨b, off, none⟩ ∧ b < w.heap.size ∧ w.cell? ⟨b, off + i, none⟩ = some (.string ss[i])
theorem StrsAt.keep {w w' : World} {ao : Option Addr} {ss : List ByteArray} (h : StrsAt w ao ss) (hk : ∀ k off, ao = some ⟨k, off, none⟩ → k < w.heap.size → w'.heap[k]? = w.heap[k]?) (hsz : w.heap.size ≤ w'.heap.size) : StrsAt w' ao ss := by
  intro i hi
  obtain ⟨b, off, e, hb, hc⟩ := h i hi
  exact ⟨b, off, e, by omega, (World.cell?_of_block (hk b off e hb)).trans hc⟩
theorem StrsAt.below {w w' : World} {ao : Option Addr} {ss : List ByteArray} (h : StrsAt w ao ss) (hb : Below w.heap.size w w') : StrsAt w' ao ss :=
  h.keep (fun k _ _ hk => hb.block k hk) hb.size
def sumLen (ss : List ByteArray) : Nat := (ss.map (·.size)).sum
def bytesOf (ss : List ByteArray) : List (List UInt8) := ss.map (·.data.toList)
theorem sumLen_take (ss : List ByteArray) (k : Nat) : sumLen (ss.take k) ≤ sumLen ss := by
  induction ss generalizing k with
  | nil => simp [sumLen]
  | cons s ss ih =>
    cases k with
    | zero => simp [sumLen]
    | succ k =>
      have := ih k
      simp only [sumLen, List.take_succ_cons, List.map_cons, List.sum_cons] at this ⊢
      omega
theorem sumLen_step (ss : List ByteArray) (k : Nat) (h : k < ss.length) : sumLen (ss.take (k + 1)) = sumLen (ss.take k) + ss[k].size := by
  unfold sumLen
  rw [List.take_succ_eq_append_getElem h, List.map_append, List.sum_append]
  simp
theorem sumLen_get (ss : List ByteArray) (k : Nat) (h : k < ss.length) : sumLen (ss.take k) + ss[k].size ≤ sumLen ss := by
  rw [← sumLen_step ss k h]; exact sumLen_take ss (k + 1)
theorem cell_lt {w : World} {a : Addr} {v : Value} (h : w.cell? a = some v) : a.block < w.heap.size := by
  rcases Nat.lt_or_ge a.block w.heap.size with g | g
  · exact g
  · exfalso
    unfold World.cell? at h
    rw [Array.getElem?_eq_none g] at h
    cases a with
    | mk b o s => cases s <;> simp at h
end Go.Proofs.Ytfglhemmccihfaa

/-
  Layer 4, the program's package chacha: Block.
-/
import Derived.Test.YtdfgcjjaiggpkaaChachaB
import Derived.Test.YtdfgcjjaiggpkaaBuildK
import Derived.Deep.DeepCutAuto
import Derived.Deep.RegionHeld3
import Derived.StillTailTactics
namespace Go.Proofs.Ytdfgcjjaiggpkaa
open Go.RowKit
theorem words_cells (l : List (BitVec 32)) : (words l).toArray.all (·.oneCell') = true := by
  rw [Array.all_eq_true_iff_forall_mem]
  intro x hx
  simp only [List.mem_toArray, words, List.mem_map] at hx
  obtain ⟨a, _, rfl⟩ := hx
  rfl
def zero16 : Array Value := #[.int .u32 0, .int .u32 0, .int .u32 0, .int .u32 0, .int .u32 0, .int .u32 0, .int .u32 0, .int .u32 0, .int .u32 0, .int .u32 0, .int .u32 0, .int .u32 0, .int .u32 0, .int .u32 0, .int .u32 0, .int .u32 0]
def zeroP : Array Value := #[.int .i64 0, .int .i64 0, .int .i64 0, .int .i64 0, .int .i64 0, .int .i64 0, .int .i64 0, .int .i64 0, .int .i64 0, .int .i64 0, .int .i64 0, .int .i64 0, .int .i64 0, .int .i64 0, .int .i64 0, .int .i64 0, .int .i64 0, .int .i64 0, .int .i64 0, .int .i64 0, .int .i64 0, .int .i64 0, .int .i64 0, .int .i64 0, .int .i64 0, .int .i64 0, .int .i64 0, .int .i64 0, .int .i64 0, .int .i64 0, .int .i64 0, .int .i64 0]
theorem cells_keep {w w' : World} {b o : Nat} {v : Value} (h : w.cell? ⟨b, o, none⟩ = some v) (hb : Below w.heap.size w w') : w'.cell? ⟨b, o, none⟩ = some v :=
  (hb.cell (p := ⟨b, o, none⟩) (cell_lt h)).trans h
theorem RowAt.newDrew' (w : World) (cs : Array Value) (T : TypeId) (fz : Nat × Nat) : RowAt (w.alloc (.cells cs T fz)).drew w.heap.size cs T fz := RowAt.new w cs T fz
theorem row4 {w : World} {g : Nat} {z0 z1 z2 z3 : Value} {T : TypeId} (h : RowAt w g #[z0, z1, z2, z3] T (0, 0)) :
    w.cell? ⟨g, 0, none⟩ = some z0 ∧ w.cell? ⟨g, 1, none⟩ = some z1 ∧ w.cell? ⟨g, 2, none⟩ = some z2 ∧ w.cell? ⟨g, 3, none⟩ = some z3 ∧
    w.frozen? ⟨g, 0, none⟩ = false ∧ w.frozen? ⟨g, 1, none⟩ = false ∧ w.frozen? ⟨g, 2, none⟩ = false ∧ w.frozen? ⟨g, 3, none⟩ = false :=
  ⟨h.cell (i := 0) rfl, h.cell (i := 1) rfl, h.cell (i := 2) rfl, h.cell (i := 3) rfl, h.free (by simp), h.free (by simp), h.free (by simp), h.free (by simp)⟩
/-- A row of places. -/
def placeAt (j : Nat) : Nat × Nat × Nat × Nat := placesL.getD j (0, 0, 0, 0)
def placeV (j : Nat) : Array Value := #[.int .i64 ((placeAt j).1 : Nat), .int .i64 ((placeAt j).2.1 : Nat), .int .i64 ((placeAt j).2.2.1 : Nat), .int .i64 ((placeAt j).2.2.2 : Nat)]
theorem place_lt (j : Nat) : (placeAt j).1 < 16 ∧ (placeAt j).2.1 < 16 ∧ (placeAt j).2.2.1 < 16 ∧ (placeAt j).2.2.2 < 16 := by
  unfold placeAt
  rw [List.getD_eq_getElem?_getD]
  rcases Nat.lt_or_ge j placesL.length with h | h
  · rw [List.getElem?_eq_getElem h]
    exact (show ∀ p ∈ placesL, p.1 < 16 ∧ p.2.1 < 16 ∧ p.2.2.1 < 16 ∧ p.2.2.2 < 16 by decide) _ (List.getElem_mem h)
  · rw [List.getElem?_eq_none h]; decide
theorem words_at (l : List (BitVec 32)) (i : Nat) (h : i < l.length) : (words l).toArray[i]? = some (.int .u32 (bvi (l.getD i 0))) := by
  rw [List.getElem?_toArray]
  simp [words, u32c, List.getD_eq_getElem?_getD, h]
theorem words_set (l : List (BitVec 32)) (i : Nat) (x : BitVec 32) : (words l).toArray.setIfInBounds i (.int .u32 (bvi x)) = (words (l.set i x)).toArray := by
  rw [List.setIfInBounds_toArray]
  simp [words, List.map_set, u32c]
/-- So many of four numbers laid back. -/
def putL (S : List (BitVec 32)) (P : List Nat) (Q : List (BitVec 32)) : Nat → List (BitVec 32)
  | 0 => S
  | q + 1 => (putL S P Q q).set (P.getD q 0) (Q.getD q 0)
theorem putL_length (S : List (BitVec 32)) (P : List Nat) (Q : List (BitVec 32)) (q : Nat) : (putL S P Q q).length = S.length := by
  induction q with
  | zero => rfl
  | succ q ih => rw [putL, List.length_set, ih]
def places4 (j : Nat) : List Nat := [(placeAt j).1, (placeAt j).2.1, (placeAt j).2.2.1, (placeAt j).2.2.2]
def quadOf (S : List (BitVec 32)) (j : Nat) : List (BitVec 32) := stir4 (S.getD (placeAt j).1 0) (S.getD (placeAt j).2.1 0) (S.getD (placeAt j).2.2.1 0) (S.getD (placeAt j).2.2.2 0)
theorem putL_stir (S : List (BitVec 32)) (j : Nat) : putL S (places4 j) (quadOf S j) 4 = stirAt S (placeAt j) := rfl
theorem stepsL_next (S : List (BitVec 32)) (j : Nat) (h : j < 8) : stepsL S (j + 1) = stirAt (stepsL S j) (placeAt j) := by
  rw [stepsL_succ S j h]
  unfold placeAt
  rw [List.getD_eq_getElem?_getD, List.getElem?_eq_getElem h]; rfl
theorem place_cell (j q : Nat) (hq : q < 4) : (placeV j)[q]? = some (.int .i64 (((places4 j).getD q 0 : Nat) : Int)) := by
  match q, hq with
  | 0, _ => rfl
  | 1, _ => rfl
  | 2, _ => rfl
  | 3, _ => rfl
theorem places4_lt (j q : Nat) : (places4 j).getD q 0 < 16 := by
  have := place_lt j
  match q with
  | 0 => exact this.1
  | 1 => exact this.2.1
  | 2 => exact this.2.2.1
  | 3 => exact this.2.2.2
  | q + 4 => show 0 < 16; omega

end Go.Proofs.Ytdfgcjjaiggpkaa

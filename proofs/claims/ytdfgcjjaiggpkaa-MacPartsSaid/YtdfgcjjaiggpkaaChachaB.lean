/-
  Layer 4, the program's package chacha: may, begin.
-/
import Derived.Test.YtdfgcjjaiggpkaaChacha
namespace Go.Proofs.Ytdfgcjjaiggpkaa
open Go.RowKit

/-- An array whose first k words are told. -/
def begA (text : List UInt8) (k : Nat) : Array Value := (words ((List.range k).map (numAt text)) ++ List.replicate (16 - k) (Value.int .u32 0)).toArray
theorem begA_zero (text : List UInt8) : begA text 0 = #[.int .u32 0, .int .u32 0, .int .u32 0, .int .u32 0, .int .u32 0, .int .u32 0, .int .u32 0, .int .u32 0, .int .u32 0, .int .u32 0, .int .u32 0, .int .u32 0, .int .u32 0, .int .u32 0, .int .u32 0, .int .u32 0] := rfl
theorem begA_at (text : List UInt8) (k : Nat) (h : k < 16) : (begA text k)[k]? = some (.int .u32 0) := by
  unfold begA
  rw [List.getElem?_toArray, List.getElem?_append_right (by rw [words_length]; simp), words_length, List.length_map, List.length_range, Nat.sub_self]
  obtain ⟨d, hd⟩ : ∃ d, 16 - k = d + 1 := ⟨15 - k, by omega⟩
  rw [hd]; rfl
theorem begA_set (text : List UInt8) (k : Nat) (h : k < 16) : (begA text k).setIfInBounds k (.int .u32 (bvi (numAt text k))) = begA text (k + 1) := by
  unfold begA
  rw [List.setIfInBounds_toArray, List.set_append_right _ _ (by rw [words_length]; simp), words_length, List.length_map, List.length_range, Nat.sub_self, List.range_succ, List.map_append]
  obtain ⟨d, hd⟩ : ∃ d, 16 - k = d + 1 := ⟨15 - k, by omega⟩
  rw [hd, show 16 - (k + 1) = d by omega, List.replicate_succ, List.set_cons_zero]
  simp [words, u32c]
theorem begA_full (text : List UInt8) : begA text 16 = (words ((List.range 16).map (numAt text))).toArray := by simp [begA]
theorem begA_size (text : List UInt8) (k : Nat) (h : k ≤ 16) : (begA text k).size = 16 := by
  simp [begA, words_length]; omega
theorem begA_cells (text : List UInt8) (k : Nat) : (begA text k).all (·.oneCell') = true := by
  rw [Array.all_eq_true_iff_forall_mem]
  intro x hx
  simp only [begA, List.mem_toArray, List.mem_append, words, List.mem_map, List.mem_replicate] at hx
  rcases hx with ⟨a, _, rfl⟩ | ⟨_, rfl⟩ <;> rfl

end Go.Proofs.Ytdfgcjjaiggpkaa

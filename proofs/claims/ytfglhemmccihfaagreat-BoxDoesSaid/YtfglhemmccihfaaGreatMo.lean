/-
Reference 02 (sha): choice, most.
Reference 02 (sha): First, Table, Mix.
Reference 02 (sha): Pad, Sum.
Reference 03 (mac): block, Sum, Expand, Derive.
-/
import Derived.Outline
import Derived.Deep.LoopGhost
import Derived.Test.YtfglhemmccihfaaGreatMa
import Derived.Test.YtfglhemmccihfaaGreatMb
import Derived.Test.YtfglhemmccihfaaGreatMi
import Derived.Test.YtfglhemmccihfaaGreatMl
import Derived.Test.YtfglhemmccihfaaGreatMn
namespace Go.Proofs.YtfglhemmccihfaaGreat
open Go.RowKit

end Go.Proofs.YtfglhemmccihfaaGreat
namespace Go.Proofs.YtfglhemmccihfaaGreat
open Go.RowKit

/-- v is a slice of the words l, at the head of a block. -/
def WdAt (w : World) (v : Value) (l : List (BitVec 32)) : Prop := ∃ g cap, v = .slice (some ⟨g, 0, none⟩) l.length cap ∧ g < w.heap.size ∧ ∀ i, i < l.length → w.cell? ⟨g, i, none⟩ = some (.int .u32 (bvi (l.getD i 0)))
theorem WdAt.below {w w' : World} {v : Value} {l : List (BitVec 32)} (h : WdAt w v l) (hb : Below w.heap.size w w') : WdAt w' v l := by
  obtain ⟨g, cap, hv, hg, hc⟩ := h
  exact ⟨g, cap, hv, Nat.lt_of_lt_of_le hg hb.size, fun i hi => (hb.cell (p := ⟨g, i, none⟩) hg).trans (hc i hi)⟩
theorem WdAt.row {w : World} {g cap : Nat} {l : List (BitVec 32)} {T : TypeId} (h : RowAt w g (words l).toArray T (0, 0)) : WdAt w (.slice (some ⟨g, 0, none⟩) l.length cap) l :=
  ⟨g, cap, rfl, h.lt, fun i hi => h.cell (wordsS_at l i hi)⟩
theorem words_snoc (l : List (BitVec 32)) (x : BitVec 32) : words l ++ [.int .u32 (bvi x)] = words (l ++ [x]) := by simp [words, u32c]
theorem addK_eight (st V : List (BitVec 32)) (h : st.length = 8) : addK st V 8 = [st.getD 0 0 + V.getD 0 0, st.getD 1 0 + V.getD 1 0, st.getD 2 0 + V.getD 2 0, st.getD 3 0 + V.getD 3 0, st.getD 4 0 + V.getD 4 0, st.getD 5 0 + V.getD 5 0, st.getD 6 0 + V.getD 6 0, st.getD 7 0 + V.getD 7 0] := by
  match st, h with
  | [a, b, c, d, e, f, g, i], _ => rfl
/-- The words so far, and one more. -/
def Grew (w wr : World) (l : List (BitVec 32)) (v : Value) (w' : World) : Prop := w'.ownsRow w.heap.size 57 1 v l.length (words l) ∧ Below w.heap.size wr w'
end Go.Proofs.YtfglhemmccihfaaGreat
namespace Go.Proofs.YtfglhemmccihfaaGreat
open Go.RowKit

theorem pad_test (n : BitVec 64) (k : Nat) (hk : k ≤ zerosS n) : (bvi ((n % 64#64 + BitVec.ofNat 64 (k + 1)) % 64#64) != 56) = decide (k < zerosS n) := by
  have hz := zerosS_lt n
  have h0 : (n % 64#64).toNat = n.toNat % 64 := by rw [BitVec.toNat_umod]; rfl
  have h1 : ((n % 64#64 + BitVec.ofNat 64 (k + 1)) % 64#64).toNat = (n.toNat % 64 + (k + 1)) % 64 := by
    rw [BitVec.toNat_umod, BitVec.toNat_add, h0, BitVec.toNat_ofNat]
    show (n.toNat % 64 + (k + 1) % 18446744073709551616) % 18446744073709551616 % 64 = _
    omega
  unfold bvi
  rw [h1]
  unfold zerosS at hk hz ⊢
  generalize n.toNat = m at *
  by_cases h : k < (119 - m % 64) % 64
  · rw [decide_eq_true h, bne_iff_ne]; omega
  · rw [decide_eq_false h, bne_eq_false_iff_eq]; omega
theorem allS_mod (t : List UInt8) : (allS t).length % 64 = 0 := by
  unfold allS
  rw [List.length_append, padL_length]
  unfold zerosS
  rw [BitVec.toNat_ofNat]
  omega
theorem allS_length (t : List UInt8) : (allS t).length ≤ t.length + 73 := by
  have := zerosS_lt (BitVec.ofNat 64 t.length)
  unfold allS
  rw [List.length_append, padL_length]
  omega
end Go.Proofs.YtfglhemmccihfaaGreat
namespace Go.Proofs.YtfglhemmccihfaaGreat
open Go.RowKit

/-- The first k bytes turned, zeros behind. -/
def midL (P : List UInt8) (b : UInt8) (k : Nat) : List UInt8 := (P.take k).map (· ^^^ b) ++ List.replicate (64 - k) 0
theorem midL_length (P : List UInt8) (b : UInt8) (k : Nat) (hP : P.length = 64) (h : k ≤ 64) : (midL P b k).length = 64 := by
  unfold midL
  rw [List.length_append, List.length_map, List.length_take, List.length_replicate]; omega
theorem midL_get (P : List UInt8) (b : UInt8) (k : Nat) (hP : P.length = 64) (h : k < 64) : (midL P b k).getD k 0 = 0 := by
  unfold midL
  rw [List.getD_eq_getElem?_getD, List.getElem?_append_right (by rw [List.length_map, List.length_take]; omega)]
  rw [List.length_map, List.length_take, List.getElem?_replicate]
  rw [if_pos (by omega)]; rfl
theorem midL_set (P : List UInt8) (b : UInt8) (k : Nat) (hP : P.length = 64) (h : k < 64) : (midL P b k).set k (P.getD k 0 ^^^ b) = midL P b (k + 1) := by
  have hl : ((P.take k).map (· ^^^ b)).length = k := by rw [List.length_map, List.length_take]; omega
  have hg : P.getD k 0 = P[k] := by rw [List.getD_eq_getElem?_getD, List.getElem?_eq_getElem (by omega)]; rfl
  unfold midL
  rw [List.set_append_right _ _ (by rw [hl]; exact Nat.le_refl _), hl, Nat.sub_self, List.take_succ_eq_append_getElem (by omega), List.map_append, List.append_assoc]
  congr 1
  rw [show 64 - k = (64 - (k + 1)) + 1 by omega, List.replicate_succ, List.set_cons_zero, hg]
  rfl
theorem midL_full (P : List UInt8) (b : UInt8) (hP : P.length = 64) : midL P b 64 = P.map (· ^^^ b) := by
  unfold midL
  rw [List.take_of_length_le (by omega)]; simp
theorem cells_at (l : List UInt8) (i : Nat) (h : i < l.length) : (cells l).toArray[i]? = some (.int .u8 (bvi (l.getD i 0).toBitVec)) := by
  rw [List.getElem?_toArray, cells_get h, List.getD_eq_getElem?_getD, List.getElem?_eq_getElem h]; rfl
theorem cells_put (l : List UInt8) (i : Nat) (b : UInt8) : (cells l).toArray.setIfInBounds i (.int .u8 (bvi b.toBitVec)) = (cells (l.set i b)).toArray := by
  rw [List.setIfInBounds_toArray]
  show (((cells l).set i (u8c b)).toArray) = _
  rw [cells_set]
theorem make_64 (wx : World) : (Instr.makeSlice 40 (.int .i64 64) (.int .i64 64)).run Tryz.prog wx = .ok (.slice (some ⟨wx.heap.size, 0, none⟩) 64 64) (wx.alloc (.cells (cells (List.replicate 64 0)).toArray 5)) := by kernel_rfl
theorem Rbyte_of (k : Nat) : (⟨BitVec.ofInt 8 ((k : Int) + 1)⟩ : UInt8) = UInt8.ofNat (k + 1) := by
  have : (k : Int) + 1 = ((k + 1 : Nat) : Int) := by omega
  rw [this, BitVec.ofInt_natCast]
  rfl
end Go.Proofs.YtfglhemmccihfaaGreat

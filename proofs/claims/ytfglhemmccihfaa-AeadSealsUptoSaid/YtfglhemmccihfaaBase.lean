/-
  Small words for the walks: a string's bytes as a list, a row of bytes as cells, and what they give.
-/
import Derived.Test.YtfglhemmccihfaaBits
import Derived.Lib.Strings
namespace Go.Proofs.Ytfglhemmccihfaa
open Go.RowKit

/-- The string s has the bytes l. -/
def Is (s : ByteArray) (l : List UInt8) : Prop := s.data.toList = l
theorem Is.self (s : ByteArray) : Is s s.data.toList := rfl
theorem Is.of (l : List UInt8) : Is ⟨l.toArray⟩ l := rfl
theorem Is.out {s : ByteArray} {l : List UInt8} (h : Is s l) : s.data.toList = l := h
theorem Is.size {s : ByteArray} {l : List UInt8} (h : Is s l) : s.size = l.length := by
  rw [← h.out, Array.length_toList]; rfl
theorem Is.eq {s : ByteArray} {l : List UInt8} (h : Is s l) : s = ⟨l.toArray⟩ := by
  rw [← h.out]
theorem Is.inj {s t : ByteArray} {l : List UInt8} (h : Is s l) (k : Is t l) : s = t := by rw [h.eq, k.eq]
theorem Is.append {s t : ByteArray} {l m : List UInt8} (h : Is s l) (k : Is t m) : Is (s ++ t) (l ++ m) := by
  unfold Is; rw [ByteArray.data_append, Array.toList_append, h.out, k.out]
theorem Is.get {s : ByteArray} {l : List UInt8} (h : Is s l) (i : Nat) (hi : i < s.size) : s[i] = l[i]'(by rw [← h.size]; exact hi) := by
  subst h; simp; rfl
theorem Is.extract {s : ByteArray} {l : List UInt8} (h : Is s l) (a b : Nat) : Is (s.extract a b) ((l.drop a).take (b - a)) := by
  subst h
  unfold Is
  simp
/-- Go's '==' on strings. -/
def seq (a b : ByteArray) : Bool := decide (a.data.toList = b.data.toList)
theorem seq_eq {a b : ByteArray} {l m : List UInt8} (h : Is a l) (k : Is b m) : seq a b = decide (l = m) := by
  unfold seq; rw [h.out, k.out]
theorem seq_self (a : ByteArray) : seq a a = true := by simp [seq]
theorem seq_iff (a b : ByteArray) : seq a b = true ↔ a = b := by
  unfold seq
  rw [decide_eq_true_iff]
  exact ⟨fun e => (Is.self a).inj (by unfold Is; rw [e]), fun e => by rw [e]⟩
theorem seq_no {a b : ByteArray} : seq a b = false ↔ a ≠ b := by
  rw [Ne, ← seq_iff a b, Bool.not_eq_true]
theorem toList_beq (a b : ByteArray) : (a.toList == b.toList) = seq a b := by
  rw [Lib.toList_data, Lib.toList_data]
  unfold seq
  rw [Bool.eq_iff_iff, beq_iff_eq, decide_eq_true_iff]
@[go_sem high] theorem binOp_seq (t : TypeId) (a b : ByteArray) : binOp .eql t (.string a) (.string b) = pure (.bool (seq a b)) := by
  simp only [binOp, Op.stringOp, toList_beq]
@[go_sem high] theorem binOp_sne (t : TypeId) (a b : ByteArray) : binOp .neq t (.string a) (.string b) = pure (.bool (!seq a b)) := by
  simp only [binOp, Op.stringOp, toList_beq]
theorem Is.empty : Is ByteArray.empty [] := rfl

theorem below_alloc' {w w1 : World} (h : Below w.heap.size w w1) (o : Obj) : Below w.heap.size w (w1.alloc o) := h.alloc h.size o
theorem bthen {w w1 w2 : World} (h : Below w.heap.size w w1) (k : Below w1.heap.size w1 w2) : Below w.heap.size w w2 := h.trans (k.mono h.size)
theorem seq_is {a b : ByteArray} {l : List UInt8} (h : Is a l) (k : Is b l) : seq a b = true := by rw [seq_eq h k]; simp
theorem ret_bvi {k : IntKind} {n : Nat} {a b : BitVec n} (h : a = b) : Ending.returned (.int k (bvi a)) = .returned (.int k (bvi b)) := by rw [h]
theorem ret_int {k : IntKind} {a b : Int} (h : a = b) : Ending.returned (.int k a) = .returned (.int k b) := by rw [h]
theorem ret_bool {a b : Bool} (h : a = b) : Ending.returned (.bool a) = .returned (.bool b) := by rw [h]
theorem ret_val {a b : Value} (h : a = b) : Ending.returned a = .returned b := by rw [h]
/-- A byte as a cell. -/
def u8c (b : UInt8) : Value := .int .u8 (bvi b.toBitVec)
/-- Bytes as cells. -/
def cells (l : List UInt8) : List Value := l.map u8c
theorem cells_length (l : List UInt8) : (cells l).length = l.length := by simp [cells]
theorem cells_append (l r : List UInt8) : cells (l ++ r) = cells l ++ cells r := by simp [cells]
theorem cells_get {l : List UInt8} {i : Nat} (h : i < l.length) : (cells l)[i]? = some (.int .u8 (bvi l[i].toBitVec)) := by
  simp [cells, h, u8c]
theorem cells_set (l : List UInt8) (i : Nat) (b : UInt8) : (cells l).set i (u8c b) = cells (l.set i b) := by
  simp [cells, List.map_set]

theorem strOfNums_bvi (l : List UInt8) : strOfNums (l.map fun b => bvi b.toBitVec) = ⟨l.toArray⟩ := by
  unfold strOfNums
  congr 2
  rw [List.map_map]
  conv => rhs; rw [← List.map_id l]
  apply List.map_congr_left
  intro b _
  simp [bvi]

/-- 'string(b)', b a slice at the head of a row of bytes. -/
theorem run_str {P : Program} (w : World) (src e : TypeId) (hs : P.underlying src = some (.slice e)) (he : P.underlying e = some (.int .u8)) (dst : TypeId) (hd : P.underlying dst = some .string)
    (g n cap : Nat) (cs : Array Value) (T : TypeId) (fz : Nat × Nat) (l : List UInt8) (hg : w.heap[g]? = some (.cells cs T fz)) (hl : l.length = n) (hc : cs.toList.take n = cells l) :
    (convert src dst (.slice (some ⟨g, 0, none⟩) n cap)).run P w = .ok (.string ⟨l.toArray⟩) w := by
  rw [run_convert_bytes_arg w src e hs he g 0 n cap (l.map fun b => bvi b.toBitVec) (by simpa using hl) ?_ dst hd, strOfNums_bvi]
  intro i hi
  have hi' : i < l.length := by omega
  have h1 : cs[i]? = (cells l)[i]? := by
    rw [← hc, List.getElem?_take, if_pos hi]
    simp
  simp only [World.cell?, hg, Nat.zero_add]
  rw [h1, cells_get hi']
  simp [List.getD, hi']

/-! ### Rows of cells -/
/-- Block g is the row of cells cs. -/
def RowAt (w : World) (g : Nat) (cs : Array Value) (T : TypeId) (fz : Nat × Nat) : Prop := w.heap[g]? = some (.cells cs T fz)
section
variable {w w' : World} {g : Nat} {cs : Array Value} {T : TypeId} {fz : Nat × Nat}
theorem RowAt.out (h : RowAt w g cs T fz) : w.heap[g]? = some (.cells cs T fz) := h
theorem RowAt.lt (h : RowAt w g cs T fz) : g < w.heap.size := (Array.getElem?_eq_some_iff.1 h).1
theorem RowAt.cell (h : RowAt w g cs T fz) {i : Nat} {v : Value} (hi : cs[i]? = some v) : w.cell? ⟨g, i, none⟩ = some v := by
  simp only [World.cell?, h.out]; simpa using hi
theorem RowAt.free (h : RowAt w g cs T fz) {i : Nat} (hi : ¬ (fz.1 ≤ i ∧ i < fz.2)) : w.frozen? ⟨g, i, none⟩ = false := by
  obtain ⟨a, b⟩ := fz
  simp only [World.frozen?, h.out, Bool.and_eq_false_iff, decide_eq_false_iff_not]
  simp only at hi
  omega
theorem RowAt.store (h : RowAt w g cs T fz) (i : Nat) (v : Value) : RowAt (w.setCell ⟨g, i, none⟩ v) g (cs.setIfInBounds i v) T fz := by
  unfold RowAt
  simp [World.setCell, Array.getElem?_modify, h.out]
theorem RowAt.other (h : RowAt w g cs T fz) {p : Addr} (hp : p.block ≠ g) (v : Value) : RowAt (w.setCell p v) g cs T fz := by
  unfold RowAt
  rw [Below.heap_setCell _ _ _ _ (Ne.symm hp)]
  exact h
theorem RowAt.drew (h : RowAt w g cs T fz) : RowAt w.drew g cs T fz := h
theorem RowAt.alloc (h : RowAt w g cs T fz) (o : Obj) : RowAt (w.alloc o) g cs T fz := (Below.heap_alloc w o g h.lt).trans h
theorem RowAt.new (w : World) (cs : Array Value) (T : TypeId) (fz : Nat × Nat) : RowAt (w.alloc (.cells cs T fz)) w.heap.size cs T fz := by
  show (w.heap.push (.cells cs T fz))[w.heap.size]? = _
  simp
theorem RowAt.newDrew (w : World) (cs : Array Value) (T : TypeId) (fz : Nat × Nat) : RowAt (w.drew.alloc (.cells cs T fz)) w.heap.size cs T fz := RowAt.new w.drew cs T fz
theorem RowAt.below {B : Nat} (h : RowAt w g cs T fz) (hb : Below B w w') (hg : g < B) : RowAt w' g cs T fz := (hb.block g hg).trans h
end
/-- 'string([]byte{b})'. -/
theorem run_str_one {P : Program} (w : World) (src e : TypeId) (hs : P.underlying src = some (.slice e)) (he : P.underlying e = some (.int .u8)) (dst : TypeId) (hd : P.underlying dst = some .string) (x : BitVec 8) :
    (convert src dst (.slice (some ⟨w.heap.size, 0, none⟩) 1 1)).run P (w.alloc (.cells #[.int .u8 (bvi x)] e)).drew = .ok (.string ⟨#[⟨x⟩]⟩) (w.alloc (.cells #[.int .u8 (bvi x)] e)).drew :=
  run_str (w.alloc (.cells #[.int .u8 (bvi x)] e)).drew src e hs he dst hd w.heap.size 1 1 _ _ _ [⟨x⟩] (RowAt.new w _ _ _).drew rfl rfl
theorem run_str_one0 {P : Program} (w : World) (src e : TypeId) (hs : P.underlying src = some (.slice e)) (he : P.underlying e = some (.int .u8)) (dst : TypeId) (hd : P.underlying dst = some .string) (x : BitVec 8) :
    (convert src dst (.slice (some ⟨w.heap.size, 0, none⟩) 1 1)).run P (w.alloc (.cells #[.int .u8 (bvi x)] e)) = .ok (.string ⟨#[⟨x⟩]⟩) (w.alloc (.cells #[.int .u8 (bvi x)] e)) :=
  run_str (w.alloc (.cells #[.int .u8 (bvi x)] e)) src e hs he dst hd w.heap.size 1 1 _ _ _ [⟨x⟩] (RowAt.new w _ _ _) rfl rfl
theorem bytesRow_take (s : ByteArray) (cap : Nat) : (bytesRow s cap).toList.take s.size = cells s.data.toList := by
  have hl : (s.data.map (fun b => Value.int .u8 b.toNat)).toList = cells s.data.toList := by
    rw [Array.toList_map]; rfl
  unfold bytesRow
  rw [Array.toList_append, hl]
  rw [List.take_left' (by rw [cells_length, Array.length_toList]; rfl)]
theorem bytesRow_size (s : ByteArray) (cap : Nat) : s.size ≤ (bytesRow s cap).size := by
  simp [bytesRow]
/-- A row's cell, by the bytes that its head holds. -/
theorem take_cell {cs : Array Value} {n : Nat} {l : List UInt8} (h : cs.toList.take n = cells l) {i : Nat} (hi : i < l.length) (hn : i < n) : cs[i]? = some (.int .u8 (bvi l[i].toBitVec)) := by
  have h1 : (cs.toList.take n)[i]? = (cells l)[i]? := by rw [h]
  rw [List.getElem?_take, if_pos hn, cells_get hi] at h1
  simpa using h1
theorem take_set {cs : Array Value} {n : Nat} {l : List UInt8} (h : cs.toList.take n = cells l) (i : Nat) (b : UInt8) : (cs.setIfInBounds i (u8c b)).toList.take n = cells (l.set i b) := by
  rw [Array.toList_setIfInBounds, List.take_set, h, cells_set]

end Go.Proofs.Ytfglhemmccihfaa

/-
  A world that is another one but for one block and new blocks; a range in the midst of a row. Of no program.
-/
import Derived.Test.YtfglhemmccihfaaBase
import Derived.Test.YtfglhemmccihfaaOwn
import Derived.Deep.MidRow
namespace Go.Proofs.Ytfglhemmccihfaa
open Go.RowKit

/-- w' is w but for block b, and new blocks. -/
structure Only (b : Nat) (w w' : World) : Prop where
  os : w'.os = w.os
  tape : w'.tape = w.tape
  output : w'.output = w.output
  size : w.heap.size ≤ w'.heap.size
  block : ∀ k, k < w.heap.size → k ≠ b → w'.heap[k]? = w.heap[k]?
theorem Only.refl (b : Nat) (w : World) : Only b w w := ⟨rfl, rfl, rfl, Nat.le_refl _, fun _ _ _ => rfl⟩
theorem Only.trans {b : Nat} {w w1 w2 : World} (h : Only b w w1) (k : Only b w1 w2) : Only b w w2 :=
  ⟨k.os.trans h.os, k.tape.trans h.tape, k.output.trans h.output, Nat.le_trans h.size k.size, fun i hi hb => (k.block i (Nat.lt_of_lt_of_le hi h.size) hb).trans (h.block i hi hb)⟩
theorem Only.of_below {b : Nat} {w w' : World} (h : Below w.heap.size w w') : Only b w w' := ⟨h.os, h.tape, h.output, h.size, fun k hk _ => h.block k hk⟩
theorem Only.drew {b : Nat} {w w' : World} (h : Only b w w') : Only b w w'.drew := ⟨h.os, h.tape, h.output, h.size, h.block⟩
theorem Only.setCell {b : Nat} {w w' : World} (h : Only b w w') {p : Addr} (hp : p.block = b) (v : Value) : Only b w (w'.setCell p v) :=
  h.trans ⟨rfl, rfl, rfl, by simp [World.setCell], fun k _ hb => Below.heap_setCell _ _ _ _ (by rw [hp]; exact hb)⟩
theorem Only.below {b : Nat} {w w' : World} (h : Only b w w') {B : Nat} (hb : B ≤ b) (hB : B ≤ w.heap.size) : Below B w w' :=
  ⟨h.os, h.tape, h.output, h.size, fun k hk => h.block k (by omega) (by omega)⟩

theorem only_drewN {b n : Nat} {w w' : World} (h : Only b (w.drewN n) w') : Only b w w' := ⟨h.os, h.tape, h.output, h.size, h.block⟩
theorem Only.ownsRow {b B : Nat} {w w' : World} {e : TypeId} {v : Value} {n : Nat} {xs : List Value} (h : w.ownsRow B e 1 v n xs) (ho : Only b w w') (hb : b < B) : w'.ownsRow B e 1 v n xs := by
  refine ⟨h.1, ?_⟩
  rcases h.2 with hn | ⟨g, cap, cur, hv, hBg, hg, rest⟩
  · exact .inl hn
  · exact .inr ⟨g, cap, cur, hv, hBg, (ho.block g (Array.getElem?_eq_some_iff.1 hg).1 (by omega)).trans hg, rest⟩
theorem Only.of_low {b B : Nat} {w w' w2 : World} (h : Only b w w') (hb : Below B w' w2) (hB : w.heap.size ≤ B) : Only b w w2 :=
  ⟨hb.os.trans h.os, hb.tape.trans h.tape, hb.output.trans h.output, Nat.le_trans h.size hb.size, fun k hk hne => (hb.block k (by omega)).trans (h.block k hk hne)⟩

/-! ### A range in the midst of a row -/
theorem RowAt.mid {w : World} {b : Nat} {xs cs ys : List Value} {T : TypeId} {fz : Nat × Nat} (h : RowAt w b (xs ++ cs ++ ys).toArray T fz) : w.rangeAt b xs.length cs := by
  intro j v hj
  have hlt : j < cs.length := (List.getElem?_eq_some_iff.1 hj).1
  refine RowAt.cell h (i := xs.length + j) ?_
  rw [List.getElem?_toArray, List.append_assoc, List.getElem?_append_right (by omega), Nat.add_sub_cancel_left, List.getElem?_append_left hlt, hj]
theorem RowAt.there {w : World} {b : Nat} {cs : List Value} {T : TypeId} (h : RowAt w b cs.toArray T (0, 0)) (o n : Nat) (hn : o + n ≤ cs.length) : w.there b o n := by
  intro j hj
  refine ⟨?_, RowAt.free h (by simp)⟩
  have hc : cs.toArray[o + j]? = some (cs[o + j]'(by omega)) := by rw [List.getElem?_toArray]; exact List.getElem?_eq_getElem (by omega)
  rw [RowAt.cell h hc]; rfl
theorem RowAt.setMid {b : Nat} {T : TypeId} {fz : Nat × Nat} (vs : List Value) : ∀ (w : World) (xs old ys : List Value), old.length = vs.length → RowAt w b (xs ++ old ++ ys).toArray T fz →
    RowAt (w.setCells b xs.length vs) b (xs ++ vs ++ ys).toArray T fz := by
  induction vs with
  | nil =>
    intro w xs old ys hl h
    have : old = [] := List.eq_nil_of_length_eq_zero hl
    subst this
    exact h
  | cons v r ih =>
    intro w xs old ys hl h
    cases old with
    | nil => cases hl
    | cons o s =>
      have h1 := RowAt.store h xs.length v
      rw [List.setIfInBounds_toArray, List.append_assoc, List.set_append_right _ _ (Nat.le_refl _), Nat.sub_self, List.cons_append, List.set_cons_zero] at h1
      have h2 := ih (w.setCell ⟨b, xs.length, none⟩ v) (xs ++ [v]) s ys (by simpa using hl) (by simpa using h1)
      rw [List.length_append] at h2
      simpa [World.setCells] using h2
theorem Only.setCells {b : Nat} {w : World} (vs : List Value) : ∀ (w' : World) (o : Nat), Only b w w' → Only b w (w'.setCells b o vs) := by
  induction vs with
  | nil => intro w' o h; exact h
  | cons v r ih => intro w' o h; exact ih _ _ (Only.setCell (p := ⟨b, o, none⟩) h rfl v)

end Go.Proofs.Ytfglhemmccihfaa

/-
  A region that draws its order, told by a table; each step also hears that whatever has come up had its own forerunners come up before. Of no program.
-/
import Derived.Test.YtfglhemmccihfaaRegTab
namespace Go.Proofs.Ytfglhemmccihfaa
open Go.RowKit

/-- Has operation j an edge to k that binds? -/
def edgeB (ops : Array Oper) (j k : Nat) : Bool := match ops[j]? with
  | some o => o.after.toList.any fun e => e.on == k && Region.binds .any e
  | none => false
def StepOk2 (P : Program) (ops : Array Oper) (Q : Exit → Act → World → Prop) (a0 : Act) (S : List Nat) (T : Nat → Value → Prop) (R : (Nat → Bool) → (Nat → Value) → World → Prop) (i : Nat) (o : Oper) : Prop :=
  ∀ (L : Nat → Bool) (a : Act) (w : World) (K : Act → World → Prop), L i = false → a.tmps.size = a0.tmps.size → (∀ j, j ∉ S → slot a j = slot a0 j) →
    (∀ j, L j = true → ∀ dj, (ops[j]?).bind (·.dst) = some dj → T j (slot a dj)) → R L (slot a) w →
    (∀ k, (o.after.toList.any fun e => e.on == k && Region.binds .any e) = true → L k = true) →
    (∀ j k, edgeB ops j k = true → L j = true → L k = true) →
    (∀ v w', T i v → R (fun k => L k || k == i) (slot (a.put o.dst v)) w' → K (a.put o.dst v) w') →
    if Region.wanted o (yielded ops a.tmps) = true then o.wp P a w K Q else K (a.put o.dst undef) w
def StepsOk2 (P : Program) (ops : Array Oper) (Q : Exit → Act → World → Prop) (a0 : Act) (S : List Nat) (T : Nat → Value → Prop) (R : (Nat → Bool) → (Nat → Value) → World → Prop) : Nat → List Oper → Prop
  | _, [] => True
  | i, o :: rest => StepOk2 P ops Q a0 S T R i o ∧ StepsOk2 P ops Q a0 S T R (i + 1) rest
section
variable {P : Program} {ops : Array Oper} {Q : Exit → Act → World → Prop} {a0 : Act} {S : List Nat} {T : Nat → Value → Prop} {R : (Nat → Bool) → (Nat → Value) → World → Prop}
theorem StepsOk2.nil {i : Nat} : StepsOk2 P ops Q a0 S T R i [] := trivial
theorem StepsOk2.cons {i : Nat} {o : Oper} {l : List Oper} (h : StepOk2 P ops Q a0 S T R i o) (k : StepsOk2 P ops Q a0 S T R (i + 1) l) : StepsOk2 P ops Q a0 S T R i (o :: l) := ⟨h, k⟩
theorem StepsOk2.get : ∀ (l : List Oper) (k : Nat), StepsOk2 P ops Q a0 S T R k l → ∀ (i : Nat) (o : Oper), l[i]? = some o → StepOk2 P ops Q a0 S T R (k + i) o
  | [], _, _, i, o, ho => by simp at ho
  | x :: l, k, h, 0, o, ho => by
    have e : x = o := by simpa using ho
    subst e
    exact h.1
  | x :: l, k, h, i + 1, o, ho => by
    have := StepsOk2.get l (k + 1) h.2 i o (by simpa using ho)
    rwa [show k + 1 + i = k + (i + 1) by omega] at this
theorem StepsOk.of_get : ∀ (l : List Oper) (k : Nat), (∀ (i : Nat) (o : Oper), l[i]? = some o → StepOk P ops Q a0 S T R (k + i) o) → StepsOk P ops Q a0 S T R k l
  | [], _, _ => trivial
  | x :: l, k, h => ⟨h 0 x rfl, StepsOk.of_get l (k + 1) fun i o ho => by
    have := h (i + 1) o (by simpa using ho)
    rwa [show k + (i + 1) = k + 1 + i by omega] at this⟩

theorem region_anc {id : Nat} {w0 : World} (hm : P.follows .mixedOrders = true) (S : List Nat)
    (T : Nat → Value → Prop) (R : (Nat → Bool) → (Nat → Value) → World → Prop)
    (hf : (ops.toList.zipIdx.all fun x => x.1.after.toList.all fun e => !Region.binds .any e || decide (e.on < x.2)) = true)
    (hown : ownSlots ops = true) (hS : ops.toList.filterMap (·.dst) = S) (hlt : (S.all fun d => decide (d < a0.tmps.size)) = true)
    (start : R (fun _ => false) (slot a0) w0.drew)
    (steps : StepsOk2 P ops Q a0 S T R 0 ops.toList)
    (fin : ∀ (f : Nat → Value) (L : Nat → Bool) (w : World), (∀ j, j < ops.size → ∀ dj, (ops[j]?).bind (·.dst) = some dj → T j (f dj)) → (∀ i, i < ops.size → L i = true) → R L f w →
      Q .normal (S.foldl (fun b d => b.put (some d) (f d)) a0) w) :
    (Code.region id ops true).wp P Q a0 w0 := by
  refine region_table hm S T (fun L f w => (∀ j k, edgeB ops j k = true → L j = true → L k = true) ∧ R L f w) hf hown hS hlt ⟨(fun j k _ h => by cases h), start⟩ ?_ (fun f L w h1 h2 h3 => fin f L w h1 h2 h3.2)
  refine StepsOk.of_get _ 0 fun i o ho => ?_
  have hst := StepsOk2.get ops.toList 0 steps i o ho
  rw [Nat.zero_add] at hst ⊢
  intro L a w K hL hsz hs ht hr he hK
  refine hst L a w K hL hsz hs ht hr.2 he hr.1 fun v w' hv hr' => hK v w' hv ⟨?_, hr'⟩
  intro j k hjk hj
  by_cases hji : j = i
  · subst hji
    have hoj : ops[j]? = some o := by rw [← Array.getElem?_toList]; exact ho
    unfold edgeB at hjk
    rw [hoj] at hjk
    have := he k hjk
    show (L k || k == j) = true
    rw [this]; rfl
  · have h2 : L j = true := by simpa [hji] using hj
    have := hr.1 j k hjk h2
    show (L k || k == i) = true
    rw [this]; rfl
end
section
variable {P : Program} {ops : Array Oper} {Q : Exit → Act → World → Prop} {a : Act} {w : World} {rest : List Oper} {o : Oper}
/-- An operation that is wanted (its guard says so). -/
theorem wpList_wanted (hw : Region.wanted o (yielded ops a.tmps) = true) (h : ∀ K : Act → World → Prop, (∀ a w, wpList P ops Q rest a w → K a w) → o.wp P a w K Q) : wpList P ops Q (o :: rest) a w :=
  wpList_step fun K hK => by rw [if_pos hw]; exact h K hK
theorem wpList_load_rowG (hw : Region.wanted o (yielded ops a.tmps) = true) (ty : TypeId) (x : Operand) (ho : o.op = .load ty x)
    (g : Nat) (hx : a.eval x = .pointer (some ⟨g, 0, none⟩)) (t : TypeId) (cs : Array Value) (fr : Nat × Nat) (d : TypeDesc) (hg : w.heap[g]? = some (.cells cs t fr))
    (hu : P.underlying ty = some d) (hd : (match d with | .struct _ | .array _ _ => true | _ => false) = true) (hi : (P.info? ty).map (·.size) = some cs.size)
    (h : wpList P ops Q rest (a.put o.dst (.agg cs)) w) : wpList P ops Q (o :: rest) a w :=
  wpList_wanted hw fun _ hK => wp_load_row ty x ho g hx t cs fr d hg hu hd hi (hK _ _ h)
end
end Go.Proofs.Ytfglhemmccihfaa

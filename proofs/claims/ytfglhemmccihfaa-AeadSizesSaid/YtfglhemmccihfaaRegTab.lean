/-
  A region that draws its order, told by a table: what each operation's slot holds once it has come up, and what is known of the world. Of no program.
-/
import Derived.Test.YtfglhemmccihfaaReg
namespace Go.Proofs.Ytfglhemmccihfaa
open Go.RowKit

/-- One operation's step. -/
def StepOk (P : Program) (ops : Array Oper) (Q : Exit → Act → World → Prop) (a0 : Act) (S : List Nat) (T : Nat → Value → Prop) (R : (Nat → Bool) → (Nat → Value) → World → Prop) (i : Nat) (o : Oper) : Prop :=
  ∀ (L : Nat → Bool) (a : Act) (w : World) (K : Act → World → Prop), L i = false → a.tmps.size = a0.tmps.size → (∀ j, j ∉ S → slot a j = slot a0 j) →
    (∀ j, L j = true → ∀ dj, (ops[j]?).bind (·.dst) = some dj → T j (slot a dj)) → R L (slot a) w →
    (∀ k, (o.after.toList.any fun e => e.on == k && Region.binds .any e) = true → L k = true) →
    (∀ v w', T i v → R (fun k => L k || k == i) (slot (a.put o.dst v)) w' → K (a.put o.dst v) w') →
    if Region.wanted o (yielded ops a.tmps) = true then o.wp P a w K Q else K (a.put o.dst undef) w
def StepsOk (P : Program) (ops : Array Oper) (Q : Exit → Act → World → Prop) (a0 : Act) (S : List Nat) (T : Nat → Value → Prop) (R : (Nat → Bool) → (Nat → Value) → World → Prop) : Nat → List Oper → Prop
  | _, [] => True
  | i, o :: rest => StepOk P ops Q a0 S T R i o ∧ StepsOk P ops Q a0 S T R (i + 1) rest
theorem StepsOk.nil {P : Program} {ops : Array Oper} {Q : Exit → Act → World → Prop} {a0 : Act} {S : List Nat} {T : Nat → Value → Prop} {R : (Nat → Bool) → (Nat → Value) → World → Prop} {i : Nat} : StepsOk P ops Q a0 S T R i [] := trivial
theorem StepsOk.cons {P : Program} {ops : Array Oper} {Q : Exit → Act → World → Prop} {a0 : Act} {S : List Nat} {T : Nat → Value → Prop} {R : (Nat → Bool) → (Nat → Value) → World → Prop} {i : Nat} {o : Oper} {l : List Oper}
    (h : StepOk P ops Q a0 S T R i o) (k : StepsOk P ops Q a0 S T R (i + 1) l) : StepsOk P ops Q a0 S T R i (o :: l) := ⟨h, k⟩
theorem StepsOk.get {P : Program} {ops : Array Oper} {Q : Exit → Act → World → Prop} {a0 : Act} {S : List Nat} {T : Nat → Value → Prop} {R : (Nat → Bool) → (Nat → Value) → World → Prop} :
    ∀ (l : List Oper) (k : Nat), StepsOk P ops Q a0 S T R k l → ∀ (i : Nat) (o : Oper), l[i]? = some o → StepOk P ops Q a0 S T R (k + i) o
  | [], _, _, i, o, ho => by simp at ho
  | x :: l, k, h, 0, o, ho => by
    have e : x = o := by simpa using ho
    subst e
    exact h.1
  | x :: l, k, h, i + 1, o, ho => by
    have := StepsOk.get l (k + 1) h.2 i o (by simpa using ho)
    rwa [show k + 1 + i = k + (i + 1) by omega] at this
theorem slot_out {a : Act} {d : Nat} {v : Value} (h : d < a.tmps.size) : slot (a.put (some d) v) d = v := slot_put a d v h
/-- Do the operations write slots of their own? -/
def ownSlots (ops : Array Oper) : Bool := decide (ops.toList.filterMap (·.dst)).Nodup
theorem own_ne {l : List Oper} (h : (l.filterMap (·.dst)).Nodup) : ∀ (i j : Nat) (d : Nat), i ≠ j → (l[i]?).bind (·.dst) = some d → (l[j]?).bind (·.dst) = some d → False := by
  induction l with
  | nil => intro i j d _ hi _; simp at hi
  | cons x l ih =>
    have hn : (l.filterMap (·.dst)).Nodup := by
      cases hx : x.dst with
      | none => rw [List.filterMap_cons_none hx] at h; exact h
      | some y => rw [List.filterMap_cons_some hx] at h; exact (List.nodup_cons.1 h).2
    have hmem : ∀ (j d : Nat), (l[j]?).bind (·.dst) = some d → d ∈ l.filterMap (·.dst) := by
      intro j d hj
      cases hl : l[j]? with
      | none => rw [hl] at hj; cases hj
      | some o =>
        rw [hl] at hj
        exact List.mem_filterMap.2 ⟨o, List.mem_of_getElem? hl, hj⟩
    intro i j d hne hi hj
    match i, j, hne, hi, hj with
    | 0, 0, hne, _, _ => exact hne rfl
    | 0, j + 1, _, hi, hj =>
      have hx : x.dst = some d := by simpa using hi
      rw [List.filterMap_cons_some hx] at h
      exact (List.nodup_cons.1 h).1 (hmem j d (by simpa using hj))
    | i + 1, 0, _, hi, hj =>
      have hx : x.dst = some d := by simpa using hj
      rw [List.filterMap_cons_some hx] at h
      exact (List.nodup_cons.1 h).1 (hmem i d (by simpa using hi))
    | i + 1, j + 1, hne, hi, hj => exact ih hn i j d (by omega) (by simpa using hi) (by simpa using hj)

theorem region_table {P : Program} {Q : Exit → Act → World → Prop} {id : Nat} {ops : Array Oper} {a0 : Act} {w0 : World} (hm : P.follows .mixedOrders = true) (S : List Nat)
    (T : Nat → Value → Prop) (R : (Nat → Bool) → (Nat → Value) → World → Prop)
    (hf : (ops.toList.zipIdx.all fun x => x.1.after.toList.all fun e => !Region.binds .any e || decide (e.on < x.2)) = true)
    (hown : ownSlots ops = true) (hS : ops.toList.filterMap (·.dst) = S) (hlt : (S.all fun d => decide (d < a0.tmps.size)) = true)
    (start : R (fun _ => false) (slot a0) w0.drew)
    (steps : StepsOk P ops Q a0 S T R 0 ops.toList)
    (fin : ∀ (f : Nat → Value) (L : Nat → Bool) (w : World), (∀ j, j < ops.size → ∀ dj, (ops[j]?).bind (·.dst) = some dj → T j (f dj)) → (∀ i, i < ops.size → L i = true) → R L f w →
      Q .normal (S.foldl (fun b d => b.put (some d) (f d)) a0) w) :
    (Code.region id ops true).wp P Q a0 w0 := by
  have hnd : (ops.toList.filterMap (·.dst)).Nodup := of_decide_eq_true hown
  rw [List.all_eq_true] at hlt
  have hlt2 : ∀ d ∈ S, d < a0.tmps.size := fun d hd => by simpa using hlt d hd
  have hin : ∀ (j d : Nat), (ops[j]?).bind (·.dst) = some d → d ∈ S := by
    intro j d hj
    rw [← hS]
    cases hl : ops[j]? with
    | none => rw [hl] at hj; cases hj
    | some o =>
      rw [hl] at hj
      exact List.mem_filterMap.2 ⟨o, by rw [Array.mem_toList_iff]; exact Array.mem_of_getElem? hl, hj⟩
  refine wp_region_inv hm (fun L a w => Apart S a0 a ∧ (∀ j, L j = true → ∀ dj, (ops[j]?).bind (·.dst) = some dj → T j (slot a dj)) ∧ R L (slot a) w) hf ⟨Apart.refl _ _, fun j (h : false = true) => absurd h (by decide), start⟩ ?_ ?_
  · intro L i o a w K ho hL he hI hK
    obtain ⟨ha, ht, hr⟩ := hI
    have hstep := StepsOk.get ops.toList 0 steps i o (by rw [Array.getElem?_toList]; exact ho)
    rw [Nat.zero_add] at hstep
    refine hstep L a w K hL ha.size (fun j hj => ha.slot hj) ht hr ?_ ?_
    · intro k hk
      rw [List.any_eq_true] at hk
      obtain ⟨e, h1, h2⟩ := hk
      rw [Bool.and_eq_true, beq_iff_eq] at h2
      rw [← h2.1]; exact he e h1 h2.2
    · intro v w' hv hr'
      refine hK _ _ ⟨?_, ?_, hr'⟩
      · cases hd : o.dst with
        | none => exact ha
        | some d =>
          refine ha.put (hin i d ?_) v
          rw [ho]; exact hd
      · intro j hj dj hdj
        cases hd : o.dst with
        | none =>
          have hne : j ≠ i := by
            rintro rfl
            rw [ho] at hdj
            have : o.dst = some dj := hdj
            rw [hd] at this; cases this
          have hj2 : L j = true := by simpa [hne] using hj
          exact ht j hj2 dj hdj
        | some d =>
          have hid : (ops[i]?).bind (·.dst) = some d := by rw [ho]; exact hd
          by_cases hji : j = i
          · subst hji
            have : d = dj := by rw [hid] at hdj; injection hdj
            subst this
            rw [slot_put _ _ _ (by rw [ha.size]; exact hlt2 d (hin j d hid))]
            exact hv
          · have hj2 : L j = true := by simpa [hji] using hj
            have hdd : d ≠ dj := by
              rintro rfl
              exact own_ne hnd i j d (Ne.symm hji) (by rw [Array.getElem?_toList]; exact hid) (by rw [Array.getElem?_toList]; exact hdj)
            rw [slot_ne _ _ _ _ hdd]
            exact ht j hj2 dj hdj
  · intro L a w hall hI
    obtain ⟨ha, ht, hr⟩ := hI
    rw [ha.eq hlt2]
    exact fin (slot a) L w (fun j hj dj hdj => ht j (hall j hj) dj hdj) hall hr
theorem wp_buildTo {P : Program} {o : Oper} {a : Act} {w : World} {K : Act → World → Prop} {Q : Exit → Act → World → Prop} (t : TypeId) (parts : Array (Nat × Operand)) (ho : o.op = .build t parts) (cells : Array Value)
    (hf : P.built t (parts.map fun (i, x) => (i, a.eval x)).toList = some cells) (h : K (a.put o.dst (.agg cells)) w) : o.wp P a w K Q := by
  refine wp_build t parts ho (by rw [hf]; rfl) ?_
  rw [hf]
  exact h
/-- A step is wanted that has no guard. -/
theorem step_plain {P : Program} {ops : Array Oper} {o : Oper} {a : Act} {w : World} {K : Act → World → Prop} {Q : Exit → Act → World → Prop} (hg : o.guard = none) (h : o.wp P a w K Q) :
    if Region.wanted o (yielded ops a.tmps) = true then o.wp P a w K Q else K (a.put o.dst undef) w := by
  rw [if_pos (by simp [Region.wanted, hg])]; exact h
/-- A guarded step that is wanted, or not. -/
theorem step_guard {P : Program} {ops : Array Oper} {o : Oper} {a : Act} {w : World} {K : Act → World → Prop} {Q : Exit → Act → World → Prop} (j : Nat) (b c : Bool) (d : Nat) (hg : o.guard = some (j, b)) (hd : (ops[j]?).bind (·.dst) = some d)
    (hsz : d < a.tmps.size) (hv : slot a d = .bool c) (h : if c = b then o.wp P a w K Q else K (a.put o.dst undef) w) :
    if Region.wanted o (yielded ops a.tmps) = true then o.wp P a w K Q else K (a.put o.dst undef) w := by
  have hy : yielded ops a.tmps j = some c := by
    unfold yielded
    rw [hd]
    have : a.tmps[d]? = some (.bool c) := by
      unfold slot at hv
      rw [Array.getD_eq_getD_getElem?, Array.getElem?_eq_getElem hsz] at hv
      rw [Array.getElem?_eq_getElem hsz]
      exact congrArg some hv
    rw [Option.bind_some, this]
  have hw : Region.wanted o (yielded ops a.tmps) = decide (c = b) := by
    simp only [Region.wanted, hg, hy]
    cases c <;> cases b <;> rfl
  rw [hw]
  by_cases e : c = b
  · rw [if_pos e] at h; rw [if_pos (decide_eq_true e)]; exact h
  · rw [if_neg e] at h; rw [if_neg (by simp [e])]; exact h
end Go.Proofs.Ytfglhemmccihfaa

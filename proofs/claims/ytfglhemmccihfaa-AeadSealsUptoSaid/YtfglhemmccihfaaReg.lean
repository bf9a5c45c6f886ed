/-
  A region that draws its order, told by an invariant: each operation's step once, in whatever order. Of no program.
-/
import Derived.Test.YtfglhemmccihfaaBase
import Derived.RegionTactic
import Derived.Great.BuildSlice
import Derived.Deep.WholeRow
namespace Go.Proofs.Ytfglhemmccihfaa
open Go.RowKit

theorem Below.setRow {B : Nat} {a w : World} (h : Below B a w) {g : Nat} (hg : B ≤ g) (cs : Array Value) : Below B a (w.setRow g cs) :=
  h.trans ⟨rfl, rfl, rfl, by simp [World.setRow], fun k hk => setRow_other w g k cs (by omega)⟩
theorem RowAt.setRow {w : World} {g : Nat} {old : Array Value} {T : TypeId} {fz : Nat × Nat} (h : RowAt w g old T fz) (cs : Array Value) : RowAt (w.setRow g cs) g cs T fz := setRow_heap w g old cs T fz h
theorem RowAt.setOther {w : World} {g k : Nat} {old : Array Value} {T : TypeId} {fz : Nat × Nat} (h : RowAt w k old T fz) (hne : k ≠ g) (cs : Array Value) : RowAt (w.setRow g cs) k old T fz := (setRow_other w g k cs hne).trans h

/-- 'a' is 'a0' but for the slots of S. -/
structure Apart (S : List Nat) (a0 a : Act) : Prop where
  defers : a.defers = a0.defers
  size : a.tmps.size = a0.tmps.size
  same : ∀ j, j ∉ S → a.tmps[j]? = a0.tmps[j]?
theorem Apart.refl (S : List Nat) (a : Act) : Apart S a a := ⟨rfl, rfl, fun _ _ => rfl⟩
theorem Apart.put {S : List Nat} {a0 a : Act} (h : Apart S a0 a) {d : Nat} (hd : d ∈ S) (v : Value) : Apart S a0 (a.put (some d) v) :=
  ⟨h.defers, by show (a.tmps.setIfInBounds d v).size = _; rw [Array.size_setIfInBounds]; exact h.size,
   fun j hj => by
    show (a.tmps.setIfInBounds d v)[j]? = _
    rw [Array.getElem?_setIfInBounds_ne (by rintro rfl; exact hj hd)]
    exact h.same j hj⟩
/-- A slot's value. -/
def slot (a : Act) (d : Nat) : Value := a.tmps.getD d undef
theorem slot_put (a : Act) (d : Nat) (v : Value) (h : d < a.tmps.size) : slot (a.put (some d) v) d = v := by
  unfold slot
  show (a.tmps.setIfInBounds d v).getD d undef = v
  simp [Array.getD, h]
theorem slot_ne (a : Act) (d j : Nat) (v : Value) (h : d ≠ j) : slot (a.put (some d) v) j = slot a j := by
  unfold slot
  show (a.tmps.setIfInBounds d v).getD j undef = a.tmps.getD j undef
  rw [Array.getD_eq_getD_getElem?, Array.getD_eq_getD_getElem?, Array.getElem?_setIfInBounds_ne h]
theorem Apart.slot {S : List Nat} {a0 a : Act} (h : Apart S a0 a) {j : Nat} (hj : j ∉ S) : slot a j = slot a0 j := by
  unfold Go.Proofs.Ytfglhemmccihfaa.slot
  rw [Array.getD_eq_getD_getElem?, Array.getD_eq_getD_getElem?, h.same j hj]
theorem act_ext {a b : Act} (h : a.defers = b.defers) (k : ∀ j : Nat, a.tmps[j]? = b.tmps[j]?) : a = b := by
  cases a; cases b
  simp only at h k
  subst h
  congr 1
  exact Array.ext_getElem? k
theorem fold_get (f : Nat → Value) (S : List Nat) (a : Act) (j : Nat) (hS : ∀ d ∈ S, d < a.tmps.size) :
    (S.foldl (fun b d => b.put (some d) (f d)) a).tmps[j]? = if j ∈ S then some (f j) else a.tmps[j]? := by
  induction S generalizing a with
  | nil => simp
  | cons d S ih =>
    have hsz : (a.put (some d) (f d)).tmps.size = a.tmps.size := by show (a.tmps.setIfInBounds d (f d)).size = _; simp
    rw [List.foldl_cons, ih _ (fun x hx => by rw [hsz]; exact hS x (by simp [hx]))]
    by_cases h1 : j ∈ S
    · simp [h1]
    · by_cases h2 : j = d
      · subst h2
        simp only [h1, if_false, List.mem_cons, true_or, if_true]
        show (a.tmps.setIfInBounds j (f j))[j]? = _
        simp [hS j (by simp)]
      · simp only [h1, if_false, List.mem_cons, h2, false_or]
        show (a.tmps.setIfInBounds d (f d))[j]? = _
        rw [Array.getElem?_setIfInBounds_ne (fun e => h2 e.symm)]
theorem fold_defers (f : Nat → Value) (S : List Nat) (a : Act) : (S.foldl (fun b d => b.put (some d) (f d)) a).defers = a.defers := by
  induction S generalizing a with
  | nil => rfl
  | cons d S ih => rw [List.foldl_cons, ih]; rfl
theorem Apart.eq {S : List Nat} {a0 a : Act} (h : Apart S a0 a) (hS : ∀ d ∈ S, d < a0.tmps.size) : a = S.foldl (fun b d => b.put (some d) (Go.Proofs.Ytfglhemmccihfaa.slot a d)) a0 := by
  refine act_ext ?_ fun j => ?_
  · rw [fold_defers]; exact h.defers
  · rw [fold_get _ _ _ _ hS]
    by_cases hj : j ∈ S
    · rw [if_pos hj]
      have h1 : j < a.tmps.size := by rw [h.size]; exact hS j hj
      unfold Go.Proofs.Ytfglhemmccihfaa.slot
      rw [Array.getD_eq_getD_getElem?, Array.getElem?_eq_getElem h1]; rfl
    · rw [if_neg hj]; exact h.same j hj

section
variable {P : Program} {md : Region.Mode} {ops : Array Oper} {Q : Exit → Act → World → Prop}
theorem ready_mem {listed : Array Bool} {i : Nat} (h : i ∈ Region.ready md ops listed) :
    ∃ o, ops[i]? = some o ∧ listed.getD i true = false ∧ ∀ e ∈ o.after.toList, Region.binds md e = true → listed.getD e.on false = true := by
  unfold Region.ready at h
  rw [List.mem_filter] at h
  obtain ⟨_, h2⟩ := h
  rw [Bool.and_eq_true, Bool.not_eq_true'] at h2
  obtain ⟨h3, h4⟩ := h2
  cases ho : ops[i]? with
  | none => rw [ho] at h4; cases h4
  | some o =>
    rw [ho] at h4
    refine ⟨o, rfl, h3, fun e he hb => ?_⟩
    have h5 : (o.after.all fun e => !Region.binds md e || listed.getD e.on false) = true := h4
    rw [Array.all_eq_true_iff_forall_mem] at h5
    have := h5 e (by simpa using he)
    rw [hb] at this
    simpa using this
theorem ready_nil {listed : Array Bool} (hsz : listed.size = ops.size) (hf : ∀ (i : Nat) (o : Oper), ops[i]? = some o → ∀ e ∈ o.after.toList, Region.binds md e = true → e.on < i) (h : Region.ready md ops listed = []) :
    ∀ i, i < ops.size → listed.getD i false = true := by
  intro i
  induction i using Nat.strongRecOn with
  | ind i ih =>
    intro hi
    cases hl : listed.getD i false with
    | true => rfl
    | false =>
      exfalso
      have hmem : i ∈ Region.ready md ops listed := by
        unfold Region.ready
        rw [List.mem_filter]
        refine ⟨List.mem_range.2 hi, ?_⟩
        have h1 : listed.getD i true = false := by
          rw [Array.getD_eq_getD_getElem?, Array.getElem?_eq_getElem (by omega)] at hl ⊢
          exact hl
        rw [h1]
        have h2 : ops[i]? = some ops[i] := Array.getElem?_eq_getElem hi
        rw [h2]
        have h5 : (ops[i].after.all fun e => !Region.binds md e || listed.getD e.on false) = true := by
          rw [Array.all_eq_true_iff_forall_mem]
          intro e he
          cases hb : Region.binds md e with
          | false => rfl
          | true =>
            have h3 := hf i _ h2 e (by simpa using he) hb
            rw [ih e.on h3 (by omega)]; rfl
        simpa using h5
      rw [h] at hmem
      cases hmem
theorem listed_set {listed : Array Bool} {i : Nat} (hi : i < listed.size) (k : Nat) : (listed.setIfInBounds i true).getD k false = (listed.getD k false || k == i) := by
  rw [Array.getD_eq_getD_getElem?, Array.getD_eq_getD_getElem?]
  by_cases h : i = k
  · subst h; simp [hi]
  · rw [Array.getElem?_setIfInBounds_ne h]
    have : (k == i) = false := by rw [beq_eq_false_iff_ne]; exact fun e => h e.symm
    rw [this, Bool.or_false]

/-- A region by an invariant: which operations have come up; the slots; the world. -/
theorem wpAny_inv (I : (Nat → Bool) → Act → World → Prop) (hf : ∀ (i : Nat) (o : Oper), ops[i]? = some o → ∀ e ∈ o.after.toList, Region.binds md e = true → e.on < i)
    (step : ∀ (L : Nat → Bool) (i : Nat) (o : Oper) (a : Act) (w : World) (K : Act → World → Prop), ops[i]? = some o → L i = false → (∀ e ∈ o.after.toList, Region.binds md e = true → L e.on = true) → I L a w →
      (∀ a' w', I (fun k => L k || k == i) a' w' → K a' w') → if Region.wanted o (yielded ops a.tmps) = true then o.wp P a w K Q else K (a.put o.dst undef) w)
    (fin : ∀ L a w, (∀ i, i < ops.size → L i = true) → I L a w → Q .normal a w) :
    ∀ (fuel : Nat) (listed : Array Bool) (a : Act) (w : World), listed.size = ops.size → listed.toList.count false ≤ fuel → I (fun k => listed.getD k false) a w → wpAny P md ops Q fuel listed a w := by
  intro fuel
  induction fuel with
  | zero =>
    intro listed a w hsz hc hI
    have hall : ∀ i, i < listed.size → listed.getD i false = true := by
      intro i hi
      cases hl : listed.getD i false with
      | true => rfl
      | false =>
        exfalso
        rw [Array.getD_eq_getD_getElem?, Array.getElem?_eq_getElem hi] at hl
        have hm : false ∈ listed.toList := by
          rw [Array.mem_toList_iff]
          have h2 : listed[i] = false := hl
          rw [← h2]; exact Array.getElem_mem hi
        have := List.count_pos_iff.2 hm
        omega
    have hr : Region.ready md ops listed = [] := by
      cases hr : Region.ready md ops listed with
      | nil => rfl
      | cons i rs =>
        exfalso
        obtain ⟨o, ho, hl, _⟩ := ready_mem (listed := listed) (i := i) (by rw [hr]; exact List.mem_cons_self ..)
        have hi : i < ops.size := (Array.getElem?_eq_some_iff.1 ho).1
        have := hall i (by omega)
        rw [Array.getD_eq_getD_getElem?, Array.getElem?_eq_getElem (by omega)] at this hl
        have h3 : listed[i]'(by omega) = true := this
        have h4 : listed[i]'(by omega) = false := hl
        rw [h3] at h4; cases h4
    exact ⟨hr, fin _ a w (ready_nil hsz hf hr) hI⟩
  | succ fuel ih =>
    intro listed a w hsz hc hI
    refine ⟨fun hr => fin _ a w (ready_nil hsz hf hr) hI, fun i hi => ?_⟩
    obtain ⟨o, ho, hl, he⟩ := ready_mem hi
    have hi2 : i < ops.size := (Array.getElem?_eq_some_iff.1 ho).1
    have hi3 : i < listed.size := by omega
    have hl2 : listed[i] = false := by
      rw [Array.getD_eq_getD_getElem?, Array.getElem?_eq_getElem hi3] at hl
      exact hl
    refine wpOp_step ho fun K' hK => ?_
    refine step _ i o a w K' ho ?_ he hI (fun a' w' h' => hK a' w' (ih _ a' w' (by rw [Array.size_setIfInBounds]; exact hsz) ?_ ?_))
    · show listed.getD i false = false
      rw [Array.getD_eq_getD_getElem?, Array.getElem?_eq_getElem hi3]; exact hl2
    · rw [Array.toList_setIfInBounds, List.count_set (by rw [Array.length_toList]; exact hi3)]
      have hp : 0 < listed.toList.count false := List.count_pos_iff.2 (by rw [Array.mem_toList_iff, ← hl2]; exact Array.getElem_mem hi3)
      have h7 : listed.toList[i]'(by rw [Array.length_toList]; exact hi3) = false := by rw [Array.getElem_toList]; exact hl2
      rw [h7]
      simp only [beq_self_eq_true, if_true]
      have h8 : (true == false) = false := rfl
      rw [h8]
      simp only [Bool.false_eq_true, if_false, Nat.add_zero]
      omega
    · have : (fun k => (listed.setIfInBounds i true).getD k false) = fun k => listed.getD k false || k == i := funext fun k => listed_set hi3 k
      rw [this]
      exact h'
theorem wp_region_inv {id : Nat} {a : Act} {w : World} (hm : P.follows .mixedOrders = true) (I : (Nat → Bool) → Act → World → Prop) (hf : (ops.toList.zipIdx.all fun x => x.1.after.toList.all fun e => !Region.binds .any e || decide (e.on < x.2)) = true)
    (start : I (fun _ => false) a w.drew)
    (step : ∀ (L : Nat → Bool) (i : Nat) (o : Oper) (a : Act) (w : World) (K : Act → World → Prop), ops[i]? = some o → L i = false → (∀ e ∈ o.after.toList, Region.binds .any e = true → L e.on = true) → I L a w →
      (∀ a' w', I (fun k => L k || k == i) a' w' → K a' w') → if Region.wanted o (yielded ops a.tmps) = true then o.wp P a w K Q else K (a.put o.dst undef) w)
    (fin : ∀ L a w, (∀ i, i < ops.size → L i = true) → I L a w → Q .normal a w) : (Code.region id ops true).wp P Q a w := by
  refine wp_region_any hm (wpAny_inv I ?_ step fin _ _ _ _ (by simp) (by rw [Array.toList_replicate]; simp) ?_)
  · intro i o ho e he hb
    rw [List.all_eq_true] at hf
    have hi : i < ops.size := (Array.getElem?_eq_some_iff.1 ho).1
    have ho2 : ops[i] = o := (Array.getElem?_eq_some_iff.1 ho).2
    have := hf (o, i) (by rw [List.mem_zipIdx_iff_getElem?]; simpa using ho)
    rw [List.all_eq_true] at this
    have h9 := this e he
    rw [hb] at h9
    simpa using h9
  · have : (fun k => (Array.replicate ops.size false).getD k false) = fun _ => false := funext fun k => by
      rw [Array.getD_eq_getD_getElem?, Array.getElem?_replicate]; split <;> rfl
    rw [this]
    exact start
end
end Go.Proofs.Ytfglhemmccihfaa

/-
  A statement 'x, y := a, f()' of two arrays: a region that draws its order, told once. Of no program.
-/
import Derived.Test.YtfglhemmccihfaaReg
namespace Go.Proofs.Ytfglhemmccihfaa
open Go.RowKit

def ptrV (g : Nat) : Value := .pointer (some ⟨g, 0, none⟩)
theorem ptrV_inj {g k : Nat} (h : ptrV g = ptrV k) : g = k := by
  unfold ptrV at h; injection h with h; injection h with h; injection h
section
variable {P : Program} {Q : Exit → Act → World → Prop}
theorem edge_on {md : Region.Mode} {o : Oper} {L : Nat → Bool} {k : Nat} (h : (o.after.toList.any fun e => e.on == k && Region.binds md e) = true)
    (he : ∀ e ∈ o.after.toList, Region.binds md e = true → L e.on = true) : L k = true := by
  rw [List.any_eq_true] at h
  obtain ⟨e, h1, h2⟩ := h
  rw [Bool.and_eq_true, beq_iff_eq] at h2
  rw [← h2.1]; exact he e h1 h2.2

theorem region_two {id : Nat} {o0 o1 o2 o3 o4 o5 : Oper} {a0 : Act} {w0 : World} (hm : P.follows .mixedOrders = true)
    (d0 d1 d2 d3 : Nat) (T1 T2 : TypeId) (c1 c2 Z1 Z2 : Array Value)
    (hg : o0.guard = none ∧ o1.guard = none ∧ o2.guard = none ∧ o3.guard = none ∧ o4.guard = none ∧ o5.guard = none)
    (hd4 : o4.dst = none) (hd5 : o5.dst = none) (hnd : d0 ≠ d1 ∧ d0 ≠ d2 ∧ d0 ≠ d3 ∧ d1 ≠ d2 ∧ d1 ≠ d3 ∧ d2 ≠ d3) (n : Nat) (hn : a0.tmps.size = n) (hlt : d0 < n ∧ d1 < n ∧ d2 < n ∧ d3 < n)
    (hf : ((#[o0, o1, o2, o3, o4, o5] : Array Oper).toList.zipIdx.all fun x => x.1.after.toList.all fun e => !Region.binds .any e || decide (e.on < x.2)) = true)
    (he4 : (o4.after.toList.any fun e => e.on == 0 && Region.binds .any e) = true ∧ (o4.after.toList.any fun e => e.on == 2 && Region.binds .any e) = true)
    (he5 : (o5.after.toList.any fun e => e.on == 1 && Region.binds .any e) = true ∧ (o5.after.toList.any fun e => e.on == 3 && Region.binds .any e) = true)
    (ho4 : o4.op = .store T1 (.tmp d2) (.tmp d0)) (ho5 : o5.op = .store T2 (.tmp d3) (.tmp d1))
    (hi1 : (P.info? T1).map (·.size) = some c1.size) (hz1 : Z1.size = c1.size) (hc1 : c1.all (·.oneCell') = true)
    (hi2 : (P.info? T2).map (·.size) = some c2.size) (hz2 : Z2.size = c2.size) (hc2 : c2.all (·.oneCell') = true)
    (h0 : ∀ (a : Act) (w : World) (K : Act → World → Prop), Apart [d0, d1, d2, d3] a0 a → Below w0.heap.size w0 w → (∀ w', Below w.heap.size w w' → K (a.put (some d0) (.agg c1)) w') → o0.wp P a w K Q)
    (h1 : ∀ (a : Act) (w : World) (K : Act → World → Prop), Apart [d0, d1, d2, d3] a0 a → Below w0.heap.size w0 w → (∀ w', Below w.heap.size w w' → K (a.put (some d1) (.agg c2)) w') → o1.wp P a w K Q)
    (h2 : ∀ (a : Act) (w : World) (K : Act → World → Prop), K (a.put (some d2) (ptrV w.heap.size)) (w.alloc (.cells Z1 T1)) → o2.wp P a w K Q)
    (h3 : ∀ (a : Act) (w : World) (K : Act → World → Prop), K (a.put (some d3) (ptrV w.heap.size)) (w.alloc (.cells Z2 T2)) → o3.wp P a w K Q)
    (fin : ∀ (w : World) (g1 g2 : Nat), w0.heap.size ≤ g1 → w0.heap.size ≤ g2 → g1 ≠ g2 → RowAt w g1 c1 T1 (0, 0) → RowAt w g2 c2 T2 (0, 0) → Below w0.heap.size w0 w →
      Q .normal ((((a0.put (some d0) (.agg c1)).put (some d1) (.agg c2)).put (some d2) (ptrV g1)).put (some d3) (ptrV g2)) w) :
    (Code.region id #[o0, o1, o2, o3, o4, o5] true).wp P Q a0 w0 := by
  obtain ⟨g0, g1, g2, g3, g4, g5⟩ := hg
  obtain ⟨n01, n02, n03, n12, n13, n23⟩ := hnd
  rw [← hn] at hlt
  obtain ⟨l0, l1, l2, l3⟩ := hlt
  refine wp_region_inv hm (fun L a w => Apart [d0, d1, d2, d3] a0 a ∧ Below w0.heap.size w0 w ∧ (L 0 = true → slot a d0 = .agg c1) ∧ (L 1 = true → slot a d1 = .agg c2) ∧
    (L 2 = true → ∃ g, w0.heap.size ≤ g ∧ slot a d2 = ptrV g ∧ RowAt w g (if L 4 = true then c1 else Z1) T1 (0, 0)) ∧
    (L 3 = true → ∃ g, w0.heap.size ≤ g ∧ slot a d3 = ptrV g ∧ RowAt w g (if L 5 = true then c2 else Z2) T2 (0, 0)) ∧
    (∀ g, L 2 = true → L 3 = true → slot a d2 = ptrV g → slot a d3 ≠ ptrV g) ∧ (L 4 = true → L 2 = true) ∧ (L 5 = true → L 3 = true)) hf ?_ ?_ ?_
  · refine ⟨Apart.refl _ _, Below.drew (Below.refl _ _), ?_, ?_, ?_, ?_, ?_, ?_, ?_⟩ <;> (intros; contradiction)
  · intro L i o a w K ho hL he hI hK
    obtain ⟨ha, hb, i0, i1, i2, i3, i4, i5, i6⟩ := hI
    have sz := ha.size
    match i, ho with
    | 0, ho =>
      have ho : o0 = o := by simpa using ho
      subst ho
      rw [if_pos (by simp [Region.wanted, g0])]
      refine h0 a w K ha hb fun w' hw => hK _ _ ⟨ha.put (by simp) _, hb.trans (hw.mono hb.size), fun _ => slot_put _ _ _ (by omega), ?_, ?_, ?_, ?_, fun h => by have := i5 (by simpa using h); simp [this], fun h => by have := i6 (by simpa using h); simp [this]⟩
      · intro h; rw [slot_ne _ _ _ _ n01]; exact i1 (by simpa using h)
      · intro h
        obtain ⟨g, k1, k2, k3⟩ := i2 (by simpa using h)
        exact ⟨g, k1, by rw [slot_ne _ _ _ _ n02]; exact k2, by simpa using k3.below hw k3.lt⟩
      · intro h
        obtain ⟨g, k1, k2, k3⟩ := i3 (by simpa using h)
        exact ⟨g, k1, by rw [slot_ne _ _ _ _ n03]; exact k2, by simpa using k3.below hw k3.lt⟩
      · intro g h h' k; rw [slot_ne _ _ _ _ n02] at k; rw [slot_ne _ _ _ _ n03]; exact i4 g (by simpa using h) (by simpa using h') k
    | 1, ho =>
      have ho : o1 = o := by simpa using ho
      subst ho
      rw [if_pos (by simp [Region.wanted, g1])]
      refine h1 a w K ha hb fun w' hw => hK _ _ ⟨ha.put (by simp) _, hb.trans (hw.mono hb.size), ?_, fun _ => slot_put _ _ _ (by omega), ?_, ?_, ?_, fun h => by have := i5 (by simpa using h); simp [this], fun h => by have := i6 (by simpa using h); simp [this]⟩
      · intro h; rw [slot_ne _ _ _ _ n01.symm]; exact i0 (by simpa using h)
      · intro h
        obtain ⟨g, k1, k2, k3⟩ := i2 (by simpa using h)
        exact ⟨g, k1, by rw [slot_ne _ _ _ _ n12]; exact k2, by simpa using k3.below hw k3.lt⟩
      · intro h
        obtain ⟨g, k1, k2, k3⟩ := i3 (by simpa using h)
        exact ⟨g, k1, by rw [slot_ne _ _ _ _ n13]; exact k2, by simpa using k3.below hw k3.lt⟩
      · intro g h h' k; rw [slot_ne _ _ _ _ n12] at k; rw [slot_ne _ _ _ _ n13]; exact i4 g (by simpa using h) (by simpa using h') k
    | 2, ho =>
      have ho : o2 = o := by simpa using ho
      subst ho
      rw [if_pos (by simp [Region.wanted, g2])]
      have hL4 : L 4 = false := by
        cases h : L 4 with
        | false => rfl
        | true => rw [i5 h] at hL; cases hL
      refine h2 a w K (hK _ _ ⟨ha.put (by simp) _, hb.alloc hb.size _, ?_, ?_, ?_, ?_, ?_, fun h => by have := i5 (by simpa using h); simp [this], fun h => by have := i6 (by simpa using h); simp [this]⟩)
      · intro h; rw [slot_ne _ _ _ _ n02.symm]; exact i0 (by simpa using h)
      · intro h; rw [slot_ne _ _ _ _ n12.symm]; exact i1 (by simpa using h)
      · intro _
        refine ⟨w.heap.size, hb.size, slot_put _ _ _ (by omega), ?_⟩
        show RowAt _ _ (if (L 4 || 4 == 2) = true then c1 else Z1) T1 (0, 0)
        rw [hL4]
        exact RowAt.new w _ _ _
      · intro h
        obtain ⟨g, k1, k2, k3⟩ := i3 (by simpa using h)
        exact ⟨g, k1, by rw [slot_ne _ _ _ _ n23]; exact k2, by simpa using k3.alloc _⟩
      · intro g h h' k
        rw [slot_put _ _ _ (by omega)] at k
        have := ptrV_inj k
        subst this
        rw [slot_ne _ _ _ _ n23]
        obtain ⟨g, k1, k2, k3⟩ := i3 (by simpa using h')
        rw [k2]
        intro e
        have := ptrV_inj e
        have := k3.lt
        omega
    | 3, ho =>
      have ho : o3 = o := by simpa using ho
      subst ho
      have hL5 : L 5 = false := by
        cases h : L 5 with
        | false => rfl
        | true => rw [i6 h] at hL; cases hL
      rw [if_pos (by simp [Region.wanted, g3])]
      refine h3 a w K (hK _ _ ⟨ha.put (by simp) _, hb.alloc hb.size _, ?_, ?_, ?_, ?_, ?_, fun h => by have := i5 (by simpa using h); simp [this], fun h => by have := i6 (by simpa using h); simp [this]⟩)
      · intro h; rw [slot_ne _ _ _ _ n03.symm]; exact i0 (by simpa using h)
      · intro h; rw [slot_ne _ _ _ _ n13.symm]; exact i1 (by simpa using h)
      · intro h
        obtain ⟨g, k1, k2, k3⟩ := i2 (by simpa using h)
        exact ⟨g, k1, by rw [slot_ne _ _ _ _ n23.symm]; exact k2, by simpa using k3.alloc _⟩
      · intro _
        refine ⟨w.heap.size, hb.size, slot_put _ _ _ (by omega), ?_⟩
        show RowAt _ _ (if (L 5 || 5 == 3) = true then c2 else Z2) T2 (0, 0)
        rw [hL5]
        exact RowAt.new w _ _ _
      · intro g h h' k
        rw [slot_ne _ _ _ _ n23.symm] at k
        obtain ⟨g', k1, k2, k3⟩ := i2 (by simpa using h)
        rw [slot_put _ _ _ (by omega)]
        intro e
        have := ptrV_inj e
        have := ptrV_inj (k2.symm.trans k)
        have := k3.lt
        omega
    | 4, ho =>
      have ho : o4 = o := by simpa using ho
      subst ho
      have e0 : L 0 = true := edge_on he4.1 he
      have e2 : L 2 = true := edge_on he4.2 he
      rw [if_pos (by simp [Region.wanted, g4])]
      obtain ⟨g, k1, k2, k3⟩ := i2 e2
      rw [hL] at k3
      refine wp_store_row T1 _ _ ho4 g c1 k2 (i0 e0) T1 Z1 k3.out hi1 hz1 hc1 ?_
      rw [hd4]
      refine hK _ _ ⟨ha, Go.Proofs.Ytfglhemmccihfaa.Below.setRow hb k1 _, fun _ => i0 e0, fun h => i1 (by simpa using h), fun _ => ⟨g, k1, k2, by simpa using k3.setRow c1⟩, ?_, fun g h h' k => i4 g e2 (by simpa using h') k, fun _ => by simp [e2], fun h => by have := i6 (by simpa using h); simp [this]⟩
      intro h
      obtain ⟨g', m1, m2, m3⟩ := i3 (by simpa using h)
      refine ⟨g', m1, m2, ?_⟩
      have : g' ≠ g := by rintro rfl; exact i4 g' e2 (by simpa using h) k2 m2
      simpa using m3.setOther this c1
    | 5, ho =>
      have ho : o5 = o := by simpa using ho
      subst ho
      have e1 : L 1 = true := edge_on he5.1 he
      have e3 : L 3 = true := edge_on he5.2 he
      rw [if_pos (by simp [Region.wanted, g5])]
      obtain ⟨g, k1, k2, k3⟩ := i3 e3
      rw [hL] at k3
      refine wp_store_row T2 _ _ ho5 g c2 k2 (i1 e1) T2 Z2 k3.out hi2 hz2 hc2 ?_
      rw [hd5]
      refine hK _ _ ⟨ha, Go.Proofs.Ytfglhemmccihfaa.Below.setRow hb k1 _, fun h => i0 (by simpa using h), fun _ => i1 e1, ?_, fun _ => ⟨g, k1, k2, by simpa using k3.setRow c2⟩, fun g h h' k => i4 g (by simpa using h) e3 k, fun h => by have := i5 (by simpa using h); simp [this], fun _ => by simp [e3]⟩
      intro h
      obtain ⟨g', m1, m2, m3⟩ := i2 (by simpa using h)
      refine ⟨g', m1, m2, ?_⟩
      have : g' ≠ g := by rintro rfl; exact i4 g' (by simpa using h) e3 m2 k2
      simpa using m3.setOther this c2
    | n + 6, ho => simp at ho
  · intro L a w hall hI
    obtain ⟨ha, hb, i0, i1, i2, i3, i4, _, _⟩ := hI
    have hs : ∀ i, i < 6 → L i = true := fun i hi => hall i (by simpa using hi)
    obtain ⟨g1', k1, k2, k3⟩ := i2 (hs 2 (by omega))
    obtain ⟨g2', m1, m2, m3⟩ := i3 (hs 3 (by omega))
    rw [if_pos (hs 4 (by omega))] at k3
    rw [if_pos (hs 5 (by omega))] at m3
    have hne : g1' ≠ g2' := by rintro rfl; exact i4 g1' (hs 2 (by omega)) (hs 3 (by omega)) k2 m2
    have hact := ha.eq (by
      intro d hd
      simp only [List.mem_cons, List.not_mem_nil, or_false] at hd
      rcases hd with rfl | rfl | rfl | rfl <;> assumption)
    rw [hact]
    simp only [List.foldl_cons, List.foldl_nil]
    rw [i0 (hs 0 (by omega)), i1 (hs 1 (by omega)), k2, m2]
    exact fin w g1' g2' k1 m1 hne k3 m3 hb
end
end Go.Proofs.Ytfglhemmccihfaa

/-
  Slices that the call itself makes, appended to one element at a time; bytes so gathered, as a string.
-/
import Derived.Test.YtfglhemmccihfaaBase
import Derived.Deep.QuietTactic
namespace Go.Proofs.Ytfglhemmccihfaa
open Go.RowKit

theorem quiet_left {P : Program} {f : FuncId} {args : Array Value} {w : World} {n : Nat} {v : Value}
    (h : Calls P f args (w.drewN n) fun e w' => e = .returned v ∧ w.drewN n = w') : Calls P f args (w.drewN n) fun e w'' => e = .returned v ∧ ∃ m, w'' = w.drewN m :=
  h.mono fun _ _ ⟨he, hm⟩ => ⟨he, n, hm.symm⟩
theorem cellsOne (w0 : World) (e : TypeId) (u : Value) : ∀ j x, [u][j]? = some x → (w0.alloc (.cells #[u] e)).cell? ((⟨w0.heap.size, 0, none⟩ : Addr).add j) = some x := by
  intro j x hj
  match j, hj with
  | 0, hj =>
    simp at hj
    subst hj
    exact (RowAt.new w0 #[u] e (0, 0)).cell (i := 0) (v := u) rfl

section
variable {P : Program} {ops : Array Oper} {rest : List Oper} {o : Oper} {a : Act} {Q : Exit → Act → World → Prop}
/-- 's = append(s, u)', s the call's own (from block 'base' on), u one cell, just laid. -/
theorem append_one (hgd : o.guard = none) (s x : Operand) (t : TypeId)
    (ho : o.op = .call { callee := .builtin .append, args := #[s, x], argTypes := #[t, t] })
    (w0 : World) (base : Nat) (e : TypeId) (z : Value) (bytes : Nat) (ht : P.underlying t = some (.slice e))
    (hi : (P.info? e).map (fun i => (i.zero, i.size, i.bytes)) = some (some z, 1, bytes)) (hzs : z.cells.size = 1)
    {v : Value} {n : Nat} {xs : List Value} (hown : w0.ownsRow base e 1 v n xs) (hs : a.eval s = v)
    (u : Value) (hx : a.eval x = .slice (some ⟨w0.heap.size, 0, none⟩) 1 1) (hu : u.oneCell' = true)
    (hbytes : (n + 1) * bytes ≤ 140737488355328) (hn : n + 1 ≤ 140737488355328) (hbase : base ≤ w0.heap.size)
    (h : ∀ v' w', w'.ownsRow base e 1 v' (n + 1) (xs ++ [u]) → Below base w0 w' → w0.heap.size ≤ w'.heap.size →
      (∀ k, k < w0.heap.size → some k ≠ v.ownBlock → w'.heap[k]? = w0.heap[k]?) → wpList P ops Q rest (a.put o.dst v') w') :
    wpList P ops Q (o :: rest) a (w0.alloc (.cells #[u] e)) := by
  obtain ⟨i0, hi0, hz0, hz1, hz2⟩ := info_parts hi
  refine wpList_append_own _ hgd s x t ho base e i0 z 1 bytes ht hi0 hz0 hz1 hz2 hzs (by decide) v n xs hs (hown.alloc _)
    ⟨w0.heap.size, 0, none⟩ 1 1 [u] hx rfl (cellsOne w0 e u) (by intro y hy; simp at hy; subst hy; exact hu) (by unfold maxLen; omega) hbytes (by simp; omega) ?_
  intro v' w' hown' hgrow _
  have hb : Below base w0 w' := (((Below.refl base w0).alloc hbase _).grown hgrow (by simp; omega) (fun k hk => ((hown.alloc (.cells #[u] e)).lt k hk).1))
  have hkeep : ∀ k, k < w0.heap.size → some k ≠ v.ownBlock → w'.heap[k]? = w0.heap[k]? := by
    intro k hk hne
    rw [hgrow.block k (by simp; omega) hne]
    exact Below.heap_alloc _ _ _ hk
  exact h v' w' hown' hb hb.size hkeep
end

/-- The same, as a step of a region that draws its order. -/
theorem step_append_one {P : Program} {ops : Array Oper} {o : Oper} {a : Act} {K : Act → World → Prop} {Q : Exit → Act → World → Prop} {E : Prop}
    (hg : o.guard = none) (s x : Operand) (t : TypeId)
    (ho : o.op = .call { callee := .builtin .append, args := #[s, x], argTypes := #[t, t] })
    (w0 : World) (base : Nat) (e : TypeId) (z : Value) (bytes : Nat) (ht : P.underlying t = some (.slice e))
    (hi : (P.info? e).map (fun i => (i.zero, i.size, i.bytes)) = some (some z, 1, bytes)) (hzs : z.cells.size = 1)
    {v : Value} {n : Nat} {xs : List Value} (hown : w0.ownsRow base e 1 v n xs) (hs : a.eval s = v)
    (u : Value) (hx : a.eval x = .slice (some ⟨w0.heap.size, 0, none⟩) 1 1) (hu : u.oneCell' = true)
    (hbytes : (n + 1) * bytes ≤ 140737488355328) (hn : n + 1 ≤ 140737488355328) (hbase : base ≤ w0.heap.size)
    (h : ∀ v' w', w'.ownsRow base e 1 v' (n + 1) (xs ++ [u]) → Below base w0 w' → w0.heap.size ≤ w'.heap.size →
      (∀ k, k < w0.heap.size → some k ≠ v.ownBlock → w'.heap[k]? = w0.heap[k]?) → K (a.put o.dst v') w') :
    if Region.wanted o (yielded ops a.tmps) = true then Oper.wp P o a (w0.alloc (.cells #[u] e)) K Q else E := by
  have hw : Region.wanted o (yielded ops a.tmps) = true := by simp [Region.wanted, hg]
  rw [if_pos hw]
  obtain ⟨i0, hi0, hz0, hz1, hz2⟩ := info_parts hi
  refine wp_append_own _ s x t ho base e i0 z 1 bytes ht hi0 hz0 hz1 hz2 hzs (by decide) v n xs hs (hown.alloc _)
    ⟨w0.heap.size, 0, none⟩ 1 1 [u] hx rfl (cellsOne w0 e u) (by intro y hy; simp at hy; subst hy; exact hu) (by unfold maxLen; omega) hbytes (by simp; omega) ?_
  intro v' w' hown' hgrow _
  have hb : Below base w0 w' := (((Below.refl base w0).alloc hbase _).grown hgrow (by simp; omega) (fun k hk => ((hown.alloc (.cells #[u] e)).lt k hk).1))
  have hkeep : ∀ k, k < w0.heap.size → some k ≠ v.ownBlock → w'.heap[k]? = w0.heap[k]? := by
    intro k hk hne
    rw [hgrow.block k (by simp; omega) hne]
    exact Below.heap_alloc _ _ _ hk
  exact h v' w' hown' hb hb.size hkeep

/-- An empty slice that is not nil. -/
theorem owns_zero (w : World) (e : TypeId) {base : Nat} (hb : base ≤ w.heap.size) : (w.alloc (.cells #[] e)).ownsRow base e 1 (.slice (some ⟨w.heap.size, 0, none⟩) 0 0) 0 [] :=
  ⟨rfl, .inr ⟨w.heap.size, 0, #[], rfl, hb, RowAt.new w #[] e (0, 0), Nat.le_refl _, by unfold maxLen; omega, rfl, rfl⟩⟩

/-- 'string(b)', b bytes that the call gathered. -/
theorem run_str_own {P : Program} (w : World) (src e : TypeId) (hs : P.underlying src = some (.slice e)) (he : P.underlying e = some (.int .u8)) (dst : TypeId) (hd : P.underlying dst = some .string)
    (base n : Nat) (v : Value) (l : List UInt8) (hown : w.ownsRow base e 1 v n (cells l)) :
    (convert src dst v).run P w = .ok (.string ⟨l.toArray⟩) w := by
  have hl : l.length = n := by have := hown.1; rw [cells_length] at this; omega
  rcases hown.2 with ⟨rfl, rfl⟩ | ⟨g, cap, cur, rfl, _, hg, _, _, _, ht⟩
  · rw [run_convert_bytes_nil w src e hs he 0 0 dst hd]
    have : l = [] := List.eq_nil_of_length_eq_zero hl
    subst this
    rfl
  · exact run_str w src e hs he dst hd g n cap cur e (0, 0) l hg hl (by rw [Nat.mul_one] at ht; exact ht)
end Go.Proofs.Ytfglhemmccihfaa

/-
  The frame's opener for a slice of asks (layer 12).
-/
import Derived.Test.YtfdncifnokkclaaL12C
import Derived.Test.YtfdncifnokkclaaOpen
namespace Go.Proofs.Ytfdncifnokkclaa
open Go.ChangeShapes Go.WideShapes Go.ChangeAt Go.RowKit

theorem open_asks {H : Type} {enc : TypeId × Value → H} {W : World} {base : Nat} {sp : Nat → Bool} {held : Bool} {v : Value} {d : DataW H} {p : List MemPlace} {r : Reach} {b0 : Nat}
    (hv : Value.okWide Try.prog W r b0 51 v) (h : DataW.Trod enc Try.prog W base sp held 51 v d p) :
    ∃ (ao : Option Addr) (cap : Nat) (aks : List AskV), v = .slice ao aks.length cap ∧ AsksAt W ao aks ∧ (∀ a ∈ aks, a.ok) := by
  obtain ⟨ao, n, cap, rfl⟩ := okWide_slice Try.underlying51 hv
  obtain ⟨fuel, hf⟩ := h
  rcases Go.Deep.open_slice Try.underlying51 hf with ⟨hcs, hx⟩ | ⟨a, len, cap', m, nn, D, Pl, hcs, hb, hl, hm, hmm, hx, hi⟩
  · simp [Value.cells] at hcs
    obtain ⟨rfl, rfl, rfl⟩ := hcs
    exact ⟨none, 0, [], rfl, fun i hi => absurd hi (by simp), fun s hs => absurd hs (by simp)⟩
  · simp [Value.cells] at hcs
    obtain ⟨rfl, rfl, rfl⟩ := hcs
    have hn : n ≤ m := by rw [hmm]; split <;> omega
    have hC : Try.prog.cellsOf 56 = 4 := by kernel_rfl
    have h0 : ∀ x : TypeId, x = 3 → Try.prog.cellsOf x = 1 := by rintro x rfl; kernel_rfl
    have h1 : ∀ x : TypeId, x = 22 → Try.prog.cellsOf x = 1 := by rintro x rfl; kernel_rfl
    have each : ∀ i, i < n → ∃ q : AskV, q.ok ∧ W.cell? (a.add (i * 4)) = some (.int .i64 q.kind) ∧ W.cell? ((a.add (i * 4)).add 1) = some (.int .i64 q.k) ∧
        W.cell? ((a.add (i * 4)).add 2) = some (.int .i64 q.m) ∧ W.cell? ((a.add (i * 4)).add 3) = some (.int .u64 (bvi q.n)) := by
      intro i hin
      obtain ⟨cs', hc, ht⟩ := hi i (by omega)
      rw [hC] at hc
      obtain ⟨_, hcl, hat⟩ := World.cells?_some hc
      obtain ⟨ys, n', _, _, _, hyl, hfs⟩ := DataW.trod_struct Try.underlying56 ht
      match cs', hcl with
      | [c0, c1, c2, c3], _ =>
        match ys, hyl with
        | [y0, y1, y2, y3], _ =>
          have f0 := hfs 0 _ rfl
          have f1 := hfs 1 _ rfl
          have f2 := hfs 2 _ rfl
          have f3 := hfs 3 _ rfl
          have g0 : DataW.trod enc Try.prog W base sp held n' 3 [c0] = some y0 := by
            have k : DataW.trod enc Try.prog W base sp held n' 3 (([c0, c1, c2, c3].drop 0).take (Try.prog.cellsOf 3)) = some y0 := f0
            rw [h0 3 rfl] at k
            exact k
          have g1 : DataW.trod enc Try.prog W base sp held n' 3 [c1] = some y1 := by
            have k : DataW.trod enc Try.prog W base sp held n' 3 (([c0, c1, c2, c3].drop 1).take (Try.prog.cellsOf 3)) = some y1 := f1
            rw [h0 3 rfl] at k
            exact k
          have g2 : DataW.trod enc Try.prog W base sp held n' 3 [c2] = some y2 := by
            have k : DataW.trod enc Try.prog W base sp held n' 3 (([c0, c1, c2, c3].drop 2).take (Try.prog.cellsOf 3)) = some y2 := f2
            rw [h0 3 rfl] at k
            exact k
          have g3 : DataW.trod enc Try.prog W base sp held n' 22 [c3] = some y3 := by
            have k : DataW.trod enc Try.prog W base sp held n' 22 (([c0, c1, c2, c3].drop 3).take (Try.prog.cellsOf 22)) = some y3 := f3
            rw [h1 22 rfl] at k
            exact k
          clear f0 f1 f2 f3
          obtain ⟨z0, e0, _, w0⟩ := DataW.trod_int Try.underlying3 g0
          obtain ⟨z1, e1, _, w1⟩ := DataW.trod_int Try.underlying3 g1
          obtain ⟨z2, e2, _, w2⟩ := DataW.trod_int Try.underlying3 g2
          obtain ⟨z3, e3, _, w3⟩ := DataW.trod_int Try.underlying22 g3
          obtain ⟨b3, rfl⟩ := wf_u64 w3
          injection e0 with e0
          injection e1 with e1
          injection e2 with e2
          injection e3 with e3
          subst e0 e1 e2 e3
          have k0 := hat 0 (by omega)
          rw [show (a.add (i * 4)).add 0 = a.add (i * 4) from by unfold Addr.add; simp] at k0
          exact ⟨⟨z0, z1, z2, b3⟩, ⟨wf_i64 w1, wf_i64 w2⟩, k0, hat 1 (by omega), hat 2 (by omega), hat 3 (by omega)⟩
    refine ⟨some a, cap, List.ofFn fun i : Fin n => Classical.choose (each i.1 i.2), by rw [List.length_ofFn], ?_, ?_⟩
    · intro i hi
      rw [List.length_ofFn] at hi
      have hc := Classical.choose_spec (each i hi)
      have hc0 := Classical.choose_spec (each 0 (by omega))
      have hz := hc0.2.1
      generalize (Classical.choose (each 0 (by omega))).kind = z0 at hz
      rw [show a.add (0 * 4) = a from by unfold Addr.add; simp] at hz
      obtain ⟨b, off, hab, hbl⟩ := addr_plain hz
      rw [List.getElem_ofFn]
      have ha : ∀ j, a.add j = ⟨b, off + j, none⟩ := fun j => by rw [hab]; exact add_plain ..
      refine ⟨b, off, by rw [hab], hbl, ?_, ?_, ?_, ?_⟩
      · rw [← ha (i * 4)]; exact hc.2.1
      · rw [← add_plain, ← ha (i * 4)]; exact hc.2.2.1
      · rw [← add_plain, ← ha (i * 4)]; exact hc.2.2.2.1
      · rw [← add_plain, ← ha (i * 4)]; exact hc.2.2.2.2
    · intro q hq
      obtain ⟨i, rfl⟩ := List.mem_ofFn.1 hq
      exact (Classical.choose_spec (each i.1 i.2)).1
end Go.Proofs.Ytfdncifnokkclaa

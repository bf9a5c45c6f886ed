/-
  strings.Builder: Len.
-/
import Derived.Test.YtfglhemmccihfaaBuildK
namespace Go.Proofs.Ytfglhemmccihfaa
open Go.RowKit

/-- How many bytes there are. -/
theorem Len_k (T : TypeId) (B b : Nat) (bs : List Value) (w : World) (h : Lib.IsBuilderF T 5 B b bs w) :
    Calls Try.prog 75 #[.pointer (some ⟨b, 0, none⟩)] w fun e w' => e = .returned (.int .i64 bs.length) ∧ w = w' := by
  obtain ⟨p, v, hbk, hown⟩ : ∃ p v, w.heap[b]? = some (.cells #[p, v] T (0, 0)) ∧ w.ownsRowF B 5 1 v bs.length bs := by
    rcases h with ⟨_, v, hbk, hown, _⟩ | ⟨_, v, hbk, hown, _⟩
    · exact ⟨_, v, hbk, hown⟩
    · exact ⟨_, v, hbk, hown⟩
  have c1 : w.cell? ⟨b, 1, none⟩ = some v := RowAt.cell (i := 1) hbk rfl
  rcases hown.2 with ⟨rfl, hz⟩ | ⟨g, cap, cur, fz, rfl, _⟩
  · have HZ := Lib.hid hz
    clear hz hown hbk h
    go_enter Try.func75, Try.ntmps75
    go_wp2_with fail
    go_ret
    exact ⟨by rw [HZ.out]; rfl, rfl⟩
  · clear hown hbk h
    go_enter Try.func75, Try.ntmps75
    go_wp2_with fail
    go_ret
    exact ⟨rfl, rfl⟩
end Go.Proofs.Ytfglhemmccihfaa

/-
  Layer 6's laws: 'large'; 'awake' is true.
-/
import Derived.Test.YtfglhemmccihfaaAead
import Derived.Test.YtfglhemmccihfaaRaead
import Derived.Test.YtfglhemmccihfaaOpen
import Derived.Test.YtfglhemmccihfaaStrs
namespace Go.Proofs.Ytfglhemmccihfaa
open Go.RowKit

/-- Looked at are texts up to 2^9 bytes, and such as are too long for a seal. -/
def overA (ss : List ByteArray) : Bool := ss.any fun s => decide (512 < s.size ∧ s.size ≤ 16400)
theorem overA_no {ss : List ByteArray} (h : overA ss = false) : ∀ s ∈ ss, s.size ≤ 512 ∨ 16400 < s.size := by
  intro s hs
  unfold overA at h
  rw [List.any_eq_false] at h
  have := h s hs
  rw [decide_eq_true_eq] at this
  omega
theorem strs_new6 (w : World) (ss : List ByteArray) (T : TypeId) : StrsAt (w.alloc (.cells (ss.map Value.string).toArray T)) (some ⟨w.heap.size, 0, none⟩) ss := by
  intro i h
  refine ⟨w.heap.size, 0, rfl, by simp, ?_⟩
  rw [Nat.zero_add]
  refine RowAt.cell (RowAt.new w _ _ (0, 0)) (i := i) ?_
  rw [List.getElem?_toArray, List.getElem?_map, List.getElem?_eq_getElem h]; rfl
set_option maxHeartbeats 1000000 in
theorem large06 (ao : Option Addr) (cap : Nat) (ss : List ByteArray) (w : World) (hss : StrsAt w ao ss) (hl : ss.length ≤ 1000) :
    Calls Try.prog 14 #[.slice ao ss.length cap] w fun e w' => e = .returned (.bool (overA ss)) ∧ w = w' := by
  have HS := Lib.hid hss
  clear hss
  go_enter Try.func14, Try.ntmps14
  go_wp2_with fail
  go_loop [6] (fun i => ∃ k : Nat, k ≤ ss.length ∧ i = .int .i64 k ∧ Hid (overA ss = overA (ss.drop k))) (fun i => ss.length - (intOf i).toNat)
  case atStart => exact ⟨0, Nat.zero_le _, rfl, rfl⟩
  case round =>
    obtain ⟨k, hk, rfl, hd⟩ := hrel
    rcases Nat.lt_or_ge k ss.length with hlt | hge
    · obtain ⟨b, off, rfl, hb, hc⟩ := HS.out k hlt
      have hdr : overA (ss.drop k) = (decide (512 < ss[k].size ∧ ss[k].size ≤ 16400) || overA (ss.drop (k + 1))) := by
        rw [List.drop_eq_getElem_cons hlt]; rfl
      have HDR := Lib.hid hdr
      clear hdr
      generalize ss[k] = s at hc HDR
      by_cases h : 512 < s.size
      · have hx : decide ((512 : Int) < (s.size : Int)) = true := decide_eq_true (by omega)
        by_cases h2 : s.size ≤ 4096
        · have hx2 : decide ((s.size : Int) ≤ 4096) = true := decide_eq_true (by omega)
          have HX := Lib.hid (show decide (512 < s.size ∧ s.size ≤ 16400) = true from decide_eq_true (by omega))
          clear h h2
          go_wp2_with fail
          go_ret
          exact ⟨by rw [hd.out, HDR.out, HX.out]; rfl, rfl⟩
        · have hx2 : decide ((s.size : Int) ≤ 4096) = false := decide_eq_false (by omega)
          have hx3 : decide ((4096 : Int) < (s.size : Int)) = true := decide_eq_true (by omega)
          by_cases h3 : s.size ≤ 16400
          · have hx4 : decide ((s.size : Int) ≤ 16400) = true := decide_eq_true (by omega)
            have HX := Lib.hid (show decide (512 < s.size ∧ s.size ≤ 16400) = true from decide_eq_true (by omega))
            clear h h2 h3
            go_wp2_with fail
            go_ret
            exact ⟨by rw [hd.out, HDR.out, HX.out]; rfl, rfl⟩
          · have hx4 : decide ((s.size : Int) ≤ 16400) = false := decide_eq_false (by omega)
            have HX := Lib.hid (show decide (512 < s.size ∧ s.size ≤ 16400) = false from decide_eq_false (by omega))
            clear h h2 h3
            go_wp2_with fail
            go_round
            case rel => exact ⟨k + 1, by omega, by go_num, by unfold Hid; rw [hd.out, HDR.out, HX.out]; rfl⟩
            case measure => simp [intOf]; omega
      · have hx : decide ((512 : Int) < (s.size : Int)) = false := decide_eq_false (by omega)
        have hx3 : decide ((4096 : Int) < (s.size : Int)) = false := decide_eq_false (by omega)
        have HX := Lib.hid (show decide (512 < s.size ∧ s.size ≤ 16400) = false from decide_eq_false (by omega))
        clear h
        go_wp2_with fail
        go_round
        case rel => exact ⟨k + 1, by omega, by go_num, by unfold Hid; rw [hd.out, HDR.out, HX.out]; rfl⟩
        case measure => simp [intOf]; omega
    · have HZ := Lib.hid (show overA ss = false by
        rw [hd.out, List.drop_of_length_le hge]; rfl)
      go_wp2_with fail
      go_ret
      exact ⟨by rw [HZ.out]; rfl, rfl⟩
end Go.Proofs.Ytfglhemmccihfaa

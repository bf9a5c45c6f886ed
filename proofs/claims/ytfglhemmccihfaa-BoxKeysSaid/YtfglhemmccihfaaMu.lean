/-
Layer 7's laws, walked: BoxKeys, BoxReal.
-/
import Derived.Test.YtfglhemmccihfaaMr
import Derived.Test.YtfglhemmccihfaaMt
namespace Go.Proofs.Ytfglhemmccihfaa
open Go.RowKit

set_option maxRecDepth 100000 in
set_option maxHeartbeats 2000000 in
theorem BoxKeys_w (master domain : ByteArray) (epoch : BitVec 64) (w : World) : Calls Try.prog 9 #[.string master, .string domain, .int .u64 (bvi epoch)] w fun e w' => e = .returned (.bool true) ∧ Below w.heap.size w w' := by
  by_cases h1 : 100 < master.size
  · have g1 : decide ((100 : Int) < (master.size : Int)) = true := decide_eq_true (by omega)
    clear h1
    go_enter Try.func9, Try.ntmps9
    go_wp2_with fail
    refine (awake07 _).mono ?_
    rintro e w1 ⟨rfl, hb1⟩
    have HB1 := Lib.hid hb1
    clear hb1
    go_wp2_with fail
    go_ret
    exact ⟨rfl, HB1.out⟩
  have g1 : decide ((100 : Int) < (master.size : Int)) = false := decide_eq_false (by omega)
  by_cases h2 : 500 < domain.size
  · have g2 : decide ((500 : Int) < (domain.size : Int)) = true := decide_eq_true (by omega)
    clear h1 h2
    go_enter Try.func9, Try.ntmps9
    go_wp2_with fail
    refine (awake07 _).mono ?_
    rintro e w1 ⟨rfl, hb1⟩
    have HB1 := Lib.hid hb1
    clear hb1
    go_wp2_with fail
    go_ret
    exact ⟨rfl, HB1.out⟩
  have g2 : decide ((500 : Int) < (domain.size : Int)) = false := decide_eq_false (by omega)
  by_cases hok : master.size = 32 ∧ domain.size ≤ 255
  · obtain ⟨q, hq⟩ : ∃ q, Is q (keyB master.data.toList domain.data.toList epoch) := ⟨_, Is.of _⟩
    have HQ := Lib.hid hq
    have HOK := Lib.hid hok
    clear h1 h2 hq hok
    go_enter Try.func9, Try.ntmps9
    go_wp2_with fail
    refine (awake07 _).mono ?_
    rintro e w1 ⟨rfl, hb1⟩
    have HB1 := Lib.hid hb1
    clear hb1
    go_wp2_with fail
    refine (Key_ok master domain epoch HOK.out.1 HOK.out.2 q HQ.out _).mono ?_
    rintro e w2 ⟨rfl, hb2⟩
    have HB2 := Lib.hid (bthen HB1.out hb2)
    clear hb2
    go_wp2_with fail
    refine (RKey_ok master domain epoch HOK.out.1 HOK.out.2 q HQ.out _).mono ?_
    rintro e w3 ⟨rfl, hb3⟩
    have HB3 := Lib.hid (bthen HB2.out hb3)
    have hqq := seq_self q
    clear hb3
    go_wp2_with fail
    go_ret
    exact ⟨rfl, HB3.out⟩
  · have HN := Lib.hid (show master.size ≠ 32 ∨ 255 < domain.size by omega)
    clear h1 h2 hok
    go_enter Try.func9, Try.ntmps9
    go_wp2_with fail
    refine (awake07 _).mono ?_
    rintro e w1 ⟨rfl, hb1⟩
    have HB1 := Lib.hid hb1
    clear hb1
    go_wp2_with fail
    refine (Key_no master domain epoch HN.out _).mono ?_
    rintro e w2 ⟨rfl, rfl⟩
    go_wp2_with fail
    refine (RKey_no master domain epoch HN.out _).mono ?_
    rintro e w2 ⟨rfl, rfl⟩
    have hqq := seq_self ⟨#[]⟩
    go_wp2_with fail
    go_ret
    exact ⟨rfl, HB1.out⟩
end Go.Proofs.Ytfglhemmccihfaa

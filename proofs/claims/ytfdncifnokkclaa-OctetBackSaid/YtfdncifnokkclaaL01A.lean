/-
  Layer 1's laws: 'awake' is true.
-/
import Derived.Test.YtfdncifnokkclaaOctetB
import Derived.Test.YtfdncifnokkclaaRoctB
import Derived.Test.YtfdncifnokkclaaFrame
namespace Go.Proofs.Ytfdncifnokkclaa
open Go.RowKit

set_option maxRecDepth 100000 in
set_option maxHeartbeats 2000000 in
theorem awake01 (w : World) : Calls Try.prog 37 #[] w fun e w' => e = .returned (.bool true) ∧ Below w.heap.size w w' := by
  go_enter Try.func37, Try.ntmps37
  go_wp2_with fail
  refine (FromLow_ok ⟨#[2, 1]⟩ (by decide) _).mono ?_
  rintro e w1 ⟨rfl, rfl⟩
  rw [show bvi (loV (ByteArray.mk #[2, 1]).data.toList) = 258 from rfl]
  go_wp2_with fail
  refine (FromHigh_ok ⟨#[2, 1]⟩ (by decide) _).mono ?_
  rintro e w1 ⟨rfl, rfl⟩
  rw [show bvi (hiV (ByteArray.mk #[2, 1]).data.toList) = 513 from rfl]
  go_wp2_with fail
  refine (FromHigh_big ⟨#[49, 50, 51, 52, 53, 54, 55, 56, 57]⟩ (by decide) _).mono ?_
  rintro e w1 ⟨rfl, rfl⟩
  go_wp2_with fail
  refine (Xor_ok ⟨#[97, 98]⟩ ⟨#[1, 2]⟩ rfl (by decide) _).mono ?_
  rintro e w1 ⟨r1, rfl, hr1, hb1⟩
  have q1 : seq r1 ⟨#[96, 96]⟩ = true := by rw [seq_eq hr1 (Is.self _)]; rfl
  go_wp2_with fail
  refine (Xor_no ⟨#[97]⟩ ⟨#[]⟩ (by decide) _).mono ?_
  rintro e w2 ⟨rfl, rfl⟩
  go_wp2_with fail
  refine (Left_walk 1#32 33 _).mono ?_
  rintro e w2 ⟨rfl, rfl⟩
  rw [show bvi (rolI 1#32 33) = 2 from by decide +kernel]
  go_wp2_with fail
  refine (Right_walk 1#32 1 _).mono ?_
  rintro e w2 ⟨rfl, rfl⟩
  rw [show bvi (rorI 1#32 1) = 2147483648 from by decide +kernel]
  go_wp2_with fail
  refine (Low_walk 258#64 3 _).mono ?_
  rintro e w2 ⟨r2, rfl, hr2, hb2⟩
  have q2 : seq r2 ⟨#[2, 1, 0]⟩ = true := by rw [seq_eq hr2 (Is.self _)]; decide +kernel
  go_wp2_with fail
  refine (High_walk 258#64 3 _).mono ?_
  rintro e w3 ⟨r3, rfl, hr3, hb3⟩
  have q3 : seq r3 ⟨#[0, 1, 2]⟩ = true := by rw [seq_eq hr3 (Is.self _)]; decide +kernel
  go_wp2_with fail
  refine (Same_walk ⟨#[97, 98]⟩ ⟨#[97, 98]⟩ (by decide) _).mono ?_
  rintro e w4 ⟨rfl, hb4⟩
  rw [show seq (ByteArray.mk #[97, 98]) (ByteArray.mk #[97, 98]) = true from rfl]
  go_wp2_with fail
  refine (Same_walk ⟨#[97, 98]⟩ ⟨#[97, 99]⟩ (by decide) _).mono ?_
  rintro e w5 ⟨rfl, hb5⟩
  rw [show seq (ByteArray.mk #[97, 98]) (ByteArray.mk #[97, 99]) = false from rfl]
  go_wp2_with fail
  refine (Fill_walk ⟨#[97, 98, 99]⟩ 2 (by decide) (by decide) (by decide) _).mono ?_
  rintro e w6 ⟨r4, rfl, hr4, hb6⟩
  have q4 : seq r4 ⟨#[97, 98, 99, 0]⟩ = true := by rw [seq_eq hr4 (Is.self _)]; decide +kernel
  go_wp2_with fail
  go_ret
  exact ⟨rfl, bthen (bthen (bthen (bthen (bthen hb1 hb2) hb3) hb4) hb5) hb6⟩
end Go.Proofs.Ytfdncifnokkclaa

/-
  Layer 1's laws, walked: OctetTurns, OctetBytes.
-/
import Derived.Test.YtfdncifnokkclaaL01A
namespace Go.Proofs.Ytfdncifnokkclaa
open Go.RowKit

set_option maxRecDepth 100000 in
set_option maxHeartbeats 2000000 in
theorem OctetTurns_w (x : BitVec 64) (n : Int) (s : ByteArray) (hs : s.size ≤ 140737488351232) (w : World) :
    Calls Try.prog 9 #[.int .u64 (bvi x), .int .i64 n, .string s] w fun e w' => e = .returned (.bool true) ∧ Below w.heap.size w w' := by
  rcases Nat.lt_or_ge 4096 s.size with hbig | hsm
  · go_enter Try.func9, Try.ntmps9
    go_wp2_with fail
    refine (awake01 _).mono ?_
    rintro e w1 ⟨rfl, hb1⟩
    go_wp2_with fail
    go_ret
    exact ⟨rfl, hb1⟩
  · rcases Nat.lt_or_ge 8 s.size with hbig | hsm8
    · go_enter Try.func9, Try.ntmps9
      go_wp2_with fail
      refine (awake01 _).mono ?_
      rintro e w1 ⟨rfl, hb1⟩
      go_wp2_with fail
      refine (FromLow_big s hbig _).mono ?_
      rintro e w2 ⟨rfl, rfl⟩
      go_wp2_with fail
      refine (RFromLow_big s hbig hs _).mono ?_
      rintro e w2 ⟨rfl, hb2⟩
      go_wp2_with fail
      refine (FromHigh_big s hbig _).mono ?_
      rintro e w3 ⟨rfl, rfl⟩
      go_wp2_with fail
      refine (RFromHigh_big s hbig _).mono ?_
      rintro e w3 ⟨rfl, rfl⟩
      go_wp2_with fail
      refine (Left_walk _ _ _).mono ?_
      rintro e w3 ⟨rfl, rfl⟩
      go_wp2_with fail
      refine (RLeft_walk _ _ _).mono ?_
      rintro e w3 ⟨rfl, rfl⟩
      go_wp2_with fail
      refine (Right_walk _ _ _).mono ?_
      rintro e w3 ⟨rfl, rfl⟩
      go_wp2_with fail
      refine (RRight_walk _ _ _).mono ?_
      rintro e w3 ⟨rfl, rfl⟩
      go_wp2_with fail
      refine (Low_walk _ _ _).mono ?_
      rintro e w3 ⟨r1, rfl, hr1, hb3⟩
      go_wp2_with fail
      refine (RLow_walk _ _ _).mono ?_
      rintro e w4 ⟨r2, rfl, hr2, hb4⟩
      have q1 := seq_is hr1 hr2
      go_wp2_with fail
      refine (High_walk _ _ _).mono ?_
      rintro e w5 ⟨r3, rfl, hr3, hb5⟩
      go_wp2_with fail
      refine (RHigh_walk _ _ _).mono ?_
      rintro e w6 ⟨r4, rfl, hr4, hb6⟩
      have q2 := seq_is hr3 hr4
      go_wp2_with fail
      go_ret
      exact ⟨rfl, bthen (bthen (bthen (bthen (bthen hb1 hb2) hb3) hb4) hb5) hb6⟩
    · go_enter Try.func9, Try.ntmps9
      go_wp2_with fail
      refine (awake01 _).mono ?_
      rintro e w1 ⟨rfl, hb1⟩
      go_wp2_with fail
      refine (FromLow_ok s hsm8 _).mono ?_
      rintro e w2 ⟨rfl, rfl⟩
      go_wp2_with fail
      refine (RFromLow_ok s hsm8 _).mono ?_
      rintro e w2 ⟨rfl, hb2⟩
      go_wp2_with fail
      refine (FromHigh_ok s hsm8 _).mono ?_
      rintro e w3 ⟨rfl, rfl⟩
      go_wp2_with fail
      refine (RFromHigh_ok s hsm8 _).mono ?_
      rintro e w3 ⟨rfl, rfl⟩
      go_wp2_with fail
      refine (Left_walk _ _ _).mono ?_
      rintro e w3 ⟨rfl, rfl⟩
      go_wp2_with fail
      refine (RLeft_walk _ _ _).mono ?_
      rintro e w3 ⟨rfl, rfl⟩
      go_wp2_with fail
      refine (Right_walk _ _ _).mono ?_
      rintro e w3 ⟨rfl, rfl⟩
      go_wp2_with fail
      refine (RRight_walk _ _ _).mono ?_
      rintro e w3 ⟨rfl, rfl⟩
      go_wp2_with fail
      refine (Low_walk _ _ _).mono ?_
      rintro e w3 ⟨r1, rfl, hr1, hb3⟩
      go_wp2_with fail
      refine (RLow_walk _ _ _).mono ?_
      rintro e w4 ⟨r2, rfl, hr2, hb4⟩
      have q1 := seq_is hr1 hr2
      go_wp2_with fail
      refine (High_walk _ _ _).mono ?_
      rintro e w5 ⟨r3, rfl, hr3, hb5⟩
      go_wp2_with fail
      refine (RHigh_walk _ _ _).mono ?_
      rintro e w6 ⟨r4, rfl, hr4, hb6⟩
      have q2 := seq_is hr3 hr4
      go_wp2_with fail
      go_ret
      exact ⟨rfl, bthen (bthen (bthen (bthen (bthen hb1 hb2) hb3) hb4) hb5) hb6⟩
end Go.Proofs.Ytfdncifnokkclaa

/-
  Reference 02 (sha): choice, most.
-/
import Derived.Test.YtdfgcjjaiggpkaaPlainS
import Derived.Test.YtdfgcjjaiggpkaaRoctB
namespace Go.Proofs.Ytdfgcjjaiggpkaa
open Go.RowKit

set_option maxHeartbeats 400000 in
theorem choice_walk (e f g : BitVec 32) (w : World) : Calls Try.prog 48 #[.int .u32 (bvi e), .int .u32 (bvi f), .int .u32 (bvi g)] w fun r w' => r = .returned (.int .u32 (bvi (chooseB e f g))) ∧ w = w' := by
  rw [← chooseB_ref]
  go_enter Try.func48, Try.ntmps48
  go_wp2_with fail
  go_ret
  exact ⟨rfl, rfl⟩
set_option maxHeartbeats 400000 in
theorem most_walk (a b c : BitVec 32) (w : World) : Calls Try.prog 49 #[.int .u32 (bvi a), .int .u32 (bvi b), .int .u32 (bvi c)] w fun r w' => r = .returned (.int .u32 (bvi (majorB a b c))) ∧ w = w' := by
  rw [← majorB_ref]
  go_enter Try.func49, Try.ntmps49
  go_wp2_with fail
  go_ret
  exact ⟨rfl, rfl⟩
end Go.Proofs.Ytdfgcjjaiggpkaa

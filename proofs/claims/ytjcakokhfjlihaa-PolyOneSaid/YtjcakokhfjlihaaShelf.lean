/-
  strings.Repeat, by the kit's contract, laid at this translation.
-/
import Derived.Shelf.Strings.Repeat
import Derived.Test.YtjcakokhfjlihaaProg
import Derived.Test.YtjcakokhfjlihaaPlain
namespace Go.Proofs.Ytjcakokhfjlihaa
open Go.Shelf

open Go.RowKit Go.Lib in
theorem repeatL_one (b : UInt8) (c : Nat) : Lib.repeatL [b] c = List.replicate c b := by
  induction c with
  | zero => rfl
  | succ n ih => simp [Lib.repeatL, ih, List.replicate_succ]
end Go.Proofs.Ytjcakokhfjlihaa

/-
  No cell of these rows narrows 'for every input' (looked for: loops, veiled, ifaces, maps, wideKeys, modest, calm, conditions, laid).
  DERIVED. THE GIVEN ROWS OF THIS SEAT. 12 by the template 'for every input the law returns true; each argument reads behind the call as it read before'; 0 by the template 'total and deterministic' (their statements: YtjcakokhfjlihaaTotals.lean).
  GIVEN WITH THE SEED: the statements are not yours to turn. If you find one false, say at which input.
  Laid BY PROGRAM, IN A SANDBOX (cutbox-rows.mjs): the forced cells as the released guide's own fill.sh prints them over the translation c094995a10dea081… (all of the seat's roots in one cut). By AI agents, Wed Nov 11 2026. No macro, syntax, notation, axiom, sorry.
-/
import Derived.Test.YtjcakokhfjlihaaChecked
import GoSem.Claim
import GoSem.ClaimJoined
import GoSem.ClaimMapViews
import Derived.JoinedTies
import Derived.KernelRfl
namespace Go.Proofs.Ytjcakokhfjlihaa
/- THE CELL 'sum', in the pinned program and in every row, IS THE sha256 OF THE DUMP (.gsa) THAT YtjcakokhfjlihaaProg.lean LOADS. Nothing in Lean hashes anything: it is a label: what it is worth is what the hold of that sum in a sandbox is worth. -/
noncomputable def Try.pinned : Pinned := { name := "ytjcakokhfjlihaa", sum := "c094995a10dea0810c36ee9a6d98eda80cb815765274cb7026678295f7f9634c", checked := Try.checked }
namespace Rows
def none {H : Type} : Left H := { results := [], args := [] }

/-- 'posthornlaw04.ChachaTells': WHATEVER THE INPUT: true; the input reads as it did. -/
def chachaTellsSpec : ChangeSpec := { name := "chachaTells", fn := fun _ => fun
  | [d1, d2, d3, d4] => { results := [.lit (.bool true)], args := [d1, d2, d3, d4] }
  | _ => none }
def chachaTellsRow : OpenClaim := { program := "ytjcakokhfjlihaa", sum := "c094995a10dea0810c36ee9a6d98eda80cb815765274cb7026678295f7f9634c", func := "posthorn/posthornlaw04.ChachaTells", spec := "chachaTells", inPlace := ["internal/abi.NoEscape"], apart := false }
def ChachaTellsSaid : Prop := chachaTellsRow.holds Try.pinned (OpenSpec.ofChange chachaTellsSpec)

/-- ITS FALSE NEIGHBOUR: 'it returns false'. Refute it at one input. -/
def chachaTellsWrong : ChangeSpec := { name := "chachaTells", fn := fun _ => fun
  | [d1, d2, d3, d4] => { results := [.lit (.bool false)], args := [d1, d2, d3, d4] }
  | _ => none }
def ChachaTellsWrongFalsely : Prop := chachaTellsRow.holds Try.pinned (OpenSpec.ofChange chachaTellsWrong)

/-- 'posthornlaw04.ChachaStreams': WHATEVER THE INPUT: true; the input reads as it did. -/
def chachaStreamsSpec : ChangeSpec := { name := "chachaStreams", fn := fun _ => fun
  | [d1, d2, d3, d4, d5] => { results := [.lit (.bool true)], args := [d1, d2, d3, d4, d5] }
  | _ => none }
def chachaStreamsRow : OpenClaim := { program := "ytjcakokhfjlihaa", sum := "c094995a10dea0810c36ee9a6d98eda80cb815765274cb7026678295f7f9634c", func := "posthorn/posthornlaw04.ChachaStreams", spec := "chachaStreams", inPlace := ["internal/abi.NoEscape"], apart := false }
def ChachaStreamsSaid : Prop := chachaStreamsRow.holds Try.pinned (OpenSpec.ofChange chachaStreamsSpec)

/-- ITS FALSE NEIGHBOUR: 'it returns false'. Refute it at one input. -/
def chachaStreamsWrong : ChangeSpec := { name := "chachaStreams", fn := fun _ => fun
  | [d1, d2, d3, d4, d5] => { results := [.lit (.bool false)], args := [d1, d2, d3, d4, d5] }
  | _ => none }
def ChachaStreamsWrongFalsely : Prop := chachaStreamsRow.holds Try.pinned (OpenSpec.ofChange chachaStreamsWrong)

/-- 'posthornlaw04.ChachaBack': WHATEVER THE INPUT: true; the input reads as it did. -/
def chachaBackSpec : ChangeSpec := { name := "chachaBack", fn := fun _ => fun
  | [d1, d2, d3, d4] => { results := [.lit (.bool true)], args := [d1, d2, d3, d4] }
  | _ => none }
def chachaBackRow : OpenClaim := { program := "ytjcakokhfjlihaa", sum := "c094995a10dea0810c36ee9a6d98eda80cb815765274cb7026678295f7f9634c", func := "posthorn/posthornlaw04.ChachaBack", spec := "chachaBack", inPlace := ["internal/abi.NoEscape"], apart := false }
def ChachaBackSaid : Prop := chachaBackRow.holds Try.pinned (OpenSpec.ofChange chachaBackSpec)

/-- ITS FALSE NEIGHBOUR: 'it returns false'. Refute it at one input. -/
def chachaBackWrong : ChangeSpec := { name := "chachaBack", fn := fun _ => fun
  | [d1, d2, d3, d4] => { results := [.lit (.bool false)], args := [d1, d2, d3, d4] }
  | _ => none }
def ChachaBackWrongFalsely : Prop := chachaBackRow.holds Try.pinned (OpenSpec.ofChange chachaBackWrong)

/-- 'posthornlaw04.ChachaRest': WHATEVER THE INPUT: true; the input reads as it did. -/
def chachaRestSpec : ChangeSpec := { name := "chachaRest", fn := fun _ => fun
  | [d1, d2, d3, d4, d5] => { results := [.lit (.bool true)], args := [d1, d2, d3, d4, d5] }
  | _ => none }
def chachaRestRow : OpenClaim := { program := "ytjcakokhfjlihaa", sum := "c094995a10dea0810c36ee9a6d98eda80cb815765274cb7026678295f7f9634c", func := "posthorn/posthornlaw04.ChachaRest", spec := "chachaRest", inPlace := ["internal/abi.NoEscape"], apart := false }
def ChachaRestSaid : Prop := chachaRestRow.holds Try.pinned (OpenSpec.ofChange chachaRestSpec)

/-- ITS FALSE NEIGHBOUR: 'it returns false'. Refute it at one input. -/
def chachaRestWrong : ChangeSpec := { name := "chachaRest", fn := fun _ => fun
  | [d1, d2, d3, d4, d5] => { results := [.lit (.bool false)], args := [d1, d2, d3, d4, d5] }
  | _ => none }
def ChachaRestWrongFalsely : Prop := chachaRestRow.holds Try.pinned (OpenSpec.ofChange chachaRestWrong)

/-- 'posthornlaw04.ChachaStirs': WHATEVER THE INPUT: true; the input reads as it did. -/
def chachaStirsSpec : ChangeSpec := { name := "chachaStirs", fn := fun _ => fun
  | [d] => { results := [.lit (.bool true)], args := [d] }
  | _ => none }
def chachaStirsRow : OpenClaim := { program := "ytjcakokhfjlihaa", sum := "c094995a10dea0810c36ee9a6d98eda80cb815765274cb7026678295f7f9634c", func := "posthorn/posthornlaw04.ChachaStirs", spec := "chachaStirs", inPlace := ["internal/abi.NoEscape"], unfollowed := true, recurses := true, apart := false }
def ChachaStirsSaid : Prop := chachaStirsRow.holds Try.pinned (OpenSpec.ofChange chachaStirsSpec)

/-- ITS FALSE NEIGHBOUR: 'it returns false'. Refute it at one input. -/
def chachaStirsWrong : ChangeSpec := { name := "chachaStirs", fn := fun _ => fun
  | [d] => { results := [.lit (.bool false)], args := [d] }
  | _ => none }
def ChachaStirsWrongFalsely : Prop := chachaStirsRow.holds Try.pinned (OpenSpec.ofChange chachaStirsWrong)

/-- 'posthornlaw04.ChachaSizes': WHATEVER THE INPUT: true; the input reads as it did. -/
def chachaSizesSpec : ChangeSpec := { name := "chachaSizes", fn := fun _ => fun
  | [d1, d2, d3, d4] => { results := [.lit (.bool true)], args := [d1, d2, d3, d4] }
  | _ => none }
def chachaSizesRow : OpenClaim := { program := "ytjcakokhfjlihaa", sum := "c094995a10dea0810c36ee9a6d98eda80cb815765274cb7026678295f7f9634c", func := "posthorn/posthornlaw04.ChachaSizes", spec := "chachaSizes", inPlace := ["internal/abi.NoEscape"], apart := false }
def ChachaSizesSaid : Prop := chachaSizesRow.holds Try.pinned (OpenSpec.ofChange chachaSizesSpec)

/-- ITS FALSE NEIGHBOUR: 'it returns false'. Refute it at one input. -/
def chachaSizesWrong : ChangeSpec := { name := "chachaSizes", fn := fun _ => fun
  | [d1, d2, d3, d4] => { results := [.lit (.bool false)], args := [d1, d2, d3, d4] }
  | _ => none }
def ChachaSizesWrongFalsely : Prop := chachaSizesRow.holds Try.pinned (OpenSpec.ofChange chachaSizesWrong)

/-- 'posthornlaw05.PolyTells': WHATEVER THE INPUT: true; the input reads as it did. -/
def polyTellsSpec : ChangeSpec := { name := "polyTells", fn := fun _ => fun
  | [d1, d2, d3] => { results := [.lit (.bool true)], args := [d1, d2, d3] }
  | _ => none }
def polyTellsRow : OpenClaim := { program := "ytjcakokhfjlihaa", sum := "c094995a10dea0810c36ee9a6d98eda80cb815765274cb7026678295f7f9634c", func := "posthorn/posthornlaw05.PolyTells", spec := "polyTells", apart := false }
def PolyTellsSaid : Prop := polyTellsRow.holds Try.pinned (OpenSpec.ofChange polyTellsSpec)

/-- ITS FALSE NEIGHBOUR: 'it returns false'. Refute it at one input. -/
def polyTellsWrong : ChangeSpec := { name := "polyTells", fn := fun _ => fun
  | [d1, d2, d3] => { results := [.lit (.bool false)], args := [d1, d2, d3] }
  | _ => none }
def PolyTellsWrongFalsely : Prop := polyTellsRow.holds Try.pinned (OpenSpec.ofChange polyTellsWrong)

/-- 'posthornlaw05.PolyParts': WHATEVER THE INPUT: true; the input reads as it did. -/
def polyPartsSpec : ChangeSpec := { name := "polyParts", fn := fun _ => fun
  | [d1, d2] => { results := [.lit (.bool true)], args := [d1, d2] }
  | _ => none }
def polyPartsRow : OpenClaim := { program := "ytjcakokhfjlihaa", sum := "c094995a10dea0810c36ee9a6d98eda80cb815765274cb7026678295f7f9634c", func := "posthorn/posthornlaw05.PolyParts", spec := "polyParts", apart := false }
def PolyPartsSaid : Prop := polyPartsRow.holds Try.pinned (OpenSpec.ofChange polyPartsSpec)

/-- ITS FALSE NEIGHBOUR: 'it returns false'. Refute it at one input. -/
def polyPartsWrong : ChangeSpec := { name := "polyParts", fn := fun _ => fun
  | [d1, d2] => { results := [.lit (.bool false)], args := [d1, d2] }
  | _ => none }
def PolyPartsWrongFalsely : Prop := polyPartsRow.holds Try.pinned (OpenSpec.ofChange polyPartsWrong)

/-- 'posthornlaw05.PolyClamps': WHATEVER THE INPUT: true; the input reads as it did. -/
def polyClampsSpec : ChangeSpec := { name := "polyClamps", fn := fun _ => fun
  | [d1, d2] => { results := [.lit (.bool true)], args := [d1, d2] }
  | _ => none }
def polyClampsRow : OpenClaim := { program := "ytjcakokhfjlihaa", sum := "c094995a10dea0810c36ee9a6d98eda80cb815765274cb7026678295f7f9634c", func := "posthorn/posthornlaw05.PolyClamps", spec := "polyClamps", apart := false }
def PolyClampsSaid : Prop := polyClampsRow.holds Try.pinned (OpenSpec.ofChange polyClampsSpec)

/-- ITS FALSE NEIGHBOUR: 'it returns false'. Refute it at one input. -/
def polyClampsWrong : ChangeSpec := { name := "polyClamps", fn := fun _ => fun
  | [d1, d2] => { results := [.lit (.bool false)], args := [d1, d2] }
  | _ => none }
def PolyClampsWrongFalsely : Prop := polyClampsRow.holds Try.pinned (OpenSpec.ofChange polyClampsWrong)

/-- 'posthornlaw05.PolyAdds': WHATEVER THE INPUT: true; the input reads as it did. -/
def polyAddsSpec : ChangeSpec := { name := "polyAdds", fn := fun _ => fun
  | [d1, d2, d3] => { results := [.lit (.bool true)], args := [d1, d2, d3] }
  | _ => none }
def polyAddsRow : OpenClaim := { program := "ytjcakokhfjlihaa", sum := "c094995a10dea0810c36ee9a6d98eda80cb815765274cb7026678295f7f9634c", func := "posthorn/posthornlaw05.PolyAdds", spec := "polyAdds", apart := false }
def PolyAddsSaid : Prop := polyAddsRow.holds Try.pinned (OpenSpec.ofChange polyAddsSpec)

/-- ITS FALSE NEIGHBOUR: 'it returns false'. Refute it at one input. -/
def polyAddsWrong : ChangeSpec := { name := "polyAdds", fn := fun _ => fun
  | [d1, d2, d3] => { results := [.lit (.bool false)], args := [d1, d2, d3] }
  | _ => none }
def PolyAddsWrongFalsely : Prop := polyAddsRow.holds Try.pinned (OpenSpec.ofChange polyAddsWrong)

/-- 'posthornlaw05.PolyOne': WHATEVER THE INPUT: true; the input reads as it did. -/
def polyOneSpec : ChangeSpec := { name := "polyOne", fn := fun _ => fun
  | [d1, d2] => { results := [.lit (.bool true)], args := [d1, d2] }
  | _ => none }
def polyOneRow : OpenClaim := { program := "ytjcakokhfjlihaa", sum := "c094995a10dea0810c36ee9a6d98eda80cb815765274cb7026678295f7f9634c", func := "posthorn/posthornlaw05.PolyOne", spec := "polyOne", apart := false }
def PolyOneSaid : Prop := polyOneRow.holds Try.pinned (OpenSpec.ofChange polyOneSpec)

/-- ITS FALSE NEIGHBOUR: 'it returns false'. Refute it at one input. -/
def polyOneWrong : ChangeSpec := { name := "polyOne", fn := fun _ => fun
  | [d1, d2] => { results := [.lit (.bool false)], args := [d1, d2] }
  | _ => none }
def PolyOneWrongFalsely : Prop := polyOneRow.holds Try.pinned (OpenSpec.ofChange polyOneWrong)

/-- 'posthornlaw05.PolySizes': WHATEVER THE INPUT: true; the input reads as it did. -/
def polySizesSpec : ChangeSpec := { name := "polySizes", fn := fun _ => fun
  | [d1, d2] => { results := [.lit (.bool true)], args := [d1, d2] }
  | _ => none }
def polySizesRow : OpenClaim := { program := "ytjcakokhfjlihaa", sum := "c094995a10dea0810c36ee9a6d98eda80cb815765274cb7026678295f7f9634c", func := "posthorn/posthornlaw05.PolySizes", spec := "polySizes", apart := false }
def PolySizesSaid : Prop := polySizesRow.holds Try.pinned (OpenSpec.ofChange polySizesSpec)

/-- ITS FALSE NEIGHBOUR: 'it returns false'. Refute it at one input. -/
def polySizesWrong : ChangeSpec := { name := "polySizes", fn := fun _ => fun
  | [d1, d2] => { results := [.lit (.bool false)], args := [d1, d2] }
  | _ => none }
def PolySizesWrongFalsely : Prop := polySizesRow.holds Try.pinned (OpenSpec.ofChange polySizesWrong)

/- THE SECOND FORM. 'bulk': how many values and letters a reading holds, each counted each time it is reached (what is shared counts as often as it is met; a slice's spare places count too). A statement '..UptoSaid' is the law's where the arguments, and the package variables that the reading takes, are together of bulk at most 1048576: NARROWER than '..Said'. Prove '..Said' where nothing that the law and all that it calls make is longer than what came in: it says more and counts as full. Else prove '..UptoSaid'. A law counts once. -/
mutual
def uptoBulk {H : Type} : DataW H → Nat
  | .lit (.string bytes) => bytes.length + 1
  | .lit _ => 1
  | .nil => 1
  | .ptr d => uptoBulk d + 1
  | .slice elems spare => uptoBulkAll elems + uptoBulkAll spare + 1
  | .agg parts => uptoBulkAll parts + 1
  | .iface _ d => uptoBulk d + 1
  | .map entries => uptoBulkEntries entries + 1
  | .held _ => 1
def uptoBulkAll {H : Type} : List (DataW H) → Nat
  | [] => 0
  | d :: r => uptoBulk d + uptoBulkAll r
def uptoBulkEntries {H : Type} : List (Lit × DataW H) → Nat
  | [] => 0
  | x :: r => uptoBulkEntry x + uptoBulkEntries r
def uptoBulkEntry {H : Type} : Lit × DataW H → Nat
  | (.string bytes, d) => bytes.length + uptoBulk d + 1
  | (_, d) => uptoBulk d + 1
 end
def uptoSmall : (H : Type) → List (DataW H) → Bool := fun _ ds => decide (uptoBulkAll ds ≤ 1048576)
def OpenSpec.upto (s : _root_.Go.ChangeSpec) : _root_.Go.OpenSpec := { _root_.Go.OpenSpec.ofChange s with cond := some uptoSmall }

/-- 'posthornlaw04.ChachaTells', WHERE WHAT IT READS IS OF BULK AT MOST 1048576: true; the input reads as it did. -/
def chachaTellsUptoRow : OpenClaim := { program := "ytjcakokhfjlihaa", sum := "c094995a10dea0810c36ee9a6d98eda80cb815765274cb7026678295f7f9634c", func := "posthorn/posthornlaw04.ChachaTells", spec := "chachaTells", inPlace := ["internal/abi.NoEscape"], apart := false, narrowed := true }
def ChachaTellsUptoSaid : Prop := chachaTellsUptoRow.holds Try.pinned (OpenSpec.upto chachaTellsSpec)

/-- 'posthornlaw04.ChachaStreams', WHERE WHAT IT READS IS OF BULK AT MOST 1048576: true; the input reads as it did. -/
def chachaStreamsUptoRow : OpenClaim := { program := "ytjcakokhfjlihaa", sum := "c094995a10dea0810c36ee9a6d98eda80cb815765274cb7026678295f7f9634c", func := "posthorn/posthornlaw04.ChachaStreams", spec := "chachaStreams", inPlace := ["internal/abi.NoEscape"], apart := false, narrowed := true }
def ChachaStreamsUptoSaid : Prop := chachaStreamsUptoRow.holds Try.pinned (OpenSpec.upto chachaStreamsSpec)

/-- 'posthornlaw04.ChachaBack', WHERE WHAT IT READS IS OF BULK AT MOST 1048576: true; the input reads as it did. -/
def chachaBackUptoRow : OpenClaim := { program := "ytjcakokhfjlihaa", sum := "c094995a10dea0810c36ee9a6d98eda80cb815765274cb7026678295f7f9634c", func := "posthorn/posthornlaw04.ChachaBack", spec := "chachaBack", inPlace := ["internal/abi.NoEscape"], apart := false, narrowed := true }
def ChachaBackUptoSaid : Prop := chachaBackUptoRow.holds Try.pinned (OpenSpec.upto chachaBackSpec)

/-- 'posthornlaw04.ChachaRest', WHERE WHAT IT READS IS OF BULK AT MOST 1048576: true; the input reads as it did. -/
def chachaRestUptoRow : OpenClaim := { program := "ytjcakokhfjlihaa", sum := "c094995a10dea0810c36ee9a6d98eda80cb815765274cb7026678295f7f9634c", func := "posthorn/posthornlaw04.ChachaRest", spec := "chachaRest", inPlace := ["internal/abi.NoEscape"], apart := false, narrowed := true }
def ChachaRestUptoSaid : Prop := chachaRestUptoRow.holds Try.pinned (OpenSpec.upto chachaRestSpec)

/-- 'posthornlaw04.ChachaStirs', WHERE WHAT IT READS IS OF BULK AT MOST 1048576: true; the input reads as it did. -/
def chachaStirsUptoRow : OpenClaim := { program := "ytjcakokhfjlihaa", sum := "c094995a10dea0810c36ee9a6d98eda80cb815765274cb7026678295f7f9634c", func := "posthorn/posthornlaw04.ChachaStirs", spec := "chachaStirs", inPlace := ["internal/abi.NoEscape"], unfollowed := true, recurses := true, apart := false, narrowed := true }
def ChachaStirsUptoSaid : Prop := chachaStirsUptoRow.holds Try.pinned (OpenSpec.upto chachaStirsSpec)

/-- 'posthornlaw04.ChachaSizes', WHERE WHAT IT READS IS OF BULK AT MOST 1048576: true; the input reads as it did. -/
def chachaSizesUptoRow : OpenClaim := { program := "ytjcakokhfjlihaa", sum := "c094995a10dea0810c36ee9a6d98eda80cb815765274cb7026678295f7f9634c", func := "posthorn/posthornlaw04.ChachaSizes", spec := "chachaSizes", inPlace := ["internal/abi.NoEscape"], apart := false, narrowed := true }
def ChachaSizesUptoSaid : Prop := chachaSizesUptoRow.holds Try.pinned (OpenSpec.upto chachaSizesSpec)

/-- 'posthornlaw05.PolyTells', WHERE WHAT IT READS IS OF BULK AT MOST 1048576: true; the input reads as it did. -/
def polyTellsUptoRow : OpenClaim := { program := "ytjcakokhfjlihaa", sum := "c094995a10dea0810c36ee9a6d98eda80cb815765274cb7026678295f7f9634c", func := "posthorn/posthornlaw05.PolyTells", spec := "polyTells", apart := false, narrowed := true }
def PolyTellsUptoSaid : Prop := polyTellsUptoRow.holds Try.pinned (OpenSpec.upto polyTellsSpec)

/-- 'posthornlaw05.PolyParts', WHERE WHAT IT READS IS OF BULK AT MOST 1048576: true; the input reads as it did. -/
def polyPartsUptoRow : OpenClaim := { program := "ytjcakokhfjlihaa", sum := "c094995a10dea0810c36ee9a6d98eda80cb815765274cb7026678295f7f9634c", func := "posthorn/posthornlaw05.PolyParts", spec := "polyParts", apart := false, narrowed := true }
def PolyPartsUptoSaid : Prop := polyPartsUptoRow.holds Try.pinned (OpenSpec.upto polyPartsSpec)

/-- 'posthornlaw05.PolyClamps', WHERE WHAT IT READS IS OF BULK AT MOST 1048576: true; the input reads as it did. -/
def polyClampsUptoRow : OpenClaim := { program := "ytjcakokhfjlihaa", sum := "c094995a10dea0810c36ee9a6d98eda80cb815765274cb7026678295f7f9634c", func := "posthorn/posthornlaw05.PolyClamps", spec := "polyClamps", apart := false, narrowed := true }
def PolyClampsUptoSaid : Prop := polyClampsUptoRow.holds Try.pinned (OpenSpec.upto polyClampsSpec)

/-- 'posthornlaw05.PolyAdds', WHERE WHAT IT READS IS OF BULK AT MOST 1048576: true; the input reads as it did. -/
def polyAddsUptoRow : OpenClaim := { program := "ytjcakokhfjlihaa", sum := "c094995a10dea0810c36ee9a6d98eda80cb815765274cb7026678295f7f9634c", func := "posthorn/posthornlaw05.PolyAdds", spec := "polyAdds", apart := false, narrowed := true }
def PolyAddsUptoSaid : Prop := polyAddsUptoRow.holds Try.pinned (OpenSpec.upto polyAddsSpec)

/-- 'posthornlaw05.PolyOne', WHERE WHAT IT READS IS OF BULK AT MOST 1048576: true; the input reads as it did. -/
def polyOneUptoRow : OpenClaim := { program := "ytjcakokhfjlihaa", sum := "c094995a10dea0810c36ee9a6d98eda80cb815765274cb7026678295f7f9634c", func := "posthorn/posthornlaw05.PolyOne", spec := "polyOne", apart := false, narrowed := true }
def PolyOneUptoSaid : Prop := polyOneUptoRow.holds Try.pinned (OpenSpec.upto polyOneSpec)

/-- 'posthornlaw05.PolySizes', WHERE WHAT IT READS IS OF BULK AT MOST 1048576: true; the input reads as it did. -/
def polySizesUptoRow : OpenClaim := { program := "ytjcakokhfjlihaa", sum := "c094995a10dea0810c36ee9a6d98eda80cb815765274cb7026678295f7f9634c", func := "posthorn/posthornlaw05.PolySizes", spec := "polySizes", apart := false, narrowed := true }
def PolySizesUptoSaid : Prop := polySizesUptoRow.holds Try.pinned (OpenSpec.upto polySizesSpec)

end Rows
end Go.Proofs.Ytjcakokhfjlihaa

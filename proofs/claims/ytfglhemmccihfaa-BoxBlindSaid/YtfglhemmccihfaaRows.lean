/-
  No cell of these rows narrows 'for every input' (looked for: loops, veiled, ifaces, maps, wideKeys, modest, calm, conditions, laid).
  DERIVED. THE GIVEN ROWS OF THIS SEAT. 10 by the template 'for every input the law returns true; each argument reads behind the call as it read before'; 0 by the template 'total and deterministic' (their statements: YtfglhemmccihfaaTotals.lean).
  GIVEN WITH THE SEED: the statements are not yours to turn. If you find one false, say at which input.
  Laid BY PROGRAM, IN A SANDBOX (cutbox-rows.mjs): the forced cells as the released guide's own fill.sh prints them over the translation 2d0f2c882a8810c1… (all of the seat's roots in one cut). By AI agents, Wed Nov 11 2026. No macro, syntax, notation, axiom, sorry.
-/
import Derived.Test.YtfglhemmccihfaaChecked
import GoSem.Claim
import GoSem.ClaimJoined
import GoSem.ClaimMapViews
import Derived.JoinedTies
import Derived.KernelRfl
namespace Go.Proofs.Ytfglhemmccihfaa
/- THE CELL 'sum', in the pinned program and in every row, IS THE sha256 OF THE DUMP (.gsa) THAT YtfglhemmccihfaaProg.lean LOADS. Nothing in Lean hashes anything: it is a label: what it is worth is what the hold of that sum in a sandbox is worth. -/
noncomputable def Try.pinned : Pinned := { name := "ytfglhemmccihfaa", sum := "2d0f2c882a8810c183caf76480f234d6774091d401d47ae5c6b46ceafe0f828e", checked := Try.checked }
namespace Rows
def none {H : Type} : Left H := { results := [], args := [] }

/-- 'posthornlaw06.AeadSeals': WHATEVER THE INPUT: true; the input reads as it did. -/
def aeadSealsSpec : ChangeSpec := { name := "aeadSeals", fn := fun _ => fun
  | [d1, d2, d3, d4] => { results := [.lit (.bool true)], args := [d1, d2, d3, d4] }
  | _ => none }
def aeadSealsRow : OpenClaim := { program := "ytfglhemmccihfaa", sum := "2d0f2c882a8810c183caf76480f234d6774091d401d47ae5c6b46ceafe0f828e", func := "posthorn/posthornlaw06.AeadSeals", spec := "aeadSeals", inPlace := ["internal/abi.NoEscape", "internal/bytealg.MakeNoZero"], plainKeys := false, apart := false }
def AeadSealsSaid : Prop := aeadSealsRow.holds Try.pinned (OpenSpec.ofChange aeadSealsSpec)

/-- ITS FALSE NEIGHBOUR: 'it returns false'. Refute it at one input. -/
def aeadSealsWrong : ChangeSpec := { name := "aeadSeals", fn := fun _ => fun
  | [d1, d2, d3, d4] => { results := [.lit (.bool false)], args := [d1, d2, d3, d4] }
  | _ => none }
def AeadSealsWrongFalsely : Prop := aeadSealsRow.holds Try.pinned (OpenSpec.ofChange aeadSealsWrong)

/-- 'posthornlaw06.AeadOpens': WHATEVER THE INPUT: true; the input reads as it did. -/
def aeadOpensSpec : ChangeSpec := { name := "aeadOpens", fn := fun _ => fun
  | [d1, d2, d3, d4] => { results := [.lit (.bool true)], args := [d1, d2, d3, d4] }
  | _ => none }
def aeadOpensRow : OpenClaim := { program := "ytfglhemmccihfaa", sum := "2d0f2c882a8810c183caf76480f234d6774091d401d47ae5c6b46ceafe0f828e", func := "posthorn/posthornlaw06.AeadOpens", spec := "aeadOpens", inPlace := ["internal/abi.NoEscape", "internal/bytealg.MakeNoZero"], plainKeys := false, apart := false }
def AeadOpensSaid : Prop := aeadOpensRow.holds Try.pinned (OpenSpec.ofChange aeadOpensSpec)

/-- ITS FALSE NEIGHBOUR: 'it returns false'. Refute it at one input. -/
def aeadOpensWrong : ChangeSpec := { name := "aeadOpens", fn := fun _ => fun
  | [d1, d2, d3, d4] => { results := [.lit (.bool false)], args := [d1, d2, d3, d4] }
  | _ => none }
def AeadOpensWrongFalsely : Prop := aeadOpensRow.holds Try.pinned (OpenSpec.ofChange aeadOpensWrong)

/-- 'posthornlaw06.AeadBack': WHATEVER THE INPUT: true; the input reads as it did. -/
def aeadBackSpec : ChangeSpec := { name := "aeadBack", fn := fun _ => fun
  | [d1, d2, d3, d4, d5] => { results := [.lit (.bool true)], args := [d1, d2, d3, d4, d5] }
  | _ => none }
def aeadBackRow : OpenClaim := { program := "ytfglhemmccihfaa", sum := "2d0f2c882a8810c183caf76480f234d6774091d401d47ae5c6b46ceafe0f828e", func := "posthorn/posthornlaw06.AeadBack", spec := "aeadBack", inPlace := ["internal/abi.NoEscape", "internal/bytealg.MakeNoZero"], plainKeys := false, apart := false }
def AeadBackSaid : Prop := aeadBackRow.holds Try.pinned (OpenSpec.ofChange aeadBackSpec)

/-- ITS FALSE NEIGHBOUR: 'it returns false'. Refute it at one input. -/
def aeadBackWrong : ChangeSpec := { name := "aeadBack", fn := fun _ => fun
  | [d1, d2, d3, d4, d5] => { results := [.lit (.bool false)], args := [d1, d2, d3, d4, d5] }
  | _ => none }
def AeadBackWrongFalsely : Prop := aeadBackRow.holds Try.pinned (OpenSpec.ofChange aeadBackWrong)

/-- 'posthornlaw06.AeadTurned': WHATEVER THE INPUT: true; the input reads as it did. -/
def aeadTurnedSpec : ChangeSpec := { name := "aeadTurned", fn := fun _ => fun
  | [d1, d2, d3, d4, d5, d6] => { results := [.lit (.bool true)], args := [d1, d2, d3, d4, d5, d6] }
  | _ => none }
def aeadTurnedRow : OpenClaim := { program := "ytfglhemmccihfaa", sum := "2d0f2c882a8810c183caf76480f234d6774091d401d47ae5c6b46ceafe0f828e", func := "posthorn/posthornlaw06.AeadTurned", spec := "aeadTurned", inPlace := ["internal/abi.NoEscape", "internal/bytealg.MakeNoZero"], plainKeys := false, apart := false }
def AeadTurnedSaid : Prop := aeadTurnedRow.holds Try.pinned (OpenSpec.ofChange aeadTurnedSpec)

/-- ITS FALSE NEIGHBOUR: 'it returns false'. Refute it at one input. -/
def aeadTurnedWrong : ChangeSpec := { name := "aeadTurned", fn := fun _ => fun
  | [d1, d2, d3, d4, d5, d6] => { results := [.lit (.bool false)], args := [d1, d2, d3, d4, d5, d6] }
  | _ => none }
def AeadTurnedWrongFalsely : Prop := aeadTurnedRow.holds Try.pinned (OpenSpec.ofChange aeadTurnedWrong)

/-- 'posthornlaw06.AeadCovers': WHATEVER THE INPUT: true; the input reads as it did. -/
def aeadCoversSpec : ChangeSpec := { name := "aeadCovers", fn := fun _ => fun
  | [d1, d2, d3, d4] => { results := [.lit (.bool true)], args := [d1, d2, d3, d4] }
  | _ => none }
def aeadCoversRow : OpenClaim := { program := "ytfglhemmccihfaa", sum := "2d0f2c882a8810c183caf76480f234d6774091d401d47ae5c6b46ceafe0f828e", func := "posthorn/posthornlaw06.AeadCovers", spec := "aeadCovers", inPlace := ["internal/abi.NoEscape", "internal/bytealg.MakeNoZero"], plainKeys := false, apart := false }
def AeadCoversSaid : Prop := aeadCoversRow.holds Try.pinned (OpenSpec.ofChange aeadCoversSpec)

/-- ITS FALSE NEIGHBOUR: 'it returns false'. Refute it at one input. -/
def aeadCoversWrong : ChangeSpec := { name := "aeadCovers", fn := fun _ => fun
  | [d1, d2, d3, d4] => { results := [.lit (.bool false)], args := [d1, d2, d3, d4] }
  | _ => none }
def AeadCoversWrongFalsely : Prop := aeadCoversRow.holds Try.pinned (OpenSpec.ofChange aeadCoversWrong)

/-- 'posthornlaw06.AeadSizes': WHATEVER THE INPUT: true; the input reads as it did. -/
def aeadSizesSpec : ChangeSpec := { name := "aeadSizes", fn := fun _ => fun
  | [d1, d2, d3, d4] => { results := [.lit (.bool true)], args := [d1, d2, d3, d4] }
  | _ => none }
def aeadSizesRow : OpenClaim := { program := "ytfglhemmccihfaa", sum := "2d0f2c882a8810c183caf76480f234d6774091d401d47ae5c6b46ceafe0f828e", func := "posthorn/posthornlaw06.AeadSizes", spec := "aeadSizes", inPlace := ["internal/abi.NoEscape", "internal/bytealg.MakeNoZero"], plainKeys := false, apart := false }
def AeadSizesSaid : Prop := aeadSizesRow.holds Try.pinned (OpenSpec.ofChange aeadSizesSpec)

/-- ITS FALSE NEIGHBOUR: 'it returns false'. Refute it at one input. -/
def aeadSizesWrong : ChangeSpec := { name := "aeadSizes", fn := fun _ => fun
  | [d1, d2, d3, d4] => { results := [.lit (.bool false)], args := [d1, d2, d3, d4] }
  | _ => none }
def AeadSizesWrongFalsely : Prop := aeadSizesRow.holds Try.pinned (OpenSpec.ofChange aeadSizesWrong)

/-- 'posthornlaw07.BoxKeys': WHATEVER THE INPUT: true; the input reads as it did. -/
def boxKeysSpec : ChangeSpec := { name := "boxKeys", fn := fun _ => fun
  | [d1, d2, d3] => { results := [.lit (.bool true)], args := [d1, d2, d3] }
  | _ => none }
def boxKeysRow : OpenClaim := { program := "ytfglhemmccihfaa", sum := "2d0f2c882a8810c183caf76480f234d6774091d401d47ae5c6b46ceafe0f828e", func := "posthorn/posthornlaw07.BoxKeys", spec := "boxKeys", inPlace := ["internal/abi.NoEscape", "internal/bytealg.MakeNoZero"], unfollowed := true, recurses := true, plainKeys := false, apart := false }
def BoxKeysSaid : Prop := boxKeysRow.holds Try.pinned (OpenSpec.ofChange boxKeysSpec)

/-- ITS FALSE NEIGHBOUR: 'it returns false'. Refute it at one input. -/
def boxKeysWrong : ChangeSpec := { name := "boxKeys", fn := fun _ => fun
  | [d1, d2, d3] => { results := [.lit (.bool false)], args := [d1, d2, d3] }
  | _ => none }
def BoxKeysWrongFalsely : Prop := boxKeysRow.holds Try.pinned (OpenSpec.ofChange boxKeysWrong)

/-- 'posthornlaw07.BoxOpens': WHATEVER THE INPUT: true; the input reads as it did. -/
def boxOpensSpec : ChangeSpec := { name := "boxOpens", fn := fun _ => fun
  | [d1, d2] => { results := [.lit (.bool true)], args := [d1, d2] }
  | _ => none }
def boxOpensRow : OpenClaim := { program := "ytfglhemmccihfaa", sum := "2d0f2c882a8810c183caf76480f234d6774091d401d47ae5c6b46ceafe0f828e", func := "posthorn/posthornlaw07.BoxOpens", spec := "boxOpens", inPlace := ["internal/abi.NoEscape", "internal/bytealg.MakeNoZero"], unfollowed := true, recurses := true, plainKeys := false, apart := false }
def BoxOpensSaid : Prop := boxOpensRow.holds Try.pinned (OpenSpec.ofChange boxOpensSpec)

/-- ITS FALSE NEIGHBOUR: 'it returns false'. Refute it at one input. -/
def boxOpensWrong : ChangeSpec := { name := "boxOpens", fn := fun _ => fun
  | [d1, d2] => { results := [.lit (.bool false)], args := [d1, d2] }
  | _ => none }
def BoxOpensWrongFalsely : Prop := boxOpensRow.holds Try.pinned (OpenSpec.ofChange boxOpensWrong)

/-- 'posthornlaw07.BoxBlind': WHATEVER THE INPUT: true; the input reads as it did. -/
def boxBlindSpec : ChangeSpec := { name := "boxBlind", fn := fun _ => fun
  | [d1, d2, d3] => { results := [.lit (.bool true)], args := [d1, d2, d3] }
  | _ => none }
def boxBlindRow : OpenClaim := { program := "ytfglhemmccihfaa", sum := "2d0f2c882a8810c183caf76480f234d6774091d401d47ae5c6b46ceafe0f828e", func := "posthorn/posthornlaw07.BoxBlind", spec := "boxBlind", inPlace := ["internal/abi.NoEscape", "internal/bytealg.MakeNoZero"], unfollowed := true, recurses := true, plainKeys := false, apart := false }
def BoxBlindSaid : Prop := boxBlindRow.holds Try.pinned (OpenSpec.ofChange boxBlindSpec)

/-- ITS FALSE NEIGHBOUR: 'it returns false'. Refute it at one input. -/
def boxBlindWrong : ChangeSpec := { name := "boxBlind", fn := fun _ => fun
  | [d1, d2, d3] => { results := [.lit (.bool false)], args := [d1, d2, d3] }
  | _ => none }
def BoxBlindWrongFalsely : Prop := boxBlindRow.holds Try.pinned (OpenSpec.ofChange boxBlindWrong)

/-- 'posthornlaw07.BoxNonces': WHATEVER THE INPUT: true; the input reads as it did. -/
def boxNoncesSpec : ChangeSpec := { name := "boxNonces", fn := fun _ => fun
  | [d1, d2] => { results := [.lit (.bool true)], args := [d1, d2] }
  | _ => none }
def boxNoncesRow : OpenClaim := { program := "ytfglhemmccihfaa", sum := "2d0f2c882a8810c183caf76480f234d6774091d401d47ae5c6b46ceafe0f828e", func := "posthorn/posthornlaw07.BoxNonces", spec := "boxNonces", inPlace := ["internal/abi.NoEscape", "internal/bytealg.MakeNoZero"], unfollowed := true, recurses := true, plainKeys := false, apart := false }
def BoxNoncesSaid : Prop := boxNoncesRow.holds Try.pinned (OpenSpec.ofChange boxNoncesSpec)

/-- ITS FALSE NEIGHBOUR: 'it returns false'. Refute it at one input. -/
def boxNoncesWrong : ChangeSpec := { name := "boxNonces", fn := fun _ => fun
  | [d1, d2] => { results := [.lit (.bool false)], args := [d1, d2] }
  | _ => none }
def BoxNoncesWrongFalsely : Prop := boxNoncesRow.holds Try.pinned (OpenSpec.ofChange boxNoncesWrong)

/- THE SECOND FORM. 'bulk': how many values and letters a reading holds, each counted each time it is reached (what is shared counts as often as it is met; a slice's spare places count too). A statement '..UptoSaid' is the law's where the arguments, and the package variables that the reading takes, are together of bulk at most 1048576: NARROWER than '..Said'. Prove '..Said' where nothing that the law and all that it calls make is longer than what came in: it says more and counts as full. Else prove '..UptoSaid'. A law counts once. -/
mutual
def uptoBulk {H : Type} : DataW H → Nat
  | .lit (.string bytes) => bytes.length + 1
  | .lit _ => 1
  | .nil => 1
  | .ptr d => uptoBulk d + 1
  | .slice elems spare => uptoBulkAll elems + uptoBulkAll spare + 1
  | .agg parts => uptoBulkAll parts + 1
  | .iface _ d => uptoBulk d + 1
  | .map entries => uptoBulkEntries entries + 1
  | .held _ => 1
def uptoBulkAll {H : Type} : List (DataW H) → Nat
  | [] => 0
  | d :: r => uptoBulk d + uptoBulkAll r
def uptoBulkEntries {H : Type} : List (Lit × DataW H) → Nat
  | [] => 0
  | x :: r => uptoBulkEntry x + uptoBulkEntries r
def uptoBulkEntry {H : Type} : Lit × DataW H → Nat
  | (.string bytes, d) => bytes.length + uptoBulk d + 1
  | (_, d) => uptoBulk d + 1
 end
def uptoSmall : (H : Type) → List (DataW H) → Bool := fun _ ds => decide (uptoBulkAll ds ≤ 1048576)
def OpenSpec.upto (s : _root_.Go.ChangeSpec) : _root_.Go.OpenSpec := { _root_.Go.OpenSpec.ofChange s with cond := some uptoSmall }

/-- 'posthornlaw06.AeadSeals', WHERE WHAT IT READS IS OF BULK AT MOST 1048576: true; the input reads as it did. -/
def aeadSealsUptoRow : OpenClaim := { program := "ytfglhemmccihfaa", sum := "2d0f2c882a8810c183caf76480f234d6774091d401d47ae5c6b46ceafe0f828e", func := "posthorn/posthornlaw06.AeadSeals", spec := "aeadSeals", inPlace := ["internal/abi.NoEscape", "internal/bytealg.MakeNoZero"], plainKeys := false, apart := false, narrowed := true }
def AeadSealsUptoSaid : Prop := aeadSealsUptoRow.holds Try.pinned (OpenSpec.upto aeadSealsSpec)

/-- 'posthornlaw06.AeadOpens', WHERE WHAT IT READS IS OF BULK AT MOST 1048576: true; the input reads as it did. -/
def aeadOpensUptoRow : OpenClaim := { program := "ytfglhemmccihfaa", sum := "2d0f2c882a8810c183caf76480f234d6774091d401d47ae5c6b46ceafe0f828e", func := "posthorn/posthornlaw06.AeadOpens", spec := "aeadOpens", inPlace := ["internal/abi.NoEscape", "internal/bytealg.MakeNoZero"], plainKeys := false, apart := false, narrowed := true }
def AeadOpensUptoSaid : Prop := aeadOpensUptoRow.holds Try.pinned (OpenSpec.upto aeadOpensSpec)

/-- 'posthornlaw06.AeadBack', WHERE WHAT IT READS IS OF BULK AT MOST 1048576: true; the input reads as it did. -/
def aeadBackUptoRow : OpenClaim := { program := "ytfglhemmccihfaa", sum := "2d0f2c882a8810c183caf76480f234d6774091d401d47ae5c6b46ceafe0f828e", func := "posthorn/posthornlaw06.AeadBack", spec := "aeadBack", inPlace := ["internal/abi.NoEscape", "internal/bytealg.MakeNoZero"], plainKeys := false, apart := false, narrowed := true }
def AeadBackUptoSaid : Prop := aeadBackUptoRow.holds Try.pinned (OpenSpec.upto aeadBackSpec)

/-- 'posthornlaw06.AeadTurned', WHERE WHAT IT READS IS OF BULK AT MOST 1048576: true; the input reads as it did. -/
def aeadTurnedUptoRow : OpenClaim := { program := "ytfglhemmccihfaa", sum := "2d0f2c882a8810c183caf76480f234d6774091d401d47ae5c6b46ceafe0f828e", func := "posthorn/posthornlaw06.AeadTurned", spec := "aeadTurned", inPlace := ["internal/abi.NoEscape", "internal/bytealg.MakeNoZero"], plainKeys := false, apart := false, narrowed := true }
def AeadTurnedUptoSaid : Prop := aeadTurnedUptoRow.holds Try.pinned (OpenSpec.upto aeadTurnedSpec)

/-- 'posthornlaw06.AeadCovers', WHERE WHAT IT READS IS OF BULK AT MOST 1048576: true; the input reads as it did. -/
def aeadCoversUptoRow : OpenClaim := { program := "ytfglhemmccihfaa", sum := "2d0f2c882a8810c183caf76480f234d6774091d401d47ae5c6b46ceafe0f828e", func := "posthorn/posthornlaw06.AeadCovers", spec := "aeadCovers", inPlace := ["internal/abi.NoEscape", "internal/bytealg.MakeNoZero"], plainKeys := false, apart := false, narrowed := true }
def AeadCoversUptoSaid : Prop := aeadCoversUptoRow.holds Try.pinned (OpenSpec.upto aeadCoversSpec)

/-- 'posthornlaw06.AeadSizes', WHERE WHAT IT READS IS OF BULK AT MOST 1048576: true; the input reads as it did. -/
def aeadSizesUptoRow : OpenClaim := { program := "ytfglhemmccihfaa", sum := "2d0f2c882a8810c183caf76480f234d6774091d401d47ae5c6b46ceafe0f828e", func := "posthorn/posthornlaw06.AeadSizes", spec := "aeadSizes", inPlace := ["internal/abi.NoEscape", "internal/bytealg.MakeNoZero"], plainKeys := false, apart := false, narrowed := true }
def AeadSizesUptoSaid : Prop := aeadSizesUptoRow.holds Try.pinned (OpenSpec.upto aeadSizesSpec)

/-- 'posthornlaw07.BoxKeys', WHERE WHAT IT READS IS OF BULK AT MOST 1048576: true; the input reads as it did. -/
def boxKeysUptoRow : OpenClaim := { program := "ytfglhemmccihfaa", sum := "2d0f2c882a8810c183caf76480f234d6774091d401d47ae5c6b46ceafe0f828e", func := "posthorn/posthornlaw07.BoxKeys", spec := "boxKeys", inPlace := ["internal/abi.NoEscape", "internal/bytealg.MakeNoZero"], unfollowed := true, recurses := true, plainKeys := false, apart := false, narrowed := true }
def BoxKeysUptoSaid : Prop := boxKeysUptoRow.holds Try.pinned (OpenSpec.upto boxKeysSpec)

/-- 'posthornlaw07.BoxOpens', WHERE WHAT IT READS IS OF BULK AT MOST 1048576: true; the input reads as it did. -/
def boxOpensUptoRow : OpenClaim := { program := "ytfglhemmccihfaa", sum := "2d0f2c882a8810c183caf76480f234d6774091d401d47ae5c6b46ceafe0f828e", func := "posthorn/posthornlaw07.BoxOpens", spec := "boxOpens", inPlace := ["internal/abi.NoEscape", "internal/bytealg.MakeNoZero"], unfollowed := true, recurses := true, plainKeys := false, apart := false, narrowed := true }
def BoxOpensUptoSaid : Prop := boxOpensUptoRow.holds Try.pinned (OpenSpec.upto boxOpensSpec)

/-- 'posthornlaw07.BoxBlind', WHERE WHAT IT READS IS OF BULK AT MOST 1048576: true; the input reads as it did. -/
def boxBlindUptoRow : OpenClaim := { program := "ytfglhemmccihfaa", sum := "2d0f2c882a8810c183caf76480f234d6774091d401d47ae5c6b46ceafe0f828e", func := "posthorn/posthornlaw07.BoxBlind", spec := "boxBlind", inPlace := ["internal/abi.NoEscape", "internal/bytealg.MakeNoZero"], unfollowed := true, recurses := true, plainKeys := false, apart := false, narrowed := true }
def BoxBlindUptoSaid : Prop := boxBlindUptoRow.holds Try.pinned (OpenSpec.upto boxBlindSpec)

/-- 'posthornlaw07.BoxNonces', WHERE WHAT IT READS IS OF BULK AT MOST 1048576: true; the input reads as it did. -/
def boxNoncesUptoRow : OpenClaim := { program := "ytfglhemmccihfaa", sum := "2d0f2c882a8810c183caf76480f234d6774091d401d47ae5c6b46ceafe0f828e", func := "posthorn/posthornlaw07.BoxNonces", spec := "boxNonces", inPlace := ["internal/abi.NoEscape", "internal/bytealg.MakeNoZero"], unfollowed := true, recurses := true, plainKeys := false, apart := false, narrowed := true }
def BoxNoncesUptoSaid : Prop := boxNoncesUptoRow.holds Try.pinned (OpenSpec.upto boxNoncesSpec)

end Rows
end Go.Proofs.Ytfglhemmccihfaa

/-
  Layer 4, the program's package chacha: Stir, places, begin.
-/
import Derived.Test.YtdfgcjjaiggpkaaPlainC
import Derived.Test.YtdfgcjjaiggpkaaRegTwo
import Derived.Test.YtdfgcjjaiggpkaaOctetB
import Derived.Deep.QuietTactic
import Derived.BigQuiet
import Derived.Great.BuildSlice
import Derived.Deep.WholeRow
namespace Go.Proofs.Ytdfgcjjaiggpkaa
open Go.RowKit

/-- Words as cells. -/
def u32c (x : BitVec 32) : Value := .int .u32 (bvi x)
def words (l : List (BitVec 32)) : List Value := l.map u32c
theorem words_length (l : List (BitVec 32)) : (words l).length = l.length := by simp [words]
/-- An array of words. -/
def wordsV (l : List (BitVec 32)) : Value := .agg (words l).toArray

/-- The places' cells. -/
def placesA : Array Value := #[.int .i64 0, .int .i64 4, .int .i64 8, .int .i64 12, .int .i64 1, .int .i64 5, .int .i64 9, .int .i64 13, .int .i64 2, .int .i64 6, .int .i64 10, .int .i64 14, .int .i64 3, .int .i64 7, .int .i64 11, .int .i64 15, .int .i64 0, .int .i64 5, .int .i64 10, .int .i64 15, .int .i64 1, .int .i64 6, .int .i64 11, .int .i64 12, .int .i64 2, .int .i64 7, .int .i64 8, .int .i64 13, .int .i64 3, .int .i64 4, .int .i64 9, .int .i64 14]
end Go.Proofs.Ytdfgcjjaiggpkaa

/- What is proved here: the walk of Open of the keyed sums. -/
import Derived.Test.YtincoocagfegfaaK7
set_option linter.unusedVariables false
set_option linter.unusedSimpArgs false
namespace Go.Proofs.Ytincoocagfegfaa
open Go.RowKit
/-- What Seal makes of a string, as bytes. -/
def sealed (key b : List UInt8) : List UInt8 := b ++ be8 (keyedSum key b)
def openOk (key s : ByteArray) : Bool := sealed key.data.toList (s.data.toList.take (s.size - 8)) == s.data.toList
def openV (key s : ByteArray) : Value := if openOk key s then .tuple #[strOf (s.data.toList.take (s.size - 8)), .int .i64 0] else .tuple #[strOf [], .int .i64 6]
end Go.Proofs.Ytincoocagfegfaa

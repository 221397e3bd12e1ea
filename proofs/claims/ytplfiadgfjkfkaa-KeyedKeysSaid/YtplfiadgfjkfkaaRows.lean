/-
  No cell of these rows narrows 'for every input' (looked for: loops, veiled, ifaces, maps, wideKeys, modest, calm, conditions, laid).
  DERIVED. THE GIVEN ROWS OF THIS SEAT. 6 by the template 'for every input the law returns true; each argument reads behind the call as it read before'; 0 by the template 'total and deterministic' (their statements: YtplfiadgfjkfkaaTotals.lean).
  GIVEN WITH THE SEED: the statements are not yours to turn. If you find one false, say at which input.
  Laid BY PROGRAM, IN A SANDBOX (cutbox-rows.mjs): the forced cells as the released guide's own fill.sh prints them over the translation 40bf7c373788bdb8… (all of the seat's roots in one cut). By AI agents, Wed Nov 11 2026. No macro, syntax, notation, axiom, sorry.
-/
import Derived.Test.YtplfiadgfjkfkaaChecked
import GoSem.Claim
import GoSem.ClaimJoined
import GoSem.ClaimMapViews
import Derived.JoinedTies
import Derived.KernelRfl
namespace Go.Proofs.Ytplfiadgfjkfkaa
/- THE CELL 'sum', in the pinned program and in every row, IS THE sha256 OF THE DUMP (.gsa) THAT YtplfiadgfjkfkaaProg.lean LOADS. Nothing in Lean hashes anything: it is a label: what it is worth is what the hold of that sum in a sandbox is worth. -/
noncomputable def Try.pinned : Pinned := { name := "ytplfiadgfjkfkaa", sum := "40bf7c373788bdb814a34415a8df7758fdd075ead7e908322e8401875a13b844", checked := Try.checked }
namespace Rows
def none {H : Type} : Left H := { results := [], args := [] }

/-- 'perigeelaw16.KeyedSums': WHATEVER THE INPUT: true; the input reads as it did. -/
def keyedSumsSpec : ChangeSpec := { name := "keyedSums", fn := fun _ => fun
  | [d1, d2] => { results := [.lit (.bool true)], args := [d1, d2] }
  | _ => none }
def keyedSumsRow : OpenClaim := { program := "ytplfiadgfjkfkaa", sum := "40bf7c373788bdb814a34415a8df7758fdd075ead7e908322e8401875a13b844", func := "perigee/perigeelaw16.KeyedSums", spec := "keyedSums", unfollowed := true, recurses := true, apart := false }
def KeyedSumsSaid : Prop := keyedSumsRow.holds Try.pinned (OpenSpec.ofChange keyedSumsSpec)

/-- ITS FALSE NEIGHBOUR: 'it returns false'. Refute it at one input. -/
def keyedSumsWrong : ChangeSpec := { name := "keyedSums", fn := fun _ => fun
  | [d1, d2] => { results := [.lit (.bool false)], args := [d1, d2] }
  | _ => none }
def KeyedSumsWrongFalsely : Prop := keyedSumsRow.holds Try.pinned (OpenSpec.ofChange keyedSumsWrong)

/-- 'perigeelaw16.KeyedOpens': WHATEVER THE INPUT: true; the input reads as it did. -/
def keyedOpensSpec : ChangeSpec := { name := "keyedOpens", fn := fun _ => fun
  | [d1, d2] => { results := [.lit (.bool true)], args := [d1, d2] }
  | _ => none }
def keyedOpensRow : OpenClaim := { program := "ytplfiadgfjkfkaa", sum := "40bf7c373788bdb814a34415a8df7758fdd075ead7e908322e8401875a13b844", func := "perigee/perigeelaw16.KeyedOpens", spec := "keyedOpens", unfollowed := true, recurses := true, apart := false }
def KeyedOpensSaid : Prop := keyedOpensRow.holds Try.pinned (OpenSpec.ofChange keyedOpensSpec)

/-- ITS FALSE NEIGHBOUR: 'it returns false'. Refute it at one input. -/
def keyedOpensWrong : ChangeSpec := { name := "keyedOpens", fn := fun _ => fun
  | [d1, d2] => { results := [.lit (.bool false)], args := [d1, d2] }
  | _ => none }
def KeyedOpensWrongFalsely : Prop := keyedOpensRow.holds Try.pinned (OpenSpec.ofChange keyedOpensWrong)

/-- 'perigeelaw16.KeyedRound': WHATEVER THE INPUT: true; the input reads as it did. -/
def keyedRoundSpec : ChangeSpec := { name := "keyedRound", fn := fun _ => fun
  | [d1, d2, d3] => { results := [.lit (.bool true)], args := [d1, d2, d3] }
  | _ => none }
def keyedRoundRow : OpenClaim := { program := "ytplfiadgfjkfkaa", sum := "40bf7c373788bdb814a34415a8df7758fdd075ead7e908322e8401875a13b844", func := "perigee/perigeelaw16.KeyedRound", spec := "keyedRound", unfollowed := true, recurses := true, apart := false }
def KeyedRoundSaid : Prop := keyedRoundRow.holds Try.pinned (OpenSpec.ofChange keyedRoundSpec)

/-- ITS FALSE NEIGHBOUR: 'it returns false'. Refute it at one input. -/
def keyedRoundWrong : ChangeSpec := { name := "keyedRound", fn := fun _ => fun
  | [d1, d2, d3] => { results := [.lit (.bool false)], args := [d1, d2, d3] }
  | _ => none }
def KeyedRoundWrongFalsely : Prop := keyedRoundRow.holds Try.pinned (OpenSpec.ofChange keyedRoundWrong)

/-- 'perigeelaw16.KeyedSealed': WHATEVER THE INPUT: true; the input reads as it did. -/
def keyedSealedSpec : ChangeSpec := { name := "keyedSealed", fn := fun _ => fun
  | [d1, d2] => { results := [.lit (.bool true)], args := [d1, d2] }
  | _ => none }
def keyedSealedRow : OpenClaim := { program := "ytplfiadgfjkfkaa", sum := "40bf7c373788bdb814a34415a8df7758fdd075ead7e908322e8401875a13b844", func := "perigee/perigeelaw16.KeyedSealed", spec := "keyedSealed", unfollowed := true, recurses := true, apart := false }
def KeyedSealedSaid : Prop := keyedSealedRow.holds Try.pinned (OpenSpec.ofChange keyedSealedSpec)

/-- ITS FALSE NEIGHBOUR: 'it returns false'. Refute it at one input. -/
def keyedSealedWrong : ChangeSpec := { name := "keyedSealed", fn := fun _ => fun
  | [d1, d2] => { results := [.lit (.bool false)], args := [d1, d2] }
  | _ => none }
def KeyedSealedWrongFalsely : Prop := keyedSealedRow.holds Try.pinned (OpenSpec.ofChange keyedSealedWrong)

/-- 'perigeelaw16.KeyedBytes': WHATEVER THE INPUT: true; the input reads as it did. -/
def keyedBytesSpec : ChangeSpec := { name := "keyedBytes", fn := fun _ => fun
  | [d1, d2] => { results := [.lit (.bool true)], args := [d1, d2] }
  | _ => none }
def keyedBytesRow : OpenClaim := { program := "ytplfiadgfjkfkaa", sum := "40bf7c373788bdb814a34415a8df7758fdd075ead7e908322e8401875a13b844", func := "perigee/perigeelaw16.KeyedBytes", spec := "keyedBytes", unfollowed := true, recurses := true, apart := false }
def KeyedBytesSaid : Prop := keyedBytesRow.holds Try.pinned (OpenSpec.ofChange keyedBytesSpec)

/-- ITS FALSE NEIGHBOUR: 'it returns false'. Refute it at one input. -/
def keyedBytesWrong : ChangeSpec := { name := "keyedBytes", fn := fun _ => fun
  | [d1, d2] => { results := [.lit (.bool false)], args := [d1, d2] }
  | _ => none }
def KeyedBytesWrongFalsely : Prop := keyedBytesRow.holds Try.pinned (OpenSpec.ofChange keyedBytesWrong)

/-- 'perigeelaw16.KeyedKeys': WHATEVER THE INPUT: true; the input reads as it did. -/
def keyedKeysSpec : ChangeSpec := { name := "keyedKeys", fn := fun _ => fun
  | [d1, d2] => { results := [.lit (.bool true)], args := [d1, d2] }
  | _ => none }
def keyedKeysRow : OpenClaim := { program := "ytplfiadgfjkfkaa", sum := "40bf7c373788bdb814a34415a8df7758fdd075ead7e908322e8401875a13b844", func := "perigee/perigeelaw16.KeyedKeys", spec := "keyedKeys", unfollowed := true, recurses := true, apart := false }
def KeyedKeysSaid : Prop := keyedKeysRow.holds Try.pinned (OpenSpec.ofChange keyedKeysSpec)

/-- ITS FALSE NEIGHBOUR: 'it returns false'. Refute it at one input. -/
def keyedKeysWrong : ChangeSpec := { name := "keyedKeys", fn := fun _ => fun
  | [d1, d2] => { results := [.lit (.bool false)], args := [d1, d2] }
  | _ => none }
def KeyedKeysWrongFalsely : Prop := keyedKeysRow.holds Try.pinned (OpenSpec.ofChange keyedKeysWrong)

/- THE SECOND FORM. 'bulk': how many values and letters a reading holds, each counted each time it is reached (what is shared counts as often as it is met; a slice's spare places count too). A statement '..UptoSaid' is the law's where the arguments, and the package variables that the reading takes, are together of bulk at most 1048576: NARROWER than '..Said'. Prove '..Said' where nothing that the law and all that it calls make is longer than what came in: it says more and counts as full. Else prove '..UptoSaid'. A law counts once. -/
mutual
def uptoBulk {H : Type} : DataW H → Nat
  | .lit (.string bytes) => bytes.length + 1
  | .lit _ => 1
  | .nil => 1
  | .ptr d => uptoBulk d + 1
  | .slice elems spare => uptoBulkAll elems + uptoBulkAll spare + 1
  | .agg parts => uptoBulkAll parts + 1
  | .iface _ d => uptoBulk d + 1
  | .map entries => uptoBulkEntries entries + 1
  | .held _ => 1
def uptoBulkAll {H : Type} : List (DataW H) → Nat
  | [] => 0
  | d :: r => uptoBulk d + uptoBulkAll r
def uptoBulkEntries {H : Type} : List (Lit × DataW H) → Nat
  | [] => 0
  | x :: r => uptoBulkEntry x + uptoBulkEntries r
def uptoBulkEntry {H : Type} : Lit × DataW H → Nat
  | (.string bytes, d) => bytes.length + uptoBulk d + 1
  | (_, d) => uptoBulk d + 1
 end
def uptoSmall : (H : Type) → List (DataW H) → Bool := fun _ ds => decide (uptoBulkAll ds ≤ 1048576)
def OpenSpec.upto (s : _root_.Go.ChangeSpec) : _root_.Go.OpenSpec := { _root_.Go.OpenSpec.ofChange s with cond := some uptoSmall }

/-- 'perigeelaw16.KeyedSums', WHERE WHAT IT READS IS OF BULK AT MOST 1048576: true; the input reads as it did. -/
def keyedSumsUptoRow : OpenClaim := { program := "ytplfiadgfjkfkaa", sum := "40bf7c373788bdb814a34415a8df7758fdd075ead7e908322e8401875a13b844", func := "perigee/perigeelaw16.KeyedSums", spec := "keyedSums", unfollowed := true, recurses := true, apart := false, narrowed := true }
def KeyedSumsUptoSaid : Prop := keyedSumsUptoRow.holds Try.pinned (OpenSpec.upto keyedSumsSpec)

/-- 'perigeelaw16.KeyedOpens', WHERE WHAT IT READS IS OF BULK AT MOST 1048576: true; the input reads as it did. -/
def keyedOpensUptoRow : OpenClaim := { program := "ytplfiadgfjkfkaa", sum := "40bf7c373788bdb814a34415a8df7758fdd075ead7e908322e8401875a13b844", func := "perigee/perigeelaw16.KeyedOpens", spec := "keyedOpens", unfollowed := true, recurses := true, apart := false, narrowed := true }
def KeyedOpensUptoSaid : Prop := keyedOpensUptoRow.holds Try.pinned (OpenSpec.upto keyedOpensSpec)

/-- 'perigeelaw16.KeyedRound', WHERE WHAT IT READS IS OF BULK AT MOST 1048576: true; the input reads as it did. -/
def keyedRoundUptoRow : OpenClaim := { program := "ytplfiadgfjkfkaa", sum := "40bf7c373788bdb814a34415a8df7758fdd075ead7e908322e8401875a13b844", func := "perigee/perigeelaw16.KeyedRound", spec := "keyedRound", unfollowed := true, recurses := true, apart := false, narrowed := true }
def KeyedRoundUptoSaid : Prop := keyedRoundUptoRow.holds Try.pinned (OpenSpec.upto keyedRoundSpec)

/-- 'perigeelaw16.KeyedSealed', WHERE WHAT IT READS IS OF BULK AT MOST 1048576: true; the input reads as it did. -/
def keyedSealedUptoRow : OpenClaim := { program := "ytplfiadgfjkfkaa", sum := "40bf7c373788bdb814a34415a8df7758fdd075ead7e908322e8401875a13b844", func := "perigee/perigeelaw16.KeyedSealed", spec := "keyedSealed", unfollowed := true, recurses := true, apart := false, narrowed := true }
def KeyedSealedUptoSaid : Prop := keyedSealedUptoRow.holds Try.pinned (OpenSpec.upto keyedSealedSpec)

/-- 'perigeelaw16.KeyedBytes', WHERE WHAT IT READS IS OF BULK AT MOST 1048576: true; the input reads as it did. -/
def keyedBytesUptoRow : OpenClaim := { program := "ytplfiadgfjkfkaa", sum := "40bf7c373788bdb814a34415a8df7758fdd075ead7e908322e8401875a13b844", func := "perigee/perigeelaw16.KeyedBytes", spec := "keyedBytes", unfollowed := true, recurses := true, apart := false, narrowed := true }
def KeyedBytesUptoSaid : Prop := keyedBytesUptoRow.holds Try.pinned (OpenSpec.upto keyedBytesSpec)

/-- 'perigeelaw16.KeyedKeys', WHERE WHAT IT READS IS OF BULK AT MOST 1048576: true; the input reads as it did. -/
def keyedKeysUptoRow : OpenClaim := { program := "ytplfiadgfjkfkaa", sum := "40bf7c373788bdb814a34415a8df7758fdd075ead7e908322e8401875a13b844", func := "perigee/perigeelaw16.KeyedKeys", spec := "keyedKeys", unfollowed := true, recurses := true, apart := false, narrowed := true }
def KeyedKeysUptoSaid : Prop := keyedKeysUptoRow.holds Try.pinned (OpenSpec.upto keyedKeysSpec)

end Rows
end Go.Proofs.Ytplfiadgfjkfkaa

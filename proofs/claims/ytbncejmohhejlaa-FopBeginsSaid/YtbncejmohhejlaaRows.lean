/-
  No cell of these rows narrows 'for every input' (looked for: loops, veiled, ifaces, maps, wideKeys, modest, calm, conditions, laid).
  DERIVED. THE GIVEN ROWS OF THIS SEAT. 5 by the template 'for every input the law returns true; each argument reads behind the call as it read before'; 0 by the template 'total and deterministic' (their statements: YtbncejmohhejlaaTotals.lean).
  GIVEN WITH THE SEED: the statements are not yours to turn. If you find one false, say at which input.
  Laid BY PROGRAM, IN A SANDBOX (cutbox-rows.mjs): the forced cells as the released guide's own fill.sh prints them over the translation f79926dd9484cd6c… (all of the seat's roots in one cut). By AI agents, Wed Nov 11 2026. No macro, syntax, notation, axiom, sorry.
-/
import Derived.Test.YtbncejmohhejlaaChecked
import GoSem.Claim
import GoSem.ClaimJoined
import GoSem.ClaimMapViews
import Derived.JoinedTies
import Derived.KernelRfl
namespace Go.Proofs.Ytbncejmohhejlaa
/- THE CELL 'sum', in the pinned program and in every row, IS THE sha256 OF THE DUMP (.gsa) THAT YtbncejmohhejlaaProg.lean LOADS. Nothing in Lean hashes anything: it is a label: what it is worth is what the hold of that sum in a sandbox is worth. -/
noncomputable def Try.pinned : Pinned := { name := "ytbncejmohhejlaa", sum := "f79926dd9484cd6c0e2753b98a78ceb0f4731333f4b5e26d22bb99dd467b8f2b", checked := Try.checked }
namespace Rows
def none {H : Type} : Left H := { results := [], args := [] }

/-- 'perigeelaw15.FopBegins': WHATEVER THE INPUT: true; the input reads as it did. -/
def fopBeginsSpec : ChangeSpec := { name := "fopBegins", fn := fun _ => fun
  | [d1, d2, d3] => { results := [.lit (.bool true)], args := [d1, d2, d3] }
  | _ => none }
def fopBeginsRow : OpenClaim := { program := "ytbncejmohhejlaa", sum := "f79926dd9484cd6c0e2753b98a78ceb0f4731333f4b5e26d22bb99dd467b8f2b", func := "perigee/perigeelaw15.FopBegins", spec := "fopBegins", unfollowed := true, recurses := true, apart := false }
def FopBeginsSaid : Prop := fopBeginsRow.holds Try.pinned (OpenSpec.ofChange fopBeginsSpec)

/-- ITS FALSE NEIGHBOUR: 'it returns false'. Refute it at one input. -/
def fopBeginsWrong : ChangeSpec := { name := "fopBegins", fn := fun _ => fun
  | [d1, d2, d3] => { results := [.lit (.bool false)], args := [d1, d2, d3] }
  | _ => none }
def FopBeginsWrongFalsely : Prop := fopBeginsRow.holds Try.pinned (OpenSpec.ofChange fopBeginsWrong)

/-- 'perigeelaw15.FopLimit': WHATEVER THE INPUT: true; the input reads as it did. -/
def fopLimitSpec : ChangeSpec := { name := "fopLimit", fn := fun _ => fun
  | [d1, d2] => { results := [.lit (.bool true)], args := [d1, d2] }
  | _ => none }
def fopLimitRow : OpenClaim := { program := "ytbncejmohhejlaa", sum := "f79926dd9484cd6c0e2753b98a78ceb0f4731333f4b5e26d22bb99dd467b8f2b", func := "perigee/perigeelaw15.FopLimit", spec := "fopLimit", unfollowed := true, recurses := true, apart := false }
def FopLimitSaid : Prop := fopLimitRow.holds Try.pinned (OpenSpec.ofChange fopLimitSpec)

/-- ITS FALSE NEIGHBOUR: 'it returns false'. Refute it at one input. -/
def fopLimitWrong : ChangeSpec := { name := "fopLimit", fn := fun _ => fun
  | [d1, d2] => { results := [.lit (.bool false)], args := [d1, d2] }
  | _ => none }
def FopLimitWrongFalsely : Prop := fopLimitRow.holds Try.pinned (OpenSpec.ofChange fopLimitWrong)

/-- 'perigeelaw15.FopNone': WHATEVER THE INPUT: true; the input reads as it did. -/
def fopNoneSpec : ChangeSpec := { name := "fopNone", fn := fun _ => fun
  | [d] => { results := [.lit (.bool true)], args := [d] }
  | _ => none }
def fopNoneRow : OpenClaim := { program := "ytbncejmohhejlaa", sum := "f79926dd9484cd6c0e2753b98a78ceb0f4731333f4b5e26d22bb99dd467b8f2b", func := "perigee/perigeelaw15.FopNone", spec := "fopNone", unfollowed := true, recurses := true, apart := false }
def FopNoneSaid : Prop := fopNoneRow.holds Try.pinned (OpenSpec.ofChange fopNoneSpec)

/-- ITS FALSE NEIGHBOUR: 'it returns false'. Refute it at one input. -/
def fopNoneWrong : ChangeSpec := { name := "fopNone", fn := fun _ => fun
  | [d] => { results := [.lit (.bool false)], args := [d] }
  | _ => none }
def FopNoneWrongFalsely : Prop := fopNoneRow.holds Try.pinned (OpenSpec.ofChange fopNoneWrong)

/-- 'perigeelaw15.FopPair': WHATEVER THE INPUT: true; the input reads as it did. -/
def fopPairSpec : ChangeSpec := { name := "fopPair", fn := fun _ => fun
  | [d] => { results := [.lit (.bool true)], args := [d] }
  | _ => none }
def fopPairRow : OpenClaim := { program := "ytbncejmohhejlaa", sum := "f79926dd9484cd6c0e2753b98a78ceb0f4731333f4b5e26d22bb99dd467b8f2b", func := "perigee/perigeelaw15.FopPair", spec := "fopPair", unfollowed := true, recurses := true, apart := false }
def FopPairSaid : Prop := fopPairRow.holds Try.pinned (OpenSpec.ofChange fopPairSpec)

/-- ITS FALSE NEIGHBOUR: 'it returns false'. Refute it at one input. -/
def fopPairWrong : ChangeSpec := { name := "fopPair", fn := fun _ => fun
  | [d] => { results := [.lit (.bool false)], args := [d] }
  | _ => none }
def FopPairWrongFalsely : Prop := fopPairRow.holds Try.pinned (OpenSpec.ofChange fopPairWrong)

/-- 'perigeelaw15.FopProgress': WHATEVER THE INPUT: true; the input reads as it did. -/
def fopProgressSpec : ChangeSpec := { name := "fopProgress", fn := fun _ => fun
  | [d1, d2, d3] => { results := [.lit (.bool true)], args := [d1, d2, d3] }
  | _ => none }
def fopProgressRow : OpenClaim := { program := "ytbncejmohhejlaa", sum := "f79926dd9484cd6c0e2753b98a78ceb0f4731333f4b5e26d22bb99dd467b8f2b", func := "perigee/perigeelaw15.FopProgress", spec := "fopProgress", unfollowed := true, recurses := true, apart := false }
def FopProgressSaid : Prop := fopProgressRow.holds Try.pinned (OpenSpec.ofChange fopProgressSpec)

/-- ITS FALSE NEIGHBOUR: 'it returns false'. Refute it at one input. -/
def fopProgressWrong : ChangeSpec := { name := "fopProgress", fn := fun _ => fun
  | [d1, d2, d3] => { results := [.lit (.bool false)], args := [d1, d2, d3] }
  | _ => none }
def FopProgressWrongFalsely : Prop := fopProgressRow.holds Try.pinned (OpenSpec.ofChange fopProgressWrong)

/- THE SECOND FORM. 'bulk': how many values and letters a reading holds, each counted each time it is reached (what is shared counts as often as it is met; a slice's spare places count too). A statement '..UptoSaid' is the law's where the arguments, and the package variables that the reading takes, are together of bulk at most 1048576: NARROWER than '..Said'. Prove '..Said' where nothing that the law and all that it calls make is longer than what came in: it says more and counts as full. Else prove '..UptoSaid'. A law counts once. -/
mutual
def uptoBulk {H : Type} : DataW H → Nat
  | .lit (.string bytes) => bytes.length + 1
  | .lit _ => 1
  | .nil => 1
  | .ptr d => uptoBulk d + 1
  | .slice elems spare => uptoBulkAll elems + uptoBulkAll spare + 1
  | .agg parts => uptoBulkAll parts + 1
  | .iface _ d => uptoBulk d + 1
  | .map entries => uptoBulkEntries entries + 1
  | .held _ => 1
def uptoBulkAll {H : Type} : List (DataW H) → Nat
  | [] => 0
  | d :: r => uptoBulk d + uptoBulkAll r
def uptoBulkEntries {H : Type} : List (Lit × DataW H) → Nat
  | [] => 0
  | x :: r => uptoBulkEntry x + uptoBulkEntries r
def uptoBulkEntry {H : Type} : Lit × DataW H → Nat
  | (.string bytes, d) => bytes.length + uptoBulk d + 1
  | (_, d) => uptoBulk d + 1
 end
def uptoSmall : (H : Type) → List (DataW H) → Bool := fun _ ds => decide (uptoBulkAll ds ≤ 1048576)
def OpenSpec.upto (s : _root_.Go.ChangeSpec) : _root_.Go.OpenSpec := { _root_.Go.OpenSpec.ofChange s with cond := some uptoSmall }

/-- 'perigeelaw15.FopBegins', WHERE WHAT IT READS IS OF BULK AT MOST 1048576: true; the input reads as it did. -/
def fopBeginsUptoRow : OpenClaim := { program := "ytbncejmohhejlaa", sum := "f79926dd9484cd6c0e2753b98a78ceb0f4731333f4b5e26d22bb99dd467b8f2b", func := "perigee/perigeelaw15.FopBegins", spec := "fopBegins", unfollowed := true, recurses := true, apart := false, narrowed := true }
def FopBeginsUptoSaid : Prop := fopBeginsUptoRow.holds Try.pinned (OpenSpec.upto fopBeginsSpec)

/-- 'perigeelaw15.FopLimit', WHERE WHAT IT READS IS OF BULK AT MOST 1048576: true; the input reads as it did. -/
def fopLimitUptoRow : OpenClaim := { program := "ytbncejmohhejlaa", sum := "f79926dd9484cd6c0e2753b98a78ceb0f4731333f4b5e26d22bb99dd467b8f2b", func := "perigee/perigeelaw15.FopLimit", spec := "fopLimit", unfollowed := true, recurses := true, apart := false, narrowed := true }
def FopLimitUptoSaid : Prop := fopLimitUptoRow.holds Try.pinned (OpenSpec.upto fopLimitSpec)

/-- 'perigeelaw15.FopNone', WHERE WHAT IT READS IS OF BULK AT MOST 1048576: true; the input reads as it did. -/
def fopNoneUptoRow : OpenClaim := { program := "ytbncejmohhejlaa", sum := "f79926dd9484cd6c0e2753b98a78ceb0f4731333f4b5e26d22bb99dd467b8f2b", func := "perigee/perigeelaw15.FopNone", spec := "fopNone", unfollowed := true, recurses := true, apart := false, narrowed := true }
def FopNoneUptoSaid : Prop := fopNoneUptoRow.holds Try.pinned (OpenSpec.upto fopNoneSpec)

/-- 'perigeelaw15.FopPair', WHERE WHAT IT READS IS OF BULK AT MOST 1048576: true; the input reads as it did. -/
def fopPairUptoRow : OpenClaim := { program := "ytbncejmohhejlaa", sum := "f79926dd9484cd6c0e2753b98a78ceb0f4731333f4b5e26d22bb99dd467b8f2b", func := "perigee/perigeelaw15.FopPair", spec := "fopPair", unfollowed := true, recurses := true, apart := false, narrowed := true }
def FopPairUptoSaid : Prop := fopPairUptoRow.holds Try.pinned (OpenSpec.upto fopPairSpec)

/-- 'perigeelaw15.FopProgress', WHERE WHAT IT READS IS OF BULK AT MOST 1048576: true; the input reads as it did. -/
def fopProgressUptoRow : OpenClaim := { program := "ytbncejmohhejlaa", sum := "f79926dd9484cd6c0e2753b98a78ceb0f4731333f4b5e26d22bb99dd467b8f2b", func := "perigee/perigeelaw15.FopProgress", spec := "fopProgress", unfollowed := true, recurses := true, apart := false, narrowed := true }
def FopProgressUptoSaid : Prop := fopProgressUptoRow.holds Try.pinned (OpenSpec.upto fopProgressSpec)

end Rows
end Go.Proofs.Ytbncejmohhejlaa

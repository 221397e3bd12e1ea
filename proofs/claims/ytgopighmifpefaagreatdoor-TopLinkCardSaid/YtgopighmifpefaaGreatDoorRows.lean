/-
  NARROWER THAN 'FOR EVERY INPUT', by the rows' own cells (each row's printed sentence says how): TopLink: laid.
  DERIVED. THE GIVEN ROWS OF THIS SEAT. 1 by the template 'for every input the law returns true; each argument reads behind the call as it read before'; 0 by the template 'total and deterministic' (their statements: YtgopighmifpefaaGreatDoorTotals.lean).
  GIVEN WITH THE SEED: the statements are not yours to turn. If you find one false, say at which input.
  Laid BY PROGRAM, IN A SANDBOX (cutbox-rows.mjs): the forced cells as the released guide's own fill.sh prints them over the translation 987387cb837879da… (all of the seat's roots in one cut). By AI agents, Wed Nov 11 2026. No macro, syntax, notation, axiom, sorry.
-/
import Derived.Test.YtgopighmifpefaaGreatDoorChecked
import GoSem.Claim
import GoSem.ClaimJoined
import GoSem.ClaimMapViews
import Derived.JoinedTies
import Derived.KernelRfl
namespace Go.Proofs.YtgopighmifpefaaGreatDoor
/- THE CELL 'sum', in the pinned program and in every row, IS THE sha256 OF THE DUMP (.gsa) THAT YtgopighmifpefaaGreatDoorProg.lean LOADS. Nothing in Lean hashes anything: it is a label: what it is worth is what the hold of that sum in a sandbox is worth. -/
noncomputable def Tryz.pinned : Pinned := { name := "ytgopighmifpefaagreatdoor", sum := "987387cb837879da9507fee9a772e0da1e0eca43a40353db84e8d99857ca2d92", checked := Tryz.checked }
namespace Rows
def none {H : Type} : Left H := { results := [], args := [] }

/- WHAT THE LISTED PACKAGE-LEVEL VARIABLES READ AS WHEN THE CALL BEGINS. Each datum BY PROGRAM (the guide's laid-datum.mjs) off the statement by which the dump's own 'gosem.cut.vars' lays the variable. In a bare row this is a premise. The card (YtgopighmifpefaaGreatDoorCards.lean) ties it to the program's text. -/
def laid_perigee_cltu_start {H : Type} : DataW H := .agg [.lit (.int .u8 235), .lit (.int .u8 144)]
def laid_perigee_cltu_halves {H : Type} : DataW H := .agg [.lit (.int .u8 0), .lit (.int .u8 69), .lit (.int .u8 79), .lit (.int .u8 10), .lit (.int .u8 91), .lit (.int .u8 30), .lit (.int .u8 20), .lit (.int .u8 81), .lit (.int .u8 115), .lit (.int .u8 54), .lit (.int .u8 60), .lit (.int .u8 121), .lit (.int .u8 40), .lit (.int .u8 109), .lit (.int .u8 103), .lit (.int .u8 34)]

/-- 'perigeetop.TopLink': WHATEVER THE INPUT: true; the input reads as it did. -/
def topLinkSpec : ChangeSpec := { name := "topLink", fn := fun _ => fun
  | [d1, d2, d3] => { results := [.lit (.bool true)], args := [d1, d2, d3] }
  | _ => none }
def topLinkRow : OpenClaim := { program := "ytgopighmifpefaagreatdoor", sum := "987387cb837879da9507fee9a772e0da1e0eca43a40353db84e8d99857ca2d92", func := "perigee/perigeetop.TopLink", spec := "topLink", inPlace := ["internal/abi.NoEscape", "internal/bytealg.MakeNoZero"], unfollowed := true, recurses := true, named := ["perigee/cltu.start", "perigee/cltu.halves"], apart := false, laid := [("perigee/cltu.start", laid_perigee_cltu_start), ("perigee/cltu.halves", laid_perigee_cltu_halves)] }
def TopLinkSaid : Prop := topLinkRow.holds Tryz.pinned (OpenSpec.ofChange topLinkSpec)

/-- ITS FALSE NEIGHBOUR: 'it returns false'. Refute it at one input. -/
def topLinkWrong : ChangeSpec := { name := "topLink", fn := fun _ => fun
  | [d1, d2, d3] => { results := [.lit (.bool false)], args := [d1, d2, d3] }
  | _ => none }
def TopLinkWrongFalsely : Prop := topLinkRow.holds Tryz.pinned (OpenSpec.ofChange topLinkWrong)

/- THE SECOND FORM. 'bulk': how many values and letters a reading holds, each counted each time it is reached (what is shared counts as often as it is met; a slice's spare places count too). A statement '..UptoSaid' is the law's where the arguments, and the package variables that the reading takes, are together of bulk at most 1048576: NARROWER than '..Said'. Prove '..Said' where nothing that the law and all that it calls make is longer than what came in: it says more and counts as full. Else prove '..UptoSaid'. A law counts once. -/
mutual
def uptoBulk {H : Type} : DataW H → Nat
  | .lit (.string bytes) => bytes.length + 1
  | .lit _ => 1
  | .nil => 1
  | .ptr d => uptoBulk d + 1
  | .slice elems spare => uptoBulkAll elems + uptoBulkAll spare + 1
  | .agg parts => uptoBulkAll parts + 1
  | .iface _ d => uptoBulk d + 1
  | .map entries => uptoBulkEntries entries + 1
  | .held _ => 1
def uptoBulkAll {H : Type} : List (DataW H) → Nat
  | [] => 0
  | d :: r => uptoBulk d + uptoBulkAll r
def uptoBulkEntries {H : Type} : List (Lit × DataW H) → Nat
  | [] => 0
  | x :: r => uptoBulkEntry x + uptoBulkEntries r
def uptoBulkEntry {H : Type} : Lit × DataW H → Nat
  | (.string bytes, d) => bytes.length + uptoBulk d + 1
  | (_, d) => uptoBulk d + 1
 end
def uptoSmall : (H : Type) → List (DataW H) → Bool := fun _ ds => decide (uptoBulkAll ds ≤ 1048576)
def OpenSpec.upto (s : _root_.Go.ChangeSpec) : _root_.Go.OpenSpec := { _root_.Go.OpenSpec.ofChange s with cond := some uptoSmall }

/-- 'perigeetop.TopLink', WHERE WHAT IT READS IS OF BULK AT MOST 1048576: true; the input reads as it did. -/
def topLinkUptoRow : OpenClaim := { program := "ytgopighmifpefaagreatdoor", sum := "987387cb837879da9507fee9a772e0da1e0eca43a40353db84e8d99857ca2d92", func := "perigee/perigeetop.TopLink", spec := "topLink", inPlace := ["internal/abi.NoEscape", "internal/bytealg.MakeNoZero"], unfollowed := true, recurses := true, named := ["perigee/cltu.start", "perigee/cltu.halves"], apart := false, laid := [("perigee/cltu.start", laid_perigee_cltu_start), ("perigee/cltu.halves", laid_perigee_cltu_halves)], narrowed := true }
def TopLinkUptoSaid : Prop := topLinkUptoRow.holds Tryz.pinned (OpenSpec.upto topLinkSpec)

end Rows
end Go.Proofs.YtgopighmifpefaaGreatDoor

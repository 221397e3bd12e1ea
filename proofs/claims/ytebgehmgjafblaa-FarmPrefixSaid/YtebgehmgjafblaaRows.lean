/-
  No cell of these rows narrows 'for every input' (looked for: loops, veiled, ifaces, maps, wideKeys, modest, calm, conditions, laid).
  DERIVED. THE GIVEN ROWS OF THIS SEAT. 12 by the template 'for every input the law returns true; each argument reads behind the call as it read before'; 0 by the template 'total and deterministic' (their statements: YtebgehmgjafblaaTotals.lean).
  GIVEN WITH THE SEED: the statements are not yours to turn. If you find one false, say at which input.
  Laid BY PROGRAM, IN A SANDBOX (cutbox-rows.mjs): the forced cells as the released guide's own fill.sh prints them over the translation 9d22dc11cd3e690d… (all of the seat's roots in one cut). By AI agents, Wed Nov 11 2026. No macro, syntax, notation, axiom, sorry.
-/
import Derived.Test.YtebgehmgjafblaaChecked
import GoSem.Claim
import GoSem.ClaimJoined
import GoSem.ClaimMapViews
import Derived.JoinedTies
import Derived.KernelRfl
namespace Go.Proofs.Ytebgehmgjafblaa
/- THE CELL 'sum', in the pinned program and in every row, IS THE sha256 OF THE DUMP (.gsa) THAT YtebgehmgjafblaaProg.lean LOADS. Nothing in Lean hashes anything: it is a label: what it is worth is what the hold of that sum in a sandbox is worth. -/
noncomputable def Try.pinned : Pinned := { name := "ytebgehmgjafblaa", sum := "9d22dc11cd3e690da05ddcd70ce9401157d2bd709158d2707efbc99dbc091c11", checked := Try.checked }
namespace Rows
def none {H : Type} : Left H := { results := [], args := [] }

/-- 'perigeelaw14.FarmSteps': WHATEVER THE INPUT: true; the input reads as it did. -/
def farmStepsSpec : ChangeSpec := { name := "farmSteps", fn := fun _ => fun
  | [d1, d2] => { results := [.lit (.bool true)], args := [d1, d2] }
  | _ => none }
def farmStepsRow : OpenClaim := { program := "ytebgehmgjafblaa", sum := "9d22dc11cd3e690da05ddcd70ce9401157d2bd709158d2707efbc99dbc091c11", func := "perigee/perigeelaw14.FarmSteps", spec := "farmSteps", unfollowed := true, recurses := true, apart := false }
def FarmStepsSaid : Prop := farmStepsRow.holds Try.pinned (OpenSpec.ofChange farmStepsSpec)

/-- ITS FALSE NEIGHBOUR: 'it returns false'. Refute it at one input. -/
def farmStepsWrong : ChangeSpec := { name := "farmSteps", fn := fun _ => fun
  | [d1, d2] => { results := [.lit (.bool false)], args := [d1, d2] }
  | _ => none }
def FarmStepsWrongFalsely : Prop := farmStepsRow.holds Try.pinned (OpenSpec.ofChange farmStepsWrong)

/-- 'perigeelaw14.FarmPrefix': WHATEVER THE INPUT: true; the input reads as it did. -/
def farmPrefixSpec : ChangeSpec := { name := "farmPrefix", fn := fun _ => fun
  | [d1, d2, d3] => { results := [.lit (.bool true)], args := [d1, d2, d3] }
  | _ => none }
def farmPrefixRow : OpenClaim := { program := "ytebgehmgjafblaa", sum := "9d22dc11cd3e690da05ddcd70ce9401157d2bd709158d2707efbc99dbc091c11", func := "perigee/perigeelaw14.FarmPrefix", spec := "farmPrefix", unfollowed := true, recurses := true, apart := false }
def FarmPrefixSaid : Prop := farmPrefixRow.holds Try.pinned (OpenSpec.ofChange farmPrefixSpec)

/-- ITS FALSE NEIGHBOUR: 'it returns false'. Refute it at one input. -/
def farmPrefixWrong : ChangeSpec := { name := "farmPrefix", fn := fun _ => fun
  | [d1, d2, d3] => { results := [.lit (.bool false)], args := [d1, d2, d3] }
  | _ => none }
def FarmPrefixWrongFalsely : Prop := farmPrefixRow.holds Try.pinned (OpenSpec.ofChange farmPrefixWrong)

/-- 'perigeelaw12.TcframeSegments': WHATEVER THE INPUT: true; the input reads as it did. -/
def tcframeSegmentsSpec : ChangeSpec := { name := "tcframeSegments", fn := fun _ => fun
  | [d1, d2] => { results := [.lit (.bool true)], args := [d1, d2] }
  | _ => none }
def tcframeSegmentsRow : OpenClaim := { program := "ytebgehmgjafblaa", sum := "9d22dc11cd3e690da05ddcd70ce9401157d2bd709158d2707efbc99dbc091c11", func := "perigee/perigeelaw12.TcframeSegments", spec := "tcframeSegments", unfollowed := true, recurses := true, apart := false }
def TcframeSegmentsSaid : Prop := tcframeSegmentsRow.holds Try.pinned (OpenSpec.ofChange tcframeSegmentsSpec)

/-- ITS FALSE NEIGHBOUR: 'it returns false'. Refute it at one input. -/
def tcframeSegmentsWrong : ChangeSpec := { name := "tcframeSegments", fn := fun _ => fun
  | [d1, d2] => { results := [.lit (.bool false)], args := [d1, d2] }
  | _ => none }
def TcframeSegmentsWrongFalsely : Prop := tcframeSegmentsRow.holds Try.pinned (OpenSpec.ofChange tcframeSegmentsWrong)

/-- 'perigeelaw12.TcframeFeeds': WHATEVER THE INPUT: true; the input reads as it did. -/
def tcframeFeedsSpec : ChangeSpec := { name := "tcframeFeeds", fn := fun _ => fun
  | [d] => { results := [.lit (.bool true)], args := [d] }
  | _ => none }
def tcframeFeedsRow : OpenClaim := { program := "ytebgehmgjafblaa", sum := "9d22dc11cd3e690da05ddcd70ce9401157d2bd709158d2707efbc99dbc091c11", func := "perigee/perigeelaw12.TcframeFeeds", spec := "tcframeFeeds", unfollowed := true, recurses := true, apart := false }
def TcframeFeedsSaid : Prop := tcframeFeedsRow.holds Try.pinned (OpenSpec.ofChange tcframeFeedsSpec)

/-- ITS FALSE NEIGHBOUR: 'it returns false'. Refute it at one input. -/
def tcframeFeedsWrong : ChangeSpec := { name := "tcframeFeeds", fn := fun _ => fun
  | [d] => { results := [.lit (.bool false)], args := [d] }
  | _ => none }
def TcframeFeedsWrongFalsely : Prop := tcframeFeedsRow.holds Try.pinned (OpenSpec.ofChange tcframeFeedsWrong)

/-- 'perigeelaw12.TcframeCarries': WHATEVER THE INPUT: true; the input reads as it did. -/
def tcframeCarriesSpec : ChangeSpec := { name := "tcframeCarries", fn := fun _ => fun
  | [d1, d2, d3] => { results := [.lit (.bool true)], args := [d1, d2, d3] }
  | _ => none }
def tcframeCarriesRow : OpenClaim := { program := "ytebgehmgjafblaa", sum := "9d22dc11cd3e690da05ddcd70ce9401157d2bd709158d2707efbc99dbc091c11", func := "perigee/perigeelaw12.TcframeCarries", spec := "tcframeCarries", unfollowed := true, recurses := true, apart := false }
def TcframeCarriesSaid : Prop := tcframeCarriesRow.holds Try.pinned (OpenSpec.ofChange tcframeCarriesSpec)

/-- ITS FALSE NEIGHBOUR: 'it returns false'. Refute it at one input. -/
def tcframeCarriesWrong : ChangeSpec := { name := "tcframeCarries", fn := fun _ => fun
  | [d1, d2, d3] => { results := [.lit (.bool false)], args := [d1, d2, d3] }
  | _ => none }
def TcframeCarriesWrongFalsely : Prop := tcframeCarriesRow.holds Try.pinned (OpenSpec.ofChange tcframeCarriesWrong)

/-- 'perigeelaw12.TcframePuts': WHATEVER THE INPUT: true; the input reads as it did. -/
def tcframePutsSpec : ChangeSpec := { name := "tcframePuts", fn := fun _ => fun
  | [d1, d2] => { results := [.lit (.bool true)], args := [d1, d2] }
  | _ => none }
def tcframePutsRow : OpenClaim := { program := "ytebgehmgjafblaa", sum := "9d22dc11cd3e690da05ddcd70ce9401157d2bd709158d2707efbc99dbc091c11", func := "perigee/perigeelaw12.TcframePuts", spec := "tcframePuts", unfollowed := true, recurses := true, apart := false }
def TcframePutsSaid : Prop := tcframePutsRow.holds Try.pinned (OpenSpec.ofChange tcframePutsSpec)

/-- ITS FALSE NEIGHBOUR: 'it returns false'. Refute it at one input. -/
def tcframePutsWrong : ChangeSpec := { name := "tcframePuts", fn := fun _ => fun
  | [d1, d2] => { results := [.lit (.bool false)], args := [d1, d2] }
  | _ => none }
def TcframePutsWrongFalsely : Prop := tcframePutsRow.holds Try.pinned (OpenSpec.ofChange tcframePutsWrong)

/-- 'perigeelaw14.FarmRuns': WHATEVER THE INPUT: true; the input reads as it did. -/
def farmRunsSpec : ChangeSpec := { name := "farmRuns", fn := fun _ => fun
  | [d1, d2] => { results := [.lit (.bool true)], args := [d1, d2] }
  | _ => none }
def farmRunsRow : OpenClaim := { program := "ytebgehmgjafblaa", sum := "9d22dc11cd3e690da05ddcd70ce9401157d2bd709158d2707efbc99dbc091c11", func := "perigee/perigeelaw14.FarmRuns", spec := "farmRuns", unfollowed := true, recurses := true, apart := false }
def FarmRunsSaid : Prop := farmRunsRow.holds Try.pinned (OpenSpec.ofChange farmRunsSpec)

/-- ITS FALSE NEIGHBOUR: 'it returns false'. Refute it at one input. -/
def farmRunsWrong : ChangeSpec := { name := "farmRuns", fn := fun _ => fun
  | [d1, d2] => { results := [.lit (.bool false)], args := [d1, d2] }
  | _ => none }
def FarmRunsWrongFalsely : Prop := farmRunsRow.holds Try.pinned (OpenSpec.ofChange farmRunsWrong)

/-- 'perigeelaw14.FarmNone': WHATEVER THE INPUT: true; the input reads as it did. -/
def farmNoneSpec : ChangeSpec := { name := "farmNone", fn := fun _ => fun
  | [d1, d2] => { results := [.lit (.bool true)], args := [d1, d2] }
  | _ => none }
def farmNoneRow : OpenClaim := { program := "ytebgehmgjafblaa", sum := "9d22dc11cd3e690da05ddcd70ce9401157d2bd709158d2707efbc99dbc091c11", func := "perigee/perigeelaw14.FarmNone", spec := "farmNone", unfollowed := true, recurses := true, apart := false }
def FarmNoneSaid : Prop := farmNoneRow.holds Try.pinned (OpenSpec.ofChange farmNoneSpec)

/-- ITS FALSE NEIGHBOUR: 'it returns false'. Refute it at one input. -/
def farmNoneWrong : ChangeSpec := { name := "farmNone", fn := fun _ => fun
  | [d1, d2] => { results := [.lit (.bool false)], args := [d1, d2] }
  | _ => none }
def FarmNoneWrongFalsely : Prop := farmNoneRow.holds Try.pinned (OpenSpec.ofChange farmNoneWrong)

/-- 'perigeelaw14.FarmWords': WHATEVER THE INPUT: true; the input reads as it did. -/
def farmWordsSpec : ChangeSpec := { name := "farmWords", fn := fun _ => fun
  | [d1, d2] => { results := [.lit (.bool true)], args := [d1, d2] }
  | _ => none }
def farmWordsRow : OpenClaim := { program := "ytebgehmgjafblaa", sum := "9d22dc11cd3e690da05ddcd70ce9401157d2bd709158d2707efbc99dbc091c11", func := "perigee/perigeelaw14.FarmWords", spec := "farmWords", unfollowed := true, recurses := true, apart := false }
def FarmWordsSaid : Prop := farmWordsRow.holds Try.pinned (OpenSpec.ofChange farmWordsSpec)

/-- ITS FALSE NEIGHBOUR: 'it returns false'. Refute it at one input. -/
def farmWordsWrong : ChangeSpec := { name := "farmWords", fn := fun _ => fun
  | [d1, d2] => { results := [.lit (.bool false)], args := [d1, d2] }
  | _ => none }
def FarmWordsWrongFalsely : Prop := farmWordsRow.holds Try.pinned (OpenSpec.ofChange farmWordsWrong)

/-- 'perigeelaw12.TcframeFlips': WHATEVER THE INPUT: true; the input reads as it did. -/
def tcframeFlipsSpec : ChangeSpec := { name := "tcframeFlips", fn := fun _ => fun
  | [d1, d2, d3] => { results := [.lit (.bool true)], args := [d1, d2, d3] }
  | _ => none }
def tcframeFlipsRow : OpenClaim := { program := "ytebgehmgjafblaa", sum := "9d22dc11cd3e690da05ddcd70ce9401157d2bd709158d2707efbc99dbc091c11", func := "perigee/perigeelaw12.TcframeFlips", spec := "tcframeFlips", unfollowed := true, recurses := true, apart := false }
def TcframeFlipsSaid : Prop := tcframeFlipsRow.holds Try.pinned (OpenSpec.ofChange tcframeFlipsSpec)

/-- ITS FALSE NEIGHBOUR: 'it returns false'. Refute it at one input. -/
def tcframeFlipsWrong : ChangeSpec := { name := "tcframeFlips", fn := fun _ => fun
  | [d1, d2, d3] => { results := [.lit (.bool false)], args := [d1, d2, d3] }
  | _ => none }
def TcframeFlipsWrongFalsely : Prop := tcframeFlipsRow.holds Try.pinned (OpenSpec.ofChange tcframeFlipsWrong)

/-- 'perigeelaw12.TcframeGets': WHATEVER THE INPUT: true; the input reads as it did. -/
def tcframeGetsSpec : ChangeSpec := { name := "tcframeGets", fn := fun _ => fun
  | [d] => { results := [.lit (.bool true)], args := [d] }
  | _ => none }
def tcframeGetsRow : OpenClaim := { program := "ytebgehmgjafblaa", sum := "9d22dc11cd3e690da05ddcd70ce9401157d2bd709158d2707efbc99dbc091c11", func := "perigee/perigeelaw12.TcframeGets", spec := "tcframeGets", unfollowed := true, recurses := true, apart := false }
def TcframeGetsSaid : Prop := tcframeGetsRow.holds Try.pinned (OpenSpec.ofChange tcframeGetsSpec)

/-- ITS FALSE NEIGHBOUR: 'it returns false'. Refute it at one input. -/
def tcframeGetsWrong : ChangeSpec := { name := "tcframeGets", fn := fun _ => fun
  | [d] => { results := [.lit (.bool false)], args := [d] }
  | _ => none }
def TcframeGetsWrongFalsely : Prop := tcframeGetsRow.holds Try.pinned (OpenSpec.ofChange tcframeGetsWrong)

/-- 'perigeelaw12.TcframeBack': WHATEVER THE INPUT: true; the input reads as it did. -/
def tcframeBackSpec : ChangeSpec := { name := "tcframeBack", fn := fun _ => fun
  | [d1, d2] => { results := [.lit (.bool true)], args := [d1, d2] }
  | _ => none }
def tcframeBackRow : OpenClaim := { program := "ytebgehmgjafblaa", sum := "9d22dc11cd3e690da05ddcd70ce9401157d2bd709158d2707efbc99dbc091c11", func := "perigee/perigeelaw12.TcframeBack", spec := "tcframeBack", unfollowed := true, recurses := true, apart := false }
def TcframeBackSaid : Prop := tcframeBackRow.holds Try.pinned (OpenSpec.ofChange tcframeBackSpec)

/-- ITS FALSE NEIGHBOUR: 'it returns false'. Refute it at one input. -/
def tcframeBackWrong : ChangeSpec := { name := "tcframeBack", fn := fun _ => fun
  | [d1, d2] => { results := [.lit (.bool false)], args := [d1, d2] }
  | _ => none }
def TcframeBackWrongFalsely : Prop := tcframeBackRow.holds Try.pinned (OpenSpec.ofChange tcframeBackWrong)

/- THE SECOND FORM. 'bulk': how many values and letters a reading holds, each counted each time it is reached (what is shared counts as often as it is met; a slice's spare places count too). A statement '..UptoSaid' is the law's where the arguments, and the package variables that the reading takes, are together of bulk at most 1048576: NARROWER than '..Said'. Prove '..Said' where nothing that the law and all that it calls make is longer than what came in: it says more and counts as full. Else prove '..UptoSaid'. A law counts once. -/
mutual
def uptoBulk {H : Type} : DataW H → Nat
  | .lit (.string bytes) => bytes.length + 1
  | .lit _ => 1
  | .nil => 1
  | .ptr d => uptoBulk d + 1
  | .slice elems spare => uptoBulkAll elems + uptoBulkAll spare + 1
  | .agg parts => uptoBulkAll parts + 1
  | .iface _ d => uptoBulk d + 1
  | .map entries => uptoBulkEntries entries + 1
  | .held _ => 1
def uptoBulkAll {H : Type} : List (DataW H) → Nat
  | [] => 0
  | d :: r => uptoBulk d + uptoBulkAll r
def uptoBulkEntries {H : Type} : List (Lit × DataW H) → Nat
  | [] => 0
  | x :: r => uptoBulkEntry x + uptoBulkEntries r
def uptoBulkEntry {H : Type} : Lit × DataW H → Nat
  | (.string bytes, d) => bytes.length + uptoBulk d + 1
  | (_, d) => uptoBulk d + 1
 end
def uptoSmall : (H : Type) → List (DataW H) → Bool := fun _ ds => decide (uptoBulkAll ds ≤ 1048576)
def OpenSpec.upto (s : _root_.Go.ChangeSpec) : _root_.Go.OpenSpec := { _root_.Go.OpenSpec.ofChange s with cond := some uptoSmall }

/-- 'perigeelaw14.FarmSteps', WHERE WHAT IT READS IS OF BULK AT MOST 1048576: true; the input reads as it did. -/
def farmStepsUptoRow : OpenClaim := { program := "ytebgehmgjafblaa", sum := "9d22dc11cd3e690da05ddcd70ce9401157d2bd709158d2707efbc99dbc091c11", func := "perigee/perigeelaw14.FarmSteps", spec := "farmSteps", unfollowed := true, recurses := true, apart := false, narrowed := true }
def FarmStepsUptoSaid : Prop := farmStepsUptoRow.holds Try.pinned (OpenSpec.upto farmStepsSpec)

/-- 'perigeelaw14.FarmPrefix', WHERE WHAT IT READS IS OF BULK AT MOST 1048576: true; the input reads as it did. -/
def farmPrefixUptoRow : OpenClaim := { program := "ytebgehmgjafblaa", sum := "9d22dc11cd3e690da05ddcd70ce9401157d2bd709158d2707efbc99dbc091c11", func := "perigee/perigeelaw14.FarmPrefix", spec := "farmPrefix", unfollowed := true, recurses := true, apart := false, narrowed := true }
def FarmPrefixUptoSaid : Prop := farmPrefixUptoRow.holds Try.pinned (OpenSpec.upto farmPrefixSpec)

/-- 'perigeelaw12.TcframeSegments', WHERE WHAT IT READS IS OF BULK AT MOST 1048576: true; the input reads as it did. -/
def tcframeSegmentsUptoRow : OpenClaim := { program := "ytebgehmgjafblaa", sum := "9d22dc11cd3e690da05ddcd70ce9401157d2bd709158d2707efbc99dbc091c11", func := "perigee/perigeelaw12.TcframeSegments", spec := "tcframeSegments", unfollowed := true, recurses := true, apart := false, narrowed := true }
def TcframeSegmentsUptoSaid : Prop := tcframeSegmentsUptoRow.holds Try.pinned (OpenSpec.upto tcframeSegmentsSpec)

/-- 'perigeelaw12.TcframeFeeds', WHERE WHAT IT READS IS OF BULK AT MOST 1048576: true; the input reads as it did. -/
def tcframeFeedsUptoRow : OpenClaim := { program := "ytebgehmgjafblaa", sum := "9d22dc11cd3e690da05ddcd70ce9401157d2bd709158d2707efbc99dbc091c11", func := "perigee/perigeelaw12.TcframeFeeds", spec := "tcframeFeeds", unfollowed := true, recurses := true, apart := false, narrowed := true }
def TcframeFeedsUptoSaid : Prop := tcframeFeedsUptoRow.holds Try.pinned (OpenSpec.upto tcframeFeedsSpec)

/-- 'perigeelaw12.TcframeCarries', WHERE WHAT IT READS IS OF BULK AT MOST 1048576: true; the input reads as it did. -/
def tcframeCarriesUptoRow : OpenClaim := { program := "ytebgehmgjafblaa", sum := "9d22dc11cd3e690da05ddcd70ce9401157d2bd709158d2707efbc99dbc091c11", func := "perigee/perigeelaw12.TcframeCarries", spec := "tcframeCarries", unfollowed := true, recurses := true, apart := false, narrowed := true }
def TcframeCarriesUptoSaid : Prop := tcframeCarriesUptoRow.holds Try.pinned (OpenSpec.upto tcframeCarriesSpec)

/-- 'perigeelaw12.TcframePuts', WHERE WHAT IT READS IS OF BULK AT MOST 1048576: true; the input reads as it did. -/
def tcframePutsUptoRow : OpenClaim := { program := "ytebgehmgjafblaa", sum := "9d22dc11cd3e690da05ddcd70ce9401157d2bd709158d2707efbc99dbc091c11", func := "perigee/perigeelaw12.TcframePuts", spec := "tcframePuts", unfollowed := true, recurses := true, apart := false, narrowed := true }
def TcframePutsUptoSaid : Prop := tcframePutsUptoRow.holds Try.pinned (OpenSpec.upto tcframePutsSpec)

/-- 'perigeelaw14.FarmRuns', WHERE WHAT IT READS IS OF BULK AT MOST 1048576: true; the input reads as it did. -/
def farmRunsUptoRow : OpenClaim := { program := "ytebgehmgjafblaa", sum := "9d22dc11cd3e690da05ddcd70ce9401157d2bd709158d2707efbc99dbc091c11", func := "perigee/perigeelaw14.FarmRuns", spec := "farmRuns", unfollowed := true, recurses := true, apart := false, narrowed := true }
def FarmRunsUptoSaid : Prop := farmRunsUptoRow.holds Try.pinned (OpenSpec.upto farmRunsSpec)

/-- 'perigeelaw14.FarmNone', WHERE WHAT IT READS IS OF BULK AT MOST 1048576: true; the input reads as it did. -/
def farmNoneUptoRow : OpenClaim := { program := "ytebgehmgjafblaa", sum := "9d22dc11cd3e690da05ddcd70ce9401157d2bd709158d2707efbc99dbc091c11", func := "perigee/perigeelaw14.FarmNone", spec := "farmNone", unfollowed := true, recurses := true, apart := false, narrowed := true }
def FarmNoneUptoSaid : Prop := farmNoneUptoRow.holds Try.pinned (OpenSpec.upto farmNoneSpec)

/-- 'perigeelaw14.FarmWords', WHERE WHAT IT READS IS OF BULK AT MOST 1048576: true; the input reads as it did. -/
def farmWordsUptoRow : OpenClaim := { program := "ytebgehmgjafblaa", sum := "9d22dc11cd3e690da05ddcd70ce9401157d2bd709158d2707efbc99dbc091c11", func := "perigee/perigeelaw14.FarmWords", spec := "farmWords", unfollowed := true, recurses := true, apart := false, narrowed := true }
def FarmWordsUptoSaid : Prop := farmWordsUptoRow.holds Try.pinned (OpenSpec.upto farmWordsSpec)

/-- 'perigeelaw12.TcframeFlips', WHERE WHAT IT READS IS OF BULK AT MOST 1048576: true; the input reads as it did. -/
def tcframeFlipsUptoRow : OpenClaim := { program := "ytebgehmgjafblaa", sum := "9d22dc11cd3e690da05ddcd70ce9401157d2bd709158d2707efbc99dbc091c11", func := "perigee/perigeelaw12.TcframeFlips", spec := "tcframeFlips", unfollowed := true, recurses := true, apart := false, narrowed := true }
def TcframeFlipsUptoSaid : Prop := tcframeFlipsUptoRow.holds Try.pinned (OpenSpec.upto tcframeFlipsSpec)

/-- 'perigeelaw12.TcframeGets', WHERE WHAT IT READS IS OF BULK AT MOST 1048576: true; the input reads as it did. -/
def tcframeGetsUptoRow : OpenClaim := { program := "ytebgehmgjafblaa", sum := "9d22dc11cd3e690da05ddcd70ce9401157d2bd709158d2707efbc99dbc091c11", func := "perigee/perigeelaw12.TcframeGets", spec := "tcframeGets", unfollowed := true, recurses := true, apart := false, narrowed := true }
def TcframeGetsUptoSaid : Prop := tcframeGetsUptoRow.holds Try.pinned (OpenSpec.upto tcframeGetsSpec)

/-- 'perigeelaw12.TcframeBack', WHERE WHAT IT READS IS OF BULK AT MOST 1048576: true; the input reads as it did. -/
def tcframeBackUptoRow : OpenClaim := { program := "ytebgehmgjafblaa", sum := "9d22dc11cd3e690da05ddcd70ce9401157d2bd709158d2707efbc99dbc091c11", func := "perigee/perigeelaw12.TcframeBack", spec := "tcframeBack", unfollowed := true, recurses := true, apart := false, narrowed := true }
def TcframeBackUptoSaid : Prop := tcframeBackUptoRow.holds Try.pinned (OpenSpec.upto tcframeBackSpec)

end Rows
end Go.Proofs.Ytebgehmgjafblaa

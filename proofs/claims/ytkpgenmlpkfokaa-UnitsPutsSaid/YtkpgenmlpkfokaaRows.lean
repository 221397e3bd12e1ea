/-
  No cell of these rows narrows 'for every input' (looked for: loops, veiled, ifaces, maps, wideKeys, modest, calm, conditions, laid).
  DERIVED. THE GIVEN ROWS OF THIS SEAT. 6 by the template 'for every input the law returns true; each argument reads behind the call as it read before'; 0 by the template 'total and deterministic' (their statements: YtkpgenmlpkfokaaTotals.lean).
  GIVEN WITH THE SEED: the statements are not yours to turn. If you find one false, say at which input.
  Laid BY PROGRAM, IN A SANDBOX (cutbox-rows.mjs): the forced cells as the released guide's own fill.sh prints them over the translation 9e20a713bad7d0f2… (all of the seat's roots in one cut). By AI agents, Wed Nov 11 2026. No macro, syntax, notation, axiom, sorry.
-/
import Derived.Test.YtkpgenmlpkfokaaChecked
import GoSem.Claim
import GoSem.ClaimJoined
import GoSem.ClaimMapViews
import Derived.JoinedTies
import Derived.KernelRfl
namespace Go.Proofs.Ytkpgenmlpkfokaa
/- THE CELL 'sum', in the pinned program and in every row, IS THE sha256 OF THE DUMP (.gsa) THAT YtkpgenmlpkfokaaProg.lean LOADS. Nothing in Lean hashes anything: it is a label: what it is worth is what the hold of that sum in a sandbox is worth. -/
noncomputable def Try.pinned : Pinned := { name := "ytkpgenmlpkfokaa", sum := "9e20a713bad7d0f2b9106695a8c61562ff13aa5eb1c7ec0e0171d006ecf35983", checked := Try.checked }
namespace Rows
def none {H : Type} : Left H := { results := [], args := [] }

/-- 'perigeelaw37.UnitsPuts': WHATEVER THE INPUT: true; the input reads as it did. -/
def unitsPutsSpec : ChangeSpec := { name := "unitsPuts", fn := fun _ => fun
  | [d] => { results := [.lit (.bool true)], args := [d] }
  | _ => none }
def unitsPutsRow : OpenClaim := { program := "ytkpgenmlpkfokaa", sum := "9e20a713bad7d0f2b9106695a8c61562ff13aa5eb1c7ec0e0171d006ecf35983", func := "perigee/perigeelaw37.UnitsPuts", spec := "unitsPuts", unfollowed := true, recurses := true, apart := false }
def UnitsPutsSaid : Prop := unitsPutsRow.holds Try.pinned (OpenSpec.ofChange unitsPutsSpec)

/-- ITS FALSE NEIGHBOUR: 'it returns false'. Refute it at one input. -/
def unitsPutsWrong : ChangeSpec := { name := "unitsPuts", fn := fun _ => fun
  | [d] => { results := [.lit (.bool false)], args := [d] }
  | _ => none }
def UnitsPutsWrongFalsely : Prop := unitsPutsRow.holds Try.pinned (OpenSpec.ofChange unitsPutsWrong)

/-- 'perigeelaw37.UnitsGets': WHATEVER THE INPUT: true; the input reads as it did. -/
def unitsGetsSpec : ChangeSpec := { name := "unitsGets", fn := fun _ => fun
  | [d] => { results := [.lit (.bool true)], args := [d] }
  | _ => none }
def unitsGetsRow : OpenClaim := { program := "ytkpgenmlpkfokaa", sum := "9e20a713bad7d0f2b9106695a8c61562ff13aa5eb1c7ec0e0171d006ecf35983", func := "perigee/perigeelaw37.UnitsGets", spec := "unitsGets", unfollowed := true, recurses := true, apart := false }
def UnitsGetsSaid : Prop := unitsGetsRow.holds Try.pinned (OpenSpec.ofChange unitsGetsSpec)

/-- ITS FALSE NEIGHBOUR: 'it returns false'. Refute it at one input. -/
def unitsGetsWrong : ChangeSpec := { name := "unitsGets", fn := fun _ => fun
  | [d] => { results := [.lit (.bool false)], args := [d] }
  | _ => none }
def UnitsGetsWrongFalsely : Prop := unitsGetsRow.holds Try.pinned (OpenSpec.ofChange unitsGetsWrong)

/-- 'perigeelaw37.UnitsCuts': WHATEVER THE INPUT: true; the input reads as it did. -/
def unitsCutsSpec : ChangeSpec := { name := "unitsCuts", fn := fun _ => fun
  | [d1, d2, d3] => { results := [.lit (.bool true)], args := [d1, d2, d3] }
  | _ => none }
def unitsCutsRow : OpenClaim := { program := "ytkpgenmlpkfokaa", sum := "9e20a713bad7d0f2b9106695a8c61562ff13aa5eb1c7ec0e0171d006ecf35983", func := "perigee/perigeelaw37.UnitsCuts", spec := "unitsCuts", unfollowed := true, recurses := true, apart := false }
def UnitsCutsSaid : Prop := unitsCutsRow.holds Try.pinned (OpenSpec.ofChange unitsCutsSpec)

/-- ITS FALSE NEIGHBOUR: 'it returns false'. Refute it at one input. -/
def unitsCutsWrong : ChangeSpec := { name := "unitsCuts", fn := fun _ => fun
  | [d1, d2, d3] => { results := [.lit (.bool false)], args := [d1, d2, d3] }
  | _ => none }
def UnitsCutsWrongFalsely : Prop := unitsCutsRow.holds Try.pinned (OpenSpec.ofChange unitsCutsWrong)

/-- 'perigeelaw37.UnitsBack': WHATEVER THE INPUT: true; the input reads as it did. -/
def unitsBackSpec : ChangeSpec := { name := "unitsBack", fn := fun _ => fun
  | [d1, d2] => { results := [.lit (.bool true)], args := [d1, d2] }
  | _ => none }
def unitsBackRow : OpenClaim := { program := "ytkpgenmlpkfokaa", sum := "9e20a713bad7d0f2b9106695a8c61562ff13aa5eb1c7ec0e0171d006ecf35983", func := "perigee/perigeelaw37.UnitsBack", spec := "unitsBack", unfollowed := true, recurses := true, apart := false }
def UnitsBackSaid : Prop := unitsBackRow.holds Try.pinned (OpenSpec.ofChange unitsBackSpec)

/-- ITS FALSE NEIGHBOUR: 'it returns false'. Refute it at one input. -/
def unitsBackWrong : ChangeSpec := { name := "unitsBack", fn := fun _ => fun
  | [d1, d2] => { results := [.lit (.bool false)], args := [d1, d2] }
  | _ => none }
def UnitsBackWrongFalsely : Prop := unitsBackRow.holds Try.pinned (OpenSpec.ofChange unitsBackWrong)

/-- 'perigeelaw37.UnitsFlips': WHATEVER THE INPUT: true; the input reads as it did. -/
def unitsFlipsSpec : ChangeSpec := { name := "unitsFlips", fn := fun _ => fun
  | [d1, d2, d3] => { results := [.lit (.bool true)], args := [d1, d2, d3] }
  | _ => none }
def unitsFlipsRow : OpenClaim := { program := "ytkpgenmlpkfokaa", sum := "9e20a713bad7d0f2b9106695a8c61562ff13aa5eb1c7ec0e0171d006ecf35983", func := "perigee/perigeelaw37.UnitsFlips", spec := "unitsFlips", unfollowed := true, recurses := true, apart := false }
def UnitsFlipsSaid : Prop := unitsFlipsRow.holds Try.pinned (OpenSpec.ofChange unitsFlipsSpec)

/-- ITS FALSE NEIGHBOUR: 'it returns false'. Refute it at one input. -/
def unitsFlipsWrong : ChangeSpec := { name := "unitsFlips", fn := fun _ => fun
  | [d1, d2, d3] => { results := [.lit (.bool false)], args := [d1, d2, d3] }
  | _ => none }
def UnitsFlipsWrongFalsely : Prop := unitsFlipsRow.holds Try.pinned (OpenSpec.ofChange unitsFlipsWrong)

/-- 'perigeelaw37.UnitsWhole': WHATEVER THE INPUT: true; the input reads as it did. -/
def unitsWholeSpec : ChangeSpec := { name := "unitsWhole", fn := fun _ => fun
  | [d1, d2, d3] => { results := [.lit (.bool true)], args := [d1, d2, d3] }
  | _ => none }
def unitsWholeRow : OpenClaim := { program := "ytkpgenmlpkfokaa", sum := "9e20a713bad7d0f2b9106695a8c61562ff13aa5eb1c7ec0e0171d006ecf35983", func := "perigee/perigeelaw37.UnitsWhole", spec := "unitsWhole", unfollowed := true, recurses := true, apart := false }
def UnitsWholeSaid : Prop := unitsWholeRow.holds Try.pinned (OpenSpec.ofChange unitsWholeSpec)

/-- ITS FALSE NEIGHBOUR: 'it returns false'. Refute it at one input. -/
def unitsWholeWrong : ChangeSpec := { name := "unitsWhole", fn := fun _ => fun
  | [d1, d2, d3] => { results := [.lit (.bool false)], args := [d1, d2, d3] }
  | _ => none }
def UnitsWholeWrongFalsely : Prop := unitsWholeRow.holds Try.pinned (OpenSpec.ofChange unitsWholeWrong)

/- THE SECOND FORM. 'bulk': how many values and letters a reading holds, each counted each time it is reached (what is shared counts as often as it is met; a slice's spare places count too). A statement '..UptoSaid' is the law's where the arguments, and the package variables that the reading takes, are together of bulk at most 1048576: NARROWER than '..Said'. Prove '..Said' where nothing that the law and all that it calls make is longer than what came in: it says more and counts as full. Else prove '..UptoSaid'. A law counts once. -/
mutual
def uptoBulk {H : Type} : DataW H → Nat
  | .lit (.string bytes) => bytes.length + 1
  | .lit _ => 1
  | .nil => 1
  | .ptr d => uptoBulk d + 1
  | .slice elems spare => uptoBulkAll elems + uptoBulkAll spare + 1
  | .agg parts => uptoBulkAll parts + 1
  | .iface _ d => uptoBulk d + 1
  | .map entries => uptoBulkEntries entries + 1
  | .held _ => 1
def uptoBulkAll {H : Type} : List (DataW H) → Nat
  | [] => 0
  | d :: r => uptoBulk d + uptoBulkAll r
def uptoBulkEntries {H : Type} : List (Lit × DataW H) → Nat
  | [] => 0
  | x :: r => uptoBulkEntry x + uptoBulkEntries r
def uptoBulkEntry {H : Type} : Lit × DataW H → Nat
  | (.string bytes, d) => bytes.length + uptoBulk d + 1
  | (_, d) => uptoBulk d + 1
 end
def uptoSmall : (H : Type) → List (DataW H) → Bool := fun _ ds => decide (uptoBulkAll ds ≤ 1048576)
def OpenSpec.upto (s : _root_.Go.ChangeSpec) : _root_.Go.OpenSpec := { _root_.Go.OpenSpec.ofChange s with cond := some uptoSmall }

/-- 'perigeelaw37.UnitsPuts', WHERE WHAT IT READS IS OF BULK AT MOST 1048576: true; the input reads as it did. -/
def unitsPutsUptoRow : OpenClaim := { program := "ytkpgenmlpkfokaa", sum := "9e20a713bad7d0f2b9106695a8c61562ff13aa5eb1c7ec0e0171d006ecf35983", func := "perigee/perigeelaw37.UnitsPuts", spec := "unitsPuts", unfollowed := true, recurses := true, apart := false, narrowed := true }
def UnitsPutsUptoSaid : Prop := unitsPutsUptoRow.holds Try.pinned (OpenSpec.upto unitsPutsSpec)

/-- 'perigeelaw37.UnitsGets', WHERE WHAT IT READS IS OF BULK AT MOST 1048576: true; the input reads as it did. -/
def unitsGetsUptoRow : OpenClaim := { program := "ytkpgenmlpkfokaa", sum := "9e20a713bad7d0f2b9106695a8c61562ff13aa5eb1c7ec0e0171d006ecf35983", func := "perigee/perigeelaw37.UnitsGets", spec := "unitsGets", unfollowed := true, recurses := true, apart := false, narrowed := true }
def UnitsGetsUptoSaid : Prop := unitsGetsUptoRow.holds Try.pinned (OpenSpec.upto unitsGetsSpec)

/-- 'perigeelaw37.UnitsCuts', WHERE WHAT IT READS IS OF BULK AT MOST 1048576: true; the input reads as it did. -/
def unitsCutsUptoRow : OpenClaim := { program := "ytkpgenmlpkfokaa", sum := "9e20a713bad7d0f2b9106695a8c61562ff13aa5eb1c7ec0e0171d006ecf35983", func := "perigee/perigeelaw37.UnitsCuts", spec := "unitsCuts", unfollowed := true, recurses := true, apart := false, narrowed := true }
def UnitsCutsUptoSaid : Prop := unitsCutsUptoRow.holds Try.pinned (OpenSpec.upto unitsCutsSpec)

/-- 'perigeelaw37.UnitsBack', WHERE WHAT IT READS IS OF BULK AT MOST 1048576: true; the input reads as it did. -/
def unitsBackUptoRow : OpenClaim := { program := "ytkpgenmlpkfokaa", sum := "9e20a713bad7d0f2b9106695a8c61562ff13aa5eb1c7ec0e0171d006ecf35983", func := "perigee/perigeelaw37.UnitsBack", spec := "unitsBack", unfollowed := true, recurses := true, apart := false, narrowed := true }
def UnitsBackUptoSaid : Prop := unitsBackUptoRow.holds Try.pinned (OpenSpec.upto unitsBackSpec)

/-- 'perigeelaw37.UnitsFlips', WHERE WHAT IT READS IS OF BULK AT MOST 1048576: true; the input reads as it did. -/
def unitsFlipsUptoRow : OpenClaim := { program := "ytkpgenmlpkfokaa", sum := "9e20a713bad7d0f2b9106695a8c61562ff13aa5eb1c7ec0e0171d006ecf35983", func := "perigee/perigeelaw37.UnitsFlips", spec := "unitsFlips", unfollowed := true, recurses := true, apart := false, narrowed := true }
def UnitsFlipsUptoSaid : Prop := unitsFlipsUptoRow.holds Try.pinned (OpenSpec.upto unitsFlipsSpec)

/-- 'perigeelaw37.UnitsWhole', WHERE WHAT IT READS IS OF BULK AT MOST 1048576: true; the input reads as it did. -/
def unitsWholeUptoRow : OpenClaim := { program := "ytkpgenmlpkfokaa", sum := "9e20a713bad7d0f2b9106695a8c61562ff13aa5eb1c7ec0e0171d006ecf35983", func := "perigee/perigeelaw37.UnitsWhole", spec := "unitsWhole", unfollowed := true, recurses := true, apart := false, narrowed := true }
def UnitsWholeUptoSaid : Prop := unitsWholeUptoRow.holds Try.pinned (OpenSpec.upto unitsWholeSpec)

end Rows
end Go.Proofs.Ytkpgenmlpkfokaa

/-
  DERIVED. GIVEN WITH THE SEED: THE CARDS: each row of YtgopighmifpefaaGreatDoorRows.lean that lists a variable, with what it lists TIED to the program's text (the seventh form; the later family's looks); each row that meets fmt, with fmt's text TOLD by the authors' own Lean function (tested against real Go, not proved from fmt's source: count such statements apart). THE CARD IS WHAT COUNTS. Prove the row's statement (the work); the ties are given (YtgopighmifpefaaGreatDoorTie.lean); close each card by the builder's one call (the guide's Derived/Test/ToyasCard.lean, 'card_holds'). Laid BY PROGRAM, IN A SANDBOX (cutbox-door.mjs). By AI agents, Wed Nov 11 2026. No macro, syntax, notation, axiom, sorry.
-/
import Derived.Test.YtgopighmifpefaaGreatDoorRows
import GoSem.ClaimSeven
namespace Go.Proofs.YtgopighmifpefaaGreatDoor
namespace Rows

/-- THE TIED CARD OF 'perigeetop.TopLink'. -/
def topLinkCard : Claim7 := { stood := { row := topLinkRow, standIns := [], harness := (true, "980fe136e134d2d5221955d1a99cdd758e0cdf11b510fbdb27be9fc6d3c285a4"), looks := false }, kinds := [], alts := [], laidByText := true, laidKinds := [.widerDeep, .data], laidTests := true, laidLooks := .later }
def TopLinkCardSaid : Prop := Claim7.holds Tryz.pinned (.plain (OpenSpec.ofChange topLinkSpec)) topLinkCard

/-- THE SECOND FORM's CARD OF 'perigeetop.TopLink'. -/
def topLinkUptoCard : Claim7 := { stood := { row := topLinkUptoRow, standIns := [], harness := (true, "980fe136e134d2d5221955d1a99cdd758e0cdf11b510fbdb27be9fc6d3c285a4"), looks := false }, kinds := [], alts := [], laidByText := true, laidKinds := [.widerDeep, .data], laidTests := true, laidLooks := .later }
def TopLinkUptoCardSaid : Prop := Claim7.holds Tryz.pinned (.plain (OpenSpec.upto topLinkSpec)) topLinkUptoCard
end Rows
end Go.Proofs.YtgopighmifpefaaGreatDoor

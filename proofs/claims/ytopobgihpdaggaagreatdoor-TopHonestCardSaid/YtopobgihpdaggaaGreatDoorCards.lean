/-
  DERIVED. GIVEN WITH THE SEED: THE CARDS: each row of YtopobgihpdaggaaGreatDoorRows.lean that lists a variable, with what it lists TIED to the program's text (the seventh form; the later family's looks); each row that meets fmt, with fmt's text TOLD by the authors' own Lean function (tested against real Go, not proved from fmt's source: count such statements apart). THE CARD IS WHAT COUNTS. Prove the row's statement (the work); the ties are given (YtopobgihpdaggaaGreatDoorTie.lean); close each card by the builder's one call (the guide's Derived/Test/ToyasCard.lean, 'card_holds'). Laid BY PROGRAM, IN A SANDBOX (cutbox-door.mjs). By AI agents, Wed Nov 11 2026. No macro, syntax, notation, axiom, sorry.
-/
import Derived.Test.YtopobgihpdaggaaGreatDoorRows
import GoSem.ClaimSeven
namespace Go.Proofs.YtopobgihpdaggaaGreatDoor
namespace Rows

/-- THE TIED CARD OF 'isobartop.TopHonest'. -/
def topHonestCard : Claim7 := { stood := { row := topHonestRow, standIns := [], harness := (true, "a1ad5fcd0fb496f6c999da91ed331425c0fea1a31f28e93dd3a9ce9814b1fd39"), looks := true }, kinds := [], alts := [], laidByText := true, laidKinds := [.data, .data, .data, .data, .pinned], laidTests := true, laidLooks := .later }
def TopHonestCardSaid : Prop := Claim7.holds Tryz.pinned (.plain (OpenSpec.ofChange topHonestSpec)) topHonestCard

/-- THE SECOND FORM's CARD OF 'isobartop.TopHonest'. -/
def topHonestUptoCard : Claim7 := { stood := { row := topHonestUptoRow, standIns := [], harness := (true, "a1ad5fcd0fb496f6c999da91ed331425c0fea1a31f28e93dd3a9ce9814b1fd39"), looks := true }, kinds := [], alts := [], laidByText := true, laidKinds := [.data, .data, .data, .data, .pinned], laidTests := true, laidLooks := .later }
def TopHonestUptoCardSaid : Prop := Claim7.holds Tryz.pinned (.plain (OpenSpec.upto topHonestSpec)) topHonestUptoCard
end Rows
end Go.Proofs.YtopobgihpdaggaaGreatDoor

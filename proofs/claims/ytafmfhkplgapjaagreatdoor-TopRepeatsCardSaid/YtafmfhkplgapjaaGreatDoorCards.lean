/-
  DERIVED. GIVEN WITH THE SEED: THE CARDS: each row of YtafmfhkplgapjaaGreatDoorRows.lean that lists a variable, with what it lists TIED to the program's text (the seventh form; the later family's looks); each row that meets fmt, with fmt's text TOLD by the authors' own Lean function (tested against real Go, not proved from fmt's source: count such statements apart). THE CARD IS WHAT COUNTS. Prove the row's statement (the work); the ties are given (YtafmfhkplgapjaaGreatDoorTie.lean); close each card by the builder's one call (the guide's Derived/Test/ToyasCard.lean, 'card_holds'). Laid BY PROGRAM, IN A SANDBOX (cutbox-door.mjs). By AI agents, Wed Nov 11 2026. No macro, syntax, notation, axiom, sorry.
-/
import Derived.Test.YtafmfhkplgapjaaGreatDoorRows
import GoSem.ClaimSeven
namespace Go.Proofs.YtafmfhkplgapjaaGreatDoor
namespace Rows

/-- THE TIED CARD OF 'isobartop.TopRepeats'. -/
def topRepeatsCard : Claim7 := { stood := { row := topRepeatsRow, standIns := [], harness := (true, "313e60e670179798dc0b112a741ead5535cd87441bbd32444476bc9cb08109c8"), looks := true }, kinds := [], alts := [], laidByText := true, laidKinds := [.data, .data, .data, .data, .pinned], laidTests := true, laidLooks := .later }
def TopRepeatsCardSaid : Prop := Claim7.holds Tryz.pinned (.plain (OpenSpec.ofChange topRepeatsSpec)) topRepeatsCard

/-- THE SECOND FORM's CARD OF 'isobartop.TopRepeats'. -/
def topRepeatsUptoCard : Claim7 := { stood := { row := topRepeatsUptoRow, standIns := [], harness := (true, "313e60e670179798dc0b112a741ead5535cd87441bbd32444476bc9cb08109c8"), looks := true }, kinds := [], alts := [], laidByText := true, laidKinds := [.data, .data, .data, .data, .pinned], laidTests := true, laidLooks := .later }
def TopRepeatsUptoCardSaid : Prop := Claim7.holds Tryz.pinned (.plain (OpenSpec.upto topRepeatsSpec)) topRepeatsUptoCard
end Rows
end Go.Proofs.YtafmfhkplgapjaaGreatDoor

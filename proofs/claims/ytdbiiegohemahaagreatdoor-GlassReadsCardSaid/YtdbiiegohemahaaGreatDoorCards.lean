/-
  DERIVED. GIVEN WITH THE SEED: THE CARDS: each row of YtdbiiegohemahaaGreatDoorRows.lean that lists a variable, with what it lists TIED to the program's text (the seventh form; the later family's looks); each row that meets fmt, with fmt's text TOLD by the authors' own Lean function (tested against real Go, not proved from fmt's source: count such statements apart). THE CARD IS WHAT COUNTS. Prove the row's statement (the work); the ties are given (YtdbiiegohemahaaGreatDoorTie.lean); close each card by the builder's one call (the guide's Derived/Test/ToyasCard.lean, 'card_holds'). Laid BY PROGRAM, IN A SANDBOX (cutbox-door.mjs). By AI agents, Wed Nov 11 2026. No macro, syntax, notation, axiom, sorry.
-/
import Derived.Test.YtdbiiegohemahaaGreatDoorRows
import GoSem.ClaimSeven
namespace Go.Proofs.YtdbiiegohemahaaGreatDoor
namespace Rows

/-- THE TIED CARD OF 'isobarlaw01.GlassSheets'. -/
def glassSheetsCard : Claim7 := { stood := { row := glassSheetsRow, standIns := [], harness := (true, "169b0f0f8853be5edb32d6b1cfbc4bc5e5f9a1addd92be32cb6bf009dd36165c"), looks := true }, kinds := [], alts := [], laidByText := true, laidKinds := [.data, .data, .data, .data, .pinned], laidTests := true, laidLooks := .later }
def GlassSheetsCardSaid : Prop := Claim7.holds Tryz.pinned (.plain (OpenSpec.ofChange glassSheetsSpec)) glassSheetsCard

/-- THE TIED CARD OF 'isobarlaw01.GlassReads'. -/
def glassReadsCard : Claim7 := { stood := { row := glassReadsRow, standIns := [], harness := (true, "169b0f0f8853be5edb32d6b1cfbc4bc5e5f9a1addd92be32cb6bf009dd36165c"), looks := true }, kinds := [], alts := [], laidByText := true, laidKinds := [.data, .data, .data, .data, .pinned], laidTests := true, laidLooks := .later }
def GlassReadsCardSaid : Prop := Claim7.holds Tryz.pinned (.plain (OpenSpec.ofChange glassReadsSpec)) glassReadsCard

/-- THE TIED CARD OF 'isobarlaw01.GlassSpoilt'. -/
def glassSpoiltCard : Claim7 := { stood := { row := glassSpoiltRow, standIns := [], harness := (true, "169b0f0f8853be5edb32d6b1cfbc4bc5e5f9a1addd92be32cb6bf009dd36165c"), looks := true }, kinds := [], alts := [], laidByText := true, laidKinds := [.data, .data, .data, .data, .pinned], laidTests := true, laidLooks := .later }
def GlassSpoiltCardSaid : Prop := Claim7.holds Tryz.pinned (.plain (OpenSpec.ofChange glassSpoiltSpec)) glassSpoiltCard

/-- THE SECOND FORM's CARD OF 'isobarlaw01.GlassSheets'. -/
def glassSheetsUptoCard : Claim7 := { stood := { row := glassSheetsUptoRow, standIns := [], harness := (true, "169b0f0f8853be5edb32d6b1cfbc4bc5e5f9a1addd92be32cb6bf009dd36165c"), looks := true }, kinds := [], alts := [], laidByText := true, laidKinds := [.data, .data, .data, .data, .pinned], laidTests := true, laidLooks := .later }
def GlassSheetsUptoCardSaid : Prop := Claim7.holds Tryz.pinned (.plain (OpenSpec.upto glassSheetsSpec)) glassSheetsUptoCard

/-- THE SECOND FORM's CARD OF 'isobarlaw01.GlassReads'. -/
def glassReadsUptoCard : Claim7 := { stood := { row := glassReadsUptoRow, standIns := [], harness := (true, "169b0f0f8853be5edb32d6b1cfbc4bc5e5f9a1addd92be32cb6bf009dd36165c"), looks := true }, kinds := [], alts := [], laidByText := true, laidKinds := [.data, .data, .data, .data, .pinned], laidTests := true, laidLooks := .later }
def GlassReadsUptoCardSaid : Prop := Claim7.holds Tryz.pinned (.plain (OpenSpec.upto glassReadsSpec)) glassReadsUptoCard

/-- THE SECOND FORM's CARD OF 'isobarlaw01.GlassSpoilt'. -/
def glassSpoiltUptoCard : Claim7 := { stood := { row := glassSpoiltUptoRow, standIns := [], harness := (true, "169b0f0f8853be5edb32d6b1cfbc4bc5e5f9a1addd92be32cb6bf009dd36165c"), looks := true }, kinds := [], alts := [], laidByText := true, laidKinds := [.data, .data, .data, .data, .pinned], laidTests := true, laidLooks := .later }
def GlassSpoiltUptoCardSaid : Prop := Claim7.holds Tryz.pinned (.plain (OpenSpec.upto glassSpoiltSpec)) glassSpoiltUptoCard
end Rows
end Go.Proofs.YtdbiiegohemahaaGreatDoor

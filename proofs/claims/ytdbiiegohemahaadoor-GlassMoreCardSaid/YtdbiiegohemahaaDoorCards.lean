/-
  DERIVED. GIVEN WITH THE SEED: THE CARDS: each row of YtdbiiegohemahaaDoorRows.lean that lists a variable, with what it lists TIED to the program's text (the seventh form; the later family's looks); each row that meets fmt, with fmt's text TOLD by the authors' own Lean function (tested against real Go, not proved from fmt's source: count such statements apart). THE CARD IS WHAT COUNTS. Prove the row's statement (the work); the ties are given (YtdbiiegohemahaaDoorTie.lean); close each card by the builder's one call (the guide's Derived/Test/ToyasCard.lean, 'card_holds'). Laid BY PROGRAM, IN A SANDBOX (cutbox-door.mjs). By AI agents, Wed Nov 11 2026. No macro, syntax, notation, axiom, sorry.
-/
import Derived.Test.YtdbiiegohemahaaDoorRows
import GoSem.ClaimSeven
namespace Go.Proofs.YtdbiiegohemahaaDoor
namespace Rows

/-- THE TIED CARD OF 'isobarlaw01.GlassSharp'. -/
def glassSharpCard : Claim7 := { stood := { row := glassSharpRow, standIns := [], harness := (true, "c45eab21f72d41aedf474a0322f7f84bd74d4be16f644db16363b0929b51fe38"), looks := false }, kinds := [], alts := [], laidByText := true, laidKinds := [.data, .data, .data], laidTests := true, laidLooks := .later }
def GlassSharpCardSaid : Prop := Claim7.holds Tryd.pinned (.plain (OpenSpec.ofChange glassSharpSpec)) glassSharpCard

/-- THE TIED CARD OF 'isobarlaw01.GlassDues'. -/
def glassDuesCard : Claim7 := { stood := { row := glassDuesRow, standIns := [], harness := (true, "c45eab21f72d41aedf474a0322f7f84bd74d4be16f644db16363b0929b51fe38"), looks := false }, kinds := [], alts := [], laidByText := true, laidKinds := [.data, .data, .data], laidTests := true, laidLooks := .later }
def GlassDuesCardSaid : Prop := Claim7.holds Tryd.pinned (.plain (OpenSpec.ofChange glassDuesSpec)) glassDuesCard

/-- THE TIED CARD OF 'isobarlaw01.GlassWaits'. -/
def glassWaitsCard : Claim7 := { stood := { row := glassWaitsRow, standIns := [], harness := (true, "c45eab21f72d41aedf474a0322f7f84bd74d4be16f644db16363b0929b51fe38"), looks := false }, kinds := [], alts := [], laidByText := true, laidKinds := [.data, .data, .data], laidTests := true, laidLooks := .later }
def GlassWaitsCardSaid : Prop := Claim7.holds Tryd.pinned (.plain (OpenSpec.ofChange glassWaitsSpec)) glassWaitsCard

/-- THE TIED CARD OF 'isobarlaw01.GlassPlays'. -/
def glassPlaysCard : Claim7 := { stood := { row := glassPlaysRow, standIns := [], harness := (true, "c45eab21f72d41aedf474a0322f7f84bd74d4be16f644db16363b0929b51fe38"), looks := false }, kinds := [], alts := [], laidByText := true, laidKinds := [.data, .data, .data], laidTests := true, laidLooks := .later }
def GlassPlaysCardSaid : Prop := Claim7.holds Tryd.pinned (.plain (OpenSpec.ofChange glassPlaysSpec)) glassPlaysCard

/-- THE TIED CARD OF 'isobarlaw01.GlassKnows'. -/
def glassKnowsCard : Claim7 := { stood := { row := glassKnowsRow, standIns := [], harness := (true, "c45eab21f72d41aedf474a0322f7f84bd74d4be16f644db16363b0929b51fe38"), looks := false }, kinds := [], alts := [], laidByText := true, laidKinds := [.data, .data, .data], laidTests := true, laidLooks := .later }
def GlassKnowsCardSaid : Prop := Claim7.holds Tryd.pinned (.plain (OpenSpec.ofChange glassKnowsSpec)) glassKnowsCard

/-- THE TIED CARD OF 'isobarlaw01.GlassHolds'. -/
def glassHoldsCard : Claim7 := { stood := { row := glassHoldsRow, standIns := [], harness := (true, "c45eab21f72d41aedf474a0322f7f84bd74d4be16f644db16363b0929b51fe38"), looks := false }, kinds := [], alts := [], laidByText := true, laidKinds := [.data, .data, .data], laidTests := true, laidLooks := .later }
def GlassHoldsCardSaid : Prop := Claim7.holds Tryd.pinned (.plain (OpenSpec.ofChange glassHoldsSpec)) glassHoldsCard

/-- THE TIED CARD OF 'isobarlaw01.GlassEnds'. -/
def glassEndsCard : Claim7 := { stood := { row := glassEndsRow, standIns := [], harness := (true, "c45eab21f72d41aedf474a0322f7f84bd74d4be16f644db16363b0929b51fe38"), looks := false }, kinds := [], alts := [], laidByText := true, laidKinds := [.data, .data, .data], laidTests := true, laidLooks := .later }
def GlassEndsCardSaid : Prop := Claim7.holds Tryd.pinned (.plain (OpenSpec.ofChange glassEndsSpec)) glassEndsCard

/-- THE TIED CARD OF 'isobarlaw01.GlassRises'. -/
def glassRisesCard : Claim7 := { stood := { row := glassRisesRow, standIns := [], harness := (true, "c45eab21f72d41aedf474a0322f7f84bd74d4be16f644db16363b0929b51fe38"), looks := false }, kinds := [], alts := [], laidByText := true, laidKinds := [.data, .data, .data], laidTests := true, laidLooks := .later }
def GlassRisesCardSaid : Prop := Claim7.holds Tryd.pinned (.plain (OpenSpec.ofChange glassRisesSpec)) glassRisesCard

/-- THE TIED CARD OF 'isobarlaw01.GlassRose'. -/
def glassRoseCard : Claim7 := { stood := { row := glassRoseRow, standIns := [], harness := (true, "c45eab21f72d41aedf474a0322f7f84bd74d4be16f644db16363b0929b51fe38"), looks := false }, kinds := [], alts := [], laidByText := true, laidKinds := [.data, .data, .data], laidTests := true, laidLooks := .later }
def GlassRoseCardSaid : Prop := Claim7.holds Tryd.pinned (.plain (OpenSpec.ofChange glassRoseSpec)) glassRoseCard

/-- THE TIED CARD OF 'isobarlaw01.GlassWhens'. -/
def glassWhensCard : Claim7 := { stood := { row := glassWhensRow, standIns := [], harness := (true, "c45eab21f72d41aedf474a0322f7f84bd74d4be16f644db16363b0929b51fe38"), looks := false }, kinds := [], alts := [], laidByText := true, laidKinds := [.data, .data, .data], laidTests := true, laidLooks := .later }
def GlassWhensCardSaid : Prop := Claim7.holds Tryd.pinned (.plain (OpenSpec.ofChange glassWhensSpec)) glassWhensCard

/-- THE TIED CARD OF 'isobarlaw01.GlassMinutes'. -/
def glassMinutesCard : Claim7 := { stood := { row := glassMinutesRow, standIns := [], harness := (true, "c45eab21f72d41aedf474a0322f7f84bd74d4be16f644db16363b0929b51fe38"), looks := false }, kinds := [], alts := [], laidByText := true, laidKinds := [.data, .data, .data], laidTests := true, laidLooks := .later }
def GlassMinutesCardSaid : Prop := Claim7.holds Tryd.pinned (.plain (OpenSpec.ofChange glassMinutesSpec)) glassMinutesCard

/-- THE TIED CARD OF 'isobarlaw01.GlassMore'. -/
def glassMoreCard : Claim7 := { stood := { row := glassMoreRow, standIns := [], harness := (true, "c45eab21f72d41aedf474a0322f7f84bd74d4be16f644db16363b0929b51fe38"), looks := false }, kinds := [], alts := [], laidByText := true, laidKinds := [.data, .data, .data], laidTests := true, laidLooks := .later }
def GlassMoreCardSaid : Prop := Claim7.holds Tryd.pinned (.plain (OpenSpec.ofChange glassMoreSpec)) glassMoreCard

/-- THE TIED CARD OF 'isobarlaw01.GlassIndexes'. -/
def glassIndexesCard : Claim7 := { stood := { row := glassIndexesRow, standIns := [], harness := (true, "c45eab21f72d41aedf474a0322f7f84bd74d4be16f644db16363b0929b51fe38"), looks := false }, kinds := [], alts := [], laidByText := true, laidKinds := [.data, .data, .data], laidTests := true, laidLooks := .later }
def GlassIndexesCardSaid : Prop := Claim7.holds Tryd.pinned (.plain (OpenSpec.ofChange glassIndexesSpec)) glassIndexesCard

/-- THE TIED CARD OF 'isobarlaw01.GlassTrue'. -/
def glassTrueCard : Claim7 := { stood := { row := glassTrueRow, standIns := [], harness := (true, "c45eab21f72d41aedf474a0322f7f84bd74d4be16f644db16363b0929b51fe38"), looks := false }, kinds := [], alts := [], laidByText := true, laidKinds := [.data, .data, .data], laidTests := true, laidLooks := .later }
def GlassTrueCardSaid : Prop := Claim7.holds Tryd.pinned (.plain (OpenSpec.ofChange glassTrueSpec)) glassTrueCard

/-- THE TIED CARD OF 'isobarlaw01.GlassClashes'. -/
def glassClashesCard : Claim7 := { stood := { row := glassClashesRow, standIns := [], harness := (true, "c45eab21f72d41aedf474a0322f7f84bd74d4be16f644db16363b0929b51fe38"), looks := false }, kinds := [], alts := [], laidByText := true, laidKinds := [.data, .data, .data], laidTests := true, laidLooks := .later }
def GlassClashesCardSaid : Prop := Claim7.holds Tryd.pinned (.plain (OpenSpec.ofChange glassClashesSpec)) glassClashesCard

/-- THE TIED CARD OF 'isobarlaw01.GlassShown'. -/
def glassShownCard : Claim7 := { stood := { row := glassShownRow, standIns := [], harness := (true, "c45eab21f72d41aedf474a0322f7f84bd74d4be16f644db16363b0929b51fe38"), looks := false }, kinds := [], alts := [], laidByText := true, laidKinds := [.data, .data, .data], laidTests := true, laidLooks := .later }
def GlassShownCardSaid : Prop := Claim7.holds Tryd.pinned (.plain (OpenSpec.ofChange glassShownSpec)) glassShownCard

/-- THE SECOND FORM's CARD OF 'isobarlaw01.GlassSharp'. -/
def glassSharpUptoCard : Claim7 := { stood := { row := glassSharpUptoRow, standIns := [], harness := (true, "c45eab21f72d41aedf474a0322f7f84bd74d4be16f644db16363b0929b51fe38"), looks := false }, kinds := [], alts := [], laidByText := true, laidKinds := [.data, .data, .data], laidTests := true, laidLooks := .later }
def GlassSharpUptoCardSaid : Prop := Claim7.holds Tryd.pinned (.plain (OpenSpec.upto glassSharpSpec)) glassSharpUptoCard

/-- THE SECOND FORM's CARD OF 'isobarlaw01.GlassDues'. -/
def glassDuesUptoCard : Claim7 := { stood := { row := glassDuesUptoRow, standIns := [], harness := (true, "c45eab21f72d41aedf474a0322f7f84bd74d4be16f644db16363b0929b51fe38"), looks := false }, kinds := [], alts := [], laidByText := true, laidKinds := [.data, .data, .data], laidTests := true, laidLooks := .later }
def GlassDuesUptoCardSaid : Prop := Claim7.holds Tryd.pinned (.plain (OpenSpec.upto glassDuesSpec)) glassDuesUptoCard

/-- THE SECOND FORM's CARD OF 'isobarlaw01.GlassWaits'. -/
def glassWaitsUptoCard : Claim7 := { stood := { row := glassWaitsUptoRow, standIns := [], harness := (true, "c45eab21f72d41aedf474a0322f7f84bd74d4be16f644db16363b0929b51fe38"), looks := false }, kinds := [], alts := [], laidByText := true, laidKinds := [.data, .data, .data], laidTests := true, laidLooks := .later }
def GlassWaitsUptoCardSaid : Prop := Claim7.holds Tryd.pinned (.plain (OpenSpec.upto glassWaitsSpec)) glassWaitsUptoCard

/-- THE SECOND FORM's CARD OF 'isobarlaw01.GlassPlays'. -/
def glassPlaysUptoCard : Claim7 := { stood := { row := glassPlaysUptoRow, standIns := [], harness := (true, "c45eab21f72d41aedf474a0322f7f84bd74d4be16f644db16363b0929b51fe38"), looks := false }, kinds := [], alts := [], laidByText := true, laidKinds := [.data, .data, .data], laidTests := true, laidLooks := .later }
def GlassPlaysUptoCardSaid : Prop := Claim7.holds Tryd.pinned (.plain (OpenSpec.upto glassPlaysSpec)) glassPlaysUptoCard

/-- THE SECOND FORM's CARD OF 'isobarlaw01.GlassKnows'. -/
def glassKnowsUptoCard : Claim7 := { stood := { row := glassKnowsUptoRow, standIns := [], harness := (true, "c45eab21f72d41aedf474a0322f7f84bd74d4be16f644db16363b0929b51fe38"), looks := false }, kinds := [], alts := [], laidByText := true, laidKinds := [.data, .data, .data], laidTests := true, laidLooks := .later }
def GlassKnowsUptoCardSaid : Prop := Claim7.holds Tryd.pinned (.plain (OpenSpec.upto glassKnowsSpec)) glassKnowsUptoCard

/-- THE SECOND FORM's CARD OF 'isobarlaw01.GlassHolds'. -/
def glassHoldsUptoCard : Claim7 := { stood := { row := glassHoldsUptoRow, standIns := [], harness := (true, "c45eab21f72d41aedf474a0322f7f84bd74d4be16f644db16363b0929b51fe38"), looks := false }, kinds := [], alts := [], laidByText := true, laidKinds := [.data, .data, .data], laidTests := true, laidLooks := .later }
def GlassHoldsUptoCardSaid : Prop := Claim7.holds Tryd.pinned (.plain (OpenSpec.upto glassHoldsSpec)) glassHoldsUptoCard

/-- THE SECOND FORM's CARD OF 'isobarlaw01.GlassEnds'. -/
def glassEndsUptoCard : Claim7 := { stood := { row := glassEndsUptoRow, standIns := [], harness := (true, "c45eab21f72d41aedf474a0322f7f84bd74d4be16f644db16363b0929b51fe38"), looks := false }, kinds := [], alts := [], laidByText := true, laidKinds := [.data, .data, .data], laidTests := true, laidLooks := .later }
def GlassEndsUptoCardSaid : Prop := Claim7.holds Tryd.pinned (.plain (OpenSpec.upto glassEndsSpec)) glassEndsUptoCard

/-- THE SECOND FORM's CARD OF 'isobarlaw01.GlassRises'. -/
def glassRisesUptoCard : Claim7 := { stood := { row := glassRisesUptoRow, standIns := [], harness := (true, "c45eab21f72d41aedf474a0322f7f84bd74d4be16f644db16363b0929b51fe38"), looks := false }, kinds := [], alts := [], laidByText := true, laidKinds := [.data, .data, .data], laidTests := true, laidLooks := .later }
def GlassRisesUptoCardSaid : Prop := Claim7.holds Tryd.pinned (.plain (OpenSpec.upto glassRisesSpec)) glassRisesUptoCard

/-- THE SECOND FORM's CARD OF 'isobarlaw01.GlassRose'. -/
def glassRoseUptoCard : Claim7 := { stood := { row := glassRoseUptoRow, standIns := [], harness := (true, "c45eab21f72d41aedf474a0322f7f84bd74d4be16f644db16363b0929b51fe38"), looks := false }, kinds := [], alts := [], laidByText := true, laidKinds := [.data, .data, .data], laidTests := true, laidLooks := .later }
def GlassRoseUptoCardSaid : Prop := Claim7.holds Tryd.pinned (.plain (OpenSpec.upto glassRoseSpec)) glassRoseUptoCard

/-- THE SECOND FORM's CARD OF 'isobarlaw01.GlassWhens'. -/
def glassWhensUptoCard : Claim7 := { stood := { row := glassWhensUptoRow, standIns := [], harness := (true, "c45eab21f72d41aedf474a0322f7f84bd74d4be16f644db16363b0929b51fe38"), looks := false }, kinds := [], alts := [], laidByText := true, laidKinds := [.data, .data, .data], laidTests := true, laidLooks := .later }
def GlassWhensUptoCardSaid : Prop := Claim7.holds Tryd.pinned (.plain (OpenSpec.upto glassWhensSpec)) glassWhensUptoCard

/-- THE SECOND FORM's CARD OF 'isobarlaw01.GlassMinutes'. -/
def glassMinutesUptoCard : Claim7 := { stood := { row := glassMinutesUptoRow, standIns := [], harness := (true, "c45eab21f72d41aedf474a0322f7f84bd74d4be16f644db16363b0929b51fe38"), looks := false }, kinds := [], alts := [], laidByText := true, laidKinds := [.data, .data, .data], laidTests := true, laidLooks := .later }
def GlassMinutesUptoCardSaid : Prop := Claim7.holds Tryd.pinned (.plain (OpenSpec.upto glassMinutesSpec)) glassMinutesUptoCard

/-- THE SECOND FORM's CARD OF 'isobarlaw01.GlassMore'. -/
def glassMoreUptoCard : Claim7 := { stood := { row := glassMoreUptoRow, standIns := [], harness := (true, "c45eab21f72d41aedf474a0322f7f84bd74d4be16f644db16363b0929b51fe38"), looks := false }, kinds := [], alts := [], laidByText := true, laidKinds := [.data, .data, .data], laidTests := true, laidLooks := .later }
def GlassMoreUptoCardSaid : Prop := Claim7.holds Tryd.pinned (.plain (OpenSpec.upto glassMoreSpec)) glassMoreUptoCard

/-- THE SECOND FORM's CARD OF 'isobarlaw01.GlassIndexes'. -/
def glassIndexesUptoCard : Claim7 := { stood := { row := glassIndexesUptoRow, standIns := [], harness := (true, "c45eab21f72d41aedf474a0322f7f84bd74d4be16f644db16363b0929b51fe38"), looks := false }, kinds := [], alts := [], laidByText := true, laidKinds := [.data, .data, .data], laidTests := true, laidLooks := .later }
def GlassIndexesUptoCardSaid : Prop := Claim7.holds Tryd.pinned (.plain (OpenSpec.upto glassIndexesSpec)) glassIndexesUptoCard

/-- THE SECOND FORM's CARD OF 'isobarlaw01.GlassTrue'. -/
def glassTrueUptoCard : Claim7 := { stood := { row := glassTrueUptoRow, standIns := [], harness := (true, "c45eab21f72d41aedf474a0322f7f84bd74d4be16f644db16363b0929b51fe38"), looks := false }, kinds := [], alts := [], laidByText := true, laidKinds := [.data, .data, .data], laidTests := true, laidLooks := .later }
def GlassTrueUptoCardSaid : Prop := Claim7.holds Tryd.pinned (.plain (OpenSpec.upto glassTrueSpec)) glassTrueUptoCard

/-- THE SECOND FORM's CARD OF 'isobarlaw01.GlassClashes'. -/
def glassClashesUptoCard : Claim7 := { stood := { row := glassClashesUptoRow, standIns := [], harness := (true, "c45eab21f72d41aedf474a0322f7f84bd74d4be16f644db16363b0929b51fe38"), looks := false }, kinds := [], alts := [], laidByText := true, laidKinds := [.data, .data, .data], laidTests := true, laidLooks := .later }
def GlassClashesUptoCardSaid : Prop := Claim7.holds Tryd.pinned (.plain (OpenSpec.upto glassClashesSpec)) glassClashesUptoCard

/-- THE SECOND FORM's CARD OF 'isobarlaw01.GlassShown'. -/
def glassShownUptoCard : Claim7 := { stood := { row := glassShownUptoRow, standIns := [], harness := (true, "c45eab21f72d41aedf474a0322f7f84bd74d4be16f644db16363b0929b51fe38"), looks := false }, kinds := [], alts := [], laidByText := true, laidKinds := [.data, .data, .data], laidTests := true, laidLooks := .later }
def GlassShownUptoCardSaid : Prop := Claim7.holds Tryd.pinned (.plain (OpenSpec.upto glassShownSpec)) glassShownUptoCard
end Rows
end Go.Proofs.YtdbiiegohemahaaDoor

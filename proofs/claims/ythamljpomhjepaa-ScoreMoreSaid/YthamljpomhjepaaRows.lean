/-
  No cell of these rows narrows 'for every input' (looked for: loops, veiled, ifaces, maps, wideKeys, modest, calm, conditions, laid).
  DERIVED. THE GIVEN ROWS OF THIS SEAT. 15 by the template 'for every input the law returns true; each argument reads behind the call as it read before'; 0 by the template 'total and deterministic' (their statements: YthamljpomhjepaaTotals.lean).
  GIVEN WITH THE SEED: the statements are not yours to turn. If you find one false, say at which input.
  Laid BY PROGRAM, IN A SANDBOX (cutbox-rows.mjs): the forced cells as the released guide's own fill.sh prints them over the translation 20b257e48ac85994… (all of the seat's roots in one cut). By AI agents, Wed Nov 11 2026. No macro, syntax, notation, axiom, sorry.
-/
import Derived.Test.YthamljpomhjepaaChecked
import GoSem.Claim
import GoSem.ClaimJoined
import GoSem.ClaimMapViews
import Derived.JoinedTies
import Derived.KernelRfl
namespace Go.Proofs.Ythamljpomhjepaa
/- THE CELL 'sum', in the pinned program and in every row, IS THE sha256 OF THE DUMP (.gsa) THAT YthamljpomhjepaaProg.lean LOADS. Nothing in Lean hashes anything: it is a label: what it is worth is what the hold of that sum in a sandbox is worth. -/
noncomputable def Try.pinned : Pinned := { name := "ythamljpomhjepaa", sum := "20b257e48ac859940499d46da0a57749b8d0b14348cc158d3eef8777749396f1", checked := Try.checked }
namespace Rows
def none {H : Type} : Left H := { results := [], args := [] }

/-- 'isobarlaw06.ScoreGains': WHATEVER THE INPUT: true; the input reads as it did. -/
def scoreGainsSpec : ChangeSpec := { name := "scoreGains", fn := fun _ => fun
  | [d1, d2, d3] => { results := [.lit (.bool true)], args := [d1, d2, d3] }
  | _ => none }
def scoreGainsRow : OpenClaim := { program := "ythamljpomhjepaa", sum := "20b257e48ac859940499d46da0a57749b8d0b14348cc158d3eef8777749396f1", func := "isobar/isobarlaw06.ScoreGains", spec := "scoreGains", unfollowed := true, recurses := true, plainKeys := false, apart := false }
def ScoreGainsSaid : Prop := scoreGainsRow.holds Try.pinned (OpenSpec.ofChange scoreGainsSpec)

/-- ITS FALSE NEIGHBOUR: 'it returns false'. Refute it at one input. -/
def scoreGainsWrong : ChangeSpec := { name := "scoreGains", fn := fun _ => fun
  | [d1, d2, d3] => { results := [.lit (.bool false)], args := [d1, d2, d3] }
  | _ => none }
def ScoreGainsWrongFalsely : Prop := scoreGainsRow.holds Try.pinned (OpenSpec.ofChange scoreGainsWrong)

/-- 'isobarlaw06.ScoreHonest': WHATEVER THE INPUT: true; the input reads as it did. -/
def scoreHonestSpec : ChangeSpec := { name := "scoreHonest", fn := fun _ => fun
  | [d1, d2] => { results := [.lit (.bool true)], args := [d1, d2] }
  | _ => none }
def scoreHonestRow : OpenClaim := { program := "ythamljpomhjepaa", sum := "20b257e48ac859940499d46da0a57749b8d0b14348cc158d3eef8777749396f1", func := "isobar/isobarlaw06.ScoreHonest", spec := "scoreHonest", unfollowed := true, recurses := true, plainKeys := false, apart := false }
def ScoreHonestSaid : Prop := scoreHonestRow.holds Try.pinned (OpenSpec.ofChange scoreHonestSpec)

/-- ITS FALSE NEIGHBOUR: 'it returns false'. Refute it at one input. -/
def scoreHonestWrong : ChangeSpec := { name := "scoreHonest", fn := fun _ => fun
  | [d1, d2] => { results := [.lit (.bool false)], args := [d1, d2] }
  | _ => none }
def ScoreHonestWrongFalsely : Prop := scoreHonestRow.holds Try.pinned (OpenSpec.ofChange scoreHonestWrong)

/-- 'isobarlaw06.ScoreBests': WHATEVER THE INPUT: true; the input reads as it did. -/
def scoreBestsSpec : ChangeSpec := { name := "scoreBests", fn := fun _ => fun
  | [d1, d2] => { results := [.lit (.bool true)], args := [d1, d2] }
  | _ => none }
def scoreBestsRow : OpenClaim := { program := "ythamljpomhjepaa", sum := "20b257e48ac859940499d46da0a57749b8d0b14348cc158d3eef8777749396f1", func := "isobar/isobarlaw06.ScoreBests", spec := "scoreBests", unfollowed := true, recurses := true, plainKeys := false, apart := false }
def ScoreBestsSaid : Prop := scoreBestsRow.holds Try.pinned (OpenSpec.ofChange scoreBestsSpec)

/-- ITS FALSE NEIGHBOUR: 'it returns false'. Refute it at one input. -/
def scoreBestsWrong : ChangeSpec := { name := "scoreBests", fn := fun _ => fun
  | [d1, d2] => { results := [.lit (.bool false)], args := [d1, d2] }
  | _ => none }
def ScoreBestsWrongFalsely : Prop := scoreBestsRow.holds Try.pinned (OpenSpec.ofChange scoreBestsWrong)

/-- 'isobarlaw06.ScoreNear': WHATEVER THE INPUT: true; the input reads as it did. -/
def scoreNearSpec : ChangeSpec := { name := "scoreNear", fn := fun _ => fun
  | [d1, d2, d3] => { results := [.lit (.bool true)], args := [d1, d2, d3] }
  | _ => none }
def scoreNearRow : OpenClaim := { program := "ythamljpomhjepaa", sum := "20b257e48ac859940499d46da0a57749b8d0b14348cc158d3eef8777749396f1", func := "isobar/isobarlaw06.ScoreNear", spec := "scoreNear", unfollowed := true, recurses := true, plainKeys := false, apart := false }
def ScoreNearSaid : Prop := scoreNearRow.holds Try.pinned (OpenSpec.ofChange scoreNearSpec)

/-- ITS FALSE NEIGHBOUR: 'it returns false'. Refute it at one input. -/
def scoreNearWrong : ChangeSpec := { name := "scoreNear", fn := fun _ => fun
  | [d1, d2, d3] => { results := [.lit (.bool false)], args := [d1, d2, d3] }
  | _ => none }
def ScoreNearWrongFalsely : Prop := scoreNearRow.holds Try.pinned (OpenSpec.ofChange scoreNearWrong)

/-- 'isobarlaw06.ScoreClimates': WHATEVER THE INPUT: true; the input reads as it did. -/
def scoreClimatesSpec : ChangeSpec := { name := "scoreClimates", fn := fun _ => fun
  | [d1, d2, d3] => { results := [.lit (.bool true)], args := [d1, d2, d3] }
  | _ => none }
def scoreClimatesRow : OpenClaim := { program := "ythamljpomhjepaa", sum := "20b257e48ac859940499d46da0a57749b8d0b14348cc158d3eef8777749396f1", func := "isobar/isobarlaw06.ScoreClimates", spec := "scoreClimates", unfollowed := true, recurses := true, plainKeys := false, apart := false }
def ScoreClimatesSaid : Prop := scoreClimatesRow.holds Try.pinned (OpenSpec.ofChange scoreClimatesSpec)

/-- ITS FALSE NEIGHBOUR: 'it returns false'. Refute it at one input. -/
def scoreClimatesWrong : ChangeSpec := { name := "scoreClimates", fn := fun _ => fun
  | [d1, d2, d3] => { results := [.lit (.bool false)], args := [d1, d2, d3] }
  | _ => none }
def ScoreClimatesWrongFalsely : Prop := scoreClimatesRow.holds Try.pinned (OpenSpec.ofChange scoreClimatesWrong)

/-- 'isobarlaw06.ScoreTrue': WHATEVER THE INPUT: true; the input reads as it did. -/
def scoreTrueSpec : ChangeSpec := { name := "scoreTrue", fn := fun _ => fun
  | [d1, d2, d3, d4] => { results := [.lit (.bool true)], args := [d1, d2, d3, d4] }
  | _ => none }
def scoreTrueRow : OpenClaim := { program := "ythamljpomhjepaa", sum := "20b257e48ac859940499d46da0a57749b8d0b14348cc158d3eef8777749396f1", func := "isobar/isobarlaw06.ScoreTrue", spec := "scoreTrue", unfollowed := true, recurses := true, plainKeys := false, apart := false }
def ScoreTrueSaid : Prop := scoreTrueRow.holds Try.pinned (OpenSpec.ofChange scoreTrueSpec)

/-- ITS FALSE NEIGHBOUR: 'it returns false'. Refute it at one input. -/
def scoreTrueWrong : ChangeSpec := { name := "scoreTrue", fn := fun _ => fun
  | [d1, d2, d3, d4] => { results := [.lit (.bool false)], args := [d1, d2, d3, d4] }
  | _ => none }
def ScoreTrueWrongFalsely : Prop := scoreTrueRow.holds Try.pinned (OpenSpec.ofChange scoreTrueWrong)

/-- 'isobarlaw06.ScoreEnds': WHATEVER THE INPUT: true; the input reads as it did. -/
def scoreEndsSpec : ChangeSpec := { name := "scoreEnds", fn := fun _ => fun
  | [d1, d2] => { results := [.lit (.bool true)], args := [d1, d2] }
  | _ => none }
def scoreEndsRow : OpenClaim := { program := "ythamljpomhjepaa", sum := "20b257e48ac859940499d46da0a57749b8d0b14348cc158d3eef8777749396f1", func := "isobar/isobarlaw06.ScoreEnds", spec := "scoreEnds", unfollowed := true, recurses := true, plainKeys := false, apart := false }
def ScoreEndsSaid : Prop := scoreEndsRow.holds Try.pinned (OpenSpec.ofChange scoreEndsSpec)

/-- ITS FALSE NEIGHBOUR: 'it returns false'. Refute it at one input. -/
def scoreEndsWrong : ChangeSpec := { name := "scoreEnds", fn := fun _ => fun
  | [d1, d2] => { results := [.lit (.bool false)], args := [d1, d2] }
  | _ => none }
def ScoreEndsWrongFalsely : Prop := scoreEndsRow.holds Try.pinned (OpenSpec.ofChange scoreEndsWrong)

/-- 'isobarlaw06.ScoreClimate': WHATEVER THE INPUT: true; the input reads as it did. -/
def scoreClimateSpec : ChangeSpec := { name := "scoreClimate", fn := fun _ => fun
  | [d1, d2, d3] => { results := [.lit (.bool true)], args := [d1, d2, d3] }
  | _ => none }
def scoreClimateRow : OpenClaim := { program := "ythamljpomhjepaa", sum := "20b257e48ac859940499d46da0a57749b8d0b14348cc158d3eef8777749396f1", func := "isobar/isobarlaw06.ScoreClimate", spec := "scoreClimate", unfollowed := true, recurses := true, plainKeys := false, apart := false }
def ScoreClimateSaid : Prop := scoreClimateRow.holds Try.pinned (OpenSpec.ofChange scoreClimateSpec)

/-- ITS FALSE NEIGHBOUR: 'it returns false'. Refute it at one input. -/
def scoreClimateWrong : ChangeSpec := { name := "scoreClimate", fn := fun _ => fun
  | [d1, d2, d3] => { results := [.lit (.bool false)], args := [d1, d2, d3] }
  | _ => none }
def ScoreClimateWrongFalsely : Prop := scoreClimateRow.holds Try.pinned (OpenSpec.ofChange scoreClimateWrong)

/-- 'isobarlaw06.ScoreGames': WHATEVER THE INPUT: true; the input reads as it did. -/
def scoreGamesSpec : ChangeSpec := { name := "scoreGames", fn := fun _ => fun
  | [d] => { results := [.lit (.bool true)], args := [d] }
  | _ => none }
def scoreGamesRow : OpenClaim := { program := "ythamljpomhjepaa", sum := "20b257e48ac859940499d46da0a57749b8d0b14348cc158d3eef8777749396f1", func := "isobar/isobarlaw06.ScoreGames", spec := "scoreGames", unfollowed := true, recurses := true, plainKeys := false, apart := false }
def ScoreGamesSaid : Prop := scoreGamesRow.holds Try.pinned (OpenSpec.ofChange scoreGamesSpec)

/-- ITS FALSE NEIGHBOUR: 'it returns false'. Refute it at one input. -/
def scoreGamesWrong : ChangeSpec := { name := "scoreGames", fn := fun _ => fun
  | [d] => { results := [.lit (.bool false)], args := [d] }
  | _ => none }
def ScoreGamesWrongFalsely : Prop := scoreGamesRow.holds Try.pinned (OpenSpec.ofChange scoreGamesWrong)

/-- 'isobarlaw06.ScoreGamed': WHATEVER THE INPUT: true; the input reads as it did. -/
def scoreGamedSpec : ChangeSpec := { name := "scoreGamed", fn := fun _ => fun
  | [d1, d2, d3] => { results := [.lit (.bool true)], args := [d1, d2, d3] }
  | _ => none }
def scoreGamedRow : OpenClaim := { program := "ythamljpomhjepaa", sum := "20b257e48ac859940499d46da0a57749b8d0b14348cc158d3eef8777749396f1", func := "isobar/isobarlaw06.ScoreGamed", spec := "scoreGamed", unfollowed := true, recurses := true, plainKeys := false, apart := false }
def ScoreGamedSaid : Prop := scoreGamedRow.holds Try.pinned (OpenSpec.ofChange scoreGamedSpec)

/-- ITS FALSE NEIGHBOUR: 'it returns false'. Refute it at one input. -/
def scoreGamedWrong : ChangeSpec := { name := "scoreGamed", fn := fun _ => fun
  | [d1, d2, d3] => { results := [.lit (.bool false)], args := [d1, d2, d3] }
  | _ => none }
def ScoreGamedWrongFalsely : Prop := scoreGamedRow.holds Try.pinned (OpenSpec.ofChange scoreGamedWrong)

/-- 'isobarlaw06.ScoreProper': WHATEVER THE INPUT: true; the input reads as it did. -/
def scoreProperSpec : ChangeSpec := { name := "scoreProper", fn := fun _ => fun
  | [d1, d2, d3, d4] => { results := [.lit (.bool true)], args := [d1, d2, d3, d4] }
  | _ => none }
def scoreProperRow : OpenClaim := { program := "ythamljpomhjepaa", sum := "20b257e48ac859940499d46da0a57749b8d0b14348cc158d3eef8777749396f1", func := "isobar/isobarlaw06.ScoreProper", spec := "scoreProper", unfollowed := true, recurses := true, plainKeys := false, apart := false }
def ScoreProperSaid : Prop := scoreProperRow.holds Try.pinned (OpenSpec.ofChange scoreProperSpec)

/-- ITS FALSE NEIGHBOUR: 'it returns false'. Refute it at one input. -/
def scoreProperWrong : ChangeSpec := { name := "scoreProper", fn := fun _ => fun
  | [d1, d2, d3, d4] => { results := [.lit (.bool false)], args := [d1, d2, d3, d4] }
  | _ => none }
def ScoreProperWrongFalsely : Prop := scoreProperRow.holds Try.pinned (OpenSpec.ofChange scoreProperWrong)

/-- 'isobarlaw06.ScorePays': WHATEVER THE INPUT: true; the input reads as it did. -/
def scorePaysSpec : ChangeSpec := { name := "scorePays", fn := fun _ => fun
  | [d1, d2, d3, d4] => { results := [.lit (.bool true)], args := [d1, d2, d3, d4] }
  | _ => none }
def scorePaysRow : OpenClaim := { program := "ythamljpomhjepaa", sum := "20b257e48ac859940499d46da0a57749b8d0b14348cc158d3eef8777749396f1", func := "isobar/isobarlaw06.ScorePays", spec := "scorePays", unfollowed := true, recurses := true, plainKeys := false, apart := false }
def ScorePaysSaid : Prop := scorePaysRow.holds Try.pinned (OpenSpec.ofChange scorePaysSpec)

/-- ITS FALSE NEIGHBOUR: 'it returns false'. Refute it at one input. -/
def scorePaysWrong : ChangeSpec := { name := "scorePays", fn := fun _ => fun
  | [d1, d2, d3, d4] => { results := [.lit (.bool false)], args := [d1, d2, d3, d4] }
  | _ => none }
def ScorePaysWrongFalsely : Prop := scorePaysRow.holds Try.pinned (OpenSpec.ofChange scorePaysWrong)

/-- 'isobarlaw06.ScoreTempted': WHATEVER THE INPUT: true; the input reads as it did. -/
def scoreTemptedSpec : ChangeSpec := { name := "scoreTempted", fn := fun _ => fun
  | [d1, d2, d3, d4, d5] => { results := [.lit (.bool true)], args := [d1, d2, d3, d4, d5] }
  | _ => none }
def scoreTemptedRow : OpenClaim := { program := "ythamljpomhjepaa", sum := "20b257e48ac859940499d46da0a57749b8d0b14348cc158d3eef8777749396f1", func := "isobar/isobarlaw06.ScoreTempted", spec := "scoreTempted", unfollowed := true, recurses := true, plainKeys := false, apart := false }
def ScoreTemptedSaid : Prop := scoreTemptedRow.holds Try.pinned (OpenSpec.ofChange scoreTemptedSpec)

/-- ITS FALSE NEIGHBOUR: 'it returns false'. Refute it at one input. -/
def scoreTemptedWrong : ChangeSpec := { name := "scoreTempted", fn := fun _ => fun
  | [d1, d2, d3, d4, d5] => { results := [.lit (.bool false)], args := [d1, d2, d3, d4, d5] }
  | _ => none }
def ScoreTemptedWrongFalsely : Prop := scoreTemptedRow.holds Try.pinned (OpenSpec.ofChange scoreTemptedWrong)

/-- 'isobarlaw06.ScoreMore': WHATEVER THE INPUT: true; the input reads as it did. -/
def scoreMoreSpec : ChangeSpec := { name := "scoreMore", fn := fun _ => fun
  | [d1, d2, d3, d4, d5] => { results := [.lit (.bool true)], args := [d1, d2, d3, d4, d5] }
  | _ => none }
def scoreMoreRow : OpenClaim := { program := "ythamljpomhjepaa", sum := "20b257e48ac859940499d46da0a57749b8d0b14348cc158d3eef8777749396f1", func := "isobar/isobarlaw06.ScoreMore", spec := "scoreMore", unfollowed := true, recurses := true, plainKeys := false, apart := false }
def ScoreMoreSaid : Prop := scoreMoreRow.holds Try.pinned (OpenSpec.ofChange scoreMoreSpec)

/-- ITS FALSE NEIGHBOUR: 'it returns false'. Refute it at one input. -/
def scoreMoreWrong : ChangeSpec := { name := "scoreMore", fn := fun _ => fun
  | [d1, d2, d3, d4, d5] => { results := [.lit (.bool false)], args := [d1, d2, d3, d4, d5] }
  | _ => none }
def ScoreMoreWrongFalsely : Prop := scoreMoreRow.holds Try.pinned (OpenSpec.ofChange scoreMoreWrong)

/-- 'isobarlaw06.ScoreTotals': WHATEVER THE INPUT: true; the input reads as it did. -/
def scoreTotalsSpec : ChangeSpec := { name := "scoreTotals", fn := fun _ => fun
  | [d1, d2, d3] => { results := [.lit (.bool true)], args := [d1, d2, d3] }
  | _ => none }
def scoreTotalsRow : OpenClaim := { program := "ythamljpomhjepaa", sum := "20b257e48ac859940499d46da0a57749b8d0b14348cc158d3eef8777749396f1", func := "isobar/isobarlaw06.ScoreTotals", spec := "scoreTotals", unfollowed := true, recurses := true, plainKeys := false, apart := false }
def ScoreTotalsSaid : Prop := scoreTotalsRow.holds Try.pinned (OpenSpec.ofChange scoreTotalsSpec)

/-- ITS FALSE NEIGHBOUR: 'it returns false'. Refute it at one input. -/
def scoreTotalsWrong : ChangeSpec := { name := "scoreTotals", fn := fun _ => fun
  | [d1, d2, d3] => { results := [.lit (.bool false)], args := [d1, d2, d3] }
  | _ => none }
def ScoreTotalsWrongFalsely : Prop := scoreTotalsRow.holds Try.pinned (OpenSpec.ofChange scoreTotalsWrong)

/- THE SECOND FORM. 'bulk': how many values and letters a reading holds, each counted each time it is reached (what is shared counts as often as it is met; a slice's spare places count too). A statement '..UptoSaid' is the law's where the arguments, and the package variables that the reading takes, are together of bulk at most 1048576: NARROWER than '..Said'. Prove '..Said' where nothing that the law and all that it calls make is longer than what came in: it says more and counts as full. Else prove '..UptoSaid'. A law counts once. -/
mutual
def uptoBulk {H : Type} : DataW H → Nat
  | .lit (.string bytes) => bytes.length + 1
  | .lit _ => 1
  | .nil => 1
  | .ptr d => uptoBulk d + 1
  | .slice elems spare => uptoBulkAll elems + uptoBulkAll spare + 1
  | .agg parts => uptoBulkAll parts + 1
  | .iface _ d => uptoBulk d + 1
  | .map entries => uptoBulkEntries entries + 1
  | .held _ => 1
def uptoBulkAll {H : Type} : List (DataW H) → Nat
  | [] => 0
  | d :: r => uptoBulk d + uptoBulkAll r
def uptoBulkEntries {H : Type} : List (Lit × DataW H) → Nat
  | [] => 0
  | x :: r => uptoBulkEntry x + uptoBulkEntries r
def uptoBulkEntry {H : Type} : Lit × DataW H → Nat
  | (.string bytes, d) => bytes.length + uptoBulk d + 1
  | (_, d) => uptoBulk d + 1
 end
def uptoSmall : (H : Type) → List (DataW H) → Bool := fun _ ds => decide (uptoBulkAll ds ≤ 1048576)
def OpenSpec.upto (s : _root_.Go.ChangeSpec) : _root_.Go.OpenSpec := { _root_.Go.OpenSpec.ofChange s with cond := some uptoSmall }

/-- 'isobarlaw06.ScoreGains', WHERE WHAT IT READS IS OF BULK AT MOST 1048576: true; the input reads as it did. -/
def scoreGainsUptoRow : OpenClaim := { program := "ythamljpomhjepaa", sum := "20b257e48ac859940499d46da0a57749b8d0b14348cc158d3eef8777749396f1", func := "isobar/isobarlaw06.ScoreGains", spec := "scoreGains", unfollowed := true, recurses := true, plainKeys := false, apart := false, narrowed := true }
def ScoreGainsUptoSaid : Prop := scoreGainsUptoRow.holds Try.pinned (OpenSpec.upto scoreGainsSpec)

/-- 'isobarlaw06.ScoreHonest', WHERE WHAT IT READS IS OF BULK AT MOST 1048576: true; the input reads as it did. -/
def scoreHonestUptoRow : OpenClaim := { program := "ythamljpomhjepaa", sum := "20b257e48ac859940499d46da0a57749b8d0b14348cc158d3eef8777749396f1", func := "isobar/isobarlaw06.ScoreHonest", spec := "scoreHonest", unfollowed := true, recurses := true, plainKeys := false, apart := false, narrowed := true }
def ScoreHonestUptoSaid : Prop := scoreHonestUptoRow.holds Try.pinned (OpenSpec.upto scoreHonestSpec)

/-- 'isobarlaw06.ScoreBests', WHERE WHAT IT READS IS OF BULK AT MOST 1048576: true; the input reads as it did. -/
def scoreBestsUptoRow : OpenClaim := { program := "ythamljpomhjepaa", sum := "20b257e48ac859940499d46da0a57749b8d0b14348cc158d3eef8777749396f1", func := "isobar/isobarlaw06.ScoreBests", spec := "scoreBests", unfollowed := true, recurses := true, plainKeys := false, apart := false, narrowed := true }
def ScoreBestsUptoSaid : Prop := scoreBestsUptoRow.holds Try.pinned (OpenSpec.upto scoreBestsSpec)

/-- 'isobarlaw06.ScoreNear', WHERE WHAT IT READS IS OF BULK AT MOST 1048576: true; the input reads as it did. -/
def scoreNearUptoRow : OpenClaim := { program := "ythamljpomhjepaa", sum := "20b257e48ac859940499d46da0a57749b8d0b14348cc158d3eef8777749396f1", func := "isobar/isobarlaw06.ScoreNear", spec := "scoreNear", unfollowed := true, recurses := true, plainKeys := false, apart := false, narrowed := true }
def ScoreNearUptoSaid : Prop := scoreNearUptoRow.holds Try.pinned (OpenSpec.upto scoreNearSpec)

/-- 'isobarlaw06.ScoreClimates', WHERE WHAT IT READS IS OF BULK AT MOST 1048576: true; the input reads as it did. -/
def scoreClimatesUptoRow : OpenClaim := { program := "ythamljpomhjepaa", sum := "20b257e48ac859940499d46da0a57749b8d0b14348cc158d3eef8777749396f1", func := "isobar/isobarlaw06.ScoreClimates", spec := "scoreClimates", unfollowed := true, recurses := true, plainKeys := false, apart := false, narrowed := true }
def ScoreClimatesUptoSaid : Prop := scoreClimatesUptoRow.holds Try.pinned (OpenSpec.upto scoreClimatesSpec)

/-- 'isobarlaw06.ScoreTrue', WHERE WHAT IT READS IS OF BULK AT MOST 1048576: true; the input reads as it did. -/
def scoreTrueUptoRow : OpenClaim := { program := "ythamljpomhjepaa", sum := "20b257e48ac859940499d46da0a57749b8d0b14348cc158d3eef8777749396f1", func := "isobar/isobarlaw06.ScoreTrue", spec := "scoreTrue", unfollowed := true, recurses := true, plainKeys := false, apart := false, narrowed := true }
def ScoreTrueUptoSaid : Prop := scoreTrueUptoRow.holds Try.pinned (OpenSpec.upto scoreTrueSpec)

/-- 'isobarlaw06.ScoreEnds', WHERE WHAT IT READS IS OF BULK AT MOST 1048576: true; the input reads as it did. -/
def scoreEndsUptoRow : OpenClaim := { program := "ythamljpomhjepaa", sum := "20b257e48ac859940499d46da0a57749b8d0b14348cc158d3eef8777749396f1", func := "isobar/isobarlaw06.ScoreEnds", spec := "scoreEnds", unfollowed := true, recurses := true, plainKeys := false, apart := false, narrowed := true }
def ScoreEndsUptoSaid : Prop := scoreEndsUptoRow.holds Try.pinned (OpenSpec.upto scoreEndsSpec)

/-- 'isobarlaw06.ScoreClimate', WHERE WHAT IT READS IS OF BULK AT MOST 1048576: true; the input reads as it did. -/
def scoreClimateUptoRow : OpenClaim := { program := "ythamljpomhjepaa", sum := "20b257e48ac859940499d46da0a57749b8d0b14348cc158d3eef8777749396f1", func := "isobar/isobarlaw06.ScoreClimate", spec := "scoreClimate", unfollowed := true, recurses := true, plainKeys := false, apart := false, narrowed := true }
def ScoreClimateUptoSaid : Prop := scoreClimateUptoRow.holds Try.pinned (OpenSpec.upto scoreClimateSpec)

/-- 'isobarlaw06.ScoreGames', WHERE WHAT IT READS IS OF BULK AT MOST 1048576: true; the input reads as it did. -/
def scoreGamesUptoRow : OpenClaim := { program := "ythamljpomhjepaa", sum := "20b257e48ac859940499d46da0a57749b8d0b14348cc158d3eef8777749396f1", func := "isobar/isobarlaw06.ScoreGames", spec := "scoreGames", unfollowed := true, recurses := true, plainKeys := false, apart := false, narrowed := true }
def ScoreGamesUptoSaid : Prop := scoreGamesUptoRow.holds Try.pinned (OpenSpec.upto scoreGamesSpec)

/-- 'isobarlaw06.ScoreGamed', WHERE WHAT IT READS IS OF BULK AT MOST 1048576: true; the input reads as it did. -/
def scoreGamedUptoRow : OpenClaim := { program := "ythamljpomhjepaa", sum := "20b257e48ac859940499d46da0a57749b8d0b14348cc158d3eef8777749396f1", func := "isobar/isobarlaw06.ScoreGamed", spec := "scoreGamed", unfollowed := true, recurses := true, plainKeys := false, apart := false, narrowed := true }
def ScoreGamedUptoSaid : Prop := scoreGamedUptoRow.holds Try.pinned (OpenSpec.upto scoreGamedSpec)

/-- 'isobarlaw06.ScoreProper', WHERE WHAT IT READS IS OF BULK AT MOST 1048576: true; the input reads as it did. -/
def scoreProperUptoRow : OpenClaim := { program := "ythamljpomhjepaa", sum := "20b257e48ac859940499d46da0a57749b8d0b14348cc158d3eef8777749396f1", func := "isobar/isobarlaw06.ScoreProper", spec := "scoreProper", unfollowed := true, recurses := true, plainKeys := false, apart := false, narrowed := true }
def ScoreProperUptoSaid : Prop := scoreProperUptoRow.holds Try.pinned (OpenSpec.upto scoreProperSpec)

/-- 'isobarlaw06.ScorePays', WHERE WHAT IT READS IS OF BULK AT MOST 1048576: true; the input reads as it did. -/
def scorePaysUptoRow : OpenClaim := { program := "ythamljpomhjepaa", sum := "20b257e48ac859940499d46da0a57749b8d0b14348cc158d3eef8777749396f1", func := "isobar/isobarlaw06.ScorePays", spec := "scorePays", unfollowed := true, recurses := true, plainKeys := false, apart := false, narrowed := true }
def ScorePaysUptoSaid : Prop := scorePaysUptoRow.holds Try.pinned (OpenSpec.upto scorePaysSpec)

/-- 'isobarlaw06.ScoreTempted', WHERE WHAT IT READS IS OF BULK AT MOST 1048576: true; the input reads as it did. -/
def scoreTemptedUptoRow : OpenClaim := { program := "ythamljpomhjepaa", sum := "20b257e48ac859940499d46da0a57749b8d0b14348cc158d3eef8777749396f1", func := "isobar/isobarlaw06.ScoreTempted", spec := "scoreTempted", unfollowed := true, recurses := true, plainKeys := false, apart := false, narrowed := true }
def ScoreTemptedUptoSaid : Prop := scoreTemptedUptoRow.holds Try.pinned (OpenSpec.upto scoreTemptedSpec)

/-- 'isobarlaw06.ScoreMore', WHERE WHAT IT READS IS OF BULK AT MOST 1048576: true; the input reads as it did. -/
def scoreMoreUptoRow : OpenClaim := { program := "ythamljpomhjepaa", sum := "20b257e48ac859940499d46da0a57749b8d0b14348cc158d3eef8777749396f1", func := "isobar/isobarlaw06.ScoreMore", spec := "scoreMore", unfollowed := true, recurses := true, plainKeys := false, apart := false, narrowed := true }
def ScoreMoreUptoSaid : Prop := scoreMoreUptoRow.holds Try.pinned (OpenSpec.upto scoreMoreSpec)

/-- 'isobarlaw06.ScoreTotals', WHERE WHAT IT READS IS OF BULK AT MOST 1048576: true; the input reads as it did. -/
def scoreTotalsUptoRow : OpenClaim := { program := "ythamljpomhjepaa", sum := "20b257e48ac859940499d46da0a57749b8d0b14348cc158d3eef8777749396f1", func := "isobar/isobarlaw06.ScoreTotals", spec := "scoreTotals", unfollowed := true, recurses := true, plainKeys := false, apart := false, narrowed := true }
def ScoreTotalsUptoSaid : Prop := scoreTotalsUptoRow.holds Try.pinned (OpenSpec.upto scoreTotalsSpec)

end Rows
end Go.Proofs.Ythamljpomhjepaa

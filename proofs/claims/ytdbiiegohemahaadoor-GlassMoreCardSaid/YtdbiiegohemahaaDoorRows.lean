/-
  NARROWER THAN 'FOR EVERY INPUT', by the rows' own cells (each row's printed sentence says how): GlassSharp: laid · GlassDues: laid · GlassWaits: laid · GlassPlays: laid · GlassKnows: laid · GlassHolds: laid · GlassEnds: laid · GlassRises: laid · GlassRose: laid · GlassWhens: laid · GlassMinutes: laid · GlassMore: laid · GlassIndexes: laid · GlassTrue: laid · GlassClashes: laid · GlassShown: laid.
  DERIVED. THE GIVEN ROWS OF THIS SEAT. 16 by the template 'for every input the law returns true; each argument reads behind the call as it read before'; 0 by the template 'total and deterministic' (their statements: YtdbiiegohemahaaDoorTotals.lean).
  GIVEN WITH THE SEED: the statements are not yours to turn. If you find one false, say at which input.
  Laid BY PROGRAM, IN A SANDBOX (cutbox-rows.mjs): the forced cells as the released guide's own fill.sh prints them over the translation 5ae8411b1d77b305… (all of the seat's roots in one cut). By AI agents, Wed Nov 11 2026. No macro, syntax, notation, axiom, sorry.
-/
import Derived.Test.YtdbiiegohemahaaDoorChecked
import GoSem.Claim
import GoSem.ClaimJoined
import GoSem.ClaimMapViews
import Derived.JoinedTies
import Derived.KernelRfl
namespace Go.Proofs.YtdbiiegohemahaaDoor
/- THE CELL 'sum', in the pinned program and in every row, IS THE sha256 OF THE DUMP (.gsa) THAT YtdbiiegohemahaaDoorProg.lean LOADS. Nothing in Lean hashes anything: it is a label: what it is worth is what the hold of that sum in a sandbox is worth. -/
noncomputable def Tryd.pinned : Pinned := { name := "ytdbiiegohemahaadoor", sum := "5ae8411b1d77b30517850d705036605d900fb7c4c3d21de04f37211a4d7b129f", checked := Tryd.checked }
namespace Rows
def none {H : Type} : Left H := { results := [], args := [] }

/- WHAT THE LISTED PACKAGE-LEVEL VARIABLES READ AS WHEN THE CALL BEGINS. Each datum BY PROGRAM (the guide's laid-datum.mjs) off the statement by which the dump's own 'gosem.cut.vars' lays the variable. In a bare row this is a premise. The card (YtdbiiegohemahaaDoorCards.lean) ties it to the program's text. -/
def laid_math_bits_deBruijn32tab {H : Type} : DataW H := .agg [.lit (.int .u8 0), .lit (.int .u8 1), .lit (.int .u8 28), .lit (.int .u8 2), .lit (.int .u8 29), .lit (.int .u8 14), .lit (.int .u8 24), .lit (.int .u8 3), .lit (.int .u8 30), .lit (.int .u8 22), .lit (.int .u8 20), .lit (.int .u8 15), .lit (.int .u8 25), .lit (.int .u8 17), .lit (.int .u8 4), .lit (.int .u8 8), .lit (.int .u8 31), .lit (.int .u8 27), .lit (.int .u8 13), .lit (.int .u8 23), .lit (.int .u8 21), .lit (.int .u8 19), .lit (.int .u8 16), .lit (.int .u8 7), .lit (.int .u8 26), .lit (.int .u8 12), .lit (.int .u8 18), .lit (.int .u8 6), .lit (.int .u8 11), .lit (.int .u8 5), .lit (.int .u8 10), .lit (.int .u8 9)]
def laid_math_bits_deBruijn64tab {H : Type} : DataW H := .agg [.lit (.int .u8 0), .lit (.int .u8 1), .lit (.int .u8 56), .lit (.int .u8 2), .lit (.int .u8 57), .lit (.int .u8 49), .lit (.int .u8 28), .lit (.int .u8 3), .lit (.int .u8 61), .lit (.int .u8 58), .lit (.int .u8 42), .lit (.int .u8 50), .lit (.int .u8 38), .lit (.int .u8 29), .lit (.int .u8 17), .lit (.int .u8 4), .lit (.int .u8 62), .lit (.int .u8 47), .lit (.int .u8 59), .lit (.int .u8 36), .lit (.int .u8 45), .lit (.int .u8 43), .lit (.int .u8 51), .lit (.int .u8 22), .lit (.int .u8 53), .lit (.int .u8 39), .lit (.int .u8 33), .lit (.int .u8 30), .lit (.int .u8 24), .lit (.int .u8 18), .lit (.int .u8 12), .lit (.int .u8 5), .lit (.int .u8 63), .lit (.int .u8 55), .lit (.int .u8 48), .lit (.int .u8 27), .lit (.int .u8 60), .lit (.int .u8 41), .lit (.int .u8 37), .lit (.int .u8 16), .lit (.int .u8 46), .lit (.int .u8 35), .lit (.int .u8 44), .lit (.int .u8 21), .lit (.int .u8 52), .lit (.int .u8 32), .lit (.int .u8 23), .lit (.int .u8 11), .lit (.int .u8 54), .lit (.int .u8 26), .lit (.int .u8 40), .lit (.int .u8 15), .lit (.int .u8 34), .lit (.int .u8 20), .lit (.int .u8 31), .lit (.int .u8 10), .lit (.int .u8 25), .lit (.int .u8 14), .lit (.int .u8 19), .lit (.int .u8 9), .lit (.int .u8 13), .lit (.int .u8 8), .lit (.int .u8 7), .lit (.int .u8 6)]
def laid_internal_strconv_uint64pow10 {H : Type} : DataW H := .agg [.lit (.int .u64 1), .lit (.int .u64 10), .lit (.int .u64 100), .lit (.int .u64 1000), .lit (.int .u64 10000), .lit (.int .u64 100000), .lit (.int .u64 1000000), .lit (.int .u64 10000000), .lit (.int .u64 100000000), .lit (.int .u64 1000000000), .lit (.int .u64 10000000000), .lit (.int .u64 100000000000), .lit (.int .u64 1000000000000), .lit (.int .u64 10000000000000), .lit (.int .u64 100000000000000), .lit (.int .u64 1000000000000000), .lit (.int .u64 10000000000000000), .lit (.int .u64 100000000000000000), .lit (.int .u64 1000000000000000000), .lit (.int .u64 10000000000000000000)]

/-- 'isobarlaw01.GlassSharp': WHATEVER THE INPUT: true; the input reads as it did. -/
def glassSharpSpec : ChangeSpec := { name := "glassSharp", fn := fun _ => fun
  | [d1, d2] => { results := [.lit (.bool true)], args := [d1, d2] }
  | _ => none }
def glassSharpRow : OpenClaim := { program := "ytdbiiegohemahaadoor", sum := "5ae8411b1d77b30517850d705036605d900fb7c4c3d21de04f37211a4d7b129f", func := "isobar/isobarlaw01.GlassSharp", spec := "glassSharp", inPlace := ["internal/abi.NoEscape", "internal/bytealg.MakeNoZero"], unfollowed := true, recurses := true, named := ["internal/strconv.uint64pow10", "math/bits.deBruijn32tab", "math/bits.deBruijn64tab"], apart := false, laid := [("math/bits.deBruijn32tab", laid_math_bits_deBruijn32tab), ("math/bits.deBruijn64tab", laid_math_bits_deBruijn64tab), ("internal/strconv.uint64pow10", laid_internal_strconv_uint64pow10)] }
def GlassSharpSaid : Prop := glassSharpRow.holds Tryd.pinned (OpenSpec.ofChange glassSharpSpec)

/-- ITS FALSE NEIGHBOUR: 'it returns false'. Refute it at one input. -/
def glassSharpWrong : ChangeSpec := { name := "glassSharp", fn := fun _ => fun
  | [d1, d2] => { results := [.lit (.bool false)], args := [d1, d2] }
  | _ => none }
def GlassSharpWrongFalsely : Prop := glassSharpRow.holds Tryd.pinned (OpenSpec.ofChange glassSharpWrong)

/-- 'isobarlaw01.GlassDues': WHATEVER THE INPUT: true; the input reads as it did. -/
def glassDuesSpec : ChangeSpec := { name := "glassDues", fn := fun _ => fun
  | [d1, d2, d3] => { results := [.lit (.bool true)], args := [d1, d2, d3] }
  | _ => none }
def glassDuesRow : OpenClaim := { program := "ytdbiiegohemahaadoor", sum := "5ae8411b1d77b30517850d705036605d900fb7c4c3d21de04f37211a4d7b129f", func := "isobar/isobarlaw01.GlassDues", spec := "glassDues", inPlace := ["internal/abi.NoEscape", "internal/bytealg.MakeNoZero"], unfollowed := true, recurses := true, named := ["internal/strconv.uint64pow10", "math/bits.deBruijn32tab", "math/bits.deBruijn64tab"], apart := false, laid := [("math/bits.deBruijn32tab", laid_math_bits_deBruijn32tab), ("math/bits.deBruijn64tab", laid_math_bits_deBruijn64tab), ("internal/strconv.uint64pow10", laid_internal_strconv_uint64pow10)] }
def GlassDuesSaid : Prop := glassDuesRow.holds Tryd.pinned (OpenSpec.ofChange glassDuesSpec)

/-- ITS FALSE NEIGHBOUR: 'it returns false'. Refute it at one input. -/
def glassDuesWrong : ChangeSpec := { name := "glassDues", fn := fun _ => fun
  | [d1, d2, d3] => { results := [.lit (.bool false)], args := [d1, d2, d3] }
  | _ => none }
def GlassDuesWrongFalsely : Prop := glassDuesRow.holds Tryd.pinned (OpenSpec.ofChange glassDuesWrong)

/-- 'isobarlaw01.GlassWaits': WHATEVER THE INPUT: true; the input reads as it did. -/
def glassWaitsSpec : ChangeSpec := { name := "glassWaits", fn := fun _ => fun
  | [d1, d2, d3, d4, d5] => { results := [.lit (.bool true)], args := [d1, d2, d3, d4, d5] }
  | _ => none }
def glassWaitsRow : OpenClaim := { program := "ytdbiiegohemahaadoor", sum := "5ae8411b1d77b30517850d705036605d900fb7c4c3d21de04f37211a4d7b129f", func := "isobar/isobarlaw01.GlassWaits", spec := "glassWaits", inPlace := ["internal/abi.NoEscape", "internal/bytealg.MakeNoZero"], unfollowed := true, recurses := true, named := ["internal/strconv.uint64pow10", "math/bits.deBruijn32tab", "math/bits.deBruijn64tab"], apart := false, laid := [("math/bits.deBruijn32tab", laid_math_bits_deBruijn32tab), ("math/bits.deBruijn64tab", laid_math_bits_deBruijn64tab), ("internal/strconv.uint64pow10", laid_internal_strconv_uint64pow10)] }
def GlassWaitsSaid : Prop := glassWaitsRow.holds Tryd.pinned (OpenSpec.ofChange glassWaitsSpec)

/-- ITS FALSE NEIGHBOUR: 'it returns false'. Refute it at one input. -/
def glassWaitsWrong : ChangeSpec := { name := "glassWaits", fn := fun _ => fun
  | [d1, d2, d3, d4, d5] => { results := [.lit (.bool false)], args := [d1, d2, d3, d4, d5] }
  | _ => none }
def GlassWaitsWrongFalsely : Prop := glassWaitsRow.holds Tryd.pinned (OpenSpec.ofChange glassWaitsWrong)

/-- 'isobarlaw01.GlassPlays': WHATEVER THE INPUT: true; the input reads as it did. -/
def glassPlaysSpec : ChangeSpec := { name := "glassPlays", fn := fun _ => fun
  | [d1, d2, d3] => { results := [.lit (.bool true)], args := [d1, d2, d3] }
  | _ => none }
def glassPlaysRow : OpenClaim := { program := "ytdbiiegohemahaadoor", sum := "5ae8411b1d77b30517850d705036605d900fb7c4c3d21de04f37211a4d7b129f", func := "isobar/isobarlaw01.GlassPlays", spec := "glassPlays", inPlace := ["internal/abi.NoEscape", "internal/bytealg.MakeNoZero"], unfollowed := true, recurses := true, named := ["internal/strconv.uint64pow10", "math/bits.deBruijn32tab", "math/bits.deBruijn64tab"], apart := false, laid := [("math/bits.deBruijn32tab", laid_math_bits_deBruijn32tab), ("math/bits.deBruijn64tab", laid_math_bits_deBruijn64tab), ("internal/strconv.uint64pow10", laid_internal_strconv_uint64pow10)] }
def GlassPlaysSaid : Prop := glassPlaysRow.holds Tryd.pinned (OpenSpec.ofChange glassPlaysSpec)

/-- ITS FALSE NEIGHBOUR: 'it returns false'. Refute it at one input. -/
def glassPlaysWrong : ChangeSpec := { name := "glassPlays", fn := fun _ => fun
  | [d1, d2, d3] => { results := [.lit (.bool false)], args := [d1, d2, d3] }
  | _ => none }
def GlassPlaysWrongFalsely : Prop := glassPlaysRow.holds Tryd.pinned (OpenSpec.ofChange glassPlaysWrong)

/-- 'isobarlaw01.GlassKnows': WHATEVER THE INPUT: true; the input reads as it did. -/
def glassKnowsSpec : ChangeSpec := { name := "glassKnows", fn := fun _ => fun
  | [d1, d2] => { results := [.lit (.bool true)], args := [d1, d2] }
  | _ => none }
def glassKnowsRow : OpenClaim := { program := "ytdbiiegohemahaadoor", sum := "5ae8411b1d77b30517850d705036605d900fb7c4c3d21de04f37211a4d7b129f", func := "isobar/isobarlaw01.GlassKnows", spec := "glassKnows", inPlace := ["internal/abi.NoEscape", "internal/bytealg.MakeNoZero"], unfollowed := true, recurses := true, named := ["internal/strconv.uint64pow10", "math/bits.deBruijn32tab", "math/bits.deBruijn64tab"], apart := false, laid := [("math/bits.deBruijn32tab", laid_math_bits_deBruijn32tab), ("math/bits.deBruijn64tab", laid_math_bits_deBruijn64tab), ("internal/strconv.uint64pow10", laid_internal_strconv_uint64pow10)] }
def GlassKnowsSaid : Prop := glassKnowsRow.holds Tryd.pinned (OpenSpec.ofChange glassKnowsSpec)

/-- ITS FALSE NEIGHBOUR: 'it returns false'. Refute it at one input. -/
def glassKnowsWrong : ChangeSpec := { name := "glassKnows", fn := fun _ => fun
  | [d1, d2] => { results := [.lit (.bool false)], args := [d1, d2] }
  | _ => none }
def GlassKnowsWrongFalsely : Prop := glassKnowsRow.holds Tryd.pinned (OpenSpec.ofChange glassKnowsWrong)

/-- 'isobarlaw01.GlassHolds': WHATEVER THE INPUT: true; the input reads as it did. -/
def glassHoldsSpec : ChangeSpec := { name := "glassHolds", fn := fun _ => fun
  | [d1, d2, d3] => { results := [.lit (.bool true)], args := [d1, d2, d3] }
  | _ => none }
def glassHoldsRow : OpenClaim := { program := "ytdbiiegohemahaadoor", sum := "5ae8411b1d77b30517850d705036605d900fb7c4c3d21de04f37211a4d7b129f", func := "isobar/isobarlaw01.GlassHolds", spec := "glassHolds", inPlace := ["internal/abi.NoEscape", "internal/bytealg.MakeNoZero"], unfollowed := true, recurses := true, named := ["internal/strconv.uint64pow10", "math/bits.deBruijn32tab", "math/bits.deBruijn64tab"], apart := false, laid := [("math/bits.deBruijn32tab", laid_math_bits_deBruijn32tab), ("math/bits.deBruijn64tab", laid_math_bits_deBruijn64tab), ("internal/strconv.uint64pow10", laid_internal_strconv_uint64pow10)] }
def GlassHoldsSaid : Prop := glassHoldsRow.holds Tryd.pinned (OpenSpec.ofChange glassHoldsSpec)

/-- ITS FALSE NEIGHBOUR: 'it returns false'. Refute it at one input. -/
def glassHoldsWrong : ChangeSpec := { name := "glassHolds", fn := fun _ => fun
  | [d1, d2, d3] => { results := [.lit (.bool false)], args := [d1, d2, d3] }
  | _ => none }
def GlassHoldsWrongFalsely : Prop := glassHoldsRow.holds Tryd.pinned (OpenSpec.ofChange glassHoldsWrong)

/-- 'isobarlaw01.GlassEnds': WHATEVER THE INPUT: true; the input reads as it did. -/
def glassEndsSpec : ChangeSpec := { name := "glassEnds", fn := fun _ => fun
  | [d1, d2, d3] => { results := [.lit (.bool true)], args := [d1, d2, d3] }
  | _ => none }
def glassEndsRow : OpenClaim := { program := "ytdbiiegohemahaadoor", sum := "5ae8411b1d77b30517850d705036605d900fb7c4c3d21de04f37211a4d7b129f", func := "isobar/isobarlaw01.GlassEnds", spec := "glassEnds", inPlace := ["internal/abi.NoEscape", "internal/bytealg.MakeNoZero"], unfollowed := true, recurses := true, named := ["internal/strconv.uint64pow10", "math/bits.deBruijn32tab", "math/bits.deBruijn64tab"], apart := false, laid := [("math/bits.deBruijn32tab", laid_math_bits_deBruijn32tab), ("math/bits.deBruijn64tab", laid_math_bits_deBruijn64tab), ("internal/strconv.uint64pow10", laid_internal_strconv_uint64pow10)] }
def GlassEndsSaid : Prop := glassEndsRow.holds Tryd.pinned (OpenSpec.ofChange glassEndsSpec)

/-- ITS FALSE NEIGHBOUR: 'it returns false'. Refute it at one input. -/
def glassEndsWrong : ChangeSpec := { name := "glassEnds", fn := fun _ => fun
  | [d1, d2, d3] => { results := [.lit (.bool false)], args := [d1, d2, d3] }
  | _ => none }
def GlassEndsWrongFalsely : Prop := glassEndsRow.holds Tryd.pinned (OpenSpec.ofChange glassEndsWrong)

/-- 'isobarlaw01.GlassRises': WHATEVER THE INPUT: true; the input reads as it did. -/
def glassRisesSpec : ChangeSpec := { name := "glassRises", fn := fun _ => fun
  | [d1, d2, d3] => { results := [.lit (.bool true)], args := [d1, d2, d3] }
  | _ => none }
def glassRisesRow : OpenClaim := { program := "ytdbiiegohemahaadoor", sum := "5ae8411b1d77b30517850d705036605d900fb7c4c3d21de04f37211a4d7b129f", func := "isobar/isobarlaw01.GlassRises", spec := "glassRises", inPlace := ["internal/abi.NoEscape", "internal/bytealg.MakeNoZero"], unfollowed := true, recurses := true, named := ["internal/strconv.uint64pow10", "math/bits.deBruijn32tab", "math/bits.deBruijn64tab"], apart := false, laid := [("math/bits.deBruijn32tab", laid_math_bits_deBruijn32tab), ("math/bits.deBruijn64tab", laid_math_bits_deBruijn64tab), ("internal/strconv.uint64pow10", laid_internal_strconv_uint64pow10)] }
def GlassRisesSaid : Prop := glassRisesRow.holds Tryd.pinned (OpenSpec.ofChange glassRisesSpec)

/-- ITS FALSE NEIGHBOUR: 'it returns false'. Refute it at one input. -/
def glassRisesWrong : ChangeSpec := { name := "glassRises", fn := fun _ => fun
  | [d1, d2, d3] => { results := [.lit (.bool false)], args := [d1, d2, d3] }
  | _ => none }
def GlassRisesWrongFalsely : Prop := glassRisesRow.holds Tryd.pinned (OpenSpec.ofChange glassRisesWrong)

/-- 'isobarlaw01.GlassRose': WHATEVER THE INPUT: true; the input reads as it did. -/
def glassRoseSpec : ChangeSpec := { name := "glassRose", fn := fun _ => fun
  | [d1, d2, d3, d4, d5, d6, d7] => { results := [.lit (.bool true)], args := [d1, d2, d3, d4, d5, d6, d7] }
  | _ => none }
def glassRoseRow : OpenClaim := { program := "ytdbiiegohemahaadoor", sum := "5ae8411b1d77b30517850d705036605d900fb7c4c3d21de04f37211a4d7b129f", func := "isobar/isobarlaw01.GlassRose", spec := "glassRose", inPlace := ["internal/abi.NoEscape", "internal/bytealg.MakeNoZero"], unfollowed := true, recurses := true, named := ["internal/strconv.uint64pow10", "math/bits.deBruijn32tab", "math/bits.deBruijn64tab"], apart := false, laid := [("math/bits.deBruijn32tab", laid_math_bits_deBruijn32tab), ("math/bits.deBruijn64tab", laid_math_bits_deBruijn64tab), ("internal/strconv.uint64pow10", laid_internal_strconv_uint64pow10)] }
def GlassRoseSaid : Prop := glassRoseRow.holds Tryd.pinned (OpenSpec.ofChange glassRoseSpec)

/-- ITS FALSE NEIGHBOUR: 'it returns false'. Refute it at one input. -/
def glassRoseWrong : ChangeSpec := { name := "glassRose", fn := fun _ => fun
  | [d1, d2, d3, d4, d5, d6, d7] => { results := [.lit (.bool false)], args := [d1, d2, d3, d4, d5, d6, d7] }
  | _ => none }
def GlassRoseWrongFalsely : Prop := glassRoseRow.holds Tryd.pinned (OpenSpec.ofChange glassRoseWrong)

/-- 'isobarlaw01.GlassWhens': WHATEVER THE INPUT: true; the input reads as it did. -/
def glassWhensSpec : ChangeSpec := { name := "glassWhens", fn := fun _ => fun
  | [d1, d2] => { results := [.lit (.bool true)], args := [d1, d2] }
  | _ => none }
def glassWhensRow : OpenClaim := { program := "ytdbiiegohemahaadoor", sum := "5ae8411b1d77b30517850d705036605d900fb7c4c3d21de04f37211a4d7b129f", func := "isobar/isobarlaw01.GlassWhens", spec := "glassWhens", inPlace := ["internal/abi.NoEscape", "internal/bytealg.MakeNoZero"], unfollowed := true, recurses := true, named := ["internal/strconv.uint64pow10", "math/bits.deBruijn32tab", "math/bits.deBruijn64tab"], apart := false, laid := [("math/bits.deBruijn32tab", laid_math_bits_deBruijn32tab), ("math/bits.deBruijn64tab", laid_math_bits_deBruijn64tab), ("internal/strconv.uint64pow10", laid_internal_strconv_uint64pow10)] }
def GlassWhensSaid : Prop := glassWhensRow.holds Tryd.pinned (OpenSpec.ofChange glassWhensSpec)

/-- ITS FALSE NEIGHBOUR: 'it returns false'. Refute it at one input. -/
def glassWhensWrong : ChangeSpec := { name := "glassWhens", fn := fun _ => fun
  | [d1, d2] => { results := [.lit (.bool false)], args := [d1, d2] }
  | _ => none }
def GlassWhensWrongFalsely : Prop := glassWhensRow.holds Tryd.pinned (OpenSpec.ofChange glassWhensWrong)

/-- 'isobarlaw01.GlassMinutes': WHATEVER THE INPUT: true; the input reads as it did. -/
def glassMinutesSpec : ChangeSpec := { name := "glassMinutes", fn := fun _ => fun
  | [d1, d2, d3, d4, d5] => { results := [.lit (.bool true)], args := [d1, d2, d3, d4, d5] }
  | _ => none }
def glassMinutesRow : OpenClaim := { program := "ytdbiiegohemahaadoor", sum := "5ae8411b1d77b30517850d705036605d900fb7c4c3d21de04f37211a4d7b129f", func := "isobar/isobarlaw01.GlassMinutes", spec := "glassMinutes", inPlace := ["internal/abi.NoEscape", "internal/bytealg.MakeNoZero"], unfollowed := true, recurses := true, named := ["internal/strconv.uint64pow10", "math/bits.deBruijn32tab", "math/bits.deBruijn64tab"], apart := false, laid := [("math/bits.deBruijn32tab", laid_math_bits_deBruijn32tab), ("math/bits.deBruijn64tab", laid_math_bits_deBruijn64tab), ("internal/strconv.uint64pow10", laid_internal_strconv_uint64pow10)] }
def GlassMinutesSaid : Prop := glassMinutesRow.holds Tryd.pinned (OpenSpec.ofChange glassMinutesSpec)

/-- ITS FALSE NEIGHBOUR: 'it returns false'. Refute it at one input. -/
def glassMinutesWrong : ChangeSpec := { name := "glassMinutes", fn := fun _ => fun
  | [d1, d2, d3, d4, d5] => { results := [.lit (.bool false)], args := [d1, d2, d3, d4, d5] }
  | _ => none }
def GlassMinutesWrongFalsely : Prop := glassMinutesRow.holds Tryd.pinned (OpenSpec.ofChange glassMinutesWrong)

/-- 'isobarlaw01.GlassMore': WHATEVER THE INPUT: true; the input reads as it did. -/
def glassMoreSpec : ChangeSpec := { name := "glassMore", fn := fun _ => fun
  | [d1, d2, d3, d4, d5, d6] => { results := [.lit (.bool true)], args := [d1, d2, d3, d4, d5, d6] }
  | _ => none }
def glassMoreRow : OpenClaim := { program := "ytdbiiegohemahaadoor", sum := "5ae8411b1d77b30517850d705036605d900fb7c4c3d21de04f37211a4d7b129f", func := "isobar/isobarlaw01.GlassMore", spec := "glassMore", inPlace := ["internal/abi.NoEscape", "internal/bytealg.MakeNoZero"], unfollowed := true, recurses := true, named := ["internal/strconv.uint64pow10", "math/bits.deBruijn32tab", "math/bits.deBruijn64tab"], apart := false, laid := [("math/bits.deBruijn32tab", laid_math_bits_deBruijn32tab), ("math/bits.deBruijn64tab", laid_math_bits_deBruijn64tab), ("internal/strconv.uint64pow10", laid_internal_strconv_uint64pow10)] }
def GlassMoreSaid : Prop := glassMoreRow.holds Tryd.pinned (OpenSpec.ofChange glassMoreSpec)

/-- ITS FALSE NEIGHBOUR: 'it returns false'. Refute it at one input. -/
def glassMoreWrong : ChangeSpec := { name := "glassMore", fn := fun _ => fun
  | [d1, d2, d3, d4, d5, d6] => { results := [.lit (.bool false)], args := [d1, d2, d3, d4, d5, d6] }
  | _ => none }
def GlassMoreWrongFalsely : Prop := glassMoreRow.holds Tryd.pinned (OpenSpec.ofChange glassMoreWrong)

/-- 'isobarlaw01.GlassIndexes': WHATEVER THE INPUT: true; the input reads as it did. -/
def glassIndexesSpec : ChangeSpec := { name := "glassIndexes", fn := fun _ => fun
  | [d1, d2] => { results := [.lit (.bool true)], args := [d1, d2] }
  | _ => none }
def glassIndexesRow : OpenClaim := { program := "ytdbiiegohemahaadoor", sum := "5ae8411b1d77b30517850d705036605d900fb7c4c3d21de04f37211a4d7b129f", func := "isobar/isobarlaw01.GlassIndexes", spec := "glassIndexes", inPlace := ["internal/abi.NoEscape", "internal/bytealg.MakeNoZero"], unfollowed := true, recurses := true, named := ["internal/strconv.uint64pow10", "math/bits.deBruijn32tab", "math/bits.deBruijn64tab"], apart := false, laid := [("math/bits.deBruijn32tab", laid_math_bits_deBruijn32tab), ("math/bits.deBruijn64tab", laid_math_bits_deBruijn64tab), ("internal/strconv.uint64pow10", laid_internal_strconv_uint64pow10)] }
def GlassIndexesSaid : Prop := glassIndexesRow.holds Tryd.pinned (OpenSpec.ofChange glassIndexesSpec)

/-- ITS FALSE NEIGHBOUR: 'it returns false'. Refute it at one input. -/
def glassIndexesWrong : ChangeSpec := { name := "glassIndexes", fn := fun _ => fun
  | [d1, d2] => { results := [.lit (.bool false)], args := [d1, d2] }
  | _ => none }
def GlassIndexesWrongFalsely : Prop := glassIndexesRow.holds Tryd.pinned (OpenSpec.ofChange glassIndexesWrong)

/-- 'isobarlaw01.GlassTrue': WHATEVER THE INPUT: true; the input reads as it did. -/
def glassTrueSpec : ChangeSpec := { name := "glassTrue", fn := fun _ => fun
  | [d1, d2, d3, d4] => { results := [.lit (.bool true)], args := [d1, d2, d3, d4] }
  | _ => none }
def glassTrueRow : OpenClaim := { program := "ytdbiiegohemahaadoor", sum := "5ae8411b1d77b30517850d705036605d900fb7c4c3d21de04f37211a4d7b129f", func := "isobar/isobarlaw01.GlassTrue", spec := "glassTrue", inPlace := ["internal/abi.NoEscape", "internal/bytealg.MakeNoZero"], unfollowed := true, recurses := true, named := ["internal/strconv.uint64pow10", "math/bits.deBruijn32tab", "math/bits.deBruijn64tab"], apart := false, laid := [("math/bits.deBruijn32tab", laid_math_bits_deBruijn32tab), ("math/bits.deBruijn64tab", laid_math_bits_deBruijn64tab), ("internal/strconv.uint64pow10", laid_internal_strconv_uint64pow10)] }
def GlassTrueSaid : Prop := glassTrueRow.holds Tryd.pinned (OpenSpec.ofChange glassTrueSpec)

/-- ITS FALSE NEIGHBOUR: 'it returns false'. Refute it at one input. -/
def glassTrueWrong : ChangeSpec := { name := "glassTrue", fn := fun _ => fun
  | [d1, d2, d3, d4] => { results := [.lit (.bool false)], args := [d1, d2, d3, d4] }
  | _ => none }
def GlassTrueWrongFalsely : Prop := glassTrueRow.holds Tryd.pinned (OpenSpec.ofChange glassTrueWrong)

/-- 'isobarlaw01.GlassClashes': WHATEVER THE INPUT: true; the input reads as it did. -/
def glassClashesSpec : ChangeSpec := { name := "glassClashes", fn := fun _ => fun
  | [d] => { results := [.lit (.bool true)], args := [d] }
  | _ => none }
def glassClashesRow : OpenClaim := { program := "ytdbiiegohemahaadoor", sum := "5ae8411b1d77b30517850d705036605d900fb7c4c3d21de04f37211a4d7b129f", func := "isobar/isobarlaw01.GlassClashes", spec := "glassClashes", inPlace := ["internal/abi.NoEscape", "internal/bytealg.MakeNoZero"], unfollowed := true, recurses := true, named := ["internal/strconv.uint64pow10", "math/bits.deBruijn32tab", "math/bits.deBruijn64tab"], apart := false, laid := [("math/bits.deBruijn32tab", laid_math_bits_deBruijn32tab), ("math/bits.deBruijn64tab", laid_math_bits_deBruijn64tab), ("internal/strconv.uint64pow10", laid_internal_strconv_uint64pow10)] }
def GlassClashesSaid : Prop := glassClashesRow.holds Tryd.pinned (OpenSpec.ofChange glassClashesSpec)

/-- ITS FALSE NEIGHBOUR: 'it returns false'. Refute it at one input. -/
def glassClashesWrong : ChangeSpec := { name := "glassClashes", fn := fun _ => fun
  | [d] => { results := [.lit (.bool false)], args := [d] }
  | _ => none }
def GlassClashesWrongFalsely : Prop := glassClashesRow.holds Tryd.pinned (OpenSpec.ofChange glassClashesWrong)

/-- 'isobarlaw01.GlassShown': WHATEVER THE INPUT: true; the input reads as it did. -/
def glassShownSpec : ChangeSpec := { name := "glassShown", fn := fun _ => fun
  | [d1, d2, d3] => { results := [.lit (.bool true)], args := [d1, d2, d3] }
  | _ => none }
def glassShownRow : OpenClaim := { program := "ytdbiiegohemahaadoor", sum := "5ae8411b1d77b30517850d705036605d900fb7c4c3d21de04f37211a4d7b129f", func := "isobar/isobarlaw01.GlassShown", spec := "glassShown", inPlace := ["internal/abi.NoEscape", "internal/bytealg.MakeNoZero"], unfollowed := true, recurses := true, named := ["internal/strconv.uint64pow10", "math/bits.deBruijn32tab", "math/bits.deBruijn64tab"], apart := false, laid := [("math/bits.deBruijn32tab", laid_math_bits_deBruijn32tab), ("math/bits.deBruijn64tab", laid_math_bits_deBruijn64tab), ("internal/strconv.uint64pow10", laid_internal_strconv_uint64pow10)] }
def GlassShownSaid : Prop := glassShownRow.holds Tryd.pinned (OpenSpec.ofChange glassShownSpec)

/-- ITS FALSE NEIGHBOUR: 'it returns false'. Refute it at one input. -/
def glassShownWrong : ChangeSpec := { name := "glassShown", fn := fun _ => fun
  | [d1, d2, d3] => { results := [.lit (.bool false)], args := [d1, d2, d3] }
  | _ => none }
def GlassShownWrongFalsely : Prop := glassShownRow.holds Tryd.pinned (OpenSpec.ofChange glassShownWrong)

/- THE SECOND FORM. 'bulk': how many values and letters a reading holds, each counted each time it is reached (what is shared counts as often as it is met; a slice's spare places count too). A statement '..UptoSaid' is the law's where the arguments, and the package variables that the reading takes, are together of bulk at most 1048576: NARROWER than '..Said'. Prove '..Said' where nothing that the law and all that it calls make is longer than what came in: it says more and counts as full. Else prove '..UptoSaid'. A law counts once. -/
mutual
def uptoBulk {H : Type} : DataW H → Nat
  | .lit (.string bytes) => bytes.length + 1
  | .lit _ => 1
  | .nil => 1
  | .ptr d => uptoBulk d + 1
  | .slice elems spare => uptoBulkAll elems + uptoBulkAll spare + 1
  | .agg parts => uptoBulkAll parts + 1
  | .iface _ d => uptoBulk d + 1
  | .map entries => uptoBulkEntries entries + 1
  | .held _ => 1
def uptoBulkAll {H : Type} : List (DataW H) → Nat
  | [] => 0
  | d :: r => uptoBulk d + uptoBulkAll r
def uptoBulkEntries {H : Type} : List (Lit × DataW H) → Nat
  | [] => 0
  | x :: r => uptoBulkEntry x + uptoBulkEntries r
def uptoBulkEntry {H : Type} : Lit × DataW H → Nat
  | (.string bytes, d) => bytes.length + uptoBulk d + 1
  | (_, d) => uptoBulk d + 1
 end
def uptoSmall : (H : Type) → List (DataW H) → Bool := fun _ ds => decide (uptoBulkAll ds ≤ 1048576)
def OpenSpec.upto (s : _root_.Go.ChangeSpec) : _root_.Go.OpenSpec := { _root_.Go.OpenSpec.ofChange s with cond := some uptoSmall }

/-- 'isobarlaw01.GlassSharp', WHERE WHAT IT READS IS OF BULK AT MOST 1048576: true; the input reads as it did. -/
def glassSharpUptoRow : OpenClaim := { program := "ytdbiiegohemahaadoor", sum := "5ae8411b1d77b30517850d705036605d900fb7c4c3d21de04f37211a4d7b129f", func := "isobar/isobarlaw01.GlassSharp", spec := "glassSharp", inPlace := ["internal/abi.NoEscape", "internal/bytealg.MakeNoZero"], unfollowed := true, recurses := true, named := ["internal/strconv.uint64pow10", "math/bits.deBruijn32tab", "math/bits.deBruijn64tab"], apart := false, laid := [("math/bits.deBruijn32tab", laid_math_bits_deBruijn32tab), ("math/bits.deBruijn64tab", laid_math_bits_deBruijn64tab), ("internal/strconv.uint64pow10", laid_internal_strconv_uint64pow10)], narrowed := true }
def GlassSharpUptoSaid : Prop := glassSharpUptoRow.holds Tryd.pinned (OpenSpec.upto glassSharpSpec)

/-- 'isobarlaw01.GlassDues', WHERE WHAT IT READS IS OF BULK AT MOST 1048576: true; the input reads as it did. -/
def glassDuesUptoRow : OpenClaim := { program := "ytdbiiegohemahaadoor", sum := "5ae8411b1d77b30517850d705036605d900fb7c4c3d21de04f37211a4d7b129f", func := "isobar/isobarlaw01.GlassDues", spec := "glassDues", inPlace := ["internal/abi.NoEscape", "internal/bytealg.MakeNoZero"], unfollowed := true, recurses := true, named := ["internal/strconv.uint64pow10", "math/bits.deBruijn32tab", "math/bits.deBruijn64tab"], apart := false, laid := [("math/bits.deBruijn32tab", laid_math_bits_deBruijn32tab), ("math/bits.deBruijn64tab", laid_math_bits_deBruijn64tab), ("internal/strconv.uint64pow10", laid_internal_strconv_uint64pow10)], narrowed := true }
def GlassDuesUptoSaid : Prop := glassDuesUptoRow.holds Tryd.pinned (OpenSpec.upto glassDuesSpec)

/-- 'isobarlaw01.GlassWaits', WHERE WHAT IT READS IS OF BULK AT MOST 1048576: true; the input reads as it did. -/
def glassWaitsUptoRow : OpenClaim := { program := "ytdbiiegohemahaadoor", sum := "5ae8411b1d77b30517850d705036605d900fb7c4c3d21de04f37211a4d7b129f", func := "isobar/isobarlaw01.GlassWaits", spec := "glassWaits", inPlace := ["internal/abi.NoEscape", "internal/bytealg.MakeNoZero"], unfollowed := true, recurses := true, named := ["internal/strconv.uint64pow10", "math/bits.deBruijn32tab", "math/bits.deBruijn64tab"], apart := false, laid := [("math/bits.deBruijn32tab", laid_math_bits_deBruijn32tab), ("math/bits.deBruijn64tab", laid_math_bits_deBruijn64tab), ("internal/strconv.uint64pow10", laid_internal_strconv_uint64pow10)], narrowed := true }
def GlassWaitsUptoSaid : Prop := glassWaitsUptoRow.holds Tryd.pinned (OpenSpec.upto glassWaitsSpec)

/-- 'isobarlaw01.GlassPlays', WHERE WHAT IT READS IS OF BULK AT MOST 1048576: true; the input reads as it did. -/
def glassPlaysUptoRow : OpenClaim := { program := "ytdbiiegohemahaadoor", sum := "5ae8411b1d77b30517850d705036605d900fb7c4c3d21de04f37211a4d7b129f", func := "isobar/isobarlaw01.GlassPlays", spec := "glassPlays", inPlace := ["internal/abi.NoEscape", "internal/bytealg.MakeNoZero"], unfollowed := true, recurses := true, named := ["internal/strconv.uint64pow10", "math/bits.deBruijn32tab", "math/bits.deBruijn64tab"], apart := false, laid := [("math/bits.deBruijn32tab", laid_math_bits_deBruijn32tab), ("math/bits.deBruijn64tab", laid_math_bits_deBruijn64tab), ("internal/strconv.uint64pow10", laid_internal_strconv_uint64pow10)], narrowed := true }
def GlassPlaysUptoSaid : Prop := glassPlaysUptoRow.holds Tryd.pinned (OpenSpec.upto glassPlaysSpec)

/-- 'isobarlaw01.GlassKnows', WHERE WHAT IT READS IS OF BULK AT MOST 1048576: true; the input reads as it did. -/
def glassKnowsUptoRow : OpenClaim := { program := "ytdbiiegohemahaadoor", sum := "5ae8411b1d77b30517850d705036605d900fb7c4c3d21de04f37211a4d7b129f", func := "isobar/isobarlaw01.GlassKnows", spec := "glassKnows", inPlace := ["internal/abi.NoEscape", "internal/bytealg.MakeNoZero"], unfollowed := true, recurses := true, named := ["internal/strconv.uint64pow10", "math/bits.deBruijn32tab", "math/bits.deBruijn64tab"], apart := false, laid := [("math/bits.deBruijn32tab", laid_math_bits_deBruijn32tab), ("math/bits.deBruijn64tab", laid_math_bits_deBruijn64tab), ("internal/strconv.uint64pow10", laid_internal_strconv_uint64pow10)], narrowed := true }
def GlassKnowsUptoSaid : Prop := glassKnowsUptoRow.holds Tryd.pinned (OpenSpec.upto glassKnowsSpec)

/-- 'isobarlaw01.GlassHolds', WHERE WHAT IT READS IS OF BULK AT MOST 1048576: true; the input reads as it did. -/
def glassHoldsUptoRow : OpenClaim := { program := "ytdbiiegohemahaadoor", sum := "5ae8411b1d77b30517850d705036605d900fb7c4c3d21de04f37211a4d7b129f", func := "isobar/isobarlaw01.GlassHolds", spec := "glassHolds", inPlace := ["internal/abi.NoEscape", "internal/bytealg.MakeNoZero"], unfollowed := true, recurses := true, named := ["internal/strconv.uint64pow10", "math/bits.deBruijn32tab", "math/bits.deBruijn64tab"], apart := false, laid := [("math/bits.deBruijn32tab", laid_math_bits_deBruijn32tab), ("math/bits.deBruijn64tab", laid_math_bits_deBruijn64tab), ("internal/strconv.uint64pow10", laid_internal_strconv_uint64pow10)], narrowed := true }
def GlassHoldsUptoSaid : Prop := glassHoldsUptoRow.holds Tryd.pinned (OpenSpec.upto glassHoldsSpec)

/-- 'isobarlaw01.GlassEnds', WHERE WHAT IT READS IS OF BULK AT MOST 1048576: true; the input reads as it did. -/
def glassEndsUptoRow : OpenClaim := { program := "ytdbiiegohemahaadoor", sum := "5ae8411b1d77b30517850d705036605d900fb7c4c3d21de04f37211a4d7b129f", func := "isobar/isobarlaw01.GlassEnds", spec := "glassEnds", inPlace := ["internal/abi.NoEscape", "internal/bytealg.MakeNoZero"], unfollowed := true, recurses := true, named := ["internal/strconv.uint64pow10", "math/bits.deBruijn32tab", "math/bits.deBruijn64tab"], apart := false, laid := [("math/bits.deBruijn32tab", laid_math_bits_deBruijn32tab), ("math/bits.deBruijn64tab", laid_math_bits_deBruijn64tab), ("internal/strconv.uint64pow10", laid_internal_strconv_uint64pow10)], narrowed := true }
def GlassEndsUptoSaid : Prop := glassEndsUptoRow.holds Tryd.pinned (OpenSpec.upto glassEndsSpec)

/-- 'isobarlaw01.GlassRises', WHERE WHAT IT READS IS OF BULK AT MOST 1048576: true; the input reads as it did. -/
def glassRisesUptoRow : OpenClaim := { program := "ytdbiiegohemahaadoor", sum := "5ae8411b1d77b30517850d705036605d900fb7c4c3d21de04f37211a4d7b129f", func := "isobar/isobarlaw01.GlassRises", spec := "glassRises", inPlace := ["internal/abi.NoEscape", "internal/bytealg.MakeNoZero"], unfollowed := true, recurses := true, named := ["internal/strconv.uint64pow10", "math/bits.deBruijn32tab", "math/bits.deBruijn64tab"], apart := false, laid := [("math/bits.deBruijn32tab", laid_math_bits_deBruijn32tab), ("math/bits.deBruijn64tab", laid_math_bits_deBruijn64tab), ("internal/strconv.uint64pow10", laid_internal_strconv_uint64pow10)], narrowed := true }
def GlassRisesUptoSaid : Prop := glassRisesUptoRow.holds Tryd.pinned (OpenSpec.upto glassRisesSpec)

/-- 'isobarlaw01.GlassRose', WHERE WHAT IT READS IS OF BULK AT MOST 1048576: true; the input reads as it did. -/
def glassRoseUptoRow : OpenClaim := { program := "ytdbiiegohemahaadoor", sum := "5ae8411b1d77b30517850d705036605d900fb7c4c3d21de04f37211a4d7b129f", func := "isobar/isobarlaw01.GlassRose", spec := "glassRose", inPlace := ["internal/abi.NoEscape", "internal/bytealg.MakeNoZero"], unfollowed := true, recurses := true, named := ["internal/strconv.uint64pow10", "math/bits.deBruijn32tab", "math/bits.deBruijn64tab"], apart := false, laid := [("math/bits.deBruijn32tab", laid_math_bits_deBruijn32tab), ("math/bits.deBruijn64tab", laid_math_bits_deBruijn64tab), ("internal/strconv.uint64pow10", laid_internal_strconv_uint64pow10)], narrowed := true }
def GlassRoseUptoSaid : Prop := glassRoseUptoRow.holds Tryd.pinned (OpenSpec.upto glassRoseSpec)

/-- 'isobarlaw01.GlassWhens', WHERE WHAT IT READS IS OF BULK AT MOST 1048576: true; the input reads as it did. -/
def glassWhensUptoRow : OpenClaim := { program := "ytdbiiegohemahaadoor", sum := "5ae8411b1d77b30517850d705036605d900fb7c4c3d21de04f37211a4d7b129f", func := "isobar/isobarlaw01.GlassWhens", spec := "glassWhens", inPlace := ["internal/abi.NoEscape", "internal/bytealg.MakeNoZero"], unfollowed := true, recurses := true, named := ["internal/strconv.uint64pow10", "math/bits.deBruijn32tab", "math/bits.deBruijn64tab"], apart := false, laid := [("math/bits.deBruijn32tab", laid_math_bits_deBruijn32tab), ("math/bits.deBruijn64tab", laid_math_bits_deBruijn64tab), ("internal/strconv.uint64pow10", laid_internal_strconv_uint64pow10)], narrowed := true }
def GlassWhensUptoSaid : Prop := glassWhensUptoRow.holds Tryd.pinned (OpenSpec.upto glassWhensSpec)

/-- 'isobarlaw01.GlassMinutes', WHERE WHAT IT READS IS OF BULK AT MOST 1048576: true; the input reads as it did. -/
def glassMinutesUptoRow : OpenClaim := { program := "ytdbiiegohemahaadoor", sum := "5ae8411b1d77b30517850d705036605d900fb7c4c3d21de04f37211a4d7b129f", func := "isobar/isobarlaw01.GlassMinutes", spec := "glassMinutes", inPlace := ["internal/abi.NoEscape", "internal/bytealg.MakeNoZero"], unfollowed := true, recurses := true, named := ["internal/strconv.uint64pow10", "math/bits.deBruijn32tab", "math/bits.deBruijn64tab"], apart := false, laid := [("math/bits.deBruijn32tab", laid_math_bits_deBruijn32tab), ("math/bits.deBruijn64tab", laid_math_bits_deBruijn64tab), ("internal/strconv.uint64pow10", laid_internal_strconv_uint64pow10)], narrowed := true }
def GlassMinutesUptoSaid : Prop := glassMinutesUptoRow.holds Tryd.pinned (OpenSpec.upto glassMinutesSpec)

/-- 'isobarlaw01.GlassMore', WHERE WHAT IT READS IS OF BULK AT MOST 1048576: true; the input reads as it did. -/
def glassMoreUptoRow : OpenClaim := { program := "ytdbiiegohemahaadoor", sum := "5ae8411b1d77b30517850d705036605d900fb7c4c3d21de04f37211a4d7b129f", func := "isobar/isobarlaw01.GlassMore", spec := "glassMore", inPlace := ["internal/abi.NoEscape", "internal/bytealg.MakeNoZero"], unfollowed := true, recurses := true, named := ["internal/strconv.uint64pow10", "math/bits.deBruijn32tab", "math/bits.deBruijn64tab"], apart := false, laid := [("math/bits.deBruijn32tab", laid_math_bits_deBruijn32tab), ("math/bits.deBruijn64tab", laid_math_bits_deBruijn64tab), ("internal/strconv.uint64pow10", laid_internal_strconv_uint64pow10)], narrowed := true }
def GlassMoreUptoSaid : Prop := glassMoreUptoRow.holds Tryd.pinned (OpenSpec.upto glassMoreSpec)

/-- 'isobarlaw01.GlassIndexes', WHERE WHAT IT READS IS OF BULK AT MOST 1048576: true; the input reads as it did. -/
def glassIndexesUptoRow : OpenClaim := { program := "ytdbiiegohemahaadoor", sum := "5ae8411b1d77b30517850d705036605d900fb7c4c3d21de04f37211a4d7b129f", func := "isobar/isobarlaw01.GlassIndexes", spec := "glassIndexes", inPlace := ["internal/abi.NoEscape", "internal/bytealg.MakeNoZero"], unfollowed := true, recurses := true, named := ["internal/strconv.uint64pow10", "math/bits.deBruijn32tab", "math/bits.deBruijn64tab"], apart := false, laid := [("math/bits.deBruijn32tab", laid_math_bits_deBruijn32tab), ("math/bits.deBruijn64tab", laid_math_bits_deBruijn64tab), ("internal/strconv.uint64pow10", laid_internal_strconv_uint64pow10)], narrowed := true }
def GlassIndexesUptoSaid : Prop := glassIndexesUptoRow.holds Tryd.pinned (OpenSpec.upto glassIndexesSpec)

/-- 'isobarlaw01.GlassTrue', WHERE WHAT IT READS IS OF BULK AT MOST 1048576: true; the input reads as it did. -/
def glassTrueUptoRow : OpenClaim := { program := "ytdbiiegohemahaadoor", sum := "5ae8411b1d77b30517850d705036605d900fb7c4c3d21de04f37211a4d7b129f", func := "isobar/isobarlaw01.GlassTrue", spec := "glassTrue", inPlace := ["internal/abi.NoEscape", "internal/bytealg.MakeNoZero"], unfollowed := true, recurses := true, named := ["internal/strconv.uint64pow10", "math/bits.deBruijn32tab", "math/bits.deBruijn64tab"], apart := false, laid := [("math/bits.deBruijn32tab", laid_math_bits_deBruijn32tab), ("math/bits.deBruijn64tab", laid_math_bits_deBruijn64tab), ("internal/strconv.uint64pow10", laid_internal_strconv_uint64pow10)], narrowed := true }
def GlassTrueUptoSaid : Prop := glassTrueUptoRow.holds Tryd.pinned (OpenSpec.upto glassTrueSpec)

/-- 'isobarlaw01.GlassClashes', WHERE WHAT IT READS IS OF BULK AT MOST 1048576: true; the input reads as it did. -/
def glassClashesUptoRow : OpenClaim := { program := "ytdbiiegohemahaadoor", sum := "5ae8411b1d77b30517850d705036605d900fb7c4c3d21de04f37211a4d7b129f", func := "isobar/isobarlaw01.GlassClashes", spec := "glassClashes", inPlace := ["internal/abi.NoEscape", "internal/bytealg.MakeNoZero"], unfollowed := true, recurses := true, named := ["internal/strconv.uint64pow10", "math/bits.deBruijn32tab", "math/bits.deBruijn64tab"], apart := false, laid := [("math/bits.deBruijn32tab", laid_math_bits_deBruijn32tab), ("math/bits.deBruijn64tab", laid_math_bits_deBruijn64tab), ("internal/strconv.uint64pow10", laid_internal_strconv_uint64pow10)], narrowed := true }
def GlassClashesUptoSaid : Prop := glassClashesUptoRow.holds Tryd.pinned (OpenSpec.upto glassClashesSpec)

/-- 'isobarlaw01.GlassShown', WHERE WHAT IT READS IS OF BULK AT MOST 1048576: true; the input reads as it did. -/
def glassShownUptoRow : OpenClaim := { program := "ytdbiiegohemahaadoor", sum := "5ae8411b1d77b30517850d705036605d900fb7c4c3d21de04f37211a4d7b129f", func := "isobar/isobarlaw01.GlassShown", spec := "glassShown", inPlace := ["internal/abi.NoEscape", "internal/bytealg.MakeNoZero"], unfollowed := true, recurses := true, named := ["internal/strconv.uint64pow10", "math/bits.deBruijn32tab", "math/bits.deBruijn64tab"], apart := false, laid := [("math/bits.deBruijn32tab", laid_math_bits_deBruijn32tab), ("math/bits.deBruijn64tab", laid_math_bits_deBruijn64tab), ("internal/strconv.uint64pow10", laid_internal_strconv_uint64pow10)], narrowed := true }
def GlassShownUptoSaid : Prop := glassShownUptoRow.holds Tryd.pinned (OpenSpec.upto glassShownSpec)

end Rows
end Go.Proofs.YtdbiiegohemahaaDoor

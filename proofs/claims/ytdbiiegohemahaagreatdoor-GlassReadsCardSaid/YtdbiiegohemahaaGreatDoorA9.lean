import Derived.Test.YtdbiiegohemahaaGreatDoorA7
set_option linter.unusedVariables false
set_option linter.unusedSimpArgs false
namespace Go.Proofs.YtdbiiegohemahaaGreatDoor
open Go.Ab
attribute [local irreducible] Abs CallK CallR CallsTo

/-- What is known of a reading. -/
abbrev knD (s : Stn) (r : Rdg) : D := .agg [i64 (here r (endT s r 0)), i64 (here r (endT s r 1)), i64 (seaT r (endT s r 2)), i64 (seaT r (endT s r 3)), i64 (hum r (endT s r 4)), i64 (hum r (endT s r 5))]
/-- The weathers of the ends so far. -/
def wxK (s : Stn) (r : Rdg) (j e : Nat) : List D := if e < j then [i64 (here r (endT s r e)), i64 (seaT r (endT s r e)), i64 (hum r (endT s r e))] else [i64 0, i64 0, i64 0]
def wxL (s : Stn) (r : Rdg) (j : Nat) : List D := wxK s r j 0 ++ wxK s r j 1 ++ wxK s r j 2 ++ wxK s r j 3 ++ wxK s r j 4 ++ wxK s r j 5
theorem wxL_names (s : Stn) (r : Rdg) (j : Nat) : namesL 4 0 (wxL s r j) = true := by
  unfold wxL wxK
  split <;> split <;> split <;> split <;> split <;> split <;> rfl
end Go.Proofs.YtdbiiegohemahaaGreatDoor

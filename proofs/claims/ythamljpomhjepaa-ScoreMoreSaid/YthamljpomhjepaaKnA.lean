import Derived.Test.YthamljpomhjepaaKn0
set_option linter.unusedVariables false
set_option linter.unusedSimpArgs false
namespace Go.Proofs.Ythamljpomhjepaa
open Go.Ab
theorem c0_0 : bstL w0 (chk 0 8) ([0, 0, 100], w0 [0, 0, 100]) = ([7, 46, 47], 1852) := by decide +kernel
theorem c0_1 : bstL w0 (chk 8 8) ([7, 46, 47], 1852) = ([15, 42, 43], 3724) := by decide +kernel
theorem c0_2 : bstL w0 (chk 16 9) ([15, 42, 43], 3724) = ([24, 38, 38], 5472) := by decide +kernel
theorem c0_3 : bstL w0 (chk 25 10) ([24, 38, 38], 5472) = ([34, 33, 33], 6732) := by decide +kernel
theorem c0_4 : bstL w0 (chk 35 12) ([34, 33, 33], 6732) = ([46, 27, 27], 7452) := by decide +kernel
theorem c0_5 : bstL w0 (chk 47 14) ([46, 27, 27], 7452) = ([50, 25, 25], 7500) := by decide +kernel
theorem c0_6 : bstL w0 (chk 61 40) ([50, 25, 25], 7500) = ([50, 25, 25], 7500) := by decide +kernel
theorem kn_clim : bestS (fun p => daySum [[1, 3], [6, 2]] 0 p 2) 3 1 = ([50, 25, 25], 7500) := by
  show bestS w0 3 1 = _
  rw [best31, c0_0, c0_1, c0_2, c0_3, c0_4, c0_5, c0_6]
end Go.Proofs.Ythamljpomhjepaa

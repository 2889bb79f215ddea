import Derived.Test.YthamljpomhjepaaKn0
set_option linter.unusedVariables false
set_option linter.unusedSimpArgs false
namespace Go.Proofs.Ythamljpomhjepaa
open Go.Ab
theorem c1_0 : bstL w1 (chk 0 8) ([0, 0, 100], w1 [0, 0, 100]) = ([7, 71, 22], 4452) := by decide +kernel
theorem c1_1 : bstL w1 (chk 8 8) ([7, 71, 22], 4452) = ([15, 67, 18], 6324) := by decide +kernel
theorem c1_2 : bstL w1 (chk 16 9) ([15, 67, 18], 6324) = ([24, 63, 13], 7972) := by decide +kernel
theorem c1_3 : bstL w1 (chk 25 10) ([24, 63, 13], 7972) = ([34, 58, 8], 9232) := by decide +kernel
theorem c1_4 : bstL w1 (chk 35 12) ([34, 58, 8], 9232) = ([46, 52, 2], 9952) := by decide +kernel
theorem c1_5 : bstL w1 (chk 47 14) ([46, 52, 2], 9952) = ([50, 50, 0], 10000) := by decide +kernel
theorem c1_6 : bstL w1 (chk 61 40) ([50, 50, 0], 10000) = ([50, 50, 0], 10000) := by decide +kernel
theorem kn_clim1 : bestS (fun p => daySum [[1, 3], [6, 2]] 1 p 2) 3 1 = ([50, 50, 0], 10000) := by
  show bestS w1 3 1 = _
  rw [best31, c1_0, c1_1, c1_2, c1_3, c1_4, c1_5, c1_6]
end Go.Proofs.Ythamljpomhjepaa

import Derived.Test.YtopobgihpdaggaaGreatDoorRows
import Derived.JoinedOf
import Derived.SevenTiedAt
import Derived.KernelRfl
set_option linter.unusedVariables false
set_option linter.unusedSimpArgs false
namespace Go.Proofs.YtopobgihpdaggaaGreatDoor
set_option maxRecDepth 100000
theorem U9:Rows.topHonestRow.wfByText (OpenSpec.ofChange Rows.topHonestSpec)=true:=by kernel_rfl
theorem U':Tryz.prog.mainIs=some (true, "a1ad5fcd0fb496f6c999da91ed331425c0fea1a31f28e93dd3a9ce9814b1fd39".toList):=by kernel_rfl
end Go.Proofs.YtopobgihpdaggaaGreatDoor

import Derived.Test.YtopobgihpdaggaaGreatDoorRows
import Derived.JoinedOf
import Derived.KernelRfl
set_option linter.unusedVariables false
set_option linter.unusedSimpArgs false
open Go.Proofs.Tryz renaming f3->js,prog->ae
namespace Go.Proofs.YtopobgihpdaggaaGreatDoor
set_option maxRecDepth 100000
theorem Vv:((Rows.topHonestRow.ifacesOut == js.resultTypes.toList.any (ae.ifacesRec ·)))=true:=by kernel_rfl
theorem Vu:((Rows.topHonestRow.loopsOut == js.resultTypes.toList.any (ae.loopsFrom ·)))=true:=by kernel_rfl
theorem Vt:((Rows.topHonestRow.plainKeys == ae.plainKeys))=true:=by kernel_rfl
theorem Vs:(Rows.topHonestRow.shortTexts.isNone)=true:=by kernel_rfl
theorem Vr:(ae.stopsHeard)=true:=by kernel_rfl
theorem Vq:(ae.mayEnter)=true:=by kernel_rfl
theorem Vp:((Rows.topHonestRow.lifted == ae.liftsFinal))=true:=by kernel_rfl
theorem Vo:((ae.make == some Rows.topHonestRow.make))=true:=by kernel_rfl
theorem Vn:((Rows.topHonestRow.pinned == Rows.topHonestRow.pinnedBy))=true:=by kernel_rfl
theorem Vl:((Rows.topHonestRow.veiled == (js.params.toList++Rows.topHonestSpec.plain.varTypes ae++js.resultTypes.toList).any (ae.veiledRec ·)))=true:=by kernel_rfl
theorem Vk:(Rows.topHonestRow.veiledFits ae js.params.toList (js.params.toList++Rows.topHonestSpec.plain.varTypes ae++js.resultTypes.toList))=true:=by kernel_rfl
end Go.Proofs.YtopobgihpdaggaaGreatDoor

import Derived.Test.YtopobgihpdaggaaGreatDoorRows
import Derived.JoinedOf
import Derived.KernelRfl
set_option linter.unusedVariables false
set_option linter.unusedSimpArgs false
open Go.Proofs.Tryz renaming f3->js,prog->ae
namespace Go.Proofs.YtopobgihpdaggaaGreatDoor
set_option maxRecDepth 100000
theorem VJ:(Rows.topHonestRow.wf (OpenSpec.ofChange Rows.topHonestSpec))=true:=by kernel_rfl
theorem VI:(laidOutB ae)=true:=by kernel_rfl
theorem Vw:(mapsRowed ae)=true:=by kernel_rfl
theorem Vm:(js.params.all (ae.readableRec ·))=true:=by kernel_rfl
theorem Vj:(namedTie ae Rows.topHonestRow.named Rows.topHonestSpec.vars)=true:=by kernel_rfl
theorem Vi:((Rows.topHonestRow.stops == []))=true:=by kernel_rfl
theorem Vh:((ae.stops == []))=true:=by kernel_rfl
theorem Vg:((Rows.topHonestRow.knobs == []))=true:=by kernel_rfl
theorem Vf:((ae.stopKnobs == []))=true:=by kernel_rfl
theorem VD:((Rows.topHonestRow.maps == (js.params.toList++Rows.topHonestSpec.plain.varTypes ae).any (ae.mapsRec ·)))=true:=by kernel_rfl
theorem VC:((Rows.topHonestRow.ifaces == (js.params.toList++Rows.topHonestSpec.plain.varTypes ae).any (ae.ifacesRec ·)))=true:=by kernel_rfl
theorem VB:((Rows.topHonestRow.mapsOut == ae.mapsAmong js.resultTypes.toList))=true:=by kernel_rfl
theorem VA:((Rows.topHonestRow.loops == (js.params.toList++Rows.topHonestSpec.plain.varTypes ae).any (ae.loopsFrom ·)))=true:=by kernel_rfl
theorem Vz:((Rows.topHonestRow.wideKeys == (js.params.toList++Rows.topHonestSpec.plain.varTypes ae++js.resultTypes.toList).any (ae.wideKeysFrom ·)))=true:=by kernel_rfl
theorem Vy:(Rows.topHonestSpec.vars.all (ae.varReadable ·))=true:=by kernel_rfl
theorem Vx:(js.resultTypes.all (λt=>ae.readableRec t&&decide (t < ae.types.size)))=true:=by kernel_rfl
end Go.Proofs.YtopobgihpdaggaaGreatDoor

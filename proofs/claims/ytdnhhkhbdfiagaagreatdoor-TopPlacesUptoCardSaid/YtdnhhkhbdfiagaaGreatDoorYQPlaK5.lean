/- Closed facts of the row, one by one. No condition. -/
import Derived.Test.YtdnhhkhbdfiagaaGreatDoorCards
import Derived.Test.YtdnhhkhbdfiagaaGreatDoorTie
import Derived.Test.YtdnhhkhbdfiagaaGreatDoorRows
import Derived.JoinedCond
import Derived.ProofKit
import Derived.WalkKit
import Derived.SevenTiedAt
import Derived.Stop.Joined
set_option linter.unusedVariables false
set_option linter.unusedSimpArgs false
namespace Go.Proofs.YtdnhhkhbdfiagaaGreatDoor.topPlacesUpto
set_option maxRecDepth 100000
theorem AMn:((Rows.topPlacesUptoRow.maps==(Tryz.f3.params.toList++(Rows.OpenSpec.upto Rows.topPlacesSpec).bare.plain.varTypes Tryz.pinned.checked.prog).any (Tryz.pinned.checked.prog.mapsRec ·)))=true:=by kernel_rfl
theorem AMo:((Rows.topPlacesUptoRow.ifaces==(Tryz.f3.params.toList++(Rows.OpenSpec.upto Rows.topPlacesSpec).bare.plain.varTypes Tryz.pinned.checked.prog).any (Tryz.pinned.checked.prog.ifacesRec ·)))=true:=by kernel_rfl
theorem AMp:((Rows.topPlacesUptoRow.mapsOut==Tryz.pinned.checked.prog.mapsAmong Tryz.f3.resultTypes.toList))=true:=by kernel_rfl
theorem AMq:((Rows.topPlacesUptoRow.loops==(Tryz.f3.params.toList++(Rows.OpenSpec.upto Rows.topPlacesSpec).bare.plain.varTypes Tryz.pinned.checked.prog).any (Tryz.pinned.checked.prog.loopsFrom ·)))=true:=by kernel_rfl
theorem AMr:((Rows.topPlacesUptoRow.wideKeys==(Tryz.f3.params.toList++(Rows.OpenSpec.upto Rows.topPlacesSpec).bare.plain.varTypes Tryz.pinned.checked.prog++Tryz.f3.resultTypes.toList).any (Tryz.pinned.checked.prog.wideKeysFrom ·)))=true:=by kernel_rfl
theorem AMs:((Rows.OpenSpec.upto Rows.topPlacesSpec).bare.vars.all (Tryz.pinned.checked.prog.varReadable ·))=true:=by kernel_rfl
theorem AMt:(Tryz.f3.resultTypes.all (fun t=>Tryz.pinned.checked.prog.readableRec t&&decide (t<Tryz.pinned.checked.prog.types.size)))=true:=by kernel_rfl
theorem AMu:((Rows.topPlacesUptoRow.ifacesOut==Tryz.f3.resultTypes.toList.any (Tryz.pinned.checked.prog.ifacesRec ·)))=true:=by kernel_rfl
theorem AMv:((Rows.topPlacesUptoRow.loopsOut==Tryz.f3.resultTypes.toList.any (Tryz.pinned.checked.prog.loopsFrom ·)))=true:=by kernel_rfl
theorem AMw:((Rows.topPlacesUptoRow.plainKeys==Tryz.pinned.checked.prog.plainKeys))=true:=by kernel_rfl
theorem AMx:(Rows.topPlacesUptoRow.shortTexts.isNone)=true:=by kernel_rfl
end Go.Proofs.YtdnhhkhbdfiagaaGreatDoor.topPlacesUpto

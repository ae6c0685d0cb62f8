/- Closed facts of the row, one by one. No condition. -/
import Derived.Test.YtdnhhkhbdfiagaaGreatDoorCards
import Derived.Test.YtdnhhkhbdfiagaaGreatDoorTie
import Derived.Test.YtdnhhkhbdfiagaaGreatDoorRows
import Derived.JoinedCond
import Derived.ProofKit
import Derived.WalkKit
import Derived.SevenTiedAt
import Derived.Stop.Joined
set_option linter.unusedVariables false
set_option linter.unusedSimpArgs false
namespace Go.Proofs.YtdnhhkhbdfiagaaGreatDoor.topPlacesUpto
set_option maxRecDepth 100000
theorem AM1:((Tryz.pinned.checked.prog.make==some Rows.topPlacesUptoRow.make))=true:=by kernel_rfl
theorem AM2:((Rows.topPlacesUptoRow.kinds==(if Rows.topPlacesUptoRow.domain.isEmpty then []else Tryz.f3.params.toList.map fun t=>match Tryz.pinned.checked.prog.underlying t with|some (.int k)=>some k|_=>none)))=true:=by kernel_rfl
theorem AM3:((Rows.topPlacesUptoRow.pinned==Rows.topPlacesUptoRow.pinnedBy))=true:=by kernel_rfl
theorem AM4:((Rows.topPlacesUptoRow.veiled==(Tryz.f3.params.toList++(Rows.OpenSpec.upto Rows.topPlacesSpec).bare.plain.varTypes Tryz.pinned.checked.prog++Tryz.f3.resultTypes.toList).any (Tryz.pinned.checked.prog.veiledRec ·)))=true:=by kernel_rfl
theorem AM5:(Rows.topPlacesUptoRow.veiledFits Tryz.pinned.checked.prog Tryz.f3.params.toList (Tryz.f3.params.toList++(Rows.OpenSpec.upto Rows.topPlacesSpec).bare.plain.varTypes Tryz.pinned.checked.prog++Tryz.f3.resultTypes.toList))=true:=by kernel_rfl
end Go.Proofs.YtdnhhkhbdfiagaaGreatDoor.topPlacesUpto

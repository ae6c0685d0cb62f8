/- Closed facts of the row, one by one. No condition. -/
import Derived.Test.YtdnhhkhbdfiagaaGreatDoorCards
import Derived.Test.YtdnhhkhbdfiagaaGreatDoorTie
import Derived.Test.YtdnhhkhbdfiagaaGreatDoorRows
import Derived.JoinedCond
import Derived.ProofKit
import Derived.WalkKit
import Derived.SevenTiedAt
import Derived.Stop.Joined
set_option linter.unusedVariables false
set_option linter.unusedSimpArgs false
namespace Go.Proofs.YtdnhhkhbdfiagaaGreatDoor.topPlacesUpto
set_option maxRecDepth 100000
theorem kf0:(Rows.topPlacesUptoRow.wf (OpenSpec.ofChange (Rows.OpenSpec.upto Rows.topPlacesSpec).bare))=true:=by kernel_rfl
theorem kf1:(laidOutB Tryz.pinned.checked.prog)=true:=by kernel_rfl
theorem kf2:(mapsRowed Tryz.pinned.checked.prog)=true:=by kernel_rfl
theorem kf3:(Tryz.f3.params.all (Tryz.pinned.checked.prog.readableRec ·))=true:=by kernel_rfl
theorem kf4:(namedTie Tryz.pinned.checked.prog Rows.topPlacesUptoRow.named (Rows.OpenSpec.upto Rows.topPlacesSpec).bare.vars)=true:=by kernel_rfl
theorem kf5:((Rows.topPlacesUptoRow.stops==[]))=true:=by kernel_rfl
theorem kf6:((Tryz.pinned.checked.prog.stops==[]))=true:=by kernel_rfl
theorem kf7:((Rows.topPlacesUptoRow.knobs==[]))=true:=by kernel_rfl
theorem kf8:((Tryz.pinned.checked.prog.stopKnobs==[]))=true:=by kernel_rfl
end Go.Proofs.YtdnhhkhbdfiagaaGreatDoor.topPlacesUpto

/- Closed facts of the row, one by one. No condition. -/
import Derived.Test.YtdnhhkhbdfiagaaGreatDoorCards
import Derived.Test.YtdnhhkhbdfiagaaGreatDoorTie
import Derived.Test.YtdnhhkhbdfiagaaGreatDoorRows
import Derived.JoinedCond
import Derived.ProofKit
import Derived.WalkKit
import Derived.SevenTiedAt
import Derived.Stop.Joined
set_option linter.unusedVariables false
set_option linter.unusedSimpArgs false
namespace Go.Proofs.YtdnhhkhbdfiagaaGreatDoor.topPlacesUpto
set_option maxRecDepth 100000
theorem AMl:((Rows.topPlacesUptoRow.recurses==Tryz.pinned.checked.prog.recurses 3))=true:=by kernel_rfl
end Go.Proofs.YtdnhhkhbdfiagaaGreatDoor.topPlacesUpto

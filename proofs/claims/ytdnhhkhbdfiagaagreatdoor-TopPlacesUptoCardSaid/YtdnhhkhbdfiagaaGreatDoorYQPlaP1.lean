/- Closed facts of the card, one by one. No condition. -/
import Derived.Test.YtdnhhkhbdfiagaaGreatDoorCards
import Derived.Test.YtdnhhkhbdfiagaaGreatDoorTie
import Derived.Test.YtdnhhkhbdfiagaaGreatDoorRows
import Derived.ProofKit
import Derived.WalkKit
import Derived.SevenTiedAt
import Derived.Stop.Joined
set_option linter.unusedVariables false
set_option linter.unusedSimpArgs false
namespace Go.Proofs.YtdnhhkhbdfiagaaGreatDoor.topPlacesUpto
set_option maxRecDepth 100000
theorem AMg:Tryz.pinned.checked.prog.mainIs=some (Rows.topPlacesUptoCard.stood.harness.1,Rows.topPlacesUptoCard.stood.harness.2.toList):=by kernel_rfl
end Go.Proofs.YtdnhhkhbdfiagaaGreatDoor.topPlacesUpto

/- TopPlaces: the law returns true for every input of bulk at most 1048576, and every argument reads as before, under the laid variables: the second form's card. No other condition. -/
import Derived.Test.YtdnhhkhbdfiagaaGreatDoorCards
import Derived.Test.YtdnhhkhbdfiagaaGreatDoorTie
import Derived.Test.YtdnhhkhbdfiagaaGreatDoorQYLpE
import Derived.WalkKit
import Derived.ProofKit
import Derived.OpenShut
import Derived.ShutString
import Derived.ChangeOld
import Derived.Below
import Derived.Carry
import Derived.LaidMore
import Derived.Stop.Joined
import Derived.SevenTiedAt
import Derived.Deep.DeepHandedRow
import Derived.Deep.DeepWitnessRowRef
import Derived.Lay
import Derived.Test.YtdnhhkhbdfiagaaGreatDoorYQPlaA
import Derived.Test.YtdnhhkhbdfiagaaGreatDoorYQPlaW
import Derived.Test.YtdnhhkhbdfiagaaGreatDoorYQPlaB
set_option linter.unusedVariables false
set_option linter.unusedSimpArgs false
namespace Go.Proofs.YtdnhhkhbdfiagaaGreatDoor.topPlacesUpto
open Go.ChangeShapes Go.WideShapes Go.ChangeAt Go.RowKit
open Go.ChangeMaps (open_string shut_string)
open Sh
set_option maxRecDepth 100000 in
theorem lifted (os:Os)(started:os.Started)(H:Type)(enc:TypeId×Value->H)(F:Stop.Interp):
  ReturnsInHanded {} Tryz.checked os 3 .any ((Rows.OpenSpec.upto Rows.topPlacesSpec).preRow enc Tryz.prog Tryz.f3 Rows.topPlacesUptoRow.domain false Rows.topPlacesUptoRow.laid) (((Rows.OpenSpec.upto Rows.topPlacesSpec).at F).post enc Tryz.prog Tryz.f3 false true false false):=by
 obtain ⟨places,hx⟩:=reads os enc;refine returnsInHanded_of_row (C:=Tryz.checked) (s:=Rows.OpenSpec.upto Rows.topPlacesSpec) own started (by kernel_rfl) Tryz.func3
  (witness_row_atRef (enc:=enc) (C:=Tryz.checked) false (wS os) #[.slice none 0 0,.agg #[.int .i64 0,.int .i64 0,.int .i64 0,.int .i64 0,.int .i64 0,.string ByteArray.empty,.slice none 0 0,.slice none 0 0]] (World.layVars_os _ _ _) (AM6 os) (AM7 os) (ADG os)
   (OpenSpec.preRow_of_cond 8 hx (by kernel_rfl) (fun k hk=>by cases hk;kernel_rfl) (by kernel_rfl) (gU os _))) ?_
 intro W base args ds gs before gW hW _ hk _ hL hSh _;exact gV H enc W base args ds gs before gW hW (hk _ rfl) hL hSh
end Go.Proofs.YtdnhhkhbdfiagaaGreatDoor.topPlacesUpto

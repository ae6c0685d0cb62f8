/- TopPlaces: the law returns true for every input of bulk at most 1048576, and every argument reads as before, under the laid variables: the second form's card. No other condition. -/
import Derived.Test.YtdnhhkhbdfiagaaGreatDoorCards
import Derived.Test.YtdnhhkhbdfiagaaGreatDoorTie
import Derived.Test.YtdnhhkhbdfiagaaGreatDoorQYLpE
import Derived.WalkKit
import Derived.ProofKit
import Derived.OpenShut
import Derived.ShutString
import Derived.ChangeOld
import Derived.Below
import Derived.Carry
import Derived.LaidMore
import Derived.Stop.Joined
import Derived.SevenTiedAt
import Derived.Deep.DeepHandedRow
import Derived.Deep.DeepWitnessRowRef
import Derived.Lay
import Derived.Test.YtdnhhkhbdfiagaaGreatDoorYQPlaA
import Derived.Test.YtdnhhkhbdfiagaaGreatDoorYQPlaW
import Derived.Test.YtdnhhkhbdfiagaaGreatDoorYQPlaB
import Derived.Test.YtdnhhkhbdfiagaaGreatDoorYQPlaK0
import Derived.Test.YtdnhhkhbdfiagaaGreatDoorYQPlaK1
import Derived.Test.YtdnhhkhbdfiagaaGreatDoorYQPlaK2
import Derived.Test.YtdnhhkhbdfiagaaGreatDoorYQPlaK3
import Derived.Test.YtdnhhkhbdfiagaaGreatDoorYQPlaK4
import Derived.Test.YtdnhhkhbdfiagaaGreatDoorYQPlaK5
import Derived.Test.YtdnhhkhbdfiagaaGreatDoorYQPlaK6
import Derived.Test.YtdnhhkhbdfiagaaGreatDoorYQPlaK7
import Derived.Test.YtdnhhkhbdfiagaaGreatDoorYQPlaK8
import Derived.Test.YtdnhhkhbdfiagaaGreatDoorYQPlaL
set_option linter.unusedVariables false
set_option linter.unusedSimpArgs false
namespace Go.Proofs.YtdnhhkhbdfiagaaGreatDoor.topPlacesUpto
open Go.ChangeShapes Go.WideShapes Go.ChangeAt Go.RowKit
open Go.ChangeMaps (open_string shut_string)
open Sh
theorem BA {a b:Bool}(ha:a=true)(hb:b=true):(a&&b)=true:=by rw[ha,hb];rfl
set_option maxRecDepth 100000 in
theorem closed:joinedFacts Tryz.pinned.checked.prog 3 Tryz.f3 (Rows.OpenSpec.upto Rows.topPlacesSpec).bare Rows.topPlacesUptoRow=true:=by
 unfold joinedFacts;exact BA (BA (BA (BA (BA (BA (BA (BA (BA (BA (BA (BA (BA (BA (BA (BA (BA (BA (BA (BA (BA (BA (BA (BA (BA (BA (BA (BA (BA (BA (BA (kf0) kf1) kf2) kf3) kf4) kf5) kf6) kf7) kf8) kf9) AMk) AMl) AMm) AMn) AMo) AMp) AMq) AMr) AMs) AMt) AMu) AMv) AMw) AMx) AMy) AMz) AM0) AM1) AM2) AM3) AM4) AM5
theorem said:Rows.TopPlacesUptoSaid:=
 OpenClaim.holds_of_cond 3 Tryz.f3 rfl rfl rfl rfl rfl rfl rfl ⟨rfl,rfl,rfl,rfl,rfl⟩ rfl rfl rfl rfl rfl (by kernel_rfl) Tryz.func3 closed
  (of_decide_eq_true (by kernel_rfl)) (by unfold Func.isWrapper;first|(rw[if_pos (by decide+kernel)];kernel_rfl)|(rw[if_neg (by decide+kernel)];exact ⟨rfl,rfl⟩))
  (fun os started H enc _ F=>by rw[OpenClaim.pre_eq_preRow];exact lifted os started H enc F)
end Go.Proofs.YtdnhhkhbdfiagaaGreatDoor.topPlacesUpto

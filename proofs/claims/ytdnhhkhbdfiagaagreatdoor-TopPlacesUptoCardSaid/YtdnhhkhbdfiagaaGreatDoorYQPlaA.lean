/- TopPlaces: the law returns true for every input of bulk at most 1048576, and every argument reads as before, under the laid variables: the second form's card. No other condition. -/
import Derived.Test.YtdnhhkhbdfiagaaGreatDoorCards
import Derived.Test.YtdnhhkhbdfiagaaGreatDoorTie
import Derived.Test.YtdnhhkhbdfiagaaGreatDoorQYLpE
import Derived.WalkKit
import Derived.ProofKit
import Derived.OpenShut
import Derived.ShutString
import Derived.ChangeOld
import Derived.Below
import Derived.Carry
import Derived.LaidMore
import Derived.Stop.Joined
import Derived.SevenTiedAt
import Derived.Deep.DeepHandedRow
import Derived.Deep.DeepWitnessRowRef
import Derived.Lay
set_option linter.unusedVariables false
set_option linter.unusedSimpArgs false
namespace Go.Proofs.YtdnhhkhbdfiagaaGreatDoor.topPlacesUpto
open Go.ChangeShapes Go.WideShapes Go.ChangeAt Go.RowKit
open Go.ChangeMaps (open_string shut_string)
open Sh
theorem own:ownKnob Tryz.prog.godebug=none:=by kernel_rfl
theorem laidOut:laidOutB Tryz.prog=true:=by kernel_rfl
set_option maxRecDepth 100000 in
def gR:List String:=["unicode/utf8.first"]
noncomputable def wS (os:Os):World:=(World.doorLaid Tryz.prog 67 os).layVars Tryz.prog (Rows.topPlacesUptoRow.laid.filter fun x=>gR.contains x.1)
noncomputable def Ws (os:Os):List Nat:=(List.range (World.doorLaid Tryz.prog 67 os).heap.size).filter fun k=> !(gR.map fun n=>(Tryz.prog.globalNamed n).getD 0).contains k
set_option maxRecDepth 100000 in
theorem gU (os:Os)(args:Array Value):laidMetH Tryz.prog Rows.topPlacesUptoRow.laid ((wS os).forCall (fun _ _=>0) ⟨#[],args,[]⟩).memory:=by
 have e:(Rows.topPlacesUptoRow.laid.filter fun x=>x.2.handleName?.isNone)=Rows.topPlacesUptoRow.laid:=by kernel_rfl
 refine laidMetH_of_parts3 (fuel:=8) ?_ (by kernel_rfl) (by kernel_rfl);rw[e];refine laidMet_layVars (w0:=World.doorLaid Tryz.prog 67 os) gR (Ws os) (by simp[World.memory,World.forCall,Input.heap,wS]) (by kernel_rfl) (by kernel_rfl) ?_;exact LaidIn.of_run (Ws os) 8 (by kernel_rfl) (by kernel_rfl) (by kernel_rfl) (by kernel_rfl)
end Go.Proofs.YtdnhhkhbdfiagaaGreatDoor.topPlacesUpto

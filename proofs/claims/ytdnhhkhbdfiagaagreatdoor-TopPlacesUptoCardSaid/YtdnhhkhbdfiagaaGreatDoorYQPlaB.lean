/- TopPlaces: the law returns true for every input of bulk at most 1048576, and every argument reads as before, under the laid variables: the second form's card. No other condition. -/
import Derived.Test.YtdnhhkhbdfiagaaGreatDoorCards
import Derived.Test.YtdnhhkhbdfiagaaGreatDoorTie
import Derived.Test.YtdnhhkhbdfiagaaGreatDoorQYLpE
import Derived.WalkKit
import Derived.ProofKit
import Derived.OpenShut
import Derived.ShutString
import Derived.ChangeOld
import Derived.Below
import Derived.Carry
import Derived.LaidMore
import Derived.Stop.Joined
import Derived.SevenTiedAt
import Derived.Deep.DeepHandedRow
import Derived.Deep.DeepWitnessRowRef
import Derived.Lay
import Derived.Test.YtdnhhkhbdfiagaaGreatDoorYQPlaA
set_option linter.unusedVariables false
set_option linter.unusedSimpArgs false
namespace Go.Proofs.YtdnhhkhbdfiagaaGreatDoor.topPlacesUpto
open Go.ChangeShapes Go.WideShapes Go.ChangeAt Go.RowKit
open Go.ChangeMaps (open_string shut_string)
open Sh
set_option maxRecDepth 100000 in
theorem gV (H:Type)(enc:TypeId×Value->H)(W:World)(base:Nat)(args:Array Value)(ds gs:List (DataW H))(before:List MemPlace)
  (pV:∀(j:Nat) t v,Tryz.f3.params[j]?=some t->args[j]?=some v->Value.okWide Tryz.prog W .any base t v)
  (hW:DataW.Whole enc Tryz.prog Tryz.f3.params.toList Rows.topPlacesSpec.vars false W args.toList ds gs before) (hk:Rows.uptoSmall H (ds++gs)=true) (hL:laidMetH Tryz.prog Rows.topPlacesUptoRow.laid W) (hSh:W.ShapedOpen Tryz.prog):
  Calls Tryz.prog 3 args W fun e W'=>∃v,e= .returned v/\Rows.topPlacesSpec.post enc Tryz.prog Tryz.f3 false true false false W args v W':=by
 have gW:∀(j:Nat) t v,Tryz.f3.params[j]?=some t->args[j]?=some v->Value.okWide Tryz.prog W .any base t v:=pV;have wT:=hW;obtain ⟨p,q,hA0,hV,rfl,hfz,GC⟩:=hW;have hA:DataW.TrodAll enc Tryz.prog W 0 (fun _=>true) true Tryz.f3.params.toList args.toList ds p:=hA0;rw[Tryz.params3]at hA gW;obtain ⟨v0,vs0,d0,ds0,p0,q0,pW,rfl,rfl,h0,r0⟩:=trodAll_cons hA;obtain ⟨v1,vs1,d1,ds1,p1,q1,rfl,rfl,rfl,h1,r1⟩:=trodAll_cons r0;obtain ⟨rfl,rfl,rfl⟩:=trodAll_nil r1;obtain rfl:args=#[v0,v1]:=by cases args;simp_all
 obtain ⟨rfl,rfl⟩:=trodVars_none hV;simp only[List.append_nil]at hk;have hk:Rows.uptoBulkAll [d0,d1]<=1048576:=of_decide_eq_true hk;simp only[Rows.uptoBulkAll]at hk;have Gv:Rows.uptoBulk d0<=1048576:=by omega
 have Te:Rows.uptoBulk d1<=1048576:=by omega
 clear hk;have k0:=h0;have lt0:∀x∈p0,x.block<W.heap.size:=by obtain ⟨m,hm⟩:=k0;exact DataW.trod_lt m _ _ _ hm
 obtain ⟨s0,L0,rfl,iv0,ll0,x0⟩:=Pc.Yi (gW 0 22 v0 rfl rfl) h0 Gv;have k1:=h1;have lt1:∀x∈p1,x.block<W.heap.size:=by obtain ⟨m,hm⟩:=k1;exact DataW.trod_lt m _ _ _ hm
 obtain ⟨z0,rfl,z1⟩:=Pc.fW (gW 1 28 v1 rfl rfl) h1 Te;clear hA0 pV;refine Calls.mono (Pc.ACm iv0 ll0 x0 z1 hL hSh) fun e W' hh=>?_
 obtain ⟨r,he,hr,hx⟩:∃r:Bool,e= .returned (.bool r)/\r=true/\Ext (fun _=>False) W W':=by
  first
  |exact hh
  |exact hh.elim id fun ⟨_,_,hf⟩=>hf.elim
 subst hr;subst he;have bel:=hx.below;exact ⟨_,rfl,_,_,_,[],_,[],wT,trodAll_mk1 (shut_bool Tryz.underlying4 _),(trodAll_cons_mk (Below.trod laidOut (by kernel_rfl) (of_decide_eq_true (by kernel_rfl)) k0 bel lt0) (trodAll_cons_mk (Below.trod laidOut (by kernel_rfl) (of_decide_eq_true (by kernel_rfl)) k1 bel lt1) trodAll_mk0)),rfl,bel.frame _,fun h=>by cases h⟩
end Go.Proofs.YtdnhhkhbdfiagaaGreatDoor.topPlacesUpto

/- TopFilters: the law returns true for every input of bulk at most 1048576, and every argument reads as before, under the laid variables: the second form's card. No other condition. -/
import Derived.Test.YtdmmgclkphaaaaaGreatDoorCards
import Derived.Test.YtdmmgclkphaaaaaGreatDoorTie
import Derived.Test.YtdmmgclkphaaaaaGreatDoorQYQFil10
import Derived.Test.YtdmmgclkphaaaaaGreatDoorQYQFil4
import Derived.WalkKit
import Derived.ProofKit
import Derived.OpenShut
import Derived.ShutString
import Derived.ChangeOld
import Derived.Below
import Derived.Carry
import Derived.LaidMore
import Derived.Stop.Joined
import Derived.SevenTiedAt
import Derived.Deep.DeepHandedRow
import Derived.Deep.DeepWitnessRowRef
import Derived.Lay
set_option linter.unusedVariables false
set_option linter.unusedSimpArgs false
namespace Go.Proofs.YtdmmgclkphaaaaaGreatDoor.topFiltersUpto
open Go.ChangeShapes Go.WideShapes Go.ChangeAt Go.RowKit
open Go.ChangeMaps (open_string shut_string)
open Sh
theorem own:ownKnob Tryz.prog.godebug=none:=by kernel_rfl
theorem laidOut:laidOutB Tryz.prog=true:=by kernel_rfl
set_option maxRecDepth 100000 in
theorem tN (os:Os)(args:Array Value):laidMetH Tryz.prog Rows.topFiltersUptoRow.laid ((World.doorLaid Tryz.prog 42 os).forCall (fun _ _=>0) ⟨#[],args,[]⟩).memory:=
 laidMetH_of_parts3 (fuel:=8) (laidMet_of_run' 8 (by kernel_rfl) (by kernel_rfl)) (by kernel_rfl) (by kernel_rfl)
set_option maxRecDepth 100000 in
theorem AX1 {H:Type}{enc:TypeId×Value->H}{W:World}{spare:Nat->Bool}{held:Bool}{v:Value}{d:DataW H}{ps:List MemPlace}{rr:Reach}{b0:Nat}
  (h0:Value.okWide Tryz.prog W rr b0 27 v) (h:DataW.Trod enc Tryz.prog W 0 spare held 27 v d ps):∃a:Int×Int×Int,v= .agg #[.int .i64 (a.1),.int .i64 (a.2.1),.int .i64 (a.2.2)]/\(Lit.int .i64 a.1).wf=true/\(Lit.int .i64 a.2.1).wf=true/\(Lit.int .i64 a.2.2).wf=true:=by
 obtain ⟨cs,rfl,hl,n,hn⟩:=N1 (by rw[Tryz.underlying27];rfl) h0 h;rw[show Tryz.prog.cellsOf 27=3 by kernel_rfl]at hl;obtain ⟨c0,c1,c2,rfl⟩:∃c0 c1 c2,cs=[c0,c1,c2]:=by
  match cs,hl with
  |[c0,c1,c2],_=>exact ⟨c0,c1,c2,rfl⟩
 obtain ⟨x0,rfl,f0⟩:=Qp (k:=8) (i:=0) (u:=3) (by kernel_rfl) Tryz.underlying3 hn rfl;obtain ⟨x1,rfl,f1⟩:=Qp (k:=8) (i:=1) (u:=3) (by kernel_rfl) Tryz.underlying3 hn rfl;obtain ⟨x2,rfl,f2⟩:=Qp (k:=8) (i:=2) (u:=3) (by kernel_rfl) Tryz.underlying3 hn rfl;exact ⟨(x0,x1,x2),rfl,f0,f1,f2⟩
set_option maxRecDepth 100000 in
theorem tO (H:Type)(enc:TypeId×Value->H)(W:World)(base:Nat)(args:Array Value)(ds gs:List (DataW H))(before:List MemPlace)
  (ABo:∀(j:Nat) t v,Tryz.f3.params[j]?=some t->args[j]?=some v->Value.okWide Tryz.prog W .any base t v)
  (hW:DataW.Whole enc Tryz.prog Tryz.f3.params.toList Rows.topFiltersSpec.vars false W args.toList ds gs before) (hk:Rows.uptoSmall H (ds++gs)=true) (hL:laidMetH Tryz.prog Rows.topFiltersUptoRow.laid W):
  Calls Tryz.prog 3 args W fun e W'=>∃v,e= .returned v/\Rows.topFiltersSpec.post enc Tryz.prog Tryz.f3 false true false false W args v W':=by
 have Z1:∀(j:Nat) t v,Tryz.f3.params[j]?=some t->args[j]?=some v->Value.okWide Tryz.prog W .any base t v:=ABo;have hW':=hW;obtain ⟨p,q,hA0,hV,rfl,hfz,Og⟩:=hW;have hA:DataW.TrodAll enc Tryz.prog W 0 (fun _=>true) true Tryz.f3.params.toList args.toList ds p:=hA0;rw[Tryz.params3]at hA Z1;obtain ⟨v0,vs0,d0,ds0,p0,q0,Ab1,rfl,rfl,h0,r0⟩:=trodAll_cons hA;obtain ⟨v1,vs1,d1,ds1,p1,q1,rfl,rfl,rfl,h1,r1⟩:=trodAll_cons r0;obtain ⟨v2,vs2,d2,ds2,p2,q2,rfl,rfl,rfl,h2,r2⟩:=trodAll_cons r1;obtain ⟨v3,vs3,d3,ds3,p3,q3,rfl,rfl,rfl,h3,r3⟩:=trodAll_cons r2;obtain ⟨rfl,rfl,rfl⟩:=trodAll_nil r3;obtain rfl:args=#[v0,v1,v2,v3]:=by cases args;simp_all
 obtain ⟨rfl,rfl⟩:=trodVars_none hV;simp only[List.append_nil]at hk;have hk:Rows.uptoBulkAll [d0,d1,d2,d3]<=1048576:=of_decide_eq_true hk;simp only[Rows.uptoBulkAll]at hk;have hb0:Rows.uptoBulk d0<=1048576:=by omega
 have u0:Rows.uptoBulk d1<=1048576:=by omega
 have TW:Rows.uptoBulk d2<=1048576:=by omega
 have wR:Rows.uptoBulk d3<=1048576:=by omega
 clear hk;have k0:=h0;have lt0:∀x∈p0,x.block<W.heap.size:=by obtain ⟨m,hm⟩:=k0;exact DataW.trod_lt m _ _ _ hm
 obtain ⟨o0,t0,rfl,x0⟩:=Fi.ADg (Z1 0 25 v0 rfl rfl) h0;have k1:=h1;have lt1:∀x∈p1,x.block<W.heap.size:=by obtain ⟨m,hm⟩:=k1;exact DataW.trod_lt m _ _ _ hm
 obtain ⟨s1,L1,rfl,z1⟩:=Fi.ADf (Z1 1 22 v1 rfl rfl) h1;have k2:=h2;have lt2:∀x∈p2,x.block<W.heap.size:=by obtain ⟨m,hm⟩:=k2;exact DataW.trod_lt m _ _ _ hm
 obtain ⟨a2,rfl,w2⟩:=AX1 (Z1 2 27 v2 rfl rfl) h2;have k3:=h3;have lt3:∀x∈p3,x.block<W.heap.size:=by obtain ⟨m,hm⟩:=k3;exact DataW.trod_lt m _ _ _ hm
 obtain ⟨a3,rfl,rfl,rfl,w3⟩:=open_string Tryz.underlying9 (Z1 3 9 v3 rfl rfl) h3;clear hA0 ABo;refine Calls.mono (Fi.WM x0 z1 (Fi.xQ hL) (fun _ _=>False)) fun e W' hh=>?_
 obtain ⟨r,he,hr,hx⟩:∃r:Bool,e= .returned (.bool r)/\r=true/\Ext (fun _=>False) W W':=by
  first
  |exact hh
  |exact hh.elim id fun ⟨_,_,hf⟩=>hf.elim
 subst hr;subst he;have bel:=hx.below;exact ⟨_,rfl,_,_,_,[],_,[],hW',trodAll_mk1 (shut_bool Tryz.underlying4 _),(trodAll_cons_mk (Below.trod laidOut (by kernel_rfl) (of_decide_eq_true (by kernel_rfl)) k0 bel lt0) (trodAll_cons_mk (Below.trod laidOut (by kernel_rfl) (of_decide_eq_true (by kernel_rfl)) k1 bel lt1) (trodAll_cons_mk (Below.trod laidOut (by kernel_rfl) (of_decide_eq_true (by kernel_rfl)) k2 bel lt2) (trodAll_cons_mk (Below.trod laidOut (by kernel_rfl) (of_decide_eq_true (by kernel_rfl)) k3 bel lt3) trodAll_mk0)))),rfl,bel.frame _,fun h=>by cases h⟩
theorem reads (os:Os){H:Type}(enc:TypeId×Value->H):∃places,DataW.whole enc Tryz.prog ((World.doorLaid Tryz.prog 42 os).forCall (fun _ _=>0) ⟨#[],#[.agg #[.int .i64 0,.int .i64 0,.int .i64 0,.string ByteArray.empty,.slice none 0 0,.slice none 0 0],.slice none 0 0,.agg #[.int .i64 0,.int .i64 0,.int .i64 0],.string ByteArray.empty],[]⟩).memory Tryz.f3.params.toList Rows.topFiltersSpec.vars false #[.agg #[.int .i64 0,.int .i64 0,.int .i64 0,.string ByteArray.empty,.slice none 0 0,.slice none 0 0],.slice none 0 0,.agg #[.int .i64 0,.int .i64 0,.int .i64 0],.string ByteArray.empty].toList 8=some ([.agg [.lit (.int .i64 0),.lit (.int .i64 0),.lit (.int .i64 0),.lit (.string []),.nil,.nil],.nil,.agg [.lit (.int .i64 0),.lit (.int .i64 0),.lit (.int .i64 0)],.lit (.string [])],[],places):=
 ⟨[],by kernel_rfl⟩
set_option maxRecDepth 100000 in
theorem lifted (os:Os)(started:os.Started)(H:Type)(enc:TypeId×Value->H)(F:Stop.Interp):
  ReturnsInHanded {} Tryz.checked os 3 .any ((Rows.OpenSpec.upto Rows.topFiltersSpec).preRow enc Tryz.prog Tryz.f3 Rows.topFiltersUptoRow.domain false Rows.topFiltersUptoRow.laid) (((Rows.OpenSpec.upto Rows.topFiltersSpec).at F).post enc Tryz.prog Tryz.f3 false true false false):=by
 obtain ⟨places,hx⟩:=reads os enc;refine returnsInHanded_of_row (C:=Tryz.checked) (s:=Rows.OpenSpec.upto Rows.topFiltersSpec) own started (by kernel_rfl) Tryz.func3
  (witness_row_atRef (enc:=enc) (C:=Tryz.checked) false (World.doorLaid Tryz.prog 42 os) #[.agg #[.int .i64 0,.int .i64 0,.int .i64 0,.string ByteArray.empty,.slice none 0 0,.slice none 0 0],.slice none 0 0,.agg #[.int .i64 0,.int .i64 0,.int .i64 0],.string ByteArray.empty] rfl (by kernel_rfl) (by kernel_rfl) (by kernel_rfl)
   (OpenSpec.preRow_of_cond 8 hx (by kernel_rfl) (fun k hk=>by cases hk;kernel_rfl) (by kernel_rfl) (tN os _))) ?_
 intro W base args ds gs before Z1 hW _ hk _ hL _ _;exact tO H enc W base args ds gs before Z1 hW (hk _ rfl) hL
theorem said:Rows.TopFiltersUptoSaid:=
 OpenClaim.holds_of_cond 3 Tryz.f3 rfl rfl rfl rfl rfl rfl rfl ⟨rfl,rfl,rfl,rfl,rfl⟩ rfl rfl rfl rfl rfl (by kernel_rfl) Tryz.func3 (by kernel_rfl)
  (of_decide_eq_true (by kernel_rfl)) (by unfold Func.isWrapper;first|(rw[if_pos (by decide+kernel)];kernel_rfl)|(rw[if_neg (by decide+kernel)];exact ⟨rfl,rfl⟩))
  (fun os started H enc _ F=>by rw[OpenClaim.pre_eq_preRow];exact lifted os started H enc F)
theorem plain (f:FuncId)(fn:Func)(hf:Tryz.pinned.checked.prog.funcNamed "foliant/folianttop.TopFilters"=some f)(WN:Tryz.pinned.checked.prog.funcs[f]?=some fn):
  true=Tryz.pinned.checked.prog.looks []/\∀(j:Nat) t,fn.params[j]?=some t->Tryz.pinned.checked.prog.wantsStandIn t=false:=by
 obtain rfl:f=3:=Option.some.inj ((show Tryz.prog.funcNamed "foliant/folianttop.TopFilters"=some 3 by kernel_rfl).symm.trans hf)|>.symm;obtain rfl:fn=Tryz.f3:=(Option.some.inj (Tryz.func3.symm.trans WN)).symm;refine ⟨by kernel_rfl,fun j t ht=>?_⟩;rw[Tryz.params3]at ht;have hm:t∈([25,22,27,9]:List TypeId):=by simpa using Array.mem_of_getElem? ht
 have BF:(([25,22,27,9]:List TypeId).all fun u=> !Tryz.prog.wantsStandIn u)=true:=by kernel_rfl
 exact (show Tryz.prog.wantsStandIn t=false by simpa using List.all_eq_true.1 BF t hm)
theorem proved:Rows.TopFiltersUptoCardSaid:=
 Claim7.holds_tied_plain_at .later [] _ _ _ _ said (fun _ h=>by cases h) (by kernel_rfl) (fun _ h=>by cases h) topFiltersUpto_row_tie rfl ⟨rfl,rfl⟩ (by kernel_rfl) rfl plain (by kernel_rfl)
#print axioms proved
end Go.Proofs.YtdmmgclkphaaaaaGreatDoor.topFiltersUpto

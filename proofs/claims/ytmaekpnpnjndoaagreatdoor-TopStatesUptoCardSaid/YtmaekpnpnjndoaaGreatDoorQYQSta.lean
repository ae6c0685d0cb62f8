/- TopStates: the law returns true for every input of bulk at most 1048576, and every argument reads as before, under the laid variables: the second form's card. No other condition. -/
import Derived.Test.YtmaekpnpnjndoaaGreatDoorCards
import Derived.Test.YtmaekpnpnjndoaaGreatDoorTie
import Derived.Test.YtmaekpnpnjndoaaGreatDoorQYQSta8
import Derived.Test.YtmaekpnpnjndoaaGreatDoorQYQSta2
import Derived.WalkKit
import Derived.ProofKit
import Derived.OpenShut
import Derived.ShutString
import Derived.ChangeOld
import Derived.Below
import Derived.Carry
import Derived.LaidMore
import Derived.Stop.Joined
import Derived.SevenTiedAt
import Derived.Deep.DeepHandedRow
import Derived.Deep.DeepWitnessRowRef
import Derived.Lay
set_option linter.unusedVariables false
set_option linter.unusedSimpArgs false
namespace Go.Proofs.YtmaekpnpnjndoaaGreatDoor.topStatesUpto
open Go.ChangeShapes Go.WideShapes Go.ChangeAt Go.RowKit
open Go.ChangeMaps (open_string shut_string)
open Sh
theorem own:ownKnob Tryz.prog.godebug=none:=by kernel_rfl
theorem laidOut:laidOutB Tryz.prog=true:=by kernel_rfl
set_option maxRecDepth 100000 in
theorem gl (os:Os)(args:Array Value):laidMetH Tryz.prog Rows.topStatesUptoRow.laid ((World.laidAll Tryz.prog os Rows.topStatesUptoRow.laid).forCall (fun _ _=>0) ⟨#[],args,[]⟩).memory:=by
 have e:(Rows.topStatesUptoRow.laid.filter fun x=>x.2.handleName?.isNone)=Rows.topStatesUptoRow.laid:=by kernel_rfl
 refine laidMetH_of_parts3 (fuel:=8) ?_ (by kernel_rfl) (by kernel_rfl);rw[e];exact laidMet_laidAll args (by kernel_rfl) (by kernel_rfl)
set_option maxRecDepth 100000 in
theorem ANj {H:Type}{enc:TypeId×Value->H}{W:World}{spare:Nat->Bool}{held:Bool}{v:Value}{d:DataW H}{ps:List MemPlace}{rr:Reach}{b0:Nat}
  (h0:Value.okWide Tryz.prog W rr b0 24 v) (h:DataW.Trod enc Tryz.prog W 0 spare held 24 v d ps):∃a:Int×Int×Int×Int×Int×Int,v= .agg #[.int .i64 (a.1),.int .i64 (a.2.1),.int .i64 (a.2.2.1),.int .i64 (a.2.2.2.1),.int .i64 (a.2.2.2.2.1),.int .i64 (a.2.2.2.2.2)]/\(Lit.int .i64 a.1).wf=true/\(Lit.int .i64 a.2.1).wf=true/\(Lit.int .i64 a.2.2.1).wf=true/\(Lit.int .i64 a.2.2.2.1).wf=true/\(Lit.int .i64 a.2.2.2.2.1).wf=true/\(Lit.int .i64 a.2.2.2.2.2).wf=true:=by
 obtain ⟨cs,rfl,hl,n,hn⟩:=KK (by rw[Tryz.underlying24];rfl) h0 h;rw[show Tryz.prog.cellsOf 24=6 by kernel_rfl]at hl;obtain ⟨c0,c1,c2,c3,c4,c5,rfl⟩:∃c0 c1 c2 c3 c4 c5,cs=[c0,c1,c2,c3,c4,c5]:=by
  match cs,hl with
  |[c0,c1,c2,c3,c4,c5],_=>exact ⟨c0,c1,c2,c3,c4,c5,rfl⟩
 obtain ⟨x0,rfl,f0⟩:=BR (k:=8) (i:=0) (u:=2) (by kernel_rfl) Tryz.underlying2 hn rfl;obtain ⟨x1,rfl,f1⟩:=BR (k:=8) (i:=1) (u:=2) (by kernel_rfl) Tryz.underlying2 hn rfl;obtain ⟨x2,rfl,f2⟩:=BR (k:=8) (i:=2) (u:=2) (by kernel_rfl) Tryz.underlying2 hn rfl;obtain ⟨x3,rfl,f3⟩:=BR (k:=8) (i:=3) (u:=2) (by kernel_rfl) Tryz.underlying2 hn rfl;obtain ⟨x4,rfl,f4⟩:=BR (k:=8) (i:=4) (u:=2) (by kernel_rfl) Tryz.underlying2 hn rfl;obtain ⟨x5,rfl,f5⟩:=BR (k:=8) (i:=5) (u:=2) (by kernel_rfl) Tryz.underlying2 hn rfl;exact ⟨(x0,x1,x2,x3,x4,x5),rfl,f0,f1,f2,f3,f4,f5⟩
set_option maxRecDepth 100000 in
theorem ANk {H:Type}{enc:TypeId×Value->H}{W:World}{spare:Nat->Bool}{held:Bool}{v:Value}{d:DataW H}{ps:List MemPlace}{rr:Reach}{b0:Nat}
  (h0:Value.okWide Tryz.prog W rr b0 24 v) (h:DataW.Trod enc Tryz.prog W 0 spare held 24 v d ps):∃a:Int×Int×Int×Int×Int×Int,v= .agg #[.int .i64 (a.1),.int .i64 (a.2.1),.int .i64 (a.2.2.1),.int .i64 (a.2.2.2.1),.int .i64 (a.2.2.2.2.1),.int .i64 (a.2.2.2.2.2)]/\(Lit.int .i64 a.1).wf=true/\(Lit.int .i64 a.2.1).wf=true/\(Lit.int .i64 a.2.2.1).wf=true/\(Lit.int .i64 a.2.2.2.1).wf=true/\(Lit.int .i64 a.2.2.2.2.1).wf=true/\(Lit.int .i64 a.2.2.2.2.2).wf=true:=by
 obtain ⟨cs,rfl,hl,n,hn⟩:=KK (by rw[Tryz.underlying24];rfl) h0 h;rw[show Tryz.prog.cellsOf 24=6 by kernel_rfl]at hl;obtain ⟨c0,c1,c2,c3,c4,c5,rfl⟩:∃c0 c1 c2 c3 c4 c5,cs=[c0,c1,c2,c3,c4,c5]:=by
  match cs,hl with
  |[c0,c1,c2,c3,c4,c5],_=>exact ⟨c0,c1,c2,c3,c4,c5,rfl⟩
 obtain ⟨x0,rfl,f0⟩:=BR (k:=8) (i:=0) (u:=2) (by kernel_rfl) Tryz.underlying2 hn rfl;obtain ⟨x1,rfl,f1⟩:=BR (k:=8) (i:=1) (u:=2) (by kernel_rfl) Tryz.underlying2 hn rfl;obtain ⟨x2,rfl,f2⟩:=BR (k:=8) (i:=2) (u:=2) (by kernel_rfl) Tryz.underlying2 hn rfl;obtain ⟨x3,rfl,f3⟩:=BR (k:=8) (i:=3) (u:=2) (by kernel_rfl) Tryz.underlying2 hn rfl;obtain ⟨x4,rfl,f4⟩:=BR (k:=8) (i:=4) (u:=2) (by kernel_rfl) Tryz.underlying2 hn rfl;obtain ⟨x5,rfl,f5⟩:=BR (k:=8) (i:=5) (u:=2) (by kernel_rfl) Tryz.underlying2 hn rfl;exact ⟨(x0,x1,x2,x3,x4,x5),rfl,f0,f1,f2,f3,f4,f5⟩
set_option maxRecDepth 100000 in
theorem gm (H:Type)(enc:TypeId×Value->H)(W:World)(base:Nat)(args:Array Value)(ds gs:List (DataW H))(before:List MemPlace)
  (pr:∀(j:Nat) t v,Tryz.f3.params[j]?=some t->args[j]?=some v->Value.okWide Tryz.prog W .any base t v)
  (hW:DataW.Whole enc Tryz.prog Tryz.f3.params.toList Rows.topStatesSpec.vars false W args.toList ds gs before) (hk:Rows.uptoSmall H (ds++gs)=true) (hL:laidMetH Tryz.prog Rows.topStatesUptoRow.laid W):
  Calls Tryz.prog 3 args W fun e W'=>∃v,e= .returned v/\Rows.topStatesSpec.post enc Tryz.prog Tryz.f3 false true false false W args v W':=by
 have Y8:∀(j:Nat) t v,Tryz.f3.params[j]?=some t->args[j]?=some v->Value.okWide Tryz.prog W .any base t v:=pr;have uz:=hW;obtain ⟨p,q,hA0,hV,rfl,hfz,Jb⟩:=hW;have hA:DataW.TrodAll enc Tryz.prog W 0 (fun _=>true) true Tryz.f3.params.toList args.toList ds p:=hA0;rw[Tryz.params3]at hA Y8;obtain ⟨v0,vs0,d0,ds0,p0,q0,ARQ,rfl,rfl,h0,r0⟩:=trodAll_cons hA;obtain ⟨v1,vs1,d1,ds1,p1,q1,rfl,rfl,rfl,h1,r1⟩:=trodAll_cons r0;obtain ⟨v2,vs2,d2,ds2,p2,q2,rfl,rfl,rfl,h2,r2⟩:=trodAll_cons r1;obtain ⟨rfl,rfl,rfl⟩:=trodAll_nil r2;obtain rfl:args=#[v0,v1,v2]:=by cases args;simp_all
 obtain ⟨rfl,rfl⟩:=trodVars_none hV;simp only[List.append_nil]at hk;have hk:Rows.uptoBulkAll [d0,d1,d2]<=1048576:=of_decide_eq_true hk;simp only[Rows.uptoBulkAll]at hk;have KE:Rows.uptoBulk d0<=1048576:=by omega
 have hb1:Rows.uptoBulk d1<=1048576:=by omega
 have LY:Rows.uptoBulk d2<=1048576:=by omega
 clear hk;have k0:=h0;have lt0:∀x∈p0,x.block<W.heap.size:=by obtain ⟨m,hm⟩:=k0;exact DataW.trod_lt m _ _ _ hm
 obtain ⟨s0,Q0,rfl,x0,y0,z0⟩:=Lw.ln (Y8 0 22 v0 rfl rfl) h0 KE;have k1:=h1;have lt1:∀x∈p1,x.block<W.heap.size:=by obtain ⟨m,hm⟩:=k1;exact DataW.trod_lt m _ _ _ hm
 obtain ⟨a1,rfl,w1⟩:=ANj (Y8 1 24 v1 rfl rfl) h1;have k2:=h2;have lt2:∀x∈p2,x.block<W.heap.size:=by obtain ⟨m,hm⟩:=k2;exact DataW.trod_lt m _ _ _ hm
 obtain ⟨a2,rfl,w2⟩:=ANk (Y8 2 24 v2 rfl rfl) h2;clear hA0 pr;refine Calls.mono (Lw.VC (l1:=s0) (Q:=Q0) (a:=a1) (c:=a2) x0 (Lw.Wq hL).2 (Lw.Wq hL).1 y0 z0 (fun _ _=>False)) fun e W' hh=>?_
 obtain ⟨r,he,hr,hx⟩:∃r:Bool,e= .returned (.bool r)/\r=true/\Ext (fun _=>False) W W':=by
  first
  |exact hh
  |exact hh.elim id fun ⟨_,_,hf⟩=>hf.elim
 subst hr;subst he;have bel:=hx.below;exact ⟨_,rfl,_,_,_,[],_,[],uz,trodAll_mk1 (shut_bool Tryz.underlying4 _),(trodAll_cons_mk (Below.trod laidOut (by kernel_rfl) (of_decide_eq_true (by kernel_rfl)) k0 bel lt0) (trodAll_cons_mk (Below.trod laidOut (by kernel_rfl) (of_decide_eq_true (by kernel_rfl)) k1 bel lt1) (trodAll_cons_mk (Below.trod laidOut (by kernel_rfl) (of_decide_eq_true (by kernel_rfl)) k2 bel lt2) trodAll_mk0))),rfl,bel.frame _,fun h=>by cases h⟩
theorem reads (os:Os){H:Type}(enc:TypeId×Value->H):∃places,DataW.whole enc Tryz.prog ((World.laidAll Tryz.prog os Rows.topStatesUptoRow.laid).forCall (fun _ _=>0) ⟨#[],#[.slice none 0 0,.agg #[.int .i64 0,.int .i64 0,.int .i64 0,.int .i64 0,.int .i64 0,.int .i64 0],.agg #[.int .i64 0,.int .i64 0,.int .i64 0,.int .i64 0,.int .i64 0,.int .i64 0]],[]⟩).memory Tryz.f3.params.toList Rows.topStatesSpec.vars false #[.slice none 0 0,.agg #[.int .i64 0,.int .i64 0,.int .i64 0,.int .i64 0,.int .i64 0,.int .i64 0],.agg #[.int .i64 0,.int .i64 0,.int .i64 0,.int .i64 0,.int .i64 0,.int .i64 0]].toList 8=some ([.nil,.agg [.lit (.int .i64 0),.lit (.int .i64 0),.lit (.int .i64 0),.lit (.int .i64 0),.lit (.int .i64 0),.lit (.int .i64 0)],.agg [.lit (.int .i64 0),.lit (.int .i64 0),.lit (.int .i64 0),.lit (.int .i64 0),.lit (.int .i64 0),.lit (.int .i64 0)]],[],places):=
 ⟨[],by kernel_rfl⟩
set_option maxRecDepth 100000 in
theorem lifted (os:Os)(started:os.Started)(H:Type)(enc:TypeId×Value->H)(F:Stop.Interp):
  ReturnsInHanded {} Tryz.checked os 3 .any ((Rows.OpenSpec.upto Rows.topStatesSpec).preRow enc Tryz.prog Tryz.f3 Rows.topStatesUptoRow.domain false Rows.topStatesUptoRow.laid) (((Rows.OpenSpec.upto Rows.topStatesSpec).at F).post enc Tryz.prog Tryz.f3 false true false false):=by
 obtain ⟨places,hx⟩:=reads os enc;refine returnsInHanded_of_row (C:=Tryz.checked) (s:=Rows.OpenSpec.upto Rows.topStatesSpec) own started (by kernel_rfl) Tryz.func3
  (witness_row_atRef (enc:=enc) (C:=Tryz.checked) false (World.laidAll Tryz.prog os Rows.topStatesUptoRow.laid) #[.slice none 0 0,.agg #[.int .i64 0,.int .i64 0,.int .i64 0,.int .i64 0,.int .i64 0,.int .i64 0],.agg #[.int .i64 0,.int .i64 0,.int .i64 0,.int .i64 0,.int .i64 0,.int .i64 0]] (World.laidAll_os _ _ _) (by kernel_rfl) (by kernel_rfl) (by kernel_rfl)
   (OpenSpec.preRow_of_cond 8 hx (by kernel_rfl) (fun k hk=>by cases hk;kernel_rfl) (by kernel_rfl) (gl os _))) ?_
 intro W base args ds gs before Y8 hW _ hk _ hL _ _;exact gm H enc W base args ds gs before Y8 hW (hk _ rfl) hL
theorem said:Rows.TopStatesUptoSaid:=
 OpenClaim.holds_of_cond 3 Tryz.f3 rfl rfl rfl rfl rfl rfl rfl ⟨rfl,rfl,rfl,rfl,rfl⟩ rfl rfl rfl rfl rfl (by kernel_rfl) Tryz.func3 (by kernel_rfl)
  (of_decide_eq_true (by kernel_rfl)) (by unfold Func.isWrapper;first|(rw[if_pos (by decide+kernel)];kernel_rfl)|(rw[if_neg (by decide+kernel)];exact ⟨rfl,rfl⟩))
  (fun os started H enc _ F=>by rw[OpenClaim.pre_eq_preRow];exact lifted os started H enc F)
theorem plain (f:FuncId)(fn:Func)(hf:Tryz.pinned.checked.prog.funcNamed "foliant/folianttop.TopStates"=some f)(Ze:Tryz.pinned.checked.prog.funcs[f]?=some fn):
  true=Tryz.pinned.checked.prog.looks []/\∀(j:Nat) t,fn.params[j]?=some t->Tryz.pinned.checked.prog.wantsStandIn t=false:=by
 obtain rfl:f=3:=Option.some.inj ((show Tryz.prog.funcNamed "foliant/folianttop.TopStates"=some 3 by kernel_rfl).symm.trans hf)|>.symm;obtain rfl:fn=Tryz.f3:=(Option.some.inj (Tryz.func3.symm.trans Ze)).symm;refine ⟨by kernel_rfl,fun j t ht=>?_⟩;rw[Tryz.params3]at ht;have hm:t∈([22,24,24]:List TypeId):=by simpa using Array.mem_of_getElem? ht
 have Az:(([22,24,24]:List TypeId).all fun u=> !Tryz.prog.wantsStandIn u)=true:=by kernel_rfl
 exact (show Tryz.prog.wantsStandIn t=false by simpa using List.all_eq_true.1 Az t hm)
theorem proved:Rows.TopStatesUptoCardSaid:=
 Claim7.holds_tied_plain_at .later [] _ _ _ _ said (fun _ h=>by cases h) (by kernel_rfl) (fun _ h=>by cases h) topStatesUpto_row_tie rfl ⟨rfl,rfl⟩ (by kernel_rfl) rfl plain (by kernel_rfl)
#print axioms proved
end Go.Proofs.YtmaekpnpnjndoaaGreatDoor.topStatesUpto

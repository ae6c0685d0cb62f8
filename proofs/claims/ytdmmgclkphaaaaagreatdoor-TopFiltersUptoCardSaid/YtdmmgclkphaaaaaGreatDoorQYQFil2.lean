/- Joined texts of the proof; conditions stand in each theorem. -/
import Derived.Test.YtdmmgclkphaaaaaGreatDoorQYQFil1
import Derived.Test.YtdmmgclkphaaaaaGreatDoorChecked
import Derived.RangeFuncNested
import Derived.RangeFuncBound
import Derived.RangeFuncCalls
import Derived.RangeFuncLeaves
import Derived.RangeFuncBox
import Derived.WalkKit
import Derived.OwnWalkIn
import Derived.TacticsInMore
import Derived.LoopNIn
import Derived.OrdersIn
import Derived.LoopIn
import Derived.Sort.LoopGhostIn
set_option linter.unusedVariables false
set_option linter.unusedSimpArgs false
open Go.IntKind (wrap)
open Go.Proofs.Tryz (prog)
namespace Go.Proofs.YtdmmgclkphaaaaaGreatDoor
namespace Sh
section
variable {P:Program} {N:Nat} {ok may:Nat->Bool}
theorem JK (hF:Av P ok){g:Nat}(hg:Q5 P ok g=true)(args:Array Value)(w:World):(callFunc g args).run P w= .ok (.enter g args) w:=by
 unfold Q5 at hg;split at hg
 ·rename_i fn BA WN;obtain ⟨hb,hn⟩:=hF g fn BA WN;have IZ:fn.body.isNone=false:=by cases hx:fn.body<;>simp_all
  have hn':(fn.name== "runtime.NumGoroutine")=false:=by simpa using hn
  simp only[callFunc,Sem.run_bind,run_program,Result.andThen_ok,WN,hn',IZ,bD,dz,Sem.run_pure]
 ·cases hg
theorem Q7 {F:Fx}(hF:Av P F.ok){ops:Array Oper}{Q:Exit->Act->World->Prop}{m:List Oper}:∀(l:List Oper) (E:Env) (w:World) (K:Env->World->Prop) (a:Act),
  JH P F false ops l E w K->Fits N E a->D4 N l->(∀E' a' w',K E' w'->Fits N E' a'->frame l a a'->wpList P ops Q m a' w')->
  (∀v a' w',F.pk v w'->Fits N [] a'->frame l a a'->Q (.panic (Aj v)) a' w')->wpList P ops Q (l++m) a w
 |[],E,w,K,a,h,hf,_,hQ,_=>hQ E a w h hf (frame.refl _ _)
 |o::r,E,w,K,a,h,hf,hd,hQ,hP=>by
  have Rc:D4 N r:=fun p hp=>hd p (aC _ hp)
  have ho:=hd o aT;rw[ar];unfold wpList;rcases DC h hf with ⟨hw,E',Cr,hy⟩|⟨hw,E',Cr,hn⟩
  ·rw[ak hw];refine .inl ?_;split at hy
   ·rename_i hb;simp only[ay]at hb;unfold Oper.wp;rw[BH Cr hb.1];refine Fo (FK hF hy) (fun v w' hk=>?_) fun v w' hp=>hP v a w' hp hf.some (frame.refl _ _)
    exact Q7 hF r _ w' K _ hk (Cr.put ho) Rc (fun MJ a' B7 h1 h2 h3=>hQ _ _ _ h1 h2 (AU h3)) fun v a' B7 h1 h2 h3=>hP v a' B7 h1 h2 (AU h3)
   ·exact hy.elim
  ·rw[ah (by rw[hw];simp)];exact Q7 hF r _ w K _ hn (Cr.put ho) Rc (fun MJ a' B7 h1 h2 h3=>hQ _ _ _ h1 h2 (AU h3)) fun v a' B7 h1 h2 h3=>hP v a' B7 h1 h2 (AU h3)
theorem an {E:Env}{a:Act}(hf:Fits N E a){c:Call}{f:Operand}{g:Nat}{first captured:Array Value}{t:TypeId}(hc:U5 c.callee=some f)(hv:te (E.A3 f)=some (g,first,captured))
  (hh:(E.has f&&c.args.toList.all E.has)=true):(resolve a.eval c t:Sem Deferred)=pure {target:= .fn (.func g) captured,args:=first++c.args.map E.A3}:=by
 simp only[ay]at hh;have h1:a.eval f= .func (.func g) first captured:=by
  rw[hf.A3 hh.1];unfold te at hv;split at hv
  ·rename_i g' fi ca e;cases hv;exact e
  ·cases hv
 have h2:c.args.map a.eval=c.args.map E.A3:=by
  apply Array.ext';rw[dB,dB];refine List.map_congr_left fun x hx=>hf.A3 (bx.1 hh.2 x hx)
 have h3:c.callee= .value f:=by
  unfold U5 at hc;split at hc
  ·rename_i f' e;cases hc;exact e
  ·cases hc
 unfold resolve;simp only[h3,h1,h2,Deferred.ofValue]
theorem kn {AB:List Nat}{c:Code}{b:Bool}(h:(EK AB c&&b)=true):EK AB c=true/\b=true:=by simpa[ay]using h
def RR {tys:List Ty}(R:Sg tys->World->Prop)(PR:Value->World->Prop)(e:Ending)(w':World):Prop:=
 (∃s:Sg tys,e= .returned (De.GP (Sg.GQ tys s))/\R s w')\/∃v,e= .panicked (Aj v)/\PR v w'
theorem zS (hF:Av P ok)(hm:P.follows .mixedOrders=true){PR:Value->World->Prop}{fn:Func}{tys:List Ty}{R:Sg tys->World->Prop}:∀(c:Code) (pl:Hw) (E:Env) (w:World) (a:Act),
  AFz P ok may PR fn tys R pl c E w->Fits fn.ntmps E a->a.defers=[]->As fn.ntmps c=true->c.wp P (bodyPostD P fn (RR R PR)) a w:=by
 intro c
 induction c with
 |seq c d tw tx=>
  clear tw;intro pl E w a h hf Og hs;simp only[As,ay]at hs;cases pl with
  |pre p r=>
   refine wp_seq (wp_mono (Ih (F:=⟨ok,may,PR⟩) hF hm c p E w _ a h hf hs.1) fun e a' w' hq=>?_);rcases hq with ⟨E',h1,h2,h3⟩|⟨v,rfl,h1,h2,h3⟩
   ·have Oh:a'.defers=[]:=by rw[h3.2];exact Og
    cases e<;>try exact h1.elim
    ·exact tx r E' w' a' h1 h2 Oh hs.2
    ·show Leaves P fn a'.tmps _ a'.defers .returning w';rw[Oh];obtain ⟨v,g1,g2⟩:=HY h2 h1;exact ⟨v,g1,.inl g2⟩
   ·have Oh:a'.defers=[]:=by rw[h3.2];exact Og
    show Leaves P fn a'.tmps _ a'.defers (.panicking (Aj v)) w';rw[Oh];exact .inr ⟨v,rfl,h1⟩
  |here AB p=>
   cases c<;>try exact (show False from h).elim
   rename_i id ops dr;cases dr with
   |true=>exact (show False from h).elim
   |false=>
   have hd:=GK hs.1
   replace h:JH P ⟨ok,may,PR⟩ false ops ops.toList.dropLast E w fun E w=>match ops.toList.getLast? with
    |some o=>tj E o fun g args=>match EK AB d&&Q5 P ok g with
     |true=>Cx P ⟨ok,may,fun v w=>Gw P g args (some v) w fun w'=>NC P fn tys R (Env.AB E AB) w'⟩ p d E w fun e E w=>match e with
      | .normal=>Gw P g args none w fun w'=>NC P fn tys R E w'
      | .ret=>Gw P g args none w fun w'=>NC P fn tys R E w'
      |_=>False
     |false=>False
    |none=>False:=h
   refine wp_seq (wp_region_list ?_);have nA:∀o∈ops.toList.dropLast,o∈ops.toList:=fun o ho=>(List.dropLast_sublist _).subset ho
   cases hl:ops.toList.getLast? with
   |none=>
    rw[hl]at h;have Iv:ops.toList=[]:=List.getLast?_eq_none_iff.1 hl;rw[Iv]at h;exact (show False from h).elim
   |some o=>
   rw[hl]at h;have mC:ops.toList=ops.toList.dropLast++[o]:=by
    have A2:ops.toList≠[]:=fun e=>by rw[e]at hl;cases hl
    have h1:=List.dropLast_concat_getLast A2;rw[List.getLast?_eq_some_getLast A2]at hl;cases hl;exact h1.symm
   rw[mC];have hom:o∈ops.toList:=by rw[mC];simp
   refine Q7 (N:=fn.ntmps) (F:=⟨ok,may,PR⟩) hF _ _ _ _ _ h hf (fun x hx=>hd x (nA x hx)) (fun E' a' w' h1 h2 h3=>?_) fun v a' w' h1 h2 h3=>?_
   ·dsimp only at h1;unfold tj at h1;split at h1
    ·rename_i cc hdc hgd Xl;split at h1
     ·rename_i f hcf;split at h1
      ·rename_i g first captured hfv hh
       split at h1
       ·rename_i RZ;obtain ⟨hk,hg⟩:=kn RZ;have Ym:o.op= .defer cc:=by
         unfold td at hdc;split at hdc
         ·rename_i c' e;cases hdc;exact e
         ·cases hdc
        unfold wpList;rw[ak (by simp[Region.wanted,hgd])];refine .inl ?_;have Ag:(execOp a'.eval o).run P w'= .ok (.defer {target:= .fn (.func g) captured,args:=first++cc.args.map E'.A3}) w':=by
         unfold execOp;simp only[Ym,an h2 hcf hfv hh,pure_bind,Sem.run_pure]
        unfold Oper.wp;rw[Ag,Oper.upon_defer];have Oh:a'.defers=[]:=by rw[h3.2];exact Og
        rw[Xl];have hf3:Fits fn.ntmps E' ({a' with defers:={target:= .fn (.func g) captured,args:=first++cc.args.map E'.A3}::a'.defers}.put none undef):=⟨h2.size,h2.get⟩
        unfold wpList;refine wp_mono (Ih (F:=⟨ok,may,fun v w=>Gw P g _ (some v) w fun w'=>NC P fn tys R (Env.AB E' AB) w'⟩) hF hm d p _ w' _ _ h1 hf3 hs.2) fun e MK B7 hq=>?_
        have hinv:(invoke (.fn (.func g) captured) (first++cc.args.map E'.A3)).run P B7= .ok (.enter g ((first++cc.args.map E'.A3)++captured)) B7:=JK hF hg _ _;rcases hq with ⟨MJ,g1,g2,g3⟩|⟨v,rfl,g1,g2,g3⟩
        ·have hds:MK.defers=[{target:= .fn (.func g) captured,args:=first++cc.args.map E'.A3}]:=by rw[g3.2,put_defers];simp only[Oh]
         have key:(Gw P g ((first++cc.args.map E'.A3)++captured) none B7 fun w'=>NC P fn tys R MJ w')->Leaves P fn MK.tmps (RR R PR) MK.defers .returning B7:=fun h=>by
          rw[hds];refine leaves_cons (by simp) hinv (CallsD.mono h fun e u' w3 hr=>?_);obtain ⟨rfl,rfl,hr⟩:=hr;obtain ⟨v,k1,k2⟩:=HY g2 hr;exact ⟨v,k1,.inl k2⟩
         cases e<;>try exact g1.elim
         ·exact key g1
         ·exact key g1
        ·have hds:MK.defers=[{target:= .fn (.func g) captured,args:=first++cc.args.map E'.A3}]:=by rw[g3.2,put_defers];simp only[Oh]
         show Leaves P fn MK.tmps (RR R PR) MK.defers (.panicking (Aj v)) B7;rw[hds];refine leaves_cons (by simp) hinv (CallsD.mono g1 fun e u' w3 hr=>?_);obtain ⟨rfl,rfl,hr⟩:=hr;have Du:Fits fn.ntmps (Env.AB E' AB) MK:=by
          refine Q8.fits (DP h2 AB fun t ht=>?_) g2.size;rw[g3.1 t (HJ hk t ht)]
          rfl
         obtain ⟨v,k1,k2⟩:=HY Du hr;exact ⟨v,k1,.inl k2⟩
       ·exact h1.elim
      ·exact h1.elim
     ·exact h1.elim
    ·exact h1.elim
   ·have Oh:a'.defers=[]:=by rw[h3.2];exact Og
    show Leaves P fn a'.tmps _ a'.defers (.panicking (Aj v)) w';rw[Oh];exact .inr ⟨v,rfl,h1⟩
 |_=>
  intro pl E w a h hf Og hs;cases pl<;>exact (show False from h).elim
theorem eE {PR:Value->World->Prop}(hF:Av P ok)(hm:P.follows .mixedOrders=true){f:FuncId}{fn:Func}{pl:Hw}{args:List Value}{w:World}{tys:List Ty}{R:Sg tys->World->Prop}
  (hf:P.funcs[f]?=some fn) (hN:(match fn.body with
   |some c=>As fn.ntmps c
   |none=>false)=true) (ha:Nat.ble args.length fn.ntmps=true)
  (h:UP P ok may PR pl fn args w tys R):Calls P f args.toArray w fun e w'=>(∃s:Sg tys,e= .returned (De.GP (Sg.GQ tys s))/\R s w')\/∃v,e= .panicked (Aj v)/\PR v w':=by
 unfold UP at h;split at h
 ·exact h.elim
 ·rename_i c hc;rw[hc]at hN;exact calls_of_wp_defers hf hc (zS hF hm c pl _ w _ h (VX (bG ha)) rfl hN)
theorem FU (hF:Av P ok)(hm:P.follows .mixedOrders=true){f:FuncId}{fn:Func}{pl:Hw}{args:List Value}{w:World}{tys:List Ty}{R:Sg tys->World->Prop}
  (hf:P.funcs[f]?=some fn) (hN:(match fn.body with
   |some c=>As fn.ntmps c
   |none=>false)=true) (ha:Nat.ble args.length fn.ntmps=true)
  (h:UP P ok may (fun _ _=>False) pl fn args w tys R):Calls P f args.toArray w fun e w'=>∃s:Sg tys,e= .returned (De.GP (Sg.GQ tys s))/\R s w':=
 (eE hF hm hf hN ha h).mono fun e w' he=>he.elim id fun ⟨_,_,h⟩=>h.elim
theorem Xm {o:Oper}{a:Act}{next:Act->World->Prop}{Q:Exit->Act->World->Prop}{K:Value->World->Prop}{r:Result Next}(h:Qw P (fun _ _=>False) K r)
  (hk:∀v w',K v w'->next (a.put o.dst v) w'):o.upon P a next Q r:=Fo h hk fun _ _ h=>h.elim
theorem eF (hF:Av P ok){ops:Array Oper}{Q:Exit->Act->List Frame->World->Prop}{cs:List Frame}:∀(l:List Oper) (k:Nat) (E:Env) (w:World) (K:Env->World->Prop) (a:Act),
  (∀j,l[j]?=ops[k+j]?)->JH P ⟨ok,may,fun _ _=>False⟩ false ops l E w K->Fits N E a->D4 N l->(∀E' a' w',K E' w'->Fits N E' a'->frame l a a'->Q .normal a' cs w')->
  wpOpsS P ops Q (List.range' k l.length) a cs w
 |[],k,E,w,K,a,_,h,hf,_,hQ=>hQ E a w h hf (frame.refl _ _)
 |o::r,k,E,w,K,a,hl,h,hf,hd,hQ=>by
  have Rc:D4 N r:=fun p hp=>hd p (aC _ hp)
  have ho:=hd o aT;have h0:ops[k]?=some o:=by simpa using (hl 0).symm
  have hl':∀j,r[j]?=ops[k+1+j]?:=fun j=>by have:=hl (j+1);simpa[cC,Nat.add_comm 1 j]using this
  simp only[aA,List.range'_succ,wpOpsS,h0];rcases DC h hf with ⟨hw,E',Cr,hy⟩|⟨hw,E',Cr,hn⟩
  ·rw[ak hw];split at hy
   ·rename_i hb;simp only[ay]at hb;rw[BH Cr hb.1];have tz:=FK (F:=⟨ok,may,fun _ _=>False⟩) hF hy;have hup:=fun (Q':Exit->Act->World->Prop)=>Xm (o:=o) (a:=a) (Q:=Q') (next:=fun a' w'=>wpOpsS P ops Q (List.range' (k+1) r.length) a' cs w') tz fun v w' hk=>
     eF hF r (k+1) _ w' K _ hl' hk (Cr.put ho) Rc fun MJ a' B7 h1 h2 h3=>hQ _ _ _ h1 h2 (AU h3)
    split
    ·rename_i w' hr;rw[hr]at tz;exact tz.elim
    ·exact hup _
   ·exact hy.elim
  ·rw[ah (by rw[hw];simp)];exact eF hF r (k+1) _ w K _ hl' hn (Cr.put ho) Rc fun MJ a' B7 h1 h2 h3=>hQ _ _ _ h1 h2 (AU h3)
theorem eH {o:Oper}(h:ND o.op=true)(ρ:Operand->Value)(w:World):(execOp ρ o).run P w= .ok .recover w:=by
 obtain ⟨dst,op,type,pos,after,guard⟩:=o;simp only at h;unfold ND at h;split at h
 ·rename_i c;split at h
  ·rename_i hc;simp only[execOp,resolve,hc,pure_bind,invoke]
   rfl
  ·cases h
 ·cases h
theorem FT (hF:Av P ok)(hm:P.follows .mixedOrders=true){f:FuncId}{fn:Func}{pl:A7}{args:List Value}{u:Option Value}{w:World}{R:World->Prop}
  (hf:P.funcs[f]?=some fn) (hN:(match fn.body with
   |some c=>As fn.ntmps c
   |none=>false)=true) (ha:Nat.ble args.length fn.ntmps=true)
  (h:WQ P ok may pl fn args u w R):Gw P f args.toArray u w R:=by
 unfold WQ at h;split at h
 case h_2=>exact h.elim
 rename_i id ops d hc;rw[hc]at hN;simp only[As,ay]at hN;split at h
 case h_2=>exact h.elim
 rename_i o r zT;split at h
 case h_2=>exact h.elim
 rename_i AYB hgd AW;have hd:D4 fn.ntmps (o::r):=by rw[<-zT];exact GK (id:=id) (d:=false) hN.1
 refine callsD_of_wpS hf hc fun c₀ cs hu=>?_
 have Du:=VX (n:=fn.ntmps) (args:=args) (bG ha);refine wpS_seq (wpS_region ?_);have A1:ops.size=r.length+1:=by rw[<-aK,zT];rfl
 have h0:ops[0]?=some o:=by rw[<-dG,zT];rfl
 have hl:∀j,r[j]?=ops[0+1+j]?:=fun j=>by rw[<-dG,zT,show 0+1+j=j+1 by omega];rfl
 rw[A1,List.range_eq_range',List.range'_succ];simp only[wpOpsS,h0];rw[ak (by simp[Region.wanted,hgd]),eH AYB];dsimp only;have zK:∀v:Value,Fits fn.ntmps ((Xh 0 args).put o.dst v) ({tmps:=args.toArray++Array.replicate (fn.ntmps-args.toArray.size) undef,defers:=[]:Act}.put o.dst v):=fun v=>Du.put (hd o aT)
 have key:∀(CU:List Frame) (u':FrameMode),CU={c₀ with mode:=u'}::cs->u'=Jk u->
   wpOpsS P ops (Exit.thenS (d.wpS P (bodyPostS P fn c₀ cs fun e u' w'=>e= .returned (.tuple #[])/\u'=Jk u/\R w')) (bodyPostS P fn c₀ cs fun e u' w'=>e= .returned (.tuple #[])/\u'=Jk u/\R w')) (List.range' (0+1) r.length) ({tmps:=args.toArray++Array.replicate (fn.ntmps-args.toArray.size) undef,defers:=[]:Act}.put o.dst (AMn u)) CU w:=fun CU u' Oj hu'=>by
  refine eF (N:=fn.ntmps) (may:=may) hF r _ _ _ _ _ hl h (zK _) (fun x hx=>hd x (aC _ hx)) fun E' a' w' h1 h2 h3=>?_
  have Og:a'.defers=[]:=by rw[h3.2,put_defers]
  refine wpS_of_wp (wp_mono (Ih (F:=⟨ok,may,fun _ _=>False⟩) hF hm d pl E' w' _ a' h1 h2 hN.2) fun e MK B7 hq=>?_);rcases hq with ⟨MJ,g1,g2,g3⟩|⟨v,rfl,g1,_⟩
  ·have Oh:MK.defers=[]:=by rw[g3.2];exact Og
   have hr:(results fn MK.tmps).run P B7= .ok (.tuple #[]) B7:=by
    obtain ⟨v,k1,s,k2,_⟩:=HY (tys:=[]) (R:=fun _ _=>True) g2 (by unfold NC;rw[AW];exact True.intro);cases k2;exact k1
   cases e<;>try exact g1.elim
   ·exact ⟨Oh,u',Oj,_,hr,rfl,hu',g1⟩
   ·exact ⟨Oh,u',Oj,_,hr,rfl,hu',g1⟩
  ·exact g1.elim
 cases u with
 |none=>
  have hrc:recoverD (c₀::cs)=none:=by simp only[recoverD,hu,Z4]
  rw[hrc];refine key _ .returning ?_ rfl;have:c₀.mode= .returning:=hu;rw[<-this]
 |some v=>
  have hrc:recoverD (c₀::cs)=some (v,{c₀ with mode:= .panicking [{v,recovered:=true}]}::cs):=by simp only[recoverD,hu,Z4,Aj]
  rw[hrc];exact key _ _ rfl rfl
end
end Sh
section
open Sh
def FF (g:Nat):Bool:=Nat.ble 3 g&&Nat.ble g 245&& !Nat.beq g 97&& !Nat.beq g 99&& !Nat.beq g 122&& !Nat.beq g 123&& !Nat.beq g 143&& !Nat.beq g 221&& !Nat.beq g 222&& !Nat.beq g 223&& !Nat.beq g 224&& !Nat.beq g 225&& !Nat.beq g 226&& !Nat.beq g 227&& !Nat.beq g 228&& !Nat.beq g 229&& !Nat.beq g 230&& !Nat.beq g 231&& !Nat.beq g 232&& !Nat.beq g 233&& !Nat.beq g 234&& !Nat.beq g 235&& !Nat.beq g 236&& !Nat.beq g 237&& !Nat.beq g 238&& !Nat.beq g 239&& !Nat.beq g 240&& !Nat.beq g 241&& !Nat.beq g 242&& !Nat.beq g 243&& !Nat.beq g 244
def Ig (g:Nat):Bool:=Nat.beq g 3||Nat.beq g 4||Nat.beq g 5||Nat.beq g 6||Nat.beq g 8||Nat.beq g 10||Nat.beq g 11||Nat.beq g 12||Nat.beq g 14||Nat.beq g 17||Nat.beq g 18||Nat.beq g 20||Nat.beq g 21||Nat.beq g 23||Nat.beq g 25||Nat.beq g 27||Nat.beq g 28||Nat.beq g 29||Nat.beq g 32||Nat.beq g 37||Nat.beq g 44||Nat.beq g 51||Nat.beq g 55||Nat.beq g 69||Nat.beq g 74||Nat.beq g 77||Nat.beq g 78||Nat.beq g 79||Nat.beq g 82||Nat.beq g 83||Nat.beq g 84||Nat.beq g 87||Nat.beq g 88||Nat.beq g 90||Nat.beq g 107||Nat.beq g 113||Nat.beq g 132||Nat.beq g 133||Nat.beq g 137||Nat.beq g 139||Nat.beq g 153||Nat.beq g 157||Nat.beq g 164||Nat.beq g 165||Nat.beq g 166||Nat.beq g 167||Nat.beq g 172||Nat.beq g 179||Nat.beq g 183||Nat.beq g 186||Nat.beq g 187||Nat.beq g 189||Nat.beq g 190||Nat.beq g 191||Nat.beq g 196||Nat.beq g 200||Nat.beq g 202||Nat.beq g 212
theorem AJb:((List.range 246).all fun g=> !FF g||(match prog.funcs[g]? with
 |some fn=>fn.body.isSome&& !(fn.name== "runtime.NumGoroutine")
 |none=>true))=true:=by kernel_rfl
theorem okF:Av prog FF:=by
 intro g fn hg WN;have Am:g<246:=by
  simp only[FF,ay]at hg;have:=bG hg.1.1.1.1.1.1.1.1.1.1.1.1.1.1.1.1.1.1.1.1.1.1.1.1.1.1.1.1.1.2;omega
 have h:=bx.1 AJb g (dF.2 Am);simp only[hg,Bool.not_true,dS,WN,ay]at h;exact ⟨h.1,by simpa using h.2⟩
theorem Ra:prog.follows .mixedOrders=true:=by kernel_rfl
abbrev Q0:Type:=World->Prop
abbrev Q1 (α:Type):Type:=α->World->Prop
abbrev Q2 (α β:Type):Type:=α->β->World->Prop
abbrev Q3 (α β γ:Type):Type:=α->β->γ->World->Prop
abbrev Q4 (α β γ δ:Type):Type:=α->β->γ->δ->World->Prop
abbrev vi:Int->Value:=fun x=> .int .i64 x
abbrev vR (r:Value):Value:=r
abbrev vA (L:List FR)(r:Al L):Value:= .agg (Al.cells L r).toArray
abbrev ti:FR:= .int .i64
abbrev oi:Ty:= .one (.int .i64)
abbrev os:Ty:= .one .str
abbrev ob:Ty:= .one .bool
abbrev ol:Ty:= .one .Fu
abbrev op:Ty:= .one .ptr
section
variable {α β γ δ:Type} {a:α->Value} {b:β->Value} {c:γ->Value} {d:δ->Value} {f:Nat} {l:Array Value} {w:World}
abbrev K0 (f:Nat)(l:Array Value)(w:World)(R:World->Prop):Prop:=Calls prog f l w fun e w'=>e= .returned (.tuple #[])/\R w'
abbrev K1 (a:α->Value)(f:Nat)(l:Array Value)(w:World)(R:α->World->Prop):Prop:=Calls prog f l w fun e w'=>∃r0:α,e= .returned (a r0)/\R r0 w'
abbrev K2 (a:α->Value)(b:β->Value)(f:Nat)(l:Array Value)(w:World)(R:α->β->World->Prop):Prop:=Calls prog f l w fun e w'=>∃r0:α,∃r1:β,e= .returned (.tuple #[a r0,b r1])/\R r0 r1 w'
abbrev K3 (a:α->Value)(b:β->Value)(c:γ->Value)(f:Nat)(l:Array Value)(w:World)(R:α->β->γ->World->Prop):Prop:=Calls prog f l w fun e w'=>∃r0:α,∃r1:β,∃r2:γ,e= .returned (.tuple #[a r0,b r1,c r2])/\R r0 r1 r2 w'
abbrev K4 (a:α->Value)(b:β->Value)(c:γ->Value)(d:δ->Value)(f:Nat)(l:Array Value)(w:World)(R:α->β->γ->δ->World->Prop):Prop:=Calls prog f l w fun e w'=>∃r0:α,∃r1:β,∃r2:γ,∃r3:δ,e= .returned (.tuple #[a r0,b r1,c r2,d r3])/\R r0 r1 r2 r3 w'
abbrev P0 (f:Nat)(l:Array Value)(w:World)(R:World->Prop)(PR:Value->World->Prop):Prop:=Calls prog f l w fun e w'=>(e= .returned (.tuple #[])/\R w')\/∃v,e= .panicked (Aj v)/\PR v w'
abbrev P1 (a:α->Value)(f:Nat)(l:Array Value)(w:World)(R:α->World->Prop)(PR:Value->World->Prop):Prop:=Calls prog f l w fun e w'=>(∃r0:α,e= .returned (a r0)/\R r0 w')\/∃v,e= .panicked (Aj v)/\PR v w'
abbrev P2 (a:α->Value)(b:β->Value)(f:Nat)(l:Array Value)(w:World)(R:α->β->World->Prop)(PR:Value->World->Prop):Prop:=Calls prog f l w fun e w'=>(∃r0:α,∃r1:β,e= .returned (.tuple #[a r0,b r1])/\R r0 r1 w')\/∃v,e= .panicked (Aj v)/\PR v w'
variable {PR PR':Value->World->Prop}
theorem K0.mono{R R':World->Prop}(h:K0 f l w R)(hr:∀w',R w'->R' w'):K0 f l w R':=Calls.mono h fun _ _ ⟨he,hR⟩=>⟨he,hr _ hR⟩
theorem K1.mono{R R':α->World->Prop}(h:K1 a f l w R)(hr:∀r0 w',R r0 w'->R' r0 w'):K1 a f l w R':=Calls.mono h fun _ _ ⟨r0,he,hR⟩=>⟨r0,he,hr _ _ hR⟩
theorem K2.mono{R R':α->β->World->Prop}(h:K2 a b f l w R)(hr:∀r0 r1 w',R r0 r1 w'->R' r0 r1 w'):K2 a b f l w R':=Calls.mono h fun _ _ ⟨r0,r1,he,hR⟩=>⟨r0,r1,he,hr _ _ _ hR⟩
theorem K3.mono{R R':α->β->γ->World->Prop}(h:K3 a b c f l w R)(hr:∀r0 r1 r2 w',R r0 r1 r2 w'->R' r0 r1 r2 w'):K3 a b c f l w R':=Calls.mono h fun _ _ ⟨r0,r1,r2,he,hR⟩=>⟨r0,r1,r2,he,hr _ _ _ _ hR⟩
theorem K4.mono{R R':α->β->γ->δ->World->Prop}(h:K4 a b c d f l w R)(hr:∀r0 r1 r2 r3 w',R r0 r1 r2 r3 w'->R' r0 r1 r2 r3 w'):K4 a b c d f l w R':=Calls.mono h fun _ _ ⟨r0,r1,r2,r3,he,hR⟩=>⟨r0,r1,r2,r3,he,hr _ _ _ _ _ hR⟩
theorem P0.mono{R R':World->Prop}(h:P0 f l w R PR)(hr:∀w',R w'->R' w')(hp:∀v w',PR v w'->PR' v w'):P0 f l w R' PR':=Calls.mono h fun _ _ he=>he.elim (fun ⟨he,hR⟩=> .inl ⟨he,hr _ hR⟩) fun ⟨v,he,hP⟩=> .inr ⟨v,he,hp _ _ hP⟩
theorem P1.mono{R R':α->World->Prop}(h:P1 a f l w R PR)(hr:∀r0 w',R r0 w'->R' r0 w')(hp:∀v w',PR v w'->PR' v w'):P1 a f l w R' PR':=Calls.mono h fun _ _ he=>he.elim (fun ⟨r0,he,hR⟩=> .inl ⟨r0,he,hr _ _ hR⟩) fun ⟨v,he,hP⟩=> .inr ⟨v,he,hp _ _ hP⟩
theorem P2.mono{R R':α->β->World->Prop}(h:P2 a b f l w R PR)(hr:∀r0 r1 w',R r0 r1 w'->R' r0 r1 w')(hp:∀v w',PR v w'->PR' v w'):P2 a b f l w R' PR':=Calls.mono h fun _ _ he=>he.elim (fun ⟨r0,r1,he,hR⟩=> .inl ⟨r0,r1,he,hr _ _ _ hR⟩) fun ⟨v,he,hP⟩=> .inr ⟨v,he,hp _ _ hP⟩
def sd (fn:Func)(args:List Value):Bool:=(match fn.body with
 |some c=>As fn.ntmps c
 |none=>false)&&Nat.ble args.length fn.ntmps
theorem YI {fn:Func}{args:List Value}(h:sd fn args=true):(match fn.body with
 |some c=>As fn.ntmps c
 |none=>false)=true/\Nat.ble args.length fn.ntmps=true:=by
 unfold sd at h;rw[ay]at h;exact h
theorem pe {α β:Type}{a a':α}{b b':β}(h:(a,b)=(a',b')):a=a'/\b=b':=by
 cases h;exact ⟨rfl,rfl⟩
variable {fn:Func} {S:Prop}
theorem ZC (pl:A7)(args:List Value){R:World->Prop}(hf:prog.funcs[f]?=some fn)(e:(lR prog ⟨FF,Ig,fun _ _=>False⟩ pl fn args w [] (fun _ w=>R w),sd fn args)=(S,true):=by kernel_rfl)(h:S):K0 f args.toArray w R:=
 (Gk okF Ra hf (YI (pe e).2).1 (YI (pe e).2).2 ((pe e).1.mpr h)).mono fun _ _ ⟨_,he,hR⟩=>⟨he,hR⟩
theorem B5 (t:Ty)(pl:A7)(args:List Value){R:t.T->World->Prop}(hf:prog.funcs[f]?=some fn)(e:(lR prog ⟨FF,Ig,fun _ _=>False⟩ pl fn args w [t] (fun s w=>R s w),sd fn args)=(S,true):=by kernel_rfl)(h:S):K1 t.v f args.toArray w R:=
 (Gk okF Ra hf (YI (pe e).2).1 (YI (pe e).2).2 ((pe e).1.mpr h)).mono fun _ _ ⟨s,he,hR⟩=>⟨s,he,hR⟩
theorem Nb (t u:Ty)(pl:A7)(args:List Value){R:t.T->u.T->World->Prop}(hf:prog.funcs[f]?=some fn)(e:(lR prog ⟨FF,Ig,fun _ _=>False⟩ pl fn args w [t,u] (fun s w=>R s.1 s.2 w),sd fn args)=(S,true):=by kernel_rfl)(h:S):K2 t.v u.v f args.toArray w R:=
 (Gk okF Ra hf (YI (pe e).2).1 (YI (pe e).2).2 ((pe e).1.mpr h)).mono fun _ _ ⟨s,he,hR⟩=>⟨s.1,s.2,he,hR⟩
theorem mk3 (t u v:Ty)(pl:A7)(args:List Value){R:t.T->u.T->v.T->World->Prop}(hf:prog.funcs[f]?=some fn)(e:(lR prog ⟨FF,Ig,fun _ _=>False⟩ pl fn args w [t,u,v] (fun s w=>R s.1 s.2.1 s.2.2 w),sd fn args)=(S,true):=by kernel_rfl)(h:S):K3 t.v u.v v.v f args.toArray w R:=
 (Gk okF Ra hf (YI (pe e).2).1 (YI (pe e).2).2 ((pe e).1.mpr h)).mono fun _ _ ⟨s,he,hR⟩=>⟨s.1,s.2.1,s.2.2,he,hR⟩
theorem mk4 (t u v x:Ty)(pl:A7)(args:List Value){R:t.T->u.T->v.T->x.T->World->Prop}(hf:prog.funcs[f]?=some fn)(e:(lR prog ⟨FF,Ig,fun _ _=>False⟩ pl fn args w [t,u,v,x] (fun s w=>R s.1 s.2.1 s.2.2.1 s.2.2.2 w),sd fn args)=(S,true):=by kernel_rfl)(h:S):K4 t.v u.v v.v x.v f args.toArray w R:=
 (Gk okF Ra hf (YI (pe e).2).1 (YI (pe e).2).2 ((pe e).1.mpr h)).mono fun _ _ ⟨s,he,hR⟩=>⟨s.1,s.2.1,s.2.2.1,s.2.2.2,he,hR⟩
theorem VL (pl:A7)(args:List Value){R:World->Prop}(hf:prog.funcs[f]?=some fn)(e:(lR prog ⟨FF,Ig,PR⟩ pl fn args w [] (fun _ w=>R w),sd fn args)=(S,true):=by kernel_rfl)(h:S):P0 f args.toArray w R PR:=
 (JW okF Ra hf (YI (pe e).2).1 (YI (pe e).2).2 ((pe e).1.mpr h)).mono fun _ _ he=>he.elim (fun ⟨_,he,hR⟩=> .inl ⟨he,hR⟩) .inr
theorem Rx (t:Ty)(pl:A7)(args:List Value){R:t.T->World->Prop}(hf:prog.funcs[f]?=some fn)(e:(lR prog ⟨FF,Ig,PR⟩ pl fn args w [t] (fun s w=>R s w),sd fn args)=(S,true):=by kernel_rfl)(h:S):P1 t.v f args.toArray w R PR:=
 (JW okF Ra hf (YI (pe e).2).1 (YI (pe e).2).2 ((pe e).1.mpr h)).mono fun _ _ he=>he.elim (fun ⟨s,he,hR⟩=> .inl ⟨s,he,hR⟩) .inr
theorem YJ (t u:Ty)(pl:A7)(args:List Value){R:t.T->u.T->World->Prop}(hf:prog.funcs[f]?=some fn)(e:(lR prog ⟨FF,Ig,PR⟩ pl fn args w [t,u] (fun s w=>R s.1 s.2 w),sd fn args)=(S,true):=by kernel_rfl)(h:S):P2 t.v u.v f args.toArray w R PR:=
 (JW okF Ra hf (YI (pe e).2).1 (YI (pe e).2).2 ((pe e).1.mpr h)).mono fun _ _ he=>he.elim (fun ⟨s,he,hR⟩=> .inl ⟨s.1,s.2,he,hR⟩) .inr
end
end
section
open Sh
abbrev AD:List FR:=[.int .i64,.int .i64,.int .i64,.str,.Fu,.Fu]
abbrev AG:Type:=Int×Int×Int×ByteArray×AA×AA
end
set_option maxRecDepth 100000
section
open Sh
def BL (KU:Bool)(ZP:Int):=P0 37 #[.bool KU,.int .i64 ZP]
def C38 (Cf:Int):=K2 (α:=Bool×Bool×Bool×Bool×Bool) (vA [.bool,.bool,.bool,.bool,.bool]) Value.bool 38 #[.int .i64 Cf]
def C65 (n1:Int)(DI:Int)(Fj:Int):=K1 Value.bool 65 #[.int .i64 n1,.int .i64 DI,.int .i64 Fj]
def C66 (n1:Int)(DI:Int)(Fj:Int):=K1 Value.bool 66 #[.int .i64 n1,.int .i64 DI,.int .i64 Fj]
def C39 (o1:AG):=K1 Value.bool 39 #[.agg (Al.cells AD o1).toArray]
def C40 (o1:AG):=K1 Value.bool 40 #[.agg (Al.cells AD o1).toArray]
def C67 (s1:ByteArray)(c2:Int):=K1 vi 67 #[.string s1,.int .u8 c2]
def C41 (s1:ByteArray):=K1 Value.bool 41 #[.string s1]
def C42 (o1:AG):=K1 Value.bool 42 #[.agg (Al.cells AD o1).toArray]
def C18 (o1:AG)(Au:Int):=P0 18 #[.agg (Al.cells AD o1).toArray,.int .i64 Au]
def C17 (c1:Addr):=P0 17 #[.pointer (some c1)]
def yJ (c1:Addr)(u:Option Value)(w:World)(R:Q0):Prop:=Gw prog 36 #[.pointer (some c1)] u w R
def C16 (ATK:Value):=K1 vi 16 #[ATK]
def C5 (o1:AG):=P1 vi 5 #[.agg (Al.cells AD o1).toArray]
def C31 (o1:AG):=K1 Value.bool 31 #[.agg (Al.cells AD o1).toArray]
def C60 (x1:AG):=K1 (α:=AG) (vA AD) 60 #[.agg (Al.cells AD x1).toArray]
def C61 (s1:AA):=K1 AA.v 61 #[AA.v s1]
def C59 (o1:AG)(ATM:Value):=K1 (α:=AG) (vA AD) 59 #[.agg (Al.cells AD o1).toArray,ATM]
def qt (o1:AG):=K1 (α:=AG) (vA AD) 33 #[.agg (Al.cells AD o1).toArray]
def C68 (s1:AA)(v2:ByteArray):=K1 vi 68 #[AA.v s1,.string v2]
def C43 (o1:AG)(B8:ByteArray):=K2 (α:=AG) (vA AD) Value.bool 43 #[.agg (Al.cells AD o1).toArray,.string B8]
def AEx (x1:ByteArray):=K1 Value.bool 119 #[.string x1]
def C93 (x1:ByteArray)(y2:ByteArray):=K1 Value.bool 93 #[.string x1,.string y2]
def C94 (x1:ByteArray):=K1 Value.bool 94 #[.string x1]
def C57 (x1:AA)(Dj:ByteArray):=K2 vi Value.bool 57 #[AA.v x1,.string Dj]
def C62 (s1:AA):=K1 AA.v 62 #[AA.v s1]
def C95 (s1:AA)(i2:Int)(j3:Int):=K1 AA.v 95 #[AA.v s1,.int .i64 i2,.int .i64 j3]
def C96 (s1:AA)(i2:Int)(j3:Int):=K1 AA.v 96 #[AA.v s1,.int .i64 i2,.int .i64 j3]
def C58 (o1:AG)(i2:Int):=K1 (α:=AG) (vA AD) 58 #[.agg (Al.cells AD o1).toArray,.int .i64 i2]
def C28 (o1:AG)(B8:ByteArray):=P1 (α:=AG) (vA AD) 28 #[.agg (Al.cells AD o1).toArray,.string B8]
def C32 (o1:AG):=P2 (α:=AG) (vA AD) vi 32 #[.agg (Al.cells AD o1).toArray]
def C98 (s1:AA)(r2:Int):=K0 98 #[AA.v s1,.int .i64 r2]
def C63 (s1:AA)(i2:Int)(v3:AA):=K1 AA.v 63 #[AA.v s1,.int .i64 i2,AA.v v3]
def ATU (s1:AA)(r2:Int):=K0 100 #[AA.v s1,.int .i64 r2]
def C64 (s1:AA)(i2:Int)(v3:AA):=K1 AA.v 64 #[AA.v s1,.int .i64 i2,AA.v v3]
def C34 (o1:AG)(B8:ByteArray)(v3:AG):=K1 (α:=AG) (vA AD) 34 #[.agg (Al.cells AD o1).toArray,.string B8,.agg (Al.cells AD v3).toArray]
def C14 (o1:AG)(B8:ByteArray)(v3:AG):=P2 (α:=AG) (vA AD) vi 14 #[.agg (Al.cells AD o1).toArray,.string B8,.agg (Al.cells AD v3).toArray]
def C27 (QV:AG)(EX:ByteArray):=P2 (α:=AG) (vA AD) vi 27 #[.agg (Al.cells AD QV).toArray,.string EX]
def C29 (B2:AA):=P2 (α:=AG) (vA AD) vi 29 #[AA.v B2]
def C35 (QW:AA):=K1 (α:=AG) (vA AD) 35 #[AA.v QW]
def C13 (s1:ByteArray):=K1 (α:=AG) (vA AD) 13 #[.string s1]
def C30 (n1:Int):=K1 (α:=AG) (vA AD) 30 #[.int .i64 n1]
def S37 (KU:Bool)(ZP:Int)(w:World)(R:Q0)(PR:Q1 Value):Prop:=Br (!KU) (PR (.iface 71 (.agg #[.int .i64 ZP])) w) (R w)
theorem T37 (KU ZP w R PR):S37 KU ZP w R PR->BL KU ZP w R PR:=VL (.q (.c .r .l)) [.bool KU,.int .i64 ZP] Tryz.func37
def qu (w:World)(Cf:Int)(R:Q2 (Bool×Bool×Bool×Bool×Bool) Bool)(s25:Bool)(DT:World):Prop:=Br s25 (St DT ⟨w.heap.size,0,none⟩ (.bool false) fun OP=>St OP (.add ⟨w.heap.size,0,none⟩ 1) (.bool false) fun z28=>St z28 (.add ⟨w.heap.size,0,none⟩ 2) (.bool true) fun OQ=>St OQ (.add ⟨w.heap.size,0,none⟩ 3) (.bool false) fun ER=>St ER (.add ⟨w.heap.size,0,none⟩ 4) (.bool false) fun z31=>Ld z31 ⟨w.heap.size,0,none⟩ Value.bool fun Iz=>Ld z31 (.add ⟨w.heap.size,0,none⟩ 1) Value.bool fun VN=>Ld z31 (.add ⟨w.heap.size,0,none⟩ 2) Value.bool fun Nc=>Ld z31 (.add ⟨w.heap.size,0,none⟩ 3) Value.bool fun Rz=>Ld z31 (.add ⟨w.heap.size,0,none⟩ 4) Value.bool fun UO=>R (Iz,VN,Nc,Rz,UO) true z31) (Br (Cf==6) (St DT ⟨w.heap.size,0,none⟩ (.bool false) fun z37=>St z37 (.add ⟨w.heap.size,0,none⟩ 1) (.bool false) fun Hy=>St Hy (.add ⟨w.heap.size,0,none⟩ 2) (.bool false) fun z39=>St z39 (.add ⟨w.heap.size,0,none⟩ 3) (.bool false) fun z40=>St z40 (.add ⟨w.heap.size,0,none⟩ 4) (.bool true) fun Mi=>Ld Mi ⟨w.heap.size,0,none⟩ Value.bool fun Rf=>Ld Mi (.add ⟨w.heap.size,0,none⟩ 1) Value.bool fun R4=>Ld Mi (.add ⟨w.heap.size,0,none⟩ 2) Value.bool fun R3=>Ld Mi (.add ⟨w.heap.size,0,none⟩ 3) Value.bool fun gL=>Ld Mi (.add ⟨w.heap.size,0,none⟩ 4) Value.bool fun Ry=>R (Rf,R4,R3,gL,Ry) true Mi) (Br (Cf==7) (St DT ⟨w.heap.size,0,none⟩ (.bool false) fun z47=>St z47 (.add ⟨w.heap.size,0,none⟩ 1) (.bool false) fun z48=>St z48 (.add ⟨w.heap.size,0,none⟩ 2) (.bool false) fun z49=>St z49 (.add ⟨w.heap.size,0,none⟩ 3) (.bool true) fun z50=>St z50 (.add ⟨w.heap.size,0,none⟩ 4) (.bool true) fun z51=>Ld z51 ⟨w.heap.size,0,none⟩ Value.bool fun QS=>Ld z51 (.add ⟨w.heap.size,0,none⟩ 1) Value.bool fun WU=>Ld z51 (.add ⟨w.heap.size,0,none⟩ 2) Value.bool fun R5=>Ld z51 (.add ⟨w.heap.size,0,none⟩ 3) Value.bool fun UR=>Ld z51 (.add ⟨w.heap.size,0,none⟩ 4) Value.bool fun xa=>R (QS,WU,R5,UR,xa) true z51) (Br (Cf==8) (St DT ⟨w.heap.size,0,none⟩ (.bool true) fun VO=>St VO (.add ⟨w.heap.size,0,none⟩ 1) (.bool true) fun ZE=>St ZE (.add ⟨w.heap.size,0,none⟩ 2) (.bool false) fun z59=>St z59 (.add ⟨w.heap.size,0,none⟩ 3) (.bool false) fun z60=>St z60 (.add ⟨w.heap.size,0,none⟩ 4) (.bool false) fun z61=>Ld z61 ⟨w.heap.size,0,none⟩ Value.bool fun ZG=>Ld z61 (.add ⟨w.heap.size,0,none⟩ 1) Value.bool fun ZH=>Ld z61 (.add ⟨w.heap.size,0,none⟩ 2) Value.bool fun x64=>Ld z61 (.add ⟨w.heap.size,0,none⟩ 3) Value.bool fun xn=>Ld z61 (.add ⟨w.heap.size,0,none⟩ 4) Value.bool fun V5=>R (ZG,ZH,x64,xn,V5) true z61) (Br (Cf==9) (St DT ⟨w.heap.size,0,none⟩ (.bool false) fun z67=>St z67 (.add ⟨w.heap.size,0,none⟩ 1) (.bool false) fun Re=>St Re (.add ⟨w.heap.size,0,none⟩ 2) (.bool true) fun z69=>St z69 (.add ⟨w.heap.size,0,none⟩ 3) (.bool true) fun z70=>St z70 (.add ⟨w.heap.size,0,none⟩ 4) (.bool true) fun OR=>Ld OR ⟨w.heap.size,0,none⟩ Value.bool fun x72=>Ld OR (.add ⟨w.heap.size,0,none⟩ 1) Value.bool fun x73=>Ld OR (.add ⟨w.heap.size,0,none⟩ 2) Value.bool fun vJ=>Ld OR (.add ⟨w.heap.size,0,none⟩ 3) Value.bool fun oh=>Ld OR (.add ⟨w.heap.size,0,none⟩ 4) Value.bool fun ZA=>R (x72,x73,vJ,oh,ZA) true OR) (St DT ⟨w.heap.size,0,none⟩ (.bool false) fun z77=>St z77 (.add ⟨w.heap.size,0,none⟩ 1) (.bool false) fun qI=>St qI (.add ⟨w.heap.size,0,none⟩ 2) (.bool false) fun ZQ=>St ZQ (.add ⟨w.heap.size,0,none⟩ 3) (.bool false) fun ZR=>St ZR (.add ⟨w.heap.size,0,none⟩ 4) (.bool false) fun jw=>Ld jw ⟨w.heap.size,0,none⟩ Value.bool fun vN=>Ld jw (.add ⟨w.heap.size,0,none⟩ 1) Value.bool fun xt=>Ld jw (.add ⟨w.heap.size,0,none⟩ 2) Value.bool fun x84=>Ld jw (.add ⟨w.heap.size,0,none⟩ 3) Value.bool fun om=>Ld jw (.add ⟨w.heap.size,0,none⟩ 4) Value.bool fun x86=>R (vN,xt,x84,om,x86) false jw)))))
def qw (w:World)(Cf:Int)(R:Q2 (Bool×Bool×Bool×Bool×Bool) Bool)(s13:Bool)(AN:World):Prop:=Br s13 (St AN ⟨w.heap.size,0,none⟩ (.bool true) fun Bv=>St Bv (.add ⟨w.heap.size,0,none⟩ 1) (.bool false) fun Bd=>St Bd (.add ⟨w.heap.size,0,none⟩ 2) (.bool false) fun D3=>St D3 (.add ⟨w.heap.size,0,none⟩ 3) (.bool false) fun CZ=>St CZ (.add ⟨w.heap.size,0,none⟩ 4) (.bool false) fun CV=>Ld CV ⟨w.heap.size,0,none⟩ Value.bool fun Ge=>Ld CV (.add ⟨w.heap.size,0,none⟩ 1) Value.bool fun D6=>Ld CV (.add ⟨w.heap.size,0,none⟩ 2) Value.bool fun Ct=>Ld CV (.add ⟨w.heap.size,0,none⟩ 3) Value.bool fun Mm=>Ld CV (.add ⟨w.heap.size,0,none⟩ 4) Value.bool fun Fy=>R (Ge,D6,Ct,Mm,Fy) true CV) (CP (qu w Cf R) fun (ALV:Q1 Bool)=>Br (Cf==4) (ALV (Cf==4) AN) (ALV (Cf==5) AN))
def S38 (Cf:Int)(w:World)(R:Q2 (Bool×Bool×Bool×Bool×Bool) Bool):Prop:=Nw w (.cells #[.bool false,.bool false,.bool false,.bool false,.bool false] 73) fun z2=>Br (Cf==0) (St z2 ⟨w.heap.size,0,none⟩ (.bool false) fun z3=>St z3 (.add ⟨w.heap.size,0,none⟩ 1) (.bool false) fun z4=>St z4 (.add ⟨w.heap.size,0,none⟩ 2) (.bool false) fun z5=>St z5 (.add ⟨w.heap.size,0,none⟩ 3) (.bool false) fun z6=>St z6 (.add ⟨w.heap.size,0,none⟩ 4) (.bool false) fun z7=>Ld z7 ⟨w.heap.size,0,none⟩ Value.bool fun x8=>Ld z7 (.add ⟨w.heap.size,0,none⟩ 1) Value.bool fun x9=>Ld z7 (.add ⟨w.heap.size,0,none⟩ 2) Value.bool fun D0=>Ld z7 (.add ⟨w.heap.size,0,none⟩ 3) Value.bool fun Cm=>Ld z7 (.add ⟨w.heap.size,0,none⟩ 4) Value.bool fun DA=>R (x8,x9,D0,Cm,DA) true z7) (CP (qw w Cf R) fun (AEy:Q1 Bool)=>Br (Cf==1) (AEy (Cf==1) z2) (Br (Cf==2) (AEy (Cf==2) z2) (AEy (Cf==3) z2)))
theorem T38 (Cf w R):S38 Cf w R->C38 Cf w R:=Nb (.agg [.bool,.bool,.bool,.bool,.bool]) ob (.q (.s (.q (.b (.q (.c (.q .l) (.join [(8,ob)] [2,4] (.q (.c .l (.q (.c .l .r)))) (.c (.q .l) (.join [(13,ob)] [2,4] (.q (.c .l .r)) (.c (.q .l) (.q (.c (.q .l) (.q (.c (.q .l) (.q (.c (.q .l) (.q (.c (.q .l) .l)))))))))))))))) (.q .l))) [.int .i64 Cf] Tryz.func38
def S65 (n1:Int)(DI:Int)(Fj:Int)(w:World)(R:Q1 Bool):Prop:=Br (decide (DI<=n1)) (R (decide (n1<=Fj)) w) (R false w)
theorem T65 (n1 DI Fj w R):S65 n1 DI Fj w R->C65 n1 DI Fj w R:=B5 ob (.q (.q .l)) [.int .i64 n1,.int .i64 DI,.int .i64 Fj] Tryz.func65
def S66 (n1:Int)(DI:Int)(Fj:Int)(w:World)(R:Q1 Bool):Prop:=Br (decide (DI<=n1)) (R (decide (n1<=Fj)) w) (R false w)
theorem T66 (n1 DI Fj w R):S66 n1 DI Fj w R->C66 n1 DI Fj w R:=B5 ob (.q (.q .l)) [.int .i64 n1,.int .i64 DI,.int .i64 Fj] Tryz.func66
def S39 (o1:AG)(w:World)(R:Q1 Bool):Prop:=Nw w (.cells (Al.cells AD o1).toArray 25) fun z2=>Ld z2 ⟨w.heap.size,0,none⟩ (Value.int .i64) fun x3=>Br (x3==1) (Ld z2 (.add ⟨w.heap.size,0,none⟩ 1) (Value.int .i64) fun x4=>C65 x4 0 1 z2 fun r5 z6=>R r5 z6) (Br (x3==2) (Ld z2 (.add ⟨w.heap.size,0,none⟩ 1) (Value.int .i64) fun x7=>C65 x7 (-2147483647) 2147483647 z2 fun r8 z9=>R r8 z9) (Br (x3==3) (Ld z2 (.add ⟨w.heap.size,0,none⟩ 1) (Value.int .i64) fun D0=>C65 D0 (-1073741824) 1073741824 z2 fun MF z12=>R MF z12) (Br (x3==8) (Ld z2 (.add ⟨w.heap.size,0,none⟩ 1) (Value.int .i64) fun Et=>C65 Et 1 8191 z2 fun Jt Bv=>Br Jt (Ld Bv (.add ⟨w.heap.size,0,none⟩ 2) (Value.int .i64) fun D5=>C66 D5 0 65535 Bv fun ln CZ=>R ln CZ) (R false Bv)) (R true z2))))
theorem T39 (o1 w R):S39 o1 w R->C39 o1 w R:=B5 ob (.q (.s (.q (.b (.q (.c (.q .l) (.q (.c (.q .l) (.q (.c (.q .l) (.q (.c (.q .l) .l)))))))))) (.q .l))) [.agg (Al.cells AD o1).toArray] Tryz.func39
def S40 (o1:AG)(w:World)(R:Q1 Bool):Prop:=Nw w (.cells (Al.cells AD o1).toArray 25) fun z2=>Ld z2 ⟨w.heap.size,0,none⟩ (Value.int .i64) fun x6=>Br (x6==4) (Ld z2 (.add ⟨w.heap.size,0,none⟩ 3) Value.string fun x7=>R (decide ((x7.size:Int)<=32767)) z2) (Br (x6==5) (Ld z2 (.add ⟨w.heap.size,0,none⟩ 3) Value.string fun x8=>R (decide ((x8.size:Int)<=127)) z2) (Ld z2 (.add ⟨w.heap.size,0,none⟩ 3) Value.string fun x9=>R (decide ((x9.size:Int)<=1048576)) z2))
theorem T40 (o1 w R):S40 o1 w R->C40 o1 w R:=B5 ob (.q (.s (.q (.b (.q (.c (.q .l) (.q (.c (.q .l) .l)))))) (.q .l))) [.agg (Al.cells AD o1).toArray] Tryz.func40
def S41 (s1:ByteArray)(w:World)(R:Q1 Bool):Prop:=Br (decide ((s1.size:Int)<=127)) (C67 s1 0 w fun r2 z3=>R (decide (r2<0)) z3) (R false w)
theorem T41 (s1 w R):S41 s1 w R->C41 s1 w R:=B5 ob (.q (.q .l)) [.string s1] Tryz.func41
def AA8 (w:World)(x7:AA)(R:Q1 Bool)(I10:Q1 Int)(s8:Int)(z9:World):Prop:=Br (decide (s8<(x7.len:Int))) (0<=s8/\s8<(x7.len:Nat)/\Nn x7.p fun lg=>Ld z9 (lg.add ((s8).toNat*1)) Value.string fun DA=>C41 DA z9 fun jr AN=>Br (!jr) (R false AN) (Br (decide (s8>0)) (Ld AN (.add ⟨w.heap.size,0,none⟩ 4) AA.v fun Dt=>0<=(wrap .i64 (s8-1))/\(wrap .i64 (s8-1))<(Dt.len:Nat)/\Nn Dt.p fun a16=>Ld AN (a16.add ((wrap .i64 (s8-1)).toNat*1)) Value.string fun Eg=>Br (!(Op.bytesLess Eg.toList DA.toList)) (R false AN) (Ld AN ⟨w.heap.size,0,none⟩ (Value.int .i64) fun Co=>Br (Co==9) (Br (DA.toList==(⟨#[76,101,110,103,116,104]⟩:ey).toList) (R false AN) (Ld AN (.add ⟨w.heap.size,0,none⟩ 5) AA.v fun En=>0<=s8/\s8<(En.len:Nat)/\Nn En.p fun a20=>Ld AN (a20.add ((s8).toNat*6)) (Value.int .i64) fun D6=>Br (D6==0) (R false AN) (I10 (wrap .i64 (s8+1)) AN))) (Ld AN (.add ⟨w.heap.size,0,none⟩ 5) AA.v fun Ct=>0<=s8/\s8<(Ct.len:Nat)/\Nn Ct.p fun oy=>Ld AN (oy.add ((s8).toNat*6)) (Value.int .i64) fun Fy=>Br (Fy==0) (R false AN) (I10 (wrap .i64 (s8+1)) AN)))) (Ld AN ⟨w.heap.size,0,none⟩ (Value.int .i64) fun JY=>Br (JY==9) (Br (DA.toList==(⟨#[76,101,110,103,116,104]⟩:ey).toList) (R false AN) (Ld AN (.add ⟨w.heap.size,0,none⟩ 5) AA.v fun HN=>0<=s8/\s8<(HN.len:Nat)/\Nn HN.p fun xR=>Ld AN (xR.add ((s8).toNat*6)) (Value.int .i64) fun Oz=>Br (Oz==0) (R false AN) (I10 (wrap .i64 (s8+1)) AN))) (Ld AN (.add ⟨w.heap.size,0,none⟩ 5) AA.v fun YK=>0<=s8/\s8<(YK.len:Nat)/\Nn YK.p fun a30=>Ld AN (a30.add ((s8).toNat*6)) (Value.int .i64) fun Iy=>Br (Iy==0) (R false AN) (I10 (wrap .i64 (s8+1)) AN))))) (R true z9)
def S42 (o1:AG)(w:World)(R:Q1 Bool):Prop:=Nw w (.cells (Al.cells AD o1).toArray 25) fun z2=>Ld z2 (.add ⟨w.heap.size,0,none⟩ 4) AA.v fun x5=>Ld z2 (.add ⟨w.heap.size,0,none⟩ 5) AA.v fun x6=>Br ((x5.len:Int) !=(x6.len:Int)) (R false z2) (Ld z2 (.add ⟨w.heap.size,0,none⟩ 4) AA.v fun x7=>Lp (σ:=Int) (AA8 w x7 R) 0 z2)
theorem T42 (o1 w R):S42 o1 w R->C42 o1 w R:=B5 ob (.q (.s (.q (.c (.q .l) .l)) (.s (.q (.b (.o [(15,oi)] [1,13,14] (.q (.s (.c .l .l) (.s (.b (.q (.q (.c (.q .l) .l)))) .r)))))) (.q .l)))) [.agg (Al.cells AD o1).toArray] Tryz.func42
def AA9 (Au:Int)(qx:AA)(R:Q0)(PR:Q1 Value)(ATV:Q1 Int)(qy:Int)(qz:World):Prop:=Br (decide (qy<(qx.len:Int))) (0<=qy/\qy<(qx.len:Nat)/\Nn qx.p fun ATW=>Af qz (ATW.add ((qy).toNat*6)) 0 AD fun ATX=>Nw qz (.cells #[.int .i64 0,.int .i64 0,.int .i64 0,.string (⟨#[]⟩:ey),AA.v ⟨none,0,0⟩,AA.v ⟨none,0,0⟩] 25) fun ATY=>A6 ⟨qz.heap.size,0,none⟩ 0 AD ATX ATY fun ALW=>Af ALW ⟨qz.heap.size,0,none⟩ 0 AD fun ATZ=>C18 ATZ (wrap .i64 (Au+1)) ALW (fun ATa=>ATV (wrap .i64 (qy+1)) ATa) PR) (R qz)
def Sa (w:World)(Au:Int)(R:Q0)(PR:Q1 Value)(AfX:Unit)(ALX:World):Prop:=Ld ALX (.add ⟨w.heap.size,0,none⟩ 5) AA.v fun qx=>Lp (σ:=Int) (AA9 Au qx R PR) 0 ALX
def gP (w:World)(Au:Int)(z8:World)(R:Q0)(PR:Q1 Value)(AfY:Unit)(z206:World):Prop:=Af z206 ⟨w.heap.size,0,none⟩ 0 AD fun ATb=>C39 ATb z206 fun ATc ATd=>BL ATc 2 ATd (fun z210=>Af z210 ⟨w.heap.size,0,none⟩ 0 AD fun ATe=>C40 ATe z210 fun ATf z213=>BL ATf 5 z213 (fun ALY=>Ld ALY (.add ⟨w.heap.size,0,none⟩ 5) AA.v fun ATg=>BL (decide ((ATg.len:Int)<=8191)) 6 ALY (fun Za=>CP (Sa w Au R PR) fun (Wg:Q1 Unit)=>Ld Za ⟨w.heap.size,0,none⟩ (Value.int .i64) fun ATh=>Br (ATh !=5) (Ld Za (.add ⟨z8.heap.size,0,none⟩ 3) Value.bool fun AEz=>Br (!AEz) (BL true 3 Za (fun ATi=>Wg () ATi) PR) (Af Za ⟨w.heap.size,0,none⟩ 0 AD fun AE0=>C42 AE0 Za fun AE1 ATj=>BL AE1 3 ATj (fun ATk=>Wg () ATk) PR)) (Ld Za (.add ⟨w.heap.size,0,none⟩ 3) Value.string fun ATl=>C41 ATl Za fun ATm q9=>Br ATm (Ld q9 (.add ⟨z8.heap.size,0,none⟩ 3) Value.bool fun ATn=>Br (!ATn) (BL true 3 q9 (fun ATo=>Wg () ATo) PR) (Af q9 ⟨w.heap.size,0,none⟩ 0 AD fun ATp=>C42 ATp q9 fun ATq ATr=>BL ATq 3 ATr (fun ATs=>Wg () ATs) PR)) (BL false 3 q9 (fun ATt=>Wg () ATt) PR))) PR) PR) PR
def S18 (o1:AG)(Au:Int)(w:World)(R:Q0)(PR:Q1 Value):Prop:=Nw w (.cells (Al.cells AD o1).toArray 25) fun z3=>BL (decide (Au<=24)) 7 z3 (fun z4=>Ld z4 ⟨w.heap.size,0,none⟩ (Value.int .i64) fun x5=>C38 x5 z4 fun r6 r7 z8=>Nw z8 (.cells #[.bool false,.bool false,.bool false,.bool false,.bool false] 73) fun z9=>St z9 ⟨z8.heap.size,0,none⟩ (.bool r6.1) fun Az=>St Az (.add ⟨z8.heap.size,0,none⟩ 1) (.bool r6.2.1) fun Bg=>St Bg (.add ⟨z8.heap.size,0,none⟩ 2) (.bool r6.2.2.1) fun z12=>St z12 (.add ⟨z8.heap.size,0,none⟩ 3) (.bool r6.2.2.2.1) fun AY=>St AY (.add ⟨z8.heap.size,0,none⟩ 4) (.bool r6.2.2.2.2) fun AN=>CP (gP w Au z8 R PR) fun (AK:Q1 Unit)=>Br r7 (Ld AN ⟨z8.heap.size,0,none⟩ Value.bool fun ATu=>Br ATu (Ld AN (.add ⟨z8.heap.size,0,none⟩ 1) Value.bool fun ATv=>Br ATv (Ld AN (.add ⟨z8.heap.size,0,none⟩ 2) Value.bool fun ATw=>Br ATw (Ld AN (.add ⟨z8.heap.size,0,none⟩ 3) Value.bool fun ATx=>Br ATx (Ld AN (.add ⟨z8.heap.size,0,none⟩ 4) Value.bool fun ATy=>Br ATy (Br (Au==1) (BL true 10 AN (fun ATz=>AK () ATz) PR) (Ld AN ⟨w.heap.size,0,none⟩ (Value.int .i64) fun AT0=>BL (AT0 !=9) 10 AN (fun AT1=>AK () AT1) PR)) (Ld AN (.add ⟨w.heap.size,0,none⟩ 5) AA.v fun AT2=>Br ((AT2.len:Int)==0) (Br (Au==1) (BL true 10 AN (fun AT3=>AK () AT3) PR) (Ld AN ⟨w.heap.size,0,none⟩ (Value.int .i64) fun AT4=>BL (AT4 !=9) 10 AN (fun AT5=>AK () AT5) PR)) (BL false 10 AN (fun AT6=>AK () AT6) PR))) (Ld AN (.add ⟨w.heap.size,0,none⟩ 4) AA.v fun AT7=>Br ((AT7.len:Int)==0) (Ld AN (.add ⟨z8.heap.size,0,none⟩ 4) Value.bool fun AT8=>Br AT8 (Br (Au==1) (BL true 10 AN (fun AT9=>AK () AT9) PR) (Ld AN ⟨w.heap.size,0,none⟩ (Value.int .i64) fun AUA=>BL (AUA !=9) 10 AN (fun AUB=>AK () AUB) PR)) (Ld AN (.add ⟨w.heap.size,0,none⟩ 5) AA.v fun AUC=>Br ((AUC.len:Int)==0) (Br (Au==1) (BL true 10 AN (fun AUD=>AK () AUD) PR) (Ld AN ⟨w.heap.size,0,none⟩ (Value.int .i64) fun AUE=>BL (AUE !=9) 10 AN (fun AUF=>AK () AUF) PR)) (BL false 10 AN (fun AUG=>AK () AUG) PR))) (BL false 10 AN (fun AUH=>AK () AUH) PR))) (Ld AN (.add ⟨w.heap.size,0,none⟩ 3) Value.string fun AUI=>Br (AUI.toList==(⟨#[]⟩:ey).toList) (Ld AN (.add ⟨z8.heap.size,0,none⟩ 3) Value.bool fun AUJ=>Br AUJ (Ld AN (.add ⟨z8.heap.size,0,none⟩ 4) Value.bool fun AUK=>Br AUK (Br (Au==1) (BL true 10 AN (fun AUL=>AK () AUL) PR) (Ld AN ⟨w.heap.size,0,none⟩ (Value.int .i64) fun AUM=>BL (AUM !=9) 10 AN (fun AUN=>AK () AUN) PR)) (Ld AN (.add ⟨w.heap.size,0,none⟩ 5) AA.v fun AUO=>Br ((AUO.len:Int)==0) (Br (Au==1) (BL true 10 AN (fun AUP=>AK () AUP) PR) (Ld AN ⟨w.heap.size,0,none⟩ (Value.int .i64) fun AUQ=>BL (AUQ !=9) 10 AN (fun AUR=>AK () AUR) PR)) (BL false 10 AN (fun AUS=>AK () AUS) PR))) (Ld AN (.add ⟨w.heap.size,0,none⟩ 4) AA.v fun AUT=>Br ((AUT.len:Int)==0) (Ld AN (.add ⟨z8.heap.size,0,none⟩ 4) Value.bool fun AUU=>Br AUU (Br (Au==1) (BL true 10 AN (fun AUV=>AK () AUV) PR) (Ld AN ⟨w.heap.size,0,none⟩ (Value.int .i64) fun AUW=>BL (AUW !=9) 10 AN (fun AUX=>AK () AUX) PR)) (Ld AN (.add ⟨w.heap.size,0,none⟩ 5) AA.v fun AUY=>Br ((AUY.len:Int)==0) (Br (Au==1) (BL true 10 AN (fun AUZ=>AK () AUZ) PR) (Ld AN ⟨w.heap.size,0,none⟩ (Value.int .i64) fun AUa=>BL (AUa !=9) 10 AN (fun AUb=>AK () AUb) PR)) (BL false 10 AN (fun AUc=>AK () AUc) PR))) (BL false 10 AN (fun AUd=>AK () AUd) PR))) (BL false 10 AN (fun AUe=>AK () AUe) PR))) (Ld AN (.add ⟨w.heap.size,0,none⟩ 2) (Value.int .i64) fun AUf=>Br (AUf==0) (Ld AN (.add ⟨z8.heap.size,0,none⟩ 2) Value.bool fun AUg=>Br AUg (Ld AN (.add ⟨z8.heap.size,0,none⟩ 3) Value.bool fun AUh=>Br AUh (Ld AN (.add ⟨z8.heap.size,0,none⟩ 4) Value.bool fun AUi=>Br AUi (Br (Au==1) (BL true 10 AN (fun AUj=>AK () AUj) PR) (Ld AN ⟨w.heap.size,0,none⟩ (Value.int .i64) fun AUk=>BL (AUk !=9) 10 AN (fun AUl=>AK () AUl) PR)) (Ld AN (.add ⟨w.heap.size,0,none⟩ 5) AA.v fun AUm=>Br ((AUm.len:Int)==0) (Br (Au==1) (BL true 10 AN (fun AUn=>AK () AUn) PR) (Ld AN ⟨w.heap.size,0,none⟩ (Value.int .i64) fun AUo=>BL (AUo !=9) 10 AN (fun AUp=>AK () AUp) PR)) (BL false 10 AN (fun AUq=>AK () AUq) PR))) (Ld AN (.add ⟨w.heap.size,0,none⟩ 4) AA.v fun AUr=>Br ((AUr.len:Int)==0) (Ld AN (.add ⟨z8.heap.size,0,none⟩ 4) Value.bool fun AUs=>Br AUs (Br (Au==1) (BL true 10 AN (fun AUt=>AK () AUt) PR) (Ld AN ⟨w.heap.size,0,none⟩ (Value.int .i64) fun AUu=>BL (AUu !=9) 10 AN (fun AUv=>AK () AUv) PR)) (Ld AN (.add ⟨w.heap.size,0,none⟩ 5) AA.v fun AUw=>Br ((AUw.len:Int)==0) (Br (Au==1) (BL true 10 AN (fun AUx=>AK () AUx) PR) (Ld AN ⟨w.heap.size,0,none⟩ (Value.int .i64) fun AUy=>BL (AUy !=9) 10 AN (fun AUz=>AK () AUz) PR)) (BL false 10 AN (fun AU0=>AK () AU0) PR))) (BL false 10 AN (fun AU1=>AK () AU1) PR))) (Ld AN (.add ⟨w.heap.size,0,none⟩ 3) Value.string fun AU2=>Br (AU2.toList==(⟨#[]⟩:ey).toList) (Ld AN (.add ⟨z8.heap.size,0,none⟩ 3) Value.bool fun AU3=>Br AU3 (Ld AN (.add ⟨z8.heap.size,0,none⟩ 4) Value.bool fun AU4=>Br AU4 (Br (Au==1) (BL true 10 AN (fun AU5=>AK () AU5) PR) (Ld AN ⟨w.heap.size,0,none⟩ (Value.int .i64) fun AU6=>BL (AU6 !=9) 10 AN (fun AU7=>AK () AU7) PR)) (Ld AN (.add ⟨w.heap.size,0,none⟩ 5) AA.v fun AU8=>Br ((AU8.len:Int)==0) (Br (Au==1) (BL true 10 AN (fun AU9=>AK () AU9) PR) (Ld AN ⟨w.heap.size,0,none⟩ (Value.int .i64) fun AVA=>BL (AVA !=9) 10 AN (fun AVB=>AK () AVB) PR)) (BL false 10 AN (fun AVC=>AK () AVC) PR))) (Ld AN (.add ⟨w.heap.size,0,none⟩ 4) AA.v fun AVD=>Br ((AVD.len:Int)==0) (Ld AN (.add ⟨z8.heap.size,0,none⟩ 4) Value.bool fun AVE=>Br AVE (Br (Au==1) (BL true 10 AN (fun AVF=>AK () AVF) PR) (Ld AN ⟨w.heap.size,0,none⟩ (Value.int .i64) fun AVG=>BL (AVG !=9) 10 AN (fun AVH=>AK () AVH) PR)) (Ld AN (.add ⟨w.heap.size,0,none⟩ 5) AA.v fun AVI=>Br ((AVI.len:Int)==0) (Br (Au==1) (BL true 10 AN (fun AVJ=>AK () AVJ) PR) (Ld AN ⟨w.heap.size,0,none⟩ (Value.int .i64) fun AVK=>BL (AVK !=9) 10 AN (fun AVL=>AK () AVL) PR)) (BL false 10 AN (fun AVM=>AK () AVM) PR))) (BL false 10 AN (fun AVN=>AK () AVN) PR))) (BL false 10 AN (fun AVO=>AK () AVO) PR))) (BL false 10 AN (fun AVP=>AK () AVP) PR))) (Ld AN (.add ⟨w.heap.size,0,none⟩ 1) (Value.int .i64) fun AVQ=>Br (AVQ==0) (Ld AN (.add ⟨z8.heap.size,0,none⟩ 1) Value.bool fun AVR=>Br AVR (Ld AN (.add ⟨z8.heap.size,0,none⟩ 2) Value.bool fun AVS=>Br AVS (Ld AN (.add ⟨z8.heap.size,0,none⟩ 3) Value.bool fun AVT=>Br AVT (Ld AN (.add ⟨z8.heap.size,0,none⟩ 4) Value.bool fun AVU=>Br AVU (Br (Au==1) (BL true 10 AN (fun AVV=>AK () AVV) PR) (Ld AN ⟨w.heap.size,0,none⟩ (Value.int .i64) fun AVW=>BL (AVW !=9) 10 AN (fun AVX=>AK () AVX) PR)) (Ld AN (.add ⟨w.heap.size,0,none⟩ 5) AA.v fun AVY=>Br ((AVY.len:Int)==0) (Br (Au==1) (BL true 10 AN (fun AVZ=>AK () AVZ) PR) (Ld AN ⟨w.heap.size,0,none⟩ (Value.int .i64) fun AVa=>BL (AVa !=9) 10 AN (fun AVb=>AK () AVb) PR)) (BL false 10 AN (fun AVc=>AK () AVc) PR))) (Ld AN (.add ⟨w.heap.size,0,none⟩ 4) AA.v fun AVd=>Br ((AVd.len:Int)==0) (Ld AN (.add ⟨z8.heap.size,0,none⟩ 4) Value.bool fun AVe=>Br AVe (Br (Au==1) (BL true 10 AN (fun AVf=>AK () AVf) PR) (Ld AN ⟨w.heap.size,0,none⟩ (Value.int .i64) fun AVg=>BL (AVg !=9) 10 AN (fun AVh=>AK () AVh) PR)) (Ld AN (.add ⟨w.heap.size,0,none⟩ 5) AA.v fun AVi=>Br ((AVi.len:Int)==0) (Br (Au==1) (BL true 10 AN (fun AVj=>AK () AVj) PR) (Ld AN ⟨w.heap.size,0,none⟩ (Value.int .i64) fun AVk=>BL (AVk !=9) 10 AN (fun AVl=>AK () AVl) PR)) (BL false 10 AN (fun AVm=>AK () AVm) PR))) (BL false 10 AN (fun AVn=>AK () AVn) PR))) (Ld AN (.add ⟨w.heap.size,0,none⟩ 3) Value.string fun AVo=>Br (AVo.toList==(⟨#[]⟩:ey).toList) (Ld AN (.add ⟨z8.heap.size,0,none⟩ 3) Value.bool fun AVp=>Br AVp (Ld AN (.add ⟨z8.heap.size,0,none⟩ 4) Value.bool fun AVq=>Br AVq (Br (Au==1) (BL true 10 AN (fun AVr=>AK () AVr) PR) (Ld AN ⟨w.heap.size,0,none⟩ (Value.int .i64) fun AVs=>BL (AVs !=9) 10 AN (fun AVt=>AK () AVt) PR)) (Ld AN (.add ⟨w.heap.size,0,none⟩ 5) AA.v fun AVu=>Br ((AVu.len:Int)==0) (Br (Au==1) (BL true 10 AN (fun AVv=>AK () AVv) PR) (Ld AN ⟨w.heap.size,0,none⟩ (Value.int .i64) fun AVw=>BL (AVw !=9) 10 AN (fun AVx=>AK () AVx) PR)) (BL false 10 AN (fun AVy=>AK () AVy) PR))) (Ld AN (.add ⟨w.heap.size,0,none⟩ 4) AA.v fun AVz=>Br ((AVz.len:Int)==0) (Ld AN (.add ⟨z8.heap.size,0,none⟩ 4) Value.bool fun AV0=>Br AV0 (Br (Au==1) (BL true 10 AN (fun AV1=>AK () AV1) PR) (Ld AN ⟨w.heap.size,0,none⟩ (Value.int .i64) fun AV2=>BL (AV2 !=9) 10 AN (fun AV3=>AK () AV3) PR)) (Ld AN (.add ⟨w.heap.size,0,none⟩ 5) AA.v fun AV4=>Br ((AV4.len:Int)==0) (Br (Au==1) (BL true 10 AN (fun AV5=>AK () AV5) PR) (Ld AN ⟨w.heap.size,0,none⟩ (Value.int .i64) fun AV6=>BL (AV6 !=9) 10 AN (fun AV7=>AK () AV7) PR)) (BL false 10 AN (fun AV8=>AK () AV8) PR))) (BL false 10 AN (fun AV9=>AK () AV9) PR))) (BL false 10 AN (fun AWA=>AK () AWA) PR))) (Ld AN (.add ⟨w.heap.size,0,none⟩ 2) (Value.int .i64) fun AWB=>Br (AWB==0) (Ld AN (.add ⟨z8.heap.size,0,none⟩ 2) Value.bool fun AWC=>Br AWC (Ld AN (.add ⟨z8.heap.size,0,none⟩ 3) Value.bool fun AWD=>Br AWD (Ld AN (.add ⟨z8.heap.size,0,none⟩ 4) Value.bool fun AWE=>Br AWE (Br (Au==1) (BL true 10 AN (fun AWF=>AK () AWF) PR) (Ld AN ⟨w.heap.size,0,none⟩ (Value.int .i64) fun AWG=>BL (AWG !=9) 10 AN (fun AWH=>AK () AWH) PR)) (Ld AN (.add ⟨w.heap.size,0,none⟩ 5) AA.v fun AWI=>Br ((AWI.len:Int)==0) (Br (Au==1) (BL true 10 AN (fun AWJ=>AK () AWJ) PR) (Ld AN ⟨w.heap.size,0,none⟩ (Value.int .i64) fun AWK=>BL (AWK !=9) 10 AN (fun AWL=>AK () AWL) PR)) (BL false 10 AN (fun AWM=>AK () AWM) PR))) (Ld AN (.add ⟨w.heap.size,0,none⟩ 4) AA.v fun AWN=>Br ((AWN.len:Int)==0) (Ld AN (.add ⟨z8.heap.size,0,none⟩ 4) Value.bool fun AWO=>Br AWO (Br (Au==1) (BL true 10 AN (fun AWP=>AK () AWP) PR) (Ld AN ⟨w.heap.size,0,none⟩ (Value.int .i64) fun AWQ=>BL (AWQ !=9) 10 AN (fun AWR=>AK () AWR) PR)) (Ld AN (.add ⟨w.heap.size,0,none⟩ 5) AA.v fun AWS=>Br ((AWS.len:Int)==0) (Br (Au==1) (BL true 10 AN (fun AWT=>AK () AWT) PR) (Ld AN ⟨w.heap.size,0,none⟩ (Value.int .i64) fun AWU=>BL (AWU !=9) 10 AN (fun AWV=>AK () AWV) PR)) (BL false 10 AN (fun AWW=>AK () AWW) PR))) (BL false 10 AN (fun AWX=>AK () AWX) PR))) (Ld AN (.add ⟨w.heap.size,0,none⟩ 3) Value.string fun AWY=>Br (AWY.toList==(⟨#[]⟩:ey).toList) (Ld AN (.add ⟨z8.heap.size,0,none⟩ 3) Value.bool fun AWZ=>Br AWZ (Ld AN (.add ⟨z8.heap.size,0,none⟩ 4) Value.bool fun AWa=>Br AWa (Br (Au==1) (BL true 10 AN (fun AWb=>AK () AWb) PR) (Ld AN ⟨w.heap.size,0,none⟩ (Value.int .i64) fun AWc=>BL (AWc !=9) 10 AN (fun AWd=>AK () AWd) PR)) (Ld AN (.add ⟨w.heap.size,0,none⟩ 5) AA.v fun AWe=>Br ((AWe.len:Int)==0) (Br (Au==1) (BL true 10 AN (fun AWf=>AK () AWf) PR) (Ld AN ⟨w.heap.size,0,none⟩ (Value.int .i64) fun AWg=>BL (AWg !=9) 10 AN (fun AWh=>AK () AWh) PR)) (BL false 10 AN (fun AWi=>AK () AWi) PR))) (Ld AN (.add ⟨w.heap.size,0,none⟩ 4) AA.v fun AWj=>Br ((AWj.len:Int)==0) (Ld AN (.add ⟨z8.heap.size,0,none⟩ 4) Value.bool fun AWk=>Br AWk (Br (Au==1) (BL true 10 AN (fun AWl=>AK () AWl) PR) (Ld AN ⟨w.heap.size,0,none⟩ (Value.int .i64) fun AWm=>BL (AWm !=9) 10 AN (fun AWn=>AK () AWn) PR)) (Ld AN (.add ⟨w.heap.size,0,none⟩ 5) AA.v fun AWo=>Br ((AWo.len:Int)==0) (Br (Au==1) (BL true 10 AN (fun AWp=>AK () AWp) PR) (Ld AN ⟨w.heap.size,0,none⟩ (Value.int .i64) fun AWq=>BL (AWq !=9) 10 AN (fun AWr=>AK () AWr) PR)) (BL false 10 AN (fun AWs=>AK () AWs) PR))) (BL false 10 AN (fun AWt=>AK () AWt) PR))) (BL false 10 AN (fun AWu=>AK () AWu) PR))) (BL false 10 AN (fun AWv=>AK () AWv) PR))) (BL false 10 AN (fun AWw=>AK () AWw) PR))) (BL false 10 AN (fun AWx=>AK () AWx) PR)) PR
theorem T18 (o1 Au w R PR):S18 o1 Au w R PR->C18 o1 Au w R PR:=VL (.q (.q (.q (.join [] [1,2,4] .r (.q (.q (.q (.join [] [1,2] .r (.q (.b (.o [(107,oi)] [1,105,106] (.q (.s (.c .l .l) (.s (.b (.q .r)) .r)))))))))))))) [.agg (Al.cells AD o1).toArray,.int .i64 Au] Tryz.func18
def S17 (c1:Addr)(w:World)(R:Q0)(PR:Q1 Value):Prop:=Af w c1 0 AD fun x2=>C18 x2 1 w (fun z3=>R z3) PR
theorem T17 (c1 w R PR):S17 c1 w R PR->C17 c1 w R PR:=VL .r [.pointer (some c1)] Tryz.func17
def UX (c1:Addr)(w:World)(R:Q0):Prop:=R w
def rA:A7:=(.b (.q (.c .r (.q (.c (.q .r) (.q .r))))))
theorem yK (c1:Addr)(w:World)(R:Q0)(h:UX c1 w R):yJ c1 none w R:=by
 have e:WQ prog FF Ig rA Tryz.f36 [.pointer (some c1)] none w R=UX c1 w R:=by kernel_rfl
 exact FT okF Ra Tryz.func36 (by kernel_rfl) (by kernel_rfl) (e.mpr h)
def UY (c1:Addr)(u2:Int)(w:World)(R:Q0):Prop:=Nw w (.cells #[.int .i64 0] 71) fun z3=>St z3 ⟨w.heap.size,0,none⟩ (.int .i64 u2) fun z4=>Ld z4 ⟨w.heap.size,0,none⟩ (Value.int .i64) fun x5=>St z4 c1 (.int .i64 x5) fun z6=>R z6
def rB:A7:=(.b (.q (.c .r (.q (.c (.q .r) (.q .r))))))
theorem yL (c1:Addr)(u2:Int)(w:World)(R:Q0)(h:UY c1 u2 w R):yJ c1 (some (.iface 71 (.agg #[.int .i64 u2]))) w R:=by
 have e:WQ prog FF Ig rB Tryz.f36 [.pointer (some c1)] (some (.iface 71 (.agg #[.int .i64 u2]))) w R=UY c1 u2 w R:=by kernel_rfl
 exact FT okF Ra Tryz.func36 (by kernel_rfl) (by kernel_rfl) (e.mpr h)
def Wh (w:World)(R:Q1 Int)(x5:Value)(z4:World):Prop:=yJ ⟨w.heap.size,0,none⟩ (some x5) z4 fun z6=>Ld z6 ⟨w.heap.size,0,none⟩ (Value.int .i64) fun x7=>R x7 z6
def UZ (c2:Addr)(w:World)(R:Q1 Int):Prop:=Nw w (.cells #[.int .i64 0] 28) fun z3=>C17 c2 z3 (fun z8=>St z8 ⟨w.heap.size,0,none⟩ (.int .i64 0) fun z9=>yJ ⟨w.heap.size,0,none⟩ none z9 fun Az=>Ld Az ⟨w.heap.size,0,none⟩ (Value.int .i64) fun Cm=>R Cm Az) (Wh w R)
def rC:Hw:=(.pre (.Bq .seq) (.here [2] (.q (.q .leaf))))
theorem yM (c2:Addr)(w:World)(R:Q1 Int)(h:UZ c2 w R):C16 (.func (.func 17) #[] #[.pointer (some c2)]) w R:=by
 have e:UP prog FF Ig (fun _ _=>False) rC Tryz.f16 [.func (.func 17) #[] #[.pointer (some c2)]] w [(.one (.int .i64))] (fun s w=>R s w)=UZ c2 w R:=by kernel_rfl
 exact (FU okF Ra Tryz.func16 (by kernel_rfl) (by kernel_rfl) (e.mpr h)).mono fun _ _ ⟨s,he,hR⟩=>⟨s,he,hR⟩
def S5 (o1:AG)(w:World)(R:Q1 Int)(PR:Q1 Value):Prop:=Nw w (.cells (Al.cells AD o1).toArray 25) fun z2=>C16 (.func (.func 17) #[] #[.pointer (some ⟨w.heap.size,0,none⟩)]) z2 fun r3 z4=>R r3 z4
theorem T5 (o1 w R PR):S5 o1 w R PR->C5 o1 w R PR:=Rx oi (.q (.q .l)) [.agg (Al.cells AD o1).toArray] Tryz.func5
def S31 (o1:AG)(w:World)(R:Q1 Bool):Prop:=Nw w (.cells (Al.cells AD o1).toArray 25) fun z2=>Ld z2 ⟨w.heap.size,0,none⟩ (Value.int .i64) fun x3=>Br (x3==7) (R true z2) (Ld z2 ⟨w.heap.size,0,none⟩ (Value.int .i64) fun x4=>R (x4==9) z2)
theorem T31 (o1 w R):S31 o1 w R->C31 o1 w R:=B5 ob (.q (.q .l)) [.agg (Al.cells AD o1).toArray] Tryz.func31
def S60 (x1:AG)(w:World)(R:Q1 (AG)):Prop:=Nw w (.cells (Al.cells AD x1).toArray 25) fun z2=>Nw z2 (.cells #[.int .i64 0,.int .i64 0,.int .i64 0,.string (⟨#[]⟩:ey),AA.v ⟨none,0,0⟩,AA.v ⟨none,0,0⟩] 25) fun z3=>Af z3 ⟨w.heap.size,0,none⟩ 0 AD fun x4=>A6 ⟨z2.heap.size,0,none⟩ 0 AD x4 z3 fun z5=>Af z5 ⟨z2.heap.size,0,none⟩ 0 AD fun x6=>R x6 z5
theorem T60 (x1 w R):S60 x1 w R->C60 x1 w R:=B5 (.agg [(.int .i64),(.int .i64),(.int .i64),.str,.Fu,.Fu]) (.q (.q .l)) [.agg (Al.cells AD x1).toArray] Tryz.func60
def S61 (s1:AA)(w:World)(R:Q1 AA):Prop:=Br s1.p.isNone (R (⟨none,0,0⟩:AA) w) (Nw w (.cells #[] 9) fun z2=>Rn prog (Builtin.append_ #[22,22] 22 #[AA.v ⟨some ⟨w.heap.size,0,none⟩,0,0⟩,AA.v s1]) z2 AA.v fun x3 z4=>R x3 z4)
theorem T61 (s1 w R):S61 s1 w R->C61 s1 w R:=B5 ol (.q (.s (.q (.c (.q .l) .l)) (.q .l))) [AA.v s1] Tryz.func61
def Sb (w:World)(z3:World)(Dt:AA)(Eg:AA)(R:Q1 (AG))(I20:Q1 Int)(s18:Int)(CV:World):Prop:=Br (decide (s18<(Eg.len:Int))) (0<=s18/\s18<(Eg.len:Nat)/\Nn Eg.p fun a21=>Af CV (a21.add ((s18).toNat*6)) 0 AD fun Ct=>Nw CV (.cells #[.int .i64 0,.int .i64 0,.int .i64 0,.string (⟨#[]⟩:ey),AA.v ⟨none,0,0⟩,AA.v ⟨none,0,0⟩] 25) fun Dz=>A6 ⟨CV.heap.size,0,none⟩ 0 AD Ct Dz fun z24=>Af z24 ⟨CV.heap.size,0,none⟩ 0 AD fun JY=>C59 JY (.func (.func 60) #[] #[]) z24 fun fw OP=>0<=s18/\s18<(Dt.len:Nat)/\Nn Dt.p fun a28=>A6 (a28.add ((s18).toNat*6)) 0 AD fw OP fun OQ=>I20 (wrap .i64 (s18+1)) OQ) (St CV (.add ⟨w.heap.size,0,none⟩ 5) (AA.v Dt) fun ER=>Af ER ⟨w.heap.size,0,none⟩ 0 AD fun Iy=>A6 ⟨z3.heap.size,0,none⟩ 0 AD Iy ER fun JX=>Af JX ⟨z3.heap.size,0,none⟩ 0 AD fun VN=>R VN JX)
def gQ (o1:AG)(w:World)(R:Q1 (AG)):Prop:=Nw w (.cells (Al.cells AD o1).toArray 25) fun z3=>Nw z3 (.cells #[.int .i64 0,.int .i64 0,.int .i64 0,.string (⟨#[]⟩:ey),AA.v ⟨none,0,0⟩,AA.v ⟨none,0,0⟩] 25) fun z4=>Af z4 ⟨w.heap.size,0,none⟩ 0 AD fun x5=>C60 x5 z4 fun r6 z7=>A6 ⟨w.heap.size,0,none⟩ 0 AD r6 z7 fun z8=>Ld z8 (.add ⟨w.heap.size,0,none⟩ 4) AA.v fun x9=>C61 x9 z8 fun LB Bg=>St Bg (.add ⟨w.heap.size,0,none⟩ 4) (AA.v LB) fun z12=>Ld z12 (.add ⟨w.heap.size,0,none⟩ 5) AA.v fun Et=>Br (!(Et.p.isNone)) (Ld z12 (.add ⟨w.heap.size,0,none⟩ 5) AA.v fun Em=>Rn prog (Instr.makeSlice 23 (.int .i64 (Em.len:Int)) (.int .i64 (Em.len:Int))) z12 AA.v fun Dt Bd=>Ld Bd (.add ⟨w.heap.size,0,none⟩ 5) AA.v fun Eg=>Lp (σ:=Int) (Sb w z3 Dt Eg R) 0 Bd) (Af z12 ⟨w.heap.size,0,none⟩ 0 AD fun Nc=>A6 ⟨z3.heap.size,0,none⟩ 0 AD Nc z12 fun SU=>Af SU ⟨z3.heap.size,0,none⟩ 0 AD fun UO=>R UO SU)
theorem yN (o1 w R):gQ o1 w R->C59 o1 (.func (.func 60) #[] #[]) w R:=B5 (.agg [(.int .i64),(.int .i64),(.int .i64),.str,.Fu,.Fu]) (.q (.q (.q (.s (.q (.c (.q (.s (.q (.b (.o [(25,oi)] [1,2,4,5,23,24] (.q (.s (.c .l .l) (.s (.b (.q .r)) .r)))))) .r)) .l)) (.q .l))))) [.agg (Al.cells AD o1).toArray,.func (.func 60) #[] #[]] Tryz.func59
def S33 (o1:AG)(w:World)(R:Q1 (AG)):Prop:=Nw w (.cells (Al.cells AD o1).toArray 25) fun z2=>Nw z2 (.cells #[.int .i64 0,.int .i64 0,.int .i64 0,.string (⟨#[]⟩:ey),AA.v ⟨none,0,0⟩,AA.v ⟨none,0,0⟩] 25) fun z3=>Af z3 ⟨w.heap.size,0,none⟩ 0 AD fun x4=>C59 x4 (.func (.func 60) #[] #[]) z3 fun r5 z6=>A6 ⟨z2.heap.size,0,none⟩ 0 AD r5 z6 fun z7=>Af z7 ⟨z2.heap.size,0,none⟩ 0 AD fun x8=>R x8 z7
theorem T33 (o1 w R):S33 o1 w R->qt o1 w R:=B5 (.agg [(.int .i64),(.int .i64),(.int .i64),.str,.Fu,.Fu]) (.q (.q .l)) [.agg (Al.cells AD o1).toArray] Tryz.func33
def ABB (s1:AA)(v2:ByteArray)(R:Q1 Int)(I5:Q1 Int)(s3:Int)(z4:World):Prop:=Br (decide (s3<(s1.len:Int))) (0<=s3/\s3<(s1.len:Nat)/\Nn s1.p fun a6=>Ld z4 (a6.add ((s3).toNat*1)) Value.string fun x7=>Br (v2.toList==x7.toList) (R s3 z4) (I5 (wrap .i64 (s3+1)) z4)) (R (-1) z4)
def S68 (s1:AA)(v2:ByteArray)(w:World)(R:Q1 Int):Prop:=Lp (σ:=Int) (ABB s1 v2 R) 0 w
theorem T68 (s1 v2 w R):S68 s1 v2 w R->C68 s1 v2 w R:=B5 oi (.q (.s (.q (.b (.o [(8,oi)] [0,1,7] (.q (.s (.c .l .l) (.s (.b (.q (.q (.c (.q .l) .l)))) .r)))))) (.q .l))) [AA.v s1,.string v2] Tryz.func68
def S43 (o1:AG)(B8:ByteArray)(w:World)(R:Q2 (AG) Bool):Prop:=Nw w (.cells (Al.cells AD o1).toArray 25) fun z3=>Nw z3 (.cells #[.int .i64 0,.int .i64 0,.int .i64 0,.string (⟨#[]⟩:ey),AA.v ⟨none,0,0⟩,AA.v ⟨none,0,0⟩] 25) fun z4=>Af z4 ⟨w.heap.size,0,none⟩ 0 AD fun x9=>C31 x9 z4 fun LB Bg=>Br (!LB) (A6 ⟨z3.heap.size,0,none⟩ 0 AD ((0,0,0,(⟨#[]⟩:ey),(⟨none,0,0⟩:AA),(⟨none,0,0⟩:AA)):AG) Bg fun z12=>Af z12 ⟨z3.heap.size,0,none⟩ 0 AD fun Et=>R Et false z12) (Ld Bg (.add ⟨w.heap.size,0,none⟩ 4) AA.v fun Em=>C68 Em B8 Bg fun FQ Bd=>Br (decide (FQ<0)) (A6 ⟨z3.heap.size,0,none⟩ 0 AD ((0,0,0,(⟨#[]⟩:ey),(⟨none,0,0⟩:AA),(⟨none,0,0⟩:AA)):AG) Bd fun z21=>Af z21 ⟨z3.heap.size,0,none⟩ 0 AD fun Ct=>R Ct false z21) (Ld Bd (.add ⟨w.heap.size,0,none⟩ 5) AA.v fun Mm=>Br (decide (FQ>=(Mm.len:Int))) (A6 ⟨z3.heap.size,0,none⟩ 0 AD ((0,0,0,(⟨#[]⟩:ey),(⟨none,0,0⟩:AA),(⟨none,0,0⟩:AA)):AG) Bd fun z24=>Af z24 ⟨z3.heap.size,0,none⟩ 0 AD fun JY=>R JY false z24) (Ld Bd (.add ⟨w.heap.size,0,none⟩ 5) AA.v fun HN=>0<=FQ/\FQ<(HN.len:Nat)/\Nn HN.p fun xR=>Af Bd (xR.add ((FQ).toNat*6)) 0 AD fun Oz=>qt Oz Bd fun Gy ER=>A6 ⟨z3.heap.size,0,none⟩ 0 AD Gy ER fun z31=>Af z31 ⟨z3.heap.size,0,none⟩ 0 AD fun Iz=>R Iz true z31)))
theorem T43 (o1 B8 w R):S43 o1 B8 w R->C43 o1 B8 w R:=Nb (.agg [(.int .i64),(.int .i64),(.int .i64),.str,.Fu,.Fu]) ob (.q (.s (.q (.c (.q .l) .l)) (.q (.s (.q (.c (.q .l) .l)) (.q .l))))) [.agg (Al.cells AD o1).toArray,.string B8] Tryz.func43
def ALZ (x1:ByteArray)(w:World)(R:Q1 Bool):Prop:=R (!(x1.toList==x1.toList)) w
theorem AWy (x1 w R):ALZ x1 w R->AEx x1 w R:=B5 ob (.q (.q .l)) [.string x1] Tryz.func119
def S93 (x1:ByteArray)(y2:ByteArray)(w:World)(R:Q1 Bool):Prop:=AEx x1 w fun r3 z4=>Br r3 (AEx y2 z4 fun r5 z6=>Br (!r5) (R true z6) (R (Op.bytesLess x1.toList y2.toList) z6)) (R (Op.bytesLess x1.toList y2.toList) z4)
theorem T93 (x1 y2 w R):S93 x1 y2 w R->C93 x1 y2 w R:=B5 ob (.q (.q .l)) [.string x1,.string y2] Tryz.func93
def S94 (x1:ByteArray)(w:World)(R:Q1 Bool):Prop:=R (!(x1.toList==x1.toList)) w
theorem T94 (x1 w R):S94 x1 w R->C94 x1 w R:=B5 ob (.q (.q .l)) [.string x1] Tryz.func94
def ABC (x1:AA)(Dj:ByteArray)(R:Q2 Int Bool)(I13:Q1 (Int×Int))(GF:Int×Int)(z12:World):Prop:=Br (decide (GF.1<GF.2)) (0<=(wrap .i64 (Int.fdiv (wrap .u64 (wrap .i64 (GF.1+GF.2))) (2^1)))/\(wrap .i64 (Int.fdiv (wrap .u64 (wrap .i64 (GF.1+GF.2))) (2^1)))<(x1.len:Nat)/\Nn x1.p fun OF=>Ld z12 (OF.add ((wrap .i64 (Int.fdiv (wrap .u64 (wrap .i64 (GF.1+GF.2))) (2^1))).toNat*1)) Value.string fun Dt=>C93 Dt Dj z12 fun O2 D3=>Br O2 (Lt (wrap .i64 ((wrap .i64 (Int.fdiv (wrap .u64 (wrap .i64 (GF.1+GF.2))) (2^1)))+1)) fun (Co:Int)=>I13 (Co,GF.2) D3) (I13 (GF.1,wrap .i64 (Int.fdiv (wrap .u64 (wrap .i64 (GF.1+GF.2))) (2^1))) D3)) (Br (decide (GF.1<(x1.len:Int))) (0<=GF.1/\GF.1<(x1.len:Nat)/\Nn x1.p fun xS=>Ld z12 (xS.add ((GF.1).toNat*1)) Value.string fun Ge=>Br (Ge.toList==Dj.toList) (R GF.1 true z12) (0<=GF.1/\GF.1<(x1.len:Nat)/\Nn x1.p fun a21=>Ld z12 (a21.add ((GF.1).toNat*1)) Value.string fun Ct=>C94 Ct z12 fun ll z24=>Br ll (C94 Dj z24 fun gN DT=>R GF.1 gN DT) (R GF.1 false z24))) (R GF.1 false z12))
def S57 (x1:AA)(Dj:ByteArray)(w:World)(R:Q2 Int Bool):Prop:=Lp (σ:=Int×Int) (ABC x1 Dj R) (0,(x1.len:Int)) w
theorem T57 (x1 Dj w R):S57 x1 Dj w R->C57 x1 Dj w R:=Nb oi ob (.q (.q (.q (.s (.b (.o [(7,oi),(8,oi)] [0,1,6] (.s (.q (.c .l .l)) (.b (.q (.q (.c .r .r))))))) (.q .l))))) [AA.v x1,.string Dj] Tryz.func57
def S62 (s1:AA)(w:World)(R:Q1 AA):Prop:=Br s1.p.isNone (R (⟨none,0,0⟩:AA) w) (Nw w (.cells #[] 25) fun z2=>Rn prog (Builtin.append_ #[23,23] 23 #[AA.v ⟨some ⟨w.heap.size,0,none⟩,0,0⟩,AA.v s1]) z2 AA.v fun x3 z4=>R x3 z4)
theorem T62 (s1 w R):S62 s1 w R->C62 s1 w R:=B5 ol (.q (.s (.q (.c (.q .l) .l)) (.q .l))) [AA.v s1] Tryz.func62
def S95 (s1:AA)(i2:Int)(j3:Int)(w:World)(R:Q1 AA):Prop:=0<=(s1.len:Int)/\(s1.len:Int)<=(s1.cap:Int)/\0<=j3/\j3<=((((s1.len:Int)).toNat:Nat):Int)/\0<=i2/\i2<=(j3.toNat:Int)/\Br (i2==j3) (R s1 w) (0<=i2/\i2<=(s1.cap:Int)/\0<=j3/\j3<=(s1.len:Int)/\Rn prog (Builtin.append_ #[22,22] 22 #[AA.v (s1.cut 1 0 ((i2).toNat) s1.cap),AA.v (s1.cut 1 ((j3).toNat) s1.len s1.cap)]) w.drew AA.v fun x4 z5=>0<=(s1.len:Int)/\(s1.len:Int)<=(x4.cap:Int)/\0<=(x4.len:Int)/\(x4.len:Int)<=((((s1.len:Int)).toNat:Nat):Int)/\Rn prog (Builtin.clear_ #[22] 0 #[AA.v (x4.cut 1 (((x4.len:Int)).toNat) (((s1.len:Int)).toNat) x4.cap)]) z5 (fun x:Value=>x) fun x6 z7=>R x4 z7)
theorem T95 (s1 i2 j3 w R):S95 s1 i2 j3 w R->C95 s1 i2 j3 w R:=B5 ol (.q (.q (.s (.q (.c (.q .l) .l)) (.q (.s (.Bq (.tail 6)) (.q (.q .l))))))) [AA.v s1,.int .i64 i2,.int .i64 j3] Tryz.func95
def S96 (s1:AA)(i2:Int)(j3:Int)(w:World)(R:Q1 AA):Prop:=0<=(s1.len:Int)/\(s1.len:Int)<=(s1.cap:Int)/\0<=j3/\j3<=((((s1.len:Int)).toNat:Nat):Int)/\0<=i2/\i2<=(j3.toNat:Int)/\Br (i2==j3) (R s1 w) (0<=i2/\i2<=(s1.cap:Int)/\0<=j3/\j3<=(s1.len:Int)/\Rn prog (Builtin.append_ #[23,23] 23 #[AA.v (s1.cut 6 0 ((i2).toNat) s1.cap),AA.v (s1.cut 6 ((j3).toNat) s1.len s1.cap)]) w.drew AA.v fun x4 z5=>0<=(s1.len:Int)/\(s1.len:Int)<=(x4.cap:Int)/\0<=(x4.len:Int)/\(x4.len:Int)<=((((s1.len:Int)).toNat:Nat):Int)/\Rn prog (Builtin.clear_ #[23] 0 #[AA.v (x4.cut 6 (((x4.len:Int)).toNat) (((s1.len:Int)).toNat) x4.cap)]) z5 (fun x:Value=>x) fun x6 z7=>R x4 z7)
theorem T96 (s1 i2 j3 w R):S96 s1 i2 j3 w R->C96 s1 i2 j3 w R:=B5 ol (.q (.q (.s (.q (.c (.q .l) .l)) (.q (.s (.Bq (.tail 6)) (.q (.q .l))))))) [AA.v s1,.int .i64 i2,.int .i64 j3] Tryz.func96
def S58 (o1:AG)(i2:Int)(w:World)(R:Q1 (AG)):Prop:=Nw w (.cells (Al.cells AD o1).toArray 25) fun z3=>Nw z3 (.cells #[.int .i64 0,.int .i64 0,.int .i64 0,.string (⟨#[]⟩:ey),AA.v ⟨none,0,0⟩,AA.v ⟨none,0,0⟩] 25) fun z4=>Ld z4 (.add ⟨w.heap.size,0,none⟩ 4) AA.v fun x5=>C61 x5 z4 fun r6 z7=>C95 r6 i2 (wrap .i64 (i2+1)) z7 fun r8 z9=>St z9 (.add ⟨w.heap.size,0,none⟩ 4) (AA.v r8) fun Az=>Ld Az (.add ⟨w.heap.size,0,none⟩ 5) AA.v fun Cm=>C62 Cm Az fun Eh AY=>C96 Eh i2 (wrap .i64 (i2+1)) AY fun Jt Bv=>St Bv (.add ⟨w.heap.size,0,none⟩ 5) (AA.v Jt) fun Bd=>Af Bd ⟨w.heap.size,0,none⟩ 0 AD fun Eg=>A6 ⟨z3.heap.size,0,none⟩ 0 AD Eg Bd fun CZ=>Af CZ ⟨z3.heap.size,0,none⟩ 0 AD fun En=>R En CZ
theorem T58 (o1 i2 w R):S58 o1 i2 w R->C58 o1 i2 w R:=B5 (.agg [(.int .i64),(.int .i64),(.int .i64),.str,.Fu,.Fu]) (.q (.q (.q (.q .l)))) [.agg (Al.cells AD o1).toArray,.int .i64 i2] Tryz.func58
def S28 (o1:AG)(B8:ByteArray)(w:World)(R:Q1 (AG))(PR:Q1 Value):Prop:=Nw w (.cells (Al.cells AD o1).toArray 25) fun z3=>Nw z3 (.cells #[.int .i64 0,.int .i64 0,.int .i64 0,.string (⟨#[]⟩:ey),AA.v ⟨none,0,0⟩,AA.v ⟨none,0,0⟩] 25) fun z4=>Af z4 ⟨w.heap.size,0,none⟩ 0 AD fun Cm=>C31 Cm z4 fun Eh AY=>Br Eh (Af AY ⟨w.heap.size,0,none⟩ 0 AD fun Em=>C5 Em AY (fun FQ Bd=>Br (FQ==0) (Ld Bd (.add ⟨w.heap.size,0,none⟩ 4) AA.v fun Eg=>C57 Eg B8 Bd fun pW Rg z20=>Br Rg (Af z20 ⟨w.heap.size,0,none⟩ 0 AD fun D6=>C58 D6 pW z20 fun OO Dz=>A6 ⟨w.heap.size,0,none⟩ 0 AD OO Dz fun z24=>Af z24 ⟨w.heap.size,0,none⟩ 0 AD fun JY=>qt JY z24 fun fw OP=>A6 ⟨z3.heap.size,0,none⟩ 0 AD fw OP fun z28=>Af z28 ⟨z3.heap.size,0,none⟩ 0 AD fun YK=>R YK z28) (Af z20 ⟨w.heap.size,0,none⟩ 0 AD fun VM=>qt VM z20 fun lr JX=>A6 ⟨z3.heap.size,0,none⟩ 0 AD lr JX fun FH=>Af FH ⟨z3.heap.size,0,none⟩ 0 AD fun Nc=>R Nc FH)) (Af Bd ⟨w.heap.size,0,none⟩ 0 AD fun Rz=>qt Rz Bd fun Nd z37=>A6 ⟨z3.heap.size,0,none⟩ 0 AD Nd z37 fun Hy=>Af Hy ⟨z3.heap.size,0,none⟩ 0 AD fun gM=>R gM Hy)) PR) (Af AY ⟨w.heap.size,0,none⟩ 0 AD fun R2=>qt R2 AY fun r41 Ek=>A6 ⟨z3.heap.size,0,none⟩ 0 AD r41 Ek fun Rd=>Af Rd ⟨z3.heap.size,0,none⟩ 0 AD fun R3=>R R3 Rd)
theorem T28 (o1 B8 w R PR):S28 o1 B8 w R PR->C28 o1 B8 w R PR:=Rx (.agg [(.int .i64),(.int .i64),(.int .i64),.str,.Fu,.Fu]) (.q (.s (.q (.c (.q (.q (.c .r .l))) .l)) (.q .l))) [.agg (Al.cells AD o1).toArray,.string B8] Tryz.func28
def S32 (o1:AG)(w:World)(R:Q2 (AG) Int)(PR:Q1 Value):Prop:=Nw w (.cells (Al.cells AD o1).toArray 25) fun z2=>Nw z2 (.cells #[.int .i64 0,.int .i64 0,.int .i64 0,.string (⟨#[]⟩:ey),AA.v ⟨none,0,0⟩,AA.v ⟨none,0,0⟩] 25) fun z3=>Af z3 ⟨w.heap.size,0,none⟩ 0 AD fun x4=>C5 x4 z3 (fun r5 z6=>Br (r5 !=0) (A6 ⟨z2.heap.size,0,none⟩ 0 AD ((0,0,0,(⟨#[]⟩:ey),(⟨none,0,0⟩:AA),(⟨none,0,0⟩:AA)):AG) z6 fun z7=>Af z7 ⟨z2.heap.size,0,none⟩ 0 AD fun x8=>R x8 r5 z7) (Af z6 ⟨w.heap.size,0,none⟩ 0 AD fun x9=>A6 ⟨z2.heap.size,0,none⟩ 0 AD x9 z6 fun Az=>Af Az ⟨z2.heap.size,0,none⟩ 0 AD fun Cm=>R Cm 0 Az)) PR
theorem T32 (o1 w R PR):S32 o1 w R PR->C32 o1 w R PR:=YJ (.agg [(.int .i64),(.int .i64),(.int .i64),.str,.Fu,.Fu]) oi (.q (.s (.q (.q (.c (.q .l) .l))) (.q .l))) [.agg (Al.cells AD o1).toArray] Tryz.func32
def S63 (s1:AA)(i2:Int)(v3:AA)(w:World)(R:Q1 AA):Prop:=0<=i2/\i2<=(s1.len:Int)/\Br ((v3.len:Int)==0) (R s1 w) (Br (i2==(s1.len:Int)) (Rn prog (Builtin.append_ #[22,22] 22 #[AA.v s1,AA.v v3]) w AA.v fun x6 z7=>R x6 z7) (Lt (decide ((wrap .i64 ((s1.len:Int)+(v3.len:Int)))>(s1.cap:Int))) fun (D5:Bool)=>Br D5 (0<=i2/\i2<=(s1.cap:Int)/\Lt (wrap .i64 ((wrap .i64 ((s1.len:Int)+(v3.len:Int)))-i2)) fun (Eg:Int)=>Rn prog (Builtin.append_ #[22,3] 22 #[AA.v (s1.cut 1 0 ((i2).toNat) s1.cap),.int .i64 Eg]) w AA.v fun Co CV=>0<=i2/\i2<=(Co.len:Int)/\Rn prog (Builtin.copy_ #[22,22] 3 #[AA.v (Co.cut 1 ((i2).toNat) Co.len Co.cap),AA.v v3]) CV (Value.int .i64) fun Ge z21=>0<=(wrap .i64 (i2+(v3.len:Int)))/\(wrap .i64 (i2+(v3.len:Int)))<=(Co.len:Int)/\0<=i2/\i2<=(s1.len:Int)/\Rn prog (Builtin.copy_ #[22,22] 3 #[AA.v (Co.cut 1 ((wrap .i64 (i2+(v3.len:Int))).toNat) Co.len Co.cap),AA.v (s1.cut 1 ((i2).toNat) s1.len s1.cap)]) z21.drew (Value.int .i64) fun Ct Dz=>R Co Dz) (0<=(wrap .i64 ((s1.len:Int)+(v3.len:Int)))/\(wrap .i64 ((s1.len:Int)+(v3.len:Int)))<=(s1.cap:Int)/\0<=(wrap .i64 (i2+(v3.len:Int)))/\(wrap .i64 (i2+(v3.len:Int)))<=(((s1.cut 1 0 ((wrap .i64 ((s1.len:Int)+(v3.len:Int))).toNat) s1.cap).len:Nat):Int)/\∃oz:Bool,∃z31:World,Wi prog 97 #[AA.v v3,AA.v ((s1.cut 1 0 ((wrap .i64 ((s1.len:Int)+(v3.len:Int))).toNat) s1.cap).cut 1 ((wrap .i64 (i2+(v3.len:Int))).toNat) ((s1.cut 1 0 ((wrap .i64 ((s1.len:Int)+(v3.len:Int))).toNat) s1.cap).len) ((s1.cut 1 0 ((wrap .i64 ((s1.len:Int)+(v3.len:Int))).toNat) s1.cap).cap))] w (.bool oz) z31/\Br (!oz) (0<=(wrap .i64 (i2+(v3.len:Int)))/\(wrap .i64 (i2+(v3.len:Int)))<=(((s1.cut 1 0 ((wrap .i64 ((s1.len:Int)+(v3.len:Int))).toNat) s1.cap).len:Nat):Int)/\0<=i2/\i2<=(((s1.cut 1 0 ((wrap .i64 ((s1.len:Int)+(v3.len:Int))).toNat) s1.cap).len:Nat):Int)/\Rn prog (Builtin.copy_ #[22,22] 3 #[AA.v ((s1.cut 1 0 ((wrap .i64 ((s1.len:Int)+(v3.len:Int))).toNat) s1.cap).cut 1 ((wrap .i64 (i2+(v3.len:Int))).toNat) ((s1.cut 1 0 ((wrap .i64 ((s1.len:Int)+(v3.len:Int))).toNat) s1.cap).len) ((s1.cut 1 0 ((wrap .i64 ((s1.len:Int)+(v3.len:Int))).toNat) s1.cap).cap)),AA.v ((s1.cut 1 0 ((wrap .i64 ((s1.len:Int)+(v3.len:Int))).toNat) s1.cap).cut 1 ((i2).toNat) ((s1.cut 1 0 ((wrap .i64 ((s1.len:Int)+(v3.len:Int))).toNat) s1.cap).len) ((s1.cut 1 0 ((wrap .i64 ((s1.len:Int)+(v3.len:Int))).toNat) s1.cap).cap))]) z31.drew (Value.int .i64) fun Iz FH=>0<=i2/\i2<=(((s1.cut 1 0 ((wrap .i64 ((s1.len:Int)+(v3.len:Int))).toNat) s1.cap).len:Nat):Int)/\Rn prog (Builtin.copy_ #[22,22] 3 #[AA.v ((s1.cut 1 0 ((wrap .i64 ((s1.len:Int)+(v3.len:Int))).toNat) s1.cap).cut 1 ((i2).toNat) ((s1.cut 1 0 ((wrap .i64 ((s1.len:Int)+(v3.len:Int))).toNat) s1.cap).len) ((s1.cut 1 0 ((wrap .i64 ((s1.len:Int)+(v3.len:Int))).toNat) s1.cap).cap)),AA.v v3]) FH (Value.int .i64) fun Nc SU=>R (s1.cut 1 0 ((wrap .i64 ((s1.len:Int)+(v3.len:Int))).toNat) s1.cap) SU) (0<=(s1.len:Int)/\(s1.len:Int)<=(((s1.cut 1 0 ((wrap .i64 ((s1.len:Int)+(v3.len:Int))).toNat) s1.cap).len:Nat):Int)/\Rn prog (Builtin.copy_ #[22,22] 3 #[AA.v ((s1.cut 1 0 ((wrap .i64 ((s1.len:Int)+(v3.len:Int))).toNat) s1.cap).cut 1 (((s1.len:Int)).toNat) ((s1.cut 1 0 ((wrap .i64 ((s1.len:Int)+(v3.len:Int))).toNat) s1.cap).len) ((s1.cut 1 0 ((wrap .i64 ((s1.len:Int)+(v3.len:Int))).toNat) s1.cap).cap)),AA.v v3]) z31 (Value.int .i64) fun UO z37=>0<=i2/\i2<=(((s1.cut 1 0 ((wrap .i64 ((s1.len:Int)+(v3.len:Int))).toNat) s1.cap).len:Nat):Int)/\C98 ((s1.cut 1 0 ((wrap .i64 ((s1.len:Int)+(v3.len:Int))).toNat) s1.cap).cut 1 ((i2).toNat) ((s1.cut 1 0 ((wrap .i64 ((s1.len:Int)+(v3.len:Int))).toNat) s1.cap).len) ((s1.cut 1 0 ((wrap .i64 ((s1.len:Int)+(v3.len:Int))).toNat) s1.cap).cap)) (v3.len:Int) z37 fun Hy=>R (s1.cut 1 0 ((wrap .i64 ((s1.len:Int)+(v3.len:Int))).toNat) s1.cap) Hy))))
theorem T63 (s1 i2 v3 w R):S63 s1 i2 v3 w R->C63 s1 i2 v3 w R:=B5 ol (.q (.q (.q (.s (.q (.c (.q .l) .l)) (.q (.s (.q (.c (.q .l) .l)) (.s (.q (.c (.q (.q (.s (.Bq (.tail 8)) (.q .l)))) .l)) (.q (.s (.q (.c (.s (.Bq (.tail 8)) (.q (.q .l))) .l)) (.q (.q (.q .l)))))))))))) [AA.v s1,.int .i64 i2,AA.v v3] Tryz.func63
def S64 (s1:AA)(i2:Int)(v3:AA)(w:World)(R:Q1 AA):Prop:=0<=i2/\i2<=(s1.len:Int)/\Br ((v3.len:Int)==0) (R s1 w) (Br (i2==(s1.len:Int)) (Rn prog (Builtin.append_ #[23,23] 23 #[AA.v s1,AA.v v3]) w AA.v fun x6 z7=>R x6 z7) (Lt (decide ((wrap .i64 ((s1.len:Int)+(v3.len:Int)))>(s1.cap:Int))) fun (D5:Bool)=>Br D5 (0<=i2/\i2<=(s1.cap:Int)/\Lt (wrap .i64 ((wrap .i64 ((s1.len:Int)+(v3.len:Int)))-i2)) fun (Eg:Int)=>Rn prog (Builtin.append_ #[23,3] 23 #[AA.v (s1.cut 6 0 ((i2).toNat) s1.cap),.int .i64 Eg]) w AA.v fun Co CV=>0<=i2/\i2<=(Co.len:Int)/\Rn prog (Builtin.copy_ #[23,23] 3 #[AA.v (Co.cut 6 ((i2).toNat) Co.len Co.cap),AA.v v3]) CV (Value.int .i64) fun Ge z21=>0<=(wrap .i64 (i2+(v3.len:Int)))/\(wrap .i64 (i2+(v3.len:Int)))<=(Co.len:Int)/\0<=i2/\i2<=(s1.len:Int)/\Rn prog (Builtin.copy_ #[23,23] 3 #[AA.v (Co.cut 6 ((wrap .i64 (i2+(v3.len:Int))).toNat) Co.len Co.cap),AA.v (s1.cut 6 ((i2).toNat) s1.len s1.cap)]) z21.drew (Value.int .i64) fun Ct Dz=>R Co Dz) (0<=(wrap .i64 ((s1.len:Int)+(v3.len:Int)))/\(wrap .i64 ((s1.len:Int)+(v3.len:Int)))<=(s1.cap:Int)/\0<=(wrap .i64 (i2+(v3.len:Int)))/\(wrap .i64 (i2+(v3.len:Int)))<=(((s1.cut 6 0 ((wrap .i64 ((s1.len:Int)+(v3.len:Int))).toNat) s1.cap).len:Nat):Int)/\∃oz:Bool,∃z31:World,Wi prog 99 #[AA.v v3,AA.v ((s1.cut 6 0 ((wrap .i64 ((s1.len:Int)+(v3.len:Int))).toNat) s1.cap).cut 6 ((wrap .i64 (i2+(v3.len:Int))).toNat) ((s1.cut 6 0 ((wrap .i64 ((s1.len:Int)+(v3.len:Int))).toNat) s1.cap).len) ((s1.cut 6 0 ((wrap .i64 ((s1.len:Int)+(v3.len:Int))).toNat) s1.cap).cap))] w (.bool oz) z31/\Br (!oz) (0<=(wrap .i64 (i2+(v3.len:Int)))/\(wrap .i64 (i2+(v3.len:Int)))<=(((s1.cut 6 0 ((wrap .i64 ((s1.len:Int)+(v3.len:Int))).toNat) s1.cap).len:Nat):Int)/\0<=i2/\i2<=(((s1.cut 6 0 ((wrap .i64 ((s1.len:Int)+(v3.len:Int))).toNat) s1.cap).len:Nat):Int)/\Rn prog (Builtin.copy_ #[23,23] 3 #[AA.v ((s1.cut 6 0 ((wrap .i64 ((s1.len:Int)+(v3.len:Int))).toNat) s1.cap).cut 6 ((wrap .i64 (i2+(v3.len:Int))).toNat) ((s1.cut 6 0 ((wrap .i64 ((s1.len:Int)+(v3.len:Int))).toNat) s1.cap).len) ((s1.cut 6 0 ((wrap .i64 ((s1.len:Int)+(v3.len:Int))).toNat) s1.cap).cap)),AA.v ((s1.cut 6 0 ((wrap .i64 ((s1.len:Int)+(v3.len:Int))).toNat) s1.cap).cut 6 ((i2).toNat) ((s1.cut 6 0 ((wrap .i64 ((s1.len:Int)+(v3.len:Int))).toNat) s1.cap).len) ((s1.cut 6 0 ((wrap .i64 ((s1.len:Int)+(v3.len:Int))).toNat) s1.cap).cap))]) z31.drew (Value.int .i64) fun Iz FH=>0<=i2/\i2<=(((s1.cut 6 0 ((wrap .i64 ((s1.len:Int)+(v3.len:Int))).toNat) s1.cap).len:Nat):Int)/\Rn prog (Builtin.copy_ #[23,23] 3 #[AA.v ((s1.cut 6 0 ((wrap .i64 ((s1.len:Int)+(v3.len:Int))).toNat) s1.cap).cut 6 ((i2).toNat) ((s1.cut 6 0 ((wrap .i64 ((s1.len:Int)+(v3.len:Int))).toNat) s1.cap).len) ((s1.cut 6 0 ((wrap .i64 ((s1.len:Int)+(v3.len:Int))).toNat) s1.cap).cap)),AA.v v3]) FH (Value.int .i64) fun Nc SU=>R (s1.cut 6 0 ((wrap .i64 ((s1.len:Int)+(v3.len:Int))).toNat) s1.cap) SU) (0<=(s1.len:Int)/\(s1.len:Int)<=(((s1.cut 6 0 ((wrap .i64 ((s1.len:Int)+(v3.len:Int))).toNat) s1.cap).len:Nat):Int)/\Rn prog (Builtin.copy_ #[23,23] 3 #[AA.v ((s1.cut 6 0 ((wrap .i64 ((s1.len:Int)+(v3.len:Int))).toNat) s1.cap).cut 6 (((s1.len:Int)).toNat) ((s1.cut 6 0 ((wrap .i64 ((s1.len:Int)+(v3.len:Int))).toNat) s1.cap).len) ((s1.cut 6 0 ((wrap .i64 ((s1.len:Int)+(v3.len:Int))).toNat) s1.cap).cap)),AA.v v3]) z31 (Value.int .i64) fun UO z37=>0<=i2/\i2<=(((s1.cut 6 0 ((wrap .i64 ((s1.len:Int)+(v3.len:Int))).toNat) s1.cap).len:Nat):Int)/\ATU ((s1.cut 6 0 ((wrap .i64 ((s1.len:Int)+(v3.len:Int))).toNat) s1.cap).cut 6 ((i2).toNat) ((s1.cut 6 0 ((wrap .i64 ((s1.len:Int)+(v3.len:Int))).toNat) s1.cap).len) ((s1.cut 6 0 ((wrap .i64 ((s1.len:Int)+(v3.len:Int))).toNat) s1.cap).cap)) (v3.len:Int) z37 fun Hy=>R (s1.cut 6 0 ((wrap .i64 ((s1.len:Int)+(v3.len:Int))).toNat) s1.cap) Hy))))
theorem T64 (s1 i2 v3 w R):S64 s1 i2 v3 w R->C64 s1 i2 v3 w R:=B5 ol (.q (.q (.q (.s (.q (.c (.q .l) .l)) (.q (.s (.q (.c (.q .l) .l)) (.s (.q (.c (.q (.q (.s (.Bq (.tail 8)) (.q .l)))) .l)) (.q (.s (.q (.c (.s (.Bq (.tail 8)) (.q (.q .l))) .l)) (.q (.q (.q .l)))))))))))) [AA.v s1,.int .i64 i2,AA.v v3] Tryz.func64
def S34 (o1:AG)(B8:ByteArray)(v3:AG)(w:World)(R:Q1 (AG)):Prop:=Nw w (.cells (Al.cells AD o1).toArray 25) fun z4=>Nw z4 (.cells (Al.cells AD v3).toArray 25) fun z5=>Nw z5 (.cells #[.int .i64 0,.int .i64 0,.int .i64 0,.string (⟨#[]⟩:ey),AA.v ⟨none,0,0⟩,AA.v ⟨none,0,0⟩] 25) fun z6=>Ld z6 (.add ⟨w.heap.size,0,none⟩ 4) AA.v fun x7=>C57 x7 B8 z6 fun r8 r9 Az=>Ld Az (.add ⟨w.heap.size,0,none⟩ 4) AA.v fun Cm=>C61 Cm Az fun Eh AY=>St AY (.add ⟨w.heap.size,0,none⟩ 4) (AA.v Eh) fun AN=>Ld AN (.add ⟨w.heap.size,0,none⟩ 5) AA.v fun Dt=>C62 Dt AN fun O2 D3=>St D3 (.add ⟨w.heap.size,0,none⟩ 5) (AA.v O2) fun CZ=>Br r9 (Ld CZ (.add ⟨w.heap.size,0,none⟩ 5) AA.v fun En=>Af CZ ⟨z4.heap.size,0,none⟩ 0 AD fun Ge=>0<=r8/\r8<(En.len:Nat)/\Nn En.p fun a21=>A6 (a21.add ((r8).toNat*6)) 0 AD Ge CZ fun z22=>Af z22 ⟨w.heap.size,0,none⟩ 0 AD fun Mm=>A6 ⟨z5.heap.size,0,none⟩ 0 AD Mm z22 fun z24=>Af z24 ⟨z5.heap.size,0,none⟩ 0 AD fun JY=>R JY z24) (Ld CZ (.add ⟨w.heap.size,0,none⟩ 4) AA.v fun HN=>Nw CZ (.cells #[.string B8] 9) fun OP=>C63 HN r8 (⟨some ⟨CZ.heap.size,0,none⟩,1,1⟩:AA) OP fun Yx OQ=>St OQ (.add ⟨w.heap.size,0,none⟩ 4) (AA.v Yx) fun ER=>Ld ER (.add ⟨w.heap.size,0,none⟩ 5) AA.v fun Iy=>Af ER ⟨z4.heap.size,0,none⟩ 0 AD fun Iz=>Nw ER (.cells #[.int .i64 (Iz.1),.int .i64 (Iz.2.1),.int .i64 (Iz.2.2.1),.string Iz.2.2.2.1,AA.v Iz.2.2.2.2.1,AA.v Iz.2.2.2.2.2] 25) fun FH=>C64 Iy r8 (⟨some ⟨ER.heap.size,0,none⟩,1,1⟩:AA) FH fun r34 SU=>St SU (.add ⟨w.heap.size,0,none⟩ 5) (AA.v r34) fun z36=>Af z36 ⟨w.heap.size,0,none⟩ 0 AD fun US=>A6 ⟨z5.heap.size,0,none⟩ 0 AD US z36 fun Hy=>Af Hy ⟨z5.heap.size,0,none⟩ 0 AD fun gM=>R gM Hy)
theorem T34 (o1 B8 v3 w R):S34 o1 B8 v3 w R->C34 o1 B8 v3 w R:=B5 (.agg [(.int .i64),(.int .i64),(.int .i64),.str,.Fu,.Fu]) (.q (.q (.q (.q (.s (.q (.c .r (.q .r))) (.q .l)))))) [.agg (Al.cells AD o1).toArray,.string B8,.agg (Al.cells AD v3).toArray] Tryz.func34
def S14 (o1:AG)(B8:ByteArray)(v3:AG)(w:World)(R:Q2 (AG) Int)(PR:Q1 Value):Prop:=Nw w (.cells (Al.cells AD o1).toArray 25) fun z4=>Nw z4 (.cells (Al.cells AD v3).toArray 25) fun z5=>Nw z5 (.cells #[.int .i64 0,.int .i64 0,.int .i64 0,.string (⟨#[]⟩:ey),AA.v ⟨none,0,0⟩,AA.v ⟨none,0,0⟩] 25) fun z6=>Af z6 ⟨w.heap.size,0,none⟩ 0 AD fun Cm=>C31 Cm z6 fun Eh AY=>Br (!Eh) (A6 ⟨z5.heap.size,0,none⟩ 0 AD ((0,0,0,(⟨#[]⟩:ey),(⟨none,0,0⟩:AA),(⟨none,0,0⟩:AA)):AG) AY fun AN=>Af AN ⟨z5.heap.size,0,none⟩ 0 AD fun Dt=>R Dt 10 AN) (Af AY ⟨w.heap.size,0,none⟩ 0 AD fun Ge=>C5 Ge AY (fun r21 z22=>Br (r21 !=0) (A6 ⟨z5.heap.size,0,none⟩ 0 AD ((0,0,0,(⟨#[]⟩:ey),(⟨none,0,0⟩:AA),(⟨none,0,0⟩:AA)):AG) z22 fun Dz=>Af Dz ⟨z5.heap.size,0,none⟩ 0 AD fun Fy=>R Fy r21 Dz) (Ld z22 ⟨z4.heap.size,0,none⟩ (Value.int .i64) fun VM=>Br (VM==0) (Af z22 ⟨w.heap.size,0,none⟩ 0 AD fun Iy=>C28 Iy B8 z22 (fun r32 FH=>A6 ⟨z5.heap.size,0,none⟩ 0 AD r32 FH fun z34=>Af z34 ⟨z5.heap.size,0,none⟩ 0 AD fun Rz=>R Rz 0 z34) PR) (Af z22 ⟨w.heap.size,0,none⟩ 0 AD fun UO=>Af z22 ⟨z4.heap.size,0,none⟩ 0 AD fun US=>C34 UO B8 US z22 fun YM z39=>qt YM z39 fun r40 Mi=>C32 r40 Mi (fun r42 lZ z44=>A6 ⟨z5.heap.size,0,none⟩ 0 AD r42 z44 fun ZF=>Af ZF ⟨z5.heap.size,0,none⟩ 0 AD fun Ry=>R Ry lZ ZF) PR))) PR)
theorem T14 (o1 B8 v3 w R PR):S14 o1 B8 v3 w R PR->C14 o1 B8 v3 w R PR:=YJ (.agg [(.int .i64),(.int .i64),(.int .i64),.str,.Fu,.Fu]) oi (.q (.s (.q (.c (.q .l) .l)) (.s (.q (.q (.c (.q .l) .l))) (.s (.q (.c (.q .l) .l)) (.q .l))))) [.agg (Al.cells AD o1).toArray,.string B8,.agg (Al.cells AD v3).toArray] Tryz.func14
def S27 (QV:AG)(EX:ByteArray)(w:World)(R:Q2 (AG) Int)(PR:Q1 Value):Prop:=Nw w (.cells (Al.cells AD QV).toArray 25) fun z3=>Nw z3 (.cells #[.int .i64 0,.int .i64 0,.int .i64 0,.string (⟨#[]⟩:ey),AA.v ⟨none,0,0⟩,AA.v ⟨none,0,0⟩] 25) fun z4=>Ld z4 ⟨w.heap.size,0,none⟩ (Value.int .i64) fun x7=>Br (x7 !=7) (A6 ⟨z3.heap.size,0,none⟩ 0 AD ((0,0,0,(⟨#[]⟩:ey),(⟨none,0,0⟩:AA),(⟨none,0,0⟩:AA)):AG) z4 fun z8=>Af z8 ⟨z3.heap.size,0,none⟩ 0 AD fun x9=>R x9 10 z8) (Af z4 ⟨w.heap.size,0,none⟩ 0 AD fun Em=>C5 Em z4 (fun FQ Bd=>Br (FQ !=0) (A6 ⟨z3.heap.size,0,none⟩ 0 AD ((0,0,0,(⟨#[]⟩:ey),(⟨none,0,0⟩:AA),(⟨none,0,0⟩:AA)):AG) Bd fun D3=>Af D3 ⟨z3.heap.size,0,none⟩ 0 AD fun Co=>R Co FQ D3) (Af Bd ⟨w.heap.size,0,none⟩ 0 AD fun En=>C28 En (⟨#[76,101,110,103,116,104]⟩:ey) Bd (fun Hz z21=>Nw z21 (.cells #[.int .i64 0,.int .i64 0,.int .i64 0,.string (⟨#[]⟩:ey),AA.v ⟨none,0,0⟩,AA.v ⟨none,0,0⟩] 25) fun z22=>A6 ⟨z21.heap.size,0,none⟩ 0 AD Hz z22 fun Dz=>St Dz ⟨z21.heap.size,0,none⟩ (.int .i64 9) fun z24=>St z24 (.add ⟨z21.heap.size,0,none⟩ 3) (.string EX) fun z25=>Af z25 ⟨z21.heap.size,0,none⟩ 0 AD fun HN=>C32 HN z25 (fun J4 Yx OQ=>A6 ⟨z3.heap.size,0,none⟩ 0 AD J4 OQ fun ER=>Af ER ⟨z3.heap.size,0,none⟩ 0 AD fun Iy=>R Iy Yx ER) PR) PR)) PR)
theorem T27 (QV EX w R PR):S27 QV EX w R PR->C27 QV EX w R PR:=YJ (.agg [(.int .i64),(.int .i64),(.int .i64),.str,.Fu,.Fu]) oi (.q (.s (.q (.c (.q .l) .l)) (.s (.q (.q (.c (.q .l) .l))) (.q (.q (.q (.q .l))))))) [.agg (Al.cells AD QV).toArray,.string EX] Tryz.func27
def AAb (w:World)(B2:AA)(AY:World)(z20:World)(R:Q2 (AG) Int)(PR:Q1 Value)(I44:Q1 Int)(l7:Int)(Rd:World):Prop:=Br (decide (l7<(B2.len:Int))) (0<=l7/\l7<(B2.len:Nat)/\Nn B2.p fun a45=>Ld Rd ((a45.add ((l7).toNat*6)).add 3) Value.string fun Ry=>Rn prog (Instr.lookup 90 (.map (some z20.heap.size)) (.string Ry) false) Rd Value.bool fun jo z48=>Br jo (A6 ⟨w.heap.size,0,none⟩ 0 AD ((0,0,0,(⟨#[]⟩:ey),(⟨none,0,0⟩:AA),(⟨none,0,0⟩:AA)):AG) z48 fun z49=>Af z49 ⟨w.heap.size,0,none⟩ 0 AD fun WT=>R WT 9 z49) (Ru prog (Instr.mapUpdate 90 (.map (some z20.heap.size)) (.string Ry) (.bool true)) z48 fun z51=>0<=(wrap .i64 (l7+1))/\(wrap .i64 (l7+1))<(B2.len:Nat)/\Nn B2.p fun a52=>Ld z51 (a52.add ((wrap .i64 (l7+1)).toNat*6)) (Value.int .i64) fun WU=>Br (WU !=0) (Af z51.drew ⟨AY.heap.size,0,none⟩ 0 AD fun R5=>0<=(wrap .i64 (l7+1))/\(wrap .i64 (l7+1))<(B2.len:Nat)/\Nn B2.p fun a55=>Af z51.drew (a55.add ((wrap .i64 (l7+1)).toNat*6)) 0 AD fun xa=>C34 R5 Ry xa z51.drew fun r57 ZE=>A6 ⟨AY.heap.size,0,none⟩ 0 AD r57 ZE fun z59=>I44 (wrap .i64 (l7+2)) z59) (I44 (wrap .i64 (l7+2)) z51))) (Af Rd ⟨AY.heap.size,0,none⟩ 0 AD fun VP=>qt VP Rd fun r61 z62=>C32 r61 z62 (fun r63 r64 z65=>A6 ⟨w.heap.size,0,none⟩ 0 AD r63 z65 fun z66=>Af z66 ⟨w.heap.size,0,none⟩ 0 AD fun Ys=>R Ys r64 z66) PR)
def AAa (w:World)(B2:AA)(R:Q2 (AG) Int)(PR:Q1 Value)(I14:Q1 Int)(Ck:Int)(AY:World):Prop:=Br (decide (Ck<(B2.len:Int))) (0<=Ck/\Ck<(B2.len:Nat)/\Nn B2.p fun WO=>Ld AY (WO.add ((Ck).toNat*6)) (Value.int .i64) fun D5=>Br (D5 !=5) (A6 ⟨w.heap.size,0,none⟩ 0 AD ((0,0,0,(⟨#[]⟩:ey),(⟨none,0,0⟩:AA),(⟨none,0,0⟩:AA)):AG) AY fun D3=>Af D3 ⟨w.heap.size,0,none⟩ 0 AD fun Co=>R Co 1 D3) (I14 (wrap .i64 (Ck+2)) AY)) (Nw AY (.cells #[.int .i64 0,.int .i64 0,.int .i64 0,.string (⟨#[]⟩:ey),AA.v ⟨none,0,0⟩,AA.v ⟨none,0,0⟩] 25) fun CV=>A6 ⟨AY.heap.size,0,none⟩ 0 AD ((7,0,0,(⟨#[]⟩:ey),(⟨none,0,0⟩:AA),(⟨none,0,0⟩:AA)):AG) CV fun z20=>Nw z20 (.map #[] 0) fun z21=>Lp (σ:=Int) (AAb w B2 AY z20 R PR) 0 z21)
def S29 (B2:AA)(w:World)(R:Q2 (AG) Int)(PR:Q1 Value):Prop:=Nw w (.cells #[.int .i64 0,.int .i64 0,.int .i64 0,.string (⟨#[]⟩:ey),AA.v ⟨none,0,0⟩,AA.v ⟨none,0,0⟩] 25) fun z2=>Br ((Int.tmod (B2.len:Int) 2) !=0) (A6 ⟨w.heap.size,0,none⟩ 0 AD ((0,0,0,(⟨#[]⟩:ey),(⟨none,0,0⟩:AA),(⟨none,0,0⟩:AA)):AG) z2 fun z4=>Af z4 ⟨w.heap.size,0,none⟩ 0 AD fun x5=>R x5 1 z4) (Lp (σ:=Int) (AAa w B2 R PR) 0 z2)
theorem T29 (B2 w R PR):S29 B2 w R PR->C29 B2 w R PR:=YJ (.agg [(.int .i64),(.int .i64),(.int .i64),.str,.Fu,.Fu]) oi (.q (.s (.q (.c (.q .l) .l)) (.s (.q (.b (.o [(4,oi)] [0,2] (.s (.q (.c .l .l)) (.s (.b (.q (.c (.q .l) .l))) .r))))) (.q (.q (.s (.q (.b (.o [(7,oi)] [0,2,5,6] (.s (.q (.c .l .l)) (.s (.b (.q (.s (.q (.c (.q .l) .l)) (.q (.q (.c (.Bq (.tail 7)) .l)))))) .r))))) (.q .l))))))) [AA.v B2] Tryz.func29
def S35 (QW:AA)(w:World)(R:Q1 (AG)):Prop:=Nw w (.cells #[.int .i64 0,.int .i64 0,.int .i64 0,.string (⟨#[]⟩:ey),AA.v ⟨none,0,0⟩,AA.v ⟨none,0,0⟩] 25) fun z2=>qt ((6,0,0,(⟨#[]⟩:ey),(⟨none,0,0⟩:AA),QW):AG) z2 fun r3 z4=>A6 ⟨w.heap.size,0,none⟩ 0 AD r3 z4 fun z5=>Af z5 ⟨w.heap.size,0,none⟩ 0 AD fun x6=>R x6 z5
theorem T35 (QW w R):S35 QW w R->C35 QW w R:=B5 (.agg [(.int .i64),(.int .i64),(.int .i64),.str,.Fu,.Fu]) (.q (.q .l)) [AA.v QW] Tryz.func35
def S13 (s1:ByteArray)(w:World)(R:Q1 (AG)):Prop:=Nw w (.cells #[.int .i64 0,.int .i64 0,.int .i64 0,.string (⟨#[]⟩:ey),AA.v ⟨none,0,0⟩,AA.v ⟨none,0,0⟩] 25) fun z2=>A6 ⟨w.heap.size,0,none⟩ 0 AD ((5,0,0,s1,(⟨none,0,0⟩:AA),(⟨none,0,0⟩:AA)):AG) z2 fun z3=>Af z3 ⟨w.heap.size,0,none⟩ 0 AD fun x4=>R x4 z3
theorem T13 (s1 w R):S13 s1 w R->C13 s1 w R:=B5 (.agg [(.int .i64),(.int .i64),(.int .i64),.str,.Fu,.Fu]) (.q (.q .l)) [.string s1] Tryz.func13
def S30 (n1:Int)(w:World)(R:Q1 (AG)):Prop:=Nw w (.cells #[.int .i64 0,.int .i64 0,.int .i64 0,.string (⟨#[]⟩:ey),AA.v ⟨none,0,0⟩,AA.v ⟨none,0,0⟩] 25) fun z2=>A6 ⟨w.heap.size,0,none⟩ 0 AD ((2,n1,0,(⟨#[]⟩:ey),(⟨none,0,0⟩:AA),(⟨none,0,0⟩:AA)):AG) z2 fun z3=>Af z3 ⟨w.heap.size,0,none⟩ 0 AD fun x4=>R x4 z3
theorem T30 (n1 w R):S30 n1 w R->C30 n1 w R:=B5 (.agg [(.int .i64),(.int .i64),(.int .i64),.str,.Fu,.Fu]) (.q (.q .l)) [.int .i64 n1] Tryz.func30
end
section
open Sh
def vt (a0:Option Addr):=K0 104 #[.pointer a0]
def lL (b1:Option Addr)(c2:Int):=K1 vR 80 #[.pointer b1,.int .u8 c2]
def C86 (b1:Option Addr)(s2:ByteArray):=K2 vi vR 86 #[.pointer b1,.string s2]
def C81 (a0:Option Addr):=K1 Value.string 81 #[.pointer a0]
def S80 (b1:Option Addr)(c2:Int)(w:World)(R:Q1 Value):Prop:=vt b1 w fun z3=>Nn b1 fun a4=>Ld z3 (a4.add 1) AA.v fun x5=>Nw z3 (.cells #[.int .u8 c2] 5) fun z6=>Rn prog (Builtin.append_ #[108,108] 108 #[AA.v x5,AA.v ⟨some ⟨z3.heap.size,0,none⟩,1,1⟩]) z6 AA.v fun x7 z8=>Nn b1 fun a9=>St z8 (a9.add 1) (AA.v x7) fun Az=>R Value.nilIface Az
theorem T80 (b1 c2 w R):S80 b1 c2 w R->lL b1 c2 w R:=B5 (.one .raw) (.q (.q (.q (.q .l)))) [.pointer b1,.int .u8 c2] Tryz.func80
def S86 (b1:Option Addr)(s2:ByteArray)(w:World)(R:Q2 Int Value):Prop:=vt b1 w fun z3=>Nn b1 fun a4=>Ld z3 (a4.add 1) AA.v fun x5=>Rn prog (Builtin.append_ #[108,9] 108 #[AA.v x5,.string s2]) z3 AA.v fun x6 z7=>Nn b1 fun a8=>St z7 (a8.add 1) (AA.v x6) fun z9=>R (s2.size:Int) Value.nilIface z9
theorem T86 (b1 s2 w R):S86 b1 s2 w R->C86 b1 s2 w R:=Nb oi (.one .raw) (.q (.q (.q (.q .l)))) [.pointer b1,.string s2] Tryz.func86
end
section
open Sh
def C71 (s1:ByteArray):=K1 Value.string 71 #[.string s1]
def C48 (s1:ByteArray):=K1 Value.string 48 #[.string s1]
def C75 (c1:Int):=K1 vi 75 #[.int .u8 c1]
def C76 (c1:Int):=K1 Value.bool 76 #[.int .u8 c1]
def Rj (DH:Bool)(B4:Int):=P0 78 #[.bool DH,.int .i64 B4]
def vd (x1:Option Addr)(b2:AA):=P0 77 #[.pointer x1,AA.v b2]
def C74 (s1:ByteArray)(x2:Option Addr):=P0 74 #[.string s1,.pointer x2]
def vm (g1:Option Addr)(x2:Option Addr):=P0 83 #[.pointer g1,.pointer x2]
def C84 (LA:ByteArray)(g2:Option Addr)(x3:Option Addr):=P0 84 #[.string LA,.pointer g2,.pointer x3]
def C82 (s1:ByteArray)(x2:Option Addr):=P0 82 #[.string s1,.pointer x2]
def C88 (s1:ByteArray)(GU:Int):=P1 Value.string 88 #[.string s1,.int .i64 GU]
def C87 (s1:ByteArray)(x2:Option Addr):=P0 87 #[.string s1,.pointer x2]
def NP (c1:Addr)(c2:Addr)(u:Option Value)(w:World)(R:Q0):Prop:=Gw prog 102 #[.pointer (some c1),.pointer (some c2)] u w R
def C73 (s1:ByteArray)(AM:Int)(AQn:Value):=K2 Value.string vi 73 #[.string s1,.int .i64 AM,AQn]
def C50 (s1:ByteArray)(AM:Int):=K2 Value.string vi 50 #[.string s1,.int .i64 AM]
def C85 (s1:ByteArray):=K1 vi 85 #[.string s1]
def C53 (s1:ByteArray):=K1 Value.string 53 #[.string s1]
def C54 (s1:ByteArray)(AM:Int):=K2 Value.string vi 54 #[.string s1,.int .i64 AM]
def C52 (s1:ByteArray)(AM:Int):=K2 Value.string vi 52 #[.string s1,.int .i64 AM]
def C79 (s1:AA)(n2:Int):=P1 vR 79 #[AA.v s1,.int .i64 n2]
def zy (s1:ByteArray)(R:Q1 ByteArray)(I6:Q1 (AA×Int))(s4:AA×Int)(z5:World):Prop:=Br (decide (s4.2<(s1.size:Int))) (0<=s4.2/\s4.2<((s1).size:Nat)/\0<=(Int.fdiv (Cp s1 s4.2) (2^4))/\(Int.fdiv (Cp s1 s4.2) (2^4))<(((⟨#[48,49,50,51,52,53,54,55,56,57,65,66,67,68,69,70]⟩:ey)).size:Nat)/\0<=s4.2/\s4.2<((s1).size:Nat)/\0<=(CY .u8 (Cp s1 s4.2) 15)/\(CY .u8 (Cp s1 s4.2) 15)<(((⟨#[48,49,50,51,52,53,54,55,56,57,65,66,67,68,69,70]⟩:ey)).size:Nat)/\Nw z5.drew (.cells #[.int .u8 (Cp (⟨#[48,49,50,51,52,53,54,55,56,57,65,66,67,68,69,70]⟩:ey) (Int.fdiv (Cp s1 s4.2) (2^4))),.int .u8 (Cp (⟨#[48,49,50,51,52,53,54,55,56,57,65,66,67,68,69,70]⟩:ey) (CY .u8 (Cp s1 s4.2) 15))] 5) fun z7=>Rn prog (Builtin.append_ #[108,108] 108 #[AA.v s4.1,AA.v ⟨some ⟨z5.drew.heap.size,0,none⟩,2,2⟩]) z7 AA.v fun x8 z9=>I6 (x8,wrap .i64 (s4.2+1)) z9) (Rn prog (convert 108 9 (AA.v s4.1)) z5 Value.string fun D0 Bg=>R D0 Bg)
def S71 (s1:ByteArray)(w:World)(R:Q1 ByteArray):Prop:=Rn prog (Instr.makeSlice 108 (.int .i64 0) (.int .i64 (wrap .i64 (2*(s1.size:Int))))) w AA.v fun x2 z3=>Lp (σ:=AA×Int) (zy s1 R) (x2,0) z3
theorem T71 (s1 w R):S71 s1 w R->C71 s1 w R:=B5 os (.q (.q (.s (.q (.b (.o [(3,ol),(11,oi)] [0,10] (.q (.s (.c .l .l) (.s (.b (.q (.Bq (.held [11] (.take 0 (.take 1 (.take 2 (.take 3 (.take 4 (.take 5 (.take 6 (.take 7 (.take 8 (.take 9 (.take 10 (.Aq 11 (some [12]) (.Aq 12 (some []) (.take 13 .done)))))))))))))))))) .r)))))) (.q .l)))) [.string s1] Tryz.func71
def S48 (s1:ByteArray)(w:World)(R:Q1 ByteArray):Prop:=C71 s1 w fun r2 z3=>(((r2).size+((⟨#[62]⟩:ey)).size:Nat):Int)<=IntKind.i64.max/\R (r2++(⟨#[62]⟩:ey)) z3
theorem T48 (s1 w R):S48 s1 w R->C48 s1 w R:=B5 os (.q (.q .l)) [.string s1] Tryz.func48
def S75 (c1:Int)(w:World)(R:Q1 Int):Prop:=Br (decide (c1>=48)) (Br (decide (c1<=57)) (R (wrap .i64 (wrap .u8 (c1-48))) w) (Br (decide (c1>=65)) (Br (decide (c1<=70)) (R (wrap .i64 ((wrap .i64 (wrap .u8 (c1-65)))+10)) w) (Br (decide (c1>=97)) (Br (decide (c1<=102)) (R (wrap .i64 ((wrap .i64 (wrap .u8 (c1-97)))+10)) w) (R (-1) w)) (R (-1) w))) (Br (decide (c1>=97)) (Br (decide (c1<=102)) (R (wrap .i64 ((wrap .i64 (wrap .u8 (c1-97)))+10)) w) (R (-1) w)) (R (-1) w)))) (Br (decide (c1>=65)) (Br (decide (c1<=70)) (R (wrap .i64 ((wrap .i64 (wrap .u8 (c1-65)))+10)) w) (Br (decide (c1>=97)) (Br (decide (c1<=102)) (R (wrap .i64 ((wrap .i64 (wrap .u8 (c1-97)))+10)) w) (R (-1) w)) (R (-1) w))) (Br (decide (c1>=97)) (Br (decide (c1<=102)) (R (wrap .i64 ((wrap .i64 (wrap .u8 (c1-97)))+10)) w) (R (-1) w)) (R (-1) w)))
theorem T75 (c1 w R):S75 c1 w R->C75 c1 w R:=B5 oi (.q (.s (.b (.q (.c (.q .l) (.q (.c (.q .l) (.q (.c (.q .l) .l))))))) (.q .l))) [.int .u8 c1] Tryz.func75
def S76 (c1:Int)(w:World)(R:Q1 Bool):Prop:=C67 (⟨#[0,9,10,12,13,32]⟩:ey) c1 w fun r2 z3=>R (decide (r2>=0)) z3
theorem T76 (c1 w R):S76 c1 w R->C76 c1 w R:=B5 ob (.q (.q .l)) [.int .u8 c1] Tryz.func76
def S78 (DH:Bool)(B4:Int)(w:World)(R:Q0)(PR:Q1 Value):Prop:=Br (!DH) (PR (.iface 142 (.agg #[.int .i64 B4])) w) (R w)
theorem T78 (DH B4 w R PR):S78 DH B4 w R PR->Rj DH B4 w R PR:=VL (.q (.c .r .l)) [.bool DH,.int .i64 B4] Tryz.func78
def S77 (x1:Option Addr)(b2:AA)(w:World)(R:Q0)(PR:Q1 Value):Prop:=Nn x1 fun a3=>Ld w.drew a3 AA.v fun x4=>Nn x1 fun a5=>Ld w.drew (a5.add 1) (Value.int .i64) fun x6=>Rj (decide ((wrap .i64 ((x4.len:Int)+(b2.len:Int)))<=x6)) 5 w.drew (fun z7=>Nn x1 fun a8=>Ld z7 a8 AA.v fun x9=>Rn prog (Builtin.append_ #[108,108] 108 #[AA.v x9,AA.v b2]) z7 AA.v fun D0 Bg=>Nn x1 fun a12=>St Bg a12 (AA.v D0) fun AY=>R AY) PR
theorem T77 (x1 b2 w R PR):S77 x1 b2 w R PR->vd x1 b2 w R PR:=VL (.s (.Bq (.tail 13)) .r) [.pointer x1,AA.v b2] Tryz.func77
def mO (s1:ByteArray)(x2:Option Addr)(R:Q0)(PR:Q1 Value)(I5:Q1 (Int×Int))(s3:Int×Int)(z4:World):Prop:=Br (decide (s3.2<(s1.size:Int))) (0<=s3.2/\s3.2<((s1).size:Nat)/\C75 (Cp s1 s3.2) z4 fun r6 z7=>C76 (Cp s1 s3.2) z7 fun r8 z9=>Br r8 (I5 (s3.1,wrap .i64 (s3.2+1)) z9) (Br ((Cp s1 s3.2)==62) (Br (decide (s3.1>=0)) (Nw z9 (.cells #[.int .u8 (wrap .u8 (wrap .i64 (16*s3.1)))] 5) fun Az=>vd x2 (⟨some ⟨z9.heap.size,0,none⟩,1,1⟩:AA) Az (fun Bg=>R Bg) PR) (R z9)) (Br (decide (r6<0)) (Rj false 3 z9 (fun z12=>I5 (s3.1,wrap .i64 (s3.2+1)) z12) PR) (Br (decide (s3.1<0)) (I5 (r6,wrap .i64 (s3.2+1)) z9) (Nw z9 (.cells #[.int .u8 (wrap .u8 (wrap .i64 ((wrap .i64 (16*s3.1))+r6)))] 5) fun AY=>vd x2 (⟨some ⟨z9.heap.size,0,none⟩,1,1⟩:AA) AY (fun AN=>I5 ((-1),wrap .i64 (s3.2+1)) AN) PR))))) (Rj false 4 z4 (fun Bv=>R Bv) PR)
def S74 (s1:ByteArray)(x2:Option Addr)(w:World)(R:Q0)(PR:Q1 Value):Prop:=Lp (σ:=Int×Int) (mO s1 x2 R PR) ((-1),0) w
theorem T74 (s1 x2 w R PR):S74 s1 x2 w R PR->C74 s1 x2 w R PR:=VL (.q (.s (.q (.b (.o [(4,oi),(10,oi)] [0,1,9] (.q (.s (.c .l .l) (.s (.b (.q (.q (.q (.b (.q (.c .l (.q (.c (.s (.q (.c .r .l)) .l) (.q (.c .r (.q (.c .r (.q .r)))))))))))))) .r)))))) .r)) [.string s1,.pointer x2] Tryz.func74
def AAK (g1:Option Addr)(x2:Option Addr)(Oz:Int)(YK:Int)(VM:Int)(Iy:Int)(Iz:Int)(R:Q0)(PR:Q1 Value)(I35:Q1 (Int×Int))(gH:Int×Int)(z34:World):Prop:=Br (decide (gH.2<5)) (0<=gH.2/\gH.2<(5:Nat)/\∃UO:Int,(#[.int .u64 Oz,.int .u64 YK,.int .u64 VM,.int .u64 Iy,.int .u64 Iz]:Array Value)[(gH.2).toNat*1]?=some (.int .u64 UO)/\Nn g1 fun a37=>0<=gH.2/\gH.2<(5:Nat)/\Ld z34 (a37.add ((gH.2).toNat*1)) (Value.int .u8) fun x38=>I35 (wrap .u64 (gH.1+(wrap .u64 ((wrap .u64 x38)*UO))),wrap .i64 (gH.2+1)) z34) (Rj (decide (gH.1<4294967296)) 3 z34 (fun z39=>Nw z39 (.cells #[.int .u8 0,.int .u8 0,.int .u8 0,.int .u8 0] 114) fun z40=>St z40 ⟨z39.heap.size,0,none⟩ (.int .u8 (wrap .u8 (Int.fdiv gH.1 (2^24)))) fun Mi=>St Mi (.add ⟨z39.heap.size,0,none⟩ 1) (.int .u8 (wrap .u8 (Int.fdiv gH.1 (2^16)))) fun Ek=>St Ek (.add ⟨z39.heap.size,0,none⟩ 2) (.int .u8 (wrap .u8 (Int.fdiv gH.1 (2^8)))) fun Rd=>St Rd (.add ⟨z39.heap.size,0,none⟩ 3) (.int .u8 (wrap .u8 gH.1)) fun z44=>Nn g1 fun a45=>Ld z44 (a45.add 5) (Value.int .i64) fun Ry=>0<=(wrap .i64 (Ry-1))/\(wrap .i64 (Ry-1))<=((4:Nat):Int)/\vd x2 ((⟨some ⟨z39.heap.size,0,none⟩,4,4⟩:AA).cut 1 0 ((wrap .i64 (Ry-1)).toNat) 4) z44 (fun z47=>Nn g1 fun a48=>St z47 a48 (.int .u8 0) fun z49=>St z49 (a48.add 1) (.int .u8 0) fun z50=>St z50 (a48.add 2) (.int .u8 0) fun z51=>St z51 (a48.add 3) (.int .u8 0) fun z52=>St z52 (a48.add 4) (.int .u8 0) fun z53=>St z53 (a48.add 5) (.int .i64 0) fun oq=>R oq) PR) PR)
def AAJ (g1:Option Addr)(x2:Option Addr)(R:Q0)(PR:Q1 Value)(I14:Q1 Int)(Ck:Int)(AY:World):Prop:=Br (decide (Ck<5)) (Nn g1 fun WO=>0<=Ck/\Ck<(5:Nat)/\St AY (WO.add ((Ck).toNat*1)) (.int .u8 84) fun Bd=>I14 (wrap .i64 (Ck+1)) Bd) (Ld AY ⟨0,0,none⟩ (Value.int .u64) fun Oz=>Ld AY (.add ⟨0,0,none⟩ 1) (Value.int .u64) fun YK=>Ld AY (.add ⟨0,0,none⟩ 2) (Value.int .u64) fun VM=>Ld AY (.add ⟨0,0,none⟩ 3) (Value.int .u64) fun Iy=>Ld AY (.add ⟨0,0,none⟩ 4) (Value.int .u64) fun Iz=>Lp (σ:=Int×Int) (AAK g1 x2 Oz YK VM Iy Iz R PR) (0,0) AY)
def S83 (g1:Option Addr)(x2:Option Addr)(w:World)(R:Q0)(PR:Q1 Value):Prop:=Nn g1 fun J3=>Ld w (J3.add 5) (Value.int .i64) fun Cm=>Lp (σ:=Int) (AAJ g1 x2 R PR) Cm w
theorem T83 (g1 x2 w R PR):S83 g1 x2 w R PR->vm g1 x2 w R PR:=VL (.s (.q (.b (.o [(4,oi)] [0,1] (.s (.q (.c .l .l)) (.s (.b .r) .r))))) (.q (.s (.q (.b (.o [(5,(.one (.int .u64))),(23,oi)] [0,1,22] (.q (.s (.c .l .l) (.s (.b (.q .r)) .r)))))) (.q (.q (.q .r)))))) [.pointer g1,.pointer x2] Tryz.func83
def S84 (LA:ByteArray)(g2:Option Addr)(x3:Option Addr)(w:World)(R:Q0)(PR:Q1 Value):Prop:=Rj (!(LA.toList==(⟨#[]⟩:ey).toList)) 4 w (fun z4=>0<=(0:Int)/\(0:Int)<((LA).size:Nat)/\Br ((Cp LA 0)==62) (Nn g2 fun a5=>Ld z4 (a5.add 5) (Value.int .i64) fun x6=>Rj (x6 !=1) 3 z4 (fun z7=>Nn g2 fun a8=>Ld z7 (a8.add 5) (Value.int .i64) fun x9=>Br (decide (x9>0)) (vm g2 x3 z7 (fun Az=>R Az) PR) (R z7)) PR) (Rj false 3 z4 (fun Bg=>Nn g2 fun a12=>Ld Bg (a12.add 5) (Value.int .i64) fun Et=>Br (decide (Et>0)) (vm g2 x3 Bg (fun AN=>R AN) PR) (R Bg)) PR)) PR
theorem T84 (LA g2 x3 w R PR):S84 LA g2 x3 w R PR->C84 LA g2 x3 w R PR:=VL (.q (.q (.q (.c .r .l)))) [.string LA,.pointer g2,.pointer x3] Tryz.func84
def PZ (w:World)(s1:ByteArray)(x2:Option Addr)(R:Q0)(PR:Q1 Value)(I6:Q1 Int)(s4:Int)(z5:World):Prop:=Br (decide (s4<(s1.size:Int))) (0<=s4/\s4<((s1).size:Nat)/\C76 (Cp s1 s4) z5 fun r7 z8=>Br r7 (I6 (wrap .i64 (s4+1)) z8) (Br ((Cp s1 s4)==122) (Ld z8 (.add ⟨w.heap.size,0,none⟩ 5) (Value.int .i64) fun x9=>Br (x9==0) (Nw z8 (.cells #[.int .u8 0,.int .u8 0,.int .u8 0,.int .u8 0] 5) fun Az=>vd x2 (⟨some ⟨z8.heap.size,0,none⟩,4,4⟩:AA) Az (fun Bg=>I6 (wrap .i64 (s4+1)) Bg) PR) (Br (decide ((Cp s1 s4)>=33)) (Br (decide ((Cp s1 s4)<=117)) (Ld z8 (.add ⟨w.heap.size,0,none⟩ 5) (Value.int .i64) fun DA=>0<=DA/\DA<(5:Nat)/\St z8 ((⟨w.heap.size,0,none⟩:Addr).add ((DA).toNat*1)) (.int .u8 (wrap .u8 ((Cp s1 s4)-33))) fun AY=>Ld AY (.add ⟨w.heap.size,0,none⟩ 5) (Value.int .i64) fun Em=>St AY (.add ⟨w.heap.size,0,none⟩ 5) (.int .i64 (wrap .i64 (Em+1))) fun Bv=>Ld Bv (.add ⟨w.heap.size,0,none⟩ 5) (Value.int .i64) fun D5=>Br (D5==5) (vm (some ⟨w.heap.size,0,none⟩) x2 Bv (fun D3=>I6 (wrap .i64 (s4+1)) D3) PR) (I6 (wrap .i64 (s4+1)) Bv)) (Br ((Cp s1 s4)==126) (0<=(wrap .i64 (s4+1))/\(wrap .i64 (s4+1))<=(s1.size:Int)/\C84 (s1.extract ((wrap .i64 (s4+1)).toNat) ((s1).size)) (some ⟨w.heap.size,0,none⟩) x2 z8 (fun CZ=>R CZ) PR) (Rj false 3 z8 (fun CV=>I6 (wrap .i64 (s4+1)) CV) PR))) (Br ((Cp s1 s4)==126) (0<=(wrap .i64 (s4+1))/\(wrap .i64 (s4+1))<=(s1.size:Int)/\C84 (s1.extract ((wrap .i64 (s4+1)).toNat) ((s1).size)) (some ⟨w.heap.size,0,none⟩) x2 z8 (fun z20=>R z20) PR) (Rj false 3 z8 (fun z21=>I6 (wrap .i64 (s4+1)) z21) PR)))) (Br (decide ((Cp s1 s4)>=33)) (Br (decide ((Cp s1 s4)<=117)) (Ld z8 (.add ⟨w.heap.size,0,none⟩ 5) (Value.int .i64) fun Ct=>0<=Ct/\Ct<(5:Nat)/\St z8 ((⟨w.heap.size,0,none⟩:Addr).add ((Ct).toNat*1)) (.int .u8 (wrap .u8 ((Cp s1 s4)-33))) fun Dz=>Ld Dz (.add ⟨w.heap.size,0,none⟩ 5) (Value.int .i64) fun Fy=>St Dz (.add ⟨w.heap.size,0,none⟩ 5) (.int .i64 (wrap .i64 (Fy+1))) fun z25=>Ld z25 (.add ⟨w.heap.size,0,none⟩ 5) (Value.int .i64) fun HN=>Br (HN==5) (vm (some ⟨w.heap.size,0,none⟩) x2 z25 (fun OP=>I6 (wrap .i64 (s4+1)) OP) PR) (I6 (wrap .i64 (s4+1)) z25)) (Br ((Cp s1 s4)==126) (0<=(wrap .i64 (s4+1))/\(wrap .i64 (s4+1))<=(s1.size:Int)/\C84 (s1.extract ((wrap .i64 (s4+1)).toNat) ((s1).size)) (some ⟨w.heap.size,0,none⟩) x2 z8 (fun z28=>R z28) PR) (Rj false 3 z8 (fun OQ=>I6 (wrap .i64 (s4+1)) OQ) PR))) (Br ((Cp s1 s4)==126) (0<=(wrap .i64 (s4+1))/\(wrap .i64 (s4+1))<=(s1.size:Int)/\C84 (s1.extract ((wrap .i64 (s4+1)).toNat) ((s1).size)) (some ⟨w.heap.size,0,none⟩) x2 z8 (fun ER=>R ER) PR) (Rj false 3 z8 (fun z31=>I6 (wrap .i64 (s4+1)) z31) PR))))) (Rj false 4 z5 (fun JX=>R JX) PR)
def S82 (s1:ByteArray)(x2:Option Addr)(w:World)(R:Q0)(PR:Q1 Value):Prop:=Nw w (.cells #[.int .u8 0,.int .u8 0,.int .u8 0,.int .u8 0,.int .u8 0,.int .i64 0] 125) fun z3=>Lp (σ:=Int) (PZ w s1 x2 R PR) 0 z3
theorem T82 (s1 x2 w R PR):S82 s1 x2 w R PR->C82 s1 x2 w R PR:=VL (.q (.s (.q (.b (.o [(9,oi)] [0,1,4,8] (.q (.s (.c .l .l) (.s (.b (.q (.q (.b (.q (.c .l (.q (.c .r (.q (.c (.q (.q (.q (.c .r .l)))) (.q (.c (.q .l) .r)))))))))))) .r)))))) .r)) [.string s1,.pointer x2] Tryz.func82
def AAH (x2:Option Addr)(R:Q0)(PR:Q1 Value)(I5:Q1 ByteArray)(s3:ByteArray)(z4:World):Prop:=Rj (!(s3.toList==(⟨#[]⟩:ey).toList)) 4 z4 (fun z6=>0<=(0:Int)/\(0:Int)<((s3).size:Nat)/\0<=(1:Int)/\(1:Int)<=(s3.size:Int)/\Br ((wrap .i64 (Cp s3 0))==128) (R z6) (Br (decide ((wrap .i64 (Cp s3 0))<128)) (Lt (decide ((((s3.extract (((1:Int)).toNat) ((s3).size)).size:Nat):Int)>(wrap .i64 (Cp s3 0)))) fun (x7:Bool)=>Rj x7 4 z6 (fun z8=>0<=(wrap .i64 ((wrap .i64 (Cp s3 0))+1))/\(wrap .i64 ((wrap .i64 (Cp s3 0))+1))<=(((s3.extract (((1:Int)).toNat) ((s3).size)).size:Nat):Int)/\Lt ((s3.extract (((1:Int)).toNat) ((s3).size)).extract 0 ((wrap .i64 ((wrap .i64 (Cp s3 0))+1)).toNat)) fun (x9:ByteArray)=>Rn prog (convert 9 108 (.string x9)) z8 AA.v fun D0 Bg=>vd x2 D0 Bg (fun z12=>0<=(wrap .i64 ((wrap .i64 (Cp s3 0))+1))/\(wrap .i64 ((wrap .i64 (Cp s3 0))+1))<=(((s3.extract (((1:Int)).toNat) ((s3).size)).size:Nat):Int)/\Lt ((s3.extract (((1:Int)).toNat) ((s3).size)).extract ((wrap .i64 ((wrap .i64 (Cp s3 0))+1)).toNat) ((s3.extract (((1:Int)).toNat) ((s3).size)).size)) fun (Et:ByteArray)=>I5 Et z12) PR) PR) (Rj (!((s3.extract (((1:Int)).toNat) ((s3).size)).toList==(⟨#[]⟩:ey).toList)) 4 z6 (fun AN=>0<=(1:Int)/\(1:Int)<=(((s3.extract (((1:Int)).toNat) ((s3).size)).size:Nat):Int)/\C88 ((s3.extract (((1:Int)).toNat) ((s3).size)).extract 0 (((1:Int)).toNat)) (wrap .i64 (257-(wrap .i64 (Cp s3 0)))) AN (fun FQ Bd=>Rn prog (convert 9 108 (.string FQ)) Bd AA.v fun Eg CZ=>vd x2 Eg CZ (fun CV=>0<=(1:Int)/\(1:Int)<=(((s3.extract (((1:Int)).toNat) ((s3).size)).size:Nat):Int)/\Lt ((s3.extract (((1:Int)).toNat) ((s3).size)).extract (((1:Int)).toNat) ((s3.extract (((1:Int)).toNat) ((s3).size)).size)) fun (Ge:ByteArray)=>I5 Ge CV) PR) PR) PR))) PR
def S87 (s1:ByteArray)(x2:Option Addr)(w:World)(R:Q0)(PR:Q1 Value):Prop:=Lp (σ:=ByteArray) (AAH x2 R PR) s1 w
theorem T87 (s1 x2 w R PR):S87 s1 x2 w R PR->C87 s1 x2 w R PR:=VL (.b (.o [(0,os)] [1] (.b (.q (.q (.q (.b (.q (.c .l (.q (.c (.q (.q .r)) (.q (.q .r))))))))))))) [.string s1,.pointer x2] Tryz.func87
def PO (c1:Addr)(c2:Addr)(w:World)(R:Q0):Prop:=R w
def jm:A7:=(.b (.q (.c .r (.q (.c (.q (.Bq (.held [3] (.take 0 (.take 1 (.Aq 2 none (.Aq 3 (some []) .done))))))) (.q .r))))))
theorem mM (c1:Addr)(c2:Addr)(w:World)(R:Q0)(h:PO c1 c2 w R):NP c1 c2 none w R:=by
 have e:WQ prog FF Ig jm Tryz.f102 [.pointer (some c1),.pointer (some c2)] none w R=PO c1 c2 w R:=by kernel_rfl
 exact FT okF Ra Tryz.func102 (by kernel_rfl) (by kernel_rfl) (e.mpr h)
def PQ (w:World)(z4:World)(R:Q2 ByteArray Int)(x7:Value)(z6:World):Prop:=NP ⟨w.heap.size,0,none⟩ ⟨z4.heap.size,0,none⟩ (some x7) z6 fun z8=>Ld z8 ⟨w.heap.size,0,none⟩ Value.string fun x9=>Ld z8 ⟨z4.heap.size,0,none⟩ (Value.int .i64) fun D0=>R x9 D0 z8
def gI (s1:ByteArray)(AM:Int)(w:World)(R:Q2 ByteArray Int):Prop:=Nw w (.cells #[.string (⟨#[]⟩:ey)] 9) fun z4=>Nw z4 (.cells #[.int .i64 0] 28) fun z5=>Rj (decide (AM>=0)) 1 z5 (fun Bg=>Nw Bg (.cells #[AA.v ⟨none,0,0⟩,.int .i64 (if 1048576<AM then 1048576 else AM)] 144) fun z12=>C74 s1 (some ⟨Bg.heap.size,0,none⟩) z12 (fun AY=>Nn (some ⟨Bg.heap.size,0,none⟩) fun OF=>Ld AY OF AA.v fun Dt=>Rn prog (convert 108 9 (AA.v Dt)) AY Value.string fun D5 D3=>St D3 ⟨w.heap.size,0,none⟩ (.string D5) fun CZ=>St CZ ⟨z4.heap.size,0,none⟩ (.int .i64 0) fun CV=>NP ⟨w.heap.size,0,none⟩ ⟨z4.heap.size,0,none⟩ none CV fun z20=>Ld z20 ⟨w.heap.size,0,none⟩ Value.string fun D6=>Ld z20 ⟨z4.heap.size,0,none⟩ (Value.int .i64) fun Ct=>R D6 Ct z20) (PQ w z4 R)) (PQ w z4 R)
def ot:Hw:=(.pre (.Bq .seq) (.here [6,7] (.q (.q (.q (.q .leaf))))))
theorem vf (s1:ByteArray)(AM:Int)(w:World)(R:Q2 ByteArray Int)(h:gI s1 AM w R):C73 s1 AM (.func (.func 74) #[] #[]) w R:=by
 have e:UP prog FF Ig (fun _ _=>False) ot Tryz.f73 [.string s1,.int .i64 AM,.func (.func 74) #[] #[]] w [(.one .str),(.one (.int .i64))] (fun s w=>R s.1 s.2 w)=gI s1 AM w R:=by kernel_rfl
 exact (FU okF Ra Tryz.func73 (by kernel_rfl) (by kernel_rfl) (e.mpr h)).mono fun _ _ ⟨s,he,hR⟩=>⟨s.1,s.2,he,hR⟩
def Pb (w:World)(z4:World)(R:Q2 ByteArray Int)(x7:Value)(z6:World):Prop:=NP ⟨w.heap.size,0,none⟩ ⟨z4.heap.size,0,none⟩ (some x7) z6 fun z8=>Ld z8 ⟨w.heap.size,0,none⟩ Value.string fun x9=>Ld z8 ⟨z4.heap.size,0,none⟩ (Value.int .i64) fun D0=>R x9 D0 z8
def gJ (s1:ByteArray)(AM:Int)(w:World)(R:Q2 ByteArray Int):Prop:=Nw w (.cells #[.string (⟨#[]⟩:ey)] 9) fun z4=>Nw z4 (.cells #[.int .i64 0] 28) fun z5=>Rj (decide (AM>=0)) 1 z5 (fun Bg=>Nw Bg (.cells #[AA.v ⟨none,0,0⟩,.int .i64 (if 1048576<AM then 1048576 else AM)] 144) fun z12=>C82 s1 (some ⟨Bg.heap.size,0,none⟩) z12 (fun AY=>Nn (some ⟨Bg.heap.size,0,none⟩) fun OF=>Ld AY OF AA.v fun Dt=>Rn prog (convert 108 9 (AA.v Dt)) AY Value.string fun D5 D3=>St D3 ⟨w.heap.size,0,none⟩ (.string D5) fun CZ=>St CZ ⟨z4.heap.size,0,none⟩ (.int .i64 0) fun CV=>NP ⟨w.heap.size,0,none⟩ ⟨z4.heap.size,0,none⟩ none CV fun z20=>Ld z20 ⟨w.heap.size,0,none⟩ Value.string fun D6=>Ld z20 ⟨z4.heap.size,0,none⟩ (Value.int .i64) fun Ct=>R D6 Ct z20) (Pb w z4 R)) (Pb w z4 R)
def ou:Hw:=(.pre (.Bq .seq) (.here [6,7] (.q (.q (.q (.q .leaf))))))
theorem vp (s1:ByteArray)(AM:Int)(w:World)(R:Q2 ByteArray Int)(h:gJ s1 AM w R):C73 s1 AM (.func (.func 82) #[] #[]) w R:=by
 have e:UP prog FF Ig (fun _ _=>False) ou Tryz.f73 [.string s1,.int .i64 AM,.func (.func 82) #[] #[]] w [(.one .str),(.one (.int .i64))] (fun s w=>R s.1 s.2 w)=gJ s1 AM w R:=by kernel_rfl
 exact (FU okF Ra Tryz.func73 (by kernel_rfl) (by kernel_rfl) (e.mpr h)).mono fun _ _ ⟨s,he,hR⟩=>⟨s.1,s.2,he,hR⟩
def PT (w:World)(z4:World)(R:Q2 ByteArray Int)(x7:Value)(z6:World):Prop:=NP ⟨w.heap.size,0,none⟩ ⟨z4.heap.size,0,none⟩ (some x7) z6 fun z8=>Ld z8 ⟨w.heap.size,0,none⟩ Value.string fun x9=>Ld z8 ⟨z4.heap.size,0,none⟩ (Value.int .i64) fun D0=>R x9 D0 z8
def gK (s1:ByteArray)(AM:Int)(w:World)(R:Q2 ByteArray Int):Prop:=Nw w (.cells #[.string (⟨#[]⟩:ey)] 9) fun z4=>Nw z4 (.cells #[.int .i64 0] 28) fun z5=>Rj (decide (AM>=0)) 1 z5 (fun Bg=>Nw Bg (.cells #[AA.v ⟨none,0,0⟩,.int .i64 (if 1048576<AM then 1048576 else AM)] 144) fun z12=>C87 s1 (some ⟨Bg.heap.size,0,none⟩) z12 (fun AY=>Nn (some ⟨Bg.heap.size,0,none⟩) fun OF=>Ld AY OF AA.v fun Dt=>Rn prog (convert 108 9 (AA.v Dt)) AY Value.string fun D5 D3=>St D3 ⟨w.heap.size,0,none⟩ (.string D5) fun CZ=>St CZ ⟨z4.heap.size,0,none⟩ (.int .i64 0) fun CV=>NP ⟨w.heap.size,0,none⟩ ⟨z4.heap.size,0,none⟩ none CV fun z20=>Ld z20 ⟨w.heap.size,0,none⟩ Value.string fun D6=>Ld z20 ⟨z4.heap.size,0,none⟩ (Value.int .i64) fun Ct=>R D6 Ct z20) (PT w z4 R)) (PT w z4 R)
def ov:Hw:=(.pre (.Bq .seq) (.here [6,7] (.q (.q (.q (.q .leaf))))))
theorem vj (s1:ByteArray)(AM:Int)(w:World)(R:Q2 ByteArray Int)(h:gK s1 AM w R):C73 s1 AM (.func (.func 87) #[] #[]) w R:=by
 have e:UP prog FF Ig (fun _ _=>False) ov Tryz.f73 [.string s1,.int .i64 AM,.func (.func 87) #[] #[]] w [(.one .str),(.one (.int .i64))] (fun s w=>R s.1 s.2 w)=gK s1 AM w R:=by kernel_rfl
 exact (FU okF Ra Tryz.func73 (by kernel_rfl) (by kernel_rfl) (e.mpr h)).mono fun _ _ ⟨s,he,hR⟩=>⟨s.1,s.2,he,hR⟩
def S50 (s1:ByteArray)(AM:Int)(w:World)(R:Q2 ByteArray Int):Prop:=C73 s1 AM (.func (.func 74) #[] #[]) w fun r3 r4 z5=>R r3 r4 z5
theorem T50 (s1 AM w R):S50 s1 AM w R->C50 s1 AM w R:=Nb os oi (.q (.q .l)) [.string s1,.int .i64 AM] Tryz.func50
def AAC (s1:ByteArray)(R:Q1 Int)(I4:Q1 Int)(s2:Int)(z3:World):Prop:=Br (decide (s2<(if 128<(s1.size:Int)then 128 else (s1.size:Int)))) (0<=s2/\s2<((s1).size:Nat)/\0<=(0:Int)/\(0:Int)<((s1).size:Nat)/\Br ((Cp s1 s2)==(Cp s1 0)) (I4 (wrap .i64 (s2+1)) z3.drew) (R s2 z3.drew)) (R s2 z3.drew)
def S85 (s1:ByteArray)(w:World)(R:Q1 Int):Prop:=Lp (σ:=Int) (AAC s1 R) 0 w
theorem T85 (s1 w R):S85 s1 w R->C85 s1 w R:=B5 oi (.q (.q (.s (.b (.o [(3,oi)] [0] (.s (.s (.Bq .still) (.c .l .l)) (.b .r)))) (.q .l)))) [.string s1] Tryz.func85
def AAG (w:World)(O0:ByteArray)(I42:Q1 ByteArray)(I51:Q1 Int)(Eu:Int)(z50:World):Prop:=Lt (decide (Eu<(if 128<(O0.size:Int)then 128 else (O0.size:Int)))) fun (QS:Bool)=>Br QS (0<=Eu/\Eu<=(O0.size:Int)/\C85 (O0.extract ((Eu).toNat) ((O0).size)) z50 fun r53 oq=>Br (decide (r53<3)) (I51 (wrap .i64 (Eu+1)) oq) (lL (some ⟨w.heap.size,0,none⟩) (wrap .u8 (wrap .i64 (Eu-1))) oq fun r55 UQ=>0<=Eu/\Eu<=(O0.size:Int)/\C86 (some ⟨w.heap.size,0,none⟩) (O0.extract 0 ((Eu).toNat)) UQ fun r57 r58 z59=>0<=Eu/\Eu<=(O0.size:Int)/\I42 (O0.extract ((Eu).toNat) ((O0).size)) z59)) (lL (some ⟨w.heap.size,0,none⟩) (wrap .u8 (wrap .i64 (Eu-1))) z50 fun r60 z61=>0<=Eu/\Eu<=(O0.size:Int)/\C86 (some ⟨w.heap.size,0,none⟩) (O0.extract 0 ((Eu).toNat)) z61 fun r62 r63 lW=>0<=Eu/\Eu<=(O0.size:Int)/\I42 (O0.extract ((Eu).toNat) ((O0).size)) lW)
def AAF (w:World)(R:Q1 ByteArray)(I42:Q1 ByteArray)(O0:ByteArray)(Mi:World):Prop:=Br (!(O0.toList==(⟨#[]⟩:ey).toList)) (C85 O0 Mi fun lZ z44=>Br (decide (lZ>=3)) (lL (some ⟨w.heap.size,0,none⟩) (wrap .u8 (wrap .i64 (257-(if 128<lZ then 128 else lZ)))) z44 fun r45 z46=>0<=(0:Int)/\(0:Int)<((O0).size:Nat)/\lL (some ⟨w.heap.size,0,none⟩) (Cp O0 0) z46 fun gC z48=>0<=(if 128<lZ then 128 else lZ)/\(if 128<lZ then 128 else lZ)<=(O0.size:Int)/\I42 (O0.extract (((if 128<lZ then 128 else lZ)).toNat) ((O0).size)) z48) (Lp (σ:=Int) (AAG w O0 I42) 1 z44)) (lL (some ⟨w.heap.size,0,none⟩) 128 Mi fun lf z66=>C81 (some ⟨w.heap.size,0,none⟩) z66 fun r67 Re=>R r67 Re)
def S53 (s1:ByteArray)(w:World)(R:Q1 ByteArray):Prop:=Nw w (.cells #[.pointer none,AA.v ⟨none,0,0⟩] 110) fun z2=>Lp (σ:=ByteArray) (AAF w R) s1 z2
theorem T53 (s1 w R):S53 s1 w R->C53 s1 w R:=B5 os (.q (.q (.s (.b (.o [(0,os)] [3] (.s (.q (.c .l .l)) (.b (.s (.q (.q (.c (.q (.q (.q (.q .l)))) .l))) (.q (.s (.b (.o [(5,oi)] [0,3] (.s (.q (.c .l .l)) (.b .r)))) (.q (.q .r))))))))) (.q (.q .l))))) [.string s1] Tryz.func53
def S54 (s1:ByteArray)(AM:Int)(w:World)(R:Q2 ByteArray Int):Prop:=C73 s1 AM (.func (.func 87) #[] #[]) w fun r3 r4 z5=>R r3 r4 z5
theorem T54 (s1 AM w R):S54 s1 AM w R->C54 s1 AM w R:=Nb os oi (.q (.q .l)) [.string s1,.int .i64 AM] Tryz.func54
def S52 (s1:ByteArray)(AM:Int)(w:World)(R:Q2 ByteArray Int):Prop:=C73 s1 AM (.func (.func 82) #[] #[]) w fun r3 r4 z5=>R r3 r4 z5
theorem T52 (s1 AM w R):S52 s1 AM w R->C52 s1 AM w R:=Nb os oi (.q (.q .l)) [.string s1,.int .i64 AM] Tryz.func52
def S79 (s1:AA)(n2:Int)(w:World)(R:Q1 Value)(PR:Q1 Value):Prop:=Nw w (.cells #[AA.v s1] 108) fun z3=>Nw z3 (.cells #[.int .i64 n2] 3) fun z4=>Ld z4 ⟨z3.heap.size,0,none⟩ (Value.int .i64) fun x5=>Br (decide (x5<1)) (PR (.iface 9 (.string ((⟨#[99,97,110,110,111,116,32,98,101,32,108,101,115,115,32,116,104,97,110,32,49]⟩:ey)))) z4) (R (.func (.func 103) #[] #[.pointer (some ⟨w.heap.size,0,none⟩),.pointer (some ⟨z3.heap.size,0,none⟩)]) z4)
theorem T79 (s1 n2 w R PR):S79 s1 n2 w R PR->C79 s1 n2 w R PR:=Rx (.one .raw) (.q (.s (.q (.c .r .l)) (.q .l))) [AA.v s1,.int .i64 n2] Tryz.func79
end
set_option maxRecDepth 512
namespace Sh
open Go.RowKit
def Yl (P:Program)(l:Nat)(args:Array Value)(w:World)(K:Bool->World->Prop):Prop:=YieldAt Fence.wide 0 P l args w fun e w'=>∃b:Bool,e= .returned (.bool b)/\K b w'
def iz (E:Env)(o:Oper):Option (Nat×Call):=match o.op with
 | .call c=>match c.callee with
  | .value f=>match E.A3 f with
   | .func (.yield l) a b=>match a.toList,b.toList with
    |[],[]=>some (l,c)
    |_,_=>none
   |_=>none
  |_=>none
 |_=>none
def k7:Op->Bool
 | .defer _=>false
 |_=>true
def k8 (P:Program)(F:Fx)(ops:Array Oper):List Oper->Env->World->(Env->World->Prop)->Prop
 |[],E,w,K=>K E w
 |o::r,E,w,K=>match iz E o with
  |some _=>wT ops E o
   (fun E=>match iz E o with
    |some lc=>match hasAll E o.op with
     |true=>Yl P lc.1 (lc.2.args.map E.A3) w fun b w'=>k8 P F ops r (E.put o.dst (.bool b)) w' K
     |false=>False
    |none=>False)
   (fun E=>k8 P F ops r (E.put o.dst undef) w K)
  |none=>match k7 o.op with
   |true=>JH P F false ops [o] E w fun E w=>k8 P F ops r E w K
   |false=>False
def AF9 (P:Program)(F:Fx)(m:Xg)(ops:Array Oper)(d:Bool)(E:Env)(w:World)(K:Env->World->Prop):Prop:=
 match d,m with
 |false,.seq=>k8 P F ops ops.toList E w K
 |true,.still=>match P.follows .mixedOrders&&(Region.lexB .any ops&&ops.toList.all fun o=>k7 o.op)with
  |true=>JH P F true ops ops.toList E w.drew K
  |false=>False
 |_,_=>False
def Ce (P:Program)(F:Fx):A7->Code->Env->World->(Exit->Env->World->Prop)->Prop
 | .Bq m,.region _ ops d,E,w,K=>AF9 P F m ops d E w fun E w=>K .normal E w
 | .leaf,.skip,E,w,K=>K .normal E w
 | .leaf,.label _,E,w,K=>K .normal E w
 | .leaf,.exit id,E,w,K=>K (.exit id) E w
 | .leaf,.ret,E,w,K=>K .ret E w
 | .seq p q,.seq c d,E,w,K=>Ce P F p c E w fun e E w=>match e with
  | .normal=>Ce P F q d E w K
  |e=>K e E w
 | .join live AB p q,.seq c d,E,w,K=>match EK AB c with
  |true=>CP (fun s w=>Ce P F q d (GJ live s++Env.AB E AB) w K) fun J=>Ce P F p c E w fun e E w=>match e with
   | .normal=>GI live E fun s=>J s w
   |e=>K e E w
  |false=>False
 | .cond p q,.cond x c d,E,w,K=>match E.A3 x with
  | .bool b=>Br b (Ce P F p c E w K) (Ce P F q d E w K)
  |_=>False
 | .block p,.block id c,E,w,K=>Ce P F p c E w fun e E w=>match e with
  | .exit i=>match Nat.beq i id with
   |true=>K .normal E w
   |false=>K (.exit i) E w
  |e=>K e E w
 | .loop live AB p,.loop c,E,w,K=>match EK AB c with
  |true=>GI live E fun s0=>Lp (fun R s w=>Ce P F p c (GJ live s++Env.AB E AB) w fun e E w=>match e with
   | .normal=>GI live E fun s=>R s w
   |e=>K e E w) s0 w
  |false=>False
 |_,_,_,_,_=>False
structure VY (G:Fence):Prop where
 fn:∀f,G.fn f
 dep:G.depth=none
 call:∀{P:Program} {f:FuncId} {args:Array Value} {w:World} {R:Ending->World->Prop},Calls P f args w R->CallsIn G 0 P f args w R
 round:∀{P:Program} {l:Nat} {f:FuncId} {tmps:Array Value} {a b:Code} {w:World} {R:Ending->World->Prop},RoundIn Fence.wide 0 P l f tmps a b w R->RoundIn G 0 P l f tmps a b w R
theorem VY.wide:VY Fence.wide:=⟨fun _=>trivial,rfl,fun h=>callsIn_wide.2 h,fun h=>h⟩
theorem VY.inRound(l:Nat):VY (Fence.wide.inRound l):=⟨fun _=>trivial,rfl,fun h=>CallsIn.inRound l (callsIn_wide.2 h),fun h=>h⟩
section
variable {P:Program} {F:Fx} {N:Nat} {G:Fence}
theorem eN (hG:VY G){o:Oper}{a:Act}{next:Act->World->Prop}{Q:Exit->Act->World->Prop}{pk:Value->World->Prop}{K:Value->World->Prop}{r:Result Next}(h:Qw P pk K r)
  (hk:∀v w',K v w'->next (a.put o.dst v) w') (hp:∀v w',pk v w'->Q (.panic (Aj v)) a w'):o.uponIn G 0 P a next Q r:=by
 cases r with
 |halt x w=>
  cases x<;>try exact h.elim
  case panic v=>exact hp _ _ h
 |ok n w=>
  cases n<;>try exact h.elim
  case value v=>exact hk _ _ h
  case skip=>exact hk _ _ h
  case enter f args=>
   rw[Oper.uponIn_enter];refine ⟨fun hd=>by simp[hG.dep]at hd,hG.call (Calls.mono h fun e w' he=>?_)⟩;rcases he with ⟨v,rfl,hv⟩|⟨v,rfl,hv⟩
   ·exact hk _ _ hv
   ·exact hp _ _ hv
theorem TI {o:Oper}(h:k7 o.op=true):∀c,o.op≠ .defer c:=fun c e=>by rw[e]at h;cases h
theorem RN {E:Env}{o:Oper}{l:Nat}{c:Call}(h:iz E o=some (l,c)):o.op= .call c/\∃f,c.callee= .value f/\E.A3 f= .func (.yield l) #[] #[]:=by
 unfold iz at h;split at h
 ·rename_i c' ho;split at h
  ·rename_i f hf;split at h
   ·rename_i l' a b hr;split at h
    ·rename_i ha hb;simp only[bE,Prod.mk.injEq]at h;obtain ⟨rfl,rfl⟩:=h;refine ⟨ho,f,hf,?_⟩;rw[hr];obtain ⟨a⟩:=a;obtain ⟨b⟩:=b;simp only at ha hb;subst ha hb
     rfl
    ·cases h
   ·cases h
  ·cases h
 ·cases h
theorem SD {E:Env}{o:Oper}{l:Nat}{c:Call}{f:Operand}(ho:o.op= .call c)(hc:c.callee= .value f)(hr:E.A3 f= .func (.yield l) #[] #[])(w:World):
  (execOp E.A3 o).run P w=((Instr.yield l (c.args.map E.A3)).run P w):=by
 unfold execOp;simp only[ho,resolve,hc,hr,Deferred.ofValue];simp[go_sem,invoke]
theorem Lq (hG:VY G)(hF:Av P F.ok){ops:Array Oper}{Q:Exit->Act->World->Prop}:∀(l:List Oper) (E:Env) (w:World) (K:Env->World->Prop) (a:Act),
  k8 P F ops l E w K->Fits N E a->D4 N l->(∀E' a' w',K E' w'->Fits N E' a'->frame l a a'->Q .normal a' w')->
  (∀v a' w',F.pk v w'->Fits N [] a'->frame l a a'->Q (.panic (Aj v)) a' w')->wpListIn G 0 P ops Q l a w
 |[],E,w,K,a,h,hf,_,hQ,_=>hQ E a w h hf (frame.refl _ _)
 |o::r,E,w,K,a,h,hf,hd,hQ,hP=>by
  have Rc:D4 N r:=fun p hp=>hd p (aC _ hp)
  have ho:=hd o aT;unfold wpListIn;unfold k8 at h;split at h
  ·rename_i lc0 hy0;obtain ⟨l0,c0⟩:=lc0;have Ahe:=(RN hy0).1;rcases DC h hf with ⟨hw,E',Cr,hy⟩|⟨hw,E',Cr,hn⟩
   ·rw[ak hw];split at hy
    ·rename_i lc mX;obtain ⟨l,c⟩:=lc;obtain ⟨h2,f,h3,h4⟩:=RN mX;split at hy
     ·rename_i hb;refine ⟨fun f _=>hG.fn f,?_⟩;rw[Oper.semAt_plain G _ o (fun c e=>by rw[h2]at e;cases e),BH Cr hb,SD h2 h3 h4];obtain ⟨fn,tmps,Rh,body,e1,e2⟩:=hy;simp only at e1;rw[e1,Oper.uponIn_round];refine ⟨fun hd=>by simp[hG.dep]at hd,hG.round (e2.mono fun e w' he=>?_)⟩;obtain ⟨b,rfl,hK⟩:=he;exact Lq hG hF r _ w' K _ hK (Cr.put ho) Rc (fun MJ a' B7 g1 g2 g3=>hQ _ _ _ g1 g2 (AU g3)) fun v a' B7 g1 g2 g3=>hP v a' B7 g1 g2 (AU g3)
     ·exact hy.elim
    ·exact hy.elim
   ·rw[ah (by rw[hw];simp)];exact ⟨fun f _=>hG.fn f,Lq hG hF r _ w K _ hn (Cr.put ho) Rc (fun MJ a' B7 h1 h2 h3=>hQ _ _ _ h1 h2 (AU h3)) fun v a' B7 h1 h2 h3=>hP v a' B7 h1 h2 (AU h3)⟩
  ·split at h
   ·rename_i Og;unfold JH at h;rcases DC h hf with ⟨hw,E',Cr,hy⟩|⟨hw,E',Cr,hn⟩
    ·rw[ak hw];refine ⟨fun f _=>hG.fn f,?_⟩;rw[Oper.semAt_plain G _ o (TI Og)];split at hy
     ·rename_i hb;simp only[ay]at hb;rw[BH Cr hb.1];refine eN hG (FK hF hy) (fun v w' hk=>?_) fun v w' hp=>hP v a w' hp hf.some (frame.refl _ _)
      exact Lq hG hF r _ w' K _ hk (Cr.put ho) Rc (fun MJ a' B7 h1 h2 h3=>hQ _ _ _ h1 h2 (AU h3)) fun v a' B7 h1 h2 h3=>hP v a' B7 h1 h2 (AU h3)
     ·exact hy.elim
    ·rw[ah (by rw[hw];simp)];exact ⟨fun f _=>hG.fn f,Lq hG hF r _ w K _ hn (Cr.put ho) Rc (fun MJ a' B7 h1 h2 h3=>hQ _ _ _ h1 h2 (AU h3)) fun v a' B7 h1 h2 h3=>hP v a' B7 h1 h2 (AU h3)⟩
   ·exact h.elim
theorem Oi (hG:VY G){ops:Array Oper}{Q:Exit->Act->World->Prop}{w:World}{i:Nat}{a:Act}{K:Act->Prop}{K':Act->World->Prop}(Og:∀o,ops[i]?=some o->k7 o.op=true)(hK:∀a,K a->K' a w)(h:stOp P ops w i K a):wpOpIn G 0 P ops Q i K' a w:=by
 unfold wpOpIn;cases hi:ops[i]? with
 |none=>
  unfold stOp at h;simp only[hi]at h;exact hK _ h
 |some o=>
  obtain ⟨v,hy,hk⟩:=yieldsAt_of_stOp hi h;simp only;rcases hy with ⟨hw,hv⟩|⟨hw,rfl⟩
  ·rw[ak hw];refine ⟨fun f _=>hG.fn f,?_⟩;rw[Oper.semAt_plain G _ o (TI (Og o hi))];rcases hv with hv|⟨hv,rfl⟩|⟨f,args,hv,hc⟩
   ·rw[hv];exact hK _ hk
   ·rw[hv];exact hK _ hk
   ·rw[hv,Oper.uponIn_enter];refine ⟨fun hd=>by simp[hG.dep]at hd,hG.call (Calls.mono hc fun e w' he=>?_)⟩;obtain ⟨rfl,rfl⟩:=he;exact hK _ hk
  ·rw[ah (by rw[hw];simp)];exact ⟨fun f _=>hG.fn f,hK _ hk⟩
theorem GN (hG:VY G){md:Region.Mode}{ops:Array Oper}{w:World}{Q:Act->Prop}{Q':Exit->Act->World->Prop}(Og:∀(i:Nat) (o:Oper),ops[i]?=some o->k7 o.op=true)(hQ:∀a,Q a->Q' .normal a w):∀(fuel:Nat) (listed:Array Bool) (a:Act),
  wpAnyS P md ops w Q fuel listed a->wpAnyIn G 0 P md ops Q' fuel listed a w
 |0,_,_,h=>⟨h.1,hQ _ h.2⟩
 |fuel+1,_,_,h=>⟨fun h0=>hQ _ (h.1 h0),fun i hi=>Oi hG (Og i) (fun a'=>GN hG Og hQ fuel _ a') (h.2 i hi)⟩
theorem zd (hG:VY G)(hF:Av P F.ok){m:Xg}{id:Nat}{ops:Array Oper}{d:Bool}{E:Env}{w:World}{K:Env->World->Prop}{a:Act}
  (h:AF9 P F m ops d E w K) (hf:Fits N E a) (hd:D4 N ops.toList):
  (Code.region id ops d).wpIn G 0 P (HQ P F N ops a fun a' w'=>∃E',K E' w'/\Fits N E' a'/\frame ops.toList a a') a w:=by
 unfold AF9 at h;split at h
 ·exact wpIn_region_list (Lq hG hF _ _ _ _ _ h hf hd (fun E' a' w' h1 h2 h3=> .inl ⟨rfl,E',h1,h2,h3⟩) fun v a' w' h1 h2 h3=> .inr ⟨v,rfl,h1,h2,h3⟩)
 ·split at h
  ·rename_i hB;simp only[ay]at hB;obtain ⟨hm,hL,hN⟩:=hB;have Og:∀(i:Nat) (o:Oper),ops[i]?=some o->k7 o.op=true:=fun i o ho=>bx.1 hN o (by
    rw[<-dG]at ho;exact aB ho)
   have IT:=EM _ _ w.drew _ _ h hf hd (Q:=fun a'=>HQ P F N ops a (fun a' w'=>∃E',K E' w'/\Fits N E' a'/\frame ops.toList a a') .normal a' w.drew) fun E' a' h1 h2 h3=> .inl ⟨rfl,E',h1,h2,h3⟩
   simp only[Region.lexB,ay]at hL;refine wpIn_region_any hm (GN (Q:=fun a'=>HQ P F N ops a (fun a' w'=>∃E',K E' w'/\Fits N E' a'/\frame ops.toList a a') .normal a' w.drew) hG Og (fun _ h=>h) _ _ _ ?_);have:=wpAnyS_lex (md:= .any) hL.1 ops.toList 0 (Array.replicate ops.size false) a (by simp) (by simpa using hL.2) IT;simpa using this
  ·exact h.elim
 ·exact h.elim
theorem Lr (hG:VY G)(hF:Av P F.ok):∀(c:Code) (pl:A7) (E:Env) (w:World) (K:Exit->Env->World->Prop) (a:Act),
  Ce P F pl c E w K->Fits N E a->As N c=true->c.wpIn G 0 P (kz N F c K a) a w:=by
 intro c
 induction c with
 |region id ops d=>
  intro pl E w K a h hf hs;cases pl<;>try exact (show False from h).elim
  rename_i m;have zK:∀{a':Act},frame ops.toList a a'->BV (.region id ops d) a a':=fun h=>⟨fun t ht=>h.1 t (TE ht),h.2⟩
  refine wpIn_mono (zd hG hF h hf (GK hs)) fun e a' w' hq=>?_
  rcases hq with ⟨he,E',h1,h2,h3⟩|⟨v,he,h1,h2,h3⟩
  ·exact .inl ⟨E',by subst he;exact h1,h2,zK h3⟩
  ·exact .inr ⟨v,he,h1,h2,zK h3⟩
 |skip=>
  intro pl E w K a h hf hs;cases pl<;>try exact (show False from h).elim
  exact wpIn_skip (.inl ⟨E,h,hf,BV.refl _ _⟩)
 |label l=>
  intro pl E w K a h hf hs;cases pl<;>try exact (show False from h).elim
  exact wpIn_label (.inl ⟨E,h,hf,BV.refl _ _⟩)
 |exit id=>
  intro pl E w K a h hf hs;cases pl<;>try exact (show False from h).elim
  exact wpIn_exit (.inl ⟨E,h,hf,BV.refl _ _⟩)
 |ret=>
  intro pl E w K a h hf hs;cases pl<;>try exact (show False from h).elim
  exact wpIn_ret (.inl ⟨E,h,hf,BV.refl _ _⟩)
 |seq c d tw tx=>
  intro pl E w K a h hf hs;simp only[As,ay]at hs;have uJ:∀t,wr t (.seq c d)=false->wr t c=false/\wr t d=false:=fun t ht=>by simpa[wr]using ht
  have sc:∀{a b:Act},BV c a b->BV (.seq c d) a b:=fun h=>h.sub fun t ht=>(uJ t ht).1
  have sd:∀{a b:Act},BV d a b->BV (.seq c d) a b:=fun h=>h.sub fun t ht=>(uJ t ht).2
  have post:∀{a':Act} {e:Exit} {MK:Act} {B7:World},BV c a a'->kz N F d K a' e MK B7->kz N F (.seq c d) K a e MK B7:=fun h3 hq=>by
   rcases hq with ⟨MJ,g1,g2,g3⟩|⟨v,g0,g1,g2,g3⟩
   ·exact .inl ⟨MJ,g1,g2,(sc h3).trans (sd g3)⟩
   ·exact .inr ⟨v,g0,g1,g2,(sc h3).trans (sd g3)⟩
  cases pl<;>try exact (show False from h).elim
  ·rename_i p q;refine wpIn_seq (wpIn_mono (tw p E w _ a h hf hs.1) fun e a' w' hq=>?_);rcases hq with ⟨E',h1,h2,h3⟩|⟨v,rfl,h1,h2,h3⟩
   ·cases e<;>try exact .inl ⟨E',h1,h2,sc h3⟩
    exact wpIn_mono (tx q E' w' K a' h1 h2 hs.2) fun e MK B7 hq=>post h3 hq
   ·exact .inr ⟨v,rfl,h1,h2,sc h3⟩
  ·rename_i live AB p q
   replace h:match EK AB c with
    |true=>CP (fun s w=>Ce P F q d (GJ live s++Env.AB E AB) w K) fun J=>Ce P F p c E w fun e E w=>match e with
     | .normal=>GI live E fun s=>J s w
     |e=>K e E w
    |false=>False:=h
   split at h
   ·rename_i hk;obtain ⟨J,hb,ML⟩:=h;refine wpIn_seq (wpIn_mono (tw p E w _ a ML hf hs.1) fun e a' w' hq=>?_);rcases hq with ⟨E',h1,h2,h3⟩|⟨v,rfl,h1,h2,h3⟩
    ·cases e<;>try exact .inl ⟨E',h1,h2,sc h3⟩
     obtain ⟨s,hJ,IT⟩:=EN (N:=N) h1;have Du:Fits N (GJ live s++Env.AB E AB) a':=DQ (IT a' h2) (DP hf AB fun t ht=>h3.1 t (HJ hk t ht)) h2.size;exact wpIn_mono (tx q _ w' K a' (hb s w' hJ) Du hs.2) fun e MK B7 hq=>post h3 hq
    ·exact .inr ⟨v,rfl,h1,h2,sc h3⟩
   ·exact h.elim
 |cond x c d tw tx=>
  intro pl E w K a h hf hs;simp only[As,ay]at hs;have uJ:∀t,wr t (.cond x c d)=false->wr t c=false/\wr t d=false:=fun t ht=>by simpa[wr]using ht
  have sc:∀{a b:Act},BV c a b->BV (.cond x c d) a b:=fun h=>h.sub fun t ht=>(uJ t ht).1
  have sd:∀{a b:Act},BV d a b->BV (.cond x c d) a b:=fun h=>h.sub fun t ht=>(uJ t ht).2
  cases pl<;>try exact (show False from h).elim
  rename_i p q
  replace h:match E.A3 x with
   | .bool b=>Br b (Ce P F p c E w K) (Ce P F q d E w K)
   |_=>False:=h
  split at h
  ·rename_i b hb;rcases Lj h with ⟨rfl,h⟩|⟨rfl,h⟩
   ·refine wpIn_cond_true (Ln hf hb) (wpIn_mono (tw p E w K a h hf hs.1) fun e a' w' hq=>?_);rcases hq with ⟨E',h1,h2,h3⟩|⟨v,h0,h1,h2,h3⟩
    ·exact .inl ⟨E',h1,h2,sc h3⟩
    ·exact .inr ⟨v,h0,h1,h2,sc h3⟩
   ·refine wpIn_cond_false (Ln hf hb) (wpIn_mono (tx q E w K a h hf hs.2) fun e a' w' hq=>?_);rcases hq with ⟨E',h1,h2,h3⟩|⟨v,h0,h1,h2,h3⟩
    ·exact .inl ⟨E',h1,h2,sd h3⟩
    ·exact .inr ⟨v,h0,h1,h2,sd h3⟩
  ·exact h.elim
 |block id c ih=>
  intro pl E w K a h hf hs;have sc:∀{a b:Act},BV c a b->BV (.block id c) a b:=fun h=>h.sub fun t ht=>by simpa[wr]using ht
  cases pl<;>try exact (show False from h).elim
  rename_i p;refine wpIn_block (wpIn_mono (ih p E w _ a h hf hs) fun e a' w' hq=>?_);rcases hq with ⟨E',h1,h2,h3⟩|⟨v,rfl,h1,h2,h3⟩
  ·cases e with
   |exit i=>
    replace h1:match Nat.beq i id with
     |true=>K .normal E' w'
     |false=>K (.exit i) E' w':=h1
    show if i=id then _ else _
    cases hb:Nat.beq i id with
    |true=>rw[hb]at h1;rw[ak (beq_eq hb)];exact .inl ⟨E',h1,h2,sc h3⟩
    |false=>rw[hb]at h1;rw[ah (fun e=>by subst e;simp at hb)];exact .inl ⟨E',h1,h2,sc h3⟩
   |_=>exact .inl ⟨E',h1,h2,sc h3⟩
  ·exact .inr ⟨v,rfl,h1,h2,sc h3⟩
 |loop c ih=>
  intro pl E w K a h hf hs;have sc:∀{a b:Act},BV c a b->BV (.loop c) a b:=fun h=>h.sub fun t ht=>by simpa[wr]using ht
  cases pl<;>try exact (show False from h).elim
  rename_i live AB p
  replace h:match EK AB c with
   |true=>GI live E fun s0=>Lp (fun R s w=>Ce P F p c (GJ live s++Env.AB E AB) w fun e E w=>match e with
    | .normal=>GI live E fun s=>R s w
    |e=>K e E w) s0 w
   |false=>False:=h
  split at h
  ·rename_i hk;obtain ⟨s0,⟨I,n0,h0,eJ⟩,AF8⟩:=EN (N:=N) h;refine wpIn_loop_ghost (rm:=0) (fun n a' w'=>∃s,I n s w'/\Fits N (GJ live s++Env.AB E AB) a'/\BV c a a') n0
    ⟨s0,h0,DQ (AF8 a hf) (DP hf AB fun _ _=>rfl) hf.size,BV.refl _ _⟩ ?_
   rintro n a' w' ⟨s,hI,Du,ML⟩;refine wpIn_mono (ih p _ w' _ a' (eJ n s w' hI) Du hs) fun e MK B7 hq=>?_
   rcases hq with ⟨MJ,g1,g2,g3⟩|⟨v,rfl,g1,g2,g3⟩
   ·have Ke:=ML.trans g3;cases e<;>try exact .inl ⟨MJ,g1,g2,sc Ke⟩
    obtain ⟨s',⟨n',Am,hI'⟩,IT⟩:=EN (N:=N) g1;exact ⟨n',Am,s',hI',DQ (IT MK g2) (DP hf AB fun t ht=>Ke.1 t (HJ hk t ht)) g2.size,Ke⟩
   ·exact .inr ⟨v,rfl,g1,g2,sc (ML.trans g3)⟩
  ·exact h.elim
 |_=>
  intro pl E w K a h hf hs;cases pl<;>exact (show False from h).elim
def fnY (P:Program)(F:Fx)(pl:A7)(fn:Func)(args:List Value)(w:World)(tys:List Ty)(R:Sg tys->World->Prop):Prop:=
 match fn.body with
 |none=>False
 |some c=>Ce P F pl c (Xh 0 args) w fun e E w=>match e with
  | .normal=>Dv P fn.results.toList E w fun vs=>match Sg.get? tys vs with
   |some s=>R s w
   |none=>False
  | .ret=>Dv P fn.results.toList E w fun vs=>match Sg.get? tys vs with
   |some s=>R s w
   |none=>False
  |_=>False
theorem jn {ok may:Nat->Bool}(hF:Av P ok){f:FuncId}{fn:Func}{pl:A7}{args:List Value}{w:World}{tys:List Ty}{R:Sg tys->World->Prop}
  (hf:P.funcs[f]?=some fn) (hN:(match fn.body with
   |some c=>As fn.ntmps c
   |none=>false)=true) (ha:Nat.ble args.length fn.ntmps=true)
  (h:fnY P ⟨ok,may,fun _ _=>False⟩ pl fn args w tys R):CallsIn Fence.wide 0 P f args.toArray w fun e w'=>∃s:Sg tys,e= .returned (De.GP (Sg.GQ tys s))/\R s w':=by
 unfold fnY at h;split at h
 ·exact h.elim
 ·rename_i c hc;rw[hc]at hN;refine callsIn_of_wp hf hc trivial ?_ rfl;refine wpIn_mono (Lr (F:=⟨ok,may,fun _ _=>False⟩) VY.wide hF c pl _ w _ _ h (VX (bG ha)) hN) fun e a' w' hq=>?_
  rcases hq with ⟨E',h1,h2,h3⟩|⟨v,rfl,h1,h2,h3⟩
  ·have fin:NC P fn tys R E' w'->a'.defers=[]/\∃v,(results fn a'.tmps).run P w'= .ok v w'/\∃s:Sg tys,Ending.returned v= .returned (De.GP (Sg.GQ tys s))/\R s w':=fun h=>by
    obtain ⟨v,g1,g2⟩:=HY h2 h;exact ⟨h3.2,v,g1,g2⟩
   cases e with
   |normal=>exact fin h1
   |ret=>exact fin h1
   |_=>exact h1.elim
  ·exact h1.elim
end
end Sh
set_option maxRecDepth 100000
section
open Sh
def VW (l2:Nat)(c3:Addr)(c4:Addr)(R:Q0)(I7:Q1 Int)(s5:Int)(z6:World):Prop:=Ld z6 c3 AA.v fun x9=>Br (decide (s5<(x9.len:Int))) (Ld z6.drew c4 (Value.int .i64) fun D0=>Ld z6.drew c3 AA.v fun Cm=>0<=s5/\s5<=(Cm.len:Int)/\Lt ((if (((Cm.cut 1 ((s5).toNat) Cm.len Cm.cap).len:Nat):Int)<D0 then (((Cm.cut 1 ((s5).toNat) Cm.len Cm.cap).len:Nat):Int)else D0)) fun (DA:Int)=>Ld z6.drew c3 AA.v fun Et=>0<=(wrap .i64 (s5+DA))/\(wrap .i64 (s5+DA))<=(Et.cap:Int)/\0<=(wrap .i64 (s5+DA))/\(wrap .i64 (s5+DA))<=(((wrap .i64 (s5+DA)).toNat:Nat):Int)/\0<=s5/\s5<=(((wrap .i64 (s5+DA)).toNat:Nat):Int)/\Yl prog l2 #[AA.v (Et.cut 1 ((s5).toNat) ((wrap .i64 (s5+DA)).toNat) ((wrap .i64 (s5+DA)).toNat))] z6.drew fun (b14:Bool) Bv=>Br (!b14) (R Bv) (Ld Bv c4 (Value.int .i64) fun D5=>I7 (wrap .i64 (s5+D5)) Bv)) (R z6)
def Ya (l2:Nat)(c3:Addr)(c4:Addr)(w:World)(R:Q0):Prop:=Lp (σ:=Int) (VW l2 c3 c4 R) 0 w
def xT:A7:=(.q (.b (.o [(4,oi)] [0,1,2] (.s (.q (.c .l .l)) (.s (.b (.s (.Bq .still) (.q (.c .l .l)))) .r)))))
theorem ACX (l2:Nat)(c3:Addr)(c4:Addr)(w:World)(R:Q0)(h:Ya l2 c3 c4 w R):CallsIn Fence.wide 0 prog 103 #[.func (.yield l2) #[] #[],.pointer (some c3),.pointer (some c4)] w fun e w'=>e= .returned (.tuple #[])/\R w':=by
 have e:fnY prog ⟨FF,Ig,(fun _ _=>False)⟩ xT Tryz.f103 [.func (.yield l2) #[] #[],.pointer (some c3),.pointer (some c4)] w [] (fun _ w=>R w)=Ya l2 c3 c4 w R:=by kernel_rfl
 exact (jn okF Tryz.func103 (by kernel_rfl) (by kernel_rfl) (e.mpr h)).mono fun _ _ ⟨_,he,hR⟩=>⟨he,hR⟩
end
set_option maxRecDepth 512
namespace Sh
open Go.RowKit
section
variable {P:Program} {F:Fx} {N:Nat} {G:Fence}
def Cn (fn:FuncId)(tmps:Array Value)(ps:Array Tmp)(Rh body:Code)(D:Nat):Loop:={state:= .ready,pending:=none,fn,tmps,params:=ps,assign:=Rh,body,defers:=D}
def rfW (w:World)(fn:FuncId)(tmps:Array Value)(ps:Array Tmp)(Rh body:Code):World:=(w.alloc (.deferred (some []))).alloc (.loop (Cn fn tmps ps Rh body w.heap.size))
def Ta (ps:Array Tmp)(args tmps:Array Value):Array Value:=(ps.zip args).foldl (fun tmps (t,a)=>tmps.setIfInBounds t a) tmps
theorem AH0 {ok:Nat->Bool}(hF:Av P ok){g:Operand}{ps:Array Tmp}{Rh body:Code}{Q:Exit->Act->World->Prop}{a:Act}{w:World}{gf:Nat}{Vz:Array Value}(hg:a.eval g= .func (.func gf) #[] Vz)(AYP:Q5 P ok gf=true)
  (h:∀fn:FuncId,CallsIn Fence.wide 0 P gf (#[.func (.yield (w.heap.size+1)) #[] #[]]++Vz) (rfW w fn a.tmps ps Rh body) fun e W2=>
   (∃v,e= .returned v)/\W2.heap[w.heap.size+1]?=some (.loop (Cn fn a.tmps ps Rh body w.heap.size))/\
   Q .normal {a with defers:={target:= .collected w.heap.size,args:=#[]}::a.defers} (W2.putObj (w.heap.size+1) (.loop {Cn fn a.tmps ps Rh body w.heap.size with state:= .exhausted}))):
  (Code.rangeFunc g ps Rh body).wpIn Fence.wide 0 P Q a w:=by
 refine wpIn_rangeFunc fun fn _=>?_
 refine ⟨w.heap.size+1,[{target:= .collected w.heap.size,args:=#[]}],rfW w fn a.tmps ps Rh body,{target:= .fn (.func gf) Vz,args:=#[.func (.yield (w.heap.size+1)) #[] #[]]},rfW w fn a.tmps ps Rh body,gf,
  #[.func (.yield (w.heap.size+1)) #[] #[]]++Vz,rfW w fn a.tmps ps Rh body,?_,?_,?_,?_,fun h=>by simp[Fence.wide]at h,?_⟩
 ·exact run_enterLoop_outer _ _ _ _ _
 ·simp only[resolve,hg];simp[go_sem]
 ·intro f' _;trivial
 ·simp[invoke,go_sem,JK hF AYP]
 ·refine (h fn).mono ?_;rintro e W2 ⟨⟨v,rfl⟩,hl,hQ⟩;exact ⟨none,_,run_endLoop hl (by simp[Cn]),hQ⟩
def xx (R:Env->World->Prop):Exit->Env->World->Prop
 | .normal,E,w=>R E w
 |_,_,_=>False
theorem RO {R:Env->World->Prop}{e:Exit}{E:Env}{w:World}(h:xx R e E w):e= .normal/\R E w:=by
 cases e<;>first|exact ⟨rfl,h⟩|exact h.elim
theorem wB (hF:Av P F.ok)(uH:∀v w,¬F.pk v w){W:World}{l:Nat}{fn:FuncId}{tmps:Array Value}{ps:Array Tmp}{Rh body:Code}{D:Nat}{args:Array Value}{K:Bool->World->Prop}
  (hl:W.heap[l]?=some (.loop (Cn fn tmps ps Rh body D))) (hs:args.size=ps.size) {E:Env} (hf:Fits N E {tmps:=Ta ps args tmps,defers:=[]})
  {pa pb:A7} (hsa:As N Rh=true) (hsb:As N body=true)
  (h:Ce P F pa Rh E W<|xx fun E1 W1=>W1.heap[l]?=some (.loop (Cn fn tmps ps Rh body D))/\
   Ce P F pb body E1 (W1.putObj l (.loop {Cn fn tmps ps Rh body D with state:= .busy})) (xx fun E2 W2=>W2.heap[l]?=some (.loop {Cn fn tmps ps Rh body D with state:= .busy})/\
    K true (W2.putObj l (.loop (Cn fn tmps ps Rh body D))))):Yl P l args W K:=by
 have hy:=run_yield (P:=P) (args:=args) hl (by simpa[Cn]using hs);refine ⟨fn,Ta ps args tmps,Rh,body,hy,roundIn_of_wpIn trivial ?_⟩;refine wpIn_mono (Lr (VY.inRound l) hF Rh pa E W _ _ h hf hsa) fun e a1 W1 hq=>?_
 rcases hq with ⟨E1,hq,lQ,hs1⟩|⟨v,_,hp,_⟩
 ·obtain ⟨rfl,hl1,h1⟩:=RO hq;refine ⟨_,run_beginRound hl1 rfl,?_⟩;refine wpIn_mono (Lr (VY.inRound l) hF body pb E1 _ _ _ h1 lQ hsb) fun e a2 W2 hq=>?_
  rcases hq with ⟨E2,hq,_,_⟩|⟨v,_,hp,_⟩
  ·obtain ⟨rfl,jJ,h2⟩:=RO hq;exact ⟨_,_,run_endRound none jJ,true,rfl,h2⟩
  ·exact (uH _ _ hp).elim
 ·exact (uH _ _ hp).elim
theorem ACS (hG:VY G)(hF:Av P F.ok)(uH:∀v w,¬F.pk v w){c d:Code}{pl:A7}{E:Env}{w:World}{K:Env->World->Prop}{a:Act}{Q:Exit->Act->World->Prop}(h:Ce P F pl c E w (xx K))(hf:Fits N E a)(hs:As N c=true)
  (hn:∀E' a' w',K E' w'->Fits N E' a'->a'.defers=a.defers->d.wpIn G 0 P Q a' w'):(Code.seq c d).wpIn G 0 P Q a w:=by
 refine wpIn_seq (wpIn_mono (Lr hG hF c pl E w _ a h hf hs) fun e a' w' hq=>?_);rcases hq with ⟨E',h1,h2,h3⟩|⟨v,_,hp,_⟩
 ·obtain ⟨rfl,h4⟩:=RO h1;exact hn E' a' w' h4 h2 h3.2
 ·exact (uH _ _ hp).elim
end
end Sh
set_option maxRecDepth 100000
section
open Sh
noncomputable def sq1:Code->Code| .seq a _=>a|c=>c
def l6:Code->Code| .seq _ b=>b|c=>c
def bk:Code->Code| .block _ b=>b|c=>c
def rfa:Code->Code| .rangeFunc _ _ a _=>a|c=>c
def rfb:Code->Code| .rangeFunc _ _ _ b=>b|c=>c
noncomputable def AHs:Code:=(sq1 (Tryz.f51.body.getD .skip))
def AHv:A7:=(.Bq .seq)
def ASK (s1:ByteArray)(w:World)(R:Q1 Env):Prop:=R [(2,.string (⟨#[]⟩:ey)),(0,.string s1)] w
theorem APL (s1:ByteArray)(w:World)(R:Q1 Env):Ce prog ⟨FF,Ig,(fun _ _=>False)⟩ AHv AHs [(0,.string s1)] w (xx R)=ASK s1 w R:=by kernel_rfl
noncomputable def AHt:Code:=(sq1 (l6 (Tryz.f51.body.getD .skip)))
def AHw:A7:=(.Bq .seq)
def ASL (s1:ByteArray)(w:World)(R:Q1 Env):Prop:=Nw w (.cells #[.pointer none,AA.v ⟨none,0,0⟩] 110) fun z1=>R [(3,.pointer (some ⟨w.heap.size,0,none⟩)),(2,.string (⟨#[]⟩:ey)),(0,.string s1)] z1
theorem APM (s1:ByteArray)(w:World)(R:Q1 Env):Ce prog ⟨FF,Ig,(fun _ _=>False)⟩ AHw AHt [(2,.string (⟨#[]⟩:ey)),(0,.string s1)] w (xx R)=ASL s1 w R:=by kernel_rfl
noncomputable def AHu:Code:=(sq1 (sq1 (l6 (l6 (Tryz.f51.body.getD .skip)))))
def AHy:A7:=(.Bq .seq)
def AHz (s1:ByteArray)(a3:Addr)(w:World)(R:Q1 Env):Prop:=Rn prog (convert 9 108 (.string s1)) w AA.v fun x2 z3=>C79 x2 4 z3 (fun r4 z5=>R [(12,r4),(11,AA.v x2),(10,.string s1),(3,.pointer (some a3)),(2,.string (⟨#[]⟩:ey)),(0,.string s1)] z5) (fun _ _=>False)
theorem APN (s1:ByteArray)(a3:Addr)(w:World)(R:Q1 Env):Ce prog ⟨FF,Ig,(fun _ _=>False)⟩ AHy AHu [(3,.pointer (some a3)),(2,.string (⟨#[]⟩:ey)),(0,.string s1)] w (xx R)=AHz s1 a3 w R:=by kernel_rfl
noncomputable def KC:Code:=(rfa (bk (l6 (sq1 (l6 (l6 (Tryz.f51.body.getD .skip)))))))
def AHp:A7:=(.Bq .seq)
def AHr (a3:Addr)(x:AA)(w:World)(R:Q1 Env):Prop:=R [(4,AA.v x),(13,AA.v x),(3,.pointer (some a3))] w
theorem APH (a3:Addr)(x:AA)(w:World)(R:Q1 Env):Ce prog ⟨FF,Ig,(fun _ _=>False)⟩ AHp KC [(13,AA.v x),(3,.pointer (some a3))] w (xx R)=AHr a3 x w R:=by kernel_rfl
def AAN (a3:Addr)(x:AA)(Oz:Int)(YK:Int)(R:Q0)(I32:Q1 Int)(s30:Int)(z31:World):Prop:=Br (decide (s30<YK)) (0<=s30/\s30<(((⟨some ⟨0,0,none⟩,5,5⟩:AA).cut 1 0 ((wrap .i64 ((x.len:Int)+1)).toNat) 5).len:Nat)/\Nn ((⟨some ⟨0,0,none⟩,5,5⟩:AA).cut 1 0 ((wrap .i64 ((x.len:Int)+1)).toNat) 5).p fun a33=>Ld z31 (a33.add ((s30).toNat*1)) (Value.int .u64) fun Nc=>Nc≠0/\Lt (wrap .u8 (wrap .u64 (33+(Int.tmod (wrap .u64 (Int.tdiv Oz Nc)) 85)))) fun (Rz:Int)=>lL (some a3) Rz z31 fun Nd z37=>I32 (wrap .i64 (s30+1)) z37) (R z31)
def fM (w:World)(a3:Addr)(x:AA)(R:Q0)(qK:Unit)(z22:World):Prop:=Ld z22 ⟨w.heap.size,0,none⟩ (Value.int .u8) fun Mm=>Ld z22 (.add ⟨w.heap.size,0,none⟩ 1) (Value.int .u8) fun Fy=>Lt (Kk .u64 (wrap .u64 ((wrap .u64 Mm)*2^24)) (wrap .u64 ((wrap .u64 Fy)*2^16))) fun (JY:Int)=>Ld z22 (.add ⟨w.heap.size,0,none⟩ 2) (Value.int .u8) fun HN=>Ld z22 (.add ⟨w.heap.size,0,none⟩ 3) (Value.int .u8) fun Mn=>Lt (Kk .u64 (Kk .u64 JY (wrap .u64 ((wrap .u64 HN)*2^8))) (wrap .u64 Mn)) fun (Oz:Int)=>0<=(wrap .i64 ((x.len:Int)+1))/\(wrap .i64 ((x.len:Int)+1))<=((5:Nat):Int)/\Lt (((((⟨some ⟨0,0,none⟩,5,5⟩:AA).cut 1 0 ((wrap .i64 ((x.len:Int)+1)).toNat) 5).len:Nat):Int)) fun (YK:Int)=>Lp (σ:=Int) (AAN a3 x Oz YK R) 0 z22
noncomputable def KD:Code:=(rfb (bk (l6 (sq1 (l6 (l6 (Tryz.f51.body.getD .skip)))))))
def AHq:A7:=(.block (.q (.q (.q (.join [] [3,5,6] (.q (.cond (.q .leaf) .leaf)) (.q (.q (.block (.loop [(50,(.one (.int .i64)))] [3,7,48,49] (.q (.seq (.cond .leaf .leaf) (.seq (.block (.q (.Bq .seq))) (.Bq .seq)))))))))))))
def ACJ (a3:Addr)(x:AA)(w:World)(R:Q0):Prop:=Nw w (.cells #[.int .u8 0,.int .u8 0,.int .u8 0,.int .u8 0] 114) fun z6=>St z6 ⟨w.heap.size,0,none⟩ (.int .u8 0) fun z7=>St z7 (.add ⟨w.heap.size,0,none⟩ 1) (.int .u8 0) fun z8=>St z8 (.add ⟨w.heap.size,0,none⟩ 2) (.int .u8 0) fun z9=>St z9 (.add ⟨w.heap.size,0,none⟩ 3) (.int .u8 0) fun Az=>Rn prog (Builtin.copy_ #[108,108] 3 #[AA.v ((⟨some ⟨w.heap.size,0,none⟩,4,4⟩:AA).cut 1 0 4 4),AA.v x]) Az (Value.int .i64) fun Cm z12=>CP (fM w a3 x R) fun (AKc:Q1 Unit)=>Br ((x.len:Int)==4) (Ld z12 ⟨w.heap.size,0,none⟩ (Value.int .u8) fun gM=>Ld z12 (.add ⟨w.heap.size,0,none⟩ 1) (Value.int .u8) fun R2=>Ld z12 (.add ⟨w.heap.size,0,none⟩ 2) (Value.int .u8) fun x41=>Ld z12 (.add ⟨w.heap.size,0,none⟩ 3) (Value.int .u8) fun Rf=>Rn prog (do eqGuard .eql 114 (.tmp 23) (.tmp 24) (.agg #[.int .u8 gM,.int .u8 R2,.int .u8 x41,.int .u8 Rf]) (.agg #[.int .u8 0,.int .u8 0,.int .u8 0,.int .u8 0]);binOp .eql 114 (.agg #[.int .u8 gM,.int .u8 R2,.int .u8 x41,.int .u8 Rf]) (.agg #[.int .u8 0,.int .u8 0,.int .u8 0,.int .u8 0])) z12 Value.bool fun R4 z44=>Br R4 (lL (some a3) 122 z44 fun r45 z46=>R z46) (AKc () z44)) (AKc () z12)
theorem API (a3:Addr)(x:AA)(w:World)(R:Q0):Ce prog ⟨FF,Ig,(fun _ _=>False)⟩ AHq KD [(4,AA.v x),(13,AA.v x),(3,.pointer (some a3))] w (xx fun _=>R)=ACJ a3 x w R:=by kernel_rfl
def rtK (R:Q1 ByteArray):Exit->Env->World->Prop:=fun e E w=>match e with
 | .ret=>(match E.get? 2 with
  |some (.string a)=>R a w
  |_=>False)
 |_=>False
noncomputable def ACQ:Code:=(l6 (l6 (l6 (Tryz.f51.body.getD .skip))))
def AH2:A7:=(.q .leaf)
def AH3 (a3:Addr)(w:World)(R:Q1 ByteArray):Prop:=C81 (some a3) w fun gC z48=>(((gC).size+((⟨#[126,62]⟩:ey)).size:Nat):Int)<=IntKind.i64.max/\R (gC++(⟨#[126,62]⟩:ey)) z48
theorem APR (a3:Addr)(w:World)(R:Q1 ByteArray):Cx prog ⟨FF,Ig,(fun _ _=>False)⟩ AH2 ACQ [(3,.pointer (some a3))] w (rtK R)=AH3 a3 w R:=by kernel_rfl
def C51 (s1:ByteArray):=K1 Value.string 51 #[.string s1]
end
section
open Sh
def C46 (p1:Int×Int×Int):=K1 Value.bool 46 #[.agg #[.int .i64 (p1.1),.int .i64 (p1.2.1),.int .i64 (p1.2.2)]]
def yB (p1:Int×Int×Int):=K1 vi 109 #[.agg #[.int .i64 (p1.1),.int .i64 (p1.2.1),.int .i64 (p1.2.2)]]
def yC (p1:Int×Int×Int)(s2:ByteArray)(Wb:Int):=K1 vi 110 #[.agg #[.int .i64 (p1.1),.int .i64 (p1.2.1),.int .i64 (p1.2.2)],.string s2,.int .i64 Wb]
def qU (GW:AA)(i2:Int):=K1 (Value.int .u8) 144 #[AA.v GW,.int .i64 i2]
def yD (a1:Int)(b2:Int):=K1 vi 168 #[.int .i64 a1,.int .i64 b2]
def AEj (a1:Int)(b2:Int)(c3:Int):=K1 (Value.int .u8) 145 #[.int .u8 a1,.int .u8 b2,.int .u8 c3]
def yE (r1:AA×AA×Int)(DU:Int)(i3:Int):=K1 (Value.int .u8) 128 #[.agg #[AA.v r1.1,AA.v r1.2.1,.int .i64 (r1.2.2)],.int .i64 DU,.int .i64 i3]
def Wc (r1:AA×AA×Int)(DU:Int):=K1 AA.v 111 #[.agg #[AA.v r1.1,AA.v r1.2.1,.int .i64 (r1.2.2)],.int .i64 DU]
def yF (GW:AA):=K1 vi 129 #[AA.v GW]
def AEk (r1:AA×AA×Int):=K1 vi 112 #[.agg #[AA.v r1.1,AA.v r1.2.1,.int .i64 (r1.2.2)]]
def C89 (p1:Int×Int×Int)(s2:ByteArray):=K2 Value.string vi 89 #[.agg #[.int .i64 (p1.1),.int .i64 (p1.2.1),.int .i64 (p1.2.2)],.string s2]
def qV (r1:AA×AA×Int)(DU:Int):=K0 118 #[.agg #[AA.v r1.1,AA.v r1.2.1,.int .i64 (r1.2.2)],.int .i64 DU]
def C92 (p1:Int×Int×Int)(s2:ByteArray):=K2 Value.string vi 92 #[.agg #[.int .i64 (p1.1),.int .i64 (p1.2.1),.int .i64 (p1.2.2)],.string s2]
def vO (p1:Int×Int×Int):=K1 vi 24 #[.agg #[.int .i64 (p1.1),.int .i64 (p1.2.1),.int .i64 (p1.2.2)]]
def S46 (p1:Int×Int×Int)(w:World)(R:Q1 Bool):Prop:=Nw w (.cells #[.int .i64 (p1.1),.int .i64 (p1.2.1),.int .i64 (p1.2.2)] 27) fun z2=>Ld z2 ⟨w.heap.size,0,none⟩ (Value.int .i64) fun x3=>Br (x3==1) (Ld z2.drew (.add ⟨w.heap.size,0,none⟩ 1) (Value.int .i64) fun x4=>Br (decide (x4>=1)) (Ld z2.drew (.add ⟨w.heap.size,0,none⟩ 2) (Value.int .i64) fun x5=>Br (decide (x5>=1)) (Ld z2.drew (.add ⟨w.heap.size,0,none⟩ 1) (Value.int .i64) fun x6=>Br (decide (x6<=8192)) (Ld z2.drew (.add ⟨w.heap.size,0,none⟩ 2) (Value.int .i64) fun x7=>Ld z2.drew (.add ⟨w.heap.size,0,none⟩ 1) (Value.int .i64) fun x8=>x8≠0/\R (decide (x7<=(wrap .i64 (Int.tdiv 8192 x8)))) z2.drew) (R false z2.drew)) (R false z2.drew)) (R false z2.drew)) (Ld z2 ⟨w.heap.size,0,none⟩ (Value.int .i64) fun x9=>Br (x9==2) (Ld z2.drew (.add ⟨w.heap.size,0,none⟩ 1) (Value.int .i64) fun D0=>Br (decide (D0>=1)) (Ld z2.drew (.add ⟨w.heap.size,0,none⟩ 2) (Value.int .i64) fun Cm=>Br (decide (Cm>=1)) (Ld z2.drew (.add ⟨w.heap.size,0,none⟩ 1) (Value.int .i64) fun DA=>Br (decide (DA<=8192)) (Ld z2.drew (.add ⟨w.heap.size,0,none⟩ 2) (Value.int .i64) fun Et=>Ld z2.drew (.add ⟨w.heap.size,0,none⟩ 1) (Value.int .i64) fun Em=>Em≠0/\R (decide (Et<=(wrap .i64 (Int.tdiv 8192 Em)))) z2.drew) (R false z2.drew)) (R false z2.drew)) (R false z2.drew)) (Ld z2 ⟨w.heap.size,0,none⟩ (Value.int .i64) fun Dt=>Br (decide (Dt>=10)) (Ld z2 ⟨w.heap.size,0,none⟩ (Value.int .i64) fun D5=>Br (decide (D5<=15)) (Ld z2.drew (.add ⟨w.heap.size,0,none⟩ 1) (Value.int .i64) fun Eg=>Br (decide (Eg>=1)) (Ld z2.drew (.add ⟨w.heap.size,0,none⟩ 2) (Value.int .i64) fun Co=>Br (decide (Co>=1)) (Ld z2.drew (.add ⟨w.heap.size,0,none⟩ 1) (Value.int .i64) fun En=>Br (decide (En<=8192)) (Ld z2.drew (.add ⟨w.heap.size,0,none⟩ 2) (Value.int .i64) fun Ge=>Ld z2.drew (.add ⟨w.heap.size,0,none⟩ 1) (Value.int .i64) fun D6=>D6≠0/\R (decide (Ge<=(wrap .i64 (Int.tdiv 8192 D6)))) z2.drew) (R false z2.drew)) (R false z2.drew)) (R false z2.drew)) (R false z2.drew)) (R false z2.drew)))
theorem T46 (p1 w R):S46 p1 w R->C46 (p1.1,p1.2.1,p1.2.2) w R:=B5 ob (.q (.q (.s (.Bq .still) .l))) [.agg #[.int .i64 (p1.1),.int .i64 (p1.2.1),.int .i64 (p1.2.2)]] Tryz.func46
def AKy (p1:Int×Int×Int)(w:World)(R:Q1 Int):Prop:=Nw w (.cells #[.int .i64 (p1.1),.int .i64 (p1.2.1),.int .i64 (p1.2.2)] 27) fun z2=>Ld z2 ⟨w.heap.size,0,none⟩ (Value.int .i64) fun x8=>Ld z2 (.add ⟨w.heap.size,0,none⟩ 1) (Value.int .i64) fun x9=>Ld z2 (.add ⟨w.heap.size,0,none⟩ 2) (Value.int .i64) fun D0=>C46 (x8,x9,D0) z2 fun MF z12=>Br (!MF) (R 0 z12) (Ld z12 (.add ⟨w.heap.size,0,none⟩ 1) (Value.int .i64) fun Et=>Ld z12 (.add ⟨w.heap.size,0,none⟩ 2) (Value.int .i64) fun Em=>R (wrap .i64 (Et*Em)) z12)
theorem ASh (p1 w R):AKy p1 w R->yB (p1.1,p1.2.1,p1.2.2) w R:=B5 oi (.q (.s (.q (.c (.q .l) .l)) (.q .l))) [.agg #[.int .i64 (p1.1),.int .i64 (p1.2.1),.int .i64 (p1.2.2)]] Tryz.func109
def AKz (p1:Int×Int×Int)(s2:ByteArray)(Wb:Int)(w:World)(R:Q1 Int):Prop:=Nw w (.cells #[.int .i64 (p1.1),.int .i64 (p1.2.1),.int .i64 (p1.2.2)] 27) fun z4=>Ld z4 ⟨w.heap.size,0,none⟩ (Value.int .i64) fun x5=>Ld z4 (.add ⟨w.heap.size,0,none⟩ 1) (Value.int .i64) fun x6=>Ld z4 (.add ⟨w.heap.size,0,none⟩ 2) (Value.int .i64) fun x7=>C46 (x5,x6,x7) z4 fun r8 z9=>Br (!r8) (R 1 z9) (Br (decide ((s2.size:Int)>1048576)) (R 5 z9) (Ld z9 ⟨w.heap.size,0,none⟩ (Value.int .i64) fun D0=>Br (D0 !=1) (Wb≠0/\Br ((Int.tmod (s2.size:Int) Wb) !=0) (R 16 z9) (R 0 z9)) (R 0 z9)))
theorem ASi (p1 s2 Wb w R):AKz p1 s2 Wb w R->yC (p1.1,p1.2.1,p1.2.2) s2 Wb w R:=B5 oi (.q (.s (.b (.q (.c (.q .l) (.q (.c (.q .l) (.q (.c (.q .l) .l))))))) (.q .l))) [.agg #[.int .i64 (p1.1),.int .i64 (p1.2.1),.int .i64 (p1.2.2)],.string s2,.int .i64 Wb] Tryz.func110
def AK0 (GW:AA)(i2:Int)(w:World)(R:Q1 Int):Prop:=Br (decide (i2<0)) (R 0 w) (Br (decide (i2>=(GW.len:Int))) (R 0 w) (0<=i2/\i2<(GW.len:Nat)/\Nn GW.p fun a3=>Ld w (a3.add ((i2).toNat*1)) (Value.int .u8) fun x4=>R x4 w))
theorem ASj (GW i2 w R):AK0 GW i2 w R->qU GW i2 w R:=B5 (.one (.int .u8)) (.q (.s (.q (.c (.q .l) .l)) (.q .l))) [AA.v GW,.int .i64 i2] Tryz.func144
def AK1 (a1:Int)(b2:Int)(w:World)(R:Q1 Int):Prop:=Lt ((if (wrap .i64 (b2-a1))>(wrap .i64 (a1-b2))then (wrap .i64 (b2-a1))else (wrap .i64 (a1-b2)))) fun (x3:Int)=>R x3 w
theorem ASk (a1 b2 w R):AK1 a1 b2 w R->yD a1 b2 w R:=B5 oi (.q (.q .l)) [.int .i64 a1,.int .i64 b2] Tryz.func168
def qW (b2:Int)(c3:Int)(x4:Int)(R:Q1 Int)(I7:Q1 (Int×Int))(s5:Int×Int)(z6:World):Prop:=Br (decide (s5.2<2)) (0<=s5.2/\s5.2<(2:Nat)/\∃x8:Int,(#[.int .u8 b2,.int .u8 c3]:Array Value)[(s5.2).toNat*1]?=some (.int .u8 x8)/\yD (wrap .i64 x8) x4 z6 fun r9 Az=>yD (wrap .i64 s5.1) x4 Az fun MF z12=>Br (decide (r9<MF)) (I7 (x8,wrap .i64 (s5.2+1)) z12) (I7 (s5.1,wrap .i64 (s5.2+1)) z12)) (R s5.1 z6)
def AK2 (a1:Int)(b2:Int)(c3:Int)(w:World)(R:Q1 Int):Prop:=Lt (wrap .i64 ((wrap .i64 ((wrap .i64 a1)+(wrap .i64 b2)))-(wrap .i64 c3))) fun (x4:Int)=>Lp (σ:=Int×Int) (qW b2 c3 x4 R) (a1,0) w
theorem ASl (a1 b2 c3 w R):AK2 a1 b2 c3 w R->AEj a1 b2 c3 w R:=B5 (.one (.int .u8)) (.q (.q (.q (.s (.q (.b (.o [(8,(.one (.int .u8))),(23,oi)] [7,22] (.q (.s (.c .l .l) (.s (.b (.q (.q (.c .r .l)))) .r)))))) (.q .l))))) [.int .u8 a1,.int .u8 b2,.int .u8 c3] Tryz.func145
def AK3 (r1:AA×AA×Int)(DU:Int)(i3:Int)(w:World)(R:Q1 Int):Prop:=Nw w (.cells #[AA.v r1.1,AA.v r1.2.1,.int .i64 (r1.2.2)] 154) fun z4=>∃YN:World->Prop,YN z4.drew/\AP YN (.add ⟨w.heap.size,0,none⟩ 1) AA.v fun x6=>AP YN (.add ⟨w.heap.size,0,none⟩ 2) (Value.int .i64) fun x7=>AP YN ⟨w.heap.size,0,none⟩ AA.v fun x8=>AP YN ⟨w.heap.size,0,none⟩ AA.v fun x9=>AP YN (.add ⟨w.heap.size,0,none⟩ 2) (Value.int .i64) fun D0=>qU x6 (wrap .i64 (i3-x7)) z4.drew fun MF z12=>YN z12/\qU x8 i3 z12 fun jr AN=>YN AN/\qU x9 (wrap .i64 (i3-D0)) AN fun FQ Bd=>Br (DU==1) (R MF Bd) (Br (DU==2) (R jr Bd) (Br (DU==3) (Lt (wrap .i64 (Int.tdiv (wrap .i64 ((wrap .i64 MF)+(wrap .i64 jr))) 2)) fun (Eg:Int)=>R (wrap .u8 Eg) Bd) (Br (DU==4) (AEj MF jr FQ Bd fun pW CV=>R pW CV) (R 0 Bd))))
theorem ASm (r1 DU i3 w R):AK3 r1 DU i3 w R->yE (r1.1,r1.2.1,r1.2.2) DU i3 w R:=B5 (.one (.int .u8)) (.q (.s (.Bq (.held [17] (.take 0 (.take 1 (.take 2 (.take 3 (.take 4 (.take 5 (.take 7 (.take 8 (.take 9 (.take 11 (.take 12 (.take 13 (.take 14 (.take 15 (.take 16 (.Aq 6 none (.Aq 10 none (.Aq 17 (some []) (.take 18 (.take 19 (.take 20 .done))))))))))))))))))))))) (.s (.q (.b (.q (.c (.q .l) (.q (.c (.q .l) (.q (.c (.q .l) (.q (.c (.q .l) .l)))))))))) (.q .l)))) [.agg #[AA.v r1.1,AA.v r1.2.1,.int .i64 (r1.2.2)],.int .i64 DU,.int .i64 i3] Tryz.func128
def qX (w:World)(DU:Int)(x5:AA)(x7:AA)(R:Q1 AA)(I10:Q1 Int)(s8:Int)(z9:World):Prop:=Br (decide (s8<(x7.len:Int))) (0<=s8/\s8<(x7.len:Nat)/\Nn x7.p fun lg=>Ld z9 (lg.add ((s8).toNat*1)) (Value.int .u8) fun DA=>Ld z9 ⟨w.heap.size,0,none⟩ AA.v fun Et=>Ld z9 (.add ⟨w.heap.size,0,none⟩ 1) AA.v fun Em=>Ld z9 (.add ⟨w.heap.size,0,none⟩ 2) (Value.int .i64) fun Dt=>yE (Et,Em,Dt) DU s8 z9 fun O2 D3=>0<=s8/\s8<(x5.len:Nat)/\Nn x5.p fun a18=>St D3 (a18.add ((s8).toNat*1)) (.int .u8 (wrap .u8 (DA-O2))) fun CV=>I10 (wrap .i64 (s8+1)) CV) (R x5 z9)
def AK4 (r1:AA×AA×Int)(DU:Int)(w:World)(R:Q1 AA):Prop:=Nw w (.cells #[AA.v r1.1,AA.v r1.2.1,.int .i64 (r1.2.2)] 154) fun z3=>Ld z3 (.add ⟨w.heap.size,0,none⟩ 1) AA.v fun x4=>Rn prog (Instr.makeSlice 108 (.int .i64 (x4.len:Int)) (.int .i64 (x4.len:Int))) z3 AA.v fun x5 z6=>Ld z6 (.add ⟨w.heap.size,0,none⟩ 1) AA.v fun x7=>Lp (σ:=Int) (qX w DU x5 x7 R) 0 z6
theorem ASn (r1 DU w R):AK4 r1 DU w R->Wc (r1.1,r1.2.1,r1.2.2) DU w R:=B5 ol (.q (.q (.s (.q (.b (.o [(15,oi)] [1,2,5,13,14] (.q (.s (.c .l .l) (.s (.b (.q .r)) .r)))))) (.q .l)))) [.agg #[AA.v r1.1,AA.v r1.2.1,.int .i64 (r1.2.2)],.int .i64 DU] Tryz.func111
def qY (GW:AA)(R:Q1 Int)(I4:Q1 (Int×Int))(s2:Int×Int)(z3:World):Prop:=Br (decide (s2.2<(GW.len:Int))) (0<=s2.2/\s2.2<(GW.len:Nat)/\Nn GW.p fun a5=>Ld z3 (a5.add ((s2.2).toNat*1)) (Value.int .u8) fun x6=>Lt ((if (wrap .i64 (256-(wrap .i64 x6)))<(wrap .i64 x6)then (wrap .i64 (256-(wrap .i64 x6)))else (wrap .i64 x6))) fun (x7:Int)=>I4 (wrap .i64 (s2.1+x7),wrap .i64 (s2.2+1)) z3) (R s2.1 z3)
def AK5 (GW:AA)(w:World)(R:Q1 Int):Prop:=Lp (σ:=Int×Int) (qY GW R) (0,0) w
theorem ASo (GW w R):AK5 GW w R->yF GW w R:=B5 oi (.q (.q (.s (.q (.b (.o [(3,oi),(8,oi)] [6,7] (.q (.s (.c .l .l) (.s (.b (.q .r)) .r)))))) (.q .l)))) [AA.v GW] Tryz.func129
def qZ (w:World)(R:Q1 Int)(I12:Q1 (Int×Int×Int))(DF:Int×Int×Int)(Bg:World):Prop:=Br (decide (DF.2.2<5)) (Ld Bg ⟨w.heap.size,0,none⟩ AA.v fun Et=>Ld Bg (.add ⟨w.heap.size,0,none⟩ 1) AA.v fun Em=>Ld Bg (.add ⟨w.heap.size,0,none⟩ 2) (Value.int .i64) fun Dt=>Wc (Et,Em,Dt) DF.2.2 Bg fun O2 D3=>yF O2 D3 fun pW CV=>Br (decide (pW<DF.2.1)) (I12 (DF.2.2,pW,wrap .i64 (DF.2.2+1)) CV) (I12 (DF.1,DF.2.1,wrap .i64 (DF.2.2+1)) CV)) (R DF.1 Bg)
def AK6 (r1:AA×AA×Int)(w:World)(R:Q1 Int):Prop:=Nw w (.cells #[AA.v r1.1,AA.v r1.2.1,.int .i64 (r1.2.2)] 154) fun z2=>Ld z2 ⟨w.heap.size,0,none⟩ AA.v fun x3=>Ld z2 (.add ⟨w.heap.size,0,none⟩ 1) AA.v fun x4=>Ld z2 (.add ⟨w.heap.size,0,none⟩ 2) (Value.int .i64) fun x5=>Wc (x3,x4,x5) 0 z2 fun r6 z7=>yF r6 z7 fun r8 z9=>Lp (σ:=Int×Int×Int) (qZ w R) (0,r8,1) z9
theorem ASp (r1 w R):AK6 r1 w R->AEk (r1.1,r1.2.1,r1.2.2) w R:=B5 oi (.q (.q (.q (.s (.q (.b (.o [(3,oi),(4,oi),(5,oi)] [1] (.s (.q (.c .l .l)) (.s (.b (.q (.q (.c .r .l)))) .r))))) (.q .l))))) [.agg #[AA.v r1.1,AA.v r1.2.1,.int .i64 (r1.2.2)]] Tryz.func112
def AA0 (w:World)(r7:Int)(DT:World)(Kh:ByteArray×AA)(I34:Q1 (ByteArray×AA))(j4:Unit)(z46:World):Prop:=Ld z46 ⟨w.heap.size,0,none⟩ (Value.int .i64) fun jo=>Ld z46 ⟨w.heap.size,0,none⟩ (Value.int .i64) fun jq=>Br (jq==2) (Ld z46 ⟨DT.heap.size,0,none⟩ AA.v fun ZG=>Ld z46 (.add ⟨DT.heap.size,0,none⟩ 1) AA.v fun ZH=>Ld z46 (.add ⟨DT.heap.size,0,none⟩ 2) (Value.int .i64) fun x64=>Wc (ZG,ZH,x64) 1 z46 fun lf z66=>Rn prog (Builtin.append_ #[108,108] 108 #[AA.v Kh.2,AA.v lf]) z66 AA.v fun Ys Re=>0<=(if 1>r7 then 1 else r7)/\(if 1>r7 then 1 else r7)<=(((Kh.1).size:Nat):Int)/\I34 (Kh.1.extract (((if 1>r7 then 1 else r7)).toNat) ((Kh.1).size),Ys) Re) (Br (jq==15) (Ld z46 ⟨DT.heap.size,0,none⟩ AA.v fun xe=>Ld z46 (.add ⟨DT.heap.size,0,none⟩ 1) AA.v fun x70=>Ld z46 (.add ⟨DT.heap.size,0,none⟩ 2) (Value.int .i64) fun x71=>AEk (xe,x70,x71) z46 fun r72 vM=>∃Mr:World->Prop,Mr vM.drew/\AP Mr ⟨DT.heap.size,0,none⟩ AA.v fun oh=>AP Mr (.add ⟨DT.heap.size,0,none⟩ 1) AA.v fun ZA=>AP Mr (.add ⟨DT.heap.size,0,none⟩ 2) (Value.int .i64) fun x77=>Nw vM.drew (.cells #[.int .u8 (wrap .u8 r72)] 5) fun qI=>Mr qI/\Rn prog (Builtin.append_ #[108,108] 108 #[AA.v Kh.2,AA.v ⟨some ⟨vM.drew.heap.size,0,none⟩,1,1⟩]) qI AA.v fun x79 ZR=>Mr ZR/\Wc (oh,ZA,x77) r72 ZR fun Ma lq=>Rn prog (Builtin.append_ #[108,108] 108 #[AA.v x79,AA.v Ma]) lq AA.v fun xt lz=>0<=(if 1>r7 then 1 else r7)/\(if 1>r7 then 1 else r7)<=(((Kh.1).size:Nat):Int)/\I34 (Kh.1.extract (((if 1>r7 then 1 else r7)).toNat) ((Kh.1).size),xt) lz) (∃j5:World->Prop,j5 z46.drew/\AP j5 ⟨DT.heap.size,0,none⟩ AA.v fun x86=>AP j5 (.add ⟨DT.heap.size,0,none⟩ 1) AA.v fun vL=>AP j5 (.add ⟨DT.heap.size,0,none⟩ 2) (Value.int .i64) fun x88=>Nw z46.drew (.cells #[.int .u8 (wrap .u8 (wrap .i64 (jo-10)))] 5) fun xr=>j5 xr/\Rn prog (Builtin.append_ #[108,108] 108 #[AA.v Kh.2,AA.v ⟨some ⟨z46.drew.heap.size,0,none⟩,1,1⟩]) xr AA.v fun x90 z91=>j5 z91/\Wc (x86,vL,x88) (wrap .i64 (jo-10)) z91 fun r92 z93=>Rn prog (Builtin.append_ #[108,108] 108 #[AA.v x90,AA.v r92]) z93 AA.v fun x94 z95=>0<=(if 1>r7 then 1 else r7)/\(if 1>r7 then 1 else r7)<=(((Kh.1).size:Nat):Int)/\I34 (Kh.1.extract (((if 1>r7 then 1 else r7)).toNat) ((Kh.1).size),x94) z95))
def AA1 (w:World)(r7:Int)(DT:World)(R:Q2 ByteArray Int)(I34:Q1 (ByteArray×AA))(Kh:ByteArray×AA)(FH:World):Prop:=Br (decide ((((Kh.1).size:Nat):Int)>0)) (CP (AA0 w r7 DT Kh I34) fun (AK7:Q1 Unit)=>∃AEl:World->Prop,AEl FH.drew/\AP AEl (.add ⟨DT.heap.size,0,none⟩ 1) AA.v fun x98=>0<=(if 1>r7 then 1 else r7)/\(if 1>r7 then 1 else r7)<=(((Kh.1).size:Nat):Int)/\(Rn prog (convert 9 108 (.string (Kh.1.extract 0 (((if 1>r7 then 1 else r7)).toNat)))) FH.drew AA.v fun x99 R6=>AEl R6/\St R6 ⟨DT.heap.size,0,none⟩ (AA.v x98) fun jt=>St jt (.add ⟨DT.heap.size,0,none⟩ 1) (AA.v x99) fun p9=>AK7 () p9)/\(St FH.drew ⟨DT.heap.size,0,none⟩ (AA.v x98) fun AEJ=>Rn prog (convert 9 108 (.string (Kh.1.extract 0 (((if 1>r7 then 1 else r7)).toNat)))) AEJ AA.v fun qC z105=>St z105 (.add ⟨DT.heap.size,0,none⟩ 1) (AA.v qC) fun AEG=>AK7 () AEG)) (Rn prog (convert 108 9 (AA.v Kh.2)) FH Value.string fun OU AEU=>R OU 0 AEU)
def AA2 (w:World)(s2:ByteArray)(r7:Int)(R:Q2 ByteArray Int)(s22:Unit)(Dz:World):Prop:=(if 1>r7 then 1 else r7)≠0/\Lt (wrap .i64 ((s2.size:Int)+(wrap .i64 (Int.tdiv (s2.size:Int) (if 1>r7 then 1 else r7))))) fun (Fy:Int)=>Rn prog (Instr.makeSlice 108 (.int .i64 0) (.int .i64 Fy)) Dz AA.v fun JY DT=>Ld DT (.add ⟨w.heap.size,0,none⟩ 1) (Value.int .i64) fun Mn=>Nw DT (.cells #[AA.v ⟨none,0,0⟩,AA.v ⟨none,0,0⟩,.int .i64 0] 154) fun z28=>St z28 ⟨DT.heap.size,0,none⟩ (AA.v ⟨none,0,0⟩) fun OQ=>St OQ (.add ⟨DT.heap.size,0,none⟩ 1) (AA.v ⟨none,0,0⟩) fun ER=>St ER (.add ⟨DT.heap.size,0,none⟩ 2) (.int .i64 Mn) fun z31=>Lp (σ:=ByteArray×AA) (AA1 w r7 DT R) (s2,JY) z31
def S89 (p1:Int×Int×Int)(s2:ByteArray)(w:World)(R:Q2 ByteArray Int):Prop:=Nw w (.cells #[.int .i64 (p1.1),.int .i64 (p1.2.1),.int .i64 (p1.2.2)] 27) fun z3=>Ld z3 ⟨w.heap.size,0,none⟩ (Value.int .i64) fun x4=>Ld z3 (.add ⟨w.heap.size,0,none⟩ 1) (Value.int .i64) fun x5=>Ld z3 (.add ⟨w.heap.size,0,none⟩ 2) (Value.int .i64) fun x6=>yB (x4,x5,x6) z3 fun r7 z8=>Ld z8 ⟨w.heap.size,0,none⟩ (Value.int .i64) fun Em=>Ld z8 (.add ⟨w.heap.size,0,none⟩ 1) (Value.int .i64) fun Dt=>Ld z8 (.add ⟨w.heap.size,0,none⟩ 2) (Value.int .i64) fun D5=>yC (Em,Dt,D5) s2 (if 1>r7 then 1 else r7) z8 fun ln CZ=>Br (ln !=0) (R (⟨#[]⟩:ey) ln CZ) (CP (AA2 w s2 r7 R) fun (AA3:Q1 Unit)=>Ld CZ ⟨w.heap.size,0,none⟩ (Value.int .i64) fun OY=>Br (OY==1) (R s2 0 CZ) (Ld CZ ⟨w.heap.size,0,none⟩ (Value.int .i64) fun OZ=>Br (decide (OZ>=10)) ((if 1>r7 then 1 else r7)≠0/\Lt (wrap .i64 ((s2.size:Int)+(wrap .i64 (Int.tdiv (s2.size:Int) (if 1>r7 then 1 else r7))))) fun (QT:Int)=>Br (decide (QT>1048576)) (R (⟨#[]⟩:ey) 5 CZ) (AA3 () CZ)) (AA3 () CZ)))
theorem T89 (p1 s2 w R):S89 p1 s2 w R->C89 (p1.1,p1.2.1,p1.2.2) s2 w R:=Nb os oi (.q (.q (.s (.q (.q (.c (.q .l) .l))) (.join [] [1,2,6] (.b (.q (.c (.q .l) (.q (.c (.q .l) .l))))) (.q (.q (.s (.b (.o [(1,os),(8,ol)] [2,6,9] (.s (.q (.c .l .l)) (.s (.b (.join [] [1,2,6,8,9] (.Bq (.held [7] (.take 0 (.take 1 (.take 2 (.take 3 (.take 4 (.take 6 (.Gx 5 none (.Aq 7 (some [9]) (.take 8 (.Aq 9 (some []) .done))) (.Aq 7 (some [5]) (.Aq 5 (some [9]) (.take 8 (.Aq 9 (some []) .done))))))))))))) (.q (.s (.q (.b (.q (.c (.q .l) (.q (.c .r .l)))))) (.Bq (.held [7] (.take 0 (.take 1 (.take 2 (.take 5 (.take 6 (.Aq 3 none (.Aq 4 none (.Aq 7 (some [8]) (.Aq 8 (some []) (.take 9 .done)))))))))))))))) .r)))) (.q .l)))))))) [.agg #[.int .i64 (p1.1),.int .i64 (p1.2.1),.int .i64 (p1.2.2)],.string s2] Tryz.func89
def qc (w:World)(DU:Int)(x4:AA)(R:Q0)(I7:Q1 Int)(s5:Int)(z6:World):Prop:=Br (decide (s5<(x4.len:Int))) (∃vS8:World->Prop,vS8 z6.drew/\AP vS8 (.add ⟨w.heap.size,0,none⟩ 1) AA.v fun x9=>0<=s5/\s5<(x9.len:Nat)/\Nn x9.p fun J3=>AP vS8 (J3.add ((s5).toNat*1)) (Value.int .u8) fun Cm=>AP vS8 ⟨w.heap.size,0,none⟩ AA.v fun DA=>AP vS8 (.add ⟨w.heap.size,0,none⟩ 1) AA.v fun Et=>AP vS8 (.add ⟨w.heap.size,0,none⟩ 2) (Value.int .i64) fun Em=>yE (DA,Et,Em) DU s5 z6.drew fun FQ Bd=>vS8 Bd/\0<=s5/\s5<(x9.len:Nat)/\Nn x9.p fun WR=>St Bd (WR.add ((s5).toNat*1)) (.int .u8 (wrap .u8 (Cm+FQ))) fun CZ=>I7 (wrap .i64 (s5+1)) CZ) (R z6)
def AK8 (r1:AA×AA×Int)(DU:Int)(w:World)(R:Q0):Prop:=Nw w (.cells #[AA.v r1.1,AA.v r1.2.1,.int .i64 (r1.2.2)] 154) fun z3=>Ld z3 (.add ⟨w.heap.size,0,none⟩ 1) AA.v fun x4=>Lp (σ:=Int) (qc w DU x4 R) 0 z3
theorem ASr (r1 DU w R):AK8 r1 DU w R->qV (r1.1,r1.2.1,r1.2.2) DU w R:=ZC (.q (.q (.b (.o [(8,oi)] [1,2,7] (.q (.s (.c .l .l) (.s (.b (.q (.Bq (.held [11] (.take 0 (.take 1 (.take 2 (.take 3 (.take 4 (.take 5 (.take 6 (.take 7 (.Aq 8 none (.take 9 (.take 10 (.Aq 11 (some []) .done)))))))))))))))) .r))))))) [.agg #[AA.v r1.1,AA.v r1.2.1,.int .i64 (r1.2.2)],.int .i64 DU] Tryz.func118
def AA4 (r7:Int)(DF:Int)(z21:World)(Mo:ByteArray×AA)(I31:Q1 (ByteArray×AA))(R:Q2 ByteArray Int)(Kh:Int)(FH:World):Prop:=Br (decide (Kh>=5)) (R (⟨#[]⟩:ey) 3 FH) (∃AEn:World->Prop,AEn FH.drew/\AP AEn (.add ⟨z21.heap.size,0,none⟩ 1) AA.v fun gL=>0<=(wrap .i64 ((if 1>r7 then 1 else r7)+DF))/\(wrap .i64 ((if 1>r7 then 1 else r7)+DF))<=(((Mo.1).size:Nat):Int)/\0<=DF/\DF<=(((wrap .i64 ((if 1>r7 then 1 else r7)+DF)).toNat:Nat):Int)/\(Rn prog (convert 9 108 (.string (Mo.1.extract ((DF).toNat) ((wrap .i64 ((if 1>r7 then 1 else r7)+DF)).toNat)))) FH.drew AA.v fun Ry z47=>AEn z47/\St z47 ⟨z21.heap.size,0,none⟩ (AA.v gL) fun z48=>St z48 (.add ⟨z21.heap.size,0,none⟩ 1) (AA.v Ry) fun z49=>Ld z49 ⟨z21.heap.size,0,none⟩ AA.v fun WT=>Ld z49 (.add ⟨z21.heap.size,0,none⟩ 1) AA.v fun YL=>Ld z49 (.add ⟨z21.heap.size,0,none⟩ 2) (Value.int .i64) fun QS=>qV (WT,YL,QS) Kh z49 fun z53=>Ld z53 (.add ⟨z21.heap.size,0,none⟩ 1) AA.v fun R5=>Rn prog (Builtin.append_ #[108,108] 108 #[AA.v Mo.2,AA.v R5]) z53 AA.v fun UR UQ=>0<=(wrap .i64 ((if 1>r7 then 1 else r7)+DF))/\(wrap .i64 ((if 1>r7 then 1 else r7)+DF))<=(((Mo.1).size:Nat):Int)/\I31 (Mo.1.extract ((wrap .i64 ((if 1>r7 then 1 else r7)+DF)).toNat) ((Mo.1).size),UR) UQ)/\(St FH.drew ⟨z21.heap.size,0,none⟩ (AA.v gL) fun VO=>Rn prog (convert 9 108 (.string (Mo.1.extract ((DF).toNat) ((wrap .i64 ((if 1>r7 then 1 else r7)+DF)).toNat)))) VO AA.v fun xb z59=>St z59 (.add ⟨z21.heap.size,0,none⟩ 1) (AA.v xb) fun z60=>Ld z60 ⟨z21.heap.size,0,none⟩ AA.v fun jq=>Ld z60 (.add ⟨z21.heap.size,0,none⟩ 1) AA.v fun ZG=>Ld z60 (.add ⟨z21.heap.size,0,none⟩ 2) (Value.int .i64) fun ZH=>qV (jq,ZG,ZH) Kh z60 fun lW=>Ld lW (.add ⟨z21.heap.size,0,none⟩ 1) AA.v fun xn=>Rn prog (Builtin.append_ #[108,108] 108 #[AA.v Mo.2,AA.v xn]) lW AA.v fun V5 z67=>0<=(wrap .i64 ((if 1>r7 then 1 else r7)+DF))/\(wrap .i64 ((if 1>r7 then 1 else r7)+DF))<=(((Mo.1).size:Nat):Int)/\I31 (Mo.1.extract ((wrap .i64 ((if 1>r7 then 1 else r7)+DF)).toNat) ((Mo.1).size),V5) z67))
def AA5 (r7:Int)(DF:Int)(z21:World)(R:Q2 ByteArray Int)(I31:Q1 (ByteArray×AA))(Mo:ByteArray×AA)(ER:World):Prop:=Br (decide ((((Mo.1).size:Nat):Int)>0)) (CP (AA4 r7 DF z21 Mo I31 R) fun (AK9:Q1 Int)=>Br (DF==1) (0<=(0:Int)/\(0:Int)<((Mo.1).size:Nat)/\AK9 (wrap .i64 (Cp Mo.1 0)) ER) (AK9 1 ER)) (Rn prog (convert 108 9 (AA.v Mo.2)) ER Value.string fun xe z70=>R xe 0 z70)
def AA6 (w:World)(s2:ByteArray)(r7:Int)(R:Q2 ByteArray Int)(DF:Int)(Bg:World):Prop:=Ld Bg ⟨w.heap.size,0,none⟩ (Value.int .i64) fun Eg=>Ld Bg (.add ⟨w.heap.size,0,none⟩ 1) (Value.int .i64) fun Co=>Ld Bg (.add ⟨w.heap.size,0,none⟩ 2) (Value.int .i64) fun En=>yC (Eg,Co,En) s2 (wrap .i64 ((if 1>r7 then 1 else r7)+DF)) Bg fun Hz z21=>Br (Hz !=0) (R (⟨#[]⟩:ey) Hz z21) (Ld z21 ⟨w.heap.size,0,none⟩ (Value.int .i64) fun Mm=>Br (Mm==1) (R s2 0 z21) (Ld z21 (.add ⟨w.heap.size,0,none⟩ 1) (Value.int .i64) fun Fy=>Nw z21 (.cells #[AA.v ⟨none,0,0⟩,AA.v ⟨none,0,0⟩,.int .i64 0] 154) fun z25=>St z25 ⟨z21.heap.size,0,none⟩ (AA.v ⟨none,0,0⟩) fun DT=>St DT (.add ⟨z21.heap.size,0,none⟩ 1) (AA.v ⟨none,0,0⟩) fun OP=>St OP (.add ⟨z21.heap.size,0,none⟩ 2) (.int .i64 Fy) fun z28=>Lp (σ:=ByteArray×AA) (AA5 r7 DF z21 R) (s2,(⟨none,0,0⟩:AA)) z28))
def S92 (p1:Int×Int×Int)(s2:ByteArray)(w:World)(R:Q2 ByteArray Int):Prop:=Nw w (.cells #[.int .i64 (p1.1),.int .i64 (p1.2.1),.int .i64 (p1.2.2)] 27) fun z3=>Ld z3 ⟨w.heap.size,0,none⟩ (Value.int .i64) fun x4=>Ld z3 (.add ⟨w.heap.size,0,none⟩ 1) (Value.int .i64) fun x5=>Ld z3 (.add ⟨w.heap.size,0,none⟩ 2) (Value.int .i64) fun x6=>yB (x4,x5,x6) z3 fun r7 z8=>CP (AA6 w s2 r7 R) fun (ALA:Q1 Int)=>Ld z8 ⟨w.heap.size,0,none⟩ (Value.int .i64) fun x72=>Br (decide (x72>=10)) (ALA 1 z8) (ALA 0 z8)
theorem T92 (p1 s2 w R):S92 p1 s2 w R->C92 (p1.1,p1.2.1,p1.2.2) s2 w R:=Nb os oi (.q (.q (.join [(7,oi)] [1,2,6] (.q (.c .r .l)) (.s (.q (.q (.c (.q .l) .l))) (.s (.q (.c (.q .l) .l)) (.q (.q (.s (.b (.o [(1,os),(9,ol)] [6,7,10] (.s (.q (.c .l .l)) (.s (.b (.q (.join [(11,oi)] [1,6,7,9,10] (.q (.c .r .l)) (.s (.q (.c (.q .l) .l)) (.s (.Bq (.held [10] (.take 0 (.take 1 (.take 2 (.take 3 (.take 4 (.take 5 (.take 6 (.take 7 (.take 9 (.Gx 8 none (.Aq 10 (some [12]) (.take 11 (.Aq 12 (some []) .done))) (.Aq 10 (some [8]) (.Aq 8 (some [12]) (.take 11 (.Aq 12 (some []) .done)))))))))))))))) (.q .r)))))) .r)))) (.q .l))))))))) [.agg #[.int .i64 (p1.1),.int .i64 (p1.2.1),.int .i64 (p1.2.2)],.string s2] Tryz.func92
def S24 (p1:Int×Int×Int)(w:World)(R:Q1 Int):Prop:=Nw w (.cells #[.int .i64 (p1.1),.int .i64 (p1.2.1),.int .i64 (p1.2.2)] 27) fun z2=>Ld z2 ⟨w.heap.size,0,none⟩ (Value.int .i64) fun x3=>Ld z2 (.add ⟨w.heap.size,0,none⟩ 1) (Value.int .i64) fun x4=>Ld z2 (.add ⟨w.heap.size,0,none⟩ 2) (Value.int .i64) fun x5=>C46 (x3,x4,x5) z2 fun r6 z7=>Br (!r6) (R 1 z7) (R 0 z7)
theorem T24 (p1 w R):S24 p1 w R->vO (p1.1,p1.2.1,p1.2.2) w R:=B5 oi (.q (.s (.q (.c (.q .l) .l)) (.q .l))) [.agg #[.int .i64 (p1.1),.int .i64 (p1.2.1),.int .i64 (p1.2.2)]] Tryz.func24
end
end Go.Proofs.YtdmmgclkphaaaaaGreatDoor

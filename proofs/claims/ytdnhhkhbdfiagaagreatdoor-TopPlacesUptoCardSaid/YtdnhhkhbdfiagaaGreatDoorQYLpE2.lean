/- Joined texts of the proof; conditions stand in each theorem. -/
import Derived.Test.YtdnhhkhbdfiagaaGreatDoorQYLpE1
import Derived.Test.YtdnhhkhbdfiagaaGreatDoorChecked
import Derived.RangeFuncNested
import Derived.RangeFuncBound
import Derived.RangeFuncCalls
import Derived.RangeFuncLeaves
import Derived.RangeFuncBox
import Derived.WalkKit
import Derived.OwnWalkIn
import Derived.TacticsInMore
import Derived.LoopNIn
import Derived.OrdersIn
import Derived.LoopIn
import Derived.Sort.LoopGhostIn
set_option linter.unusedVariables false
set_option linter.unusedSimpArgs false
open Go.IntKind (wrap)
open Go.Proofs.Tryz (prog)
namespace Go.Proofs.YtdnhhkhbdfiagaaGreatDoor
namespace Sh
section
variable {P:Program} {N:Nat} {ok may:Nat->Bool}
theorem GI (hF:Ac P ok){g:Nat}(hg:Md P ok g=true)(args:Array Value)(w:World):(callFunc g args).run P w= .ok (.enter g args) w:=by
 unfold Md at hg;split at hg
 ·rename_i fn BS QV;obtain ⟨hb,hn⟩:=hF g fn BS QV;have wi:fn.body.isNone=false:=by cases hx:fn.body<;>simp_all
  have hn':(fn.name== "runtime.NumGoroutine")=false:=by simpa using hn
  simp only[callFunc,Sem.run_bind,run_program,Result.andThen_ok,QV,hn',wi,bu,if_false,Sem.run_pure]
 ·cases hg
theorem Ie {F:Fx}(hF:Ac P F.ok){ops:Array Oper}{Q:Exit->Act->World->Prop}{m:List Oper}:∀(l:List Oper) (E:Env) (w:World) (K:Env->World->Prop) (a:Act),
  FC P F false ops l E w K->Fits N E a->CI N l->(∀E' a' w',K E' w'->Fits N E' a'->frame l a a'->wpList P ops Q m a' w')->
  (∀v a' w',F.pk v w'->Fits N [] a'->frame l a a'->Q (.panic (AV v)) a' w')->wpList P ops Q (l++m) a w
 |[],E,w,K,a,h,hf,_,hQ,_=>hQ E a w h hf (frame.refl _ _)
 |o::r,E,w,K,a,h,hf,hd,hQ,hP=>by
  have JA:CI N r:=fun p hp=>hd p (av _ hp)
  have ho:=hd o aw;rw[ag];unfold wpList;rcases Bb h hf with ⟨hw,E',BV,hy⟩|⟨hw,E',BV,hn⟩
  ·rw[aG hw];refine .inl ?_;split at hy
   ·rename_i hb;simp only[ai]at hb;unfold Oper.wp;rw[Ah BV hb.1];refine Dv (CY hF hy) (fun v w' hk=>?_) fun v w' hp=>hP v a w' hp hf.some (frame.refl _ _)
    exact Ie hF r _ w' K _ hk (BV.put ho) JA (fun GH a' BB h1 h2 h3=>hQ _ _ _ h1 h2 (AL h3)) fun v a' BB h1 h2 h3=>hP v a' BB h1 h2 (AL h3)
   ·exact hy.elim
  ·rw[aA (by rw[hw];simp)];exact Ie hF r _ w K _ hn (BV.put ho) JA (fun GH a' BB h1 h2 h3=>hQ _ _ _ h1 h2 (AL h3)) fun v a' BB h1 h2 h3=>hP v a' BB h1 h2 (AL h3)
theorem Va {E:Env}{a:Act}(hf:Fits N E a){c:Call}{f:Operand}{g:Nat}{first captured:Array Value}{t:TypeId}(hc:QB c.callee=some f)(hv:hU (E.Ag f)=some (g,first,captured))
  (hh:(E.has f&&c.args.toList.all E.has)=true):(resolve a.eval c t:Sem Deferred)=pure {target:= .fn (.func g) captured,args:=first++c.args.map E.Ag}:=by
 simp only[ai]at hh;have h1:a.eval f= .func (.func g) first captured:=by
  rw[hf.Ag hh.1];unfold hU at hv;split at hv
  ·rename_i g' fi ca e;cases hv;exact e
  ·cases hv
 have h2:c.args.map a.eval=c.args.map E.Ag:=by
  apply Array.ext';rw[cH,cH];refine List.map_congr_left fun x hx=>hf.Ag (aO.1 hh.2 x hx)
 have h3:c.callee= .value f:=by
  unfold QB at hc;split at hc
  ·rename_i f' e;cases hc;exact e
  ·cases hc
 unfold resolve;simp only[h3,h1,h2,Deferred.ofValue]
theorem Y3 {AB:List Nat}{c:Code}{b:Bool}(h:(Cq AB c&&b)=true):Cq AB c=true/\b=true:=by simpa[ai]using h
def RR {tys:List Ty}(R:Sg tys->World->Prop)(PR:Value->World->Prop)(e:Ending)(w':World):Prop:=
 (∃s:Sg tys,e= .returned (Bs.DW (Sg.DV tys s))/\R s w')\/∃v,e= .panicked (AV v)/\PR v w'
theorem nF (hF:Ac P ok)(hm:P.follows .mixedOrders=true){PR:Value->World->Prop}{fn:Func}{tys:List Ty}{R:Sg tys->World->Prop}:∀(c:Code) (pl:CR) (E:Env) (w:World) (a:Act),
  wc P ok may PR fn tys R pl c E w->Fits fn.ntmps E a->a.defers=[]->AZ fn.ntmps c=true->c.wp P (bodyPostD P fn (RR R PR)) a w:=by
 intro c
 induction c with
 |seq c d Yw Yx=>
  clear Yw;intro pl E w a h hf GC hs;simp only[AZ,ai]at hs;cases pl with
  |pre p r=>
   refine wp_seq (wp_mono (CW (F:=⟨ok,may,PR⟩) hF hm c p E w _ a h hf hs.1) fun e a' w' hq=>?_);rcases hq with ⟨E',h1,h2,h3⟩|⟨v,rfl,h1,h2,h3⟩
   ·have D8:a'.defers=[]:=by rw[h3.2];exact GC
    cases e<;>try exact h1.elim
    ·exact Yx r E' w' a' h1 h2 D8 hs.2
    ·show Leaves P fn a'.tmps _ a'.defers .returning w';rw[D8];obtain ⟨v,g1,g2⟩:=CX h2 h1;exact ⟨v,g1,.inl g2⟩
   ·have D8:a'.defers=[]:=by rw[h3.2];exact GC
    show Leaves P fn a'.tmps _ a'.defers (.panicking (AV v)) w';rw[D8];exact .inr ⟨v,rfl,h1⟩
  |here AB p=>
   cases c<;>try exact (show False from h).elim
   rename_i id ops dr;cases dr with
   |true=>exact (show False from h).elim
   |false=>
   have hd:=DB hs.1
   replace h:FC P ⟨ok,may,PR⟩ false ops ops.toList.dropLast E w fun E w=>match ops.toList.getLast? with
    |some o=>hY E o fun g args=>match Cq AB d&&Md P ok g with
     |true=>BZ P ⟨ok,may,fun v w=>Cw P g args (some v) w fun w'=>FE P fn tys R (Env.AB E AB) w'⟩ p d E w fun e E w=>match e with
      | .normal=>Cw P g args none w fun w'=>FE P fn tys R E w'
      | .ret=>Cw P g args none w fun w'=>FE P fn tys R E w'
      |_=>False
     |false=>False
    |none=>False:=h
   refine wp_seq (wp_region_list ?_);have wg:∀o∈ops.toList.dropLast,o∈ops.toList:=fun o ho=>(List.dropLast_sublist _).subset ho
   cases hl:ops.toList.getLast? with
   |none=>
    rw[hl]at h;have QD:ops.toList=[]:=List.getLast?_eq_none_iff.1 hl;rw[QD]at h;exact (show False from h).elim
   |some o=>
   rw[hl]at h;have TZ:ops.toList=ops.toList.dropLast++[o]:=by
    have BI:ops.toList≠[]:=fun e=>by rw[e]at hl;cases hl
    have h1:=List.dropLast_concat_getLast BI;rw[List.getLast?_eq_some_getLast BI]at hl;cases hl;exact h1.symm
   rw[TZ];have hom:o∈ops.toList:=by rw[TZ];simp
   refine Ie (N:=fn.ntmps) (F:=⟨ok,may,PR⟩) hF _ _ _ _ _ h hf (fun x hx=>hd x (wg x hx)) (fun E' a' w' h1 h2 h3=>?_) fun v a' w' h1 h2 h3=>?_
   ·dsimp only at h1;unfold hY at h1;split at h1
    ·rename_i cc NA wh NZ;split at h1
     ·rename_i f hcf;split at h1
      ·rename_i g first captured hfv hh
       split at h1
       ·rename_i cO;obtain ⟨hk,hg⟩:=Y3 cO;have Ql:o.op= .defer cc:=by
         unfold QA at NA;split at NA
         ·rename_i c' e;cases NA;exact e
         ·cases NA
        unfold wpList;rw[aG (by simp[Region.wanted,wh])];refine .inl ?_;have Dg:(execOp a'.eval o).run P w'= .ok (.defer {target:= .fn (.func g) captured,args:=first++cc.args.map E'.Ag}) w':=by
         unfold execOp;simp only[Ql,Va h2 hcf hfv hh,pure_bind,Sem.run_pure]
        unfold Oper.wp;rw[Dg,Oper.upon_defer];have D8:a'.defers=[]:=by rw[h3.2];exact GC
        rw[NZ];have zB:Fits fn.ntmps E' ({a' with defers:={target:= .fn (.func g) captured,args:=first++cc.args.map E'.Ag}::a'.defers}.put none undef):=⟨h2.size,h2.get⟩
        unfold wpList;refine wp_mono (CW (F:=⟨ok,may,fun v w=>Cw P g _ (some v) w fun w'=>FE P fn tys R (Env.AB E' AB) w'⟩) hF hm d p _ w' _ _ h1 zB hs.2) fun e Gr BB hq=>?_
        have hinv:(invoke (.fn (.func g) captured) (first++cc.args.map E'.Ag)).run P BB= .ok (.enter g ((first++cc.args.map E'.Ag)++captured)) BB:=GI hF hg _ _;rcases hq with ⟨GH,g1,g2,g3⟩|⟨v,rfl,g1,g2,g3⟩
        ·have ju:Gr.defers=[{target:= .fn (.func g) captured,args:=first++cc.args.map E'.Ag}]:=by rw[g3.2,put_defers];simp only[D8]
         have key:(Cw P g ((first++cc.args.map E'.Ag)++captured) none BB fun w'=>FE P fn tys R GH w')->Leaves P fn Gr.tmps (RR R PR) Gr.defers .returning BB:=fun h=>by
          rw[ju];refine leaves_cons (by simp) hinv (CallsD.mono h fun e u' w3 hr=>?_);obtain ⟨rfl,rfl,hr⟩:=hr;obtain ⟨v,k1,k2⟩:=CX g2 hr;exact ⟨v,k1,.inl k2⟩
         cases e<;>try exact g1.elim
         ·exact key g1
         ·exact key g1
        ·have ju:Gr.defers=[{target:= .fn (.func g) captured,args:=first++cc.args.map E'.Ag}]:=by rw[g3.2,put_defers];simp only[D8]
         show Leaves P fn Gr.tmps (RR R PR) Gr.defers (.panicking (AV v)) BB;rw[ju];refine leaves_cons (by simp) hinv (CallsD.mono g1 fun e u' w3 hr=>?_);obtain ⟨rfl,rfl,hr⟩:=hr;have Er:Fits fn.ntmps (Env.AB E' AB) Gr:=by
          refine Mf.fits (CJ h2 AB fun t ht=>?_) g2.size;rw[g3.1 t (Ej hk t ht)]
          rfl
         obtain ⟨v,k1,k2⟩:=CX Er hr;exact ⟨v,k1,.inl k2⟩
       ·exact h1.elim
      ·exact h1.elim
     ·exact h1.elim
    ·exact h1.elim
   ·have D8:a'.defers=[]:=by rw[h3.2];exact GC
    show Leaves P fn a'.tmps _ a'.defers (.panicking (AV v)) w';rw[D8];exact .inr ⟨v,rfl,h1⟩
 |_=>
  intro pl E w a h hf GC hs;cases pl<;>exact (show False from h).elim
theorem Vb {PR:Value->World->Prop}(hF:Ac P ok)(hm:P.follows .mixedOrders=true){f:FuncId}{fn:Func}{pl:CR}{args:List Value}{w:World}{tys:List Ty}{R:Sg tys->World->Prop}
  (hf:P.funcs[f]?=some fn) (hN:(match fn.body with
   |some c=>AZ fn.ntmps c
   |none=>false)=true) (ha:Nat.ble args.length fn.ntmps=true)
  (h:La P ok may PR pl fn args w tys R):Calls P f args.toArray w fun e w'=>(∃s:Sg tys,e= .returned (Bs.DW (Sg.DV tys s))/\R s w')\/∃v,e= .panicked (AV v)/\PR v w':=by
 unfold La at h;split at h
 ·exact h.elim
 ·rename_i c hc;rw[hc]at hN;exact calls_of_wp_defers hf hc (nF hF hm c pl _ w _ h (KG (bD ha)) rfl hN)
theorem CH (hF:Ac P ok)(hm:P.follows .mixedOrders=true){f:FuncId}{fn:Func}{pl:CR}{args:List Value}{w:World}{tys:List Ty}{R:Sg tys->World->Prop}
  (hf:P.funcs[f]?=some fn) (hN:(match fn.body with
   |some c=>AZ fn.ntmps c
   |none=>false)=true) (ha:Nat.ble args.length fn.ntmps=true)
  (h:La P ok may (fun _ _=>False) pl fn args w tys R):Calls P f args.toArray w fun e w'=>∃s:Sg tys,e= .returned (Bs.DW (Sg.DV tys s))/\R s w':=
 (Vb hF hm hf hN ha h).mono fun e w' he=>he.elim id fun ⟨_,_,h⟩=>h.elim
theorem SR {o:Oper}{a:Act}{next:Act->World->Prop}{Q:Exit->Act->World->Prop}{K:Value->World->Prop}{r:Result Next}(h:MY P (fun _ _=>False) K r)
  (hk:∀v w',K v w'->next (a.put o.dst v) w'):o.upon P a next Q r:=Dv h hk fun _ _ h=>h.elim
theorem Vc (hF:Ac P ok){ops:Array Oper}{Q:Exit->Act->List Frame->World->Prop}{cs:List Frame}:∀(l:List Oper) (k:Nat) (E:Env) (w:World) (K:Env->World->Prop) (a:Act),
  (∀j,l[j]?=ops[k+j]?)->FC P ⟨ok,may,fun _ _=>False⟩ false ops l E w K->Fits N E a->CI N l->(∀E' a' w',K E' w'->Fits N E' a'->frame l a a'->Q .normal a' cs w')->
  wpOpsS P ops Q (List.range' k l.length) a cs w
 |[],k,E,w,K,a,_,h,hf,_,hQ=>hQ E a w h hf (frame.refl _ _)
 |o::r,k,E,w,K,a,hl,h,hf,hd,hQ=>by
  have JA:CI N r:=fun p hp=>hd p (av _ hp)
  have ho:=hd o aw;have h0:ops[k]?=some o:=by simpa using (hl 0).symm
  have VH:∀j,r[j]?=ops[k+1+j]?:=fun j=>by have:=hl (j+1);simpa[Nat.add_assoc,Nat.add_comm 1 j]using this
  simp only[au,List.range'_succ,wpOpsS,h0];rcases Bb h hf with ⟨hw,E',BV,hy⟩|⟨hw,E',BV,hn⟩
  ·rw[aG hw];split at hy
   ·rename_i hb;simp only[ai]at hb;rw[Ah BV hb.1];have iL:=CY (F:=⟨ok,may,fun _ _=>False⟩) hF hy;have yx:=fun (Q':Exit->Act->World->Prop)=>SR (o:=o) (a:=a) (Q:=Q') (next:=fun a' w'=>wpOpsS P ops Q (List.range' (k+1) r.length) a' cs w') iL fun v w' hk=>
     Vc hF r (k+1) _ w' K _ VH hk (BV.put ho) JA fun GH a' BB h1 h2 h3=>hQ _ _ _ h1 h2 (AL h3)
    split
    ·rename_i w' hr;rw[hr]at iL;exact iL.elim
    ·exact yx _
   ·exact hy.elim
  ·rw[aA (by rw[hw];simp)];exact Vc hF r (k+1) _ w K _ VH hn (BV.put ho) JA fun GH a' BB h1 h2 h3=>hQ _ _ _ h1 h2 (AL h3)
theorem Vd {o:Oper}(h:Jo o.op=true)(ρ:Operand->Value)(w:World):(execOp ρ o).run P w= .ok .recover w:=by
 obtain ⟨dst,op,type,pos,after,guard⟩:=o;simp only at h;unfold Jo at h;split at h
 ·rename_i c;split at h
  ·rename_i hc;simp only[execOp,resolve,hc,pure_bind,invoke]
   rfl
  ·cases h
 ·cases h
theorem BE (hF:Ac P ok)(hm:P.follows .mixedOrders=true){f:FuncId}{fn:Func}{pl:Aa}{args:List Value}{u:Option Value}{w:World}{R:World->Prop}
  (hf:P.funcs[f]?=some fn) (hN:(match fn.body with
   |some c=>AZ fn.ntmps c
   |none=>false)=true) (ha:Nat.ble args.length fn.ntmps=true)
  (h:H7 P ok may pl fn args u w R):Cw P f args.toArray u w R:=by
 unfold H7 at h;split at h
 case h_2=>exact h.elim
 rename_i id ops d hc;rw[hc]at hN;simp only[AZ,ai]at hN;split at h
 case h_2=>exact h.elim
 rename_i o r nG;split at h
 case h_2=>exact h.elim
 rename_i ANK wh ANL;have hd:CI fn.ntmps (o::r):=by rw[<-nG];exact DB (id:=id) (d:=false) hN.1
 refine callsD_of_wpS hf hc fun c₀ cs hu=>?_
 have Er:=KG (n:=fn.ntmps) (args:=args) (bD ha);refine wpS_seq (wpS_region ?_);have DN:ops.size=r.length+1:=by rw[<-aJ,nG];rfl
 have h0:ops[0]?=some o:=by rw[<-cA,nG];rfl
 have hl:∀j,r[j]?=ops[0+1+j]?:=fun j=>by rw[<-cA,nG,show 0+1+j=j+1 by omega];rfl
 rw[DN,List.range_eq_range',List.range'_succ];simp only[wpOpsS,h0];rw[aG (by simp[Region.wanted,wh]),Vd ANK];dsimp only;have Zf:∀v:Value,Fits fn.ntmps ((P9 0 args).put o.dst v) ({tmps:=args.toArray++Array.replicate (fn.ntmps-args.toArray.size) undef,defers:=[]:Act}.put o.dst v):=fun v=>Er.put (hd o aw)
 have key:∀(Bf:List Frame) (u':FrameMode),Bf={c₀ with mode:=u'}::cs->u'=Ga u->
   wpOpsS P ops (Exit.thenS (d.wpS P (bodyPostS P fn c₀ cs fun e u' w'=>e= .returned (.tuple #[])/\u'=Ga u/\R w')) (bodyPostS P fn c₀ cs fun e u' w'=>e= .returned (.tuple #[])/\u'=Ga u/\R w')) (List.range' (0+1) r.length) ({tmps:=args.toArray++Array.replicate (fn.ntmps-args.toArray.size) undef,defers:=[]:Act}.put o.dst (ADP u)) Bf w:=fun Bf u' Wv hu'=>by
  refine Vc (N:=fn.ntmps) (may:=may) hF r _ _ _ _ _ hl h (Zf _) (fun x hx=>hd x (av _ hx)) fun E' a' w' h1 h2 h3=>?_
  have GC:a'.defers=[]:=by rw[h3.2,put_defers]
  refine wpS_of_wp (wp_mono (CW (F:=⟨ok,may,fun _ _=>False⟩) hF hm d pl E' w' _ a' h1 h2 hN.2) fun e Gr BB hq=>?_);rcases hq with ⟨GH,g1,g2,g3⟩|⟨v,rfl,g1,_⟩
  ·have D8:Gr.defers=[]:=by rw[g3.2];exact GC
   have hr:(results fn Gr.tmps).run P BB= .ok (.tuple #[]) BB:=by
    obtain ⟨v,k1,s,k2,_⟩:=CX (tys:=[]) (R:=fun _ _=>True) g2 (by unfold FE;rw[ANL];exact True.intro);cases k2;exact k1
   cases e<;>try exact g1.elim
   ·exact ⟨D8,u',Wv,_,hr,rfl,hu',g1⟩
   ·exact ⟨D8,u',Wv,_,hr,rfl,hu',g1⟩
  ·exact g1.elim
 cases u with
 |none=>
  have hrc:recoverD (c₀::cs)=none:=by simp only[recoverD,hu,VU]
  rw[hrc];refine key _ .returning ?_ rfl;have:c₀.mode= .returning:=hu;rw[<-this]
 |some v=>
  have hrc:recoverD (c₀::cs)=some (v,{c₀ with mode:= .panicking [{v,recovered:=true}]}::cs):=by simp only[recoverD,hu,VU,AV]
  rw[hrc];exact key _ _ rfl rfl
end
end Sh
section
open Sh
def FF (g:Nat):Bool:=Nat.ble 3 g&&Nat.ble g 442&& !Nat.beq g 69&& !Nat.beq g 86&& !Nat.beq g 124&& !Nat.beq g 126&& !Nat.beq g 133&& !Nat.beq g 229&& !Nat.beq g 413&& !Nat.beq g 414&& !Nat.beq g 415&& !Nat.beq g 416&& !Nat.beq g 417&& !Nat.beq g 418&& !Nat.beq g 419&& !Nat.beq g 420&& !Nat.beq g 421&& !Nat.beq g 422&& !Nat.beq g 423&& !Nat.beq g 424&& !Nat.beq g 425&& !Nat.beq g 426&& !Nat.beq g 427&& !Nat.beq g 428&& !Nat.beq g 429&& !Nat.beq g 430&& !Nat.beq g 431&& !Nat.beq g 432&& !Nat.beq g 433&& !Nat.beq g 434&& !Nat.beq g 435&& !Nat.beq g 436&& !Nat.beq g 437&& !Nat.beq g 438&& !Nat.beq g 439&& !Nat.beq g 440&& !Nat.beq g 441
def CG (g:Nat):Bool:=Nat.beq g 14||Nat.beq g 16||Nat.beq g 17||Nat.beq g 18||Nat.beq g 21||Nat.beq g 22||Nat.beq g 23||Nat.beq g 24||Nat.beq g 26||Nat.beq g 35||Nat.beq g 36||Nat.beq g 37||Nat.beq g 38||Nat.beq g 39||Nat.beq g 43||Nat.beq g 45||Nat.beq g 46||Nat.beq g 50||Nat.beq g 64||Nat.beq g 67||Nat.beq g 68||Nat.beq g 71||Nat.beq g 81||Nat.beq g 82||Nat.beq g 83||Nat.beq g 84||Nat.beq g 92||Nat.beq g 93||Nat.beq g 99||Nat.beq g 100||Nat.beq g 101||Nat.beq g 104||Nat.beq g 105||Nat.beq g 106||Nat.beq g 107||Nat.beq g 108||Nat.beq g 110||Nat.beq g 119||Nat.beq g 129||Nat.beq g 130||Nat.beq g 135||Nat.beq g 136||Nat.beq g 141||Nat.beq g 143||Nat.beq g 144||Nat.beq g 145||Nat.beq g 149||Nat.beq g 150||Nat.beq g 151||Nat.beq g 153||Nat.beq g 166||Nat.beq g 187||Nat.beq g 204||Nat.beq g 205||Nat.beq g 218||Nat.beq g 219||Nat.beq g 221||Nat.beq g 223||Nat.beq g 237||Nat.beq g 238||Nat.beq g 247||Nat.beq g 248||Nat.beq g 256||Nat.beq g 260||Nat.beq g 273||Nat.beq g 277||Nat.beq g 278||Nat.beq g 279||Nat.beq g 280||Nat.beq g 281||Nat.beq g 282||Nat.beq g 283||Nat.beq g 285||Nat.beq g 286||Nat.beq g 288||Nat.beq g 303||Nat.beq g 325||Nat.beq g 326||Nat.beq g 330||Nat.beq g 332||Nat.beq g 346||Nat.beq g 350||Nat.beq g 357||Nat.beq g 358||Nat.beq g 359||Nat.beq g 360||Nat.beq g 366||Nat.beq g 373||Nat.beq g 377||Nat.beq g 380||Nat.beq g 381||Nat.beq g 383||Nat.beq g 384||Nat.beq g 385||Nat.beq g 390||Nat.beq g 394||Nat.beq g 396||Nat.beq g 405
theorem zz:((List.range 443).all fun g=> !FF g||(match prog.funcs[g]? with
 |some fn=>fn.body.isSome&& !(fn.name== "runtime.NumGoroutine")
 |none=>true))=true:=by kernel_rfl
theorem okF:Ac prog FF:=by
 intro g fn hg QV;have Au:g<443:=by
  simp only[FF,ai]at hg;have:=bD hg.1.1.1.1.1.1.1.1.1.1.1.1.1.1.1.1.1.1.1.1.1.1.1.1.1.1.1.1.1.1.1.1.1.1.1.2;omega
 have h:=aO.1 zz g (List.mem_range.2 Au);simp only[hg,Bool.not_true,cM,QV,ai]at h;exact ⟨h.1,by simpa using h.2⟩
theorem Gw:prog.follows .mixedOrders=true:=by kernel_rfl
abbrev Q0:Type:=World->Prop
abbrev Q1 (α:Type):Type:=α->World->Prop
abbrev Q2 (α β:Type):Type:=α->β->World->Prop
abbrev Q3 (α β γ:Type):Type:=α->β->γ->World->Prop
abbrev Q4 (α β γ δ:Type):Type:=α->β->γ->δ->World->Prop
abbrev vi:Int->Value:=fun x=> .int .i64 x
abbrev vR (r:Value):Value:=r
abbrev vA (L:List Da)(r:Aj L):Value:= .agg (Aj.cells L r).toArray
abbrev ti:Da:= .int .i64
abbrev oi:Ty:= .one (.int .i64)
abbrev os:Ty:= .one .str
abbrev ob:Ty:= .one .bool
abbrev ol:Ty:= .one .BJ
abbrev op:Ty:= .one .ptr
section
variable {α β γ δ:Type} {a:α->Value} {b:β->Value} {c:γ->Value} {d:δ->Value} {f:Nat} {l:Array Value} {w:World}
abbrev K0 (f:Nat)(l:Array Value)(w:World)(R:World->Prop):Prop:=Calls prog f l w fun e w'=>e= .returned (.tuple #[])/\R w'
abbrev K1 (a:α->Value)(f:Nat)(l:Array Value)(w:World)(R:α->World->Prop):Prop:=Calls prog f l w fun e w'=>∃r0:α,e= .returned (a r0)/\R r0 w'
abbrev K2 (a:α->Value)(b:β->Value)(f:Nat)(l:Array Value)(w:World)(R:α->β->World->Prop):Prop:=Calls prog f l w fun e w'=>∃r0:α,∃r1:β,e= .returned (.tuple #[a r0,b r1])/\R r0 r1 w'
abbrev K3 (a:α->Value)(b:β->Value)(c:γ->Value)(f:Nat)(l:Array Value)(w:World)(R:α->β->γ->World->Prop):Prop:=Calls prog f l w fun e w'=>∃r0:α,∃r1:β,∃r2:γ,e= .returned (.tuple #[a r0,b r1,c r2])/\R r0 r1 r2 w'
abbrev K4 (a:α->Value)(b:β->Value)(c:γ->Value)(d:δ->Value)(f:Nat)(l:Array Value)(w:World)(R:α->β->γ->δ->World->Prop):Prop:=Calls prog f l w fun e w'=>∃r0:α,∃r1:β,∃r2:γ,∃r3:δ,e= .returned (.tuple #[a r0,b r1,c r2,d r3])/\R r0 r1 r2 r3 w'
abbrev P0 (f:Nat)(l:Array Value)(w:World)(R:World->Prop)(PR:Value->World->Prop):Prop:=Calls prog f l w fun e w'=>(e= .returned (.tuple #[])/\R w')\/∃v,e= .panicked (AV v)/\PR v w'
abbrev P1 (a:α->Value)(f:Nat)(l:Array Value)(w:World)(R:α->World->Prop)(PR:Value->World->Prop):Prop:=Calls prog f l w fun e w'=>(∃r0:α,e= .returned (a r0)/\R r0 w')\/∃v,e= .panicked (AV v)/\PR v w'
abbrev P2 (a:α->Value)(b:β->Value)(f:Nat)(l:Array Value)(w:World)(R:α->β->World->Prop)(PR:Value->World->Prop):Prop:=Calls prog f l w fun e w'=>(∃r0:α,∃r1:β,e= .returned (.tuple #[a r0,b r1])/\R r0 r1 w')\/∃v,e= .panicked (AV v)/\PR v w'
variable {PR yK:Value->World->Prop}
theorem K0.mono{R R':World->Prop}(h:K0 f l w R)(hr:∀w',R w'->R' w'):K0 f l w R':=Calls.mono h fun _ _ ⟨he,hR⟩=>⟨he,hr _ hR⟩
theorem K1.mono{R R':α->World->Prop}(h:K1 a f l w R)(hr:∀r0 w',R r0 w'->R' r0 w'):K1 a f l w R':=Calls.mono h fun _ _ ⟨r0,he,hR⟩=>⟨r0,he,hr _ _ hR⟩
theorem K2.mono{R R':α->β->World->Prop}(h:K2 a b f l w R)(hr:∀r0 r1 w',R r0 r1 w'->R' r0 r1 w'):K2 a b f l w R':=Calls.mono h fun _ _ ⟨r0,r1,he,hR⟩=>⟨r0,r1,he,hr _ _ _ hR⟩
theorem K3.mono{R R':α->β->γ->World->Prop}(h:K3 a b c f l w R)(hr:∀r0 r1 r2 w',R r0 r1 r2 w'->R' r0 r1 r2 w'):K3 a b c f l w R':=Calls.mono h fun _ _ ⟨r0,r1,r2,he,hR⟩=>⟨r0,r1,r2,he,hr _ _ _ _ hR⟩
theorem K4.mono{R R':α->β->γ->δ->World->Prop}(h:K4 a b c d f l w R)(hr:∀r0 r1 r2 r3 w',R r0 r1 r2 r3 w'->R' r0 r1 r2 r3 w'):K4 a b c d f l w R':=Calls.mono h fun _ _ ⟨r0,r1,r2,r3,he,hR⟩=>⟨r0,r1,r2,r3,he,hr _ _ _ _ _ hR⟩
theorem P0.mono{R R':World->Prop}(h:P0 f l w R PR)(hr:∀w',R w'->R' w')(hp:∀v w',PR v w'->yK v w'):P0 f l w R' yK:=Calls.mono h fun _ _ he=>he.elim (fun ⟨he,hR⟩=> .inl ⟨he,hr _ hR⟩) fun ⟨v,he,hP⟩=> .inr ⟨v,he,hp _ _ hP⟩
theorem P1.mono{R R':α->World->Prop}(h:P1 a f l w R PR)(hr:∀r0 w',R r0 w'->R' r0 w')(hp:∀v w',PR v w'->yK v w'):P1 a f l w R' yK:=Calls.mono h fun _ _ he=>he.elim (fun ⟨r0,he,hR⟩=> .inl ⟨r0,he,hr _ _ hR⟩) fun ⟨v,he,hP⟩=> .inr ⟨v,he,hp _ _ hP⟩
theorem P2.mono{R R':α->β->World->Prop}(h:P2 a b f l w R PR)(hr:∀r0 r1 w',R r0 r1 w'->R' r0 r1 w')(hp:∀v w',PR v w'->yK v w'):P2 a b f l w R' yK:=Calls.mono h fun _ _ he=>he.elim (fun ⟨r0,r1,he,hR⟩=> .inl ⟨r0,r1,he,hr _ _ _ hR⟩) fun ⟨v,he,hP⟩=> .inr ⟨v,he,hp _ _ hP⟩
def sd (fn:Func)(args:List Value):Bool:=(match fn.body with
 |some c=>AZ fn.ntmps c
 |none=>false)&&Nat.ble args.length fn.ntmps
theorem TP {fn:Func}{args:List Value}(h:sd fn args=true):(match fn.body with
 |some c=>AZ fn.ntmps c
 |none=>false)=true/\Nat.ble args.length fn.ntmps=true:=by
 unfold sd at h;rw[ai]at h;exact h
theorem pe {α β:Type}{a a':α}{b b':β}(h:(a,b)=(a',b')):a=a'/\b=b':=by
 cases h;exact ⟨rfl,rfl⟩
variable {fn:Func} {S:Prop}
theorem mk0 (pl:Aa)(args:List Value){R:World->Prop}(hf:prog.funcs[f]?=some fn)(e:(cR prog ⟨FF,CG,fun _ _=>False⟩ pl fn args w [] (fun _ w=>R w),sd fn args)=(S,true):=by kernel_rfl)(h:S):K0 f args.toArray w R:=
 (Ft okF Gw hf (TP (pe e).2).1 (TP (pe e).2).2 ((pe e).1.mpr h)).mono fun _ _ ⟨_,he,hR⟩=>⟨he,hR⟩
theorem B2 (t:Ty)(pl:Aa)(args:List Value){R:t.T->World->Prop}(hf:prog.funcs[f]?=some fn)(e:(cR prog ⟨FF,CG,fun _ _=>False⟩ pl fn args w [t] (fun s w=>R s w),sd fn args)=(S,true):=by kernel_rfl)(h:S):K1 t.v f args.toArray w R:=
 (Ft okF Gw hf (TP (pe e).2).1 (TP (pe e).2).2 ((pe e).1.mpr h)).mono fun _ _ ⟨s,he,hR⟩=>⟨s,he,hR⟩
theorem O5 (t u:Ty)(pl:Aa)(args:List Value){R:t.T->u.T->World->Prop}(hf:prog.funcs[f]?=some fn)(e:(cR prog ⟨FF,CG,fun _ _=>False⟩ pl fn args w [t,u] (fun s w=>R s.1 s.2 w),sd fn args)=(S,true):=by kernel_rfl)(h:S):K2 t.v u.v f args.toArray w R:=
 (Ft okF Gw hf (TP (pe e).2).1 (TP (pe e).2).2 ((pe e).1.mpr h)).mono fun _ _ ⟨s,he,hR⟩=>⟨s.1,s.2,he,hR⟩
theorem mk3 (t u v:Ty)(pl:Aa)(args:List Value){R:t.T->u.T->v.T->World->Prop}(hf:prog.funcs[f]?=some fn)(e:(cR prog ⟨FF,CG,fun _ _=>False⟩ pl fn args w [t,u,v] (fun s w=>R s.1 s.2.1 s.2.2 w),sd fn args)=(S,true):=by kernel_rfl)(h:S):K3 t.v u.v v.v f args.toArray w R:=
 (Ft okF Gw hf (TP (pe e).2).1 (TP (pe e).2).2 ((pe e).1.mpr h)).mono fun _ _ ⟨s,he,hR⟩=>⟨s.1,s.2.1,s.2.2,he,hR⟩
theorem mk4 (t u v x:Ty)(pl:Aa)(args:List Value){R:t.T->u.T->v.T->x.T->World->Prop}(hf:prog.funcs[f]?=some fn)(e:(cR prog ⟨FF,CG,fun _ _=>False⟩ pl fn args w [t,u,v,x] (fun s w=>R s.1 s.2.1 s.2.2.1 s.2.2.2 w),sd fn args)=(S,true):=by kernel_rfl)(h:S):K4 t.v u.v v.v x.v f args.toArray w R:=
 (Ft okF Gw hf (TP (pe e).2).1 (TP (pe e).2).2 ((pe e).1.mpr h)).mono fun _ _ ⟨s,he,hR⟩=>⟨s.1,s.2.1,s.2.2.1,s.2.2.2,he,hR⟩
theorem kb (pl:Aa)(args:List Value){R:World->Prop}(hf:prog.funcs[f]?=some fn)(e:(cR prog ⟨FF,CG,PR⟩ pl fn args w [] (fun _ w=>R w),sd fn args)=(S,true):=by kernel_rfl)(h:S):P0 f args.toArray w R PR:=
 (GN okF Gw hf (TP (pe e).2).1 (TP (pe e).2).2 ((pe e).1.mpr h)).mono fun _ _ he=>he.elim (fun ⟨_,he,hR⟩=> .inl ⟨he,hR⟩) .inr
theorem Nl (t:Ty)(pl:Aa)(args:List Value){R:t.T->World->Prop}(hf:prog.funcs[f]?=some fn)(e:(cR prog ⟨FF,CG,PR⟩ pl fn args w [t] (fun s w=>R s w),sd fn args)=(S,true):=by kernel_rfl)(h:S):P1 t.v f args.toArray w R PR:=
 (GN okF Gw hf (TP (pe e).2).1 (TP (pe e).2).2 ((pe e).1.mpr h)).mono fun _ _ he=>he.elim (fun ⟨s,he,hR⟩=> .inl ⟨s,he,hR⟩) .inr
theorem qS (t u:Ty)(pl:Aa)(args:List Value){R:t.T->u.T->World->Prop}(hf:prog.funcs[f]?=some fn)(e:(cR prog ⟨FF,CG,PR⟩ pl fn args w [t,u] (fun s w=>R s.1 s.2 w),sd fn args)=(S,true):=by kernel_rfl)(h:S):P2 t.v u.v f args.toArray w R PR:=
 (GN okF Gw hf (TP (pe e).2).1 (TP (pe e).2).2 ((pe e).1.mpr h)).mono fun _ _ he=>he.elim (fun ⟨s,he,hR⟩=> .inl ⟨s.1,s.2,he,hR⟩) .inr
end
end
section
open Sh
abbrev AD:List Da:=[.int .i64,.int .i64,.int .i64,.str,.BJ,.BJ]
abbrev AG:Type:=Int×Int×Int×ByteArray×AA×AA
end
set_option maxRecDepth 100000
section
open Sh
def ka (n1:Int):=K1 Value.bool 194 #[.int .i64 n1]
def X6 (n1:Int)(Az:Int):=K1 Value.string 195 #[.int .i64 n1,.int .i64 Az]
def kz (s1:ByteArray)(IF:ByteArray):=K1 Value.string 196 #[.string s1,.string IF]
def k6 (n1:Int):=K1 Value.string 164 #[.int .i64 n1]
def k7 (s1:ByteArray)(dR:ByteArray):=K1 Value.bool 207 #[.string s1,.string dR]
def Dl (n1:Option Addr)(Hq:Option Addr)(u:Option Value)(w:World)(R:Q0):Prop:=Cw prog 244 #[.pointer n1,.pointer Hq] u w R
def C51 (s1:ByteArray)(E5:ByteArray):=K1 vi 51 #[.string s1,.string E5]
def AAO (s1:ByteArray)(FY:ByteArray):=K3 Value.string Value.string Value.bool 272 #[.string s1,.string FY]
def rI (s1:ByteArray)(FY:ByteArray):=K3 Value.string Value.string Value.bool 245 #[.string s1,.string FY]
def rJ (s1:ByteArray)(IF:ByteArray):=K1 Value.string 242 #[.string s1,.string IF]
def lC (s1:ByteArray):=K1 Value.bool 246 #[.string s1]
def Xq (l1:AA):=P0 247 #[AA.v l1]
def lD (s1:ByteArray):=K2 vi vi 216 #[.string s1]
def rK (n1:Int):=K2 Value.string vi 128 #[.int .i64 n1]
def zx (n1:Int)(w:World)(R:Q1 Bool):Prop:=Br (decide (n1>=(-1073741824))) (R (decide (n1<=1073741824)) w) (R false w)
theorem AFT (n1 w R):zx n1 w R->ka n1 w R:=B2 ob (.q (.q .l)) [.int .i64 n1] Tryz.func194
def dS (Az:Int)(R:Q1 ByteArray)(I5:Q1 (Int×ByteArray))(s3:Int×ByteArray)(z4:World):Prop:=Br (decide (s3.1>0)) (Nw z4 (.cells #[.int .u8 (wrap .u8 (wrap .i64 (48+(Int.tmod s3.1 10))))] 5) fun z6=>Rn prog (convert 61 9 (AA.v ⟨some ⟨z4.heap.size,0,none⟩,1,1⟩)) z6 Value.string fun x7 z8=>(((x7).size+(s3.2).size:Nat):Int)<=IntKind.i64.max/\I5 (wrap .i64 (Int.tdiv s3.1 10),x7++s3.2) z8) (Br (decide ((((s3.2).size:Nat):Int)<Az)) (Nw z4 (.cells #[.int .u8 (wrap .u8 (wrap .i64 (48+(Int.tmod s3.1 10))))] 5) fun z9=>Rn prog (convert 61 9 (AA.v ⟨some ⟨z4.heap.size,0,none⟩,1,1⟩)) z9 Value.string fun DE D1=>(((DE).size+(s3.2).size:Nat):Int)<=IntKind.i64.max/\I5 (wrap .i64 (Int.tdiv s3.1 10),DE++s3.2) D1) (R s3.2 z4))
def AAP (n1:Int)(Az:Int)(w:World)(R:Q1 ByteArray):Prop:=Lp (σ:=Int×ByteArray) (dS Az R) (n1,(⟨#[]⟩:cN)) w
theorem AFn (n1 Az w R):AAP n1 Az w R->X6 n1 Az w R:=B2 os (.q (.q (.s (.b (.o [(0,oi),(5,os)] [1] (.s (.q (.c .l .l)) (.b (.q .r))))) (.q .l)))) [.int .i64 n1,.int .i64 Az] Tryz.func195
def AAQ (n1:Int)(w:World)(R:Q1 ByteArray):Prop:=ka n1 w fun r4 z5=>Br (!r4) (R (⟨#[]⟩:cN) z5) (Br (decide (n1<0)) (X6 (wrap .i64 (Int.tdiv (wrap .i64 (0-n1)) 10000)) 1 z5 fun r6 z7=>X6 (Int.tmod (wrap .i64 (0-n1)) 10000) 4 z7 fun r8 z9=>kz r8 (⟨#[48]⟩:cN) z9 fun Nq D1=>Br (Nq.toList==(⟨#[]⟩:cN).toList) (((((⟨#[45]⟩:cN)).size+(r6).size:Nat):Int)<=IntKind.i64.max/\((((⟨#[45]⟩:cN)++r6).size+((⟨#[46]⟩:cN)).size:Nat):Int)<=IntKind.i64.max/\(((((⟨#[45]⟩:cN)++r6)++(⟨#[46]⟩:cN)).size+((⟨#[48]⟩:cN)).size:Nat):Int)<=IntKind.i64.max/\R ((((⟨#[45]⟩:cN)++r6)++(⟨#[46]⟩:cN))++(⟨#[48]⟩:cN)) D1) (((((⟨#[45]⟩:cN)).size+(r6).size:Nat):Int)<=IntKind.i64.max/\((((⟨#[45]⟩:cN)++r6).size+((⟨#[46]⟩:cN)).size:Nat):Int)<=IntKind.i64.max/\(((((⟨#[45]⟩:cN)++r6)++(⟨#[46]⟩:cN)).size+(Nq).size:Nat):Int)<=IntKind.i64.max/\R ((((⟨#[45]⟩:cN)++r6)++(⟨#[46]⟩:cN))++Nq) D1)) (X6 (wrap .i64 (Int.tdiv n1 10000)) 1 z5 fun JV A6=>X6 (Int.tmod n1 10000) 4 A6 fun TV Db=>kz TV (⟨#[48]⟩:cN) Db fun D2 EI=>Br (D2.toList==(⟨#[]⟩:cN).toList) ((((⟨#[]⟩:cN).size+(JV).size:Nat):Int)<=IntKind.i64.max/\((((⟨#[]⟩:cN)++JV).size+((⟨#[46]⟩:cN)).size:Nat):Int)<=IntKind.i64.max/\(((((⟨#[]⟩:cN)++JV)++(⟨#[46]⟩:cN)).size+((⟨#[48]⟩:cN)).size:Nat):Int)<=IntKind.i64.max/\R ((((⟨#[]⟩:cN)++JV)++(⟨#[46]⟩:cN))++(⟨#[48]⟩:cN)) EI) ((((⟨#[]⟩:cN).size+(JV).size:Nat):Int)<=IntKind.i64.max/\((((⟨#[]⟩:cN)++JV).size+((⟨#[46]⟩:cN)).size:Nat):Int)<=IntKind.i64.max/\(((((⟨#[]⟩:cN)++JV)++(⟨#[46]⟩:cN)).size+(D2).size:Nat):Int)<=IntKind.i64.max/\R ((((⟨#[]⟩:cN)++JV)++(⟨#[46]⟩:cN))++D2) EI)))
theorem AFo (n1 w R):AAQ n1 w R->k6 n1 w R:=B2 os (.q (.s (.q (.c (.q .l) .l)) (.q (.s (.q (.c .r .l)) (.q (.q (.s (.q (.c .r .l)) (.q .l)))))))) [.int .i64 n1] Tryz.func164
def IG (n1:Option Addr)(Hq:Option Addr)(w:World)(R:Q0):Prop:=R w
def X7:Aa:=(.b (.q (.c .r (.q (.c (.q .r) (.q .r))))))
theorem RJ (n1:Option Addr)(Hq:Option Addr)(w:World)(R:Q0)(h:IG n1 Hq w R):Dl n1 Hq none w R:=by
 have e:H7 prog FF CG X7 Tryz.f244 [.pointer n1,.pointer Hq] none w R=IG n1 Hq w R:=by kernel_rfl
 exact BE okF Gw Tryz.func244 (by kernel_rfl) (by kernel_rfl) (e.mpr h)
def JW (n1:Option Addr)(Hq:Option Addr)(u3:Int)(w:World)(R:Q0):Prop:=Nn n1 fun a4=>St w a4 (.int .i64 0) fun z5=>Nn Hq fun a6=>St z5 a6 (.int .i64 u3) fun z7=>R z7
def UR:Aa:=(.b (.q (.c .r (.q (.c (.q .r) (.q .r))))))
theorem X8 (n1:Option Addr)(Hq:Option Addr)(u3:Int)(w:World)(R:Q0)(h:JW n1 Hq u3 w R):Dl n1 Hq (some (.iface 310 (.int .i64 u3))) w R:=by
 have e:H7 prog FF CG UR Tryz.f244 [.pointer n1,.pointer Hq] (some (.iface 310 (.int .i64 u3))) w R=JW n1 Hq u3 w R:=by kernel_rfl
 exact BE okF Gw Tryz.func244 (by kernel_rfl) (by kernel_rfl) (e.mpr h)
def AAR (s1:ByteArray)(FY:ByteArray)(w:World)(R:Q3 ByteArray ByteArray Bool):Prop:=C51 s1 FY w fun r3 z4=>Br (decide (r3>=0)) (0<=r3/\r3<=(s1.size:Int)/\0<=(wrap .i64 (r3+(FY.size:Int)))/\(wrap .i64 (r3+(FY.size:Int)))<=(s1.size:Int)/\R (s1.extract 0 ((r3).toNat)) (s1.extract ((wrap .i64 (r3+(FY.size:Int))).toNat) ((s1).size)) true z4.drew) (R s1 (⟨#[]⟩:cN) false z4)
theorem AFp (s1 FY w R):AAR s1 FY w R->AAO s1 FY w R:=mk3 os os ob (.q (.s (.q (.q (.c (.s (.A7 .still) .l) .l))) (.q .l))) [.string s1,.string FY] Tryz.func272
def AAS (s1:ByteArray)(FY:ByteArray)(w:World)(R:Q3 ByteArray ByteArray Bool):Prop:=AAO s1 FY w fun r3 r4 r5 z6=>R r3 r4 r5 z6
theorem AFq (s1 FY w R):AAS s1 FY w R->rI s1 FY w R:=mk3 os os ob (.q (.q .l)) [.string s1,.string FY] Tryz.func245
def AAT (s1:ByteArray)(w:World)(R:Q1 Bool):Prop:=rJ s1 (⟨#[48,49,50,51,52,53,54,55,56,57]⟩:cN) w fun r2 z3=>R (r2.toList==(⟨#[]⟩:cN).toList) z3
theorem AFr (s1 w R):AAT s1 w R->lC s1 w R:=B2 ob (.q (.q .l)) [.string s1] Tryz.func246
def cQ (l1:AA)(R:Q0)(PR:Q1 Value)(I4:Q1 Int)(s2:Int)(z3:World):Prop:=Br (decide (s2<(l1.len:Int))) (0<=s2/\s2<(l1.len:Nat)/\Nn l1.p fun a5=>Ld z3 (a5.add ((s2).toNat*1)) (Value.int .i64) fun x6=>ka x6 z3 fun r7 z8=>Br (!r7) (PR (.iface 310 (.int .i64 2)) z8) (I4 (wrap .i64 (s2+1)) z8)) (R z3)
def zy (l1:AA)(w:World)(R:Q0)(PR:Q1 Value):Prop:=Lp (σ:=Int) (cQ l1 R PR) 0 w
theorem AFU (l1 w R PR):zy l1 w R PR->Xq l1 w R PR:=kb (.q (.b (.o [(6,oi)] [4,5] (.q (.s (.c .l .l) (.s (.b (.q (.q (.c .r .l)))) .r)))))) [AA.v l1] Tryz.func247
def Nr (w:World)(z2:World)(R:Q2 Int Int)(x5:Value)(z4:World):Prop:=Dl (some ⟨w.heap.size,0,none⟩) (some ⟨z2.heap.size,0,none⟩) (some x5) z4 fun z6=>Ld z6 ⟨w.heap.size,0,none⟩ (Value.int .i64) fun x7=>Ld z6 ⟨z2.heap.size,0,none⟩ (Value.int .i64) fun x8=>R x7 x8 z6
def HI (w:World)(z2:World)(D2:Bool)(R:Q2 Int Int)(RL:Unit)(Gl:World):Prop:=Br D2 (Ld Gl ⟨w.heap.size,0,none⟩ (Value.int .i64) fun JK=>St Gl ⟨w.heap.size,0,none⟩ (.int .i64 (wrap .i64 (0-JK))) fun z119=>Ld z119 ⟨w.heap.size,0,none⟩ (Value.int .i64) fun UG=>Nw z119 (.cells #[.int .i64 UG] 2) fun Gj=>Xq (⟨some ⟨z119.heap.size,0,none⟩,1,1⟩:AA) Gj (fun KU=>Ld KU ⟨w.heap.size,0,none⟩ (Value.int .i64) fun DR=>St KU ⟨w.heap.size,0,none⟩ (.int .i64 DR) fun z124=>St z124 ⟨z2.heap.size,0,none⟩ (.int .i64 0) fun HF=>Dl (some ⟨w.heap.size,0,none⟩) (some ⟨z2.heap.size,0,none⟩) none HF fun JR=>Ld JR ⟨w.heap.size,0,none⟩ (Value.int .i64) fun KY=>Ld JR ⟨z2.heap.size,0,none⟩ (Value.int .i64) fun KZ=>R KY KZ JR) (Nr w z2 R)) (Ld Gl ⟨w.heap.size,0,none⟩ (Value.int .i64) fun dM=>Nw Gl (.cells #[.int .i64 dM] 2) fun z130=>Xq (⟨some ⟨Gl.heap.size,0,none⟩,1,1⟩:AA) z130 (fun z131=>Ld z131 ⟨w.heap.size,0,none⟩ (Value.int .i64) fun LZ=>St z131 ⟨w.heap.size,0,none⟩ (.int .i64 LZ) fun US=>St US ⟨z2.heap.size,0,none⟩ (.int .i64 0) fun PI=>Dl (some ⟨w.heap.size,0,none⟩) (some ⟨z2.heap.size,0,none⟩) none PI fun DQ=>Ld DQ ⟨w.heap.size,0,none⟩ (Value.int .i64) fun UI=>Ld DQ ⟨z2.heap.size,0,none⟩ (Value.int .i64) fun PF=>R UI PF DQ) (Nr w z2 R))
def Li (w:World)(z2:World)(D2:Bool)(DK:ByteArray)(z70:World)(R:Q2 Int Int)(I97:Q1 Unit)(s95:Unit)(QW:World):Prop:=Nx QW ⟨z70.heap.size,0,none⟩ (fun (i98:Int) (AFs:Int) (Gi:World)=>Ld Gi ⟨w.heap.size,0,none⟩ (Value.int .i64) fun qX=>Lt (wrap .i64 ((wrap .i64 (10*qX))+(wrap .i64 (wrap .i32 (AFs-48))))) fun (LY:Int)=>St Gi ⟨w.heap.size,0,none⟩ (.int .i64 LY) fun Ez=>I97 () Ez) (0<=(4:Int)/\(4:Int)<=(((DK++(⟨#[48,48,48,48,48]⟩:cN)).size:Nat):Int)/\Lt ((DK++(⟨#[48,48,48,48,48]⟩:cN)).extract (((4:Int)).toNat) ((DK++(⟨#[48,48,48,48,48]⟩:cN)).size)) fun (PM:ByteArray)=>kz PM (⟨#[48]⟩:cN) QW fun lE Bh=>As (HI w z2 D2 R) fun (Lj:Q1 Unit)=>Br D2 (Lt (!((Op.bytesLess lE.toList (⟨#[53]⟩:cN).toList)||(lE.toList==(⟨#[53]⟩:cN).toList))) fun (Le:Bool)=>Br Le (Ld Bh ⟨w.heap.size,0,none⟩ (Value.int .i64) fun JT=>St Bh ⟨w.heap.size,0,none⟩ (.int .i64 (wrap .i64 (JT+1))) fun z141=>Lj () z141) (Br (!D2) (Br (!(Op.bytesLess lE.toList (⟨#[53]⟩:cN).toList)) (Ld Bh ⟨w.heap.size,0,none⟩ (Value.int .i64) fun O2=>St Bh ⟨w.heap.size,0,none⟩ (.int .i64 (wrap .i64 (O2+1))) fun z143=>Lj () z143) (Lj () Bh)) (Lj () Bh))) (Br (!D2) (Br (!(Op.bytesLess lE.toList (⟨#[53]⟩:cN).toList)) (Ld Bh ⟨w.heap.size,0,none⟩ (Value.int .i64) fun Tz=>St Bh ⟨w.heap.size,0,none⟩ (.int .i64 (wrap .i64 (Tz+1))) fun z145=>Lj () z145) (Lj () Bh)) (Lj () Bh)))
def Lk (w:World)(z2:World)(D2:Bool)(DK:ByteArray)(z49:World)(R:Q2 Int Int)(I71:Q1 Unit)(jm:Unit)(z70:World):Prop:=Nx z70 ⟨z49.heap.size,0,none⟩ (fun (i72:Int) (AFt:Int) (I1:World)=>Ld I1 ⟨w.heap.size,0,none⟩ (Value.int .i64) fun dT=>Lt (wrap .i64 ((wrap .i64 (10*dT))+(wrap .i64 (wrap .i32 (AFt-48))))) fun (X9:Int)=>St I1 ⟨w.heap.size,0,none⟩ (.int .i64 X9) fun Qa=>Ld Qa ⟨w.heap.size,0,none⟩ (Value.int .i64) fun x78=>Br (decide (x78>1073741824)) (St Qa ⟨w.heap.size,0,none⟩ (.int .i64 0) fun qp=>St qp ⟨z2.heap.size,0,none⟩ (.int .i64 2) fun z80=>Dl (some ⟨w.heap.size,0,none⟩) (some ⟨z2.heap.size,0,none⟩) none z80 fun Qb=>Ld Qb ⟨w.heap.size,0,none⟩ (Value.int .i64) fun dE=>Ld Qb ⟨z2.heap.size,0,none⟩ (Value.int .i64) fun UC=>R dE UC Qb) (I71 () Qa)) ((((DK).size+((⟨#[48,48,48,48,48]⟩:cN)).size:Nat):Int)<=IntKind.i64.max/\0<=(4:Int)/\(4:Int)<=(((DK++(⟨#[48,48,48,48,48]⟩:cN)).size:Nat):Int)/\Nw z70 (.stringIter ((DK++(⟨#[48,48,48,48,48]⟩:cN)).extract 0 (((4:Int)).toNat)) 0) fun z94=>Lp (σ:=Unit) (Li w z2 D2 DK z70 R) () z94)
def Ll (w:World)(z2:World)(D2:Bool)(R:Q2 Int Int)(UT:ByteArray)(z21:World):Prop:=rI UT (⟨#[46]⟩:cN) z21 fun EW DK ky Fl=>(((EW).size+(DK).size:Nat):Int)<=IntKind.i64.max/\Br ((EW++DK).toList==(⟨#[]⟩:cN).toList) (St Fl ⟨w.heap.size,0,none⟩ (.int .i64 0) fun ZX=>St ZX ⟨z2.heap.size,0,none⟩ (.int .i64 3) fun z37=>Dl (some ⟨w.heap.size,0,none⟩) (some ⟨z2.heap.size,0,none⟩) none z37 fun Fm=>Ld Fm ⟨w.heap.size,0,none⟩ (Value.int .i64) fun UU=>Ld Fm ⟨z2.heap.size,0,none⟩ (Value.int .i64) fun qi=>R UU qi Fm) (lC EW Fl fun r41 Q9=>Br (!r41) (St Q9 ⟨w.heap.size,0,none⟩ (.int .i64 0) fun oc=>St oc ⟨z2.heap.size,0,none⟩ (.int .i64 3) fun FL=>Dl (some ⟨w.heap.size,0,none⟩) (some ⟨z2.heap.size,0,none⟩) none FL fun jh=>Ld jh ⟨w.heap.size,0,none⟩ (Value.int .i64) fun TU=>Ld jh ⟨z2.heap.size,0,none⟩ (Value.int .i64) fun QY=>R TU QY jh) (lC DK Q9 fun r48 z49=>Br (!r48) (St z49 ⟨w.heap.size,0,none⟩ (.int .i64 0) fun B5=>St B5 ⟨z2.heap.size,0,none⟩ (.int .i64 3) fun z51=>Dl (some ⟨w.heap.size,0,none⟩) (some ⟨z2.heap.size,0,none⟩) none z51 fun kk=>Ld kk ⟨w.heap.size,0,none⟩ (Value.int .i64) fun TS=>Ld kk ⟨z2.heap.size,0,none⟩ (Value.int .i64) fun Xt=>R TS Xt kk) (Nw z49 (.stringIter EW 0) fun QZ=>Lp (σ:=Unit) (Lk w z2 D2 DK z49 R) () QZ)))
def lF (s1:ByteArray)(w:World)(R:Q2 Int Int):Prop:=Nw w (.cells #[.int .i64 0] 2) fun z2=>Nw z2 (.cells #[.int .i64 0] 29) fun z3=>Br (decide ((s1.size:Int)>40)) (St z3 ⟨w.heap.size,0,none⟩ (.int .i64 0) fun D1=>St D1 ⟨z2.heap.size,0,none⟩ (.int .i64 3) fun z12=>Dl (some ⟨w.heap.size,0,none⟩) (some ⟨z2.heap.size,0,none⟩) none z12 fun A6=>Ld A6 ⟨w.heap.size,0,none⟩ (Value.int .i64) fun Gg=>Ld A6 ⟨z2.heap.size,0,none⟩ (Value.int .i64) fun DD=>R Gg DD A6) (k7 s1 (⟨#[45]⟩:cN) z3 fun D2 EI=>As (Ll w z2 D2 R) fun (dU:Q1 ByteArray)=>Br D2 (0<=(1:Int)/\(1:Int)<=(s1.size:Int)/\dU (s1.extract (((1:Int)).toNat) ((s1).size)) EI) (k7 s1 (⟨#[43]⟩:cN) EI fun Ka z148=>Br Ka (0<=(1:Int)/\(1:Int)<=(s1.size:Int)/\dU (s1.extract (((1:Int)).toNat) ((s1).size)) z148) (dU s1 z148)))
def AAV:CR:=(.pre (.A7 .seq) (.here [2,3] (.seq (.q (.cond (.q .leaf) .leaf)) (.q (.join [(0,(.one .str))] [2,3,4] (.q (.cond (.A7 .seq) .leaf)) (.q (.seq (.q (.cond (.q .leaf) .leaf)) (.seq (.q (.block (.loop [] [2,3,4,6,46] (.q (.seq (.cond .leaf .leaf) (.block (.q (.q (.q (.cond (.q .leaf) .leaf)))))))))) (.q (.seq (.q (.block (.loop [] [2,3,4,6,62] (.q (.seq (.cond .leaf .leaf) (.block (.q (.A7 .seq)))))))) (.q (.join [] [2,3,4] (.q (.cond (.A7 .seq) .leaf)) (.seq (.q (.cond (.A7 .seq) .leaf)) (.q (.q .leaf)))))))))))))))
theorem AAW (s1:ByteArray)(w:World)(R:Q2 Int Int)(h:lF s1 w R):lD s1 w R:=by
 have e:La prog FF CG (fun _ _=>False) AAV Tryz.f216 [.string s1] w [(.one (.int .i64)),(.one (.int .i64))] (fun s w=>R s.1 s.2 w)=lF s1 w R:=by kernel_rfl
 exact (CH okF Gw Tryz.func216 (by kernel_rfl) (by kernel_rfl) (e.mpr h)).mono fun _ _ ⟨s,he,hR⟩=>⟨s.1,s.2,he,hR⟩
def AAX (n1:Int)(w:World)(R:Q2 ByteArray Int):Prop:=Br (decide (n1<(-1073741824))) (R (⟨#[]⟩:cN) 2 w) (Br (decide (n1>1073741824)) (R (⟨#[]⟩:cN) 2 w) (k6 n1 w fun r2 z3=>R r2 0 z3))
theorem AFu (n1 w R):AAX n1 w R->rK n1 w R:=O5 os oi (.q (.s (.q (.c (.q .l) .l)) (.q .l))) [.int .i64 n1] Tryz.func128
end
section
open Sh
def tG (s1:ByteArray)(c2:Int):=K1 vi 90 #[.string s1,.int .u8 c2]
def yL (c1:Int):=K1 Value.bool 55 #[.int .u8 c1]
def uU (c1:Int):=K1 Value.bool 206 #[.int .u8 c1]
def uS (s1:ByteArray)(AK:Int):=K1 vi 178 #[.string s1,.int .i64 AK]
def lZ (s1:ByteArray)(BY:ByteArray)(Lw:Int):=K1 Value.bool 179 #[.string s1,.string BY,.int .i64 Lw]
def C70 (c1:Int):=K1 Value.bool 70 #[.int .u8 c1]
def yT (c1:Int):=K1 Value.bool 41 #[.int .u8 c1]
def dw (s1:ByteArray)(AK:Int):=K1 vi 240 #[.string s1,.int .i64 AK]
def YD (c1:Int):=K1 vi 209 #[.int .u8 c1]
def lU (s1:ByteArray):=K2 Value.string vi 211 #[.string s1]
def Uk (s1:ByteArray):=K1 Value.string 132 #[.string s1]
def S55 (c1:Int)(w:World)(R:Q1 Bool):Prop:=tG (⟨#[0,9,10,12,13,32]⟩:cN) c1 w fun r2 z3=>R (decide (r2>=0)) z3
theorem T55 (c1 w R):S55 c1 w R->yL c1 w R:=B2 ob (.q (.q .l)) [.int .u8 c1] Tryz.func55
def AAw (c1:Int)(w:World)(R:Q1 Bool):Prop:=Br (c1==13) (R true w) (R (c1==10) w)
theorem AH8 (c1 w R):AAw c1 w R->uU c1 w R:=B2 ob (.q (.q .l)) [.int .u8 c1] Tryz.func206
def eR (s1:ByteArray)(R:Q1 Int)(I5:Q1 (Int×Bool))(s3:Int×Bool)(z4:World):Prop:=Br (decide (s3.1<(s1.size:Int))) (0<=s3.1/\s3.1<((s1).size:Nat)/\Br s3.2 (uU (BX s1 s3.1) z4 fun r6 z7=>I5 (wrap .i64 (s3.1+1),!r6) z7) (Br ((BX s1 s3.1)==37) (I5 (wrap .i64 (s3.1+1),true) z4) (yL (BX s1 s3.1) z4 fun r8 z9=>Br (!r8) (R s3.1 z9) (I5 (wrap .i64 (s3.1+1),s3.2) z9)))) (R (s1.size:Int) z4)
def AAx (s1:ByteArray)(AK:Int)(w:World)(R:Q1 Int):Prop:=Br (decide (AK<0)) (R AK w) (Br (decide (AK>(s1.size:Int))) (R AK w) (Lp (σ:=Int×Bool) (eR s1 R) (AK,false) w))
theorem AH9 (s1 AK w R):AAx s1 AK w R->uS s1 AK w R:=B2 oi (.q (.s (.q (.c (.q .l) .l)) (.s (.q (.b (.o [(1,oi),(5,ob)] [0] (.s (.q (.c .l .l)) (.s (.b (.q (.b (.q (.c .r (.q (.c .r (.q (.c (.q .l) .l))))))))) .r))))) (.q .l)))) [.string s1,.int .i64 AK] Tryz.func178
def AAy (s1:ByteArray)(BY:ByteArray)(Lw:Int)(w:World)(R:Q1 Bool):Prop:=Br (decide (Lw>=0)) (Br (decide (Lw<=(s1.size:Int))) (0<=Lw/\Lw<=(s1.size:Int)/\k7 (s1.extract ((Lw).toNat) ((s1).size)) BY w fun r4 z5=>R r4 z5) (R false w)) (R false w)
theorem AIA (s1 BY Lw w R):AAy s1 BY Lw w R->lZ s1 BY Lw w R:=B2 ob (.q (.q .l)) [.string s1,.string BY,.int .i64 Lw] Tryz.func179
def S70 (c1:Int)(w:World)(R:Q1 Bool):Prop:=tG (⟨#[40,41,60,62,91,93,123,125,47,37]⟩:cN) c1 w fun r2 z3=>R (decide (r2>=0)) z3
theorem T70 (c1 w R):S70 c1 w R->C70 c1 w R:=B2 ob (.q (.q .l)) [.int .u8 c1] Tryz.func70
def S41 (c1:Int)(w:World)(R:Q1 Bool):Prop:=yL c1 w fun r2 z3=>Br (!r2) (C70 c1 z3 fun r4 z5=>R (!r4) z5) (R false z3)
theorem T41 (c1 w R):S41 c1 w R->yT c1 w R:=B2 ob (.q (.q .l)) [.int .u8 c1] Tryz.func41
def eS (s1:ByteArray)(R:Q1 Int)(I5:Q1 Int)(s3:Int)(z4:World):Prop:=Br (decide (s3<(s1.size:Int))) (0<=s3/\s3<((s1).size:Nat)/\Br ((BX s1 s3)==10) (R (wrap .i64 (s3+1)) z4) (Br ((BX s1 s3)==13) (lZ s1 (⟨#[13,10]⟩:cN) s3 z4 fun r6 z7=>Br r6 (R (wrap .i64 (s3+2)) z7) (R (wrap .i64 (s3+1)) z7)) (I5 (wrap .i64 (s3+1)) z4))) (R (s1.size:Int) z4)
def AAz (s1:ByteArray)(AK:Int)(w:World)(R:Q1 Int):Prop:=Br (decide (AK<0)) (R AK w) (Br (decide (AK>(s1.size:Int))) (R AK w) (Lp (σ:=Int) (eS s1 R) AK w))
theorem AIB (s1 AK w R):AAz s1 AK w R->dw s1 AK w R:=B2 oi (.q (.s (.q (.c (.q .l) .l)) (.s (.b (.o [(1,oi)] [0] (.s (.q (.c .l .l)) (.s (.b (.q (.b (.q (.c (.q .l) (.q (.c (.s (.q (.c (.q .l) .l)) (.q .l)) .l))))))) .r)))) (.q .l)))) [.string s1,.int .i64 AK] Tryz.func240
def uV (c1:Int)(w:World)(R:Q1 Int):Prop:=Br (decide (c1>=48)) (Br (decide (c1<=57)) (R (wrap .i64 (wrap .u8 (c1-48))) w) (Br (decide (c1>=65)) (Br (decide (c1<=70)) (R (wrap .i64 ((wrap .i64 (wrap .u8 (c1-65)))+10)) w) (Br (decide (c1>=97)) (Br (decide (c1<=102)) (R (wrap .i64 ((wrap .i64 (wrap .u8 (c1-97)))+10)) w) (R (-1) w)) (R (-1) w))) (Br (decide (c1>=97)) (Br (decide (c1<=102)) (R (wrap .i64 ((wrap .i64 (wrap .u8 (c1-97)))+10)) w) (R (-1) w)) (R (-1) w)))) (Br (decide (c1>=65)) (Br (decide (c1<=70)) (R (wrap .i64 ((wrap .i64 (wrap .u8 (c1-65)))+10)) w) (Br (decide (c1>=97)) (Br (decide (c1<=102)) (R (wrap .i64 ((wrap .i64 (wrap .u8 (c1-97)))+10)) w) (R (-1) w)) (R (-1) w))) (Br (decide (c1>=97)) (Br (decide (c1<=102)) (R (wrap .i64 ((wrap .i64 (wrap .u8 (c1-97)))+10)) w) (R (-1) w)) (R (-1) w)))
theorem AA0 (c1 w R):uV c1 w R->YD c1 w R:=B2 oi (.q (.s (.b (.q (.c (.q .l) (.q (.c (.q .l) (.q (.c (.q .l) .l))))))) (.q .l))) [.int .u8 c1] Tryz.func209
def Lx (s1:ByteArray)(R:Q2 ByteArray Int)(I6:Q1 (AA×Int))(s4:AA×Int)(z5:World):Prop:=Br (decide (s4.2<(s1.size:Int))) (0<=s4.2/\s4.2<((s1).size:Nat)/\0<=(wrap .i64 (s4.2+1))/\(wrap .i64 (s4.2+1))<((s1).size:Nat)/\YD (BX s1 s4.2) z5.drew fun r7 z8=>YD (BX s1 (wrap .i64 (s4.2+1))) z8 fun r9 Ay=>Br (decide (r7<0)) (R (⟨#[]⟩:cN) 3 Ay) (Br (decide (r9<0)) (R (⟨#[]⟩:cN) 3 Ay) (Nw Ay (.cells #[.int .u8 (wrap .u8 (yS .i64 (wrap .i64 (r7*2^4)) r9))] 5) fun D1=>Rn prog (Builtin.append_ #[61,61] 61 #[AA.v s4.1,AA.v ⟨some ⟨Ay.heap.size,0,none⟩,1,1⟩]) D1 AA.v fun FI A6=>I6 (FI,wrap .i64 (s4.2+2)) A6))) (Rn prog (convert 61 9 (AA.v s4.1)) z5 Value.string fun Gg Db=>R Gg 0 Db)
def uW (s1:ByteArray)(w:World)(R:Q2 ByteArray Int):Prop:=Br ((Int.tmod (s1.size:Int) 2) !=0) (R (⟨#[]⟩:cN) 3 w) (Rn prog (Instr.makeSlice 61 (.int .i64 0) (.int .i64 (wrap .i64 (Int.tdiv (s1.size:Int) 2)))) w AA.v fun x2 z3=>Lp (σ:=AA×Int) (Lx s1 R) (x2,0) z3)
theorem AA1 (s1 w R):uW s1 w R->lU s1 w R:=O5 os oi (.q (.s (.q (.c (.q .l) .l)) (.q (.s (.q (.b (.o [(4,ol),(5,oi)] [0] (.s (.q (.c .l .l)) (.s (.b (.s (.A7 (.held [3] (.take 0 (.take 1 (.take 2 (.take 4 (.take 5 (.take 6 (.take 7 (.A4 3 (some [8]) (.A4 8 (some []) (.take 9 (.take 10 .done))))))))))))) (.s (.q (.c (.q .l) .l)) .r))) .r))))) (.q .l))))) [.string s1] Tryz.func211
def eT (s1:ByteArray)(R:Q1 ByteArray)(I6:Q1 (AA×Int))(s4:AA×Int)(z5:World):Prop:=Br (decide (s4.2<(s1.size:Int))) (0<=s4.2/\s4.2<((s1).size:Nat)/\0<=(Int.fdiv (BX s1 s4.2) (2^4))/\(Int.fdiv (BX s1 s4.2) (2^4))<(((⟨#[48,49,50,51,52,53,54,55,56,57,65,66,67,68,69,70]⟩:cN)).size:Nat)/\0<=s4.2/\s4.2<((s1).size:Nat)/\0<=(YM .u8 (BX s1 s4.2) 15)/\(YM .u8 (BX s1 s4.2) 15)<(((⟨#[48,49,50,51,52,53,54,55,56,57,65,66,67,68,69,70]⟩:cN)).size:Nat)/\Nw z5.drew (.cells #[.int .u8 (BX (⟨#[48,49,50,51,52,53,54,55,56,57,65,66,67,68,69,70]⟩:cN) (Int.fdiv (BX s1 s4.2) (2^4))),.int .u8 (BX (⟨#[48,49,50,51,52,53,54,55,56,57,65,66,67,68,69,70]⟩:cN) (YM .u8 (BX s1 s4.2) 15))] 5) fun z7=>Rn prog (Builtin.append_ #[61,61] 61 #[AA.v s4.1,AA.v ⟨some ⟨z5.drew.heap.size,0,none⟩,2,2⟩]) z7 AA.v fun x8 z9=>I6 (x8,wrap .i64 (s4.2+1)) z9) (Rn prog (convert 61 9 (AA.v s4.1)) z5 Value.string fun DE D1=>R DE D1)
def AA2 (s1:ByteArray)(w:World)(R:Q1 ByteArray):Prop:=Rn prog (Instr.makeSlice 61 (.int .i64 0) (.int .i64 (wrap .i64 (2*(s1.size:Int))))) w AA.v fun x2 z3=>Lp (σ:=AA×Int) (eT s1 R) (x2,0) z3
theorem AIC (s1 w R):AA2 s1 w R->Uk s1 w R:=B2 os (.q (.q (.s (.q (.b (.o [(3,ol),(11,oi)] [0,10] (.q (.s (.c .l .l) (.s (.b (.q (.A7 (.held [11] (.take 0 (.take 1 (.take 2 (.take 3 (.take 4 (.take 5 (.take 6 (.take 7 (.take 8 (.take 9 (.take 10 (.A4 11 (some [12]) (.A4 12 (some []) (.take 13 .done)))))))))))))))))) .r)))))) (.q .l)))) [.string s1] Tryz.func132
end
section
open Sh
def C40 (a0:Option Addr):=K0 40 #[.pointer a0]
def Jz (b1:Option Addr)(c2:Int):=K1 vR 42 #[.pointer b1,.int .u8 c2]
def O0 (b1:Option Addr)(s2:ByteArray):=K2 vi vR 19 #[.pointer b1,.string s2]
def oS (a0:Option Addr):=K1 Value.string 27 #[.pointer a0]
def S42 (b1:Option Addr)(c2:Int)(w:World)(R:Q1 Value):Prop:=C40 b1 w fun z3=>Nn b1 fun a4=>Ld z3 (a4.add 1) AA.v fun x5=>Nw z3 (.cells #[.int .u8 c2] 5) fun z6=>Rn prog (Builtin.append_ #[61,61] 61 #[AA.v x5,AA.v ⟨some ⟨z3.heap.size,0,none⟩,1,1⟩]) z6 AA.v fun x7 z8=>Nn b1 fun a9=>St z8 (a9.add 1) (AA.v x7) fun Ay=>R Value.nilIface Ay
theorem T42 (b1 c2 w R):S42 b1 c2 w R->Jz b1 c2 w R:=B2 (.one .raw) (.q (.q (.q (.q .l)))) [.pointer b1,.int .u8 c2] Tryz.func42
def S19 (b1:Option Addr)(s2:ByteArray)(w:World)(R:Q2 Int Value):Prop:=C40 b1 w fun z3=>Nn b1 fun a4=>Ld z3 (a4.add 1) AA.v fun x5=>Rn prog (Builtin.append_ #[61,9] 61 #[AA.v x5,.string s2]) z3 AA.v fun x6 z7=>Nn b1 fun a8=>St z7 (a8.add 1) (AA.v x6) fun z9=>R (s2.size:Int) Value.nilIface z9
theorem T19 (b1 s2 w R):S19 b1 s2 w R->O0 b1 s2 w R:=O5 oi (.one .raw) (.q (.q (.q (.q .l)))) [.pointer b1,.string s2] Tryz.func19
end
section
open Sh
def Fb (UY:Int):=K2 (α:=Int×Int×Int×Int×ByteArray) (vA [ti,ti,ti,ti,.str]) vi 177 #[.int .i64 UY]
def YC (c1:ByteArray×Int)(n2:Int):=K2 (α:=Int×Int×Int×Int×ByteArray) (vA [ti,ti,ti,ti,.str]) vi 180 #[.agg #[.string c1.1,.int .i64 (c1.2)],.int .i64 n2]
def Kd (c1:ByteArray×Int)(Dm:Int)(sr:Int)(J5:ByteArray)(Ln:Int):=K2 (α:=Int×Int×Int×Int×ByteArray) (vA [ti,ti,ti,ti,.str]) vi 208 #[.agg #[.string c1.1,.int .i64 (c1.2)],.int .i64 Dm,.int .i64 sr,.string J5,.int .i64 Ln]
def sw (c1:ByteArray×Int):=K2 (α:=Int×Int×Int×Int×ByteArray) (vA [ti,ti,ti,ti,.str]) vi 181 #[.agg #[.string c1.1,.int .i64 (c1.2)]]
def lP (c1:ByteArray×Int)(HJ:Int):=K1 vi 210 #[.agg #[.string c1.1,.int .i64 (c1.2)],.int .i64 HJ]
def lQ (c1:ByteArray×Int):=K2 (α:=Int×Int×Int×Int×ByteArray) (vA [ti,ti,ti,ti,.str]) vi 182 #[.agg #[.string c1.1,.int .i64 (c1.2)]]
def dh (c1:ByteArray×Int)(AK:Int):=K2 vi Value.bool 212 #[.agg #[.string c1.1,.int .i64 (c1.2)],.int .i64 AK]
def lR (c1:ByteArray×Int)(AK:Int):=K2 Value.string vi 213 #[.agg #[.string c1.1,.int .i64 (c1.2)],.int .i64 AK]
def lS (c1:ByteArray×Int):=K2 (α:=Int×Int×Int×Int×ByteArray) (vA [ti,ti,ti,ti,.str]) vi 183 #[.agg #[.string c1.1,.int .i64 (c1.2)]]
def sx (s1:ByteArray)(IF:ByteArray):=K1 Value.string 241 #[.string s1,.string IF]
def di (s1:ByteArray)(E5:ByteArray):=K1 Value.bool 243 #[.string s1,.string E5]
def dj (s1:ByteArray):=K1 vi 214 #[.string s1]
def lT (s1:ByteArray):=K2 vi vi 215 #[.string s1]
def RV (c1:ByteArray×Int):=K2 (α:=Int×Int×Int×Int×ByteArray) (vA [ti,ti,ti,ti,.str]) vi 184 #[.agg #[.string c1.1,.int .i64 (c1.2)]]
def FW (s1:ByteArray)(AK:Int):=K2 (α:=Int×Int×Int×Int×ByteArray) (vA [ti,ti,ti,ti,.str]) vi 142 #[.string s1,.int .i64 AK]
def AAf (UY:Int)(w:World)(R:Q2 (Int×Int×Int×Int×ByteArray) Int):Prop:=Nw w (.cells #[.int .i64 0,.int .i64 0,.int .i64 0,.int .i64 0,.string (⟨#[]⟩:cN)] 148) fun z2=>St z2 ⟨w.heap.size,0,none⟩ (.int .i64 0) fun z3=>St z3 (.add ⟨w.heap.size,0,none⟩ 1) (.int .i64 0) fun z4=>St z4 (.add ⟨w.heap.size,0,none⟩ 2) (.int .i64 0) fun z5=>St z5 (.add ⟨w.heap.size,0,none⟩ 3) (.int .i64 0) fun z6=>St z6 (.add ⟨w.heap.size,0,none⟩ 4) (.string (⟨#[]⟩:cN)) fun z7=>Ld z7 ⟨w.heap.size,0,none⟩ (Value.int .i64) fun x8=>Ld z7 (.add ⟨w.heap.size,0,none⟩ 1) (Value.int .i64) fun x9=>Ld z7 (.add ⟨w.heap.size,0,none⟩ 2) (Value.int .i64) fun DE=>Ld z7 (.add ⟨w.heap.size,0,none⟩ 3) (Value.int .i64) fun Cn=>Ld z7 (.add ⟨w.heap.size,0,none⟩ 4) Value.string fun FI=>R (x8,x9,DE,Cn,FI) UY z7
theorem AG3 (UY w R):AAf UY w R->Fb UY w R:=O5 (.agg [(.int .i64),(.int .i64),(.int .i64),(.int .i64),.str]) oi (.q (.q .l)) [.int .i64 UY] Tryz.func177
def AAg (c1:ByteArray×Int)(n2:Int)(w:World)(R:Q2 (Int×Int×Int×Int×ByteArray) Int):Prop:=Nw w (.cells #[.string c1.1,.int .i64 (c1.2)] 225) fun z3=>Nw z3 (.cells #[.int .i64 0,.int .i64 0,.int .i64 0,.int .i64 0,.string (⟨#[]⟩:cN)] 148) fun z4=>Ld z4.drew (.add ⟨w.heap.size,0,none⟩ 1) (Value.int .i64) fun x5=>Ld z4.drew (.add ⟨w.heap.size,0,none⟩ 1) (Value.int .i64) fun x6=>Ld z4.drew ⟨w.heap.size,0,none⟩ Value.string fun x7=>Ld z4.drew (.add ⟨w.heap.size,0,none⟩ 1) (Value.int .i64) fun x8=>Ld z4.drew (.add ⟨w.heap.size,0,none⟩ 1) (Value.int .i64) fun x9=>0<=(wrap .i64 (x9+n2))/\(wrap .i64 (x9+n2))<=(x7.size:Int)/\0<=x8/\x8<=(((wrap .i64 (x9+n2)).toNat:Nat):Int)/\St z4.drew ⟨z3.heap.size,0,none⟩ (.int .i64 6) fun Ay=>St Ay (.add ⟨z3.heap.size,0,none⟩ 1) (.int .i64 x5) fun D1=>St D1 (.add ⟨z3.heap.size,0,none⟩ 2) (.int .i64 (wrap .i64 (x6+n2))) fun z12=>St z12 (.add ⟨z3.heap.size,0,none⟩ 3) (.int .i64 0) fun A6=>St A6 (.add ⟨z3.heap.size,0,none⟩ 4) (.string (x7.extract ((x8).toNat) ((wrap .i64 (x9+n2)).toNat))) fun AM=>Ld AM ⟨z3.heap.size,0,none⟩ (Value.int .i64) fun DD=>Ld AM (.add ⟨z3.heap.size,0,none⟩ 1) (Value.int .i64) fun EK=>Ld AM (.add ⟨z3.heap.size,0,none⟩ 2) (Value.int .i64) fun Dj=>Ld AM (.add ⟨z3.heap.size,0,none⟩ 3) (Value.int .i64) fun Ca=>Ld AM (.add ⟨z3.heap.size,0,none⟩ 4) Value.string fun FJ=>R (DD,EK,Dj,Ca,FJ) 0 AM
theorem AG4 (c1 n2 w R):AAg c1 n2 w R->YC (c1.1,c1.2) n2 w R:=O5 (.agg [(.int .i64),(.int .i64),(.int .i64),(.int .i64),.str]) oi (.q (.s (.A7 (.tail 15)) .l)) [.agg #[.string c1.1,.int .i64 (c1.2)],.int .i64 n2] Tryz.func180
def sy (c1:ByteArray×Int)(Dm:Int)(sr:Int)(J5:ByteArray)(Ln:Int)(w:World)(R:Q2 (Int×Int×Int×Int×ByteArray) Int):Prop:=Nw w (.cells #[.string c1.1,.int .i64 (c1.2)] 225) fun z6=>Nw z6 (.cells #[.int .i64 0,.int .i64 0,.int .i64 0,.int .i64 0,.string (⟨#[]⟩:cN)] 148) fun z7=>Br (decide ((J5.size:Int)>Ln)) (Fb 5 z7 fun D2 ZW Cc=>St Cc ⟨z6.heap.size,0,none⟩ (.int .i64 (D2.1)) fun Bm=>St Bm (.add ⟨z6.heap.size,0,none⟩ 1) (.int .i64 (D2.2.1)) fun z20=>St z20 (.add ⟨z6.heap.size,0,none⟩ 2) (.int .i64 (D2.2.2.1)) fun z21=>St z21 (.add ⟨z6.heap.size,0,none⟩ 3) (.int .i64 (D2.2.2.2.1)) fun GP=>St GP (.add ⟨z6.heap.size,0,none⟩ 4) (.string D2.2.2.2.2) fun Cb=>Ld Cb ⟨z6.heap.size,0,none⟩ (Value.int .i64) fun NH=>Ld Cb (.add ⟨z6.heap.size,0,none⟩ 1) (Value.int .i64) fun I0=>Ld Cb (.add ⟨z6.heap.size,0,none⟩ 2) (Value.int .i64) fun No=>Ld Cb (.add ⟨z6.heap.size,0,none⟩ 3) (Value.int .i64) fun Tt=>Ld Cb (.add ⟨z6.heap.size,0,none⟩ 4) Value.string fun KT=>R (NH,I0,No,Tt,KT) ZW Cb) (Ld z7 (.add ⟨w.heap.size,0,none⟩ 1) (Value.int .i64) fun M7=>St z7 ⟨z6.heap.size,0,none⟩ (.int .i64 Dm) fun FK=>St FK (.add ⟨z6.heap.size,0,none⟩ 1) (.int .i64 M7) fun z31=>St z31 (.add ⟨z6.heap.size,0,none⟩ 2) (.int .i64 sr) fun GQ=>St GQ (.add ⟨z6.heap.size,0,none⟩ 3) (.int .i64 0) fun Gh=>St Gh (.add ⟨z6.heap.size,0,none⟩ 4) (.string J5) fun JQ=>Ld JQ ⟨z6.heap.size,0,none⟩ (Value.int .i64) fun RQ=>Ld JQ (.add ⟨z6.heap.size,0,none⟩ 1) (Value.int .i64) fun Lc=>Ld JQ (.add ⟨z6.heap.size,0,none⟩ 2) (Value.int .i64) fun RU=>Ld JQ (.add ⟨z6.heap.size,0,none⟩ 3) (Value.int .i64) fun dk=>Ld JQ (.add ⟨z6.heap.size,0,none⟩ 4) Value.string fun UU=>R (RQ,Lc,RU,dk,UU) 0 JQ)
theorem AAh (c1 Dm sr J5 Ln w R):sy c1 Dm sr J5 Ln w R->Kd (c1.1,c1.2) Dm sr J5 Ln w R:=O5 (.agg [(.int .i64),(.int .i64),(.int .i64),(.int .i64),.str]) oi (.q (.s (.q (.c (.q .l) .l)) (.q .l))) [.agg #[.string c1.1,.int .i64 (c1.2)],.int .i64 Dm,.int .i64 sr,.string J5,.int .i64 Ln] Tryz.func208
def dm (w:World)(z2:World)(R:Q2 (Int×Int×Int×Int×ByteArray) Int)(I86:Q1 (AA×Int×Int))(Lo:AA×Int×Int)(z85:World):Prop:=Ld z85 ⟨w.heap.size,0,none⟩ Value.string fun TW=>Br (decide (Lo.2.2<(TW.size:Int))) (Ld z85 ⟨w.heap.size,0,none⟩ Value.string fun Zc=>0<=Lo.2.2/\Lo.2.2<((Zc).size:Nat)/\Br ((BX Zc Lo.2.2)==62) (Br (decide (Lo.2.1>=0)) (Nw z85 (.cells #[.int .u8 (wrap .u8 (wrap .i64 (Lo.2.1*2^4)))] 5) fun X1=>Rn prog (Builtin.append_ #[61,61] 61 #[AA.v Lo.1,AA.v ⟨some ⟨z85.heap.size,0,none⟩,1,1⟩]) X1 AA.v fun ZZ z91=>Ld z91 ⟨w.heap.size,0,none⟩ Value.string fun kx=>Ld z91 (.add ⟨w.heap.size,0,none⟩ 1) (Value.int .i64) fun UD=>Rn prog (convert 61 9 (AA.v ZZ)) z91 Value.string fun UE z95=>Kd (kx,UD) 3 (wrap .i64 (Lo.2.2+1)) UE 32767 z95 fun TX oh Za=>St Za ⟨z2.heap.size,0,none⟩ (.int .i64 (TX.1)) fun Zb=>St Zb (.add ⟨z2.heap.size,0,none⟩ 1) (.int .i64 (TX.2.1)) fun Gi=>St Gi (.add ⟨z2.heap.size,0,none⟩ 2) (.int .i64 (TX.2.2.1)) fun Cd=>St Cd (.add ⟨z2.heap.size,0,none⟩ 3) (.int .i64 (TX.2.2.2.1)) fun Fu=>St Fu (.add ⟨z2.heap.size,0,none⟩ 4) (.string TX.2.2.2.2) fun Ez=>Ld Ez ⟨z2.heap.size,0,none⟩ (Value.int .i64) fun PM=>Ld Ez (.add ⟨z2.heap.size,0,none⟩ 1) (Value.int .i64) fun UZ=>Ld Ez (.add ⟨z2.heap.size,0,none⟩ 2) (Value.int .i64) fun Lq=>Ld Ez (.add ⟨z2.heap.size,0,none⟩ 3) (Value.int .i64) fun FX=>Ld Ez (.add ⟨z2.heap.size,0,none⟩ 4) Value.string fun Lf=>R (PM,UZ,Lq,FX,Lf) oh Ez) (Ld z85 ⟨w.heap.size,0,none⟩ Value.string fun JU=>Ld z85 (.add ⟨w.heap.size,0,none⟩ 1) (Value.int .i64) fun Lg=>Rn prog (convert 61 9 (AA.v Lo.1)) z85 Value.string fun PH Lr=>Kd (JU,Lg) 3 (wrap .i64 (Lo.2.2+1)) PH 32767 Lr fun Fw RW Gl=>St Gl ⟨z2.heap.size,0,none⟩ (.int .i64 (Fw.1)) fun z116=>St z116 (.add ⟨z2.heap.size,0,none⟩ 1) (.int .i64 (Fw.2.1)) fun z117=>St z117 (.add ⟨z2.heap.size,0,none⟩ 2) (.int .i64 (Fw.2.2.1)) fun NM=>St NM (.add ⟨z2.heap.size,0,none⟩ 3) (.int .i64 (Fw.2.2.2.1)) fun z119=>St z119 (.add ⟨z2.heap.size,0,none⟩ 4) (.string Fw.2.2.2.2) fun Cg=>Ld Cg ⟨z2.heap.size,0,none⟩ (Value.int .i64) fun Cf=>Ld Cg (.add ⟨z2.heap.size,0,none⟩ 1) (Value.int .i64) fun EY=>Ld Cg (.add ⟨z2.heap.size,0,none⟩ 2) (Value.int .i64) fun DR=>Ld Cg (.add ⟨z2.heap.size,0,none⟩ 3) (Value.int .i64) fun D3=>Ld Cg (.add ⟨z2.heap.size,0,none⟩ 4) Value.string fun EX=>R (Cf,EY,DR,D3,EX) RW Cg)) (YD (BX Zc Lo.2.2) z85 fun Tv z127=>yL (BX Zc Lo.2.2) z127 fun Ua Di=>Br Ua (I86 (Lo.1,Lo.2.1,wrap .i64 (Lo.2.2+1)) Di) (Br (decide (Tv<0)) (Fb 3 Di fun Ls tA NO=>St NO ⟨z2.heap.size,0,none⟩ (.int .i64 (Ls.1)) fun US=>St US (.add ⟨z2.heap.size,0,none⟩ 1) (.int .i64 (Ls.2.1)) fun PI=>St PI (.add ⟨z2.heap.size,0,none⟩ 2) (.int .i64 (Ls.2.2.1)) fun DQ=>St DQ (.add ⟨z2.heap.size,0,none⟩ 3) (.int .i64 (Ls.2.2.2.1)) fun PJ=>St PJ (.add ⟨z2.heap.size,0,none⟩ 4) (.string Ls.2.2.2.2) fun Ex=>Ld Ex ⟨z2.heap.size,0,none⟩ (Value.int .i64) fun KX=>Ld Ex (.add ⟨z2.heap.size,0,none⟩ 1) (Value.int .i64) fun Le=>Ld Ex (.add ⟨z2.heap.size,0,none⟩ 2) (Value.int .i64) fun JT=>Ld Ex (.add ⟨z2.heap.size,0,none⟩ 3) (Value.int .i64) fun LQ=>Ld Ex (.add ⟨z2.heap.size,0,none⟩ 4) Value.string fun O2=>R (KX,Le,JT,LQ,O2) tA Ex) (Br (decide (Lo.2.1<0)) (I86 (Lo.1,Tv,wrap .i64 (Lo.2.2+1)) Di) (Nw Di (.cells #[.int .u8 (wrap .u8 (yS .i64 (wrap .i64 (Lo.2.1*2^4)) Tv))] 5) fun z143=>Rn prog (Builtin.append_ #[61,61] 61 #[AA.v Lo.1,AA.v ⟨some ⟨Di.heap.size,0,none⟩,1,1⟩]) z143 AA.v fun Tz z145=>I86 (Tz,(-1),wrap .i64 (Lo.2.2+1)) z145))))) (Fb 4 z85 fun dq Ka z148=>St z148 ⟨z2.heap.size,0,none⟩ (.int .i64 (dq.1)) fun dH=>St dH (.add ⟨z2.heap.size,0,none⟩ 1) (.int .i64 (dq.2.1)) fun RC=>St RC (.add ⟨z2.heap.size,0,none⟩ 2) (.int .i64 (dq.2.2.1)) fun UJ=>St UJ (.add ⟨z2.heap.size,0,none⟩ 3) (.int .i64 (dq.2.2.2.1)) fun z152=>St z152 (.add ⟨z2.heap.size,0,none⟩ 4) (.string dq.2.2.2.2) fun NJ=>Ld NJ ⟨z2.heap.size,0,none⟩ (Value.int .i64) fun PG=>Ld NJ (.add ⟨z2.heap.size,0,none⟩ 1) (Value.int .i64) fun UL=>Ld NJ (.add ⟨z2.heap.size,0,none⟩ 2) (Value.int .i64) fun dI=>Ld NJ (.add ⟨z2.heap.size,0,none⟩ 3) (Value.int .i64) fun qx=>Ld NJ (.add ⟨z2.heap.size,0,none⟩ 4) Value.string fun qy=>R (PG,UL,dI,qx,qy) Ka NJ)
def AAi (c1:ByteArray×Int)(w:World)(R:Q2 (Int×Int×Int×Int×ByteArray) Int):Prop:=Nw w (.cells #[.string c1.1,.int .i64 (c1.2)] 225) fun z2=>Nw z2 (.cells #[.int .i64 0,.int .i64 0,.int .i64 0,.int .i64 0,.string (⟨#[]⟩:cN)] 148) fun z3=>Ld z3 (.add ⟨w.heap.size,0,none⟩ 1) (Value.int .i64) fun UC=>Lp (σ:=AA×Int×Int) (dm w z2 R) ((⟨none,0,0⟩:AA),(-1),wrap .i64 (UC+1)) z3
theorem AG6 (c1 w R):AAi c1 w R->sw (c1.1,c1.2) w R:=O5 (.agg [(.int .i64),(.int .i64),(.int .i64),(.int .i64),.str]) oi (.q (.q (.q (.s (.q (.b (.o [(4,ol),(5,oi),(6,oi)] [1,2] (.s (.q (.c .l .l)) (.s (.b (.q (.s (.q (.c (.s (.q (.c .r .l)) (.q .l)) .l)) (.q (.b (.q (.c .l (.q (.c (.q .l) (.q (.c .r (.q .r)))))))))))) .r))))) (.q .l))))) [.agg #[.string c1.1,.int .i64 (c1.2)]] Tryz.func181
def dt (w:World)(R:Q1 Int)(I6:Q1 Int)(s4:Int)(z5:World):Prop:=Ld z5 ⟨w.heap.size,0,none⟩ Value.string fun x7=>Br (decide (s4<(x7.size:Int))) (Ld z5 ⟨w.heap.size,0,none⟩ Value.string fun x8=>0<=s4/\s4<((x8).size:Nat)/\yT (BX x8 s4) z5 fun r9 Ay=>Br r9 (I6 (wrap .i64 (s4+1)) Ay) (R s4 Ay)) (R s4 z5)
def AAj (c1:ByteArray×Int)(HJ:Int)(w:World)(R:Q1 Int):Prop:=Nw w (.cells #[.string c1.1,.int .i64 (c1.2)] 225) fun z3=>Lp (σ:=Int) (dt w R) HJ z3
theorem AG7 (c1 HJ w R):AAj c1 HJ w R->lP (c1.1,c1.2) HJ w R:=B2 oi (.q (.s (.b (.o [(1,oi)] [2] (.s (.q (.c .l .l)) (.b .r)))) (.q .l))) [.agg #[.string c1.1,.int .i64 (c1.2)],.int .i64 HJ] Tryz.func210
def Ub (w:World)(z2:World)(r7:Int)(R:Q2 (Int×Int×Int×Int×ByteArray) Int)(I75:Q1 (AA×Int))(Qc:AA×Int)(I1:World):Prop:=Br (decide (Qc.2<r7)) (Ld I1 ⟨w.heap.size,0,none⟩ Value.string fun X9=>0<=Qc.2/\Qc.2<((X9).size:Nat)/\Br ((BX X9 Qc.2)==35) (Br (decide ((wrap .i64 (Qc.2+2))>=r7)) (Fb 3 I1 fun r77 qo qp=>St qp ⟨z2.heap.size,0,none⟩ (.int .i64 (r77.1)) fun z80=>St z80 (.add ⟨z2.heap.size,0,none⟩ 1) (.int .i64 (r77.2.1)) fun Qb=>St Qb (.add ⟨z2.heap.size,0,none⟩ 2) (.int .i64 (r77.2.2.1)) fun RE=>St RE (.add ⟨z2.heap.size,0,none⟩ 3) (.int .i64 (r77.2.2.2.1)) fun dB=>St dB (.add ⟨z2.heap.size,0,none⟩ 4) (.string r77.2.2.2.2) fun jl=>Ld jl ⟨z2.heap.size,0,none⟩ (Value.int .i64) fun kt=>Ld jl (.add ⟨z2.heap.size,0,none⟩ 1) (Value.int .i64) fun ku=>Ld jl (.add ⟨z2.heap.size,0,none⟩ 2) (Value.int .i64) fun TW=>Ld jl (.add ⟨z2.heap.size,0,none⟩ 3) (Value.int .i64) fun Zc=>Ld jl (.add ⟨z2.heap.size,0,none⟩ 4) Value.string fun dK=>R (kt,ku,TW,Zc,dK) qo jl) (Ld I1 ⟨w.heap.size,0,none⟩ Value.string fun ZZ=>0<=(wrap .i64 (Qc.2+3))/\(wrap .i64 (Qc.2+3))<=(ZZ.size:Int)/\0<=(wrap .i64 (Qc.2+1))/\(wrap .i64 (Qc.2+1))<=(((wrap .i64 (Qc.2+3)).toNat:Nat):Int)/\lU (ZZ.extract ((wrap .i64 (Qc.2+1)).toNat) ((wrap .i64 (Qc.2+3)).toNat)) I1 fun oo r92 z93=>Br (r92 !=0) (Fb 3 z93 fun r94 r95 QW=>St QW ⟨z2.heap.size,0,none⟩ (.int .i64 (r94.1)) fun Zd=>St Zd (.add ⟨z2.heap.size,0,none⟩ 1) (.int .i64 (r94.2.1)) fun Za=>St Za (.add ⟨z2.heap.size,0,none⟩ 2) (.int .i64 (r94.2.2.1)) fun Zb=>St Zb (.add ⟨z2.heap.size,0,none⟩ 3) (.int .i64 (r94.2.2.2.1)) fun Gi=>St Gi (.add ⟨z2.heap.size,0,none⟩ 4) (.string r94.2.2.2.2) fun Cd=>Ld Cd ⟨z2.heap.size,0,none⟩ (Value.int .i64) fun LY=>Ld Cd (.add ⟨z2.heap.size,0,none⟩ 1) (Value.int .i64) fun tB=>Ld Cd (.add ⟨z2.heap.size,0,none⟩ 2) (Value.int .i64) fun PM=>Ld Cd (.add ⟨z2.heap.size,0,none⟩ 3) (Value.int .i64) fun UZ=>Ld Cd (.add ⟨z2.heap.size,0,none⟩ 4) Value.string fun Lq=>R (LY,tB,PM,UZ,Lq) r95 Cd) (Br (oo.toList==(⟨#[0]⟩:cN).toList) (Fb 3 z93 fun du AAE z109=>St z109 ⟨z2.heap.size,0,none⟩ (.int .i64 (du.1)) fun Q8=>St Q8 (.add ⟨z2.heap.size,0,none⟩ 1) (.int .i64 (du.2.1)) fun Ce=>St Ce (.add ⟨z2.heap.size,0,none⟩ 2) (.int .i64 (du.2.2.1)) fun Lr=>St Lr (.add ⟨z2.heap.size,0,none⟩ 3) (.int .i64 (du.2.2.2.1)) fun tC=>St tC (.add ⟨z2.heap.size,0,none⟩ 4) (.string du.2.2.2.2) fun PQ=>Ld PQ ⟨z2.heap.size,0,none⟩ (Value.int .i64) fun NL=>Ld PQ (.add ⟨z2.heap.size,0,none⟩ 1) (Value.int .i64) fun dG=>Ld PQ (.add ⟨z2.heap.size,0,none⟩ 2) (Value.int .i64) fun H9=>Ld PQ (.add ⟨z2.heap.size,0,none⟩ 3) (Value.int .i64) fun JK=>Ld PQ (.add ⟨z2.heap.size,0,none⟩ 4) Value.string fun cV=>R (NL,dG,H9,JK,cV) AAE PQ) (0<=(0:Int)/\(0:Int)<((oo).size:Nat)/\Nw z93 (.cells #[.int .u8 (BX oo 0)] 5) fun Cg=>Rn prog (Builtin.append_ #[61,61] 61 #[AA.v Qc.1,AA.v ⟨some ⟨z93.heap.size,0,none⟩,1,1⟩]) Cg AA.v fun Cf KU=>I75 (Cf,wrap .i64 ((wrap .i64 (Qc.2+2))+1)) KU)))) (Nw I1 (.cells #[.int .u8 (BX X9 Qc.2)] 5) fun Lh=>Rn prog (Builtin.append_ #[61,61] 61 #[AA.v Qc.1,AA.v ⟨some ⟨I1.heap.size,0,none⟩,1,1⟩]) Lh AA.v fun D3 HF=>I75 (D3,wrap .i64 (Qc.2+1)) HF)) (Ld I1 ⟨w.heap.size,0,none⟩ Value.string fun dL=>Ld I1 (.add ⟨w.heap.size,0,none⟩ 1) (Value.int .i64) fun KY=>Rn prog (convert 61 9 (AA.v Qc.1)) I1 Value.string fun KZ Di=>Kd (dL,KY) 4 r7 KZ 127 Di fun Ls tA NO=>St NO ⟨z2.heap.size,0,none⟩ (.int .i64 (Ls.1)) fun US=>St US (.add ⟨z2.heap.size,0,none⟩ 1) (.int .i64 (Ls.2.1)) fun PI=>St PI (.add ⟨z2.heap.size,0,none⟩ 2) (.int .i64 (Ls.2.2.1)) fun DQ=>St DQ (.add ⟨z2.heap.size,0,none⟩ 3) (.int .i64 (Ls.2.2.2.1)) fun PJ=>St PJ (.add ⟨z2.heap.size,0,none⟩ 4) (.string Ls.2.2.2.2) fun Ex=>Ld Ex ⟨z2.heap.size,0,none⟩ (Value.int .i64) fun KX=>Ld Ex (.add ⟨z2.heap.size,0,none⟩ 1) (Value.int .i64) fun Le=>Ld Ex (.add ⟨z2.heap.size,0,none⟩ 2) (Value.int .i64) fun JT=>Ld Ex (.add ⟨z2.heap.size,0,none⟩ 3) (Value.int .i64) fun LQ=>Ld Ex (.add ⟨z2.heap.size,0,none⟩ 4) Value.string fun O2=>R (KX,Le,JT,LQ,O2) tA Ex)
def tD (c1:ByteArray×Int)(w:World)(R:Q2 (Int×Int×Int×Int×ByteArray) Int):Prop:=Nw w (.cells #[.string c1.1,.int .i64 (c1.2)] 225) fun z2=>Nw z2 (.cells #[.int .i64 0,.int .i64 0,.int .i64 0,.int .i64 0,.string (⟨#[]⟩:cN)] 148) fun z3=>Ld z3 ⟨w.heap.size,0,none⟩ Value.string fun x4=>Ld z3 (.add ⟨w.heap.size,0,none⟩ 1) (Value.int .i64) fun x5=>Ld z3 (.add ⟨w.heap.size,0,none⟩ 1) (Value.int .i64) fun x6=>lP (x4,x5) (wrap .i64 (x6+1)) z3 fun r7 z8=>Ld z8 (.add ⟨w.heap.size,0,none⟩ 1) (Value.int .i64) fun YE=>Lp (σ:=AA×Int) (Ub w z2 r7 R) ((⟨none,0,0⟩:AA),wrap .i64 (YE+1)) z8
theorem AAm (c1 w R):tD c1 w R->lQ (c1.1,c1.2) w R:=O5 (.agg [(.int .i64),(.int .i64),(.int .i64),(.int .i64),.str]) oi (.q (.q (.q (.s (.q (.b (.o [(5,ol),(6,oi)] [1,2,4] (.s (.q (.c .l .l)) (.s (.b (.q (.s (.q (.c (.s (.q (.c (.q .l) .l)) (.q (.s (.q (.c (.q .l) .l)) (.q .r)))) .l)) .r))) .r))))) (.q .l))))) [.agg #[.string c1.1,.int .i64 (c1.2)]] Tryz.func182
def tE (c1:ByteArray×Int)(AK:Int)(w:World)(R:Q2 Int Bool):Prop:=Nw w (.cells #[.string c1.1,.int .i64 (c1.2)] 225) fun z3=>Ld z3 ⟨w.heap.size,0,none⟩ Value.string fun x4=>0<=AK/\AK<((x4).size:Nat)/\Br ((BX x4 AK)==13) (Ld z3 ⟨w.heap.size,0,none⟩ Value.string fun x5=>dw x5 AK z3 fun r6 z7=>R r6 true z7) (Ld z3 ⟨w.heap.size,0,none⟩ Value.string fun x8=>0<=AK/\AK<((x8).size:Nat)/\Br ((BX x8 AK)==10) (Ld z3 ⟨w.heap.size,0,none⟩ Value.string fun x9=>dw x9 AK z3 fun Nq D1=>R Nq true D1) (R AK false z3))
theorem AAn (c1 AK w R):tE c1 AK w R->dh (c1.1,c1.2) AK w R:=O5 oi ob (.q (.s (.q (.c (.q .l) .l)) (.q .l))) [.agg #[.string c1.1,.int .i64 (c1.2)],.int .i64 AK] Tryz.func212
def HK (w:World)(AK:Int)(R:Q2 ByteArray Int)(s33:Int×Int)(JQ:World):Prop:=Br (decide (s33.2>AK)) (Nw JQ (.cells #[.int .u8 (wrap .u8 s33.1)] 5) fun Fm=>Rn prog (convert 61 9 (AA.v ⟨some ⟨JQ.heap.size,0,none⟩,1,1⟩)) Fm Value.string fun UU z40=>R UU s33.2 z40) (Ld JQ ⟨w.heap.size,0,none⟩ Value.string fun yU=>0<=(wrap .i64 (AK+1))/\(wrap .i64 (AK+1))<=(yU.size:Int)/\0<=AK/\AK<=(((wrap .i64 (AK+1)).toNat:Nat):Int)/\R (yU.extract ((AK).toNat) ((wrap .i64 (AK+1)).toNat)) (wrap .i64 (AK+1)) JQ)
def PS (w:World)(AK:Int)(YF:Q1 (Int×Int))(I45:Q1 (Int×Int))(NP:Int×Int)(FL:World):Prop:=Ld FL ⟨w.heap.size,0,none⟩ Value.string fun TU=>Br (decide (NP.2<(TU.size:Int))) (Br (decide (NP.2<(wrap .i64 (AK+3)))) (Ld FL ⟨w.heap.size,0,none⟩ Value.string fun QY=>0<=NP.2/\NP.2<((QY).size:Nat)/\Br (decide ((BX QY NP.2)>=48)) (Ld FL ⟨w.heap.size,0,none⟩ Value.string fun ji=>0<=NP.2/\NP.2<((ji).size:Nat)/\Br (decide ((BX ji NP.2)<=55)) (Ld FL ⟨w.heap.size,0,none⟩ Value.string fun oa=>0<=NP.2/\NP.2<((oa).size:Nat)/\Lt (wrap .i64 ((wrap .i64 (8*NP.1))+(wrap .i64 (wrap .u8 ((BX oa NP.2)-48))))) fun (x50:Int)=>I45 (x50,wrap .i64 (NP.2+1)) FL) (YF (NP.1,NP.2) FL)) (YF (NP.1,NP.2) FL)) (YF (NP.1,NP.2) FL)) (YF (NP.1,NP.2) FL)
def tF (c1:ByteArray×Int)(AK:Int)(w:World)(R:Q2 ByteArray Int):Prop:=Nw w (.cells #[.string c1.1,.int .i64 (c1.2)] 225) fun z3=>Ld z3 ⟨w.heap.size,0,none⟩ Value.string fun x8=>0<=AK/\AK<((x8).size:Nat)/\tG (⟨#[110,114,116,98,102]⟩:cN) (BX x8 AK) z3 fun r9 Ay=>Br (decide (r9>=0)) (0<=(wrap .i64 (r9+1))/\(wrap .i64 (r9+1))<=((((⟨#[10,13,9,8,12]⟩:cN)).size:Nat):Int)/\0<=r9/\r9<=(((wrap .i64 (r9+1)).toNat:Nat):Int)/\Lt ((⟨#[10,13,9,8,12]⟩:cN).extract ((r9).toNat) ((wrap .i64 (r9+1)).toNat)) fun (Cn:ByteArray)=>R Cn (wrap .i64 (AK+1)) Ay) (Ld Ay ⟨w.heap.size,0,none⟩ Value.string fun Dj=>Ld Ay (.add ⟨w.heap.size,0,none⟩ 1) (Value.int .i64) fun Ca=>dh (Dj,Ca) AK Ay fun Q7 D0 z21=>Br D0 (R (⟨#[]⟩:cN) Q7 z21) (As (HK w AK R) fun (YF:Q1 (Int×Int))=>Lp (σ:=Int×Int) (PS w AK YF) (0,AK) z21))
theorem AAo (c1 AK w R):tF c1 AK w R->lR (c1.1,c1.2) AK w R:=O5 os oi (.q (.s (.q (.q (.c (.q .l) .l))) (.s (.q (.q (.c (.q .l) .l))) (.q (.join [(9,oi),(10,oi)] [1,2] (.b (.o [(9,oi),(10,oi)] [1,2] (.s (.q (.c .l .l)) (.b (.q .r))))) (.s (.q (.c (.q .l) .l)) (.q .l))))))) [.agg #[.string c1.1,.int .i64 (c1.2)],.int .i64 AK] Tryz.func213
def Lu (w:World)(z2:World)(z3:World)(dx:Q1 (Int×Int))(R:Q2 (Int×Int×Int×Int×ByteArray) Int)(RL:Int×Int)(Gl:World):Prop:=Br (RL.1==0) (∃WD:World->Prop,WD Gl.drew/\AU WD ⟨w.heap.size,0,none⟩ Value.string fun H9=>AU WD (.add ⟨w.heap.size,0,none⟩ 1) (Value.int .i64) fun JK=>oS (some ⟨z3.heap.size,0,none⟩) Gl.drew fun Lv Cg=>WD Cg/\Kd (H9,JK) 3 (wrap .i64 (RL.2+1)) Lv 32767 Cg fun Xr AG9 Lh=>St Lh ⟨z2.heap.size,0,none⟩ (.int .i64 (Xr.1)) fun z124=>St z124 (.add ⟨z2.heap.size,0,none⟩ 1) (.int .i64 (Xr.2.1)) fun HF=>St HF (.add ⟨z2.heap.size,0,none⟩ 2) (.int .i64 (Xr.2.2.1)) fun JR=>St JR (.add ⟨z2.heap.size,0,none⟩ 3) (.int .i64 (Xr.2.2.2.1)) fun z127=>St z127 (.add ⟨z2.heap.size,0,none⟩ 4) (.string Xr.2.2.2.2) fun IA=>Ld IA ⟨z2.heap.size,0,none⟩ (Value.int .i64) fun dM=>Ld IA (.add ⟨z2.heap.size,0,none⟩ 1) (Value.int .i64) fun dN=>Ld IA (.add ⟨z2.heap.size,0,none⟩ 2) (Value.int .i64) fun O6=>Ld IA (.add ⟨z2.heap.size,0,none⟩ 3) (Value.int .i64) fun LZ=>Ld IA (.add ⟨z2.heap.size,0,none⟩ 4) Value.string fun UH=>R (dM,dN,O6,LZ,UH) AG9 IA) (Ld Gl ⟨w.heap.size,0,none⟩ Value.string fun RF=>0<=RL.2/\RL.2<((RF).size:Nat)/\Jz (some ⟨z3.heap.size,0,none⟩) (BX RF RL.2) Gl fun ARd PJ=>dx (RL.1,wrap .i64 (RL.2+1)) PJ)
def Uc (w:World)(z2:World)(z3:World)(R:Q2 (Int×Int×Int×Int×ByteArray) Int)(dx:Q1 (Int×Int))(Fy:Int×Int)(HH:World):Prop:=Ld HH ⟨w.heap.size,0,none⟩ Value.string fun Lq=>Br (decide (Fy.2<(Lq.size:Int))) (Ld HH ⟨w.heap.size,0,none⟩ Value.string fun FX=>Ld HH (.add ⟨w.heap.size,0,none⟩ 1) (Value.int .i64) fun Lf=>dh (FX,Lf) Fy.2 HH fun AAF tH Ce=>Br tH (Jz (some ⟨z3.heap.size,0,none⟩) 10 Ce fun ARe tC=>dx (Fy.1,AAF) tC) (As (Lu w z2 z3 dx R) fun (dy:Q1 (Int×Int))=>Ld Ce ⟨w.heap.size,0,none⟩ Value.string fun KX=>0<=Fy.2/\Fy.2<((KX).size:Nat)/\Br ((BX KX Fy.2)==92) (Ld Ce ⟨w.heap.size,0,none⟩ Value.string fun Le=>Br ((wrap .i64 (Fy.2+1))==(Le.size:Int)) (Fb 4 Ce fun Ud AHA Gk=>St Gk ⟨z2.heap.size,0,none⟩ (.int .i64 (Ud.1)) fun z143=>St z143 (.add ⟨z2.heap.size,0,none⟩ 1) (.int .i64 (Ud.2.1)) fun X3=>St X3 (.add ⟨z2.heap.size,0,none⟩ 2) (.int .i64 (Ud.2.2.1)) fun z145=>St z145 (.add ⟨z2.heap.size,0,none⟩ 3) (.int .i64 (Ud.2.2.2.1)) fun z146=>St z146 (.add ⟨z2.heap.size,0,none⟩ 4) (.string Ud.2.2.2.2) fun RG=>Ld RG ⟨z2.heap.size,0,none⟩ (Value.int .i64) fun JN=>Ld RG (.add ⟨z2.heap.size,0,none⟩ 1) (Value.int .i64) fun q7=>Ld RG (.add ⟨z2.heap.size,0,none⟩ 2) (Value.int .i64) fun dO=>Ld RG (.add ⟨z2.heap.size,0,none⟩ 3) (Value.int .i64) fun rA=>Ld RG (.add ⟨z2.heap.size,0,none⟩ 4) Value.string fun dP=>R (JN,q7,dO,rA,dP) AHA RG) (Ld Ce ⟨w.heap.size,0,none⟩ Value.string fun UK=>Ld Ce (.add ⟨w.heap.size,0,none⟩ 1) (Value.int .i64) fun PG=>lR (UK,PG) (wrap .i64 (Fy.2+1)) Ce fun AHB RI z157=>O0 (some ⟨z3.heap.size,0,none⟩) AHB z157 fun ARf ARg z160=>dx (Fy.1,RI) z160)) (Br ((BX KX Fy.2)==40) (dy (wrap .i64 (Fy.1+1),Fy.2) Ce) (Br ((BX KX Fy.2)==41) (dy (wrap .i64 (Fy.1-1),Fy.2) Ce) (dy (Fy.1,Fy.2) Ce))))) (Fb 4 HH fun eB HG JO=>St JO ⟨z2.heap.size,0,none⟩ (.int .i64 (eB.1)) fun z164=>St z164 (.add ⟨z2.heap.size,0,none⟩ 1) (.int .i64 (eB.2.1)) fun A5=>St A5 (.add ⟨z2.heap.size,0,none⟩ 2) (.int .i64 (eB.2.2.1)) fun UA=>St UA (.add ⟨z2.heap.size,0,none⟩ 3) (.int .i64 (eB.2.2.2.1)) fun z167=>St z167 (.add ⟨z2.heap.size,0,none⟩ 4) (.string eB.2.2.2.2) fun z168=>Ld z168 ⟨z2.heap.size,0,none⟩ (Value.int .i64) fun UO=>Ld z168 (.add ⟨z2.heap.size,0,none⟩ 1) (Value.int .i64) fun UP=>Ld z168 (.add ⟨z2.heap.size,0,none⟩ 2) (Value.int .i64) fun UQ=>Ld z168 (.add ⟨z2.heap.size,0,none⟩ 3) (Value.int .i64) fun dW=>Ld z168 (.add ⟨z2.heap.size,0,none⟩ 4) Value.string fun dX=>R (UO,UP,UQ,dW,dX) HG z168)
def tJ (c1:ByteArray×Int)(w:World)(R:Q2 (Int×Int×Int×Int×ByteArray) Int):Prop:=Nw w (.cells #[.string c1.1,.int .i64 (c1.2)] 225) fun z2=>Nw z2 (.cells #[.int .i64 0,.int .i64 0,.int .i64 0,.int .i64 0,.string (⟨#[]⟩:cN)] 148) fun z3=>Nw z3 (.cells #[.pointer none,AA.v ⟨none,0,0⟩] 63) fun z4=>Ld z4 (.add ⟨w.heap.size,0,none⟩ 1) (Value.int .i64) fun LY=>Lp (σ:=Int×Int) (Uc w z2 z3 R) (1,wrap .i64 (LY+1)) z4
theorem AAp (c1 w R):tJ c1 w R->lS (c1.1,c1.2) w R:=O5 (.agg [(.int .i64),(.int .i64),(.int .i64),(.int .i64),.str]) oi (.q (.q (.q (.s (.q (.b (.o [(5,oi),(6,oi)] [1,2,4] (.s (.q (.c .l .l)) (.b (.s (.q (.q (.c (.q (.q .l)) .l))) (.join [(5,oi),(6,oi)] [1,2,4] (.q (.q (.b (.q (.c (.s (.q (.c (.q .l) .l)) (.q (.q (.q .l)))) (.q (.c .r (.q (.c .r .l))))))))) (.s (.q (.c (.s (.A7 (.held [4] (.take 0 (.take 1 (.take 2 (.A4 3 none (.A4 4 (some [7]) (.take 5 (.take 6 (.A4 7 (some []) (.take 8 .done))))))))))) .l) .l)) (.q .r))))))))) (.q .l))))) [.agg #[.string c1.1,.int .i64 (c1.2)]] Tryz.func183
def lV (s1:ByteArray)(w:World)(R:Q1 Int):Prop:=sx s1 (⟨#[43,45]⟩:cN) w fun r2 z3=>Br (decide ((wrap .i64 ((s1.size:Int)-(r2.size:Int)))<=1)) (Br (!(r2.toList==(⟨#[]⟩:cN).toList)) (rJ r2 (⟨#[48,49,50,51,52,53,54,55,56,57]⟩:cN) z3 fun r6 z7=>Br (r6.toList==(⟨#[]⟩:cN).toList) (R 1 z7) (di s1 (⟨#[46]⟩:cN) z7 fun r8 z9=>Br r8 (R 2 z9) (R 0 z9))) (di s1 (⟨#[46]⟩:cN) z3 fun Nq D1=>Br Nq (R 2 D1) (R 0 D1))) (di s1 (⟨#[46]⟩:cN) z3 fun JV A6=>Br JV (R 2 A6) (R 0 A6))
theorem tK (s1 w R):lV s1 w R->dj s1 w R:=B2 oi (.q (.q (.s (.q (.c (.q .l) .l)) (.s (.q (.c (.q .l) .l)) (.q .l))))) [.string s1] Tryz.func214
def Ue (s1:ByteArray)(A6:World)(R:Q2 Int Int)(I17:Q1 Int)(TY:Int)(Cu:World):Prop:=Nx Cu ⟨A6.heap.size,0,none⟩ (fun (i18:Int) (AHC:Int) (z20:World)=>Lt (wrap .i64 ((wrap .i64 (10*TY))+(wrap .i64 (wrap .i32 (AHC-48))))) fun (Kt:Int)=>I17 (if 2147483648<Kt then 2147483648 else Kt) z20) (Br (decide (TY>2147483647)) (R 0 2 Cu) (0<=(0:Int)/\(0:Int)<((s1).size:Nat)/\Br ((BX s1 0)==45) (R (wrap .i64 (0-TY)) 0 Cu) (R TY 0 Cu)))
def tL (s1:ByteArray)(w:World)(R:Q2 Int Int):Prop:=sx s1 (⟨#[43,45]⟩:cN) w fun JV A6=>Nw A6 (.stringIter JV 0) fun AM=>Lp (σ:=Int) (Ue s1 A6 R) 0 AM
theorem AAr (s1 w R):tL s1 w R->lT s1 w R:=O5 oi oi (.q (.q (.s (.q (.b (.o [(4,oi)] [0,9] (.q (.s (.c .l .l) (.b (.q .r))))))) (.s (.q (.c (.q .l) .l)) (.s (.q (.c .r .l)) (.q .l)))))) [.string s1] Tryz.func215
def lW (c1:ByteArray×Int)(w:World)(R:Q2 (Int×Int×Int×Int×ByteArray) Int):Prop:=Nw w (.cells #[.string c1.1,.int .i64 (c1.2)] 225) fun z2=>Nw z2 (.cells #[.int .i64 0,.int .i64 0,.int .i64 0,.int .i64 0,.string (⟨#[]⟩:cN)] 148) fun z3=>Ld z3 ⟨w.heap.size,0,none⟩ Value.string fun x4=>Ld z3 (.add ⟨w.heap.size,0,none⟩ 1) (Value.int .i64) fun x5=>Ld z3 (.add ⟨w.heap.size,0,none⟩ 1) (Value.int .i64) fun x6=>lP (x4,x5) x6 z3 fun r7 z8=>Ld z8 ⟨w.heap.size,0,none⟩ Value.string fun x9=>Ld z8 (.add ⟨w.heap.size,0,none⟩ 1) (Value.int .i64) fun DE=>0<=r7/\r7<=(x9.size:Int)/\0<=DE/\DE<=(r7.toNat:Int)/\dj (x9.extract ((DE).toNat) ((r7).toNat)) z8 fun yV PB=>Br (yV==1) (lT (x9.extract ((DE).toNat) ((r7).toNat)) PB fun eC r58 z59=>Br (r58 !=0) (Fb r58 z59 fun tM r61 kf=>St kf ⟨z2.heap.size,0,none⟩ (.int .i64 (tM.1)) fun O7=>St O7 (.add ⟨z2.heap.size,0,none⟩ 1) (.int .i64 (tM.2.1)) fun tN=>St tN (.add ⟨z2.heap.size,0,none⟩ 2) (.int .i64 (tM.2.2.1)) fun z65=>St z65 (.add ⟨z2.heap.size,0,none⟩ 3) (.int .i64 (tM.2.2.2.1)) fun HM=>St HM (.add ⟨z2.heap.size,0,none⟩ 4) (.string tM.2.2.2.2) fun KW=>Ld KW ⟨z2.heap.size,0,none⟩ (Value.int .i64) fun Uf=>Ld KW (.add ⟨z2.heap.size,0,none⟩ 1) (Value.int .i64) fun tP=>Ld KW (.add ⟨z2.heap.size,0,none⟩ 2) (Value.int .i64) fun tQ=>Ld KW (.add ⟨z2.heap.size,0,none⟩ 3) (Value.int .i64) fun tR=>Ld KW (.add ⟨z2.heap.size,0,none⟩ 4) Value.string fun YE=>R (Uf,tP,tQ,tR,YE) r61 KW) (Ld z59 (.add ⟨w.heap.size,0,none⟩ 1) (Value.int .i64) fun Ze=>St z59 ⟨z2.heap.size,0,none⟩ (.int .i64 1) fun I1=>St I1 (.add ⟨z2.heap.size,0,none⟩ 1) (.int .i64 Ze) fun z75=>St z75 (.add ⟨z2.heap.size,0,none⟩ 2) (.int .i64 r7) fun z76=>St z76 (.add ⟨z2.heap.size,0,none⟩ 3) (.int .i64 eC) fun Qa=>St Qa (.add ⟨z2.heap.size,0,none⟩ 4) (.string (⟨#[]⟩:cN)) fun Xz=>Ld Xz ⟨z2.heap.size,0,none⟩ (Value.int .i64) fun YG=>Ld Xz (.add ⟨z2.heap.size,0,none⟩ 1) (Value.int .i64) fun eE=>Ld Xz (.add ⟨z2.heap.size,0,none⟩ 2) (Value.int .i64) fun qt=>Ld Xz (.add ⟨z2.heap.size,0,none⟩ 3) (Value.int .i64) fun dE=>Ld Xz (.add ⟨z2.heap.size,0,none⟩ 4) Value.string fun UC=>R (YG,eE,qt,dE,UC) 0 Xz)) (Br (yV==2) (lD (x9.extract ((DE).toNat) ((r7).toNat)) PB fun r84 Ug ZY=>Br (Ug==0) (Ld ZY (.add ⟨w.heap.size,0,none⟩ 1) (Value.int .i64) fun TW=>St ZY ⟨z2.heap.size,0,none⟩ (.int .i64 2) fun O9=>St O9 (.add ⟨z2.heap.size,0,none⟩ 1) (.int .i64 TW) fun X1=>St X1 (.add ⟨z2.heap.size,0,none⟩ 2) (.int .i64 r7) fun ZV=>St ZV (.add ⟨z2.heap.size,0,none⟩ 3) (.int .i64 r84) fun z91=>St z91 (.add ⟨z2.heap.size,0,none⟩ 4) (.string (⟨#[]⟩:cN)) fun Ku=>Ld Ku ⟨z2.heap.size,0,none⟩ (Value.int .i64) fun UD=>Ld Ku (.add ⟨z2.heap.size,0,none⟩ 1) (Value.int .i64) fun UE=>Ld Ku (.add ⟨z2.heap.size,0,none⟩ 2) (Value.int .i64) fun UF=>Ld Ku (.add ⟨z2.heap.size,0,none⟩ 3) (Value.int .i64) fun qu=>Ld Ku (.add ⟨z2.heap.size,0,none⟩ 4) Value.string fun qV=>R (UD,UE,UF,qu,qV) 0 Ku) (Br (Ug==2) (Fb Ug ZY fun r98 r99 Gi=>St Gi ⟨z2.heap.size,0,none⟩ (.int .i64 (r98.1)) fun Cd=>St Cd (.add ⟨z2.heap.size,0,none⟩ 1) (.int .i64 (r98.2.1)) fun Fu=>St Fu (.add ⟨z2.heap.size,0,none⟩ 2) (.int .i64 (r98.2.2.1)) fun Ez=>St Ez (.add ⟨z2.heap.size,0,none⟩ 3) (.int .i64 (r98.2.2.2.1)) fun HH=>St HH (.add ⟨z2.heap.size,0,none⟩ 4) (.string r98.2.2.2.2) fun z105=>Ld z105 ⟨z2.heap.size,0,none⟩ (Value.int .i64) fun Lq=>Ld z105 (.add ⟨z2.heap.size,0,none⟩ 1) (Value.int .i64) fun FX=>Ld z105 (.add ⟨z2.heap.size,0,none⟩ 2) (Value.int .i64) fun Lf=>Ld z105 (.add ⟨z2.heap.size,0,none⟩ 3) (Value.int .i64) fun JU=>Ld z105 (.add ⟨z2.heap.size,0,none⟩ 4) Value.string fun Lg=>R (Lq,FX,Lf,JU,Lg) r99 z105) (Ld ZY ⟨w.heap.size,0,none⟩ Value.string fun PH=>Ld ZY (.add ⟨w.heap.size,0,none⟩ 1) (Value.int .i64) fun PC=>Kd (PH,PC) 5 r7 (x9.extract ((DE).toNat) ((r7).toNat)) 127 ZY fun Fw RW Gl=>St Gl ⟨z2.heap.size,0,none⟩ (.int .i64 (Fw.1)) fun z116=>St z116 (.add ⟨z2.heap.size,0,none⟩ 1) (.int .i64 (Fw.2.1)) fun z117=>St z117 (.add ⟨z2.heap.size,0,none⟩ 2) (.int .i64 (Fw.2.2.1)) fun NM=>St NM (.add ⟨z2.heap.size,0,none⟩ 3) (.int .i64 (Fw.2.2.2.1)) fun z119=>St z119 (.add ⟨z2.heap.size,0,none⟩ 4) (.string Fw.2.2.2.2) fun Cg=>Ld Cg ⟨z2.heap.size,0,none⟩ (Value.int .i64) fun Cf=>Ld Cg (.add ⟨z2.heap.size,0,none⟩ 1) (Value.int .i64) fun EY=>Ld Cg (.add ⟨z2.heap.size,0,none⟩ 2) (Value.int .i64) fun DR=>Ld Cg (.add ⟨z2.heap.size,0,none⟩ 3) (Value.int .i64) fun D3=>Ld Cg (.add ⟨z2.heap.size,0,none⟩ 4) Value.string fun EX=>R (Cf,EY,DR,D3,EX) RW Cg))) (Ld PB ⟨w.heap.size,0,none⟩ Value.string fun dL=>Ld PB (.add ⟨w.heap.size,0,none⟩ 1) (Value.int .i64) fun KY=>Kd (dL,KY) 5 r7 (x9.extract ((DE).toNat) ((r7).toNat)) 127 PB fun Ua AHD z130=>St z130 ⟨z2.heap.size,0,none⟩ (.int .i64 (Ua.1)) fun z131=>St z131 (.add ⟨z2.heap.size,0,none⟩ 1) (.int .i64 (Ua.2.1)) fun NO=>St NO (.add ⟨z2.heap.size,0,none⟩ 2) (.int .i64 (Ua.2.2.1)) fun US=>St US (.add ⟨z2.heap.size,0,none⟩ 3) (.int .i64 (Ua.2.2.2.1)) fun PI=>St PI (.add ⟨z2.heap.size,0,none⟩ 4) (.string Ua.2.2.2.2) fun DQ=>Ld DQ ⟨z2.heap.size,0,none⟩ (Value.int .i64) fun UI=>Ld DQ (.add ⟨z2.heap.size,0,none⟩ 1) (Value.int .i64) fun PF=>Ld DQ (.add ⟨z2.heap.size,0,none⟩ 2) (Value.int .i64) fun KX=>Ld DQ (.add ⟨z2.heap.size,0,none⟩ 3) (Value.int .i64) fun Le=>Ld DQ (.add ⟨z2.heap.size,0,none⟩ 4) Value.string fun JT=>R (UI,PF,KX,Le,JT) AHD DQ))
theorem tS (c1 w R):lW c1 w R->RV (c1.1,c1.2) w R:=O5 (.agg [(.int .i64),(.int .i64),(.int .i64),(.int .i64),.str]) oi (.q (.q (.q (.s (.q (.b (.q (.c (.q (.s (.q (.c (.q .l) .l)) (.q .l))) (.q (.c (.q (.q (.b (.q (.c (.q .l) (.q (.c (.q .l) .l))))))) .l)))))) (.q .l))))) [.agg #[.string c1.1,.int .i64 (c1.2)]] Tryz.func184
def Fz (w:World)(s1:ByteArray)(Gz:World)(r75:Bool)(Fc:Int)(R:Q2 (Int×Int×Int×Int×ByteArray) Int)(AHE:Bool)(Bn:World):Prop:=Br AHE (Ld Bn ⟨Gz.heap.size,0,none⟩ Value.string fun rE=>Ld Bn (.add ⟨Gz.heap.size,0,none⟩ 1) (Value.int .i64) fun rF=>YC (rE,rF) 1 Bn fun eF AHF JX=>St JX ⟨w.heap.size,0,none⟩ (.int .i64 (eF.1)) fun tT=>St tT (.add ⟨w.heap.size,0,none⟩ 1) (.int .i64 (eF.2.1)) fun tU=>St tU (.add ⟨w.heap.size,0,none⟩ 2) (.int .i64 (eF.2.2.1)) fun tV=>St tV (.add ⟨w.heap.size,0,none⟩ 3) (.int .i64 (eF.2.2.2.1)) fun tW=>St tW (.add ⟨w.heap.size,0,none⟩ 4) (.string eF.2.2.2.2) fun RX=>Ld RX ⟨w.heap.size,0,none⟩ (Value.int .i64) fun sU=>Ld RX (.add ⟨w.heap.size,0,none⟩ 1) (Value.int .i64) fun dY=>Ld RX (.add ⟨w.heap.size,0,none⟩ 2) (Value.int .i64) fun dZ=>Ld RX (.add ⟨w.heap.size,0,none⟩ 3) (Value.int .i64) fun tX=>Ld RX (.add ⟨w.heap.size,0,none⟩ 4) Value.string fun tY=>R (sU,dY,dZ,tX,tY) AHF RX) (Br ((BX s1 Fc)==60) (Br r75 (Ld Bn ⟨Gz.heap.size,0,none⟩ Value.string fun tZ=>Ld Bn (.add ⟨Gz.heap.size,0,none⟩ 1) (Value.int .i64) fun td=>YC (tZ,td) 2 Bn fun UW AHG AHH=>St AHH ⟨w.heap.size,0,none⟩ (.int .i64 (UW.1)) fun Fa=>St Fa (.add ⟨w.heap.size,0,none⟩ 1) (.int .i64 (UW.2.1)) fun z201=>St z201 (.add ⟨w.heap.size,0,none⟩ 2) (.int .i64 (UW.2.2.1)) fun AHI=>St AHI (.add ⟨w.heap.size,0,none⟩ 3) (.int .i64 (UW.2.2.2.1)) fun z203=>St z203 (.add ⟨w.heap.size,0,none⟩ 4) (.string UW.2.2.2.2) fun YH=>Ld YH ⟨w.heap.size,0,none⟩ (Value.int .i64) fun sW=>Ld YH (.add ⟨w.heap.size,0,none⟩ 1) (Value.int .i64) fun da=>Ld YH (.add ⟨w.heap.size,0,none⟩ 2) (Value.int .i64) fun UX=>Ld YH (.add ⟨w.heap.size,0,none⟩ 3) (Value.int .i64) fun AHJ=>Ld YH (.add ⟨w.heap.size,0,none⟩ 4) Value.string fun db=>R (sW,da,UX,AHJ,db) AHG YH) (Ld Bn ⟨Gz.heap.size,0,none⟩ Value.string fun AHK=>Ld Bn (.add ⟨Gz.heap.size,0,none⟩ 1) (Value.int .i64) fun dc=>sw (AHK,dc) Bn fun Uh AHL lX=>St lX ⟨w.heap.size,0,none⟩ (.int .i64 (Uh.1)) fun sX=>St sX (.add ⟨w.heap.size,0,none⟩ 1) (.int .i64 (Uh.2.1)) fun PU=>St PU (.add ⟨w.heap.size,0,none⟩ 2) (.int .i64 (Uh.2.2.1)) fun AHM=>St AHM (.add ⟨w.heap.size,0,none⟩ 3) (.int .i64 (Uh.2.2.2.1)) fun z218=>St z218 (.add ⟨w.heap.size,0,none⟩ 4) (.string Uh.2.2.2.2) fun YI=>Ld YI ⟨w.heap.size,0,none⟩ (Value.int .i64) fun AHN=>Ld YI (.add ⟨w.heap.size,0,none⟩ 1) (Value.int .i64) fun AHO=>Ld YI (.add ⟨w.heap.size,0,none⟩ 2) (Value.int .i64) fun AHP=>Ld YI (.add ⟨w.heap.size,0,none⟩ 3) (Value.int .i64) fun AHQ=>Ld YI (.add ⟨w.heap.size,0,none⟩ 4) Value.string fun AHR=>R (AHN,AHO,AHP,AHQ,AHR) AHL YI)) (Br ((BX s1 Fc)==62) (Br r75 (Ld Bn ⟨Gz.heap.size,0,none⟩ Value.string fun AHS=>Ld Bn (.add ⟨Gz.heap.size,0,none⟩ 1) (Value.int .i64) fun AHT=>YC (AHS,AHT) 2 Bn fun eH AHU z229=>St z229 ⟨w.heap.size,0,none⟩ (.int .i64 (eH.1)) fun AHV=>St AHV (.add ⟨w.heap.size,0,none⟩ 1) (.int .i64 (eH.2.1)) fun AHW=>St AHW (.add ⟨w.heap.size,0,none⟩ 2) (.int .i64 (eH.2.2.1)) fun z232=>St z232 (.add ⟨w.heap.size,0,none⟩ 3) (.int .i64 (eH.2.2.2.1)) fun z233=>St z233 (.add ⟨w.heap.size,0,none⟩ 4) (.string eH.2.2.2.2) fun z234=>Ld z234 ⟨w.heap.size,0,none⟩ (Value.int .i64) fun AHX=>Ld z234 (.add ⟨w.heap.size,0,none⟩ 1) (Value.int .i64) fun Ui=>Ld z234 (.add ⟨w.heap.size,0,none⟩ 2) (Value.int .i64) fun AHY=>Ld z234 (.add ⟨w.heap.size,0,none⟩ 3) (Value.int .i64) fun AHZ=>Ld z234 (.add ⟨w.heap.size,0,none⟩ 4) Value.string fun AHa=>R (AHX,Ui,AHY,AHZ,AHa) AHU z234) (Fb 3 Bn fun eI AHb te=>St te ⟨w.heap.size,0,none⟩ (.int .i64 (eI.1)) fun lY=>St lY (.add ⟨w.heap.size,0,none⟩ 1) (.int .i64 (eI.2.1)) fun AHc=>St AHc (.add ⟨w.heap.size,0,none⟩ 2) (.int .i64 (eI.2.2.1)) fun tf=>St tf (.add ⟨w.heap.size,0,none⟩ 3) (.int .i64 (eI.2.2.2.1)) fun AHd=>St AHd (.add ⟨w.heap.size,0,none⟩ 4) (.string eI.2.2.2.2) fun YJ=>Ld YJ ⟨w.heap.size,0,none⟩ (Value.int .i64) fun eJ=>Ld YJ (.add ⟨w.heap.size,0,none⟩ 1) (Value.int .i64) fun AHe=>Ld YJ (.add ⟨w.heap.size,0,none⟩ 2) (Value.int .i64) fun eK=>Ld YJ (.add ⟨w.heap.size,0,none⟩ 3) (Value.int .i64) fun AHf=>Ld YJ (.add ⟨w.heap.size,0,none⟩ 4) Value.string fun AHg=>R (eJ,AHe,eK,AHf,AHg) AHb YJ)) (Br ((BX s1 Fc)==47) (Ld Bn ⟨Gz.heap.size,0,none⟩ Value.string fun AHh=>Ld Bn (.add ⟨Gz.heap.size,0,none⟩ 1) (Value.int .i64) fun th=>lQ (AHh,th) Bn fun Uj AHi AHj=>St AHj ⟨w.heap.size,0,none⟩ (.int .i64 (Uj.1)) fun tj=>St tj (.add ⟨w.heap.size,0,none⟩ 1) (.int .i64 (Uj.2.1)) fun AHk=>St AHk (.add ⟨w.heap.size,0,none⟩ 2) (.int .i64 (Uj.2.2.1)) fun AHl=>St AHl (.add ⟨w.heap.size,0,none⟩ 3) (.int .i64 (Uj.2.2.2.1)) fun tm=>St tm (.add ⟨w.heap.size,0,none⟩ 4) (.string Uj.2.2.2.2) fun RY=>Ld RY ⟨w.heap.size,0,none⟩ (Value.int .i64) fun AHm=>Ld RY (.add ⟨w.heap.size,0,none⟩ 1) (Value.int .i64) fun AHn=>Ld RY (.add ⟨w.heap.size,0,none⟩ 2) (Value.int .i64) fun tp=>Ld RY (.add ⟨w.heap.size,0,none⟩ 3) (Value.int .i64) fun tq=>Ld RY (.add ⟨w.heap.size,0,none⟩ 4) Value.string fun tt=>R (AHm,AHn,tp,tq,tt) AHi RY) (Br ((BX s1 Fc)==40) (Ld Bn ⟨Gz.heap.size,0,none⟩ Value.string fun tu=>Ld Bn (.add ⟨Gz.heap.size,0,none⟩ 1) (Value.int .i64) fun tw=>lS (tu,tw) Bn fun eL AHo uA=>St uA ⟨w.heap.size,0,none⟩ (.int .i64 (eL.1)) fun AHp=>St AHp (.add ⟨w.heap.size,0,none⟩ 1) (.int .i64 (eL.2.1)) fun uB=>St uB (.add ⟨w.heap.size,0,none⟩ 2) (.int .i64 (eL.2.2.1)) fun AHq=>St AHq (.add ⟨w.heap.size,0,none⟩ 3) (.int .i64 (eL.2.2.2.1)) fun uC=>St uC (.add ⟨w.heap.size,0,none⟩ 4) (.string eL.2.2.2.2) fun RZ=>Ld RZ ⟨w.heap.size,0,none⟩ (Value.int .i64) fun uD=>Ld RZ (.add ⟨w.heap.size,0,none⟩ 1) (Value.int .i64) fun uE=>Ld RZ (.add ⟨w.heap.size,0,none⟩ 2) (Value.int .i64) fun AHr=>Ld RZ (.add ⟨w.heap.size,0,none⟩ 3) (Value.int .i64) fun uF=>Ld RZ (.add ⟨w.heap.size,0,none⟩ 4) Value.string fun AHs=>R (uD,uE,AHr,uF,AHs) AHo RZ) (Br ((BX s1 Fc)==41) (Fb 3 Bn fun eM AHt AHu=>St AHu ⟨w.heap.size,0,none⟩ (.int .i64 (eM.1)) fun uG=>St uG (.add ⟨w.heap.size,0,none⟩ 1) (.int .i64 (eM.2.1)) fun uH=>St uH (.add ⟨w.heap.size,0,none⟩ 2) (.int .i64 (eM.2.2.1)) fun uI=>St uI (.add ⟨w.heap.size,0,none⟩ 3) (.int .i64 (eM.2.2.2.1)) fun AHv=>St AHv (.add ⟨w.heap.size,0,none⟩ 4) (.string eM.2.2.2.2) fun YK=>Ld YK ⟨w.heap.size,0,none⟩ (Value.int .i64) fun uJ=>Ld YK (.add ⟨w.heap.size,0,none⟩ 1) (Value.int .i64) fun AHw=>Ld YK (.add ⟨w.heap.size,0,none⟩ 2) (Value.int .i64) fun uK=>Ld YK (.add ⟨w.heap.size,0,none⟩ 3) (Value.int .i64) fun AHx=>Ld YK (.add ⟨w.heap.size,0,none⟩ 4) Value.string fun uL=>R (uJ,AHw,uK,AHx,uL) AHt YK) (Ld Bn ⟨Gz.heap.size,0,none⟩ Value.string fun AHy=>Ld Bn (.add ⟨Gz.heap.size,0,none⟩ 1) (Value.int .i64) fun uM=>RV (AHy,uM) Bn fun eN AHz AH0=>St AH0 ⟨w.heap.size,0,none⟩ (.int .i64 (eN.1)) fun AH1=>St AH1 (.add ⟨w.heap.size,0,none⟩ 1) (.int .i64 (eN.2.1)) fun uN=>St uN (.add ⟨w.heap.size,0,none⟩ 2) (.int .i64 (eN.2.2.1)) fun AH2=>St AH2 (.add ⟨w.heap.size,0,none⟩ 3) (.int .i64 (eN.2.2.2.1)) fun uO=>St uO (.add ⟨w.heap.size,0,none⟩ 4) (.string eN.2.2.2.2) fun YL=>Ld YL ⟨w.heap.size,0,none⟩ (Value.int .i64) fun AH3=>Ld YL (.add ⟨w.heap.size,0,none⟩ 1) (Value.int .i64) fun uP=>Ld YL (.add ⟨w.heap.size,0,none⟩ 2) (Value.int .i64) fun AH4=>Ld YL (.add ⟨w.heap.size,0,none⟩ 3) (Value.int .i64) fun AH5=>Ld YL (.add ⟨w.heap.size,0,none⟩ 4) Value.string fun AH6=>R (AH3,uP,AH4,AH5,AH6) AHz YL))))))
def uQ (s1:ByteArray)(AK:Int)(w:World)(R:Q2 (Int×Int×Int×Int×ByteArray) Int):Prop:=Nw w (.cells #[.int .i64 0,.int .i64 0,.int .i64 0,.int .i64 0,.string (⟨#[]⟩:cN)] 148) fun z3=>Br (decide (AK<0)) (Fb 1 z3 fun D0 V8 GP=>St GP ⟨w.heap.size,0,none⟩ (.int .i64 (D0.1)) fun Cb=>St Cb (.add ⟨w.heap.size,0,none⟩ 1) (.int .i64 (D0.2.1)) fun z24=>St z24 (.add ⟨w.heap.size,0,none⟩ 2) (.int .i64 (D0.2.2.1)) fun Fl=>St Fl (.add ⟨w.heap.size,0,none⟩ 3) (.int .i64 (D0.2.2.2.1)) fun Cx=>St Cx (.add ⟨w.heap.size,0,none⟩ 4) (.string D0.2.2.2.2) fun Dk=>Ld Dk ⟨w.heap.size,0,none⟩ (Value.int .i64) fun KT=>Ld Dk (.add ⟨w.heap.size,0,none⟩ 1) (Value.int .i64) fun M7=>Ld Dk (.add ⟨w.heap.size,0,none⟩ 2) (Value.int .i64) fun RH=>Ld Dk (.add ⟨w.heap.size,0,none⟩ 3) (Value.int .i64) fun PA=>Ld Dk (.add ⟨w.heap.size,0,none⟩ 4) Value.string fun IC=>R (KT,M7,RH,PA,IC) V8 Dk) (Br (decide (AK>(s1.size:Int))) (Fb 1 z3 fun eO Qd Kv=>St Kv ⟨w.heap.size,0,none⟩ (.int .i64 (eO.1)) fun ZX=>St ZX (.add ⟨w.heap.size,0,none⟩ 1) (.int .i64 (eO.2.1)) fun z37=>St z37 (.add ⟨w.heap.size,0,none⟩ 2) (.int .i64 (eO.2.2.1)) fun Fm=>St Fm (.add ⟨w.heap.size,0,none⟩ 3) (.int .i64 (eO.2.2.2.1)) fun ET=>St ET (.add ⟨w.heap.size,0,none⟩ 4) (.string eO.2.2.2.2) fun z40=>Ld z40 ⟨w.heap.size,0,none⟩ (Value.int .i64) fun yU=>Ld z40 (.add ⟨w.heap.size,0,none⟩ 1) (Value.int .i64) fun kj=>Ld z40 (.add ⟨w.heap.size,0,none⟩ 2) (Value.int .i64) fun uR=>Ld z40 (.add ⟨w.heap.size,0,none⟩ 3) (Value.int .i64) fun eQ=>Ld z40 (.add ⟨w.heap.size,0,none⟩ 4) Value.string fun RD=>R (yU,kj,uR,eQ,RD) Qd z40) (uS s1 AK z3 fun kO Gz=>Nw Gz (.cells #[.string (⟨#[]⟩:cN),.int .i64 0] 225) fun UB=>St UB ⟨Gz.heap.size,0,none⟩ (.string s1) fun z49=>St z49 (.add ⟨Gz.heap.size,0,none⟩ 1) (.int .i64 kO) fun B5=>Ld B5 (.add ⟨Gz.heap.size,0,none⟩ 1) (Value.int .i64) fun ql=>Br (ql==(s1.size:Int)) (Ld B5 (.add ⟨Gz.heap.size,0,none⟩ 1) (Value.int .i64) fun x60=>Ld B5 (.add ⟨Gz.heap.size,0,none⟩ 1) (Value.int .i64) fun Xy=>St B5 ⟨w.heap.size,0,none⟩ (.int .i64 0) fun kf=>St kf (.add ⟨w.heap.size,0,none⟩ 1) (.int .i64 x60) fun O7=>St O7 (.add ⟨w.heap.size,0,none⟩ 2) (.int .i64 Xy) fun tN=>St tN (.add ⟨w.heap.size,0,none⟩ 3) (.int .i64 0) fun z65=>St z65 (.add ⟨w.heap.size,0,none⟩ 4) (.string (⟨#[]⟩:cN)) fun HM=>Ld HM ⟨w.heap.size,0,none⟩ (Value.int .i64) fun x67=>Ld HM (.add ⟨w.heap.size,0,none⟩ 1) (Value.int .i64) fun Uf=>Ld HM (.add ⟨w.heap.size,0,none⟩ 2) (Value.int .i64) fun tP=>Ld HM (.add ⟨w.heap.size,0,none⟩ 3) (Value.int .i64) fun tQ=>Ld HM (.add ⟨w.heap.size,0,none⟩ 4) Value.string fun tR=>R (x67,Uf,tP,tQ,tR) 0 HM) (Ld B5.drew (.add ⟨Gz.heap.size,0,none⟩ 1) (Value.int .i64) fun YE=>Ld B5.drew (.add ⟨Gz.heap.size,0,none⟩ 1) (Value.int .i64) fun Ze=>0<=(wrap .i64 (Ze+1))/\(wrap .i64 (Ze+1))<=(s1.size:Int)/\0<=YE/\YE<=(((wrap .i64 (Ze+1)).toNat:Nat):Int)/\Ld B5.drew (.add ⟨Gz.heap.size,0,none⟩ 1) (Value.int .i64) fun uT=>lZ s1 (s1.extract ((YE).toNat) ((wrap .i64 (Ze+1)).toNat)) (wrap .i64 (uT+1)) B5.drew fun r75 z76=>Ld z76 (.add ⟨Gz.heap.size,0,none⟩ 1) (Value.int .i64) fun Fc=>0<=Fc/\Fc<((s1).size:Nat)/\As (Fz w s1 Gz r75 Fc R) fun (WE:Q1 Bool)=>Br ((BX s1 Fc)==91) (WE ((BX s1 Fc)==91) z76) (Br ((BX s1 Fc)==93) (WE ((BX s1 Fc)==93) z76) (Br ((BX s1 Fc)==123) (WE ((BX s1 Fc)==123) z76) (WE ((BX s1 Fc)==125) z76))))))
theorem AAv (s1 AK w R):uQ s1 AK w R->FW s1 AK w R:=O5 (.agg [(.int .i64),(.int .i64),(.int .i64),(.int .i64),.str]) oi (.q (.s (.q (.c (.q .l) .l)) (.q (.s (.q (.c (.q .l) .l)) (.s (.A7 (.tail 11)) (.s (.q (.b (.join [(50,ob)] [4,6,7,49] (.q (.c .l (.q (.c .l (.q (.c .l .r)))))) (.c (.q .l) (.q (.c (.s (.q (.c (.q .l) .l)) (.q .l)) (.q (.c (.s (.q (.c (.q .l) .l)) (.q .l)) (.q (.c (.q .l) (.q (.c (.q .l) (.q (.c (.q .l) .l)))))))))))))) (.q .l))))))) [.string s1,.int .i64 AK] Tryz.func142
end
section
open Sh
def C43 (i1:Int)(ABP:Int):=P1 Value.string 43 #[.int .i64 i1,.int .i64 ABP]
def qY (n1:Int):=P2 Value.string vi 22 #[.int .i64 n1]
def ur (b1:Option Addr)(c2:Int):=K0 131 #[.pointer b1,.int .u8 c2]
def uu (b1:Option Addr)(c2:Int):=K0 165 #[.pointer b1,.int .u8 c2]
def uv (b1:Option Addr)(n2:Int):=P0 166 #[.pointer b1,.int .i64 n2]
def YQ (CA:ByteArray)(s2:ByteArray)(CS:ByteArray)(ABQ:Value):=P1 Value.string 130 #[.string CA,.string s2,.string CS,ABQ]
def uw (s1:ByteArray):=P2 Value.string vi 129 #[.string s1]
def C84 (s1:ByteArray):=P2 Value.string vi 84 #[.string s1]
def C20 (Dn:AA):=K1 Value.string 20 #[AA.v Dn]
def S22 (n1:Int)(w:World)(R:Q2 ByteArray Int)(PR:Q1 Value):Prop:=Br (decide (n1<(-2147483647))) (R (⟨#[]⟩:cN) 2 w) (Br (decide (n1>2147483647)) (R (⟨#[]⟩:cN) 2 w) (C43 n1 10 w (fun r2 z3=>R r2 0 z3) PR))
theorem T22 (n1 w R PR):S22 n1 w R PR->qY n1 w R PR:=qS os oi (.q (.s (.q (.c (.q .l) .l)) (.q .l))) [.int .i64 n1] Tryz.func22
def ABR (b1:Option Addr)(c2:Int)(w:World)(R:Q0):Prop:=Br (decide (c2>32)) (Br (decide (c2<=126)) (Br (c2 !=35) (C70 c2 w fun r7 z8=>Br (!r7) (Jz b1 c2 z8 fun r9 Ay=>R Ay) (Nw z8 (.cells #[.int .u8 c2] 5) fun D1=>Rn prog (convert 61 9 (AA.v ⟨some ⟨z8.heap.size,0,none⟩,1,1⟩)) D1 Value.string fun FI A6=>Uk FI A6 fun TV Db=>((((⟨#[35]⟩:cN)).size+(TV).size:Nat):Int)<=IntKind.i64.max/\O0 b1 ((⟨#[35]⟩:cN)++TV) Db fun D2 ZW Cc=>R Cc)) (Nw w (.cells #[.int .u8 c2] 5) fun Bm=>Rn prog (convert 61 9 (AA.v ⟨some ⟨w.heap.size,0,none⟩,1,1⟩)) Bm Value.string fun Ew z21=>Uk Ew z21 fun EW Cb=>((((⟨#[35]⟩:cN)).size+(EW).size:Nat):Int)<=IntKind.i64.max/\O0 b1 ((⟨#[35]⟩:cN)++EW) Cb fun ky yO Cx=>R Cx)) (Nw w (.cells #[.int .u8 c2] 5) fun Dk=>Rn prog (convert 61 9 (AA.v ⟨some ⟨w.heap.size,0,none⟩,1,1⟩)) Dk Value.string fun KT M9=>Uk KT M9 fun TR z31=>((((⟨#[35]⟩:cN)).size+(TR).size:Nat):Int)<=IntKind.i64.max/\O0 b1 ((⟨#[35]⟩:cN)++TR) z31 fun qz eO JQ=>R JQ)) (Nw w (.cells #[.int .u8 c2] 5) fun Kv=>Rn prog (convert 61 9 (AA.v ⟨some ⟨w.heap.size,0,none⟩,1,1⟩)) Kv Value.string fun Lc z37=>Uk Lc z37 fun jg ET=>((((⟨#[35]⟩:cN)).size+(jg).size:Nat):Int)<=IntKind.i64.max/\O0 b1 ((⟨#[35]⟩:cN)++jg) ET fun qZ r41 Q9=>R Q9)
theorem AIX (b1 c2 w R):ABR b1 c2 w R->ur b1 c2 w R:=mk0 (.s (.q (.c (.q .l) .l)) .r) [.pointer b1,.int .u8 c2] Tryz.func131
def ux (b1:Option Addr)(c2:Int)(R:Q0)(I19:Q1 Int)(Qe:Int)(Cc:World):Prop:=Br (decide (Qe<3)) (0<=Qe/\Qe<(3:Nat)/\∃Ew:Int,(#[.int .u8 64,.int .u8 8,.int .u8 1]:Array Value)[(Qe).toNat*1]?=some (.int .u8 Ew)/\Ew≠0/\Jz b1 (wrap .u8 (48+(Int.tmod (wrap .u8 (Int.tdiv c2 Ew)) 8))) Cc fun V8 GP=>I19 (wrap .i64 (Qe+1)) GP) (R Cc)
def uy (b1:Option Addr)(c2:Int)(R:Q0)(I27:Q1 Int)(uz:Int)(Cx:World):Prop:=Br (decide (uz<3)) (0<=uz/\uz<(3:Nat)/\∃KT:Int,(#[.int .u8 64,.int .u8 8,.int .u8 1]:Array Value)[(uz).toNat*1]?=some (.int .u8 KT)/\KT≠0/\Jz b1 (wrap .u8 (48+(Int.tmod (wrap .u8 (Int.tdiv c2 KT)) 8))) Cx fun r29 FK=>I27 (wrap .i64 (uz+1)) FK) (R Cx)
def ABS (b1:Option Addr)(c2:Int)(w:World)(R:Q0):Prop:=Br (c2==40) (Jz b1 92 w fun r3 z4=>Jz b1 c2 z4 fun r5 z6=>R z6) (Br (c2==41) (Jz b1 92 w fun r7 z8=>Jz b1 c2 z8 fun r9 Ay=>R Ay) (Br (c2==92) (Jz b1 92 w fun ya z12=>Jz b1 c2 z12 fun r13 AM=>R AM) (Br (decide (c2<32)) (Jz b1 92 w fun oe Cu=>Lp (σ:=Int) (ux b1 c2 R) 0 Cu) (Br (decide (c2>126)) (Jz b1 92 w fun DK z24=>Lp (σ:=Int) (uy b1 c2 R) 0 z24) (Jz b1 c2 w fun og GQ=>R GQ)))))
theorem AIZ (b1 c2 w R):ABS b1 c2 w R->uu b1 c2 w R:=mk0 (.b (.q (.c (.q .r) (.q (.c (.q (.q (.b (.o [(35,oi)] [0,1,34] (.q (.s (.c .l .l) (.s (.b (.q .r)) .r))))))) .r))))) [.pointer b1,.int .u8 c2] Tryz.func165
def J6 (w:World)(s2:ByteArray)(CS:ByteArray)(R:Q1 ByteArray)(I17:Q1 Int)(TY:Int)(Cu:World):Prop:=Br (decide (TY<(s2.size:Int))) (0<=TY/\TY<((s2).size:Nat)/\uu (some ⟨w.heap.size,0,none⟩) (BX s2 TY) Cu fun Cc=>I17 (wrap .i64 (TY+1)) Cc) (O0 (some ⟨w.heap.size,0,none⟩) CS Cu fun Q7 D0 z21=>oS (some ⟨w.heap.size,0,none⟩) z21 fun EW Cb=>R EW Cb)
def Ns (CA:ByteArray)(s2:ByteArray)(CS:ByteArray)(w:World)(R:Q1 ByteArray)(PR:Q1 Value):Prop:=Nw w (.cells #[.pointer none,AA.v ⟨none,0,0⟩] 63) fun z5=>Lt (wrap .i64 ((wrap .i64 ((CA.size:Int)+(s2.size:Int)))+(CS.size:Int))) fun (x6:Int)=>uv (some ⟨w.heap.size,0,none⟩) x6 z5 (fun z7=>O0 (some ⟨w.heap.size,0,none⟩) CA z7 fun r8 r9 Ay=>Lp (σ:=Int) (J6 w s2 CS R) 0 Ay) PR
theorem YR (CA s2 CS w R PR):Ns CA s2 CS w R PR->YQ CA s2 CS (.func (.func 165) #[] #[]) w R PR:=Nl os (.q (.q (.q (.q (.s (.q (.b (.o [(24,oi)] [1,2,3,9,23] (.q (.s (.c .l .l) (.s (.b (.q .r)) .r)))))) (.q (.q .l))))))) [.string CA,.string s2,.string CS,.func (.func 165) #[] #[]] Tryz.func130
def J7 (w:World)(s2:ByteArray)(CS:ByteArray)(R:Q1 ByteArray)(I17:Q1 Int)(TY:Int)(Cu:World):Prop:=Br (decide (TY<(s2.size:Int))) (0<=TY/\TY<((s2).size:Nat)/\ur (some ⟨w.heap.size,0,none⟩) (BX s2 TY) Cu fun Cc=>I17 (wrap .i64 (TY+1)) Cc) (O0 (some ⟨w.heap.size,0,none⟩) CS Cu fun Q7 D0 z21=>oS (some ⟨w.heap.size,0,none⟩) z21 fun EW Cb=>R EW Cb)
def Nt (CA:ByteArray)(s2:ByteArray)(CS:ByteArray)(w:World)(R:Q1 ByteArray)(PR:Q1 Value):Prop:=Nw w (.cells #[.pointer none,AA.v ⟨none,0,0⟩] 63) fun z5=>Lt (wrap .i64 ((wrap .i64 ((CA.size:Int)+(s2.size:Int)))+(CS.size:Int))) fun (x6:Int)=>uv (some ⟨w.heap.size,0,none⟩) x6 z5 (fun z7=>O0 (some ⟨w.heap.size,0,none⟩) CA z7 fun r8 r9 Ay=>Lp (σ:=Int) (J7 w s2 CS R) 0 Ay) PR
theorem YS (CA s2 CS w R PR):Nt CA s2 CS w R PR->YQ CA s2 CS (.func (.func 131) #[] #[]) w R PR:=Nl os (.q (.q (.q (.q (.s (.q (.b (.o [(24,oi)] [1,2,3,9,23] (.q (.s (.c .l .l) (.s (.b (.q .r)) .r)))))) (.q (.q .l))))))) [.string CA,.string s2,.string CS,.func (.func 131) #[] #[]] Tryz.func130
def ABT (s1:ByteArray)(w:World)(R:Q2 ByteArray Int)(PR:Q1 Value):Prop:=Br (decide ((s1.size:Int)>32767)) (R (⟨#[]⟩:cN) 5 w) (YQ (⟨#[40]⟩:cN) s1 (⟨#[41]⟩:cN) (.func (.func 165) #[] #[]) w (fun r2 z3=>R r2 0 z3) PR)
theorem AIa (s1 w R PR):ABT s1 w R PR->uw s1 w R PR:=qS os oi (.q (.s (.q (.c (.q .l) .l)) (.q .l))) [.string s1] Tryz.func129
def S84 (s1:ByteArray)(w:World)(R:Q2 ByteArray Int)(PR:Q1 Value):Prop:=Br (decide ((s1.size:Int)>127)) (R (⟨#[]⟩:cN) 5 w) (tG s1 0 w fun r2 z3=>Br (decide (r2>=0)) (R (⟨#[]⟩:cN) 3 z3) (YQ (⟨#[47]⟩:cN) s1 (⟨#[]⟩:cN) (.func (.func 131) #[] #[]) z3 (fun r4 z5=>R r4 0 z5) PR))
theorem T84 (s1 w R PR):S84 s1 w R PR->C84 s1 w R PR:=qS os oi (.q (.s (.b (.q (.c (.q .l) (.q (.c (.q .l) .l))))) (.q .l))) [.string s1] Tryz.func84
def WH (w:World)(s3:Int×Int)(I5:Q1 (Int×Int))(x7:ByteArray)(ln:Unit)(Bm:World):Prop:=O0 (some ⟨w.heap.size,0,none⟩) x7 Bm fun D0 V8 GP=>0<=(wrap .i64 ((x7.size:Int)-1))/\(wrap .i64 ((x7.size:Int)-1))<((x7).size:Nat)/\I5 (BX x7 (wrap .i64 ((x7.size:Int)-1)),wrap .i64 (s3.2+1)) GP
def ot (w:World)(Dn:AA)(R:Q1 ByteArray)(I5:Q1 (Int×Int))(s3:Int×Int)(z4:World):Prop:=Br (decide (s3.2<(Dn.len:Int))) (0<=s3.2/\s3.2<(Dn.len:Nat)/\Nn Dn.p fun a6=>Ld z4 (a6.add ((s3.2).toNat*1)) Value.string fun x7=>Br (x7.toList==(⟨#[]⟩:cN).toList) (I5 (s3.1,wrap .i64 (s3.2+1)) z4) (As (WH w s3 I5 x7) fun (eh:Q1 Unit)=>yT s3.1 z4 fun ky Fl=>Br ky (0<=(0:Int)/\(0:Int)<((x7).size:Nat)/\yT (BX x7 0) Fl fun u7 Dk=>Br u7 (Jz (some ⟨w.heap.size,0,none⟩) 32 Dk fun Tq M9=>eh () M9) (eh () Dk)) (Br (s3.1==47) (0<=(0:Int)/\(0:Int)<((x7).size:Nat)/\yT (BX x7 0) Fl fun TR z31=>Br TR (Jz (some ⟨w.heap.size,0,none⟩) 32 z31 fun qz Gh=>eh () Gh) (eh () z31)) (eh () Fl)))) (oS (some ⟨w.heap.size,0,none⟩) z4 fun Qd Kv=>R Qd Kv)
def S20 (Dn:AA)(w:World)(R:Q1 ByteArray):Prop:=Nw w (.cells #[.pointer none,AA.v ⟨none,0,0⟩] 63) fun z2=>Lp (σ:=Int×Int) (ot w Dn R) (32,0) z2
theorem T20 (Dn w R):S20 Dn w R->C20 Dn w R:=B2 os (.q (.q (.q (.s (.q (.b (.o [(4,(.one (.int .u8))),(9,oi)] [3,7,8] (.q (.s (.c .l .l) (.s (.b (.q (.s (.q (.c .l .l)) (.join [] [3,6,7,8,9] (.q (.c .r .l)) (.q .r))))) .r)))))) (.q .l))))) [AA.v Dn] Tryz.func20
end
section
open Sh
def AO (HO:Bool)(Hq:Int):=P0 110 #[.bool HO,.int .i64 Hq]
def vM (Bk:Int):=K2 (α:=Bool×Bool×Bool×Bool×Bool) (vA [.bool,.bool,.bool,.bool,.bool]) Value.bool 111 #[.int .i64 Bk]
def YU (n1:Int)(Az:Int)(Dp:Int):=K1 Value.bool 154 #[.int .i64 n1,.int .i64 Az,.int .i64 Dp]
def vN (n1:Int)(Az:Int)(Dp:Int):=K1 Value.bool 155 #[.int .i64 n1,.int .i64 Az,.int .i64 Dp]
def vO (o1:AG):=K1 Value.bool 112 #[.agg (Aj.cells AD o1).toArray]
def vP (o1:AG):=K1 Value.bool 113 #[.agg (Aj.cells AD o1).toArray]
def l4 (s1:ByteArray):=K1 Value.bool 114 #[.string s1]
def fD (o1:AG):=K1 Value.bool 115 #[.agg (Aj.cells AD o1).toArray]
def ye (o1:AG)(AQ:Int):=P0 68 #[.agg (Aj.cells AD o1).toArray,.int .i64 AQ]
def C67 (c1:Addr):=P0 67 #[.pointer (some c1)]
def WL (c1:Addr)(u:Option Value)(w:World)(R:Q0):Prop:=Cw prog 109 #[.pointer (some c1)] u w R
def C66 (AJR:Value):=K1 vi 66 #[AJR]
def yN (o1:AG):=P1 vi 39 #[.agg (Aj.cells AD o1).toArray]
def C44 (o1:AG):=K1 Value.bool 44 #[.agg (Aj.cells AD o1).toArray]
def C75 (x1:AG):=K1 (α:=AG) (vA AD) 75 #[.agg (Aj.cells AD x1).toArray]
def C76 (s1:AA):=K1 AA.v 76 #[AA.v s1]
def C74 (o1:AG)(AJU:Value):=K1 (α:=AG) (vA AD) 74 #[.agg (Aj.cells AD o1).toArray,AJU]
def C47 (o1:AG):=K1 (α:=AG) (vA AD) 47 #[.agg (Aj.cells AD o1).toArray]
def vQ (x1:ByteArray):=K1 Value.bool 161 #[.string x1]
def vS (x1:ByteArray)(y2:ByteArray):=K1 Value.bool 120 #[.string x1,.string y2]
def vT (x1:ByteArray):=K1 Value.bool 121 #[.string x1]
def C72 (x1:AA)(CT:ByteArray):=K2 vi Value.bool 72 #[AA.v x1,.string CT]
def C77 (s1:AA):=K1 AA.v 77 #[AA.v s1]
def C45 (o1:AG)(EJ:ByteArray):=P1 (α:=AG) (vA AD) 45 #[.agg (Aj.cells AD o1).toArray,.string EJ]
def C46 (o1:AG):=P2 (α:=AG) (vA AD) vi 46 #[.agg (Aj.cells AD o1).toArray]
def AJZ (s1:AA)(r2:Int):=K0 125 #[AA.v s1,.int .i64 r2]
def C78 (s1:AA)(i2:Int)(v3:AA):=K1 AA.v 78 #[AA.v s1,.int .i64 i2,AA.v v3]
def AJb (s1:AA)(r2:Int):=K0 127 #[AA.v s1,.int .i64 r2]
def C79 (s1:AA)(i2:Int)(v3:AA):=K1 AA.v 79 #[AA.v s1,.int .i64 i2,AA.v v3]
def C48 (o1:AG)(EJ:ByteArray)(v3:AG):=K1 (α:=AG) (vA AD) 48 #[.agg (Aj.cells AD o1).toArray,.string EJ,.agg (Aj.cells AD v3).toArray]
def ze (o1:AG)(EJ:ByteArray)(v3:AG):=P2 (α:=AG) (vA AD) vi 24 #[.agg (Aj.cells AD o1).toArray,.string EJ,.agg (Aj.cells AD v3).toArray]
def C25 (n1:Int):=K1 (α:=AG) (vA AD) 25 #[.int .i64 n1]
def ACG (HO:Bool)(Hq:Int)(w:World)(R:Q0)(PR:Q1 Value):Prop:=Br (!HO) (PR (.iface 154 (.agg #[.int .i64 Hq])) w) (R w)
theorem AJd (HO Hq w R PR):ACG HO Hq w R PR->AO HO Hq w R PR:=kb (.q (.c .r .l)) [.bool HO,.int .i64 Hq] Tryz.func110
def Uy (w:World)(Bk:Int)(R:Q2 (Bool×Bool×Bool×Bool×Bool) Bool)(uz:Bool)(Cx:World):Prop:=Br uz (St Cx ⟨w.heap.size,0,none⟩ (.bool false) fun Dk=>St Dk (.add ⟨w.heap.size,0,none⟩ 1) (.bool false) fun z28=>St z28 (.add ⟨w.heap.size,0,none⟩ 2) (.bool true) fun M9=>St M9 (.add ⟨w.heap.size,0,none⟩ 3) (.bool false) fun FK=>St FK (.add ⟨w.heap.size,0,none⟩ 4) (.bool false) fun z31=>Ld z31 ⟨w.heap.size,0,none⟩ Value.bool fun IC=>Ld z31 (.add ⟨w.heap.size,0,none⟩ 1) Value.bool fun NI=>Ld z31 (.add ⟨w.heap.size,0,none⟩ 2) Value.bool fun M8=>Ld z31 (.add ⟨w.heap.size,0,none⟩ 3) Value.bool fun RQ=>Ld z31 (.add ⟨w.heap.size,0,none⟩ 4) Value.bool fun Lc=>R (IC,NI,M8,RQ,Lc) true z31) (Br (Bk==6) (St Cx ⟨w.heap.size,0,none⟩ (.bool false) fun z37=>St z37 (.add ⟨w.heap.size,0,none⟩ 1) (.bool false) fun Fm=>St Fm (.add ⟨w.heap.size,0,none⟩ 2) (.bool false) fun ET=>St ET (.add ⟨w.heap.size,0,none⟩ 3) (.bool false) fun z40=>St z40 (.add ⟨w.heap.size,0,none⟩ 4) (.bool true) fun NK=>Ld NK ⟨w.heap.size,0,none⟩ Value.bool fun kj=>Ld NK (.add ⟨w.heap.size,0,none⟩ 1) Value.bool fun uR=>Ld NK (.add ⟨w.heap.size,0,none⟩ 2) Value.bool fun eQ=>Ld NK (.add ⟨w.heap.size,0,none⟩ 3) Value.bool fun RD=>Ld NK (.add ⟨w.heap.size,0,none⟩ 4) Value.bool fun TU=>R (kj,uR,eQ,RD,TU) true NK) (Br (Bk==7) (St Cx ⟨w.heap.size,0,none⟩ (.bool false) fun Gz=>St Gz (.add ⟨w.heap.size,0,none⟩ 1) (.bool false) fun UB=>St UB (.add ⟨w.heap.size,0,none⟩ 2) (.bool false) fun z49=>St z49 (.add ⟨w.heap.size,0,none⟩ 3) (.bool true) fun B5=>St B5 (.add ⟨w.heap.size,0,none⟩ 4) (.bool true) fun z51=>Ld z51 ⟨w.heap.size,0,none⟩ Value.bool fun kd=>Ld z51 (.add ⟨w.heap.size,0,none⟩ 1) Value.bool fun TS=>Ld z51 (.add ⟨w.heap.size,0,none⟩ 2) Value.bool fun Xt=>Ld z51 (.add ⟨w.heap.size,0,none⟩ 3) Value.bool fun ke=>Ld z51 (.add ⟨w.heap.size,0,none⟩ 4) Value.bool fun Xu=>R (kd,TS,Xt,ke,Xu) true z51) (Br (Bk==8) (St Cx ⟨w.heap.size,0,none⟩ (.bool true) fun RA=>St RA (.add ⟨w.heap.size,0,none⟩ 1) (.bool true) fun cX=>St cX (.add ⟨w.heap.size,0,none⟩ 2) (.bool false) fun z59=>St z59 (.add ⟨w.heap.size,0,none⟩ 3) (.bool false) fun IB=>St IB (.add ⟨w.heap.size,0,none⟩ 4) (.bool false) fun QX=>Ld QX ⟨w.heap.size,0,none⟩ Value.bool fun dD=>Ld QX (.add ⟨w.heap.size,0,none⟩ 1) Value.bool fun ZT=>Ld QX (.add ⟨w.heap.size,0,none⟩ 2) Value.bool fun ko=>Ld QX (.add ⟨w.heap.size,0,none⟩ 3) Value.bool fun jj=>Ld QX (.add ⟨w.heap.size,0,none⟩ 4) Value.bool fun kq=>R (dD,ZT,ko,jj,kq) true QX) (Br (Bk==9) (St Cx ⟨w.heap.size,0,none⟩ (.bool false) fun KW=>St KW (.add ⟨w.heap.size,0,none⟩ 1) (.bool false) fun QZ=>St QZ (.add ⟨w.heap.size,0,none⟩ 2) (.bool true) fun lk=>St lk (.add ⟨w.heap.size,0,none⟩ 3) (.bool true) fun z70=>St z70 (.add ⟨w.heap.size,0,none⟩ 4) (.bool true) fun O8=>Ld O8 ⟨w.heap.size,0,none⟩ Value.bool fun YE=>Ld O8 (.add ⟨w.heap.size,0,none⟩ 1) Value.bool fun Ze=>Ld O8 (.add ⟨w.heap.size,0,none⟩ 2) Value.bool fun uT=>Ld O8 (.add ⟨w.heap.size,0,none⟩ 3) Value.bool fun dT=>Ld O8 (.add ⟨w.heap.size,0,none⟩ 4) Value.bool fun X9=>R (YE,Ze,uT,dT,X9) true O8) (St Cx ⟨w.heap.size,0,none⟩ (.bool false) fun Qa=>St Qa (.add ⟨w.heap.size,0,none⟩ 1) (.bool false) fun Xz=>St Xz (.add ⟨w.heap.size,0,none⟩ 2) (.bool false) fun qp=>St qp (.add ⟨w.heap.size,0,none⟩ 3) (.bool false) fun z80=>St z80 (.add ⟨w.heap.size,0,none⟩ 4) (.bool false) fun Qb=>Ld Qb ⟨w.heap.size,0,none⟩ Value.bool fun dE=>Ld Qb (.add ⟨w.heap.size,0,none⟩ 1) Value.bool fun UC=>Ld Qb (.add ⟨w.heap.size,0,none⟩ 2) Value.bool fun X0=>Ld Qb (.add ⟨w.heap.size,0,none⟩ 3) Value.bool fun kt=>Ld Qb (.add ⟨w.heap.size,0,none⟩ 4) Value.bool fun ku=>R (dE,UC,X0,kt,ku) false Qb)))))
def Uz (w:World)(Bk:Int)(R:Q2 (Bool×Bool×Bool×Bool×Bool) Bool)(s13:Bool)(AM:World):Prop:=Br s13 (St AM ⟨w.heap.size,0,none⟩ (.bool true) fun Db=>St Db (.add ⟨w.heap.size,0,none⟩ 1) (.bool false) fun Cu=>St Cu (.add ⟨w.heap.size,0,none⟩ 2) (.bool false) fun EI=>St EI (.add ⟨w.heap.size,0,none⟩ 3) (.bool false) fun Cc=>St Cc (.add ⟨w.heap.size,0,none⟩ 4) (.bool false) fun Bm=>Ld Bm ⟨w.heap.size,0,none⟩ Value.bool fun Ew=>Ld Bm (.add ⟨w.heap.size,0,none⟩ 1) Value.bool fun Kt=>Ld Bm (.add ⟨w.heap.size,0,none⟩ 2) Value.bool fun Gy=>Ld Bm (.add ⟨w.heap.size,0,none⟩ 3) Value.bool fun LW=>Ld Bm (.add ⟨w.heap.size,0,none⟩ 4) Value.bool fun NH=>R (Ew,Kt,Gy,LW,NH) true Bm) (As (Uy w Bk R) fun (ACH:Q1 Bool)=>Br (Bk==4) (ACH (Bk==4) AM) (ACH (Bk==5) AM))
def ACI (Bk:Int)(w:World)(R:Q2 (Bool×Bool×Bool×Bool×Bool) Bool):Prop:=Nw w (.cells #[.bool false,.bool false,.bool false,.bool false,.bool false] 156) fun z2=>Br (Bk==0) (St z2 ⟨w.heap.size,0,none⟩ (.bool false) fun z3=>St z3 (.add ⟨w.heap.size,0,none⟩ 1) (.bool false) fun z4=>St z4 (.add ⟨w.heap.size,0,none⟩ 2) (.bool false) fun z5=>St z5 (.add ⟨w.heap.size,0,none⟩ 3) (.bool false) fun z6=>St z6 (.add ⟨w.heap.size,0,none⟩ 4) (.bool false) fun z7=>Ld z7 ⟨w.heap.size,0,none⟩ Value.bool fun x8=>Ld z7 (.add ⟨w.heap.size,0,none⟩ 1) Value.bool fun x9=>Ld z7 (.add ⟨w.heap.size,0,none⟩ 2) Value.bool fun DE=>Ld z7 (.add ⟨w.heap.size,0,none⟩ 3) Value.bool fun Cn=>Ld z7 (.add ⟨w.heap.size,0,none⟩ 4) Value.bool fun FI=>R (x8,x9,DE,Cn,FI) true z7) (As (Uz w Bk R) fun (vU:Q1 Bool)=>Br (Bk==1) (vU (Bk==1) z2) (Br (Bk==2) (vU (Bk==2) z2) (vU (Bk==3) z2)))
theorem AJe (Bk w R):ACI Bk w R->vM Bk w R:=O5 (.agg [.bool,.bool,.bool,.bool,.bool]) ob (.q (.s (.q (.b (.q (.c (.q .l) (.join [(8,ob)] [2,4] (.q (.c .l (.q (.c .l .r)))) (.c (.q .l) (.join [(13,ob)] [2,4] (.q (.c .l .r)) (.c (.q .l) (.q (.c (.q .l) (.q (.c (.q .l) (.q (.c (.q .l) (.q (.c (.q .l) .l)))))))))))))))) (.q .l))) [.int .i64 Bk] Tryz.func111
def ACJ (n1:Int)(Az:Int)(Dp:Int)(w:World)(R:Q1 Bool):Prop:=Br (decide (Az<=n1)) (R (decide (n1<=Dp)) w) (R false w)
theorem AJf (n1 Az Dp w R):ACJ n1 Az Dp w R->YU n1 Az Dp w R:=B2 ob (.q (.q .l)) [.int .i64 n1,.int .i64 Az,.int .i64 Dp] Tryz.func154
def ACK (n1:Int)(Az:Int)(Dp:Int)(w:World)(R:Q1 Bool):Prop:=Br (decide (Az<=n1)) (R (decide (n1<=Dp)) w) (R false w)
theorem AJg (n1 Az Dp w R):ACK n1 Az Dp w R->vN n1 Az Dp w R:=B2 ob (.q (.q .l)) [.int .i64 n1,.int .i64 Az,.int .i64 Dp] Tryz.func155
def ACL (o1:AG)(w:World)(R:Q1 Bool):Prop:=Nw w (.cells (Aj.cells AD o1).toArray 26) fun z2=>Ld z2 ⟨w.heap.size,0,none⟩ (Value.int .i64) fun x3=>Br (x3==1) (Ld z2 (.add ⟨w.heap.size,0,none⟩ 1) (Value.int .i64) fun x4=>YU x4 0 1 z2 fun r5 z6=>R r5 z6) (Br (x3==2) (Ld z2 (.add ⟨w.heap.size,0,none⟩ 1) (Value.int .i64) fun x7=>YU x7 (-2147483647) 2147483647 z2 fun r8 z9=>R r8 z9) (Br (x3==3) (Ld z2 (.add ⟨w.heap.size,0,none⟩ 1) (Value.int .i64) fun DE=>YU DE (-1073741824) 1073741824 z2 fun ya z12=>R ya z12) (Br (x3==8) (Ld z2 (.add ⟨w.heap.size,0,none⟩ 1) (Value.int .i64) fun Gf=>YU Gf 1 8191 z2 fun TV Db=>Br TV (Ld Db (.add ⟨w.heap.size,0,none⟩ 2) (Value.int .i64) fun EK=>vN EK 0 65535 Db fun ZW Cc=>R ZW Cc) (R false Db)) (R true z2))))
theorem AJh (o1 w R):ACL o1 w R->vO o1 w R:=B2 ob (.q (.s (.q (.b (.q (.c (.q .l) (.q (.c (.q .l) (.q (.c (.q .l) (.q (.c (.q .l) .l)))))))))) (.q .l))) [.agg (Aj.cells AD o1).toArray] Tryz.func112
def ACN (o1:AG)(w:World)(R:Q1 Bool):Prop:=Nw w (.cells (Aj.cells AD o1).toArray 26) fun z2=>Ld z2 ⟨w.heap.size,0,none⟩ (Value.int .i64) fun x6=>Br (x6==4) (Ld z2 (.add ⟨w.heap.size,0,none⟩ 3) Value.string fun x7=>R (decide ((x7.size:Int)<=32767)) z2) (Br (x6==5) (Ld z2 (.add ⟨w.heap.size,0,none⟩ 3) Value.string fun x8=>R (decide ((x8.size:Int)<=127)) z2) (Ld z2 (.add ⟨w.heap.size,0,none⟩ 3) Value.string fun x9=>R (decide ((x9.size:Int)<=1048576)) z2))
theorem AJi (o1 w R):ACN o1 w R->vP o1 w R:=B2 ob (.q (.s (.q (.b (.q (.c (.q .l) (.q (.c (.q .l) .l)))))) (.q .l))) [.agg (Aj.cells AD o1).toArray] Tryz.func113
def ACO (s1:ByteArray)(w:World)(R:Q1 Bool):Prop:=Br (decide ((s1.size:Int)<=127)) (tG s1 0 w fun r2 z3=>R (decide (r2<0)) z3) (R false w)
theorem AJj (s1 w R):ACO s1 w R->l4 s1 w R:=B2 ob (.q (.q .l)) [.string s1] Tryz.func114
def fE (w:World)(x7:AA)(R:Q1 Bool)(yc:Q1 Int)(s8:Int)(z9:World):Prop:=Br (decide (s8<(x7.len:Int))) (0<=s8/\s8<(x7.len:Nat)/\Nn x7.p fun a11=>Ld z9 (a11.add ((s8).toNat*1)) Value.string fun FI=>l4 FI z9 fun r13 AM=>Br (!r13) (R false AM) (Br (decide (s8>0)) (Ld AM (.add ⟨w.heap.size,0,none⟩ 4) AA.v fun DD=>0<=(wrap .i64 (s8-1))/\(wrap .i64 (s8-1))<(DD.len:Nat)/\Nn DD.p fun a16=>Ld AM (a16.add ((wrap .i64 (s8-1)).toNat*1)) Value.string fun Dj=>Br (!(Op.bytesLess Dj.toList FI.toList)) (R false AM) (Ld AM ⟨w.heap.size,0,none⟩ (Value.int .i64) fun Ca=>Br (Ca==9) (Br (FI.toList==(⟨#[76,101,110,103,116,104]⟩:cN).toList) (R false AM) (Ld AM (.add ⟨w.heap.size,0,none⟩ 5) AA.v fun FJ=>0<=s8/\s8<(FJ.len:Nat)/\Nn FJ.p fun a20=>Ld AM (a20.add ((s8).toNat*6)) (Value.int .i64) fun Kt=>Br (Kt==0) (R false AM) (yc (wrap .i64 (s8+1)) AM))) (Ld AM (.add ⟨w.heap.size,0,none⟩ 5) AA.v fun Gy=>0<=s8/\s8<(Gy.len:Nat)/\Nn Gy.p fun yd=>Ld AM (yd.add ((s8).toNat*6)) (Value.int .i64) fun NH=>Br (NH==0) (R false AM) (yc (wrap .i64 (s8+1)) AM)))) (Ld AM ⟨w.heap.size,0,none⟩ (Value.int .i64) fun I0=>Br (I0==9) (Br (FI.toList==(⟨#[76,101,110,103,116,104]⟩:cN).toList) (R false AM) (Ld AM (.add ⟨w.heap.size,0,none⟩ 5) AA.v fun No=>0<=s8/\s8<(No.len:Nat)/\Nn No.p fun a27=>Ld AM (a27.add ((s8).toNat*6)) (Value.int .i64) fun KT=>Br (KT==0) (R false AM) (yc (wrap .i64 (s8+1)) AM))) (Ld AM (.add ⟨w.heap.size,0,none⟩ 5) AA.v fun M7=>0<=s8/\s8<(M7.len:Nat)/\Nn M7.p fun a30=>Ld AM (a30.add ((s8).toNat*6)) (Value.int .i64) fun PA=>Br (PA==0) (R false AM) (yc (wrap .i64 (s8+1)) AM))))) (R true z9)
def ACP (o1:AG)(w:World)(R:Q1 Bool):Prop:=Nw w (.cells (Aj.cells AD o1).toArray 26) fun z2=>Ld z2 (.add ⟨w.heap.size,0,none⟩ 4) AA.v fun x5=>Ld z2 (.add ⟨w.heap.size,0,none⟩ 5) AA.v fun x6=>Br ((x5.len:Int) !=(x6.len:Int)) (R false z2) (Ld z2 (.add ⟨w.heap.size,0,none⟩ 4) AA.v fun x7=>Lp (σ:=Int) (fE w x7 R) 0 z2)
theorem AJk (o1 w R):ACP o1 w R->fD o1 w R:=B2 ob (.q (.s (.q (.c (.q .l) .l)) (.s (.q (.b (.o [(15,oi)] [1,13,14] (.q (.s (.c .l .l) (.s (.b (.q (.q (.c (.q .l) .l)))) .r)))))) (.q .l)))) [.agg (Aj.cells AD o1).toArray] Tryz.func115
def o5 (AQ:Int)(Ui:AA)(R:Q0)(PR:Q1 Value)(AJl:Q1 Int)(fF:Int)(fG:World):Prop:=Br (decide (fF<(Ui.len:Int))) (0<=fF/\fF<(Ui.len:Nat)/\Nn Ui.p fun AJm=>Ae fG (AJm.add ((fF).toNat*6)) 0 AD fun AJn=>Nw fG (.cells #[.int .i64 0,.int .i64 0,.int .i64 0,.string (⟨#[]⟩:cN),AA.v ⟨none,0,0⟩,AA.v ⟨none,0,0⟩] 26) fun te=>Am ⟨fG.heap.size,0,none⟩ 0 AD AJn te fun lY=>Ae lY ⟨fG.heap.size,0,none⟩ 0 AD fun AJo=>ye AJo (wrap .i64 (AQ+1)) lY (fun tf=>AJl (wrap .i64 (fF+1)) tf) PR) (R fG)
def Nv (w:World)(AQ:Int)(R:Q0)(PR:Q1 Value)(ASN:Unit)(ACQ:World):Prop:=Ld ACQ (.add ⟨w.heap.size,0,none⟩ 5) AA.v fun Ui=>Lp (σ:=Int) (o5 AQ Ui R PR) 0 ACQ
def WM (w:World)(AQ:Int)(z8:World)(R:Q0)(PR:Q1 Value)(ASO:Unit)(z206:World):Prop:=Ae z206 ⟨w.heap.size,0,none⟩ 0 AD fun UX=>vO UX z206 fun AJp AJq=>AO AJp 2 AJq (fun z210=>Ae z210 ⟨w.heap.size,0,none⟩ 0 AD fun dc=>vP dc z210 fun Uh z213=>AO Uh 5 z213 (fun lX=>Ld lX (.add ⟨w.heap.size,0,none⟩ 5) AA.v fun AJr=>AO (decide ((AJr.len:Int)<=8191)) 6 lX (fun PU=>As (Nv w AQ R PR) fun (Ri:Q1 Unit)=>Ld PU ⟨w.heap.size,0,none⟩ (Value.int .i64) fun AJs=>Br (AJs !=5) (Ld PU (.add ⟨z8.heap.size,0,none⟩ 3) Value.bool fun eJ=>Br (!eJ) (AO true 3 PU (fun AJt=>Ri () AJt) PR) (Ae PU ⟨w.heap.size,0,none⟩ 0 AD fun eK=>fD eK PU fun vV AJu=>AO vV 3 AJu (fun AJv=>Ri () AJv) PR)) (Ld PU (.add ⟨w.heap.size,0,none⟩ 3) Value.string fun th=>l4 th PU fun Uj fH=>Br Uj (Ld fH (.add ⟨z8.heap.size,0,none⟩ 3) Value.bool fun AJw=>Br (!AJw) (AO true 3 fH (fun tj=>Ri () tj) PR) (Ae fH ⟨w.heap.size,0,none⟩ 0 AD fun AJx=>fD AJx fH fun AJy tm=>AO AJy 3 tm (fun RY=>Ri () RY) PR)) (AO false 3 fH (fun AJz=>Ri () AJz) PR))) PR) PR) PR
def S68 (o1:AG)(AQ:Int)(w:World)(R:Q0)(PR:Q1 Value):Prop:=Nw w (.cells (Aj.cells AD o1).toArray 26) fun z3=>AO (decide (AQ<=24)) 7 z3 (fun z4=>Ld z4 ⟨w.heap.size,0,none⟩ (Value.int .i64) fun x5=>vM x5 z4 fun r6 r7 z8=>Nw z8 (.cells #[.bool false,.bool false,.bool false,.bool false,.bool false] 156) fun z9=>St z9 ⟨z8.heap.size,0,none⟩ (.bool r6.1) fun Ay=>St Ay (.add ⟨z8.heap.size,0,none⟩ 1) (.bool r6.2.1) fun D1=>St D1 (.add ⟨z8.heap.size,0,none⟩ 2) (.bool r6.2.2.1) fun z12=>St z12 (.add ⟨z8.heap.size,0,none⟩ 3) (.bool r6.2.2.2.1) fun A6=>St A6 (.add ⟨z8.heap.size,0,none⟩ 4) (.bool r6.2.2.2.2) fun AM=>As (WM w AQ z8 R PR) fun (AJ:Q1 Unit)=>Br r7 (Ld AM ⟨z8.heap.size,0,none⟩ Value.bool fun tp=>Br tp (Ld AM (.add ⟨z8.heap.size,0,none⟩ 1) Value.bool fun tq=>Br tq (Ld AM (.add ⟨z8.heap.size,0,none⟩ 2) Value.bool fun tt=>Br tt (Ld AM (.add ⟨z8.heap.size,0,none⟩ 3) Value.bool fun tu=>Br tu (Ld AM (.add ⟨z8.heap.size,0,none⟩ 4) Value.bool fun tw=>Br tw (Br (AQ==1) (AO true 10 AM (fun AJ0=>AJ () AJ0) PR) (Ld AM ⟨w.heap.size,0,none⟩ (Value.int .i64) fun AJ1=>AO (AJ1 !=9) 10 AM (fun uA=>AJ () uA) PR)) (Ld AM (.add ⟨w.heap.size,0,none⟩ 5) AA.v fun AJ2=>Br ((AJ2.len:Int)==0) (Br (AQ==1) (AO true 10 AM (fun uB=>AJ () uB) PR) (Ld AM ⟨w.heap.size,0,none⟩ (Value.int .i64) fun AJ3=>AO (AJ3 !=9) 10 AM (fun uC=>AJ () uC) PR)) (AO false 10 AM (fun RZ=>AJ () RZ) PR))) (Ld AM (.add ⟨w.heap.size,0,none⟩ 4) AA.v fun uD=>Br ((uD.len:Int)==0) (Ld AM (.add ⟨z8.heap.size,0,none⟩ 4) Value.bool fun uE=>Br uE (Br (AQ==1) (AO true 10 AM (fun AJ4=>AJ () AJ4) PR) (Ld AM ⟨w.heap.size,0,none⟩ (Value.int .i64) fun uF=>AO (uF !=9) 10 AM (fun AJ5=>AJ () AJ5) PR)) (Ld AM (.add ⟨w.heap.size,0,none⟩ 5) AA.v fun AJ6=>Br ((AJ6.len:Int)==0) (Br (AQ==1) (AO true 10 AM (fun AJ7=>AJ () AJ7) PR) (Ld AM ⟨w.heap.size,0,none⟩ (Value.int .i64) fun AJ8=>AO (AJ8 !=9) 10 AM (fun uG=>AJ () uG) PR)) (AO false 10 AM (fun uH=>AJ () uH) PR))) (AO false 10 AM (fun uI=>AJ () uI) PR))) (Ld AM (.add ⟨w.heap.size,0,none⟩ 3) Value.string fun AJ9=>Br (AJ9.toList==(⟨#[]⟩:cN).toList) (Ld AM (.add ⟨z8.heap.size,0,none⟩ 3) Value.bool fun AKA=>Br AKA (Ld AM (.add ⟨z8.heap.size,0,none⟩ 4) Value.bool fun uJ=>Br uJ (Br (AQ==1) (AO true 10 AM (fun AKB=>AJ () AKB) PR) (Ld AM ⟨w.heap.size,0,none⟩ (Value.int .i64) fun uK=>AO (uK !=9) 10 AM (fun AKC=>AJ () AKC) PR)) (Ld AM (.add ⟨w.heap.size,0,none⟩ 5) AA.v fun uL=>Br ((uL.len:Int)==0) (Br (AQ==1) (AO true 10 AM (fun AKD=>AJ () AKD) PR) (Ld AM ⟨w.heap.size,0,none⟩ (Value.int .i64) fun uM=>AO (uM !=9) 10 AM (fun AKE=>AJ () AKE) PR)) (AO false 10 AM (fun AKF=>AJ () AKF) PR))) (Ld AM (.add ⟨w.heap.size,0,none⟩ 4) AA.v fun AKG=>Br ((AKG.len:Int)==0) (Ld AM (.add ⟨z8.heap.size,0,none⟩ 4) Value.bool fun AKH=>Br AKH (Br (AQ==1) (AO true 10 AM (fun uN=>AJ () uN) PR) (Ld AM ⟨w.heap.size,0,none⟩ (Value.int .i64) fun AKI=>AO (AKI !=9) 10 AM (fun uO=>AJ () uO) PR)) (Ld AM (.add ⟨w.heap.size,0,none⟩ 5) AA.v fun AKJ=>Br ((AKJ.len:Int)==0) (Br (AQ==1) (AO true 10 AM (fun AKK=>AJ () AKK) PR) (Ld AM ⟨w.heap.size,0,none⟩ (Value.int .i64) fun uP=>AO (uP !=9) 10 AM (fun AKL=>AJ () AKL) PR)) (AO false 10 AM (fun AKM=>AJ () AKM) PR))) (AO false 10 AM (fun AKN=>AJ () AKN) PR))) (AO false 10 AM (fun AKO=>AJ () AKO) PR))) (Ld AM (.add ⟨w.heap.size,0,none⟩ 2) (Value.int .i64) fun AKP=>Br (AKP==0) (Ld AM (.add ⟨z8.heap.size,0,none⟩ 2) Value.bool fun AKQ=>Br AKQ (Ld AM (.add ⟨z8.heap.size,0,none⟩ 3) Value.bool fun AKR=>Br AKR (Ld AM (.add ⟨z8.heap.size,0,none⟩ 4) Value.bool fun AKS=>Br AKS (Br (AQ==1) (AO true 10 AM (fun AKT=>AJ () AKT) PR) (Ld AM ⟨w.heap.size,0,none⟩ (Value.int .i64) fun AKU=>AO (AKU !=9) 10 AM (fun AKV=>AJ () AKV) PR)) (Ld AM (.add ⟨w.heap.size,0,none⟩ 5) AA.v fun AKW=>Br ((AKW.len:Int)==0) (Br (AQ==1) (AO true 10 AM (fun AKX=>AJ () AKX) PR) (Ld AM ⟨w.heap.size,0,none⟩ (Value.int .i64) fun AKY=>AO (AKY !=9) 10 AM (fun AKZ=>AJ () AKZ) PR)) (AO false 10 AM (fun AKa=>AJ () AKa) PR))) (Ld AM (.add ⟨w.heap.size,0,none⟩ 4) AA.v fun AKb=>Br ((AKb.len:Int)==0) (Ld AM (.add ⟨z8.heap.size,0,none⟩ 4) Value.bool fun AKc=>Br AKc (Br (AQ==1) (AO true 10 AM (fun AKd=>AJ () AKd) PR) (Ld AM ⟨w.heap.size,0,none⟩ (Value.int .i64) fun AKe=>AO (AKe !=9) 10 AM (fun AKf=>AJ () AKf) PR)) (Ld AM (.add ⟨w.heap.size,0,none⟩ 5) AA.v fun AKg=>Br ((AKg.len:Int)==0) (Br (AQ==1) (AO true 10 AM (fun AKh=>AJ () AKh) PR) (Ld AM ⟨w.heap.size,0,none⟩ (Value.int .i64) fun AKi=>AO (AKi !=9) 10 AM (fun AKj=>AJ () AKj) PR)) (AO false 10 AM (fun AKk=>AJ () AKk) PR))) (AO false 10 AM (fun AKl=>AJ () AKl) PR))) (Ld AM (.add ⟨w.heap.size,0,none⟩ 3) Value.string fun AKm=>Br (AKm.toList==(⟨#[]⟩:cN).toList) (Ld AM (.add ⟨z8.heap.size,0,none⟩ 3) Value.bool fun AKn=>Br AKn (Ld AM (.add ⟨z8.heap.size,0,none⟩ 4) Value.bool fun AKo=>Br AKo (Br (AQ==1) (AO true 10 AM (fun AKp=>AJ () AKp) PR) (Ld AM ⟨w.heap.size,0,none⟩ (Value.int .i64) fun AKq=>AO (AKq !=9) 10 AM (fun AKr=>AJ () AKr) PR)) (Ld AM (.add ⟨w.heap.size,0,none⟩ 5) AA.v fun AKs=>Br ((AKs.len:Int)==0) (Br (AQ==1) (AO true 10 AM (fun AKt=>AJ () AKt) PR) (Ld AM ⟨w.heap.size,0,none⟩ (Value.int .i64) fun AKu=>AO (AKu !=9) 10 AM (fun AKv=>AJ () AKv) PR)) (AO false 10 AM (fun AKw=>AJ () AKw) PR))) (Ld AM (.add ⟨w.heap.size,0,none⟩ 4) AA.v fun AKx=>Br ((AKx.len:Int)==0) (Ld AM (.add ⟨z8.heap.size,0,none⟩ 4) Value.bool fun AKy=>Br AKy (Br (AQ==1) (AO true 10 AM (fun AKz=>AJ () AKz) PR) (Ld AM ⟨w.heap.size,0,none⟩ (Value.int .i64) fun AK0=>AO (AK0 !=9) 10 AM (fun AK1=>AJ () AK1) PR)) (Ld AM (.add ⟨w.heap.size,0,none⟩ 5) AA.v fun AK2=>Br ((AK2.len:Int)==0) (Br (AQ==1) (AO true 10 AM (fun AK3=>AJ () AK3) PR) (Ld AM ⟨w.heap.size,0,none⟩ (Value.int .i64) fun AK4=>AO (AK4 !=9) 10 AM (fun AK5=>AJ () AK5) PR)) (AO false 10 AM (fun AK6=>AJ () AK6) PR))) (AO false 10 AM (fun Bo=>AJ () Bo) PR))) (AO false 10 AM (fun AK7=>AJ () AK7) PR))) (AO false 10 AM (fun AK8=>AJ () AK8) PR))) (Ld AM (.add ⟨w.heap.size,0,none⟩ 1) (Value.int .i64) fun rh=>Br (rh==0) (Ld AM (.add ⟨z8.heap.size,0,none⟩ 1) Value.bool fun ri=>Br ri (Ld AM (.add ⟨z8.heap.size,0,none⟩ 2) Value.bool fun rj=>Br rj (Ld AM (.add ⟨z8.heap.size,0,none⟩ 3) Value.bool fun rk=>Br rk (Ld AM (.add ⟨z8.heap.size,0,none⟩ 4) Value.bool fun rl=>Br rl (Br (AQ==1) (AO true 10 AM (fun AK9=>AJ () AK9) PR) (Ld AM ⟨w.heap.size,0,none⟩ (Value.int .i64) fun rn=>AO (rn !=9) 10 AM (fun ALA=>AJ () ALA) PR)) (Ld AM (.add ⟨w.heap.size,0,none⟩ 5) AA.v fun ALB=>Br ((ALB.len:Int)==0) (Br (AQ==1) (AO true 10 AM (fun rp=>AJ () rp) PR) (Ld AM ⟨w.heap.size,0,none⟩ (Value.int .i64) fun ALC=>AO (ALC !=9) 10 AM (fun rq=>AJ () rq) PR)) (AO false 10 AM (fun ru=>AJ () ru) PR))) (Ld AM (.add ⟨w.heap.size,0,none⟩ 4) AA.v fun ALD=>Br ((ALD.len:Int)==0) (Ld AM (.add ⟨z8.heap.size,0,none⟩ 4) Value.bool fun ALE=>Br ALE (Br (AQ==1) (AO true 10 AM (fun rv=>AJ () rv) PR) (Ld AM ⟨w.heap.size,0,none⟩ (Value.int .i64) fun ALF=>AO (ALF !=9) 10 AM (fun ALG=>AJ () ALG) PR)) (Ld AM (.add ⟨w.heap.size,0,none⟩ 5) AA.v fun ALH=>Br ((ALH.len:Int)==0) (Br (AQ==1) (AO true 10 AM (fun ALI=>AJ () ALI) PR) (Ld AM ⟨w.heap.size,0,none⟩ (Value.int .i64) fun rM=>AO (rM !=9) 10 AM (fun ALJ=>AJ () ALJ) PR)) (AO false 10 AM (fun ALK=>AJ () ALK) PR))) (AO false 10 AM (fun ALL=>AJ () ALL) PR))) (Ld AM (.add ⟨w.heap.size,0,none⟩ 3) Value.string fun rN=>Br (rN.toList==(⟨#[]⟩:cN).toList) (Ld AM (.add ⟨z8.heap.size,0,none⟩ 3) Value.bool fun rO=>Br rO (Ld AM (.add ⟨z8.heap.size,0,none⟩ 4) Value.bool fun rP=>Br rP (Br (AQ==1) (AO true 10 AM (fun ALM=>AJ () ALM) PR) (Ld AM ⟨w.heap.size,0,none⟩ (Value.int .i64) fun rQ=>AO (rQ !=9) 10 AM (fun ALN=>AJ () ALN) PR)) (Ld AM (.add ⟨w.heap.size,0,none⟩ 5) AA.v fun rR=>Br ((rR.len:Int)==0) (Br (AQ==1) (AO true 10 AM (fun ALO=>AJ () ALO) PR) (Ld AM ⟨w.heap.size,0,none⟩ (Value.int .i64) fun rS=>AO (rS !=9) 10 AM (fun ALP=>AJ () ALP) PR)) (AO false 10 AM (fun ALQ=>AJ () ALQ) PR))) (Ld AM (.add ⟨w.heap.size,0,none⟩ 4) AA.v fun ALR=>Br ((ALR.len:Int)==0) (Ld AM (.add ⟨z8.heap.size,0,none⟩ 4) Value.bool fun ALS=>Br ALS (Br (AQ==1) (AO true 10 AM (fun ALT=>AJ () ALT) PR) (Ld AM ⟨w.heap.size,0,none⟩ (Value.int .i64) fun ALU=>AO (ALU !=9) 10 AM (fun ALV=>AJ () ALV) PR)) (Ld AM (.add ⟨w.heap.size,0,none⟩ 5) AA.v fun ALW=>Br ((ALW.len:Int)==0) (Br (AQ==1) (AO true 10 AM (fun rU=>AJ () rU) PR) (Ld AM ⟨w.heap.size,0,none⟩ (Value.int .i64) fun ALX=>AO (ALX !=9) 10 AM (fun rV=>AJ () rV) PR)) (AO false 10 AM (fun rW=>AJ () rW) PR))) (AO false 10 AM (fun Gm=>AJ () Gm) PR))) (AO false 10 AM (fun ALY=>AJ () ALY) PR))) (Ld AM (.add ⟨w.heap.size,0,none⟩ 2) (Value.int .i64) fun rX=>Br (rX==0) (Ld AM (.add ⟨z8.heap.size,0,none⟩ 2) Value.bool fun rY=>Br rY (Ld AM (.add ⟨z8.heap.size,0,none⟩ 3) Value.bool fun rZ=>Br rZ (Ld AM (.add ⟨z8.heap.size,0,none⟩ 4) Value.bool fun ra=>Br ra (Br (AQ==1) (AO true 10 AM (fun ALZ=>AJ () ALZ) PR) (Ld AM ⟨w.heap.size,0,none⟩ (Value.int .i64) fun ALa=>AO (ALa !=9) 10 AM (fun ALb=>AJ () ALb) PR)) (Ld AM (.add ⟨w.heap.size,0,none⟩ 5) AA.v fun rb=>Br ((rb.len:Int)==0) (Br (AQ==1) (AO true 10 AM (fun ALc=>AJ () ALc) PR) (Ld AM ⟨w.heap.size,0,none⟩ (Value.int .i64) fun re=>AO (re !=9) 10 AM (fun ALd=>AJ () ALd) PR)) (AO false 10 AM (fun ALe=>AJ () ALe) PR))) (Ld AM (.add ⟨w.heap.size,0,none⟩ 4) AA.v fun lK=>Br ((lK.len:Int)==0) (Ld AM (.add ⟨z8.heap.size,0,none⟩ 4) Value.bool fun ALf=>Br ALf (Br (AQ==1) (AO true 10 AM (fun ALg=>AJ () ALg) PR) (Ld AM ⟨w.heap.size,0,none⟩ (Value.int .i64) fun ALh=>AO (ALh !=9) 10 AM (fun ry=>AJ () ry) PR)) (Ld AM (.add ⟨w.heap.size,0,none⟩ 5) AA.v fun ALi=>Br ((ALi.len:Int)==0) (Br (AQ==1) (AO true 10 AM (fun sC=>AJ () sC) PR) (Ld AM ⟨w.heap.size,0,none⟩ (Value.int .i64) fun ALj=>AO (ALj !=9) 10 AM (fun sD=>AJ () sD) PR)) (AO false 10 AM (fun sE=>AJ () sE) PR))) (AO false 10 AM (fun sF=>AJ () sF) PR))) (Ld AM (.add ⟨w.heap.size,0,none⟩ 3) Value.string fun ALk=>Br (ALk.toList==(⟨#[]⟩:cN).toList) (Ld AM (.add ⟨z8.heap.size,0,none⟩ 3) Value.bool fun ALl=>Br ALl (Ld AM (.add ⟨z8.heap.size,0,none⟩ 4) Value.bool fun ALm=>Br ALm (Br (AQ==1) (AO true 10 AM (fun ALn=>AJ () ALn) PR) (Ld AM ⟨w.heap.size,0,none⟩ (Value.int .i64) fun ALo=>AO (ALo !=9) 10 AM (fun sG=>AJ () sG) PR)) (Ld AM (.add ⟨w.heap.size,0,none⟩ 5) AA.v fun ALp=>Br ((ALp.len:Int)==0) (Br (AQ==1) (AO true 10 AM (fun sH=>AJ () sH) PR) (Ld AM ⟨w.heap.size,0,none⟩ (Value.int .i64) fun ALq=>AO (ALq !=9) 10 AM (fun sI=>AJ () sI) PR)) (AO false 10 AM (fun sJ=>AJ () sJ) PR))) (Ld AM (.add ⟨w.heap.size,0,none⟩ 4) AA.v fun ALr=>Br ((ALr.len:Int)==0) (Ld AM (.add ⟨z8.heap.size,0,none⟩ 4) Value.bool fun ALs=>Br ALs (Br (AQ==1) (AO true 10 AM (fun sK=>AJ () sK) PR) (Ld AM ⟨w.heap.size,0,none⟩ (Value.int .i64) fun sL=>AO (sL !=9) 10 AM (fun ALt=>AJ () ALt) PR)) (Ld AM (.add ⟨w.heap.size,0,none⟩ 5) AA.v fun ALu=>Br ((ALu.len:Int)==0) (Br (AQ==1) (AO true 10 AM (fun Lm=>AJ () Lm) PR) (Ld AM ⟨w.heap.size,0,none⟩ (Value.int .i64) fun ALv=>AO (ALv !=9) 10 AM (fun sM=>AJ () sM) PR)) (AO false 10 AM (fun sN=>AJ () sN) PR))) (AO false 10 AM (fun sO=>AJ () sO) PR))) (AO false 10 AM (fun Kc=>AJ () Kc) PR))) (AO false 10 AM (fun ALw=>AJ () ALw) PR))) (AO false 10 AM (fun ALx=>AJ () ALx) PR))) (AO false 10 AM (fun ALy=>AJ () ALy) PR)) PR
theorem T68 (o1 AQ w R PR):S68 o1 AQ w R PR->ye o1 AQ w R PR:=kb (.q (.q (.q (.join [] [1,2,4] .r (.q (.q (.q (.join [] [1,2] .r (.q (.b (.o [(107,oi)] [1,105,106] (.q (.s (.c .l .l) (.s (.b (.q .r)) .r)))))))))))))) [.agg (Aj.cells AD o1).toArray,.int .i64 AQ] Tryz.func68
def S67 (c1:Addr)(w:World)(R:Q0)(PR:Q1 Value):Prop:=Ae w c1 0 AD fun x2=>ye x2 1 w (fun z3=>R z3) PR
theorem T67 (c1 w R PR):S67 c1 w R PR->C67 c1 w R PR:=kb .r [.pointer (some c1)] Tryz.func67
def MD (c1:Addr)(w:World)(R:Q0):Prop:=R w
def YV:Aa:=(.b (.q (.c .r (.q (.c (.q .r) (.q .r))))))
theorem fI (c1:Addr)(w:World)(R:Q0)(h:MD c1 w R):WL c1 none w R:=by
 have e:H7 prog FF CG YV Tryz.f109 [.pointer (some c1)] none w R=MD c1 w R:=by kernel_rfl
 exact BE okF Gw Tryz.func109 (by kernel_rfl) (by kernel_rfl) (e.mpr h)
def JY (c1:Addr)(u2:Int)(w:World)(R:Q0):Prop:=Nw w (.cells #[.int .i64 0] 154) fun z3=>St z3 ⟨w.heap.size,0,none⟩ (.int .i64 u2) fun z4=>Ld z4 ⟨w.heap.size,0,none⟩ (Value.int .i64) fun x5=>St z4 c1 (.int .i64 x5) fun z6=>R z6
def U0:Aa:=(.b (.q (.c .r (.q (.c (.q .r) (.q .r))))))
theorem YW (c1:Addr)(u2:Int)(w:World)(R:Q0)(h:JY c1 u2 w R):WL c1 (some (.iface 154 (.agg #[.int .i64 u2]))) w R:=by
 have e:H7 prog FF CG U0 Tryz.f109 [.pointer (some c1)] (some (.iface 154 (.agg #[.int .i64 u2]))) w R=JY c1 u2 w R:=by kernel_rfl
 exact BE okF Gw Tryz.func109 (by kernel_rfl) (by kernel_rfl) (e.mpr h)
def Rj (w:World)(R:Q1 Int)(x5:Value)(z4:World):Prop:=WL ⟨w.heap.size,0,none⟩ (some x5) z4 fun z6=>Ld z6 ⟨w.heap.size,0,none⟩ (Value.int .i64) fun x7=>R x7 z6
def Pe (c2:Addr)(w:World)(R:Q1 Int):Prop:=Nw w (.cells #[.int .i64 0] 29) fun z3=>C67 c2 z3 (fun z8=>St z8 ⟨w.heap.size,0,none⟩ (.int .i64 0) fun z9=>WL ⟨w.heap.size,0,none⟩ none z9 fun Ay=>Ld Ay ⟨w.heap.size,0,none⟩ (Value.int .i64) fun Cn=>R Cn Ay) (Rj w R)
def fJ:CR:=(.pre (.A7 .seq) (.here [2] (.q (.q .leaf))))
theorem l6 (c2:Addr)(w:World)(R:Q1 Int)(h:Pe c2 w R):C66 (.func (.func 67) #[] #[.pointer (some c2)]) w R:=by
 have e:La prog FF CG (fun _ _=>False) fJ Tryz.f66 [.func (.func 67) #[] #[.pointer (some c2)]] w [(.one (.int .i64))] (fun s w=>R s w)=Pe c2 w R:=by kernel_rfl
 exact (CH okF Gw Tryz.func66 (by kernel_rfl) (by kernel_rfl) (e.mpr h)).mono fun _ _ ⟨s,he,hR⟩=>⟨s,he,hR⟩
def S39 (o1:AG)(w:World)(R:Q1 Int)(PR:Q1 Value):Prop:=Nw w (.cells (Aj.cells AD o1).toArray 26) fun z2=>C66 (.func (.func 67) #[] #[.pointer (some ⟨w.heap.size,0,none⟩)]) z2 fun r3 z4=>R r3 z4
theorem T39 (o1 w R PR):S39 o1 w R PR->yN o1 w R PR:=Nl oi (.q (.q .l)) [.agg (Aj.cells AD o1).toArray] Tryz.func39
def S44 (o1:AG)(w:World)(R:Q1 Bool):Prop:=Nw w (.cells (Aj.cells AD o1).toArray 26) fun z2=>Ld z2 ⟨w.heap.size,0,none⟩ (Value.int .i64) fun x3=>Br (x3==7) (R true z2) (Ld z2 ⟨w.heap.size,0,none⟩ (Value.int .i64) fun x4=>R (x4==9) z2)
theorem T44 (o1 w R):S44 o1 w R->C44 o1 w R:=B2 ob (.q (.q .l)) [.agg (Aj.cells AD o1).toArray] Tryz.func44
def S75 (x1:AG)(w:World)(R:Q1 (AG)):Prop:=Nw w (.cells (Aj.cells AD x1).toArray 26) fun z2=>Nw z2 (.cells #[.int .i64 0,.int .i64 0,.int .i64 0,.string (⟨#[]⟩:cN),AA.v ⟨none,0,0⟩,AA.v ⟨none,0,0⟩] 26) fun z3=>Ae z3 ⟨w.heap.size,0,none⟩ 0 AD fun x4=>Am ⟨z2.heap.size,0,none⟩ 0 AD x4 z3 fun z5=>Ae z5 ⟨z2.heap.size,0,none⟩ 0 AD fun x6=>R x6 z5
theorem T75 (x1 w R):S75 x1 w R->C75 x1 w R:=B2 (.agg [(.int .i64),(.int .i64),(.int .i64),.str,.BJ,.BJ]) (.q (.q .l)) [.agg (Aj.cells AD x1).toArray] Tryz.func75
def S76 (s1:AA)(w:World)(R:Q1 AA):Prop:=Br s1.p.isNone (R (⟨none,0,0⟩:AA) w) (Nw w (.cells #[] 9) fun z2=>Rn prog (Builtin.append_ #[23,23] 23 #[AA.v ⟨some ⟨w.heap.size,0,none⟩,0,0⟩,AA.v s1]) z2 AA.v fun x3 z4=>R x3 z4)
theorem T76 (s1 w R):S76 s1 w R->C76 s1 w R:=B2 ol (.q (.s (.q (.c (.q .l) .l)) (.q .l))) [AA.v s1] Tryz.func76
def Ny (w:World)(z3:World)(DD:AA)(Dj:AA)(R:Q1 (AG))(I20:Q1 Int)(ln:Int)(Bm:World):Prop:=Br (decide (ln<(Dj.len:Int))) (0<=ln/\ln<(Dj.len:Nat)/\Nn Dj.p fun a21=>Ae Bm (a21.add ((ln).toNat*6)) 0 AD fun Gy=>Nw Bm (.cells #[.int .i64 0,.int .i64 0,.int .i64 0,.string (⟨#[]⟩:cN),AA.v ⟨none,0,0⟩,AA.v ⟨none,0,0⟩] 26) fun Cb=>Am ⟨Bm.heap.size,0,none⟩ 0 AD Gy Cb fun z24=>Ae z24 ⟨Bm.heap.size,0,none⟩ 0 AD fun I0=>C74 I0 (.func (.func 75) #[] #[]) z24 fun u7 Dk=>0<=ln/\ln<(DD.len:Nat)/\Nn DD.p fun a28=>Am (a28.add ((ln).toNat*6)) 0 AD u7 Dk fun M9=>I20 (wrap .i64 (ln+1)) M9) (St Bm (.add ⟨w.heap.size,0,none⟩ 5) (AA.v DD) fun FK=>Ae FK ⟨w.heap.size,0,none⟩ 0 AD fun PA=>Am ⟨z3.heap.size,0,none⟩ 0 AD PA FK fun GQ=>Ae GQ ⟨z3.heap.size,0,none⟩ 0 AD fun NI=>R NI GQ)
def WN (o1:AG)(w:World)(R:Q1 (AG)):Prop:=Nw w (.cells (Aj.cells AD o1).toArray 26) fun z3=>Nw z3 (.cells #[.int .i64 0,.int .i64 0,.int .i64 0,.string (⟨#[]⟩:cN),AA.v ⟨none,0,0⟩,AA.v ⟨none,0,0⟩] 26) fun z4=>Ae z4 ⟨w.heap.size,0,none⟩ 0 AD fun x5=>C75 x5 z4 fun r6 z7=>Am ⟨w.heap.size,0,none⟩ 0 AD r6 z7 fun z8=>Ld z8 (.add ⟨w.heap.size,0,none⟩ 4) AA.v fun x9=>C76 x9 z8 fun Nq D1=>St D1 (.add ⟨w.heap.size,0,none⟩ 4) (AA.v Nq) fun z12=>Ld z12 (.add ⟨w.heap.size,0,none⟩ 5) AA.v fun Gf=>Br (!(Gf.p.isNone)) (Ld z12 (.add ⟨w.heap.size,0,none⟩ 5) AA.v fun Gg=>Rn prog (Instr.makeSlice 24 (.int .i64 (Gg.len:Int)) (.int .i64 (Gg.len:Int))) z12 AA.v fun DD Cu=>Ld Cu (.add ⟨w.heap.size,0,none⟩ 5) AA.v fun Dj=>Lp (σ:=Int) (Ny w z3 DD Dj R) 0 Cu) (Ae z12 ⟨w.heap.size,0,none⟩ 0 AD fun M8=>Am ⟨z3.heap.size,0,none⟩ 0 AD M8 z12 fun Kv=>Ae Kv ⟨z3.heap.size,0,none⟩ 0 AD fun Lc=>R Lc Kv)
theorem l7 (o1 w R):WN o1 w R->C74 o1 (.func (.func 75) #[] #[]) w R:=B2 (.agg [(.int .i64),(.int .i64),(.int .i64),.str,.BJ,.BJ]) (.q (.q (.q (.s (.q (.c (.q (.s (.q (.b (.o [(25,oi)] [1,2,4,5,23,24] (.q (.s (.c .l .l) (.s (.b (.q .r)) .r)))))) .r)) .l)) (.q .l))))) [.agg (Aj.cells AD o1).toArray,.func (.func 75) #[] #[]] Tryz.func74
def S47 (o1:AG)(w:World)(R:Q1 (AG)):Prop:=Nw w (.cells (Aj.cells AD o1).toArray 26) fun z2=>Nw z2 (.cells #[.int .i64 0,.int .i64 0,.int .i64 0,.string (⟨#[]⟩:cN),AA.v ⟨none,0,0⟩,AA.v ⟨none,0,0⟩] 26) fun z3=>Ae z3 ⟨w.heap.size,0,none⟩ 0 AD fun x4=>C74 x4 (.func (.func 75) #[] #[]) z3 fun r5 z6=>Am ⟨z2.heap.size,0,none⟩ 0 AD r5 z6 fun z7=>Ae z7 ⟨z2.heap.size,0,none⟩ 0 AD fun x8=>R x8 z7
theorem T47 (o1 w R):S47 o1 w R->C47 o1 w R:=B2 (.agg [(.int .i64),(.int .i64),(.int .i64),.str,.BJ,.BJ]) (.q (.q .l)) [.agg (Aj.cells AD o1).toArray] Tryz.func47
def ACR (x1:ByteArray)(w:World)(R:Q1 Bool):Prop:=R (!(x1.toList==x1.toList)) w
theorem ALz (x1 w R):ACR x1 w R->vQ x1 w R:=B2 ob (.q (.q .l)) [.string x1] Tryz.func161
def ACS (x1:ByteArray)(y2:ByteArray)(w:World)(R:Q1 Bool):Prop:=vQ x1 w fun r3 z4=>Br r3 (vQ y2 z4 fun r5 z6=>Br (!r5) (R true z6) (R (Op.bytesLess x1.toList y2.toList) z6)) (R (Op.bytesLess x1.toList y2.toList) z4)
theorem AL0 (x1 y2 w R):ACS x1 y2 w R->vS x1 y2 w R:=B2 ob (.q (.q .l)) [.string x1,.string y2] Tryz.func120
def ACT (x1:ByteArray)(w:World)(R:Q1 Bool):Prop:=R (!(x1.toList==x1.toList)) w
theorem AL1 (x1 w R):ACT x1 w R->vT x1 w R:=B2 ob (.q (.q .l)) [.string x1] Tryz.func121
def o6 (x1:AA)(CT:ByteArray)(R:Q2 Int Bool)(I13:Q1 (Int×Int))(Fk:Int×Int)(z12:World):Prop:=Br (decide (Fk.1<Fk.2)) (0<=(wrap .i64 (Int.fdiv (wrap .u64 (wrap .i64 (Fk.1+Fk.2))) (2^1)))/\(wrap .i64 (Int.fdiv (wrap .u64 (wrap .i64 (Fk.1+Fk.2))) (2^1)))<(x1.len:Nat)/\Nn x1.p fun a14=>Ld z12 (a14.add ((wrap .i64 (Int.fdiv (wrap .u64 (wrap .i64 (Fk.1+Fk.2))) (2^1))).toNat*1)) Value.string fun DD=>vS DD CT z12 fun D2 EI=>Br D2 (Lt (wrap .i64 ((wrap .i64 (Int.fdiv (wrap .u64 (wrap .i64 (Fk.1+Fk.2))) (2^1)))+1)) fun (Ca:Int)=>I13 (Ca,Fk.2) EI) (I13 (Fk.1,wrap .i64 (Int.fdiv (wrap .u64 (wrap .i64 (Fk.1+Fk.2))) (2^1))) EI)) (Br (decide (Fk.1<(x1.len:Int))) (0<=Fk.1/\Fk.1<(x1.len:Nat)/\Nn x1.p fun yR=>Ld z12 (yR.add ((Fk.1).toNat*1)) Value.string fun Ew=>Br (Ew.toList==CT.toList) (R Fk.1 true z12) (0<=Fk.1/\Fk.1<(x1.len:Nat)/\Nn x1.p fun a21=>Ld z12 (a21.add ((Fk.1).toNat*1)) Value.string fun Gy=>vT Gy z12 fun DK z24=>Br DK (vT CT z24 fun yO Cx=>R Fk.1 yO Cx) (R Fk.1 false z24))) (R Fk.1 false z12))
def S72 (x1:AA)(CT:ByteArray)(w:World)(R:Q2 Int Bool):Prop:=Lp (σ:=Int×Int) (o6 x1 CT R) (0,(x1.len:Int)) w
theorem T72 (x1 CT w R):S72 x1 CT w R->C72 x1 CT w R:=O5 oi ob (.q (.q (.q (.s (.b (.o [(7,oi),(8,oi)] [0,1,6] (.s (.q (.c .l .l)) (.b (.q (.q (.c .r .r))))))) (.q .l))))) [AA.v x1,.string CT] Tryz.func72
def S77 (s1:AA)(w:World)(R:Q1 AA):Prop:=Br s1.p.isNone (R (⟨none,0,0⟩:AA) w) (Nw w (.cells #[] 26) fun z2=>Rn prog (Builtin.append_ #[24,24] 24 #[AA.v ⟨some ⟨w.heap.size,0,none⟩,0,0⟩,AA.v s1]) z2 AA.v fun x3 z4=>R x3 z4)
theorem T77 (s1 w R):S77 s1 w R->C77 s1 w R:=B2 ol (.q (.s (.q (.c (.q .l) .l)) (.q .l))) [AA.v s1] Tryz.func77
def S46 (o1:AG)(w:World)(R:Q2 (AG) Int)(PR:Q1 Value):Prop:=Nw w (.cells (Aj.cells AD o1).toArray 26) fun z2=>Nw z2 (.cells #[.int .i64 0,.int .i64 0,.int .i64 0,.string (⟨#[]⟩:cN),AA.v ⟨none,0,0⟩,AA.v ⟨none,0,0⟩] 26) fun z3=>Ae z3 ⟨w.heap.size,0,none⟩ 0 AD fun x4=>yN x4 z3 (fun r5 z6=>Br (r5 !=0) (Am ⟨z2.heap.size,0,none⟩ 0 AD ((0,0,0,(⟨#[]⟩:cN),(⟨none,0,0⟩:AA),(⟨none,0,0⟩:AA)):AG) z6 fun z7=>Ae z7 ⟨z2.heap.size,0,none⟩ 0 AD fun x8=>R x8 r5 z7) (Ae z6 ⟨w.heap.size,0,none⟩ 0 AD fun x9=>Am ⟨z2.heap.size,0,none⟩ 0 AD x9 z6 fun Ay=>Ae Ay ⟨z2.heap.size,0,none⟩ 0 AD fun Cn=>R Cn 0 Ay)) PR
theorem T46 (o1 w R PR):S46 o1 w R PR->C46 o1 w R PR:=qS (.agg [(.int .i64),(.int .i64),(.int .i64),.str,.BJ,.BJ]) oi (.q (.s (.q (.q (.c (.q .l) .l))) (.q .l))) [.agg (Aj.cells AD o1).toArray] Tryz.func46
def S78 (s1:AA)(i2:Int)(v3:AA)(w:World)(R:Q1 AA):Prop:=0<=i2/\i2<=(s1.len:Int)/\Br ((v3.len:Int)==0) (R s1 w) (Br (i2==(s1.len:Int)) (Rn prog (Builtin.append_ #[23,23] 23 #[AA.v s1,AA.v v3]) w AA.v fun x6 z7=>R x6 z7) (Lt (decide ((wrap .i64 ((s1.len:Int)+(v3.len:Int)))>(s1.cap:Int))) fun (EK:Bool)=>Br EK (0<=i2/\i2<=(s1.cap:Int)/\Lt (wrap .i64 ((wrap .i64 ((s1.len:Int)+(v3.len:Int)))-i2)) fun (Dj:Int)=>Rn prog (Builtin.append_ #[23,3] 23 #[AA.v (s1.cut 1 0 ((i2).toNat) s1.cap),.int .i64 Dj]) w AA.v fun Ca Bm=>0<=i2/\i2<=(Ca.len:Int)/\Rn prog (Builtin.copy_ #[23,23] 3 #[AA.v (Ca.cut 1 ((i2).toNat) Ca.len Ca.cap),AA.v v3]) Bm (Value.int .i64) fun Ew z21=>0<=(wrap .i64 (i2+(v3.len:Int)))/\(wrap .i64 (i2+(v3.len:Int)))<=(Ca.len:Int)/\0<=i2/\i2<=(s1.len:Int)/\Rn prog (Builtin.copy_ #[23,23] 3 #[AA.v (Ca.cut 1 ((wrap .i64 (i2+(v3.len:Int))).toNat) Ca.len Ca.cap),AA.v (s1.cut 1 ((i2).toNat) s1.len s1.cap)]) z21.drew (Value.int .i64) fun Gy Cb=>R Ca Cb) (0<=(wrap .i64 ((s1.len:Int)+(v3.len:Int)))/\(wrap .i64 ((s1.len:Int)+(v3.len:Int)))<=(s1.cap:Int)/\0<=(wrap .i64 (i2+(v3.len:Int)))/\(wrap .i64 (i2+(v3.len:Int)))<=(((s1.cut 1 0 ((wrap .i64 ((s1.len:Int)+(v3.len:Int))).toNat) s1.cap).len:Nat):Int)/\∃TR:Bool,∃z31:World,Rk prog 124 #[AA.v v3,AA.v ((s1.cut 1 0 ((wrap .i64 ((s1.len:Int)+(v3.len:Int))).toNat) s1.cap).cut 1 ((wrap .i64 (i2+(v3.len:Int))).toNat) ((s1.cut 1 0 ((wrap .i64 ((s1.len:Int)+(v3.len:Int))).toNat) s1.cap).len) ((s1.cut 1 0 ((wrap .i64 ((s1.len:Int)+(v3.len:Int))).toNat) s1.cap).cap))] w (.bool TR) z31/\Br (!TR) (0<=(wrap .i64 (i2+(v3.len:Int)))/\(wrap .i64 (i2+(v3.len:Int)))<=(((s1.cut 1 0 ((wrap .i64 ((s1.len:Int)+(v3.len:Int))).toNat) s1.cap).len:Nat):Int)/\0<=i2/\i2<=(((s1.cut 1 0 ((wrap .i64 ((s1.len:Int)+(v3.len:Int))).toNat) s1.cap).len:Nat):Int)/\Rn prog (Builtin.copy_ #[23,23] 3 #[AA.v ((s1.cut 1 0 ((wrap .i64 ((s1.len:Int)+(v3.len:Int))).toNat) s1.cap).cut 1 ((wrap .i64 (i2+(v3.len:Int))).toNat) ((s1.cut 1 0 ((wrap .i64 ((s1.len:Int)+(v3.len:Int))).toNat) s1.cap).len) ((s1.cut 1 0 ((wrap .i64 ((s1.len:Int)+(v3.len:Int))).toNat) s1.cap).cap)),AA.v ((s1.cut 1 0 ((wrap .i64 ((s1.len:Int)+(v3.len:Int))).toNat) s1.cap).cut 1 ((i2).toNat) ((s1.cut 1 0 ((wrap .i64 ((s1.len:Int)+(v3.len:Int))).toNat) s1.cap).len) ((s1.cut 1 0 ((wrap .i64 ((s1.len:Int)+(v3.len:Int))).toNat) s1.cap).cap))]) z31.drew (Value.int .i64) fun IC Gh=>0<=i2/\i2<=(((s1.cut 1 0 ((wrap .i64 ((s1.len:Int)+(v3.len:Int))).toNat) s1.cap).len:Nat):Int)/\Rn prog (Builtin.copy_ #[23,23] 3 #[AA.v ((s1.cut 1 0 ((wrap .i64 ((s1.len:Int)+(v3.len:Int))).toNat) s1.cap).cut 1 ((i2).toNat) ((s1.cut 1 0 ((wrap .i64 ((s1.len:Int)+(v3.len:Int))).toNat) s1.cap).len) ((s1.cut 1 0 ((wrap .i64 ((s1.len:Int)+(v3.len:Int))).toNat) s1.cap).cap)),AA.v v3]) Gh (Value.int .i64) fun M8 Kv=>R (s1.cut 1 0 ((wrap .i64 ((s1.len:Int)+(v3.len:Int))).toNat) s1.cap) Kv) (0<=(s1.len:Int)/\(s1.len:Int)<=(((s1.cut 1 0 ((wrap .i64 ((s1.len:Int)+(v3.len:Int))).toNat) s1.cap).len:Nat):Int)/\Rn prog (Builtin.copy_ #[23,23] 3 #[AA.v ((s1.cut 1 0 ((wrap .i64 ((s1.len:Int)+(v3.len:Int))).toNat) s1.cap).cut 1 (((s1.len:Int)).toNat) ((s1.cut 1 0 ((wrap .i64 ((s1.len:Int)+(v3.len:Int))).toNat) s1.cap).len) ((s1.cut 1 0 ((wrap .i64 ((s1.len:Int)+(v3.len:Int))).toNat) s1.cap).cap)),AA.v v3]) z31 (Value.int .i64) fun Lc z37=>0<=i2/\i2<=(((s1.cut 1 0 ((wrap .i64 ((s1.len:Int)+(v3.len:Int))).toNat) s1.cap).len:Nat):Int)/\AJZ ((s1.cut 1 0 ((wrap .i64 ((s1.len:Int)+(v3.len:Int))).toNat) s1.cap).cut 1 ((i2).toNat) ((s1.cut 1 0 ((wrap .i64 ((s1.len:Int)+(v3.len:Int))).toNat) s1.cap).len) ((s1.cut 1 0 ((wrap .i64 ((s1.len:Int)+(v3.len:Int))).toNat) s1.cap).cap)) (v3.len:Int) z37 fun Fm=>R (s1.cut 1 0 ((wrap .i64 ((s1.len:Int)+(v3.len:Int))).toNat) s1.cap) Fm))))
theorem T78 (s1 i2 v3 w R):S78 s1 i2 v3 w R->C78 s1 i2 v3 w R:=B2 ol (.q (.q (.q (.s (.q (.c (.q .l) .l)) (.q (.s (.q (.c (.q .l) .l)) (.s (.q (.c (.q (.q (.s (.A7 (.tail 8)) (.q .l)))) .l)) (.q (.s (.q (.c (.s (.A7 (.tail 8)) (.q (.q .l))) .l)) (.q (.q (.q .l)))))))))))) [AA.v s1,.int .i64 i2,AA.v v3] Tryz.func78
def S79 (s1:AA)(i2:Int)(v3:AA)(w:World)(R:Q1 AA):Prop:=0<=i2/\i2<=(s1.len:Int)/\Br ((v3.len:Int)==0) (R s1 w) (Br (i2==(s1.len:Int)) (Rn prog (Builtin.append_ #[24,24] 24 #[AA.v s1,AA.v v3]) w AA.v fun x6 z7=>R x6 z7) (Lt (decide ((wrap .i64 ((s1.len:Int)+(v3.len:Int)))>(s1.cap:Int))) fun (EK:Bool)=>Br EK (0<=i2/\i2<=(s1.cap:Int)/\Lt (wrap .i64 ((wrap .i64 ((s1.len:Int)+(v3.len:Int)))-i2)) fun (Dj:Int)=>Rn prog (Builtin.append_ #[24,3] 24 #[AA.v (s1.cut 6 0 ((i2).toNat) s1.cap),.int .i64 Dj]) w AA.v fun Ca Bm=>0<=i2/\i2<=(Ca.len:Int)/\Rn prog (Builtin.copy_ #[24,24] 3 #[AA.v (Ca.cut 6 ((i2).toNat) Ca.len Ca.cap),AA.v v3]) Bm (Value.int .i64) fun Ew z21=>0<=(wrap .i64 (i2+(v3.len:Int)))/\(wrap .i64 (i2+(v3.len:Int)))<=(Ca.len:Int)/\0<=i2/\i2<=(s1.len:Int)/\Rn prog (Builtin.copy_ #[24,24] 3 #[AA.v (Ca.cut 6 ((wrap .i64 (i2+(v3.len:Int))).toNat) Ca.len Ca.cap),AA.v (s1.cut 6 ((i2).toNat) s1.len s1.cap)]) z21.drew (Value.int .i64) fun Gy Cb=>R Ca Cb) (0<=(wrap .i64 ((s1.len:Int)+(v3.len:Int)))/\(wrap .i64 ((s1.len:Int)+(v3.len:Int)))<=(s1.cap:Int)/\0<=(wrap .i64 (i2+(v3.len:Int)))/\(wrap .i64 (i2+(v3.len:Int)))<=(((s1.cut 6 0 ((wrap .i64 ((s1.len:Int)+(v3.len:Int))).toNat) s1.cap).len:Nat):Int)/\∃TR:Bool,∃z31:World,Rk prog 126 #[AA.v v3,AA.v ((s1.cut 6 0 ((wrap .i64 ((s1.len:Int)+(v3.len:Int))).toNat) s1.cap).cut 6 ((wrap .i64 (i2+(v3.len:Int))).toNat) ((s1.cut 6 0 ((wrap .i64 ((s1.len:Int)+(v3.len:Int))).toNat) s1.cap).len) ((s1.cut 6 0 ((wrap .i64 ((s1.len:Int)+(v3.len:Int))).toNat) s1.cap).cap))] w (.bool TR) z31/\Br (!TR) (0<=(wrap .i64 (i2+(v3.len:Int)))/\(wrap .i64 (i2+(v3.len:Int)))<=(((s1.cut 6 0 ((wrap .i64 ((s1.len:Int)+(v3.len:Int))).toNat) s1.cap).len:Nat):Int)/\0<=i2/\i2<=(((s1.cut 6 0 ((wrap .i64 ((s1.len:Int)+(v3.len:Int))).toNat) s1.cap).len:Nat):Int)/\Rn prog (Builtin.copy_ #[24,24] 3 #[AA.v ((s1.cut 6 0 ((wrap .i64 ((s1.len:Int)+(v3.len:Int))).toNat) s1.cap).cut 6 ((wrap .i64 (i2+(v3.len:Int))).toNat) ((s1.cut 6 0 ((wrap .i64 ((s1.len:Int)+(v3.len:Int))).toNat) s1.cap).len) ((s1.cut 6 0 ((wrap .i64 ((s1.len:Int)+(v3.len:Int))).toNat) s1.cap).cap)),AA.v ((s1.cut 6 0 ((wrap .i64 ((s1.len:Int)+(v3.len:Int))).toNat) s1.cap).cut 6 ((i2).toNat) ((s1.cut 6 0 ((wrap .i64 ((s1.len:Int)+(v3.len:Int))).toNat) s1.cap).len) ((s1.cut 6 0 ((wrap .i64 ((s1.len:Int)+(v3.len:Int))).toNat) s1.cap).cap))]) z31.drew (Value.int .i64) fun IC Gh=>0<=i2/\i2<=(((s1.cut 6 0 ((wrap .i64 ((s1.len:Int)+(v3.len:Int))).toNat) s1.cap).len:Nat):Int)/\Rn prog (Builtin.copy_ #[24,24] 3 #[AA.v ((s1.cut 6 0 ((wrap .i64 ((s1.len:Int)+(v3.len:Int))).toNat) s1.cap).cut 6 ((i2).toNat) ((s1.cut 6 0 ((wrap .i64 ((s1.len:Int)+(v3.len:Int))).toNat) s1.cap).len) ((s1.cut 6 0 ((wrap .i64 ((s1.len:Int)+(v3.len:Int))).toNat) s1.cap).cap)),AA.v v3]) Gh (Value.int .i64) fun M8 Kv=>R (s1.cut 6 0 ((wrap .i64 ((s1.len:Int)+(v3.len:Int))).toNat) s1.cap) Kv) (0<=(s1.len:Int)/\(s1.len:Int)<=(((s1.cut 6 0 ((wrap .i64 ((s1.len:Int)+(v3.len:Int))).toNat) s1.cap).len:Nat):Int)/\Rn prog (Builtin.copy_ #[24,24] 3 #[AA.v ((s1.cut 6 0 ((wrap .i64 ((s1.len:Int)+(v3.len:Int))).toNat) s1.cap).cut 6 (((s1.len:Int)).toNat) ((s1.cut 6 0 ((wrap .i64 ((s1.len:Int)+(v3.len:Int))).toNat) s1.cap).len) ((s1.cut 6 0 ((wrap .i64 ((s1.len:Int)+(v3.len:Int))).toNat) s1.cap).cap)),AA.v v3]) z31 (Value.int .i64) fun Lc z37=>0<=i2/\i2<=(((s1.cut 6 0 ((wrap .i64 ((s1.len:Int)+(v3.len:Int))).toNat) s1.cap).len:Nat):Int)/\AJb ((s1.cut 6 0 ((wrap .i64 ((s1.len:Int)+(v3.len:Int))).toNat) s1.cap).cut 6 ((i2).toNat) ((s1.cut 6 0 ((wrap .i64 ((s1.len:Int)+(v3.len:Int))).toNat) s1.cap).len) ((s1.cut 6 0 ((wrap .i64 ((s1.len:Int)+(v3.len:Int))).toNat) s1.cap).cap)) (v3.len:Int) z37 fun Fm=>R (s1.cut 6 0 ((wrap .i64 ((s1.len:Int)+(v3.len:Int))).toNat) s1.cap) Fm))))
theorem T79 (s1 i2 v3 w R):S79 s1 i2 v3 w R->C79 s1 i2 v3 w R:=B2 ol (.q (.q (.q (.s (.q (.c (.q .l) .l)) (.q (.s (.q (.c (.q .l) .l)) (.s (.q (.c (.q (.q (.s (.A7 (.tail 8)) (.q .l)))) .l)) (.q (.s (.q (.c (.s (.A7 (.tail 8)) (.q (.q .l))) .l)) (.q (.q (.q .l)))))))))))) [AA.v s1,.int .i64 i2,AA.v v3] Tryz.func79
def S48 (o1:AG)(EJ:ByteArray)(v3:AG)(w:World)(R:Q1 (AG)):Prop:=Nw w (.cells (Aj.cells AD o1).toArray 26) fun z4=>Nw z4 (.cells (Aj.cells AD v3).toArray 26) fun z5=>Nw z5 (.cells #[.int .i64 0,.int .i64 0,.int .i64 0,.string (⟨#[]⟩:cN),AA.v ⟨none,0,0⟩,AA.v ⟨none,0,0⟩] 26) fun z6=>Ld z6 (.add ⟨w.heap.size,0,none⟩ 4) AA.v fun x7=>C72 x7 EJ z6 fun r8 r9 Ay=>Ld Ay (.add ⟨w.heap.size,0,none⟩ 4) AA.v fun Cn=>C76 Cn Ay fun JV A6=>St A6 (.add ⟨w.heap.size,0,none⟩ 4) (AA.v JV) fun AM=>Ld AM (.add ⟨w.heap.size,0,none⟩ 5) AA.v fun DD=>C77 DD AM fun D2 EI=>St EI (.add ⟨w.heap.size,0,none⟩ 5) (AA.v D2) fun Cc=>Br r9 (Ld Cc (.add ⟨w.heap.size,0,none⟩ 5) AA.v fun FJ=>Ae Cc ⟨z4.heap.size,0,none⟩ 0 AD fun Ew=>0<=r8/\r8<(FJ.len:Nat)/\Nn FJ.p fun a21=>Am (a21.add ((r8).toNat*6)) 0 AD Ew Cc fun GP=>Ae GP ⟨w.heap.size,0,none⟩ 0 AD fun LW=>Am ⟨z5.heap.size,0,none⟩ 0 AD LW GP fun z24=>Ae z24 ⟨z5.heap.size,0,none⟩ 0 AD fun I0=>R I0 z24) (Ld Cc (.add ⟨w.heap.size,0,none⟩ 4) AA.v fun No=>Nw Cc (.cells #[.string EJ] 9) fun Dk=>C78 No r8 (⟨some ⟨Cc.heap.size,0,none⟩,1,1⟩:AA) Dk fun Tq M9=>St M9 (.add ⟨w.heap.size,0,none⟩ 4) (AA.v Tq) fun FK=>Ld FK (.add ⟨w.heap.size,0,none⟩ 5) AA.v fun PA=>Ae FK ⟨z4.heap.size,0,none⟩ 0 AD fun IC=>Nw FK (.cells #[.int .i64 (IC.1),.int .i64 (IC.2.1),.int .i64 (IC.2.2.1),.string IC.2.2.2.1,AA.v IC.2.2.2.2.1,AA.v IC.2.2.2.2.2] 26) fun Gh=>C79 PA r8 (⟨some ⟨FK.heap.size,0,none⟩,1,1⟩:AA) Gh fun Qd Kv=>St Kv (.add ⟨w.heap.size,0,none⟩ 5) (AA.v Qd) fun ZX=>Ae ZX ⟨w.heap.size,0,none⟩ 0 AD fun RU=>Am ⟨z5.heap.size,0,none⟩ 0 AD RU ZX fun Fm=>Ae Fm ⟨z5.heap.size,0,none⟩ 0 AD fun UU=>R UU Fm)
theorem T48 (o1 EJ v3 w R):S48 o1 EJ v3 w R->C48 o1 EJ v3 w R:=B2 (.agg [(.int .i64),(.int .i64),(.int .i64),.str,.BJ,.BJ]) (.q (.q (.q (.q (.s (.q (.c .r (.q .r))) (.q .l)))))) [.agg (Aj.cells AD o1).toArray,.string EJ,.agg (Aj.cells AD v3).toArray] Tryz.func48
def S24 (o1:AG)(EJ:ByteArray)(v3:AG)(w:World)(R:Q2 (AG) Int)(PR:Q1 Value):Prop:=Nw w (.cells (Aj.cells AD o1).toArray 26) fun z4=>Nw z4 (.cells (Aj.cells AD v3).toArray 26) fun z5=>Nw z5 (.cells #[.int .i64 0,.int .i64 0,.int .i64 0,.string (⟨#[]⟩:cN),AA.v ⟨none,0,0⟩,AA.v ⟨none,0,0⟩] 26) fun z6=>Ae z6 ⟨w.heap.size,0,none⟩ 0 AD fun Cn=>C44 Cn z6 fun JV A6=>Br (!JV) (Am ⟨z5.heap.size,0,none⟩ 0 AD ((0,0,0,(⟨#[]⟩:cN),(⟨none,0,0⟩:AA),(⟨none,0,0⟩:AA)):AG) A6 fun AM=>Ae AM ⟨z5.heap.size,0,none⟩ 0 AD fun DD=>R DD 10 AM) (Ae A6 ⟨w.heap.size,0,none⟩ 0 AD fun Ew=>yN Ew A6 (fun V8 GP=>Br (V8 !=0) (Am ⟨z5.heap.size,0,none⟩ 0 AD ((0,0,0,(⟨#[]⟩:cN),(⟨none,0,0⟩:AA),(⟨none,0,0⟩:AA)):AG) GP fun Cb=>Ae Cb ⟨z5.heap.size,0,none⟩ 0 AD fun NH=>R NH V8 Cb) (Ld GP ⟨z4.heap.size,0,none⟩ (Value.int .i64) fun RH=>Br (RH==0) (Ae GP ⟨w.heap.size,0,none⟩ 0 AD fun PA=>C45 PA EJ GP (fun qz Gh=>Am ⟨z5.heap.size,0,none⟩ 0 AD qz Gh fun JQ=>Ae JQ ⟨z5.heap.size,0,none⟩ 0 AD fun RQ=>R RQ 0 JQ) PR) (Ae GP ⟨w.heap.size,0,none⟩ 0 AD fun Lc=>Ae GP ⟨z4.heap.size,0,none⟩ 0 AD fun RU=>C48 Lc EJ RU GP fun jg ET=>C47 jg ET fun qZ NK=>C46 qZ NK (fun fA qc FL=>Am ⟨z5.heap.size,0,none⟩ 0 AD fA FL fun jh=>Ae jh ⟨z5.heap.size,0,none⟩ 0 AD fun TU=>R TU qc jh) PR))) PR)
theorem T24 (o1 EJ v3 w R PR):S24 o1 EJ v3 w R PR->ze o1 EJ v3 w R PR:=qS (.agg [(.int .i64),(.int .i64),(.int .i64),.str,.BJ,.BJ]) oi (.q (.s (.q (.c (.q .l) .l)) (.s (.q (.q (.c (.q .l) .l))) (.s (.q (.c (.q .l) .l)) (.q .l))))) [.agg (Aj.cells AD o1).toArray,.string EJ,.agg (Aj.cells AD v3).toArray] Tryz.func24
def S25 (n1:Int)(w:World)(R:Q1 (AG)):Prop:=Nw w (.cells #[.int .i64 0,.int .i64 0,.int .i64 0,.string (⟨#[]⟩:cN),AA.v ⟨none,0,0⟩,AA.v ⟨none,0,0⟩] 26) fun z2=>Am ⟨w.heap.size,0,none⟩ 0 AD ((2,n1,0,(⟨#[]⟩:cN),(⟨none,0,0⟩:AA),(⟨none,0,0⟩:AA)):AG) z2 fun z3=>Ae z3 ⟨w.heap.size,0,none⟩ 0 AD fun x4=>R x4 z3
theorem T25 (n1 w R):S25 n1 w R->C25 n1 w R:=B2 (.agg [(.int .i64),(.int .i64),(.int .i64),.str,.BJ,.BJ]) (.q (.q .l)) [.int .i64 n1] Tryz.func25
end
set_option maxRecDepth 512
namespace Sh
open Go.RowKit
def Yl (P:Program)(l:Nat)(args:Array Value)(w:World)(K:Bool->World->Prop):Prop:=YieldAt Fence.wide 0 P l args w fun e w'=>∃b:Bool,e= .returned (.bool b)/\K b w'
def XG (E:Env)(o:Oper):Option (Nat×Call):=match o.op with
 | .call c=>match c.callee with
  | .value f=>match E.Ag f with
   | .func (.yield l) a b=>match a.toList,b.toList with
    |[],[]=>some (l,c)
    |_,_=>none
   |_=>none
  |_=>none
 |_=>none
def Vh:Op->Bool
 | .defer _=>false
 |_=>true
def ZB (P:Program)(F:Fx)(ops:Array Oper):List Oper->Env->World->(Env->World->Prop)->Prop
 |[],E,w,K=>K E w
 |o::r,E,w,K=>match XG E o with
  |some _=>j2 ops E o
   (fun E=>match XG E o with
    |some lc=>match hasAll E o.op with
     |true=>Yl P lc.1 (lc.2.args.map E.Ag) w fun b w'=>ZB P F ops r (E.put o.dst (.bool b)) w' K
     |false=>False
    |none=>False)
   (fun E=>ZB P F ops r (E.put o.dst undef) w K)
  |none=>match Vh o.op with
   |true=>FC P F false ops [o] E w fun E w=>ZB P F ops r E w K
   |false=>False
def TQ (P:Program)(ok:Nat->Bool)(ts:List Ty)(f:Value)(args:Array Value)(w:World)(K:Sg ts->World->Prop):Prop:=
 (∃l,f= .func (.yield l) #[] #[]/\Yl P l args w fun b w'=>∃s:Sg ts,Bs.DW (Sg.DV ts s)= .bool b/\K s w')\/
 ∃g first captured,f= .func (.func g) first captured/\(ok g&&(P.funcs[g]?).isSome)=true/\Calls P g ((first++args)++captured) w fun e w'=>∃s:Sg ts,e= .returned (Bs.DW (Sg.DV ts s))/\K s w'
def xB (o:Oper):Option (Nat×Call):=match o.op with
 | .call c=>match c.callee with
  | .value (.tmp t)=>some (t,c)
  |_=>none
 |_=>none
def KQ (P:Program)(F:Fx)(ops:Array Oper):List Oper->Env->World->(Env->World->Prop)->Prop
 |[],E,w,K=>K E w
 |o::r,E,w,K=>match xB o with
  |some tc=>j2 ops E o
   (fun E=>match hasAll E o.op with
    |true=>TQ P F.ok (Wy P o.type) (E.Ag (.tmp tc.1)) (tc.2.args.map E.Ag) w fun s w'=>KQ P F ops r (E.put o.dst (Bs.DW (Sg.DV (Wy P o.type) s))) w' K
    |false=>False)
   (fun E=>KQ P F ops r (E.put o.dst undef) w K)
  |none=>match Vh o.op with
   |true=>j2 ops E o
    (fun E=>match hasAll E o.op with
     |true=>y9 P F ops E o w fun v w'=>KQ P F ops r (E.put o.dst v) w' K
     |false=>False)
    (fun E=>KQ P F ops r (E.put o.dst undef) w K)
   |false=>False
def xC (P:Program)(F:Fx)(m:SN)(ops:Array Oper)(d:Bool)(E:Env)(w:World)(K:Env->World->Prop):Prop:=
 match d,m with
 |false,.seq=>ZB P F ops ops.toList E w K
 |false,.dyn=>KQ P F ops ops.toList E w K
 |true,.still=>match P.follows .mixedOrders&&(Region.lexB .any ops&&ops.toList.all fun o=>Vh o.op)with
  |true=>FC P F true ops ops.toList E w.drew K
  |false=>False
 |_,_=>False
def A8 (P:Program)(F:Fx):Aa->Code->Env->World->(Exit->Env->World->Prop)->Prop
 | .A7 m,.region _ ops d,E,w,K=>xC P F m ops d E w fun E w=>K .normal E w
 | .leaf,.skip,E,w,K=>K .normal E w
 | .leaf,.label _,E,w,K=>K .normal E w
 | .leaf,.exit id,E,w,K=>K (.exit id) E w
 | .leaf,.ret,E,w,K=>K .ret E w
 | .seq p q,.seq c d,E,w,K=>A8 P F p c E w fun e E w=>match e with
  | .normal=>A8 P F q d E w K
  |e=>K e E w
 | .join live AB p q,.seq c d,E,w,K=>match Cq AB c with
  |true=>As (fun s w=>A8 P F q d (ED live s++Env.AB E AB) w K) fun J=>A8 P F p c E w fun e E w=>match e with
   | .normal=>EC live E fun s=>J s w
   |e=>K e E w
  |false=>False
 | .cond p q,.cond x c d,E,w,K=>match E.Ag x with
  | .bool b=>Br b (A8 P F p c E w K) (A8 P F q d E w K)
  |_=>False
 | .block p,.block id c,E,w,K=>A8 P F p c E w fun e E w=>match e with
  | .exit i=>match Nat.beq i id with
   |true=>K .normal E w
   |false=>K (.exit i) E w
  |e=>K e E w
 | .loop live AB p,.loop c,E,w,K=>match Cq AB c with
  |true=>EC live E fun s0=>Lp (fun R s w=>A8 P F p c (ED live s++Env.AB E AB) w fun e E w=>match e with
   | .normal=>EC live E fun s=>R s w
   |e=>K e E w) s0 w
  |false=>False
 |_,_,_,_,_=>False
structure ND (G:Fence):Prop where
 fn:∀f,G.fn f
 dep:G.depth=none
 call:∀{P:Program} {f:FuncId} {args:Array Value} {w:World} {R:Ending->World->Prop},Calls P f args w R->CallsIn G 0 P f args w R
 round:∀{P:Program} {l:Nat} {f:FuncId} {tmps:Array Value} {a b:Code} {w:World} {R:Ending->World->Prop},RoundIn Fence.wide 0 P l f tmps a b w R->RoundIn G 0 P l f tmps a b w R
theorem ND.wide:ND Fence.wide:=⟨fun _=>trivial,rfl,fun h=>callsIn_wide.2 h,fun h=>h⟩
theorem ND.inRound(l:Nat):ND (Fence.wide.inRound l):=⟨fun _=>trivial,rfl,fun h=>CallsIn.inRound l (callsIn_wide.2 h),fun h=>h⟩
section
variable {P:Program} {F:Fx} {N:Nat} {G:Fence}
theorem Hh (hG:ND G){o:Oper}{a:Act}{next:Act->World->Prop}{Q:Exit->Act->World->Prop}{pk:Value->World->Prop}{K:Value->World->Prop}{r:Result Next}(h:MY P pk K r)
  (hk:∀v w',K v w'->next (a.put o.dst v) w') (hp:∀v w',pk v w'->Q (.panic (AV v)) a w'):o.uponIn G 0 P a next Q r:=by
 cases r with
 |halt x w=>
  cases x<;>try exact h.elim
  case panic v=>exact hp _ _ h
 |ok n w=>
  cases n<;>try exact h.elim
  case value v=>exact hk _ _ h
  case skip=>exact hk _ _ h
  case enter f args=>
   rw[Oper.uponIn_enter];refine ⟨fun hd=>by simp[hG.dep]at hd,hG.call (Calls.mono h fun e w' he=>?_)⟩;rcases he with ⟨v,rfl,hv⟩|⟨v,rfl,hv⟩
   ·exact hk _ _ hv
   ·exact hp _ _ hv
theorem Ju {o:Oper}(h:Vh o.op=true):∀c,o.op≠ .defer c:=fun c e=>by rw[e]at h;cases h
theorem Ms {E:Env}{o:Oper}{l:Nat}{c:Call}(h:XG E o=some (l,c)):o.op= .call c/\∃f,c.callee= .value f/\E.Ag f= .func (.yield l) #[] #[]:=by
 unfold XG at h;split at h
 ·rename_i c' ho;split at h
  ·rename_i f hf;split at h
   ·rename_i l' a b hr;split at h
    ·rename_i ha hb;simp only[aS,Prod.mk.injEq]at h;obtain ⟨rfl,rfl⟩:=h;refine ⟨ho,f,hf,?_⟩;rw[hr];obtain ⟨a⟩:=a;obtain ⟨b⟩:=b;simp only at ha hb;subst ha hb
     rfl
    ·cases h
   ·cases h
  ·cases h
 ·cases h
theorem G4 {E:Env}{o:Oper}{l:Nat}{c:Call}{f:Operand}(ho:o.op= .call c)(hc:c.callee= .value f)(hr:E.Ag f= .func (.yield l) #[] #[])(w:World):
  (execOp E.Ag o).run P w=((Instr.yield l (c.args.map E.Ag)).run P w):=by
 unfold execOp;simp only[ho,resolve,hc,hr,Deferred.ofValue];simp[go_sem,invoke]
theorem Iq (hG:ND G)(hF:Ac P F.ok){ops:Array Oper}{Q:Exit->Act->World->Prop}:∀(l:List Oper) (E:Env) (w:World) (K:Env->World->Prop) (a:Act),
  ZB P F ops l E w K->Fits N E a->CI N l->(∀E' a' w',K E' w'->Fits N E' a'->frame l a a'->Q .normal a' w')->
  (∀v a' w',F.pk v w'->Fits N [] a'->frame l a a'->Q (.panic (AV v)) a' w')->wpListIn G 0 P ops Q l a w
 |[],E,w,K,a,h,hf,_,hQ,_=>hQ E a w h hf (frame.refl _ _)
 |o::r,E,w,K,a,h,hf,hd,hQ,hP=>by
  have JA:CI N r:=fun p hp=>hd p (av _ hp)
  have ho:=hd o aw;unfold wpListIn;unfold ZB at h;split at h
  ·rename_i lc0 hy0;obtain ⟨l0,c0⟩:=lc0;have AT8:=(Ms hy0).1;rcases Bb h hf with ⟨hw,E',BV,hy⟩|⟨hw,E',BV,hn⟩
   ·rw[aG hw];split at hy
    ·rename_i lc nO;obtain ⟨l,c⟩:=lc;obtain ⟨h2,f,h3,h4⟩:=Ms nO;split at hy
     ·rename_i hb;refine ⟨fun f _=>hG.fn f,?_⟩;rw[Oper.semAt_plain G _ o (fun c e=>by rw[h2]at e;cases e),Ah BV hb,G4 h2 h3 h4];obtain ⟨fn,tmps,Mt,body,e1,e2⟩:=hy;simp only at e1;rw[e1,Oper.uponIn_round];refine ⟨fun hd=>by simp[hG.dep]at hd,hG.round (e2.mono fun e w' he=>?_)⟩;obtain ⟨b,rfl,hK⟩:=he;exact Iq hG hF r _ w' K _ hK (BV.put ho) JA (fun GH a' BB g1 g2 g3=>hQ _ _ _ g1 g2 (AL g3)) fun v a' BB g1 g2 g3=>hP v a' BB g1 g2 (AL g3)
     ·exact hy.elim
    ·exact hy.elim
   ·rw[aA (by rw[hw];simp)];exact ⟨fun f _=>hG.fn f,Iq hG hF r _ w K _ hn (BV.put ho) JA (fun GH a' BB h1 h2 h3=>hQ _ _ _ h1 h2 (AL h3)) fun v a' BB h1 h2 h3=>hP v a' BB h1 h2 (AL h3)⟩
  ·split at h
   ·rename_i GC;unfold FC at h;rcases Bb h hf with ⟨hw,E',BV,hy⟩|⟨hw,E',BV,hn⟩
    ·rw[aG hw];refine ⟨fun f _=>hG.fn f,?_⟩;rw[Oper.semAt_plain G _ o (Ju GC)];split at hy
     ·rename_i hb;simp only[ai]at hb;rw[Ah BV hb.1];refine Hh hG (CY hF hy) (fun v w' hk=>?_) fun v w' hp=>hP v a w' hp hf.some (frame.refl _ _)
      exact Iq hG hF r _ w' K _ hk (BV.put ho) JA (fun GH a' BB h1 h2 h3=>hQ _ _ _ h1 h2 (AL h3)) fun v a' BB h1 h2 h3=>hP v a' BB h1 h2 (AL h3)
     ·exact hy.elim
    ·rw[aA (by rw[hw];simp)];exact ⟨fun f _=>hG.fn f,Iq hG hF r _ w K _ hn (BV.put ho) JA (fun GH a' BB h1 h2 h3=>hQ _ _ _ h1 h2 (AL h3)) fun v a' BB h1 h2 h3=>hP v a' BB h1 h2 (AL h3)⟩
   ·exact h.elim
theorem ZC {o:Oper}{t:Nat}{c:Call}(h:xB o=some (t,c)):o.op= .call c/\c.callee= .value (.tmp t):=by
 unfold xB at h;split at h
 ·rename_i c' ho;split at h
  ·rename_i t' hc;simp only[aS,Prod.mk.injEq]at h;obtain ⟨rfl,rfl⟩:=h;exact ⟨ho,hc⟩
  ·cases h
 ·cases h
theorem En (hG:ND G)(hF:Ac P F.ok){ops:Array Oper}{Q:Exit->Act->World->Prop}:∀(l:List Oper) (E:Env) (w:World) (K:Env->World->Prop) (a:Act),
  KQ P F ops l E w K->Fits N E a->CI N l->(∀E' a' w',K E' w'->Fits N E' a'->frame l a a'->Q .normal a' w')->
  (∀v a' w',F.pk v w'->Fits N [] a'->frame l a a'->Q (.panic (AV v)) a' w')->wpListIn G 0 P ops Q l a w
 |[],E,w,K,a,h,hf,_,hQ,_=>hQ E a w h hf (frame.refl _ _)
 |o::r,E,w,K,a,h,hf,hd,hQ,hP=>by
  have JA:CI N r:=fun p hp=>hd p (av _ hp)
  have ho:=hd o aw;unfold wpListIn;unfold KQ at h;split at h
  ·rename_i tc hy0;obtain ⟨t,c⟩:=tc;obtain ⟨h2,h3⟩:=ZC hy0;rcases Bb h hf with ⟨hw,E',BV,hy⟩|⟨hw,E',BV,hn⟩
   ·rw[aG hw];split at hy
    ·rename_i hb;refine ⟨fun f _=>hG.fn f,?_⟩;rw[Oper.semAt_plain G _ o (fun c e=>by rw[h2]at e;cases e),Ah BV hb];rcases hy with ⟨l,hfv,QI⟩|ANb
     ·rw[G4 h2 h3 hfv];obtain ⟨fn,tmps,Mt,body,e1,e2⟩:=QI;simp only at e1;rw[e1,Oper.uponIn_round];refine ⟨fun hd=>by simp[hG.dep]at hd,hG.round (e2.mono fun e w' he=>?_)⟩;obtain ⟨b,rfl,s,hs,hK⟩:=he;rw[hs]at hK;exact En hG hF r _ w' K _ hK (BV.put ho) JA (fun GH a' BB g1 g2 g3=>hQ _ _ _ g1 g2 (AL g3)) fun v a' BB g1 g2 g3=>hP v a' BB g1 g2 (AL g3)
     ·obtain ⟨g,first,captured,e1,hg,hC⟩:=ANb;have hD:y9 P F ops E' o w fun v w'=>KQ P F ops r (E'.put o.dst v) w' K:=by
       unfold y9;rw[h2];simp only[h3];exact ⟨g,first,captured,e1,hg,hC.mono fun e w' he=> .inl he⟩
      refine Hh hG (QG hF hD) (fun v w' hk=>?_) fun v w' hp=>hP v a w' hp hf.some (frame.refl _ _)
      exact En hG hF r _ w' K _ hk (BV.put ho) JA (fun GH a' BB g1 g2 g3=>hQ _ _ _ g1 g2 (AL g3)) fun v a' BB g1 g2 g3=>hP v a' BB g1 g2 (AL g3)
    ·exact hy.elim
   ·rw[aA (by rw[hw];simp)];exact ⟨fun f _=>hG.fn f,En hG hF r _ w K _ hn (BV.put ho) JA (fun GH a' BB h1 h2 h3=>hQ _ _ _ h1 h2 (AL h3)) fun v a' BB h1 h2 h3=>hP v a' BB h1 h2 (AL h3)⟩
  ·split at h
   ·rename_i GC;rcases Bb h hf with ⟨hw,E',BV,hy⟩|⟨hw,E',BV,hn⟩
    ·rw[aG hw];refine ⟨fun f _=>hG.fn f,?_⟩;rw[Oper.semAt_plain G _ o (Ju GC)];split at hy
     ·rename_i hb;rw[Ah BV hb];refine Hh hG (QG hF hy) (fun v w' hk=>?_) fun v w' hp=>hP v a w' hp hf.some (frame.refl _ _)
      exact En hG hF r _ w' K _ hk (BV.put ho) JA (fun GH a' BB h1 h2 h3=>hQ _ _ _ h1 h2 (AL h3)) fun v a' BB h1 h2 h3=>hP v a' BB h1 h2 (AL h3)
     ·exact hy.elim
    ·rw[aA (by rw[hw];simp)];exact ⟨fun f _=>hG.fn f,En hG hF r _ w K _ hn (BV.put ho) JA (fun GH a' BB h1 h2 h3=>hQ _ _ _ h1 h2 (AL h3)) fun v a' BB h1 h2 h3=>hP v a' BB h1 h2 (AL h3)⟩
   ·exact h.elim
theorem Ki (hG:ND G){ops:Array Oper}{Q:Exit->Act->World->Prop}{w:World}{i:Nat}{a:Act}{K:Act->Prop}{K':Act->World->Prop}(GC:∀o,ops[i]?=some o->Vh o.op=true)(hK:∀a,K a->K' a w)(h:stOp P ops w i K a):wpOpIn G 0 P ops Q i K' a w:=by
 unfold wpOpIn;cases hi:ops[i]? with
 |none=>
  unfold stOp at h;simp only[hi]at h;exact hK _ h
 |some o=>
  obtain ⟨v,hy,hk⟩:=yieldsAt_of_stOp hi h;simp only;rcases hy with ⟨hw,hv⟩|⟨hw,rfl⟩
  ·rw[aG hw];refine ⟨fun f _=>hG.fn f,?_⟩;rw[Oper.semAt_plain G _ o (Ju (GC o hi))];rcases hv with hv|⟨hv,rfl⟩|⟨f,args,hv,hc⟩
   ·rw[hv];exact hK _ hk
   ·rw[hv];exact hK _ hk
   ·rw[hv,Oper.uponIn_enter];refine ⟨fun hd=>by simp[hG.dep]at hd,hG.call (Calls.mono hc fun e w' he=>?_)⟩;obtain ⟨rfl,rfl⟩:=he;exact hK _ hk
  ·rw[aA (by rw[hw];simp)];exact ⟨fun f _=>hG.fn f,hK _ hk⟩
theorem EG (hG:ND G){md:Region.Mode}{ops:Array Oper}{w:World}{Q:Act->Prop}{Q':Exit->Act->World->Prop}(GC:∀(i:Nat) (o:Oper),ops[i]?=some o->Vh o.op=true)(hQ:∀a,Q a->Q' .normal a w):∀(fuel:Nat) (listed:Array Bool) (a:Act),
  wpAnyS P md ops w Q fuel listed a->wpAnyIn G 0 P md ops Q' fuel listed a w
 |0,_,_,h=>⟨h.1,hQ _ h.2⟩
 |fuel+1,_,_,h=>⟨fun h0=>hQ _ (h.1 h0),fun i hi=>Ki hG (GC i) (fun a'=>EG hG GC hQ fuel _ a') (h.2 i hi)⟩
theorem nP (hG:ND G)(hF:Ac P F.ok){m:SN}{id:Nat}{ops:Array Oper}{d:Bool}{E:Env}{w:World}{K:Env->World->Prop}{a:Act}
  (h:xC P F m ops d E w K) (hf:Fits N E a) (hd:CI N ops.toList):
  (Code.region id ops d).wpIn G 0 P (HQ P F N ops a fun a' w'=>∃E',K E' w'/\Fits N E' a'/\frame ops.toList a a') a w:=by
 unfold xC at h;split at h
 ·exact wpIn_region_list (Iq hG hF _ _ _ _ _ h hf hd (fun E' a' w' h1 h2 h3=> .inl ⟨rfl,E',h1,h2,h3⟩) fun v a' w' h1 h2 h3=> .inr ⟨v,rfl,h1,h2,h3⟩)
 ·exact wpIn_region_list (En hG hF _ _ _ _ _ h hf hd (fun E' a' w' h1 h2 h3=> .inl ⟨rfl,E',h1,h2,h3⟩) fun v a' w' h1 h2 h3=> .inr ⟨v,rfl,h1,h2,h3⟩)
 ·split at h
  ·rename_i hB;simp only[ai]at hB;obtain ⟨hm,hL,hN⟩:=hB;have GC:∀(i:Nat) (o:Oper),ops[i]?=some o->Vh o.op=true:=fun i o ho=>aO.1 hN o (by
    rw[<-cA]at ho;exact ax ho)
   have NF:=Cs _ _ w.drew _ _ h hf hd (Q:=fun a'=>HQ P F N ops a (fun a' w'=>∃E',K E' w'/\Fits N E' a'/\frame ops.toList a a') .normal a' w.drew) fun E' a' h1 h2 h3=> .inl ⟨rfl,E',h1,h2,h3⟩
   simp only[Region.lexB,ai]at hL;refine wpIn_region_any hm (EG (Q:=fun a'=>HQ P F N ops a (fun a' w'=>∃E',K E' w'/\Fits N E' a'/\frame ops.toList a a') .normal a' w.drew) hG GC (fun _ h=>h) _ _ _ ?_);have:=wpAnyS_lex (md:= .any) hL.1 ops.toList 0 (Array.replicate ops.size false) a (by simp) (by simpa using hL.2) NF;simpa using this
  ·exact h.elim
 ·exact h.elim
theorem Ir (hG:ND G)(hF:Ac P F.ok):∀(c:Code) (pl:Aa) (E:Env) (w:World) (K:Exit->Env->World->Prop) (a:Act),
  A8 P F pl c E w K->Fits N E a->AZ N c=true->c.wpIn G 0 P (Bi N F c K a) a w:=by
 intro c
 induction c with
 |region id ops d=>
  intro pl E w K a h hf hs;cases pl<;>try exact (show False from h).elim
  rename_i m;have Zf:∀{a':Act},frame ops.toList a a'->A1 (.region id ops d) a a':=fun h=>⟨fun t ht=>h.1 t (OT ht),h.2⟩
  refine wpIn_mono (nP hG hF h hf (DB hs)) fun e a' w' hq=>?_
  rcases hq with ⟨he,E',h1,h2,h3⟩|⟨v,he,h1,h2,h3⟩
  ·exact .inl ⟨E',by subst he;exact h1,h2,Zf h3⟩
  ·exact .inr ⟨v,he,h1,h2,Zf h3⟩
 |skip=>
  intro pl E w K a h hf hs;cases pl<;>try exact (show False from h).elim
  exact wpIn_skip (.inl ⟨E,h,hf,A1.refl _ _⟩)
 |label l=>
  intro pl E w K a h hf hs;cases pl<;>try exact (show False from h).elim
  exact wpIn_label (.inl ⟨E,h,hf,A1.refl _ _⟩)
 |exit id=>
  intro pl E w K a h hf hs;cases pl<;>try exact (show False from h).elim
  exact wpIn_exit (.inl ⟨E,h,hf,A1.refl _ _⟩)
 |ret=>
  intro pl E w K a h hf hs;cases pl<;>try exact (show False from h).elim
  exact wpIn_ret (.inl ⟨E,h,hf,A1.refl _ _⟩)
 |seq c d Yw Yx=>
  intro pl E w K a h hf hs;simp only[AZ,ai]at hs;have iT:∀t,wr t (.seq c d)=false->wr t c=false/\wr t d=false:=fun t ht=>by simpa[wr]using ht
  have sc:∀{a b:Act},A1 c a b->A1 (.seq c d) a b:=fun h=>h.sub fun t ht=>(iT t ht).1
  have sd:∀{a b:Act},A1 d a b->A1 (.seq c d) a b:=fun h=>h.sub fun t ht=>(iT t ht).2
  have post:∀{a':Act} {e:Exit} {Gr:Act} {BB:World},A1 c a a'->Bi N F d K a' e Gr BB->Bi N F (.seq c d) K a e Gr BB:=fun h3 hq=>by
   rcases hq with ⟨GH,g1,g2,g3⟩|⟨v,g0,g1,g2,g3⟩
   ·exact .inl ⟨GH,g1,g2,(sc h3).trans (sd g3)⟩
   ·exact .inr ⟨v,g0,g1,g2,(sc h3).trans (sd g3)⟩
  cases pl<;>try exact (show False from h).elim
  ·rename_i p q;refine wpIn_seq (wpIn_mono (Yw p E w _ a h hf hs.1) fun e a' w' hq=>?_);rcases hq with ⟨E',h1,h2,h3⟩|⟨v,rfl,h1,h2,h3⟩
   ·cases e<;>try exact .inl ⟨E',h1,h2,sc h3⟩
    exact wpIn_mono (Yx q E' w' K a' h1 h2 hs.2) fun e Gr BB hq=>post h3 hq
   ·exact .inr ⟨v,rfl,h1,h2,sc h3⟩
  ·rename_i live AB p q
   replace h:match Cq AB c with
    |true=>As (fun s w=>A8 P F q d (ED live s++Env.AB E AB) w K) fun J=>A8 P F p c E w fun e E w=>match e with
     | .normal=>EC live E fun s=>J s w
     |e=>K e E w
    |false=>False:=h
   split at h
   ·rename_i hk;obtain ⟨J,hb,JB⟩:=h;refine wpIn_seq (wpIn_mono (Yw p E w _ a JB hf hs.1) fun e a' w' hq=>?_);rcases hq with ⟨E',h1,h2,h3⟩|⟨v,rfl,h1,h2,h3⟩
    ·cases e<;>try exact .inl ⟨E',h1,h2,sc h3⟩
     obtain ⟨s,hJ,NF⟩:=Ct (N:=N) h1;have Er:Fits N (ED live s++Env.AB E AB) a':=CK (NF a' h2) (CJ hf AB fun t ht=>h3.1 t (Ej hk t ht)) h2.size;exact wpIn_mono (Yx q _ w' K a' (hb s w' hJ) Er hs.2) fun e Gr BB hq=>post h3 hq
    ·exact .inr ⟨v,rfl,h1,h2,sc h3⟩
   ·exact h.elim
 |cond x c d Yw Yx=>
  intro pl E w K a h hf hs;simp only[AZ,ai]at hs;have iT:∀t,wr t (.cond x c d)=false->wr t c=false/\wr t d=false:=fun t ht=>by simpa[wr]using ht
  have sc:∀{a b:Act},A1 c a b->A1 (.cond x c d) a b:=fun h=>h.sub fun t ht=>(iT t ht).1
  have sd:∀{a b:Act},A1 d a b->A1 (.cond x c d) a b:=fun h=>h.sub fun t ht=>(iT t ht).2
  cases pl<;>try exact (show False from h).elim
  rename_i p q
  replace h:match E.Ag x with
   | .bool b=>Br b (A8 P F p c E w K) (A8 P F q d E w K)
   |_=>False:=h
  split at h
  ·rename_i b hb;rcases Ij h with ⟨rfl,h⟩|⟨rfl,h⟩
   ·refine wpIn_cond_true (Io hf hb) (wpIn_mono (Yw p E w K a h hf hs.1) fun e a' w' hq=>?_);rcases hq with ⟨E',h1,h2,h3⟩|⟨v,h0,h1,h2,h3⟩
    ·exact .inl ⟨E',h1,h2,sc h3⟩
    ·exact .inr ⟨v,h0,h1,h2,sc h3⟩
   ·refine wpIn_cond_false (Io hf hb) (wpIn_mono (Yx q E w K a h hf hs.2) fun e a' w' hq=>?_);rcases hq with ⟨E',h1,h2,h3⟩|⟨v,h0,h1,h2,h3⟩
    ·exact .inl ⟨E',h1,h2,sd h3⟩
    ·exact .inr ⟨v,h0,h1,h2,sd h3⟩
  ·exact h.elim
 |block id c ih=>
  intro pl E w K a h hf hs;have sc:∀{a b:Act},A1 c a b->A1 (.block id c) a b:=fun h=>h.sub fun t ht=>by simpa[wr]using ht
  cases pl<;>try exact (show False from h).elim
  rename_i p;refine wpIn_block (wpIn_mono (ih p E w _ a h hf hs) fun e a' w' hq=>?_);rcases hq with ⟨E',h1,h2,h3⟩|⟨v,rfl,h1,h2,h3⟩
  ·cases e with
   |exit i=>
    replace h1:match Nat.beq i id with
     |true=>K .normal E' w'
     |false=>K (.exit i) E' w':=h1
    show if i=id then _ else _
    cases hb:Nat.beq i id with
    |true=>rw[hb]at h1;rw[aG (beq_eq hb)];exact .inl ⟨E',h1,h2,sc h3⟩
    |false=>rw[hb]at h1;rw[aA (fun e=>by subst e;simp at hb)];exact .inl ⟨E',h1,h2,sc h3⟩
   |_=>exact .inl ⟨E',h1,h2,sc h3⟩
  ·exact .inr ⟨v,rfl,h1,h2,sc h3⟩
 |loop c ih=>
  intro pl E w K a h hf hs;have sc:∀{a b:Act},A1 c a b->A1 (.loop c) a b:=fun h=>h.sub fun t ht=>by simpa[wr]using ht
  cases pl<;>try exact (show False from h).elim
  rename_i live AB p
  replace h:match Cq AB c with
   |true=>EC live E fun s0=>Lp (fun R s w=>A8 P F p c (ED live s++Env.AB E AB) w fun e E w=>match e with
    | .normal=>EC live E fun s=>R s w
    |e=>K e E w) s0 w
   |false=>False:=h
  split at h
  ·rename_i hk;obtain ⟨s0,⟨I,n0,h0,Vf⟩,xA⟩:=Ct (N:=N) h;refine wpIn_loop_ghost (rm:=0) (fun n a' w'=>∃s,I n s w'/\Fits N (ED live s++Env.AB E AB) a'/\A1 c a a') n0
    ⟨s0,h0,CK (xA a hf) (CJ hf AB fun _ _=>rfl) hf.size,A1.refl _ _⟩ ?_
   rintro n a' w' ⟨s,hI,Er,JB⟩;refine wpIn_mono (ih p _ w' _ a' (Vf n s w' hI) Er hs) fun e Gr BB hq=>?_
   rcases hq with ⟨GH,g1,g2,g3⟩|⟨v,rfl,g1,g2,g3⟩
   ·have Hg:=JB.trans g3;cases e<;>try exact .inl ⟨GH,g1,g2,sc Hg⟩
    obtain ⟨s',⟨n',Au,wC⟩,NF⟩:=Ct (N:=N) g1;exact ⟨n',Au,s',wC,CK (NF Gr g2) (CJ hf AB fun t ht=>Hg.1 t (Ej hk t ht)) g2.size,Hg⟩
   ·exact .inr ⟨v,rfl,g1,g2,sc (JB.trans g3)⟩
  ·exact h.elim
 |_=>
  intro pl E w K a h hf hs;cases pl<;>exact (show False from h).elim
def yM (P:Program)(F:Fx)(pl:Aa)(fn:Func)(args:List Value)(w:World)(tys:List Ty)(R:Sg tys->World->Prop):Prop:=
 match fn.body with
 |none=>False
 |some c=>A8 P F pl c (P9 0 args) w fun e E w=>match e with
  | .normal=>NY P fn.results.toList E w fun vs=>match Sg.get? tys vs with
   |some s=>R s w
   |none=>False
  | .ret=>NY P fn.results.toList E w fun vs=>match Sg.get? tys vs with
   |some s=>R s w
   |none=>False
  |_=>False
theorem GO {ok may:Nat->Bool}(hF:Ac P ok){f:FuncId}{fn:Func}{pl:Aa}{args:List Value}{w:World}{tys:List Ty}{R:Sg tys->World->Prop}
  (hf:P.funcs[f]?=some fn) (hN:(match fn.body with
   |some c=>AZ fn.ntmps c
   |none=>false)=true) (ha:Nat.ble args.length fn.ntmps=true)
  (h:yM P ⟨ok,may,fun _ _=>False⟩ pl fn args w tys R):CallsIn Fence.wide 0 P f args.toArray w fun e w'=>∃s:Sg tys,e= .returned (Bs.DW (Sg.DV tys s))/\R s w':=by
 unfold yM at h;split at h
 ·exact h.elim
 ·rename_i c hc;rw[hc]at hN;refine callsIn_of_wp hf hc trivial ?_ rfl;refine wpIn_mono (Ir (F:=⟨ok,may,fun _ _=>False⟩) ND.wide hF c pl _ w _ _ h (KG (bD ha)) hN) fun e a' w' hq=>?_
  rcases hq with ⟨E',h1,h2,h3⟩|⟨v,rfl,h1,h2,h3⟩
  ·have fin:FE P fn tys R E' w'->a'.defers=[]/\∃v,(results fn a'.tmps).run P w'= .ok v w'/\∃s:Sg tys,Ending.returned v= .returned (Bs.DW (Sg.DV tys s))/\R s w':=fun h=>by
    obtain ⟨v,g1,g2⟩:=CX h2 h;exact ⟨h3.2,v,g1,g2⟩
   cases e with
   |normal=>exact fin h1
   |ret=>exact fin h1
   |_=>exact h1.elim
  ·exact h1.elim
end
end Sh
end Go.Proofs.YtdnhhkhbdfiagaaGreatDoor

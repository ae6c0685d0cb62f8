/- Joined texts of the proof; conditions stand in each theorem. -/
import Derived.Test.YtdmmgclkphaaaaaGreatDoorQYQFil1
import Derived.Test.YtdmmgclkphaaaaaGreatDoorQYQFil9
import Derived.Test.YtdmmgclkphaaaaaGreatDoorRows
import Derived.WalkKit
import Derived.ProofKit
import Derived.OpenShut
import Derived.Deep.DeepHandedRow
import Derived.Lib.LaidTab
import Derived.LaidMore
import Derived.Maps.OwnSet
import Derived.ChangeSame
set_option linter.unusedVariables false
set_option linter.unusedSimpArgs false
open Go.Proofs.Tryz (prog)
namespace Go.Proofs.YtdmmgclkphaaaaaGreatDoor
set_option maxRecDepth 8000
set_option maxHeartbeats 4000000
namespace Fi
open Sh Vl
section
variable {w w' w1 w0 v v0:World} {o:Ob} {t X:Tr} {p:P3} {s:AA} {FL:List ByteArray} {AL TL:List P3} {many:Nat}
attribute [local irreducible] Ld Sh.St Nw Lt AP Af B1 A6
theorem KO {R:AA->World->Prop}{PR:Value->World->Prop}(h:VJ v0 s (TL.map Ba))(IL:∀q∈TL,Gb (Ba q)=true)(hl:TL.length<=many)(h8:many<=8)
  (hR:∀r w1,PV w1 r (TL++List.replicate (many-TL.length) us)->(∀j,r.own j->v0.heap.size<=j)->Ext (fun _=>False) v0 w1->R r w1):oQ (many:Int) R PR s v0:=by
 unfold oQ;have Ga:=h.len;rw[bp]at Ga;refine ⟨fun n st v=>∃(i:Nat) (sl:AA),st=(sl,(i:Int))/\n=TL.length-i/\i<=TL.length/\Row v sl 27 3 ((TL.take i).flatMap BY)/\(∀j,sl.own j->v0.heap.size<=j)/\Ext (fun _=>False) v0 v,TL.length,⟨0,⟨none,0,0⟩,rfl,rfl,by omega,Row.nil _ _ _,fun j hj=>absurd hj (Cq j),Ext.refl _ _⟩,?_⟩;rintro n st v ⟨i,sl,rfl,rfl,hi,UK,hO,hE⟩;unfold AAk;have oR:sl.len=i:=by
  have:=UK.view.count Gr (by decide);rw[au,bo hi]at this;exact this
 refine Br.dec (fun q=>?_) fun q=>?_
 ·have q:(i:Int)<((s.len:Nat):Int):=q;have hq:=ad (show i<TL.length by omega);generalize TL[i]=pm at hq;obtain ⟨x,hx,hw⟩:=Y5 (h.AB hE) (i:=i) (t:=Ba pm) (by rw[aE,hq];rfl);dsimp only;rw[aa];refine ⟨by omega,q,hw _ ?_⟩;refine (Hn.start v).nw (cs:=z6) fun w4 H4=>?_
  simp only[ag]at H4;refine H4.lS (i:=0) (ts:=AD) (pre:=[]) (post:=[]) (x:=x) (zs:=z6) rfl rfl rfl fun w5 H5=>?_
  simp only[ai,ag,aM,AR]at H5;refine H5.Dx (i:=0) (ts:=AD) (pre:=[]) (post:=[]) (x:=x) rfl rfl ((mn (hx.AB H5.ext) (Ext.refl _ _) (IL pm (aB hq)) PR).mono ?_ (fun _ _ h=>h));rintro vH w6 ⟨rfl,e6⟩;refine Nw.of ?_;have eB:Ext (fun _=>False) w6 (w6.alloc (.cells (BY vH).toArray 27)):=(Ext.refl _ _).alloc _;have hB:=AO.new w6 (BY vH).toArray 27;have hE6:=((hE.tr H5.ext).tr e6).tr eB;obtain ⟨Bi,u3,r1,r2,r3,e3,r5⟩:=oG.Ip (ty:=32) (((UK.AB H5.ext fun _ _ h=>h).AB e6 fun _ _ h=>h).AB eB fun _ _ h=>h) hB rfl (Iu vH) (by omega) (by omega);refine ⟨Bi,u3,r1,TL.length-(i+1),by omega,i+1,Bi,by rw[AE (by omega)];rfl,rfl,by omega,?_,fun j hj=>(r5 j hj).elim (hO j) fun h=>by have:=hE6.size;omega,Ac.Ext.IG hE6 e3 fun j hj=>hO j hj⟩;rw[aO,hq,bJ];simpa using r2
 have SE:i=TL.length:=by
  have q:¬(i:Int)<((s.len:Nat):Int):=q;omega
 subst SE;rw[bj]at UK;refine (Cd 1 v PR (aD (by omega))).mono ?_ (fun _ _ h=>h);rintro v1 rfl;refine ⟨fun n st u=>∃k:Nat,st=(k:Int)/\n=TL.length-k/\k<=TL.length/\Ext (fun _=>False) v1 u,TL.length,⟨0,rfl,rfl,by omega,Ext.refl _ _⟩,?_⟩;rintro n st u ⟨k,rfl,rfl,hk,hX⟩;unfold AAl;refine Br.dec (fun q=>?_) fun q=>?_
 ·have hq:=ad (show k<TL.length by omega);generalize TL[k]=pm at hq;obtain ⟨x,hx,hw⟩:=Y5 (h.AB (hE.tr hX)) (i:=k) (t:=Ba pm) (by rw[aE,hq];rfl);rw[aa];refine ⟨by omega,by omega,hw _ ?_⟩;refine (Hn.start u).nw (cs:=z6) fun w4 H4=>?_
  simp only[ag]at H4;refine H4.lS (i:=0) (ts:=AD) (pre:=[]) (post:=[]) (x:=x) (zs:=z6) rfl rfl rfl fun w5 H5=>?_
  simp only[ai,ag,aM,AR]at H5;refine H5.Dx (i:=0) (ts:=AD) (pre:=[]) (post:=[]) (x:=x) rfl rfl ((xH (hx.AB H5.ext) (Ext.refl _ _) (IL pm (aB hq))).mono ?_);rintro r w6 ⟨rfl,e6⟩;refine (Cd 1 w6 PR rfl).mono ?_ (fun _ _ h=>h);rintro w7 rfl;exact ⟨TL.length-(k+1),by omega,k+1,by rw[AE (by omega)];rfl,rfl,by omega,(hX.tr H5.ext).tr e6⟩
 have hEX:=hE.tr hX;refine ⟨fun n st u2=>∃m:Nat,n=many-TL.length-m/\m<=many-TL.length/\Row u2 st 27 3 ((TL++List.replicate m us).flatMap BY)/\(∀j,st.own j->v0.heap.size<=j)/\Ext (fun _=>False) v0 u2,many-TL.length,⟨0,by omega,by omega,by simpa using UK.AB hX fun _ _ h=>h,hO,hEX⟩,?_⟩;rintro n st u2 ⟨m,rfl,hm,hRm,hOm,hEm⟩;unfold AAm;have hc:st.len=TL.length+m:=by
  have:=hRm.view.count Gr (by decide);rw[ae,aI]at this;exact this
 refine Br.dec (fun q=>?_) fun q=>?_
 ·refine (Kz u2).mono ?_;rintro r w6 ⟨rfl,e6⟩;refine Nw.of ?_;have eB:Ext (fun _=>False) w6 (w6.alloc (.cells (BY us).toArray 27)):=(Ext.refl _ _).alloc _;have hB:=AO.new w6 (BY us).toArray 27;have hE6:=(hEm.tr e6).tr eB;obtain ⟨Bi,u3,r1,r2,r3,e3,r5⟩:=oG.Ip (ty:=32) ((hRm.AB e6 fun _ _ h=>h).AB eB fun _ _ h=>h) hB rfl (Iu us) (by omega) (by omega);refine ⟨Bi,u3,r1,many-TL.length-(m+1),by omega,m+1,rfl,by omega,?_,fun j hj=>(r5 j hj).elim (hOm j) fun h=>by have:=hE6.size;omega,Ac.Ext.IG hE6 e3 fun j hj=>hOm j hj⟩;rw[List.replicate_succ',<-ax,bJ];simpa using r2
 ·have hmm:m=many-TL.length:=by omega
  subst hmm;exact hR _ _ (QJ hRm.view) hOm hEm
theorem xK {wb:World}(h:OX wb o X)(E:Ext (fun _=>False) wb w)(hs:Gb X=true)(IL:∀q∈AL,Gb (Ba q)=true)(h8:AL.length<=8)
  (hg:(AL=List.replicate AL.length us/\CL Ow X=none)\/(AL≠[us]/\CL Ow X=some (BI (AL.map Ba)))) (PR:Value->World->Prop):
  C23 o (AL.length:Int) w (fun r w1=>PV w1 r AL/\(∀j,r.own j->w.heap.size<=j)/\Ext (fun _=>False) w w1) PR:=by
 refine T23 o _ _ _ _ ?_;unfold S23;rw[AR];refine (Hn.start w).nw (cs:=AF o) fun w2 H=>?_
 simp only[ag]at H;refine CP.intro ?_;refine H.Dx (i:=0) (ts:=AD) (pre:=[]) (post:=[]) (x:=o) rfl rfl ((gA h (E.tr H.ext) hs Ow).mono ?_);rintro r b w3 ⟨hr,e3⟩;refine (H.AB e3).Ro (cs:=z6) fun w4 H4 e34=>?_
 simp only[ar,ag]at H4;refine A6.AS (ts:=AD) (pre:=[]) (zs:=z6) (post:=[]) (x:=r) (H4.get 1 rfl) rfl rfl fun w5 vD Vf=>?_
 simp only[ag,aM]at vD;have H5:=Dh H4 (i:=1) rfl Vf (CU:=AF r) vD;simp only[aq,ai]at H5;have z5:=H5.size;rcases hg with ⟨BF,hg⟩|⟨oS,hg⟩
 ·rw[hg]at hr;rcases hr with ⟨x,hx,_⟩|⟨_,rfl,rfl⟩
  ·cases hx
  refine Vl.Br.f rfl (KO (TL:=[]) (xI w5) (fun q hq=>by cases hq) (bz _) h8 fun r' w1 k1 k2 k3=>⟨?_,fun j hj=>by have:=k2 j hj;omega,H5.ext.tr k3⟩);rw[BF];simpa using k1
 ·rw[hg]at hr;rcases hr with ⟨x,hx,hX,rfl⟩|⟨hx,_⟩
  rotate_left
  ·cases hx
  obtain rfl:=aY hx;refine Vl.Br.t rfl ?_;refine H5.Dx (i:=1) (ts:=AD) (pre:=[]) (post:=[]) (x:=r) rfl rfl ?_;refine H5.Ro (cs:=AF r) fun w6 H6 e56=>?_
  simp only[ar,ag,add_lit,aj]at H6⊢;have z6':=H6.size;have xJ:OX w6 r (BI (AL.map Ba)):=hX.to.AB ((Ac.Ext.IG e34 Vf fun j e=>by have e:j=w3.heap.size:=e;omega).tr e56);refine H6.ld (x:=r.1) 1 rfl rfl ?_;have hk:=xJ.out.1.1;have fin:∀r' w1,PV w1 r' (AL++List.replicate (AL.length-AL.length) us)->(∀j,r'.own j->w6.heap.size<=j)->Ext (fun _=>False) w6 w1->PV w1 r' AL/\(∀j,r'.own j->w.heap.size<=j)/\Ext (fun _=>False) w w1:=fun r' w1 k1 k2 k3=>⟨by rw[cl,List.replicate_zero,aM]at k1;exact k1,fun j hj=>by have:=k2 j hj;omega,H6.ext.tr k3⟩
  by_cases h1:AL.length=1
  ·match AL,h1,oS with
   |[q],_,oS=>
    have hk7:r.1=7:=by
     rw[hk];show (Ba q).k=7;rw[fz,ah (fun e=>oS (by rw[e]))]
    refine Br.eq (fun q=>by omega) fun _=>H6.ld (x:=r.1) 1 rfl rfl ((Cd 10 w6 PR (by rw[hk7];rfl)).mono ?_ (fun _ _ h=>h))
    rintro w7 rfl;exact KO (TL:=[q]) (gB (H6.get 2 rfl) xJ) IL (av _) h8 fin
  ·rw[It (by rw[bp];exact h1)]at xJ hk;have hk6:r.1=6:=hk;refine Br.eq (fun _=>H6.ld (x:=r.2.2.2.2.2) 1 rfl rfl ?_) fun q=>absurd hk6 q
   exact KO (TL:=AL) xJ.out.2.2 IL (av _) h8 fin
end
end Fi
namespace Fi
open Sh Vl
open IK (GB)
section
variable {w w' w1 w0 v v0:World} {o:Ob} {t X:Tr} {p:P3} {s:AA} {FL:List ByteArray} {AL TL:List P3} {many:Nat}
attribute [local irreducible] Ld Sh.St Nw Lt AP Af B1 A6
theorem AJQ {wb:World}(h:OX wb o X)(E:Ext (fun _=>False) wb w)(hs:Gb X=true)(hk:X.k=9)(hgf:CL HM X=if FL=[]then none else some (BI (FL.map CK)))(h8:FL.length<=8)(Gu:∀n∈FL,DN n=(n,true))(hlen:AL.length=FL.length)
  (IL:∀q∈AL,Gb (Ba q)=true) (jl:∀q∈AL,GB q=true) (hgp:(AL=List.replicate AL.length us/\CL Ow X=none)\/(AL≠[us]/\CL Ow X=some (BI (AL.map Ba)))):
  C7 o w (fun r1 r2 e w1=>KV w1 r1 FL/\PV w1 r2 AL/\e=0/\Ext (fun _=>False) w w1):=by
 have ME:=h.out.1.1;refine T7 o _ _ ?_;unfold S7;rw[AR];refine (Hn.start w).nw (cs:=AF o) fun w2 H=>H.nw (cs:=[AA.v ⟨none,0,0⟩]) fun w3 H=>H.nw (cs:=[AA.v ⟨none,0,0⟩]) fun w4 H=>H.nw (cs:=[.int .i64 0]) fun w5 H=>?_
 simp only[ar,ag]at H;refine H.ld (x:=o.1) 0 rfl rfl ((Cd 10 w5 _ (by rw[ME,hk];rfl)).mono ?_ (fun _ _ h=>h));rintro w6 rfl;refine H.Dx (i:=0) (ts:=AD) (pre:=[]) (post:=[]) (x:=o) rfl rfl ((oP h (E.tr H.ext) hs hgf h8 _).mono ?_ (fun _ _ h=>h));rintro FQ v00 ⟨hK,hKo,e0⟩;have H0:=H.AB e0;have AeH:=hK.1.1;refine (Cd 6 v00 _ (aD (by omega))).mono ?_ (fun _ _ h=>h);rintro v0 rfl;have hKS:FL≠[]->∀j,FQ.own j->w6.heap.size<=j/\j<v0.heap.size:=fun A2 j hj=>⟨hKo j hj,by
  obtain ⟨b,hb⟩:∃b,FL[0]?=some b:=by
   cases hc:FL with
   |nil=>exact absurd hc A2
   |cons x r=>exact ⟨x,rfl⟩
  obtain ⟨a,ha,hc⟩:=hK.2 0 b hb;obtain ⟨a',Oq,rfl⟩:=hj;rw[ha]at Oq;cases Oq;have:=BJ hc;rwa[Bl]at this⟩
 have l2:w2.heap.size<w6.heap.size:=H.lt 1 rfl;have l3:w3.heap.size<w6.heap.size:=H.lt 2 rfl;have l4:w4.heap.size<w6.heap.size:=H.lt 3 rfl;have z0:=e0.size;refine ⟨fun n st v=>∃(i:Nat) (sl:AA),st=(i:Int)/\n=FL.length-i/\i<=FL.length/\Hn w v [(w.heap.size,AF o,25),(w2.heap.size,[AA.v sl],22),(w3.heap.size,[AA.v ⟨none,0,0⟩],32),(w4.heap.size,[.int .i64 0],28)]/\
  Row v sl 9 1 (strs (FL.take i))/\(∀j,sl.own j->v0.heap.size<=j)/\KV v FQ FL/\v0.heap.size<=v.heap.size,FL.length,⟨0,⟨none,0,0⟩,rfl,rfl,by omega,H0,Row.nil _ _ _,fun j hj=>absurd hj (Cq j),hK,av _⟩,?_⟩
 rintro n st v ⟨i,sl,rfl,rfl,hi,HV,UK,hO,hKv,hz⟩;unfold AJR;have Ga:sl.len=i:=by have:=UK.view.1;rw[K5,au,bo hi]at this;omega
 have l0:w.heap.size<w6.heap.size:=H.lt 0 rfl;refine Br.dec (fun q=>?_) fun q=>?_
 ·have hq:=ad (show i<FL.length by omega);generalize FL[i]=nm at hq;obtain ⟨a,ha,Y3⟩:=hKv.2 i nm hq;rw[aa,aH];refine ⟨by omega,by omega,a,ha,Ld.mk (x:=nm) Y3 ((Yr nm v).mono ?_)⟩;rintro r ok v1 ⟨hf,rfl⟩;rw[Gu nm (aB hq)]at hf;obtain ⟨rfl,rfl⟩:=Prod.mk.inj hf;refine (Cd 15 v1 _ rfl).mono ?_ (fun _ _ h=>h);rintro v2 rfl;refine HV.ld (x:=sl) 1 rfl rfl (Nw.of ?_);have eB:Ext (fun _=>False) v2 (v2.alloc (.cells #[Value.string r] 9)):=(Ext.refl _ _).alloc _;have hB:=AO.new v2 [Value.string r].toArray 9;obtain ⟨Bi,u3,r1,r2,r3,e3,r5⟩:=Gt.Ip (ty:=22) (UK.AB eB fun _ _ h=>h) hB rfl (fun v hv=>by rw[az.1 hv];rfl) (by omega) (by omega);refine ⟨Bi,u3,r1,?_⟩;have zB:=eB.size;have z3:=e3.size;have HV3:=(HV.AB eB).other e3 fun j hj=>⟨by have:=hO j hj;omega,fun hm=>by
   have:=hO j hj;simp only[bw,cK,aN,bQ,dZ]at hm;omega⟩
  refine HV3.EV 1 rfl (by simp) fun u4 H4 e4=>?_
  simp only[ai,aq]at H4;have z4:=e4.size;have hO':∀j,Bi.own j->v0.heap.size<=j:=fun j hj=>(r5 j hj).elim (hO j) fun h=>by omega
  refine ⟨FL.length-(i+1),by omega,i+1,Bi,by rw[AE (by omega)];rfl,rfl,by omega,H4,?_,hO',?_,by omega⟩
  ·rw[aO,hq,QI];exact Row.AB r2 e4 fun j hj e=>by
    have:=hO' j hj;have e:j=w2.heap.size:=e;omega
  ·refine QG (QG (hKv.AB eB) hKS e3 fun j hj h=>by have:=hO j h;omega) hKS e4 fun j hj e=>by
    have e:j=w2.heap.size:=e;omega
 have xD:i=FL.length:=by omega
 subst xD;rw[bj]at UK;refine HV.Dx (i:=0) (ts:=AD) (pre:=[]) (post:=[]) (x:=o) rfl rfl ?_;rw[show ((FQ.len:Nat):Int)=(AL.length:Int) by omega];refine (xK h (E.tr HV.ext) hs IL (by omega) hgp _).mono ?_ (fun _ _ h=>h);rintro gC v1 ⟨hP,hPo,e1⟩;have z1:=e1.size;refine (HV.AB e1).EV 2 rfl (by simp) fun v2 H2 e2=>?_
 simp only[ai,aq]at H2;have z2:=e2.size;have YG:PV v2 gC AL:=hP.AI e2 fun j hj e=>by
  have:=hPo j hj;have e:j=w3.heap.size:=e;omega
 have jO:KV v2 sl FL:=(UH (UK.AB e1 fun _ _ h=>h).view (by omega)).AI e2 fun j hj e=>by
  have:=hO j hj;have e:j=w3.heap.size:=e;omega
 have ADT:∀j,sl.own j->v0.heap.size<=j:=hO;refine H2.ld (x:=sl) 1 rfl rfl ?_;refine ⟨fun n st u=>∃k:Nat,st=(k:Int)/\n=FL.length-k/\k<=FL.length/\Ext (fun _=>False) v2 u,FL.length,⟨0,rfl,rfl,by omega,Ext.refl _ _⟩,?_⟩;rintro n st u ⟨k,rfl,rfl,YD,hX⟩;have HU:=H2.AB hX;have zu:=hX.size;unfold AJS;refine Br.dec (fun q=>?_) fun q=>?_
 ·have hq:=ad (show k<FL.length by omega);generalize FL[k]=nm at hq;have Rb:=ad (show k<AL.length by omega);generalize AL[k]=pm at Rb;obtain ⟨a,ha,Y3⟩:=(jO.AB hX).2 k nm hq;obtain ⟨a2,QM,c0,c1,c2⟩:=(YG.AB hX).get Rb;have OH:=YG.1;rw[aa,aH];refine ⟨by omega,by omega,a,ha,Ld.mk (x:=nm) Y3 (HU.ld (x:=gC) 2 rfl rfl ⟨by omega,by omega,a2,QM,?_⟩)⟩;simp only[BN];refine Ld.mk c0 (Ld.mk c1 (Ld.mk c2 ((IK.Ov (pm.1,pm.2.1,pm.2.2) u).mono ?_)));rintro r u1 ⟨rfl,e3⟩;have ho:GB (pm.1,pm.2.1,pm.2.2)=true:=jl pm (aB Rb);rw[ak ho];exact Br.ne (fun h=>absurd rfl h) fun _=>⟨FL.length-(k+1),by omega,k+1,by rw[AE (by omega)];rfl,rfl,by omega,hX.tr e3⟩
 have b1:=HU.get 1 rfl;have b2:=HU.get 2 rfl;refine ⟨fun w'=>AO w' w2.heap.size #[AA.v sl] 22/\AO w' w3.heap.size #[AA.v gC] 32,⟨b1,b2⟩,AP.of (x:=sl) (fun w' h=>h.1) rfl (AP.of (x:=gC) (fun w' h=>h.2) rfl ?_)⟩;have HD:=HU.drew;refine HD.EV 1 rfl (by simp) fun u1 G1 f1=>⟨⟨G1.get 1 rfl,G1.get 2 rfl⟩,?_⟩
 simp only[ai,aq]at G1;refine G1.EV 2 rfl (by simp) fun u2 G2 f2=>?_
 simp only[ai,aq]at G2;refine G2.EV 3 rfl (by simp) fun u3 G3 f3=>?_
 simp only[ai,aq]at G3;refine xL _ _ _ _ _ ?_;unfold UL;refine G3.ld (x:=sl) 1 rfl rfl (G3.ld (x:=gC) 2 rfl rfl (G3.ld (x:=(0:Int)) 3 rfl rfl ⟨?_,?_,rfl,G3.ext⟩))
 ·have eD:Ext (fun _=>False) u u.drew:=(Ext.refl _ u).drew;refine (((jO.AB (hX.tr eD)).AI f1 fun j hj e=>?_).AI f2 fun j hj e=>?_).AI f3 fun j hj e=>?_
  ·have:=ADT j hj;have e:j=w2.heap.size:=e;omega
  ·have:=ADT j hj;have e:j=w3.heap.size:=e;omega
  ·have:=ADT j hj;have e:j=w4.heap.size:=e;omega
 ·have eD:Ext (fun _=>False) u u.drew:=(Ext.refl _ u).drew;refine (((YG.AB (hX.tr eD)).AI f1 fun j hj e=>?_).AI f2 fun j hj e=>?_).AI f3 fun j hj e=>?_
  ·have:=hPo j hj;have e:j=w2.heap.size:=e;omega
  ·have:=hPo j hj;have e:j=w3.heap.size:=e;omega
  ·have:=hPo j hj;have e:j=w4.heap.size:=e;omega
end
end Fi
namespace Fi
open Sh Vl
open IK (GB)
open Ac (bl ba CS Gg AQ By)
theorem SR {FL:List ByteArray}{AL:List P3}(hlen:AL.length=FL.length){i:Nat}{d t:By}(hi:i<FL.length)(h:Mc ((FL.zip AL).drop i) d t){n:ByteArray}{p:P3}(hn:FL[i]?=some n)(hp:AL[i]?=some p):
  ∃m,Mc ((FL.zip AL).drop (i+1)) d m/\ON n p m t/\m.length<=20000:=by
 rw[aS (by rw[List.length_zip];omega),List.getElem_zip]at h;obtain ⟨_,e1⟩:=ao.1 hn;obtain ⟨_,e2⟩:=ao.1 hp;rw[e1,e2]at h;exact h
section
variable {w w' w1 w0 v v0:World} {o:Ob} {t X:Tr} {p:P3} {s:AA} {FL:List ByteArray} {AL TL:List P3} {many:Nat} {d:By}
attribute [local irreducible] Ld Sh.St Nw Lt AP Af B1 A6
theorem oT {wb:World}(h:OX wb o X)(E:Ext (fun _=>False) wb w)(hs:Gb X=true)(hk:X.k=9)(hgf:CL HM X=if FL=[]then none else some (BI (FL.map CK)))(h8:FL.length<=8)(Gu:∀n∈FL,DN n=(n,true))(hlen:AL.length=FL.length)
  (IL:∀q∈AL,Gb (Ba q)=true) (jl:∀q∈AL,GB q=true) (hgp:(AL=List.replicate AL.length us/\CL Ow X=none)\/(AL≠[us]/\CL Ow X=some (BI (AL.map Ba))))
  (hE:Mc (FL.zip AL) d (bl X.s)) (hz:X.s.size<=20000) (hT:TB w) (PR:Value->World->Prop):
  C6 o w (fun r e w1=>r=ba d/\e=0/\Ext (fun _=>False) w w1) PR:=by
 have ux:=h.out.1.2.2.2;refine T6 o _ _ _ ?_;unfold S6;rw[AR];refine (Hn.start w).nw (cs:=AF o) fun w2 H=>?_
 simp only[ag,add_lit,aj]at H⊢;refine H.Dx (i:=0) (ts:=AD) (pre:=[]) (post:=[]) (x:=o) rfl rfl ((AJQ h (E.tr H.ext) hs hk hgf h8 Gu hlen IL jl hgp).mono ?_);rintro r4 r5 e w3 ⟨hK,hP,rfl,e3⟩;have H3:=H.AB e3;refine Br.ne (fun h=>absurd rfl h) fun _=>H3.ld (x:=o.2.2.2.1) 0 rfl rfl ?_
 rw[ux];have hK1:=hK.1.1;have hP1:=hP.1;refine ⟨fun n st v=>∃(i:Nat) (dt:ByteArray),st=(dt,(i:Int))/\n=FL.length-i/\i<=FL.length/\Mc ((FL.zip AL).drop i) d (bl dt)/\dt.size<=20000/\Ext (fun _=>False) w3 v,FL.length,⟨0,X.s,rfl,rfl,by omega,hE,hz,Ext.refl _ _⟩,?_⟩;rintro n st v ⟨i,dt,rfl,rfl,hi,hL,hb,hX⟩;unfold AJT;refine Br.dec (fun q=>?_) fun q=>?_
 ·have q:(i:Int)<((r4.len:Nat):Int):=q;have WE:=ad (show i<FL.length by omega);have Rb:=ad (show i<AL.length by omega);generalize FL[i]'(by omega)=nm at WE;generalize AL[i]'(by omega)=pm at Rb;obtain ⟨m,hm1,hm2,hm3⟩:=SR hlen (by omega) hL WE Rb;obtain ⟨a,ha,Y3⟩:=(hK.AB hX).2 i nm WE;obtain ⟨a2,QM,c0,c1,c2⟩:=(hP.AB hX).get Rb;dsimp only;rw[aa,aH];refine ⟨by omega,q,a,ha,Ld.mk (x:=nm) Y3 ⟨by omega,by omega,a2,QM,?_⟩⟩;simp only[BN];refine Ld.mk c0 (Ld.mk c1 (Ld.mk c2 ((ns (p:=(pm.1,pm.2.1,pm.2.2)) (JS (Gu nm (aB WE))) hm2 (by omega) hm3 (((hT.AB H.ext).AB e3).AB hX) PR).mono ?_ (fun _ _ h=>h))));rintro r e u1 ⟨rfl,rfl,e1⟩;refine Br.ne (fun h=>absurd rfl h) fun _=>⟨FL.length-(i+1),by omega,i+1,ba m,by rw[AE (by omega)];rfl,rfl,by omega,by rw[CS];exact hm1,by rw[AQ,CS];exact hm3,hX.tr e1⟩
 ·have xD:i=FL.length:=by
   have q:¬(i:Int)<((r4.len:Nat):Int):=q;omega
  subst xD;rw[bR (by rw[List.length_zip];omega)]at hL;have hL:bl dt=d:=hL;exact ⟨by rw[<-hL,Gg],rfl,H3.ext.tr hX⟩
end
end Fi
namespace Fi
open Sh Vl
open Ac (bl ba CS Gg AQ By)
def ahx:ByteArray:=⟨#[65,72,120]⟩
def ADU:ByteArray:=⟨#[65]⟩
def s41:ByteArray:=⟨#[52,49,62]⟩
theorem QO:DN ahx=(VI,true):=by decide+kernel
theorem gD {FL:List ByteArray}{t':ByteArray}(hF:A9 (fun n f=>DN n=(f,true)) [ahx] FL)(hE:Mc (FL.zip (IM [] 1)) (bl ADU) (bl t')):FL=[VI]/\t'=s41:=by
 match FL,hF with
 |[f],hF=>
  have hf:f=VI:=by
   have:DN ahx=(f,true):=hF.1;rw[QO]at this;exact (Prod.mk.inj this).1.symm
  subst hf;refine ⟨rfl,?_⟩;obtain ⟨m,hm,he,_⟩:=hE;have hm:m=bl ADU:=hm;subst hm;rcases he with ⟨_,he⟩|⟨q,_⟩|⟨q,_⟩|⟨q,_⟩
  ·rw[<-Gg t',he];decide+kernel
  ·exact absurd q (by decide+kernel)
  ·exact absurd q (by decide+kernel)
  ·exact absurd q (by decide+kernel)
theorem ADV:¬Why [ahx] [] YE ADU:=by
 rintro ((h|⟨n,hn,h⟩|h)|⟨n,hn,h⟩|⟨FL,t',hF,hE,h⟩)
 ·exact absurd h (by decide)
 ·rw[az.1 hn,QO]at h;cases h
 ·exact h rfl
 ·rw[az.1 hn,QO]at h;exact absurd (Prod.mk.inj h).1 (by decide+kernel)
 ·obtain ⟨rfl,rfl⟩:=gD hF hE;rcases h with h|h|h|h
  ·revert h;decide+kernel
  ·revert h;decide+kernel
  ·revert h;decide+kernel
  ·revert h;decide+kernel
end Fi
namespace Fi
open Sh Vl
section
variable {t:Tr} {FL:List ByteArray} {AL:List P3} {data:ByteArray}
theorem QQ {X:Tr}(hk:Ax X=true)(key data:ByteArray):CL key (Hg data X)=CL key X:=by
 unfold CL;rw[ak hk,ak (show Ax (Hg data X)=true from rfl)]
 rfl
theorem ne1:HM≠Ow:=by decide+kernel
theorem ne2:HM≠UF:=by decide+kernel
theorem ne3:Ow≠UF:=by decide+kernel
theorem Y7 (hk:t.k=7)(BA:Cc 1 t=true)(Tb:Cc 1 (Aw HM t)=true):Gd (CG data t)/\Ax (CG data t)=true/\CL HM (CG data t)=none/\CL Ow (CG data t)=none:=by
 have hky:Ax t=true:=by unfold Ax;rw[hk];rfl
 obtain ⟨hu,hl⟩:=oY BA hky;have g0:Gd t:=⟨hu,hl⟩
 have g1:=K8 g0 HM;have g2:=K8 g1 Ow;have g3:=K8 g2 UF;have k1:Ax (Aw HM t)=true:=by rw[Fe];exact hky
 have k2:Ax (Aw Ow (Aw HM t))=true:=by rw[Fe];exact k1
 have k3:Ax (Aw UF (Aw Ow (Aw HM t)))=true:=by rw[Fe];exact k2
 refine ⟨⟨g3.up,g3.len⟩,rfl,?_,?_⟩
 ·unfold CG;rw[QQ k3,Ix k2 g2 ne2,Ix k1 g1 ne1,WK hky BA g0]
 ·unfold CG;rw[QQ k3,Ix k2 g2 ne3,WK k1 Tb g1]
theorem oZ (hk:t.k=7)(BA:Cc 1 t=true)(Tb:Cc 1 (Aw HM t)=true)(hlen:AL.length=FL.length):
  CL HM (Dv FL AL data t)=(if FL=[]then none else some (BI (FL.map CK)))/\((AL=List.replicate AL.length us/\CL Ow (Dv FL AL data t)=none)\/(AL≠[us]/\CL Ow (Dv FL AL data t)=some (BI (AL.map Ba)))):=by
 obtain ⟨g,ky,h1,h2⟩:=Y7 (data:=data) hk BA Tb;unfold Dv;by_cases hF:FL=[]
 ·rw[ak hF,ak hF];have hA:AL=[]:=aw (by rw[hlen,hF];rfl);exact ⟨h1,.inl ⟨by rw[hA];rfl,h2⟩⟩
 ·rw[ah hF,ah hF];have ky1:Ax (Ak HM (BI (FL.map CK)) (CG data t))=true:=by rw[EF];exact ky
  have g1:=JU g HM (BI (FL.map CK));have e1:CL HM (Ak HM (BI (FL.map CK)) (CG data t))=some (BI (FL.map CK)):=Iw ky g _ _;have e2:CL Ow (Ak HM (BI (FL.map CK)) (CG data t))=none:=by rw[CE ky g ne1.symm,h2]
  unfold Rv;by_cases ha:AL.all (fun p=>decide (p=us))=true
  ·rw[ak ha];refine ⟨e1,.inl ⟨?_,e2⟩⟩;exact List.eq_replicate_iff.2 ⟨rfl,fun b hb=>bf (bx.1 ha b hb)⟩
  ·rw[ah ha];refine ⟨by rw[CE ky1 g1 ne1,e1],.inr ⟨fun h=>ha (by rw[h];decide),Iw ky1 g1 _ _⟩⟩
theorem AAo (hF:True):(Dv FL AL data t).k=9:=by
 have hp:(CG data t).k=9:=rfl;unfold Dv;split
 ·exact hp
 ·unfold Rv;split
  ·rw[Oy];exact hp
  ·rw[Oy,Oy];exact hp
theorem Y8 (key:ByteArray)(v X:Tr):(Ak key v X).s=X.s:=by unfold Ak;split<;>rfl
theorem gF:(Dv FL AL data t).s=data:=by
 have hp:(CG data t).s=data:=rfl;unfold Dv;split
 ·exact hp
 ·unfold Rv;split
  ·rw[Y8];exact hp
  ·rw[Y8,Y8];exact hp
theorem WL {d t':Ac.By}:∀{FL:List ByteArray} {AL:List P3},AL.length=FL.length->(∀(i:Nat) (n:ByteArray) (p:P3),FL[i]?=some n->AL[i]?=some p->n≠Hf->p=us)->Mc (FL.zip AL) d t'->∀q∈AL,IK.GB q=true
 |[],[],_,_,_,q,hq=>by cases hq
 |n::FL,p::AL,hl,hc,hE,q,hq=>by
  obtain ⟨m,hm,he,_⟩:=hE;rcases aN.1 hq with rfl|hq
  ·by_cases hn:n=Hf
   ·subst hn;have he:ON Hf q m t':=he;rw[<-Ac.CS t']at he;exact he.ok
   ·rw[hc 0 n q rfl rfl hn];decide+kernel
  ·exact WL (by simpa using hl) (fun i n' p' h1 h2 h3=>hc (i+1) n' p' (by simpa using h1) (by simpa using h2) h3) hm q hq
end
end Fi
namespace Fi
open Sh Vl
open Ac (bl ba CS Gg AQ By)
section
variable {w w' w1 w0 v v0:World} {o:Ob} {t X:Tr} {p:P3} {s:AA} {FL NL:List ByteArray} {AL P2:List P3} {data:ByteArray}
attribute [local irreducible] Ld Sh.St Nw Lt AP Af B1 A6
theorem od {YH:World}{Ma IN:AA}{r:Ob}{R:Bool->World->Prop}{PR:Value->World->Prop}(H:AO v0 YH.heap.size (AF r).toArray 25)(hX:OX v0 r X)(BA:Cc 1 X=true)(hK:KV v0 Ma FL)(hP:PV v0 IN AL)(h8:FL.length<=8)(hlen:AL.length=FL.length)(Gu:∀n∈FL,DN n=(n,true))
  {t':ByteArray} (hE:Mc (FL.zip AL) (bl data) (bl t')) (hz:t'.size<=20000) (hT:TB v0) (hR:∀w1,Ext (fun _=>False) v0 w1->R true w1):
  Lp (σ:=ByteArray×Int) (xM data YH Ma IN R PR) (t',0) v0:=by
 have hK1:=hK.1.1;have hP1:=hP.1;refine ⟨fun n st v=>∃(i:Nat) (dt:ByteArray),st=(dt,(i:Int))/\n=FL.length-i/\i<=FL.length/\Mc ((FL.zip AL).drop i) (bl data) (bl dt)/\dt.size<=20000/\Ext (fun _=>False) v0 v,FL.length,⟨0,t',rfl,rfl,by omega,hE,hz,Ext.refl _ _⟩,?_⟩;rintro n st v ⟨i,dt,rfl,rfl,hi,hL,hb,ma⟩;unfold xM;refine Br.dec (fun q=>?_) fun q=>?_
 ·have q:(i:Int)<((Ma.len:Nat):Int):=q;have WE:=ad (show i<FL.length by omega);have Rb:=ad (show i<AL.length by omega);generalize FL[i]'(by omega)=nm at WE;generalize AL[i]'(by omega)=pm at Rb;obtain ⟨m,hm1,hm2,hm3⟩:=SR hlen (by omega) hL WE Rb;obtain ⟨a,ha,Y3⟩:=(hK.AB ma).2 i nm WE;obtain ⟨a2,QM,c0,c1,c2⟩:=(hP.AB ma).get Rb;have eD:Ext (fun _=>False) v v.drew:=(Ext.refl _ v).drew;refine ⟨fun v'=>Ext (fun _=>False) v v',eD,by omega,q,a,ha,?_⟩;dsimp only;rw[aa,aH];refine Di Y3 ⟨by omega,by omega,a2,QM,?_⟩;simp only[BN];refine Di c0 (Di c1 (Di c2 ?_));refine (ns (p:=(pm.1,pm.2.1,pm.2.2)) (JS (Gu nm (aB WE))) hm2 (by omega) hm3 ((hT.AB ma).AB eD) PR).mono ?_ (fun _ _ h=>h);rintro r e u1 ⟨rfl,rfl,e1⟩;exact Br.ne (fun h=>absurd rfl h) fun _=>⟨FL.length-(i+1),by omega,i+1,ba m,by rw[AE (by omega)];rfl,rfl,by omega,by rw[CS];exact hm1,by rw[AQ,CS];exact hm3,(ma.tr eD).tr e1⟩
 ·have xD:i=FL.length:=by
   have q:¬(i:Int)<((Ma.len:Nat):Int):=q;omega
  subst xD;rw[bR (by rw[List.length_zip];omega)]at hL;have hL:bl dt=bl data:=hL;have hd:dt=data:=FW hL;rw[wj,aD (show dt=data from hd)];have b:=ma.AS H id;refine Vl.Br.t rfl (Af.AS (ts:=AD) (pre:=[]) (post:=[]) (x:=r) (show AO v YH.heap.size (([]:List Value)++(Al.cells AD r++[])).toArray 25 from b) rfl ((GC (hX.AB ma)).mono ?_ fun _ _ h=>h.elim));rintro e u1 ⟨he,e1⟩;rcases he with ⟨_,rfl⟩|⟨Kf,_⟩
  ·exact hR u1 (ma.tr e1)
  ·rw[BA]at Kf;cases Kf
end
end Fi
namespace Fi
open Sh Vl
open Ac (bl ba CS Gg AQ By)
section
variable {w w' w1 w0 v v0:World} {o:Ob} {t X:Tr} {p:P3} {s:AA} {FL NL:List ByteArray} {AL P2:List P3} {data:ByteArray}
theorem AQZ (hk:t.k=7)(BA:Cc 1 t=true):t.s=⟨#[]⟩:=by
 rw[Mf,ay]at BA;have hh:=BA.1;unfold Ff at hh;rw[hk]at hh;simp only[ay]at hh;obtain ⟨_,hh⟩:=hh;have hu:BG 7=some ⟨false,false,false,true,true⟩:=rfl;rw[hu]at hh;simp only[ay]at hh;have hc:=hh.1;unfold KP at hc;simp only[ay,dS]at hc;have:=hc.1.1.1.2;rw[wj]at this;exact bf this
theorem oe (hF:A9 (fun n f=>DN n=(f,true)) NL FL):∀n∈FL,DN n=(n,true):=fun n hn=>by
 obtain ⟨i,hi⟩:=bU.1 hn;obtain ⟨m,_,h⟩:=hF.WI hi;exact SO (JS h)
attribute [local irreducible] Ld Sh.St Nw Lt AP Af B1 A6
theorem og {YH:World}{Y9:Ob}{e70:Int}{R:Bool->World->Prop}{PR:Value->World->Prop}(hEn:AJK NL P2 t data Y9 e70 YH)(YG:P2.length=NL.length)(h3:NL.length<=3)(hk:t.k=7)(BA:Cc 1 t=true)(hs:s.len=NL.length)(hT:TB YH)(hR:∀w1,Ext (fun _=>False) YH w1->R true w1):
  Nw YH (.cells z6.toArray 25) fun AQa=>
   A6 (⟨YH.heap.size,0,none⟩:Addr) 0 AD Y9 AQa fun xN=>
   Br (e70 !=0) (Ld xN (⟨YH.heap.size,0,none⟩:Addr) (Value.int .i64) fun (oh:Int)=>
    R (oh==0) xN) (Af xN (⟨YH.heap.size,0,none⟩:Addr) 0 AD fun (ZA:AG)=>
    C6 ZA xN (fun xO r78 AJW=>
     Af AJW (⟨YH.heap.size,0,none⟩:Addr) 0 AD fun (x80:AG)=>
     C7 x80 AJW fun Ma IN r83 ZB=>
      Br (r78 !=0) (R false ZB) (Br (!(xO.toList==data.toList)) (R false ZB) (Br (r83 !=0) (R false ZB) (Br (((Ma.len:Nat):Int) !=((s.len:Nat):Int)) (R false ZB) (Br (((IN.len:Nat):Int) !=((s.len:Nat):Int)) (R false ZB) (Ld ZB ((⟨YH.heap.size,0,none⟩:Addr).add 3) Value.string fun (om:ByteArray)=>
           Lp (σ:=ByteArray×Int) (xM data YH Ma IN R PR) (om,0) ZB)))))) PR):=by
 refine (Hn.start YH).nw (cs:=z6) fun w2 H=>?_
 simp only[ag]at H;refine H.lS (i:=0) (ts:=AD) (pre:=[]) (post:=[]) (x:=Y9) (zs:=z6) rfl rfl rfl fun w3 H=>?_
 simp only[ai,ag,aM,AR,add_lit,aj]at H⊢;rcases hEn with ⟨A2,rfl,_⟩|⟨rfl,FL,t',hF,hlen,NY,hE,hz,Tb,UI,Md,ADZ,hX⟩
 ·exact Br.ne (fun _=>H.ld (x:=(0:Int)) 0 rfl rfl (hR _ H.ext)) fun h0=>absurd h0 A2
 refine Br.ne (fun h=>absurd rfl h) fun _=>?_
 have fO:=hF.len;have hal:=WG hlen;generalize IM P2 NL.length=AL at NY hE Md ADZ hX hal;have Gu:=oe hF;have vI:AL.length=FL.length:=by omega
 obtain ⟨hgf,hgp⟩:=oZ (data:=t') (FL:=FL) (AL:=AL) hk BA Tb vI;have IL:∀q∈AL,Gb (Ba q)=true:=fun q hq=>by
  refine QH _ (Md (fun h=>?_) q hq);rw[h]at vI;rw[aw vI]at hq;cases hq
 have jl:=WL vI NY hE;have hsX:=QH _ ADZ;have hX3:=hX.AB H.ext;have YY:Mc (FL.zip AL) (bl data) (bl (Dv FL AL t' t).s):=by rw[gF];exact hE
 refine H.Dx (i:=0) (ts:=AD) (pre:=[]) (post:=[]) (x:=Y9) rfl rfl ((oT hX3 (Ext.refl _ _) hsX (AAo trivial) hgf (by omega) Gu vI IL jl hgp YY (by rw[gF];exact hz) (hT.AB H.ext) PR).mono ?_ (fun _ _ h=>h));rintro xO e w4 ⟨rfl,rfl,e4⟩;have H4:=H.AB e4;refine H4.Dx (i:=0) (ts:=AD) (pre:=[]) (post:=[]) (x:=Y9) rfl rfl ((AJQ (hX3.AB e4) (Ext.refl _ _) hsX (AAo trivial) hgf (by omega) Gu vI IL jl hgp).mono ?_);rintro Ma IN e w5 ⟨hK,hP,rfl,e5⟩;have H5:=H4.AB e5;have hK1:=hK.1.1;have hP1:=hP.1;refine Br.ne (fun h=>absurd rfl h) fun _=>?_
 rw[Gg,wj,aD rfl];refine Vl.Br.f rfl (Br.ne (fun h=>absurd rfl h) fun _=>Br.ne (fun h=>absurd (by omega) h) fun _=>Br.ne (fun h=>absurd (by omega) h) fun _=>?_);refine H5.ld (x:=Y9.2.2.2.1) 0 rfl rfl ?_;rw[show Y9.2.2.2.1=t' from hX.out.1.2.2.2.trans gF];exact od (H5.get 0 rfl) (hX3.AB (e4.tr e5)) ADZ hK hP (by omega) vI Gu hE hz (hT.AB H5.ext) fun w1 he=>hR w1 (H5.ext.tr he)
end
end Fi
namespace Fi
open Sh Vl
open Ac (bl ba CS Gg AQ By)
def pOf (p:P3)(n:ByteArray):P3:=if n=Hf then p else if n=⟨#[70,108]⟩then p else us
section
variable {w w' w1 w0 v v0:World} {o:Ob} {t X:Tr} {p:P3} {s:AA} {FL NL:List ByteArray} {data:ByteArray}
attribute [local irreducible] Ld Sh.St Nw Lt AP Af B1 A6
theorem WM (h:OX w o t)(hn:KV w s NL)(hT:TB w)(PR:Value->World->Prop):C3 o s p data w (fun r w1=>r=true/\Ext (fun _=>False) w w1) PR:=by
 have ME:=h.out.1.1;refine T3 o _ p _ _ _ _ ?_;unfold S3;rw[AR];refine (Hn.start w).nw (cs:=AF o) fun w2 H=>H.nw (cs:=[.int .i64 p.1,.int .i64 p.2.1,.int .i64 p.2.2]) fun w3 H=>H.nw (cs:=[.string ahx]) fun w4 H=>?_
 simp only[ar,ag]at H;have b2:=H.get 2 rfl;have hK1:KV w4 ⟨some ⟨w3.heap.size,0,none⟩,1,1⟩ [ahx]:=UH (Bh.of (n:=1) (k:=1) (cs:=[.string ahx]) b2 rfl) (by decide);refine (WH (NL:=[ahx]) (P2:=[]) (AIv w4) (Ext.refl _ _) rfl rfl (by decide+kernel) hK1 ⟨rfl,rfl,fun j v h=>by cases h⟩ (by decide) (by decide) (hT.AB H.ext) PR).mono ?_ (fun _ _ h=>h);rintro r8 e w5 ⟨hr,e5⟩;have H5:=H.AB e5;rcases hr with ⟨_,_,hw⟩|⟨rfl,FL0,t0,hF0,_,_,hE0,_,_,_,_,_,hX0⟩
 ·exact absurd hw ADV
 obtain ⟨_,rfl⟩:=gD hF0 hE0;refine H5.nw (cs:=z6) fun w6 H6=>?_
 simp only[ar,ag]at H6;refine H6.lS (i:=3) (ts:=AD) (pre:=[]) (post:=[]) (x:=r8) (zs:=z6) rfl rfl rfl fun w7 H7=>?_
 simp only[ai,aq,ag,aM,AR,add_lit,aj]at H7⊢;refine H7.ld (x:=r8.2.2.2.1) 3 rfl rfl ?_;rw[show r8.2.2.2.1=s41 from hX0.out.1.2.2.2.trans gF,wj,aD (show s41=(⟨#[52,49,62]⟩:ey)from rfl)];refine Vl.Br.f rfl (Br.ne (fun h=>absurd rfl h) fun _=>Br.dec (fun _=>⟨trivial,H7.ext⟩) fun hd=>Br.dec (fun _=>⟨trivial,H7.ext⟩) fun h3=>?_);refine H7.ld (x:=o.1) 0 rfl rfl (Br.ne (fun _=>⟨trivial,H7.ext⟩) fun hk7=>?_);have hk:t.k=7:=ME.symm.trans hk7;refine H7.Dx (i:=0) (ts:=AD) (pre:=[]) (post:=[]) (x:=o) rfl rfl ((GC (h.AB H7.ext)).mono ?_ fun _ _ h=>h.elim);rintro OO w8 ⟨hc,e8⟩;have H8:=H7.AB e8;rcases hc with ⟨BA,rfl⟩|⟨_,A2⟩
 rotate_left
 ·exact Br.ne (fun _=>⟨trivial,H8.ext⟩) fun h0=>absurd h0 A2
 refine Br.ne (fun h=>absurd rfl h) fun _=>H8.ld (x:=o.2.2.2.2.1) 0 rfl rfl (Br.dec (fun _=>⟨trivial,H8.ext⟩) fun _=>?_)
 have vG:=hn.1.1;refine ⟨fun n st v=>∃(i:Nat) (sl:AA),st=(sl,(i:Int))/\n=NL.length-i/\i<=NL.length/\Row v sl 27 3 (((NL.take i).map (pOf p)).flatMap BY)/\(∀j,sl.own j->w8.heap.size<=j)/\Ext (fun _=>False) w8 v,NL.length,⟨0,⟨none,0,0⟩,rfl,rfl,by omega,Row.nil _ _ _,fun j hj=>absurd hj (Cq j),Ext.refl _ _⟩,?_⟩;rintro n st v ⟨i,sl,rfl,rfl,hi,UK,hO,hE⟩;have HV:=H8.AB hE;have oR:sl.len=i:=by
  have:=UK.view.count Gr (by decide);rw[bp,au,bo hi]at this;exact this
 unfold AJX;refine Br.dec (fun q=>?_) fun q=>?_
 ·have q:(i:Int)<((s.len:Nat):Int):=q;have hq:=ad (show i<NL.length by omega);generalize NL[i]'(by omega)=nm at hq;obtain ⟨a,ha,Y3⟩:=(hn.AB HV.ext).2 i nm hq;dsimp only;rw[aa,aH];refine ⟨by omega,q,a,ha,Ld.mk (x:=nm) Y3 (Lt.of ?_)⟩;have push:∀pp:P3,pp=pOf p nm->∃(gG:AA) (u3:World),BW prog (Builtin.append_ #[32,32] 32 #[AA.v sl,AA.v (⟨some ⟨v.heap.size,0,none⟩,1,1⟩:AA)]) (v.alloc (.cells (BY pp).toArray 27)) (AA.v gG) u3/\∃n',n'<NL.length-i/\∃(Gc:Nat) (ADb:AA),(gG,IntKind.i64.wrap ((i:Int)+1))=(ADb,(Gc:Int))/\n'=NL.length-Gc/\Gc<=NL.length/\Row u3 ADb 27 3 (((NL.take Gc).map (pOf p)).flatMap BY)/\(∀j,ADb.own j->w8.heap.size<=j)/\Ext (fun _=>False) w8 u3:=fun pp hpp=>by
   have eB:Ext (fun _=>False) v (v.alloc (.cells (BY pp).toArray 27)):=(Ext.refl _ _).alloc _;have hB:=AO.new v (BY pp).toArray 27;obtain ⟨Bi,u3,r1,r2,r3,e3,r5⟩:=oG.Ip (ty:=32) (UK.AB eB fun _ _ h=>h) hB rfl (Iu pp) (by omega) (by omega);refine ⟨Bi,u3,r1,NL.length-(i+1),by omega,i+1,Bi,by rw[AE (by omega)];rfl,rfl,by omega,?_,fun j hj=>(r5 j hj).elim (hO j) fun h=>by have:=(hE.tr eB).size;omega,Ac.Ext.IG (hE.tr eB) e3 fun j hj=>hO j hj⟩;rw[aO,hq,bh,bJ];simpa[<-hpp]using r2
  rw[wj];simp only[add_lit,aj];refine Br.dec (fun hf=>?_) fun hf=>?_
  ·iterate 3 refine HV.ld 1 rfl rfl ?_
   exact Nw.of (push p (by unfold pOf;rw[ak (show nm=Hf from hf)]))
  ·rw[wj];refine Br.dec (fun hf2=>?_) fun hf2=>?_
   ·iterate 3 refine HV.ld 1 rfl rfl ?_
    exact Nw.of (push p (by unfold pOf;rw[ah (show ¬nm=Hf from hf),ak hf2]))
   ·exact Nw.of (push us (by unfold pOf;rw[ah (show ¬nm=Hf from hf),ah hf2]))
 ·have xD:i=NL.length:=by
   have q:¬(i:Int)<((s.len:Nat):Int):=q;omega
  subst xD;rw[bj]at UK;refine HV.Dx (i:=0) (ts:=AD) (pre:=[]) (post:=[]) (x:=o) rfl rfl ((WH (P2:=NL.map (pOf p)) h HV.ext hk (AQZ hk BA) BA (hn.AB HV.ext) (QJ UK.view) (by omega) (by omega) (hT.AB HV.ext) PR).mono ?_ (fun _ _ h=>h));rintro Y9 e70 YH ⟨hEn,e71⟩;exact og (R:=fun r w1=>r=true/\Ext (fun _=>False) w w1) hEn (by simp) (by omega) hk BA vG ((hT.AB HV.ext).AB e71) fun w1 he=>⟨rfl,(HV.ext.tr e71).tr he⟩
end
end Fi
set_option maxRecDepth 100000
set_option maxHeartbeats 200000
namespace A8
open Sh DS
open Go.ChangeShapes Go.WideShapes Go.ChangeAt Go.RowKit Go.WideElems Go.Maps
theorem ADc:prog.globalNamed "foliant/inflate.order"=some 2:=by kernel_rfl
theorem AQc:prog.globalNamed "foliant/inflate.repeats"=some 3:=by kernel_rfl
theorem AQd:(prog.globals[2]?).map (·.type)=some 213:=by kernel_rfl
theorem AQe:(prog.globals[3]?).map (·.type)=some 271:=by kernel_rfl
theorem AJY:prog.globalNamed "foliant/ascii.powers"=some 0:=by kernel_rfl
theorem AQf:(prog.globals[0]?).map (·.type)=some 121:=by kernel_rfl
theorem AQg:prog.underlying 121=some (.array 5 118):=by kernel_rfl
theorem AQh:prog.underlying 118=some (.int .u64):=by kernel_rfl
theorem cU:prog.cellsOf 118=1:=by kernel_rfl
theorem c5':prog.cellsOf 121=5:=by kernel_rfl
theorem QR:prog.underlying 3=some (.int .i64):=by kernel_rfl
theorem AJZ:prog.underlying 213=some (.array 19 3):=by kernel_rfl
theorem oo:prog.underlying 271=some (.map 3 269):=by kernel_rfl
theorem ADd:prog.cellsOf 3=1:=by kernel_rfl
theorem c19:prog.cellsOf 213=19:=by kernel_rfl
theorem c2:prog.cellsOf 269=2:=by kernel_rfl
theorem AQi:∃f0 f1:Field,prog.underlying 269=some (.struct #[f0,f1])/\f0.type=3/\f1.type=3/\f0.offset=0/\f1.offset=1:=by
 refine ⟨⟨"least",3,0,false,"","foliant/inflate",0⟩,⟨"more",3,1,false,"","foliant/inflate",8⟩,by kernel_rfl,rfl,rfl,rfl,rfl⟩
theorem AJa (w:World):(zeroValue 269).run prog w= .ok (.agg #[.int .i64 0,.int .i64 0]) w:=by kernel_rfl
theorem AQj {H:Type}{enc:TypeId×Value->H}{W:World}{base m:Nat}{sp:Nat->Bool}{held:Bool}{v:Value}{y:DataW H×List MemPlace}(h:elemAt enc prog W base sp held m 269 v=some y):
  ∃a b:Int,v= .agg #[.int .i64 a,.int .i64 b]/\y.1= .agg [.lit (.int .i64 a),.lit (.int .i64 b)]:=by
 obtain ⟨f0,f1,hu,t0,t1,o0,o1⟩:=AQi;unfold elemAt at h;split at h
 ·rename_i hf;obtain ⟨y0,y1,n,rfl,hl,h0,h1⟩:=trod_struct2 hu h;rw[t0,o0,ADd]at h0;rw[t1,o1,ADd]at h1;obtain ⟨a,e0,rfl,_⟩:=DataW.trod_int QR h0;obtain ⟨b,e1,rfl,_⟩:=DataW.trod_int QR h1;refine ⟨a,b,?_,rfl⟩;rw[c2]at hl;have Oj:v.cells.toList=[.int .i64 a,.int .i64 b]:=by
   match hv:v.cells.toList,hl with
   |[c0,c1],_=>
    rw[hv]at e0 e1;simp at e0 e1;rw[e0,e1]
  cases v with
  |agg cs=>
   have:cs.toList=[.int .i64 a,.int .i64 b]:=Oj
   congr 1
   exact Array.ext' this
  |_=>simp[Value.formed,hu]at hf
 ·cases h
theorem xP {W:World}(h:laidMetH prog Rows.topFiltersRow.laid W):Laid W.heap.size W/\Ac.PW W/\0<W.heap.size:=by
 have h:laidMetH prog [("foliant/inflate.order",Rows.laid_foliant_inflate_order),("foliant/inflate.repeats",Rows.laid_foliant_inflate_repeats),("foliant/ascii.powers",Rows.laid_foliant_ascii_powers)] W:=h;rw[MakeChecks.laidMetH_plain _ _ _ (by kernel_rfl)]at h;obtain ⟨ps,⟨ga,ta,csa,fa,pa,qa,hga,hta,hva,hda,⟨g1,t1,cs1,f1,p1,q1,hg1,ht1,hv1,Tb,⟨gb,tb,csb,fb,pb,qb,hgb,htb,hvb,hdb,_,_⟩,_⟩,_⟩,_,_⟩:=h;obtain rfl:=aY (ADc.symm.trans hga);obtain rfl:=aY (AQd.symm.trans hta);have ht:Lib.TabIs prog W "foliant/inflate.order" .i64 [16,17,18,0,8,7,9,6,10,5,11,4,12,3,13,2,14,1,15]:=by
  unfold Lib.TabIs;rw[hva,<-Lib.cells_of_tab AJZ QR ADd c19 (zs:=[16,17,18,0,8,7,9,6,10,5,11,4,12,3,13,2,14,1,15]) hda]
 obtain rfl:=aY (AJY.symm.trans hgb);obtain rfl:=aY (AQf.symm.trans htb);have hp:Lib.TabIs prog W "foliant/ascii.powers" .u64 [52200625,614125,7225,85,1]:=by
  unfold Lib.TabIs;rw[hvb,<-Lib.cells_of_tab AQg AQh cU c5' (zs:=[52200625,614125,7225,85,1]) hdb]
 have hpw:Ac.PW W:=fun i hi=>by
  have hc:=hp.cell AJY i hi;rw[hc];have:∀i:Fin 5,([52200625,614125,7225,85,1]:List Int).getD i.val 0=((Ac.HR.getD i.val 0:Nat):Int):=by decide
  congr 2
  exact this ⟨i,hi⟩
 obtain rfl:=aY (AQc.symm.trans hg1);obtain rfl:=aY (AQe.symm.trans ht1);rcases Go.WideElems.open_map oo Tb with ⟨_,hx⟩|⟨bm,es,clock,m,rfl,Oj,hb,_,F,hx⟩
 ·simp[Rows.laid_foliant_inflate_repeats]at hx
 simp only[Prod.mk.injEq]at hx;have Es:W.cell? ⟨3,0,none⟩=some (.map (some bm)):=by
  have:=World.var?_cell hg1 hv1 0;rw[Array.eq_one_of_toList Oj]at this;simpa using this
 have hz:=BJ Es;have hz:3<W.heap.size:=hz;have hbm:=lt_of_block hb;refine ⟨?_,hpw,BJ (hpw 0 (by decide))⟩;have ho:2<W.heap.size:=BJ (ht.cell ADc 0 (by decide));refine ⟨⟨ho,hz⟩,av _,fun i hi=>?_,bm,_,hbm,hb,Es,fun w' jR n hn0 AeW=>?_⟩
 ·have hc:=ht.cell ADc i hi;rw[hc]
  congr 2
  have:∀i:Nat,i<19->([16,17,18,0,8,7,9,6,10,5,11,4,12,3,13,2,14,1,15]:List Int).getD i 0=((order.getD i 0:Nat):Int):=by decide
  first|exact this i hi|(rw[<-this i hi];simp)
 ·have key:∀d:DataW Unit,(Rows.laid_foliant_inflate_repeats:DataW Unit).atKey (.int .i64 n) .nil=d->(d= .nil->Mh n=((0,0),false))->(∀a b:Int,d= .agg [.lit (.int .i64 a),.lit (.int .i64 b)]->Mh n=((a,b),true))->BW prog (Instr.lookup 271 (.map (some bm)) (.int .i64 n) true) w' (.tuple #[.agg #[.int .i64 (Mh n).1.1,.int .i64 (Mh n).1.2],.bool (Mh n).2]) w':=fun d hd hA hB=>by
   rcases fit_look (w:=w') true (int_keyed QR) oo (AJa w') jR F (keyOf_int_mk QR (WalkArith.wf_i64 (n:=n) ⟨by omega,by omega⟩))with ⟨Ag,_,hat⟩|⟨e0,y,_,_,Ag,hR,hat,_⟩
   ·have:=hat .nil;rw[<-hx.1,hd]at this;rw[hA this];exact Ag
   ·have:=hat .nil;rw[<-hx.1,hd]at this;obtain ⟨a,b,hv,hy⟩:=AQj hR;rw[hB a b (this.trans hy)];rw[hv]at Ag;exact Ag
  obtain ⟨k,rfl⟩:=aR hn0;have hk:k<19:=by omega
  have hc:k=0\/k=1\/k=2\/k=3\/k=4\/k=5\/k=6\/k=7\/k=8\/k=9\/k=10\/k=11\/k=12\/k=13\/k=14\/k=15\/k=16\/k=17\/k=18:=by omega
  rcases hc with rfl|rfl|rfl|rfl|rfl|rfl|rfl|rfl|rfl|rfl|rfl|rfl|rfl|rfl|rfl|rfl|rfl|rfl|rfl
  all_goals
   first
   |exact key .nil (by kernel_rfl) (fun _=>rfl) fun a b h=>by cases h
   |exact key (.agg [.lit (.int .i64 3),.lit (.int .i64 2)]) (by kernel_rfl) (fun h=>by cases h) fun a b h=>by cases h;rfl
   |exact key (.agg [.lit (.int .i64 3),.lit (.int .i64 3)]) (by kernel_rfl) (fun h=>by cases h) fun a b h=>by cases h;rfl
   |exact key (.agg [.lit (.int .i64 11),.lit (.int .i64 7)]) (by kernel_rfl) (fun h=>by cases h) fun a b h=>by cases h;rfl
end A8
namespace Fi
open Sh Vl
theorem ADf {H:Type}{enc:TypeId×Value->H}{W:World}{spare:Nat->Bool}{held:Bool}{v:Value}{d:DataW H}{ps:List MemPlace}{rr:Reach}{b0:Nat}
  (h0:Value.okWide prog W rr b0 22 v) (h:DataW.Trod enc prog W 0 spare held 22 v d ps):∃(s:AA) (L:List ByteArray),v=AA.v s/\KV W s L:=by
 obtain ⟨n,hn⟩:=Rw (by rw[Tryz.underlying22]) h0 h;cases n with
 |zero=>exact hn.elim
 |succ n=>
  have:Inhabited ByteArray:=⟨⟨#[]⟩⟩
  obtain ⟨x4,K,e4,l4,m4,g4⟩:=Vl.KQ (Q:=fun (b:ByteArray) cs=>cs=[.string b]) Tryz.underlying22 (show prog.cellsOf 9=1 by kernel_rfl) hn fun CU h=>by
   obtain ⟨s,h1,_⟩:=KR Tryz.underlying9 h;exact ⟨s,h1⟩
  refine ⟨x4,K,by simpa using e4,⟨l4,cd m4 (by decide)⟩,fun i b hi=>?_⟩;obtain ⟨a,CU,ha,hc,rfl⟩:=g4 i b hi;have:=hc 0 (by omega);exact ⟨a,ha,by simpa using this⟩
theorem ADg {H:Type}{enc:TypeId×Value->H}{W:World}{spare:Nat->Bool}{held:Bool}{v:Value}{d:DataW H}{ps:List MemPlace}{rr:Reach}{b0:Nat}
  (h0:Value.okWide prog W rr b0 25 v) (h:DataW.Trod enc prog W 0 spare held 25 v d ps):∃(o:Ob) (t:Tr),v= .agg (AF o).toArray/\OX W o t:=by
 obtain ⟨o,rfl,n,ho⟩:=ADh h0 h;obtain ⟨t,ht⟩:=AAp ho;exact ⟨o,t,rfl,n,ht⟩
theorem xQ {W:World}(h:laidMetH prog Rows.topFiltersRow.laid W):TB W:=by
 obtain ⟨h1,h2,h3⟩:=A8.xP h;exact ⟨h2,h3,_,h1⟩
end Fi
end Go.Proofs.YtdmmgclkphaaaaaGreatDoor

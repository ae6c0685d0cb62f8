/- Joined texts of the proof; conditions stand in each theorem. -/
import Derived.Test.YtdmmgclkphaaaaaGreatDoorQYQFil1
import Derived.Test.YtdmmgclkphaaaaaGreatDoorQYQFil5
import Derived.Test.YtdmmgclkphaaaaaGreatDoorQYQFil8
import Derived.Test.YtdmmgclkphaaaaaGreatDoorQYQFil4
import Derived.Test.YtdmmgclkphaaaaaGreatDoorQYQFil7
set_option linter.unusedVariables false
set_option linter.unusedSimpArgs false
open Go.IntKind (wrap)
open Go.Proofs.Tryz (prog)
namespace Go.Proofs.YtdmmgclkphaaaaaGreatDoor
set_option maxRecDepth 8000
set_option maxHeartbeats 4000000
namespace Vl
open Sh
theorem Gt:El prog 22 9 1 16 (.string ⟨#[]⟩):=⟨by kernel_rfl,by kernel_rfl,by kernel_rfl,by kernel_rfl,rfl⟩
theorem Ext.new{F:Nat->Prop}{a b c:World}(h:Ext (fun _=>False) a b)(k:Ext F b c)(hF:∀j,F j->a.heap.size<=j):Ext (fun _=>False) a c:=
 h.trans k (fun _ h=>h) fun j hj h=>by have:=hF j h;omega
theorem CA {g len cap lo hi mx k:Nat}(h:lo<mx):(⟨some ⟨g,0,none⟩,len,cap⟩:AA).cut k lo hi mx=⟨some ⟨g,lo*k,none⟩,hi-lo,mx-lo⟩:=by
 unfold AA.cut;rw[ah (by omega)];simp only[cI,add_lit,aj]
theorem jG {g len cap lo hi mx k:Nat}:(⟨some ⟨g,0,none⟩,len,cap⟩:AA).cut k lo hi mx=⟨some ⟨g,if mx=lo then 0 else lo*k,none⟩,hi-lo,mx-lo⟩:=by
 unfold AA.cut;split
 ·rfl
 ·simp only[cI,add_lit,aj]
theorem NN {a b:Nat}(h:a<=b):a=Nat.min a b:=(bo h).symm
theorem ue {a b:Nat}(h:b<=a):b=Nat.min a b:=(Nat.min_eq_right h).symm
theorem jH:prog.underlying 3=some (.int .i64):=Tryz.underlying3
theorem wrap64 {n:Int}(h:0<=n/\n<=9223372036854775807):wrap .i64 n=n:=AE ⟨by omega,h.2⟩
theorem Lz (K:List ByteArray):∀v∈K.map Value.string,v.oneCell'=true:=by
 intro v hv;obtain ⟨b,_,rfl⟩:=cJ.1 hv
 rfl
theorem uf {zc:Array Value}(h:∀x∈zc.toList,x.oneCell'=true){n:Nat}{v:Value}(hv:v∈(Builtin.zeroCells zc n).toList):v.oneCell'=true:=by
 unfold Builtin.zeroCells at hv;rw[dB,cJ]at hv;obtain ⟨i,hi,rfl⟩:=hv;rw[Array.toList_range,dF]at hi;have hz:0<zc.size:=by
  rcases Nat.eq_zero_or_pos zc.size with h0|h0
  ·rw[h0,Nat.mul_zero]at hi;omega
  ·exact h0
 have Am:i%zc.size<zc.size:=cX _ hz;rw[getElem!_pos zc (i%zc.size) Am];exact h _ (by simp)
theorem CO {α:Type}{l:List α}{a n k:Nat}(h:l.length=n*k)(ha:a<=n):(l.take (a*k)).length=a*k/\(l.drop (a*k)).length=(n-a)*k:=by
 have:a*k<=n*k:=cL _ ha;rw[au,aJ,h,Nat.sub_mul];omega
theorem AGM:∀n,∀v∈(Builtin.zeroCells (.string ⟨#[]⟩:Value).cells n).toList,v.oneCell'=true:=by
 intro n v hv;exact uf (zc:=(.string ⟨#[]⟩:Value).cells) (fun x hx=>by rw[show x= .string ⟨#[]⟩from az.1 hx];rfl) hv
section
variable {w w' w0 w1:World} {s:AA} {xs ys:List Value}
attribute [local irreducible] Ld Sh.St Nw Nn Lt AP Af B1 A6
theorem Ik (h2:Bh w s 1 xs)(h1:∀v∈xs,v.oneCell'=true)(hb:s.len<=1000000000):C61 s w fun r w1=>Row w1 r 9 1 xs/\r.len=s.len/\Ext (fun _=>False) w w1/\∀j,r.own j->w.heap.size<=j:=by
 refine T61 _ _ _ ?_;unfold S61;obtain ⟨p,len,cap⟩:=s;cases p with
 |none=>
  have hx:xs=[]:=by
   cases xs with
   |nil=>rfl
   |cons x r=>obtain ⟨a,ha,_⟩:=h2.2 0 x rfl;cases ha
  subst hx;have hl:=h2.1;simp only[bq]at hl;have vv:len=0:=by omega
  exact Br.t rfl ⟨Row.nil _ _ _,vv.symm,Ext.refl _ _,fun j hj=>by obtain ⟨a,ha,_⟩:=hj;cases ha⟩
 |some a=>
  refine Br.f rfl (Nw.of ?_);have e1:Ext (fun _=>False) w (w.alloc (.cells #[] 9)):=(Ext.refl _ _).alloc _;have R0:Row (w.alloc (.cells #[] 9)) ⟨some ⟨w.heap.size,0,none⟩,0,0⟩ 9 1 []:=Row.new w #[] 9 1 0 (by simp);obtain ⟨s',w',r1,r2,r3,r4,r5⟩:=Gt.ACZ (ty:=22) (by decide) R0 rfl (h2.AB e1) h1 (by show len*_<=_;have:len<=1000000000:=hb;omega) (by show len<=_;have:len<=1000000000:=hb;omega);refine ⟨s',w',r1,r2,r3,e1.tr r4,fun j hj=>?_⟩;have:=e1.size;rcases r5 j hj with ⟨a,ha,rfl⟩|h
  ·cases ha;exact av _
  ·omega
theorem ANE {g gs vl vc sl sc so:Nat}{cv cs:Array Value}(hv:AO w g cv 9)(hs:AO w gs cs 9)(A2:g≠gs)(h0:cs.size≠0):Wi prog 97 #[AA.v ⟨some ⟨g,0,none⟩,vl,vc⟩,AA.v ⟨some ⟨gs,so,none⟩,sl,sc⟩] w (.bool false) w:=by
 unfold Wi;have sh:∀{b:Nat} {c:Array Value},AO w b c 9->w.shape? b=some (9,c.size):=fun h=>by unfold AO at h;simp[World.shape?,h]
 rw[run_callFunc_extern Tryz.func97 (by kernel_rfl) (by kernel_rfl) (by kernel_rfl) (e:=Extern.SlicesOverlaps.overlaps #[22,22] #[4]) (by kernel_rfl)];show ((Extern.SlicesOverlaps.overlaps #[22,22] #[4] #[.slice (some ⟨g,0,none⟩) vl vc,.slice (some ⟨gs,so,none⟩) sl sc]).run prog w).andThen _=_;rw[Lib.run_overlaps_apart (P:=prog) w 22 4 9 Gt.fP 1 Tryz.sizeOf9 ⟨g,0,none⟩ ⟨gs,so,none⟩ vl vc sl sc A2 9 9 cv.size cs.size (sh hv) (sh hs) h0 (hv.frozen 0) (hv.frozen _)]
 rfl
theorem AGN {i g:Nat}(own:Row w s 9 1 xs)(hi:i<=s.len)(hs:s.len<=1000000)(hv:AO w g ys.toArray 9)(X7:ys.length=1)(mX:∀v∈ys,v.oneCell'=true)(Om:∀v∈xs,v.oneCell'=true)(hg:¬s.own g):
  C63 s (i:Int) ⟨some ⟨g,0,none⟩,1,1⟩ w fun r w1=>Row w1 r 9 1 (xs.take (i*1)++ys++xs.drop (i*1))/\r.len=s.len+1/\Ext s.own w w1/\∀j,r.own j->s.own j\/w.heap.size<=j:=by
 refine T63 _ _ _ _ _ ?_;unfold S63;have X8:∀{u:World},AO u g ys.toArray 9->∀j v,ys[j]?=some v->u.cell? ((⟨g,0,none⟩:Addr).add j)=some v:=fun hu j v hj=>by
  rw[add_lit,hu.cell,aj];simpa using hj
 have II:=own.1;refine ⟨by omega,by omega,Br.f rfl (Br.eq (fun FP=>?_) fun FP=>?_)⟩
 ·obtain ⟨s',w',r1,r2,r3,r4,r5⟩:=Gt.Ip (ty:=22) own hv X7 mX (by omega) (by omega);have hii:i=s.len:=by omega
  refine ⟨s',w',r1,?_,r3,r4,r5⟩;rw[hii,<-II,bj,List.drop_length,aM];exact r2
 have Am:i<s.len:=by omega
 obtain ⟨gs,cur,hp,hB,hle,A1,DD⟩:∃gs cur,s.p=some ⟨gs,0,none⟩/\AO w gs cur 9/\s.len<=s.cap/\cur.size=s.cap*1/\cur.toList.take (s.len*1)=xs:=by
  rcases own.2 with h|h
  ·rw[h]at Am;simp at Am
  ·exact h
 obtain ⟨p,len,cap⟩:=s;simp only at hp hB hle A1 DD hi hs Am FP II;subst hp;have Ye:g≠gs:=fun e=>hg ⟨_,rfl,e.symm⟩
 have hlw:wrap .i64 ((((len:Nat)):Int)+(((1:Nat)):Int))=((len+1:Nat):Int):=by rw[wrap64 ⟨by omega,by omega⟩];rfl
 have hiw:wrap .i64 (((i:Nat):Int)+(((1:Nat)):Int))=((i+1:Nat):Int):=by rw[wrap64 ⟨by omega,by omega⟩];rfl
 obtain ⟨tl,dl⟩:=CO (k:=1) II hi;have J6:∀j v,(xs.drop (i*1))[j]?=some v->w.cell? ((⟨gs,i*1,none⟩:Addr).add j)=some v:=fun j v hj=>by
  rw[bW]at hj;rw[add_lit,hB.cell,<-DD]at*;rw[aU]at hj;split at hj
  ·simpa using hj
  ·cases hj
 have RX:∀v∈xs.drop (i*1),v.oneCell'=true:=fun v hv=>Om v (bS hv)
 dsimp only;rw[hlw,hiw];refine Lt.of (Br.dec (fun Rm=>?_) fun Rm=>?_)
 ·
  have hnw:wrap .i64 (((len+1:Nat):Int)-((i:Nat):Int))=((len+1-i:Nat):Int):=by rw[wrap64 ⟨by omega,by omega⟩];omega
  rw[hnw];refine ⟨by omega,by omega,Lt.of ?_⟩;rw[aa,aa,CA (by omega),cg,bM,bM];obtain ⟨g',VE,M3,w1,r1,b1,r2,r3,r4,r5,r6⟩:=Gt.ABT (ty:=22) jH (p:=⟨gs,0,none⟩) (sLen:=i) (sCap:=cap) (n:=len+1-i) (olds:=xs.take (i*1)) tl (fun j v hj=>by
   rw[add_lit,hB.cell,aj];rw[aU]at hj;split at hj
   ·rw[<-DD,aU]at hj;split at hj
    ·simpa using hj
    ·cases hj
   ·cases hj) (by omega) (by decide) (by omega) (by omega) (by omega)
  refine ⟨_,w1,r1,by omega,by show ((i:Nat):Int)<=((i+(len+1-i):Nat):Int);omega,?_⟩;dsimp only;rw[CA (by omega),show i+(len+1-i)-i=len+1-i by omega];have hv1:=r5.AS hv id;have AYk:g'≠g:=fun e=>by have:=hv.lt;omega
  have ug:g'≠gs:=fun e=>by have:=hB.lt;omega
  obtain ⟨w2,q1,b2,e2⟩:=Gt.JC (ty:=3) (sT:=22) (o:=i*1) (dLen:=len+1-i) (dCap:=VE-i) (sLen:=1) (sCap:=1) (n:=1) (a:=⟨g,0,none⟩) (cs:=ys) b1 (NN (by omega)) (by rw[X7]) (X8 hv1) (by omega) mX;refine ⟨_,w2,q1,by omega,by show ((i+1:Nat):Int)<=((i+(len+1-i):Nat):Int);omega,by omega,by omega,?_⟩;rw[CA (by omega),CA (by omega),show i+(len+1-i)-(i+1)=len-i by omega];have Qn:(M3.toList.take (i*1)++ys++M3.toList.drop (i*1+ys.length)).toArray.size=VE*1:=by
   simp only[aZ,ae,au,aJ,aK];omega
  obtain ⟨w3,q2,b3,e3⟩:=Gt.JC (ty:=3) (sT:=22) (w:=w2.drew) (o:=(i+1)*1) (dLen:=len-i) (dCap:=VE-(i+1)) (sLen:=len-i) (sCap:=cap-i) (n:=len-i) (a:=⟨gs,i*1,none⟩) (cs:=xs.drop (i*1)) b2.drew (NN (by omega)) dl (fun j v hj=>by
   have h0:=J6 j v hj;exact ((r5.trans (e2.mono (G:=fun j=>j=g') fun _ _ h=>h) (fun _ h=>h.elim) fun _ _ h=>h).drew.cell (BJ h0) (by rw[Bl];exact fun h=>ug h.symm)).trans h0) (by rw[Qn,dl];omega) RX
  refine ⟨_,w3,q2,⟨?_,.inr ⟨g',_,rfl,b3,by show i+(len+1-i)<=VE;exact r2,?_,?_⟩⟩,by show i+(len+1-i)=len+1;omega,?_,fun j hj=> .inr ?_⟩
  ·simp only[ae,tl,dl,X7];omega
  ·simp only[aZ,ae,au,aJ,aK,dl];simp only[aZ,ae,au,aJ,aK]at Qn;omega
  ·show List.take ((i+(len+1-i))*1) _=_;have e:(M3.toList.take (i*1)++ys++M3.toList.drop (i*1+ys.length)).toArray.toList.take ((i+1)*1)=xs.take (i*1)++ys:=by
    rw[r4];show List.take _ (_++_++_)=_;rw[bK (by rw[ae,tl,X7];omega)]
   rw[e,ax,<-ax,bK (by simp only[ae,tl,dl,X7];omega)]
  ·have E:Ext (fun j=>j=g') w1 w3:=(e2.mono fun _ _ h=>h).drew.tr (e3.mono fun _ _ h=>h);exact (Ext.new r5 E fun j hj=>by rw[hj];exact r6).mono fun _ _ h=>h.elim
  ·obtain ⟨a,ha,rfl⟩:=hj;cases ha;exact r6
 ·
  refine ⟨by omega,by omega,by omega,?_⟩;rw[aa,aa,CA (by omega),cg,bM,bM];refine ⟨by show ((i+1:Nat):Int)<=((len+1:Nat):Int);omega,false,w,?_,Br.t rfl ?_⟩
  ·dsimp only;rw[CA (by omega)];exact ANE hv hB Ye (by omega)
  refine ⟨by omega,by show ((i+1:Nat):Int)<=((len+1:Nat):Int);omega,by omega,by show ((i:Nat):Int)<=((len+1:Nat):Int);omega,?_⟩;dsimp only;rw[CA (by omega),CA (by omega),show len+1-(i+1)=len-i by omega];obtain ⟨w2,q1,b2,e2⟩:=Gt.JC (ty:=3) (sT:=22) (w:=w.drew) (o:=(i+1)*1) (dLen:=len-i) (dCap:=cap-(i+1)) (sLen:=len+1-i) (sCap:=cap-i) (n:=len-i) (a:=⟨gs,i*1,none⟩) (cs:=xs.drop (i*1)) hB.drew (ue (by omega)) dl (fun j v hj=>J6 j v hj) (by rw[A1,dl];omega) RX;refine ⟨_,w2,q1,by omega,by show ((i:Nat):Int)<=((len+1:Nat):Int);omega,?_⟩;have hv2:=e2.AS (b:=g) (cs:=ys.toArray) hv.drew Ye;have Qn:(cur.toList.take ((i+1)*1)++xs.drop (i*1)++cur.toList.drop ((i+1)*1+(xs.drop (i*1)).length)).toArray.size=cap*1:=by
   simp only[aZ,ae,au,aJ,aK];omega
  obtain ⟨w3,q2,b3,e3⟩:=Gt.JC (ty:=3) (sT:=22) (o:=i*1) (dLen:=len+1-i) (dCap:=cap-i) (sLen:=1) (sCap:=1) (n:=1) (a:=⟨g,0,none⟩) (cs:=ys) b2 (NN (by omega)) (by rw[X7]) (X8 hv2) (by rw[Qn];omega) mX;refine ⟨_,w3,q2,⟨?_,.inr ⟨gs,_,rfl,b3,by show len+1<=cap;omega,?_,?_⟩⟩,rfl,?_,fun j hj=> .inl ?_⟩
  ·simp only[ae,tl,dl,X7];omega
  ·show _=cap*1;simp only[aZ,ae,au,aJ,aK];omega
  ·show List.take ((len+1)*1) _=_;have t1:List.take (i*1) (cur.toList.take ((i+1)*1)++xs.drop (i*1)++cur.toList.drop ((i+1)*1+(xs.drop (i*1)).length))=xs.take (i*1):=by
    rw[ax,List.take_append_of_le_length (by rw[au,aK];omega),ef,<-DD,ef]
    congr 1
    omega
   have t2:List.drop (i*1+ys.length) (cur.toList.take ((i+1)*1)++xs.drop (i*1)++cur.toList.drop ((i+1)*1+(xs.drop (i*1)).length))=xs.drop (i*1)++cur.toList.drop ((i+1)*1+(xs.drop (i*1)).length):=by
    rw[ax,dy (by rw[au,aK];omega)]
   rw[show (cur.toList.take ((i+1)*1)++xs.drop (i*1)++cur.toList.drop ((i+1)*1+(xs.drop (i*1)).length)).toArray.toList=(cur.toList.take ((i+1)*1)++xs.drop (i*1)++cur.toList.drop ((i+1)*1+(xs.drop (i*1)).length))from rfl,t1,t2,<-ax,bK (by simp only[ae,tl,dl,X7];omega)]
  ·exact (Ext.refl _ w).drew.tr ((e2.mono (G:=fun j=>∃a,(⟨some ⟨gs,0,none⟩,len,cap⟩:AA).p=some a/\a.block=j) fun j _ h=>⟨_,rfl,h.symm⟩).tr (e3.mono fun j _ h=>⟨_,rfl,h.symm⟩))
  ·obtain ⟨a,ha,rfl⟩:=hj;exact ⟨a,ha,rfl⟩
theorem AGO {i:Nat}(own:Row w s 9 1 xs)(hi:i<s.len)(hs:s.len<=1000000)(Om:∀v∈xs,v.oneCell'=true):
  C95 s (i:Int) ((i+1:Nat):Int) w fun r w1=>Row w1 r 9 1 (xs.take (i*1)++xs.drop ((i+1)*1))/\r.len+1=s.len/\Ext s.own w w1/\∀j,r.own j->s.own j:=by
 refine T95 _ _ _ _ _ ?_;unfold S95;obtain ⟨gs,cur,hp,hB,hle,A1,DD⟩:∃gs cur,s.p=some ⟨gs,0,none⟩/\AO w gs cur 9/\s.len<=s.cap/\cur.size=s.cap*1/\cur.toList.take (s.len*1)=xs:=by
  rcases own.2 with h|h
  ·rw[h]at hi;simp at hi
  ·exact h
 have II:=own.1;obtain ⟨p,len,cap⟩:=s;simp only at hp hB hle A1 DD hi hs II;subst hp;obtain ⟨tl,_⟩:=CO (k:=1) II (a:=i) (by omega);obtain ⟨_,dl⟩:=CO (k:=1) II (a:=i+1) (by omega);dsimp only;refine ⟨by omega,by omega,by omega,by omega,by omega,by omega,Br.eq (fun q=>absurd q (by omega)) fun _=>⟨by omega,by omega,by omega,by omega,?_⟩⟩;rw[aa,aa,CA (by omega),jG,cg,bM,bM];obtain ⟨w1,r1,b1,e1⟩:=Gt.iC (ty:=22) (w:=w.drew) (len:=i) (cap:=cap) (n:=len-(i+1)) (cap2:=cap-(i+1)) (a:=⟨gs,if cap=i+1 then 0 else (i+1)*1,none⟩) (cs:=xs.drop ((i+1)*1)) hB.drew A1 dl (fun j v hj=>by
  have V7:=(ao.1 hj).1;rw[dl]at V7;rw[ah (by omega)];rw[bW]at hj;show w.cell? _=_;rw[add_lit,hB.cell,<-DD]at*;rw[aU]at hj;split at hj
  ·simpa using hj
  ·cases hj) (by omega) (fun v hv=>Om v (bS hv))
 refine ⟨_,w1,r1,by omega,by show ((len:Nat):Int)<=((cap:Nat):Int);omega,by omega,by rw[aa];show ((i+(len-(i+1)):Nat):Int)<=((len:Nat):Int);omega,?_⟩;dsimp only;rw[aa,aa];have uh:(cur.toList.take (i*1)++xs.drop ((i+1)*1)++cur.toList.drop (i*1+(xs.drop ((i+1)*1)).length)).toArray.size=cap*1:=by
  simp only[aZ,ae,au,aJ,aK];omega
 rw[CA (by omega)];obtain ⟨x,w2,fB,q1,b2,q2,q3,e2⟩:=Gt.iB (ty:=0) (o:=(i+(len-(i+1)))*1) (len:=len-(i+(len-(i+1)))) (cap:=cap-(i+(len-(i+1)))) b1 (by rw[uh];omega) AGM;refine ⟨x,w2,q1,⟨?_,.inr ⟨gs,fB,rfl,b2,by show i+(len-(i+1))<=cap;omega,by show fB.size=cap*1;rw[q2,uh],?_⟩⟩,by show i+(len-(i+1))+1=len;omega,?_,fun j hj=>?_⟩
 ·simp only[ae,tl,dl];omega
 ·show List.take ((i+(len-(i+1)))*1) fB.toList=_;have e:List.take (i*1) cur.toList=xs.take (i*1):=by
   rw[<-DD,ef]
   congr 1
   omega
  rw[q3];show List.take _ (_++_++_)=_;rw[e,bK (by simp only[ae,tl,dl];omega)]
 ·exact (Ext.refl _ w).drew.tr ((e1.mono (G:=fun j=>∃a,(⟨some ⟨gs,0,none⟩,len,cap⟩:AA).p=some a/\a.block=j) fun j _ h=>⟨_,rfl,h.symm⟩).tr (e2.mono fun j _ h=>⟨_,rfl,h.symm⟩))
 ·obtain ⟨a,ha,rfl⟩:=hj;cases ha;exact ⟨_,rfl,rfl⟩
end
theorem AGP:∀n,∀v∈(Builtin.zeroCells (.agg (AF Ir).toArray:Value).cells n).toList,v.oneCell'=true:=by
 intro n v hv;exact uf (zc:=(.agg (AF Ir).toArray:Value).cells) (fun x hx=>eZ Ir x hx) hv
section
variable {w w' w0 w1:World} {s:AA} {xs ys:List Value}
attribute [local irreducible] Ld Sh.St Nw Nn Lt AP Af B1 A6
theorem X9 (h2:Bh w s 6 xs)(h1:∀v∈xs,v.oneCell'=true)(hb:s.len<=1000000000):C62 s w fun r w1=>Row w1 r 25 6 xs/\r.len=s.len/\Ext (fun _=>False) w w1/\∀j,r.own j->w.heap.size<=j:=by
 refine T62 _ _ _ ?_;unfold S62;obtain ⟨p,len,cap⟩:=s;cases p with
 |none=>
  have hx:xs=[]:=by
   cases xs with
   |nil=>rfl
   |cons x r=>obtain ⟨a,ha,_⟩:=h2.2 0 x rfl;cases ha
  subst hx;have hl:=h2.1;simp only[bq]at hl;have vv:len=0:=by omega
  exact Br.t rfl ⟨Row.nil _ _ _,vv.symm,Ext.refl _ _,fun j hj=>by obtain ⟨a,ha,_⟩:=hj;cases ha⟩
 |some a=>
  refine Br.f rfl (Nw.of ?_);have e1:Ext (fun _=>False) w (w.alloc (.cells #[] 25)):=(Ext.refl _ _).alloc _;have R0:Row (w.alloc (.cells #[] 25)) ⟨some ⟨w.heap.size,0,none⟩,0,0⟩ 25 6 []:=Row.new w #[] 25 6 0 (by simp);obtain ⟨s',w',r1,r2,r3,r4,r5⟩:=Mb.ACZ (ty:=23) (by decide) R0 rfl (h2.AB e1) h1 (by show len*_<=_;have:len<=1000000000:=hb;omega) (by show len<=_;have:len<=1000000000:=hb;omega);refine ⟨s',w',r1,r2,r3,e1.tr r4,fun j hj=>?_⟩;have:=e1.size;rcases r5 j hj with ⟨a,ha,rfl⟩|h
  ·cases ha;exact av _
  ·omega
theorem ANF {g gs vl vc sl sc so:Nat}{cv cs:Array Value}(hv:AO w g cv 25)(hs:AO w gs cs 25)(A2:g≠gs)(h0:cs.size≠0):Wi prog 99 #[AA.v ⟨some ⟨g,0,none⟩,vl,vc⟩,AA.v ⟨some ⟨gs,so,none⟩,sl,sc⟩] w (.bool false) w:=by
 unfold Wi;have sh:∀{b:Nat} {c:Array Value},AO w b c 25->w.shape? b=some (25,c.size):=fun h=>by unfold AO at h;simp[World.shape?,h]
 rw[run_callFunc_extern Tryz.func99 (by kernel_rfl) (by kernel_rfl) (by kernel_rfl) (e:=Extern.SlicesOverlaps.overlaps #[23,23] #[4]) (by kernel_rfl)];show ((Extern.SlicesOverlaps.overlaps #[23,23] #[4] #[.slice (some ⟨g,0,none⟩) vl vc,.slice (some ⟨gs,so,none⟩) sl sc]).run prog w).andThen _=_;rw[Lib.run_overlaps_apart (P:=prog) w 23 4 25 Mb.fP 6 Tryz.sizeOf25 ⟨g,0,none⟩ ⟨gs,so,none⟩ vl vc sl sc A2 25 25 cv.size cs.size (sh hv) (sh hs) h0 (hv.frozen 0) (hv.frozen _)]
 rfl
theorem AGQ {i g:Nat}(own:Row w s 25 6 xs)(hi:i<=s.len)(hs:s.len<=1000000)(hv:AO w g ys.toArray 25)(X7:ys.length=6)(mX:∀v∈ys,v.oneCell'=true)(Om:∀v∈xs,v.oneCell'=true)(hg:¬s.own g):
  C64 s (i:Int) ⟨some ⟨g,0,none⟩,1,1⟩ w fun r w1=>Row w1 r 25 6 (xs.take (i*6)++ys++xs.drop (i*6))/\r.len=s.len+1/\Ext s.own w w1/\∀j,r.own j->s.own j\/w.heap.size<=j:=by
 refine T64 _ _ _ _ _ ?_;unfold S64;have X8:∀{u:World},AO u g ys.toArray 25->∀j v,ys[j]?=some v->u.cell? ((⟨g,0,none⟩:Addr).add j)=some v:=fun hu j v hj=>by
  rw[add_lit,hu.cell,aj];simpa using hj
 have II:=own.1;refine ⟨by omega,by omega,Br.f rfl (Br.eq (fun FP=>?_) fun FP=>?_)⟩
 ·obtain ⟨s',w',r1,r2,r3,r4,r5⟩:=Mb.Ip (ty:=23) own hv X7 mX (by omega) (by omega);have hii:i=s.len:=by omega
  refine ⟨s',w',r1,?_,r3,r4,r5⟩;rw[hii,<-II,bj,List.drop_length,aM];exact r2
 have Am:i<s.len:=by omega
 obtain ⟨gs,cur,hp,hB,hle,A1,DD⟩:∃gs cur,s.p=some ⟨gs,0,none⟩/\AO w gs cur 25/\s.len<=s.cap/\cur.size=s.cap*6/\cur.toList.take (s.len*6)=xs:=by
  rcases own.2 with h|h
  ·rw[h]at Am;simp at Am
  ·exact h
 obtain ⟨p,len,cap⟩:=s;simp only at hp hB hle A1 DD hi hs Am FP II;subst hp;have Ye:g≠gs:=fun e=>hg ⟨_,rfl,e.symm⟩
 have hlw:wrap .i64 ((((len:Nat)):Int)+(((1:Nat)):Int))=((len+1:Nat):Int):=by rw[wrap64 ⟨by omega,by omega⟩];rfl
 have hiw:wrap .i64 (((i:Nat):Int)+(((1:Nat)):Int))=((i+1:Nat):Int):=by rw[wrap64 ⟨by omega,by omega⟩];rfl
 obtain ⟨tl,dl⟩:=CO (k:=6) II hi;have J6:∀j v,(xs.drop (i*6))[j]?=some v->w.cell? ((⟨gs,i*6,none⟩:Addr).add j)=some v:=fun j v hj=>by
  rw[bW]at hj;rw[add_lit,hB.cell,<-DD]at*;rw[aU]at hj;split at hj
  ·simpa using hj
  ·cases hj
 have RX:∀v∈xs.drop (i*6),v.oneCell'=true:=fun v hv=>Om v (bS hv)
 dsimp only;rw[hlw,hiw];refine Lt.of (Br.dec (fun Rm=>?_) fun Rm=>?_)
 ·
  have hnw:wrap .i64 (((len+1:Nat):Int)-((i:Nat):Int))=((len+1-i:Nat):Int):=by rw[wrap64 ⟨by omega,by omega⟩];omega
  rw[hnw];refine ⟨by omega,by omega,Lt.of ?_⟩;rw[aa,aa,CA (by omega),cg,bM,bM];obtain ⟨g',VE,M3,w1,r1,b1,r2,r3,r4,r5,r6⟩:=Mb.ABT (ty:=23) jH (p:=⟨gs,0,none⟩) (sLen:=i) (sCap:=cap) (n:=len+1-i) (olds:=xs.take (i*6)) tl (fun j v hj=>by
   rw[add_lit,hB.cell,aj];rw[aU]at hj;split at hj
   ·rw[<-DD,aU]at hj;split at hj
    ·simpa using hj
    ·cases hj
   ·cases hj) (by omega) (by decide) (by omega) (by omega) (by omega)
  refine ⟨_,w1,r1,by omega,by show ((i:Nat):Int)<=((i+(len+1-i):Nat):Int);omega,?_⟩;dsimp only;rw[CA (by omega),show i+(len+1-i)-i=len+1-i by omega];have hv1:=r5.AS hv id;have AYk:g'≠g:=fun e=>by have:=hv.lt;omega
  have ug:g'≠gs:=fun e=>by have:=hB.lt;omega
  obtain ⟨w2,q1,b2,e2⟩:=Mb.JC (ty:=3) (sT:=23) (o:=i*6) (dLen:=len+1-i) (dCap:=VE-i) (sLen:=1) (sCap:=1) (n:=1) (a:=⟨g,0,none⟩) (cs:=ys) b1 (NN (by omega)) (by rw[X7]) (X8 hv1) (by omega) mX;refine ⟨_,w2,q1,by omega,by show ((i+1:Nat):Int)<=((i+(len+1-i):Nat):Int);omega,by omega,by omega,?_⟩;rw[CA (by omega),CA (by omega),show i+(len+1-i)-(i+1)=len-i by omega];have Qn:(M3.toList.take (i*6)++ys++M3.toList.drop (i*6+ys.length)).toArray.size=VE*6:=by
   simp only[aZ,ae,au,aJ,aK];omega
  obtain ⟨w3,q2,b3,e3⟩:=Mb.JC (ty:=3) (sT:=23) (w:=w2.drew) (o:=(i+1)*6) (dLen:=len-i) (dCap:=VE-(i+1)) (sLen:=len-i) (sCap:=cap-i) (n:=len-i) (a:=⟨gs,i*6,none⟩) (cs:=xs.drop (i*6)) b2.drew (NN (by omega)) dl (fun j v hj=>by
   have h0:=J6 j v hj;exact ((r5.trans (e2.mono (G:=fun j=>j=g') fun _ _ h=>h) (fun _ h=>h.elim) fun _ _ h=>h).drew.cell (BJ h0) (by rw[Bl];exact fun h=>ug h.symm)).trans h0) (by rw[Qn,dl];omega) RX
  refine ⟨_,w3,q2,⟨?_,.inr ⟨g',_,rfl,b3,by show i+(len+1-i)<=VE;exact r2,?_,?_⟩⟩,by show i+(len+1-i)=len+1;omega,?_,fun j hj=> .inr ?_⟩
  ·simp only[ae,tl,dl,X7];omega
  ·simp only[aZ,ae,au,aJ,aK,dl];simp only[aZ,ae,au,aJ,aK]at Qn;omega
  ·show List.take ((i+(len+1-i))*6) _=_;have e:(M3.toList.take (i*6)++ys++M3.toList.drop (i*6+ys.length)).toArray.toList.take ((i+1)*6)=xs.take (i*6)++ys:=by
    rw[r4];show List.take _ (_++_++_)=_;rw[bK (by rw[ae,tl,X7];omega)]
   rw[e,ax,<-ax,bK (by simp only[ae,tl,dl,X7];omega)]
  ·have E:Ext (fun j=>j=g') w1 w3:=(e2.mono fun _ _ h=>h).drew.tr (e3.mono fun _ _ h=>h);exact (Ext.new r5 E fun j hj=>by rw[hj];exact r6).mono fun _ _ h=>h.elim
  ·obtain ⟨a,ha,rfl⟩:=hj;cases ha;exact r6
 ·
  refine ⟨by omega,by omega,by omega,?_⟩;rw[aa,aa,CA (by omega),cg,bM,bM];refine ⟨by show ((i+1:Nat):Int)<=((len+1:Nat):Int);omega,false,w,?_,Br.t rfl ?_⟩
  ·dsimp only;rw[CA (by omega)];exact ANF hv hB Ye (by omega)
  refine ⟨by omega,by show ((i+1:Nat):Int)<=((len+1:Nat):Int);omega,by omega,by show ((i:Nat):Int)<=((len+1:Nat):Int);omega,?_⟩;dsimp only;rw[CA (by omega),CA (by omega),show len+1-(i+1)=len-i by omega];obtain ⟨w2,q1,b2,e2⟩:=Mb.JC (ty:=3) (sT:=23) (w:=w.drew) (o:=(i+1)*6) (dLen:=len-i) (dCap:=cap-(i+1)) (sLen:=len+1-i) (sCap:=cap-i) (n:=len-i) (a:=⟨gs,i*6,none⟩) (cs:=xs.drop (i*6)) hB.drew (ue (by omega)) dl (fun j v hj=>J6 j v hj) (by rw[A1,dl];omega) RX;refine ⟨_,w2,q1,by omega,by show ((i:Nat):Int)<=((len+1:Nat):Int);omega,?_⟩;have hv2:=e2.AS (b:=g) (cs:=ys.toArray) hv.drew Ye;have Qn:(cur.toList.take ((i+1)*6)++xs.drop (i*6)++cur.toList.drop ((i+1)*6+(xs.drop (i*6)).length)).toArray.size=cap*6:=by
   simp only[aZ,ae,au,aJ,aK];omega
  obtain ⟨w3,q2,b3,e3⟩:=Mb.JC (ty:=3) (sT:=23) (o:=i*6) (dLen:=len+1-i) (dCap:=cap-i) (sLen:=1) (sCap:=1) (n:=1) (a:=⟨g,0,none⟩) (cs:=ys) b2 (NN (by omega)) (by rw[X7]) (X8 hv2) (by rw[Qn];omega) mX;refine ⟨_,w3,q2,⟨?_,.inr ⟨gs,_,rfl,b3,by show len+1<=cap;omega,?_,?_⟩⟩,rfl,?_,fun j hj=> .inl ?_⟩
  ·simp only[ae,tl,dl,X7];omega
  ·show _=cap*6;simp only[aZ,ae,au,aJ,aK];omega
  ·show List.take ((len+1)*6) _=_;have t1:List.take (i*6) (cur.toList.take ((i+1)*6)++xs.drop (i*6)++cur.toList.drop ((i+1)*6+(xs.drop (i*6)).length))=xs.take (i*6):=by
    rw[ax,List.take_append_of_le_length (by rw[au,aK];omega),ef,<-DD,ef]
    congr 1
    omega
   have t2:List.drop (i*6+ys.length) (cur.toList.take ((i+1)*6)++xs.drop (i*6)++cur.toList.drop ((i+1)*6+(xs.drop (i*6)).length))=xs.drop (i*6)++cur.toList.drop ((i+1)*6+(xs.drop (i*6)).length):=by
    rw[ax,dy (by rw[au,aK];omega)]
   rw[show (cur.toList.take ((i+1)*6)++xs.drop (i*6)++cur.toList.drop ((i+1)*6+(xs.drop (i*6)).length)).toArray.toList=(cur.toList.take ((i+1)*6)++xs.drop (i*6)++cur.toList.drop ((i+1)*6+(xs.drop (i*6)).length))from rfl,t1,t2,<-ax,bK (by simp only[ae,tl,dl,X7];omega)]
  ·exact (Ext.refl _ w).drew.tr ((e2.mono (G:=fun j=>∃a,(⟨some ⟨gs,0,none⟩,len,cap⟩:AA).p=some a/\a.block=j) fun j _ h=>⟨_,rfl,h.symm⟩).tr (e3.mono fun j _ h=>⟨_,rfl,h.symm⟩))
  ·obtain ⟨a,ha,rfl⟩:=hj;exact ⟨a,ha,rfl⟩
theorem AGR {i:Nat}(own:Row w s 25 6 xs)(hi:i<s.len)(hs:s.len<=1000000)(Om:∀v∈xs,v.oneCell'=true):
  C96 s (i:Int) ((i+1:Nat):Int) w fun r w1=>Row w1 r 25 6 (xs.take (i*6)++xs.drop ((i+1)*6))/\r.len+1=s.len/\Ext s.own w w1/\∀j,r.own j->s.own j:=by
 refine T96 _ _ _ _ _ ?_;unfold S96;obtain ⟨gs,cur,hp,hB,hle,A1,DD⟩:∃gs cur,s.p=some ⟨gs,0,none⟩/\AO w gs cur 25/\s.len<=s.cap/\cur.size=s.cap*6/\cur.toList.take (s.len*6)=xs:=by
  rcases own.2 with h|h
  ·rw[h]at hi;simp at hi
  ·exact h
 have II:=own.1;obtain ⟨p,len,cap⟩:=s;simp only at hp hB hle A1 DD hi hs II;subst hp;obtain ⟨tl,_⟩:=CO (k:=6) II (a:=i) (by omega);obtain ⟨_,dl⟩:=CO (k:=6) II (a:=i+1) (by omega);dsimp only;refine ⟨by omega,by omega,by omega,by omega,by omega,by omega,Br.eq (fun q=>absurd q (by omega)) fun _=>⟨by omega,by omega,by omega,by omega,?_⟩⟩;rw[aa,aa,CA (by omega),jG,cg,bM,bM];obtain ⟨w1,r1,b1,e1⟩:=Mb.iC (ty:=23) (w:=w.drew) (len:=i) (cap:=cap) (n:=len-(i+1)) (cap2:=cap-(i+1)) (a:=⟨gs,if cap=i+1 then 0 else (i+1)*6,none⟩) (cs:=xs.drop ((i+1)*6)) hB.drew A1 dl (fun j v hj=>by
  have V7:=(ao.1 hj).1;rw[dl]at V7;rw[ah (by omega)];rw[bW]at hj;show w.cell? _=_;rw[add_lit,hB.cell,<-DD]at*;rw[aU]at hj;split at hj
  ·simpa using hj
  ·cases hj) (by omega) (fun v hv=>Om v (bS hv))
 refine ⟨_,w1,r1,by omega,by show ((len:Nat):Int)<=((cap:Nat):Int);omega,by omega,by rw[aa];show ((i+(len-(i+1)):Nat):Int)<=((len:Nat):Int);omega,?_⟩;dsimp only;rw[aa,aa];have uh:(cur.toList.take (i*6)++xs.drop ((i+1)*6)++cur.toList.drop (i*6+(xs.drop ((i+1)*6)).length)).toArray.size=cap*6:=by
  simp only[aZ,ae,au,aJ,aK];omega
 rw[CA (by omega)];obtain ⟨x,w2,fB,q1,b2,q2,q3,e2⟩:=Mb.iB (ty:=0) (o:=(i+(len-(i+1)))*6) (len:=len-(i+(len-(i+1)))) (cap:=cap-(i+(len-(i+1)))) b1 (by rw[uh];omega) AGP;refine ⟨x,w2,q1,⟨?_,.inr ⟨gs,fB,rfl,b2,by show i+(len-(i+1))<=cap;omega,by show fB.size=cap*6;rw[q2,uh],?_⟩⟩,by show i+(len-(i+1))+1=len;omega,?_,fun j hj=>?_⟩
 ·simp only[ae,tl,dl];omega
 ·show List.take ((i+(len-(i+1)))*6) fB.toList=_;have e:List.take (i*6) cur.toList=xs.take (i*6):=by
   rw[<-DD,ef]
   congr 1
   omega
  rw[q3];show List.take _ (_++_++_)=_;rw[e,bK (by simp only[ae,tl,dl];omega)]
 ·exact (Ext.refl _ w).drew.tr ((e1.mono (G:=fun j=>∃a,(⟨some ⟨gs,0,none⟩,len,cap⟩:AA).p=some a/\a.block=j) fun j _ h=>⟨_,rfl,h.symm⟩).tr (e2.mono fun j _ h=>⟨_,rfl,h.symm⟩))
 ·obtain ⟨a,ha,rfl⟩:=hj;cases ha;exact ⟨_,rfl,rfl⟩
end
end Vl
namespace Vl
open Sh
def lt (a b:ByteArray):Bool:=Op.bytesLess a.toList b.toList
theorem Gv:∀{a b c:List UInt8},Op.bytesLess a b=true->Op.bytesLess b c=true->Op.bytesLess a c=true
 |_,[],_,h,_=>by simp[Op.bytesLess]at h
 |_,_::_,[],_,h=>by simp[Op.bytesLess]at h
 |[],_::_,_::_,_,_=>rfl
 |x::a,y::b,z::c,h1,h2=>by
  simp only[Op.bytesLess,ck,ay,bP,beq_iff_eq]at h1 h2⊢;rcases h1 with h1|⟨rfl,h1⟩
  ·rcases h2 with h2|⟨rfl,h2⟩
   ·left;exact UInt8.lt_trans h1 h2
   ·exact .inl h1
  ·rcases h2 with h2|⟨rfl,h2⟩
   ·exact .inl h2
   ·exact .inr ⟨rfl,Gv h1 h2⟩
theorem oU:∀(a:List UInt8),Op.bytesLess a a=false
 |[]=>rfl
 |x::a=>by simp[Op.bytesLess,oU a]
theorem oW:∀{a b:List UInt8},Op.bytesLess a b=false->a≠b->Op.bytesLess b a=true
 |[],[],_,h=>absurd rfl h
 |[],_::_,h,_=>by simp[Op.bytesLess]at h
 |_::_,[],_,_=>rfl
 |x::a,y::b,h,A2=>by
  simp only[Op.bytesLess,Bool.or_eq_false_iff,Bool.and_eq_false_imp,decide_eq_false_iff_not,beq_iff_eq,ck,ay,bP]at h⊢;by_cases hxy:x=y
  ·subst hxy;exact .inr ⟨rfl,oW (h.2 rfl) fun e=>A2 (by rw[e])⟩
  ·left;have:=h.1;rcases UInt8.lt_or_lt_of_ne hxy with h'|h'
   ·exact absurd h' this
   ·exact h'
def Up (ks:List ByteArray):Prop:=∀(i j:Nat) (a b:ByteArray),i<j->ks[i]?=some a->ks[j]?=some b->lt a b=true
def BD (key:ByteArray)(ks:List ByteArray):Nat:=(ks.takeWhile fun a=>lt a key).length
theorem ui (key:ByteArray)(ks:List ByteArray):BD key ks<=ks.length:=(List.takeWhile_sublist _).length_le
theorem UN {key:ByteArray}:∀{ks:List ByteArray} {i:Nat} {a:ByteArray},i<BD key ks->ks[i]?=some a->lt a key=true
 |[],i,a,h,h2=>by simp at h2
 |x::ks,i,a,h,h2=>by
  unfold BD at h;rw[List.takeWhile_cons]at h;split at h
  ·rename_i hx;cases i with
   |zero=>simp only[bL,bE]at h2;subst h2;exact hx
   |succ i=>exact UN (ks:=ks) (by simpa[BD]using h) (by simpa using h2)
  ·simp at h
theorem pos_at {key:ByteArray}:∀{ks:List ByteArray} {a:ByteArray},ks[BD key ks]?=some a->lt a key=false
 |[],a,h=>by simp[BD]at h
 |x::ks,a,h=>by
  unfold BD at h;rw[List.takeWhile_cons]at h;cases hx:lt x key with
  |true=>
   rw[hx]at h;exact pos_at (ks:=ks) (by simpa[BD]using h)
  |false=>
   rw[hx]at h;simp at h;subst h;exact hx
theorem ADW {key:ByteArray}{ks:List ByteArray}(hu:Up ks){i:Nat}{a:ByteArray}(h:BD key ks<=i)(hi:ks[i]?=some a):lt a key=false:=by
 rcases Nat.eq_or_lt_of_le h with rfl|Am
 ·exact pos_at hi
 ·have hl:=(ao.1 hi).1;have hp:=ad (show BD key ks<ks.length by omega);have h1:=pos_at hp;have h2:=hu _ _ _ _ Am hp hi;rw[<-Bool.not_eq_true];intro h3;have:lt ks[BD key ks] key=true:=Gv h2 h3;rw[h1]at this;cases this
theorem AGS {key:ByteArray}{ks:List ByteArray}(hu:Up ks){p:Nat}(hp:p<=ks.length)(h1:∀i a,i<p->ks[i]?=some a->lt a key=true)(h2:∀i a,p<=i->ks[i]?=some a->lt a key=false):BD key ks=p:=by
 have hl:=ui key ks;rcases Nat.lt_trichotomy (BD key ks) p with h|h|h
 ·have hi:=ad (show BD key ks<ks.length by omega);have a1:=pos_at hi;rw[h1 _ _ h hi]at a1;cases a1
 ·exact h
 ·have hi:=ad (show p<ks.length by omega);have a1:=UN h hi;rw[h2 _ _ (av _) hi]at a1;cases a1
theorem AB2:∀{ks:List ByteArray} {kids:List Tr} {RW:Bool} {p:Option ByteArray},RV RW p ks kids=true->Up ks/\∀a,ks[0]?=some a->X5 p a=true
 |[],_,_,_,_=>⟨fun i j a b _ h=>by simp at h,fun a h=>by simp at h⟩
 |k::ks,[],_,_,h=>by simp[RV]at h
 |k::ks,x::xs,RW,p,h=>by
  rw[NM]at h;simp only[ay]at h;obtain ⟨hu,h0⟩:=AB2 h.2;refine ⟨fun i j a b MG hi hj=>?_,fun a ha=>by simp only[bL,bE]at ha;rw[<-ha];exact h.1.1.1.2⟩;cases j with
  |zero=>omega
  |succ j=>
   simp only[dq]at hj;cases i with
   |succ i=>exact hu i j a b (by omega) (by simpa using hi) hj
   |zero=>
    simp only[bL,bE]at hi;subst hi;cases j with
    |zero=>exact h0 _ hj
    |succ j=>
     have hl:=(ao.1 hj).1;have h00:=ad (show 0<ks.length by omega);exact Gv (h0 _ h00) (hu 0 (j+1) _ _ (by omega) h00 hj)
def zj (key:ByteArray)(ks:List ByteArray):Int:=match ks.findIdx? (fun a=>key.toList==a.toList)with
 |some i=>(i:Int)
 |none=>-1
section
variable {w w' w0 w1:World} {s:AA} {ks:List ByteArray} {o:Ob} {t:Tr}
attribute [local irreducible] Ld Sh.St Nw Nn Lt AP Af B1 A6
theorem M9 (x y:ByteArray)(w:World):C93 x y w fun r w1=>r=lt x y/\w1=w:=by
 refine T93 _ _ _ _ ?_;unfold S93;refine AWy _ _ _ ?_;unfold ALZ;exact Br.f (by simp) ⟨rfl,rfl⟩
theorem TN (hK:KV w s ks)(hu:Up ks)(hl:ks.length<=1000000)(key:ByteArray):C57 s key w fun r b w1=>r=((BD key ks:Nat):Int)/\b=decide (ks[BD key ks]?=some key)/\w1=w:=by
 refine T57 _ _ _ _ ?_;unfold S57;have Ga:=hK.1.1;rw[Ga];refine ⟨fun n st v=>∃lo hi:Nat,st=((lo:Int),(hi:Int))/\lo<=hi/\hi<=ks.length/\n=hi-lo/\v=w/\(∀i a,i<lo->ks[i]?=some a->lt a key=true)/\(∀i a,hi<=i->ks[i]?=some a->lt a key=false),ks.length,⟨0,ks.length,rfl,by omega,by omega,rfl,rfl,fun i a h=>by omega,fun i a h h2=>by have:=(ao.1 h2).1;omega⟩,?_⟩;rintro n st v ⟨lo,hi,rfl,h1,h2,rfl,rfl,h3,h4⟩;unfold ABC;dsimp only;have hm:wrap .i64 (Int.fdiv (wrap .u64 (wrap .i64 (((lo:Nat):Int)+((hi:Nat):Int)))) (2^1))=(((lo+hi)/2:Nat):Int):=by
  rw[AE (n:=((lo:Nat):Int)+((hi:Nat):Int)) (by omega),IntWalk.u64_in _ (by omega),dD _ (by decide)];rw[show (2^1:Int)=2 from rfl,AE (by omega)];omega
 rw[hm];refine Br.dec (fun q=>?_) fun q=>?_
 ·have Am:lo<hi:=by omega
  generalize hmd:(lo+hi)/2=m;have hml:lo<=m/\m<hi:=by omega
  have J0:=ad (show m<ks.length by omega);generalize ks[m]=k at J0;refine ⟨by omega,by rw[Ga];omega,hK.get J0 ((M9 k key v).mono ?_)⟩;rintro r w2 ⟨rfl,rfl⟩;cases hk:lt k key with
  |true=>
   refine Br.t rfl (Lt.of ⟨hi-(m+1),by omega,m+1,hi,by rw[AE (by omega)];rfl,by omega,h2,rfl,rfl,fun i a YV ha=>?_,h4⟩);rcases bX i m with h|h
   ·exact Gv (hu i m a k h ha J0) hk
   ·obtain rfl:i=m:=by omega
    rw[J0]at ha;cases ha;exact hk
  |false=>
   refine Br.f rfl ⟨m-lo,by omega,lo,m,rfl,by omega,by omega,rfl,rfl,h3,fun i a YV ha=>?_⟩;rcases Nat.eq_or_lt_of_le YV with rfl|h
   ·rw[J0]at ha;cases ha;exact hk
   ·rw[<-Bool.not_eq_true];intro h5;have:=Gv (hu m i k a h J0 ha) h5;have ME:Op.bytesLess k.toList key.toList=false:=hk;rw[ME]at this;cases this
 ·obtain rfl:lo=hi:=by omega
  have hp:=AGS hu h2 h3 h4;rw[hp];refine Br.dec (fun q2=>?_) fun q2=>⟨rfl,?_,rfl⟩
  ·have J0:=ad (show lo<ks.length by omega);generalize ks[lo]=k at J0;refine ⟨by omega,by rw[Ga];omega,hK.get J0 ?_⟩;rw[J0,eqL];refine Br.dec (fun e=>⟨rfl,?_,rfl⟩) fun e=>⟨by omega,by rw[Ga];omega,hK.get J0 ?_⟩
   ·symm
    exact aD (by rw[ByteArray.ext (Array.toList_inj.1 e)])
   ·refine T94 _ _ _ ?_;unfold S94;refine Br.f (by simp) ⟨rfl,?_,rfl⟩
    symm
    exact aP (fun h=>e (by cases h;rfl))
  ·symm
   exact aP (by rw[bF (by omega)];intro h;cases h)
theorem zk (hK:KV w s ks)(key:ByteArray):C68 s key w fun r w1=>r=zj key ks/\w1=w:=by
 refine T68 _ _ _ _ ?_;unfold S68;have Ga:=hK.1.1;have hl:=hK.1.2;refine ⟨fun n st v=>∃i:Nat,st=(i:Int)/\i<=ks.length/\n=ks.length-i/\v=w/\∀j a,j<i->ks[j]?=some a->(key.toList==a.toList)=false,ks.length,⟨0,rfl,by omega,rfl,rfl,fun j a h=>by omega⟩,?_⟩;rintro n st v ⟨i,rfl,hi,rfl,rfl,BF⟩;unfold ABB;rw[Ga];refine Br.dec (fun q=>⟨by omega,by omega,?_⟩) fun q=>?_
 ·have J0:=ad (show i<ks.length by omega);generalize hk:ks[i]=k at J0;refine hK.get J0 ?_;cases he:(key.toList==k.toList)with
  |true=>
   refine Br.t rfl ⟨?_,rfl⟩;unfold zj;rw[show ks.findIdx? (fun a=>key.toList==a.toList)=some i from List.findIdx?_eq_some_iff_getElem.2 ⟨by omega,by rw[hk];exact he,fun j hj=>by
    have:=BF j _ hj (ad (by omega));simpa using this⟩]
  |false=>
   refine Br.f rfl ⟨ks.length-(i+1),by omega,i+1,by rw[AE (by omega)];rfl,by omega,rfl,rfl,fun j a hj ha=>?_⟩;rcases bX j i with h|h
   ·exact BF j a h ha
   ·obtain rfl:j=i:=by omega
    rw[J0]at ha;cases ha;exact he
 ·refine ⟨?_,rfl⟩;unfold zj;rw[List.findIdx?_eq_none_iff.2 fun a ha=>by
   obtain ⟨j,hj,rfl⟩:=cu.1 ha;exact BF j _ (by omega) (ad hj)]
end
end Vl
namespace Vl
open Sh
mutual
def Gb:Tr->Bool
 | .mk k n g s ks kids=>decide (ks.length<=100000)&&decide (kids.length<=100000)&&zl kids
def zl:List Tr->Bool
 |[]=>true
 |t::r=>Gb t&&zl r
end
theorem MY (t:Tr):Gb t=(decide (t.ks.length<=100000)&&decide (t.kids.length<=100000)&&zl t.kids):=by
 cases t;rw[Gb]
 rfl
theorem K6:∀{l:List Tr},zl l=true↔∀t∈l,Gb t=true
 |[]=>by simp[zl]
 |t::r=>by
  rw[zl,ay,K6];simp
theorem uj {deep:Int}{t:Tr}(h:Ff deep t=true):t.ks.length<=8191/\t.kids.length<=8191:=by
 unfold Ff at h;simp only[ay]at h;obtain ⟨_,h⟩:=h;split at h
 ·cases h
 ·rename_i u hu;unfold KP Lw at h;simp only[ay,ck,bP,beq_iff_eq,dR]at h;have h1:t.kids.length<=8191:=by have:=h.2.1.1.2;omega
  refine ⟨?_,h1⟩;rcases h.2.2 with SQ|hr
  ·rcases h.1.1.1.2 with h2|h2
   ·rw[SQ]at h2;cases h2
   ·omega
  ·have:t.ks.length=t.kids.length:=by
    by_cases A2:t.ks.length=t.kids.length
    ·exact A2
    ·unfold Lu at hr;rw[Lx A2]at hr;cases hr
   omega
mutual
theorem QH {deep:Int}:∀(t:Tr),Cc deep t=true->Gb t=true
 | .mk k n g s ks kids,h=>by
  rw[Cc,ay]at h;obtain ⟨h1,h2⟩:=uj h.1;have h1:ks.length<=8191:=h1;have h2:kids.length<=8191:=h2;rw[Gb,aD (by omega),aD (by omega),cM,cM];exact uk kids h.2
theorem uk {deep:Int}:∀(l:List Tr),okL deep l=true->zl l=true
 |[],_=>rfl
 |t::r,h=>by
  rw[okL,ay]at h;rw[zl,QH t h.1,uk r h.2]
  rfl
end
def V8 (G:Nat->Prop)(w:World):Nat->Ob->Tr->Prop
 |0,_,_=>False
 |d+1,o,t=>(o.1=t.k/\o.2.1=t.n/\o.2.2.1=t.g/\o.2.2.2.1=t.s)/\(KV w o.2.2.2.2.1 t.ks/\∀j,o.2.2.2.2.1.own j->G j)/\∃L:List Ob,(OV w o.2.2.2.2.2 L/\∀j,o.2.2.2.2.2.own j->G j)/\A9 (V8 G w d) L t.kids
theorem V8.to{G:Nat->Prop}{w:World}:∀{d:Nat} {o:Ob} {t:Tr},V8 G w d o t->KM w d o t
 |0,_,_,h=>h.elim
 |d+1,o,t,⟨h1,h2,L,h3,h4⟩=>⟨h1,h2.1,L,h3.1,h4.imp fun _ _ h=>h.to⟩
theorem KV.AI{F:Nat->Prop}{w w':World}{s:AA}{K:List ByteArray}(h:KV w s K)(he:Ext F w w')(hF:∀j,s.own j->¬F j):KV w' s K:=⟨h.1,fun i b hi=>by
 obtain ⟨a,ha,hc⟩:=h.2 i b hi;refine ⟨a,ha,?_⟩;rw[he.cell (BJ hc) (by rw[Bl];exact hF _ ⟨a,ha,rfl⟩)];exact hc⟩
theorem V8.AI{G F:Nat->Prop}{w w':World}(he:Ext F w w')(hF:∀j,G j->¬F j):∀{d:Nat} {o:Ob} {t:Tr},V8 G w d o t->V8 G w' d o t
 |0,_,_,h=>h.elim
 |d+1,o,t,⟨h1,h2,L,h3,h4⟩=>⟨h1,⟨h2.1.AI he fun j hj=>hF j (h2.2 j hj),h2.2⟩,L,⟨⟨h3.1.1,h3.1.2.AI he fun j hj=>hF j (h3.2 j hj)⟩,h3.2⟩,h4.imp fun _ _ h=>V8.AI he hF h⟩
theorem V8.Fc{G G':Nat->Prop}{w:World}(hG:∀j,G j->G' j):∀{d:Nat} {o:Ob} {t:Tr},V8 G w d o t->V8 G' w d o t
 |0,_,_,h=>h.elim
 |d+1,o,t,⟨h1,h2,L,h3,h4⟩=>⟨h1,⟨h2.1,fun j hj=>hG j (h2.2 j hj)⟩,L,⟨h3.1,fun j hj=>hG j (h3.2 j hj)⟩,h4.imp fun _ _ h=>V8.Fc hG h⟩
theorem KV.view{w:World}{s:AA}{K:List ByteArray}(h:KV w s K):Bh w s 1 (K.map Value.string):=⟨by rw[bp,aH];exact h.1.1.symm,fun j v hj=>by
 rw[aE,bg]at hj;obtain ⟨b,hb,rfl⟩:=hj;exact h.2 j b hb⟩
theorem KV.of{w:World}{s:AA}{K:List ByteArray}(h:Bh w s 1 (K.map Value.string))(hl:K.length<=9223372036854775807):KV w s K:=⟨⟨by have:=h.1;rw[bp]at this;omega,hl⟩,fun i b hi=>h.2 i _ (by rw[aE,hi];rfl)⟩
theorem KV.row{w:World}{s:AA}{K:List ByteArray}(h:Row w s 9 1 (K.map Value.string))(hl:K.length<=9223372036854775807):KV w s K:= .of h.view hl
theorem OV.row{w:World}{s:AA}{L:List Ob}(h:Row w s 25 6 (L.flatMap AF)):OV w s L:=⟨by have:=h.1;rw[Ds]at this;omega,h.view⟩
theorem lH (n:Nat)(z:List Value):(List.replicate (n+1) z).flatten=z++(List.replicate n z).flatten:=by rw[cQ,ct]
theorem Dh {w0 w w2:World}{L:List (Nat×List Value×TypeId)}{i b:Nat}{cs CU:List Value}{t:TypeId}(h:Hn w0 w L)(hi:L[i]?=some (b,cs,t))(he:Ext (·=b) w w2)(hb:AO w2 b CU.toArray t):Hn w0 w2 (L.set i (b,CU,t)):=by
 have Og:=h.h.nodup;have FP:=(ao.1 hi).1;have hf:(L.set i (b,CU,t)).map (·.1)=L.map (·.1):=by
  rw[dM];refine db fun j=>?_
  rw[cD];split
  ·rename_i hj;subst hj;rw[ak (by rw[bp];exact FP),aE,hi]
   rfl
  ·rfl
 refine ⟨⟨fun p hp=>?_,?_,h.h.ext.trans he (fun _ h=>h) fun k hk e=>by have:=h.ge i hi;have e:k=b:=e;omega⟩,fun p hp=>?_⟩
 ·unfold arr at hp;obtain ⟨q,hq,rfl⟩:=cJ.1 hp;obtain ⟨j,hj⟩:=cZ hq;rw[cD]at hj;split at hj
  ·rename_i MG;subst MG;simp only[FP,if_true,bE]at hj;subst hj;exact hb
  ·rename_i MG;have hq':=h.get j (b:=q.1) (cs:=q.2.1) (t:=q.2.2) hj;refine he.AS hq' fun e=>MG ?_
   have e:q.1=b:=e;rw[Ja]at Og;have h1:(L.map (·.1))[i]?=some b:=by rw[aE,hi];rfl
   have h2:(L.map (·.1))[j]?=some b:=by rw[aE,hj,<-e];rfl
   obtain ⟨YV,h1⟩:=ao.1 h1;obtain ⟨lO,h2⟩:=ao.1 h2;exact (List.getElem_inj Og).1 (h1.trans h2.symm)
 ·rw[Ja,hf,<-Ja];exact Og
 ·obtain ⟨j,hj⟩:=cZ hp;rw[cD]at hj;split at hj
  ·rename_i MG;subst MG;simp only[FP,if_true,bE]at hj;subst hj;exact h.ge i hi
  ·exact h.new p (aB hj)
section
variable {w w' w0 w1:World} {o:Ob} {t:Tr}
attribute [local irreducible] Ld Sh.St Nw Nn Lt AP Af B1 A6
abbrev z6:List Value:=[.int .i64 0,.int .i64 0,.int .i64 0,.string ⟨#[]⟩,AA.v ⟨none,0,0⟩,AA.v ⟨none,0,0⟩]
theorem AYl (o:Ob)(w:World):C60 o w fun r w1=>r=o/\Ext (fun _=>False) w w1:=by
 refine T60 o _ _ ?_;unfold S60;rw[AR];refine (Hn.start w).nw (cs:=AF o) fun w2 H=>H.nw (cs:=z6) fun w3 H=>?_
 simp only[ag,ar]at H;refine H.Dx (i:=0) (ts:=AD) (pre:=[]) (post:=[]) (x:=o) rfl rfl ?_;refine H.lS (i:=1) (ts:=AD) (pre:=[]) (post:=[]) (x:=o) (zs:=z6) rfl rfl rfl fun w4 H=>?_
 simp only[ai,aq,ag,aM]at H;exact H.Dx (i:=1) (ts:=AD) (pre:=[]) (post:=[]) (x:=o) rfl rfl ⟨rfl,H.ext⟩
theorem TO:∀(d:Nat) (o:Ob) (t:Tr) (w:World),KM w d o t->Gb t=true->C59 o (.func (.func 60) #[] #[]) w fun r w1=>V8 (fun j=>w.heap.size<=j) w1 d r t/\Ext (fun _=>False) w w1
 |0,_,_,_,h,_=>h.elim
 |d+1,o,t,w,hT,IL=>by
  obtain ⟨hf,hK,L,hL,hA⟩:=hT;rw[MY]at IL;simp only[ay,bP]at IL;obtain ⟨⟨SQ,AI0⟩,IL⟩:=IL;refine yN o _ _ ?_;unfold gQ;rw[AR];refine (Hn.start w).nw (cs:=AF o) fun w2 H=>H.nw (cs:=z6) fun w3 H=>?_
  simp only[ag,ar,add_lit,aj]at H⊢;have h01:w.heap.size<w2.heap.size:=by
   have h1:=H.ge 1 rfl;have h2:=H.h.nodup;simp[arr]at h2;have h1:w.heap.size<=w2.heap.size:=h1;omega
  have h13:w2.heap.size<w3.heap.size:=H.lt 1 rfl;refine H.Dx (i:=0) (ts:=AD) (pre:=[]) (post:=[]) (x:=o) rfl rfl ((AYl o w3).mono ?_);rintro r w4 ⟨rfl,e4⟩;have H:=H.AB e4;refine H.lS (i:=0) (ts:=AD) (pre:=[]) (post:=[]) (x:=r) (zs:=AF r) rfl rfl rfl fun w5 H=>?_
  simp only[ai,aq,ag,aM,AR]at H;refine H.ld 0 rfl rfl ?_;have Ga:=hK.1.1;have Ah1:w2.heap.size<w5.heap.size:=H.lt 1 rfl;refine (Ik (hK.AB H.ext).view (Lz _) (by rw[Ga];omega)).mono ?_;rintro LB w6 ⟨hR,hRl,e6,ho6⟩;have H:=H.AB e6;refine H.EV 0 rfl (by simp[AF]) fun w7 H e7=>?_
  simp only[AF,ai,aq]at H;have zm:∀j,LB.own j->w2.heap.size<j:=fun j hj=>by have:=ho6 j hj;omega
  have hR:=hR.AB e7 fun j hj e=>by have:=zm j hj;have e:j=w.heap.size:=e;omega
  refine H.ld 0 rfl rfl ?_
 
  have fin:∀(v:World) (sk:AA),Hn w v [(w.heap.size,AF (r.1,r.2.1,r.2.2.1,r.2.2.2.1,LB,sk),25),(w2.heap.size,z6,25)]->Row v LB 9 1 (t.ks.map Value.string)->(∃L':List Ob,OV v sk L'/\(∀j,sk.own j->w2.heap.size<j)/\A9 (V8 (fun j=>w2.heap.size<j) v d) L' t.kids)->
    Af v (⟨w.heap.size,0,none⟩:Addr) 0 AD fun (Iy:AG)=>A6 (⟨w2.heap.size,0,none⟩:Addr) 0 AD Iy v fun um=>Af um (⟨w2.heap.size,0,none⟩:Addr) 0 AD fun (VN:AG)=>V8 (fun j=>w.heap.size<=j) um (d+1) VN t/\Ext (fun _=>False) w um:=by
   intro v sk H hR ⟨L',hL',ux,hA'⟩;refine H.Dx (i:=0) (ts:=AD) (pre:=[]) (post:=[]) (x:=(r.1,r.2.1,r.2.2.1,r.2.2.2.1,LB,sk)) rfl rfl ?_;refine A6.AS (ts:=AD) (pre:=[]) (zs:=z6) (post:=[]) (H.get 1 rfl) rfl rfl fun v2 hb he=>?_
   have H2:=Dh H (i:=1) rfl he (CU:=AF (r.1,r.2.1,r.2.2.1,r.2.2.2.1,LB,sk)) (by simp only[ag,aM]at hb;exact hb);simp only[ai,aq]at H2;refine H2.Dx (i:=1) (ts:=AD) (pre:=[]) (post:=[]) (x:=(r.1,r.2.1,r.2.2.1,r.2.2.2.1,LB,sk)) rfl rfl ⟨⟨hf,⟨KV.row (hR.AB he fun j hj e=>by have:=zm j hj;have e:j=w2.heap.size:=e;omega) (by omega),fun j hj=>by have:=zm j hj;omega⟩,L',⟨⟨hL'.1,hL'.2.AI he fun j hj e=>by have:=ux j hj;have e:j=w2.heap.size:=e;omega⟩,fun j hj=>by have:=ux j hj;omega⟩,?_⟩,H2.ext⟩;exact hA'.imp fun _ _ h=>(h.AI he fun j hj e=>by have hj:w2.heap.size<j:=hj;have e:j=w2.heap.size:=e;omega).Fc fun j hj=>by have hj:w2.heap.size<j:=hj;omega
  have Vx:r.2.2.2.2.2.len=t.kids.length:=by rw[hL.1,hA.len]
  cases hp:r.2.2.2.2.2.p with
  |none=>
   refine Br.f rfl (fin w7 r.2.2.2.2.2 H hR ?_);have hL0:L=[]:=by
    cases L with
    |nil=>rfl
    |cons x L=>obtain ⟨a,ha,_⟩:=hL.get (i:=0) rfl;rw[hp]at ha;cases ha
   subst hL0;have RZ:t.kids=[]:=by
    have:=hA.len;exact aw (by simpa using this.symm)
   rw[RZ];exact ⟨[],hL.AB H.ext,(fun j hj=>by obtain ⟨a,ha,_⟩:=hj;rw[hp]at ha;cases ha),trivial⟩
  |some pa=>
   refine Br.t rfl (H.ld 0 rfl rfl ?_);rw[Vx];obtain ⟨w8,Ag,hw8⟩:=Mb.make (zs:=AF Ir) rfl w7 t.kids.length (by omega) (by omega);have e8:Ext (fun _=>False) w7 w8:=by rw[hw8];exact (Ext.refl _ _).alloc _
   have b8:AO w8 w7.heap.size ((List.replicate t.kids.length (AF Ir)).flatten).toArray 25:=by rw[hw8];exact AO.new w7 _ _
   refine ⟨_,w8,Ag,?_⟩;have hg:w2.heap.size<w7.heap.size:=H.lt 1 rfl;have H8:=(H.AB e8).push (cs:=(List.replicate t.kids.length (AF Ir)).flatten) b8 (by have:=H.size;omega) (by
    simp only[bw,cK,aN,bQ,dZ];omega)
   simp only[ar,ag]at H8;refine H8.ld 0 rfl rfl ?_;have hr7:∀j,LB.own j->j<w7.heap.size:=fun j hj=>hR.own_lt hj
   have hR8:=hR.AB e8 fun _ _ h=>h
   generalize hgg:w7.heap.size=g at*;refine ⟨fun n st v=>∃(i:Nat) (done:List Ob),st=(i:Int)/\i<=t.kids.length/\n=t.kids.length-i/\done.length=i/\A9 (V8 (fun j=>g<j) v d) done (t.kids.take i)/\Row v LB 9 1 (t.ks.map Value.string)/\
     Hn w v [(w.heap.size,AF (r.1,r.2.1,r.2.2.1,r.2.2.2.1,LB,r.2.2.2.2.2),25),(w2.heap.size,z6,25),(g,done.flatMap AF++(List.replicate (t.kids.length-i) (AF Ir)).flatten,25)],t.kids.length,
    ⟨0,[],rfl,by omega,rfl,rfl,by simp[A9],hR8,H8⟩,?_⟩
   rintro n st v ⟨i,done,rfl,hi,rfl,nM,uo,hRv,Hv⟩;unfold Sb;simp only[add_lit,aj];rw[Vx];refine Br.dec (fun q=>⟨by omega,by omega,?_⟩) fun q=>?_
   ·have fA:=ad (show i<t.kids.length by omega);have DV:t.kids[i]∈t.kids:=bZ _;generalize t.kids[i]=x at fA DV;obtain ⟨ox,hox,hRx⟩:=hA.WI fA;refine (hL.AB Hv.ext).uY hox ?_;refine (Hn.start v).nw (cs:=z6) fun v2 G=>?_
    simp only[ag]at G;refine G.lS (i:=0) (ts:=AD) (pre:=[]) (post:=[]) (x:=ox) (zs:=z6) rfl rfl rfl fun v3 G=>?_
    simp only[ai,ag,aM]at G;refine G.Dx (i:=0) (ts:=AD) (pre:=[]) (post:=[]) (x:=ox) rfl rfl ?_;have eG:=G.ext;refine (TO d ox x v3 ((hRx.AB Hv.ext).AB eG) (K6.1 IL x DV)).mono ?_;rintro fw v4 ⟨xA,e4'⟩;refine ⟨by omega,by show ((i:Nat):Int)<((t.kids.length:Nat):Int);omega,Nn.of ?_⟩;rw[aa];have H4:=(Hv.AB eG).AB e4';have hgv:g<v.heap.size:=Hv.lt 2 rfl;have hv3:=eG.size;have hb4:=H4.get 2 rfl;rw[show t.kids.length-i=(t.kids.length-(i+1))+1 by omega,lH]at hb4;rw[add_lit,aj];refine A6.AS (ts:=AD) (x:=fw) (pre:=done.flatMap AF) (zs:=AF Ir) (post:=(List.replicate (t.kids.length-(i+1)) (AF Ir)).flatten) hb4 (by rw[Ds,nM]) rfl fun v5 vD e5=>?_
    have H5:=Dh H4 (i:=2) rfl e5 (CU:=(done++[fw]).flatMap AF++(List.replicate (t.kids.length-(i+1)) (AF Ir)).flatten) (by
     rw[bJ];simpa[AR]using vD)
    simp only[ai,aq]at H5;refine ⟨t.kids.length-(i+1),by omega,i+1,done++[fw],by rw[AE (by omega)];rfl,by omega,rfl,by rw[ae,nM];rfl,?_,?_,H5⟩
    ·rw[aO,fA];refine A9.app (uo.imp fun _ _ h=>((h.AI eG fun _ _ h=>h).AI e4' fun _ _ h=>h).AI e5 fun j hj e=>by have hj:g<j:=hj;have e:j=g:=e;omega) ⟨?_,trivial⟩;exact (xA.Fc fun j hj=>by have hj:v3.heap.size<=j:=hj;show g<j;omega).AI e5 fun j hj e=>by have hj:g<j:=hj;have e:j=g:=e;omega
    ·exact ((hRv.AB eG fun _ _ h=>h).AB e4' fun _ _ h=>h).AB e5 fun j hj e=>by have:=hr7 j hj;have e:j=g:=e;omega
   ·have hit:i=t.kids.length:=by omega
    subst hit;rw[bj]at uo;rw[cl]at Hv;simp only[List.replicate_zero,c9,aM]at Hv;refine Hv.EV 0 rfl (by simp[AF]) fun v2 H2 e2=>?_
    simp only[AF,ai,aq]at H2;have hgw:w.heap.size<g:=by omega
    refine fin v2 (⟨some ⟨g,0,none⟩,t.kids.length,t.kids.length⟩:AA) (H2.left (L:=[_,_]) (M:=[_])) (hRv.AB e2 fun j hj e=>by have:=zm j hj;have e:j=w.heap.size:=e;omega) ⟨done,?_,fun j hj=>by obtain ⟨a,ha,rfl⟩:=hj;cases ha;exact hg,?_⟩
    ·rw[<-nM];exact OV.of (H2.get 2 rfl)
    ·exact uo.imp fun _ _ h=>(h.AI e2 fun j hj e=>by have hj:g<j:=hj;have e:j=w.heap.size:=e;omega).Fc fun j hj=>by have hj:g<j:=hj;show w2.heap.size<j;omega
def NX (G:Nat->Prop)(w:World)(o:Ob)(t:Tr):Prop:=∃d,V8 G w d o t
theorem NX.to{G:Nat->Prop}(h:NX G w o t):OX w o t:=let ⟨d,h⟩:=h;⟨d,h.to⟩
theorem NX.AI{G F:Nat->Prop}(h:NX G w o t)(he:Ext F w w')(hF:∀j,G j->¬F j):NX G w' o t:=let ⟨d,h⟩:=h;⟨d,h.AI he hF⟩
theorem NX.AB{G:Nat->Prop}(h:NX G w o t)(he:Ext (fun _=>False) w w'):NX G w' o t:=h.AI he fun _ _ h=>h
theorem NX.Fc{G G':Nat->Prop}(h:NX G w o t)(hG:∀j,G j->G' j):NX G' w o t:=let ⟨d,h⟩:=h;⟨d,h.Fc hG⟩
theorem FB (h:OX w o t)(hs:Gb t=true):qt o w fun r w1=>NX (fun j=>w.heap.size<=j) w1 r t/\Ext (fun _=>False) w w1:=by
 obtain ⟨d,hT⟩:=h;refine T33 o _ _ ?_;unfold S33;rw[AR];refine (Hn.start w).nw (cs:=AF o) fun w2 H=>H.nw (cs:=z6) fun w3 H=>?_
 simp only[ag,ar]at H;refine H.Dx (i:=0) (ts:=AD) (pre:=[]) (post:=[]) (x:=o) rfl rfl ((TO d o t w3 (hT.AB H.ext) hs).mono ?_);rintro r w4 ⟨hr,e4⟩;have Am:w2.heap.size<w3.heap.size:=H.lt 1 rfl;have AYm:w.heap.size<w3.heap.size:=H.lt 0 rfl;have H:=H.AB e4;refine A6.AS (ts:=AD) (pre:=[]) (zs:=z6) (post:=[]) (H.get 1 rfl) rfl rfl fun w5 hb he=>?_
 have H2:=Dh H (i:=1) rfl he (CU:=AF r) (by simpa[AR]using hb);simp only[ai,aq]at H2;exact H2.Dx (i:=1) (ts:=AD) (pre:=[]) (post:=[]) (x:=r) rfl rfl ⟨⟨d,(hr.AI he fun j hj e=>by have hj:w3.heap.size<=j:=hj;have e:j=w2.heap.size:=e;omega).Fc fun j hj=>by have hj:w3.heap.size<=j:=hj;have:=H2.size;have Ah5:w.heap.size<w3.heap.size:=AYm;omega⟩,H2.ext⟩
end
end Vl
namespace Vl
open Sh
def Tr.Rr(t:Tr)(ks:List ByteArray)(kids:List Tr):Tr:= .mk t.k t.n t.g t.s ks kids
def Ak (key:ByteArray)(v t:Tr):Tr:=
 if t.ks[BD key t.ks]?=some key then t.Rr t.ks (t.kids.set (BD key t.ks) v)
 else t.Rr (t.ks.take (BD key t.ks)++key::t.ks.drop (BD key t.ks)) (t.kids.take (BD key t.ks)++v::t.kids.drop (BD key t.ks))
def Y6 (i:Nat)(t:Tr):Tr:=t.Rr (t.ks.take i++t.ks.drop (i+1)) (t.kids.take i++t.kids.drop (i+1))
theorem A9.set{α β:Type}{R:α->β->Prop}:∀{l:List α} {m:List β} {a:α} {b:β} (i:Nat),A9 R l m->R a b->A9 R (l.set i a) (m.set i b)
 |[],[],_,_,_,_,_=>by simp[A9]
 |_::_,_::_,_,_,0,h,k=>⟨k,h.2⟩
 |_::_,_::_,_,_,i+1,h,k=>⟨h.1,A9.set i h.2 k⟩
theorem ET {α β:Type}(f:α->List β)(k:Nat)(hf:∀a,(f a).length=k)(l:List α)(i:Nat):(l.flatMap f).take (i*k)=(l.take i).flatMap f/\(l.flatMap f).drop (i*k)=(l.drop i).flatMap f:=by
 induction l generalizing i with
 |nil=>simp
 |cons x l ih=>
  cases i with
  |zero=>simp
  |succ i=>
   rw[bC,List.take_succ_cons,dW,bC,Nat.succ_mul,<-hf x];rw[List.take_append,List.drop_append,aX (by omega),bR (by omega),ag];rw[show i*(f x).length+(f x).length-(f x).length=i*k by rw[cz,hf x]];rw[(ih i).1,(ih i).2];exact ⟨rfl,rfl⟩
theorem DO (o:Ob):(AF o).length=6:=rfl
section
variable {w w' w0 w1:World} {o vo:Ob} {t v:Tr}
attribute [local irreducible] Ld Sh.St Nw Nn Lt AP Af B1 A6
theorem zn {s:AA}{L:List Ob}{i:Nat}{o':Ob}{K:World->Prop}(h:Row w s 25 6 (L.flatMap AF))(hi:i<L.length)(k:∀w2,Row w2 s 25 6 ((L.set i o').flatMap AF)->Ext s.own w w2->K w2):
  0<=((i:Nat):Int)/\((i:Nat):Int)<(s.len:Nat)/\Nn s.p fun a=>A6 (a.add (((i:Nat):Int).toNat*6)) 0 AD o' w K:=by
 have hlen:=h.1;rw[Ds]at hlen;have Ga:s.len=L.length:=by omega
 refine ⟨by omega,by rw[Ga];omega,?_⟩;rcases h.2 with h0|⟨g,cur,hp,hB,hle,A1,DD⟩
 ·rw[h0]at Ga;simp at Ga;omega
 rw[hp,aa];refine Nn.of ?_;rw[add_lit,aj];have hx:=ad hi;generalize L[i]=x at hx;have eT:L=L.take i++x::L.drop (i+1):=by rw[<-ez hx,aW]
 have IS:cur.toList=(L.take i).flatMap AF++(AF x++((L.drop (i+1)).flatMap AF++cur.toList.drop (s.len*6))):=by
  rw[<-ax,<-ax,ax ((L.take i).flatMap AF),<-bC,<-bJ,<-eT,<-DD,aW]
 have htl:(L.take i).length=i:=by rw[au];omega
 refine A6.AS (ts:=AD) (x:=o') (pre:=(L.take i).flatMap AF) (zs:=AF x) (post:=(L.drop (i+1)).flatMap AF++cur.toList.drop (s.len*6)) (by rw[<-IS];exact hB) (by rw[Ds,htl]) rfl fun w2 hb he=>k w2 ⟨?_,.inr ⟨g,_,hp,hb,hle,?_,?_⟩⟩ (he.mono fun j _ e=>⟨_,hp,e.symm⟩)
 ·rw[Ds,br,Ga]
 ·have:=bI List.length IS;simp only[ae,Ds,aK,DO]at this;simp only[aZ,ae,Ds,AR,DO];omega
 ·show List.take (s.len*6) (_++(_++(_++_)))=_;have Ti:L.set i o'=L.take i++o'::L.drop (i+1):=dI .. |>.trans (by rw[ak hi])
  rw[Ti,bJ,bC,AR,<-ax,<-ax,ax ((L.take i).flatMap AF),bK];simp only[ae,Ds,DO,htl,aJ,Ga];omega
def OS (wb:World)(G:Nat->Prop)(w:World)(o:Ob)(t:Tr):Prop:=(o.1=t.k/\o.2.1=t.n/\o.2.2.1=t.g/\o.2.2.2.1=t.s)/\(KV w o.2.2.2.2.1 t.ks/\∀j,o.2.2.2.2.1.own j->G j)/\∃d L,(OV w o.2.2.2.2.2 L/\∀j,o.2.2.2.2.2.own j->G j)/\A9 (KM wb d) L t.kids
theorem OS.AI{wb:World}{G F:Nat->Prop}(h:OS wb G w o t)(he:Ext F w w')(hF:∀j,G j->¬F j):OS wb G w' o t:=by
 obtain ⟨h1,⟨h2,h3⟩,d,L,⟨h4,h5⟩,h6⟩:=h;exact ⟨h1,⟨h2.AI he fun j hj=>hF j (h3 j hj),h3⟩,d,L,⟨⟨h4.1,h4.2.AI he fun j hj=>hF j (h5 j hj)⟩,h5⟩,h6⟩
theorem OS.to{wb:World}{G:Nat->Prop}(h:OS wb G w o t)(E:Ext (fun _=>False) wb w):OX w o t:=by
 obtain ⟨⟨h0,h1,h2,h3⟩,⟨h4,_⟩,d,L,⟨h5,_⟩,h6⟩:=h;exact OX.of h0 h1 h2 h3 h4 ⟨d,L,h5,h6.imp fun _ _ h=>h.AB E⟩
theorem fC {wb:World}{b0 b2:Nat}{v:World}{O:Ob}{M:List (Nat×List Value×TypeId)}{i:Nat}{ks':List ByteArray}{AB3:List Tr}{L':List Ob}{d:Nat}(H:Hn w v ((b0,AF O,25)::M))(hi:M[i]?=some (b2,z6,25))
  (hf:O.1=t.k/\O.2.1=t.n/\O.2.2.1=t.g/\O.2.2.2.1=t.s) (hK:KV v O.2.2.2.2.1 ks') (hk:∀j,O.2.2.2.2.1.own j->w.heap.size<=j/\j≠b2) (hO:OV v O.2.2.2.2.2 L') (ho:∀j,O.2.2.2.2.2.own j->w.heap.size<=j/\j≠b2) (hA:A9 (KM wb d) L' AB3):
  Af v (⟨b0,0,none⟩:Addr) 0 AD fun (x:AG)=>A6 (⟨b2,0,none⟩:Addr) 0 AD x v fun v2=>Af v2 (⟨b2,0,none⟩:Addr) 0 AD fun (y:AG)=>OS wb (fun j=>w.heap.size<=j) v2 y (t.Rr ks' AB3)/\Ext (fun _=>False) w v2:=by
 refine H.Dx (i:=0) (ts:=AD) (pre:=[]) (post:=[]) (x:=O) rfl rfl ?_;refine A6.AS (ts:=AD) (pre:=[]) (zs:=z6) (post:=[]) (H.get (i+1) hi) rfl rfl fun v2 hb he=>?_
 simp only[ag,aM]at hb;have H2:=Dh H (i:=i+1) hi he (CU:=AF O) hb;refine H2.Dx (i:=i+1) (ts:=AD) (pre:=[]) (post:=[]) (x:=O) (by
  rw[cD,ak rfl,ak (ao.1 hi|>.1|>fun h=>by simpa using h)]
  rfl) rfl ⟨⟨hf,⟨hK.AI he fun j hj e=>(hk j hj).2 e,fun j hj=>(hk j hj).1⟩,d,L',⟨⟨hO.1,hO.2.AI he fun j hj e=>(ho j hj).2 e⟩,fun j hj=>(ho j hj).1⟩,hA⟩,H2.ext⟩
theorem nz {wb:World}(h:OX wb o t)(hv:OX wb vo v)(E:Ext (fun _=>False) wb w)(hu:Up t.ks)(hl:t.ks.length=t.kids.length)(hn:t.ks.length<=100000)(key:ByteArray):C34 o key vo w fun r w1=>OS wb (fun j=>w.heap.size<=j) w1 r (Ak key v t)/\Ext (fun _=>False) w w1:=by
 obtain ⟨hf,hK,d0,L,hL,hA⟩:=h.out;obtain ⟨dv,hvT⟩:=hv;have hA:A9 (KM wb (max d0 dv)) L t.kids:=hA.imp fun _ _ h=>h.le (Nat.le_max_left ..)
 have hvT:KM wb (max d0 dv) vo v:=hvT.le (Nat.le_max_right ..);refine T34 o _ vo _ _ ?_;unfold S34;rw[AR,AR];refine (Hn.start w).nw (cs:=AF o) fun w2 H=>H.nw (cs:=AF vo) fun w3 H=>H.nw (cs:=z6) fun w4 H=>?_
 simp only[ag,ar,add_lit,aj]at H⊢;have h24:w.heap.size<w4.heap.size:=H.lt 0 rfl;have h34:w3.heap.size<w4.heap.size:=H.lt 2 rfl;have AYn:w2.heap.size<w4.heap.size:=H.lt 1 rfl;have mP:=hK.1.1;have hLl:L.length=t.kids.length:=hA.len;have IS:o.2.2.2.2.2.len=L.length:=hL.1;refine H.ld 0 rfl rfl ((TN (hK.AB (E.tr H.ext)) hu (by omega) key).mono ?_);rintro r8 r9 w5 ⟨rfl,rfl,hw5⟩;subst w5;have OH:=ui key t.ks;unfold Ak;generalize BD key t.ks=p at OH⊢;refine H.ld 0 rfl rfl ((Ik (hK.AB (E.tr H.ext)).view (Lz _) (by omega)).mono ?_);rintro Eh w6 ⟨hR,hRl,e6,ho6⟩;have H:=H.AB e6;refine H.EV 0 rfl (by simp[AF]) fun w7 H e7=>?_
 simp only[AF,ai,aq]at H;have hR:=hR.AB e7 fun j hj e=>by have:=ho6 j hj;have e:j=w.heap.size:=e;omega
 have h67:w3.heap.size<w7.heap.size:=H.lt 2 rfl;have h47:w4.heap.size<=w7.heap.size:=by have:=e6.size;have:=e7.size;omega
 have Ah6:w.heap.size<w7.heap.size:=H.lt 0 rfl;have h23:w2.heap.size<w7.heap.size:=H.lt 1 rfl;have Ah7:w2.heap.size<w4.heap.size:=AYn;have ANG:∀j,Eh.own j->j<w7.heap.size:=fun j hj=>hR.own_lt hj
 refine H.ld 0 rfl rfl ((X9 (hL.AB (E.tr H.ext)).2 (PI L) (by rw[IS];omega)).mono ?_);rintro O2 w8 ⟨hQ,hQl,e8,vZ⟩;have H:=H.AB e8;have hR:=hR.AB e8 fun _ _ h=>h
 refine H.EV 0 rfl (by simp) fun w9 H e9=>?_
 simp only[ai,aq]at H;have hR:=hR.AB e9 fun j hj e=>by have:=ho6 j hj;have e:j=w.heap.size:=e;omega
 have hQ:=hQ.AB e9 fun j hj e=>by have:=vZ j hj;have e:j=w.heap.size:=e;omega
 have mC:∀j,O2.own j->¬Eh.own j:=fun j h1 h2=>by have:=vZ j h1;have:=ANG j h2;omega
 have ANH:∀j,O2.own j->j<w9.heap.size:=fun j hj=>hQ.own_lt hj
 have Ah9:w7.heap.size<=w9.heap.size:=by have:=e8.size;have:=e9.size;omega
 by_cases zo:t.ks[p]?=some key
 ·rw[aD zo,ak zo];have uH:=(ao.1 zo).1;refine Br.t rfl (H.ld 0 rfl rfl (H.Dx (i:=1) (ts:=AD) (pre:=[]) (post:=[]) (x:=vo) rfl rfl ?_));refine zn hQ (by omega) fun IY uq JO=>?_
  have Mz:=H.other JO fun j hj=>by
   have:=vZ j hj;refine ⟨by omega,?_⟩;simp only[bw,cK,aN,bQ,dZ];omega
  exact fC (O:=(o.1,o.2.1,o.2.2.1,o.2.2.2.1,Eh,O2)) (M:=[_,_]) (i:=1) Mz rfl hf (KV.row (hR.AB JO fun j hj lO=>mC j lO hj) (by omega)) (fun j hh=>by have:=ho6 j hh;omega) (OV.row uq) (fun j hh=>by have:=vZ j hh;omega) (hA.set p hvT)
 ·rw[aP zo,ah zo];refine Br.f rfl (H.ld 0 rfl rfl (Nw.of ?_));have JO:Ext (fun _=>False) w9 (w9.alloc (.cells #[.string key] 9)):=(Ext.refl _ _).alloc _;have b10:=AO.new w9 #[.string key] 9;generalize w9.alloc (.cells #[.string key] 9)=IY at JO b10⊢;have Az:w9.heap.size<IY.heap.size:=b10.lt;have H:=H.AB JO;have hR:=hR.AB JO fun _ _ h=>h
  have hQ:=hQ.AB JO fun _ _ h=>h
  refine (AGN (i:=p) (ys:=[.string key]) hR (by omega) (by omega) b10 rfl (fun v hv=>by rw[az.1 hv];rfl) (Lz _) (fun hh=>by have:=ANG _ hh;omega)).mono ?_;rintro Yx PU ⟨Ri,AYp,NQ,AYq⟩;have H:=H.other NQ fun j hj=>by
   have:=ho6 j hj;refine ⟨by omega,?_⟩;simp only[bw,cK,aN,bQ,dZ];omega
  have hQ:=hQ.AB NQ fun j h1 h2=>mC j h1 h2
  have Bg:=NQ.size;have zp:∀j,Yx.own j->w4.heap.size<=j/\¬O2.own j:=fun j hj=>by
   rcases AYq j hj with h|h
   ·exact ⟨ho6 j h,fun h2=>mC j h2 h⟩
   ·exact ⟨by omega,fun h2=>by have:=ANH j h2;omega⟩
  refine H.EV 0 rfl (by simp) fun Ef H TU=>?_
  simp only[ai,aq]at H;have z12:=TU.size;have Ri:=Ri.AB TU fun j hj e=>by have:=(zp j hj).1;have e:j=w.heap.size:=e;omega
  have hQ:=hQ.AB TU fun j hj e=>by have:=vZ j hj;have e:j=w.heap.size:=e;omega
  refine H.ld 0 rfl rfl (H.Dx (i:=1) (ts:=AD) (pre:=[]) (post:=[]) (x:=vo) rfl rfl (Nw.of ?_));have YT:Ext (fun _=>False) Ef (Ef.alloc (.cells (AF vo).toArray 25)):=(Ext.refl _ _).alloc _;have b13:=AO.new Ef (AF vo).toArray 25;show C64 O2 (p:Int) ⟨some ⟨Ef.heap.size,0,none⟩,1,1⟩ (Ef.alloc (.cells (AF vo).toArray 25)) _;generalize Ef.alloc (.cells (AF vo).toArray 25)=Fs at YT b13⊢;have H:=H.AB YT;have Ri:=Ri.AB YT fun _ _ h=>h
  have hQ:=hQ.AB YT fun _ _ h=>h
  have AY:=YT.size;refine (AGQ (i:=p) (ys:=AF vo) hQ (by omega) (by omega) b13 rfl (eZ vo) (PI L) (fun hh=>by have:=ANH _ hh;omega)).mono ?_;rintro r34 lN ⟨uq,AYr,e14,AYs⟩;have H:=H.other e14 fun j hj=>by
   have:=vZ j hj;refine ⟨by omega,?_⟩;simp only[bw,cK,aN,bQ,dZ];omega
  have Ri:=Ri.AB e14 fun j h1 h2=>(zp j h1).2 h2
  have ANI:∀j,r34.own j->w4.heap.size<=j:=fun j hj=>by
   rcases AYs j hj with h|h
   ·have:=vZ j h;have:=e7.size;have:=e6.size;omega
   ·omega
  refine H.EV 0 rfl (by simp) fun VT H fK=>?_
  simp only[ai,aq]at H;have Ri:=Ri.AB fK fun j hj e=>by have:=(zp j hj).1;have e:j=w.heap.size:=e;omega
  have uq:=uq.AB fK fun j hj e=>by have:=ANI j hj;have e:j=w.heap.size:=e;omega
  have q1:(t.ks.map Value.string).take (p*1)++[Value.string key]++(t.ks.map Value.string).drop (p*1)=(t.ks.take p++key::t.ks.drop p).map Value.string:=by
   rw[aH,<-List.map_take,<-List.map_drop,bh,bw,ax]
   rfl
  have q2:(L.flatMap AF).take (p*6)++AF vo++(L.flatMap AF).drop (p*6)=(L.take p++vo::L.drop p).flatMap AF:=by
   rw[(ET AF 6 DO L p).1,(ET AF 6 DO L p).2,bJ,bC,ax]
  rw[q1]at Ri;rw[q2]at uq;refine fC (O:=(o.1,o.2.1,o.2.2.1,o.2.2.2.1,Yx,r34)) (M:=[_,_]) (i:=1) H rfl hf (KV.row Ri (by rw[ae,aA,au,aJ];omega)) (fun j hh=>by have:=(zp j hh).1;omega) (OV.row uq) (fun j hh=>by have:=ANI j hh;omega) (d:=max d0 dv) ?_;exact (hA.take p).app ⟨hvT,hA.drop p⟩
theorem ANJ {wb:World}(h:OX wb o t)(E:Ext (fun _=>False) wb w)(hl:t.ks.length=t.kids.length)(hn:t.ks.length<=100000){i:Nat}(hi:i<t.ks.length):C58 o (i:Int) w fun r w1=>OS wb (fun j=>w.heap.size<=j) w1 r (Y6 i t)/\Ext (fun _=>False) w w1:=by
 obtain ⟨hf,hK,d0,L,hL,hA⟩:=h.out;refine T58 o _ _ _ ?_;unfold S58;rw[AR];refine (Hn.start w).nw (cs:=AF o) fun w2 H=>H.nw (cs:=z6) fun w3 H=>?_
 simp only[ag,ar,add_lit,aj]at H⊢;have h03:w.heap.size<w3.heap.size:=H.lt 0 rfl;have h23:w2.heap.size<w3.heap.size:=H.lt 1 rfl;have mP:=hK.1.1;have hLl:L.length=t.kids.length:=hA.len;have IS:o.2.2.2.2.2.len=L.length:=hL.1;refine H.ld 0 rfl rfl ((Ik (hK.AB (E.tr H.ext)).view (Lz _) (by omega)).mono ?_);rintro r6 w4 ⟨hR,hRl,e4,ho4⟩;have H:=H.AB e4;have i1:wrap .i64 (((i:Nat):Int)+1)=((i+1:Nat):Int):=by rw[AE (by omega)];rfl
 rw[i1];refine (AGO (i:=i) hR (by omega) (by omega) (Lz _)).mono ?_;rintro r8 w5 ⟨Ri,AYp,e5,ho5⟩;have H:=H.other e5 fun j hj=>by
  have:=ho4 j hj;refine ⟨by omega,?_⟩;simp only[bw,cK,aN,bQ,dZ];omega
 refine H.EV 0 rfl (by simp[AF]) fun w6 H e6=>?_
 simp only[AF,ai,aq]at H;have Ri:=Ri.AB e6 fun j hj e=>by have:=ho4 j (ho5 j hj);have e:j=w.heap.size:=e;omega
 have vV:∀j,r8.own j->j<w6.heap.size:=fun j hj=>Ri.own_lt hj
 have z3:w2.heap.size<w6.heap.size:=H.lt 1 rfl;have z0:w.heap.size<w6.heap.size:=H.lt 0 rfl;refine H.ld 0 rfl rfl ((X9 (hL.AB (E.tr H.ext)).2 (PI L) (by rw[IS];omega)).mono ?_);rintro Eh w7 ⟨hQ,hQl,e7,ho7⟩;have H:=H.AB e7;have Ri:=Ri.AB e7 fun _ _ h=>h
 refine (AGR (i:=i) hQ (by omega) (by omega) (PI L)).mono ?_;rintro Jt w8 ⟨uq,AYr,e8,vZ⟩;have H:=H.other e8 fun j hj=>by
  have:=ho7 j hj;refine ⟨by omega,?_⟩;simp only[bw,cK,aN,bQ,dZ];omega
 have Ri:=Ri.AB e8 fun j h1 h2=>by have:=vV j h1;have:=ho7 j h2;omega
 refine H.EV 0 rfl (by simp) fun w9 H e9=>?_
 simp only[ai,aq]at H;have Ri:=Ri.AB e9 fun j hj e=>by have:=ho4 j (ho5 j hj);have e:j=w.heap.size:=e;omega
 have uq:=uq.AB e9 fun j hj e=>by have:=ho7 j (vZ j hj);have e:j=w.heap.size:=e;omega
 have q1:(t.ks.map Value.string).take (i*1)++(t.ks.map Value.string).drop ((i+1)*1)=(t.ks.take i++t.ks.drop (i+1)).map Value.string:=by
  rw[aH,aH,<-List.map_take,<-List.map_drop,bh]
 have q2:(L.flatMap AF).take (i*6)++(L.flatMap AF).drop ((i+1)*6)=(L.take i++L.drop (i+1)).flatMap AF:=by
  rw[(ET AF 6 DO L i).1,(ET AF 6 DO L (i+1)).2,bJ]
 rw[q1]at Ri;rw[q2]at uq;exact fC (O:=(o.1,o.2.1,o.2.2.1,o.2.2.2.1,r8,Jt)) (M:=[_]) (i:=0) H rfl hf (KV.row Ri (by rw[ae,au,aJ];omega)) (fun j hh=>by have:=ho4 j (ho5 j hh);omega) (OV.row uq) (fun j hh=>by have:=ho7 j (vZ j hh);omega) ((hA.take i).app (hA.drop (i+1)))
end
end Vl
namespace Vl
open Sh
def Ax (t:Tr):Bool:=(t.k==7)||(t.k==9)
def Aw (key:ByteArray)(t:Tr):Tr:=if (Ax t&&Cc 1 t&&decide (t.ks[BD key t.ks]?=some key))=true then Y6 (BD key t.ks) t else t
def CL (key:ByteArray)(t:Tr):Option Tr:=if Ax t=true then (t.ks.findIdx? fun a=>key.toList==a.toList).bind fun i=>t.kids[i]? else none
theorem oY {t:Tr}{deep:Int}(h:Cc deep t=true)(hk:Ax t=true):Up t.ks/\t.ks.length=t.kids.length:=by
 rw[Mf,ay]at h;have hh:=h.1;unfold Ff at hh;simp only[ay]at hh;have hu:∃u,BG t.k=some u/\u.ks=true:=by
  unfold Ax at hk;simp only[ck,beq_iff_eq]at hk;rcases hk with e|e<;>(rw[e];exact ⟨_,rfl,rfl⟩)
 obtain ⟨u,hu1,hu2⟩:=hu;obtain ⟨_,hh⟩:=hh;rw[hu1]at hh;simp only[ay]at hh;have hr:=hh.2;unfold Lw at hr;simp only[ay,hu2,Bool.not_true,dS]at hr;have hr:=hr.2;refine ⟨(AB2 hr).1,?_⟩;by_cases A2:t.ks.length=t.kids.length
 ·exact A2
 ·unfold Lu at hr;rw[Lx A2]at hr;cases hr
theorem QF {t:Tr}{ks:List ByteArray}{kids:List Tr}(h1:ks.length<=100000)(h2:kids.length<=100000)(h3:∀x∈kids,Gb x=true):Gb (t.Rr ks kids)=true:=by
 rw[MY];show (decide (ks.length<=100000)&&decide (kids.length<=100000)&&zl kids)=true;rw[aD h1,aD h2,K6.2 h3]
 rfl
theorem MB {t:Tr}(h:Gb t=true):t.ks.length<=100000/\t.kids.length<=100000/\∀x∈t.kids,Gb x=true:=by
 rw[MY]at h;simp only[ay,bP]at h;exact ⟨h.1.1,h.1.2,K6.1 h.2⟩
theorem wz {t:Tr}(h:Gb t=true)(key:ByteArray):Gb (Aw key t)=true:=by
 unfold Aw;split
 ·obtain ⟨h1,h2,h3⟩:=MB h;refine QF (by simp;omega) (by simp;omega) fun x hx=>?_
  rcases aQ.1 hx with hx|hx
  ·exact h3 x (cE hx)
  ·exact h3 x (bS hx)
 ·exact h
def oB:Tr:= .mk 0 0 0 ⟨#[]⟩ [] []
section
variable {w w' w0 w1:World} {o vo:Ob} {t v:Tr}
attribute [local irreducible] Ld Sh.St Nw Nn Lt AP Af B1 A6
theorem VF (h:OX w o t):C31 o w fun r w1=>r=Ax t/\Ext (fun _=>False) w w1:=by
 obtain ⟨⟨hk,_⟩,_,_⟩:=h.out;refine T31 o _ _ ?_;unfold S31;rw[AR];refine (Hn.start w).nw (cs:=AF o) fun w2 H=>?_
 simp only[ag]at H;refine H.ld 0 rfl rfl ?_;unfold Ax;rw[<-hk];refine Br.eq (fun h7=>⟨by rw[h7];rfl,H.ext⟩) fun h7=>H.ld 0 rfl rfl ⟨?_,H.ext⟩
 rw[show (o.1==7)=false from by simpa using h7,dS]
theorem BC {b:Nat}{v:World}{O:Ob}{M:List (Nat×List Value×TypeId)}{i:Nat}{K:AG->World->Prop}(H:Hn w v M)(hi:M[i]?=some (b,z6,25))
  (k:∀v2,Ext (fun _=>False) w v2->Ext (·=b) v v2->K O v2):A6 (⟨b,0,none⟩:Addr) 0 AD O v fun v2=>Af v2 (⟨b,0,none⟩:Addr) 0 AD fun (y:AG)=>K y v2:=by
 refine A6.AS (ts:=AD) (pre:=[]) (zs:=z6) (post:=[]) (H.get i hi) rfl rfl fun v2 hb he=>?_
 simp only[ag,aM]at hb;have H2:=Dh H (i:=i) hi he (CU:=AF O) hb;refine H2.Dx (i:=i) (ts:=AD) (pre:=[]) (post:=[]) (x:=O) (by
  rw[cD,ak rfl,ak (ao.1 hi).1]
  rfl) rfl (k v2 H2.ext he)
theorem UC (h:OX w o t):C32 o w (fun r e w1=>(Cc 1 t=true/\r=o/\e=0\/Cc 1 t=false/\r=Ir/\e≠0)/\Ext (fun _=>False) w w1) fun _ _=>False:=by
 refine T32 o _ _ _ ?_;unfold S32;rw[AR];refine (Hn.start w).nw (cs:=AF o) fun w2 H=>H.nw (cs:=z6) fun w3 H=>?_
 simp only[ag,ar]at H;refine H.Dx (i:=0) (ts:=AD) (pre:=[]) (post:=[]) (x:=o) rfl rfl ((GC (h.AB H.ext)).mono ?_ fun _ _ h=>h);rintro e w4 ⟨he,e4⟩;have H:=H.AB e4;rcases he with ⟨BA,rfl⟩|⟨BA,he⟩
 ·exact Br.f rfl (H.Dx (i:=0) (ts:=AD) (pre:=[]) (post:=[]) (x:=o) rfl rfl (BC (i:=1) H rfl fun v2 E _=>⟨.inl ⟨BA,rfl,rfl⟩,E⟩))
 ·exact Br.t (by simpa using he) (BC (i:=1) H rfl fun v2 E _=>⟨.inr ⟨BA,rfl,he⟩,E⟩)
theorem Yw {wb:World}(h:OX wb o t)(E:Ext (fun _=>False) wb w)(hs:Gb t=true)(key:ByteArray):C28 o key w (fun r w1=>NX (fun j=>w.heap.size<=j) w1 r (Aw key t)/\Ext (fun _=>False) w w1) fun _ _=>False:=by
 obtain ⟨hf,hK,hO⟩:=h.out;obtain ⟨sk,skk,MC⟩:=MB hs;refine T28 o _ _ _ _ ?_;unfold S28;rw[AR];refine (Hn.start w).nw (cs:=AF o) fun w2 H=>H.nw (cs:=z6) fun w3 H=>?_
 simp only[ag,ar,add_lit,aj]at H⊢;have h03:w.heap.size<w3.heap.size:=H.lt 0 rfl;have h23:w2.heap.size<w3.heap.size:=H.lt 1 rfl

 have fin:∀{v:World} {O:Ob} {t':Tr},Hn w v [(w.heap.size,AF O,25),(w2.heap.size,z6,25)]->OX v O t'->Gb t'=true->Af v (⟨w.heap.size,0,none⟩:Addr) 0 AD fun (VM:AG)=>
       qt VM v fun lr um=>
        A6 (⟨w2.heap.size,0,none⟩:Addr) 0 AD lr um fun AGU=>
        Af AGU (⟨w2.heap.size,0,none⟩:Addr) 0 AD fun (Nc:AG)=>
        NX (fun j=>w.heap.size<=j) AGU Nc t'/\Ext (fun _=>False) w AGU:=by
  intro v O t' H hX IL;have hv:w2.heap.size<v.heap.size:=H.lt 1 rfl;have hv0:w.heap.size<v.heap.size:=H.lt 0 rfl;refine H.Dx (i:=0) (ts:=AD) (pre:=[]) (post:=[]) (x:=O) rfl rfl ((FB hX IL).mono ?_);rintro r v2 ⟨hr,e2⟩;refine BC (i:=1) (H.AB e2) rfl fun v3 E3 e3=>⟨(hr.AI e3 fun j hj e=>by have hj:v.heap.size<=j:=hj;have e:j=w2.heap.size:=e;omega).Fc fun j hj=>by have hj:v.heap.size<=j:=hj;omega,E3⟩
 have X:=h.AB (E.tr H.ext);refine H.Dx (i:=0) (ts:=AD) (pre:=[]) (post:=[]) (x:=o) rfl rfl ((VF X).mono ?_);rintro r w4 ⟨rfl,e4⟩;have H:=H.AB e4;have X:=X.AB e4;unfold Aw;cases hkd:Ax t with
 |false=>exact Br.f rfl (fin H X hs)
 |true=>
 refine Br.t rfl (H.Dx (i:=0) (ts:=AD) (pre:=[]) (post:=[]) (x:=o) rfl rfl ((GC X).mono ?_ fun _ _ h=>h));rintro e w5 ⟨he,e5⟩;have H:=H.AB e5;have X:=X.AB e5;rcases he with ⟨BA,rfl⟩|⟨BA,he⟩
 rotate_left
 ·rw[BA];exact Br.f (by simpa using he) (fin H X hs)
 obtain ⟨hup,hlen⟩:=oY BA hkd;rw[BA];refine Br.t rfl (H.ld 0 rfl rfl ((TN (hK.AB (E.tr H.ext)) hup (by omega) key).mono ?_));rintro pW Rg w6 ⟨rfl,rfl,hw6⟩;subst w6;by_cases zo:t.ks[BD key t.ks]?=some key
 ·rw[aD zo];have uH:=(ao.1 zo).1;refine Br.t rfl (H.Dx (i:=0) (ts:=AD) (pre:=[]) (post:=[]) (x:=o) rfl rfl ((ANJ h (E.tr H.ext) hlen (by omega) uH).mono ?_));rintro OO w7 ⟨hr,e7⟩;have h05:w.heap.size<w5.heap.size:=H.lt 0 rfl;have H:=H.AB e7;refine A6.AS (ts:=AD) (x:=OO) (pre:=[]) (zs:=AF o) (post:=[]) (H.get 0 rfl) rfl rfl fun w8 hb e8=>?_
  simp only[ag,aM]at hb;have H8:=Dh H (i:=0) rfl e8 (CU:=AF OO) hb;simp only[ai]at H8;have vV:=(hr.AI e8 fun j hj e=>by have hj:w5.heap.size<=j:=hj;have e:j=w.heap.size:=e;omega).to (E.tr H8.ext);refine fin H8 vV (QF (by simp;omega) (by simp;omega) fun x hx=>?_);rcases aQ.1 hx with hx|hx
  ·exact MC x (cE hx)
  ·exact MC x (bS hx)
 ·rw[aP zo];exact Br.f rfl (fin H X hs)
theorem gA {wb:World}(h:OX wb o t)(E:Ext (fun _=>False) wb w)(hs:Gb t=true)(key:ByteArray):C43 o key w fun r b w1=>((∃x,CL key t=some x/\NX (fun j=>w.heap.size<=j) w1 r x/\b=true)\/(CL key t=none/\r=Ir/\b=false))/\Ext (fun _=>False) w w1:=by
 obtain ⟨hf,hK,d,L,hL,hA⟩:=h.out;obtain ⟨sk,skk,MC⟩:=MB hs;refine T43 o _ _ _ ?_;unfold S43;rw[AR];refine (Hn.start w).nw (cs:=AF o) fun w2 H=>H.nw (cs:=z6) fun w3 H=>?_
 simp only[ag,ar,add_lit,aj]at H⊢;refine H.Dx (i:=0) (ts:=AD) (pre:=[]) (post:=[]) (x:=o) rfl rfl ((VF (h.AB (E.tr H.ext))).mono ?_);rintro r w4 ⟨rfl,e4⟩;have H:=H.AB e4;unfold CL;cases hkd:Ax t with
 |false=>exact Br.t rfl (BC (i:=1) H rfl fun v2 E2 _=>⟨.inr ⟨rfl,rfl,by trivial⟩,E2⟩)
 |true=>
 refine Br.f rfl (H.ld 0 rfl rfl ((zk (hK.AB (E.tr H.ext)) key).mono ?_));rintro FQ w5 ⟨rfl,hw5⟩;subst w5;unfold zj;rw[ak rfl];cases hfi:t.ks.findIdx? (fun a=>key.toList==a.toList)with
 |none=>exact Br.t rfl (BC (i:=1) H rfl fun v2 E2 _=>⟨.inr ⟨rfl,rfl,by trivial⟩,E2⟩)
 |some i=>
 dsimp only;refine Br.f (aP (by omega)) (H.ld 0 rfl rfl ?_);have Vx:o.2.2.2.2.2.len=t.kids.length:=by rw[hL.1,hA.len]
 rw[Vx];refine Br.dec (fun q=>BC (i:=1) H rfl fun v2 E2 _=>⟨.inr ⟨?_,rfl,by trivial⟩,E2⟩) fun q=>H.ld 0 rfl rfl ⟨by omega,by rw[Vx];omega,?_⟩
 ·show t.kids[i]?=none;exact bF (by omega)
 ·have fA:=ad (show i<t.kids.length by omega);have DV:t.kids[i]∈t.kids:=bZ _;generalize t.kids[i]=x at fA DV;obtain ⟨ox,hox,hR⟩:=hA.WI fA;have h24:w2.heap.size<w4.heap.size:=H.lt 1 rfl;have h04:w.heap.size<w4.heap.size:=H.lt 0 rfl;refine (hL.AB (E.tr H.ext)).uY hox ((FB (t:=x) ⟨d,hR.AB (E.tr H.ext)⟩ (MC x DV)).mono ?_);rintro r v2 ⟨hr,e2⟩;exact BC (i:=1) (H.AB e2) rfl fun v3 E3 e3=>⟨.inl ⟨x,fA,(hr.AI e3 fun j hj e=>by have hj:w4.heap.size<=j:=hj;have e:j=w2.heap.size:=e;omega).Fc fun j hj=>by have hj:w4.heap.size<=j:=hj;omega,by trivial⟩,E3⟩
theorem zq {key:ByteArray}(h:Gb t=true)(h2:t.ks.length<=9000)(h3:t.kids.length<=9000)(hv:Gb v=true):Gb (Ak key v t)=true:=by
 obtain ⟨sk,skk,MC⟩:=MB h;unfold Ak;split
 ·refine QF sk (by rw[br];exact skk) fun x hx=>?_
  rcases dg hx with hx|rfl
  ·exact MC x hx
  ·exact hv
 ·refine QF (by simp;omega) (by simp;omega) fun x hx=>?_
  rcases aQ.1 hx with hx|hx
  ·exact MC x (cE hx)
  ·rcases aN.1 hx with rfl|hx
   ·exact hv
   ·exact MC x (bS hx)
theorem AAg {wb:World}(h:OX wb o t)(hv:OX wb vo v)(E:Ext (fun _=>False) wb w)(hk:Ax t=true)(BA:Cc 1 t=true)(hvk:v.k≠0)(hvs:Gb v=true)(key:ByteArray):
  C14 o key vo w (fun r e w1=>(Cc 1 (Ak key v t)=true/\NX (fun j=>w.heap.size<=j) w1 r (Ak key v t)/\e=0\/Cc 1 (Ak key v t)=false/\r=Ir/\e≠0)/\Ext (fun _=>False) w w1) fun _ _=>False:=by
 have hs:=QH t BA;obtain ⟨hup,hlen⟩:=oY BA hk;obtain ⟨sk,skk,MC⟩:=MB hs;have hl8:=uj (t:=t) (deep:=1) (by rw[Mf,ay]at BA;exact BA.1);refine T14 o _ vo _ _ _ ?_;unfold S14;rw[AR,AR];refine (Hn.start w).nw (cs:=AF o) fun w2 H=>H.nw (cs:=AF vo) fun w3 H=>H.nw (cs:=z6) fun w4 H=>?_
 simp only[ag,ar,add_lit,aj]at H⊢;refine H.Dx (i:=0) (ts:=AD) (pre:=[]) (post:=[]) (x:=o) rfl rfl ((VF (h.AB (E.tr H.ext))).mono ?_);rintro r w5 ⟨rfl,e5⟩;have H:=H.AB e5;rw[hk];refine Br.f rfl (H.Dx (i:=0) (ts:=AD) (pre:=[]) (post:=[]) (x:=o) rfl rfl ((GC (h.AB (E.tr H.ext))).mono ?_ fun _ _ h=>h));rintro e w6 ⟨he,e6⟩;have H:=H.AB e6;rcases he with ⟨_,rfl⟩|⟨Kf,_⟩
 rotate_left
 ·rw[BA]at Kf;cases Kf
 refine Br.f rfl (H.ld 1 rfl rfl (Br.eq (fun h0=>absurd (hv.out.1.1.symm.trans h0) hvk) fun _=>?_));refine H.Dx (i:=0) (ts:=AD) (pre:=[]) (post:=[]) (x:=o) rfl rfl (H.Dx (i:=1) (ts:=AD) (pre:=[]) (post:=[]) (x:=vo) rfl rfl ?_);refine (nz h hv (E.tr H.ext) hup hlen (by omega) key).mono ?_;rintro YM w7 ⟨AYu,e7⟩;have h36:w3.heap.size<w6.heap.size:=H.lt 2 rfl;have h06:w.heap.size<w6.heap.size:=H.lt 0 rfl;have H:=H.AB e7;have z7:=e7.size;refine (FB (AYu.to (E.tr H.ext)) (zq hs (by omega) (by omega) hvs)).mono ?_;rintro r40 w8 ⟨ANK,e8⟩;have H:=H.AB e8;refine (UC ANK.to).mono ?_ fun _ _ h=>h
 rintro r42 lZ w9 ⟨hr,e9⟩;have H:=H.AB e9;refine BC (i:=2) H rfl fun v3 E3 e3=>⟨?_,E3⟩
 rcases hr with ⟨KN,rfl,rfl⟩|⟨KN,rfl,JP⟩
 ·exact .inl ⟨KN,((ANK.AB e9).AI e3 fun j hj e=>by have hj:w7.heap.size<=j:=hj;have e:j=w3.heap.size:=e;omega).Fc fun j hj=>by have hj:w7.heap.size<=j:=hj;omega,rfl⟩
 ·exact .inr ⟨KN,rfl,JP⟩
def UF:ByteArray:=⟨#[76,101,110,103,116,104]⟩
def Hg (data:ByteArray)(t:Tr):Tr:= .mk 9 t.n t.g data t.ks t.kids
theorem oF {wb:World}(h:OX wb o t)(E:Ext (fun _=>False) wb w)(hk:t.k=7)(BA:Cc 1 t=true)(data:ByteArray):
  C27 o data w (fun r e w1=>(Cc 1 (Hg data (Aw UF t))=true/\NX (fun j=>w.heap.size<=j) w1 r (Hg data (Aw UF t))/\e=0\/Cc 1 (Hg data (Aw UF t))=false/\r=Ir/\e≠0)/\Ext (fun _=>False) w w1) fun _ _=>False:=by
 have hs:=QH t BA;obtain ⟨⟨ME,_⟩,_,_⟩:=h.out;refine T27 o _ _ _ _ ?_;unfold S27;rw[AR];refine (Hn.start w).nw (cs:=AF o) fun w2 H=>H.nw (cs:=z6) fun w3 H=>?_
 simp only[ag,ar,add_lit,aj]at H⊢;refine H.ld 0 rfl rfl (Br.ne (fun q=>absurd (ME.trans hk) q) fun _=>H.Dx (i:=0) (ts:=AD) (pre:=[]) (post:=[]) (x:=o) rfl rfl ((GC (h.AB (E.tr H.ext))).mono ?_ fun _ _ h=>h));rintro e w4 ⟨he,e4⟩;have H:=H.AB e4;rcases he with ⟨_,rfl⟩|⟨Kf,_⟩
 rotate_left
 ·rw[BA]at Kf;cases Kf
 refine Br.f rfl (H.Dx (i:=0) (ts:=AD) (pre:=[]) (post:=[]) (x:=o) rfl rfl ((Yw h (E.tr H.ext) hs _).mono ?_ fun _ _ h=>h));rintro Hz w5 ⟨AYv,e5⟩;have h04:w.heap.size<w4.heap.size:=H.lt 0 rfl;have h24:w2.heap.size<w4.heap.size:=H.lt 1 rfl;have z5:=e5.size;have H:=H.AB e5;refine (Hn.start w5).nw (cs:=z6) fun w6 G=>?_
 simp only[ag]at G;refine G.lS (i:=0) (ts:=AD) (pre:=[]) (post:=[]) (x:=Hz) (zs:=z6) rfl rfl rfl fun w7 G=>?_
 simp only[ai,ag,aM,AR]at G;refine G.st 0 rfl (by simp[AF]) fun w8 G=>G.st 0 rfl (by simp[AF]) fun w9 G=>?_
 simp only[AF,ai,aq]at G;refine G.Dx (i:=0) (ts:=AD) (pre:=[]) (post:=[]) (x:=(((9:Int),Hz.2.1,Hz.2.2.1,data,Hz.2.2.2.2.1,Hz.2.2.2.2.2):Ob)) rfl rfl ?_;have H:=H.AB G.ext;obtain ⟨d,hT⟩:=AYv.AB G.ext;have hX:NX (fun j=>w4.heap.size<=j) w9 (9,Hz.2.1,Hz.2.2.1,data,Hz.2.2.2.2.1,Hz.2.2.2.2.2) (Hg data (Aw UF t)):=by
  cases d with
  |zero=>exact hT.elim
  |succ d=>
   obtain ⟨h1,h2,h3⟩:=hT;exact ⟨d+1,⟨rfl,h1.2.1,h1.2.2.1,rfl⟩,h2,h3⟩
 refine (UC hX.to).mono ?_ fun _ _ h=>h
 rintro J4 Yx IY ⟨hr,JO⟩;have H:=H.AB JO;refine BC (i:=1) H rfl fun v3 E3 e3=>⟨?_,E3⟩
 rcases hr with ⟨KN,rfl,rfl⟩|⟨KN,rfl,JP⟩
 ·exact .inl ⟨KN,((hX.AB JO).AI e3 fun j hj e=>by have hj:w4.heap.size<=j:=hj;have e:j=w2.heap.size:=e;omega).Fc fun j hj=>by have hj:w4.heap.size<=j:=hj;omega,rfl⟩
 ·exact .inr ⟨KN,rfl,JP⟩
def Yu (kids:List Tr):Tr:= .mk 6 0 0 ⟨#[]⟩ [] kids
theorem wx {s:AA}{kids:List Tr}(h:VJ w s kids)(hs:Gb (Yu kids)=true):C35 s w fun r w1=>NX (fun j=>w.heap.size<=j) w1 r (Yu kids)/\Ext (fun _=>False) w w1:=by
 refine T35 _ _ _ ?_;unfold S35;refine (Hn.start w).nw (cs:=z6) fun w2 H=>?_
 simp only[ag]at H;have h02:w.heap.size<w2.heap.size:=H.lt 0 rfl;refine (FB (o:=(6,0,0,⟨#[]⟩,⟨none,0,0⟩,s)) (t:=Yu kids) (OX.of rfl rfl rfl rfl (KV.nil _) (h.AB H.ext)) hs).mono ?_;rintro r w3 ⟨hr,e3⟩;exact BC (i:=0) (H.AB e3) rfl fun v3 E3 e4=>⟨(hr.AI e4 fun j hj e=>by have hj:w2.heap.size<=j:=hj;have e:j=w.heap.size:=e;omega).Fc fun j hj=>by have hj:w2.heap.size<=j:=hj;omega,E3⟩
theorem UE (s:ByteArray)(w:World):C13 s w fun r w1=>r=(5,0,0,s,Fb,Fb)/\Ext (fun _=>False) w w1:=by
 refine T13 _ _ _ ?_;unfold S13;refine (Hn.start w).nw (cs:=z6) fun w2 H=>?_
 simp only[ag]at H;exact BC (i:=0) H rfl fun v3 E3 _=>⟨rfl,E3⟩
theorem oC (n:Int)(w:World):C30 n w fun r w1=>r=(2,n,0,⟨#[]⟩,Fb,Fb)/\Ext (fun _=>False) w w1:=by
 refine T30 _ _ _ ?_;unfold S30;refine (Hn.start w).nw (cs:=z6) fun w2 H=>?_
 simp only[ag]at H;exact BC (i:=0) H rfl fun v3 E3 _=>⟨rfl,E3⟩
end
end Vl
namespace Fi
open Sh
open Ac (bl ba CS Gg AQ By PW F5 Rk J9)
open IK (GB MX QB)
open A8 (Laid F9)
abbrev P3:=Int×Int×Int
def VI:ByteArray:=⟨#[65,83,67,73,73,72,101,120,68,101,99,111,100,101]⟩
def Yp:ByteArray:=⟨#[65,83,67,73,73,56,53,68,101,99,111,100,101]⟩
def Yq:ByteArray:=⟨#[82,117,110,76,101,110,103,116,104,68,101,99,111,100,101]⟩
def Hf:ByteArray:=⟨#[70,108,97,116,101,68,101,99,111,100,101]⟩
def Full (n:ByteArray):Prop:=n=VI\/n=Yp\/n=Yq\/n=Hf
def DN (n:ByteArray):ByteArray×Bool:=
 if n=⟨#[65,72,120]⟩then (VI,true)else if n=VI then (n,true)else if n=⟨#[65,56,53]⟩then (Yp,true)else if n=Yp then (n,true)
 else if n=⟨#[82,76]⟩then (Yq,true)else if n=Yq then (n,true)else if n=⟨#[70,108]⟩then (Hf,true)else if n=Hf then (n,true)else (⟨#[]⟩,false)
theorem wj (a b:ByteArray):(a.toList==b.toList)=decide (a=b):=by
 rw[Vl.eqL];by_cases h:a=b
 ·rw[aD h,aD (by rw[h])]
 ·rw[aP h,aP (fun e=>h (FW e))]
theorem JS {n r:ByteArray}(h:DN n=(r,true)):Full r:=by
 unfold DN at h;unfold Full;split at h
 ·exact .inl (Prod.mk.inj h).1.symm
 split at h
 ·rename_i e;exact .inl ((Prod.mk.inj h).1.symm.trans e)
 split at h
 ·exact .inr (.inl (Prod.mk.inj h).1.symm)
 split at h
 ·rename_i e;exact .inr (.inl ((Prod.mk.inj h).1.symm.trans e))
 split at h
 ·exact .inr (.inr (.inl (Prod.mk.inj h).1.symm))
 split at h
 ·rename_i e;exact .inr (.inr (.inl ((Prod.mk.inj h).1.symm.trans e)))
 split at h
 ·exact .inr (.inr (.inr (Prod.mk.inj h).1.symm))
 split at h
 ·rename_i e;exact .inr (.inr (.inr ((Prod.mk.inj h).1.symm.trans e)))
 ·cases (Prod.mk.inj h).2
theorem SO {n:ByteArray}(h:Full n):DN n=(n,true):=by
 rcases h with rfl|rfl|rfl|rfl<;>decide+kernel
structure TB (w:World):Prop where
 pw:PW w
 lt:0<w.heap.size
 laid:∃N,Laid N w
theorem TB.AB{w w':World}(h:TB w)(he:Ext (fun _=>False) w w'):TB w':=⟨h.pw.AB he id,by have:=h.lt;have:=he.size;omega,h.laid.imp fun N hL=>hL.to he⟩
def ON (n:ByteArray)(p:P3)(d t:By):Prop:=
 (n=VI/\t=J9 d++[62])\/(n=Yp/\F5 t d)\/(n=Yq/\Rk t d)\/(n=Hf/\GB p=true/\∃x T,MX p d=(x,0)/\F9 T x/\t=A8.fk T x)
section
variable {w w' w1:World} {s t name data:ByteArray} {n:ByteArray} {p:P3} {d:By}
attribute [local irreducible] Ld Sh.St Nw Nn Lt AP
theorem Yr (n:ByteArray)(w:World):C22 n w fun r ok w1=>(r,ok)=DN n/\w1=w:=by
 refine T22 _ _ _ ?_;unfold S22 DN;simp only[wj];refine Br.dec (fun h=>⟨(ak h).symm,trivial⟩) fun h=>Lt.of (Br.dec (fun h2=>?_) fun h2=>?_)
 ·have h2:n=VI:=h2;exact ⟨by rw[ah h,ak h2],trivial⟩
 have h2:¬n=VI:=h2;rw[ah h,ah h2];refine Br.dec (fun h=>⟨(ak h).symm,trivial⟩) fun h=>Lt.of (Br.dec (fun h2=>?_) fun h2=>?_)
 ·have h2:n=Yp:=h2;exact ⟨by rw[ah h,ak h2],trivial⟩
 have h2:¬n=Yp:=h2;rw[ah h,ah h2];refine Br.dec (fun h=>⟨(ak h).symm,trivial⟩) fun h=>Lt.of (Br.dec (fun h2=>?_) fun h2=>?_)
 ·have h2:n=Yq:=h2;exact ⟨by rw[ah h,ak h2],trivial⟩
 have h2:¬n=Yq:=h2;rw[ah h,ah h2];refine Br.dec (fun h=>⟨(ak h).symm,trivial⟩) fun h=>Lt.of (Br.dec (fun h2=>?_) fun h2=>?_)
 ·have h2:n=Hf:=h2;exact ⟨by rw[ah h,ak h2],trivial⟩
 have h2:¬n=Hf:=h2;rw[ah h,ah h2];exact ⟨rfl,trivial⟩
theorem Kz (w:World):wk w fun r w1=>r=(1,1,1)/\Ext (fun _=>False) w w1:=by
 refine T26 _ _ ?_;unfold S26;refine (Hn.start w).nw (cs:=[.int .i64 0,.int .i64 0,.int .i64 0]) fun w2 H=>?_
 simp only[ag,add_lit,aj]at H⊢
 iterate 3 (refine H.st 0 rfl (by simp) fun _ H=>?_;simp only[ai,aq]at H)
 iterate 3 refine H.ld 0 rfl rfl ?_
 exact ⟨rfl,H.ext⟩
theorem Dy.of{ok:Nat->Bool}{ts:List Ty}{f:Value}{args:Array Value}{K:Sg ts->World->Prop}{pk:Value->World->Prop}{g:Nat}{first Vz:Array Value}(hf:f= .func (.func g) first Vz)(hg:(ok g&&(prog.funcs[g]?).isSome)=true)
  {all:Array Value} (ha:(first++args)++Vz=all) (h:Calls prog g all w fun e w'=>∃s:Sg ts,e= .returned (De.GP (Sg.GQ ts s))/\K s w'):Dy prog ok ts f args w K pk:=
 ⟨g,first,Vz,hf,hg,ha▸h.mono fun _ _ h=> .inl h⟩
theorem wm {a F:Nat}{ta:TypeId}{R:ByteArray->World->Prop}(hb:AO w a #[.func (.func F) #[] #[]] ta)(hg:(FF F&&(prog.funcs[F]?).isSome)=true)
  (h:Calls prog F #[.string s] w fun e w'=>∃r0,e= .returned (.string r0)/\R r0 w'):C70 s ⟨a,0,none⟩ w fun r e w1=>e=0/\R r w1:=by
 refine T70 _ _ _ _ ?_;unfold S70;refine Ld.of (x:= .func (.func F) #[] #[]) hb rfl (Dy.of rfl hg (all:=#[.string s]) (by simp) (h.mono ?_));rintro e w' ⟨r0,rfl,hR⟩;exact ⟨r0,rfl,rfl,hR⟩
theorem wo {a F:Nat}{ta:TypeId}{R:ByteArray->Int->World->Prop}(hb:AO w a #[.func (.func F) #[] #[]] ta)(hg:(FF F&&(prog.funcs[F]?).isSome)=true)
  (h:Calls prog F #[.string s,.int .i64 1048576] w fun e w'=>∃r0 r1,e= .returned (.tuple #[.string r0,.int .i64 r1])/\R r0 r1 w'):C72 s ⟨a,0,none⟩ w R:=by
 refine T72 _ _ _ _ ?_;unfold S72;refine Ld.of (x:= .func (.func F) #[] #[]) hb rfl (Dy.of rfl hg (all:=#[.string s,.int .i64 1048576]) (by simp) (h.mono ?_));rintro e w' ⟨r0,r1,rfl,hR⟩;exact ⟨(r0,r1),rfl,hR⟩
theorem AC4 (hs:s.size<=20000)(hp:GB p=true)(w:World):C55 p s w (fun r e w1=>(e=0->ON Hf p (bl s) (bl r)/\r.size<=2*s.size+11)/\Ext (fun _=>False) w w1) fun _ _=>False:=by
 refine T55 p _ _ _ _ ?_;unfold S55;refine (Hn.start w).nw (cs:=[.int .i64 p.1,.int .i64 p.2.1,.int .i64 p.2.2]) fun w2 H=>?_
 simp only[ag,add_lit,aj]at H⊢
 iterate 3 refine H.ld 0 rfl rfl ?_
 refine (IK.V0 (p.1,p.2.1,p.2.2) s w2).mono ?_;rintro r e w3 ⟨hE,e3⟩;refine Br.ne (fun h=>⟨fun h0=>absurd h0 h,H.ext.tr e3⟩) fun h=>?_
 subst h;have YY:MX p (bl s)=(r.data.toList,0):=hE.symm;have hz:=AQ s;obtain ⟨hb,hl⟩:=A8.V3 (by rw[<-hz];omega) YY;have hrs:r.size=r.data.toList.length:=Ah r;refine (A8.AC5 (S:=r) (by omega) (lv:=2) (by decide) (by decide) w3).mono ?_ (fun _ _ h=>h);rintro r2 e2 w4 ⟨rfl,⟨T,rfl,g,h1,_,_⟩,e4⟩;refine ⟨fun _=>⟨.inr (.inr (.inr ⟨rfl,hp,_,T,YY,g,?_⟩)),?_⟩,(H.ext.tr e3).tr e4⟩
 ·exact CS _
 ·rw[A8.EO];unfold A8.fk;rw[ae,ae,A8.JT];show 2+(T.length+4)<=_;omega
theorem nk {x T:By}(hx:MX p d=(x,0))(hg:F9 T x)(ht:bl t=A8.fk T x)(hs:t.size<=1000000)(hd:d.length<=20000)(hT:TB w):C56 p t w (fun r e w1=>r=ba d/\e=0/\Ext (fun _=>False) w w1):=by
 refine T56 p _ _ _ ?_;unfold S56;refine (Hn.start w).nw (cs:=[.int .i64 p.1,.int .i64 p.2.1,.int .i64 p.2.2]) fun w2 H=>?_
 simp only[ag,add_lit,aj]at H⊢;obtain ⟨N,hL⟩:=(hT.AB H.ext).laid;obtain ⟨hb,hl⟩:=A8.V3 (by omega) hx;refine (A8.np hs hL 1048576).mono ?_;rintro r e w3 ⟨hu,e3⟩;have vB:t=⟨((120:UInt8)::156::(T++A8.Iq (A8.NW 1 x))).toArray⟩:=by
  rw[<-Gg t,ht]
  rfl
 rw[vB,A8.jb A8.h156 hg (by omega) (by omega),ah (by rw[A8.JT];decide),ak (aX (by rw[A8.JT];decide))]at hu;obtain ⟨rfl,rfl⟩:=Prod.mk.inj hu;refine Br.ne (fun h=>absurd rfl h) fun _=>?_
 have H3:=H.AB e3
 iterate 3 refine H3.ld 0 rfl rfl ?_
 refine (IK.V4 (p.1,p.2.1,p.2.2) ⟨x.toArray⟩ w3).mono ?_;rintro r2 e2 w4 ⟨hE,e4⟩;have YY:(r2.data.toList,e2)=QB p x:=by
  rw[hE]
 rw[hb]at YY;obtain ⟨h1,rfl⟩:=Prod.mk.inj YY;exact ⟨by rw[<-Gg r2];exact bI ba h1,rfl,H3.ext.tr e4⟩
end
end Fi
namespace Fi
open Sh Vl
theorem UM (a:ByteArray):lt a a=false:=oU _
theorem oV {a b:ByteArray}(h:lt a b=false)(hn:a≠b):lt b a=true:=oW h fun e=>hn (FW (by rw[ByteArray.toList_eq,ByteArray.toList_eq]at e;exact e))
theorem lt_trans {a b c:ByteArray}(h:lt a b=true)(k:lt b c=true):lt a c=true:=Gv h k
theorem gE {ks:List ByteArray}:Up ks↔ks.Pairwise fun a b=>lt a b=true:=by
 rw[List.pairwise_iff_getElem];constructor
 ·intro h i j hi hj MG;exact h i j _ _ MG (ad hi) (ad hj)
 ·intro h i j a b MG ha hb;obtain ⟨hi,rfl⟩:=ao.1 ha;obtain ⟨hj,rfl⟩:=ao.1 hb;exact h i j hi hj MG
structure Gd (t:Tr):Prop where
 up:Up t.ks
 len:t.ks.length=t.kids.length
theorem FE {key:ByteArray}{ks:List ByteArray}{a:ByteArray}(h:a∈ks.take (BD key ks)):lt a key=true:=by
 obtain ⟨i,hi⟩:=bU.1 h;rw[aU]at hi;split at hi
 ·exact UN (by assumption) hi
 ·cases hi
theorem K7 {key:ByteArray}{ks:List ByteArray}(hu:Up ks){a:ByteArray}{n:Nat}(h:a∈ks.drop (BD key ks+n)):lt a key=false:=by
 obtain ⟨i,hi⟩:=bU.1 h;rw[bW]at hi;exact ADW hu (by omega) hi
theorem oX {key:ByteArray}{ks:List ByteArray}(hu:Up ks)(h:ks[BD key ks]?≠some key):key∉ks:=by
 intro hm;obtain ⟨i,hi⟩:=bU.1 hm;rcases Nat.lt_trichotomy i (BD key ks)with h1|h1|h1
 ·have:=UN h1 hi;rw[UM]at this;cases this
 ·rw[<-h1]at h;exact h hi
 ·have hl:=(ao.1 hi).1;have hp:=ad (show BD key ks<ks.length by omega);have h2:=hu _ _ _ _ h1 hp hi;have h3:=pos_at hp;rw[h2]at h3;cases h3
theorem GS (t:Tr)(a:List ByteArray)(b:List Tr):(t.Rr a b).ks=a:=rfl
theorem Df (t:Tr)(a:List ByteArray)(b:List Tr):(t.Rr a b).kids=b:=rfl
theorem JU {t:Tr}(h:Gd t)(key:ByteArray)(v:Tr):Gd (Ak key v t):=by
 unfold Ak;split
 ·exact ⟨h.up,by rw[GS,Df,br];exact h.len⟩
 ·rename_i hp;have hn:=oX h.up hp;have hl:=h.len;refine ⟨?_,by rw[GS,Df];simp;omega⟩;rw[GS,gE,bT];have hpw:=gE.1 h.up;refine ⟨hpw.sublist (List.take_sublist _ _),?_,fun a ha b hb=>?_⟩
  ·rw[bn];refine ⟨fun b hb=>?_,hpw.sublist (List.drop_sublist _ _)⟩;exact oV (K7 (n:=0) h.up hb) fun e=>hn (e▸bS hb)
  ·rcases aN.1 hb with rfl|hb
   ·exact FE ha
   ·have h1:=FE ha;exact lt_trans h1 (oV (K7 (n:=0) h.up hb) fun e=>hn (e▸bS hb))
theorem ADY {t:Tr}(h:Gd t){i:Nat}(hi:i<t.ks.length):Gd (Y6 i t):=by
 have hl:=h.len;refine ⟨?_,by unfold Y6;rw[GS,Df];simp;omega⟩;unfold Y6;rw[GS,gE];have hpw:=gE.1 h.up;have hs:(t.ks.take i++t.ks.drop (i+1)).Sublist t.ks:=by
  have h1:(t.ks.drop (i+1)).Sublist (t.ks.drop i):=by
   rw[show i+1=i+1 from rfl,<-List.drop_drop];exact List.drop_sublist _ _
  have h2:=(List.Sublist.refl (t.ks.take i)).append h1;rwa[aW]at h2
 exact hpw.sublist hs
theorem K8 {t:Tr}(h:Gd t)(key:ByteArray):Gd (Aw key t):=by
 unfold Aw;split
 ·rename_i hc;simp only[ay,bP]at hc;exact ADY h (ao.1 hc.2).1
 ·exact h
theorem WJ {key:ByteArray}:∀{ks:List ByteArray} {kids:List Tr},ks.length=kids.length->((ks.findIdx? fun a=>key.toList==a.toList).bind fun i=>kids[i]?)=((ks.zip kids).find? fun p=>decide (key=p.1)).map (·.2)
 |[],[],_=>rfl
 |k::ks,x::kids,h=>by
  rw[List.findIdx?_cons,eg,List.find?_cons];by_cases hk:key=k
  ·have e1:(key.toList==k.toList)=true:=by rw[hk];exact beq_self_eq_true _
   rw[e1];simp[hk]
  ·have e1:(key.toList==k.toList)=false:=by
    rw[Vl.eqL];exact aP fun e=>hk (FW e)
   rw[e1];simp only[bD,dz,aP hk];rw[<-WJ (ks:=ks) (kids:=kids) (by simpa using h)];cases hf:ks.findIdx? fun a=>key.toList==a.toList with
   |none=>rfl
   |some i=>simp
theorem JV {t:Tr}(hk:Ax t=true)(h:Gd t)(key:ByteArray):CL key t=((t.ks.zip t.kids).find? fun p=>decide (key=p.1)).map (·.2):=by
 unfold CL;rw[ak hk,WJ h.len]
theorem Me {key:ByteArray}{Z:List (ByteArray×Tr)}(h:∀p∈Z,key≠p.1):(Z.find? fun p=>decide (key=p.1))=none:=List.find?_eq_none.2 fun p hp=>by simpa using h p hp
theorem FG {ks:List ByteArray}{kids:List Tr}{p:ByteArray×Tr}(h:p∈ks.zip kids):p.1∈ks:=(List.of_mem_zip h).1
theorem QP {t:Tr}(h:Gd t)(key:ByteArray)(v:Tr):∃A B,(Ak key v t).ks.zip (Ak key v t).kids=A++(key,v)::B/\(∀p∈A,key≠p.1)/\∀K9,K9≠key->((t.ks.zip t.kids).find? fun p=>decide (K9=p.1))=(A++B).find? fun p=>decide (K9=p.1):=by
 have hl:=h.len;have hA:∀p∈(t.ks.take (BD key t.ks)).zip (t.kids.take (BD key t.ks)),key≠p.1:=fun p hp e=>by
  have:=FE (FG hp);rw[<-e,UM]at this;cases this
 have hz:∀i,(t.ks.take i).zip (t.kids.take i)++(t.ks.drop i).zip (t.kids.drop i)=t.ks.zip t.kids:=fun i=>by
  rw[<-eo (by simp[hl]),aW,aW]
 unfold Ak;split
 ·rename_i hp;have Am:=(ao.1 hp).1;refine ⟨(t.ks.take (BD key t.ks)).zip (t.kids.take (BD key t.ks)),(t.ks.drop (BD key t.ks+1)).zip (t.kids.drop (BD key t.ks+1)),?_,hA,fun K9 A2=>?_⟩
  ·rw[GS,Df];have e1:t.ks=t.ks.take (BD key t.ks)++key::t.ks.drop (BD key t.ks+1):=by
    obtain ⟨_,e⟩:=ao.1 hp;have:=aW (BD key t.ks) t.ks;rw[aS Am,e]at this;exact this.symm
   have e2:t.kids.set (BD key t.ks) v=t.kids.take (BD key t.ks)++v::t.kids.drop (BD key t.ks+1):=by
    rw[dI,ak (by omega)]
   rw[e2];generalize BD key t.ks=i at e1;have hti:(t.ks.take i).length=(t.kids.take i).length:=by simp[hl]
   refine (bI (fun k=>List.zip k (t.kids.take i++v::t.kids.drop (i+1))) e1).trans ?_;show (t.ks.take i++key::t.ks.drop (i+1)).zip (t.kids.take i++v::t.kids.drop (i+1))=_;rw[eo hti,eg]
  ·rw[<-hz (BD key t.ks),aS Am,aS (show BD key t.ks<t.kids.length by omega),eg,dw,dw,List.find?_cons];obtain ⟨_,e⟩:=ao.1 hp;rw[e,aP A2]
 ·refine ⟨(t.ks.take (BD key t.ks)).zip (t.kids.take (BD key t.ks)),(t.ks.drop (BD key t.ks)).zip (t.kids.drop (BD key t.ks)),?_,hA,fun K9 A2=>?_⟩
  ·rw[GS,Df,eo (by simp[hl]),eg]
  ·rw[hz]
theorem EF (key:ByteArray)(v t:Tr):Ax (Ak key v t)=Ax t:=by unfold Ak;split<;>rfl
theorem Iw {t:Tr}(hk:Ax t=true)(h:Gd t)(key:ByteArray)(v:Tr):CL key (Ak key v t)=some v:=by
 rw[JV (by rw[EF];exact hk) (JU h key v)];obtain ⟨A,B,h1,h2,_⟩:=QP h key v;rw[h1,dw,Me h2,List.find?_cons];simp
theorem CE {t:Tr}(hk:Ax t=true)(h:Gd t){key K9:ByteArray}(A2:K9≠key)(v:Tr):CL K9 (Ak key v t)=CL K9 t:=by
 rw[JV (by rw[EF];exact hk) (JU h key v),JV hk h];obtain ⟨A,B,h1,_,h3⟩:=QP h key v;rw[h1,h3 K9 A2,dw,dw,List.find?_cons,aP A2]
theorem Fe (key:ByteArray)(t:Tr):Ax (Aw key t)=Ax t:=by unfold Aw;split<;>rfl
theorem WK {t:Tr}(hk:Ax t=true)(BA:Cc 1 t=true)(h:Gd t)(key:ByteArray):CL key (Aw key t)=none:=by
 rw[JV (by rw[Fe];exact hk) (K8 h key)];unfold Aw;rw[hk,BA];simp only[cM];split
 ·rename_i hp;have hp:t.ks[BD key t.ks]?=some key:=by simpa using hp
  unfold Y6;rw[GS,Df,eo (by simp[h.len]),Me,Option.map_none];intro p Kq e;rcases aQ.1 Kq with Kq|Kq
  ·have:=FE (FG Kq);rw[<-e,UM]at this;cases this
  ·obtain ⟨j,hj⟩:=bU.1 (FG Kq);rw[bW]at hj;have:=h.up _ _ _ _ (show BD key t.ks<BD key t.ks+1+j by omega) hp hj;rw[<-e,UM]at this;cases this
 ·rename_i hp;have hp:t.ks[BD key t.ks]?≠some key:=by simpa using hp
  rw[Me,Option.map_none];intro p Kq e;exact oX h.up hp (e▸FG Kq)
theorem Ix {t:Tr}(hk:Ax t=true)(h:Gd t){key K9:ByteArray}(A2:K9≠key):CL K9 (Aw key t)=CL K9 t:=by
 rw[JV (by rw[Fe];exact hk) (K8 h key),JV hk h];unfold Aw;split
 ·rename_i hc;simp only[ay,bP]at hc;have hp:=hc.2;have hl:=h.len;have Am:=(ao.1 hp).1;obtain ⟨_,e⟩:=ao.1 hp;unfold Y6;rw[GS,Df,eo (by simp[hl])];have hz:(t.ks.take (BD key t.ks)).zip (t.kids.take (BD key t.ks))++(t.ks.drop (BD key t.ks)).zip (t.kids.drop (BD key t.ks))=t.ks.zip t.kids:=by
   rw[<-eo (by simp[hl]),aW,aW]
  rw[<-hz,aS Am,aS (show BD key t.ks<t.kids.length by omega),eg,dw,dw,List.find?_cons,e,aP A2]
 ·rfl
end Fi
namespace Fi
open Sh Vl
def Fw (n:Int):Tr:= .mk 2 n 0 ⟨#[]⟩ [] []
def CK (s:ByteArray):Tr:= .mk 5 0 0 s [] []
def YE:Tr:= .mk 7 0 0 ⟨#[]⟩ [] []
abbrev PL:=List (ByteArray×Int)
def dT (PS:PL):Tr:=PS.foldl (fun t q=>Ak q.1 (Fw q.2) t) YE
def pOb (q:ByteArray×Int):List Ob:=[(5,0,0,q.1,Fb,Fb),(2,q.2,0,⟨#[]⟩,Fb,Fb)]
def Flat (t:Tr):Prop:=∀x∈t.kids,x.ks=[]/\x.kids=[]
theorem je {t v:Tr}(h:Flat t)(hv:v.ks=[]/\v.kids=[])(key:ByteArray):Flat (Ak key v t):=by
 unfold Ak;split
 ·intro x hx;rw[Df]at hx;rcases dg hx with hx|rfl
  ·exact h x hx
  ·exact hv
 ·intro x hx;rw[Df]at hx;rcases aQ.1 hx with hx|hx
  ·exact h x (cE hx)
  rcases aN.1 hx with rfl|hx
  ·exact hv
  ·exact h x (bS hx)
theorem wv (PS:PL)(q:ByteArray×Int):dT (PS++[q])=Ak q.1 (Fw q.2) (dT PS):=by
 unfold dT;rw[du]
 rfl
theorem fo:Gd YE:=⟨fun i j a b _ h=>(by cases h),rfl⟩
theorem nt (PS:PL):Gd (dT PS):=by
 unfold dT;have:∀(PS:PL) (t:Tr),Gd t->Gd (PS.foldl (fun t q=>Ak q.1 (Fw q.2) t) t):=fun PS=>by
  induction PS with
  |nil=>exact fun t h=>h
  |cons q r ih=>exact fun t h=>ih _ (JU h _ _)
 exact this PS YE fo
theorem Tz (PS:PL):Flat (dT PS):=by
 unfold dT;have:∀(PS:PL) (t:Tr),Flat t->Flat (PS.foldl (fun t q=>Ak q.1 (Fw q.2) t) t):=fun PS=>by
  induction PS with
  |nil=>exact fun t h=>h
  |cons q r ih=>exact fun t h=>ih _ (je h ⟨rfl,rfl⟩ _)
 exact this PS YE fun x hx=>by cases hx
theorem nu (key:ByteArray)(v t:Tr):(Ak key v t).ks.length<=t.ks.length+1:=by
 unfold Ak;split
 ·exact Nat.le_succ _
 ·rw[GS];simp;omega
theorem nv (PS:PL):(dT PS).ks.length<=PS.length:=by
 unfold dT;have:∀(PS:PL) (t:Tr),(PS.foldl (fun t q=>Ak q.1 (Fw q.2) t) t).ks.length<=t.ks.length+PS.length:=fun PS=>by
  induction PS with
  |nil=>exact fun t=>av _
  |cons q r ih=>
   intro t;have h1:=ih (Ak q.1 (Fw q.2) t);have h2:=nu q.1 (Fw q.2) t;rw[b9,aA];omega
 have:=this PS YE;rw[show YE.ks.length=0 from rfl]at this;omega
theorem ny {wb w:World}:∀{d:Nat} {o:Ob} {t:Tr},KM wb d o t->t.ks=[]/\t.kids=[]->KM w d o t
 |0,_,_,h,_=>h.elim
 |d+1,o,t,⟨h1,h2,L,h3,h4⟩,⟨k1,k2⟩=>by
  rw[k1]at h2;rw[k2]at h4;have hL:L=[]:=aw h4.len;subst hL;refine ⟨h1,by rw[k1];exact ⟨h2.1,fun i b hi=>by simp at hi⟩,[],⟨h3.1,h3.2.1,fun j v hj=>by simp at hj⟩,by rw[k2];exact trivial⟩
theorem SP {wb w:World}{d:Nat}:∀{L:List Ob} {ts:List Tr},A9 (KM wb d) L ts->(∀x∈ts,x.ks=[]/\x.kids=[])->A9 (KM w d) L ts
 |[],[],_,_=>trivial
 |_::_,_::_,h,k=>⟨ny h.1 (k _ (aT ..)),SP h.2 fun x hx=>k x (aC _ hx)⟩
theorem fq {wb w:World}{G:Nat->Prop}{o:Ob}{t:Tr}(h:OS wb G w o t)(hf:Flat t):OX w o t:=by
 obtain ⟨⟨h0,h1,h2,h3⟩,⟨h4,_⟩,d,L,⟨h5,_⟩,h6⟩:=h;exact OX.of h0 h1 h2 h3 h4 ⟨d,L,h5,SP h6 hf⟩
theorem ADB (w:World)(n:Int):OX w (2,n,0,⟨#[]⟩,Fb,Fb) (Fw n):=OX.of rfl rfl rfl rfl (KV.nil w) ⟨1,[],⟨rfl,rfl,fun j v h=>by cases h⟩,trivial⟩
theorem AIv (w:World):OX w (7,0,0,⟨#[]⟩,Fb,Fb) YE:=OX.of rfl rfl rfl rfl (KV.nil w) ⟨1,[],⟨rfl,rfl,fun j v h=>by cases h⟩,trivial⟩
theorem UA {PS:PL}{j:Nat}{q:ByteArray×Int}(h:PS[j]?=some q):(PS.flatMap pOb)[2*j]?=some (5,0,0,q.1,Fb,Fb)/\(PS.flatMap pOb)[2*j+1]?=some (2,q.2,0,⟨#[]⟩,Fb,Fb):=by
 induction PS generalizing j with
 |nil=>simp at h
 |cons x r ih=>
  rw[bC];cases j with
  |zero=>
   simp only[bL,bE]at h;subst h;exact ⟨rfl,rfl⟩
  |succ j=>
   simp only[dq]at h;have:=ih h;rw[show 2*(j+1)=2*j+1+1 by omega];exact this
theorem fr:∀PS:PL,(PS.flatMap pOb).length=2*PS.length
 |[]=>rfl
 |x::r=>by
  rw[bC,ae,fr r,aA];show 2+_=_;omega
section
variable {w w' w1:World} {s:AA} {PS:PL}
theorem AIw (w:World):(zeroValue 4).run prog w= .ok (.bool false) w:=by
 have h:(prog.info? 4).bind (·.zero)=some (.bool false):=by kernel_rfl
 cases hi:prog.info? 4 with
 |none=>rw[hi]at h;cases h
 |some i=>
  rw[hi]at h;simp only[Option.bind_some]at h;simp[zeroValue,typeInfo,hi,h]
attribute [local irreducible] Ld Sh.St Nw Lt AP Af B1 A6
theorem ADC (hs:OV w s (PS.flatMap pOb))(hn:(PS.map Prod.fst).Nodup)(hl:PS.length<=1000)(hk:∀q∈PS,q.1.size<=maxLen)(PR:Value->World->Prop):
  C29 s w (fun r e w1=>(Cc 1 (dT PS)=true/\NX (fun j=>w.heap.size<=j) w1 r (dT PS)/\e=0\/Cc 1 (dT PS)=false/\r=Ir/\e≠0)/\Ext (fun _=>False) w w1) PR:=by
 refine T29 _ _ _ _ ?_;unfold S29;have Ga:s.len=2*PS.length:=by rw[hs.1,fr]
 refine (Hn.start w).nw (cs:=z6) fun w2 H=>?_
 simp only[ag]at H;refine Br.ne (fun h=>absurd (show Int.tmod ((s.len:Nat):Int) 2=0 by rw[F0 (by omega)];omega) h) fun _=>?_
 refine ⟨fun n st v=>v=w2/\∃j:Nat,st=((2*j:Nat):Int)/\n=PS.length-j/\j<=PS.length,PS.length,⟨rfl,0,rfl,rfl,by omega⟩,?_⟩;rintro n st v ⟨rfl,j,rfl,rfl,hj⟩;unfold AAa;have hs2:=hs.AB H.ext;refine Br.dec (fun q=>?_) fun q=>?_
 ·have hq:=ad (show j<PS.length by omega);obtain ⟨a,ha,c0,_⟩:=hs2.get (UA hq).1;rw[aa];refine ⟨by omega,by omega,a,ha,Ld.mk (x:=5) c0 (Br.ne (fun h=>absurd rfl h) fun _=>⟨PS.length-(j+1),by omega,rfl,j+1,by rw[AE (by omega)];omega,rfl,by omega⟩)⟩
 have hv0:v.heap.size=v.heap.size:=rfl;have l0:w.heap.size<v.heap.size:=H.lt 0 rfl;refine H.nw (cs:=z6) fun w3 H3=>?_
 simp only[ar,ag]at H3;refine A6.AS (ts:=AD) (pre:=[]) (zs:=z6) (post:=[]) (H3.get 1 rfl) rfl rfl fun w4 hb he=>?_
 simp only[ag,aM]at hb;have H4:=Dh H3 (i:=1) rfl he (CU:=AF (7,0,0,⟨#[]⟩,Fb,Fb)) hb;simp only[aq,ai]at H4;have hm:=UB.new w4;have em:Ext (fun _=>False) w4 (w4.alloc (.map #[] 0)):=(Ext.refl _ _).alloc _;have l1:v.heap.size<w4.heap.size:=H4.lt 1 rfl;refine Nw.of ?_;have H5:=H4.AB em;have l5:=em.size;generalize w4.alloc (.map #[] 0)=w5 at hm em H5 l5;have hm5:=hm.lt;refine ⟨fun n st u=>∃(j:Nat) (o:Ob) (L:QE),st=((2*j:Nat):Int)/\n=PS.length-j/\j<=PS.length/\w5.heap.size<=u.heap.size/\Hn w u [(w.heap.size,z6,25),(v.heap.size,AF o,25)]/\(∃wb,OS wb (fun j=>w5.heap.size<=j) u o (dT (PS.take j)))/\UB u w4.heap.size L/\
  (∀k:ByteArray,k∉(PS.take j).map Prod.fst->FD L k=none),PS.length,⟨0,_,[],rfl,rfl,by omega,av _,H5,⟨w5,⟨rfl,rfl,rfl,rfl⟩,⟨KV.nil _,fun j hj=>absurd hj (Cq j)⟩,1,[],⟨⟨rfl,rfl,fun j v h=>by cases h⟩,fun j hj=>absurd hj (Cq j)⟩,trivial⟩,hm,fun k _=>rfl⟩,?_⟩
 rintro n st u ⟨j,o,L,rfl,rfl,hj,hz5,HU,⟨wb,hO⟩,hM,hML⟩;unfold AAb;have hs3:=hs.AB HU.ext;refine Br.dec (fun q=>?_) fun q=>?_
 ·have V7:j<PS.length:=by omega
  have hq:=ad V7;generalize PS[j]=kq at hq;have hkm:kq∈PS:=aB hq;obtain ⟨a,ha,_,_,_,c3,_⟩:=hs3.get (UA hq).1;rw[aa];refine ⟨by omega,by omega,a,ha,Ld.mk (x:=kq.1) c3 ?_⟩;have DD:PS.take (j+1)=PS.take j++[kq]:=by
   rw[aO,hq]
   rfl
  have ADD:kq.1∉(PS.take j).map Prod.fst:=by
   have h1:=hn;rw[<-aW (j+1) PS,DD,bh,bh]at h1;have h2:=(dP.1 (dP.1 h1).1).2.2;exact fun hm=>h2 _ hm _ (by simp) rfl
  have AAc:=hM.look (P:=prog) (t:=90) (k:=9) (e:=4) (z:= .bool false) Tryz.underlying90 Tryz.underlying9 (AIw u) (key:=kq.1) (hk _ hkm);rw[hML _ ADD]at AAc;refine ⟨false,u,AAc,Vl.Br.f rfl ?_⟩;obtain ⟨u2,ADE,hM2,eM⟩:=hM.put (P:=prog) (t:=90) (k:=9) (e:=4) Tryz.underlying90 Tryz.underlying9 (key:=kq.1) (hk _ hkm) (.bool true);refine ⟨u2,ADE,?_⟩;have HU2:=HU.other eM fun x e=>by
   have e:x=w4.heap.size:=e;subst e;refine ⟨by omega,?_⟩;simp only[bw,cK,aN,bQ,dZ];omega
  have hO2:=hO.AI eM fun x hx e=>by
   have hx:w5.heap.size<=x:=hx;have e:x=w4.heap.size:=e;omega
  have zM:=eM.size;have i1:wrap .i64 (((2*j:Nat):Int)+1)=((2*j+1:Nat):Int):=by rw[AE (by omega)];omega
  rw[i1,aa];have hs4:=hs.AB HU2.ext;obtain ⟨a',Oq,d0,_⟩:=hs4.get (UA hq).2;refine ⟨by omega,by omega,a',Oq,Ld.mk (x:=2) d0 (Br.ne (fun _=>?_) fun h=>by cases h)⟩;have HU3:=HU2.drew;refine HU3.Dx (i:=1) (ts:=AD) (pre:=[]) (post:=[]) (x:=o) rfl rfl ⟨by omega,by omega,?_⟩;have eD:Ext (fun _=>False) u2 u2.drew:=(Ext.refl _ u2).drew;have hO3:=hO2.AI eD fun x hx e=>e
  refine (hs4.AB eD).word (UA hq).2 ?_;have hOX:OX u2.drew o (dT (PS.take j)):=fq hO3 (Tz _);have Am:=nv (PS.take j);rw[au]at Am;refine (nz hOX (ADB u2.drew kq.2) (Ext.refl _ _) (nt _).up (nt _).len (by omega) kq.1).mono ?_;rintro r u4 ⟨hr,e4⟩;have HU4:=HU3.AB e4;have z4:=e4.size;have zD:u2.drew.heap.size=u2.heap.size:=rfl;refine A6.AS (ts:=AD) (pre:=[]) (zs:=AF o) (post:=[]) (HU4.get 1 rfl) rfl rfl fun u5 vD Vf=>?_
  simp only[ag,aM]at vD;have HU5:=Dh HU4 (i:=1) rfl Vf (CU:=AF r) vD;simp only[aq,ai]at HU5;have z5':=Vf.size;have hr5:=hr.AI Vf fun x hx e=>by
   have hx:u2.drew.heap.size<=x:=hx;have e:x=v.heap.size:=e;omega
  refine ⟨PS.length-(j+1),by omega,j+1,r,_,by rw[AE (by omega)];omega,rfl,by omega,by omega,HU5,⟨u2.drew,?_⟩,(hM2.AB (eD.tr e4)).AI Vf (by show ¬w4.heap.size=v.heap.size;omega),fun k=>?_⟩
  ·rw[DD,wv];obtain ⟨h1,⟨h2,h3⟩,d,L',⟨h4,h5⟩,h6⟩:=hr5;have hw:∀x,u2.drew.heap.size<=x->w5.heap.size<=x:=fun x hx=>by omega
   exact ⟨h1,⟨h2,fun x hx=>hw x (h3 x hx)⟩,d,L',⟨h4,fun x hx=>hw x (h5 x hx)⟩,h6⟩
  ·intro ME;rw[DD,bh]at ME;rw[Is,ah (fun e=>ME (aQ.2 (.inr (by simp[e])))),hML _ fun h=>ME (aQ.2 (.inl h))]
 ·have V7:j=PS.length:=by omega
  subst V7;rw[bj]at hO;have hOX:OX u o (dT PS):=fq hO (Tz _);have IL:Gb (dT PS)=true:=by
   have hgl:=(nt PS).len;have Am:=nv PS;have:=QF (t:=dT PS) (ks:=(dT PS).ks) (kids:=(dT PS).kids) (by omega) (by omega) fun x hx=>by
    obtain ⟨h1,h2⟩:=Tz PS x hx;rw[MY,h1,h2]
    rfl
   have e:(dT PS).Rr (dT PS).ks (dT PS).kids=dT PS:=Tr.ext rfl rfl rfl rfl rfl rfl;rwa[e]at this
  refine HU.Dx (i:=1) (ts:=AD) (pre:=[]) (post:=[]) (x:=o) rfl rfl ((FB hOX IL).mono ?_);rintro r1 u2 ⟨hr1,e2⟩;have HU2:=HU.AB e2;have lu:w.heap.size<u.heap.size:=HU.lt 0 rfl;refine (UC hr1.to).mono ?_ (fun _ _ h=>h.elim);rintro r2 e u3 ⟨hr,e3⟩;have HU3:=HU2.AB e3;refine BC (i:=0) HU3 rfl fun v3 E3 e3'=>⟨?_,E3⟩
  rcases hr with ⟨KN,rfl,rfl⟩|⟨KN,rfl,JP⟩
  ·exact .inl ⟨KN,((hr1.AB e3).AI e3' fun x hx e=>by have hx:u.heap.size<=x:=hx;have e:x=w.heap.size:=e;omega).Fc fun x hx=>by have hx:u.heap.size<=x:=hx;omega,rfl⟩
  ·exact .inr ⟨KN,rfl,JP⟩
end
end Fi
namespace Fi
open Sh Vl
def Yt:ByteArray:=⟨#[67,111,108,111,114,115]⟩
def oA:ByteArray:=⟨#[67,111,108,117,109,110,115]⟩
def preB:ByteArray:=⟨#[80,114,101,100,105,99,116,111,114]⟩
def HM:ByteArray:=⟨#[70,105,108,116,101,114]⟩
def Ow:ByteArray:=⟨#[68,101,99,111,100,101,80,97,114,109,115]⟩
def ft (p:P3):PL:=[(Yt,p.2.1),(oA,p.2.2),(preB,p.1)]
def Ba (p:P3):Tr:=if p=(1,1,1)then oB else dT (ft p)
theorem NX.null(G:Nat->Prop)(w:World):NX G w Ir oB:=⟨1,⟨rfl,rfl,rfl,rfl⟩,⟨KV.nil w,fun j hj=>absurd hj (Cq j)⟩,[],⟨⟨rfl,rfl,fun j v h=>by cases h⟩,fun j hj=>absurd hj (Cq j)⟩,trivial⟩
theorem fu:Cc 1 oB=true:=by decide+kernel
section
variable {w w' w1 w0:World} {s:AA} {PS:PL} {o:Ob} {t:Tr}
attribute [local irreducible] Ld Sh.St Nw Lt AP Af B1 A6
theorem UD (p:P3)(w:World)(PR:Value->World->Prop):C12 p w (fun r e w1=>(Cc 1 (Ba p)=true/\NX (fun j=>w.heap.size<=j) w1 r (Ba p)/\e=0\/r=Ir/\e≠0/\Cc 1 (Ba p)=false)/\Ext (fun _=>False) w w1) PR:=by
 refine T12 p _ _ _ ?_;unfold S12;refine (Hn.start w).nw (cs:=[.int .i64 p.1,.int .i64 p.2.1,.int .i64 p.2.2]) fun w2 H=>H.nw (cs:=z6) fun w3 H=>?_
 simp only[ag,ar,add_lit,aj]at H⊢;have b0:=H.get 0 rfl;have eD:Ext (fun _=>False) w3 w3.drew:=(Ext.refl _ w3).drew;have l0:w.heap.size<w3.heap.size:=H.lt 0 rfl;refine ⟨fun v'=>Ext (fun _=>False) w3 v',eD,?_⟩
 iterate 3 refine AP.of (fun v' he=>he.AS b0 id) rfl ?_
 refine (Kz w3.drew).mono ?_;rintro FQ w4 ⟨rfl,e4⟩;have e34:=eD.tr e4;refine ⟨e34,?_⟩;have H4:=H.AB e34;have NY:((p.1==1)&&((p.2.1==1)&&((p.2.2==1)&&true)))=decide (p=(1,1,1)):=by
  obtain ⟨p1,p2,p3⟩:=p;by_cases h:(p1,p2,p3)=((1:Int),(1:Int),(1:Int))
  ·rw[aD h];simp only[Prod.mk.injEq]at h;obtain ⟨rfl,rfl,rfl⟩:=h
   rfl
  ·rw[aP h];simp only[Prod.mk.injEq,not_and]at h;by_cases h1:p1=1
   ·by_cases h2:p2=1
    ·have:=h h1 h2;simp[h1,h2,this]
    ·simp[h2]
   ·simp[h1]
 rw[NY];refine Br.dec (fun hp=>?_) fun hp=>?_
 ·refine BC (i:=1) (O:=Ir) H4 rfl fun v3 E3 e3=>⟨.inl ⟨?_,?_,trivial⟩,E3⟩
  ·unfold Ba;rw[ak hp];exact fu
  ·unfold Ba;rw[ak hp];exact NX.null _ _
 ·have b4:=H4.get 0 rfl;have eD4:Ext (fun _=>False) w4 w4.drew:=(Ext.refl _ w4).drew;refine ⟨fun v'=>Ext (fun _=>False) w4 v',eD4,?_⟩
  iterate 3 refine AP.of (fun v' he=>he.AS b4 id) rfl ?_
  refine (UE _ _).mono ?_;rintro r1 u1 ⟨rfl,e1⟩;have f1:=eD4.tr e1;refine ⟨f1,(oC _ _).mono ?_⟩;rintro r2 u2 ⟨rfl,e2⟩;have f2:=f1.tr e2;refine ⟨f2,(UE _ _).mono ?_⟩;rintro r3 u3 ⟨rfl,e3⟩;have f3:=f2.tr e3;refine ⟨f3,(oC _ _).mono ?_⟩;rintro r4 u4 ⟨rfl,e4'⟩;have f4:=f3.tr e4';refine ⟨f4,(UE _ _).mono ?_⟩;rintro r5 u5 ⟨rfl,e5⟩;have f5:=f4.tr e5;refine ⟨f5,(oC _ _).mono ?_⟩;rintro r6 u6 ⟨rfl,e6⟩;have f6:=f5.tr e6;refine Nw.of ?_;have eA:Ext (fun _=>False) u6 (u6.alloc (.cells (((ft p).flatMap pOb).flatMap AF).toArray 25)):=(Ext.refl _ _).alloc _;have hB:=AO.new u6 (((ft p).flatMap pOb).flatMap AF).toArray 25;have hOV:=OV.of hB;have H6:=(H4.AB f6).AB eA;have zA:=eA.size;have z6':=f6.size;have z4:=H4.size;show C29 _ (u6.alloc (.cells (((ft p).flatMap pOb).flatMap AF).toArray 25)) _ _;generalize u6.alloc (.cells (((ft p).flatMap pOb).flatMap AF).toArray 25)=u7 at H6 hOV zA;have ht:Ba p=dT (ft p):=by unfold Ba;rw[ah hp]
  refine (ADC (PS:=ft p) hOV (by unfold ft;simp[List.nodup_cons];decide+kernel) (show 3<=1000 by decide) (fun q hq=>?_) PR).mono ?_ (fun _ _ h=>h)
  ·unfold ft at hq;simp only[aN,bQ,dZ]at hq;rcases hq with rfl|rfl|rfl
   ·show (6:Nat)<=maxLen;decide
   ·show (7:Nat)<=maxLen;decide
   ·show (9:Nat)<=maxLen;decide
  rintro r e w8 ⟨hr,e8⟩;have H8:=H6.AB e8;refine BC (i:=1) H8 rfl fun v3 E3 e3=>⟨?_,E3⟩
  have l2:w2.heap.size<w3.heap.size:=H.lt 1 rfl;have z3:=e34.size;rcases hr with ⟨BA,hx,rfl⟩|⟨Kf,rfl,he⟩
  ·rw[ht];exact .inl ⟨BA,(hx.AI e3 fun j hj e=>by have hj:u7.heap.size<=j:=hj;have e:j=w2.heap.size:=e;omega).Fc fun j hj=>by have hj:u7.heap.size<=j:=hj;omega,rfl⟩
  ·exact .inr ⟨rfl,he,by rw[ht];exact Kf⟩
def BI:List Tr->Tr
 |[t]=>t
 |l=>Yu l
theorem It {l:List Tr}(h:l.length≠1):BI l=Yu l:=by
 match l,h with
 |[],_=>rfl
 |_::_::_,_=>rfl
theorem fv {ts:List Tr}{wb:World}(h:VJ wb s ts)(E:Ext (fun _=>False) wb w)(hs:Gb (Yu ts)=true):C15 s w fun r w1=>OX w1 r (BI ts)/\Ext (fun _=>False) w w1:=by
 refine T15 _ _ _ ?_;unfold S15;refine (Hn.start w).nw (cs:=z6) fun w2 H=>?_
 simp only[ag]at H;have oD:=h.AB (E.tr H.ext);have hlen:=h.len;refine Br.eq (fun q=>?_) fun q=>?_
 ·have hl1:ts.length=1:=by omega
  match ts,hl1 with
  |[t],_=>
   obtain ⟨d,L,hL,hA⟩:=h
   match L,hA with
   |[x],hA=>exact ⟨by omega,by omega,(hL.AB (E.tr H.ext)).word (i:=0) rfl (BC (i:=0) H rfl fun v3 E3 e3=>⟨⟨d,hA.1.AB (E.tr E3)⟩,E3⟩)⟩
 ·rw[It (by omega)];refine (wx oD hs).mono ?_;rintro r w3 ⟨hr,e3⟩;have H3:=H.AB e3;have l0:w.heap.size<w2.heap.size:=H.lt 0 rfl;refine BC (i:=0) H3 rfl fun v3 E3 e3'=>⟨(hr.AI e3' fun j hj e=>by have hj:w2.heap.size<=j:=hj;have e:j=w.heap.size:=e;omega).to,E3⟩
end
end Fi
namespace Fi
open Sh Vl
def Yv (S:Nat->Prop)(w:World):Nat->Ob->Tr->Prop
 |0,_,_=>False
 |d+1,o,t=>(o.1=t.k/\o.2.1=t.n/\o.2.2.1=t.g/\o.2.2.2.1=t.s)/\(KV w o.2.2.2.2.1 t.ks/\(t.ks≠[]->∀j,o.2.2.2.2.1.own j->S j))/\∃L:List Ob,(OV w o.2.2.2.2.2 L/\(L≠[]->∀j,o.2.2.2.2.2.own j->S j))/\A9 (Yv S w d) L t.kids
theorem Yv.to{S:Nat->Prop}{w:World}:∀{d:Nat} {o:Ob} {t:Tr},Yv S w d o t->KM w d o t
 |0,_,_,h=>h.elim
 |d+1,o,t,⟨h1,h2,L,h3,h4⟩=>⟨h1,h2.1,L,h3.1,h4.imp fun _ _ h=>h.to⟩
theorem Yv.Fc{S S':Nat->Prop}{w:World}(hS:∀j,S j->S' j):∀{d:Nat} {o:Ob} {t:Tr},Yv S w d o t->Yv S' w d o t
 |0,_,_,h=>h.elim
 |d+1,o,t,⟨h1,h2,L,h3,h4⟩=>⟨h1,⟨h2.1,fun h j hj=>hS j (h2.2 h j hj)⟩,L,⟨h3.1,fun h j hj=>hS j (h3.2 h j hj)⟩,h4.imp fun _ _ h=>h.Fc hS⟩
theorem QG {S F:Nat->Prop}{w w':World}{s:AA}{K:List ByteArray}(h:KV w s K)(hS:K≠[]->∀j,s.own j->S j)(he:Ext F w w')(hF:∀j,S j->¬F j):KV w' s K:=by
 by_cases hK:K=[]
 ·subst hK;exact ⟨h.1,fun i b hi=>by simp at hi⟩
 ·exact h.AI he fun j hj=>hF j (hS hK j hj)
theorem oE {S F:Nat->Prop}{w w':World}{s:AA}{L:List Ob}(h:OV w s L)(hS:L≠[]->∀j,s.own j->S j)(he:Ext F w w')(hF:∀j,S j->¬F j):OV w' s L:=by
 by_cases hL:L=[]
 ·subst hL;exact ⟨h.1,h.2.1,fun j v hj=>by simp at hj⟩
 ·exact ⟨h.1,h.2.AI he fun j hj=>hF j (hS hL j hj)⟩
theorem Yv.AI{S F:Nat->Prop}{w w':World}(he:Ext F w w')(hF:∀j,S j->¬F j):∀{d:Nat} {o:Ob} {t:Tr},Yv S w d o t->Yv S w' d o t
 |0,_,_,h=>h.elim
 |d+1,o,t,⟨h1,h2,L,h3,h4⟩=>⟨h1,⟨QG h2.1 h2.2 he hF,h2.2⟩,L,⟨oE h3.1 h3.2 he hF,h3.2⟩,h4.imp fun _ _ h=>Yv.AI he hF h⟩
theorem Yv.of{G:Nat->Prop}{w:World}:∀{d:Nat} {o:Ob} {t:Tr},V8 G w d o t->Yv (fun j=>G j/\j<w.heap.size) w d o t
 |0,_,_,h=>h.elim
 |d+1,o,t,⟨h1,h2,L,h3,h4⟩=>by
  refine ⟨h1,⟨h2.1,fun A2 j hj=>⟨h2.2 j hj,?_⟩⟩,L,⟨h3.1,fun A2 j hj=>⟨h3.2 j hj,?_⟩⟩,h4.imp fun _ _ h=>Yv.of h⟩
  ·obtain ⟨b,hb⟩:∃b,t.ks[0]?=some b:=by
    cases hk:t.ks with
    |nil=>exact absurd hk A2
    |cons x r=>exact ⟨x,rfl⟩
   obtain ⟨a,ha,hc⟩:=h2.1.2 0 b hb;obtain ⟨a',Oq,rfl⟩:=hj;rw[ha]at Oq;cases Oq;have:=BJ hc;rwa[Bl]at this
  ·obtain ⟨b,hb⟩:∃b,L[0]?=some b:=by
    cases hk:L with
    |nil=>exact absurd hk A2
    |cons x r=>exact ⟨x,rfl⟩
   obtain ⟨a,ha,hc,_⟩:=h3.1.get hb;obtain ⟨a',Oq,rfl⟩:=hj;rw[ha]at Oq;cases Oq;have:=BJ hc;rwa[Bl]at this
def Ox (S:Nat->Prop)(w:World)(o:Ob)(t:Tr):Prop:=∃d,Yv S w d o t
theorem Ox.of{G:Nat->Prop}{w:World}{o:Ob}{t:Tr}(h:NX G w o t):Ox (fun j=>G j/\j<w.heap.size) w o t:=h.imp fun _ h=>Yv.of h
theorem Ox.to{S:Nat->Prop}{w:World}{o:Ob}{t:Tr}(h:Ox S w o t):OX w o t:=h.imp fun _ h=>h.to
theorem Ox.AI{S F:Nat->Prop}{w w':World}{o:Ob}{t:Tr}(h:Ox S w o t)(he:Ext F w w')(hF:∀j,S j->¬F j):Ox S w' o t:=h.imp fun _ h=>h.AI he hF
theorem Ox.Fc{S S':Nat->Prop}{w:World}{o:Ob}{t:Tr}(h:Ox S w o t)(hS:∀j,S j->S' j):Ox S' w o t:=h.imp fun _ h=>h.Fc hS
theorem V9 {w:World}:∀{L:List Ob} {ts:List Tr},A9 (OX w) L ts->∃d,A9 (KM w d) L ts
 |[],[],_=>⟨0,trivial⟩
 |o::L,t::ts,h=>by
  obtain ⟨d1,h1⟩:=h.1;obtain ⟨d2,h2⟩:=V9 h.2;exact ⟨max d1 d2,h1.le (Nat.le_max_left _ _),h2.imp fun _ _ k=>k.le (Nat.le_max_right _ _)⟩
theorem MZ {α β:Type}{R:α->β->Prop}:∀{l:List α} {m:List β} {a:α} {b:β},A9 R l m->R a b->A9 R (l++[a]) (m++[b])
 |[],[],_,_,_,k=>⟨k,trivial⟩
 |_::_,_::_,_,_,h,k=>⟨h.1,MZ h.2 k⟩
def CG (data:ByteArray)(t:Tr):Tr:=Hg data (Aw UF (Aw Ow (Aw HM t)))
section
variable {w w' w1 w0:World} {s:AA} {o:Ob} {t:Tr}
attribute [local irreducible] Ld Sh.St Nw Lt AP Af B1 A6
theorem WA (h:OX w o t)(hk:t.k=7)(Kf:Cc 1 t=false)(data:ByteArray)(PR:Value->World->Prop):C27 o data w (fun r e w1=>(r=Ir/\e≠0)/\Ext (fun _=>False) w w1) PR:=by
 obtain ⟨⟨ME,_⟩,_,_⟩:=h.out;refine T27 o _ _ _ _ ?_;unfold S27;rw[AR];refine (Hn.start w).nw (cs:=AF o) fun w2 H=>H.nw (cs:=z6) fun w3 H=>?_
 simp only[ag,ar,add_lit,aj]at H⊢;refine H.ld 0 rfl rfl (Br.ne (fun q=>absurd (ME.trans hk) q) fun _=>H.Dx (i:=0) (ts:=AD) (pre:=[]) (post:=[]) (x:=o) rfl rfl ((GC (h.AB H.ext)).mono ?_ fun _ _ h=>h.elim));rintro e w4 ⟨he,e4⟩;have H:=H.AB e4;rcases he with ⟨AIz,_⟩|⟨_,A2⟩
 ·rw[Kf]at AIz;cases AIz
 refine Br.ne (fun _=>?_) fun h0=>absurd h0 A2
 exact BC (i:=1) (O:=Ir) H rfl fun v3 E3 e3=>⟨⟨rfl,A2⟩,E3⟩
theorem UG (key:ByteArray)(t:Tr):(Aw key t).k=t.k:=by unfold Aw;split<;>rfl
theorem wy {wb:World}(h:OX wb o t)(E:Ext (fun _=>False) wb w)(hk:t.k=7)(hs0:t.s=⟨#[]⟩)(BA:Cc 1 t=true)(data:ByteArray)(PR:Value->World->Prop):
  C11 o data w (fun r e w1=>(Cc 1 (Aw HM t)=true/\Cc 1 (CG data t)=true/\NX (fun j=>w.heap.size<=j) w1 r (CG data t)/\e=0\/r=Ir/\e≠0/\(Cc 1 (Aw Ow (Aw HM t))=false\/Cc 1 (CG data t)=false))/\Ext (fun _=>False) w w1) PR:=by
 obtain ⟨⟨ME,hn',IJ,ux⟩,SQ,AI0⟩:=h.out;have IL:=QH t BA;refine T11 o _ _ _ _ ?_;unfold S11;rw[AR];refine (Hn.start w).nw (cs:=AF o) fun w2 H=>H.nw (cs:=z6) fun w3 H=>?_
 simp only[ag,ar,add_lit,aj]at H⊢;have l2:w2.heap.size<w3.heap.size:=H.lt 1 rfl;refine CP.intro ?_;refine H.ld 0 rfl rfl (Br.ne (fun _=>H.ld 0 rfl rfl (Br.ne (fun q=>absurd (ME.trans hk) q) fun _=>?_)) fun q=>?_);rotate_left
 ·have:o.1=7:=ME.trans hk;omega
 unfold AAe;simp only[add_lit,aj];refine H.st 0 rfl (by simp[AF]) fun w4 H=>H.st 0 rfl (by simp[AF]) fun w5 H=>?_
 simp only[AF,ai,aq]at H;have ho:((7:Int),o.2.1,o.2.2.1,(⟨#[]⟩:ey),o.2.2.2.2.1,o.2.2.2.2.2)=(o.1,o.2.1,o.2.2.1,o.2.2.2.1,o.2.2.2.2.1,o.2.2.2.2.2):=by rw[ME,hk,ux,hs0]
 have l5:w2.heap.size<w5.heap.size:=H.lt 1 rfl;have l05:w.heap.size<w5.heap.size:=H.lt 0 rfl;refine H.Dx (i:=0) (ts:=AD) (pre:=[]) (post:=[]) (x:=(((7:Int),o.2.1,o.2.2.1,(⟨#[]⟩:ey),o.2.2.2.2.1,o.2.2.2.2.2):Ob)) rfl rfl ?_;rw[ho];have hX:OX w5 o t:=h.AB (E.tr H.ext);refine (GC (o:=o) hX).mono ?_ fun _ _ h=>h.elim
 rintro e w6 ⟨he,e6⟩;have H:=H.AB e6;rcases he with ⟨_,rfl⟩|⟨Kf,_⟩
 rotate_left
 ·rw[BA]at Kf;cases Kf
 refine Br.ne (fun h=>absurd rfl h) fun _=>?_
 refine H.Dx (i:=0) (ts:=AD) (pre:=[]) (post:=[]) (x:=(((7:Int),o.2.1,o.2.2.1,(⟨#[]⟩:ey),o.2.2.2.2.1,o.2.2.2.2.2):Ob)) rfl rfl ?_;rw[ho];refine (Yw (o:=o) hX e6 IL HM).mono ?_ fun _ _ h=>h.elim
 rintro vE w7 ⟨AQB,e7⟩;have H:=H.AB e7;refine (Yw (o:=vE) AQB.to (Ext.refl _ _) (wz IL HM) Ow).mono ?_ fun _ _ h=>h.elim
 rintro fw w8 ⟨xA,e8⟩;have H:=H.AB e8;have z7:=e7.size;have z8:=e8.size;have z6:=e6.size;cases hd2:Cc 1 (Aw Ow (Aw HM t))with
 |false=>
  refine (WA (o:=fw) xA.to (by rw[UG,UG];exact hk) hd2 data PR).mono ?_ fun _ _ h=>h
  rintro Yx e28 w9 ⟨⟨rfl,A2⟩,e9⟩;have H:=H.AB e9;exact BC (i:=1) (O:=Ir) H rfl fun v3 E3 e3=>⟨.inr ⟨rfl,A2,.inl rfl⟩,E3⟩
 |true=>
  have Tb:Cc 1 (Aw HM t)=true:=by
   cases hh:Cc 1 (Aw HM t)with
   |true=>rfl
   |false=>
    have:Aw Ow (Aw HM t)=Aw HM t:=by
     rw[Aw,hh];simp
    rw[this,hh]at hd2;cases hd2
  refine (oF (o:=fw) xA.to (Ext.refl _ _) (by rw[UG,UG];exact hk) hd2 data).mono ?_ fun _ _ h=>h.elim
  rintro Yx e28 w9 ⟨hr,e9⟩;have H:=H.AB e9;refine BC (i:=1) H rfl fun v3 E3 e3=>⟨?_,E3⟩
  rcases hr with ⟨KN,hx,rfl⟩|⟨Yy,rfl,A2⟩
  ·exact .inl ⟨Tb,KN,(hx.AI e3 fun j hj e=>by have hj:w8.heap.size<=j:=hj;have e:j=w2.heap.size:=e;omega).Fc fun j hj=>by have hj:w8.heap.size<=j:=hj;omega,rfl⟩
  ·exact .inr ⟨rfl,A2,.inr Yy⟩
end
end Fi
namespace Fi
open Sh Vl
abbrev us:P3:=(1,1,1)
def BY (p:P3):List Value:=[.int .i64 p.1,.int .i64 p.2.1,.int .i64 p.2.2]
theorem Gr (p:P3):(BY p).length=3:=rfl
theorem oG:El prog 32 27 3 24 (.agg (BY (0,0,0)).toArray):=⟨by kernel_rfl,by kernel_rfl,by kernel_rfl,by kernel_rfl,rfl⟩
def strs (L:List ByteArray):List Value:=L.map Value.string
theorem K5 (L:List ByteArray):(strs L).length=L.length:=by simp[strs]
theorem QI (L M:List ByteArray):strs (L++M)=strs L++strs M:=by simp[strs]
theorem UH {w:World}{s:AA}{L:List ByteArray}(h:Bh w s 1 (strs L))(hl:L.length<=1000000):KV w s L:=by
 refine ⟨⟨by have:=h.1;rw[K5]at this;omega,by omega⟩,fun i b hi=>h.2 i _ (by simp[strs,hi])⟩
def PV (w:World)(s:AA)(L:List P3):Prop:=s.len=L.length/\Bh w s 3 (L.flatMap BY)
theorem PV.AB{w w':World}{s:AA}{L:List P3}(h:PV w s L)(he:Ext (fun _=>False) w w'):PV w' s L:=⟨h.1,h.2.AB he⟩
theorem PV.AI{F:Nat->Prop}{w w':World}{s:AA}{L:List P3}(h:PV w s L)(he:Ext F w w')(hF:∀j,s.own j->¬F j):PV w' s L:=⟨h.1,h.2.AI he hF⟩
theorem PV.get{w:World}{s:AA}{L:List P3}(h:PV w s L){i:Nat}{p:P3}(hi:L[i]?=some p):∃a,s.p=some a/\w.cell? (a.add (i*3))=some (.int .i64 p.1)/\w.cell? (a.add (i*3+1))=some (.int .i64 p.2.1)/\w.cell? (a.add (i*3+2))=some (.int .i64 p.2.2):=by
 obtain ⟨a,ha,hc⟩:=h.2.elem Gr hi (by decide);exact ⟨a,ha,hc 0 _ rfl,hc 1 _ rfl,hc 2 _ rfl⟩
theorem QJ {w:World}{s:AA}{L:List P3}(h:Bh w s 3 (L.flatMap BY)):PV w s L:=⟨h.count Gr (by decide),h⟩
theorem Iu (p:P3):∀v∈BY p,v.oneCell'=true:=by
 intro v hv;simp only[BY,aN,bQ,dZ]at hv;rcases hv with rfl|rfl|rfl<;>rfl
theorem jf (L:List P3):∀v∈L.flatMap BY,v.oneCell'=true:=by
 intro v hv;obtain ⟨p,_,hp⟩:=List.mem_flatMap.1 hv;exact Iu p v hp
def IM (P2:List P3)(n:Nat):List P3:=if P2=[]then List.replicate n us else P2
def eqU (p:P3):Bool:=(p.1==1)&&((p.2.1==1)&&((p.2.2==1)&&true))
theorem fx (p:P3):eqU p=true↔p=us:=by
 obtain ⟨a,b,c⟩:=p;simp[eqU,us]
def ADG (NL:List ByteArray)(P2:List P3):Prop:=NL.length>8\/(∃n∈NL,(DN n).2=false)\/P2≠[]
def AI3 (NL:List ByteArray)(P2:List P3)(w:World)(r1 r2:AA)(w1:World):Prop:=
 ∃FL,NL.length<=8/\A9 (fun n f=>DN n=(f,true)) NL FL/\(P2=[]\/P2.length=NL.length)/\(∀(i:Nat) (n:ByteArray) (p:P3),FL[i]?=some n->(IM P2 NL.length)[i]?=some p->n≠Hf->p=us)/\
  KV w1 r1 FL/\PV w1 r2 (IM P2 NL.length)/\(∀j,r1.own j->w.heap.size<=j)/\∀j,r2.own j->w.heap.size<=j
section
variable {w w' w1 w0:World} {s1 s2:AA} {NL:List ByteArray} {P2:List P3}
attribute [local irreducible] Ld Sh.St Nw Lt AP Af B1 A6
theorem WB {sl:AA}{FL:List ByteArray}{n0:Int}{v:World}(hs:Row v sl 9 1 (strs FL))(Ga:sl.len=FL.length)(hso:∀j,sl.own j->w.heap.size<=j)(hE:Ext (fun _=>False) w v)(hp:PV w s2 P2)(hN:NL.length<=8)(hF:A9 (fun n f=>DN n=(f,true)) NL FL)(hlen:P2=[]\/P2.length=NL.length):
  ADH s2 (sl,n0) (fun r1 r2 e w1=>(e=0/\AI3 NL P2 w r1 r2 w1\/e≠0/\ADG NL P2)/\Ext (fun _=>False) w w1) () v:=by
 unfold ADH;have fO:=hF.len;have OH:=hp.1;refine Nw.of ?_;have eA:Ext (fun _=>False) v (v.alloc (.cells #[] 27)):=(Ext.refl _ _).alloc _;have R0:Row (v.alloc (.cells #[] 27)) ⟨some ⟨v.heap.size,0,none⟩,0,0⟩ 27 3 []:=Row.new v #[] 27 3 0 rfl;have hsA:=hs.AB eA fun _ _ h=>h
 have zA:v.heap.size<(v.alloc (.cells #[] 27)).heap.size:=by simp
 generalize v.alloc (.cells #[] 27)=v1 at eA R0 hsA zA;have YF:=hp.AB (hE.tr eA);obtain ⟨al,v2,hr,hR,hRl,hX,hO⟩:=oG.app (ty:=32) R0 YF.2 (jf P2) (by
  show (0+s2.len)*24<=_;rcases hlen with h|h
  ·rw[h]at OH;simp at OH;omega
  ·omega) (by
  show 0+s2.len<=_;rcases hlen with h|h
  ·rw[h]at OH;simp at OH;omega
  ·omega)
 refine ⟨al,v2,hr,?_⟩;rw[ag]at hR;have hOv:∀j,al.own j->v.heap.size<=j:=fun j hj=>(hO j hj).elim (fun ⟨a,ha,hb⟩=>by cases ha;rw[<-hb];exact av _) fun h=>by omega
 have hX2:Ext (fun _=>False) v v2:=Ac.Ext.IG eA hX fun j ⟨a,ha,hb⟩=>by cases ha;rw[<-hb];exact av _
 have hs2:=hs.AB hX2 fun _ _ h=>h
 refine ⟨fun n st u=>∃(i:Nat) (al:AA),st=(al,(i:Int))/\n=FL.length-i/\i<=FL.length/\Row u al 27 3 ((if P2=[]then List.replicate i us else P2).flatMap BY)/\(∀j,al.own j->v.heap.size<=j)/\Ext (fun _=>False) v u/\
  (∀(k:Nat) (n:ByteArray) (p:P3),k<i->FL[k]?=some n->(IM P2 NL.length)[k]?=some p->n≠Hf->p=us),FL.length,⟨0,al,rfl,rfl,by omega,?_,hOv,hX2,fun k n p hk=>by omega⟩,?_⟩
 ·by_cases h:P2=[]
  ·rw[ak h];rw[h]at hR;exact hR
  ·rw[ah h];exact hR
 rintro n st u ⟨i,al,rfl,rfl,hi,hR,hO,hX,hC⟩;unfold AI5;have hsu:=hs.AB hX fun _ _ h=>h
 have hkv:=UH hsu.view (by omega);refine Br.dec (fun q=>?_) fun q=>?_
 ·have q:(i:Int)<((sl.len:Nat):Int):=q;have hq:=ad (show i<FL.length by omega);generalize FL[i]=fn at hq;obtain ⟨a,ha,hc⟩:=hkv.2 i fn hq;dsimp only;rw[aa,aH];refine ⟨by omega,q,a,ha,Ld.mk (x:=fn) hc ?_⟩;have i1:wrap .i64 ((i:Int)+1)=((i+1:Nat):Int):=by rw[AE (by omega)];rfl
 
  have cmp:∀(bl:AA) (u1:World) (L:List P3) (p:P3),PV u1 bl L->L[i]?=some p->∀(KE:World->Prop) (KI:World->Prop),(p≠us->∀w',Ext (fun _=>False) u1 w'->KE w')->(∀w',(fn≠Hf->p=us)->Ext (fun _=>False) u1 w'->KI w')->
    ∃QK:World->Prop,QK u1.drew/\Br (!(fn.toList==(⟨#[70,108,97,116,101,68,101,99,111,100,101]⟩:ey).toList)) (0<=(i:Int)/\(i:Int)<(bl.len:Nat)/\Nn bl.p fun vF=>
     AP QK (vF.add (i*3)) (Value.int .i64) fun (x78:Int)=>
     AP QK ((vF.add (i*3)).add 1) (Value.int .i64) fun (x79:Int)=>
     AP QK ((vF.add (i*3)).add 2) (Value.int .i64) fun (x80:Int)=>
     wk u1.drew fun Ma ADK=>
      QK ADK/\Br (!((x78==Ma.1)&&((x79==Ma.2.1)&&((x80==Ma.2.2)&&true)))) (KE ADK) (KI ADK)) (KI u1.drew):=fun bl u1 L p hL hp KE KI kE kI=>by
   have eD:Ext (fun _=>False) u1 u1.drew:=(Ext.refl _ u1).drew;refine ⟨fun w'=>Ext (fun _=>False) u1 w',eD,?_⟩;rw[wj];by_cases hf:fn=Hf
   ·rw[aD (show fn=(⟨#[70,108,97,116,101,68,101,99,111,100,101]⟩:ey)from hf)];exact Vl.Br.f rfl (kI _ (fun h=>absurd hf h) eD)
   ·rw[aP (show ¬fn=(⟨#[70,108,97,116,101,68,101,99,111,100,101]⟩:ey)from hf)];obtain ⟨a',Oq,c0,c1,c2⟩:=hL.get hp;have FP:=(ao.1 hp).1;have hbl:=hL.1;refine Vl.Br.t rfl ⟨by omega,by omega,a',Oq,?_⟩;simp only[BN];refine Di c0 (Di c1 (Di c2 ((Kz _).mono ?_)));rintro r w3 ⟨rfl,e3⟩;refine ⟨eD.tr e3,?_⟩;cases hh:eqU p with
    |true=>
     have hh':=hh;unfold eqU at hh';rw[hh'];exact Vl.Br.f rfl (kI _ (fun _=>(fx p).1 hh) (eD.tr e3))
    |false=>
     have hh':=hh;unfold eqU at hh';rw[hh'];exact Vl.Br.t rfl (kE (fun e=>by rw[(fx p).2 e]at hh;cases hh) _ (eD.tr e3))
  refine Br.eq (fun hz=>?_) fun hz=>?_
  ·have YG:P2=[]:=aw (by omega);rw[ak YG]at hR;refine (Kz u).mono ?_;rintro r u1 ⟨rfl,e1⟩;have R1:=hR.AB e1 fun _ _ h=>h
   have hal:al.len=i:=by
    have:=R1.view.count Gr (by decide);rw[aI]at this;exact this
   refine Nw.of ?_;have eB:Ext (fun _=>False) u1 (u1.alloc (.cells (BY us).toArray 27)):=(Ext.refl _ _).alloc _;have hB:=AO.new u1 (BY us).toArray 27;obtain ⟨al',u3,r1,r2,r3,e3,r5⟩:=oG.Ip (ty:=32) (R1.AB eB fun _ _ h=>h) hB rfl (Iu us) (by omega) (by omega);refine ⟨al',u3,r1,?_⟩;have hX1:=(hX.tr e1).tr eB;have hX3:Ext (fun _=>False) v u3:=Ac.Ext.IG hX1 e3 fun j hj=>hO j hj
   have hO3:∀j,al'.own j->v.heap.size<=j:=fun j hj=>(r5 j hj).elim (hO j) fun h=>by have:=hX1.size;omega
   have AV:(List.replicate i us).flatMap BY++BY us=(List.replicate (i+1) us).flatMap BY:=by rw[List.replicate_succ',bJ];simp
   rw[AV]at r2;refine cmp al' u3 (List.replicate (i+1) us) us (QJ r2.view) (by rw[cB,ak (by omega)]) _ _ (fun h=>absurd rfl h) fun w' hc he=>?_
   rw[i1];refine ⟨FL.length-(i+1),by omega,i+1,al',rfl,rfl,by omega,by rw[ak YG];exact r2.AB he fun _ _ h=>h,hO3,hX3.tr he,fun k n p hk hn hp A2=>?_⟩;unfold IM at hp;rw[ak YG,cB]at hp;split at hp
   ·exact (aY hp).symm
   ·cases hp
  ·have YG:P2≠[]:=fun h=>by rw[h]at OH;simp at OH;omega
   have jJ:P2.length=NL.length:=hlen.resolve_left YG;rw[ah YG]at hR;have jg:=ad (show i<P2.length by omega);generalize P2[i]=pi at jg;refine cmp al u P2 pi (QJ hR.view) jg _ _ (fun _ w' he=>⟨.inr ⟨by decide,.inr (.inr YG)⟩,(hE.tr hX).tr he⟩) fun w' hcm he=>?_
   rw[i1];refine ⟨FL.length-(i+1),by omega,i+1,al,rfl,rfl,by omega,by rw[ah YG];exact hR.AB he fun _ _ h=>h,hO,hX.tr he,fun k n p hk hn hp A2=>?_⟩;rcases bX k i with J0|J0
   ·exact hC k n p J0 hn hp A2
   ·have J0:k=i:=by omega
    subst J0;unfold IM at hp;rw[ah YG,jg]at hp;rw[hq]at hn;rw[<-aY hp];exact hcm (by rw[aY hn];exact A2)
 ·have SE:i=FL.length:=by
   have q:¬(i:Int)<((sl.len:Nat):Int):=q;omega
  subst SE;have hz:=hE.size;refine ⟨.inl ⟨rfl,FL,hN,hF,hlen,fun k n p hn hp A2=>hC k n p (ao.1 hn).1 hn hp A2,hkv,?_,hso,fun j hj=>by have:=hO j hj;omega⟩,hE.tr hX⟩;unfold IM;rw[<-fO]at hR;exact QJ hR.view
theorem WC (hn:KV w s1 NL)(hp:PV w s2 P2):C9 s1 s2 w fun r1 r2 e w1=>(e=0/\AI3 NL P2 w r1 r2 w1\/e≠0/\ADG NL P2)/\Ext (fun _=>False) w w1:=by
 refine T9 _ _ _ _ ?_;unfold S9;have vG:=hn.1.1;have OH:=hp.1;refine Br.dec (fun q=>⟨.inr ⟨by decide,.inl (by omega)⟩,Ext.refl _ _⟩) fun q=>?_
 have hN:NL.length<=8:=by omega
 refine ⟨fun n st v=>∃(i:Nat) (sl:AA) (FL:List ByteArray),st=(sl,(i:Int))/\n=NL.length-i/\i<=NL.length/\A9 (fun n f=>DN n=(f,true)) (NL.take i) FL/\Row v sl 9 1 (strs FL)/\(∀j,sl.own j->w.heap.size<=j)/\Ext (fun _=>False) w v,NL.length,
  ⟨0,⟨none,0,0⟩,[],rfl,rfl,by omega,trivial,Row.nil _ _ _,fun j hj=>absurd hj (Cq j),Ext.refl _ _⟩,?_⟩
 rintro n st v ⟨i,sl,FL,rfl,rfl,hi,hF,hR,hO,hE⟩;unfold AI8;have fO:=hF.len;rw[au,bo hi]at fO;have Ga:sl.len=FL.length:=by have:=hR.view.1;rw[K5]at this;omega
 refine Br.dec (fun q=>?_) fun q=>?_
 ·have q:(i:Int)<((s1.len:Nat):Int):=q;have hq:=ad (show i<NL.length by omega);generalize NL[i]=nm at hq;obtain ⟨a,ha,hc⟩:=(hn.AB hE).2 i nm hq;dsimp only;rw[aa,aH];refine ⟨by omega,q,a,ha,Ld.mk (x:=nm) hc ((Yr nm v).mono ?_)⟩;rintro r ok v1 ⟨hf,rfl⟩;cases ok with
  |false=>exact Vl.Br.t rfl ⟨.inr ⟨by decide,.inr (.inl ⟨nm,aB hq,by rw[<-hf]⟩)⟩,hE⟩
  |true=>
   refine Vl.Br.f rfl (Nw.of ?_);have eB:Ext (fun _=>False) v1 (v1.alloc (.cells #[Value.string r] 9)):=(Ext.refl _ _).alloc _;have hB:=AO.new v1 [Value.string r].toArray 9;obtain ⟨Bi,u3,r1,r2,r3,e3,r5⟩:=Gt.Ip (ty:=22) (hR.AB eB fun _ _ h=>h) hB rfl (fun v hv=>by rw[az.1 hv];rfl) (by omega) (by omega);refine ⟨Bi,u3,r1,NL.length-(i+1),by omega,i+1,Bi,FL++[r],by rw[AE (by omega)];rfl,rfl,by omega,?_,by rw[QI];exact r2,fun j hj=>(r5 j hj).elim (hO j) fun h=>by have:=(hE.tr eB).size;omega,Ac.Ext.IG (hE.tr eB) e3 fun j hj=>hO j hj⟩;rw[aO,hq];exact MZ hF hf.symm
 ·have SE:i=NL.length:=by
   have q:¬(i:Int)<((s1.len:Nat):Int):=q;omega
  subst SE;rw[bj]at hF;refine CP.intro ?_;refine Br.ne (fun hz=>Br.ne (fun _=>⟨.inr ⟨by decide,.inr (.inr fun h=>hz (by rw[OH,h];rfl))⟩,hE⟩) fun he=>?_) fun hz=>?_
  ·exact WB hR Ga hO hE hp hN hF (.inr (by omega))
  ·exact WB hR Ga hO hE hp hN hF (.inl (aw (by omega)))
end
end Fi
namespace Fi
open Sh
open Ac (bl ba CS Gg AQ By PW F5 Rk J9)
open IK (GB MX QB)
open A8 (Laid F9)
def Rq (w:World)(F U:Nat)(v:Value×Value):Prop:=∃(a b:Nat) (ta tb:TypeId),v=(.func (.func 70) #[] #[.pointer (some ⟨a,0,none⟩)],.func (.func 72) #[] #[.pointer (some ⟨b,0,none⟩)])/\
 AO w a #[.func (.func F) #[] #[]] ta/\AO w b #[.func (.func U) #[] #[]] tb
def jc (p:P3):Value:= .agg #[.int .i64 p.1,.int .i64 p.2.1,.int .i64 p.2.2]
def QC (w:World)(n:ByteArray)(p:P3)(v:Value×Value):Prop:=
 (n=VI/\Rq w 48 50 v)\/(n=Yp/\Rq w 51 52 v)\/(n=Yq/\Rq w 53 54 v)\/
 (n=Hf/\v=(.func (.func 55) #[jc p] #[],.func (.func 56) #[jc p] #[]))
theorem Rq.AB{w w':World}{F U:Nat}{v:Value×Value}(h:Rq w F U v)(he:Ext (fun _=>False) w w'):Rq w' F U v:=by
 obtain ⟨a,b,ta,tb,h1,h2,h3⟩:=h;exact ⟨a,b,ta,tb,h1,he.AS h2 id,he.AS h3 id⟩
theorem QC.AB{w w':World}{n:ByteArray}{p:P3}{v:Value×Value}(h:QC w n p v)(he:Ext (fun _=>False) w w'):QC w' n p v:=
 h.elim (fun h=> .inl ⟨h.1,h.2.AB he⟩) fun h=> .inr (h.elim (fun h=> .inl ⟨h.1,h.2.AB he⟩) fun h=> .inr (h.elim (fun h=> .inl ⟨h.1,h.2.AB he⟩) .inr))
section
variable {w w' w1:World} {s t name data:ByteArray} {n:ByteArray} {p:P3} {d:By}
attribute [local irreducible] Ld Sh.St Nw Nn Lt AP
theorem Tw {F U:Nat}{w0:World}{v3 v4:Nat}{w5:World}{R:Value×Value->Int->World->Prop}(H:Hn w0 w5 [(v3,[.int .i64 p.1,.int .i64 p.2.1,.int .i64 p.2.2],27),(v4,[Value.nilFunc,Value.nilFunc],58)])
  (hR:∀v w',Rq w' F U v->Ext (fun _=>False) w0 w'->R v 0 w'):
  C47 (.func (.func F) #[] #[]) w5 fun r54 APz=>
   C49 (.func (.func U) #[] #[]) APz fun r56 AP1=>
    Tx r54 fun (f58:Fn) (a59:Array Value) (c60:Array Value)=>
    Tx r56 fun (f61:Fn) (a62:Array Value) (c63:Array Value)=>
    Br (GR (.func f58 a59 c60)) (Sh.St AP1 (⟨v4,0,none⟩:Addr) (.func f58 a59 c60) fun AC7=>
     Br (GR (.func f61 a62 c63)) (Sh.St AC7 ((⟨v4,0,none⟩:Addr).add 1) (.func f61 a62 c63) fun nq=>
      Ld nq (⟨v4,0,none⟩:Addr) (fun x:Value=>x) fun (V5:Value)=>
      Ld nq ((⟨v4,0,none⟩:Addr).add 1) (fun x:Value=>x) fun (Ys:Value)=>
      R (V5,Ys) 0 nq) False) False:=by
 refine T47 _ _ _ ?_;unfold S47;refine H.nw (cs:=[.func (.func F) #[] #[]]) fun w6 H6=>?_
 refine T49 _ _ _ ?_;unfold S49;refine H6.nw (cs:=[.func (.func U) #[] #[]]) fun w7 H7=>?_
 simp only[ar,ag,add_lit,aj]at H7⊢;refine ⟨_,_,_,rfl,_,_,_,rfl,Br.t rfl (H7.st 1 rfl (by simp) fun w8 H8=>Br.t rfl ?_)⟩;simp only[ai,aq]at H8;refine H8.st 1 rfl (by simp) fun w9 H9=>?_
 simp only[ai,aq]at H9;refine H9.ld (x:= .func (.func 70) #[] #[.pointer (some ⟨w5.heap.size,0,none⟩)]) 1 rfl rfl (H9.ld (x:= .func (.func 72) #[] #[.pointer (some ⟨w6.heap.size,0,none⟩)]) 1 rfl rfl ?_);exact hR _ _ ⟨w5.heap.size,w6.heap.size,_,_,rfl,H9.get 2 rfl,H9.get 3 rfl⟩ H9.ext
theorem wq (hn:Full n)(w:World)(PR:Value->World->Prop):C25 n p w (fun v e w1=>QC w1 n p v/\(e=if n=Hf then (if GB p=true then 0 else 1)else 0)/\Ext (fun _=>False) w w1) PR:=by
 refine T25 n p _ _ _ ?_;unfold S25;refine (Hn.start w).nw (cs:=[.int .i64 p.1,.int .i64 p.2.1,.int .i64 p.2.2]) fun w3 H=>?_
 refine H.nw (cs:=[Value.nilFunc,Value.nilFunc]) fun w4 H=>?_
 simp only[ar,ag]at H;refine (Yr n w4).mono ?_;rintro r ok w5 ⟨he,rfl⟩;rw[SO hn]at he;obtain ⟨rfl,rfl⟩:=Prod.mk.inj he;refine Br.f rfl (Lt.of ?_);simp only[wj];have d1:decide (Yp=VI)=false:=by decide+kernel
 have d2:decide (Yq=VI)=false:=by decide+kernel
 have d3:decide (Hf=VI)=false:=by decide+kernel
 have d4:decide (Yq=Yp)=false:=by decide+kernel
 have d5:decide (Hf=Yp)=false:=by decide+kernel
 have d6:decide (Hf=Yq)=false:=by decide+kernel
 rcases hn with rfl|rfl|rfl|rfl
 ·refine Br.t (aD rfl) (Tw (R:=fun v e w1=>QC w1 VI p v/\(e=if VI=Hf then (if GB p=true then 0 else 1)else 0)/\Ext (fun _=>False) w w1) H fun v w' hv he=>⟨.inl ⟨rfl,hv⟩,?_,he⟩);rw[ah (by decide+kernel)]
 ·refine Br.f d1 (Lt.of (Br.t (aD rfl) (Tw (R:=fun v e w1=>QC w1 Yp p v/\(e=if Yp=Hf then (if GB p=true then 0 else 1)else 0)/\Ext (fun _=>False) w w1) H fun v w' hv he=>⟨.inr (.inl ⟨rfl,hv⟩),?_,he⟩)));rw[ah (by decide+kernel)]
 ·refine Br.f d2 (Lt.of (Br.f d4 (Lt.of (Br.t (aD rfl) (Tw (R:=fun v e w1=>QC w1 Yq p v/\(e=if Yq=Hf then (if GB p=true then 0 else 1)else 0)/\Ext (fun _=>False) w w1) H fun v w' hv he=>⟨.inr (.inr (.inl ⟨rfl,hv⟩)),?_,he⟩)))));rw[ah (by decide+kernel)]
 ·refine Br.f d3 (Lt.of (Br.f d5 (Lt.of (Br.f d6 ?_))));simp only[add_lit,aj]
  iterate 3 refine H.ld 0 rfl rfl ?_
  refine H.nw (cs:=[.int .i64 0,.int .i64 0,.int .i64 0]) fun w6 H=>?_
  simp only[ar,ag]at H
  iterate 3 (refine H.st 2 rfl (by simp) fun _ H=>?_;simp only[ai,aq]at H)
  rename_i w7;have b0:=H.get 0 rfl;have b2:=H.get 2 rfl;have e0:Ext (fun _=>False) w7 w7.drew:=(Ext.refl _ w7).drew;refine ⟨fun v'=>Ext (fun _=>False) w7 v',e0,?_⟩
  iterate 3 refine AP.of (fun v' he=>he.AS b2 id) rfl ?_
  iterate 3 refine AP.of (fun v' he=>he.AS b2 id) rfl ?_
  iterate 3 refine AP.of (fun v' he=>he.AS b0 id) rfl ?_
  have leaf:∀v',Ext (fun _=>False) w7 v'->Sh.St v' (⟨w3.heap.size,0,none⟩:Addr) (.func (.func 55) #[.agg #[.int .i64 p.1,.int .i64 p.2.1,.int .i64 p.2.2]] #[]) fun AIt=>
    Sh.St AIt (⟨w3.heap.size,1,none⟩:Addr) (.func (.func 56) #[.agg #[.int .i64 p.1,.int .i64 p.2.1,.int .i64 p.2.2]] #[]) fun fm=>
    Ld fm (⟨w3.heap.size,0,none⟩:Addr) (fun x:Value=>x) fun (jd:Value)=>
    Ld fm (⟨w3.heap.size,1,none⟩:Addr) (fun x:Value=>x) fun (AC8:Value)=>
    QC fm Hf p (jd,AC8)/\((if GB p=true then (0:Int)else 1)=if Hf=Hf then (if GB p=true then 0 else 1)else 0)/\Ext (fun _=>False) w fm:=fun v' he=>by
   have H2:=H.AB he;refine H2.st 1 rfl (by simp) fun w8 H8=>?_
   simp only[ai,aq]at H8;refine H8.st 1 rfl (by simp) fun w9 H9=>?_
   simp only[ai,aq]at H9;refine H9.ld (x:= .func (.func 55) #[jc p] #[]) 1 rfl rfl (H9.ld (x:= .func (.func 56) #[jc p] #[]) 1 rfl rfl ?_);exact ⟨.inr (.inr (.inr ⟨rfl,rfl⟩)),by rw[ak rfl],H9.ext⟩
  repeat' with_reducible refine And.intro ?_ ?_
  all_goals first
   |exact e0
   |(
    refine (IK.Ov (p.1,p.2.1,p.2.2) _).mono ?_;rintro r v' ⟨rfl,he⟩;have KB:=e0.tr he
    repeat' with_reducible refine And.intro ?_ ?_
    all_goals first
     |exact KB
     |exact leaf v' KB)
theorem QD {v:Value×Value}{F U:Nat}(h:Rq w F U v):GR v.1=true/\GR v.2=true:=by
 obtain ⟨a,b,ta,tb,rfl,_⟩:=h;exact ⟨rfl,rfl⟩
theorem V6 {v:Value×Value}(h:QC w n p v):GR v.1=true/\GR v.2=true:=by
 rcases h with ⟨_,h⟩|⟨_,h⟩|⟨_,h⟩|⟨_,rfl⟩
 ·exact QD h
 ·exact QD h
 ·exact QD h
 ·exact ⟨rfl,rfl⟩
theorem AC9 {v:Value×Value}{R:ByteArray×Int->World->Prop}{PR:Value->World->Prop}(h:QC w n p v)(hp:n=Hf->GB p=true)(hs:data.size<=20000)(hT:TB w)
  (hR:∀r e w1,(e=0->ON n p (bl data) (bl r)/\r.size<=2*data.size+11)->(n≠Hf->e=0)->Ext (fun _=>False) w w1->R (r,e) w1):Dy prog FF [(.one .str),(.one (.int .i64))] v.1 #[.string data] w R PR:=by
 have hz:=AQ data;have asc:∀{F U:Nat},Rq w F U v->(FF F&&(prog.funcs[F]?).isSome)=true->(∀w',Ext (fun _=>False) w w'->Calls prog F #[.string data] w' fun e B7=>∃r0,e= .returned (.string r0)/\(ON n p (bl data) (bl r0)/\r0.size<=2*data.size+11/\Ext (fun _=>False) w' B7))->Dy prog FF [(.one .str),(.one (.int .i64))] v.1 #[.string data] w R PR:=by
  rintro F U ⟨a,b,ta,tb,rfl,h1,h2⟩ hg hc;refine Dy.of rfl (by kernel_rfl) (all:=#[.string data,.pointer (some ⟨a,0,none⟩)]) (by simp) ?_;refine Calls.mono (wm (R:=fun r0 B7=>ON n p (bl data) (bl r0)/\r0.size<=2*data.size+11/\Ext (fun _=>False) w B7) h1 hg (hc w (Ext.refl _ _))) ?_;rintro e w' ⟨r0,r1,rfl,rfl,h3,h4,h5⟩;exact ⟨(r0,(0:Int)),rfl,hR r0 0 w' (fun _=>⟨h3,h4⟩) (fun _=>rfl) h5⟩
 rcases h with ⟨rfl,h⟩|⟨rfl,h⟩|⟨rfl,h⟩|⟨rfl,rfl⟩
 ·refine asc h (by kernel_rfl) fun w' he=>Calls.mono (Ac.AHT (s:=data) (by omega) w') ?_
  rintro e B7 ⟨r0,rfl,h1,h2⟩;refine ⟨r0,rfl,.inl ⟨rfl,h1⟩,?_,h2⟩;rw[AQ,h1,ae,Ac.HO,<-hz];show 2*data.size+1<=_;omega
 ·refine asc h (by kernel_rfl) fun w' he=>Calls.mono (Ac.ACR (s:=data) (by omega) w' (hT.AB he).pw (hT.AB he).lt) ?_
  rintro e B7 ⟨r0,rfl,h1,h2,h3⟩;exact ⟨r0,rfl,.inr (.inl ⟨rfl,h1⟩),by omega,h3⟩
 ·refine asc h (by kernel_rfl) fun w' he=>Calls.mono (Ac.AHX (s:=data) (by omega) w') ?_
  rintro e B7 ⟨r0,rfl,h1,h2,h3⟩;exact ⟨r0,rfl,.inr (.inr (.inl ⟨rfl,h1⟩)),by omega,h3⟩
 ·refine Dy.of rfl (by kernel_rfl) (all:=#[jc p,.string data]) (by simp) ?_;refine Calls.mono (AC4 (s:=data) (p:=p) hs (hp rfl) w) ?_;rintro e w' (⟨r0,r1,rfl,h1,h2⟩|⟨_,_,h⟩)
  ·exact ⟨(r0,r1),rfl,hR r0 r1 w' h1 (fun h=>absurd rfl h) h2⟩
  ·exact h.elim
theorem wu {v:Value×Value}{R:ByteArray×Int->World->Prop}{PR:Value->World->Prop}(h:QC w n p v)(hE:ON n p d (bl t))(hs:t.size<=1000000)(hd:d.length<=20000)(hT:TB w)
  (hR:∀w1,Ext (fun _=>False) w w1->R (ba d,0) w1):Dy prog FF [(.one .str),(.one (.int .i64))] v.2 #[.string t] w R PR:=by
 have asc:∀{F U:Nat},Rq w F U v->(FF U&&(prog.funcs[U]?).isSome)=true->(∀w',Ext (fun _=>False) w w'->Calls prog U #[.string t,.int .i64 1048576] w' fun e B7=>∃r0 r1,e= .returned (.tuple #[.string r0,.int .i64 r1])/\(r0=ba d/\r1=0/\Ext (fun _=>False) w' B7))->Dy prog FF [(.one .str),(.one (.int .i64))] v.2 #[.string t] w R PR:=by
  rintro F U ⟨a,b,ta,tb,rfl,h1,h2⟩ hg hc;refine Dy.of rfl (by kernel_rfl) (all:=#[.string t,.pointer (some ⟨b,0,none⟩)]) (by simp) ?_;refine Calls.mono (wo (R:=fun r0 r1 B7=>r0=ba d/\r1=0/\Ext (fun _=>False) w B7) h2 hg (hc w (Ext.refl _ _))) ?_;rintro e w' ⟨r0,r1,rfl,rfl,rfl,h5⟩;exact ⟨(ba d,(0:Int)),rfl,hR w' h5⟩
 have two:∀{a b c:ByteArray},True:=fun {_ _ _}=>trivial
 have n1:VI≠Yp:=by decide+kernel
 have n2:VI≠Yq:=by decide+kernel
 have n3:VI≠Hf:=by decide+kernel
 have n4:Yp≠Yq:=by decide+kernel
 have n5:Yp≠Hf:=by decide+kernel
 have n6:Yq≠Hf:=by decide+kernel
 rcases h with ⟨rfl,h⟩|⟨rfl,h⟩|⟨rfl,h⟩|⟨rfl,rfl⟩
 ·rcases hE with ⟨_,hE⟩|⟨q,_⟩|⟨q,_⟩|⟨q,_⟩
  ·exact asc h (by kernel_rfl) fun w' he=>Calls.mono (Ac.ve (most:=1048576) hE (by omega) (by omega) w') fun e B7 h=>h
  ·exact absurd q n1
  ·exact absurd q n2
  ·exact absurd q n3
 ·rcases hE with ⟨q,_⟩|⟨_,hE⟩|⟨q,_⟩|⟨q,_⟩
  ·exact absurd q.symm n1
  ·exact asc h (by kernel_rfl) fun w' he=>Calls.mono (Ac.mc (most:=1048576) hE (by omega) (by omega) hs w' (hT.AB he).pw (hT.AB he).lt) fun e B7 h=>h
  ·exact absurd q n4
  ·exact absurd q n5
 ·rcases hE with ⟨q,_⟩|⟨q,_⟩|⟨_,hE⟩|⟨q,_⟩
  ·exact absurd q.symm n2
  ·exact absurd q.symm n4
  ·exact asc h (by kernel_rfl) fun w' he=>Calls.mono (Ac.vh (most:=1048576) hE (by omega) (by omega) hs w') fun e B7 h=>h
  ·exact absurd q n6
 ·rcases hE with ⟨q,_⟩|⟨q,_⟩|⟨q,_⟩|⟨_,hp,x,T,hE,hg,ht⟩
  ·exact absurd q.symm n3
  ·exact absurd q.symm n5
  ·exact absurd q.symm n6
  ·refine Dy.of rfl (by kernel_rfl) (all:=#[jc p,.string t]) (by simp) ?_;refine Calls.mono (nk (p:=p) hE hg ht hs hd hT) ?_;rintro e w' ⟨r0,r1,rfl,rfl,rfl,h2⟩;exact ⟨(ba d,(0:Int)),rfl,hR w' h2⟩
theorem ON.ok(h:ON Hf p d (bl t)):GB p=true:=by
 rcases h with ⟨q,_⟩|⟨q,_⟩|⟨q,_⟩|⟨_,hp,_⟩
 ·exact absurd q (by decide+kernel)
 ·exact absurd q (by decide+kernel)
 ·exact absurd q (by decide+kernel)
 ·exact hp
theorem AIu (hn:Full n)(hs:data.size<=20000)(hT:TB w)(PR:Value->World->Prop):C10 n p data w (fun r e w1=>(e=0->ON n p (bl data) (bl r)/\r.size<=2*data.size+11)/\(n≠Hf->e=0)/\Ext (fun _=>False) w w1) PR:=by
 refine T10 n p _ _ _ _ ?_;unfold S10;refine (Hn.start w).nw (cs:=[.int .i64 p.1,.int .i64 p.2.1,.int .i64 p.2.2]) fun w2 H=>?_
 simp only[ag,add_lit,aj]at H⊢
 iterate 3 refine H.ld 0 rfl rfl ?_
 refine (wq (p:=(p.1,p.2.1,p.2.2)) hn w2 PR).mono ?_ (fun _ _ h=>h);rintro v e w3 ⟨hv,he,e3⟩;have hE:=H.ext.tr e3;obtain ⟨o1,o2⟩:=V6 hv;refine (Hn.start w3).nw (cs:=[Value.nilFunc,Value.nilFunc]) fun w4 H4=>Br.t o1 (H4.st 0 rfl (by simp) fun w5 H5=>Br.t o2 ?_)
 simp only[ag,ai,aq]at H5;refine H5.st 0 rfl (by simp) fun w6 H6=>?_
 simp only[ai,aq]at H6;refine Br.ne (fun h=>⟨fun h0=>absurd h0 h,fun hf=>by rw[he,ah hf],hE.tr H6.ext⟩) fun h0=>Br.dec (fun q=>by omega) fun _=>?_
 refine H6.ld (x:=v.1) 0 rfl rfl ?_;refine AC9 (p:=p) (hv.AB H6.ext) (fun hf=>?_) hs ((hT.AB hE).AB H6.ext) fun r e w1 h1 hz h2=>⟨h1,hz,(hE.tr H6.ext).tr h2⟩
 rw[ak hf]at he;cases ho:GB p with
 |true=>rfl
 |false=>
  have vb:GB (p.1,p.2.1,p.2.2)=false:=ho;rw[vb]at he;rw[he]at h0;cases h0
theorem ns (hn:Full n)(hE:ON n p d (bl t))(hs:t.size<=1000000)(hd:d.length<=20000)(hT:TB w)(PR:Value->World->Prop):C8 n p t w (fun r e w1=>r=ba d/\e=0/\Ext (fun _=>False) w w1) PR:=by
 refine T8 n p _ _ _ _ ?_;unfold S8;refine (Hn.start w).nw (cs:=[.int .i64 p.1,.int .i64 p.2.1,.int .i64 p.2.2]) fun w2 H=>?_
 simp only[ag,add_lit,aj]at H⊢
 iterate 3 refine H.ld 0 rfl rfl ?_
 refine (wq (p:=(p.1,p.2.1,p.2.2)) hn w2 PR).mono ?_ (fun _ _ h=>h);rintro v e w3 ⟨hv,he,e3⟩;have hX:=H.ext.tr e3;obtain ⟨o1,o2⟩:=V6 hv;have he0:e=0:=by
  rw[he];split
  ·rename_i hf;subst hf;have:GB (p.1,p.2.1,p.2.2)=true:=hE.ok;rw[ak this]
  ·rfl
 subst he0;refine (Hn.start w3).nw (cs:=[Value.nilFunc,Value.nilFunc]) fun w4 H4=>Br.t o1 (H4.st 0 rfl (by simp) fun w5 H5=>Br.t o2 ?_)
 simp only[ag,ai,aq]at H5;refine H5.st 0 rfl (by simp) fun w6 H6=>?_
 simp only[ai,aq]at H6;refine Br.ne (fun h=>absurd rfl h) fun _=>?_
 refine H6.ld (x:=v.2) 0 rfl rfl ?_;exact wu (p:=p) (hv.AB H6.ext) hE hs hd ((hT.AB hX).AB H6.ext) fun w1 h2=>⟨rfl,rfl,(hX.tr H6.ext).tr h2⟩
end
end Fi
namespace Fi
open Sh Vl
def OL (G:Nat->Prop)(w:World)(s:AA)(ts:List Tr):Prop:=∃L:List Ob,OV w s L/\(∀j,s.own j->G j)/\A9 (Ox G w) L ts
theorem OL.AI{G F:Nat->Prop}{w w':World}{s:AA}{ts:List Tr}(h:OL G w s ts)(he:Ext F w w')(hF:∀j,G j->¬F j):OL G w' s ts:=by
 obtain ⟨L,h1,h2,h3⟩:=h;exact ⟨L,⟨h1.1,h1.2.AI he fun j hj=>hF j (h2 j hj)⟩,h2,h3.imp fun _ _ h=>h.AI he hF⟩
theorem OL.to{G:Nat->Prop}{w:World}{s:AA}{ts:List Tr}(h:OL G w s ts):VJ w s ts:=by
 obtain ⟨L,h1,_,h3⟩:=h;obtain ⟨d,hd⟩:=V9 (h3.imp fun _ _ h=>h.to);exact ⟨d,L,h1,hd⟩
def Rt (n:ByteArray):Ob:=(5,0,0,n,Fb,Fb)
theorem Ox.name(G:Nat->Prop)(w:World)(n:ByteArray):Ox G w (Rt n) (CK n):=⟨1,⟨rfl,rfl,rfl,rfl⟩,⟨KV.nil w,fun _ j hj=>absurd hj (Cq j)⟩,[],⟨⟨rfl,rfl,fun j v h=>by cases h⟩,fun _ j hj=>absurd hj (Cq j)⟩,trivial⟩
theorem QL (G:Nat->Prop)(w:World):∀FL:List ByteArray,A9 (Ox G w) (FL.map Rt) (FL.map CK)
 |[]=>trivial
 |n::r=>⟨Ox.name G w n,QL G w r⟩
def Rv (AL:List P3)(X:Tr):Tr:=if AL.all (fun p=>decide (p=us))=true then X else Ak Ow (BI (AL.map Ba)) X
def Dv (FL:List ByteArray)(AL:List P3)(data:ByteArray)(t:Tr):Tr:=if FL=[]then CG data t else Rv AL (Ak HM (BI (FL.map CK)) (CG data t))
theorem AAf (n:ByteArray):Gb (CK n)=true:=by rw[MY];rfl
theorem Yz {ts:List Tr}(h:∀t∈ts,Gb t=true)(hl:ts.length<=1000):Gb (Yu ts)=true:=by
 rw[MY,ay,ay];exact ⟨⟨aD (show 0<=100000 by omega),aD (show ts.length<=100000 by omega)⟩,K6.2 h⟩
theorem WD {ts:List Tr}(h:∀t∈ts,Gb t=true)(hl:ts.length<=1000):Gb (BI ts)=true:=by
 by_cases h1:ts.length=1
 ·match ts,h1 with
  |[t],_=>exact h t (by simp)
 ·rw[It h1];exact Yz h hl
theorem fy {ts:List Tr}(h:∀t,ts=[t]->t.k≠0):(BI ts).k≠0:=by
 by_cases h1:ts.length=1
 ·match ts,h1 with
  |[t],_=>exact h t rfl
 ·rw[It h1];show (6:Int)≠0;decide
theorem Oy (key:ByteArray)(v t:Tr):(Ak key v t).k=t.k:=by unfold Ak;split<;>rfl
theorem AQF (PS:PL):(dT PS).k=7:=by
 unfold dT;have:∀(PS:PL) (t:Tr),(PS.foldl (fun t q=>Ak q.1 (Fw q.2) t) t).k=t.k:=fun PS=>by
  induction PS with
  |nil=>exact fun t=>rfl
  |cons q r ih=>exact fun t=>(ih _).trans (Oy _ _ _)
 exact this PS YE
theorem fz (p:P3):(Ba p).k=if p=us then 0 else 7:=by
 unfold Ba;by_cases h:p=(1,1,1)
 ·rw[ak h,ak h];rfl
 ·rw[ah h,ah h,AQF]
section
variable {w w' w1 w0 v:World} {s1 s2 f p:AA} {FL:List ByteArray} {AL:List P3} {P:Tr} {sO:Ob} {b0 b2:Nat}
attribute [local irreducible] Ld Sh.St Nw Lt AP Af B1 A6
theorem oH {w5:World}{sm:Bool}{i:Int}{R:AG->Int->World->Prop}{PR:Value->World->Prop}{I:(AA×AA×Bool×Int)->World->Prop}(hi:¬i<((s1.len:Nat):Int))(H:Hn w v [(w.heap.size,AF sO,25),(w5.heap.size,z6,25)])
  (hl:w5.heap.size<v.heap.size) {lo:Nat} (nJ:w.heap.size<lo/\w5.heap.size<lo) (hO:Ox (fun j=>lo<=j) v sO P) (hkP:Ax P=true) (UI:Cc 1 P=true) (hf:OL (fun j=>lo<=j) v f (FL.map CK)) (hp:OL (fun j=>lo<=j) v p (AL.map Ba))
  (hFL:FL.length<=8) (oI:AL.length<=8) (IL:sm= !(AL.all fun p=>decide (p=us))) (BA:∀p∈AL,Cc 1 (Ba p)=true)
  (Yy:∀e w1,e≠0->(Cc 1 (Ak HM (BI (FL.map CK)) P)=false\/¬AL.all (fun p=>decide (p=us))=true)->Ext (fun _=>False) w w1->R Ir e w1) (NZ:∀r w1,Cc 1 (Rv AL (Ak HM (BI (FL.map CK)) P))=true->OX w1 r (Rv AL (Ak HM (BI (FL.map CK)) P))->Ext (fun _=>False) w w1->R r 0 w1):
  oJ w w5 s1 s2 R PR I (f,p,sm,i) v:=by
 unfold oJ;refine Br.dec (fun q=>absurd q hi) fun _=>?_
 have l0:w.heap.size<v.heap.size:=H.lt 0 rfl;have b0:=H.get 0 rfl;have eD:Ext (fun _=>False) v v.drew:=(Ext.refl _ v).drew;refine ⟨fun v'=>Ext (fun _=>False) v v',eD,B1.AS (ts:=AD) (pre:=[]) (post:=[]) (x:=sO) (fun v' he=>he.AS b0 id) rfl ?_⟩;refine (fv hf.to eD (Yz (fun t ht=>by
  obtain ⟨n,_,rfl⟩:=cJ.1 ht;exact AAf n) (by rw[bp];omega))).mono ?_
 rintro xB u1 ⟨hr,e1⟩;have f1:=eD.tr e1;refine ⟨f1,?_⟩;have H1:=H.AB f1;refine (AAg (o:=sO) (hO.to.AB f1) hr (Ext.refl _ _) hkP UI (fy fun t ht=>?_) (WD (fun t ht=>?_) (by rw[bp];omega)) HM).mono ?_ fun _ _ h=>h.elim
 ·match FL,ht with
  |[n],ht=>
   obtain rfl:CK n=t:=(List.cons.inj ht).1;show (5:Int)≠0;decide
 ·obtain ⟨n,_,rfl⟩:=cJ.1 ht;exact AAf n
 rintro Y0 e u2 ⟨AI9,e2⟩;have H2:=H1.AB e2;have z1:=f1.size;have z2:=e2.size;refine A6.AS (ts:=AD) (pre:=[]) (zs:=AF sO) (post:=[]) (H2.get 0 rfl) rfl rfl fun u3 wR VK=>?_
 simp only[ag,aM]at wR;have H3:=Dh H2 (i:=0) rfl VK (CU:=AF Y0) wR;simp only[aq,ai]at H3;rcases AI9 with ⟨xC,Om,rfl⟩|⟨Kf,rfl,A2⟩
 rotate_left
 ·refine Br.ne (fun _=>?_) fun h0=>absurd h0 A2
  exact BC (i:=1) (O:=Ir) H3 rfl fun v3 E3 e3=>Yy e v3 A2 (.inl Kf) E3
 refine Br.ne (fun h=>absurd rfl h) fun _=>?_
 have hx3:=Om.AI VK fun j hj e=>by
  have hj:u1.heap.size<=j:=hj;have e:j=w.heap.size:=e;omega
 have z3:=VK.size;cases sm with
 |false=>
  have BF:AL.all (fun p=>decide (p=us))=true:=by
   cases hh:AL.all fun p=>decide (p=us)with
   |true=>rfl
   |false=>rw[hh]at IL;cases IL
  refine Vl.Br.f rfl ?_;refine H3.Dx (i:=0) (ts:=AD) (pre:=[]) (post:=[]) (x:=Y0) rfl rfl ?_;refine BC (i:=1) H3 rfl fun v3 E3 e3=>?_
  have hX:=hx3.AI e3 fun j hj e=>by
   have hj:u1.heap.size<=j:=hj;have e:j=w5.heap.size:=e;omega
  unfold Rv at NZ;rw[ak BF]at NZ;exact NZ _ _ xC hX.to E3
 |true=>
  have BF:¬AL.all (fun p=>decide (p=us))=true:=fun hh=>by rw[hh]at IL;cases IL
  refine Vl.Br.t rfl ?_;have b3:=H3.get 0 rfl;have eD3:Ext (fun _=>False) u3 u3.drew:=(Ext.refl _ u3).drew;refine ⟨fun v'=>Ext (fun _=>False) u3 v',eD3,B1.AS (ts:=AD) (pre:=[]) (post:=[]) (x:=Y0) (fun v' he=>he.AS b3 id) rfl ?_⟩;have hp3:VJ u3 p (AL.map Ba):=((hp.AI (f1.tr e2) fun j _ h=>h).AI VK fun j hj e=>by
   have hj:lo<=j:=hj;have e:j=w.heap.size:=e;omega).to
  have AJA:∀t∈AL.map Ba,Gb t=true:=fun t ht=>by
   obtain ⟨q,hq,rfl⟩:=cJ.1 ht;exact QH _ (BA q hq)
  refine (fv hp3 eD3 (Yz AJA (by rw[bp];omega))).mono ?_;rintro AJB u4 ⟨hr4,e4⟩;have f4:=eD3.tr e4;refine ⟨f4,?_⟩;have H4:=H3.AB f4;refine (AAg (o:=Y0) (hx3.AB f4).to hr4 (Ext.refl _ _) (by rw[EF];exact hkP) xC (fy fun t ht=>?_) (WD AJA (by rw[bp];omega)) Ow).mono ?_ fun _ _ h=>h.elim
  ·match AL,ht,BF with
   |[q],ht,BF=>
    obtain rfl:Ba q=t:=(List.cons.inj ht).1;rw[fz,ah]
    ·decide
    ·intro e;exact BF (by simp[e])
  rintro jh e u5 ⟨hr5,e5⟩;have H5:=H4.AB e5;have z4:=f4.size;have z5:=e5.size;refine A6.AS (ts:=AD) (pre:=[]) (zs:=AF Y0) (post:=[]) (H5.get 0 rfl) rfl rfl fun u6 hb6 SI=>?_
  simp only[ag,aM]at hb6;have H6:=Dh H5 (i:=0) rfl SI (CU:=AF jh) hb6;simp only[aq,ai]at H6;rcases hr5 with ⟨KN,hx5,rfl⟩|⟨_,rfl,A2⟩
  rotate_left
  ·refine Br.ne (fun _=>?_) fun h0=>absurd h0 A2
   exact BC (i:=1) (O:=Ir) H6 rfl fun v3 E3 e3=>Yy e v3 A2 (.inr BF) E3
  refine Br.ne (fun h=>absurd rfl h) fun _=>?_
  refine H6.Dx (i:=0) (ts:=AD) (pre:=[]) (post:=[]) (x:=jh) rfl rfl ?_;refine BC (i:=1) H6 rfl fun v3 E3 e3=>?_
  have hX:=(hx5.AI SI fun j hj e=>by
   have hj:u4.heap.size<=j:=hj;have e:j=w.heap.size:=e;omega).AI e3 fun j hj e=>by
   have hj:u4.heap.size<=j:=hj;have e:j=w5.heap.size:=e;omega
  unfold Rv at NZ;rw[ah BF]at NZ;exact NZ _ _ KN hX.to E3
end
end Fi
namespace Fi
open Sh Vl
theorem oK (o:Ob):∀v∈AF o,v.oneCell'=true:=by
 intro v hv;simp only[AF,aN,bQ,dZ]at hv;rcases hv with rfl|rfl|rfl|rfl|rfl|rfl<;>rfl
theorem UJ {w:World}{s:AA}{L:List Ob}{t:TypeId}(h:Row w s t 6 (L.flatMap AF)):OV w s L:=⟨Bh.count (f:=AF) (k:=6) DO (by decide) h.view,h.view⟩
theorem ji {α β:Type}{R Q:α->β->Prop}{l:List α}{m:List β}(h:A9 R l m)(k:∀a b,R a b->Q a b):A9 Q l m:=h.imp k
def SS (v0 v:World)(f p:AA)(j:Nat):Prop:=v0.heap.size<=j/\j<v.heap.size/\¬f.own j/\¬p.own j
section
variable {w w' w1 w0 v v0:World} {s1 s2 f p:AA} {FL:List ByteArray} {AL:List P3} {P:Tr} {sO:Ob}
attribute [local irreducible] Ld Sh.St Nw Lt AP Af B1 A6
theorem jk {w5:World}{R:AG->Int->World->Prop}{PR:Value->World->Prop}(H:Hn w v0 [(w.heap.size,AF sO,25),(w5.heap.size,z6,25)])
  {lo:Nat} (nJ:w.heap.size<lo/\w5.heap.size<lo/\lo<=v0.heap.size) (hO:Ox (fun j=>lo<=j) v0 sO P) (hkP:Ax P=true) (UI:Cc 1 P=true) (hn:KV v0 s1 FL) (hp:PV v0 s2 AL) (hlen:AL.length=FL.length) (h8:FL.length<=8)
  (Yy:∀e w1,e≠0->(Cc 1 (Ak HM (BI (FL.map CK)) P)=false\/¬AL.all (fun p=>decide (p=us))=true)->Ext (fun _=>False) w w1->R Ir e w1) (NZ:∀r w1,(∀q∈AL,Cc 1 (Ba q)=true)->Cc 1 (Rv AL (Ak HM (BI (FL.map CK)) P))=true->OX w1 r (Rv AL (Ak HM (BI (FL.map CK)) P))->Ext (fun _=>False) w w1->R r 0 w1):
  Lp (σ:=AA×AA×Bool×Int) (oJ w w5 s1 s2 R PR) ((⟨none,0,0⟩:AA),(⟨none,0,0⟩:AA),false,0) v0:=by
 have vG:=hn.1.1;have OH:=hp.1;refine ⟨fun n st v=>∃(f p:AA) (sm:Bool) (i:Nat) (L:List Ob),st=(f,p,sm,(i:Int))/\n=FL.length-i/\i<=FL.length/\Ext (fun _=>False) v0 v/\Row v f 25 6 (((FL.take i).map Rt).flatMap AF)/\Row v p 25 6 (L.flatMap AF)/\
  A9 (Ox (SS v0 v f p) v) L ((AL.take i).map Ba)/\(∀j,f.own j->v0.heap.size<=j)/\(∀j,p.own j->v0.heap.size<=j)/\(∀j,f.own j->¬p.own j)/\sm= !((AL.take i).all fun p=>decide (p=us))/\∀q∈AL.take i,Cc 1 (Ba q)=true,FL.length,
  ⟨⟨none,0,0⟩,⟨none,0,0⟩,false,0,[],rfl,rfl,by omega,Ext.refl _ _,Row.nil _ _ _,Row.nil _ _ _,trivial,fun j hj=>absurd hj (Cq j),fun j hj=>absurd hj (Cq j),fun j hj=>absurd hj (Cq j),rfl,fun q hq=>by simp at hq⟩,?_⟩
 rintro n st v ⟨f,p,sm,i,L,rfl,rfl,hi,hE,hf,hq,hA,hfo,hpo,hd,IL,BA⟩;have HV:=H.AB hE;have zE:=hE.size;have hLl:L.length=i:=by
  have:=hA.len;rw[bp,au,hlen,bo hi]at this;exact this
 by_cases Am:i<FL.length
 ·unfold oJ;have WE:=ad Am;generalize FL[i]=nm at WE;have Rb:=ad (show i<AL.length by omega);generalize AL[i]=pm at Rb;obtain ⟨a,ha,Y3⟩:=(hn.AB hE).2 i nm WE;obtain ⟨a2,QM,c0,c1,c2⟩:=(hp.AB hE).get Rb;dsimp only;rw[aa,aH];refine Br.dec (fun _=>⟨by omega,by omega,a,ha,Ld.mk (x:=nm) Y3 ⟨by omega,by omega,a2,QM,?_⟩⟩) fun q=>absurd (show (i:Int)<((s1.len:Nat):Int) by omega) q
  simp only[BN];refine Ld.mk c0 (Ld.mk c1 (Ld.mk c2 ((UD (pm.1,pm.2.1,pm.2.2) v PR).mono ?_ (fun _ _ h=>h))));rintro Hh e u1 ⟨hr,e1⟩;refine (Hn.start u1).nw (cs:=z6) fun u2 G2=>?_
  simp only[ag]at G2;refine A6.AS (ts:=AD) (pre:=[]) (zs:=z6) (post:=[]) (G2.get 0 rfl) rfl rfl fun u3 wR VK=>?_
  simp only[ag,aM]at wR;have G3:=Dh G2 (i:=0) rfl VK (CU:=AF Hh) wR;simp only[ai]at G3;have HV3:=(HV.AB e1).AB G3.ext;rcases hr with ⟨xC,Om,rfl⟩|⟨rfl,A2,Kf⟩
  rotate_left
  ·refine Br.ne (fun _=>?_) fun h0=>absurd h0 A2
   exact BC (i:=1) (O:=Ir) HV3 rfl fun v3 E3 e3=>Yy e v3 A2 (.inr fun hh=>by
    have h1:=bx.1 hh pm (aB Rb);have h2:pm=us:=bf h1;have h3:Cc 1 (Ba pm)=false:=Kf;rw[h2]at h3;unfold Ba at h3;rw[ak rfl,fu]at h3;cases h3) E3
  refine Br.ne (fun h=>absurd rfl h) fun _=>?_
  have zu1:=e1.size;have zu3:=G3.size;refine (UE nm u3).mono ?_;rintro Y4 u4 ⟨rfl,e4⟩;have f4:Ext (fun _=>False) v u4:=(e1.tr G3.ext).tr e4;refine Nw.of ?_;have eB:Ext (fun _=>False) u4 (u4.alloc (.cells (AF (Rt nm)).toArray 25)):=(Ext.refl _ _).alloc _;have hB:=AO.new u4 (AF (Rt nm)).toArray 25;have f5:=f4.tr eB;have hf5:=hf.AB f5 fun _ _ h=>h
  have fO:f.len=i:=by
   have:=(UJ hf5).1;rw[bp,au,bo hi]at this;exact this
  obtain ⟨f',u6,r1,r2,r3,e6,r5⟩:=Mb.Ip (ty:=23) hf5 hB rfl (oK _) (by omega) (by omega);refine ⟨f',u6,r1,?_⟩;have G5:=(G3.AB e4).AB eB;have zf5:=f5.size;have z4:=e4.size;have zB:=eB.size;have z6':=e6.size;have ADN:∀j,f.own j->j<v.heap.size:=fun j hj=>hf.own_lt hj
  have oL:∀j,p.own j->j<v.heap.size:=fun j hj=>hq.own_lt hj
  have G6:AO u6 u1.heap.size (AF Hh).toArray 25:=e6.AS (G5.get 0 rfl) fun h=>by have:=ADN _ h;omega
  refine Af.AS (ts:=AD) (pre:=[]) (post:=[]) (x:=Hh) (show AO u6 u1.heap.size (([]:List Value)++(Al.cells AD Hh++[])).toArray 25 from G6) rfl (Nw.of ?_);have eC:Ext (fun _=>False) u6 (u6.alloc (.cells (AF Hh).toArray 25)):=(Ext.refl _ _).alloc _;have hC:=AO.new u6 (AF Hh).toArray 25;have hq6:Row u6 p 25 6 (L.flatMap AF):=(hq.AB f5 fun _ _ h=>h).AB e6 fun j hj h=>hd j h hj
  have hq7:=hq6.AB eC fun _ _ h=>h
  have Ad2:p.len=i:=by
   have:=(UJ hq7).1;omega
  obtain ⟨p',u8,t1,t2,t3,e8,t5⟩:=Mb.Ip (ty:=23) hq7 hC rfl (oK _) (by omega) (by omega);refine ⟨p',u8,t1,?_⟩;have zC:=eC.size;have z8:=e8.size;have Jw:∀j,f'.own j->f.own j\/u4.heap.size<j+1:=fun j hj=>(r5 j hj).elim .inl fun h=> .inr (by have:=eB.size;omega)
  have AJC:∀j,f'.own j->v0.heap.size<=j:=fun j hj=>(r5 j hj).elim (hfo j) fun h=>by omega
  have AJD:∀j,p'.own j->v0.heap.size<=j:=fun j hj=>(t5 j hj).elim (hpo j) fun h=>by omega
  have AJE:∀j,f'.own j->j<u6.heap.size:=fun j hj=>r2.own_lt hj
  have Rc:∀j,f'.own j->¬p'.own j:=fun j hj hk=>by
   rcases t5 j hk with h|h
   ·rcases r5 j hj with h2|h2
    ·exact hd j h2 h
    ·have:=oL j h;omega
   ·have:=AJE j hj;omega
  have hE8:Ext (fun _=>False) v0 u8:=by
   have a1:=Ac.Ext.IG (hE.tr f5) e6 fun j hj=>hfo j hj
   exact Ac.Ext.IG (a1.tr eC) e8 fun j hj=>hpo j hj
  have oM:((FL.take i).map Rt).flatMap AF++AF (Rt nm)=((FL.take (i+1)).map Rt).flatMap AF:=by
   rw[aO,WE,bh,bJ];simp
  have AJF:L.flatMap AF++AF Hh=(L++[Hh]).flatMap AF:=by simp
  rw[oM]at r2;rw[AJF]at t2;have r8:Row u8 f' 25 6 (((FL.take (i+1)).map Rt).flatMap AF):=(r2.AB eC fun _ _ h=>h).AB e8 fun j hj h=>by
   rcases r5 j hj with h2|h2
   ·exact hd j h2 h
   ·have:=oL j h;omega
  have AJG:A9 (Ox (SS v0 u8 f' p') u8) L ((AL.take i).map Ba):=ji hA fun o t h=>by
   have k1:=h.AI f5 fun j _ h=>h
   have k2:=k1.AI e6 fun j hj h=>hj.2.2.1 h
   have k3:=k2.AI eC fun j _ h=>h
   have k4:=k3.AI e8 fun j hj h=>hj.2.2.2 h
   refine k4.Fc fun j hj=>⟨hj.1,by have:=hj.2.1;omega,fun h=>?_,fun h=>?_⟩
   ·rcases r5 j h with h2|h2
    ·exact hj.2.2.1 h2
    ·have:=hj.2.1;omega
   ·rcases t5 j h with h2|h2
    ·exact hj.2.2.2 h2
    ·have:=hj.2.1;omega
  have Cw:Ox (SS v0 u8 f' p') u8 Hh (Ba pm):=by
   have k0:Ox (fun j=>v.heap.size<=j/\j<u1.heap.size) u1 Hh (Ba pm):=Ox.of Om;have k1:=k0.AI ((G3.ext.tr e4).tr eB) fun j _ h=>h
   have k2:=k1.AI e6 fun j hj h=>by have:=ADN j h;omega
   have k3:=k2.AI eC fun j _ h=>h
   have k4:=k3.AI e8 fun j hj h=>by have:=oL j h;omega
   refine k4.Fc fun j hj=>⟨by omega,by omega,fun h=>?_,fun h=>?_⟩
   ·rcases r5 j h with h2|h2
    ·have:=ADN j h2;omega
    ·omega
   ·rcases t5 j h with h2|h2
    ·have:=oL j h2;omega
    ·omega
  have DD:AL.take (i+1)=AL.take i++[pm]:=by rw[aO,Rb];rfl
  have hA8:A9 (Ox (SS v0 u8 f' p') u8) (L++[Hh]) ((AL.take (i+1)).map Ba):=by
   rw[DD,bh];exact MZ AJG Cw
  have AJH:∀q∈AL.take (i+1),Cc 1 (Ba q)=true:=fun q hq'=>by
   rw[DD]at hq';rcases aQ.1 hq' with h|h
   ·exact BA q h
   ·rw[az.1 h];exact xC
  have i1:wrap .i64 ((i:Int)+1)=((i+1:Nat):Int):=by rw[AE (by omega)];rfl
  have AJI:((AL.take (i+1)).all fun p=>decide (p=us))=(((AL.take i).all fun p=>decide (p=us))&&decide (pm=us)):=by rw[DD,List.all_append];simp
  have fin:∀(sm':Bool),sm'= !((AL.take (i+1)).all fun p=>decide (p=us))->∃n',n'<FL.length-i/\∃(f p:AA) (sm:Bool) (i:Nat) (L:List Ob),(f',p',sm',wrap .i64 ((i+0:Nat):Int))=(f',p',sm',wrap .i64 ((i+0:Nat):Int))/\True:=fun _ _=>⟨FL.length-(i+1),by omega,f,p,sm,i,L,rfl,trivial⟩
  clear fin;rw[i1];cases sm with
  |true=>
   refine Vl.Br.t rfl ⟨FL.length-(i+1),by omega,f',p',true,i+1,L++[Hh],rfl,rfl,by omega,hE8,r8,t2,hA8,AJC,AJD,Rc,?_,AJH⟩;rw[AJI];cases hh:(AL.take i).all fun p=>decide (p=us)with
   |true=>rw[hh]at IL;cases IL
   |false=>rfl
  |false=>
   have G8:AO u8 u1.heap.size (AF Hh).toArray 25:=e8.AS (eC.AS G6 id) fun h=>by have:=oL _ h;omega
   refine Vl.Br.f rfl (Ld.of (x:=Hh.1) G8 rfl ?_);refine ⟨FL.length-(i+1),by omega,f',p',_,i+1,L++[Hh],rfl,rfl,by omega,hE8,r8,t2,hA8,AJC,AJD,Rc,?_,AJH⟩;have hk:Hh.1=(Ba pm).k:=Om.to.out.1.1;rw[AJI,hk,fz];cases hh:(AL.take i).all fun p=>decide (p=us)with
   |false=>rw[hh]at IL;cases IL
   |true=>
    by_cases hu:pm=us
    ·rw[ak hu,aD hu];rfl
    ·rw[ah hu,aP hu];rfl
 ·have xD:i=FL.length:=by omega
  subst xD;rw[bj]at hf;rw[<-hlen,bj]at hA IL BA;refine oH (w:=w) (w5:=w5) (by omega) HV (by omega) ⟨nJ.1,nJ.2.1⟩ (hO.AI hE fun j _ h=>h) hkP UI ⟨FL.map Rt,UJ hf,fun j hj=>by have:=hfo j hj;omega,QL _ _ FL⟩ ⟨L,UJ hq,fun j hj=>by have:=hpo j hj;omega,hA.imp fun o t h=>h.Fc fun j hj=>by have:=hj.1;omega⟩ h8 (by omega) IL BA Yy fun r w1 k1 k2 k3=>NZ r w1 BA k1 k2 k3
end
end Fi
namespace Fi
open Sh Vl
open Ac (bl ba CS Gg AQ By)
def Mc:List (ByteArray×P3)->By->By->Prop
 |[],d,t=>t=d
 |q::r,d,t=>∃m,Mc r d m/\ON q.1 q.2 m t/\m.length<=20000
def bd:Nat->Nat
 |0=>800
 |k+1=>2*bd k+11
theorem AJJ:∀n,n<=3->bd n<=6477:=by
 intro n h;have:n=0\/n=1\/n=2\/n=3:=by omega
 rcases this with rfl|rfl|rfl|rfl<;>decide
def Why (NL:List ByteArray)(P2:List P3)(t:Tr)(data:ByteArray):Prop:=
 ADG NL P2\/(∃n∈NL,DN n=(Hf,true))\/∃(FL:List ByteArray) (t':ByteArray),A9 (fun n f=>DN n=(f,true)) NL FL/\Mc (FL.zip (IM P2 NL.length)) (bl data) (bl t')/\
  (Cc 1 (Aw Ow (Aw HM t))=false\/Cc 1 (CG t' t)=false\/Cc 1 (Ak HM (BI (FL.map CK)) (CG t' t))=false\/¬(IM P2 NL.length).all (fun p=>decide (p=us))=true)
def AJK (NL:List ByteArray)(P2:List P3)(t:Tr)(data:ByteArray)(r:Ob)(e:Int)(w1:World):Prop:=
 (e≠0/\r=Ir/\Why NL P2 t data)\/(e=0/\∃(FL:List ByteArray) (t':ByteArray),A9 (fun n f=>DN n=(f,true)) NL FL/\(P2=[]\/P2.length=NL.length)/\(∀(i:Nat) (n:ByteArray) (p:P3),FL[i]?=some n->(IM P2 NL.length)[i]?=some p->n≠Hf->p=us)/\
  Mc (FL.zip (IM P2 NL.length)) (bl data) (bl t')/\t'.size<=20000/\Cc 1 (Aw HM t)=true/\Cc 1 (CG t' t)=true/\(FL≠[]->∀q∈IM P2 NL.length,Cc 1 (Ba q)=true)/\Cc 1 (Dv FL (IM P2 NL.length) t' t)=true/\OX w1 r (Dv FL (IM P2 NL.length) t' t))
section
variable {w w' w1 w0 v:World} {s1 s2:AA} {NL:List ByteArray} {P2:List P3} {o:Ob} {t:Tr} {data:ByteArray}
attribute [local irreducible] Ld Sh.St Nw Lt AP Af B1 A6
theorem WG (h:P2=[]\/P2.length=NL.length):(IM P2 NL.length).length=NL.length:=by
 unfold IM;split
 ·simp
 ·rename_i A2;exact h.resolve_left A2
theorem WH {wb:World}(h:OX wb o t)(E:Ext (fun _=>False) wb w)(hk:t.k=7)(hs0:t.s=⟨#[]⟩)(BA:Cc 1 t=true)(hn:KV w s1 NL)(hp:PV w s2 P2)(h3:NL.length<=3)(hd:data.size<=800)(hT:TB w)(PR:Value->World->Prop):
  C4 o s1 s2 data w (fun r e w1=>AJK NL P2 t data r e w1/\Ext (fun _=>False) w w1) PR:=by
 have ME:=h.out.1.1;refine T4 o _ _ _ _ _ _ ?_;unfold S4;rw[AR];refine (Hn.start w).nw (cs:=AF o) fun w2 H=>H.nw (cs:=z6) fun w3 H=>?_
 simp only[ag,ar]at H;refine CP.intro ?_;refine H.ld (x:=o.1) 0 rfl rfl (Br.ne (fun _=>H.ld (x:=o.1) 0 rfl rfl (Br.ne (fun q=>absurd (ME.trans hk) q) fun _=>?_)) fun q=>by have:=ME.trans hk;omega);unfold AJL;refine (WC (hn.AB H.ext) (hp.AB H.ext)).mono ?_;rintro Jt FQ e w4 ⟨hm,e4⟩;have H4:=H.AB e4;rcases hm with ⟨rfl,FL,h8,hF,hlen,NY,hK,hP,hO1,hO2⟩|⟨A2,hme⟩
 rotate_left
 ·refine Br.ne (fun _=>?_) fun h0=>absurd h0 A2
  exact BC (i:=1) (O:=Ir) H4 rfl fun v3 E3 e3=>⟨.inl ⟨A2,rfl,.inl hme⟩,E3⟩
 refine Br.ne (fun h=>absurd rfl h) fun _=>?_
 have fO:=hF.len;have hal:=WG hlen;have hK1:=hK.1.1;have hP1:=hP.1;generalize oI:IM P2 NL.length=AL at NY hP hal hP1;have i0:wrap .i64 (((Jt.len:Nat):Int)-1)=((FL.length:Nat):Int)-1:=by rw[hK1,AE (by omega)]
 rw[i0];have l4:w.heap.size<w4.heap.size:=H4.lt 0 rfl;have l42:w2.heap.size<w4.heap.size:=H4.lt 1 rfl;refine ⟨fun n st v=>∃(m:Nat) (dt:ByteArray),st=(dt,(m:Int)-1)/\n=m/\m<=FL.length/\Mc ((FL.zip AL).drop m) (bl data) (bl dt)/\dt.size<=bd (FL.length-m)/\Ext (fun _=>False) w4 v,FL.length,
  ⟨FL.length,data,rfl,rfl,av _,by rw[bR (by rw[List.length_zip];omega)];exact rfl,by rw[cl];exact hd,Ext.refl _ _⟩,?_⟩
 rintro n st v ⟨m,dt,rfl,rfl,hm,hL,hb,hE⟩;have HV:=H4.AB hE;have zE:=hE.size;unfold AJM;have hbd:=AJJ (FL.length-n) (by omega);cases n with
 |succ k=>
  have ek:(((k+1:Nat):Int)-1)=((k:Nat):Int):=by omega
  rw[ek];have WE:=ad (show k<FL.length by omega);have Rb:=ad (show k<AL.length by omega);have hz:(FL.zip AL).drop k=(FL[k]'(by omega),AL[k]'(by omega))::(FL.zip AL).drop (k+1):=by
   rw[aS (by rw[List.length_zip];omega),List.getElem_zip]
  generalize FL[k]'(by omega)=nm at WE hz;generalize AL[k]'(by omega)=pm at Rb hz;obtain ⟨nn,AQL,Gu⟩:=hF.WI WE;obtain ⟨a,ha,Y3⟩:=(hK.AB hE).2 k nm WE;obtain ⟨a2,QM,c0,c1,c2⟩:=(hP.AB hE).get Rb;have eD:Ext (fun _=>False) v v.drew:=(Ext.refl _ v).drew;refine Br.dec (fun _=>⟨fun v'=>Ext (fun _=>False) v v',eD,by omega,by show (k:Int)<_;omega,a,ha,?_⟩) fun q=>absurd (show ((k:Nat):Int)>=0 by omega) q
  dsimp only;rw[aa,aH];refine Di Y3 ⟨by omega,by omega,a2,QM,?_⟩;simp only[BN];refine Di c0 (Di c1 (Di c2 ?_));have hTv:TB v.drew:=((hT.AB H4.ext).AB hE).AB eD;refine (AIu (p:=(pm.1,pm.2.1,pm.2.2)) (JS Gu) (by omega) hTv PR).mono ?_ (fun _ _ h=>h);rintro r45 e u1 ⟨hr,va,e1⟩;have f1:=eD.tr e1;refine Br.ne (fun A2=>?_) fun h0=>?_
  ·exact BC (i:=1) (O:=Ir) (HV.AB f1) rfl fun v3 E3 e3=>⟨.inl ⟨A2,rfl,.inr (.inl ⟨nn,aB AQL,by
    by_cases hf:nm=Hf
    ·rw[Gu,hf]
    ·exact absurd (va hf) A2⟩)⟩,E3⟩
  ·obtain ⟨g1,g2⟩:=hr h0;refine ⟨k,by omega,k,r45,?_,rfl,by omega,?_,?_,hE.tr f1⟩
   ·rw[AE (by omega)]
   ·rw[hz];exact ⟨bl dt,hL,g1,by rw[<-AQ];omega⟩
   ·rw[show FL.length-k=(FL.length-(k+1))+1 by omega];show r45.size<=2*bd (FL.length-(k+1))+11;omega
 |zero=>
  refine Br.dec (fun q=>absurd (show ((0:Nat):Int)-1>=0 from q) (by omega)) fun _=>?_
  rw[cV]at hL;refine HV.Dx (i:=0) (ts:=AD) (pre:=[]) (post:=[]) (x:=o) rfl rfl ?_;refine (wy h (E.tr HV.ext) hk hs0 BA dt PR).mono ?_ (fun _ _ h=>h);rintro r60 e u1 ⟨hr,e1⟩;have H1:=HV.AB e1;have z1:=e1.size;refine A6.AS (ts:=AD) (pre:=[]) (zs:=AF o) (post:=[]) (H1.get 0 rfl) rfl rfl fun u2 TW JP=>?_
  simp only[ag,aM]at TW;have H2:=Dh H1 (i:=0) rfl JP (CU:=AF r60) TW;simp only[aq,ai]at H2;have z2:=JP.size;rcases hr with ⟨Tb,UI,hx,rfl⟩|⟨rfl,A2,ADP⟩
  rotate_left
  ·refine Br.ne (fun _=>?_) fun h0=>absurd h0 A2
   refine H2.Dx (i:=0) (ts:=AD) (pre:=[]) (post:=[]) (x:=Ir) rfl rfl ?_;exact BC (i:=1) (O:=Ir) H2 rfl fun v3 E3 e3=>⟨.inl ⟨A2,rfl,.inr (.inr ⟨FL,dt,hF,by rw[oI];exact hL,ADP.elim .inl fun h=> .inr (.inl h)⟩)⟩,E3⟩
  refine Br.ne (fun h=>absurd rfl h) fun _=>?_
  have fF:=hx.AI JP fun j hj e=>by
   have hj:v.heap.size<=j:=hj;have e:j=w.heap.size:=e;omega
  have A1:dt.size<=20000:=by omega
  refine Br.eq (fun q=>?_) fun q=>?_
  ·have Iv:FL=[]:=aw (by omega);refine H2.Dx (i:=0) (ts:=AD) (pre:=[]) (post:=[]) (x:=r60) rfl rfl ?_;refine BC (i:=1) H2 rfl fun v3 E3 e3=>⟨.inr ⟨rfl,FL,dt,hF,hlen,by rw[oI];exact NY,by rw[oI];exact hL,A1,Tb,UI,fun A2=>absurd Iv A2,?_,?_⟩,E3⟩
   ·unfold Dv;rw[ak Iv];exact UI
   ·unfold Dv;rw[ak Iv];exact (fF.AI e3 fun j hj e=>by
     have hj:v.heap.size<=j:=hj;have e:j=w2.heap.size:=e;omega).to
  ·have hnn:FL≠[]:=fun h=>by rw[h]at hK1;exact q (by rw[hK1];rfl)
   have l3:w.heap.size<w3.heap.size:=H.lt 0 rfl;have l23:w2.heap.size<w3.heap.size:=H.lt 1 rfl;have hK2:KV u2 Jt FL:=(hK.AB (hE.tr e1)).AI JP fun j hj e=>by
    have:=hO1 j hj;have e:j=w.heap.size:=e;omega
   have YG:PV u2 FQ AL:=(hP.AB (hE.tr e1)).AI JP fun j hj e=>by
    have:=hO2 j hj;have e:j=w.heap.size:=e;omega
   refine jk (w:=w) (w5:=w2) (v0:=u2) (lo:=v.heap.size) H2 ⟨by omega,by omega,by omega⟩ ((Ox.of fF).Fc fun j h=>h.1) rfl UI hK2 YG (by omega) (by omega) (fun e w1 A2 ADP he=>⟨.inl ⟨A2,rfl,.inr (.inr ⟨FL,dt,hF,by rw[oI];exact hL,ADP.elim (fun h=> .inr (.inr (.inl h))) fun h=> .inr (.inr (.inr (by rw[oI];exact h)))⟩)⟩,he⟩) fun r w1 Md AQM hX he=>⟨.inr ⟨rfl,FL,dt,hF,hlen,by rw[oI];exact NY,by rw[oI];exact hL,A1,Tb,UI,by rw[oI];exact fun _=>Md,?_,?_⟩,he⟩
   ·unfold Dv;rw[ah hnn,oI];exact AQM
   ·unfold Dv;rw[ah hnn,oI];exact hX
end
end Fi
namespace Fi
open Sh Vl
def bpB:ByteArray:=⟨#[66,105,116,115,80,101,114,67,111,109,112,111,110,101,110,116]⟩
theorem dT3 (p:P3):dT (ft p)=Ak preB (Fw p.1) (Ak oA (Fw p.2.2) (Ak Yt (Fw p.2.1) YE)):=rfl
theorem gd1 (p:P3):Gd (Ak Yt (Fw p.2.1) YE):=JU fo _ _
theorem gd2 (p:P3):Gd (Ak oA (Fw p.2.2) (Ak Yt (Fw p.2.1) YE)):=JU (gd1 p) _ _
theorem ky0:Ax YE=true:=rfl
theorem ky1 (p:P3):Ax (Ak Yt (Fw p.2.1) YE)=true:=by rw[EF];rfl
theorem ky2 (p:P3):Ax (Ak oA (Fw p.2.2) (Ak Yt (Fw p.2.1) YE))=true:=by rw[EF];exact ky1 p
theorem ADR (key:ByteArray):CL key YE=none:=rfl
theorem xE (p:P3):CL preB (dT (ft p))=some (Fw p.1):=by rw[dT3];exact Iw (ky2 p) (gd2 p) _ _
theorem xF (p:P3):CL oA (dT (ft p))=some (Fw p.2.2):=by
 rw[dT3,CE (ky2 p) (gd2 p) (by decide+kernel),Iw (ky1 p) (gd1 p)]
theorem xG (p:P3):CL Yt (dT (ft p))=some (Fw p.2.1):=by
 rw[dT3,CE (ky2 p) (gd2 p) (by decide+kernel),CE (ky1 p) (gd1 p) (by decide+kernel),Iw ky0 fo]
theorem ADS (p:P3):CL bpB (Ba p)=none:=by
 unfold Ba;split
 ·rfl
 ·rw[dT3,CE (ky2 p) (gd2 p) (by decide+kernel),CE (ky1 p) (gd1 p) (by decide+kernel),CE ky0 fo (by decide+kernel),ADR]
section
variable {w w' w1 w0 v:World} {o:Ob} {t:Tr} {p:P3}
attribute [local irreducible] Ld Sh.St Nw Lt AP Af B1 A6
theorem Cd (e:Int)(w:World)(PR:Value->World->Prop){x:Bool}(hx:x=true):oN x e w (fun w'=>w'=w) PR:=by
 subst hx;refine T20 _ _ _ _ _ ?_;unfold S20;exact rfl
theorem QN {wb:World}{key:ByteArray}{n:Int}(h:OX wb o t)(E:Ext (fun _=>False) wb w)(hs:Gb t=true)(hg:CL key t=some (Fw n))(PR:Value->World->Prop):C69 o key w (fun r w1=>r=n/\Ext (fun _=>False) w w1) PR:=by
 refine T69 o _ _ _ _ ?_;unfold S69;rw[AR];refine (Hn.start w).nw (cs:=AF o) fun w2 H=>?_
 simp only[ag]at H;refine H.Dx (i:=0) (ts:=AD) (pre:=[]) (post:=[]) (x:=o) rfl rfl ((gA h (E.tr H.ext) hs key).mono ?_);rintro r b w3 ⟨hr,e3⟩;rcases hr with ⟨x,hx,hX,rfl⟩|⟨hx,_,_⟩
 rotate_left
 ·rw[hg]at hx;cases hx
 rw[hg]at hx;obtain rfl:=aY hx;obtain ⟨⟨q1,q2,_,_⟩,_⟩:=hX.to.out;refine (H.AB e3).nw (cs:=z6) fun w4 H4=>?_
 simp only[ar,ag]at H4;refine H4.lS (i:=1) (ts:=AD) (pre:=[]) (post:=[]) (x:=r) (zs:=z6) rfl rfl rfl fun w5 H5=>?_
 simp only[ai,aq,ag,aM,AR,add_lit,aj]at H5⊢;refine Vl.Br.f rfl (H5.ld (x:=r.1) 1 rfl rfl ((Cd 10 w5 PR (by rw[q1];rfl)).mono ?_ (fun _ _ h=>h)));rintro w6 rfl;exact H5.ld (x:=r.2.1) 1 rfl rfl ⟨q2,H5.ext⟩
theorem xH {wb:World}(h:OX wb o (Ba p))(E:Ext (fun _=>False) wb w)(hs:Gb (Ba p)=true):C45 o w (fun r w1=>r=true/\Ext (fun _=>False) w w1):=by
 refine T45 o _ _ ?_;unfold S45;rw[AR];refine (Hn.start w).nw (cs:=AF o) fun w2 H=>?_
 simp only[ag]at H;refine H.Dx (i:=0) (ts:=AD) (pre:=[]) (post:=[]) (x:=o) rfl rfl ((gA h (E.tr H.ext) hs bpB).mono ?_);rintro r b w3 ⟨hr,e3⟩;rcases hr with ⟨x,hx,_⟩|⟨_,rfl,rfl⟩
 ·rw[ADS]at hx;cases hx
 refine (H.AB e3).nw (cs:=z6) fun w4 H4=>?_
 simp only[ar,ag]at H4;refine H4.lS (i:=1) (ts:=AD) (pre:=[]) (post:=[]) (x:=Ir) (zs:=z6) rfl rfl rfl fun w5 H5=>?_
 exact Vl.Br.t rfl ⟨rfl,H5.ext⟩
theorem mn {wb:World}(h:OX wb o (Ba p))(E:Ext (fun _=>False) wb w)(hs:Gb (Ba p)=true)(PR:Value->World->Prop):C44 o w (fun r w1=>r=p/\Ext (fun _=>False) w w1) PR:=by
 have hk:=h.out.1.1;rw[fz]at hk;refine T44 o _ _ _ ?_;unfold S44;rw[AR];refine (Hn.start w).nw (cs:=AF o) fun w2 H=>H.nw (cs:=[.int .i64 0,.int .i64 0,.int .i64 0]) fun w3 H=>?_
 simp only[ar,ag,add_lit,aj]at H⊢;by_cases hu:p=us
 ·rw[ak hu]at hk;refine H.ld (x:=o.1) 0 rfl rfl (Vl.Br.t (by rw[hk];rfl) ((Kz w3).mono ?_));rintro r w4 ⟨rfl,e4⟩;have H:=H.AB e4
  iterate 3 (refine H.st 1 rfl (by simp) fun _ H=>?_;simp only[ai,aq]at H)
  iterate 3 refine H.ld 1 rfl rfl ?_
  exact ⟨hu.symm,H.ext⟩
 ·rw[ah hu]at hk;have ht:Ba p=dT (ft p):=by unfold Ba;rw[ah hu]
  rw[ht]at h hs;refine H.ld (x:=o.1) 0 rfl rfl (Vl.Br.f (by rw[hk];rfl) (H.ld (x:=o.1) 0 rfl rfl ((Cd 10 w3 PR (by rw[hk];rfl)).mono ?_ (fun _ _ h=>h))));rintro w4 rfl;have b0:=H.get 0 rfl;have eD:Ext (fun _=>False) w4 w4.drew:=(Ext.refl _ w4).drew;refine ⟨fun v'=>Ext (fun _=>False) w4 v',eD,?_⟩;refine B1.AS (ts:=AD) (pre:=[]) (post:=[]) (x:=o) (fun v' he=>he.AS b0 id) rfl ?_;refine B1.AS (ts:=AD) (pre:=[]) (post:=[]) (x:=o) (fun v' he=>he.AS b0 id) rfl ?_;refine B1.AS (ts:=AD) (pre:=[]) (post:=[]) (x:=o) (fun v' he=>he.AS b0 id) rfl ?_;refine (QN h (E.tr (H.ext.tr eD)) hs (xE p) PR).mono ?_ (fun _ _ h=>h);rintro r1 u1 ⟨rfl,e1⟩;have f1:=eD.tr e1;refine ⟨f1,(QN h (E.tr (H.ext.tr f1)) hs (xG p) PR).mono ?_ (fun _ _ h=>h)⟩;rintro r2 u2 ⟨rfl,e2⟩;have f2:=f1.tr e2;refine ⟨f2,(QN h (E.tr (H.ext.tr f2)) hs (xF p) PR).mono ?_ (fun _ _ h=>h)⟩;rintro r3 u3 ⟨rfl,e3⟩;have H:=H.AB (f2.tr e3)
  iterate 3 (refine H.st 1 rfl (by simp) fun _ H=>?_;simp only[ai,aq]at H)
  iterate 3 refine H.ld 1 rfl rfl ?_
  exact ⟨rfl,H.ext⟩
end
end Fi
namespace Fi
open Sh Vl
theorem Y5 {w:World}{s:AA}{ts:List Tr}(h:VJ w s ts){i:Nat}{t:Tr}(hi:ts[i]?=some t):∃x,OX w x t/\∀(K:AG->Prop),K x->∃a,s.p=some a/\Af w (a.add (i*6)) 0 AD K:=by
 obtain ⟨d,L,hL,hA⟩:=h;obtain ⟨x,hx,hR⟩:=hA.WI hi;exact ⟨x,⟨d,hR⟩,fun K k=>hL.word hx k⟩
theorem gB {w:World}{g:Nat}{x:Ob}{t:Tr}{ty:TypeId}(hb:AO w g (AF x).toArray ty)(h:OX w x t):VJ w ⟨some ⟨g,0,none⟩,1,1⟩ [t]:=by
 obtain ⟨d,hd⟩:=h;exact ⟨d,[x],OV.of (L:=[x]) (by simpa using hb),hd,trivial⟩
theorem xI (w:World):VJ w ⟨none,0,0⟩ []:=⟨1,[],⟨rfl,rfl,fun j v h=>by cases h⟩,trivial⟩
section
variable {w w' w1 w0 v v0:World} {o:Ob} {t X:Tr} {p:P3} {s:AA} {FL:List ByteArray} {AL TL:List P3}
attribute [local irreducible] Ld Sh.St Nw Lt AP Af B1 A6
theorem Na {R:AA->World->Prop}{PR:Value->World->Prop}(h:VJ v0 s (FL.map CK))(h8:FL.length<=8)(hR:∀r w1,KV w1 r FL->(∀j,r.own j->v0.heap.size<=j)->Ext (fun _=>False) v0 w1->R r w1):oO R PR s v0:=by
 unfold oO;have hl:=h.len;rw[bp]at hl;refine ⟨fun n st v=>∃(i:Nat) (sl:AA),st=(sl,(i:Int))/\n=FL.length-i/\i<=FL.length/\Row v sl 9 1 (strs (FL.take i))/\(∀j,sl.own j->v0.heap.size<=j)/\Ext (fun _=>False) v0 v,FL.length,⟨0,⟨none,0,0⟩,rfl,rfl,by omega,Row.nil _ _ _,fun j hj=>absurd hj (Cq j),Ext.refl _ _⟩,?_⟩;rintro n st v ⟨i,sl,rfl,rfl,hi,UK,hO,hE⟩;unfold AAi;have Ga:sl.len=i:=by have:=UK.view.1;rw[K5,au,bo hi]at this;omega
 refine Br.dec (fun q=>?_) fun q=>?_
 ·have q:(i:Int)<((s.len:Nat):Int):=q;have hq:=ad (show i<FL.length by omega);generalize FL[i]=nm at hq;obtain ⟨x,hx,hw⟩:=Y5 (h.AB hE) (i:=i) (t:=CK nm) (by rw[aE,hq];rfl);obtain ⟨⟨q1,_,_,q4⟩,_⟩:=hx.out;dsimp only;rw[aa];refine ⟨by omega,q,hw _ ?_⟩;refine (Hn.start v).nw (cs:=z6) fun w4 H4=>?_
  simp only[ag]at H4;refine H4.lS (i:=0) (ts:=AD) (pre:=[]) (post:=[]) (x:=x) (zs:=z6) rfl rfl rfl fun w5 H5=>?_
  simp only[ai,ag,aM,AR,add_lit,aj]at H5⊢;refine H5.ld (x:=x.1) 0 rfl rfl ((Cd 10 w5 PR (by rw[q1];rfl)).mono ?_ (fun _ _ h=>h));rintro w6 rfl;refine H5.ld (x:=x.2.2.2.1) 0 rfl rfl ?_;rw[show x.2.2.2.1=nm from q4];refine Nw.of ?_;have eB:Ext (fun _=>False) w6 (w6.alloc (.cells #[Value.string nm] 9)):=(Ext.refl _ _).alloc _;have hB:=AO.new w6 [Value.string nm].toArray 9;have hE6:=(hE.tr H5.ext).tr eB;obtain ⟨Bi,u3,r1,r2,r3,e3,r5⟩:=Gt.Ip (ty:=22) ((UK.AB H5.ext fun _ _ h=>h).AB eB fun _ _ h=>h) hB rfl (fun v hv=>by rw[az.1 hv];rfl) (by omega) (by omega);refine ⟨Bi,u3,r1,FL.length-(i+1),by omega,i+1,Bi,by rw[AE (by omega)];rfl,rfl,by omega,?_,fun j hj=>(r5 j hj).elim (hO j) fun h=>by have:=hE6.size;omega,Ac.Ext.IG hE6 e3 fun j hj=>hO j hj⟩;rw[aO,hq,QI];exact r2
 ·have SE:i=FL.length:=by
   have q:¬(i:Int)<((s.len:Nat):Int):=q;omega
  subst SE;rw[bj]at UK;exact hR _ _ (UH UK.view (by omega)) hO hE
theorem oP {wb:World}(h:OX wb o X)(E:Ext (fun _=>False) wb w)(hs:Gb X=true)(hg:CL HM X=if FL=[]then none else some (BI (FL.map CK)))(h8:FL.length<=8)(PR:Value->World->Prop):
  C21 o w (fun r w1=>KV w1 r FL/\(∀j,r.own j->w.heap.size<=j)/\Ext (fun _=>False) w w1) PR:=by
 refine T21 o _ _ _ ?_;unfold S21;rw[AR];refine (Hn.start w).nw (cs:=AF o) fun w2 H=>?_
 simp only[ag]at H;refine H.Dx (i:=0) (ts:=AD) (pre:=[]) (post:=[]) (x:=o) rfl rfl ((gA h (E.tr H.ext) hs HM).mono ?_);rintro r b w3 ⟨hr,e3⟩;refine (H.AB e3).Ro (cs:=z6) fun w4 H4 e34=>?_
 simp only[ar,ag]at H4;refine A6.AS (ts:=AD) (pre:=[]) (zs:=z6) (post:=[]) (x:=r) (H4.get 1 rfl) rfl rfl fun w5 vD Vf=>?_
 simp only[ag,aM]at vD;have H5:=Dh H4 (i:=1) rfl Vf (CU:=AF r) vD;simp only[aq,ai]at H5;simp only[add_lit,aj];refine H5.Dx (i:=1) (ts:=AD) (pre:=[]) (post:=[]) (x:=r) rfl rfl ?_;refine H5.Ro (cs:=AF r) fun w6 H6 e56=>?_
 simp only[ar,ag]at H6;have zH:=H6.size;refine CP.intro ?_;rw[hg]at hr;by_cases hF:FL=[]
 ·rw[ak hF]at hr;rcases hr with ⟨x,hx,_⟩|⟨_,rfl,rfl⟩
  ·cases hx
  refine Vl.Br.t rfl ⟨?_,fun j hj=>absurd hj (Cq j),H6.ext⟩;rw[hF];exact ⟨⟨rfl,by simp⟩,fun i b h=>by simp at h⟩
 ·rw[ah hF]at hr;rcases hr with ⟨x,hx,hX,rfl⟩|⟨hx,_⟩
  rotate_left
  ·cases hx
  obtain rfl:=aY hx
 
  have xJ:OX w6 r (BI (FL.map CK)):=hX.to.AB ((Ac.Ext.IG e34 Vf fun j e=>by have e:j=w3.heap.size:=e;omega).tr e56);refine Vl.Br.f rfl (H6.ld (x:=r.1) 1 rfl rfl ?_);have hk:=xJ.out.1.1;by_cases h1:FL.length=1
  ·match FL,h1 with
   |[n],_=>
    have uy:r.1=5:=hk;refine Br.eq (fun q=>by omega) fun _=>?_
    exact Na (FL:=[n]) (gB (H6.get 2 rfl) xJ) h8 fun r' w1 k1 k2 k3=>⟨k1,fun j hj=>by have:=k2 j hj;omega,H6.ext.tr k3⟩
  ·rw[It (by rw[bp];exact h1)]at xJ hk;have hk6:r.1=6:=hk;refine Br.eq (fun _=>H6.ld (x:=r.2.2.2.2.2) 1 rfl rfl ?_) fun q=>absurd hk6 q
   exact Na xJ.out.2.2 h8 fun r' w1 k1 k2 k3=>⟨k1,fun j hj=>by have:=k2 j hj;omega,H6.ext.tr k3⟩
end
end Fi
end Go.Proofs.YtdmmgclkphaaaaaGreatDoor

/- Joined texts of the proof; conditions stand in each theorem. -/
import Derived.Test.YtdnhhkhbdfiagaaGreatDoorQYLpE1
import Derived.Test.YtdnhhkhbdfiagaaGreatDoorQYLpE6
import Derived.Test.YtdnhhkhbdfiagaaGreatDoorQYLpE3
import Derived.Test.YtdnhhkhbdfiagaaGreatDoorQYLpE5
import Derived.Shelf.Sort.Plain
import Derived.Shelf.Slices.In.SortNone
import Derived.Shelf.Slices.Turned
import Derived.Test.YtdnhhkhbdfiagaaGreatDoorProg
import Derived.Sort.OwnSorted
import Derived.Sort.KeysCollected
import Derived.Test.YtdnhhkhbdfiagaaGreatDoorQYLpE4
import Derived.Laws.CopyRow
import Derived.Lib.AppendZerosOnto
import Derived.Lib.Overlaps
set_option linter.unusedVariables false
set_option linter.unusedSimpArgs false
open Go.IntKind (wrap)
open Go.Proofs.Tryz (prog)
namespace Go.Proofs.YtdnhhkhbdfiagaaGreatDoor
set_option maxRecDepth 100000
set_option maxHeartbeats 4000000
namespace Pc
open Sh Fix Tk Tl Vl Wt
theorem Ji {s:ByteArray}(hs:s.size<=1099511627776){p:Pt}{r:List Pt}{pre rest:By}{a:Nat}(hp:pre=[]\/pre=[10])(hr:∀c,rest.head?=some c->AW c=false)(BS:∀x∈p::r,I3 x)(ha:a<=s.size)(hd:(bl s).drop a=pre++(Af 32 ((p::r).map (·.t))++rest)):
  ∃c,Cj s a (p::r) c/\(bl s).drop c=rest:=by
 have VP:=BS p (aw ..);have hpr:∀q∈r,I3 q:=fun q hq=>BS q (av _ hq)
 rw[aB,Km VP.ne _ (by rintro ⟨h|h,_⟩<;>exact absurd h (by decide))]at hd;obtain ⟨d,tl,K8⟩:∃d tl,p.t=d::tl:=by
  cases K8:p.t with
  |nil=>exact absurd K8 VP.ne
  |cons d tl=>exact ⟨d,tl,rfl⟩
 have hw:D9 d=false:=by simpa[K8]using VP.ws
 have hm:d≠37:=by simpa[K8]using VP.rm
 have key:∃b,a+AP ((bl s).drop a) false=b/\(bl s).drop b=p.t++(Af (p.t.getLastD 0) (r.map (·.t))++rest):=by
  rcases hp with rfl|rfl
  ·refine ⟨a,?_,by rw[hd];simp⟩;rw[hd,K8];simp only[ag,ad,aD];rw[Jj hw hm]
   rfl
  ·refine ⟨a+1,?_,by rw[<-bH,hd];simp⟩;rw[hd,K8];simp only[ag,ad,aD];show a+(1+AP _ false)=a+1;rw[Jj hw hm]
 obtain ⟨b,hb,jx⟩:=key;have hl:=VP.lex s a b _ ha hs hb jx fun h=>OB hpr h hr
 have NG:b+p.t.length<=s.size:=by
  have G7:=GX ha hb;have:=aq List.length jx;rw[aE,ae,AE]at this;omega
 obtain ⟨c,h1,h2⟩:=SA hs hr r (p.t.getLastD 0) (b+p.t.length) hpr NG (by rw[<-bH,jx];exact MQ rfl);exact ⟨c,.cons ha hl VP.k0 h1,h2⟩
theorem Ow {n:Int}{T D:By}(h:Bg n T D)(h0:0<=n):T≠[]/\AW (T.headD 0)=true/\AW (T.getLastD 0)=true:=by
 have BI:=(MP h).1;refine ⟨BI,?_,h.A7 _ (MR BI)⟩;cases hT:T with
 |nil=>exact absurd hT BI
 |cons c r=>exact h.A7 c (by rw[hT];exact aw ..)
theorem mZ:I3 (AY Bv):=GY (by decide+kernel)
theorem ma:I3 (AY HB):=GY (by decide+kernel)
theorem Rt {s:ByteArray}(hs:s.size<=1099511627776){a:Nat}(ha:a<=s.size){num gen:Int}{A DA G DG post:By}{t:Tr}{ps:List Pt}(hA:Bg num A DA)(hG:Bg gen G DG)(hn:1<=num/\num<=8191)(hg:0<=gen/\gen<=65535)(BS:CL 1 t=true)(hp:PT t ps)
  (hd:(bl s).drop a=Ni A G (Af 32 (ps.map (·.t)))++post):∃c,Cj s a (Ax A num::Ax G gen::AY Bv::(ps++[AY HB])) c:=by
 obtain ⟨a1,a2,a3⟩:=Ow hA (by omega);obtain ⟨g1,g2,g3⟩:=Ow hG hg.1;have hj:Af 32 ((Ax A num::[Ax G gen,AY Bv]).map (·.t))=A++32::(G++32::Bv):=by
  show Af 32 [A,G,Bv]=_;rw[Km a1 _ (by rintro ⟨h|h,_⟩<;>exact absurd h (by decide)),Kn g1 _ (.inl a3) g2,Kn (by decide) _ (.inl g3) (by decide)];simp[Af]
 have okA:I3 (Ax A num):=ok_int hA (by omega) (by omega);have okG:I3 (Ax G gen):=ok_int hG (by omega) (by omega);obtain ⟨c1,r1,d1⟩:=Ji (p:=Ax A num) (r:=[Ax G gen,AY Bv]) (pre:=[]) (rest:=10::(Af 32 (ps.map (·.t))++10::101::110::100::111::98::106::10::post)) hs (.inl rfl) (fun c hc=>by cases hc;decide) (fun x hx=>by
  simp only[ar,aF,bp]at hx;rcases hx with rfl|rfl|rfl
  ·exact okA
  ·exact okG
  ·exact mZ) ha (by rw[hd,hj];unfold Ni Bv;simp)
 obtain ⟨p,m,rfl,_⟩:=pO hp;obtain ⟨c2,r2,d2⟩:=Ji (p:=p) (r:=m) (pre:=[10]) (rest:=10::101::110::100::111::98::106::10::post) hs (.inr rfl) (fun c hc=>by cases hc;decide) (fun x hx=>gC t _ BS hp x hx) r1.le.2 (by rw[d1];simp);obtain ⟨c3,r3,d3⟩:=Ji (p:=AY HB) (r:=[]) (pre:=[10]) (rest:=10::post) hs (.inr rfl) (fun c hc=>by cases hc;decide) (fun x hx=>by rw[ao.1 hx];exact ma) r2.le.2 (by rw[d2];rfl);exact ⟨c3,r1.app (r2.app r3)⟩
end Pc
set_option maxRecDepth 512
set_option maxHeartbeats 200000
namespace Pc
open Sh Fix Tk Tl Vl Wt
structure It where
 num:Int
 gen:Int
 t:Tr
 tx:ByteArray
structure Qf (x:It):Prop where
 n:1<=x.num/\x.num<=8191
 g:0<=x.gen/\x.gen<=65535
 ok:CL 1 x.t=true
 k8:x.t.k≠8
 k9:x.t.k≠9
 tx:∃A DA G DG ps,Bg x.num A DA/\Bg x.gen G DG/\PT x.t ps/\bl x.tx=Ni A G (Af 32 (ps.map (·.t)))
 one:wA (bl x.tx)
theorem Qf.it{x:It}(h:Qf x):∃A G J,Qk (bl x.tx) A G J:=by
 obtain ⟨A,DA,G,DG,ps,h1,h2,h3,h4⟩:=h.tx;refine ⟨A,G,Af 32 (ps.map (·.t)),?_⟩;rw[h4];exact AC5 h1 h2 (by have:=h.n;omega) h.g.1 h3
theorem Qf.pos{x:It}(h:Qf x):14<=x.tx.size:=by
 obtain ⟨A,G,J,hI⟩:=h.it;have:=hI.len;rw[AE]at this;omega
def DL (I:List It):Nat:=(I.map fun x=>x.tx.size).sum
def J9 (I:List It):List By:=I.map fun x=>bl x.tx
theorem Wh (I J:List It):DL (I++J)=DL I+DL J:=by
 unfold DL;rw[aP,List.sum_append]
theorem mc (x:It):DL [x]=x.tx.size:=by simp[DL]
theorem LB:∀I:List It,(J9 I).flatten.length=DL I
 |[]=>rfl
 |x::r=>by
  have:=LB r;unfold J9 DL at*;rw[aB,cq,ae,this,aB,b6,AE]
theorem WW (I J:List It):(J9 (I++J)).flatten=(J9 I).flatten++(J9 J).flatten:=by
 unfold J9;rw[aP,List.flatten_append]
def BN:Nat->List It->List BQ
 |_,[]=>[]
 |a,x::r=>(x.num,1,(a:Int),x.gen)::BN (a+x.tx.size) r
theorem IT:∀(I J:List It) (a:Nat),BN a (I++J)=BN a I++BN (a+DL I) J
 |[],J,a=>by simp[BN,DL]
 |x::r,J,a=>by
  rw[ag,BN,IT r J,BN,ag]
  congr 3
  unfold DL;rw[aB,b6];omega
theorem BG:∀(I:List It) (a:Nat),(BN a I).length=I.length
 |[],_=>rfl
 |x::r,a=>by rw[BN,au,BG r,au]
theorem Ja (I:List It)(x:It)(a:Nat):BN a (I++[x])=BN a I++[(x.num,1,((a+DL I:Nat):Int),x.gen)]:=by
 rw[IT]
 rfl
theorem U5 {I:List It}{k:Nat}{x:It}(h:I[k]?=some x):I=I.take k++x::I.drop (k+1):=by
 obtain ⟨hk,rfl⟩:=al.1 h;rw[<-cm hk,aT]
theorem MS {I:List It}{k a:Nat}{x:It}(h:I[k]?=some x):(BN a I)[k]?=some (x.num,1,((a+DL (I.take k):Nat):Int),x.gen):=by
 have hk:=(al.1 h).1
 conv=>lhs;rw[U5 h]
 rw[IT,aM (by rw[BG,aC];omega),BG,aC,show k-min k I.length=0 by omega]
 rfl
theorem Yd (I:List It)(k a:Nat):BN a (I.take k)=(BN a I).take k:=by
 conv=>rhs;rw[<-aT k I,IT]
 by_cases h:k<=I.length
 ·rw[cj (by rw[BG,aC];omega)]
 ·rw[aU (by omega:I.length<=k),bY (by omega),BN,aX,aU (by rw[BG];omega)]
theorem EO {I:List It}{k:Nat}{x:It}(h:I[k]?=some x):DL (I.take (k+1))=DL (I.take k)+x.tx.size:=by
 rw[bC,h,Wh];show _+DL [x]=_;rw[mc]
theorem VQ {I:List It}(hG:∀x∈I,Qf x){j k:Nat}(hjk:j<k)(hk:k<=I.length):DL (I.take j)<DL (I.take k):=by
 obtain ⟨d,rfl⟩:∃d,k=j+1+d:=⟨k-j-1,by omega⟩
 induction d with
 |zero=>
  have hj:=ah (show j<I.length by omega);have:=(hG _ (ax hj)).pos;rw[Nat.add_zero,EO hj];omega
 |succ d ih=>
  have hj:=ah (show j+1+d<I.length by omega);have:=(hG _ (ax hj)).pos;have:=ih (by omega) (by omega);rw[show j+1+(d+1)=j+1+d+1 by omega,EO hj];omega
theorem wH (I:List It)(k:Nat):DL (I.take k)<=DL I:=by
 conv=>rhs;rw[<-aT k I,Wh]
 omega
theorem drop_at {s:ByteArray}{I:List It}(hs:bl s=(J9 I).flatten){k:Nat}{x:It}(h:I[k]?=some x):(bl s).drop (DL (I.take k))=bl x.tx++(J9 (I.drop (k+1))).flatten:=by
 have e:(J9 I).flatten=(J9 (I.take k)).flatten++(J9 (x::I.drop (k+1))).flatten:=by rw[<-WW,<-U5 h]
 rw[hs,e,<-LB (I.take k),List.drop_left]
 rfl
theorem Pl {s:ByteArray}{I:List It}(hs:bl s=(J9 I).flatten):s.size=DL I:=by
 rw[<-AE,hs,LB]
theorem fQ {s:ByteArray}{I:List It}(hs:bl s=(J9 I).flatten)(hl:s.size<=549755813888)(hG:∀x∈I,Qf x){k:Nat}{x:It}(h:I[k]?=some x):
  ∃A G ps c,PT x.t ps/\Cj s (DL (I.take k)) (Ax A x.num::Ax G x.gen::AY Bv::(ps++[AY HB])) c:=by
 have hx:=hG x (ax h);obtain ⟨A,DA,G,DG,ps,h1,h2,h3,h4⟩:=hx.tx;have:=wH I k;have:=Pl hs;obtain ⟨c,hc⟩:=Rt (s:=s) (by omega) (a:=DL (I.take k)) (by omega) h1 h2 hx.n hx.g hx.ok h3 (by rw[drop_at hs h,h4]);exact ⟨A,G,ps,c,h3,hc⟩
theorem gD {s:ByteArray}{I:List It}(hs:bl s=(J9 I).flatten)(hG:∀x∈I,Qf x){k:Nat}{x:It}(h:I[k]?=some x):∃d,(bl s)[DL (I.take k)]?=some d/\BF d:=by
 obtain ⟨A,G,J,hI⟩:=(hG x (ax h)).it;obtain ⟨d,hd,G9⟩:=hI.first
 refine ⟨d,?_,G9⟩;have:=aq (fun l:By=>l[0]?) (drop_at hs h);simp only[bI,Nat.add_zero]at this;rw[this,aI (al.1 hd).1,hd]
theorem me {s:ByteArray}{I:List It}(hs:bl s=(J9 I).flatten)(hG:∀x∈I,Qf x){k:Nat}{x:It}(h:I[k]?=some x):DL (I.take k)=0\/(bl s)[DL (I.take k)-1]?=some 10:=by
 have hk:=(al.1 h).1;cases k with
 |zero=>exact .inl rfl
 |succ k=>
  refine .inr ?_;have hy:=ah (show k<I.length by omega);generalize I[k]=y at hy;obtain ⟨A,G,J,hI⟩:=(hG y (ax hy)).it;have hl:=hI.len;have fu:=hI.last;rw[AE]at hl;rw[EO hy];have:=aq (fun l:By=>l[y.tx.size-1]?) (drop_at hs hy);simp only[bI]at this;rw[show DL (I.take k)+y.tx.size-1=DL (I.take k)+(y.tx.size-1) by omega,this,aI (by rw[AE];omega),show y.tx.size-1=A.length+G.length+J.length+13 by omega,fu]
theorem gE {I:List It}{a:Nat}(h:∀j,j<I.length->a≠DL (I.take j)){DO:List By}{t:By}{Bi:List By}(e:J9 I=DO++t::Bi):a≠DO.flatten.length:=by
 have hl:=aq List.length e;rw[J9,bc,ae,au]at hl;have:DO=J9 (I.take DO.length):=by
  have:=aq (List.take DO.length) e;rw[List.take_left]at this
  conv=>lhs;rw[<-this]
  unfold J9;rw[List.map_take]
 have h2:=h DO.length (by omega);rw[this,LB];exact h2
theorem AC8 {I:List It}(hG:∀x∈I,Qf x):∀t∈J9 I,Zs t:=fun t ht=>by
 obtain ⟨x,hx,rfl⟩:=bx.1 ht;exact ⟨(hG x hx).it,(hG x hx).one⟩
structure OC (I:List It) (i k:Nat):Prop where
 le:k<=I.length
 lo:∀j,j<k->DL (I.take j)<i
 hi:k<I.length->i<=DL (I.take k)
theorem OC.zero(I:List It):OC I 0 0:=⟨bJ _,fun j h=>by omega,fun _=>bJ _⟩
theorem OC.hit{I:List It}(hG:∀x∈I,Qf x){i k:Nat}(h:OC I i k)(hk:k<I.length)(e:i=DL (I.take k)):OC I (i+1) (k+1):=
 ⟨hk,fun j hj=>by
  rcases b9 j k with h1|h1
  ·have:=h.lo j h1;omega
  ·obtain rfl:j=k:=by omega
   omega,fun Xe=>by have:=VQ hG (show k<k+1 by omega) hk;omega⟩
theorem OC.mf{I:List It}{i k:Nat}(h:OC I i k)(hn:k<I.length->i≠DL (I.take k)):OC I (i+1) k:=
 ⟨h.le,fun j hj=>by have:=h.lo j hj;omega,fun hk=>by have:=h.hi hk;have:=hn hk;omega⟩
theorem OC.no{I:List It}(hG:∀x∈I,Qf x){i k:Nat}(h:OC I i k)(hn:k<I.length->i≠DL (I.take k)):∀j,j<I.length->i≠DL (I.take j):=fun j hj=>by
 rcases Nat.lt_trichotomy j k with h1|rfl|h1
 ·have:=h.lo j h1;omega
 ·exact hn hj
 ·have:=h.hi (by omega);have:=VQ hG h1 (by omega);omega
theorem OC.done{I:List It}(hG:∀x∈I,Qf x){k:Nat}(h:OC I (DL I) k):k=I.length:=by
 rcases b9 k I.length with h1|h1
 ·have:=h.hi h1;have h2:=VQ hG h1 (az _);rw[bf]at h2;omega
 ·have:=h.le;omega
end Pc
namespace Pc
open Sh Fix Tk Tl Vl Wt
def Wi (F:List BQ):Prop:=∀(i:Nat) (x y:BQ),F[i]?=some x->F[i+1]?=some y->x.1<y.1
theorem Wj {F:List BQ}(hr:Wi F):∀(d i:Nat) (x y:BQ),F[i]?=some x->F[i+d+1]?=some y->x.1<y.1:=by
 intro d
 induction d with
 |zero=>exact fun i x y h1 h2=>hr i x y h1 h2
 |succ d ih=>
  intro i x y h1 h2;have hl:=(al.1 h2).1;have hm:=ah (show i+d+1<F.length by omega);have:=ih i x _ h1 hm;have:=hr (i+d+1) _ y hm h2;omega
theorem mg {F:List BQ}(hr:Wi F){i j:Nat}{x y:BQ}(hi:F[i]?=some x)(hj:F[j]?=some y)(e:y.1=x.1):y=x:=by
 rcases Nat.lt_trichotomy i j with h|h|h
 ·have:=Wj hr (j-i-1) i x y hi (by rw[show i+(j-i-1)+1=j by omega];exact hj);omega
 ·subst h;rw[hi]at hj;exact (aQ hj).symm
 ·have:=Wj hr (i-j-1) j y x hj (by rw[show j+(i-j-1)+1=i by omega];exact hi);omega
theorem Yp {F:List BQ}(hr:Wi F){i:Nat}{x:BQ}(hi:F[i]?=some x):F.find? (fun y=>y.1==x.1)=some x:=by
 cases hf:F.find? (fun y=>y.1==x.1)with
 |none=>
  rw[cL]at hf;exact absurd (by simp) (hf x (ax hi))
 |some y=>
  have h1:y.1=x.1:=by simpa using List.find?_some hf
  obtain ⟨j,hj⟩:=aZ (List.mem_of_find?_eq_some hf);rw[mg hr hi hj h1]
def MG (I:List It):Prop:=∀(i:Nat) (x y:It),I[i]?=some x->I[i+1]?=some y->x.num<y.num
theorem OD {I:List It}(h:MG I)(a:Nat):Wi (BN a I):=fun i x y hx hy=>by
 have hl:=(al.1 hy).1;rw[BG]at hl;have h1:=ah (show i<I.length by omega);have h2:=ah hl;rw[MS h1]at hx;rw[MS h2]at hy;cases hx;cases hy;exact h i _ _ h1 h2
def MH (I:List It)(k:Nat)(x:It):BQ:=(x.num,1,((DL (I.take k):Nat):Int),x.gen)
theorem GV {I:List It}{k:Nat}{x:It}(h:I[k]?=some x):(BN 0 I)[k]?=some (MH I k x):=by
 rw[MS h,ak]
 rfl
theorem Ye {L:List It}(hr:MG L){k:Nat}{x:It}(h:L[k]?=some x):(BN 0 L).find? (fun y=>y.1==x.num)=some (MH L k x):=Yp (OD hr 0) (GV h)
theorem fR {L:List It}{z:It}(hr:MG L){G:List BQ}(hG:(G.map BK).Perm ((G1 (BN 0 (L++[z]))).map (·.2))){k:Nat}{x:It}(h:L[k]?=some x):
  ∃y,G.find? (fun y=>y.1==x.num)=some y/\(x.num≠z.num->y=MH L k x):=by
 have h1:=LA (F:=BN 0 L) (z:=(z.num,1,((0+DL L:Nat):Int),z.gen)) (OD hr 0) (GV h);rw[N9 hG,Ja];have h1:FM (BN 0 L++[(z.num,1,((0+DL L:Nat):Int),z.gen)]) x.num=if z.num=x.num then some (z.num,1,((0+DL L:Nat):Int),z.gen)else some (MH L k x):=h1
 by_cases he:z.num=x.num
 ·rw[aG he]at h1;exact ⟨_,h1,fun hn=>absurd he.symm hn⟩
 ·rw[aA he]at h1;exact ⟨_,h1,fun _=>rfl⟩
theorem Yf {L:List It}{z:It}{G:List BQ}(hG:(G.map BK).Perm ((G1 (BN 0 (L++[z]))).map (·.2))):G.find? (fun y=>y.1==z.num)=some (MH (L++[z]) L.length z):=by
 rw[N9 hG,Ja];have:=fz (BN 0 L) (z.num,1,((0+DL L:Nat):Int),z.gen);have h2:FM (BN 0 L++[(z.num,1,((0+DL L:Nat):Int),z.gen)]) z.num=some (z.num,1,((0+DL L:Nat):Int),z.gen):=this;rw[h2];unfold MH;rw[List.take_left,ak]
end Pc
set_option maxRecDepth 100000
set_option maxHeartbeats 4000000
namespace Wt
open Sh Fix Tk Tl Vl
abbrev jd (e:Int):Value:= .iface 88 (.agg #[.int .i64 e])
def QU (w:World)(b:Nat)(s:ByteArray)(x:Int):Prop:=AN w b #[.string s,.int .i64 x] 142
theorem QU.AB{w w1:World}{b:Nat}{s:ByteArray}{x:Int}{F:Nat->Prop}(h:QU w b s x)(he:Ext F w w1)(hn:¬F b):QU w1 b s x:=he.AR h hn
def Xc (w:World)(b:Nat)(Q:Prop)(v:Value)(w1:World):Prop:=Q/\(∃e,v=jd e/\e≠0)/\Ext (·=b) w w1
section
variable {w0 w w1 W:World} {b:Nat} {s:ByteArray} {a c:Nat} {v:Value} {R1:TT->Int->Prop}
attribute [local irreducible] Ld Sh.St Nw Nn AU Ae Am BW
theorem Bt (c:Bool)(e:Int)(w:World){R:World->Prop}{PR:Value->World->Prop}(h1:c=true->R w)(h2:c=false->PR (jd e) w):Kj c e w R PR:=by
 refine T38 _ _ _ _ _ ?_;unfold S38;cases c
 ·exact Br.t rfl (h2 rfl)
 ·exact Br.f rfl (h1 rfl)
theorem Oi (x:TT)(e:Int)(w:World){R:TT->World->Prop}{PR:Value->World->Prop}(h1:e=0->∀w1,Ext (fun _=>False) w w1->R x w1)(h2:e≠0->∀w1,Ext (fun _=>False) w w1->PR (jd e) w1):
  Zm x e w R PR:=by
 refine AFA _ _ _ _ _ ?_;unfold zL;refine (Hx.start w (fun _=>False)).nw fun w2 H=>?_
 have hg:=H.size;refine H.nw fun w3 H=>?_
 simp only[ad,ag,add_lit,ak]at H⊢;refine Bt _ _ _ (fun h=>?_) fun h=>?_
 ·iterate 5 refine H.ld 0 rfl rfl ?_
  iterate 5 (refine H.st 1 rfl (by simp) (.inr hg) fun _ H=>?_;simp only[af,aa,ab]at H)
  iterate 5 refine H.ld 1 rfl rfl ?_
  exact h1 (by simpa using h) _ H.ext
 ·exact h2 (by simpa using h) _ H.ext
theorem Tc (hb:QU w b s (a:Int))(hn:CN s a R1):
  Xd (some ⟨b,0,none⟩) w (fun r w1=>R1 r 0/\r.1≠0/\QU w1 b s r.2.2.1/\Ext (·=b) w w1) (Xc w b (∃r e,R1 r e/\(e≠0\/r.1=0))):=by
 refine AFB _ _ _ _ ?_;unfold zM;have NG:=AN.lt hb;refine (Hx.one (F:=(·=b)) hb).nw fun w2 H=>?_
 simp only[ad,ag,add_lit,ak]at H⊢;refine ⟨fun st v=>∃(k:Nat) (r:TT),w.heap.size<=k/\st=⟨k,0,none⟩/\R1 r 0/\Hx w (·=b) v [(b,#[.string s,.int .i64 (a:Int)],142),(w.heap.size,tk0,148),(k,oM r,148)],?_,?_⟩
 ·rintro st v ⟨k,r,Xe,rfl,hr,H⟩;unfold Zn;refine H.ld 2 rfl rfl (Bt _ _ _ (fun h=>H.ld 2 rfl rfl (Nn.of ?_)) fun h=>?_)
  ·simp only[add_lit,ak];refine H.st 0 rfl (by simp) (.inl rfl) fun v2 H=>?_
   simp only[af,aa,ab]at H
   iterate 5 refine H.ld 2 rfl rfl ?_
   iterate 5 (refine H.st 1 rfl (by simp) (.inr (az _)) fun _ H=>?_;simp only[af,aa,ab]at H)
   iterate 5 refine H.ld 1 rfl rfl ?_
   exact ⟨hr,by simpa using h,H.get 0 rfl,H.ext⟩
  ·exact ⟨⟨r,0,hr,.inr (by simpa using h)⟩,⟨4,rfl,by decide⟩,H.ext⟩
 ·refine ⟨fun v=>AN v b #[.string s,.int .i64 (a:Int)] 142,H.drew.get 0 rfl,Nn.of (AU.of (fun _ h=>h) rfl (Nn.of (AU.of (fun _ h=>h) rfl ⟨?_,?_⟩)))⟩
  ·refine (hn _).mono ?_;rintro r e w3 ⟨hr,e3⟩;have H:=H.drew.AB e3;refine ⟨?_,?_⟩
   ·refine Oi _ _ _ (fun h0 w4 e4=>?_) fun h0 w4 e4=>⟨⟨r,e,hr,.inl h0⟩,⟨e,rfl,h0⟩,(H.AB e4).ext⟩
    have H:=H.AB e4;have hs:=H.size;refine H.nw fun w5 H=>?_
    simp only[ad,ag]at H
    iterate 5 (refine H.st 2 rfl (by simp) (.inr hs) fun _ H=>?_;simp only[af,aa,ab]at H)
    subst h0;exact ⟨_,r,hs,rfl,hr,H⟩
   ·have hs:=H.size;refine H.nw fun w4 H=>?_
    simp only[ad,ag]at H;refine Oi _ _ _ (fun h0 w5 e5=>?_) fun h0 w5 e5=>⟨⟨r,e,hr,.inl h0⟩,⟨e,rfl,h0⟩,(H.AB e5).ext⟩
    have H:=H.AB e5
    iterate 5 (refine H.st 2 rfl (by simp) (.inr hs) fun _ H=>?_;simp only[af,aa,ab]at H)
    subst h0;exact ⟨_,r,hs,rfl,hr,H⟩
  ·have H:=H.drew;have hs:=H.size;refine H.nw fun w3 H=>⟨H.get 0 rfl,(hn _).mono ?_⟩
   rintro r e w4 ⟨hr,e4⟩;have H:=H.AB e4;simp only[ad,ag]at H;refine Oi _ _ _ (fun h0 w5 e5=>?_) fun h0 w5 e5=>⟨⟨r,e,hr,.inl h0⟩,⟨e,rfl,h0⟩,(H.AB e5).ext⟩
   have H:=H.AB e5
   iterate 5 (refine H.st 2 rfl (by simp) (.inr hs) fun _ H=>?_;simp only[af,aa,ab]at H)
   subst h0;exact ⟨_,r,hs,rfl,hr,H⟩
def FR (low high:Int)(r:TT)(e:Int):Prop:=e=0/\r.1=1/\low<=r.2.2.2.1/\r.2.2.2.1<=high
theorem Qn (low high:Int)(hb:QU w b s (a:Int))(hn:CN s a R1):
  j7 (some ⟨b,0,none⟩) low high w (fun n w1=>∃r,R1 r 0/\FR low high r 0/\n=r.2.2.2.1/\QU w1 b s r.2.2.1/\Ext (·=b) w w1) (Xc w b (∃r e,R1 r e/\¬FR low high r e)):=by
 refine AFC _ _ _ _ _ _ ?_;unfold zN;refine (Tc hb hn).mono ?_ ?_
 ·rintro r w2 ⟨hr,h0,G7,e2⟩;have NG:=AN.lt hb;have hs0:=e2.size;have H:Hx w (·=b) w2 [(b,#[.string s,.int .i64 r.2.2.1],142)]:=(Hx.one (F:=(·=b)) hb).G8 0 rfl G7 e2 (.inl rfl);refine H.nw fun w3 H=>?_
  simp only[ad,ag,add_lit,ak]at H⊢
  iterate 5 (refine H.st 1 rfl (by simp) (.inr hs0) fun _ H=>?_;simp only[af,aa,ab]at H)
  have bad:∀{v:World} (e:Int),e≠0->¬FR low high r 0->Hx w (·=b) v [(b,#[.string s,.int .i64 r.2.2.1],142),(w2.heap.size,oM r,148)]->Xc w b (∃r e,R1 r e/\¬FR low high r e) (jd e) v:=fun e he h H=>⟨⟨r,0,hr,h⟩,⟨e,rfl,he⟩,H.ext⟩
  refine H.ld 1 rfl rfl (Bt _ _ _ (fun h1=>H.ld 1 rfl rfl ?_) fun h1=>bad 3 (by decide) (fun g=>by simp[g.2.1]at h1) H);have h1:r.1=1:=by simpa using h1
  refine Br.dec (fun hl=>H.ld 1 rfl rfl (Bt _ _ _ (fun h2=>H.ld 1 rfl rfl ?_) fun h2=>bad 2 (by decide) (fun g=>by simp[g.2.2.2]at h2) H)) fun hl=>Bt _ _ _ (fun h=>by cases h) fun _=>bad 2 (by decide) (fun g=>hl g.2.2.1) H
  exact ⟨r,hr,⟨rfl,h1,hl,by simpa using h2⟩,rfl,H.get 0 rfl,H.ext⟩
 ·rintro v w2 ⟨⟨r,e,hr,hq⟩,h2,h3⟩;exact ⟨⟨r,e,hr,fun g=>hq.elim (fun h=>h g.1) fun h=>absurd (h.symm.trans g.2.1) (by decide)⟩,h2,h3⟩
def Jy (t:ByteArray)(r:TT)(e:Int):Prop:=e=0/\r.1=5/\r.2.2.2.2.toList=t.toList
theorem qB (t:ByteArray)(hb:QU w b s (a:Int))(hn:CN s a R1):
  qC (some ⟨b,0,none⟩) t w (fun w1=>∃r,R1 r 0/\Jy t r 0/\QU w1 b s r.2.2.1/\Ext (·=b) w w1) (Xc w b (∃r e,R1 r e/\¬Jy t r e)):=by
 refine AFD _ _ _ _ _ ?_;unfold zO;refine (Tc hb hn).mono ?_ ?_
 ·rintro r w2 ⟨hr,h0,G7,e2⟩;have NG:=AN.lt hb;have hs0:=e2.size;have H:Hx w (·=b) w2 [(b,#[.string s,.int .i64 r.2.2.1],142)]:=(Hx.one (F:=(·=b)) hb).G8 0 rfl G7 e2 (.inl rfl);refine H.nw fun w3 H=>?_
  simp only[ad,ag,add_lit,ak]at H⊢
  iterate 5 (refine H.st 1 rfl (by simp) (.inr hs0) fun _ H=>?_;simp only[af,aa,ab]at H)
  have bad:∀{v:World},¬Jy t r 0->Hx w (·=b) v [(b,#[.string s,.int .i64 r.2.2.1],142),(w2.heap.size,oM r,148)]->Xc w b (∃r e,R1 r e/\¬Jy t r e) (jd 3) v:=fun h H=>⟨⟨r,0,hr,h⟩,⟨3,rfl,by decide⟩,H.ext⟩
  refine H.ld 1 rfl rfl (Br.eq (fun h5=>H.ld 1 rfl rfl (Bt _ _ _ (fun h2=>?_) fun h2=>bad (fun g=>by simp[g.2.2]at h2) H)) fun h5=>Bt _ _ _ (fun h=>by cases h) fun _=>bad (fun g=>h5 g.2.1) H);exact ⟨r,hr,⟨rfl,h5,by simpa using h2⟩,H.get 0 rfl,H.ext⟩
 ·rintro v w2 ⟨⟨r,e,hr,hq⟩,h2,h3⟩;exact ⟨⟨r,e,hr,fun g=>hq.elim (fun h=>h g.1) fun h=>absurd (h.symm.trans g.2.1) (by decide)⟩,h2,h3⟩
end
end Wt
namespace Wt
open Sh Fix Tk Tl Vl
theorem Fo {F:Nat->Prop}{a b c:World}(h:Ext F a b)(k:Ext F b c):Ext F a c:=h.trans k (fun _ h=>h) fun _ _ h=>h
abbrev Oj:ByteArray:=⟨#[111,98,106]⟩
def Zo (R1:TT->Int->Prop)(R2:TT->TT->Int->Prop)(R3:TT->TT->TT->Int->Prop)(r q u:TT):Prop:=(R1 r 0/\FR 1 8191 r 0)/\(R2 r q 0/\FR 0 65535 q 0)/\R3 r q u 0/\Jy Oj u 0
def Vu (R1:TT->Int->Prop)(R2:TT->TT->Int->Prop)(R3:TT->TT->TT->Int->Prop):Prop:=
 (∃r e,R1 r e/\¬FR 1 8191 r e)\/(∃r q e,(R1 r 0/\FR 1 8191 r 0)/\R2 r q e/\¬FR 0 65535 q e)\/∃r q u e,(R1 r 0/\FR 1 8191 r 0)/\(R2 r q 0/\FR 0 65535 q 0)/\R3 r q u e/\¬Jy Oj u e
structure Zp (s:ByteArray) (a:Nat) (R1:TT->Int->Prop) (R2:TT->TT->Int->Prop) (R3:TT->TT->TT->Int->Prop):Prop where
 n1:CN s a R1
 n2:∀r,R1 r 0->FR 1 8191 r 0->∃n:Nat,r.2.2.1=(n:Int)/\CN s n (R2 r)
 n3:∀r q,R1 r 0->FR 1 8191 r 0->R2 r q 0->FR 0 65535 q 0->∃n:Nat,q.2.2.1=(n:Int)/\CN s n (R3 r q)
section
variable {w0 w w1 W:World} {b:Nat} {s:ByteArray} {a c:Nat} {t:TypeId} {v:Value} {R1:TT->Int->Prop} {R2:TT->TT->Int->Prop} {R3:TT->TT->TT->Int->Prop}
attribute [local irreducible] Ld Sh.St Nw Nn AU Ae Am BW
theorem Zq (hb:QU w b s (a:Int))(h:Zp s a R1 R2 R3):
  yB (some ⟨b,0,none⟩) w (fun n g w1=>∃r q u,Zo R1 R2 R3 r q u/\n=r.2.2.2.1/\g=q.2.2.2.1/\QU w1 b s u.2.2.1/\Ext (·=b) w w1) (Xc w b (Vu R1 R2 R3)):=by
 refine T93 _ _ _ _ ?_;unfold S93;refine (Qn 1 8191 hb h.n1).mono ?_ ?_
 ·rintro n w2 ⟨r,hr,hg,rfl,G7,e2⟩;obtain ⟨n,hn,h2⟩:=h.n2 r hr hg;rw[hn]at G7;refine (Qn 0 65535 G7 h2).mono ?_ ?_
  ·rintro m w3 ⟨q,hq,zP,rfl,Qo,e3⟩;obtain ⟨m,hm,h3⟩:=h.n3 r q hr hg hq zP;rw[hm]at Qo;refine (qB _ Qo h3).mono ?_ ?_
   ·rintro w4 ⟨u,hu,hgu,hb4,e4⟩;exact ⟨r,q,u,⟨⟨hr,hg⟩,⟨hq,zP⟩,hu,hgu⟩,rfl,rfl,hb4,Fo (Fo e2 e3) e4⟩
   ·rintro v w4 ⟨⟨u,e,hu,hgu⟩,h2,h3⟩;exact ⟨.inr (.inr ⟨r,q,u,e,⟨hr,hg⟩,⟨hq,zP⟩,hu,hgu⟩),h2,Fo (Fo e2 e3) h3⟩
  ·rintro v w3 ⟨⟨q,e,hq,zP⟩,h2,h3⟩;exact ⟨.inr (.inl ⟨r,q,e,⟨hr,hg⟩,hq,zP⟩),h2,Fo e2 h3⟩
 ·rintro v w2 ⟨⟨r,e,hr,hg⟩,h2,h3⟩;exact ⟨.inl ⟨r,e,hr,hg⟩,h2,h3⟩
theorem Qp {x e:Int}(hb:AN w b #[.int .i64 x] t):j8 (jd e) (some ⟨b,0,none⟩) w (fun w1=>AN w1 b #[.int .i64 e] t/\Ext (·=b) w w1) fun _ _=>False:=by
 refine j9 _ _ _ _ _ ?_;unfold Vv;have NG:=AN.lt hb;refine (Hx.one (F:=(·=b)) hb).nw fun w2 H=>?_
 simp only[ad,ag,add_lit,ak]at H⊢;refine H.st 1 rfl (by simp) (.inr (az _)) fun w3 H=>?_
 simp only[af,aa,ab]at H;refine H.ld 1 rfl rfl (Nn.of (H.st 0 rfl (by simp) (.inl rfl) fun w4 H=>?_));simp only[af,aa,ab]at H;exact ⟨H.get 0 rfl,H.ext⟩
theorem Vw (ha:a<=s.size)(h:Zp s a R1 R2 R3)(w:World):
  qD s (a:Int) w fun n g x e w1=>((e=0/\∃r q u,Zo R1 R2 R3 r q u/\n=r.2.2.2.1/\g=q.2.2.2.1/\x=u.2.2.1)\/(e≠0/\Vu R1 R2 R3))/\Ext (fun _=>False) w w1:=by
 refine T56 _ _ _ _ ?_;unfold S56;refine (Hx.start w (fun _=>False)).nw fun w2 H=>?_
 have g1:=H.size;refine H.nw fun w3 H=>?_
 have g2:=H.size;refine H.nw fun w4 H=>?_
 have g3:=H.size;refine H.nw fun w5 H=>?_
 have g4:=H.size;simp only[ad,ag,add_lit,ak]at H⊢;have l0:=AN.lt (H.get 0 rfl);have l1:=AN.lt (H.get 1 rfl);have l2:=AN.lt (H.get 2 rfl);have l3:=AN.lt (H.get 3 rfl);refine T92 _ _ _ _ _ ?_;unfold S92;refine Br.dec (fun _=>Bt _ _ _ (fun _=>?_) fun h=>absurd h (by simp;omega)) fun h=>absurd (show (a:Int)>=0 by omega) h
 have H0:=H;refine H.JC fun w6 H e6=>?_
 simp only[ad,ag]at H;refine (Zq (H.get 4 rfl) h).mono ?_ ?_
 ·rintro n g w7 ⟨r,q,u,hG,rfl,rfl,hb,e7⟩;have H:=H.G8 4 rfl hb e7 (.inr g4);simp only[aa,ab]at H;refine H.st 0 rfl (by simp) (.inr (az _)) fun w8 H=>?_
  simp only[af,aa,ab]at H;refine H.st 1 rfl (by simp) (.inr g1) fun w9 H=>?_
  simp only[af,aa,ab]at H;refine ⟨fun v=>AN v w.heap.size #[.int .i64 r.2.2.2.1] 3/\AN v w2.heap.size #[.int .i64 q.2.2.2.1] 3/\AN v w5.heap.size #[.string s,.int .i64 u.2.2.1] 142,⟨H.drew.get 0 rfl,H.drew.get 1 rfl,H.drew.get 4 rfl⟩,AU.of (fun _ h=>h.1) rfl (AU.of (fun _ h=>h.2.1) rfl (Nn.of (AU.of (fun _ h=>h.2.2) rfl ?_)))⟩;have H:=H.drew;refine H.st 0 rfl (by simp) (.inr (az _)) fun yC H=>?_
  simp only[af,aa,ab]at H;refine ⟨⟨H.get 0 rfl,H.get 1 rfl,H.get 4 rfl⟩,H.st 1 rfl (by simp) (.inr g1) fun w11 H=>?_⟩;simp only[af,aa,ab]at H;refine ⟨⟨H.get 0 rfl,H.get 1 rfl,H.get 4 rfl⟩,H.st 2 rfl (by simp) (.inr g2) fun qE H=>?_⟩;simp only[af,aa,ab]at H;refine H.st 3 rfl (by simp) (.inr g3) fun w13 H=>?_
  simp only[af,aa,ab]at H;refine kA _ _ _ _ _ _ ?_;unfold Ol;refine Kk _ _ _ _ ?_;unfold Ht;refine H.ld 3 rfl rfl (Br.f rfl ?_);refine H.ld 0 rfl rfl (H.ld 1 rfl rfl (H.ld 2 rfl rfl (H.ld 3 rfl rfl ?_)));exact ⟨.inl ⟨rfl,r,q,u,hG,rfl,rfl,rfl⟩,H.ext⟩
 ·rintro v w7 ⟨hB,⟨e,rfl,he⟩,e7⟩;have H:=(H0.AB e6).other e7 (fun j hj hm=>by
   have hj:j=w5.heap.size:=hj;simp only[aB,bj,ar,aF,bp]at hm;omega) fun j hj=> .inr (by have hj:j=w5.heap.size:=hj;omega)
  unfold qF;refine kB _ _ _ _ _ _ _ ?_;unfold Om;refine (Qp (H.get 3 rfl)).mono ?_ fun _ _ h=>h
  rintro w8 ⟨hb8,e8⟩;have H:=H.G8 3 rfl hb8 e8 (.inr g3);simp only[aa,ab]at H;refine H.ld 3 rfl rfl (Br.t (by simpa using he) ?_);refine H.st 0 rfl (by simp) (.inr (az _)) fun w9 H=>?_
  simp only[af,aa,ab]at H;refine H.st 1 rfl (by simp) (.inr g1) fun yC H=>?_
  simp only[af,aa,ab]at H;refine H.st 2 rfl (by simp) (.inr g2) fun w11 H=>?_
  simp only[af,aa,ab]at H;refine H.ld 0 rfl rfl (H.ld 1 rfl rfl (H.ld 2 rfl rfl (H.ld 3 rfl rfl ?_)));exact ⟨.inr ⟨he,hB⟩,H.ext⟩
end
end Wt
set_option maxRecDepth 512
set_option maxHeartbeats 200000
namespace Pc
open Sh Fix Tk Tl Vl Wt
theorem gB {l T rest:By}{a b:Nat}(hb:b=a+AP (l.drop a) false)(hd:l.drop b=T++rest)(hr:∀c,rest.head?=some c->AW c=false)(BI:T≠[])(hT:∀c∈T,AW c=true):NV l a b (b+T.length):=by
 have hl:=aq List.length hd;have hp:=cg.2 BI;rw[aE,ae]at hl;have g:∀i,l[b+i]?=(T++rest)[i]?:=fun i=>by rw[<-hd,bI]
 refine ⟨hb,by omega,by omega,fun i h1 h2=>?_,fun c hc=>?_⟩
 ·have hi:i-b<T.length:=by omega
  refine ⟨T[i-b],?_,hT _ (cJ hi)⟩;have:=g (i-b);rw[show b+(i-b)=i by omega,aI hi,ah hi]at this;exact this
 ·rw[g,aM (az _),Nat.sub_self]at hc;exact hr c (List.head?_eq_getElem?▸hc)
theorem kD {s:ByteArray}{a:Nat}{r:TT}(h:pM s a r 0)(h1:r.1=1):∃b e:Nat,NV (bl s) a b e/\r.2.2.1=(e:Int):=by
 obtain ⟨b,T,rest,n,hb,hd,hr,BI,hT,rfl⟩:=h rfl h1;exact ⟨b,_,gB hb hd hr BI hT,rfl⟩
theorem AFI {s:ByteArray}{a:Nat}{r:TT}(h:pL s a r 0)(h5:r.1=5)(hS:bl r.2.2.2.2=Bv):∃b:Nat,NV (bl s) a b (b+3)/\(bl s)[b]?=some 111/\(bl s)[b+1]?=some 98/\(bl s)[b+2]?=some 106:=by
 obtain ⟨b,T,rest,hb,hd,hr,hw,rfl⟩:=h rfl h5;have hT:T=Bv:=(Bp T).symm.trans hS;subst hT;have g:∀i,(bl s)[b+i]?=(Bv++rest)[i]?:=fun i=>by rw[<-hd,bI]
 exact ⟨b,gB hb hd hr (by decide) (Py hw).2.1,g 0,g 1,g 2⟩
end Pc
set_option maxRecDepth 100000
set_option maxHeartbeats 4000000
namespace Pc
open Sh Fix Tk Tl Vl Wt
section
variable {s:ByteArray} {a c:Nat}
theorem JD (ha:a<=s.size)(hs:s.size<=549755813888):CN s a (Fp s a):=fun w=>kC s ha hs w
abbrev Q2 (s:ByteArray)(r:TT):TT->Int->Prop:=Fp s r.2.2.1.toNat
theorem Xf (ha:a<=s.size)(hs:s.size<=549755813888):Zp s a (Fp s a) (Q2 s) (fun _=>Q2 s) where
 n1:=JD ha hs
 n2 r h g:=by
  obtain ⟨b,e,hT,he⟩:=kD h.2 g.2.1;have:=hT.le;rw[AE]at this;refine ⟨e,he,?_⟩;unfold Q2;rw[he,ay];exact JD this hs
 n3 r q _ _ h g:=by
  obtain ⟨b,e,hT,he⟩:=kD h.2 g.2.1;have:=hT.le;rw[AE]at this;refine ⟨e,he,?_⟩;unfold Q2;rw[he,ay];exact JD this hs
theorem Zr {r q u:TT}(h:Zo (Fp s a) (Q2 s) (fun _=>Q2 s) r q u):oN (bl s) a:=by
 obtain ⟨⟨h1,g1⟩,⟨h2,g2⟩,h3,g3⟩:=h;obtain ⟨b1,e1,T1,he1⟩:=kD h1.2 g1.2.1;unfold Q2 at h2 h3;rw[he1,ay]at h2;obtain ⟨b2,e2,T2,oO⟩:=kD h2.2 g2.2.1;rw[oO,ay]at h3;obtain ⟨b3,T3,o1,o2,o3⟩:=AFI h3.1 g3.2.1 (by
  have h:=Sh.TM u.2.2.2.2 Oj;rw[g3.2.2,beq_self_eq_true]at h;exact cd h.symm)
 exact ⟨b1,e1,b2,e2,b3,_,T1,T2,T3,rfl,o1,o2,o3⟩
theorem Xg {Ts:List By}(hT:∀t∈Ts,Zs t)(hs:bl s=Ts.flatten)(hl:s.size<=549755813888){d:UInt8}(hd:(bl s)[a]?=some d)(G9:BF d)(hw:a=0\/∃c,(bl s)[a-1]?=some c/\D9 c=true)
  (Vx:∀DO t Bi,Ts=DO++t::Bi->a≠DO.flatten.length) (w:World):qD s (a:Int) w fun n g x e w1=>e≠0/\Ext (fun _=>False) w w1:=by
 have ha:a<=s.size:=by
  have:=(al.1 hd).1;rw[AE]at this;omega
 refine (Vw ha (Xf ha hl) w).mono ?_;rintro n g x e w1 ⟨⟨_,r,q,u,hG,_⟩|⟨he,_⟩,ex⟩
 ·have hS:=Zr hG;rw[hs]at hS hd hw;obtain ⟨DO,t,Bi,e1,e2⟩:=On hT hS hd G9 hw;exact absurd e2 (Vx _ _ _ e1)
 ·exact ⟨he,ex⟩
theorem Td {n g:Int}{A G:By}{rest:List Pt}(h:Cj s a (Ax A n::Ax G g::AY Bv::rest) c)(hn:1<=n/\n<=8191)(hg:0<=g/\g<=65535)(w:World):
  qD s (a:Int) w fun n' g' x e w1=>e=0/\n'=n/\g'=g/\(∃a':Nat,x=(a':Int)/\Cj s a' rest c)/\Ext (fun _=>False) w w1:=by
 obtain ⟨x1,a1,h1,_,k1⟩:=h.next
 obtain ⟨x2,a2,h2,_,k2⟩:=k1.next
 obtain ⟨x3,a3,h3,_,k3⟩:=k2.next
 refine (Vw (R1:=fun r e=>r=(Ax A n).tok (x1:Int) (a1:Int)/\e=0) (R2:=fun _ r e=>r=(Ax G g).tok (x2:Int) (a2:Int)/\e=0) (R3:=fun _ _ r e=>r=(AY Bv).tok (x3:Int) (a3:Int)/\e=0) h.le.1 ⟨h1,?_,?_⟩ w).mono ?_
 ·rintro r ⟨rfl,_⟩ _;exact ⟨a1,rfl,h2⟩
 ·rintro r q _ _ ⟨rfl,_⟩ _;exact ⟨a2,rfl,h3⟩
 ·have N1:FR 1 8191 ((Ax A n).tok (x1:Int) (a1:Int)) 0:=⟨rfl,rfl,hn.1,hn.2⟩
  have N2:FR 0 65535 ((Ax G g).tok (x2:Int) (a2:Int)) 0:=⟨rfl,rfl,hg.1,hg.2⟩
  have N3:Jy Oj ((AY Bv).tok (x3:Int) (a3:Int)) 0:=⟨rfl,rfl,rfl⟩
  rintro n' g' x e w1 ⟨⟨rfl,r,q,u,⟨⟨⟨rfl,_⟩,_⟩,⟨⟨rfl,_⟩,_⟩,⟨rfl,_⟩,_⟩,rfl,rfl,rfl⟩|⟨he,hB⟩,ex⟩
  ·exact ⟨rfl,rfl,rfl,⟨a3,rfl,k3⟩,ex⟩
  ·exfalso;rcases hB with ⟨r,e,⟨rfl,rfl⟩,h⟩|⟨r,q,e,_,⟨rfl,rfl⟩,h⟩|⟨r,q,u,e,_,_,⟨rfl,rfl⟩,h⟩
   ·exact h N1
   ·exact h N2
   ·exact h N3
end
end Pc
namespace Pc
open Sh Fix Tk Tl Vl Wt Go.Lib
open Go.RowKit
section
variable {w v W W':World} {n0 l c mb i k:Nat} {S:Nat->Prop} {J:(Nat->Prop)->List BQ->World->Prop} {F:List BQ} {ty:TypeId} {x:BQ} {s:ByteArray} {I:List It}
attribute [local irreducible] Ld Sh.St Nw Nn AU
theorem dyS (hR:ZE n0 l J)(hj:J S F W)(hl:F.length<1000000)(hx:0<=x.1/\x.1<=1000000){K:Sg [(.one .bool)]->World->Prop}(k:∀S2 v',J S2 (F++[x]) v'->Ext S W v'->(∀j,S2 j->S j\/W.heap.size<=j)->K true v'):TQ Tryz.prog FF [(.one .bool)] (.func (.yield l) #[] #[]) #[Zh x] W K:=
 .inl ⟨l,rfl,hR.yl hj hl hx fun S2 v' h1 h2 h3=>⟨true,rfl,k S2 v' h1 h2 h3⟩⟩
theorem nc (hR:ZE n0 l J){F0:List BQ}(hm:Hr W mb (G1 F0))(hb:∀x∈F0,0<=x.1/\x.1<=1000000)(hF:F0.length<=1000)(hn:n0<=W.heap.size)(hSm:¬S mb)(hj:J S [] W)(hc:AN W c #[.map (some mb)] ty):
  WQ l ⟨c,0,none⟩ W fun W'=>∃S' G,(G.map BK).Perm ((G1 F0).map (·.2))/\J S' G W':=by
 unfold WQ;refine Ld.of hc rfl ?_;obtain ⟨v1,r1,e1,hI,Au⟩:=hm.range iW;have hnS:¬S W.heap.size:=fun h=>by have:=hR.lt hj _ h;omega
 refine ⟨⟨W.heap.size,0,none⟩,v1,r1,?_⟩;refine ⟨fun n st v=>∃(S':Nat->Prop) (G:List BQ) (done:Ke),J S' G v/\pN v W.heap.size mb (G1 F0) done/\G.map BK=done.map (·.2)/\¬S' W.heap.size/\¬S' mb/\W.heap.size<v.heap.size/\mb<v.heap.size/\n=(G1 F0).length-done.length,(G1 F0).length,⟨S,[],[],hR.AB hj e1 (fun _ h=>h.elim),hI,rfl,hnS,hSm,Au,by have:=hm.lt;omega,rfl⟩,?_⟩;rintro n st v ⟨S',G,done,hj,hI,hG,h1,h2,h3,h4,rfl⟩;unfold WO;rcases hI.next (P:=Tryz.prog) (ty:=0)with ⟨hr,hp⟩|⟨key,val,v',hr,e',wC,CB,hlen,fT⟩
 ·exact .inl ⟨_,hr,S',G,hG▸hp.map _,hj⟩
 ·obtain ⟨x,hx,mO⟩:=Wf F0 _ CB;cases mO;refine .inr ⟨_,_,v',hr,_,x,v',fT,?_⟩;have hj:=hR.AB hj e' (by rintro j rfl;exact ⟨h1,by omega⟩);have hGl:G.length=done.length:=by have:=aq List.length hG;simpa using this
  have wO:=Wg F0;have U8:=e'.size;refine (Hn.start v').nw (cs:=[.int .i64 0,.int .i64 0,.int .i64 0,.int .i64 0]) fun u0 H=>?_
  simp only[ad,ag,add_lit,ak]at H⊢
  iterate 4 (refine H.st 0 rfl (by simp) fun _ H=>?_;simp only[aa,ab]at H)
  iterate 4 refine H.ld 0 rfl rfl ?_
  refine dyS hR (hR.AB hj H.ext fun _ h=>h.elim) (by omega) (hb x hx) fun S2 v2 Qm e2 s2=>Sh.Br.f rfl ?_
  have DN:=H.size;have E8:=e2.size;refine ⟨(G1 F0).length-(done.length+1),by omega,S2,G++[x],done++[(x.1,BK x)],Qm,(wC.AI H.ext id id).AI e2 h1 h2,?_,fun h=>?_,fun h=>?_,by omega,by omega,by rw[ae];rfl⟩
  ·rw[aP,aP,hG]
   rfl
  ·rcases s2 _ h with h|h
   ·exact h1 h
   ·omega
  ·rcases s2 _ h with h|h
   ·exact h2 h
   ·omega
theorem xJ {d:UInt8}(h1:¬((d.toNat:Int)<48))(h2:¬((d.toNat:Int)>57)):BF d:=⟨by omega,by omega⟩
theorem Sn (hR:ZE n0 l J)(hs:bl s=(J9 I).flatten)(hl:s.size<=549755813888)(hG:∀x∈I,Qf x)(hI:I.length<=1000){d:UInt8}(hd:(bl s)[i]?=some d)(G9:BF d)(hw:i=0\/∃c,(bl s)[i-1]?=some c/\D9 c=true)
  (hf:OC I i k) (hj:J S ((BN 0 I).take k) v) (Zi:¬S c) (hc:AN v c #[.string s] ty) (hn:n0<=v.heap.size) {Q:World->Prop} {I7:Int->World->Prop}
  (go:∀k' S2 v2,OC I (i+1) k'->J S2 ((BN 0 I).take k') v2->¬S2 c->AN v2 c #[.string s] ty->n0<=v2.heap.size->I7 (IntKind.i64.wrap ((i:Int)+1)) v2):
  qD s (i:Int) v fun Q7 D0 V8 EW ADl=>Br (EW==0) (TQ Tryz.prog FF [(.one .bool)] (.func (.yield l) #[] #[]) #[.agg #[.int .i64 Q7,.int .i64 1,.int .i64 (i:Int),.int .i64 D0]] ADl fun (s24:Bool) ADm=>
   Br (!s24) (Q ADm) (I7 (IntKind.i64.wrap ((i:Int)+1)) ADm)) (I7 (IntKind.i64.wrap ((i:Int)+1)) ADl):=by
 by_cases hit:k<I.length/\i=DL (I.take k)
 ·obtain ⟨hk,rfl⟩:=hit;have hx:=ah hk;generalize I[k]=x at hx;have hxG:=hG x (ax hx);obtain ⟨A,G,ps,c',hp,hr⟩:=fQ hs hl hG hx;refine (Td hr hxG.n hxG.g v).mono ?_;rintro n' g' y e v1 ⟨rfl,rfl,rfl,_,e1⟩;refine Sh.Br.t rfl ?_;have h1:=hxG.n;have he:=e1.size;refine dyS (x:=(x.num,1,((DL (I.take k):Nat):Int),x.gen)) hR (hR.AB hj e1 fun _ h=>h.elim) (by rw[aC,BG];omega) ⟨by show 0<=x.num;omega,by show x.num<=1000000;omega⟩ fun S2 v2 Qm e2 s2=>Sh.Br.f rfl ?_
  have oO:=e2.size;refine go (k+1) S2 v2 (hf.hit hG hk rfl) ?_ (fun h=>(s2 c h).elim Zi fun h=>by have:=hc.lt;omega) (e2.AR (e1.AR hc id) Zi) (by omega);rw[bC,GV hx];exact Qm
 ·have Vx:k<I.length->i≠DL (I.take k):=fun h e=>hit ⟨h,e⟩
  refine (Xg (AC8 hG) hs hl hd G9 hw (fun DO t Bi e=>gE (hf.no hG Vx) e) v).mono ?_;rintro n' g' y e v1 ⟨he,e1⟩;refine Sh.Br.f (bw.2 he) ?_;have hes:=e1.size;exact go k S v1 (hf.mf Vx) (hR.AB hj e1 fun _ h=>h.elim) Zi (e1.AR hc id) (by omega)
theorem nd (hR:ZE n0 l J)(hs:bl s=(J9 I).flatten)(hl:s.size<=549755813888)(hG:∀x∈I,Qf x)(hI:I.length<=1000)(hn:n0<=W.heap.size)(Zi:¬S c)(hj:J S [] W)(hc:AN W c #[.string s] ty):
  V9 l ⟨c,0,none⟩ W fun W'=>∃S',J S' (BN 0 I) W':=by
 unfold V9;refine Ld.of hc rfl ?_;refine ⟨fun n st v=>∃(i k:Nat) (S':Nat->Prop),st=(i:Int)/\i<=s.size/\n=s.size-i/\OC I i k/\J S' ((BN 0 I).take k) v/\¬S' c/\AN v c #[.string s] ty/\n0<=v.heap.size,s.size,⟨0,0,S,rfl,bJ _,rfl,OC.zero I,by rw[List.take_zero];exact hj,Zi,hc,hn⟩,?_⟩;clear hj Zi hc hn;rintro n st v ⟨i,k,S',rfl,hi,rfl,hf,hj,Zi,hc,hn⟩;unfold V7;have hz:=Pl hs;refine Br.dec (fun q=>?_) fun q=>?_
 ·have WV:i<s.size:=by have:(i:Int)<((s.size:Nat):Int):=q;omega
  have hd:=ah (show i<(bl s).length by rw[AE];exact WV);generalize (bl s)[i]=d at hd;have hbA:BX s (i:Int)=(d.toNat:Int):=by
   rw[Ro];show (((bl s).getD i 0).toNat:Int)=_;rw[cx,hd]
   rfl
  have go:∀k' S2 v2,OC I (i+1) k'->J S2 ((BN 0 I).take k') v2->¬S2 c->AN v2 c #[.string s] ty->n0<=v2.heap.size->∃n',n'<s.size-i/\∃(i2 k2:Nat) (S':Nat->Prop),IntKind.i64.wrap ((i:Int)+1)=(i2:Int)/\i2<=s.size/\n'=s.size-i2/\OC I i2 k2/\J S' ((BN 0 I).take k2) v2/\¬S' c/\AN v2 c #[.string s] ty/\n0<=v2.heap.size:=fun k' S2 v2 h1 h2 h3 h4 h5=>
   ⟨s.size-(i+1),by omega,i+1,k',S2,by rw[IntWalk.i64_in _ (by omega)];rfl,by omega,rfl,h1,h2,h3,h4,h5⟩
  have QM:k<I.length->i=DL (I.take k)->BF d:=fun hk e=>by
   obtain ⟨d',JA,G9⟩:=gD hs hG (ah hk);rw[<-e,hd]at JA;cases JA;exact G9
  refine Ld.of hc rfl ⟨by omega,by omega,?_⟩;rw[hbA];refine Br.dec (fun q1=>go k S' v (hf.mf fun hk e=>by have:=(QM hk e).1;omega) hj Zi hc hn) fun q1=>Ld.of hc rfl ⟨by omega,by omega,?_⟩
  rw[hbA];refine Br.dec (fun q2=>go k S' v (hf.mf fun hk e=>by have:=(QM hk e).2;omega) hj Zi hc hn) fun q2=>?_
  have G9:=xJ q1 q2;refine Br.dec (fun q3=>Ld.of hc rfl ?_) fun q3=>Ld.of hc rfl ?_
  ·have q3:0<i:=by omega
   have vy:IntKind.i64.wrap ((i:Int)-1)=((i-1:Nat):Int):=by rw[IntWalk.i64_in _ (by omega)];omega
   rw[vy];have ANi:i-1<(bl s).length:=by rw[AE];omega
   have NC:=ah ANi;generalize (bl s)[i-1]=d1 at NC;have ANj:BX s ((i-1:Nat):Int)=(d1.toNat:Int):=by
    rw[Ro];show (((bl s).getD (i-1) 0).toNat:Int)=_;rw[cx,NC]
    rfl
   refine ⟨by omega,by omega,?_⟩;rw[ANj];refine (K6 d1 v).mono ?_;rintro r v1 ⟨rfl,rfl⟩;cases hw:D9 d1 with
   |false=>
    refine Sh.Br.t rfl ?_;refine go k S' v1 (hf.mf fun hk e=>?_) hj Zi hc hn;rcases me hs hG (ah hk)with h|h
    ·omega
    ·rw[<-e,NC]at h;cases h;exact absurd hw (by decide)
   |true=>exact Sh.Br.f rfl (Ld.of hc rfl (Sn (Q:=fun W'=>∃S',J S' (BN 0 I) W') (I7:=fun st v2=>∃n',n'<s.size-i/\∃(i2 k2:Nat) (S':Nat->Prop),st=(i2:Int)/\i2<=s.size/\n'=s.size-i2/\OC I i2 k2/\J S' ((BN 0 I).take k2) v2/\¬S' c/\AN v2 c #[.string s] ty/\n0<=v2.heap.size) hR hs hl hG hI hd G9 (.inr ⟨d1,NC,hw⟩) hf hj Zi hc hn go))
  ·exact Sn (Q:=fun W'=>∃S',J S' (BN 0 I) W') (I7:=fun st v2=>∃n',n'<s.size-i/\∃(i2 k2:Nat) (S':Nat->Prop),st=(i2:Int)/\i2<=s.size/\n'=s.size-i2/\OC I i2 k2/\J S' ((BN 0 I).take k2) v2/\¬S' c/\AN v2 c #[.string s] ty/\n0<=v2.heap.size) hR hs hl hG hI hd G9 (.inl (by omega)) hf hj Zi hc hn go
 ·have hie:i=s.size:=by have:¬(i:Int)<((s.size:Nat):Int):=q;omega
  rw[hie,hz]at hf;rw[hf.done hG,aU (by rw[BG];omega)]at hj;exact ⟨S',hj⟩
end
end Pc
namespace Pc
open Sh Fix Tk Tl Vl Wt Go.Lib
open Go.RowKit
section
variable {w W W':World} {n0 l c mb:Nat} {S:Nat->Prop} {J:(Nat->Prop)->List BQ->World->Prop} {ty:TypeId}
attribute [local irreducible] Ld Sh.St Nw Nn Lt AU Ae Am
theorem ZF:Tryz.f137.body=some (.seq ABz (.seq (.seq AB1 (.block 0 (.rangeFunc (.tmp 6) #[7] HT HU))) vJ)):=by kernel_rfl
theorem xK {F0:List BQ}(hm:Hr w mb (G1 F0))(hb:∀x∈F0,0<=x.1/\x.1<=1000000)(hF:F0.length<=1000)(hc:AN w c #[.map (some mb)] ty):
  ABZ ⟨none,0,0⟩ (.func (.func 96) #[] #[pa c]) w fun r w1=>(∃G,(G.map BK).Perm ((G1 F0).map (·.2))/\D4 w1 r G/\∀j,r.own j->w.heap.size<=j)/\Ext (fun _=>False) w w1:=by
 refine (callsIn_wide (n:=0)).1 ?_;refine callsIn_of_wp_marks Tryz.func137 ZF trivial ?_ rfl;obtain ⟨f1,nR⟩:∃f1:Value,f1= .func (.func 96) #[] #[pa c]:=⟨_,rfl⟩
 rw[<-nR];have pg:Fits 13 [(1,f1),(0,AA.v ⟨none,0,0⟩)] {tmps:=#[AA.v ⟨none,0,0⟩,f1]++Array.replicate (Tryz.f137.ntmps-#[AA.v ⟨none,0,0⟩,f1].size) undef,defers:=[]}:=Ao (KG (args:=[AA.v ⟨none,0,0⟩,f1]) (n:=13) (by simp)) rfl fun p hp=>by
  simp only[ar,aF,bp]at hp;rcases hp with rfl|rfl<;>rfl
 obtain ⟨a0,pj,pn⟩:∃a0:Act,a0={tmps:=#[AA.v ⟨none,0,0⟩,f1]++Array.replicate (Tryz.f137.ntmps-#[AA.v ⟨none,0,0⟩,f1].size) undef,defers:=[]}/\a0.defers=[]:=⟨_,rfl,rfl⟩
 rw[<-pj]at pg⊢;clear pj;refine Vi (F:=⟨FF,CG,fun _ _=>False⟩) ND.wide okF (fun _ _ h=>h) (pl:=AB0) (K:=fun E w1=>E=[(4,AA.v ⟨none,0,0⟩),(2,pa w.heap.size),(1,f1),(0,AA.v ⟨none,0,0⟩)]/\Hn w w1 [(w.heap.size,sl0,34)]) (by
  rw[AI9];exact (Hn.start w).nw (cs:=sl0) fun w1 H=>⟨rfl,H⟩) pg (by kernel_rfl) ?_
 rintro E a1 w1 ⟨rfl,H1⟩ xL NC;rw[pn]at NC;refine wpIn_seq ?_;have hfB:Fits 13 [(2,pa w.heap.size),(1,f1)] a1:=Ao xL rfl fun p hp=>by
  simp only[ar,aF,bp]at hp;rcases hp with rfl|rfl<;>rfl
 refine Vi (F:=⟨FF,CG,fun _ _=>False⟩) ND.wide okF (fun _ _ h=>h) (pl:=AB2) (K:=fun E w2=>E=[(6,f1),(2,pa w.heap.size),(1,f1)]/\w2=w1) (by
  rw[AJB];exact ⟨rfl,rfl⟩) hfB (by kernel_rfl) ?_
 rintro E a4 w4 ⟨rfl,rfl⟩ iX po;rw[NC]at po;have k2:=H1.get 0 rfl;have l2:=k2.lt;have e4:=H1.ext;have hev:a4.eval (.tmp 6)= .func (.func 96) #[] #[pa c]:=by rw[<-nR];exact iX.Ag (x:= .tmp 6) rfl
 refine wpIn_block ?_;refine iU okF hev (by kernel_rfl) fun fn=>?_
 obtain ⟨wr,SI⟩:∃wr,wr=xD w4 fn a4.tmps #[7] HT HU:=⟨_,rfl⟩
 have er:Ext (fun _=>False) w4 wr:=by rw[SI];exact ((Ext.refl _ w4).alloc _).alloc _
 have VD:wr.heap[w4.heap.size+1]?=some (.loop (Ad fn a4.tmps #[7] HT HU w4.heap.size)):=by
  rw[SI];have:=World.alloc_heap_new (w4.alloc (.deferred (some []))) (.loop (Ad fn a4.tmps #[7] HT HU w4.heap.size));rwa[World.size_alloc]at this
 have N5:wr.heap[w4.heap.size]?=some (.deferred (some [])):=by
  rw[SI];exact (Below.heap_alloc _ _ _ (by simp)).trans (World.alloc_heap_new w4 _)
 have hsr:w4.heap.size+1<wr.heap.size:=(aj.1 VD).1;have hw4:=e4.size;have wO:=hm.lt;have QD:∀j,¬(⟨none,0,0⟩:AA).own j:=fun j hj=>by obtain ⟨a,ha,_⟩:=hj;cases ha
 have j4:JL w w4.heap.size w.heap.size wr.heap.size (Ad fn a4.tmps #[7] HT HU w4.heap.size) (fun j=>j=w4.heap.size\/j=w4.heap.size+1\/j=w.heap.size\/(⟨none,0,0⟩:AA).own j) [] wr:=
  ⟨VD,N5,⟨⟨none,0,0⟩,er.AR k2 (fun h=>h),Row.nil _ _ _,fun j=>Iff.rfl,fun j hj=>(QD j hj).elim⟩,e4.tr er,az _⟩
 have hR:ZE wr.heap.size (w4.heap.size+1) (JL w w4.heap.size w.heap.size wr.heap.size (Ad fn a4.tmps #[7] HT HU w4.heap.size)):=
  ⟨fun h=>h.lt,fun h he hF=>h.AB (by omega) he hF,fun h hlen hx hK=>xG h ⟨by omega,by omega,by omega⟩ hlen (Ao iX rfl fun p hp=>by rw[ao.1 hp];rfl) hK⟩
 rw[<-SI];refine (ACU (w4.heap.size+1) ⟨c,0,none⟩ wr _ (nc hR (hm.AB (e4.tr er)) hb hF (az _) (fun h=>by
  rcases h with h|h|h|h
  ·omega
  ·omega
  ·omega
  ·exact (QD _ h).elim) j4 ((e4.tr er).AR hc id))).mono ?_
 rintro e W2 ⟨rfl,S',G,hp,Qm⟩;refine ⟨⟨_,rfl⟩,Qm.rc,?_⟩;obtain ⟨sl,z1,z2,_,z4⟩:=Qm.k;refine wpIn_mono (wpIn_wide.2 (CW (N:=13) (F:=⟨FF,CG,fun _ _=>False⟩) okF Gw vJ AB7 [(2,pa w.heap.size)] _
  (et fun r W'=>r=sl/\D4 W' sl G/\W'.heap[w4.heap.size]?=some (.deferred (some []))/\Ext (fun _=>False) w W') _ ?_ (Ao iX rfl fun p hp=>by
   rw[ao.1 hp];rfl) (by kernel_rfl))) fun e a' w' hq=>?_
 ·rw[AJE];unfold AB8;have eP:Ext (·=w4.heap.size+1) W2 (W2.putObj (w4.heap.size+1) (.loop {Ad fn a4.tmps #[7] HT HU w4.heap.size with state:= .exhausted})):=Ext.put (Ext.refl _ _) _ (.inl rfl);refine Ld.of (eP.AR z1 (by omega)) rfl ⟨rfl,?_,?_,?_⟩
  ·exact Row.AB z2 eP fun j hj e=>by have:=z4 j hj;have e:j=w4.heap.size+1:=e;omega
  ·exact (World.putObj_heap_other (by omega)).trans Qm.df
  ·exact Ext.put Qm.ext _ (.inr (by omega))
 ·rcases hq with ⟨E',hr,hfe,hse⟩|⟨_,_,hp,_⟩
  ·cases e<;>try exact hr.elim
   unfold et at hr;simp only at hr;split at hr
   ·rename_i a n m g2;obtain ⟨rfl,hv,j5,KB⟩:=hr;have Sp:Fits 13 [(4,AA.v ⟨a,n,m⟩)] a':=Ao hfe rfl fun p hp=>by
     rw[ao.1 hp];exact g2
    have eD:Ext (·=w4.heap.size) w' (w'.putObj w4.heap.size (.deferred none)):=Ext.put (Ext.refl _ _) _ (.inl rfl);have TO:D4 (w'.putObj w4.heap.size (.deferred none)) ⟨a,n,m⟩ G:=Row.AB hv eD fun j hj e=>by have:=z4 j hj;have e:j=w4.heap.size:=e;omega
    obtain ⟨v,v1,sv,v2,v3⟩:=CX (P:=Tryz.prog) (fn:=Tryz.f137) (w':=w'.putObj w4.heap.size (.deferred none)) (tys:=[(.one .BJ)]) Sp (R:=fun r W=>(D4 W r G/\∀j,r.own j->w.heap.size<=j)/\Ext (fun _=>False) w W) ⟨⟨TO,fun j hj=>by have:=z4 j hj;omega⟩,Ext.put KB _ (.inr (by omega))⟩;show LeavesInM _ _ _ _ _ _ a'.defers _ _;rw[hse.2,po];exact ⟨by simp,.inl ⟨_,_,rfl,run_takeDeferred j5,v,v1,sv,v2,⟨G,hp,v3.1⟩,v3.2⟩⟩
   ·exact hr.elim
  ·exact hp.elim
theorem Mv {F0:List BQ}(hm:Hr w mb (G1 F0))(hb:∀x∈F0,0<=x.1/\x.1<=1000000)(hF:F0.length<=12):
  C31 (some mb) w fun r w1=>(∃G,(G.map BK).Perm ((G1 F0).map (·.2))/\D4 w1 r G/\G.length<=12/\∀j,r.own j->w.heap.size<=j)/\Ext (fun _=>False) w w1:=by
 refine T31 _ _ _ ?_;unfold S31;refine T58 _ _ _ ?_;unfold S58;refine (Hx.start w (fun _=>False)).nw fun w2 H=>?_
 simp only[ad]at H;refine lq _ _ _ ?_;unfold WJ;refine T94 _ _ _ ?_;unfold S94;refine (xK (hm.AB H.ext) hb (by omega) (H.get 0 rfl)).mono ?_;rintro r w3 ⟨⟨G,hp,hr,ho⟩,e3⟩;have hlG:G.length<=12:=by
  have h1:=hp.length_eq;have h2:=Wg F0;simp only[bc]at h1;omega
 refine (nZ hr hlG).mono ?_;rintro w4 ⟨e4,G',gQ,zS⟩;have hs:=H.size;refine ⟨⟨G',(gQ.map _).trans hp,zS,by rw[gQ.length_eq];exact hlG,fun j hj=>by have:=ho j hj;omega⟩,Ext.Bw (H.ext.tr e3) e4 fun j hj=>by have:=ho j hj;omega⟩
theorem ZG:Tryz.f10.body=some (.seq ABa (.seq ABc (.seq (.seq ABf (.block 0 (.rangeFunc (.tmp 7) #[8] Ff Fg))) vE))):=by kernel_rfl
theorem vh {s:ByteArray}{I:List It}(hs:bl s=(J9 I).flatten)(hl:s.size<=549755813888)(hG:∀x∈I,Qf x)(hI:I.length<=12)(w:World):
  C10 s w fun r w1=>(∃G,(G.map BK).Perm ((G1 (BN 0 I)).map (·.2))/\Qy w1 r G)/\Ext (fun _=>False) w w1:=by
 have hb:∀x∈BN 0 I,0<=x.1/\x.1<=1000000:=fun x hx=>by
  obtain ⟨i,hi⟩:=aZ hx;have Iz:=(al.1 hi).1;rw[BG]at Iz;have hy:=ah Iz;have:=(hG _ (ax hy)).n;rw[GV hy]at hi;cases hi;show 0<=(I[i]).num/\(I[i]).num<=1000000;omega
 refine (callsIn_wide (n:=0)).1 ?_;refine callsIn_of_wp_marks Tryz.func10 ZG trivial ?_ rfl;have pg:Fits 15 [(0,.string s)] {tmps:=#[.string s]++Array.replicate (Tryz.f10.ntmps-#[Value.string s].size) undef,defers:=[]}:=Ao (KG (args:=[.string s]) (n:=15) (by simp)) rfl fun p hp=>by
  rw[ao.1 hp]
  rfl
 obtain ⟨a0,pj,pn⟩:∃a0:Act,a0={tmps:=#[.string s]++Array.replicate (Tryz.f10.ntmps-#[Value.string s].size) undef,defers:=[]}/\a0.defers=[]:=⟨_,rfl,rfl⟩
 rw[<-pj]at pg⊢;clear pj;refine Vi (F:=⟨FF,CG,fun _ _=>False⟩) ND.wide okF (fun _ _ h=>h) (pl:=ABb) (K:=fun E w1=>E=[(2,AA.v ⟨none,0,0⟩),(0,.string s)]/\w1=w) (by
  rw[AIu];exact ⟨rfl,rfl⟩) pg (by kernel_rfl) ?_
 rintro E a1 w1 ⟨rfl,rfl⟩ nR NC;rw[pn]at NC;have hfM:Fits 15 [(0,.string s)] a1:=Ao nR rfl fun p hp=>by
  rw[ao.1 hp]
  rfl
 refine Vi (F:=⟨FF,CG,fun _ _=>False⟩) ND.wide okF (fun _ _ h=>h) (pl:=ABd) (K:=fun E w2=>E=[(3,pa (w1.heap.size+1)),(5,.map (some w1.heap.size)),(0,.string s)]/\Hr w2 w1.heap.size []/\AN w2 (w1.heap.size+1) #[.map (some w1.heap.size)] 77/\Ext (fun _=>False) w1 w2) (by
  rw[AIv];unfold ABe;refine Nw.of ?_;have em:Ext (fun _=>False) w1 (w1.alloc (.map #[] 0)):=(Ext.refl _ _).alloc _;have pY:=Hr.new w1;have DN:(w1.alloc (.map #[] 0)).heap.size=w1.heap.size+1:=World.size_alloc _ _;generalize w1.alloc (.map #[] 0)=u1 at em pY DN⊢;rw[<-DN];refine (Hn.start u1).nw (cs:=[.map none]) fun u2 H=>?_
  simp only[ad]at H;refine H.st 0 rfl (by simp) fun u3 H=>?_
  simp only[aa]at H;exact ⟨rfl,pY.AB H.ext,H.get 0 rfl,em.tr H.ext⟩) hfM (by kernel_rfl) ?_
 rintro E a2 w2 ⟨rfl,pY,yF,e2⟩ hf2 jx;rw[NC]at jx;have VS:=yF.lt;refine wpIn_seq ?_;have hfB:Fits 15 [(3,pa (w1.heap.size+1)),(0,.string s)] a2:=Ao hf2 rfl fun p hp=>by
  simp only[ar,aF,bp]at hp;rcases hp with rfl|rfl<;>rfl
 refine Vi (F:=⟨FF,CG,fun _ _=>False⟩) ND.wide okF (fun _ _ h=>h) (pl:=ABg) (K:=fun E w3=>E=[(7,.func (.func 54) #[] #[pa w2.heap.size]),(6,.string s),(3,pa (w1.heap.size+1)),(0,.string s)]/\AN w3 w2.heap.size #[.string s] 9/\Ext (fun _=>False) w2 w3) (by
  rw[AIw];unfold ABh;refine T30 _ _ _ ?_;unfold S30;refine (Hn.start w2).nw (cs:=[.string s]) fun u2 H=>?_
  simp only[ad]at H;exact ⟨rfl,H.get 0 rfl,H.ext⟩) hfB (by kernel_rfl) ?_
 rintro E a4 w4 ⟨rfl,zd,e4⟩ iX po;rw[jx]at po;have hl4:=zd.lt;have hev:a4.eval (.tmp 7)= .func (.func 54) #[] #[pa w2.heap.size]:=iX.Ag (x:= .tmp 7) rfl;refine wpIn_block ?_;refine iU okF hev (by kernel_rfl) fun fn=>?_
 obtain ⟨wr,SI⟩:∃wr,wr=xD w4 fn a4.tmps #[8] Ff Fg:=⟨_,rfl⟩
 have er:Ext (fun _=>False) w4 wr:=by rw[SI];exact ((Ext.refl _ w4).alloc _).alloc _
 have VD:wr.heap[w4.heap.size+1]?=some (.loop (Ad fn a4.tmps #[8] Ff Fg w4.heap.size)):=by
  rw[SI];have:=World.alloc_heap_new (w4.alloc (.deferred (some []))) (.loop (Ad fn a4.tmps #[8] Ff Fg w4.heap.size));rwa[World.size_alloc]at this
 have N5:wr.heap[w4.heap.size]?=some (.deferred (some [])):=by
  rw[SI];exact (Below.heap_alloc _ _ _ (by simp)).trans (World.alloc_heap_new w4 _)
 have hsr:w4.heap.size+1<wr.heap.size:=(aj.1 VD).1;have hw4:=e4.size;have E0:=e2.tr (e4.tr er);have j4:JM w1 w4.heap.size (w1.heap.size+1) w1.heap.size wr.heap.size (Ad fn a4.tmps #[8] Ff Fg w4.heap.size) (fun j=>j=w4.heap.size\/j=w4.heap.size+1\/j=w1.heap.size+1\/j=w1.heap.size) [] wr:=
  ⟨VD,N5,⟨(e4.tr er).AR yF id,pY.AB (e4.tr er)⟩,fun j=>Iff.rfl,E0,az _⟩
 have hR:ZE wr.heap.size (w4.heap.size+1) (JM w1 w4.heap.size (w1.heap.size+1) w1.heap.size wr.heap.size (Ad fn a4.tmps #[8] Ff Fg w4.heap.size)):=
  ⟨fun h=>h.lt,fun h he hF=>h.AB (by omega) he hF,fun h hlen hx hK=>na h ⟨by omega,by omega,by omega,by omega,by omega,by omega⟩ hx (Ao iX rfl fun p hp=>by rw[ao.1 hp];rfl) hK⟩
 rw[<-SI];refine (AAB (w4.heap.size+1) ⟨w2.heap.size,0,none⟩ wr _ (nd hR hs hl hG (by omega) (az _) (fun h=>by
  rcases h with h|h|h|h<;>omega) j4 (er.AR zd id))).mono ?_
 rintro e W2 ⟨rfl,S',Qm⟩;refine ⟨⟨_,rfl⟩,Qm.rc,?_⟩;obtain ⟨z1,z2⟩:=Qm.k;have z2l:=z2.lt;refine wpIn_mono (wpIn_wide.2 (CW (N:=15) (F:=⟨FF,CG,fun _ _=>False⟩) okF Gw vE ABm [(3,pa (w1.heap.size+1))] _
  (ep fun r W'=>(∃G,(G.map BK).Perm ((G1 (BN 0 I)).map (·.2))/\D4 W' r G/\G.length<=12/\∀j,r.own j->w4.heap.size<j)/\AN W' (w1.heap.size+1) #[.map (some w1.heap.size)] 77/\W'.heap[w4.heap.size]?=some (.deferred (some []))/\Ext (fun _=>False) w1 W') _ ?_ (Ao iX rfl fun p hp=>by
   rw[ao.1 hp];rfl) (by kernel_rfl))) fun e a' w' hq=>?_
 ·rw[AIz];unfold ABn;have eP:Ext (·=w4.heap.size+1) W2 (W2.putObj (w4.heap.size+1) (.loop {Ad fn a4.tmps #[8] Ff Fg w4.heap.size with state:= .exhausted})):=Ext.put (Ext.refl _ _) _ (.inl rfl);have z1:=eP.AR z1 (by omega);have z2:=z2.AI eP (by omega);have j5:(W2.putObj (w4.heap.size+1) (.loop {Ad fn a4.tmps #[8] Ff Fg w4.heap.size with state:= .exhausted})).heap[w4.heap.size]?=some (.deferred (some [])):=(World.putObj_heap_other (by omega)).trans Qm.df;have E2:Ext (fun _=>False) w1 (W2.putObj (w4.heap.size+1) (.loop {Ad fn a4.tmps #[8] Ff Fg w4.heap.size with state:= .exhausted})):=Ext.put Qm.ext _ (.inr (by omega));generalize W2.putObj (w4.heap.size+1) (.loop {Ad fn a4.tmps #[8] Ff Fg w4.heap.size with state:= .exhausted})=u at z1 z2 j5 E2⊢;refine Ld.of z1 rfl ?_;refine (Mv z2 hb (by rw[BG];omega)).mono ?_;rintro r u2 ⟨⟨G,g1,g2,g3,g4⟩,e2'⟩;have Xm:=(aj.1 j5).1;exact ⟨⟨G,g1,g2,g3,fun j hj=>by have:=g4 j hj;omega⟩,e2'.AR z1 id,(e2'.block _ (aj.1 j5).1 id).trans j5,E2.tr e2'⟩
 ·rcases hq with ⟨E',hr,hfe,hse⟩|⟨_,_,hp,_⟩
  ·cases e<;>try exact hr.elim
   unfold ep at hr;simp only at hr;split at hr
   ·rename_i a n m g2;obtain ⟨⟨G,hp,hv,AUH,ho⟩,_,j5,KB⟩:=hr;have Sp:Fits 15 [(2,AA.v ⟨a,n,m⟩)] a':=Ao hfe rfl fun p hp=>by
     rw[ao.1 hp];exact g2
    have eD:Ext (·=w4.heap.size) w' (w'.putObj w4.heap.size (.deferred none)):=Ext.put (Ext.refl _ _) _ (.inl rfl);have TO:D4 (w'.putObj w4.heap.size (.deferred none)) ⟨a,n,m⟩ G:=Row.AB hv eD fun j hj e=>by have:=ho j hj;have e:j=w4.heap.size:=e;omega
    obtain ⟨v,v1,sv,v2,v3⟩:=CX (P:=Tryz.prog) (fn:=Tryz.f10) (w':=w'.putObj w4.heap.size (.deferred none)) (tys:=[(.one .BJ)]) Sp (R:=fun r W=>Qy W r G/\Ext (fun _=>False) w1 W) ⟨TO.view (by omega),Ext.put KB _ (.inr (by omega))⟩;show LeavesInM _ _ _ _ _ _ a'.defers _ _;rw[hse.2,po];exact ⟨by simp,.inl ⟨_,_,rfl,run_takeDeferred j5,v,v1,sv,v2,⟨G,hp,v3.1⟩,v3.2⟩⟩
   ·exact hr.elim
  ·exact hp.elim
end
end Pc
namespace Wt
open Sh Fix Tk Tl Vl
theorem Kg:El Tryz.prog 24 26 6 88 (.agg (AF Kl).toArray):=⟨by kernel_rfl,by kernel_rfl,by kernel_rfl,by kernel_rfl,rfl⟩
def Wk (s:ByteArray)(b c:Nat)(t:Tr):Prop:=∀(w:World) (p:Pt) (qs rest:List Pt) (x:Int) (a:Nat) (deep:Int) (PR:Value->World->Prop),CL (deep+1) t=true->0<=deep->t.k≠9->PT t (p::qs)->Cj s a (qs++rest) c->Eu rest->Es w b s a->
 Uo (some ⟨b,0,none⟩) (p.tok x (a:Int)) deep w (fun r w1=>∃a':Nat,FT (fun j=>w.heap.size<=j/\j<w1.heap.size) w1 r t/\Cj s a' rest c/\Es w1 b s a'/\Ext (·=b) w w1) PR
theorem wK {t k:Tr}(h:k∈t.kids):SizeOf.sizeOf k<SizeOf.sizeOf t:=by
 cases t with
 |mk k' n g s ks kids=>
  have:=List.sizeOf_lt_of_mem (show k∈kids from h);rw[Tr.mk.sizeOf_spec];omega
section
variable {w w1 W:World} {b c a:Nat} {s:ByteArray} {t:Tr} {ps qs rest:List Pt} {deep:Int}
attribute [local irreducible] Ld Sh.St Nw Nn AU Ae Am BW
theorem ml (hb:Es w b s a){ks:List Tr}(ih:∀k∈ks,Wk s b c k)(hd:0<=deep)(BS:∀k∈ks,CL (deep+1) k=true)(h9:∀k∈ks,k.k≠9)(hl:ks.length<=8191)(hq:PL ks qs)(hr:Cj s a (qs++(Ap [93]::rest)) c)(PR:Value->World->Prop):
  ui (some ⟨b,0,none⟩) deep w (fun r w1=>∃a':Nat,FT (fun j=>w.heap.size<=j/\j<w1.heap.size) w1 r (.mk 6 0 0 ⟨#[]⟩ [] ks)/\Cj s a' rest c/\Es w1 b s a'/\Ext (·=b) w w1) PR:=by
 refine AIP _ _ _ _ _ ?_;unfold ABJ;have NG:=AN.lt hb;refine (Hx.one (F:=(·=b)) hb).nw fun w2 H=>?_
 have hg:=H.size;refine H.nw fun w3 H=>?_
 simp only[ad,ag]at H;refine Hx.MT H 2 rfl rfl (.inr hg) fun w4 H _=>?_
 simp only[aa,ab]at H;have Au:=AN.lt (H.get 1 rfl);have wL:=AN.lt (H.get 2 rfl);have BI:w.heap.size≠w2.heap.size:=by
  have:=H.nodup;simp only[aB,List.nodup_cons,ar,not_or]at this;exact this.2.1.1
 refine ⟨fun n _ v=>∃(i:Nat) (sl:AA) (a:Nat) (L:List Ob) (q:List Pt),i<=ks.length/\n=ks.length+1-i/\Hx w (·=b) v [(b,#[.string s,.int .i64 (a:Int)],220),(w.heap.size,(AF Kl).toArray,26),(w2.heap.size,(AF (6,0,0,⟨#[]⟩,⟨none,0,0⟩,sl)).toArray,26)]/\
   Row v sl 26 6 (L.flatMap AF)/\L.length=i/\sl.len=i/\Ar (FT (fun j=>w.heap.size<=j/\j<v.heap.size/\j≠w.heap.size/\j≠w2.heap.size/\¬sl.own j) v) L (ks.take i)/\(∀j,sl.own j->w.heap.size<=j/\j≠w.heap.size/\j≠w2.heap.size)/\
   PL (ks.drop i) q/\Cj s a (q++(Ap [93]::rest)) c/\b<w2.heap.size/\w2.heap.size<v.heap.size,ks.length+1,
  ⟨0,⟨none,0,0⟩,a,[],qs,by omega,by omega,H,Row.nil _ _ _,rfl,rfl,trivial,fun j hj=>(by obtain ⟨a,ha,_⟩:=hj;cases ha),(by rw[List.drop_zero];exact hq),hr,by omega,wL⟩,?_⟩
 clear H hr hq hb;rintro n st v ⟨i,sl,a,L,q,hi,rfl,H,Xk,hL,JI,hA,Ev,hq,hr,G7,TO⟩;unfold eZ;have gK:=H.get 0 rfl;have pS:=H.size;have mm:∀j,sl.own j->j<v.heap.size:=fun j hj=>Xk.own_lt hj
 cases MU:ks.drop i with
 |nil=>
  rw[MU,PL]at hq;subst hq;have SE:i=ks.length:=by
   have:=aq List.length MU;rw[aE,aV]at this;omega
  rw[SE,bf]at hA;refine (Jl gK hr).mono ?_ fun _ _ h=>h
  rintro r v2 ⟨x,a2,rfl,hr,Hb,e2⟩;have H0:=H;have H:=(H.here (fun j=>j=b\/j=w.heap.size)).G8 0 rfl Hb e2 (.inl (.inl rfl));have VS:=e2.size;simp only[aa,ab]at H;refine H.JC fun v3 H e3=>?_
  simp only[ad,ag,add_lit,ak]at H⊢
  iterate 5 (refine H.st 3 rfl (by simp) (.inr VS) fun _ H=>?_;simp only[af,aa,ab]at H)
  iterate 5 refine H.ld 3 rfl rfl ?_
  refine (Jk _ _ _ _).mono ?_;rintro q v4 ⟨rfl,e4⟩;have H:=H.AB e4;refine Br.t (show (((6:Int)==6)&&((ba [93]).toList==(⟨#[93]⟩:cN).toList))=true by decide+kernel) ?_;have hs5:=H.size;refine Hx.OE H 2 rfl (Hx.MT H 1 rfl rfl (.inl (.inr rfl)) fun v5 H5 e5=>Hx.OE H5 1 rfl ?_);have ev:=H5.ext;have hv5:=ev.size;obtain ⟨d,hA⟩:=Jm hA;refine ⟨a2,⟨d+1,⟨rfl,rfl,rfl,rfl⟩,⟨KV.nil _,fun h=>absurd rfl h⟩,L,⟨OV.row (Xk.AB ev fun j hj h=>?_),fun _ j hj=>⟨(Ev j hj).1,by have:=mm j hj;omega⟩⟩,hA.imp fun x y h=>(LC.AI ev (fun j hj h=>?_) h).CM fun j hj=>⟨hj.1,by omega⟩⟩,hr,H5.get 0 rfl,H0.ext.trans ev (fun _ h=>h) fun j hj h=>h.elim id fun h=>by omega⟩
  ·have:=Ev j hj;rcases h with rfl|rfl<;>omega
  ·obtain ⟨h1,_,h2,_⟩:=hj;rcases h with rfl|rfl<;>omega
 |cons k r=>
  rw[MU,PL]at hq;obtain ⟨qa,qb,hqa,hqb,rfl⟩:=hq;obtain ⟨p,m,rfl,mV,jy,hp3,jr⟩:=F9 hqa;have oY:i<ks.length:=by
   have:=aq List.length MU;rw[aE,au]at this;omega
  have DP:ks[i]?=some k:=by
   have:=aq (fun l=>l[0]?) MU;simpa using this
  have wM:=ax DP;have gL:ks.drop (i+1)=r:=by
   rw[<-bH,MU]
   rfl
  have Fi:ks.take (i+1)=ks.take i++[k]:=by rw[bC,DP];rfl
  have wN:=BS k wM;have Wl:deep<24:=by
   rw[Dt,ai]at wN;have:=wN.1;unfold A3 at this;simp only[ai,bq]at this;omega
  rw[ag,ag,aD]at hr;have hnr:=(SC hqb (SD (l:=[93]) (m:=rest))).1;refine (Jl gK hr).mono ?_ fun _ _ h=>h
  rintro r0 v2 ⟨x,a2,rfl,hr,Hb,e2⟩;have H0:=H;have H:=(H.here (fun j=>j=b)).G8 0 rfl Hb e2 (.inl rfl);have VS:=e2.size;simp only[aa,ab]at H;refine H.JC fun v3 H e3=>?_
  simp only[ad,ag,add_lit,ak]at H⊢
  iterate 5 (refine H.st 3 rfl (by simp) (.inr VS) fun _ H=>?_;simp only[af,aa,ab]at H)
  iterate 5 refine H.ld 3 rfl rfl ?_
  refine (Jk _ _ _ _).mono ?_;rintro q4 v4 ⟨rfl,e4⟩;have H:=H.AB e4;refine Br.f ?_ ?_
  ·show ((p.k==6)&&(p.s.toList==(⟨#[93]⟩:cN).toList))=false;by_cases h6:p.k=6
   ·rw[bw.2 fun h=>hp3 ⟨h6,h⟩,Bool.and_false]
   ·rw[bw.2 h6,Bool.false_and]
  iterate 5 refine H.ld 3 rfl rfl ?_
  refine (F6 _ _).mono ?_;rintro q5 v5 ⟨rfl,e5⟩;have H:=H.AB e5;refine Br.t jy (Br.dec (fun _=>H.ld 2 rfl rfl (Br.dec (fun q=>by have:(8191:Int)<=(sl.len:Nat):=q;omega) fun _=>?_)) fun q=>absurd Wl q);have Kp:=H.get 2 rfl;have hb6:=H.get 3 rfl;have hs5:=H.size;refine ⟨fun u=>AN u w2.heap.size (AF (6,0,0,⟨#[]⟩,⟨none,0,0⟩,sl)).toArray 26/\AN u v2.heap.size (oM (p.tok (x:Int) (a2:Int))) 148,⟨H.drew.get 2 rfl,H.drew.get 3 rfl⟩,AU.of (fun _ h=>h.1) rfl ?_⟩
  iterate 5 refine AU.of (fun _ h=>h.2) rfl ?_
  have H:=H.drew;have hb9:b<v5.heap.size:=by omega
  refine (ih k wM v5.drew p m (qb++(Ap [93]::rest)) x a2 deep PR wN hd (h9 k wM) hqa hr hnr (H.get 0 rfl)).mono ?_ fun _ _ h=>h
  rintro r1 v6 ⟨a3,CO,hr3,AMT,e6⟩;have H:=H.G8 0 rfl AMT e6 (.inl rfl);simp only[aa,ab]at H;have pQ:=e6.size;have ATL:v5.heap.size<=v6.heap.size:=pQ;refine ⟨⟨H.get 2 rfl,H.get 3 rfl⟩,?_⟩;refine H.JC fun v7 H e7=>?_
  simp only[ad,ag]at H;refine ⟨⟨H.get 2 rfl,H.get 3 rfl⟩,?_⟩;have AMU:=H.get 4 rfl;have ev7:Ext (fun j=>j=b) v v7:=H.ext;have ADC:Row v7 sl 26 6 (L.flatMap AF):=Xk.AB ev7 fun j hj (h:j=b)=>by have:=Ev j hj;omega
  obtain ⟨s',v8,r8,r82,r83,e8,Ug⟩:=Kg.O4 (ty:=24) ADC AMU rfl (MF r1) (by omega) (by omega);refine ⟨s',v8,r8,?_⟩;have hs8:=e8.size;have hs7:=e7.size;have hvd:v5.drew.heap.size=v5.heap.size:=rfl;have hv7:v.heap.size<=v7.heap.size:=by omega
  have H:=((H.here (fun j=>j=w2.heap.size\/sl.own j)).left (L:=[_,_,_]) (M:=[_,_])).other e8 (fun j hj=>by
   have:=Ev j hj;have:=mm j hj;simp only[aB,bj,ar,aF,bp,not_or];omega) fun j hj=> .inl (.inr hj)
  refine H.ME 2 rfl (by simp[AF]) (.inl (.inl rfl)) fun v9 H e9=>?_
  simp only[af,aa,ab]at H;have ev9:Ext (fun j=>j=w2.heap.size\/sl.own j) v7 v9:=H.ext;have hs9:=e9.size;have evv:Ext (fun j=>j=b\/j=w2.heap.size\/sl.own j) v v9:=ev7.trans ev9 (fun _ h=> .inl h) fun _ _ h=> .inr h
  have CF:∀j,s'.own j->w.heap.size<=j/\j≠w.heap.size/\j≠w2.heap.size:=fun j hj=>(Ug j hj).elim (Ev j) fun h=>by omega
  refine ⟨ks.length-i,by omega,i+1,s',a3,L++[r1],qb,by omega,by omega,⟨H.AR,H.nodup,H0.ext.trans evv (fun _ h=>h) fun j hj h=>?_⟩,?_,by simp[hL],by omega,?_,CF,(by rw[gL];exact hqb),hr3,G7,by omega⟩
  ·rcases h with h|h|h
   ·exact h
   ·omega
   ·have:=Ev j h;omega
  ·rw[bd,cu];exact r82.AB e9 fun j hj h=>(CF j hj).2.2 h
  ·rw[Fi];have k1:Ar (FT (fun j=>w.heap.size<=j/\j<v9.heap.size/\j≠w.heap.size/\j≠w2.heap.size/\¬s'.own j) v9) L (ks.take i):=by
    refine hA.imp fun x y h=>(h.AI evv fun j hj h=>?_).CM fun j hj=>⟨hj.1,by omega,hj.2.2.1,hj.2.2.2.1,fun h=>?_⟩
    ·rcases h with h|h|h
     ·omega
     ·exact hj.2.2.2.1 h
     ·exact hj.2.2.2.2 h
    ·rcases Ug j h with h|h
     ·exact hj.2.2.2.2 h
     ·omega
   have k2:FT (fun j=>w.heap.size<=j/\j<v9.heap.size/\j≠w.heap.size/\j≠w2.heap.size/\¬s'.own j) v9 r1 k:=by
    refine ((CO.AI e7 fun _ _ h=>h).AI ev9 fun j hj h=>?_).CM fun j hj=>⟨by omega,by omega,by omega,by omega,fun h=>?_⟩
    ·rcases h with h|h
     ·omega
     ·have:=mm j h;omega
    ·rcases Ug j h with h|h
     ·have:=mm j h;omega
     ·omega
   exact Jn k1 k2
end
end Wt
end Go.Proofs.YtdnhhkhbdfiagaaGreatDoor
namespace Go.Proofs
open Go.Shelf
def Tryz.Sq:Go.Shelf.Ren:=⟨fun|190=>268|125=>139|258=>294|128=>175|129=>157|302=>311|303=>312|304=>313|305=>314|306=>315|307=>316|308=>120|309=>317|310=>318|333=>334|329=>199|330=>200|334=>335|335=>336|336=>161|344=>361|n=>n,fun|31=>23|9=>9|3=>3|46=>133|0=>0|51=>134|53=>161|4=>4|183=>212|182=>211|131=>120|5=>5|218=>244|222=>248|228=>282|229=>139|n=>n,fun|n=>n⟩
theorem Tryz.XH:Go.Proofs.Lays.n190 Tryz.prog Tryz.Sq:={
 mixed:=by kernel_rfl
 f125:=Tryz.func139.trans (congrArg some (by kernel_rfl))
 f128:=Tryz.func175.trans (congrArg some (by kernel_rfl))
 f129:=Tryz.func157.trans (congrArg some (by kernel_rfl))
 f190:=Tryz.func268.trans (congrArg some (by kernel_rfl))
 f258:=Tryz.func294.trans (congrArg some (by kernel_rfl))
 f302:=Tryz.func311.trans (congrArg some (by kernel_rfl))
 f303:=Tryz.func312.trans (congrArg some (by kernel_rfl))
 f304:=Tryz.func313.trans (congrArg some (by kernel_rfl))
 f305:=Tryz.func314.trans (congrArg some (by kernel_rfl))
 f306:=Tryz.func315.trans (congrArg some (by kernel_rfl))
 f307:=Tryz.func316.trans (congrArg some (by kernel_rfl))
 f308:=Tryz.func120.trans (congrArg some (by kernel_rfl))
 f309:=Tryz.func317.trans (congrArg some (by kernel_rfl))
 f310:=Tryz.func318.trans (congrArg some (by kernel_rfl))
 f329:=Tryz.func199.trans (congrArg some (by kernel_rfl))
 f330:=Tryz.func200.trans (congrArg some (by kernel_rfl))
 f333:=Tryz.func334.trans (congrArg some (by kernel_rfl))
 f334:=Tryz.func335.trans (congrArg some (by kernel_rfl))
 f335:=Tryz.func336.trans (congrArg some (by kernel_rfl))
 f336:=Tryz.func161.trans (congrArg some (by kernel_rfl))
 f344:=Tryz.func361.trans (congrArg some (by kernel_rfl))
 t0:=Tryz.underlying0
 a0:=Tryz.isAgg0
 z0:=Tryz.sizeOf0
 v0:=Tryz.zeroValue0
 t3:=Tryz.underlying3
 a3:=Tryz.isAgg3
 z3:=Tryz.sizeOf3
 v3:=Tryz.zeroValue3
 t4:=Tryz.underlying4
 a4:=Tryz.isAgg4
 z4:=Tryz.sizeOf4
 v4:=Tryz.zeroValue4
 t5:=Tryz.underlying5
 a5:=Tryz.isAgg5
 z5:=Tryz.sizeOf5
 v5:=Tryz.zeroValue5
 t9:=Tryz.underlying9
 a9:=Tryz.isAgg9
 z9:=Tryz.sizeOf9
 v9:=Tryz.zeroValue9
 t31:=Tryz.underlying23
 a31:=Tryz.isAgg23
 z31:=Tryz.sizeOf23
 v31:=Tryz.zeroValue23
 t46:=Tryz.underlying133
 a46:=Tryz.isAgg133
 z46:=Tryz.sizeOf133
 v46:=Tryz.zeroValue133
 t51:=Tryz.underlying134
 a51:=Tryz.isAgg134
 z51:=Tryz.sizeOf134
 v51:=Tryz.zeroValue134
 t53:=Tryz.underlying161
 a53:=Tryz.isAgg161
 z53:=Tryz.sizeOf161
 v53:=Tryz.zeroValue161
 t131:=Tryz.underlying120
 a131:=Tryz.isAgg120
 z131:=Tryz.sizeOf120
 v131:=Tryz.zeroValue120
 t182:=Tryz.underlying211
 a182:=Tryz.isAgg211
 z182:=Tryz.sizeOf211
 v182:=Tryz.zeroValue211
 t183:=Tryz.underlying212
 a183:=Tryz.isAgg212
 z183:=Tryz.sizeOf212
 v183:=Tryz.zeroValue212
 t218:=Tryz.underlying244
 a218:=Tryz.isAgg244
 z218:=Tryz.sizeOf244
 v218:=Tryz.zeroValue244
 t222:=Tryz.underlying248
 a222:=Tryz.isAgg248
 z222:=Tryz.sizeOf248
 v222:=Tryz.zeroValue248
 t228:=Tryz.underlying282
 a228:=Tryz.isAgg282
 z228:=Tryz.sizeOf282
 v228:=Tryz.zeroValue282
 t229:=Tryz.underlying139
 a229:=Tryz.isAgg139
 z229:=Tryz.sizeOf139
 v229:=Tryz.zeroValue139}
open Go.Sort Go.RowKit in
theorem Tryz.slices_Sort_string(AR off cap:Nat)(ss:List (List UInt8))(w:World)(hH:Holds encStr w AR off ss.toArray)(ANl:AR<w.heap.size)(DN:ss.length<4611686018427387904):
  Calls Tryz.prog 268 #[.slice (some ⟨AR,off,none⟩) ss.length cap] w fun e w'=>
   e= .returned (.tuple #[])/\∃n os,w'=grow (putRow encStr (Sort.ahead w n) AR off (ss.mergeSort fun x y=>decide (x<=y)).toArray) os:=Any.slices_Sort_string Tryz.XH AR off cap ss w hH ANl DN
open Go.RowKit Go.Sort in
theorem Tryz.slices_Sort_string_none(p:Option Addr)(cap:Nat)(w:World):
  Calls Tryz.prog 268 #[.slice p 0 cap] w fun e w'=>e= .returned (.tuple #[])/\w'=w:=Any.slices_Sort_string_none Tryz.XH p cap w
end Go.Proofs
namespace Go.Proofs.YtdnhhkhbdfiagaaGreatDoor
set_option maxRecDepth 8000
set_option maxHeartbeats 4000000
namespace Wt
open Sh Fix Tk Tl Vl
def fM (a b:ByteArray):Bool:=Op.bytesLess a.toList b.toList
theorem Nz:∀{a b c:List UInt8},Op.bytesLess a b=true->Op.bytesLess b c=true->Op.bytesLess a c=true
 |_,[],_,h,_=>by simp[Op.bytesLess]at h
 |_,_::_,[],_,h=>by simp[Op.bytesLess]at h
 |[],_::_,_::_,_,_=>rfl
 |x::a,y::b,z::c,h1,h2=>by
  simp only[Op.bytesLess,bA,ai,bq,bU]at h1 h2⊢;rcases h1 with h1|⟨rfl,h1⟩
  ·rcases h2 with h2|⟨rfl,h2⟩
   ·left;exact UInt8.lt_trans h1 h2
   ·exact .inl h1
  ·rcases h2 with h2|⟨rfl,h2⟩
   ·exact .inl h2
   ·exact .inr ⟨rfl,Nz h1 h2⟩
theorem WT:∀(a:List UInt8),Op.bytesLess a a=false
 |[]=>rfl
 |x::a=>by simp[Op.bytesLess,WT a]
theorem va {a b:ByteArray}(h:fM a b=true):a≠b:=fun e=>by
 rw[e]at h;unfold fM at h;rw[WT]at h;cases h
theorem vb {a b:ByteArray}(h:fM a b=true):decide (a.data.toList<=b.data.toList)=true:=by
 unfold fM at h;rw[bytesLess_eq,ByteArray.toList_eq,ByteArray.toList_eq,bq]at h;rw[bq];exact List.le_of_lt h
theorem U3 {HW:Bool}:∀{ks:List ByteArray} {kids:List Tr} {p:Option ByteArray},Df HW p ks kids=true->ks.length=kids.length/\(∀t∈kids,t.k≠0)/\ks.Pairwise (fun a b=>fM a b=true)/\∀q,p=some q->∀k∈ks,fM q k=true
 |[],[],_,_=>⟨rfl,fun t h=>(by cases h),List.Pairwise.nil,fun _ _ k h=>(by cases h)⟩
 |[],_::_,_,h=>by cases h
 |x::ks,[],_,h=>by cases h
 |x::ks,t::r,p,h=>by
  rw[EZ]at h;simp only[ai,bq]at h;obtain ⟨h1,h2,h3,h4⟩:=U3 h.2;have hx:=h4 x rfl;refine ⟨by rw[au,au,h1],fun y hy=>?_,List.Pairwise.cons hx h3,fun q hq k hk=>?_⟩
  ·rcases ar.1 hy with rfl|hy
   ·exact h.1.2
   ·exact h2 y hy
  ·subst hq;have hqx:fM q x=true:=h.1.1.1.2;rcases ar.1 hk with rfl|hk
   ·exact hqx
   ·exact Nz hqx (hx k hk)
theorem Rq {ks:List ByteArray}(h:ks.Pairwise fun a b=>fM a b=true):ks.Nodup:=h.imp fun h=>va h
theorem Rr {K ks:List ByteArray}(h:K.Perm ks)(hu:ks.Pairwise fun a b=>fM a b=true):(K.map bl).mergeSort (fun x y=>decide (x<=y))=ks.map bl:=by
 have:=mergeSort_of_perm (h.map bl);show (K.map bl).mergeSort leB=_;rw[this];refine List.mergeSort_of_pairwise (List.pairwise_map.2 (hu.imp fun h=>?_));exact vb h
theorem fN (K:List ByteArray):(K.map bl).map encStr=K.map Value.string:=by
 rw[cK];refine List.map_congr_left fun b _=>?_
 show Value.string ⟨b.data.toList.toArray⟩= .string b
 rfl
theorem mC {K ks:List ByteArray}{s:AA}{w:World}(hr:Row w s 9 1 (K.map Value.string))(h:K.Perm ks)(hu:ks.Pairwise fun a b=>fM a b=true)(pB:K.length<4611686018427387904):
  AA3 s w (fun w1=>Row w1 s 9 1 (ks.map Value.string)/\Ext s.own w w1):=by
 obtain ⟨p,n,cap⟩:=s;have hn:=hr.1;rw[bc,ch]at hn;have hn:K.length=n:=hn;rcases hr.2 with h0|⟨g,cur,hp,hb,h1,h2,h3⟩
 ·cases h0;refine (Tryz.slices_Sort_string_none none 0 w).mono fun e w' hh=>?_
  have:K=[]:=aY hn;subst this;have:ks=[]:=h.symm.eq_nil;subst this;obtain ⟨e1,rfl⟩:=hh;exact ⟨e1,hr,Ext.refl _ _⟩
 ·cases hp;have hlen:(K.map bl).length=n:=by rw[bc,hn]
  have ht:cur.toList.take (K.map bl).length=(K.map bl).map encStr:=by
   rw[fN,hlen];simpa using h3
  have:=Tryz.slices_Sort_string g 0 cap (K.map bl) w (holds_of_block hb ht) (aj.1 hb).1 (by rw[bc];exact pB);rw[hlen,Rr h hu]at this;refine this.mono fun e w' hh=>?_
  obtain ⟨e1,m,os,rfl⟩:=hh;have Cy:(ks.map bl).length=n:=by rw[bc,<-h.length_eq,hn]
  refine ⟨e1,⟨by rw[bc,<-h.length_eq,hn,ch],.inr ⟨g,_,rfl,heap_sorted _ hb,h1,by simpa[Sort.putCells]using h2,?_⟩⟩,(Ext.refl _ w).grown (grownBy_sorted _) fun k hk=> .inl ⟨_,rfl,aQ hk⟩⟩;have:=take_putCells cur (ks.map bl) (by rw[Cy,h2];simp;exact h1);rw[fN,Cy]at this;simpa using this
end Wt
set_option maxRecDepth 100000
namespace Wt
open Sh Fix Tk Tl Vl
def MV (ks:List ByteArray)(Os:List Ob):NT:=List.zipWith (fun k o=>(k,.agg (AF o).toArray)) ks Os
theorem IW:∀{ks:List ByteArray} {Os:List Ob},ks.length=Os.length->(MV ks Os).map (·.1)=ks
 |[],[],_=>rfl
 |k::ks,o::Os,h=>by
  show k::(MV ks Os).map (·.1)=_;rw[IW (by simpa using h)]
theorem Wm {ks:List ByteArray}{Os:List Ob}(h:ks.length=Os.length):(MV ks Os).length=ks.length:=by
 rw[<-bc (f:=(·.1)),IW h]
theorem Wn:∀{ks:List ByteArray} {Os:List Ob} {i:Nat} {k:ByteArray} {o:Ob},ks[i]?=some k->Os[i]?=some o->(MV ks Os)[i]?=some (k,.agg (AF o).toArray)
 |_::_,_::_,0,_,_,h1,h2=>by cases h1;cases h2;rfl
 |_::ks,_::Os,i+1,k,o,h1,h2=>by
  show (MV ks Os)[i]?=_;exact Wn (by simpa using h1) (by simpa using h2)
 |[],_,_,_,_,h,_=>by simp at h
 |_,[],_,_,_,_,h=>by simp at h
theorem Wo:∀{ks:List ByteArray} {Os:List Ob} {p:ByteArray×Value},p∈MV ks Os->p.1∈ks/\∃o∈Os,p.2= .agg (AF o).toArray
 |[],_,_,h=>by cases h
 |_::_,[],_,h=>by cases h
 |k::ks,o::Os,p,h=>by
  rcases ar.1 (show p∈(k,_)::MV ks Os from h)with rfl|h
  ·exact ⟨aw ..,o,aw ..,rfl⟩
  ·obtain ⟨h1,x,h2,h3⟩:=Wo h;exact ⟨av _ h1,x,av _ h2,h3⟩
theorem SF:∀{ks:List ByteArray} {Os:List Ob} {k:ByteArray} {o:Ob},ks.length=Os.length->MV (ks++[k]) (Os++[o])=MV ks Os++[(k,.agg (AF o).toArray)]
 |[],[],_,_,_=>rfl
 |x::ks,y::Os,k,o,h=>by
  show (x,_)::MV (ks++[k]) (Os++[o])=_;rw[SF (by simpa using h)]
  rfl
theorem IX:prog.underlying 309=some (.map 9 26):=Tryz.underlying309
theorem P3:prog.underlying 9=some .string:=Tryz.underlying9
theorem Wp (w:World):(zeroValue 26).run prog w= .ok (.agg (AF Kl).toArray) w:=Tryz.zeroValue26 w
section
variable {w w1 W v wd:World} {b c a o d:Nat} {s:ByteArray} {ks:List ByteArray} {kids:List Tr} {Os:List Ob} {S:Nat->Prop}
attribute [local irreducible] Ld Sh.St Nw Nn AU Ae Am BW
abbrev SG:Array Value:=(AF Kl).toArray
theorem Ys {Yt ER:World}{OF:AA}{R:Ob->World->Prop}(hm:I2 v Yt.heap.size (MV ks Os))(hn:ks.Nodup)(Cy:∀k∈ks,k.size<=maxLen)(ho:ks.length=Os.length)(wO:Yt.heap.size<wd.heap.size)(wP:Yt.heap.size≠w.heap.size)(how:w.heap.size<wd.heap.size)(hdw:wd.heap.size<=ER.heap.size)
  (H:Hx wd (·=w.heap.size) v [(w.heap.size,SG,26),(ER.heap.size,(AF (7,0,0,⟨#[]⟩,OF,⟨none,0,0⟩)).toArray,26)])
  (hK:Row v OF 9 1 (ks.map Value.string)) (NW:∀j,OF.own j->ER.heap.size<j) (hA:Ar (FT S v) Os kids) (hS:∀j,S j->j<wd.heap.size/\j≠w.heap.size) (hl:ks.length<=8191)
  (hR:∀r v',FT (fun j=>S j\/wd.heap.size<=j/\j<v'.heap.size) v' r (.mk 7 0 0 ⟨#[]⟩ ks kids)->Ext (·=w.heap.size) wd v'->R r v'):
  Lp (σ:=Int) (Uq w Yt ER OF R) 0 v:=by
 have AQE:OF.len=ks.length:=by have:=hK.1;rw[bc]at this;omega
 refine ⟨fun n st u=>∃(i:Nat) (yr:AA) (L:List Ob),i<=ks.length/\st=(i:Int)/\n=ks.length-i/\Hx wd (·=w.heap.size) u [(w.heap.size,SG,26),(ER.heap.size,(AF (7,0,0,⟨#[]⟩,OF,yr)).toArray,26)]/\I2 u Yt.heap.size (MV ks Os)/\
  Row u OF 9 1 (ks.map Value.string)/\(∀j,OF.own j->ER.heap.size<j)/\Row u yr 26 6 (L.flatMap AF)/\L=Os.take i/\yr.len=i/\(∀j,yr.own j->ER.heap.size<j/\¬OF.own j)/\Ar (FT S u) Os kids,
  ks.length,⟨0,⟨none,0,0⟩,[],by omega,rfl,rfl,H,hm,hK,NW,Row.nil _ _ _,by rw[List.take_zero],rfl,fun j hj=>(by obtain ⟨a,ha,_⟩:=hj;cases ha),hA⟩,?_⟩
 clear H hm hK hA NW;rintro n st u ⟨i,yr,L,hi,rfl,rfl,H,hm,hK,NW,hO,rfl,hlO,pT,hA⟩;unfold Uq;have hdu:=AN.lt (H.get 1 rfl);refine Br.dec (fun Au=>?_) fun Og=>?_
 ·have Au:(i:Int)<((OF.len:Nat):Int):=Au;have oY:i<ks.length:=by omega
  obtain ⟨key,DS⟩:∃key,ks[i]?=some key:=⟨ks[i],ah oY⟩
  obtain ⟨ob,yu⟩:∃ob,Os[i]?=some ob:=⟨Os[i]'(by omega),ah (by omega)⟩
  have hmk:key∈ks:=ax DS;obtain ⟨g,hg,hc⟩:=hK.cell (show (ks.map Value.string)[i]?=some (.string key) by rw[aH,DS];rfl);refine ⟨by omega,by omega,?_⟩;rw[hg];refine Nn.of ?_;rw[show ((i:Int).toNat*1)=i by omega];simp only[add_lit,ak];refine Ld.mk hc (H.ld 1 rfl rfl ?_);have yw:=hm.look IX P3 (Wp u) (Cy key hmk);rw[(at_key hm.one (Wn DS yu)).1,Option.getD_some]at yw;refine ⟨ob,u,yw,?_⟩;refine H.JC fun u2 H2 e2=>?_
  simp only[ad,ag]at H2;have VS:=e2.size;have hlu:=fun j=>(hO.own_lt (j:=j))
  obtain ⟨s',u3,r3,qz,eO,e3,jf⟩:=Kg.O4 (ty:=24) (hO.AB e2 fun _ _ h=>h) (H2.get 2 rfl) rfl (MF ob) (by omega) (by omega);refine ⟨s',u3,r3,?_⟩;have jt:=e3.size;have H3:=(H2.left (L:=[_,_]) (M:=[_])).other e3 (fun j hj=>by
   have h1:=(pT j hj).1;simp only[aB,bj,ar,aF,bp,not_or];omega) fun j hj=> .inr (by have:=(pT j hj).1;omega)
  refine H3.ME 1 rfl (by simp[AF]) (.inr (by omega)) fun u4 H4 e4=>?_
  simp only[aa,ab]at H4;have yi:=e4.size;have hEu:Ext (fun j=>yr.own j\/j=ER.heap.size) u u4:=(e2.trans e3 (fun _ h=>h.elim) fun _ _ h=> .inl h).trans e4 (fun _ h=>h) fun _ _ h=> .inr h
  have CF:∀j,s'.own j->ER.heap.size<j/\¬OF.own j:=fun j hj=>(jf j hj).elim (pT j) fun h=>⟨by omega,fun hk=>by have:=hK.own_lt hk;omega⟩
  have wL:i+1<=ks.length:=oY;refine ⟨ks.length-(i+1),by omega,i+1,s',Os.take (i+1),wL,?_,rfl,H4,hm.AI hEu fun h=>?_,hK.AB hEu fun j hj h=>?_,NW,?_,rfl,by omega,CF,hA.imp fun x y h=>h.AI hEu fun j hj h=>?_⟩
  ·rw[IntWalk.i64_in _ (by omega)]
   rfl
  ·rcases h with h|h
   ·have:=(pT _ h).1;omega
   ·omega
  ·rcases h with h|h
   ·exact (pT j h).2 hj
   ·have:=NW j hj;omega
  ·rw[bC,yu,Option.toList_some,bd,cu];exact qz.AB e4 fun j hj h=>by have:=(CF j hj).1;have h:j=ER.heap.size:=h;omega
  ·have:=hS j hj;rcases h with h|h
   ·have:=(pT _ h).1;omega
   ·omega
 ·have Og:¬(i:Int)<((OF.len:Nat):Int):=Og;have hie:i=ks.length:=by omega
  subst hie;have hz:Os.take ks.length=Os:=aU (by omega);rw[hz]at hO;refine Hx.OE H 1 rfl (Hx.MT H 0 rfl rfl (.inl rfl) fun u2 H2 e2=>Hx.OE H2 0 rfl ?_);have VS:=e2.size;obtain ⟨dd,hA⟩:=Jm hA;refine hR _ _ ⟨dd+1,⟨rfl,rfl,rfl,rfl⟩,⟨KV.row (K:=ks) (hK.AB e2 fun j hj h=>?_) (bB hl (by decide)),fun _ j hj=> .inr ⟨?_,?_⟩⟩,Os,⟨OV.row (hO.AB e2 fun j hj h=>?_),fun _ j hj=> .inr ⟨?_,?_⟩⟩,hA.imp fun x y h=>(LC.AI e2 (fun j hj h=>?_) h).CM fun j hj=> .inl hj⟩ H2.ext
  ·have:=NW j hj;have h:j=w.heap.size:=h;omega
  ·have:=NW j hj;omega
  ·have:=hK.own_lt hj;omega
  ·have:=(pT j hj).1;have h:j=w.heap.size:=h;omega
  ·have:=(pT j hj).1;omega
  ·have:=hO.own_lt hj;omega
  ·exact (hS j hj).2 h
end
end Wt
namespace Wt
open Sh Fix Tk Tl Vl
section
variable {w w1 W v wd:World} {b c a o d:Nat} {s:ByteArray} {ks:List ByteArray} {kids:List Tr} {Os:List Ob} {S:Nat->Prop}
attribute [local irreducible] Ld Sh.St Nw Nn AU Ae Am BW
theorem P4 (done:NT)(key:ByteArray)(v:Value):((done++[(key,v)]).map (·.1)).map Value.string=(done.map (·.1)).map Value.string++[.string key]:=by simp
theorem gM {Yt ER:World}{R:Ob->World->Prop}{it:Nat}(hm:I2 v Yt.heap.size (MV ks Os))(hI:mW v it Yt.heap.size (MV ks Os) [])(hn:ks.Pairwise fun a b=>fM a b=true)(Cy:∀k∈ks,k.size<=maxLen)(ho:ks.length=Os.length)(cO:∀o∈Os,o.1≠0)(wO:Yt.heap.size<wd.heap.size)(wP:Yt.heap.size≠w.heap.size)(how:w.heap.size<wd.heap.size)(hdw:wd.heap.size<=ER.heap.size)(hit:ER.heap.size<it)
  (H:Hx wd (·=w.heap.size) v [(w.heap.size,SG,26),(ER.heap.size,(AF (7,0,0,⟨#[]⟩,⟨none,0,0⟩,⟨none,0,0⟩)).toArray,26)])
  (hA:Ar (FT S v) Os kids) (hS:∀j,S j->j<wd.heap.size/\j≠w.heap.size) (hl:ks.length<=8191)
  (hR:∀r v',FT (fun j=>S j\/wd.heap.size<=j/\j<v'.heap.size) v' r (.mk 7 0 0 ⟨#[]⟩ ks kids)->Ext (·=w.heap.size) wd v'->R r v'):
  Lp (σ:=Unit) (Ur w Yt ER ⟨it,0,none⟩ R) () v:=by
 have mG:=Wm ho;refine ⟨fun n _ u=>∃(done:NT) (OF:AA),n+done.length=ks.length/\Hx wd (·=w.heap.size) u [(w.heap.size,SG,26),(ER.heap.size,(AF (7,0,0,⟨#[]⟩,OF,⟨none,0,0⟩)).toArray,26)]/\I2 u Yt.heap.size (MV ks Os)/\mW u it Yt.heap.size (MV ks Os) done/\
  Row u OF 9 1 ((done.map (·.1)).map Value.string)/\(∀j,OF.own j->ER.heap.size<j/\j≠it)/\Ar (FT S u) Os kids/\it<u.heap.size,
  ks.length,⟨[],⟨none,0,0⟩,rfl,H,hm,hI,Row.nil _ _ _,fun j hj=>(by obtain ⟨a,ha,_⟩:=hj;cases ha),hA,?_⟩,?_⟩
 ·obtain ⟨E,cc,D,_,a2,_⟩:=hI.out;exact (aj.1 a2).1
 clear H hm hI hA;rintro n st u ⟨done,OF,hnn,H,hm,hI,hK,NW,hA,ATR⟩;unfold Ur;have hdu:=AN.lt (H.get 1 rfl);have hlK:OF.len=done.length:=by have:=hK.1;simp only[bc]at this;omega
 rcases hI.next (P:=prog) (ty:=0)with ⟨hr,ADD⟩|⟨key,x,u1,hr,e1,hI1,CB,Au,hen⟩
 ·refine .inl ⟨u,hr,H.ld 1 rfl rfl ?_⟩;have hp:(done.map (·.1)).Perm ks:=by
   have:=ADD.map (·.1);rwa[IW ho]at this
  refine (mC hK hp hn (by have:=hp.length_eq;omega)).mono ?_;rintro u2 ⟨hK2,e2⟩;have VS:=e2.size;have H2:=H.other e2 (fun j hj=>by
   have h1:=(NW j hj).1;simp only[aB,bj,ar,aF,bp,not_or];omega) fun j hj=> .inr (by have:=(NW j hj).1;omega)
  refine H2.ld 1 rfl rfl ?_;exact Ys (hm.AI e2 fun h=>by have:=(NW _ h).1;omega) (Rq hn) Cy ho wO wP how hdw H2 hK2 (fun j hj=>(NW j hj).1) (hA.imp fun x y h=>h.AI e2 fun j hj h=>by have:=(NW _ h).1;have:=hS j hj;omega) hS hl hR
 ·refine .inr ⟨.string key,x,u1,hr,?_⟩;obtain ⟨hk,ob,yu,hx⟩:=Wo CB;have hx:x= .agg (AF ob).toArray:=hx;subst hx;refine ⟨key,ob,u1,hen,?_⟩;have hs1:=e1.size;have H1:=H.other e1 (fun j (hj:j=it)=>by
   simp only[aB,bj,ar,aF,bp,not_or];omega) fun j (hj:j=it)=> .inr (by omega)
  refine H1.JC fun u2 H2 e2=>?_
  simp only[ad,ag]at H2;have VS:=e2.size;refine Hx.MT H2 2 rfl rfl (.inr (by omega)) fun u3 H3 e3=>?_
  simp only[aa,ab]at H3;have jt:=e3.size;refine H3.ld 2 rfl rfl (Br.ne (fun _=>?_) fun h=>absurd h (cO ob yu));refine H3.ld 1 rfl rfl ?_;refine H3.JC fun u4 H4 e4=>?_
  simp only[ad,ag]at H4;have yi:=e4.size;have hE4:Ext (fun j=>j=it\/j=u1.heap.size) u u4:=((e1.trans e2 (fun _ h=> .inl h) fun _ _ h=>h.elim).trans e3 (fun _ h=>h) fun _ _ h=> .inr h).trans e4 (fun _ h=>h) fun _ _ h=>h.elim
  obtain ⟨s',u5,r5,uo,r53,e5,yV⟩:=GA.O4 (ty:=23) (hK.AB hE4 fun j hj h=>by
   have:=(NW j hj).2;have:=hK.own_lt hj;rcases h with h|h<;>omega) (H4.get 3 rfl) rfl (fun y hy=>by rw[ao.1 hy];rfl) (by omega) (by omega)
  refine ⟨s',u5,r5,?_⟩;have hs5:=e5.size;have H5:=(H4.left (L:=[_,_]) (M:=[_,_])).other e5 (fun j hj=>by
   have h1:=(NW j hj).1;simp only[aB,bj,ar,aF,bp,not_or];omega) fun j hj=> .inr (by have:=(NW j hj).1;omega)
  refine H5.ME 1 rfl (by simp[AF]) (.inr (by omega)) fun u6 H6 e6=>?_
  simp only[aa,ab]at H6;have pQ:=e6.size;have hE:Ext (fun j=>(j=it\/j=u1.heap.size)\/OF.own j\/j=ER.heap.size) u u6:=(hE4.trans e5 (fun _ h=> .inl h) fun _ _ h=> .inr (.inl h)).trans e6 (fun _ h=>h) fun _ _ h=> .inr (.inr h)
  have hE1:Ext (fun j=>j=u1.heap.size\/OF.own j\/j=ER.heap.size) u1 u6:=(((e2.trans e3 (fun _ h=>h.elim) fun _ _ h=> .inl h).trans e4 (fun _ h=>h) fun _ _ h=>h.elim).trans e5 (fun _ h=>h) fun _ _ h=> .inr (.inl h)).trans e6 (fun _ h=>h) fun _ _ h=> .inr (.inr h)
  have CF:∀j,s'.own j->ER.heap.size<j/\j≠it:=fun j hj=>(yV j hj).elim (NW j) fun h=>⟨by omega,by omega⟩
  refine ⟨n-1,by omega,done++[(key,.agg (AF ob).toArray)],s',by rw[ae,bo];omega,H6,hm.AI hE fun h=>?_,hI1.AI hE1 (fun h=>?_) fun h=>?_,?_,CF,hA.imp fun x y h=>h.AI hE fun j hj h=>?_,by omega⟩
  ·rcases h with (h|h)|h|h
   ·omega
   ·omega
   ·have:=(NW _ h).1;omega
   ·omega
  ·rcases h with h|h|h
   ·omega
   ·exact (NW _ h).2 rfl
   ·omega
  ·rcases h with h|h|h
   ·omega
   ·have:=(NW _ h).1;omega
   ·omega
  ·rw[P4];exact uo.AB e6 fun j hj h=>by have:=(CF j hj).1;have h:j=ER.heap.size:=h;omega
  ·have:=hS j hj;rcases h with (h|h)|h|h
   ·omega
   ·omega
   ·have:=(NW _ h).1;omega
   ·omega
end
end Wt
namespace Wt
open Sh Fix Tk Tl Vl
theorem gN {ks:List ByteArray}{l:List Tr}{qs rest:List Pt}(h:PD ks l qs)(k:SB rest):Eu (qs++rest):=by
 cases ks with
 |nil=>cases l with
  |nil=>rw[PD]at h;subst h;exact k.gI
  |cons _ _=>rw[PD]at h;exact h.elim
 |cons x ks=>cases l with
  |nil=>rw[PD]at h;exact h.elim
  |cons t l=>
   rw[PD]at h;obtain ⟨a,b,h1,h2,rfl⟩:=h;exact gJ.gI
theorem gO {S:Nat->Prop}{w:World}:∀{L:List Ob} {ts:List Tr},Ar (FT S w) L ts->(∀t∈ts,t.k≠0)->∀o∈L,o.1≠0
 |[],_,_,_,o,h=>by cases h
 |x::L,t::ts,h,k,o,ho=>by
  rcases ar.1 ho with rfl|ho
  ·obtain ⟨⟨h1,_⟩,_⟩:=h.1.t0z.out;rw[h1];exact k t (aw ..)
  ·exact gO h.2 (fun t ht=>k t (av _ ht)) o ho
section
variable {w w1 W:World} {b c a:Nat} {s:ByteArray} {ps qs rest:List Pt} {deep:Int} {ks:List ByteArray} {kids:List Tr}
attribute [local irreducible] Ld Sh.St Nw Nn AU Ae Am BW
theorem wQ (hb:Es w b s a)(ih:∀k∈kids,Wk s b c k)(hd:0<=deep)(BS:∀k∈kids,CL (deep+1) k=true)(h9:∀k∈kids,k.k≠9)(VT:Df false none ks kids=true)(hl:ks.length<=8191)(hq:PD ks kids qs)(hr:Cj s a (qs++(Ap [62,62]::rest)) c)(PR:Value->World->Prop):
  uj (some ⟨b,0,none⟩) deep w (fun r w1=>∃a':Nat,FT (fun j=>w.heap.size<=j/\j<w1.heap.size) w1 r (.mk 7 0 0 ⟨#[]⟩ ks kids)/\Cj s a' rest c/\Es w1 b s a'/\Ext (·=b) w w1) PR:=by
 obtain ⟨hlen,cO,yx,_⟩:=U3 VT;have hky:=GB VT;have GC:=Rq yx;have Cy:∀k∈ks,k.size<=maxLen:=fun k hk=>bB (Wq (hky k hk)) (by decide)
 refine AIS _ _ _ _ _ ?_;unfold ABL;have NG:=AN.lt hb;refine (Hx.one (F:=(·=b)) hb).JC fun w2 H e2=>?_
 simp only[ad,ag]at H;have VS:=e2.size;have ho2:=AN.lt (H.get 1 rfl);refine Nw.of ?_;have e3:Ext (fun _=>False) w2 (w2.alloc (.map #[] 0)):=(Ext.refl _ w2).alloc _;have H:=H.AB e3;have hM:I2 (w2.alloc (.map #[] 0)) w2.heap.size (MV [] []):=I2.new w2;have jt:w2.heap.size<(w2.alloc (.map #[] 0)).heap.size:=by simp
 generalize w2.alloc (.map #[] 0)=w3 at H hM jt e3;refine ⟨fun n _ v=>∃(i:Nat) (a:Nat) (Os:List Ob) (q:List Pt),i<=ks.length/\n=ks.length+1-i/\Hx w (·=b) v [(b,#[.string s,.int .i64 (a:Int)],220),(w.heap.size,SG,26)]/\I2 v w2.heap.size (MV (ks.take i) Os)/\Os.length=i/\
   Ar (FT (fun j=>w.heap.size<=j/\j<v.heap.size/\j≠w.heap.size/\j≠w2.heap.size) v) Os (kids.take i)/\PD (ks.drop i) (kids.drop i) q/\Cj s a (q++(Ap [62,62]::rest)) c/\w2.heap.size<v.heap.size,ks.length+1,
  ⟨0,a,[],qs,by omega,by omega,H,(by rw[List.take_zero];exact hM),rfl,trivial,(by rw[List.drop_zero,List.drop_zero];exact hq),hr,jt⟩,?_⟩
 clear H hr hq hb hM e3;rintro n st v ⟨i,a,Os,q,hi,rfl,H,hM,hOs,hA,hq,hr,TO⟩;unfold ee;have gK:=H.get 0 rfl;have pS:=H.size;have Oz:(ks.take i).length=Os.length:=by rw[aC,hOs];omega
 cases MU:ks.drop i with
 |nil=>
  have SE:i=ks.length:=by
   have:=aq List.length MU;rw[aE,aV]at this;omega
  have oT:kids.drop i=[]:=List.drop_eq_nil_of_le (by omega);rw[MU,oT,PD]at hq;subst hq;rw[SE,hlen,bf]at hA;rw[SE,bf]at hM Oz;refine (Jl gK hr).mono ?_ fun _ _ h=>h
  rintro r v2 ⟨x,a2,rfl,hr,Hb,e2⟩;have H:=H.G8 0 rfl Hb e2 (.inl rfl);have hM:=hM.AI e2 fun h=>by omega
  have hA:=hA.imp fun x y h=>(h.AI e2 fun j hj (h:j=b)=>by omega)
  have AMY:=e2.size;simp only[aa,ab]at H;refine H.JC fun v3 H e3=>?_
  have hM:=hM.AB e3;have hA:=hA.imp fun x y h=>(h.AI e3 fun j hj h=>h)
  have ADE:=e3.size;simp only[ad,ag,add_lit,ak]at H⊢;refine H.ME 2 rfl (by simp) (.inr (by omega)) fun u1 H f1=>?_
  simp only[af,aa,ab]at H;refine H.ME 2 rfl (by simp) (.inr (by omega)) fun u2 H f2=>?_
  simp only[af,aa,ab]at H;refine H.ME 2 rfl (by simp) (.inr (by omega)) fun u3 H f3=>?_
  simp only[af,aa,ab]at H;refine H.ME 2 rfl (by simp) (.inr (by omega)) fun u4 H f4=>?_
  simp only[af,aa,ab]at H;refine H.ME 2 rfl (by simp) (.inr (by omega)) fun u5 H f5=>?_
  simp only[af,aa,ab]at H;have f:=(((f1.tr f2).tr f3).tr f4).tr f5;have hM:=hM.AI f fun h=>by omega
  have hA:=hA.imp fun x y h=>(h.AI f fun j hj (h:j=v2.heap.size)=>by omega)
  have hsf:=f.size
  iterate 5 refine H.ld 2 rfl rfl ?_
  refine (Jk _ _ _ _).mono ?_;rintro q vd ⟨rfl,e4⟩;have H:=H.AB e4;have hM:=hM.AB e4;have hA:=hA.imp fun x y h=>(h.AI e4 fun j hj h=>h)
  have yi:=e4.size;refine Br.t (show (((6:Int)==6)&&((ba [62,62]).toList==(⟨#[62,62]⟩:cN).toList))=true by decide+kernel) ?_;have mn:=H.get 0 rfl;have yu:=H.get 1 rfl;have hwv:=H.size;have Hd:Hx vd (fun j=>j=w.heap.size) vd [(w.heap.size,SG,26)]:=Hx.one yu;refine Hd.JC fun y1 Hd g1=>?_
  simp only[ad,ag]at Hd;have hM:=hM.AB g1;have hA:=hA.imp fun x y h=>(h.AI g1 fun j hj h=>h)
  have yH:=g1.size;have NC:=AN.lt (Hd.get 1 rfl);refine Hx.MT Hd 1 rfl rfl (.inr (az _)) fun y2 Hd g2=>?_
  simp only[aa,ab]at Hd;have hM:=hM.AI g2 fun h=>by omega
  have hA:=hA.imp fun x y h=>(h.AI g2 fun j hj (h:j=vd.heap.size)=>by omega)
  have hg2:=g2.size;obtain ⟨y3,hrn,g3,hI,hg3⟩:=hM.range IX;have hA:=hA.imp fun x y h=>(h.AI g3 fun j hj h=>h)
  refine ⟨_,y3,hrn,?_⟩;refine gM (wd:=vd) (S:=fun j=>w.heap.size<=j/\j<v.heap.size/\j≠w.heap.size/\j≠w2.heap.size) (hM.AB g3) hI yx Cy Oz (gO hA cO) (by omega) (by omega) (by omega) (az _) (by omega) (Hd.AB g3) hA (fun j hj=>⟨by omega,hj.2.2.1⟩) hl fun r v' hx hE=>?_
  have hsE:=hE.size;refine ⟨a2,hx.CM fun j hj=>?_,hr,hE.AR mn (by omega),H.ext.trans hE (fun _ h=>h) fun j hj h=>by have h:j=w.heap.size:=h;omega⟩;rcases hj with hj|hj
  ·exact ⟨hj.1,by omega⟩
  ·exact ⟨by omega,hj.2⟩
 |cons key kr=>
  have oY:i<ks.length:=by
   have:=aq List.length MU;rw[aE,au]at this;omega
  cases oT:kids.drop i with
  |nil=>
   have:=aq List.length oT;rw[aE,aV]at this;omega
  |cons k r=>
  rw[MU,oT,PD]at hq;obtain ⟨qa,qb,hqa,hqb,rfl⟩:=hq;obtain ⟨p,m,rfl,mV,jy,hp3,jr⟩:=F9 hqa;have DS:ks[i]?=some key:=by
   have:=aq (fun l=>l[0]?) MU;simpa using this
  have DP:kids[i]?=some k:=by
   have:=aq (fun l=>l[0]?) oT;simpa using this
  have wM:=ax DP;have ADF:=ax DS;have gL:ks.drop (i+1)=kr:=by rw[<-bH,MU];rfl
  have AMa:kids.drop (i+1)=r:=by rw[<-bH,oT];rfl
  have Fi:ks.take (i+1)=ks.take i++[key]:=by rw[bC,DS];rfl
  have mo:kids.take (i+1)=kids.take i++[k]:=by rw[bC,DP];rfl
  have Vx:key∉(MV (ks.take i) Os).map (·.1):=by
   rw[IW Oz];intro hm;obtain ⟨j,hj⟩:=aZ hm;rw[bS]at hj;split at hj
   ·rename_i Ks;have h1:=(al.1 hj)
    have h2:=(al.1 DS)
    have:=(List.getElem_inj GC).1 (h1.2.trans h2.2.symm);omega
   ·cases hj
  rw[ag,ag,ag,aD]at hr;have hnr:=gN hqb (SD (l:=[62,62]) (m:=rest));refine (Jl gK hr).mono ?_ fun _ _ h=>h
  rintro r0 v2 ⟨x,a2,rfl,hr,Hb,e2⟩;have H0:=H;have hsv:=pS;have H:=H.G8 0 rfl Hb e2 (.inl rfl);have hM:=hM.AI e2 fun h=>by omega
  have hA:=hA.imp fun x y h=>(h.AI e2 fun j hj (h:j=b)=>by omega)
  have AMY:=e2.size;simp only[aa,ab]at H;refine H.JC fun v3 H e3=>?_
  have hM:=hM.AB e3;have hA:=hA.imp fun x y h=>(h.AI e3 fun j hj h=>h)
  have ADE:=e3.size;simp only[ad,ag,add_lit,ak]at H⊢;refine H.ME 2 rfl (by simp) (.inr (by omega)) fun u1 H f1=>?_
  simp only[af,aa,ab]at H;refine H.ME 2 rfl (by simp) (.inr (by omega)) fun u2 H f2=>?_
  simp only[af,aa,ab]at H;refine H.ME 2 rfl (by simp) (.inr (by omega)) fun u3 H f3=>?_
  simp only[af,aa,ab]at H;refine H.ME 2 rfl (by simp) (.inr (by omega)) fun u4 H f4=>?_
  simp only[af,aa,ab]at H;refine H.ME 2 rfl (by simp) (.inr (by omega)) fun u5 H f5=>?_
  simp only[af,aa,ab]at H;have f:=(((f1.tr f2).tr f3).tr f4).tr f5;have hM:=hM.AI f fun h=>by omega
  have hA:=hA.imp fun x y h=>(h.AI f fun j hj (h:j=v2.heap.size)=>by omega)
  have hsf:=f.size
  iterate 5 refine H.ld 2 rfl rfl ?_
  refine (Jk _ _ _ _).mono ?_;rintro q4 v4 ⟨rfl,e4⟩;have H:=H.AB e4;have hM:=hM.AB e4;have hA:=hA.imp fun x y h=>(h.AI e4 fun j hj h=>h)
  have yi:=e4.size;refine Br.f (by show (((4:Int)==6)&&_)=false;rfl) ?_;refine H.ld 2 rfl rfl ?_;have yw:=hM.ACz IX P3 (Wp v4) (Cy key ADF);rw[N8 Vx,Option.getD_none]at yw;refine ⟨Kl,_,v4,yw,?_⟩;refine H.JC fun v5 H e5=>?_
  have hM:=hM.AB e5;have hA:=hA.imp fun x y h=>(h.AI e5 fun j hj h=>h)
  have hs5:=e5.size;simp only[ad,ag]at H;refine Hx.MT H 3 rfl rfl (.inr (by omega)) fun v6 H e6=>?_
  simp only[aa,ab]at H;have hM:=hM.AI e6 fun h=>by omega
  have hA:=hA.imp fun x y h=>(h.AI e6 fun j hj (h:j=v4.heap.size)=>by omega)
  have pQ:=e6.size;refine H.ld 2 rfl rfl (Br.f (show ((4:Int) !=4)=false by decide) (Br.f rfl ?_));have hML:(MV (ks.take i) Os).length=i:=by rw[Wm Oz,Oz,hOs]
  have pU:=hM.len (ty:=3) IX (by omega);rw[hML]at pU;refine ⟨(i:Int),v6,pU,Br.dec (fun q=>by have:(i:Int)>=8191:=q;omega) fun _=>?_⟩;refine ⟨fun u=>AN u v2.heap.size (oM ((Ds key).tok (x:Int) (a2:Int))) 148,H.drew.get 2 rfl,AU.of (fun _ h=>h) rfl ?_⟩;have H:=H.drew;have e6d:Ext (fun _=>False) v6 v6.drew:=(Ext.refl _ v6).drew;have hM:=hM.AB e6d;have hA:=hA.imp fun x y h=>(h.AI e6d fun j hj h=>h)
  have ATZ:v6.drew.heap.size=v6.heap.size:=rfl;generalize v6.drew=v6d at*;refine (Jl (H.get 0 rfl) hr).mono ?_ fun _ _ h=>h
  rintro r7 v7 ⟨x7,a7,rfl,hr,AMb,e7⟩;have H:=H.G8 0 rfl AMb e7 (.inl rfl);simp only[aa,ab]at H;have hM:=hM.AI e7 fun h=>by omega
  have hA:=hA.imp fun x y h=>(h.AI e7 fun j hj (h:j=b)=>by omega)
  have hs7:=e7.size;refine ⟨H.get 2 rfl,?_⟩;refine (ih k wM v7 p m (qb++(Ap [62,62]::rest)) x7 a7 deep PR (BS k wM) hd (h9 k wM) hqa hr hnr (H.get 0 rfl)).mono ?_ fun _ _ h=>h
  rintro r1 v8 ⟨a8,CO,hr8,AMc,e8⟩;have H:=H.G8 0 rfl AMc e8 (.inl rfl);simp only[aa,ab]at H;have hM:=hM.AI e8 fun h=>by omega
  have hA:=hA.imp fun x y h=>(h.AI e8 fun j hj (h:j=b)=>by omega)
  have hs8:=e8.size;refine ⟨H.get 2 rfl,?_⟩;obtain ⟨v9,hu9,hM,e9⟩:=hM.put IX P3 (Cy key ADF) (.agg (AF r1).toArray);rw[show Kf (MV (ks.take i) Os) key (.agg (AF r1).toArray)=MV (ks.take (i+1)) (Os++[r1])from by
   rw[Fi,SF Oz];rcases Je (MV (ks.take i) Os) key (.agg (AF r1).toArray)with ⟨h,_⟩|⟨_,h⟩
   ·exact absurd h Vx
   ·exact h]at hM
  refine ⟨v9,hu9,?_⟩;have H:=(H.left (L:=[_,_]) (M:=[_,_])).other e9 (fun j (hj:j=w2.heap.size)=>by
   simp only[aB,bj,ar,aF,bp,not_or];omega) fun j (hj:j=w2.heap.size)=> .inr (by omega)
  have hs9:=e9.size;refine ⟨ks.length-i,by omega,i+1,a8,Os++[r1],qb,by omega,by omega,H,hM,by rw[ae,hOs];rfl,?_,by rw[gL,AMa];exact hqb,hr8,by omega⟩;rw[mo];refine Jn (hA.imp fun x y h=>(h.AI e9 fun j hj (h:j=w2.heap.size)=>hj.2.2.2 h).CM fun j hj=>⟨hj.1,by omega,hj.2.2.1,hj.2.2.2⟩) ((CO.AI e9 fun j hj (h:j=w2.heap.size)=>by omega).CM fun j hj=>⟨by omega,by omega,by omega,by omega⟩)
end
end Wt
namespace Wt
open Sh Fix Tk Tl Vl
theorem wR {deep:Int}{t:Tr}(h:CL deep t=true)(hd:deep≠1):t.k≠9:=by
 rw[Dt,ai]at h;have h:=h.1;unfold A3 at h;simp only[ai]at h;obtain ⟨_,h⟩:=h;split at h
 ·cases h
 ·unfold Ck at h;simp only[ai,bA,bU,bne_iff_ne]at h;exact h.1.2.resolve_left hd
theorem mq {deep:Int}{t:Tr}(h:CL deep t=true):t.kids.length<=8191/\deep<=24/\∀k∈t.kids,CL (deep+1) k=true:=by
 rw[Dt,ai]at h;obtain ⟨h,h2⟩:=h;unfold A3 at h;simp only[ai,bq]at h;obtain ⟨h0,h⟩:=h;split at h
 ·cases h
 ·unfold Ch at h;simp only[ai,bq]at h;exact ⟨by have:=h.2.1.1.2;omega,h0,IY.1 h2⟩
section
variable {w w1 W:World} {b c a:Nat} {s:ByteArray}
attribute [local irreducible] Ld Sh.St Nw Nn AU Ae Am BW
theorem SH (s:ByteArray)(b c:Nat):∀t:Tr,Wk s b c t
 | .mk k n g y ks kids=>by
  intro w p qs rest x a deep PR BS hd h9 hp hr hn hb;have ih:∀t∈kids,Wk s b c t:=fun t ht=>SH s b c t
  obtain ⟨LD,Wl,gP⟩:=mq BS;have gP:∀t∈kids,CL (deep+1+1) t=true:=gP;have LD:kids.length<=8191:=LD;have OG:=BS;rw[CL,ai]at OG;have OG:=OG.1;have qQ:∀t∈kids,t.k≠9:=fun t ht=>wR (gP t ht) (by omega)
  have SI:wrap .i64 (deep+1)=deep+1:=IntWalk.i64_in _ (by omega);obtain ⟨p',m',gQ,hpb⟩:=F9 hp;obtain ⟨rfl,rfl⟩:=cp gQ;obtain ⟨_,AMd,_,_⟩:=hpb;refine AIU (some ⟨b,0,none⟩) (p.k,(x:Int),(a:Int),p.n,p.s) deep w _ _ ?_;unfold ABM;have NG:=AN.lt hb;refine (Hx.one (F:=(·=b)) hb).nw fun w2 H=>?_
  have hg:=H.size;have yH:=AN.lt (H.get 1 rfl);refine H.nw fun w3 H=>?_
  simp only[ad,ag,add_lit,ak]at H⊢;have fin:∀{v:World} {a':Nat} {r:Ob} {z:Array Value},Hx w (·=b) v [(b,#[.string s,.int .i64 (a':Int)],220),(w.heap.size,oM (p.k,(x:Int),(a:Int),p.n,p.s),148),(w2.heap.size,SG,26)]->FT (fun j=>w.heap.size<=j/\j<v.heap.size/\j≠w2.heap.size) v r (.mk k n g y ks kids)->Cj s a' rest c->
    Am (⟨w2.heap.size,0,none⟩:Addr) 0 AD r v fun vw=>Ae vw (⟨w2.heap.size,0,none⟩:Addr) 0 AD fun r=>∃a':Nat,FT (fun j=>w.heap.size<=j/\j<vw.heap.size) vw r (.mk k n g y ks kids)/\Cj s a' rest c/\Es vw b s a'/\Ext (·=b) w vw:=by
   intro v a' r z H ho hr;refine Hx.MT H 2 rfl rfl (.inr (by omega)) fun v2 H2 e2=>Hx.OE H2 2 rfl ?_
   have:=e2.size;exact ⟨a',(ho.AI e2 fun j hj h=>hj.2.2 h).CM fun j hj=>⟨hj.1,by omega⟩,hr,H2.get 0 rfl,H2.ext⟩
  iterate 5 refine H.ld 1 rfl rfl ?_
  refine (F6 _ _).mono ?_;rintro q v1 ⟨rfl,e1⟩;have H:=H.AB e1;have hs1:=H.size;refine Br.f (by show (!mh p.k p.s)=false;rw[AMd];rfl) (Br.dec (fun q=>by have:deep>=24:=q;omega) fun _=>H.ld 1 rfl rfl ?_);rw[PT]at hp;rcases hp with ⟨rfl,he⟩|⟨rfl,he⟩|⟨rfl,T,D,hI,he⟩|⟨rfl,T,W,P,hT,he⟩|⟨rfl,he⟩|⟨rfl,he⟩|⟨rfl,q,hq,he⟩|⟨rfl,q,hq,he⟩|⟨rfl,T,D,U,E,hI,hJ,he⟩
  ·
   obtain ⟨rfl,rfl⟩:=cp he;obtain ⟨t1,t2,t3,t4,t5⟩:=IU OG (show CV 0=some ⟨false,false,false,false,false⟩from rfl);obtain rfl:=t1 rfl;obtain rfl:=t2 rfl;obtain rfl:=t3 rfl;obtain rfl:=t4 rfl;obtain rfl:=t5 rfl;refine Br.f (show ((5:Int)==1)=false from rfl) (Br.f (show ((5:Int)==2)=false from rfl) (Br.f (show ((5:Int)==3)=false from rfl) (Br.f (show ((5:Int)==4)=false from rfl) (Br.t (show ((5:Int)==5)=true from rfl) (H.ld 1 rfl rfl (Br.t (show ((ba OH).toList==(⟨#[110,117,108,108]⟩:cN).toList)=true by decide+kernel) ?_))))));refine (Zy _).mono ?_;rintro r v2 ⟨rfl,e2⟩;exact fin (z:=SG) (H.AB e2) Cz hr
  ·
   obtain ⟨rfl,rfl⟩:=cp he;obtain ⟨t1,t2,t3,t4,t5⟩:=IU OG (show CV 1=some ⟨true,false,false,false,false⟩from rfl);obtain rfl:=t2 rfl;obtain rfl:=t3 rfl;obtain rfl:=t4 rfl;obtain rfl:=t5 rfl;have AMe:n=0\/n=1:=by
    unfold A3 at OG;simp only[ai]at OG;obtain ⟨_,h⟩:=OG;have h:(Ck (deep+1) (.mk 1 n 0 ⟨#[]⟩ [] []) ⟨true,false,false,false,false⟩&&Ch (.mk 1 n 0 ⟨#[]⟩ [] []) ⟨true,false,false,false,false⟩)=true:=h;unfold Ch at h;simp only[ai]at h;have h:=h.2.1.1.1.1;have h:decide (0<=n/\n<=1)=true:=h;rw[bq]at h;omega
   rcases AMe with rfl|rfl
   ·refine Br.f (show ((5:Int)==1)=false from rfl) (Br.f (show ((5:Int)==2)=false from rfl) (Br.f (show ((5:Int)==3)=false from rfl) (Br.f (show ((5:Int)==4)=false from rfl) (Br.t (show ((5:Int)==5)=true from rfl) (H.ld 1 rfl rfl (Br.f (show ((ba GD).toList==(⟨#[110,117,108,108]⟩:cN).toList)=false by decide+kernel) (H.ld 1 rfl rfl ?_)))))));refine (gF _ _).mono ?_;rintro r v2 ⟨rfl,e2⟩;refine fin (z:=SG) (H.AB e2) ?_ hr;rw[show (if ((AY (if (0:Int)=0 then GD else KE)).s.toList==(⟨#[116,114,117,101]⟩:cN).toList)=true then (1:Int)else 0)=0 by decide+kernel];exact Cz
   ·refine Br.f (show ((5:Int)==1)=false from rfl) (Br.f (show ((5:Int)==2)=false from rfl) (Br.f (show ((5:Int)==3)=false from rfl) (Br.f (show ((5:Int)==4)=false from rfl) (Br.t (show ((5:Int)==5)=true from rfl) (H.ld 1 rfl rfl (Br.f (show ((ba KE).toList==(⟨#[110,117,108,108]⟩:cN).toList)=false by decide+kernel) (H.ld 1 rfl rfl ?_)))))));refine (gF _ _).mono ?_;rintro r v2 ⟨rfl,e2⟩;refine fin (z:=SG) (H.AB e2) ?_ hr;rw[show (if ((AY (if (1:Int)=0 then GD else KE)).s.toList==(⟨#[116,114,117,101]⟩:cN).toList)=true then (1:Int)else 0)=1 by decide+kernel];exact Cz
  ·
   obtain ⟨rfl,rfl⟩:=cp he;obtain ⟨t1,t2,t3,t4,t5⟩:=IU OG (show CV 2=some ⟨true,false,false,false,false⟩from rfl);obtain rfl:=t2 rfl;obtain rfl:=t3 rfl;obtain rfl:=t4 rfl;obtain rfl:=t5 rfl;refine Br.t (show ((1:Int)==1)=true from rfl) ?_
   iterate 5 refine H.ld 1 rfl rfl ?_
   refine (gH (H.get 0 rfl) _ _ _ _ (Yr hr hn)).mono ?_;rintro r ok v2 ⟨rfl,e2⟩;have H:=H.AB e2;have VS:=H.size;refine H.nw fun v3 H=>?_
   simp only[ad,ag]at H;refine Hx.MT H 3 rfl rfl (.inr (by omega)) fun v4 H _=>?_
   simp only[aa,ab]at H;refine Br.f rfl (H.ld 1 rfl rfl ?_);refine (Th _ _).mono ?_;rintro r v5 ⟨rfl,e5⟩;exact fin (z:=SG) ((H.left (L:=[_,_,_]) (M:=[_])).AB e5) Cz hr
  ·
   obtain ⟨rfl,rfl⟩:=cp he;obtain ⟨t1,t2,t3,t4,t5⟩:=IU OG (show CV 3=some ⟨true,false,false,false,false⟩from rfl);obtain rfl:=t2 rfl;obtain rfl:=t3 rfl;obtain rfl:=t4 rfl;obtain rfl:=t5 rfl;refine Br.f (show ((2:Int)==1)=false from rfl) (Br.t (show ((2:Int)==2)=true from rfl) (H.ld 1 rfl rfl ?_));refine (mj _ _).mono ?_;rintro r v2 ⟨rfl,e2⟩;exact fin (z:=SG) (H.AB e2) Cz hr
  ·
   obtain ⟨rfl,rfl⟩:=cp he;obtain ⟨t1,t2,t3,t4,t5⟩:=IU OG (show CV 4=some ⟨false,false,true,false,false⟩from rfl);obtain rfl:=t1 rfl;obtain rfl:=t2 rfl;obtain rfl:=t4 rfl;obtain rfl:=t5 rfl;refine Br.f (show ((3:Int)==1)=false from rfl) (Br.f (show ((3:Int)==2)=false from rfl) (Br.t (show ((3:Int)==3)=true from rfl) (H.ld 1 rfl rfl ?_)));refine (EA _ _).mono ?_;rintro r v2 ⟨rfl,e2⟩;exact fin (z:=SG) (H.AB e2) Cz hr
  ·
   obtain ⟨rfl,rfl⟩:=cp he;obtain ⟨t1,t2,t3,t4,t5⟩:=IU OG (show CV 5=some ⟨false,false,true,false,false⟩from rfl);obtain rfl:=t1 rfl;obtain rfl:=t2 rfl;obtain rfl:=t4 rfl;obtain rfl:=t5 rfl;refine Br.f (show ((4:Int)==1)=false from rfl) (Br.f (show ((4:Int)==2)=false from rfl) (Br.f (show ((4:Int)==3)=false from rfl) (Br.t (show ((4:Int)==4)=true from rfl) (H.ld 1 rfl rfl ?_))));refine (AC9 _ _).mono ?_;rintro r v2 ⟨rfl,e2⟩;exact fin (z:=SG) (H.AB e2) Cz hr
  ·
   obtain ⟨rfl,rfl⟩:=cp he;obtain ⟨t1,t2,t3,t4,t5⟩:=IU OG (show CV 6=some ⟨false,false,false,false,true⟩from rfl);obtain rfl:=t1 rfl;obtain rfl:=t2 rfl;obtain rfl:=t3 rfl;obtain rfl:=t4 rfl;refine Br.f (show ((6:Int)==1)=false from rfl) (Br.f (show ((6:Int)==2)=false from rfl) (Br.f (show ((6:Int)==3)=false from rfl) (Br.f (show ((6:Int)==4)=false from rfl) (Br.f (show ((6:Int)==5)=false from rfl) (H.ld 1 rfl rfl (Br.t (show ((ba [91]).toList==(⟨#[91]⟩:cN).toList)=true by decide+kernel) ?_))))));rw[SI];rw[aD]at hr;refine (ml (H.get 0 rfl) ih (by omega) gP qQ LD hq hr PR).mono ?_ fun _ _ h=>h
   rintro r v2 ⟨a',CO,Kz,Hb,e2⟩;have VS:=e2.size;have hg3:=AN.lt (H.get 2 rfl);have H:=H.G8 0 rfl Hb e2 (.inl rfl);exact fin (z:=SG) H (CO.CM fun j hj=>⟨by omega,hj.2,by omega⟩) Kz
  ·
   obtain ⟨rfl,rfl⟩:=cp he;obtain ⟨t1,t2,t3,t4,t5⟩:=IU OG (show CV 7=some ⟨false,false,false,true,true⟩from rfl);obtain rfl:=t1 rfl;obtain rfl:=t2 rfl;obtain rfl:=t3 rfl;have VT:=Ei OG rfl;have VT:Df false none ks kids=true:=VT;refine Br.f (show ((6:Int)==1)=false from rfl) (Br.f (show ((6:Int)==2)=false from rfl) (Br.f (show ((6:Int)==3)=false from rfl) (Br.f (show ((6:Int)==4)=false from rfl) (Br.f (show ((6:Int)==5)=false from rfl) (H.ld 1 rfl rfl (Br.f (show ((ba [60,60]).toList==(⟨#[91]⟩:cN).toList)=false by decide+kernel) ?_))))));rw[SI];rw[aD]at hr;refine (wQ (H.get 0 rfl) ih (by omega) gP qQ VT (by have:=(U3 VT).1;omega) hq hr PR).mono ?_ fun _ _ h=>h
   rintro r v2 ⟨a',CO,Kz,Hb,e2⟩;have VS:=e2.size;have hg3:=AN.lt (H.get 2 rfl);have H:=H.G8 0 rfl Hb e2 (.inl rfl);exact fin (z:=SG) H (CO.CM fun j hj=>⟨by omega,hj.2,by omega⟩) Kz
  ·
   obtain ⟨rfl,rfl⟩:=cp he;obtain ⟨t1,t2,t3,t4,t5⟩:=IU OG (show CV 8=some ⟨true,true,false,false,false⟩from rfl);obtain rfl:=t3 rfl;obtain rfl:=t4 rfl;obtain rfl:=t5 rfl;have hc:=(FA OG (by simp[Tr.k])).2.2.2.2 rfl;have hc:(1<=n/\n<=8191)/\0<=g/\g<=65535:=hc;refine Br.t (show ((1:Int)==1)=true from rfl) ?_
   iterate 5 refine H.ld 1 rfl rfl ?_
   refine (Yq (H.get 0 rfl) _ _ _ hc.1.1 hc.1.2 hc.2.1 hc.2.2 hr).mono ?_;rintro r ok v2 ⟨rfl,rfl,a',Kz,Hb,e2⟩;have H:=H.G8 0 rfl Hb e2 (.inl rfl);have VS:=H.size;simp only[aa,ab]at H;have hg3:=AN.lt (H.get 2 rfl);refine H.nw fun v3 H=>?_
   simp only[ad,ag]at H;refine Hx.MT H 3 rfl rfl (.inr (by omega)) fun v4 H _=>?_
   simp only[aa,ab]at H;refine Br.t rfl (Hx.OE H 3 rfl ?_);exact fin (z:=SG) (H.left (L:=[_,_,_]) (M:=[_])) Cz Kz
termination_by t=>SizeOf.sizeOf t
decreasing_by
 have:=wK (t:= .mk k n g y ks kids) ht;exact this
end
end Wt
namespace Wt
open Sh Fix Tk Tl Vl
section
variable {w w1 W:World} {b c a:Nat} {s:ByteArray} {t:Tr} {ps rest:List Pt}
attribute [local irreducible] Ld Sh.St Nw Nn AU Ae Am BW
theorem mr (hb:Es w b s a)(BS:CL 1 t=true)(h9:t.k≠9)(hp:PT t ps)(hr:Cj s a (ps++rest) c)(hn:Eu rest):
  uk (some ⟨b,0,none⟩) w fun r e w1=>e=0/\∃a':Nat,FT (fun j=>w.heap.size<=j/\j<w1.heap.size) w1 r t/\Cj s a' rest c/\Es w1 b s a'/\Ext (·=b) w w1:=by
 refine AIV _ _ _ ?_;unfold uq;have NG:=AN.lt hb;obtain ⟨p,m,rfl,_⟩:=F9 hp;refine (Hx.one (F:=(·=b)) hb).nw fun w2 H=>?_
 have hg:=H.size;have yH:=AN.lt (H.get 1 rfl);refine H.nw fun w3 H=>?_
 simp only[ad,ag]at H;have hg2:=AN.lt (H.get 2 rfl);rw[ag]at hr;refine (Jl (H.get 0 rfl) hr).mono ?_ fun _ _ h=>h
 rintro r v1 ⟨x,a1,rfl,hr,gK,e1⟩;have H:=H.G8 0 rfl gK e1 (.inl rfl);simp only[aa,ab]at H;have hs1:=e1.size;refine (SH s b c t v1 p m rest x a1 0 _ BS (Int.le_refl _) h9 hp hr hn (H.get 0 rfl)).mono ?_ fun _ _ h=>h
 rintro r v2 ⟨a2,CO,Kz,Hb,e2⟩;have H:=H.G8 0 rfl Hb e2 (.inl rfl);simp only[aa,ab]at H;have VS:=e2.size;refine Hx.MT H 1 rfl rfl (.inr (az _)) fun v3 H e3=>?_
 simp only[aa,ab]at H;refine H.ME 2 rfl (by simp) (.inr (by omega)) fun v4 H e4=>?_
 simp only[af,aa,ab]at H;refine eW _ _ _ ?_;unfold Ly;have jt:=e3.size;have yi:=e4.size;refine Hx.OE H 1 rfl (H.ld 2 rfl rfl ⟨rfl,a2,((CO.AI e3 fun j hj h=>?_).AI e4 fun j hj h=>?_).CM fun j hj=>⟨by omega,by omega⟩,Kz,H.get 0 rfl,H.ext⟩)
 ·have h:j=w.heap.size:=h;omega
 ·have h:j=w2.heap.size:=h;omega
theorem V2 (BS:CL 1 t=true)(h9:t.k≠9)(hp:PT t ps)(hr:Cj s a (ps++rest) c)(hn:Eu rest)(w:World):
  kn s (a:Int) w fun r n e w1=>e=0/\∃a':Nat,n=(a':Int)/\FT (fun j=>w.heap.size<=j/\j<w1.heap.size) w1 r t/\Cj s a' rest c/\Ext (fun _=>False) w w1:=by
 have hal:=hr.le.1;refine AIW _ _ _ _ ?_;unfold ABO;refine (Hx.start w (fun _=>False)).nw fun w2 H=>?_
 have hg:=H.size;have yH:=AN.lt (H.get 0 rfl);refine Br.dec (fun q=>by have:(a:Int)<0:=q;omega) fun _=>Br.dec (fun q=>by have:(a:Int)>((s.size:Nat):Int):=q;omega) fun _=>?_
 refine H.nw fun w3 H=>?_
 simp only[ad,ag]at H;have hg2:=AN.lt (H.get 1 rfl);refine (mr (H.get 1 rfl) BS h9 hp hr hn).mono ?_;rintro r e v1 ⟨rfl,a1,CO,VD,gK,e1⟩;have H:=H.G8 1 rfl gK e1 (.inr (by omega));simp only[aa,ab]at H;have hs1:=e1.size;refine H.JC fun v2 H e2=>?_
 simp only[ad,ag]at H;have VS:=e2.size;refine Hx.MT H 2 rfl rfl (.inr (by omega)) fun v3 H e3=>Br.f rfl ?_
 simp only[aa,ab]at H;have jt:=e3.size;refine ⟨fun u=>AN u v1.heap.size (AF r).toArray 26/\AN u w2.heap.size #[.string s,.int .i64 (a1:Int)] 220,⟨H.drew.get 2 rfl,H.drew.get 1 rfl⟩,?_⟩;refine BW.AR (ts:=AD) (pre:=[]) (post:=[]) (x:=r) (fun u h=>by rw[ad,aX];exact h.1) rfl ?_;refine Nn.of (AU.of (fun _ h=>h.2) rfl ?_);have H:=H.drew;refine Hx.MT H 0 rfl rfl (.inr (az _)) fun v4 H e4=>?_
 simp only[aa,ab]at H;have yi:=e4.size;have ADE:v3.drew.heap.size=v3.heap.size:=rfl;refine ⟨⟨H.get 2 rfl,H.get 1 rfl⟩,Hx.OE H 0 rfl ⟨rfl,a1,rfl,((((CO.AI e2 fun _ _ h=>h).AI e3 fun j hj h=>?_).AI (Ext.refl (fun _=>False) v3).drew fun _ _ h=>h).AI e4 fun j hj h=>?_).CM fun j hj=>⟨by omega,by omega⟩,VD,H.ext⟩⟩
 ·have h:j=v1.heap.size:=h;omega
 ·have h:j=w.heap.size:=h;omega
end
end Wt
namespace Pc
open Sh Fix Tk Tl Vl Wt
theorem Ng:Eu [AY HB]:=⟨AY HB,[],rfl,fun h=>absurd h (by decide)⟩
section
variable {w w1 W:World} {b c a:Nat} {s:ByteArray} {t:Tr} {ps rest:List Pt} {n g:Int} {A G:By} {p:Pt}
attribute [local irreducible] Ld Sh.St Nw Nn AU Ae Am BW
theorem Nh (hb:QU w b s (a:Int))(h:Cj s a (Ax A n::Ax G g::AY Bv::rest) c)(hn:1<=n/\n<=8191)(hg:0<=g/\g<=65535)(PR:Value->World->Prop):
  yB (some ⟨b,0,none⟩) w (fun n' g' w1=>n'=n/\g'=g/\(∃a':Nat,QU w1 b s (a':Int)/\Cj s a' rest c)/\Ext (·=b) w w1) PR:=by
 obtain ⟨x1,a1,h1,_,k1⟩:=h.next
 obtain ⟨x2,a2,h2,_,k2⟩:=k1.next
 obtain ⟨x3,a3,h3,_,k3⟩:=k2.next
 have N1:FR 1 8191 ((Ax A n).tok (x1:Int) (a1:Int)) 0:=⟨rfl,rfl,hn.1,hn.2⟩
 have N2:FR 0 65535 ((Ax G g).tok (x2:Int) (a2:Int)) 0:=⟨rfl,rfl,hg.1,hg.2⟩
 have N3:Jy Oj ((AY Bv).tok (x3:Int) (a3:Int)) 0:=⟨rfl,rfl,rfl⟩
 refine (Zq (R1:=fun r e=>r=(Ax A n).tok (x1:Int) (a1:Int)/\e=0) (R2:=fun _ r e=>r=(Ax G g).tok (x2:Int) (a2:Int)/\e=0) (R3:=fun _ _ r e=>r=(AY Bv).tok (x3:Int) (a3:Int)/\e=0) hb ⟨h1,?_,?_⟩).mono ?_ ?_
 ·rintro r ⟨rfl,_⟩ _;exact ⟨a1,rfl,h2⟩
 ·rintro r q _ _ ⟨rfl,_⟩ _;exact ⟨a2,rfl,h3⟩
 ·rintro n' g' w1 ⟨r,q,u,⟨⟨⟨rfl,_⟩,_⟩,⟨⟨rfl,_⟩,_⟩,⟨rfl,_⟩,_⟩,rfl,rfl,Te,ex⟩;exact ⟨rfl,rfl,⟨a3,Te,k3⟩,ex⟩
 ·rintro v w1 ⟨hB,_⟩;exfalso;rcases hB with ⟨r,e,⟨rfl,rfl⟩,h⟩|⟨r,q,e,_,⟨rfl,rfl⟩,h⟩|⟨r,q,u,e,_,_,⟨rfl,rfl⟩,h⟩
  ·exact h N1
  ·exact h N2
  ·exact h N3
theorem Xi (hb:QU w b s (a:Int))(h:Cj s a (p::rest) c)(PR:Value->World->Prop):
  Xd (some ⟨b,0,none⟩) w (fun r w1=>∃x a':Nat,r=p.tok (x:Int) (a':Int)/\QU w1 b s (a':Int)/\Cj s a' rest c/\Ext (·=b) w w1) PR:=by
 obtain ⟨x1,a1,h1,hk,k1⟩:=h.next
 refine (Tc hb h1).mono ?_ ?_
 ·rintro r w2 ⟨⟨rfl,_⟩,_,G7,e2⟩;exact ⟨x1,a1,rfl,G7,k1,e2⟩
 ·rintro v w2 ⟨⟨r,e,⟨rfl,rfl⟩,h|h⟩,_⟩
  ·exact absurd rfl h
  ·exact absurd h hk
theorem Qt (hb:QU w b s (a:Int))(BS:CL 1 t=true)(h9:t.k≠9)(hp:PT t ps)(hr:Cj s a (ps++rest) c)(hn:Eu rest)(PR:Value->World->Prop):
  C99 (some ⟨b,0,none⟩) w (fun r w1=>∃a':Nat,FT (fun j=>w.heap.size<=j/\j<w1.heap.size) w1 r t/\Cj s a' rest c/\QU w1 b s (a':Int)/\Ext (·=b) w w1) PR:=by
 refine T99 _ _ _ _ ?_;unfold S99;have NG:=AN.lt hb;refine (Hx.one (F:=(·=b)) hb).nw fun w2 H=>?_
 simp only[ad,ag,add_lit,ak]at H⊢;have g1:=AN.lt (H.get 1 rfl);refine ⟨fun v=>AN v b #[.string s,.int .i64 (a:Int)] 142,H.drew.get 0 rfl,Nn.of (AU.of (fun _ h=>h) rfl (Nn.of (AU.of (fun _ h=>h) rfl ⟨?_,?_⟩)))⟩
 ·refine (V2 BS h9 hp hr hn _).mono ?_;rintro r n e w3 ⟨rfl,a',rfl,CO,zS,e3⟩;have H:=H.drew.AB e3;have E0:=H.ext;have H:=H.here fun j=>j=b\/j=w.heap.size
  have g3:=e3.size;have g3':w2.drew.heap.size=w2.heap.size:=rfl;refine H.nw fun w4 H=>?_
  simp only[ad,ag]at H
  iterate 6 (refine H.st 2 rfl (by simp) (.inr (az _)) fun _ H=>?_;simp only[af,aa,ab]at H)
  refine Bt _ _ _ (fun _=>Nn.of ?_) fun h=>absurd h (by simp)
  simp only[add_lit,ak];refine H.st 0 rfl (by simp) (.inl (.inl rfl)) fun _ H=>?_
  simp only[af,aa,ab]at H
  iterate 6 refine H.ld 2 rfl rfl ?_
  iterate 6 (refine H.st 1 rfl (by simp) (.inl (.inr rfl)) fun _ H=>?_;simp only[af,aa,ab]at H)
  iterate 6 refine H.ld 1 rfl rfl ?_
  have hs:=H.size;refine ⟨a',(CO.AI H.ext fun j hj h=>?_).CM fun j hj=>⟨by omega,by omega⟩,zS,H.get 0 rfl,E0.trans H.ext (fun _ h=>h) fun j hj h=>h.resolve_right fun h=>by omega⟩;rcases h with h|h<;>omega
 ·have H:=H.drew;refine H.nw fun w4 H=>⟨H.get 0 rfl,?_⟩
  have g4:=H.size;have g4':w2.drew.heap.size=w2.heap.size:=rfl;simp only[ad,ag]at H;have g5:=AN.lt (H.get 2 rfl);refine (V2 BS h9 hp hr hn _).mono ?_;rintro r n e w3 ⟨rfl,a',rfl,CO,zS,e3⟩;have H:=H.AB e3;have E0:=H.ext;have H:=H.here fun j=>j=b\/j=w.heap.size\/j=w2.drew.heap.size
  have g3:=e3.size
  iterate 6 (refine H.st 2 rfl (by simp) (.inl (.inr (.inr rfl))) fun _ H=>?_;simp only[af,aa,ab]at H)
  refine Bt _ _ _ (fun _=>Nn.of ?_) fun h=>absurd h (by simp)
  simp only[add_lit,ak];refine H.st 0 rfl (by simp) (.inl (.inl rfl)) fun _ H=>?_
  simp only[af,aa,ab]at H
  iterate 6 refine H.ld 2 rfl rfl ?_
  iterate 6 (refine H.st 1 rfl (by simp) (.inl (.inr (.inl rfl))) fun _ H=>?_;simp only[af,aa,ab]at H)
  iterate 6 refine H.ld 1 rfl rfl ?_
  have hs:=H.size;refine ⟨a',(CO.AI H.ext fun j hj h=>?_).CM fun j hj=>⟨by omega,by omega⟩,zS,H.get 0 rfl,E0.trans H.ext (fun _ h=>h) fun j hj h=>h.resolve_right fun h=>by rcases h with h|h<;>omega⟩;rcases h with h|h|h<;>omega
theorem Zx (ha:a<=s.size){R:Option Addr->World->Prop}{PR:Value->World->Prop}(h:Nw w (.cells #[.string s,.int .i64 (a:Int)] 142) fun w2=>R (some ⟨w.heap.size,0,none⟩) w2):zT s (a:Int) w R PR:=by
 refine T92 _ _ _ _ _ ?_;unfold S92;exact Br.dec (fun _=>Bt _ _ _ (fun _=>h) fun h=>absurd h (by simp;omega)) fun h=>absurd (show (a:Int)>=0 by omega) h
theorem qI (hr:Cj s a (Ax A n::Ax G g::AY Bv::(ps++[AY HB])) c)(hn:1<=n/\n<=8191)(hg:0<=g/\g<=65535)(BS:CL 1 t=true)(h9:t.k≠9)(hp:PT t ps)(w:World):
  qJ s (a:Int) w fun o e w1=>e=0/\o.1=0/\Ext (fun _=>False) w w1:=by
 refine AFK _ _ _ _ ?_;unfold qK;refine (Hx.start w (fun _=>False)).nw fun w3 H=>?_
 have g0:=AN.lt (H.get 0 rfl);refine H.nw fun w4 H=>?_
 have g1:=AN.lt (H.get 1 rfl);simp only[ad,ag,add_lit,ak]at H⊢;refine Zx hr.le.1 (H.nw fun w5 H=>?_);have g2:=AN.lt (H.get 2 rfl);simp only[ad,ag]at H;refine (Nh (H.get 2 rfl) hr hn hg _).mono ?_ fun _ _ h=>h
 rintro n' g' w6 ⟨rfl,rfl,⟨a1,Te,k1⟩,e6⟩;have H:=H.G8 2 rfl Te e6 (.inr (by omega));simp only[aa,ab]at H;refine (Qt (H.get 2 rfl) BS h9 hp k1 Ng _).mono ?_ fun _ _ h=>h
 rintro r w7 ⟨a2,CO,k2,G7,e7⟩;have H:=H.G8 2 rfl G7 e7 (.inr (by omega));simp only[aa,ab]at H;have s7:=H.size;refine H.nw fun w8 H=>?_
 simp only[ad,ag]at H
 iterate 6 (refine H.st 3 rfl (by simp) (.inr s7) fun _ H=>?_;simp only[af,aa,ab]at H)
 refine Nn.of ?_;simp only[add_lit,ak];refine H.ld 2 rfl rfl ?_;obtain ⟨x3,a3,h3,_,k3⟩:=k2.next
 refine (h3 _).mono ?_;rintro r2 e w9 ⟨⟨rfl,rfl⟩,e9⟩;have H:=H.AB e9;have s9:=H.size;refine H.nw fun yC H=>?_
 simp only[ad,ag]at H
 iterate 5 (refine H.st 4 rfl (by simp) (.inr s9) fun _ H=>?_;simp only[af,aa,ab]at H)
 refine Sh.Br.f rfl (H.ld 4 rfl rfl (Sh.Br.f rfl (H.ld 4 rfl rfl (Sh.Br.t (show (!((ba HB).toList==(⟨#[115,116,114,101,97,109]⟩:cN).toList))=true by decide+kernel) ?_))));refine (Zy _).mono ?_;rintro r3 v ⟨rfl,ev⟩;have H:=H.AB ev
 iterate 6 (refine H.st 0 rfl (by simp) (.inr (az _)) fun _ H=>?_;simp only[af,aa,ab]at H)
 refine H.st 1 rfl (by simp) (.inr (by omega)) fun _ H=>?_
 simp only[af,aa,ab]at H;refine Zz _ _ _ _ ?_;unfold LO;refine Kk _ _ _ _ ?_;unfold Ht;refine H.ld 1 rfl rfl (Sh.Br.f rfl ?_)
 iterate 6 refine H.ld 0 rfl rfl ?_
 refine H.ld 1 rfl rfl ⟨rfl,rfl,H.ext⟩
theorem Ot (hr:Cj s a (Ax A n::Ax G g::AY Bv::(ps++[AY HB])) c)(hn:1<=n/\n<=8191)(hg:0<=g/\g<=65535)(BS:CL 1 t=true)(h9:t.k≠9)(h8:t.k≠8)(hp:PT t ps)(w:World):
  zU s (a:Int) (-1) w fun i x e w1=>e=0/\i.1=n/\i.2.1=g/\FT (fun j=>w.heap.size<=j/\j<w1.heap.size) w1 i.2.2 t/\Ext (fun _=>False) w w1:=by
 refine T63 _ _ _ _ _ ?_;unfold S63;refine (Hx.start w (fun _=>False)).nw fun w4 H=>?_
 have g0:=AN.lt (H.get 0 rfl);refine H.nw fun w5 H=>?_
 have g1:=AN.lt (H.get 1 rfl);refine H.nw fun w6 H=>?_
 have g2:=AN.lt (H.get 2 rfl);simp only[ad,ag,add_lit,ak,Nat.reduceAdd]at H⊢;refine Zx hr.le.1 (H.nw fun w7 H=>?_);have g3:=AN.lt (H.get 3 rfl);simp only[ad,ag]at H;refine Bt _ _ _ (fun _=>?_) fun h=>absurd h (by decide)
 refine (Nh (H.get 3 rfl) hr hn hg _).mono ?_ fun _ _ h=>h
 rintro n' g' w8 ⟨rfl,rfl,⟨a1,Te,k1⟩,e8⟩;have H:=H.G8 3 rfl Te e8 (.inr (by omega));simp only[aa,ab]at H
 iterate 2 (refine H.st 0 rfl (by simp) (.inr (az _)) fun _ H=>?_;simp only[af,aa,ab]at H)
 rename_i u1 u2;have su:=AN.lt (H.get 3 rfl);refine (Qt (H.get 3 rfl) BS h9 hp k1 Ng _).mono ?_ fun _ _ h=>h
 rintro r w9 ⟨a2,CO,k2,G7,e9⟩;have H:=H.G8 3 rfl G7 e9 (.inr (by omega));simp only[aa,ab]at H;have E0:=H.ext;have s9:=e9.size;have H:=H.here fun j=>j=w.heap.size\/j=w4.heap.size\/j=w5.heap.size\/j=w6.heap.size
 iterate 6 (refine H.st 0 rfl (by simp) (.inl (.inl rfl)) fun _ H=>?_;simp only[af,aa,ab]at H)
 have hk:r.1=t.k:=CO.t0z.out.1.1;refine H.ld 0 rfl rfl (Bt _ _ _ (fun _=>As.intro ?_) fun h=>absurd (hk.symm.trans (by simpa using h)) h8);refine (Xi (H.get 3 rfl) k2 _).mono ?_ fun _ _ h=>h
 rintro r2 yC ⟨x3,a3,rfl,Qo,k3,kI⟩;have H:=H.G8 3 rfl Qo kI (.inl (.inr (.inr (.inr rfl))));simp only[aa,ab]at H;have yE:=H.size;refine H.nw fun w11 H=>?_
 simp only[ad,ag]at H
 iterate 5 (refine H.st 4 rfl (by simp) (.inr yE) fun _ H=>?_;simp only[af,aa,ab]at H)
 refine H.ld 4 rfl rfl (Sh.Br.t rfl (H.ld 4 rfl rfl (Sh.Br.t (show ((ba HB).toList==(⟨#[101,110,100,111,98,106]⟩:cN).toList)=true by decide+kernel) ?_)));unfold oR;have H:=H.drew;simp only[add_lit,ak];refine ⟨fun v=>AN v w.heap.size #[.int .i64 n',.int .i64 g',.int .i64 r.1,.int .i64 r.2.1,.int .i64 r.2.2.1,.string r.2.2.2.1,AA.v r.2.2.2.2.1,AA.v r.2.2.2.2.2] 28/\QU v w6.heap.size s (a3:Int),⟨H.get 0 rfl,H.get 3 rfl⟩,?_⟩
 iterate 8 refine AU.of (fun _ h=>h.1) rfl ?_
 refine Nn.of (AU.of (fun _ h=>h.2) rfl ?_)
 iterate 8 (refine H.st 0 rfl (by simp) (.inl (.inl rfl)) fun _ H=>?_;simp only[af,aa,ab]at H)
 refine ⟨⟨H.get 0 rfl,H.get 3 rfl⟩,?_⟩;refine H.st 1 rfl (by simp) (.inl (.inr (.inl rfl))) fun _ H=>?_
 simp only[af,aa,ab]at H;refine H.st 2 rfl (by simp) (.inl (.inr (.inr (.inl rfl)))) fun _ H=>?_
 simp only[af,aa,ab]at H;refine kJ _ _ _ _ _ ?_;unfold Ou;refine Kk _ _ _ _ ?_;unfold Ht;refine H.ld 2 rfl rfl (Sh.Br.f rfl ?_)
 iterate 8 refine H.ld 0 rfl rfl ?_
 refine H.ld 1 rfl rfl (H.ld 2 rfl rfl ?_);have hs:=H.size;refine ⟨rfl,rfl,rfl,(CO.AI H.ext fun j hj h=>?_).CM fun j hj=>⟨by omega,by omega⟩,Ext.Bw E0 H.ext fun j hj=>by rcases hj with h|h|h|h<;>omega⟩;rcases h with h|h|h|h<;>omega
end
end Pc
namespace Pc
open Sh Fix Tk Tl Vl Wt
abbrev ftC (s:ByteArray)(sl:AA)(mb:Nat):Array Value:=#[.string s,AA.v sl,.map (some mb)]
abbrev Pk (i:Fj):Array Value:=#[.int .i64 i.1,.int .i64 i.2.1,.int .i64 i.2.2.1,.int .i64 i.2.2.2.1,.int .i64 i.2.2.2.2.1,.string i.2.2.2.2.2.1,AA.v i.2.2.2.2.2.2.1,AA.v i.2.2.2.2.2.2.2]
theorem gg:prog.underlying 52=some (.map 3 4):=by kernel_rfl
theorem gh:prog.underlying 3=some (.int .i64):=by kernel_rfl
theorem ADH (w:World):(zeroValue 4).run prog w= .ok (.bool false) w:=by kernel_rfl
section
variable {w w1 W:World} {fb b c a mb:Nat} {s:ByteArray} {sl:AA} {t:Tr} {ps rest:List Pt} {n g:Int} {A G:By} {p:Pt} {F:List BQ}
attribute [local irreducible] Ld Sh.St Nw Nn AU Ae Am BW
theorem P5 {R:World->Prop}{PR:Value->World->Prop}(x:Bool)(e:Int)(hx:x=true)(h:R w):YT x e w R PR:=by
 refine T35 _ _ _ _ _ ?_;unfold S35;subst hx;exact Sh.Br.f rfl h
theorem pX (hf:AN w fb (ftC s sl mb) 54)(hr:Cj s a (Ax A n::Ax G g::AY Bv::(ps++[AY HB])) c)(hn:1<=n/\n<=8191)(hg:0<=g/\g<=65535)(BS:CL 1 t=true)(h9:t.k≠9)(hp:PT t ps)(PR:Value->World->Prop):
  C64 (some ⟨fb,0,none⟩) (a:Int) w (fun r w1=>r=-1/\Ext (fun _=>False) w w1) PR:=by
 refine T64 _ _ _ _ _ ?_;unfold S64;refine Nn.of (Ld.of hf rfl ?_);refine (qI hr hn hg BS h9 hp w).mono ?_;rintro o e w2 ⟨rfl,ho,e2⟩;refine (Hx.start w2 (fun _=>False)).nw fun w3 H=>?_
 simp only[ad,ag,add_lit,ak]at H⊢
 iterate 6 (refine H.st 0 rfl (by simp) (.inr (az _)) fun _ H=>?_;simp only[af,aa,ab]at H)
 refine Sh.Br.f rfl (H.ld 0 rfl rfl (Sh.Br.t (by rw[ho];rfl) ⟨by trivial,e2.tr H.ext⟩))
theorem mw (hf:AN w fb (ftC s sl mb) 54)(hr:Cj s a (Ax A n::Ax G g::AY Bv::(ps++[AY HB])) c)(hn:1<=n/\n<=8191)(hg:0<=g/\g<=65535)(BS:CL 1 t=true)(h9:t.k≠9)(h8:t.k≠8)(hp:PT t ps)(k:Int)(PR:Value->World->Prop):
  C36 (some ⟨fb,0,none⟩) (n,k,(a:Int),g) w (fun i w1=>i.1=n/\i.2.1=g/\FT (fun j=>w.heap.size<=j/\j<w1.heap.size) w1 i.2.2 t/\Ext (fun _=>False) w w1) PR:=by
 refine T36 _ (n,k,(a:Int),g) _ _ _ ?_;unfold S36;have jz:=hf.lt;refine (Hx.start w (fun _=>False)).nw fun w3 H=>?_
 have g0:=AN.lt (H.get 0 rfl);refine H.nw fun w4 H=>?_
 have g1:=AN.lt (H.get 1 rfl);simp only[ad,ag,add_lit,ak]at H⊢;have J:∀{v:World} {pb:Nat} {i:Fj} {tI:TypeId} {S:Nat->Prop},Hx w (fun _=>False) v [(w.heap.size,#[.int .i64 n,.int .i64 k,.int .i64 (a:Int),.int .i64 g],33),(w3.heap.size,#[.int .i64 0,.int .i64 0,.int .i64 0,.int .i64 0,.int .i64 0,.string ⟨#[]⟩,AA.v ⟨none,0,0⟩,AA.v ⟨none,0,0⟩],28),(pb,Pk i,tI)]->
   i.1=n->i.2.1=g->FT S v i.2.2 t->(∀j,S j->w3.heap.size<j/\j<v.heap.size)->ej w w3 (fun i w1=>i.1=n/\i.2.1=g/\FT (fun j=>w.heap.size<=j/\j<w1.heap.size) w1 i.2.2 t/\Ext (fun _=>False) w w1) PR ((⟨pb,0,none⟩:Addr),0) v:=by
  intro v pb i tI S H h1 h2 CO hS;unfold ej;simp only[add_lit,ak];refine P5 _ _ rfl (H.ld 2 rfl rfl (H.ld 0 rfl rfl (Sh.Br.t (by rw[h1];simp) (H.ld 2 rfl rfl (H.ld 0 rfl rfl (P5 _ _ (by rw[h2];simp) ?_))))));have E0:=H.ext;have H:=H.here fun j=>j=w3.heap.size
  iterate 8 refine H.ld 2 rfl rfl ?_
  iterate 8 (refine H.st 1 rfl (by simp) (.inl rfl) fun _ H=>?_;simp only[af,aa,ab]at H)
  iterate 8 refine H.ld 1 rfl rfl ?_
  have hs:=H.size;exact ⟨h1,h2,(CO.AI H.ext fun j hj (h:j=w3.heap.size)=>by have:=hS j hj;omega).CM fun j hj=>by have:=hS j hj;omega,Ext.Bw E0 H.ext fun j (hj:j=w3.heap.size)=>by omega⟩
 refine As.intro ?_;have Zg:=H.ext.AR hf id;refine ⟨fun v=>AN v fb (ftC s sl mb) 54/\AN v w.heap.size #[.int .i64 n,.int .i64 k,.int .i64 (a:Int),.int .i64 g] 33,⟨(H.drew.ext.AR hf id),H.drew.get 0 rfl⟩,Nn.of (AU.of (fun _ h=>h.1) rfl (AU.of (fun _ h=>h.2) rfl (AU.of (fun _ h=>h.2) rfl ⟨?_,?_⟩)))⟩
 ·have H:=H.drew;have gd:w4.drew.heap.size=w4.heap.size:=rfl;refine (pX (H.ext.AR hf id) hr hn hg BS h9 hp PR).mono ?_ fun _ _ h=>h
  rintro r v ⟨rfl,ev⟩;have H:=H.AB ev;have gv:=ev.size;refine ⟨⟨H.ext.AR hf id,H.get 0 rfl⟩,?_,?_⟩
  ·refine (Ot hr hn hg BS h9 h8 hp v).mono ?_;rintro i x e v2 ⟨rfl,h1,h2,CO,e2⟩;have H:=H.AB e2;have gv2:=e2.size;have E0:=H.ext;refine H.JC fun v3 H e3=>?_
   simp only[ad,ag]at H;have H6:=H.here fun j=>j=v2.heap.size
   have Hs:=H.size;have TO:=AN.lt (H.get 2 rfl);clear H
   iterate 8 (refine H6.st 2 rfl (by simp) (.inl rfl) fun _ H6=>?_;simp only[af,aa,ab]at H6)
   have E6:=H6.ext;have hx6:=H6.size;have H:Hx w (fun _=>False) _ _:=⟨H6.AR,H6.nodup,Ext.Bw (E0.tr e3) E6 fun j (hj:j=v2.heap.size)=>by omega⟩
   exact J H h1 h2 ((CO.AI e3 fun _ _ h=>h).AI E6 fun j hj (h:j=v2.heap.size)=>by omega) fun j hj=>by omega
  ·refine H.nw fun v1 H=>⟨⟨H.ext.AR hf id,H.get 0 rfl⟩,?_⟩
   have hv1:=AN.lt (H.get 2 rfl);simp only[ad,ag]at H;refine (Ot hr hn hg BS h9 h8 hp v1).mono ?_;rintro i x e v2 ⟨rfl,h1,h2,CO,e2⟩;have H:=H.AB e2;have gv2:=e2.size;have E0:=H.ext;have H6:=H.here fun j=>j=v.heap.size
   clear H
   iterate 8 (refine H6.st 2 rfl (by simp) (.inl rfl) fun _ H6=>?_;simp only[af,aa,ab]at H6)
   have E6:=H6.ext;have hx6:=H6.size;have H:Hx w (fun _=>False) _ _:=⟨H6.AR,H6.nodup,Ext.Bw E0 E6 fun j (hj:j=v.heap.size)=>by omega⟩
   exact J H h1 h2 (CO.AI E6 fun j hj (h:j=v.heap.size)=>by omega) fun j hj=>by omega
 ·have H:=H.drew;have gd:w4.drew.heap.size=w4.heap.size:=rfl;refine H.nw fun v1 H=>⟨⟨H.ext.AR hf id,H.get 0 rfl⟩,?_⟩
  have hv1:=AN.lt (H.get 2 rfl);simp only[ad,ag]at H;refine (pX (H.ext.AR hf id) hr hn hg BS h9 hp PR).mono ?_ fun _ _ h=>h
  rintro r v ⟨rfl,ev⟩;have H:=H.AB ev;have gv:=ev.size;refine ⟨⟨H.ext.AR hf id,H.get 0 rfl⟩,?_⟩;refine (Ot hr hn hg BS h9 h8 hp v).mono ?_;rintro i x e v2 ⟨rfl,h1,h2,CO,e2⟩;have H:=H.AB e2;have gv2:=e2.size;have E0:=H.ext;have H6:=H.here fun j=>j=w4.drew.heap.size
  clear H
  iterate 8 (refine H6.st 2 rfl (by simp) (.inl rfl) fun _ H6=>?_;simp only[af,aa,ab]at H6)
  have E6:=H6.ext;have hx6:=H6.size;have H:Hx w (fun _=>False) _ _:=⟨H6.AR,H6.nodup,Ext.Bw E0 E6 fun j (hj:j=w4.drew.heap.size)=>by omega⟩
  exact J H h1 h2 (CO.AI E6 fun j hj (h:j=w4.drew.heap.size)=>by omega) fun j hj=>by omega
theorem my (hf:AN w fb (ftC s sl mb) 54)(hm:Hr w mb [])(JI:Qy w sl F)(U7:F.find? (fun x=>x.1==n)=some (n,1,(a:Int),g))(hr:Cj s a (Ax A n::Ax G g::AY Bv::(ps++[AY HB])) c)(hn:1<=n/\n<=8191)(hg:0<=g/\g<=65535)(BS:CL 1 t=true)(h9:t.k≠9)(h8:t.k≠8)(hp:PT t ps)(PR:Value->World->Prop):
  C14 (some ⟨fb,0,none⟩) n w (fun i w1=>i.1=n/\i.2.1=g/\FT (fun j=>w.heap.size<=j/\j<w1.heap.size) w1 i.2.2 t/\Ext (·=mb) w w1) PR:=by
 refine T14 _ _ _ _ _ ?_;unfold S14;have jz:=hf.lt;have wO:=hm.lt;have hfm:fb≠mb:=fun e=>by
  obtain ⟨E,ck,h1,_⟩:=hm.AR;have h2:=hf;unfold AN at h2;rw[e,h1]at h2;cases h2
 have hwf:(Lit.int .i64 n).wf=true:=WalkArith.wf_i64 (n:=n) ⟨by omega,by omega⟩;refine (Hx.start w (fun _=>False)).nw fun w3 H=>Nn.of ?_
 have g0:=AN.lt (H.get 0 rfl);simp only[ad,ag,add_lit,ak]at H⊢;refine Ld.of (H.ext.AR hf id) rfl ?_;refine (To (JI.AB H.ext) n).mono ?_;rintro r b v ⟨gK,ev⟩;obtain ⟨rfl,rfl⟩:r=(n,1,(a:Int),g)/\b=true:=by
  rcases gK with ⟨h,hb⟩|⟨h,_⟩
  ·rw[U7]at h;exact ⟨(aQ h).symm,hb⟩
  ·rw[U7]at h;cases h
 have H:=H.AB ev;have gv:=H.size;refine H.nw fun v1 H=>?_
 have g1:=AN.lt (H.get 1 rfl);simp only[ad,ag]at H
 iterate 4 (refine H.st 1 rfl (by simp) (.inr gv) fun _ H=>?_;simp only[af,aa,ab]at H)
 rename_i v2 v3 v4 v5;refine Sh.Br.t rfl (H.ld 1 rfl rfl (Sh.Br.t rfl (P5 _ _ rfl (Nn.of (Ld.of (H.ext.AR hf id) rfl ?_)))));have hm5:=hm.AB H.ext;refine ⟨false,v5,hm5.look gg gh (ADH _) hwf,P5 _ _ rfl (Nn.of (Ld.of (H.ext.AR hf id) rfl ?_))⟩;obtain ⟨v6,r6,hm6,e6⟩:=hm5.put gg gh hwf (.bool true);refine ⟨v6,r6,Nn.of ?_⟩;have hf6:=e6.AR (H.ext.AR hf id) hfm;have hs5:=H.size;have ATt:=AN.lt (H.get 0 rfl);have gvw:w.heap.size<v.heap.size:=by have:=ev.size;omega
 have H:Hx w (·=mb) v6 _:=Hx.other (F:=(·=mb)) ⟨H.AR,H.nodup,H.ext.mono fun _ _ h=>h.elim⟩ e6 (fun j (hj:j=mb) CB=>by
  simp only[aB,bj,ar,aF,bp]at CB;omega) fun j hj=> .inl hj
 refine Ld.of hf6 rfl (H.ld 1 rfl rfl (Sh.Br.t rfl ?_))
 iterate 4 refine H.ld 1 rfl rfl ?_
 refine (mw hf6 hr hn hg BS h9 h8 hp 1 (vB n (some mb) PR)).mono ?_ fun _ _ h=>h
 rintro i u ⟨h1,h2,CO,eu⟩;have H:=H.AB eu;have gu:=eu.size;have g6:=e6.size;have pQ:=H.size;have E0:=H.ext;have H:=H.here fun j=>j=w.heap.size
 iterate 8 (refine H.st 0 rfl (by simp) (.inl rfl) fun _ H=>?_;simp only[af,aa,ab]at H)
 rename_i y1 y2 y3 y4 y5 y6 y7 y8;have hm8:Hr y8 mb (D7 [] n (.bool true)):=(hm6.AB eu).AI H.ext (by show ¬mb=w.heap.size;omega);have H:Hx u (fun j=>j=w.heap.size\/j=mb) y8 _:=⟨H.AR,H.nodup,H.ext.mono fun _ _ h=> .inl h⟩
 obtain ⟨z,rz,ez⟩:=hm8.del gg gh hwf (ty:=0);refine ⟨z,rz,?_⟩;have H:=H.other ez (fun j (hj:j=mb) CB=>by
  simp only[aB,bj,ar,aF,bp]at CB;omega) fun j hj=> .inl (.inr hj)
 iterate 8 refine H.ld 0 rfl rfl ?_
 have hs:=H.size;refine ⟨h1,h2,(CO.AI H.ext fun j hj h=>?_).CM fun j hj=>⟨by omega,by omega⟩,E0.trans H.ext (fun _ h=>h) fun j hj h=>h.resolve_left fun h=>by omega⟩;rcases h with h|h<;>omega
theorem U4 (JI:Qy w sl F)(U7:F.find? (fun x=>x.1==n)=some (n,1,(a:Int),g))(hr:Cj s a (Ax A n::Ax G g::AY Bv::(ps++[AY HB])) c)(hn:1<=n/\n<=8191)(hg:0<=g/\g<=65535)(BS:CL 1 t=true)(h9:t.k≠9)(h8:t.k≠8)(hp:PT t ps):
  C4 s sl n w fun i e w1=>e=0/\i.1=n/\i.2.1=g/\FT (fun j=>w.heap.size<=j/\j<w1.heap.size) w1 i.2.2 t/\Ext (fun _=>False) w w1:=by
 refine T4 _ _ _ _ _ ?_;unfold S4;refine (Hx.start w (fun _=>False)).nw fun w4 H=>?_
 have g0:=AN.lt (H.get 0 rfl);refine H.nw fun w5 H=>?_
 have g1:=AN.lt (H.get 1 rfl);simp only[ad,ag,add_lit,ak]at H⊢;refine Nw.of ?_;have em:Ext (fun _=>False) w5 (w5.alloc (.map #[] 0)):=(Ext.refl _ _).alloc _;have pY:=Hr.new w5;generalize w5.alloc (.map #[] 0)=w6 at em pY⊢;have H:=H.AB em;have wO:=pY.lt;refine H.JC fun w7 H e7=>?_
 simp only[ad,ag]at H;have g2:=AN.lt (H.get 2 rfl);refine (my (H.get 2 rfl) (pY.AB e7) (JI.AB H.ext) U7 hr hn hg BS h9 h8 hp _).mono ?_ fun _ _ h=>h
 rintro i v ⟨h1,h2,CO,ev⟩;have gv:=ev.size;have H:=H.other ev (fun j (hj:j=w5.heap.size) CB=>by
  simp only[aB,bj,ar,aF,bp]at CB;omega) fun j (hj:j=w5.heap.size)=> .inr (by omega)
 have E0:=H.ext;have H:=H.here fun j=>j=w.heap.size\/j=w4.heap.size
 iterate 8 (refine H.st 0 rfl (by simp) (.inl (.inl rfl)) fun _ H=>?_;simp only[af,aa,ab]at H)
 refine H.st 1 rfl (by simp) (.inl (.inr rfl)) fun _ H=>?_
 simp only[af,aa,ab]at H;refine lp _ _ _ _ ?_;unfold PZ
 iterate 8 refine H.ld 0 rfl rfl ?_
 have hs:=H.size;have hs0:=E0.size;refine H.ld 1 rfl rfl ⟨rfl,h1,h2,(CO.AI H.ext fun j hj h=>?_).CM fun j hj=>⟨by omega,by omega⟩,Ext.Bw E0 H.ext fun j hj=>by rcases hj with h|h<;>omega⟩;rcases h with h|h<;>omega
end
end Pc
set_option maxRecDepth 512
set_option maxHeartbeats 200000
namespace Sh
def mv (P:Program)(S:List TypeId):Bool:=S.all fun t=>match P.underlying t with
 |some (.slice e)=>S.contains e
 |some (.struct fs)=>fs.toList.all fun f=>S.contains f.type
 |some (.array _ _)=>false
 |some (.pointer _)=>false
 |_=>true
theorem Kw {H:Type}{enc:TypeId×Value->H}{P:Program}{w:World}{spare:Nat->Bool}{held:Bool}{S:List TypeId}(hS:mv P S=true):∀(n:Nat) (t:TypeId) (cs:List Value) (x:DataW H×List MemPlace),t∈S->
  DataW.trod enc P w 0 spare held n t cs=some x->Es P w n t cs (Rows.uptoBulk x.1)
 |0,t,cs,x,_,h=>by simp[DataW.trod]at h
 |n+1,t,cs,x,htS,h=>by
  have jz:=aO.1 hS t htS;unfold Es;split
  ·rename_i k ht;obtain ⟨y,h1,_,h2⟩:=DataW.trod_int ht h;exact ⟨y,h1,h2⟩
  ·rename_i ht;obtain ⟨y,h1,_⟩:=DataW.trod_bool ht h;exact ⟨y,h1⟩
  ·rename_i ht;obtain ⟨y,h1,hx,h2⟩:=DataW.trod_string ht h;refine ⟨y,h1,h2,?_⟩;rw[hx];simp only[Rows.uptoBulk];rw[<-YY];exact Nat.lt_succ_self _
  ·rename_i e ht;rw[ht]at jz;rcases DataW.trod_slice ht h with ⟨h0,_⟩|⟨a,len,cap,elems,rest,k,hk,Wv,hx,_,hl,hc,hel,hi,_⟩
   ·exact ⟨⟨none,0,0⟩,h0,.inl rfl⟩
   ·cases hk;have hb:Rows.uptoBulk x.1=(elems.map fun x=>Rows.uptoBulk x.1).sum+Rows.uptoBulkAll (rest.map (·.1))+1:=by
     rw[hx];simp only[Rows.uptoBulk];rw[SJ]
    have pB:=gZ elems;refine ⟨⟨some a,len,cap⟩,Wv,.inr ⟨a,elems.map fun x=>Rows.uptoBulk x.1,rfl,hl,hc,by rw[bc,hel],by omega,by show len<_;omega,fun i b hb=>?_⟩⟩;rw[aH]at hb;obtain ⟨y,hy,rfl⟩:=aN.1 hb;have Iz:i<len:=by have:=(al.1 hy).1;omega
    have h2:=(hi i Iz).trans hy;obtain ⟨Bf,h3,h4⟩:=bQ.1 h2;obtain ⟨_,h5,h6⟩:=World.cells?_some h3;exact ⟨Bf,h5,fun j hj=>by rw[<-CQ];exact h6 j hj,Kw hS n e Bf _ (aW.1 jz) h4⟩
  ·rename_i fs ht;rw[ht]at jz;obtain ⟨xs,k,hk,hx,hl,WU,hf⟩:=DataW.trod_struct ht h;cases hk;have hb:Rows.uptoBulk x.1=(xs.map fun x=>Rows.uptoBulk x.1).sum+1:=by
    rw[hx];simp only[Rows.uptoBulk];rw[SJ]
   refine ⟨hl,xs.map fun x=>Rows.uptoBulk x.1,by omega,fun i f U7=>?_⟩;have Au:i<fs.size:=(aj.1 U7).1;have hlx:i<xs.length:=by rw[WU];exact Au
   have CB:f∈fs.toList:=ax (i:=i) (by simpa using U7);refine ⟨Rows.uptoBulk (xs[i]).1,by rw[aH,ah hlx];rfl,Kw hS n f.type _ _ (aW.1 (aO.1 jz f CB)) ((hf i f U7).trans (ah hlx))⟩
  ·rename_i a b ht;rw[ht]at jz;cases jz
  ·rename_i a ht;rw[ht]at jz;cases jz
  ·trivial
theorem LM {P:Program}{w:World}{n k b:Nat}{t e:TypeId}{cs:List Value}{α:Type}[Inhabited α]{Q:α->List Value->Nat->Prop}(hu:P.underlying t=some (.slice e))(hk:P.cellsOf e=k)(h:Es P w (n+1) t cs b)
  (hQ:∀Bf x,Es P w n e Bf x->∃q,Q q Bf x):∃(s:AA) (L:List α) (bs:List Nat),cs=[AA.v s]/\s.len=L.length/\L.length=bs.length/\bs.sum<=b/\L.length<=maxLen/\∀(i:Nat) (q:α),L[i]?=some q->∃a Bf x,bs[i]?=some x/\s.p=some a/\(∀j,j<k->w.cell? (a.add (i*k+j))=Bf[j]?)/\Q q Bf x:=by
 unfold Es at h;rw[hu]at h;obtain ⟨s,rfl,h⟩:=h;rcases h with rfl|⟨a,bs,hp,h1,h2,h3,h4,_,h5⟩
 ·exact ⟨_,[],[],rfl,rfl,rfl,bJ _,bJ _,fun i q hi=>by cases hi⟩
 ·rw[hk]at h5;have h':∀i,∃q:α,∀x,bs[i]?=some x->∃Bf,(∀j,j<k->w.cell? (a.add (i*k+j))=Bf[j]?)/\Q q Bf x:=fun i=>by
   cases hb:bs[i]? with
   |none=>exact ⟨default,fun x hx=>by cases hx⟩
   |some x=>
    obtain ⟨Bf,_,c1,c2⟩:=h5 i x hb;obtain ⟨q,hq⟩:=hQ Bf x c2;exact ⟨q,fun y hy=>by cases hy;exact ⟨Bf,c1,hq⟩⟩
  refine ⟨s,(List.range s.len).map fun i=>Classical.choose (h' i),bs,rfl,by simp,by simp[h3],Nat.le_of_lt h4,by simp;omega,fun i q hi=>?_⟩;rw[aH]at hi;obtain ⟨i',vy,rfl⟩:=aN.1 hi;obtain ⟨Au,rfl⟩:=al.1 vy;simp only[List.length_range]at Au;simp only[List.getElem_range];have WX:bs[i]?=some (bs[i]'(by omega)):=ah (by omega);obtain ⟨Bf,c1,c2⟩:=Classical.choose_spec (h' i) _ WX;exact ⟨a,Bf,_,WX,hp,c1,c2⟩
theorem Et {P:Program}{w:World}{n b:Nat}{t:TypeId}{cs:List Value}{L:List (Nat×TypeId)}(hL:IM P t=some L)(h:Es P w (n+1) t cs b):cs.length=P.cellsOf t/\∃bs:List Nat,bs.sum<b/\∀(i o:Nat) (u:TypeId),L[i]?=some (o,u)->∃x,bs[i]?=some x/\Es P w n u ((cs.drop o).take (P.cellsOf u)) x:=by
 unfold Es at h;unfold IM at hL;split at hL
 ·rename_i fs hu;rw[hu]at h;cases hL;obtain ⟨h1,bs,h2,h3⟩:=h;refine ⟨h1,bs,h2,fun i o u hi=>?_⟩;rw[aH]at hi;obtain ⟨f,g1,g2⟩:=aN.1 hi;cases g2;exact h3 i f (by simpa using g1)
 ·cases hL
theorem HA {α:Type}{f:α->Nat}{L:List α}{bs:List Nat}(hl:L.length=bs.length)(h:∀(i:Nat) a x,L[i]?=some a->bs[i]?=some x->f a<=x):(L.map f).sum<=bs.sum:=by
 induction L generalizing bs with
 |nil=>simp
 |cons a L ih=>
  cases bs with
  |nil=>cases hl
  |cons x bs=>
   have h0:=h 0 a x rfl rfl;have h1:=ih (bs:=bs) (by simpa using hl) fun i a x ha hx=>h (i+1) a x (by simpa using ha) (by simpa using hx)
   simp only[aB,b6];omega
theorem kF {bs:List Nat}{x3 x4 x5 b:Nat}(h:bs.sum<b)(h3:bs[3]?=some x3)(h4:bs[4]?=some x4)(h5:bs[5]?=some x5):x3+x4+x5<b:=by
 match bs,h3,h4,h5 with
 |a0::a1::a2::a3::a4::a5::r,h3,h4,h5=>
  cases h3;cases h4;cases h5;simp only[b6]at h;omega
 |[],h3,_,_=>simp at h3
 |[_],h3,_,_=>simp at h3
 |[_,_],h3,_,_=>simp at h3
 |[_,_,_],h3,_,_=>simp at h3
 |[_,_,_,_],_,h4,_=>simp at h4
 |[_,_,_,_,_],_,_,h5=>simp at h5
end Sh
namespace Sh
section
variable {P:Program} {t e ti:TypeId} {k B:Nat} {z:Value} {w:World} {ty:TypeId}
theorem El.grow(h:El P t e k B z)(l9:P.underlying ti=some (.int .i64)){n:Nat}(hn:0<n)(hk:0<k)(hb:n*B<=140737488355328)(h63:n<=4611686018427387904):
  ∃s' w',Ai P (Builtin.append_ #[t,ti] ty #[AA.v ⟨none,0,0⟩,.int .i64 (n:Int)]) w (AA.v s') w'/\Row w' (s'.cut k 0 0 s'.cap) e k []/\Ext (fun _=>False) w w'/\(∀j,s'.own j->w.heap.size<=j):=by
 obtain ⟨i,hi,rfl,rfl,hz⟩:=h.info;have Og:=grownCap_ge w n 0 e;have Er:¬(281474976710656<Builtin.nextslicecap n 0*i.bytes):=by
  have:=growslice_fits (need:=n) (old:=0) (bytes:=i.bytes) hn hb;omega
 have h6:¬(9223372036854775807<(n:Int)):=by omega
 have hw:wrap .i64 (n:Int)=(n:Int):=IntWalk.i64_in n (by omega);have hn0:¬(n=0):=by omega
 have cO:¬(i.size=0):=by omega
 have vZ:¬(281474976710656<(n:Int)*(i.bytes:Int)):=by
  have:((n*i.bytes:Nat):Int)<=140737488355328:=by omega
  rw[Int.natCast_mul]at this;omega
 have F1:¬((n:Int)<0):=by omega
 refine ⟨⟨some ⟨w.heap.size,0,none⟩,n,grownCap w n 0 e⟩,w.drew.alloc (.cells (Builtin.zeroCells z.cells n++Builtin.zeroCells z.cells (grownCap w n 0 e-n)) e),?_,⟨by simp[AA.cut],.inr ⟨w.heap.size,_,?_,AN.new w.drew _ _,?_,?_,?_⟩⟩,((Ext.refl _ w).drew).alloc _,fun j hj=>?_⟩
 ·simp[Ai,AA.v,Builtin.append_,run_underlying h.Zl,run_underlying l9,sizeOf,typeInfo,zeroValue,asInt,asIntOf,hi,hz,hw,F1,vZ,hn0,cO,h6,Er,Question.forced,run_firstCells_none,newRow,grownCap];intro h0;have:=Nat.mul_pos hn hk;omega
 ·show (if grownCap w n 0 e=0 then some (⟨w.heap.size,0,none⟩:Addr)else _)=_;rw[aA (by omega)];simp
 ·exact bJ _
 ·show _=(grownCap w n 0 e-0)*i.size;simp only[Array.size_append,size_zeroCells,h.cells];rw[<-bT]
  congr 1
  omega
 ·simp[AA.cut]
 ·obtain ⟨a,ha,rfl⟩:=hj;cases ha;exact az _
end
end Sh
namespace Sh
section
variable {P:Program} {t e:TypeId} {k B:Nat} {z:Value} {w:World} {s:AA} {ty:TypeId} {xs ys news:List Value} {i:TypeInfo} {x:Value} {m len:Nat} {a:Addr}
theorem Oh (ht:P.underlying t=some (.slice e))(hi:P.info? e=some i)(hz:i.zero=some z)(zI:z.cells.size=i.size)(hm:0<m)
  (hlen:Builtin.lenOf x=pure m) (De:∀w':World,w'.heap=w.heap->(Builtin.firstCells i.size m x).run P w'= .ok news.toArray w') (hl:news.length=m*i.size)
  (Ho:xs.length=len*i.size) (holds:∀j v,xs[j]?=some v->w.cell? (a.add j)=some v) (hb:(len+m)*i.bytes<=140737488355328) (h63:len+m<=9223372036854775807):
  ∃s' w',Ai P (Builtin.append_ #[t,t] ty #[AA.v ⟨some a,len,len⟩,x]) w (AA.v s') w'/\Row w' s' e i.size (xs++news)/\s'.len=len+m/\Ext (fun _=>False) w w'/\∀j,s'.own j->w.heap.size<=j:=by
 have Jx:(xs++news).length=(len+m)*i.size:=by rw[ae,Ho,hl,bT]
 have hd:w.drew.heap=w.heap:=rfl;refine ⟨⟨some ⟨w.heap.size,0,none⟩,len+m,grownCap w (len+m) len e⟩,w.drew.alloc (.cells (xs.toArray++news.toArray++Builtin.zeroCells z.cells (grownCap w (len+m) len e-(len+m))) e),?_,⟨Jx,.inr ⟨_,_,rfl,AN.new w.drew _ e,grownCap_ge w (len+m) len e,?_,?_⟩⟩,rfl,((Ext.refl _ w).drew).alloc _,fun j hj=>?_⟩
 ·have hc:=De w.drew hd;have hf:=growslice_fits (need:=len+m) (old:=len) (by omega) hb;have BV:¬(281474976710656<Builtin.nextslicecap (len+m) len*i.bytes):=by omega
  have h6:¬(9223372036854775807<((len:Int)+(m:Int))):=by omega
  have Nb:¬(len+m<=len):=by omega
  have hm0:m≠0:=by omega
  have hfo:=run_firstCells_some (P:=P) w.drew i.size len a len len xs Ho (fun j v hj=>by have:=holds j v hj;simpa using this);simp[Ai,AA.v,Builtin.append_,run_underlying ht,sizeOf,typeInfo,zeroValue,hi,hz,hlen,Nb,hm0,h6,BV,Question.forced,hfo,hc,newRow,grownCap]<;>
   (congr 2;apply Array.ext';simp[aD])
 ·have Og:=grownCap_ge w (len+m) len e;simp only[Array.size_append,bg,size_zeroCells,zI,Ho,hl,<-bT]
  congr 1
  omega
 ·simp only[Array.toList_append];rw[<-Jx];exact List.take_left
 ·obtain ⟨a',ha,rfl⟩:=hj;cases ha;exact az _
theorem El.qA{s2:AA}(h:El P t e k B z)(hk:0<k)(own:Row w s e k [])(hc:s.cap=0)(h2:B9 w s2 k ys)(h1:∀v∈ys,v.oneCell'=true)(hb:s2.len*B<=140737488355328)(h63:s2.len<=9223372036854775807):
  ∃s' w',Ai P (Builtin.append_ #[t,t] ty #[AA.v s,AA.v s2]) w (AA.v s') w'/\Row w' s' e k ys/\s'.len=s2.len/\Ext (fun _=>False) w w'/\∀j,s'.own j->s.own j\/w.heap.size<=j:=by
 have oL:s.len=0:=by
  have:=own.1;rcases Nat.mul_eq_zero.1 this.symm with h0|h0
  ·exact h0
  ·omega
 obtain ⟨p,len,cap⟩:=s;simp only at hc oL;subst hc oL;cases p with
 |none=>
  obtain ⟨s',w',r1,r2,r3,r4,r5⟩:=h.app (ty:=ty) (xs:=[]) own h2 h1 (by simpa using hb) (by simpa using h63);exact ⟨s',w',r1,by simpa using r2,by simpa using r3,r4.mono (fun j _ hj=>by obtain ⟨a,ha,_⟩:=hj;cases ha),r5⟩
 |some a=>
  obtain ⟨i,hi,rfl,rfl,hz⟩:=h.info;have De:∀w':World,w'.heap=w.heap->(Builtin.firstCells i.size s2.len (AA.v s2)).run P w'= .ok ys.toArray w':=fun w' zK=>by
   obtain ⟨p,len,cap⟩:=s2;cases p with
   |none=>
    have hy:ys=[]:=by
     cases ys with
     |nil=>rfl
     |cons y r=>
      obtain ⟨a,ha,_⟩:=h2.2 0 y rfl;cases ha
    subst hy;have hl:=h2.1;simp only[aV]at hl;exact run_firstCells_none (P:=P) (w:=w') _ _ _ _
   |some a=>
    refine run_firstCells_some w' i.size len a len cap ys h2.1 fun j v hj=>?_
    obtain ⟨a',ha,hc⟩:=h2.2 j v hj;cases ha;unfold World.cell? at hc⊢;rw[zK];exact hc
  by_cases hm:s2.len=0
  ·have hy:ys=[]:=aY (by have:=h2.1;rw[hm]at this;simpa using this);subst hy;refine ⟨⟨some a,0,0⟩,w,?_,own,hm.symm,Ext.refl _ _,fun j hj=> .inl hj⟩;have hc:=De w rfl;have hlen:Builtin.lenOf (AA.v s2)=pure 0:=by rw[<-hm];rfl
   rw[hm]at hc;simp[Ai,Builtin.append_,run_underlying h.Zl,sizeOf,typeInfo,hi,hlen,hc,AA.v]at*;simp[Ai,Builtin.append_,run_underlying h.Zl,sizeOf,typeInfo,hi,hlen,hc,AA.v,storeCells]
  ·obtain ⟨s',w',r1,r2,r3,r4,r5⟩:=Oh (ty:=ty) (a:=a) (len:=0) (xs:=[]) (x:=AA.v s2) (m:=s2.len) h.Zl hi hz h.cells (by omega) rfl De h2.1 (by simp) (fun j v hj=>by cases hj) (by simpa using hb) (by simpa using h63);exact ⟨s',w',r1,by simpa using r2,by simpa using r3,r4,fun j hj=> .inr (r5 j hj)⟩
end
end Sh
set_option maxHeartbeats 1000000
namespace Sh
theorem Rp {w:World}{g:Nat}{cur:Array Value}{t:TypeId}(h:AN w g cur t)(cs:Array Value):AN (w.setRow g cs) g cs t/\Ext (·=g) w (w.setRow g cs):=
 ⟨setRow_heap w g cur cs t _ h,⟨rfl,rfl,rfl,by simp[World.setRow],fun k _ hk=>setRow_other w g k _ (fun e=>hk e)⟩⟩
section
variable {P:Program} {t e:TypeId} {k B:Nat} {z:Value} {w:World} {s s2:AA} {ty:TypeId} {xs ys:List Value}
theorem El.F2(h:El P t e k B z){g o dLen dCap sLen sCap n:Nat}{a:Addr}{cur:Array Value}{cs:List Value}{sT:TypeId}(hg:AN w g cur e)(hn:n=Nat.min sLen dLen)(hc:cs.length=n*k)
  (AL6:∀j v,cs[j]?=some v->w.cell? (a.add j)=some v) (Er:o+cs.length<=cur.size) (h1:∀v∈cs,v.oneCell'=true):
  ∃w',Ai P (Builtin.copy_ #[t,sT] ty #[AA.v ⟨some ⟨g,o,none⟩,dLen,dCap⟩,AA.v ⟨some a,sLen,sCap⟩]) w (.int .i64 (n:Int)) w'/\AN w' g (cur.toList.take o++cs++cur.toList.drop (o+cs.length)).toArray e/\Ext (·=g) w w':=by
 obtain ⟨i,hi,rfl,rfl,hz⟩:=h.info;have hl:=run_firstCells_some (P:=P) w i.size n a sLen sCap cs hc AL6;have NF:=run_storeCells_at P g o e cs 0 cur w hg (by simpa using Er) h1;obtain ⟨b1,b2⟩:=Rp hg (cur.toList.take o++cs++cur.toList.drop (o+cs.length)).toArray;refine ⟨_,?_,b1,b2⟩;simp only[Nat.add_zero]at NF;simp[Ai,AA.v,Builtin.copy_,run_underlying h.Zl,Builtin.lenOf,sizeOf,typeInfo,hi,<-hn,hl,NF,goInt]
theorem El.pA(h:El P t e k B z){ti:TypeId}(l9:P.underlying ti=some (.int .i64)){p:Addr}{sLen sCap n:Nat}{olds:List Value}(hlen:olds.length=sLen*k)(hold:∀j v,olds[j]?=some v->w.cell? (p.add j)=some v)
  (hn:0<n) (hk:0<k) (hg:sCap<sLen+n) (hb:(sLen+n)*B<=140737488355328) (h63:sLen+n<=4611686018427387904):
  ∃g cap cur w',Ai P (Builtin.append_ #[t,ti] ty #[AA.v ⟨some p,sLen,sCap⟩,.int .i64 (n:Int)]) w (AA.v ⟨some ⟨g,0,none⟩,sLen+n,cap⟩) w'/\AN w' g cur e/\sLen+n<=cap/\cur.size=cap*k/\cur.toList.take (sLen*k)=olds/\Ext (fun _=>False) w w'/\w.heap.size<=g:=by
 obtain ⟨i,hi,rfl,rfl,hz⟩:=h.info;have Og:=grownCap_ge w (sLen+n) sCap e;have hbn:n*i.bytes<=140737488355328:=bB (cD _ (Nat.le_add_left _ _)) hb;have Dg:=Lib.run_append_grow_zeros (P:=P) w t ti ty e i z .i64 .i64 h.Zl l9 hi hz (some p) sLen sCap olds (run_firstCells_some (P:=P) w.drew i.size sLen p sLen sCap olds hlen fun j v hj=>by
  have:=hold j v hj;unfold World.cell? at this⊢;exact this) n hn hk hg (by omega) (by omega) (growslice_fits hg hb)
 refine ⟨w.heap.size,_,_,_,Dg,AN.new w.drew _ e,Og,?_,?_,((Ext.refl _ w).drew).alloc _,az _⟩
 ·simp only[Array.size_append,bg,size_zeroCells,h.cells,hlen];rw[<-bT,<-bT,Nat.add_sub_cancel' Og]
  rfl
 ·simp only[Array.toList_append];rw[aD,<-hlen];exact List.take_left
end
end Sh
set_option maxRecDepth 8000
set_option maxHeartbeats 4000000
namespace Vl
open Sh
theorem GA:El prog 23 9 1 16 (.string ⟨#[]⟩):=⟨by kernel_rfl,by kernel_rfl,by kernel_rfl,by kernel_rfl,rfl⟩
theorem Ext.new{F:Nat->Prop}{a b c:World}(h:Ext (fun _=>False) a b)(k:Ext F b c)(hF:∀j,F j->a.heap.size<=j):Ext (fun _=>False) a c:=
 h.trans k (fun _ h=>h) fun j hj h=>by have:=hF j h;omega
theorem B1 {g len cap lo hi mx k:Nat}(h:lo<mx):(⟨some ⟨g,0,none⟩,len,cap⟩:AA).cut k lo hi mx=⟨some ⟨g,lo*k,none⟩,hi-lo,mx-lo⟩:=by
 unfold AA.cut;rw[aA (by omega)];simp only[Option.map_some,add_lit,ak]
theorem Jv {a b:Nat}(h:a<=b):a=Nat.min a b:=(Nat.min_eq_left h).symm
theorem jI {a b:Nat}(h:b<=a):b=Nat.min a b:=(Nat.min_eq_right h).symm
theorem XQ:prog.underlying 3=some (.int .i64):=Tryz.underlying3
theorem wrap64 {n:Int}(h:0<=n/\n<=9223372036854775807):wrap .i64 n=n:=AH ⟨by omega,h.2⟩
theorem QQ (K:List ByteArray):∀v∈K.map Value.string,v.oneCell'=true:=by
 intro v hv;obtain ⟨b,_,rfl⟩:=bx.1 hv
 rfl
theorem G5 {α:Type}{l:List α}{a n k:Nat}(h:l.length=n*k)(ha:a<=n):(l.take (a*k)).length=a*k/\(l.drop (a*k)).length=(n-a)*k:=by
 have:a*k<=n*k:=cD _ ha;rw[aC,aE,h,Nat.sub_mul];omega
section
variable {w w' w0 w1:World} {s:AA} {xs ys:List Value}
attribute [local irreducible] Ld Sh.St Nw Nn Lt AU Ae BW Am
theorem TF (h2:B9 w s 1 xs)(h1:∀v∈xs,v.oneCell'=true)(hb:s.len<=1000000000):C76 s w fun r w1=>Row w1 r 9 1 xs/\r.len=s.len/\Ext (fun _=>False) w w1/\∀j,r.own j->w.heap.size<=j:=by
 refine T76 _ _ _ ?_;unfold S76;obtain ⟨p,len,cap⟩:=s;cases p with
 |none=>
  have hx:xs=[]:=by
   cases xs with
   |nil=>rfl
   |cons x r=>obtain ⟨a,ha,_⟩:=h2.2 0 x rfl;cases ha
  subst hx;have hl:=h2.1;simp only[aV]at hl;have oL:len=0:=by omega
  exact Br.t rfl ⟨Row.nil _ _ _,oL.symm,Ext.refl _ _,fun j hj=>by obtain ⟨a,ha,_⟩:=hj;cases ha⟩
 |some a=>
  refine Br.f rfl (Nw.of ?_);have e1:Ext (fun _=>False) w (w.alloc (.cells #[] 9)):=(Ext.refl _ _).alloc _;have R0:Row (w.alloc (.cells #[] 9)) ⟨some ⟨w.heap.size,0,none⟩,0,0⟩ 9 1 []:=Row.new w #[] 9 1 0 (by simp);obtain ⟨s',w',r1,r2,r3,r4,r5⟩:=GA.qA (ty:=23) (by decide) R0 rfl (h2.AB e1) h1 (by show len*_<=_;have:len<=1000000000:=hb;omega) (by show len<=_;have:len<=1000000000:=hb;omega);refine ⟨s',w',r1,r2,r3,e1.tr r4,fun j hj=>?_⟩;have:=e1.size;rcases r5 j hj with ⟨a,ha,rfl⟩|h
  ·cases ha;exact az _
  ·omega
theorem AD9 {g gs vl vc sl sc so:Nat}{cv cs:Array Value}(hv:AN w g cv 9)(hs:AN w gs cs 9)(BI:g≠gs)(h0:cs.size≠0):Rk prog 124 #[AA.v ⟨some ⟨g,0,none⟩,vl,vc⟩,AA.v ⟨some ⟨gs,so,none⟩,sl,sc⟩] w (.bool false) w:=by
 unfold Rk;have sh:∀{b:Nat} {c:Array Value},AN w b c 9->w.shape? b=some (9,c.size):=fun h=>by unfold AN at h;simp[World.shape?,h]
 rw[run_callFunc_extern Tryz.func124 (by kernel_rfl) (by kernel_rfl) (by kernel_rfl) (e:=Extern.SlicesOverlaps.overlaps #[23,23] #[4]) (by kernel_rfl)];show ((Extern.SlicesOverlaps.overlaps #[23,23] #[4] #[.slice (some ⟨g,0,none⟩) vl vc,.slice (some ⟨gs,so,none⟩) sl sc]).run prog w).andThen _=_;rw[Lib.run_overlaps_apart (P:=prog) w 23 4 9 GA.Zl 1 Tryz.sizeOf9 ⟨g,0,none⟩ ⟨gs,so,none⟩ vl vc sl sc BI 9 9 cv.size cs.size (sh hv) (sh hs) h0 (hv.frozen 0) (hv.frozen _)]
 rfl
theorem Vk {i g:Nat}(own:Row w s 9 1 xs)(hi:i<=s.len)(hs:s.len<=1000000)(hv:AN w g ys.toArray 9)(QI:ys.length=1)(nO:∀v∈ys,v.oneCell'=true)(Ho:∀v∈xs,v.oneCell'=true)(hg:¬s.own g):
  C78 s (i:Int) ⟨some ⟨g,0,none⟩,1,1⟩ w fun r w1=>Row w1 r 9 1 (xs.take (i*1)++ys++xs.drop (i*1))/\r.len=s.len+1/\Ext s.own w w1/\∀j,r.own j->s.own j\/w.heap.size<=j:=by
 refine T78 _ _ _ _ _ ?_;unfold S78;have TG:∀{u:World},AN u g ys.toArray 9->∀j v,ys[j]?=some v->u.cell? ((⟨g,0,none⟩:Addr).add j)=some v:=fun hu j v hj=>by
  rw[add_lit,hu.cell,ak];simpa using hj
 have WU:=own.1;refine ⟨by omega,by omega,Br.f rfl (Br.eq (fun Iz=>?_) fun Iz=>?_)⟩
 ·obtain ⟨s',w',r1,r2,r3,r4,r5⟩:=GA.O4 (ty:=23) own hv QI nO (by omega) (by omega);have hii:i=s.len:=by omega
  refine ⟨s',w',r1,?_,r3,r4,r5⟩;rw[hii,<-WU,bf,List.drop_length,aX];exact r2
 have Au:i<s.len:=by omega
 obtain ⟨gs,cur,hp,hB,hle,DN,Fi⟩:∃gs cur,s.p=some ⟨gs,0,none⟩/\AN w gs cur 9/\s.len<=s.cap/\cur.size=s.cap*1/\cur.toList.take (s.len*1)=xs:=by
  rcases own.2 with h|h
  ·rw[h]at Au;simp at Au
  ·exact h
 obtain ⟨p,len,cap⟩:=s;simp only at hp hB hle DN Fi hi hs Au Iz WU;subst hp;have jJ:g≠gs:=fun e=>hg ⟨_,rfl,e.symm⟩
 have hlw:wrap .i64 ((((len:Nat)):Int)+(((1:Nat)):Int))=((len+1:Nat):Int):=by rw[wrap64 ⟨by omega,by omega⟩];rfl
 have hiw:wrap .i64 (((i:Nat):Int)+(((1:Nat)):Int))=((i+1:Nat):Int):=by rw[wrap64 ⟨by omega,by omega⟩];rfl
 obtain ⟨tl,dl⟩:=G5 (k:=1) WU hi;have TH:∀j v,(xs.drop (i*1))[j]?=some v->w.cell? ((⟨gs,i*1,none⟩:Addr).add j)=some v:=fun j v hj=>by
  rw[bI]at hj;rw[add_lit,hB.cell,<-Fi]at*;rw[bS]at hj;split at hj
  ·simpa using hj
  ·cases hj
 have M3:∀v∈xs.drop (i*1),v.oneCell'=true:=fun v hv=>Ho v (cF hv)
 dsimp only;rw[hlw,hiw];refine Lt.of (Br.dec (fun mH=>?_) fun mH=>?_)
 ·
  have hnw:wrap .i64 (((len+1:Nat):Int)-((i:Nat):Int))=((len+1-i:Nat):Int):=by rw[wrap64 ⟨by omega,by omega⟩];omega
  rw[hnw];refine ⟨by omega,by omega,Lt.of ?_⟩;rw[ay,ay,B1 (by omega),cE,ct,ct];obtain ⟨g',QR,QS,w1,r1,b1,r2,r3,r4,r5,r6⟩:=GA.pA (ty:=23) XQ (p:=⟨gs,0,none⟩) (sLen:=i) (sCap:=cap) (n:=len+1-i) (olds:=xs.take (i*1)) tl (fun j v hj=>by
   rw[add_lit,hB.cell,ak];rw[bS]at hj;split at hj
   ·rw[<-Fi,bS]at hj;split at hj
    ·simpa using hj
    ·cases hj
   ·cases hj) (by omega) (by decide) (by omega) (by omega) (by omega)
  refine ⟨_,w1,r1,by omega,by show ((i:Nat):Int)<=((i+(len+1-i):Nat):Int);omega,?_⟩;dsimp only;rw[B1 (by omega),show i+(len+1-i)-i=len+1-i by omega];have hv1:=r5.AR hv id;have AN8:g'≠g:=fun e=>by have:=hv.lt;omega
  have jK:g'≠gs:=fun e=>by have:=hB.lt;omega
  obtain ⟨w2,q1,b2,e2⟩:=GA.F2 (ty:=3) (sT:=23) (o:=i*1) (dLen:=len+1-i) (dCap:=QR-i) (sLen:=1) (sCap:=1) (n:=1) (a:=⟨g,0,none⟩) (cs:=ys) b1 (Jv (by omega)) (by rw[QI]) (TG hv1) (by omega) nO;refine ⟨_,w2,q1,by omega,by show ((i+1:Nat):Int)<=((i+(len+1-i):Nat):Int);omega,by omega,by omega,?_⟩;rw[B1 (by omega),B1 (by omega),show i+(len+1-i)-(i+1)=len-i by omega];have E8:(QS.toList.take (i*1)++ys++QS.toList.drop (i*1+ys.length)).toArray.size=QR*1:=by
   simp only[bg,ae,aC,aE,aJ];omega
  obtain ⟨w3,q2,b3,e3⟩:=GA.F2 (ty:=3) (sT:=23) (w:=w2.drew) (o:=(i+1)*1) (dLen:=len-i) (dCap:=QR-(i+1)) (sLen:=len-i) (sCap:=cap-i) (n:=len-i) (a:=⟨gs,i*1,none⟩) (cs:=xs.drop (i*1)) b2.drew (Jv (by omega)) dl (fun j v hj=>by
   have h0:=TH j v hj;exact ((r5.trans (e2.mono (G:=fun j=>j=g') fun _ _ h=>h) (fun _ h=>h.elim) fun _ _ h=>h).drew.cell (Dh h0) (by rw[DZ];exact fun h=>jK h.symm)).trans h0) (by rw[E8,dl];omega) M3
  refine ⟨_,w3,q2,⟨?_,.inr ⟨g',_,rfl,b3,by show i+(len+1-i)<=QR;exact r2,?_,?_⟩⟩,by show i+(len+1-i)=len+1;omega,?_,fun j hj=> .inr ?_⟩
  ·simp only[ae,tl,dl,QI];omega
  ·simp only[bg,ae,aC,aE,aJ,dl];simp only[bg,ae,aC,aE,aJ]at E8;omega
  ·show List.take ((i+(len+1-i))*1) _=_;have e:(QS.toList.take (i*1)++ys++QS.toList.drop (i*1+ys.length)).toArray.toList.take ((i+1)*1)=xs.take (i*1)++ys:=by
    rw[r4];show List.take _ (_++_++_)=_;rw[cj (by rw[ae,tl,QI];omega)]
   rw[e,aD,<-aD,cj (by simp only[ae,tl,dl,QI];omega)]
  ·have E:Ext (fun j=>j=g') w1 w3:=(e2.mono fun _ _ h=>h).drew.tr (e3.mono fun _ _ h=>h);exact (Ext.new r5 E fun j hj=>by rw[hj];exact r6).mono fun _ _ h=>h.elim
  ·obtain ⟨a,ha,rfl⟩:=hj;cases ha;exact r6
 ·
  refine ⟨by omega,by omega,by omega,?_⟩;rw[ay,ay,B1 (by omega),cE,ct,ct];refine ⟨by show ((i+1:Nat):Int)<=((len+1:Nat):Int);omega,false,w,?_,Br.t rfl ?_⟩
  ·dsimp only;rw[B1 (by omega)];exact AD9 hv hB jJ (by omega)
  refine ⟨by omega,by show ((i+1:Nat):Int)<=((len+1:Nat):Int);omega,by omega,by show ((i:Nat):Int)<=((len+1:Nat):Int);omega,?_⟩;dsimp only;rw[B1 (by omega),B1 (by omega),show len+1-(i+1)=len-i by omega];obtain ⟨w2,q1,b2,e2⟩:=GA.F2 (ty:=3) (sT:=23) (w:=w.drew) (o:=(i+1)*1) (dLen:=len-i) (dCap:=cap-(i+1)) (sLen:=len+1-i) (sCap:=cap-i) (n:=len-i) (a:=⟨gs,i*1,none⟩) (cs:=xs.drop (i*1)) hB.drew (jI (by omega)) dl (fun j v hj=>TH j v hj) (by rw[DN,dl];omega) M3;refine ⟨_,w2,q1,by omega,by show ((i:Nat):Int)<=((len+1:Nat):Int);omega,?_⟩;have TO:=e2.AR (b:=g) (cs:=ys.toArray) hv.drew jJ;have E8:(cur.toList.take ((i+1)*1)++xs.drop (i*1)++cur.toList.drop ((i+1)*1+(xs.drop (i*1)).length)).toArray.size=cap*1:=by
   simp only[bg,ae,aC,aE,aJ];omega
  obtain ⟨w3,q2,b3,e3⟩:=GA.F2 (ty:=3) (sT:=23) (o:=i*1) (dLen:=len+1-i) (dCap:=cap-i) (sLen:=1) (sCap:=1) (n:=1) (a:=⟨g,0,none⟩) (cs:=ys) b2 (Jv (by omega)) (by rw[QI]) (TG TO) (by rw[E8];omega) nO;refine ⟨_,w3,q2,⟨?_,.inr ⟨gs,_,rfl,b3,by show len+1<=cap;omega,?_,?_⟩⟩,rfl,?_,fun j hj=> .inl ?_⟩
  ·simp only[ae,tl,dl,QI];omega
  ·show _=cap*1;simp only[bg,ae,aC,aE,aJ];omega
  ·show List.take ((len+1)*1) _=_;have t1:List.take (i*1) (cur.toList.take ((i+1)*1)++xs.drop (i*1)++cur.toList.drop ((i+1)*1+(xs.drop (i*1)).length))=xs.take (i*1):=by
    rw[aD,List.take_append_of_le_length (by rw[aC,aJ];omega),List.take_take,<-Fi,List.take_take]
    congr 1
    omega
   have t2:List.drop (i*1+ys.length) (cur.toList.take ((i+1)*1)++xs.drop (i*1)++cur.toList.drop ((i+1)*1+(xs.drop (i*1)).length))=xs.drop (i*1)++cur.toList.drop ((i+1)*1+(xs.drop (i*1)).length):=by
    rw[aD,List.drop_left' (by rw[aC,aJ];omega)]
   rw[show (cur.toList.take ((i+1)*1)++xs.drop (i*1)++cur.toList.drop ((i+1)*1+(xs.drop (i*1)).length)).toArray.toList=(cur.toList.take ((i+1)*1)++xs.drop (i*1)++cur.toList.drop ((i+1)*1+(xs.drop (i*1)).length))from rfl,t1,t2,<-aD,cj (by simp only[ae,tl,dl,QI];omega)]
  ·exact (Ext.refl _ w).drew.tr ((e2.mono (G:=fun j=>∃a,(⟨some ⟨gs,0,none⟩,len,cap⟩:AA).p=some a/\a.block=j) fun j _ h=>⟨_,rfl,h.symm⟩).tr (e3.mono fun j _ h=>⟨_,rfl,h.symm⟩))
  ·obtain ⟨a,ha,rfl⟩:=hj;exact ⟨a,ha,rfl⟩
end
section
variable {w w' w0 w1:World} {s:AA} {xs ys:List Value}
attribute [local irreducible] Ld Sh.St Nw Nn Lt AU Ae BW Am
theorem jL (h2:B9 w s 6 xs)(h1:∀v∈xs,v.oneCell'=true)(hb:s.len<=1000000000):C77 s w fun r w1=>Row w1 r 26 6 xs/\r.len=s.len/\Ext (fun _=>False) w w1/\∀j,r.own j->w.heap.size<=j:=by
 refine T77 _ _ _ ?_;unfold S77;obtain ⟨p,len,cap⟩:=s;cases p with
 |none=>
  have hx:xs=[]:=by
   cases xs with
   |nil=>rfl
   |cons x r=>obtain ⟨a,ha,_⟩:=h2.2 0 x rfl;cases ha
  subst hx;have hl:=h2.1;simp only[aV]at hl;have oL:len=0:=by omega
  exact Br.t rfl ⟨Row.nil _ _ _,oL.symm,Ext.refl _ _,fun j hj=>by obtain ⟨a,ha,_⟩:=hj;cases ha⟩
 |some a=>
  refine Br.f rfl (Nw.of ?_);have e1:Ext (fun _=>False) w (w.alloc (.cells #[] 26)):=(Ext.refl _ _).alloc _;have R0:Row (w.alloc (.cells #[] 26)) ⟨some ⟨w.heap.size,0,none⟩,0,0⟩ 26 6 []:=Row.new w #[] 26 6 0 (by simp);obtain ⟨s',w',r1,r2,r3,r4,r5⟩:=Kg.qA (ty:=24) (by decide) R0 rfl (h2.AB e1) h1 (by show len*_<=_;have:len<=1000000000:=hb;omega) (by show len<=_;have:len<=1000000000:=hb;omega);refine ⟨s',w',r1,r2,r3,e1.tr r4,fun j hj=>?_⟩;have:=e1.size;rcases r5 j hj with ⟨a,ha,rfl⟩|h
  ·cases ha;exact az _
  ·omega
theorem AEA {g gs vl vc sl sc so:Nat}{cv cs:Array Value}(hv:AN w g cv 26)(hs:AN w gs cs 26)(BI:g≠gs)(h0:cs.size≠0):Rk prog 126 #[AA.v ⟨some ⟨g,0,none⟩,vl,vc⟩,AA.v ⟨some ⟨gs,so,none⟩,sl,sc⟩] w (.bool false) w:=by
 unfold Rk;have sh:∀{b:Nat} {c:Array Value},AN w b c 26->w.shape? b=some (26,c.size):=fun h=>by unfold AN at h;simp[World.shape?,h]
 rw[run_callFunc_extern Tryz.func126 (by kernel_rfl) (by kernel_rfl) (by kernel_rfl) (e:=Extern.SlicesOverlaps.overlaps #[24,24] #[4]) (by kernel_rfl)];show ((Extern.SlicesOverlaps.overlaps #[24,24] #[4] #[.slice (some ⟨g,0,none⟩) vl vc,.slice (some ⟨gs,so,none⟩) sl sc]).run prog w).andThen _=_;rw[Lib.run_overlaps_apart (P:=prog) w 24 4 26 Kg.Zl 6 Tryz.sizeOf26 ⟨g,0,none⟩ ⟨gs,so,none⟩ vl vc sl sc BI 26 26 cv.size cs.size (sh hv) (sh hs) h0 (hv.frozen 0) (hv.frozen _)]
 rfl
theorem xg {i g:Nat}(own:Row w s 26 6 xs)(hi:i<=s.len)(hs:s.len<=1000000)(hv:AN w g ys.toArray 26)(QI:ys.length=6)(nO:∀v∈ys,v.oneCell'=true)(Ho:∀v∈xs,v.oneCell'=true)(hg:¬s.own g):
  C79 s (i:Int) ⟨some ⟨g,0,none⟩,1,1⟩ w fun r w1=>Row w1 r 26 6 (xs.take (i*6)++ys++xs.drop (i*6))/\r.len=s.len+1/\Ext s.own w w1/\∀j,r.own j->s.own j\/w.heap.size<=j:=by
 refine T79 _ _ _ _ _ ?_;unfold S79;have TG:∀{u:World},AN u g ys.toArray 26->∀j v,ys[j]?=some v->u.cell? ((⟨g,0,none⟩:Addr).add j)=some v:=fun hu j v hj=>by
  rw[add_lit,hu.cell,ak];simpa using hj
 have WU:=own.1;refine ⟨by omega,by omega,Br.f rfl (Br.eq (fun Iz=>?_) fun Iz=>?_)⟩
 ·obtain ⟨s',w',r1,r2,r3,r4,r5⟩:=Kg.O4 (ty:=24) own hv QI nO (by omega) (by omega);have hii:i=s.len:=by omega
  refine ⟨s',w',r1,?_,r3,r4,r5⟩;rw[hii,<-WU,bf,List.drop_length,aX];exact r2
 have Au:i<s.len:=by omega
 obtain ⟨gs,cur,hp,hB,hle,DN,Fi⟩:∃gs cur,s.p=some ⟨gs,0,none⟩/\AN w gs cur 26/\s.len<=s.cap/\cur.size=s.cap*6/\cur.toList.take (s.len*6)=xs:=by
  rcases own.2 with h|h
  ·rw[h]at Au;simp at Au
  ·exact h
 obtain ⟨p,len,cap⟩:=s;simp only at hp hB hle DN Fi hi hs Au Iz WU;subst hp;have jJ:g≠gs:=fun e=>hg ⟨_,rfl,e.symm⟩
 have hlw:wrap .i64 ((((len:Nat)):Int)+(((1:Nat)):Int))=((len+1:Nat):Int):=by rw[wrap64 ⟨by omega,by omega⟩];rfl
 have hiw:wrap .i64 (((i:Nat):Int)+(((1:Nat)):Int))=((i+1:Nat):Int):=by rw[wrap64 ⟨by omega,by omega⟩];rfl
 obtain ⟨tl,dl⟩:=G5 (k:=6) WU hi;have TH:∀j v,(xs.drop (i*6))[j]?=some v->w.cell? ((⟨gs,i*6,none⟩:Addr).add j)=some v:=fun j v hj=>by
  rw[bI]at hj;rw[add_lit,hB.cell,<-Fi]at*;rw[bS]at hj;split at hj
  ·simpa using hj
  ·cases hj
 have M3:∀v∈xs.drop (i*6),v.oneCell'=true:=fun v hv=>Ho v (cF hv)
 dsimp only;rw[hlw,hiw];refine Lt.of (Br.dec (fun mH=>?_) fun mH=>?_)
 ·
  have hnw:wrap .i64 (((len+1:Nat):Int)-((i:Nat):Int))=((len+1-i:Nat):Int):=by rw[wrap64 ⟨by omega,by omega⟩];omega
  rw[hnw];refine ⟨by omega,by omega,Lt.of ?_⟩;rw[ay,ay,B1 (by omega),cE,ct,ct];obtain ⟨g',QR,QS,w1,r1,b1,r2,r3,r4,r5,r6⟩:=Kg.pA (ty:=24) XQ (p:=⟨gs,0,none⟩) (sLen:=i) (sCap:=cap) (n:=len+1-i) (olds:=xs.take (i*6)) tl (fun j v hj=>by
   rw[add_lit,hB.cell,ak];rw[bS]at hj;split at hj
   ·rw[<-Fi,bS]at hj;split at hj
    ·simpa using hj
    ·cases hj
   ·cases hj) (by omega) (by decide) (by omega) (by omega) (by omega)
  refine ⟨_,w1,r1,by omega,by show ((i:Nat):Int)<=((i+(len+1-i):Nat):Int);omega,?_⟩;dsimp only;rw[B1 (by omega),show i+(len+1-i)-i=len+1-i by omega];have hv1:=r5.AR hv id;have AN8:g'≠g:=fun e=>by have:=hv.lt;omega
  have jK:g'≠gs:=fun e=>by have:=hB.lt;omega
  obtain ⟨w2,q1,b2,e2⟩:=Kg.F2 (ty:=3) (sT:=24) (o:=i*6) (dLen:=len+1-i) (dCap:=QR-i) (sLen:=1) (sCap:=1) (n:=1) (a:=⟨g,0,none⟩) (cs:=ys) b1 (Jv (by omega)) (by rw[QI]) (TG hv1) (by omega) nO;refine ⟨_,w2,q1,by omega,by show ((i+1:Nat):Int)<=((i+(len+1-i):Nat):Int);omega,by omega,by omega,?_⟩;rw[B1 (by omega),B1 (by omega),show i+(len+1-i)-(i+1)=len-i by omega];have E8:(QS.toList.take (i*6)++ys++QS.toList.drop (i*6+ys.length)).toArray.size=QR*6:=by
   simp only[bg,ae,aC,aE,aJ];omega
  obtain ⟨w3,q2,b3,e3⟩:=Kg.F2 (ty:=3) (sT:=24) (w:=w2.drew) (o:=(i+1)*6) (dLen:=len-i) (dCap:=QR-(i+1)) (sLen:=len-i) (sCap:=cap-i) (n:=len-i) (a:=⟨gs,i*6,none⟩) (cs:=xs.drop (i*6)) b2.drew (Jv (by omega)) dl (fun j v hj=>by
   have h0:=TH j v hj;exact ((r5.trans (e2.mono (G:=fun j=>j=g') fun _ _ h=>h) (fun _ h=>h.elim) fun _ _ h=>h).drew.cell (Dh h0) (by rw[DZ];exact fun h=>jK h.symm)).trans h0) (by rw[E8,dl];omega) M3
  refine ⟨_,w3,q2,⟨?_,.inr ⟨g',_,rfl,b3,by show i+(len+1-i)<=QR;exact r2,?_,?_⟩⟩,by show i+(len+1-i)=len+1;omega,?_,fun j hj=> .inr ?_⟩
  ·simp only[ae,tl,dl,QI];omega
  ·simp only[bg,ae,aC,aE,aJ,dl];simp only[bg,ae,aC,aE,aJ]at E8;omega
  ·show List.take ((i+(len+1-i))*6) _=_;have e:(QS.toList.take (i*6)++ys++QS.toList.drop (i*6+ys.length)).toArray.toList.take ((i+1)*6)=xs.take (i*6)++ys:=by
    rw[r4];show List.take _ (_++_++_)=_;rw[cj (by rw[ae,tl,QI];omega)]
   rw[e,aD,<-aD,cj (by simp only[ae,tl,dl,QI];omega)]
  ·have E:Ext (fun j=>j=g') w1 w3:=(e2.mono fun _ _ h=>h).drew.tr (e3.mono fun _ _ h=>h);exact (Ext.new r5 E fun j hj=>by rw[hj];exact r6).mono fun _ _ h=>h.elim
  ·obtain ⟨a,ha,rfl⟩:=hj;cases ha;exact r6
 ·
  refine ⟨by omega,by omega,by omega,?_⟩;rw[ay,ay,B1 (by omega),cE,ct,ct];refine ⟨by show ((i+1:Nat):Int)<=((len+1:Nat):Int);omega,false,w,?_,Br.t rfl ?_⟩
  ·dsimp only;rw[B1 (by omega)];exact AEA hv hB jJ (by omega)
  refine ⟨by omega,by show ((i+1:Nat):Int)<=((len+1:Nat):Int);omega,by omega,by show ((i:Nat):Int)<=((len+1:Nat):Int);omega,?_⟩;dsimp only;rw[B1 (by omega),B1 (by omega),show len+1-(i+1)=len-i by omega];obtain ⟨w2,q1,b2,e2⟩:=Kg.F2 (ty:=3) (sT:=24) (w:=w.drew) (o:=(i+1)*6) (dLen:=len-i) (dCap:=cap-(i+1)) (sLen:=len+1-i) (sCap:=cap-i) (n:=len-i) (a:=⟨gs,i*6,none⟩) (cs:=xs.drop (i*6)) hB.drew (jI (by omega)) dl (fun j v hj=>TH j v hj) (by rw[DN,dl];omega) M3;refine ⟨_,w2,q1,by omega,by show ((i:Nat):Int)<=((len+1:Nat):Int);omega,?_⟩;have TO:=e2.AR (b:=g) (cs:=ys.toArray) hv.drew jJ;have E8:(cur.toList.take ((i+1)*6)++xs.drop (i*6)++cur.toList.drop ((i+1)*6+(xs.drop (i*6)).length)).toArray.size=cap*6:=by
   simp only[bg,ae,aC,aE,aJ];omega
  obtain ⟨w3,q2,b3,e3⟩:=Kg.F2 (ty:=3) (sT:=24) (o:=i*6) (dLen:=len+1-i) (dCap:=cap-i) (sLen:=1) (sCap:=1) (n:=1) (a:=⟨g,0,none⟩) (cs:=ys) b2 (Jv (by omega)) (by rw[QI]) (TG TO) (by rw[E8];omega) nO;refine ⟨_,w3,q2,⟨?_,.inr ⟨gs,_,rfl,b3,by show len+1<=cap;omega,?_,?_⟩⟩,rfl,?_,fun j hj=> .inl ?_⟩
  ·simp only[ae,tl,dl,QI];omega
  ·show _=cap*6;simp only[bg,ae,aC,aE,aJ];omega
  ·show List.take ((len+1)*6) _=_;have t1:List.take (i*6) (cur.toList.take ((i+1)*6)++xs.drop (i*6)++cur.toList.drop ((i+1)*6+(xs.drop (i*6)).length))=xs.take (i*6):=by
    rw[aD,List.take_append_of_le_length (by rw[aC,aJ];omega),List.take_take,<-Fi,List.take_take]
    congr 1
    omega
   have t2:List.drop (i*6+ys.length) (cur.toList.take ((i+1)*6)++xs.drop (i*6)++cur.toList.drop ((i+1)*6+(xs.drop (i*6)).length))=xs.drop (i*6)++cur.toList.drop ((i+1)*6+(xs.drop (i*6)).length):=by
    rw[aD,List.drop_left' (by rw[aC,aJ];omega)]
   rw[show (cur.toList.take ((i+1)*6)++xs.drop (i*6)++cur.toList.drop ((i+1)*6+(xs.drop (i*6)).length)).toArray.toList=(cur.toList.take ((i+1)*6)++xs.drop (i*6)++cur.toList.drop ((i+1)*6+(xs.drop (i*6)).length))from rfl,t1,t2,<-aD,cj (by simp only[ae,tl,dl,QI];omega)]
  ·exact (Ext.refl _ w).drew.tr ((e2.mono (G:=fun j=>∃a,(⟨some ⟨gs,0,none⟩,len,cap⟩:AA).p=some a/\a.block=j) fun j _ h=>⟨_,rfl,h.symm⟩).tr (e3.mono fun j _ h=>⟨_,rfl,h.symm⟩))
  ·obtain ⟨a,ha,rfl⟩:=hj;exact ⟨a,ha,rfl⟩
end
end Vl
namespace Vl
open Sh
def lt (a b:ByteArray):Bool:=Op.bytesLess a.toList b.toList
theorem Iy:∀{a b c:List UInt8},Op.bytesLess a b=true->Op.bytesLess b c=true->Op.bytesLess a c=true
 |_,[],_,h,_=>by simp[Op.bytesLess]at h
 |_,_::_,[],_,h=>by simp[Op.bytesLess]at h
 |[],_::_,_::_,_,_=>rfl
 |x::a,y::b,z::c,h1,h2=>by
  simp only[Op.bytesLess,bA,ai,bq,bU]at h1 h2⊢;rcases h1 with h1|⟨rfl,h1⟩
  ·rcases h2 with h2|⟨rfl,h2⟩
   ·left;exact UInt8.lt_trans h1 h2
   ·exact .inl h1
  ·rcases h2 with h2|⟨rfl,h2⟩
   ·exact .inl h2
   ·exact .inr ⟨rfl,Iy h1 h2⟩
def Up (ks:List ByteArray):Prop:=∀(i j:Nat) (a b:ByteArray),i<j->ks[i]?=some a->ks[j]?=some b->lt a b=true
def B3 (key:ByteArray)(ks:List ByteArray):Nat:=(ks.takeWhile fun a=>lt a key).length
theorem jM (key:ByteArray)(ks:List ByteArray):B3 key ks<=ks.length:=(List.takeWhile_sublist _).length_le
theorem jN {key:ByteArray}:∀{ks:List ByteArray} {i:Nat} {a:ByteArray},i<B3 key ks->ks[i]?=some a->lt a key=true
 |[],i,a,h,h2=>by simp at h2
 |x::ks,i,a,h,h2=>by
  unfold B3 at h;rw[List.takeWhile_cons]at h;split at h
  ·rename_i hx;cases i with
   |zero=>simp only[bL,aS]at h2;subst h2;exact hx
   |succ i=>exact jN (ks:=ks) (by simpa[B3]using h) (by simpa using h2)
  ·simp at h
theorem pos_at {key:ByteArray}:∀{ks:List ByteArray} {a:ByteArray},ks[B3 key ks]?=some a->lt a key=false
 |[],a,h=>by simp[B3]at h
 |x::ks,a,h=>by
  unfold B3 at h;rw[List.takeWhile_cons]at h;cases hx:lt x key with
  |true=>
   rw[hx]at h;exact pos_at (ks:=ks) (by simpa[B3]using h)
  |false=>
   rw[hx]at h;simp at h;subst h;exact hx
theorem xh {key:ByteArray}{ks:List ByteArray}(hu:Up ks){p:Nat}(hp:p<=ks.length)(h1:∀i a,i<p->ks[i]?=some a->lt a key=true)(h2:∀i a,p<=i->ks[i]?=some a->lt a key=false):B3 key ks=p:=by
 have hl:=jM key ks;rcases Nat.lt_trichotomy (B3 key ks) p with h|h|h
 ·have hi:=ah (show B3 key ks<ks.length by omega);have a1:=pos_at hi;rw[h1 _ _ h hi]at a1;cases a1
 ·exact h
 ·have hi:=ah (show p<ks.length by omega);have a1:=jN h hi;rw[h2 _ _ (az _) hi]at a1;cases a1
theorem py:∀{ks:List ByteArray} {kids:List Tr} {HW:Bool} {p:Option ByteArray},Df HW p ks kids=true->Up ks/\∀a,ks[0]?=some a->TB p a=true
 |[],_,_,_,_=>⟨fun i j a b _ h=>by simp at h,fun a h=>by simp at h⟩
 |k::ks,[],_,_,h=>by simp[Df]at h
 |k::ks,x::xs,HW,p,h=>by
  rw[EZ]at h;simp only[ai]at h;obtain ⟨hu,h0⟩:=py h.2;refine ⟨fun i j a b HD hi hj=>?_,fun a ha=>by simp only[bL,aS]at ha;rw[<-ha];exact h.1.1.1.2⟩;cases j with
  |zero=>omega
  |succ j=>
   simp only[bK]at hj;cases i with
   |succ i=>exact hu i j a b (by omega) (by simpa using hi) hj
   |zero=>
    simp only[bL,aS]at hi;subst hi;cases j with
    |zero=>exact h0 _ hj
    |succ j=>
     have hl:=(al.1 hj).1;have h00:=ah (show 0<ks.length by omega);exact Iy (h0 _ h00) (hu 0 (j+1) _ _ (by omega) h00 hj)
section
variable {w w' w0 w1:World} {s:AA} {ks:List ByteArray} {o:Ob} {t:Tr}
attribute [local irreducible] Ld Sh.St Nw Nn Lt AU Ae BW Am
theorem xi (x y:ByteArray)(w:World):vS x y w fun r w1=>r=lt x y/\w1=w:=by
 refine AL0 _ _ _ _ ?_;unfold ACS;refine ALz _ _ _ ?_;unfold ACR;exact Br.f (by simp) ⟨rfl,rfl⟩
theorem ZO (hK:KV w s ks)(hu:Up ks)(hl:ks.length<=1000000)(key:ByteArray):C72 s key w fun r b w1=>r=((B3 key ks:Nat):Int)/\b=decide (ks[B3 key ks]?=some key)/\w1=w:=by
 refine T72 _ _ _ _ ?_;unfold S72;have JI:=hK.1.1;rw[JI];refine ⟨fun n st v=>∃lo hi:Nat,st=((lo:Int),(hi:Int))/\lo<=hi/\hi<=ks.length/\n=hi-lo/\v=w/\(∀i a,i<lo->ks[i]?=some a->lt a key=true)/\(∀i a,hi<=i->ks[i]?=some a->lt a key=false),ks.length,⟨0,ks.length,rfl,by omega,by omega,rfl,rfl,fun i a h=>by omega,fun i a h h2=>by have:=(al.1 h2).1;omega⟩,?_⟩;rintro n st v ⟨lo,hi,rfl,h1,h2,rfl,rfl,h3,h4⟩;unfold o6;dsimp only;have hm:wrap .i64 (Int.fdiv (wrap .u64 (wrap .i64 (((lo:Nat):Int)+((hi:Nat):Int)))) (2^1))=(((lo+hi)/2:Nat):Int):=by
  rw[AH (n:=((lo:Nat):Int)+((hi:Nat):Int)) (by omega),IntWalk.u64_in _ (by omega),Int.fdiv_eq_ediv_of_nonneg _ (by decide)];rw[show (2^1:Int)=2 from rfl,AH (by omega)];omega
 rw[hm];refine Br.dec (fun q=>?_) fun q=>?_
 ·have Au:lo<hi:=by omega
  generalize hmd:(lo+hi)/2=m;have wO:lo<=m/\m<hi:=by omega
  have DP:=ah (show m<ks.length by omega);generalize ks[m]=k at DP;refine ⟨by omega,by rw[JI];omega,hK.get DP ((xi k key v).mono ?_)⟩;rintro r w2 ⟨rfl,rfl⟩;cases hk:lt k key with
  |true=>
   refine Br.t rfl (Lt.of ⟨hi-(m+1),by omega,m+1,hi,by rw[AH (by omega)];rfl,by omega,h2,rfl,rfl,fun i a WV ha=>?_,h4⟩);rcases b9 i m with h|h
   ·exact Iy (hu i m a k h ha DP) hk
   ·obtain rfl:i=m:=by omega
    rw[DP]at ha;cases ha;exact hk
  |false=>
   refine Br.f rfl ⟨m-lo,by omega,lo,m,rfl,by omega,by omega,rfl,rfl,h3,fun i a WV ha=>?_⟩;rcases Nat.eq_or_lt_of_le WV with rfl|h
   ·rw[DP]at ha;cases ha;exact hk
   ·rw[<-cb];intro h5;have:=Iy (hu m i k a h DP ha) h5;have vg:Op.bytesLess k.toList key.toList=false:=hk;rw[vg]at this;cases this
 ·obtain rfl:lo=hi:=by omega
  have hp:=xh hu h2 h3 h4;rw[hp];refine Br.dec (fun q2=>?_) fun q2=>⟨rfl,?_,rfl⟩
  ·have DP:=ah (show lo<ks.length by omega);generalize ks[lo]=k at DP;refine ⟨by omega,by rw[JI];omega,hK.get DP ?_⟩;rw[DP,TM];refine Br.dec (fun e=>⟨rfl,?_,rfl⟩) fun e=>⟨by omega,by rw[JI];omega,hK.get DP ?_⟩
   ·symm
    exact aL (by rw[ByteArray.ext (Array.toList_inj.1 e)])
   ·refine AL1 _ _ _ ?_;unfold ACT;refine Br.f (by simp) ⟨rfl,?_,rfl⟩
    symm
    exact aR (fun h=>e (by cases h;rfl))
  ·symm
   exact aR (by rw[List.getElem?_eq_none (by omega)];intro h;cases h)
end
end Vl
end Go.Proofs.YtdnhhkhbdfiagaaGreatDoor

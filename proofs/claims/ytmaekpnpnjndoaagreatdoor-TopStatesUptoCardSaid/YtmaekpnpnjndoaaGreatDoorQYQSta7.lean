/- Joined texts of the proof; conditions stand in each theorem. -/
import Derived.Test.YtmaekpnpnjndoaaGreatDoorQYQSta1
import Derived.Test.YtmaekpnpnjndoaaGreatDoorQYQSta6
import Derived.Test.YtmaekpnpnjndoaaGreatDoorQYQSta3
import Derived.Shelf.Sort.Plain
import Derived.Shelf.Slices.In.SortNone
import Derived.Shelf.Slices.Turned
import Derived.Test.YtmaekpnpnjndoaaGreatDoorProg
import Derived.Test.YtmaekpnpnjndoaaGreatDoorQYQSta2
import Derived.StringKeys
import Derived.MapKept
import Derived.Maps.RangeRun
import Derived.Sort.OwnSorted
import Derived.Sort.KeysCollected
import Derived.Test.YtmaekpnpnjndoaaGreatDoorQYQSta4
set_option linter.unusedVariables false
set_option linter.unusedSimpArgs false
open Go.Proofs.Tryz (prog)
namespace Go.Proofs.YtmaekpnpnjndoaaGreatDoor
set_option maxRecDepth 100000
set_option maxHeartbeats 4000000
namespace Wt
open Sh Fix Tk Tl Vl
mutual
def Na:Tr->Nat
 | .mk _ _ _ _ ks kids=>3+ks.length+KF kids
def KF:List Tr->Nat
 |[]=>0
 |t::r=>Na t+KF r
end
theorem Xi:∀(a b:List Tr),KF (a++b)=KF a+KF b
 |[],b=>by rw[ae,KF];omega
 |t::a,b=>by rw[ag,KF,KF,Xi a b];omega
theorem Xj:∀(l:List Tr),l.length<=KF l
 |[]=>bD _
 | .mk k n g s ks kids::r=>by have:=Xj r;rw[KF,Na,ar];omega
theorem SH {l:List Tr}{i:Nat}{t:Tr}(h:l[i]?=some t):KF (l.take i)+Na t<=KF l:=by
 have e:l=l.take i++(t::l.drop (i+1)):=by
  rw[<-Tl.GB h,bV]
 have:=aq KF e;rw[Xi,KF]at this;omega
mutual
theorem Xk:∀(t:Tr) (ps:List Pt),PT t ps->ps.length<=Na t
 | .mk k n g s ks kids,ps,hp=>by
  rw[Na];rw[PT]at hp;rcases hp with ⟨rfl,rfl⟩|⟨rfl,rfl⟩|⟨rfl,T,D,hI,rfl⟩|⟨rfl,T,W,P,hT,rfl⟩|⟨rfl,rfl⟩|⟨rfl,rfl⟩|⟨rfl,q,hq,rfl⟩|⟨rfl,q,hq,rfl⟩|⟨rfl,T,D,U,E,hI,hJ,rfl⟩<;>simp only[ar,aU,ai]<;>try omega
  ·have:=Ta kids q hq;omega
  ·have:=Tb ks kids q hq;omega
theorem Ta:∀(l:List Tr) (q:List Pt),PL l q->q.length<=KF l
 |[],q,h=>by rw[PL]at h;subst h;exact bD _
 |t::r,q,h=>by
  rw[PL]at h;obtain ⟨a,b,h1,h2,rfl⟩:=h;have:=Xk t a h1;have:=Ta r b h2;rw[ai,KF];omega
theorem Tb:∀(ks:List ByteArray) (l:List Tr) (q:List Pt),PD ks l q->q.length<=ks.length+KF l
 |[],[],q,h=>by rw[PD]at h;subst h;exact bD _
 |k::ks,t::r,q,h=>by
  rw[PD]at h;obtain ⟨a,b,h1,h2,rfl⟩:=h;have:=Xk t a h1;have:=Tb ks r b h2;rw[ar,ai,ar,KF];omega
 |_::_,[],q,h=>by rw[PD]at h;exact h.elim
 |[],_::_,q,h=>by rw[PD]at h;exact h.elim
end
theorem AOn {deep:Int}{t:Tr}(h:A6 deep t=true)(hd:deep≠1):t.k≠9:=by
 unfold A6 at h;simp only[aj]at h;obtain ⟨_,h⟩:=h;split at h
 ·cases h
 ·unfold EU at h;simp only[aj,bI]at h;have:=h.1.2;rcases this with h|h
  ·exact absurd (by simpa using h) hd
  ·simpa using h
structure nh (n0 l:Nat) (J:(Nat->Prop)->List ByteArray->World->Prop):Prop where
 lt:∀{S:Nat->Prop} {xs:List ByteArray} {W:World},J S xs W->∀j,S j->j<W.heap.size
 AB:∀{S F:Nat->Prop} {xs:List ByteArray} {W W':World},J S xs W->Ext F W W'->(∀j,F j->¬S j/\n0<=j)->J S xs W'
 yl:∀{S:Nat->Prop} {xs:List ByteArray} {W:World} {x:ByteArray} {K:Bool->World->Prop},J S xs W->xs.length<4000000->(∀S' W',J S' (xs++[x]) W'->Ext S W W'->(∀j,S' j->S j\/W.heap.size<=j)->K true W')->Yl prog l #[.string x] W K
structure Hk (J:(Nat->Prop)->List ByteArray->World->Prop) (W:World) (S:Nat->Prop) (pre:List ByteArray) (B:List Nat) (v:World) (S':Nat->Prop) (xs:List ByteArray):Prop where
 j:J S' (pre++xs) v
 e:Ext S W v
 s:∀j,S' j->S j\/W.heap.size<=j
 n:∀b∈B,¬S' b
 lt:∀b∈B,b<v.heap.size
section
variable {n0 l:Nat} {J:(Nat->Prop)->List ByteArray->World->Prop} {W v v':World} {S S' F:Nat->Prop} {pre xs:List ByteArray} {B:List Nat} {x:ByteArray} {b:Nat}
theorem Hk.of(h:J S pre W)(hB:∀b∈B,¬S b)(hl:∀b∈B,b<W.heap.size):Hk J W S pre B W S []:=⟨by rwa[aN],Ext.refl _ _,fun _ h=> .inl h,hB,hl⟩
theorem Hk.go(hR:nh n0 l J)(h:Hk J W S pre B v S' xs)(he:Ext F v v')(hF:∀j,F j->¬S' j/\n0<=j/\W.heap.size<=j):Hk J W S pre B v' S' xs:=
 ⟨hR.AB h.j he fun j hj=>⟨(hF j hj).1,(hF j hj).2.1⟩,h.e.trans he (fun _ h=>h) fun i hi h=>by have:=(hF i h).2.2;omega,h.s,h.n,fun b hb=>Nat.lt_of_lt_of_le (h.lt b hb) he.size⟩
theorem Hk.new(hR:nh n0 l J)(h:Hk J W S pre B v S' xs)(he:Ext (fun _=>False) v v'):Hk J W S pre B v' S' xs:=h.go hR he fun _ h=>h.elim
theorem Hk.more(h:Hk J W S pre B v S' xs)(hb:b<v.heap.size)(hn:¬S' b):Hk J W S pre (b::B) v S' xs:=
 ⟨h.j,h.e,h.s,fun c hc=>by rcases aw.1 hc with rfl|hc;exact hn;exact h.n c hc,fun c hc=>by rcases aw.1 hc with rfl|hc;exact hb;exact h.lt c hc⟩
theorem Hk.fresh(hR:nh n0 l J)(h:Hk J W S pre B v S' xs)(hb:v.heap.size<=b):¬S' b:=fun hs=>by have:=hR.lt h.j b hs;omega
theorem Hk.less(h:Hk J W S pre (b::B) v S' xs):Hk J W S pre B v S' xs:=⟨h.j,h.e,h.s,fun c hc=>h.n c (ay _ hc),fun c hc=>h.lt c (ay _ hc)⟩
theorem Hk.step(h:Hk J W S pre B v S' xs){S2:Nat->Prop}{ys:List ByteArray}(hj:J S2 (pre++xs++ys) v')(he:Ext S' v v')(hs:∀j,S2 j->S' j\/v.heap.size<=j):Hk J W S pre B v' S2 (xs++ys):=
 ⟨by rwa[<-aO],h.e.trans he (fun _ h=>h) fun i hi hh=>(h.s i hh).elim id fun q=>by omega,fun j hj=>(hs j hj).elim (h.s j) fun q=> .inr (by have:=h.e.size;omega),
  fun b hb hh=>(hs b hh).elim (h.n b hb) fun q=>by have:=h.lt b hb;omega,fun b hb=>Nat.lt_of_lt_of_le (h.lt b hb) he.size⟩
attribute [local irreducible] Ld Sh.St Nw Nn Lt AP Ab Ak
theorem Tc (hR:nh n0 l J)(h:Hk J W S pre B v S' xs)(hl:(pre++xs).length<4000000){K:Sg [(.one .bool)]->World->Prop}(k:∀S2 v',Hk J W S pre B v' S2 (xs++[x])->Ext S' v v'->K true v'):
  fH prog FF [(.one .bool)] (.func (.yield l) #[] #[]) #[.string x] v K:=by
 refine .inl ⟨l,rfl,hR.yl h.j hl fun S2 v' h1 h2 h3=>⟨true,rfl,k S2 v' ?_ h2⟩⟩;exact h.step h1 h2 h3
def Xl (J:(Nat->Prop)->List ByteArray->World->Prop)(S:Nat->Prop)(pre:List ByteArray)(t:Tr)(W:World)(b:Bool)(W':World):Prop:=
 b=true/\∃ps xs S',PT t ps/\Tx xs ps/\J S' (pre++xs) W'/\Ext S W W'/\∀j,S' j->S j\/W.heap.size<=j
theorem Hk.q{t:Tr}{ps:List Pt}(h:Hk J W S pre B v S' xs)(hp:PT t ps)(hx:Tx xs ps):Xl J S pre t W true v:=⟨rfl,ps,xs,S',hp,hx,h.j,h.e,h.s⟩
theorem Zc (hR:nh n0 l J){r:AA}{ys:List ByteArray}{c2:Nat}{ty:TypeId}{t:Tr}{ps:List Pt}(h:Hk J W S pre [b,c2] v S' [])(hr:r=⟨some ⟨b,0,none⟩,ys.length,ys.length⟩)(hb:AO v b (ys.map Value.string).toArray 9)
  (h2:AO v c2 #[.func (.yield l) #[] #[]] ty) (hl:pre.length+ys.length<=4000000) (hp:PT t ps) (hx:Tx ys ps):
  Lp (σ:=Int) (ML ⟨c2,0,none⟩ r (Xl J S pre t W)) 0 v:=by
 subst hr;refine ⟨fun n st v=>∃(i:Nat) (S':Nat->Prop),st=(i:Int)/\i<=ys.length/\n=ys.length-i/\Hk J W S pre [b,c2] v S' (ys.take i)/\AO v b (ys.map Value.string).toArray 9/\AO v c2 #[.func (.yield l) #[] #[]] ty,ys.length,
  ⟨0,S',rfl,by omega,by omega,h,hb,h2⟩,?_⟩
 clear h hb h2;rintro n st v ⟨i,S1,rfl,hi,rfl,h,hb,h2⟩;unfold ML;refine Br.dec (fun q=>?_) fun q=>?_
 ·have xg:i<ys.length:=by have:((i:Nat):Int)<(ys.length:Nat):=q;omega
  have Wj:ys[i]?=some ys[i]:=al xg;have ht:ys.take (i+1)=ys.take i++[ys[i]]:=by rw[aQ,Wj];rfl
  generalize ys[i]=y at Wj ht;refine ⟨by omega,q,Nn.of ?_⟩;simp only[add_lit,ah,bU];refine Ld.of (x:=y) hb (by simp[Wj]) (Ld.of h2 rfl ?_);refine Tc hR h (by rw[ai,aW];omega) fun S2 v' h' e'=>Sh.Br.f rfl ?_
  refine ⟨ys.length-(i+1),by omega,i+1,S2,by rw[AG (by omega)];rfl,by omega,rfl,by rw[ht];exact h',e'.AR hb (h.n b (by simp)),e'.AR h2 (h.n c2 (by simp))⟩
 ·have Oh:i=ys.length:=by have:¬((i:Nat):Int)<(ys.length:Nat):=q;omega
  subst Oh;rw[aP]at h;exact h.q hp hx
end
end Wt
namespace Wt
open Sh Fix Tk Tl Vl
abbrev yv (l:Nat):Value:= .func (.yield l) #[] #[]
abbrev tv (c2 c3:Nat):Value:= .func (.func 105) #[] #[.pointer (some ⟨c2,0,none⟩),.pointer (some ⟨c3,0,none⟩)]
def jY (n0 l:Nat)(J:(Nat->Prop)->List ByteArray->World->Prop)(w0:World)(c2 c3:Nat)(t2 t3:TypeId)(d:Nat):Prop:=
 ∀(o:Ob) (t:Tr) (W:World) (S:Nat->Prop) (pre:List ByteArray) (deep:Int),JN w0 d o t->Cq deep t=true->1<=deep->t.k≠9->Ext (fun _=>False) w0 W->n0<=W.heap.size->(∀j,S j->w0.heap.size<=j)->J S pre W->
  AO W c2 #[yv l] t2->AO W c3 #[tv c2 c3] t3->¬S c2->¬S c3->pre.length+Na t<=4000000->MM o ⟨c2,0,none⟩ ⟨c3,0,none⟩ W (Xl J S pre t W)
section
variable {n0 l c2 c3 d:Nat} {J:(Nat->Prop)->List ByteArray->World->Prop} {w0 W W1 v:World} {S:Nat->Prop} {pre:List ByteArray} {t2 t3:TypeId} {o:Ob} {t:Tr} {deep:Int}
attribute [local irreducible] Ld Sh.St Nw Nn Lt AP Ab Ak
theorem Xm {x:Ob}{K:Sg [(.one .bool)]->World->Prop}{R:Bool->World->Prop}(h:MM x ⟨c2,0,none⟩ ⟨c3,0,none⟩ v R)(hk:∀b w',R b w'->K b w'):fH prog FF [(.one .bool)] (tv c2 c3) #[.agg (AQ.cells AD x).toArray] v K:=
 .inr ⟨105,#[],_,rfl,by kernel_rfl,(callsIn_wide.1 (tU x _ _ v _ h)).mono fun e w' ⟨b,he,hr⟩=>⟨b,he,hk _ _ hr⟩⟩
theorem wQ {s:ByteArray}(h:Dz s=true):s.size<=127:=by
 unfold Dz at h;simp only[aj]at h;simpa using h.1
theorem wR {q:List Pt}(h:t.k=6)(hq:PL t.kids q):PT t (Ao [91]::(q++[Ao [93]])):=by
 cases t;rw[PT];exact .inr (.inr (.inr (.inr (.inr (.inr (.inl ⟨h,q,hq,rfl⟩))))))
theorem ni {q:List Pt}(h:t.k=7)(hq:PD t.ks t.kids q):PT t (Ao [60,60]::(q++[Ao [62,62]])):=by
 cases t;rw[PT];exact .inr (.inr (.inr (.inr (.inr (.inr (.inr (.inl ⟨h,q,hq,rfl⟩)))))))
theorem Zd (hR:nh n0 l J)(ih:jY n0 l J w0 c2 c3 t2 t3 d)(hT:Tl.PT w0)(h:JN w0 (d+1) o t)(Bo:Cq deep t=true)(hd:1<=deep)(e0:Ext (fun _=>False) w0 W)(hn:n0<=W.heap.size)(hS:∀j,S j->w0.heap.size<=j)(hj:J S pre W)
  (k2:AO W c2 #[yv l] t2) (k3:AO W c3 #[tv c2 c3] t3) (n2:¬S c2) (n3:¬S c3) (hl:pre.length+Na t<=4000000) {a z:ByteArray} {ta tb:TypeId} (H:Hn W v [(W.heap.size,AH o,ta),(W1.heap.size,[.string a,.string z],tb)])
  (hk:(t.k=6/\bl a=[91]/\bl z=[93])\/(t.k=7/\bl a=[60,60]/\bl z=[62,62])):MK W ⟨c2,0,none⟩ ⟨c3,0,none⟩ W1 (Xl J S pre t W) () v:=by
 obtain ⟨⟨q1,q2,q3,q4⟩,hK,L,hL,hA⟩:=h;rw[DK,aj]at Bo;obtain ⟨HY,hkd⟩:=Bo;have hkd:=GZ.1 hkd;have hcn:Na t=3+t.ks.length+KF t.kids:=by cases t;rw[Na];rfl
 have b1:=H.get 0 rfl;have b2:=H.get 1 rfl;have g1:W.heap.size<=W.heap.size:=aB _;have g2:=H.ge 1 rfl;have h0:Hk J W S pre [W.heap.size,W1.heap.size,c2,c3] v S []:=
  (((Hk.of (B:=[c2,c3]) hj (by simp[n2,n3]) (by simp[k2.lt,k3.lt])).new hR H.ext).more (H.lt 1 rfl) (fun hs=>by have:=hR.lt hj _ hs;omega)).more (H.lt 0 rfl) (fun hs=>by have:=hR.lt hj _ hs;omega)
 have k2:=H.ext.AR k2 id;have k3:=H.ext.AR k3 id;clear H;unfold MK;refine Ld.of k2 rfl (Ld.of b2 rfl ?_);refine Tc hR h0 (by rw[aN];omega) fun S2 v2 h1 e1=>Sh.Br.f rfl ?_
 have b1:=e1.AR b1 (h0.n _ (by simp));have b2:=e1.AR b2 (h0.n _ (by simp));have k2:=e1.AR k2 (h0.n _ (by simp));have k3:=e1.AR k3 (h0.n _ (by simp));clear h0 e1;simp only[add_lit,ah];refine Ld.of b1 rfl ?_;refine ⟨fun n st v=>∃(i:Nat) (S':Nat->Prop) (xs:List ByteArray) (qs:List Pt),st=(i:Int)/\i<=t.kids.length/\n=t.kids.length-i/\Hk J W S pre [W.heap.size,W1.heap.size,c2,c3] v S' (a::xs)/\Tx xs qs/\
   ((t.k=6/\PL (t.kids.take i) qs)\/(t.k=7/\PD (t.ks.take i) (t.kids.take i) qs))/\AO v W.heap.size (AH o).toArray ta/\AO v W1.heap.size #[.string a,.string z] tb/\AO v c2 #[yv l] t2/\AO v c3 #[tv c2 c3] t3,t.kids.length,
  ⟨0,S2,[],[],rfl,by omega,by omega,h1,Tx.nil,by rcases hk with ⟨h,_⟩|⟨h,_⟩;exact .inl ⟨h,by rw[bE,PL]⟩;exact .inr ⟨h,by rw[bE,bE,PD]⟩,b1,b2,k2,k3⟩,?_⟩
 clear h1 b1 b2 k2 k3;rintro n st v ⟨i,S1,xs,qs,rfl,hi,rfl,h,hx,hq,b1,b2,k2,k3⟩;have hqs:xs.length<=i+KF (t.kids.take i):=by
  rw[hx.len];rcases hq with ⟨_,h⟩|⟨_,h⟩
  ·have:=Ta _ _ h;omega
  ·have:=Tb _ _ _ h;rw[aW]at this;omega
 have e0v:Ext (fun _=>False) w0 v:=Ext.Cg e0 h.e hS;have hlen:o.2.2.2.2.2.len=t.kids.length:=by rw[hL.1,hA.len]
 unfold Rm;simp only[add_lit,ah];rw[hlen];refine Br.dec (fun q=>?_) fun q=>?_
 ·have xg:i<t.kids.length:=by have:((i:Nat):Int)<(t.kids.length:Nat):=q;omega
  have hti:t.kids[i]?=some t.kids[i]:=al xg;have Hr:t.kids.take (i+1)=t.kids.take i++[t.kids[i]]:=by rw[aQ,hti];rfl
  generalize t.kids[i]=tx at hti Hr;obtain ⟨x,gF,Bd⟩:=hA.P6 hti;have hcx:=SH hti;refine ⟨by omega,q,(hL.AB e0v).qQ gF ?_⟩
 
  have fin:∀{K:Sg [(.one .bool)]->World->Prop} {b3:Nat} {t5:TypeId} {u:World} {S3:Nat->Prop} {zs:List ByteArray},Hk J W S pre [b3,W.heap.size,W1.heap.size,c2,c3] u S3 (a::(xs++zs))->AO u b3 (AH x).toArray t5->AO u W.heap.size (AH o).toArray ta->
    AO u W1.heap.size #[.string a,.string z] tb->AO u c2 #[yv l] t2->AO u c3 #[tv c2 c3] t3->xs.length+zs.length<=t.ks.length+KF (t.kids.take i)->
    (∀ys ps S4 u',PT tx ps->Tx ys ps->Hk J W S pre [W.heap.size,W1.heap.size,c2,c3] u' S4 (a::(xs++(zs++ys)))->AO u' W.heap.size (AH o).toArray ta->AO u' W1.heap.size #[.string a,.string z] tb->AO u' c2 #[yv l] t2->AO u' c3 #[tv c2 c3] t3->K true u')->
    Ld u ⟨c3,0,none⟩ (fun x:Value=>x) fun f=>Ab u ⟨b3,0,none⟩ 0 AD fun y=>fH prog FF [(.one .bool)] f #[.agg (AQ.cells AD y).toArray] u K:=by
   intro K b3 t5 u S3 zs hs g3 g1 g2 k2 k3 hz hK;refine Ld.of k3 rfl (Ab.AR (ts:=AD) (pre:=[]) (post:=[]) (x:=x) (by rw[ae,aN];exact g3) rfl ?_);have hkx:=hkd tx (aA hti);have hkh:=hkx;rw[DK,aj]at hkh;refine Xm (ih x tx u S3 (pre++a::(xs++zs)) (deep+1) Bd hkx (by omega) (AOn hkh.1 (by omega)) (Ext.Cg e0 hs.e hS) (bC hn hs.e.size) (fun j hj=>(hs.s j hj).elim (hS j) fun q=>bC e0.size q) hs.j k2 k3 (hs.n _ (by simp)) (hs.n _ (by simp))
    (by simp only[ai,ar];omega)) ?_
   rintro b w' ⟨rfl,ps,ys,S4,hp,hy,hj4,e4,s4⟩;have h4:=hs.step (ys:=ys) hj4 e4 s4;refine hK ys ps S4 w' hp hy ?_ (e4.AR g1 (hs.n _ (by simp))) (e4.AR g2 (hs.n _ (by simp))) (e4.AR k2 (hs.n _ (by simp))) (e4.AR k3 (hs.n _ (by simp)));have:=h4.less;rwa[ag,aO]at this
  refine Nw.of ?_;have ev:Ext (fun _=>False) v (v.alloc (.cells #[.int .i64 0,.int .i64 0,.int .i64 0,.string ⟨#[]⟩,AA.v ⟨none,0,0⟩,AA.v ⟨none,0,0⟩] 68)):=(Ext.refl _ _).alloc _;have Q7:=AO.new v #[.int .i64 0,.int .i64 0,.int .i64 0,.string ⟨#[]⟩,AA.v ⟨none,0,0⟩,AA.v ⟨none,0,0⟩] 68;have hf3:¬S1 v.heap.size:=h.fresh hR (aB _);have h3:=(h.new hR ev).more (b:=v.heap.size) Q7.lt hf3;have b1:=ev.AR b1 id;have b2:=ev.AR b2 id;have k2:=ev.AR k2 id;have k3:=ev.AR k3 id;have hWv:=h.e.size;have IM:=h.lt W.heap.size (by simp);have lV:=h.lt W1.heap.size (by simp);have hl3:=h.lt c2 (by simp);have hl4:=h.lt c3 (by simp);generalize v.alloc (.cells #[.int .i64 0,.int .i64 0,.int .i64 0,.string ⟨#[]⟩,AA.v ⟨none,0,0⟩,AA.v ⟨none,0,0⟩] 68)=v1 at ev Q7 h3 b1 b2 k2 k3⊢;refine Ak.AR (ts:=AD) (pre:=[]) (zs:=[.int .i64 0,.int .i64 0,.int .i64 0,.string ⟨#[]⟩,AA.v ⟨none,0,0⟩,AA.v ⟨none,0,0⟩]) (post:=[]) Q7 rfl rfl fun v3 Q7 e3=>?_
  rw[ae,aN,B1]at Q7;have h3:=h3.go hR e3 fun j hj=>by
   have hj:j=v.heap.size:=hj;subst hj;exact ⟨hf3,by omega,by omega⟩
  have b1:=e3.AR b1 (by omega);have b2:=e3.AR b2 (by omega);have k2:=e3.AR k2 (by omega);have k3:=e3.AR k3 (by omega);have AOp:Ext (fun _=>False) w0 v3:=Ext.Cg e0 h3.e hS;have i1:IntKind.i64.wrap (((i:Nat):Int)+1)=((i+1:Nat):Int):=by
   have:=Xj t.kids;rw[AG (by omega)]
   rfl
  refine Ld.of b1 rfl ?_;rw[q1];rcases hq with ⟨h6,hq⟩|⟨h7,hq⟩
  ·refine Br.eq (fun h=>by omega) fun _=>?_
   have pg:xs.length<=KF (t.kids.take i):=by rw[hx.len];exact Ta _ _ hq
   refine fin (zs:=[]) (by rw[aN];exact h3) Q7 b1 b2 k2 k3 (by rw[aU];omega) fun ys ps S4 u' hp hy h4 c1 c2' c3' c4=>Sh.Br.f rfl ?_
   exact ⟨t.kids.length-(i+1),by omega,i+1,S4,xs++ys,qs++ps,i1,by omega,rfl,h4,hx.app hy,.inl ⟨h6,by rw[Hr];exact hq.snoc hp⟩,c1,c2',c3',c4⟩
  ·refine Br.eq (fun _=>?_) fun h=>absurd h7 h
   have xy:=CB HY h7;have G2:t.ks.length=t.kids.length:=Classical.byContradiction fun hc=>by rw[Iy hc]at xy;cases xy
   have D9:t.ks[i]?=some t.ks[i]:=al (by omega);have Yx:t.ks.take (i+1)=t.ks.take i++[t.ks[i]]:=by rw[aQ,D9];rfl
   generalize t.ks[i]=key at D9 Yx;have Cx:=DA xy key (aA D9);have pg:xs.length<=i+KF (t.kids.take i):=by
    rw[hx.len];have:=Tb _ _ _ hq;rw[aW]at this;omega
   refine Ld.of b1 rfl ⟨by omega,by rw[hK.1.1,G2];exact q,(hK.AB AOp).get D9 ?_⟩;refine (VV (wQ Cx) v3).mono ?_ fun _ _ h=>h
   rintro nm e v4 ⟨hnm,e4⟩;rcases hnm with ⟨_,_,hnm⟩|⟨_,h⟩
   ·have h4:=h3.new hR e4;have b1:=e4.AR b1 id;have b2:=e4.AR b2 id;have k2:=e4.AR k2 id;have k3:=e4.AR k3 id;have Q7:=e4.AR Q7 id;refine Ld.of k2 rfl (Tc hR h4 (by simp only[ai,ar];omega) fun S5 v5 h5 e5=>Sh.Br.f rfl ?_);refine fin (zs:=[nm]) h5 (e5.AR Q7 (h4.n _ (by simp))) (e5.AR b1 (h4.n _ (by simp))) (e5.AR b2 (h4.n _ (by simp))) (e5.AR k2 (h4.n _ (by simp))) (e5.AR k3 (h4.n _ (by simp))) (by rw[cj];omega) fun ys ps S4 u' hp hy h4 c1 c2' c3' c4=>Sh.Br.f rfl ?_
    exact ⟨t.kids.length-(i+1),by omega,i+1,S4,xs++([nm]++ys),qs++([Cz key]++ps),i1,by omega,rfl,h4,hx.app ((Tx.one hnm).app hy),.inr ⟨h7,by rw[Hr,Yx];exact hq.snoc hp⟩,c1,c2',c3',c4⟩
   ·exact absurd h (QQ Cx)
 ·have Oh:i=t.kids.length:=by have:¬((i:Nat):Int)<(t.kids.length:Nat):=q;omega
  subst Oh;rw[aP]at hq;refine Ld.of k2 rfl (Ld.of b2 rfl ?_);rcases hk with ⟨h6,ha,hz⟩|⟨h7,ha,hz⟩
  ·rcases hq with ⟨_,hq⟩|⟨h,_⟩
   ·have pg:=Ta _ _ hq;rw[<-hx.len]at pg;refine Tc hR h (by simp only[ai,ar];omega) fun S5 v5 h5 e5=>h5.q (ps:=Ao [91]::(qs++[Ao [93]])) (wR h6 hq) ?_
    exact (Tx.one (p:=Ao [91]) ha).app (hx.app (Tx.one (p:=Ao [93]) hz))
   ·omega
  ·rcases hq with ⟨h,_⟩|⟨_,hq⟩
   ·omega
   ·have xy:=CB HY h7;have G2:t.ks.length=t.kids.length:=Classical.byContradiction fun hc=>by rw[Iy hc]at xy;cases xy
    rw[<-G2,aP]at hq;have pg:=Tb _ _ _ hq;rw[<-hx.len]at pg;refine Tc hR h (by simp only[ai,ar];omega) fun S5 v5 h5 e5=>h5.q (ps:=Ao [60,60]::(qs++[Ao [62,62]])) (ni h7 hq) ?_
    exact (Tx.one (p:=Ao [60,60]) ha).app (hx.app (Tx.one (p:=Ao [62,62]) hz))
theorem jZ (hR:nh n0 l J)(hT:Tl.PT w0):∀d,jY n0 l J w0 c2 c3 t2 t3 d
 |0=>fun o t W S pre deep h=>h.elim
 |d+1=>fun o t W S pre deep h Bo hd h9 e0 hn hS hj k2 k3 n2 n3 hl=>by
  have ih:=jZ hR hT d;obtain ⟨q1,q2,q3,q4⟩:=h.1;have hh:=Bo;rw[DK,aj]at hh;unfold MM;rw[B1];refine (Hn.start W).nw (cs:=AH o) fun w1 H=>?_
  refine H.nw (cs:=[.string ⟨#[]⟩,.string ⟨#[]⟩]) fun w2 H=>?_
  simp only[ae,ag,AH,add_lit,ah]at H⊢
  iterate 2 (refine H.st 1 rfl (by simp) fun _ H=>?_;simp only[aa,ab]at H)
  refine ⟨fun _ v=>∃a z ty,Hn W v [(W.heap.size,AH o,68),(w1.heap.size,[.string a,.string z],ty)]/\((t.k=6/\bl a=[91]/\bl z=[93])\/(t.k=7/\bl a=[60,60]/\bl z=[62,62])),?_,?_⟩
  ·rintro ⟨⟩ v ⟨a,z,ty,H,hk⟩;exact Zd hR ih hT h Bo hd e0 hn hS hj k2 k3 n2 n3 hl H hk
  ·refine H.ld 0 rfl rfl (Br.eq (fun h6=>⟨_,_,_,H,.inl ⟨by omega,rfl,rfl⟩⟩) fun h6=>Br.eq (fun h7=>?_) fun h7=>?_)
   ·iterate 2 (refine H.st 1 rfl (by simp) fun _ H=>?_;simp only[aa,ab]at H)
    exact ⟨_,_,_,H,.inr ⟨by omega,rfl,rfl⟩⟩
   ·refine Ab.AR (ts:=AD) (pre:=[]) (post:=[]) (x:=o) (H.get 0 rfl) rfl ?_;have Bd:OX w0 o t:=⟨d+1,h⟩
    have e2:=e0.tr H.ext;refine (jX (Bd.AB e2) hh.1 (by omega) (by omega) h9 (hT.AB e2)).mono ?_ fun _ _ h=>h
    rintro r w4 ⟨⟨ps,xs,hp,hx,b,hr,hb,hbn⟩,e4⟩;have hw:=H.ext.size;have h1:=(((Hk.of (B:=[c2]) hj (by simp[n2]) (by simp[k2.lt])).new hR (H.ext.tr e4)).more (b:=b) hb.lt fun hs=>by have:=hR.lt hj _ hs;omega)
    have:=Xk _ _ hp;exact Zc hR h1 hr hb ((H.ext.tr e4).AR k2 id) (by rw[hx.len];omega) hp hx
end
end Wt
namespace Wt
open Sh Fix Tk Tl Vl Go.Lib
open Go.RowKit
theorem Ext.put{F:Nat->Prop}{a w:World}(h:Ext F a w){l:Nat}(o:Obj)(hl:F l\/a.heap.size<=l):Ext F a (w.putObj l o):=
 ⟨h.os,h.tape,h.output,by have:=h.size;simp[World.putObj];exact this,fun i hi hn=>by
  have Bg:i≠l:=fun e=>by
   subst e;rcases hl with hl|hl
   ·exact hn hl
   ·omega
  rw[World.putObj_heap_other Bg];exact h.block i hi hn⟩
theorem nj {w:World}{b l:Nat}{cs:Array Value}{t:TypeId}(h:AO w b cs t)(o:Obj)(hn:b≠l):AO (w.putObj l o) b cs t:=by
 unfold AO at h⊢;rw[World.putObj_heap_other hn];exact h
theorem Xn:∀{E:Env} {t:Nat} {v:Value},E.get? t=some v->(t,v)∈E
 |(s,u)::r,t,v,h=>by
  unfold Env.get? at h;cases hb:Nat.beq s t with
  |true=>
   rw[hb]at h;simp only[bw]at h;rw[<-h,<-b8 hb];exact ax ..
  |false=>
   rw[hb]at h;exact ay _ (Xn h)
theorem E8 {N:Nat}{E E':Env}{a a':Act}(h:Fits N E a)(ht:a'.tmps=a.tmps)(hp:∀p∈E',E.get? p.1=some p.2):Fits N E' a':=⟨by rw[ht];exact h.size,fun t v hv=>by
 rw[ht];exact h.get t v (hp _ (Xn hv))⟩
theorem Ml:El prog 66 9 1 16 (.string ⟨#[]⟩):=⟨by kernel_rfl,by kernel_rfl,by kernel_rfl,by kernel_rfl,rfl⟩
structure JS (w:World) (D b n0:Nat) (rec:Loop) (S:Nat->Prop) (xs:List ByteArray) (W:World):Prop where
 rc:W.heap[D+1]?=some (.loop rec)
 df:W.heap[D]?=some (.deferred (some []))
 k:∃sl:AA,AO W b #[AA.v sl] 66/\Row W sl 9 1 (xs.map Value.string)/\sl.len=xs.length/\(∀j,S j↔(j=D\/j=D+1\/j=b\/sl.own j))/\∀j,sl.own j->n0<=j
 ext:Ext (fun _=>False) w W
 sz:n0<=W.heap.size
section
variable {w W W':World} {D b n0:Nat} {rec:Loop} {S:Nat->Prop} {xs:List ByteArray} {x:ByteArray}
theorem JS.lt(h:JS w D b n0 rec S xs W):∀j,S j->j<W.heap.size:=fun j hj=>by
 obtain ⟨sl,k1,k2,k3,k4,k5⟩:=h.k;rcases (k4 j).1 hj with rfl|rfl|rfl|q
 ·exact (au.1 h.df).1
 ·exact (au.1 h.rc).1
 ·exact k1.lt
 ·exact k2.own_lt q
theorem JS.AB{F:Nat->Prop}(hw:w.heap.size<=n0)(h:JS w D b n0 rec S xs W)(he:Ext F W W')(hF:∀j,F j->¬S j/\n0<=j):JS w D b n0 rec S xs W':=by
 obtain ⟨sl,k1,k2,k3,k4,k5⟩:=h.k;have hn:∀{j:Nat},(j=D\/j=D+1\/j=b\/sl.own j)->¬F j:=fun q f=>(hF _ f).1 ((k4 _).2 q)
 exact ⟨(he.block _ (au.1 h.rc).1 (hn (.inr (.inl rfl)))).trans h.rc,(he.block _ (au.1 h.df).1 (hn (.inl rfl))).trans h.df,
  ⟨sl,he.AR k1 (hn (.inr (.inr (.inl rfl)))),k2.AB he fun j hj hh=>hn (.inr (.inr (.inr hj))) hh,k3,k4,k5⟩,Ext.Cg h.ext he fun j hj=>by have:=(hF j hj).2;omega,by have:=h.sz;have:=he.size;omega⟩
attribute [local irreducible] Ld Sh.St Nw Nn AP
theorem wS {fn:FuncId}{tmps:Array Value}{K:Bool->World->Prop}(hj:JS w D b n0 (Bl fn tmps #[7] HM HN D) S xs W)(Gx:w.heap.size<=b/\b<D/\D+1<n0)(hlen:xs.length<4000000)(hf:Fits 13 [(2,.pointer (some ⟨b,0,none⟩))] {tmps:=tmps,defers:=[]})
  (hK:∀S' W',JS w D b n0 (Bl fn tmps #[7] HM HN D) S' (xs++[x]) W'->Ext S W W'->(∀j,S' j->S j\/W.heap.size<=j)->K true W'):Yl prog (D+1) #[.string x] W K:=by
 obtain ⟨s1,s2,s3⟩:=Gx;refine nB (N:=13) (F:=⟨FF,Fu,fun _ _=>False⟩) okF (fun _ _ h=>h) hj.rc rfl (E:=[(7,.string x),(2,.pointer (some ⟨b,0,none⟩))]) ?_ (pa:=zz) (pb:=AAB) (by kernel_rfl) (by kernel_rfl) ?_
 ·have e9:Qf #[7] #[.string x] tmps=tmps.setIfInBounds 7 (.string x):=by simp[Qf]
  rw[e9];exact hf.put (d:=some 7) (v:= .string x) (fun t ht=>by cases ht;decide)
 rw[AHj];unfold AAA;refine ⟨hj.rc,?_⟩;rw[AHk];unfold AAC;obtain ⟨sl,q1,q2,q3,q4,q5⟩:=hj.k;have hD:=(au.1 hj.rc).1;have eP:Ext (·=D+1) W (W.putObj (D+1) (.loop {Bl fn tmps #[7] HM HN D with state:= .busy})):=Ext.put (Ext.refl _ _) _ (.inl rfl);have p1:=eP.AR q1 (by omega);have p2:=q2.AB eP fun j hj e=>by have:=q5 j hj;have e:j=D+1:=e;omega
 have h0:(W.putObj (D+1) (.loop {Bl fn tmps #[7] HM HN D with state:= .busy})).heap[D+1]?=_:=World.putObj_heap_same hD;generalize hu:W.putObj (D+1) (.loop {Bl fn tmps #[7] HM HN D with state:= .busy})=u at eP p1 p2 h0⊢;have hDu:=(au.1 h0).1;have p3:=eP.size;have hn0:=hj.sz;refine Ld.of p1 rfl ?_;refine (Hn.start u).nw (cs:=[.string x]) fun u2 H2=>?_
 have e2:=H2.ext;obtain ⟨s',u3,r1,r2,r3,e3,r5⟩:=Ml.Hu (ty:=66) (p2.AB e2 fun _ _ e=>e) (H2.get 0 rfl) rfl (fun v hv=>by rw[av.1 hv];rfl) (by omega) (by omega);refine ⟨s',u3,r1,?_⟩;have BX:∀j,s'.own j->n0<=j:=fun j hj=>(r5 j hj).elim (q5 j) fun h=>by have:=e2.size;omega
 have p13:=e3.AR (e2.AR p1 id) fun hj=>by have:=q5 _ hj;omega
 have hlu:b<u3.heap.size:=p13.lt;unfold Sh.St;have e4:Ext (·=b) u3 (u3.setCell ⟨b,0,none⟩ (AA.v s')):=(Ext.refl (·=b) u3).set (.inl rfl) _;have k4':AO (u3.setCell ⟨b,0,none⟩ (AA.v s')) b #[AA.v s'] 66:=p13.set 0 _;refine ⟨p13.can (by simp),?_⟩;generalize u3.setCell ⟨b,0,none⟩ (AA.v s')=u4 at e4 k4'⊢;have a1:=e2.size;have a2:=e3.size;have rc4:u4.heap[D+1]?=some (.loop {Bl fn tmps #[7] HM HN D with state:= .busy}):=by
  rw[e4.block (D+1) (by omega) (by show ¬D+1=b;omega),e3.block (D+1) (by omega) (fun hj=>by have:=q5 _ hj;omega),e2.block (D+1) hDu (fun h=>h)];exact h0
 have hD4:=(au.1 rc4).1;have E4:Ext (fun j=>j=D+1\/j=b\/sl.own j) W u4:=
  Ext.trans (F:=fun j=>j=D+1\/sl.own j) (Ext.trans (F:=fun j=>j=D+1) (Ext.trans (F:=fun j=>j=D+1) eP e2 (fun _ h=>h) fun _ _ h=>h.elim) e3 (fun _ h=> .inl h) fun _ _ h=> .inr h) e4 (fun _ h=>h.elim .inl fun h=> .inr (.inr h)) fun _ _ h=> .inr (.inl h)
 have nb:∀{c:Nat},c<n0->c≠D+1->c≠b->¬(c=D+1\/c=b\/sl.own c):=fun h1 h2 h3 h=>by
  rcases h with h|h|h
  ·exact h2 h
  ·exact h3 h
  ·have:=q5 _ h;omega
 have EP:Ext (·=D+1) u4 (u4.putObj (D+1) (.loop (Bl fn tmps #[7] HM HN D))):=Ext.put (Ext.refl _ _) _ (.inl rfl);have es:=E4.size;refine ⟨rc4,hK (fun j=>j=D\/j=D+1\/j=b\/s'.own j) _ ?_ ?_ ?_⟩
 ·refine ⟨World.putObj_heap_same hD4,(World.putObj_heap_other (by omega)).trans ((E4.block D (by omega) (nb (by omega) (by omega) (by omega))).trans hj.df),⟨s',nj k4' _ (by omega),?_,by rw[r3,q3,ai];rfl,fun j=>Iff.rfl,BX⟩,?_,?_⟩
  ·rw[bd];refine (r2.AB e4 fun j hj (e:j=b)=>?_).AB EP fun j hj (e:j=D+1)=>?_
   ·have:=BX j hj;omega
   ·have:=BX j hj;omega
  ·exact Ext.Cg (Ext.Cg hj.ext E4 (by rintro j (h|h|h);omega;omega;have:=q5 _ h;omega)) EP fun j (hj:j=D+1)=>by omega
  ·simp only[World.putObj_size];omega
 ·refine (E4.trans (H:=S) EP (fun j h=>?_) fun j _ (h:j=D+1)=>(q4 j).2 (.inr (.inl h)));rcases h with h|h|h
  ·exact (q4 j).2 (.inr (.inl h))
  ·exact (q4 j).2 (.inr (.inr (.inl h)))
  ·exact (q4 j).2 (.inr (.inr (.inr h)))
 ·rintro j (h|h|h|h)
  ·exact .inl ((q4 j).2 (.inl h))
  ·exact .inl ((q4 j).2 (.inr (.inl h)))
  ·exact .inl ((q4 j).2 (.inr (.inr (.inl h))))
  ·rcases r5 j h with h|h
   ·exact .inl ((q4 j).2 (.inr (.inr (.inr h))))
   ·exact .inr (by omega)
end
end Wt
namespace Wt
open Sh Fix Tk Tl Vl Go.Lib
open Go.RowKit
abbrev pa (b:Nat):Value:= .pointer (some ⟨b,0,none⟩)
section
variable {w W W':World} {n0 l c:Nat} {S:Nat->Prop} {J:(Nat->Prop)->List ByteArray->World->Prop} {o:Ob} {t:Tr} {ty:TypeId}
attribute [local irreducible] Ld Sh.St Nw Nn Lt AP Ab Ak
theorem ja (hR:nh n0 l J)(h:OX w o t)(Bo:Cq 1 t=true)(h9:t.k≠9)(hT:Tl.PT w)(hl:Na t<=4000000)(e0:Ext (fun _=>False) w W)(hn:n0<=W.heap.size)(hS:∀j,S j->w.heap.size<=j)(hj:J S [] W)(hc:AO W c (AH o).toArray ty):
  Pw l ⟨c,0,none⟩ W fun W'=>∃ps xs S',PT t ps/\Tx xs ps/\J S' xs W':=by
 obtain ⟨d,h⟩:=h;unfold Pw;refine (Hn.start W).nw (cs:=[yv l]) fun w1 H=>?_
 refine H.nw (cs:=[Value.nilFunc]) fun w2 H=>?_
 simp only[ae,ag,add_lit,ah]at H⊢;refine H.st 1 rfl (by simp) fun w3 H=>?_
 simp only[aa,ab]at H;refine H.ld 1 rfl rfl ?_;refine Ab.AR (ts:=AD) (pre:=[]) (post:=[]) (x:=o) (by rw[ae,aN];exact H.ext.AR hc id) rfl ?_;have q2:=H.ge 1 rfl;refine Xm (jZ hR hT d o t w3 S [] 1 h Bo (by omega) h9 (e0.tr H.ext) (bC hn H.ext.size) hS (hR.AB hj H.ext fun _ h=>h.elim) (H.get 0 rfl) (H.get 1 rfl) (fun hs=>by have:=hR.lt hj _ hs;omega) (fun hs=>by have:=hR.lt hj _ hs;omega) (by rw[aU];omega)) ?_;rintro b w' ⟨_,ps,xs,S',hp,hx,vP,_,_⟩;exact ⟨ps,xs,S',hp,hx,vP⟩
abbrev sl0:List Value:=[AA.v ⟨none,0,0⟩]
theorem jb:Tryz.f103.body=some (.seq zv (.seq (.seq zx (.block 0 (.rangeFunc (.tmp 6) #[7] HM HN))) tQ)):=by kernel_rfl
theorem ADH (h:OX w o t)(Bo:Cq 1 t=true)(h9:t.k≠9)(hT:Tl.PT w)(hl:Na t<=4000000)(hc:AO w c (AH o).toArray ty):
  AAF ⟨none,0,0⟩ (.func (.func 104) #[] #[pa c]) w fun r w1=>(∃ps xs,PT t ps/\Tx xs ps/\Bb w1 r 1 (xs.map Value.string))/\Ext (fun _=>False) w w1:=by
 refine (callsIn_wide (n:=0)).1 ?_;refine callsIn_of_wp_marks Tryz.func103 jb trivial ?_ rfl;obtain ⟨f1,hf1⟩:∃f1:Value,f1= .func (.func 104) #[] #[pa c]:=⟨_,rfl⟩
 rw[<-hf1];have hf0:Fits 13 [(1,f1),(0,AA.v ⟨none,0,0⟩)] {tmps:=#[AA.v ⟨none,0,0⟩,f1]++Array.replicate (Tryz.f103.ntmps-#[AA.v ⟨none,0,0⟩,f1].size) undef,defers:=[]}:=E8 (Sd (args:=[AA.v ⟨none,0,0⟩,f1]) (n:=13) (by simp)) rfl fun p hp=>by
  simp only[aw,aG,bA]at hp;rcases hp with rfl|rfl<;>rfl
 obtain ⟨a0,ha0,hd0⟩:∃a0:Act,a0={tmps:=#[AA.v ⟨none,0,0⟩,f1]++Array.replicate (Tryz.f103.ntmps-#[AA.v ⟨none,0,0⟩,f1].size) undef,defers:=[]}/\a0.defers=[]:=⟨_,rfl,rfl⟩
 rw[<-ha0]at hf0⊢;clear ha0;refine AB4 (F:=⟨FF,Fu,fun _ _=>False⟩) Su.wide okF (fun _ _ h=>h) (pl:=zw) (K:=fun E w1=>E=[(4,AA.v ⟨none,0,0⟩),(2,pa w.heap.size),(1,f1),(0,AA.v ⟨none,0,0⟩)]/\Hn w w1 [(w.heap.size,sl0,66)]) (by
  rw[AHg];exact (Hn.start w).nw (cs:=sl0) fun w1 H=>⟨rfl,H⟩) hf0 (by kernel_rfl) ?_
 rintro E a1 w1 ⟨rfl,H1⟩ AOu Tz;rw[hd0]at Tz;refine wpIn_seq ?_;have hfB:Fits 13 [(2,pa w.heap.size),(1,f1)] a1:=E8 AOu rfl fun p hp=>by
  simp only[aw,aG,bA]at hp;rcases hp with rfl|rfl<;>rfl
 refine AB4 (F:=⟨FF,Fu,fun _ _=>False⟩) Su.wide okF (fun _ _ h=>h) (pl:=zy) (K:=fun E w2=>E=[(6,f1),(2,pa w.heap.size),(1,f1)]/\w2=w1) (by
  rw[AHi];exact ⟨rfl,rfl⟩) hfB (by kernel_rfl) ?_
 rintro E a4 w4 ⟨rfl,rfl⟩ hf4 hd4;rw[Tz]at hd4;have k2:=H1.get 0 rfl;have l2:=k2.lt;have e4:=H1.ext;have hev:a4.eval (.tmp 6)= .func (.func 104) #[] #[pa c]:=by rw[<-hf1];exact hf4.Ai (x:= .tmp 6) rfl
 refine wpIn_block ?_;refine AB3 okF hev (by kernel_rfl) fun fn=>?_
 obtain ⟨wr,uy⟩:∃wr,wr=rfW w4 fn a4.tmps #[7] HM HN:=⟨_,rfl⟩
 have er:Ext (fun _=>False) w4 wr:=by rw[uy];exact ((Ext.refl _ w4).alloc _).alloc _
 have N4:wr.heap[w4.heap.size+1]?=some (.loop (Bl fn a4.tmps #[7] HM HN w4.heap.size)):=by
  rw[uy];have:=World.alloc_heap_new (w4.alloc (.deferred (some []))) (.loop (Bl fn a4.tmps #[7] HM HN w4.heap.size));rwa[World.size_alloc]at this
 have Nc:wr.heap[w4.heap.size]?=some (.deferred (some [])):=by
  rw[uy];exact (Below.heap_alloc _ _ _ (by simp)).trans (World.alloc_heap_new w4 _)
 have hsr:w4.heap.size+1<wr.heap.size:=(au.1 N4).1;have hw4:=e4.size;have mn:∀j,¬(⟨none,0,0⟩:AA).own j:=fun j hj=>by obtain ⟨a,ha,_⟩:=hj;cases ha
 have hj0:JS w w4.heap.size w.heap.size wr.heap.size (Bl fn a4.tmps #[7] HM HN w4.heap.size) (fun j=>j=w4.heap.size\/j=w4.heap.size+1\/j=w.heap.size\/(⟨none,0,0⟩:AA).own j) [] wr:=
  ⟨N4,Nc,⟨⟨none,0,0⟩,er.AR k2 (fun h=>h),Row.nil _ _ _,rfl,fun j=>Iff.rfl,fun j hj=>(mn j hj).elim⟩,e4.tr er,aB _⟩
 have hR:nh wr.heap.size (w4.heap.size+1) (JS w w4.heap.size w.heap.size wr.heap.size (Bl fn a4.tmps #[7] HM HN w4.heap.size)):=
  ⟨fun h=>h.lt,fun h he hF=>h.AB (by omega) he hF,fun h hlen hK=>wS h ⟨by omega,by omega,by omega⟩ hlen (E8 hf4 rfl fun p hp=>by rw[av.1 hp];rfl) hK⟩
 rw[<-uy];refine (tV (w4.heap.size+1) ⟨c,0,none⟩ wr _ (ja hR h Bo h9 hT hl (e4.tr er) (aB _) (fun j hj=>by
  rcases hj with h|h|h|h
  ·omega
  ·omega
  ·omega
  ·exact (mn j h).elim) hj0 ((e4.tr er).AR hc id))).mono ?_
 rintro e W2 ⟨rfl,ps,xs,S',hp,hx,hj2⟩;refine ⟨⟨_,rfl⟩,hj2.rc,?_⟩;obtain ⟨sl,z1,z2,z3,_,z4⟩:=hj2.k;refine wpIn_mono (wpIn_wide.2 (GI (N:=13) (F:=⟨FF,Fu,fun _ _=>False⟩) okF De tQ AAD [(2,pa w.heap.size)] _
  (rtK fun r W'=>r=sl/\Bb W' sl 1 (xs.map Value.string)/\W'.heap[w4.heap.size]?=some (.deferred (some []))/\Ext (fun _=>False) w W') _ ?_ (E8 hf4 rfl fun p hp=>by
   rw[av.1 hp];rfl) (by kernel_rfl))) fun e a' w' hq=>?_
 ·rw[AHm];unfold AAE;have eP:Ext (·=w4.heap.size+1) W2 (W2.putObj (w4.heap.size+1) (.loop {Bl fn a4.tmps #[7] HM HN w4.heap.size with state:= .exhausted})):=Ext.put (Ext.refl _ _) _ (.inl rfl);refine Ld.of (eP.AR z1 (by omega)) rfl ⟨rfl,?_,?_,?_⟩
  ·exact (z2.AB eP fun j hj e=>by have:=z4 j hj;have e:j=w4.heap.size+1:=e;omega).view
  ·exact (World.putObj_heap_other (by omega)).trans hj2.df
  ·exact Ext.put hj2.ext _ (.inr (by omega))
 ·rcases hq with ⟨E',hr,hfe,hse⟩|⟨_,_,hp,_⟩
  ·cases e<;>try exact hr.elim
   unfold rtK at hr;simp only at hr;split at hr
   ·rename_i a n m g2;obtain ⟨rfl,hv,hdf,Nd⟩:=hr;have nd:Fits 13 [(4,AA.v ⟨a,n,m⟩)] a':=E8 hfe rfl fun p hp=>by
     rw[av.1 hp];exact g2
    have eD:Ext (·=w4.heap.size) w' (w'.putObj w4.heap.size (.deferred none)):=Ext.put (Ext.refl _ _) _ (.inl rfl);have uJ:=hv.AF eD fun j hj e=>by have:=z4 j hj;have e:j=w4.heap.size:=e;omega
    obtain ⟨v,v1,sv,v2,v3⟩:=FX (P:=prog) (fn:=Tryz.f103) (w':=w'.putObj w4.heap.size (.deferred none)) (tys:=[(.one .Ct)]) nd (R:=fun r W=>Bb W r 1 (xs.map Value.string)/\Ext (fun _=>False) w W) ⟨uJ,Ext.put Nd _ (.inr (by omega))⟩;show LeavesInM _ _ _ _ _ _ a'.defers _ _;rw[hse.2,hd4];exact ⟨by simp,.inl ⟨_,_,rfl,run_takeDeferred hdf,v,v1,sv,v2,⟨ps,xs,hp,hx,v3.1⟩,v3.2⟩⟩
   ·exact hr.elim
  ·exact hp.elim
end
end Wt
namespace Wt
open Sh Fix Tk Tl Vl
theorem LV {n:Int}{T D:By}(h:FZ n T D):T.length<=22:=by
 have:=h.d21;rw[h.t,ai];split<;>simp<;>omega
theorem Td {n:Int}{T W P:By}(h:Bp n T W P):T.length<=12:=by
 have:=h.w6;have:=(Cr h.p h.p4).2.2.2.2;rw[h.t,ai,ai,ar];split<;>simp<;>omega
theorem Xo (s:ByteArray):(Jp (bl s)).length<=4*s.size+2:=by
 have:=BP NN (bl s);have hz:=AE s;unfold Jp;rw[ar,ai,cj];omega
theorem IZ (s:ByteArray):(Bv (bl s)).length<=3*s.size+1:=by
 have:=BP NO (bl s);have hz:=AE s;unfold Bv;rw[ar];omega
theorem nk:(AX Om).t.length<=200000:=by decide
theorem jc:(AX GD).t.length<=200000:=by decide
theorem nn:(AX KJ).t.length<=200000:=by decide
theorem wT:(AX Vc).t.length<=200000:=by decide
theorem np:(Ao [91]).t.length<=200000:=by decide
theorem jd:(Ao [93]).t.length<=200000:=by decide
theorem ADI:(Ao [60,60]).t.length<=200000:=by decide
theorem ADJ:(Ao [62,62]).t.length<=200000:=by decide
theorem V4 {n:Int}{T D:By}(h:FZ n T D)(_:-2147483647<=n)(_:n<=2147483647):(Kw T n).t.length<=200000:=bC (LV h) (by decide)
theorem nq {n:Int}{T W P:By}(h:Bp n T W P)(_:Dc n=true):(PA T n).t.length<=200000:=bC (Td h) (by decide)
theorem wU {b:ByteArray}(h:b.size<=32767):(Zb b).t.length<=200000:=bC (Xo b) (by omega)
theorem LO {s:ByteArray}(h:Dz s=true):s.size<=127:=by
 unfold Dz at h;simp only[aj]at h;simpa using h.1
theorem Xp {b:ByteArray}(h:Dz b=true):(Cz b).t.length<=200000:=bC (IZ b) (by have:=LO h;omega)
mutual
theorem je {deep:Int}:∀(t:Tr) (ps:List Pt),Cq deep t=true->PT t ps->∀p∈ps,p.t.length<=200000
 | .mk k n g s ks kids,ps,h,hp=>by
  rw[Cq,aj]at h;obtain ⟨h,hL⟩:=h;have hc:=FT h;rw[PT]at hp;rcases hp with ⟨rfl,rfl⟩|⟨rfl,rfl⟩|⟨rfl,T,D,hI,rfl⟩|⟨rfl,T,W,P,hT,rfl⟩|⟨rfl,rfl⟩|⟨rfl,rfl⟩|⟨rfl,q,hq,rfl⟩|⟨rfl,q,hq,rfl⟩|⟨rfl,T,D,U,E,hI,hJ,rfl⟩
  ·exact fun p hm=>by rw[av.1 hm];exact nk
  ·exact fun p hm=>by
    rw[av.1 hm];split
    ·exact jc
    ·exact nn
  ·have hc:=(hc (by simp[Tr.k])).1 rfl;exact fun p hm=>by rw[av.1 hm];exact V4 hI hc.1 hc.2
  ·have hc:=(hc (by simp[Tr.k])).2.1 rfl;exact fun p hm=>by rw[av.1 hm];exact nq hT hc
  ·have hc:=(hc (by simp[Tr.k])).2.2.1 rfl;exact fun p hm=>by rw[av.1 hm];exact wU hc
  ·have hc:=(hc (by simp[Tr.k])).2.2.2.1 rfl;exact fun p hm=>by rw[av.1 hm];exact Xp hc.2
  ·exact fun p hm=>by
    rcases aw.1 hm with rfl|hm
    ·exact np
    ·rcases aS.1 hm with hm|hm
     ·exact qR kids q hL hq p hm
     ·rw[av.1 hm];exact jd
  ·have hr:=DA (CB h rfl);exact fun p hm=>by
    rcases aw.1 hm with rfl|hm
    ·exact ADI
    ·rcases aS.1 hm with hm|hm
     ·exact qS ks kids q hr hL hq p hm
     ·rw[av.1 hm];exact ADJ
  ·have hc:=(hc (by simp[Tr.k])).2.2.2.2 rfl;exact fun p hm=>by
    simp only[aw,aG,bA]at hm;have h1:(1<=n/\n<=8191)/\0<=g/\g<=65535:=hc;rcases hm with rfl|rfl|rfl
    ·exact V4 hI (by omega) (by omega)
    ·exact V4 hJ (by omega) (by omega)
    ·exact wT
theorem qR {deep:Int}:∀(l:List Tr) (ps:List Pt),SG deep l=true->PL l ps->∀p∈ps,p.t.length<=200000
 |[],ps,h,hp,p,hm=>by
  rw[PL]at hp;subst hp;cases hm
 |t::r,ps,h,hp,p,hm=>by
  rw[SG,aj]at h;rw[PL]at hp;obtain ⟨a,b,h1,h2,rfl⟩:=hp;rcases aS.1 hm with hm|hm
  ·exact je t a h.1 h1 p hm
  ·exact qR r b h.2 h2 p hm
theorem qS {deep:Int}:∀(ks:List ByteArray) (l:List Tr) (ps:List Pt),(∀k∈ks,Dz k=true)->SG deep l=true->PD ks l ps->∀p∈ps,p.t.length<=200000
 |[],[],ps,_,h,hp,p,hm=>by
  rw[PD]at hp;subst hp;cases hm
 |k::ks,t::r,ps,hk,h,hp,p,hm=>by
  rw[SG,aj]at h;rw[PD]at hp;obtain ⟨a,b,h1,h2,rfl⟩:=hp;rcases aw.1 hm with rfl|hm
  ·exact Xp (hk k (ax ..))
  ·rcases aS.1 hm with hm|hm
   ·exact je t a h.1 h1 p hm
   ·exact qS ks r b (fun x hx=>hk x (ay _ hx)) h.2 h2 p hm
 |_::_,[],_,_,_,hp,_,_=>by rw[PD]at hp;exact hp.elim
 |[],_::_,_,_,_,hp,_,_=>by rw[PD]at hp;exact hp.elim
end
def tl:List Pt->Nat
 |[]=>0
 |p::r=>p.t.length+1+tl r
theorem NQ:∀(a b:List Pt),tl (a++b)=tl a+tl b
 |[],b=>by rw[ae,tl];omega
 |p::a,b=>by rw[ag,tl,tl,NQ a b];omega
theorem Mj:∀(ps:List Pt) (last:UInt8),(AZ last (ps.map (·.t))).length<=tl ps
 |[],last=>by simp[AZ]
 |p::r,last=>by
  rw[aC,tl];by_cases h:p.t=[]
  ·rw[h,join_nil];have:=Mj r last;omega
  ·rw[join_cons last h,ai,ai];have:=Mj r (p.t.getLastD 0);generalize AZ (p.t.getLastD 0) (r.map (·.t))=z at this⊢;split<;>simp<;>omega
def VE:List ByteArray->Nat
 |[]=>0
 |k::r=>4*k.size+8+VE r
mutual
def pI:Tr->Nat
 | .mk _ _ _ s ks kids=>60+4*s.size+VE ks+JQ kids
def JQ:List Tr->Nat
 |[]=>0
 |t::r=>pI t+JQ r
end
mutual
theorem gO:∀(t:Tr) (ps:List Pt),PT t ps->tl ps<=pI t
 | .mk k n g s ks kids,ps,hp=>by
  rw[pI];have h1:=Xo s;have h2:=IZ s;rw[PT]at hp;rcases hp with ⟨rfl,rfl⟩|⟨rfl,rfl⟩|⟨rfl,T,D,hI,rfl⟩|⟨rfl,T,W,P,hT,rfl⟩|⟨rfl,rfl⟩|⟨rfl,rfl⟩|⟨rfl,q,hq,rfl⟩|⟨rfl,q,hq,rfl⟩|⟨rfl,T,D,U,E,hI,hJ,rfl⟩
  ·simp only[tl,AX,Om,ar,aU];omega
  ·split<;>simp only[tl,AX,GD,KJ,ar,aU]<;>omega
  ·have:=LV hI;simp only[tl,Kw];omega
  ·have:=Td hT;simp only[tl,PA];omega
  ·simp only[tl,Zb];omega
  ·simp only[tl,Cz];omega
  ·have:=qT kids q hq;simp only[tl,NQ,Ao,ar,aU];omega
  ·have:=qU ks kids q hq;simp only[tl,NQ,Ao,ar,aU];omega
  ·have:=LV hI;have:=LV hJ;simp only[tl,Kw,AX,Vc,ar,aU];omega
theorem qT:∀(l:List Tr) (q:List Pt),PL l q->tl q<=JQ l
 |[],q,h=>by rw[PL]at h;subst h;exact bD _
 |t::r,q,h=>by
  rw[PL]at h;obtain ⟨a,b,h1,h2,rfl⟩:=h;have:=gO t a h1;have:=qT r b h2;rw[NQ,JQ];omega
theorem qU:∀(ks:List ByteArray) (l:List Tr) (q:List Pt),PD ks l q->tl q<=VE ks+JQ l
 |[],[],q,h=>by rw[PD]at h;subst h;exact bD _
 |k::ks,t::r,q,h=>by
  rw[PD]at h;obtain ⟨a,b,h1,h2,rfl⟩:=h;have:=gO t a h1;have:=qU ks r b h2;have:=IZ k;rw[tl,NQ,JQ,VE];simp only[Cz];omega
 |_::_,[],q,h=>by rw[PD]at h;exact h.elim
 |[],_::_,q,h=>by rw[PD]at h;exact h.elim
end
section
variable {w:World} {o:Ob} {t:Tr}
attribute [local irreducible] Ld Sh.St Nw Nn Lt AP Ab Ak
theorem W3 (h:OX w o t)(hT:Tl.PT w)(hl:Na t<=4000000):
  C53 o w (fun r e w1=>((e=0/\Cq 1 t=true/\t.k≠9/\∃ps,PT t ps/\bl r=AZ 32 (ps.map (·.t)))\/(e≠0/\(Cq 1 t=false\/t.k=9)))/\Ext (fun _=>False) w w1) fun _ _=>False:=by
 refine T53 _ _ _ _ ?_;unfold S53;rw[B1];refine (Hn.start w).nw (cs:=AH o) fun w2 H=>?_
 simp only[ae]at H;obtain ⟨⟨hk,_⟩,_⟩:=h.out;refine Ab.AR (ts:=AD) (pre:=[]) (post:=[]) (x:=o) (H.get 0 rfl) rfl ?_;refine (Wy (h.AB H.ext)).mono ?_ fun _ _ h=>h
 rintro e w3 ⟨he,e3⟩;have H:=H.AB e3;refine Br.ne (fun q=>?_) fun q=>H.ld 0 rfl rfl (Br.eq (fun q9=>?_) fun q9=>?_)
 ·rcases he with ⟨_,rfl⟩|⟨ho,_⟩
  ·exact absurd rfl q
  ·exact ⟨.inr ⟨q,.inl ho⟩,H.ext⟩
 ·exact ⟨.inr ⟨by decide,.inr (by omega)⟩,H.ext⟩
 ·rcases he with ⟨ho,_⟩|⟨_,he⟩
  ·refine Ab.AR (ts:=AD) (pre:=[]) (post:=[]) (x:=o) (H.get 0 rfl) rfl ?_;refine T79 _ _ _ _ ?_;unfold S79;rw[B1];refine H.B5 (cs:=AH o) fun w4 H4 _=>?_
   refine T78 _ _ _ ?_;unfold S78;refine (ADH (h.AB H4.ext) ho (by omega) (hT.AB H4.ext) hl (H4.get 1 rfl)).mono ?_;rintro r w5 ⟨⟨ps,xs,hp,hx,hV⟩,e5⟩;have hcn:=Xk _ _ hp;refine (wJ hV (by rw[hx.len];omega) fun x hxm=>?_).mono ?_
   ·obtain ⟨p,uS,e⟩:∃p∈ps,p.t=bl x:=by
     have:bl x∈ps.map (·.t):=by rw[<-hx];exact b6 hxm
     simpa using this
    have:=je t ps ho hp p uS;rw[e]at this;exact (AE x).symm▸this
   rintro r w6 ⟨hr,e6⟩;refine ⟨.inl ⟨rfl,ho,by omega,ps,hp,by rw[hr,hx]⟩,(H4.ext.tr e5).tr e6⟩
  ·exact absurd q he
end
end Wt
namespace Wt
open Sh Fix Tk Tl Vl
theorem Br.t{b:Bool}{A B:Prop}(h:b=true)(k:A):Br b A B:=Sh.Br.t h k
theorem Br.f{b:Bool}{A B:Prop}(h:b=false)(k:B):Br b A B:=Sh.Br.f h k
abbrev Bk:Ob:=(0,0,0,⟨#[]⟩,⟨none,0,0⟩,⟨none,0,0⟩)
section
variable {w0 w w1 W:World} {F:Nat->Prop} {L:List (Nat×Array Value×TypeId)} {b:Nat} {t:TypeId} {s:ByteArray} {a c:Nat} {v:Value}
theorem Hx.GX(h:Hx w0 F w L)(i:Nat){z:Array Value}(hi:L[i]?=some (b,z,t))(hz:z.size=6)(hF:F b\/w0.heap.size<=b){o:Ob}{K:World->Prop}(k:∀w2,Hx w0 F w2 (L.set i (b,(AH o).toArray,t))->Ext (·=b) w w2->K w2):Ak ⟨b,0,none⟩ 0 AD o w K:=by
 refine Ak.AR (ts:=AD) (pre:=[]) (zs:=z.toList) (post:=[]) (t:=t) (by simpa using h.get i hi) rfl (by simpa using hz) fun w2 hb he=>?_
 rw[ae,aN,B1]at hb;exact k w2 (h.MN i hi hb he hF) he
theorem Hx.I9(h:Hx w0 F w L)(i:Nat){o:Ob}(hi:L[i]?=some (b,(AH o).toArray,t)){K:Ob->Prop}(k:K o):Ab w ⟨b,0,none⟩ 0 AD K:=
 Ab.AR (ts:=AD) (pre:=[]) (post:=[]) (x:=o) (by rw[ae,aN];exact h.get i hi) rfl k
abbrev j3 (t:TT):Array Value:=#[.int .i64 t.1,.int .i64 t.2.1,.int .i64 t.2.2.1,.int .i64 t.2.2.2.1,.string t.2.2.2.2]
abbrev tk0:Array Value:=#[.int .i64 0,.int .i64 0,.int .i64 0,.int .i64 0,.string ⟨#[]⟩]
def Fb (w:World)(b:Nat)(s:ByteArray)(a:Nat):Prop:=AO w b #[.string s,.int .i64 (a:Int)] 181
theorem Fb.AB(h:Fb w b s a)(he:Ext F w w1)(hn:¬F b):Fb w1 b s a:=he.AR h hn
def Dr (s:ByteArray)(a:Nat)(P:TT->Int->Prop):Prop:=∀w,Qr s (a:Int) w fun r e w1=>P r e/\Ext (fun _=>False) w w1
theorem Dr.mono{P Q:TT->Int->Prop}(h:Dr s a P)(hq:∀r e,P r e->Q r e):Dr s a Q:=fun w=>(h w).mono fun r e w1 hh=>⟨hq _ _ hh.1,hh.2⟩
theorem D3.next{p:Pt}{ps:List Pt}(h:D3 s a (p::ps) c):∃x a':Nat,Dr s a (fun r e=>r=p.tok (x:Int) (a':Int)/\e=0)/\p.k≠0/\D3 s a' ps c:=by
 cases h with
 |cons ha h k0 k=>exact ⟨_,_,fun w=>(h w).mono fun r e w1 hh=>⟨⟨hh.1,hh.2.1⟩,hh.2.2⟩,k0,k⟩
attribute [local irreducible] Ld Sh.St Nw Nn AP Ab Ak Am
def Y1 (k:Int)(s:ByteArray):Bool:=
 if k=5 then s.toList==(⟨#[116,114,117,101]⟩:cI).toList||s.toList==(⟨#[102,97,108,115,101]⟩:cI).toList||s.toList==(⟨#[110,117,108,108]⟩:cI).toList
 else if k=6 then s.toList==(⟨#[91]⟩:cI).toList||s.toList==(⟨#[60,60]⟩:cI).toList else true
theorem Et (t:TT)(w:World):k6 t w fun r w1=>r=Y1 t.1 t.2.2.2.2/\Ext (fun _=>False) w w1:=by
 refine AGr _ _ _ ?_;unfold zB Y1;refine (Hx.start w (fun _=>False)).nw fun w2 H=>?_
 simp only[ae,add_lit,ah]at H⊢;refine H.ld 0 rfl rfl (Br.eq (fun h=>?_) fun h=>Br.eq (fun h6=>?_) fun h6=>?_)
 ·rw[aD h];refine H.ld 0 rfl rfl ?_;cases h1:(t.2.2.2.2.toList==(⟨#[116,114,117,101]⟩:cI).toList)with
  |true=>exact Br.t rfl ⟨rfl,H.ext⟩
  |false=>
   refine Br.f rfl (H.ld 0 rfl rfl ?_);cases h2:(t.2.2.2.2.toList==(⟨#[102,97,108,115,101]⟩:cI).toList)with
   |true=>exact Br.t rfl ⟨rfl,H.ext⟩
   |false=>exact Br.f rfl (H.ld 0 rfl rfl ⟨rfl,H.ext⟩)
 ·rw[az h,aD h6];refine H.ld 0 rfl rfl ?_;cases h1:(t.2.2.2.2.toList==(⟨#[91]⟩:cI).toList)with
  |true=>exact Br.t rfl ⟨rfl,H.ext⟩
  |false=>exact Br.f rfl (H.ld 0 rfl rfl ⟨rfl,H.ext⟩)
 ·rw[az h,az h6];exact ⟨rfl,H.ext⟩
theorem Je (t:TT)(k:Int)(x:ByteArray)(w:World):eA t k x w fun r w1=>r=((t.1==k)&&(t.2.2.2.2.toList==x.toList))/\Ext (fun _=>False) w w1:=by
 refine AGt _ _ _ _ _ ?_;unfold zD;refine (Hx.start w (fun _=>False)).nw fun w2 H=>?_
 simp only[ae,add_lit,ah]at H⊢;refine H.ld 0 rfl rfl (Br.eq (fun h=>H.ld 0 rfl rfl ⟨?_,H.ext⟩) fun h=>⟨?_,H.ext⟩)
 ·rw[bX.2 h,bo]
 ·rw[bf.2 h,bT]
theorem mU (n g:Int)(w:World):sh n g w fun r w1=>r=(8,n,g,⟨#[]⟩,⟨none,0,0⟩,⟨none,0,0⟩)/\Ext (fun _=>False) w w1:=by
 refine AGu _ _ _ _ ?_;unfold zE;refine (Hx.start w (fun _=>False)).nw fun w2 H=>?_
 simp only[ae]at H;exact Hx.GX H 0 rfl rfl (.inr (aB _)) fun w3 H3 _=>Hx.I9 H3 0 rfl ⟨rfl,H3.ext⟩
theorem uo (w:World):sk w fun r w1=>r=Bk/\Ext (fun _=>False) w w1:=by
 refine AGy _ _ ?_;unfold zI;refine (Hx.start w (fun _=>False)).nw fun w2 H=>?_
 simp only[ae]at H;exact Hx.GX H 0 rfl rfl (.inr (aB _)) fun w3 H3 _=>Hx.I9 H3 0 rfl ⟨rfl,H3.ext⟩
theorem Fa (x:ByteArray)(w:World):si x w fun r w1=>r=(4,0,0,x,⟨none,0,0⟩,⟨none,0,0⟩)/\Ext (fun _=>False) w w1:=by
 refine AGw _ _ _ ?_;unfold zG;refine (Hx.start w (fun _=>False)).nw fun w2 H=>?_
 simp only[ae]at H;exact Hx.GX H 0 rfl rfl (.inr (aB _)) fun w3 H3 _=>Hx.I9 H3 0 rfl ⟨rfl,H3.ext⟩
theorem ABc (x:ByteArray)(w:World):sj x w fun r w1=>r=(5,0,0,x,⟨none,0,0⟩,⟨none,0,0⟩)/\Ext (fun _=>False) w w1:=by
 refine AGx _ _ _ ?_;unfold zH;refine (Hx.start w (fun _=>False)).nw fun w2 H=>?_
 simp only[ae]at H;exact Hx.GX H 0 rfl rfl (.inr (aB _)) fun w3 H3 _=>Hx.I9 H3 0 rfl ⟨rfl,H3.ext⟩
theorem gh (y:Bool)(w:World):sn y w fun r w1=>r=(1,if y=true then 1 else 0,0,⟨#[]⟩,⟨none,0,0⟩,⟨none,0,0⟩)/\Ext (fun _=>False) w w1:=by
 refine AGz _ _ _ ?_;unfold zJ;refine (Hx.start w (fun _=>False)).nw fun w2 H=>?_
 have hg:=H.size;refine H.nw fun w3 H=>?_
 simp only[ae,ag,add_lit,ah]at H⊢;refine Hx.GX H 1 rfl rfl (.inr hg) fun w4 H _=>?_
 simp only[aa,ab]at H;cases y with
 |true=>
  refine Br.t rfl (H.st 1 rfl (by decide) (.inr hg) fun w5 H=>?_);simp only[aa,ab]at H;refine Hx.I9 H 1 (o:=(1,1,0,⟨#[]⟩,⟨none,0,0⟩,⟨none,0,0⟩)) rfl (Hx.GX H 0 rfl rfl (.inr (aB _)) fun w6 H _=>Hx.I9 H 0 rfl ⟨rfl,H.ext⟩)
 |false=>exact Br.f rfl (Hx.I9 H 1 rfl (Hx.GX H 0 rfl rfl (.inr (aB _)) fun w6 H _=>Hx.I9 H 0 rfl ⟨rfl,H.ext⟩))
theorem uq (n:Int)(w:World):sV n w fun r w1=>r=(2,n,0,⟨#[]⟩,⟨none,0,0⟩,⟨none,0,0⟩)/\Ext (fun _=>False) w w1:=by
 refine AGj _ _ _ ?_;unfold yx;refine (Hn.start w).nw (cs:=AH Bk) fun w2 H=>?_
 simp only[ae,add_lit,ah,AH]at H⊢
 iterate 6 (refine H.st 0 rfl (by simp) fun _ H=>?_;simp only[aa,ab]at H)
 iterate 6 refine H.ld 0 rfl rfl ?_
 exact ⟨rfl,H.ext⟩
theorem Wb (n:Int)(w:World):C22 n w fun r w1=>r=(3,n,0,⟨#[]⟩,⟨none,0,0⟩,⟨none,0,0⟩)/\Ext (fun _=>False) w w1:=by
 refine T22 _ _ _ ?_;unfold S22;refine (Hn.start w).nw (cs:=AH Bk) fun w2 H=>?_
 simp only[ae,add_lit,ah,AH]at H⊢
 iterate 6 (refine H.st 0 rfl (by simp) fun _ H=>?_;simp only[aa,ab]at H)
 iterate 6 refine H.ld 0 rfl rfl ?_
 exact ⟨rfl,H.ext⟩
theorem QV (hb:AO w b #[.string s,v] t){P:TT->Int->Prop}(h:Dr s a P):k7 (some ⟨b,0,none⟩) (a:Int) w fun r ok w1=>(∃e,P r e/\ok=(e==0))/\Ext (fun _=>False) w w1:=by
 refine AGs _ _ _ _ ?_;unfold zC;refine (Hn.start w).nw (cs:=tk0.toList) fun w2 H=>Nn.of ?_
 simp only[ae,add_lit,ah]at H⊢;refine Ld.of (H.ext.AR hb id) rfl ((h w2).mono ?_);rintro r e w3 ⟨hp,e3⟩;have H:=H.AB e3;refine H.nw (cs:=tk0.toList) fun w4 H=>?_
 simp only[ae,ag]at H
 iterate 5 (refine H.st 1 rfl (by simp) fun _ H=>?_;simp only[aa,ab]at H)
 iterate 5 refine H.ld 1 rfl rfl ?_
 iterate 5 (refine H.st 0 rfl (by simp) fun _ H=>?_;simp only[aa,ab]at H)
 iterate 5 refine H.ld 0 rfl rfl ?_
 exact ⟨⟨e,hp,rfl⟩,H.ext⟩
end
end Wt
namespace Wt
open Sh Fix Tk Tl Vl
section
variable {w0 w w1 W:World} {F:Nat->Prop} {L:List (Nat×Array Value×TypeId)} {b:Nat} {t:TypeId} {s:ByteArray} {a c:Nat} {p:Pt} {ps:List Pt}
attribute [local irreducible] Ld Sh.St Nw Nn AP Ab Ak Am
theorem Jf (hb:Fb w b s a)(hr:D3 s a (p::ps) c){PR:Value->World->Prop}:
  YP (some ⟨b,0,none⟩) w (fun r w1=>∃x a':Nat,r=p.tok (x:Int) (a':Int)/\D3 s a' ps c/\Fb w1 b s a'/\Ext (·=b) w w1) PR:=by
 obtain ⟨x,a',hn,hk,hr⟩:=hr.next
 refine AG1 _ _ _ _ ?_;unfold zK;have Md:=AO.lt hb;refine (Hx.one (F:=(·=b)) hb).nw fun w2 H=>?_
 simp only[ae,ag,add_lit,ah]at H⊢;refine ⟨fun st v=>∃k,w.heap.size<=k/\st=(⟨k,0,none⟩,0)/\Hx w (·=b) v [(b,#[.string s,.int .i64 (a:Int)],181),(w.heap.size,tk0,114),(k,j3 (p.tok (x:Int) (a':Int)),114)],?_,?_⟩
 ·rintro st v ⟨k,cL,rfl,H⟩;unfold eC;refine Br.f rfl (H.ld 2 rfl rfl (Br.f (bf.2 hk) (H.ld 2 rfl rfl (Nn.of ?_))));simp only[add_lit,ah];refine H.st 0 rfl (by simp) (.inl rfl) fun v2 H=>?_
  simp only[af,aa,ab]at H
  iterate 5 refine H.ld 2 rfl rfl ?_
  iterate 5 (refine H.st 1 rfl (by simp) (.inr (aB _)) fun _ H=>?_;simp only[af,aa,ab]at H)
  iterate 5 refine H.ld 1 rfl rfl ?_
  exact ⟨x,a',rfl,hr,H.get 0 rfl,H.ext⟩
 ·refine ⟨fun v=>AO v b #[.string s,.int .i64 (a:Int)] 181,H.drew.get 0 rfl,Nn.of (AP.of (fun _ h=>h) rfl (Nn.of (AP.of (fun _ h=>h) rfl ⟨?_,?_⟩)))⟩
  ·refine (hn _).mono ?_;rintro r e w3 ⟨⟨rfl,rfl⟩,e3⟩;have H:=H.drew.AB e3;have hs:=H.size;refine H.nw fun w4 H=>?_
   simp only[ae,ag]at H
   iterate 5 (refine H.st 2 rfl (by simp) (.inr hs) fun _ H=>?_;simp only[af,aa,ab]at H)
   exact ⟨_,hs,rfl,H⟩
  ·have H:=H.drew;have hs:=H.size;refine H.nw fun w3 H=>⟨H.get 0 rfl,(hn _).mono ?_⟩
   rintro r e w4 ⟨⟨rfl,rfl⟩,e4⟩;have H:=H.AB e4;simp only[ae,ag]at H
   iterate 5 (refine H.st 2 rfl (by simp) (.inr hs) fun _ H=>?_;simp only[af,aa,ab]at H)
   exact ⟨_,hs,rfl,H⟩
def pj (s:ByteArray)(a:Nat):Prop:=Dr s a fun r e=>e=0->r.1=1->∃a':Nat,r.2.2.1=(a':Int)/\Dr s a' fun r2 e2=>e2=0->r2.1=5->r2.2.2.2.2.toList≠(⟨#[82]⟩:cI).toList
theorem gi (hb:Fb w b s a)(x n:Int)(y:ByteArray)(k:Int)(h:pj s a):k8 (some ⟨b,0,none⟩) (k,x,(a:Int),n,y) w fun r ok w1=>ok=false/\Ext (fun _=>False) w w1:=by
 refine zF (some ⟨b,0,none⟩) (k,x,(a:Int),n,y) w _ ?_;unfold sx;refine (Hx.start w (fun _=>False)).nw fun w2 H=>?_
 have hg:=H.size;refine H.nw fun w3 H=>?_
 simp only[ae,ag,add_lit,ah]at H⊢;have out:∀{v:World} {M:List (Nat×Array Value×TypeId)} {z:Array Value} {ty:TypeId},Hx w (fun _=>False) v ((w.heap.size,j3 (k,x,(a:Int),n,y),114)::(w2.heap.size,z,ty)::M)->z.size=6->
   Ak (⟨w2.heap.size,0,none⟩:Addr) 0 AD Bk v fun vw=>Ab vw (⟨w2.heap.size,0,none⟩:Addr) 0 AD fun JK=>True/\Ext (fun _=>False) w vw:=fun H hz=>
  Hx.GX H 1 rfl hz (.inr hg) fun v2 H _=>Hx.I9 H 1 rfl ⟨trivial,H.ext⟩
 refine H.ld 0 rfl rfl (Br.dec (fun _=>out H rfl) fun _=>H.ld 0 rfl rfl (Br.dec (fun _=>out H rfl) fun _=>H.ld 0 rfl rfl ?_));refine (QV (H.ext.AR hb id) h).mono ?_;rintro r ok w4 ⟨⟨e,hp,rfl⟩,e4⟩;have H:=H.AB e4;have hs:=H.size;refine H.nw fun w5 H=>?_
 simp only[ae,ag]at H
 iterate 5 (refine H.st 2 rfl (by simp) (.inr hs) fun _ H=>?_;simp only[af,aa,ab]at H)
 by_cases he:e=0
 ·refine Br.f (by rw[he];rfl) (H.ld 2 rfl rfl (Br.ne (fun _=>out H rfl) fun SC=>H.ld 2 rfl rfl (Br.dec (fun _=>out H rfl) fun _=>H.ld 2 rfl rfl (Br.dec (fun _=>out H rfl) fun _=>H.ld 2 rfl rfl ?_))));obtain ⟨a',ha,h2⟩:=hp he SC;rw[ha];refine (QV (H.ext.AR hb id) h2).mono ?_;rintro r2 ok2 w6 ⟨⟨e2,ug,rfl⟩,e6⟩;have H:=H.AB e6;have Zy:=H.size;refine H.nw fun w7 H=>?_
  simp only[ae,ag]at H
  iterate 5 (refine H.st 3 rfl (by simp) (.inr Zy) fun _ H=>?_;simp only[af,aa,ab]at H)
  by_cases he2:e2=0
  ·refine Br.f (by rw[he2];rfl) ?_
   iterate 5 refine H.ld 3 rfl rfl ?_
   refine (Je _ _ _ _).mono ?_;rintro q w8 ⟨rfl,e8⟩;have H:=H.AB e8;refine Br.t ?_ (out H rfl);have:=ug he2;by_cases h5:r2.1=5
   ·rw[bf.2 (this h5),bN];rfl
   ·rw[bf.2 h5,bT];rfl
  ·exact Br.t (by rw[bf.2 he2];rfl) (out H rfl)
 ·exact Br.t (by rw[bf.2 he];rfl) (out H rfl)
theorem Y4 {n g:Int}{U:By}(hb:Fb w b s a)(x:Int)(y:ByteArray)(k:Int)(h1:1<=n)(h2:n<=8191)(h3:0<=g)(h4:g<=65535)(hr:D3 s a (Kw U g::AX Vc::ps) c):
  k8 (some ⟨b,0,none⟩) (k,x,(a:Int),n,y) w fun r ok w1=>ok=true/\r=(8,n,g,⟨#[]⟩,⟨none,0,0⟩,⟨none,0,0⟩)/\∃a':Nat,D3 s a' ps c/\Fb w1 b s a'/\Ext (·=b) w w1:=by
 obtain ⟨x1,a1,fh,_,hr⟩:=hr.next
 obtain ⟨x2,a2,pF,_,hr⟩:=hr.next
 refine zF (some ⟨b,0,none⟩) (k,x,(a:Int),n,y) w _ ?_;unfold sx;refine (Hx.one (F:=(·=b)) hb).nw fun w2 H=>?_
 have hg:=H.size;refine H.nw fun w3 H=>?_
 simp only[ae,ag,add_lit,ah]at H⊢;refine H.ld 1 rfl rfl (Br.dec (fun q=>by have:n<1:=q;omega) fun _=>H.ld 1 rfl rfl (Br.dec (fun q=>by have:n>8191:=q;omega) fun _=>H.ld 1 rfl rfl ?_));refine (QV (H.get 0 rfl) fh).mono ?_;rintro r ok w4 ⟨⟨e,⟨rfl,rfl⟩,rfl⟩,e4⟩;have H:=H.AB e4;have hs:=H.size;refine H.nw fun w5 H=>?_
 simp only[ae,ag]at H
 iterate 5 (refine H.st 3 rfl (by simp) (.inr hs) fun _ H=>?_;simp only[af,aa,ab]at H)
 refine Br.f rfl (H.ld 3 rfl rfl (Br.f rfl (H.ld 3 rfl rfl (Br.dec (fun q=>by have:g<0:=q;omega) fun _=>H.ld 3 rfl rfl (Br.dec (fun q=>by have:g>65535:=q;omega) fun _=>H.ld 3 rfl rfl ?_)))));refine (QV (H.get 0 rfl) pF).mono ?_;rintro r2 ok2 w6 ⟨⟨e2,⟨rfl,rfl⟩,rfl⟩,e6⟩;have H:=H.AB e6;have Zy:=H.size;refine H.nw fun w7 H=>?_
 simp only[ae,ag]at H
 iterate 5 (refine H.st 4 rfl (by simp) (.inr Zy) fun _ H=>?_;simp only[af,aa,ab]at H)
 refine Br.f rfl ?_
 iterate 5 refine H.ld 4 rfl rfl ?_
 refine (Je _ _ _ _).mono ?_;rintro q w8 ⟨rfl,e8⟩;have H:=H.AB e8;refine Br.f (show (!(((5:Int)==5)&&((ba Vc).toList==(⟨#[82]⟩:cI).toList)))=false by decide+kernel) (H.ld 4 rfl rfl (Nn.of ?_));simp only[add_lit,ah];refine H.st 0 rfl (by simp) (.inl rfl) fun v2 H=>?_
 simp only[af,aa,ab]at H;refine H.ld 1 rfl rfl (H.ld 3 rfl rfl ((mU _ _ _).mono ?_));rintro r w9 ⟨rfl,e9⟩;have H:=H.AB e9;refine Hx.GX H 2 rfl rfl (.inr hg) fun v2 H _=>Hx.I9 H 2 rfl ⟨trivial,rfl,a2,hr,H.get 0 rfl,H.ext⟩
end
end Wt
set_option maxRecDepth 8000
namespace Wt
open Sh Fix Tk Tl Vl
def xj (p:Pt):Prop:=p.k=5/\p.s.toList=(⟨#[82]⟩:cI).toList
def FQ (rest:List Pt):Prop:=∃p m,rest=p::m/\(p.k=1->∃q m2,m=q::m2/\¬xj q)
def N8 (rest:List Pt):Prop:=∃q m,rest=q::m/\q.k≠1/\¬xj q
def pn (rest:List Pt):Prop:=∃q m,rest=q::m/\¬xj q
theorem N8.gj{rest:List Pt}(h:N8 rest):FQ rest:=by
 obtain ⟨q,m,h1,h2,h3⟩:=h;exact ⟨q,m,h1,fun h=>absurd h h2⟩
theorem N8.first{rest:List Pt}(h:N8 rest):pn rest:=by
 obtain ⟨q,m,h1,h2,h3⟩:=h;exact ⟨q,m,h1,h3⟩
theorem Y5 {s:ByteArray}{a c:Nat}{rest:List Pt}(h:D3 s a rest c)(k:FQ rest):pj s a:=by
 obtain ⟨p,m,rfl,hp⟩:=k;obtain ⟨x,a',hn,_,h⟩:=h.next
 refine hn.mono ?_;rintro r e ⟨rfl,rfl⟩ _ h1;obtain ⟨q,m2,rfl,hq⟩:=hp h1;obtain ⟨x2,a2,pF,_,_⟩:=h.next
 refine ⟨a',rfl,pF.mono ?_⟩;rintro r e ⟨rfl,rfl⟩ _ h5 h82;exact hq ⟨h5,h82⟩
theorem G4 {p:Pt}(h:p.k≠5):¬xj p:=fun e=>h e.1
theorem Cy {t:Tr}{ps:List Pt}(h:PT t ps):∃p m,ps=p::m/\¬xj p/\Y1 p.k p.s=true/\¬(p.k=6/\p.s.toList=(⟨#[93]⟩:cI).toList)/\(m=[]\/p.k≠1\/∃q m2,m=q::m2/\¬xj q):=by
 cases t with
 |mk k n g s ks kids=>
  rw[PT]at h;rcases h with ⟨rfl,rfl⟩|⟨rfl,rfl⟩|⟨rfl,T,D,hI,rfl⟩|⟨rfl,T,W,P,hT,rfl⟩|⟨rfl,rfl⟩|⟨rfl,rfl⟩|⟨rfl,q,hq,rfl⟩|⟨rfl,q,hq,rfl⟩|⟨rfl,T,D,U,E,hI,hJ,rfl⟩
  ·exact ⟨_,_,rfl,fun h=>absurd h.2 (by decide+kernel),by decide+kernel,fun h=>absurd h.1 (by decide),.inl rfl⟩
  ·refine ⟨_,_,rfl,?_,?_,fun h=>absurd h.1 (show ¬(5:Int)=6 by decide),.inl rfl⟩
   ·split
    ·exact fun h=>absurd h.2 (by decide+kernel)
    ·exact fun h=>absurd h.2 (by decide+kernel)
   ·split
    ·decide+kernel
    ·decide+kernel
  ·exact ⟨_,_,rfl,G4 (show ¬(1:Int)=5 by decide),rfl,fun h=>absurd h.1 (show ¬(1:Int)=6 by decide),.inl rfl⟩
  ·exact ⟨_,_,rfl,G4 (show ¬(2:Int)=5 by decide),rfl,fun h=>absurd h.1 (show ¬(2:Int)=6 by decide),.inl rfl⟩
  ·exact ⟨_,_,rfl,G4 (show ¬(3:Int)=5 by decide),rfl,fun h=>absurd h.1 (show ¬(3:Int)=6 by decide),.inl rfl⟩
  ·exact ⟨_,_,rfl,G4 (show ¬(4:Int)=5 by decide),rfl,fun h=>absurd h.1 (show ¬(4:Int)=6 by decide),.inl rfl⟩
  ·exact ⟨_,_,rfl,G4 (by decide),by decide+kernel,fun h=>absurd h.2 (by decide+kernel),.inr (.inl (by decide))⟩
  ·exact ⟨_,_,rfl,G4 (by decide),by decide+kernel,fun h=>absurd h.2 (by decide+kernel),.inr (.inl (by decide))⟩
  ·exact ⟨_,_,rfl,G4 (show ¬(1:Int)=5 by decide),rfl,fun h=>absurd h.1 (show ¬(1:Int)=6 by decide),.inr (.inr ⟨_,_,rfl,G4 (show ¬(1:Int)=5 by decide)⟩)⟩
theorem Mo:∀{l:List Tr} {qs rest:List Pt},PL l qs->N8 rest->FQ (qs++rest)/\pn (qs++rest)
 |[],qs,rest,h,k=>by
  rw[PL]at h;subst h;exact ⟨k.gj,k.first⟩
 |t::r,qs,rest,h,k=>by
  rw[PL]at h;obtain ⟨a,b,h1,h2,rfl⟩:=h;obtain ⟨_,q,m,e,hq⟩:=Mo h2 k;obtain ⟨p,m1,rfl,hp,_,_,h3⟩:=Cy h1;refine ⟨⟨p,m1++(b++rest),by simp,fun h=>?_⟩,p,m1++(b++rest),by simp,hp⟩;rcases h3 with rfl|h3|⟨q2,m2,rfl,j6⟩
  ·exact ⟨q,m,by rw[ae,e],hq⟩
  ·exact absurd h h3
  ·exact ⟨q2,m2++(b++rest),by simp,j6⟩
theorem SR {l:By}{m:List Pt}:N8 (Ao l::m):=⟨_,_,rfl,show ¬(6:Int)=1 by decide,G4 (show ¬(6:Int)=5 by decide)⟩
theorem gk {k:ByteArray}{m:List Pt}:N8 (Cz k::m):=⟨_,_,rfl,show ¬(4:Int)=1 by decide,G4 (show ¬(4:Int)=5 by decide)⟩
theorem ur {s:ByteArray}(h:(s.toList==(⟨#[]⟩:cI).toList)=true):s=⟨#[]⟩:=by
 have h:=eq_of_beq h;rw[ByteArray.toList_eq,ByteArray.toList_eq]at h;have:s.data=#[]:=Array.toList_inj.1 h;exact ByteArray.ext this
theorem G3 {deep:Int}{k n g:Int}{s:ByteArray}{ks:List ByteArray}{kids:List Tr}{u:Us}(h:A6 deep (.mk k n g s ks kids)=true)(hu:CN k=some u):(u.n=false->n=0)/\(u.g=false->g=0)/\(u.s=false->s=⟨#[]⟩)/\(u.ks=false->ks=[])/\(u.kids=false->kids=[]):=by
 unfold A6 at h;simp only[aj,Tr.k]at h;rw[hu]at h;obtain ⟨_,h⟩:=h;unfold EU at h;simp only[aj,bI,Tr.n,Tr.g,Tr.s,Tr.ks,Tr.kids]at h;obtain ⟨⟨⟨⟨⟨⟨h1,h2⟩,h3⟩,h4⟩,h5⟩,_⟩,_⟩:=h;refine ⟨fun e=>?_,fun e=>?_,fun e=>?_,fun e=>?_,fun e=>?_⟩
 ·rw[e]at h1;simpa using h1
 ·rw[e]at h2;simpa using h2
 ·rw[e]at h3;exact ur (by simpa using h3)
 ·rw[e]at h4;simpa using h4
 ·rw[e]at h5;simpa using h5
theorem DB {S:Nat->Prop}{w:World}{k n g:Int}{s:ByteArray}:Ex S w (k,n,g,s,⟨none,0,0⟩,⟨none,0,0⟩) (.mk k n g s [] []):=
 ⟨1,⟨rfl,rfl,rfl,rfl⟩,⟨KV.nil w,fun h=>absurd rfl h⟩,[],⟨⟨rfl,⟨rfl,fun j v hj=>by simp at hj⟩⟩,fun h=>absurd rfl h⟩,trivial⟩
theorem GY {S:Nat->Prop}{w:World}:∀{L:List Ob} {ts:List Tr},A3 (Ex S w) L ts->∃d,A3 (LQ S w d) L ts
 |[],[],_=>⟨0,trivial⟩
 |o::L,t::ts,h=>by
  obtain ⟨d1,h1⟩:=h.1;obtain ⟨d2,h2⟩:=GY h.2;exact ⟨max d1 d2,h1.le (Nat.le_max_left _ _),h2.imp fun _ _ k=>k.le (Nat.le_max_right _ _)⟩
end Wt
set_option maxRecDepth 100000
namespace Wt
open Sh Fix Tk Tl Vl
theorem fU:El prog 30 68 6 88 (.agg (AH Bk).toArray):=⟨by kernel_rfl,by kernel_rfl,by kernel_rfl,by kernel_rfl,rfl⟩
def W9 (s:ByteArray)(b c:Nat)(t:Tr):Prop:=∀(w:World) (p:Pt) (qs rest:List Pt) (x:Int) (a:Nat) (deep:Int) (PR:Value->World->Prop),Cq (deep+1) t=true->0<=deep->t.k≠9->PT t (p::qs)->D3 s a (qs++rest) c->FQ rest->Fb w b s a->
 Uu (some ⟨b,0,none⟩) (p.tok x (a:Int)) deep w (fun r w1=>∃a':Nat,Ex (fun j=>w.heap.size<=j/\j<w1.heap.size) w1 r t/\D3 s a' rest c/\Fb w1 b s a'/\Ext (·=b) w w1) PR
theorem VS {t k:Tr}(h:k∈t.kids):SizeOf.sizeOf k<SizeOf.sizeOf t:=by
 cases t with
 |mk k' n g s ks kids=>
  have:=List.sizeOf_lt_of_mem (show k∈kids from h);rw[Tr.mk.sizeOf_spec];omega
section
variable {w w1 W:World} {b c a:Nat} {s:ByteArray} {t:Tr} {ps qs rest:List Pt} {deep:Int}
attribute [local irreducible] Ld Sh.St Nw Nn AP Ab Ak Am
theorem mV (hb:Fb w b s a){ks:List Tr}(ih:∀k∈ks,W9 s b c k)(hd:0<=deep)(Bo:∀k∈ks,Cq (deep+1) k=true)(h9:∀k∈ks,k.k≠9)(hl:ks.length<=8191)(hq:PL ks qs)(hr:D3 s a (qs++(Ao [93]::rest)) c)(PR:Value->World->Prop):
  so (some ⟨b,0,none⟩) deep w (fun r w1=>∃a':Nat,Ex (fun j=>w.heap.size<=j/\j<w1.heap.size) w1 r (.mk 6 0 0 ⟨#[]⟩ [] ks)/\D3 s a' rest c/\Fb w1 b s a'/\Ext (·=b) w w1) PR:=by
 refine AG2 _ _ _ _ _ ?_;unfold zN;have Md:=AO.lt hb;refine (Hx.one (F:=(·=b)) hb).nw fun w2 H=>?_
 have hg:=H.size;refine H.nw fun w3 H=>?_
 simp only[ae,ag]at H;refine Hx.GX H 2 rfl rfl (.inr hg) fun w4 H _=>?_
 simp only[aa,ab]at H;have Av:=AO.lt (H.get 1 rfl);have uu:=AO.lt (H.get 2 rfl);have Bg:w.heap.size≠w2.heap.size:=by
  have:=H.nodup;simp only[aC,List.nodup_cons,aw,not_or]at this;exact this.2.1.1
 refine ⟨fun n _ v=>∃(i:Nat) (sl:AA) (a:Nat) (L:List Ob) (q:List Pt),i<=ks.length/\n=ks.length+1-i/\Hx w (·=b) v [(b,#[.string s,.int .i64 (a:Int)],181),(w.heap.size,(AH Bk).toArray,68),(w2.heap.size,(AH (6,0,0,⟨#[]⟩,⟨none,0,0⟩,sl)).toArray,68)]/\
   Row v sl 68 6 (L.flatMap AH)/\L.length=i/\sl.len=i/\A3 (Ex (fun j=>w.heap.size<=j/\j<v.heap.size/\j≠w.heap.size/\j≠w2.heap.size/\¬sl.own j) v) L (ks.take i)/\(∀j,sl.own j->w.heap.size<=j/\j≠w.heap.size/\j≠w2.heap.size)/\
   PL (ks.drop i) q/\D3 s a (q++(Ao [93]::rest)) c/\b<w2.heap.size/\w2.heap.size<v.heap.size,ks.length+1,
  ⟨0,⟨none,0,0⟩,a,[],qs,by omega,by omega,H,Row.nil _ _ _,rfl,rfl,trivial,fun j hj=>(by obtain ⟨a,ha,_⟩:=hj;cases ha),(by rw[b9];exact hq),hr,by omega,uu⟩,?_⟩
 clear H hr hq hb;rintro n st v ⟨i,sl,a,L,q,hi,rfl,H,RC,hL,qW,hA,Bm,hq,hr,LY,uJ⟩;unfold eE;have LP:=H.get 0 rfl;have pY:=H.size;have mW:∀j,sl.own j->j<v.heap.size:=fun j hj=>RC.own_lt hj
 cases D4:ks.drop i with
 |nil=>
  rw[D4,PL]at hq;subst hq;have Oh:i=ks.length:=by
   have:=aq List.length D4;rw[aM,aU]at this;omega
  rw[Oh,aP]at hA;refine (Jf LP hr).mono ?_ fun _ _ h=>h
  rintro r v2 ⟨x,a2,rfl,hr,Ha,e2⟩;have H0:=H;have H:=(H.here (fun j=>j=b\/j=w.heap.size)).MN 0 rfl Ha e2 (.inl (.inl rfl));have HS:=e2.size;simp only[aa,ab]at H;refine H.B5 fun v3 H e3=>?_
  simp only[ae,ag,add_lit,ah]at H⊢
  iterate 5 (refine H.st 3 rfl (by simp) (.inr HS) fun _ H=>?_;simp only[af,aa,ab]at H)
  iterate 5 refine H.ld 3 rfl rfl ?_
  refine (Je _ _ _ _).mono ?_;rintro q v4 ⟨rfl,e4⟩;have H:=H.AB e4;refine Br.t (show (((6:Int)==6)&&((ba [93]).toList==(⟨#[93]⟩:cI).toList))=true by decide+kernel) ?_;have Wi:=H.size;refine Hx.I9 H 2 rfl (Hx.GX H 1 rfl rfl (.inl (.inr rfl)) fun v5 H5 e5=>Hx.I9 H5 1 rfl ?_);have ev:=H5.ext;have hv5:=ev.size;obtain ⟨d,hA⟩:=GY hA;refine ⟨a2,⟨d+1,⟨rfl,rfl,rfl,rfl⟩,⟨KV.nil _,fun h=>absurd rfl h⟩,L,⟨OV.row (RC.AB ev fun j hj h=>?_),fun _ j hj=>⟨(Bm j hj).1,by have:=mW j hj;omega⟩⟩,hA.imp fun x y h=>(LQ.AF ev (fun j hj h=>?_) h).AY fun j hj=>⟨hj.1,by omega⟩⟩,hr,H5.get 0 rfl,H0.ext.trans ev (fun _ h=>h) fun j hj h=>h.elim id fun h=>by omega⟩
  ·have:=Bm j hj;rcases h with rfl|rfl<;>omega
  ·obtain ⟨h1,_,h2,_⟩:=hj;rcases h with rfl|rfl<;>omega
 |cons k r=>
  rw[D4,PL]at hq;obtain ⟨qa,qb,j4,SK,rfl⟩:=hq;obtain ⟨p,m,rfl,uR,ug,hp3,Zv⟩:=Cy j4;have Fp:i<ks.length:=by
   have:=aq List.length D4;rw[aM,ar]at this;omega
  have D9:ks[i]?=some k:=by
   have:=aq (fun l=>l[0]?) D4;simpa using this
  have Zz:=aA D9;have Kv:ks.drop (i+1)=r:=by
   rw[<-bc,D4]
   rfl
  have Hr:ks.take (i+1)=ks.take i++[k]:=by rw[aQ,D9];rfl
  have uv:=Bo k Zz;have VX:deep<24:=by
   rw[DK,aj]at uv;have:=uv.1;unfold A6 at this;simp only[aj,bu]at this;omega
  rw[ag,ag,aO]at hr;have uf:=(Mo SK (SR (l:=[93]) (m:=rest))).1;refine (Jf LP hr).mono ?_ fun _ _ h=>h
  rintro r0 v2 ⟨x,a2,rfl,hr,Ha,e2⟩;have H0:=H;have H:=(H.here (fun j=>j=b)).MN 0 rfl Ha e2 (.inl rfl);have HS:=e2.size;simp only[aa,ab]at H;refine H.B5 fun v3 H e3=>?_
  simp only[ae,ag,add_lit,ah]at H⊢
  iterate 5 (refine H.st 3 rfl (by simp) (.inr HS) fun _ H=>?_;simp only[af,aa,ab]at H)
  iterate 5 refine H.ld 3 rfl rfl ?_
  refine (Je _ _ _ _).mono ?_;rintro q4 v4 ⟨rfl,e4⟩;have H:=H.AB e4;refine Br.f ?_ ?_
  ·show ((p.k==6)&&(p.s.toList==(⟨#[93]⟩:cI).toList))=false;by_cases h6:p.k=6
   ·rw[bf.2 fun h=>hp3 ⟨h6,h⟩,bN]
   ·rw[bf.2 h6,bT]
  iterate 5 refine H.ld 3 rfl rfl ?_
  refine (Et _ _).mono ?_;rintro q5 v5 ⟨rfl,e5⟩;have H:=H.AB e5;refine Br.t ug (Br.dec (fun _=>H.ld 2 rfl rfl (Br.dec (fun q=>by have:(8191:Int)<=(sl.len:Nat):=q;omega) fun _=>?_)) fun q=>absurd VX q);have hb5:=H.get 2 rfl;have hb6:=H.get 3 rfl;have Wi:=H.size;refine ⟨fun u=>AO u w2.heap.size (AH (6,0,0,⟨#[]⟩,⟨none,0,0⟩,sl)).toArray 68/\AO u v2.heap.size (j3 (p.tok (x:Int) (a2:Int))) 114,⟨H.drew.get 2 rfl,H.drew.get 3 rfl⟩,AP.of (fun _ h=>h.1) rfl ?_⟩
  iterate 5 refine AP.of (fun _ h=>h.2) rfl ?_
  have H:=H.drew;have hb9:b<v5.heap.size:=by omega
  refine (ih k Zz v5.drew p m (qb++(Ao [93]::rest)) x a2 deep PR uv hd (h9 k Zz) j4 hr uf (H.get 0 rfl)).mono ?_ fun _ _ h=>h
  rintro r1 v6 ⟨a3,Bd,hr3,ANf,e6⟩;have H:=H.MN 0 rfl ANf e6 (.inl rfl);simp only[aa,ab]at H;have Zy:=e6.size;have AVG:v5.heap.size<=v6.heap.size:=Zy;refine ⟨⟨H.get 2 rfl,H.get 3 rfl⟩,?_⟩;refine H.B5 fun v7 H e7=>?_
  simp only[ae,ag]at H;refine ⟨⟨H.get 2 rfl,H.get 3 rfl⟩,?_⟩;have Vd:=H.get 4 rfl;have ev7:Ext (fun j=>j=b) v v7:=H.ext;have ABd:Row v7 sl 68 6 (L.flatMap AH):=RC.AB ev7 fun j hj (h:j=b)=>by have:=Bm j hj;omega
  obtain ⟨s',v8,r8,r82,r83,e8,RW⟩:=fU.Hu (ty:=30) ABd Vd rfl (P4 r1) (by omega) (by omega);refine ⟨s',v8,r8,?_⟩;have xU:=e8.size;have xT:=e7.size;have hvd:v5.drew.heap.size=v5.heap.size:=rfl;have hv7:v.heap.size<=v7.heap.size:=by omega
  have H:=((H.here (fun j=>j=w2.heap.size\/sl.own j)).left (L:=[_,_,_]) (M:=[_,_])).other e8 (fun j hj=>by
   have:=Bm j hj;have:=mW j hj;simp only[aC,br,aw,aG,bA,not_or];omega) fun j hj=> .inl (.inr hj)
  refine H.BZ 2 rfl (by simp[AH]) (.inl (.inl rfl)) fun v9 H e9=>?_
  simp only[af,aa,ab]at H;have ev9:Ext (fun j=>j=w2.heap.size\/sl.own j) v7 v9:=H.ext;have xW:=e9.size;have evv:Ext (fun j=>j=b\/j=w2.heap.size\/sl.own j) v v9:=ev7.trans ev9 (fun _ h=> .inl h) fun _ _ h=> .inr h
  have BX:∀j,s'.own j->w.heap.size<=j/\j≠w.heap.size/\j≠w2.heap.size:=fun j hj=>(RW j hj).elim (Bm j) fun h=>by omega
  refine ⟨ks.length-i,by omega,i+1,s',a3,L++[r1],qb,by omega,by omega,⟨H.AR,H.nodup,H0.ext.trans evv (fun _ h=>h) fun j hj h=>?_⟩,?_,by simp[hL],by omega,?_,BX,(by rw[Kv];exact SK),hr3,LY,by omega⟩
  ·rcases h with h|h|h
   ·exact h
   ·omega
   ·have:=Bm j h;omega
  ·rw[bg,bZ];exact r82.AB e9 fun j hj h=>(BX j hj).2.2 h
  ·rw[Hr];have k1:A3 (Ex (fun j=>w.heap.size<=j/\j<v9.heap.size/\j≠w.heap.size/\j≠w2.heap.size/\¬s'.own j) v9) L (ks.take i):=by
    refine hA.imp fun x y h=>(h.AF evv fun j hj h=>?_).AY fun j hj=>⟨hj.1,by omega,hj.2.2.1,hj.2.2.2.1,fun h=>?_⟩
    ·rcases h with h|h|h
     ·omega
     ·exact hj.2.2.2.1 h
     ·exact hj.2.2.2.2 h
    ·rcases RW j h with h|h
     ·exact hj.2.2.2.2 h
     ·omega
   have k2:Ex (fun j=>w.heap.size<=j/\j<v9.heap.size/\j≠w.heap.size/\j≠w2.heap.size/\¬s'.own j) v9 r1 k:=by
    refine ((Bd.AF e7 fun _ _ h=>h).AF ev9 fun j hj h=>?_).AY fun j hj=>⟨by omega,by omega,by omega,by omega,fun h=>?_⟩
    ·rcases h with h|h
     ·omega
     ·have:=mW j h;omega
    ·rcases RW j h with h|h
     ·have:=mW j h;omega
     ·omega
   exact Ck k1 k2
end
end Wt
end Go.Proofs.YtmaekpnpnjndoaaGreatDoor
namespace Go.Proofs
open Go.Shelf
def Tryz.TC:Go.Shelf.Ren:=⟨fun|190=>138|125=>157|258=>156|128=>187|129=>188|302=>178|303=>179|304=>180|305=>181|306=>182|307=>183|308=>184|309=>185|310=>186|333=>201|329=>202|330=>203|334=>204|335=>205|336=>206|344=>217|n=>n,fun|31=>66|9=>9|3=>3|46=>167|0=>0|51=>188|53=>255|4=>4|183=>248|182=>247|131=>198|5=>5|218=>268|222=>272|228=>278|229=>279|n=>n,fun|n=>n⟩
theorem Tryz.XU:Go.Proofs.Lays.n190 Tryz.prog Tryz.TC:={
 mixed:=by kernel_rfl
 f125:=Tryz.func157.trans (congrArg some (by kernel_rfl))
 f128:=Tryz.func187.trans (congrArg some (by kernel_rfl))
 f129:=Tryz.func188.trans (congrArg some (by kernel_rfl))
 f190:=Tryz.func138.trans (congrArg some (by kernel_rfl))
 f258:=Tryz.func156.trans (congrArg some (by kernel_rfl))
 f302:=Tryz.func178.trans (congrArg some (by kernel_rfl))
 f303:=Tryz.func179.trans (congrArg some (by kernel_rfl))
 f304:=Tryz.func180.trans (congrArg some (by kernel_rfl))
 f305:=Tryz.func181.trans (congrArg some (by kernel_rfl))
 f306:=Tryz.func182.trans (congrArg some (by kernel_rfl))
 f307:=Tryz.func183.trans (congrArg some (by kernel_rfl))
 f308:=Tryz.func184.trans (congrArg some (by kernel_rfl))
 f309:=Tryz.func185.trans (congrArg some (by kernel_rfl))
 f310:=Tryz.func186.trans (congrArg some (by kernel_rfl))
 f329:=Tryz.func202.trans (congrArg some (by kernel_rfl))
 f330:=Tryz.func203.trans (congrArg some (by kernel_rfl))
 f333:=Tryz.func201.trans (congrArg some (by kernel_rfl))
 f334:=Tryz.func204.trans (congrArg some (by kernel_rfl))
 f335:=Tryz.func205.trans (congrArg some (by kernel_rfl))
 f336:=Tryz.func206.trans (congrArg some (by kernel_rfl))
 f344:=Tryz.func217.trans (congrArg some (by kernel_rfl))
 t0:=Tryz.underlying0
 a0:=Tryz.isAgg0
 z0:=Tryz.sizeOf0
 v0:=Tryz.zeroValue0
 t3:=Tryz.underlying3
 a3:=Tryz.isAgg3
 z3:=Tryz.sizeOf3
 v3:=Tryz.zeroValue3
 t4:=Tryz.underlying4
 a4:=Tryz.isAgg4
 z4:=Tryz.sizeOf4
 v4:=Tryz.zeroValue4
 t5:=Tryz.underlying5
 a5:=Tryz.isAgg5
 z5:=Tryz.sizeOf5
 v5:=Tryz.zeroValue5
 t9:=Tryz.underlying9
 a9:=Tryz.isAgg9
 z9:=Tryz.sizeOf9
 v9:=Tryz.zeroValue9
 t31:=Tryz.underlying66
 a31:=Tryz.isAgg66
 z31:=Tryz.sizeOf66
 v31:=Tryz.zeroValue66
 t46:=Tryz.underlying167
 a46:=Tryz.isAgg167
 z46:=Tryz.sizeOf167
 v46:=Tryz.zeroValue167
 t51:=Tryz.underlying188
 a51:=Tryz.isAgg188
 z51:=Tryz.sizeOf188
 v51:=Tryz.zeroValue188
 t53:=Tryz.underlying255
 a53:=Tryz.isAgg255
 z53:=Tryz.sizeOf255
 v53:=Tryz.zeroValue255
 t131:=Tryz.underlying198
 a131:=Tryz.isAgg198
 z131:=Tryz.sizeOf198
 v131:=Tryz.zeroValue198
 t182:=Tryz.underlying247
 a182:=Tryz.isAgg247
 z182:=Tryz.sizeOf247
 v182:=Tryz.zeroValue247
 t183:=Tryz.underlying248
 a183:=Tryz.isAgg248
 z183:=Tryz.sizeOf248
 v183:=Tryz.zeroValue248
 t218:=Tryz.underlying268
 a218:=Tryz.isAgg268
 z218:=Tryz.sizeOf268
 v218:=Tryz.zeroValue268
 t222:=Tryz.underlying272
 a222:=Tryz.isAgg272
 z222:=Tryz.sizeOf272
 v222:=Tryz.zeroValue272
 t228:=Tryz.underlying278
 a228:=Tryz.isAgg278
 z228:=Tryz.sizeOf278
 v228:=Tryz.zeroValue278
 t229:=Tryz.underlying279
 a229:=Tryz.isAgg279
 z229:=Tryz.sizeOf279
 v229:=Tryz.zeroValue279}
def Tryz.TD:Go.Shelf.Ren:=⟨fun|110=>36|109=>61|n=>n,fun|31=>66|9=>9|4=>4|3=>3|0=>0|n=>n,fun|n=>n⟩
theorem Tryz.nJ:Go.Proofs.Lays.n110 Tryz.prog Tryz.TD:={
 mixed:=by kernel_rfl
 f109:=Tryz.func61.trans (congrArg some (by kernel_rfl))
 f110:=Tryz.func36.trans (congrArg some (by kernel_rfl))
 t0:=Tryz.underlying0
 a0:=Tryz.isAgg0
 z0:=Tryz.sizeOf0
 v0:=Tryz.zeroValue0
 t3:=Tryz.underlying3
 a3:=Tryz.isAgg3
 z3:=Tryz.sizeOf3
 v3:=Tryz.zeroValue3
 t4:=Tryz.underlying4
 a4:=Tryz.isAgg4
 z4:=Tryz.sizeOf4
 v4:=Tryz.zeroValue4
 t9:=Tryz.underlying9
 a9:=Tryz.isAgg9
 z9:=Tryz.sizeOf9
 v9:=Tryz.zeroValue9
 t31:=Tryz.underlying66
 a31:=Tryz.isAgg66
 z31:=Tryz.sizeOf66
 v31:=Tryz.zeroValue66}
open Go.Sort Go.RowKit in
theorem Tryz.slices_Sort_string(AR off cap:Nat)(ss:List (List UInt8))(w:World)(hH:Holds encStr w AR off ss.toArray)(AOG:AR<w.heap.size)(Gx:ss.length<4611686018427387904):
  Calls Tryz.prog 138 #[.slice (some ⟨AR,off,none⟩) ss.length cap] w fun e w'=>
   e= .returned (.tuple #[])/\∃n os,w'=grow (putRow encStr (Sort.ahead w n) AR off (ss.mergeSort fun x y=>decide (x<=y)).toArray) os:=Any.slices_Sort_string Tryz.XU AR off cap ss w hH AOG Gx
open Go.RowKit Go.Sort in
theorem Tryz.slices_Sort_string_none(p:Option Addr)(cap:Nat)(w:World):
  Calls Tryz.prog 138 #[.slice p 0 cap] w fun e w'=>e= .returned (.tuple #[])/\w'=w:=Any.slices_Sort_string_none Tryz.XU p cap w
open Go.Lib in
theorem Tryz.slices_Contains_string(b off n c:Nat)(zs:List ByteArray)(x:ByteArray)(w:World)(hz:n<=zs.length)(AOH:n<=9223372036854775807)(hc:∀j,j<zs.length->w.cell? ⟨b,off+j,none⟩=some (.string (zs.getD j ByteArray.empty))):
  Calls Tryz.prog 36 #[.slice (some ⟨b,off,none⟩) n c,.string x] w fun e w'=>e= .returned (.bool (Lib.containsS (zs.take n) x))/\w'=w:=Any.slices_Contains_string Tryz.nJ b off n c zs x w hz AOH hc
end Go.Proofs
namespace Go.Proofs.YtmaekpnpnjndoaaGreatDoor
namespace Sh
open Go.WideMaps Go.WideShapes
abbrev N6:Type:=List (ByteArray×Value)
def Qz (E:List MapEntry)(L:N6):Prop:=E.map (fun e=>(e.key,e.val))=L.map fun p=>((.string p.1:Value),p.2)
structure HX (w:World) (b:Nat) (L:N6):Prop where
 AR:∃(E:Array MapEntry) (clock:Nat),w.heap[b]?=some (.map E clock)/\Qz E.toList L
 one:(L.map (·.1)).Nodup
 OR:∀p∈L,p.1.size<=maxLen
 born:∀(E:Array MapEntry) (clock:Nat),w.heap[b]?=some (.map E clock)->(E.toList.map (·.born)).Nodup/\∀e∈E.toList,e.born<clock
def N7:N6->ByteArray->Option Value
 |[],_=>none
 |p::L,k=>if p.1=k then some p.2 else N7 L k
def JV:N6->ByteArray->Value->N6
 |[],k,v=>[(k,v)]
 |p::L,k,v=>if p.1=k then (k,v)::L else p::JV L k v
theorem JW {L:N6}{k:ByteArray}(h:k∉L.map (·.1)):N7 L k=none:=by
 induction L with
 |nil=>rfl
 |cons p L ih=>
  rw[aC]at h;unfold N7;rw[az (fun e=>h (by rw[e];exact ax ..))];exact ih fun hm=>h (ay _ hm)
section
variable {P:Program} {w:World} {t k e:TypeId} {b:Nat} {L:N6} {z:Value}
theorem HX.AF{F:Nat->Prop}{w':World}(h:HX w b L)(he:Ext F w w')(hb:¬F b):HX w' b L:=by
 obtain ⟨E,c,h1,h2⟩:=h.AR;have hl:=(au.1 h1).1;exact ⟨⟨E,c,by rw[he.block b hl hb];exact h1,h2⟩,h.one,h.OR,fun E' c' h'=>h.born E' c' (by rw[<-he.block b hl hb];exact h')⟩
theorem HX.AB{w':World}(h:HX w b L)(he:Ext (fun _=>False) w w'):HX w' b L:=h.AF he id
theorem HX.lt(h:HX w b L):b<w.heap.size:=by
 obtain ⟨E,c,h1,h2⟩:=h.AR;exact (au.1 h1).1
theorem HX.new(w:World):HX (w.alloc (.map #[] 0)) w.heap.size []:=⟨⟨#[],0,by show (w.heap.push _)[w.heap.size]?=_;simp,rfl⟩,List.nodup_nil,fun p hp=>(by cases hp),fun E c h=>by
 have h:(w.heap.push (.map #[] 0))[w.heap.size]?=some (.map E c):=h;simp only[Array.getElem?_push_size,bw,Obj.map.injEq]at h;rw[<-h.1];simp⟩
theorem GW (L:N6)(k:ByteArray)(v:Value):(k∈L.map (·.1)/\(JV L k v).map (·.1)=L.map (·.1))\/(k∉L.map (·.1)/\JV L k v=L++[(k,v)]):=by
 induction L with
 |nil=>exact .inr ⟨by simp,rfl⟩
 |cons p L ih=>
  unfold JV;by_cases hp:p.1=k
  ·rw[aD hp];exact .inl ⟨by rw[aC,hp];exact ax ..,by rw[aC,aC,hp]⟩
  ·rw[az hp];rcases ih with ⟨h1,h2⟩|⟨h1,h2⟩
   ·exact .inl ⟨ay _ h1,by rw[aC,aC,h2]⟩
   ·exact .inr ⟨fun h=>by
     rw[aC]at h;rcases aw.1 h with h|h
     ·exact hp h.symm
     ·exact h1 h,by rw[h2];rfl⟩
theorem Mf {L:N6}(h:(L.map (·.1)).Nodup)(k:ByteArray)(v:Value):((JV L k v).map (·.1)).Nodup:=by
 rcases GW L k v with ⟨_,h2⟩|⟨h1,h2⟩
 ·rw[h2];exact h
 ·rw[h2,bd];exact cC.2 ⟨h,by simp,fun a ha c hc e=>h1 (by rw[aC,br,av]at hc;rw[<-show c=k from hc,<-e];exact ha)⟩
theorem SE {L:N6}{k:ByteArray}{v:Value}(h:∀p∈L,p.1.size<=maxLen)(hk:k.size<=maxLen):∀p∈JV L k v,p.1.size<=maxLen:=by
 induction L with
 |nil=>intro p hp;rw[av.1 hp];exact hk
 |cons q L ih=>
  intro p hp;unfold JV at hp;split at hp
  ·rcases aw.1 hp with rfl|hp
   ·exact hk
   ·exact h p (ay _ hp)
  ·rcases aw.1 hp with rfl|hp
   ·exact h p (ax ..)
   ·exact ih (fun p hp=>h p (ay _ hp)) p hp
theorem at_key {L:N6}(h:(L.map (·.1)).Nodup){j:Nat}{k:ByteArray}{x:Value}(hj:L[j]?=some (k,x)):N7 L k=some x/\∀v,JV L k v=L.set j (k,v):=by
 induction L generalizing j with
 |nil=>cases hj
 |cons p L ih=>
  cases j with
  |zero=>
   cases hj;exact ⟨by unfold N7;rw[aD rfl],fun v=>by unfold JV;rw[aD rfl];rfl⟩
  |succ j=>
   have hj:L[j]?=some (k,x):=by simpa using hj
   rw[aC,List.nodup_cons]at h;have Bg:¬p.1=k:=fun e=>h.1 (by rw[e];exact cl.2 ⟨_,aA hj,rfl⟩)
   obtain ⟨h1,h2⟩:=ih h.2 hj;refine ⟨?_,fun v=>?_⟩
   ·unfold N7;rw[az Bg];exact h1
   ·unfold JV;rw[az Bg,h2]
    rfl
theorem Qz.get{E:List MapEntry}(h:Qz E L){i:Nat}{x:MapEntry}(hi:E[i]?=some x):∃p,L[i]?=some p/\x.key= .string p.1/\x.val=p.2:=by
 have h1:(E.map fun e=>(e.key,e.val))[i]?=some (x.key,x.val):=by rw[aR,hi];rfl
 rw[h,aR]at h1;obtain ⟨p,hp,h2⟩:=aX.1 h1;exact ⟨p,hp,(aq Prod.fst h2).symm,(aq Prod.snd h2).symm⟩
theorem Qz.keys{E:List MapEntry}(h:Qz E L)(hk:P.underlying k=some .string)(hs:∀p∈L,p.1.size<=maxLen):∀x∈E,∃l,keyOf P k x.key=some l:=fun x hx=>by
 obtain ⟨i,hi⟩:=bP hx;obtain ⟨p,hp,h1,_⟩:=h.get hi;exact ⟨_,by rw[h1];exact keyOf_string_mk hk (hs p (aA hp))⟩
theorem QH {E:List MapEntry}(h:Qz E L)(hn:(L.map (·.1)).Nodup)(hk:P.underlying k=some .string)(hs:∀p∈L,p.1.size<=maxLen){key:ByteArray}(EZ:key.size<=maxLen)(w:World):
  ((Instr.findKey k (.string key) E).run P w= .ok none w/\N7 L key=none/\key∉L.map (·.1))\/∃j x,(Instr.findKey k (.string key) E).run P w= .ok (some (j,x)) w/\L[j]?=some (key,x)/\(E[j]?).map (·.key)=some (.string key):=by
 rcases (string_law hk).find w (keyOf_string_mk hk EZ) E (h.keys hk hs)with ⟨h1,h2⟩|⟨j,x,h1,h2,h3⟩
 ·have no:key∉L.map (·.1):=fun hm=>by
   obtain ⟨p,hp,e⟩:=cl.1 hm;obtain ⟨i,hi⟩:=bP hp;have hl:(E.map fun e=>(e.key,e.val))[i]?=some ((.string p.1:Value),p.2):=by rw[h,aR,hi];rfl
   rw[aR]at hl;obtain ⟨x,hx,h4⟩:=aX.1 hl;refine h2 x (aA hx) ?_;exact (aq Prod.fst h4).trans (by rw[e])
  exact .inl ⟨h1,JW no,no⟩
 ·obtain ⟨p,hp,h4,h5⟩:=h.get h2;have uR:p.1=key:=by
   rw[h3]at h4;exact (Value.string.inj h4).symm
  exact .inr ⟨j,x.val,h1,by rw[hp,h5,<-uR],by rw[h2];exact aq some h3⟩
theorem HX.look(h:HX w b L)(ht:P.underlying t=some (.map k e))(hk:P.underlying k=some .string)(hz:(zeroValue e).run P w= .ok z w){key:ByteArray}(EZ:key.size<=maxLen):
  BA P (Instr.lookup t (.map (some b)) (.string key) false) w ((N7 L key).getD z) w:=by
 obtain ⟨E,c,hb,hE⟩:=h.AR;have Cx:=keyOf_string_mk hk EZ;have jz:=(string_law hk).check w E.isEmpty Cx;rcases QH hE h.one hk h.OR EZ w with ⟨h1,h2,_⟩|⟨j,x,h1,h2,_⟩
 ·rw[h2];simp[BA,Instr.lookup,run_underlying ht,MapKept.run_getObj_map hb,jz,h1,hz,Result.andThen]
 ·rw[(at_key h.one h2).1];simp[BA,Instr.lookup,run_underlying ht,MapKept.run_getObj_map hb,jz,h1,Result.andThen]
theorem HX.put(h:HX w b L)(ht:P.underlying t=some (.map k e))(hk:P.underlying k=some .string){key:ByteArray}(EZ:key.size<=maxLen)(v:Value):
  ∃w',mB P (Instr.mapUpdate t (.map (some b)) (.string key) v) w w'/\HX w' b (JV L key v)/\Ext (·=b) w w':=by
 obtain ⟨E,c,hb,hE⟩:=h.AR;have Cx:=keyOf_string_mk hk EZ;have jz:=(string_law hk).check w false Cx;have ext:∀o:Obj,Ext (·=b) w {w with heap:=w.heap.setIfInBounds b o}:=fun o=>⟨rfl,rfl,rfl,by simp,fun i hi hn=>by
  show (w.heap.setIfInBounds b o)[i]?=_;rw[Array.getElem?_setIfInBounds_ne (fun e=>hn e.symm)]⟩
 have here:∀o:Obj,({w with heap:=w.heap.setIfInBounds b o}:World).heap[b]?=some o:=fun o=>by
  show (w.heap.setIfInBounds b o)[b]?=_;rw[Array.getElem?_setIfInBounds_self_of_lt (au.1 hb).1]
 rcases QH hE h.one hk h.OR EZ w with ⟨h1,h2,h3⟩|⟨j,x,h1,h2,h3⟩
 ·refine ⟨{w with heap:=w.heap.setIfInBounds b (.map (E.push {key:= .string key,val:=v,born:=c}) (c+1))},?_,⟨⟨_,_,here _,?_⟩,Mf h.one _ _,SE h.OR EZ,fun E' c' h'=>?_⟩,ext _⟩;rotate_left 2
  ·rw[here]at h';simp only[bw,Obj.map.injEq]at h';obtain ⟨rfl,rfl⟩:=h';obtain ⟨b1,b2⟩:=h.born E c hb;rw[Array.toList_push];refine ⟨?_,fun e he=>?_⟩
   ·rw[bd,cC];refine ⟨b1,by simp,fun x hx y hy e=>?_⟩;simp only[aC,br,av]at hy;obtain ⟨z,hz,rfl⟩:=cl.1 hx;have:=b2 z hz;omega
   ·rcases aS.1 he with he|he
    ·have:=b2 e he;omega
    ·rw[av.1 he];exact cv _
  ·simp[mB,Instr.mapUpdate,run_underlying ht,MapKept.run_getObj_map hb,jz,h1,Result.andThen,MapKept.run_setObj_map _ hb]
  ·rcases GW L key v with ⟨h4,_⟩|⟨_,h4⟩
   ·exact absurd h4 h3
   ·rw[h4];unfold Qz at hE⊢;rw[Array.toList_push,bd,hE,bd]
    rfl
 ·obtain ⟨y,hy,hy2⟩:=aX.1 h3;have hyE:E[j]?=some y:=by simpa using hy
  refine ⟨{w with heap:=w.heap.setIfInBounds b (.map (E.modify j fun e=>{e with key:= .string key,val:=v}) c)},?_,⟨⟨_,_,here _,?_⟩,Mf h.one _ _,SE h.OR EZ,fun E' c' h'=>?_⟩,ext _⟩;rotate_left 2
  ·rw[here]at h';simp only[bw,Obj.map.injEq]at h';obtain ⟨rfl,rfl⟩:=h';obtain ⟨b1,b2⟩:=h.born E c hb;have em:(E.modify j fun e=>{e with key:= .string key,val:=v}).toList.map (·.born)=E.toList.map (·.born):=by
    rw[Array.toList_modify];apply List.ext_getElem?;intro i;rw[aR,aR,List.getElem?_modify];by_cases Tf:j=i
    ·subst Tf;simp;cases E[j]?<;>rfl
    ·simp[Tf]
   refine ⟨em▸b1,fun e he=>?_⟩;have:e.born∈E.toList.map (·.born):=em▸b6 he;obtain ⟨z,hz,e2⟩:=cl.1 this;have:=b2 z hz;omega
  ·simp[mB,Instr.mapUpdate,run_underlying ht,MapKept.run_getObj_map hb,jz,h1,Result.andThen,MapKept.run_setObj_map _ hb,hyE,hy2,(string_law hk).stays w Cx]
  ·rw[(at_key h.one h2).2];unfold Qz at hE⊢;have hEi:∀i,(E.toList[i]?).map (fun e:MapEntry=>(e.key,e.val))=(L[i]?).map (fun p:ByteArray×Value=>((.string p.1:Value),p.2)):=fun i=>by rw[<-aR,hE,aR]
   rw[Array.toList_modify];apply List.ext_getElem?;intro i;have hL:j<L.length:=(ao.1 h2).1;rw[aR,aR,List.getElem?_modify,List.getElem?_set];by_cases Tf:j=i
   ·subst Tf;rw[aD rfl,aD hL,hy];simp
   ·rw[az Tf,<-hEi i];simp[Tf]
end
end Sh
namespace Sh
open Go.WideMaps Go.WideShapes
open Go.ChangeMaps (setBlock)
theorem Qz.len{E:List MapEntry}{L:N6}(h:Qz E L):E.length=L.length:=by
 have:=aq List.length h;simpa using this
theorem Qz.back{E:List MapEntry}{L:N6}(h:Qz E L):E.map (fun e=>match e.key with| .string s=>(s,e.val)|_=>(⟨#[]⟩,e.val))=L:=by
 have:=aq (List.map fun q:Value×Value=>match q.1 with| .string s=>(s,q.2)|_=>((⟨#[]⟩:cI),q.2)) h;rw[List.map_map,List.map_map]at this;have e:((fun q:Value×Value=>match q.1 with| .string s=>(s,q.2)|_=>((⟨#[]⟩:cI),q.2))∘fun p:ByteArray×Value=>((.string p.1:Value),p.2))=id:=by
  funext p
  rfl
 rw[e,List.map_id]at this;rw[<-this]
 rfl
theorem Qz.perm{D E:List MapEntry}{done L:N6}(h:Qz E L)(k:Qz D done)(hp:D.Perm E):done.Perm L:=by
 rw[<-h.back,<-k.back];exact hp.map _
section
variable {P:Program} {w:World} {t k e:TypeId} {b:Nat} {L:N6} {z:Value}
theorem HX.pQ(h:HX w b L)(ht:P.underlying t=some (.map k e))(hk:P.underlying k=some .string)(hz:(zeroValue e).run P w= .ok z w){key:ByteArray}(EZ:key.size<=maxLen):
  BA P (Instr.lookup t (.map (some b)) (.string key) true) w (.tuple #[(N7 L key).getD z,.bool (N7 L key).isSome]) w:=by
 obtain ⟨E,c,hb,hE⟩:=h.AR;have Cx:=keyOf_string_mk hk EZ;have jz:=(string_law hk).check w E.isEmpty Cx;rcases QH hE h.one hk h.OR EZ w with ⟨h1,h2,_⟩|⟨j,x,h1,h2,_⟩
 ·rw[h2];simp[BA,Instr.lookup,run_underlying ht,MapKept.run_getObj_map hb,jz,h1,hz,Result.andThen]
 ·rw[(at_key h.one h2).1];simp[BA,Instr.lookup,run_underlying ht,MapKept.run_getObj_map hb,jz,h1,Result.andThen]
theorem HX.len(h:HX w b L)(ht:P.underlying t=some (.map k e)){ty:TypeId}(hl:L.length<=9223372036854775807):BA P (Builtin.len_ #[t] ty #[.map (some b)]) w (.int .i64 (L.length:Int)) w:=by
 obtain ⟨E,c,hb,hE⟩:=h.AR;have:=hE.len;have hw:IntKind.i64.wrap ((L.length:Nat):Int)=(L.length:Int):=IntWalk.i64_in _ (by omega);simp[BA,Builtin.len_,run_underlying ht,MapKept.run_getObj_map hb,goInt,Result.andThen];rw[<-bL,this]
structure mC (w:World) (it bm:Nat) (L done:N6):Prop where
 out:∃(E:Array MapEntry) (c:Nat) (D:List MapEntry),w.heap[bm]?=some (.map E c)/\w.heap[it]?=some (.mapIter (some bm) c (D.map (·.born)).toArray c)/\Qz E.toList L/\(E.toList.map (·.born)).Nodup/\(∀x∈E.toList,x.born<c)/\
  Qz D done/\(D.map (·.born)).Nodup/\∀x∈D,x∈E.toList
theorem mC.AF{F:Nat->Prop}{w':World}{it bm:Nat}{done:N6}(h:mC w it bm L done)(he:Ext F w w')(h1:¬F it)(h2:¬F bm):mC w' it bm L done:=by
 obtain ⟨E,c,D,a1,a2,a3⟩:=h.out;exact ⟨E,c,D,by rw[he.block bm (au.1 a1).1 h2];exact a1,by rw[he.block it (au.1 a2).1 h1];exact a2,a3⟩
theorem HX.range(h:HX w b L)(ht:P.underlying t=some (.map k e)):∃w',BA P (Instr.range t (.map (some b))) w (.pointer (some ⟨w.heap.size,0,none⟩)) w'/\Ext (fun _=>False) w w'/\mC w' w.heap.size b L []/\w.heap.size<w'.heap.size:=by
 obtain ⟨E,c,hb,hE⟩:=h.AR;obtain ⟨b1,b2⟩:=h.born E c hb;refine ⟨_,run_range_map w t k e b E c ht hb,(Ext.refl _ w).alloc _,⟨E,c,[],?_,?_,hE,b1,b2,rfl,List.nodup_nil,fun x hx=>by cases hx⟩,by simp⟩
 ·rw[heap_alloc_old w _ (au.1 hb).1];exact hb
 ·rw[heap_alloc_new]
  rfl
theorem QI {w:World}{r:Nat}{o:Obj}:Ext (·=r) w (setBlock w r o):=⟨rfl,rfl,rfl,by simp[setBlock],fun i hi hn=>by
 show (w.heap.setIfInBounds r o)[i]?=_;rw[Array.getElem?_setIfInBounds_ne (fun e=>hn e.symm)]⟩
theorem mC.next{it bm:Nat}{done:N6}{ty:TypeId}(h:mC w it bm L done):
  (BA P (Instr.next (.pointer (some ⟨it,0,none⟩)) false ty) w (.tuple #[.bool false]) w/\done.Perm L)\/
  ∃key v w',BA P (Instr.next (.pointer (some ⟨it,0,none⟩)) false ty) w (.tuple #[.bool true,.string key,v]) w'/\Ext (·=it) w w'/\mC w' it bm L (done++[(key,v)])/\(key,v)∈L/\done.length<L.length/\BA P (Instr.entry (.pointer (some ⟨it,0,none⟩))) w' (.tuple #[.string key,v]) w':=by
 obtain ⟨E,c,D,hb,hi,hE,b1,b2,hD,d1,d2⟩:=h.out;have Bg:it≠bm:=fun e=>by rw[e,hb]at hi;cases hi
 have hDn:D.Nodup:=(List.pairwise_map.1 d1).imp fun h e=>h (by rw[e])
 have hEn:E.toList.Nodup:=(List.pairwise_map.1 b1).imp fun h e=>h (by rw[e])
 have inj:∀x∈E.toList,∀y∈E.toList,x.born=y.born->x=y:=fun x hx y hy e=>by
  have h1:=find_born x E.toList b1 hx;have h2:=find_born y E.toList b1 hy;rw[e,h2]at h1;exact (aZ h1).symm
 rcases run_next_at (P:=P) w ty it bm c c (D.map (·.born)).toArray E c hi hb b2 (aB _)with ⟨h0,hr⟩|⟨x,hx,w1,tz,hr⟩
 ·refine .inl ⟨hr,hE.perm hD ((List.perm_ext_iff_of_nodup hDn hEn).2 fun x=>⟨d2 x,fun hx=>?_⟩)⟩;have:leftOf E (D.map (·.born)).toArray=#[]:=Array.eq_empty_of_size_eq_zero h0;unfold leftOf at this;rw[Array.filter_eq_empty_iff]at this;have h1:=this x (by simpa using hx);simp only[List.contains_toArray,bO,Bool.not_eq_false,aY]at h1;obtain ⟨y,hy,e⟩:=cl.1 h1;exact inj y (d2 y hy) x hx e▸hy
 ·unfold leftOf at hx;have LX:x∈E.toList/\x.born∉D.map (·.born):=by
   simp only[Array.toList_filter,cH,List.contains_toArray,bO,List.contains_eq_mem,bM]at hx;exact hx
  obtain ⟨i,gF⟩:=bP LX.1;obtain ⟨p,hp,e1,e2⟩:=hE.get gF;have ANF:Ext (·=it) w w1:=by
   rcases tz with rfl|rfl
   ·exact Ext.refl _ _
   ·exact (Ext.refl _ _).drew
  have hi1:it<w1.heap.size:=by
   have:=(au.1 hi).1;rcases tz with rfl|rfl<;>exact this
  have hb1:(setBlock w1 it (.mapIter (some bm) c ((D.map (·.born)).toArray.push x.born) c)).heap[bm]?=some (.map E c):=by
   show (w1.heap.setIfInBounds it _)[bm]?=_;rw[Array.getElem?_setIfInBounds_ne Bg];rcases tz with rfl|rfl<;>exact hb
  have fh:(setBlock w1 it (.mapIter (some bm) c ((D.map (·.born)).toArray.push x.born) c)).heap[it]?=some (.mapIter (some bm) c ((D.map (·.born)).toArray.push x.born) c):=by
   show (w1.heap.setIfInBounds it _)[it]?=_;rw[Array.getElem?_setIfInBounds_self_of_lt hi1]
  have hxe:=run_entry_at (P:=P) _ it bm c (D.map (·.born)).toArray E c x fh hb1 LX.1 b1;rw[e1,e2]at hr hxe;have uS:(p.1,p.2)∈L:=aA hp;have hD':∀y∈D++[x],y∈E.toList:=fun y hy=>(aS.1 hy).elim (d2 y) fun h=>by rw[av.1 h];exact LX.1
  have ANH:(D++[x]).Nodup:=cC.2 ⟨hDn,by simp,fun y hy z hz e=>by
   rw[av]at hz;subst hz;exact LX.2 (e▸b6 hy)⟩
  refine .inr ⟨p.1,p.2,_,hr,ANF.trans QI (fun _ h=>h) fun _ _ h=>h,⟨E,c,D++[x],hb1,?_,hE,b1,b2,?_,?_,hD'⟩,uS,?_,hxe⟩
  ·rw[fh];simp
  ·unfold Qz at hD⊢;rw[bd,hD,bd,List.map_singleton,List.map_singleton,e1,e2]
  ·rw[bd,List.map_singleton];exact cC.2 ⟨d1,by simp,fun y hy z hz e=>LX.2 (by rw[av]at hz;rw[<-hz,<-e];exact hy)⟩
  ·have h1:=List.Nodup.length_le_of_subset ANH (fun y hy=>hD' y hy);rw[ai,cj,hE.len]at h1;have:=hD.len;omega
end
end Sh
set_option maxRecDepth 8000
set_option maxHeartbeats 4000000
namespace Wt
open Sh Fix Tk Tl Vl
def fJ (a b:ByteArray):Bool:=Op.bytesLess a.toList b.toList
theorem OP:∀{a b c:List UInt8},Op.bytesLess a b=true->Op.bytesLess b c=true->Op.bytesLess a c=true
 |_,[],_,h,_=>by simp[Op.bytesLess]at h
 |_,_::_,[],_,h=>by simp[Op.bytesLess]at h
 |[],_::_,_::_,_,_=>rfl
 |x::a,y::b,z::c,h1,h2=>by
  simp only[Op.bytesLess,bI,aj,bu,bX]at h1 h2⊢;rcases h1 with h1|⟨rfl,h1⟩
  ·rcases h2 with h2|⟨rfl,h2⟩
   ·left;exact UInt8.lt_trans h1 h2
   ·exact .inl h1
  ·rcases h2 with h2|⟨rfl,h2⟩
   ·exact .inl h2
   ·exact .inr ⟨rfl,OP h1 h2⟩
theorem WX:∀(a:List UInt8),Op.bytesLess a a=false
 |[]=>rfl
 |x::a=>by simp[Op.bytesLess,WX a]
theorem tY {a b:ByteArray}(h:fJ a b=true):a≠b:=fun e=>by
 rw[e]at h;unfold fJ at h;rw[WX]at h;cases h
theorem tZ {a b:ByteArray}(h:fJ a b=true):decide (a.data.toList<=b.data.toList)=true:=by
 unfold fJ at h;rw[bytesLess_eq,ByteArray.toList_eq,ByteArray.toList_eq,bu]at h;rw[bu];exact List.le_of_lt h
theorem JM {Km:Bool}:∀{ks:List ByteArray} {kids:List Tr} {p:Option ByteArray},F3 Km p ks kids=true->ks.length=kids.length/\(∀t∈kids,t.k≠0)/\ks.Pairwise (fun a b=>fJ a b=true)/\∀q,p=some q->∀k∈ks,fJ q k=true
 |[],[],_,_=>⟨rfl,fun t h=>(by cases h),List.Pairwise.nil,fun _ _ k h=>(by cases h)⟩
 |[],_::_,_,h=>by cases h
 |x::ks,[],_,h=>by cases h
 |x::ks,t::r,p,h=>by
  rw[GP]at h;simp only[aj,bu]at h;obtain ⟨h1,h2,h3,h4⟩:=JM h.2;have hx:=h4 x rfl;refine ⟨by rw[ar,ar,h1],fun y hy=>?_,List.Pairwise.cons hx h3,fun q hq k hk=>?_⟩
  ·rcases aw.1 hy with rfl|hy
   ·exact h.1.2
   ·exact h2 y hy
  ·subst hq;have hqx:fJ q x=true:=h.1.1.1.2;rcases aw.1 hk with rfl|hk
   ·exact hqx
   ·exact OP hqx (hx k hk)
theorem MP {ks:List ByteArray}(h:ks.Pairwise fun a b=>fJ a b=true):ks.Nodup:=h.imp fun h=>tY h
theorem Rp {K ks:List ByteArray}(h:K.Perm ks)(hu:ks.Pairwise fun a b=>fJ a b=true):(K.map bl).mergeSort (fun x y=>decide (x<=y))=ks.map bl:=by
 have:=mergeSort_of_perm (h.map bl);show (K.map bl).mergeSort leB=_;rw[this];refine List.mergeSort_of_pairwise (List.pairwise_map.2 (hu.imp fun h=>?_));exact tZ h
theorem fK (K:List ByteArray):(K.map bl).map encStr=K.map Value.string:=by
 rw[List.map_map];refine List.map_congr_left fun b _=>?_
 show Value.string ⟨b.data.toList.toArray⟩= .string b
 rfl
theorem lU {K ks:List ByteArray}{s:AA}{w:World}(hr:Row w s 9 1 (K.map Value.string))(h:K.Perm ks)(hu:ks.Pairwise fun a b=>fJ a b=true)(lV:K.length<4611686018427387904):
  sq s w (fun w1=>Row w1 s 9 1 (ks.map Value.string)/\Ext s.own w w1):=by
 obtain ⟨p,n,cap⟩:=s;have hn:=hr.1;rw[aV,bU]at hn;have hn:K.length=n:=hn;rcases hr.2 with h0|⟨g,cur,hp,hb,h1,h2,h3⟩
 ·cases h0;refine (Tryz.slices_Sort_string_none none 0 w).mono fun e w' hh=>?_
  have:K=[]:=aT hn;subst this;have:ks=[]:=h.symm.eq_nil;subst this;obtain ⟨e1,rfl⟩:=hh;exact ⟨e1,hr,Ext.refl _ _⟩
 ·cases hp;have hlen:(K.map bl).length=n:=by rw[aV,hn]
  have ht:cur.toList.take (K.map bl).length=(K.map bl).map encStr:=by
   rw[fK,hlen];simpa using h3
  have:=Tryz.slices_Sort_string g 0 cap (K.map bl) w (holds_of_block hb ht) (au.1 hb).1 (by rw[aV];exact lV);rw[hlen,Rp h hu]at this;refine this.mono fun e w' hh=>?_
  obtain ⟨e1,m,os,rfl⟩:=hh;have EZ:(ks.map bl).length=n:=by rw[aV,<-h.length_eq,hn]
  refine ⟨e1,⟨by rw[aV,<-h.length_eq,hn,bU],.inr ⟨g,_,rfl,heap_sorted _ hb,h1,by simpa[Sort.putCells]using h2,?_⟩⟩,(Ext.refl _ w).grown (grownBy_sorted _) fun k hk=> .inl ⟨_,rfl,aZ hk⟩⟩;have:=take_putCells cur (ks.map bl) (by rw[EZ,h2];simp;exact h1);rw[fK,EZ]at this;simpa using this
end Wt
set_option maxRecDepth 100000
namespace Wt
open Sh Fix Tk Tl Vl
def Hp (ks:List ByteArray)(Os:List Ob):N6:=List.zipWith (fun k o=>(k,.agg (AH o).toArray)) ks Os
theorem GC:∀{ks:List ByteArray} {Os:List Ob},ks.length=Os.length->(Hp ks Os).map (·.1)=ks
 |[],[],_=>rfl
 |k::ks,o::Os,h=>by
  show k::(Hp ks Os).map (·.1)=_;rw[GC (by simpa using h)]
theorem QU {ks:List ByteArray}{Os:List Ob}(h:ks.length=Os.length):(Hp ks Os).length=ks.length:=by
 rw[<-aV (f:=(·.1)),GC h]
theorem XA:∀{ks:List ByteArray} {Os:List Ob} {i:Nat} {k:ByteArray} {o:Ob},ks[i]?=some k->Os[i]?=some o->(Hp ks Os)[i]?=some (k,.agg (AH o).toArray)
 |_::_,_::_,0,_,_,h1,h2=>by cases h1;cases h2;rfl
 |_::ks,_::Os,i+1,k,o,h1,h2=>by
  show (Hp ks Os)[i]?=_;exact XA (by simpa using h1) (by simpa using h2)
 |[],_,_,_,_,h,_=>by simp at h
 |_,[],_,_,_,_,h=>by simp at h
theorem XB:∀{ks:List ByteArray} {Os:List Ob} {p:ByteArray×Value},p∈Hp ks Os->p.1∈ks/\∃o∈Os,p.2= .agg (AH o).toArray
 |[],_,_,h=>by cases h
 |_::_,[],_,h=>by cases h
 |k::ks,o::Os,p,h=>by
  rcases aw.1 (show p∈(k,_)::Hp ks Os from h)with rfl|h
  ·exact ⟨ax ..,o,ax ..,rfl⟩
  ·obtain ⟨h1,x,h2,h3⟩:=XB h;exact ⟨ay _ h1,x,ay _ h2,h3⟩
theorem Mm:∀{ks:List ByteArray} {Os:List Ob} {k:ByteArray} {o:Ob},ks.length=Os.length->Hp (ks++[k]) (Os++[o])=Hp ks Os++[(k,.agg (AH o).toArray)]
 |[],[],_,_,_=>rfl
 |x::ks,y::Os,k,o,h=>by
  show (x,_)::Hp (ks++[k]) (Os++[o])=_;rw[Mm (by simpa using h)]
  rfl
theorem DW:Tryz.prog.underlying 204=some (.map 9 68):=Tryz.underlying204
theorem Ib:Tryz.prog.underlying 9=some .string:=Tryz.underlying9
theorem QT (w:World):(zeroValue 68).run Tryz.prog w= .ok (.agg (AH Bk).toArray) w:=Tryz.zeroValue68 w
section
variable {w w1 W v wd:World} {b c a o d:Nat} {s:ByteArray} {ks:List ByteArray} {kids:List Tr} {Os:List Ob} {S:Nat->Prop}
attribute [local irreducible] Ld Sh.St Nw Nn AP Ab Ak Am
abbrev QS:Array Value:=(AH Bk).toArray
theorem Y6 {Y7 EV:World}{Ol:AA}{R:Ob->World->Prop}(hm:HX v Y7.heap.size (Hp ks Os))(hn:ks.Nodup)(EZ:∀k∈ks,k.size<=maxLen)(ho:ks.length=Os.length)(hml:Y7.heap.size<wd.heap.size)(uw:Y7.heap.size≠w.heap.size)(how:w.heap.size<wd.heap.size)(hdw:wd.heap.size<=EV.heap.size)
  (H:Hx wd (·=w.heap.size) v [(w.heap.size,QS,68),(EV.heap.size,(AH (7,0,0,⟨#[]⟩,Ol,⟨none,0,0⟩)).toArray,68)])
  (hK:Row v Ol 9 1 (ks.map Value.string)) (OA:∀j,Ol.own j->EV.heap.size<j) (hA:A3 (Ex S v) Os kids) (hS:∀j,S j->j<wd.heap.size/\j≠w.heap.size) (hl:ks.length<=8191)
  (hR:∀r v',Ex (fun j=>S j\/wd.heap.size<=j/\j<v'.heap.size) v' r (.mk 7 0 0 ⟨#[]⟩ ks kids)->Ext (·=w.heap.size) wd v'->R r v'):
  Lp (σ:=Int) (Uv w Y7 EV Ol R) 0 v:=by
 have ARM:Ol.len=ks.length:=by have:=hK.1;rw[aV]at this;omega
 refine ⟨fun n st u=>∃(i:Nat) (xk:AA) (L:List Ob),i<=ks.length/\st=(i:Int)/\n=ks.length-i/\Hx wd (·=w.heap.size) u [(w.heap.size,QS,68),(EV.heap.size,(AH (7,0,0,⟨#[]⟩,Ol,xk)).toArray,68)]/\HX u Y7.heap.size (Hp ks Os)/\
  Row u Ol 9 1 (ks.map Value.string)/\(∀j,Ol.own j->EV.heap.size<j)/\Row u xk 68 6 (L.flatMap AH)/\L=Os.take i/\xk.len=i/\(∀j,xk.own j->EV.heap.size<j/\¬Ol.own j)/\A3 (Ex S u) Os kids,
  ks.length,⟨0,⟨none,0,0⟩,[],by omega,rfl,rfl,H,hm,hK,OA,Row.nil _ _ _,by rw[bE],rfl,fun j hj=>(by obtain ⟨a,ha,_⟩:=hj;cases ha),hA⟩,?_⟩
 clear H hm hK hA OA;rintro n st u ⟨i,xk,L,hi,rfl,rfl,H,hm,hK,OA,hO,rfl,hlO,po,hA⟩;unfold Uv;have hdu:=AO.lt (H.get 1 rfl);refine Br.dec (fun Av=>?_) fun Fh=>?_
 ·have Av:(i:Int)<((Ol.len:Nat):Int):=Av;have Fp:i<ks.length:=by omega
  obtain ⟨key,Cx⟩:∃key,ks[i]?=some key:=⟨ks[i],al Fp⟩
  obtain ⟨ob,pZ⟩:∃ob,Os[i]?=some ob:=⟨Os[i]'(by omega),al (by omega)⟩
  have hmk:key∈ks:=aA Cx;obtain ⟨g,hg,hc⟩:=hK.cell (show (ks.map Value.string)[i]?=some (.string key) by rw[aR,Cx];rfl);refine ⟨by omega,by omega,?_⟩;rw[hg];refine Nn.of ?_;rw[show ((i:Int).toNat*1)=i by omega];simp only[add_lit,ah];refine Ld.mk hc (H.ld 1 rfl rfl ?_);have mN:=hm.look DW Ib (QT u) (EZ key hmk);rw[(at_key hm.one (XA Cx pZ)).1,Option.getD_some]at mN;refine ⟨ob,u,mN,?_⟩;refine H.B5 fun u2 H2 e2=>?_
  simp only[ae,ag]at H2;have HS:=e2.size;have hlu:=fun j=>(hO.own_lt (j:=j))
  obtain ⟨s',u3,r3,EY,Zn,e3,r35⟩:=fU.Hu (ty:=30) (hO.AB e2 fun _ _ h=>h) (H2.get 2 rfl) rfl (P4 ob) (by omega) (by omega);refine ⟨s',u3,r3,?_⟩;have LC:=e3.size;have H3:=(H2.left (L:=[_,_]) (M:=[_])).other e3 (fun j hj=>by
   have h1:=(po j hj).1;simp only[aC,br,aw,aG,bA,not_or];omega) fun j hj=> .inr (by have:=(po j hj).1;omega)
  refine H3.BZ 1 rfl (by simp[AH]) (.inr (by omega)) fun u4 H4 e4=>?_
  simp only[aa,ab]at H4;have Zt:=e4.size;have pW:Ext (fun j=>xk.own j\/j=EV.heap.size) u u4:=(e2.trans e3 (fun _ h=>h.elim) fun _ _ h=> .inl h).trans e4 (fun _ h=>h) fun _ _ h=> .inr h
  have BX:∀j,s'.own j->EV.heap.size<j/\¬Ol.own j:=fun j hj=>(r35 j hj).elim (po j) fun h=>⟨by omega,fun hk=>by have:=hK.own_lt hk;omega⟩
  have uu:i+1<=ks.length:=Fp;refine ⟨ks.length-(i+1),by omega,i+1,s',Os.take (i+1),uu,?_,rfl,H4,hm.AF pW fun h=>?_,hK.AB pW fun j hj h=>?_,OA,?_,rfl,by omega,BX,hA.imp fun x y h=>h.AF pW fun j hj h=>?_⟩
  ·rw[IntWalk.i64_in _ (by omega)]
   rfl
  ·rcases h with h|h
   ·have:=(po _ h).1;omega
   ·omega
  ·rcases h with h|h
   ·exact (po j h).2 hj
   ·have:=OA j hj;omega
  ·rw[aQ,pZ,cE,bg,bZ];exact EY.AB e4 fun j hj h=>by have:=(BX j hj).1;have h:j=EV.heap.size:=h;omega
  ·have:=hS j hj;rcases h with h|h
   ·have:=(po _ h).1;omega
   ·omega
 ·have Fh:¬(i:Int)<((Ol.len:Nat):Int):=Fh;have hie:i=ks.length:=by omega
  subst hie;have hz:Os.take ks.length=Os:=bz (by omega);rw[hz]at hO;refine Hx.I9 H 1 rfl (Hx.GX H 0 rfl rfl (.inl rfl) fun u2 H2 e2=>Hx.I9 H2 0 rfl ?_);have HS:=e2.size;obtain ⟨dd,hA⟩:=GY hA;refine hR _ _ ⟨dd+1,⟨rfl,rfl,rfl,rfl⟩,⟨KV.row (K:=ks) (hK.AB e2 fun j hj h=>?_) (bC hl (by decide)),fun _ j hj=> .inr ⟨?_,?_⟩⟩,Os,⟨OV.row (hO.AB e2 fun j hj h=>?_),fun _ j hj=> .inr ⟨?_,?_⟩⟩,hA.imp fun x y h=>(LQ.AF e2 (fun j hj h=>?_) h).AY fun j hj=> .inl hj⟩ H2.ext
  ·have:=OA j hj;have h:j=w.heap.size:=h;omega
  ·have:=OA j hj;omega
  ·have:=hK.own_lt hj;omega
  ·have:=(po j hj).1;have h:j=w.heap.size:=h;omega
  ·have:=(po j hj).1;omega
  ·have:=hO.own_lt hj;omega
  ·exact (hS j hj).2 h
end
end Wt
namespace Wt
open Sh Fix Tk Tl Vl
section
variable {w w1 W v wd:World} {b c a o d:Nat} {s:ByteArray} {ks:List ByteArray} {kids:List Tr} {Os:List Ob} {S:Nat->Prop}
attribute [local irreducible] Ld Sh.St Nw Nn AP Ab Ak Am
theorem QW (done:N6)(key:ByteArray)(v:Value):((done++[(key,v)]).map (·.1)).map Value.string=(done.map (·.1)).map Value.string++[.string key]:=by simp
theorem SJ {Y7 EV:World}{R:Ob->World->Prop}{it:Nat}(hm:HX v Y7.heap.size (Hp ks Os))(hI:mC v it Y7.heap.size (Hp ks Os) [])(hn:ks.Pairwise fun a b=>fJ a b=true)(EZ:∀k∈ks,k.size<=maxLen)(ho:ks.length=Os.length)(pT:∀o∈Os,o.1≠0)(hml:Y7.heap.size<wd.heap.size)(uw:Y7.heap.size≠w.heap.size)(how:w.heap.size<wd.heap.size)(hdw:wd.heap.size<=EV.heap.size)(hit:EV.heap.size<it)
  (H:Hx wd (·=w.heap.size) v [(w.heap.size,QS,68),(EV.heap.size,(AH (7,0,0,⟨#[]⟩,⟨none,0,0⟩,⟨none,0,0⟩)).toArray,68)])
  (hA:A3 (Ex S v) Os kids) (hS:∀j,S j->j<wd.heap.size/\j≠w.heap.size) (hl:ks.length<=8191)
  (hR:∀r v',Ex (fun j=>S j\/wd.heap.size<=j/\j<v'.heap.size) v' r (.mk 7 0 0 ⟨#[]⟩ ks kids)->Ext (·=w.heap.size) wd v'->R r v'):
  Lp (σ:=Unit) (Uw w Y7 EV ⟨it,0,none⟩ R) () v:=by
 have pD:=QU ho;refine ⟨fun n _ u=>∃(done:N6) (Ol:AA),n+done.length=ks.length/\Hx wd (·=w.heap.size) u [(w.heap.size,QS,68),(EV.heap.size,(AH (7,0,0,⟨#[]⟩,Ol,⟨none,0,0⟩)).toArray,68)]/\HX u Y7.heap.size (Hp ks Os)/\mC u it Y7.heap.size (Hp ks Os) done/\
  Row u Ol 9 1 ((done.map (·.1)).map Value.string)/\(∀j,Ol.own j->EV.heap.size<j/\j≠it)/\A3 (Ex S u) Os kids/\it<u.heap.size,
  ks.length,⟨[],⟨none,0,0⟩,rfl,H,hm,hI,Row.nil _ _ _,fun j hj=>(by obtain ⟨a,ha,_⟩:=hj;cases ha),hA,?_⟩,?_⟩
 ·obtain ⟨E,cc,D,_,a2,_⟩:=hI.out;exact (au.1 a2).1
 clear H hm hI hA;rintro n st u ⟨done,Ol,hnn,H,hm,hI,hK,OA,hA,AVM⟩;unfold Uw;have hdu:=AO.lt (H.get 1 rfl);have hlK:Ol.len=done.length:=by have:=hK.1;simp only[aV]at this;omega
 rcases hI.next (P:=Tryz.prog) (ty:=0)with ⟨hr,ABe⟩|⟨key,x,u1,hr,e1,hI1,Bt,Av,hen⟩
 ·refine .inl ⟨u,hr,H.ld 1 rfl rfl ?_⟩;have hp:(done.map (·.1)).Perm ks:=by
   have:=ABe.map (·.1);rwa[GC ho]at this
  refine (lU hK hp hn (by have:=hp.length_eq;omega)).mono ?_;rintro u2 ⟨hK2,e2⟩;have HS:=e2.size;have H2:=H.other e2 (fun j hj=>by
   have h1:=(OA j hj).1;simp only[aC,br,aw,aG,bA,not_or];omega) fun j hj=> .inr (by have:=(OA j hj).1;omega)
  refine H2.ld 1 rfl rfl ?_;exact Y6 (hm.AF e2 fun h=>by have:=(OA _ h).1;omega) (MP hn) EZ ho hml uw how hdw H2 hK2 (fun j hj=>(OA j hj).1) (hA.imp fun x y h=>h.AF e2 fun j hj h=>by have:=(OA _ h).1;have:=hS j hj;omega) hS hl hR
 ·refine .inr ⟨.string key,x,u1,hr,?_⟩;obtain ⟨hk,ob,pZ,hx⟩:=XB Bt;have hx:x= .agg (AH ob).toArray:=hx;subst hx;refine ⟨key,ob,u1,hen,?_⟩;have jt:=e1.size;have H1:=H.other e1 (fun j (hj:j=it)=>by
   simp only[aC,br,aw,aG,bA,not_or];omega) fun j (hj:j=it)=> .inr (by omega)
  refine H1.B5 fun u2 H2 e2=>?_
  simp only[ae,ag]at H2;have HS:=e2.size;refine Hx.GX H2 2 rfl rfl (.inr (by omega)) fun u3 H3 e3=>?_
  simp only[aa,ab]at H3;have LC:=e3.size;refine H3.ld 2 rfl rfl (Br.ne (fun _=>?_) fun h=>absurd h (pT ob pZ));refine H3.ld 1 rfl rfl ?_;refine H3.B5 fun u4 H4 e4=>?_
  simp only[ae,ag]at H4;have Zt:=e4.size;have hE4:Ext (fun j=>j=it\/j=u1.heap.size) u u4:=((e1.trans e2 (fun _ h=> .inl h) fun _ _ h=>h.elim).trans e3 (fun _ h=>h) fun _ _ h=> .inr h).trans e4 (fun _ h=>h) fun _ _ h=>h.elim
  obtain ⟨s',u5,r5,lB,r53,e5,wm⟩:=Ml.Hu (ty:=66) (hK.AB hE4 fun j hj h=>by
   have:=(OA j hj).2;have:=hK.own_lt hj;rcases h with h|h<;>omega) (H4.get 3 rfl) rfl (fun y hy=>by rw[av.1 hy];rfl) (by omega) (by omega)
  refine ⟨s',u5,r5,?_⟩;have Wi:=e5.size;have H5:=(H4.left (L:=[_,_]) (M:=[_,_])).other e5 (fun j hj=>by
   have h1:=(OA j hj).1;simp only[aC,br,aw,aG,bA,not_or];omega) fun j hj=> .inr (by have:=(OA j hj).1;omega)
  refine H5.BZ 1 rfl (by simp[AH]) (.inr (by omega)) fun u6 H6 e6=>?_
  simp only[aa,ab]at H6;have Zy:=e6.size;have hE:Ext (fun j=>(j=it\/j=u1.heap.size)\/Ol.own j\/j=EV.heap.size) u u6:=(hE4.trans e5 (fun _ h=> .inl h) fun _ _ h=> .inr (.inl h)).trans e6 (fun _ h=>h) fun _ _ h=> .inr (.inr h)
  have hE1:Ext (fun j=>j=u1.heap.size\/Ol.own j\/j=EV.heap.size) u1 u6:=(((e2.trans e3 (fun _ h=>h.elim) fun _ _ h=> .inl h).trans e4 (fun _ h=>h) fun _ _ h=>h.elim).trans e5 (fun _ h=>h) fun _ _ h=> .inr (.inl h)).trans e6 (fun _ h=>h) fun _ _ h=> .inr (.inr h)
  have BX:∀j,s'.own j->EV.heap.size<j/\j≠it:=fun j hj=>(wm j hj).elim (OA j) fun h=>⟨by omega,by omega⟩
  refine ⟨n-1,by omega,done++[(key,.agg (AH ob).toArray)],s',by rw[ai,cj];omega,H6,hm.AF hE fun h=>?_,hI1.AF hE1 (fun h=>?_) fun h=>?_,?_,BX,hA.imp fun x y h=>h.AF hE fun j hj h=>?_,by omega⟩
  ·rcases h with (h|h)|h|h
   ·omega
   ·omega
   ·have:=(OA _ h).1;omega
   ·omega
  ·rcases h with h|h|h
   ·omega
   ·exact (OA _ h).2 rfl
   ·omega
  ·rcases h with h|h|h
   ·omega
   ·have:=(OA _ h).1;omega
   ·omega
  ·rw[QW];exact lB.AB e6 fun j hj h=>by have:=(BX j hj).1;have h:j=EV.heap.size:=h;omega
  ·have:=hS j hj;rcases h with (h|h)|h|h
   ·omega
   ·omega
   ·have:=(OA _ h).1;omega
   ·omega
end
end Wt
namespace Wt
open Sh Fix Tk Tl Vl
theorem SM {ks:List ByteArray}{l:List Tr}{qs rest:List Pt}(h:PD ks l qs)(k:N8 rest):FQ (qs++rest):=by
 cases ks with
 |nil=>cases l with
  |nil=>rw[PD]at h;subst h;exact k.gj
  |cons _ _=>rw[PD]at h;exact h.elim
 |cons x ks=>cases l with
  |nil=>rw[PD]at h;exact h.elim
  |cons t l=>
   rw[PD]at h;obtain ⟨a,b,h1,h2,rfl⟩:=h;exact gk.gj
theorem VY {S:Nat->Prop}{w:World}:∀{L:List Ob} {ts:List Tr},A3 (Ex S w) L ts->(∀t∈ts,t.k≠0)->∀o∈L,o.1≠0
 |[],_,_,_,o,h=>by cases h
 |x::L,t::ts,h,k,o,ho=>by
  rcases aw.1 ho with rfl|ho
  ·obtain ⟨⟨h1,_⟩,_⟩:=h.1.t0z.out;rw[h1];exact k t (ax ..)
  ·exact VY h.2 (fun t ht=>k t (ay _ ht)) o ho
section
variable {w w1 W:World} {b c a:Nat} {s:ByteArray} {ps qs rest:List Pt} {deep:Int} {ks:List ByteArray} {kids:List Tr}
attribute [local irreducible] Ld Sh.St Nw Nn AP Ab Ak Am
theorem ux (hb:Fb w b s a)(ih:∀k∈kids,W9 s b c k)(hd:0<=deep)(Bo:∀k∈kids,Cq (deep+1) k=true)(h9:∀k∈kids,k.k≠9)(Ew:F3 false none ks kids=true)(hl:ks.length<=8191)(hq:PD ks kids qs)(hr:D3 s a (qs++(Ao [62,62]::rest)) c)(PR:Value->World->Prop):
  sr (some ⟨b,0,none⟩) deep w (fun r w1=>∃a':Nat,Ex (fun j=>w.heap.size<=j/\j<w1.heap.size) w1 r (.mk 7 0 0 ⟨#[]⟩ ks kids)/\D3 s a' rest c/\Fb w1 b s a'/\Ext (·=b) w w1) PR:=by
 obtain ⟨hlen,pT,uZ,_⟩:=JM Ew;have pU:=DA Ew;have Jb:=MP uZ;have EZ:∀k∈ks,k.size<=maxLen:=fun k hk=>bC (LO (pU k hk)) (by decide)
 refine AG5 _ _ _ _ _ ?_;unfold zP;have Md:=AO.lt hb;refine (Hx.one (F:=(·=b)) hb).B5 fun w2 H e2=>?_
 simp only[ae,ag]at H;have HS:=e2.size;have ho2:=AO.lt (H.get 1 rfl);refine Nw.of ?_;have e3:Ext (fun _=>False) w2 (w2.alloc (.map #[] 0)):=(Ext.refl _ w2).alloc _;have H:=H.AB e3;have hM:HX (w2.alloc (.map #[] 0)) w2.heap.size (Hp [] []):=HX.new w2;have LC:w2.heap.size<(w2.alloc (.map #[] 0)).heap.size:=by simp
 generalize w2.alloc (.map #[] 0)=w3 at H hM LC e3;refine ⟨fun n _ v=>∃(i:Nat) (a:Nat) (Os:List Ob) (q:List Pt),i<=ks.length/\n=ks.length+1-i/\Hx w (·=b) v [(b,#[.string s,.int .i64 (a:Int)],181),(w.heap.size,QS,68)]/\HX v w2.heap.size (Hp (ks.take i) Os)/\Os.length=i/\
   A3 (Ex (fun j=>w.heap.size<=j/\j<v.heap.size/\j≠w.heap.size/\j≠w2.heap.size) v) Os (kids.take i)/\PD (ks.drop i) (kids.drop i) q/\D3 s a (q++(Ao [62,62]::rest)) c/\w2.heap.size<v.heap.size,ks.length+1,
  ⟨0,a,[],qs,by omega,by omega,H,(by rw[bE];exact hM),rfl,trivial,(by rw[b9,b9];exact hq),hr,LC⟩,?_⟩
 clear H hr hq hb hM e3;rintro n st v ⟨i,a,Os,q,hi,rfl,H,hM,ua,hA,hq,hr,uJ⟩;unfold eF;have LP:=H.get 0 rfl;have pY:=H.size;have OY:(ks.take i).length=Os.length:=by rw[aW,ua];omega
 cases D4:ks.drop i with
 |nil=>
  have Oh:i=ks.length:=by
   have:=aq List.length D4;rw[aM,aU]at this;omega
  have Yv:kids.drop i=[]:=List.drop_eq_nil_of_le (by omega);rw[D4,Yv,PD]at hq;subst hq;rw[Oh,hlen,aP]at hA;rw[Oh,aP]at hM OY;refine (Jf LP hr).mono ?_ fun _ _ h=>h
  rintro r v2 ⟨x,a2,rfl,hr,Ha,e2⟩;have H:=H.MN 0 rfl Ha e2 (.inl rfl);have hM:=hM.AF e2 fun h=>by omega
  have hA:=hA.imp fun x y h=>(h.AF e2 fun j hj (h:j=b)=>by omega)
  have ub:=e2.size;simp only[aa,ab]at H;refine H.B5 fun v3 H e3=>?_
  have hM:=hM.AB e3;have hA:=hA.imp fun x y h=>(h.AF e3 fun j hj h=>h)
  have mM:=e3.size;simp only[ae,ag,add_lit,ah]at H⊢;refine H.BZ 2 rfl (by simp) (.inr (by omega)) fun u1 H f1=>?_
  simp only[af,aa,ab]at H;refine H.BZ 2 rfl (by simp) (.inr (by omega)) fun u2 H f2=>?_
  simp only[af,aa,ab]at H;refine H.BZ 2 rfl (by simp) (.inr (by omega)) fun u3 H f3=>?_
  simp only[af,aa,ab]at H;refine H.BZ 2 rfl (by simp) (.inr (by omega)) fun u4 H f4=>?_
  simp only[af,aa,ab]at H;refine H.BZ 2 rfl (by simp) (.inr (by omega)) fun u5 H f5=>?_
  simp only[af,aa,ab]at H;have f:=(((f1.tr f2).tr f3).tr f4).tr f5;have hM:=hM.AF f fun h=>by omega
  have hA:=hA.imp fun x y h=>(h.AF f fun j hj (h:j=v2.heap.size)=>by omega)
  have uc:=f.size
  iterate 5 refine H.ld 2 rfl rfl ?_
  refine (Je _ _ _ _).mono ?_;rintro q vd ⟨rfl,e4⟩;have H:=H.AB e4;have hM:=hM.AB e4;have hA:=hA.imp fun x y h=>(h.AF e4 fun j hj h=>h)
  have Zt:=e4.size;refine Br.t (show (((6:Int)==6)&&((ba [62,62]).toList==(⟨#[62,62]⟩:cI).toList))=true by decide+kernel) ?_;have gS:=H.get 0 rfl;have pZ:=H.get 1 rfl;have hwv:=H.size;have Hd:Hx vd (fun j=>j=w.heap.size) vd [(w.heap.size,QS,68)]:=Hx.one pZ;refine Hd.B5 fun y1 Hd g1=>?_
  simp only[ae,ag]at Hd;have hM:=hM.AB g1;have hA:=hA.imp fun x y h=>(h.AF g1 fun j hj h=>h)
  have mL:=g1.size;have Tz:=AO.lt (Hd.get 1 rfl);refine Hx.GX Hd 1 rfl rfl (.inr (aB _)) fun y2 Hd g2=>?_
  simp only[aa,ab]at Hd;have hM:=hM.AF g2 fun h=>by omega
  have hA:=hA.imp fun x y h=>(h.AF g2 fun j hj (h:j=vd.heap.size)=>by omega)
  have fc:=g2.size;obtain ⟨y3,hrn,g3,hI,pG⟩:=hM.range DW;have hA:=hA.imp fun x y h=>(h.AF g3 fun j hj h=>h)
  refine ⟨_,y3,hrn,?_⟩;refine SJ (wd:=vd) (S:=fun j=>w.heap.size<=j/\j<v.heap.size/\j≠w.heap.size/\j≠w2.heap.size) (hM.AB g3) hI uZ EZ OY (VY hA pT) (by omega) (by omega) (by omega) (aB _) (by omega) (Hd.AB g3) hA (fun j hj=>⟨by omega,hj.2.2.1⟩) hl fun r v' hx hE=>?_
  have hsE:=hE.size;refine ⟨a2,hx.AY fun j hj=>?_,hr,hE.AR gS (by omega),H.ext.trans hE (fun _ h=>h) fun j hj h=>by have h:j=w.heap.size:=h;omega⟩;rcases hj with hj|hj
  ·exact ⟨hj.1,by omega⟩
  ·exact ⟨by omega,hj.2⟩
 |cons key kr=>
  have Fp:i<ks.length:=by
   have:=aq List.length D4;rw[aM,ar]at this;omega
  cases Yv:kids.drop i with
  |nil=>
   have:=aq List.length Yv;rw[aM,aU]at this;omega
  |cons k r=>
  rw[D4,Yv,PD]at hq;obtain ⟨qa,qb,j4,SK,rfl⟩:=hq;obtain ⟨p,m,rfl,uR,ug,hp3,Zv⟩:=Cy j4;have Cx:ks[i]?=some key:=by
   have:=aq (fun l=>l[0]?) D4;simpa using this
  have D9:kids[i]?=some k:=by
   have:=aq (fun l=>l[0]?) Yv;simpa using this
  have Zz:=aA D9;have gT:=aA Cx;have Kv:ks.drop (i+1)=kr:=by rw[<-bc,D4];rfl
  have ue:kids.drop (i+1)=r:=by rw[<-bc,Yv];rfl
  have Hr:ks.take (i+1)=ks.take i++[key]:=by rw[aQ,Cx];rfl
  have Yx:kids.take (i+1)=kids.take i++[k]:=by rw[aQ,D9];rfl
  have Tv:key∉(Hp (ks.take i) Os).map (·.1):=by
   rw[GC OY];intro hm;obtain ⟨j,hj⟩:=bP hm;rw[List.getElem?_take]at hj;split at hj
   ·rename_i KX;have h1:=(ao.1 hj)
    have h2:=(ao.1 Cx)
    have:=(List.getElem_inj Jb).1 (h1.2.trans h2.2.symm);omega
   ·cases hj
  rw[ag,ag,ag,aO]at hr;have uf:=SM SK (SR (l:=[62,62]) (m:=rest));refine (Jf LP hr).mono ?_ fun _ _ h=>h
  rintro r0 v2 ⟨x,a2,rfl,hr,Ha,e2⟩;have H0:=H;have hsv:=pY;have H:=H.MN 0 rfl Ha e2 (.inl rfl);have hM:=hM.AF e2 fun h=>by omega
  have hA:=hA.imp fun x y h=>(h.AF e2 fun j hj (h:j=b)=>by omega)
  have ub:=e2.size;simp only[aa,ab]at H;refine H.B5 fun v3 H e3=>?_
  have hM:=hM.AB e3;have hA:=hA.imp fun x y h=>(h.AF e3 fun j hj h=>h)
  have mM:=e3.size;simp only[ae,ag,add_lit,ah]at H⊢;refine H.BZ 2 rfl (by simp) (.inr (by omega)) fun u1 H f1=>?_
  simp only[af,aa,ab]at H;refine H.BZ 2 rfl (by simp) (.inr (by omega)) fun u2 H f2=>?_
  simp only[af,aa,ab]at H;refine H.BZ 2 rfl (by simp) (.inr (by omega)) fun u3 H f3=>?_
  simp only[af,aa,ab]at H;refine H.BZ 2 rfl (by simp) (.inr (by omega)) fun u4 H f4=>?_
  simp only[af,aa,ab]at H;refine H.BZ 2 rfl (by simp) (.inr (by omega)) fun u5 H f5=>?_
  simp only[af,aa,ab]at H;have f:=(((f1.tr f2).tr f3).tr f4).tr f5;have hM:=hM.AF f fun h=>by omega
  have hA:=hA.imp fun x y h=>(h.AF f fun j hj (h:j=v2.heap.size)=>by omega)
  have uc:=f.size
  iterate 5 refine H.ld 2 rfl rfl ?_
  refine (Je _ _ _ _).mono ?_;rintro q4 v4 ⟨rfl,e4⟩;have H:=H.AB e4;have hM:=hM.AB e4;have hA:=hA.imp fun x y h=>(h.AF e4 fun j hj h=>h)
  have Zt:=e4.size;refine Br.f (by show (((4:Int)==6)&&_)=false;rfl) ?_;refine H.ld 2 rfl rfl ?_;have mN:=hM.pQ DW Ib (QT v4) (EZ key gT);rw[JW Tv,Option.getD_none]at mN;refine ⟨Bk,_,v4,mN,?_⟩;refine H.B5 fun v5 H e5=>?_
  have hM:=hM.AB e5;have hA:=hA.imp fun x y h=>(h.AF e5 fun j hj h=>h)
  have Wi:=e5.size;simp only[ae,ag]at H;refine Hx.GX H 3 rfl rfl (.inr (by omega)) fun v6 H e6=>?_
  simp only[aa,ab]at H;have hM:=hM.AF e6 fun h=>by omega
  have hA:=hA.imp fun x y h=>(h.AF e6 fun j hj (h:j=v4.heap.size)=>by omega)
  have Zy:=e6.size;refine H.ld 2 rfl rfl (Br.f (show ((4:Int) !=4)=false by decide) (Br.f rfl ?_));have hML:(Hp (ks.take i) Os).length=i:=by rw[QU OY,OY,ua]
  have SN:=hM.len (ty:=3) DW (by omega);rw[hML]at SN;refine ⟨(i:Int),v6,SN,Br.dec (fun q=>by have:(i:Int)>=8191:=q;omega) fun _=>?_⟩;refine ⟨fun u=>AO u v2.heap.size (j3 ((Cz key).tok (x:Int) (a2:Int))) 114,H.drew.get 2 rfl,AP.of (fun _ h=>h) rfl ?_⟩;have H:=H.drew;have e6d:Ext (fun _=>False) v6 v6.drew:=(Ext.refl _ v6).drew;have hM:=hM.AB e6d;have hA:=hA.imp fun x y h=>(h.AF e6d fun j hj h=>h)
  have AVR:v6.drew.heap.size=v6.heap.size:=rfl;generalize v6.drew=v6d at*;refine (Jf (H.get 0 rfl) hr).mono ?_ fun _ _ h=>h
  rintro r7 v7 ⟨x7,a7,rfl,hr,Vb,e7⟩;have H:=H.MN 0 rfl Vb e7 (.inl rfl);simp only[aa,ab]at H;have hM:=hM.AF e7 fun h=>by omega
  have hA:=hA.imp fun x y h=>(h.AF e7 fun j hj (h:j=b)=>by omega)
  have xT:=e7.size;refine ⟨H.get 2 rfl,?_⟩;refine (ih k Zz v7 p m (qb++(Ao [62,62]::rest)) x7 a7 deep PR (Bo k Zz) hd (h9 k Zz) j4 hr uf (H.get 0 rfl)).mono ?_ fun _ _ h=>h
  rintro r1 v8 ⟨a8,Bd,hr8,ANg,e8⟩;have H:=H.MN 0 rfl ANg e8 (.inl rfl);simp only[aa,ab]at H;have hM:=hM.AF e8 fun h=>by omega
  have hA:=hA.imp fun x y h=>(h.AF e8 fun j hj (h:j=b)=>by omega)
  have xU:=e8.size;refine ⟨H.get 2 rfl,?_⟩;obtain ⟨v9,hu9,hM,e9⟩:=hM.put DW Ib (EZ key gT) (.agg (AH r1).toArray);rw[show JV (Hp (ks.take i) Os) key (.agg (AH r1).toArray)=Hp (ks.take (i+1)) (Os++[r1])from by
   rw[Hr,Mm OY];rcases GW (Hp (ks.take i) Os) key (.agg (AH r1).toArray)with ⟨h,_⟩|⟨_,h⟩
   ·exact absurd h Tv
   ·exact h]at hM
  refine ⟨v9,hu9,?_⟩;have H:=(H.left (L:=[_,_]) (M:=[_,_])).other e9 (fun j (hj:j=w2.heap.size)=>by
   simp only[aC,br,aw,aG,bA,not_or];omega) fun j (hj:j=w2.heap.size)=> .inr (by omega)
  have xW:=e9.size;refine ⟨ks.length-i,by omega,i+1,a8,Os++[r1],qb,by omega,by omega,H,hM,by rw[ai,ua];rfl,?_,by rw[Kv,ue];exact SK,hr8,by omega⟩;rw[Yx];refine Ck (hA.imp fun x y h=>(h.AF e9 fun j hj (h:j=w2.heap.size)=>hj.2.2.2 h).AY fun j hj=>⟨hj.1,by omega,hj.2.2.1,hj.2.2.2⟩) ((Bd.AF e9 fun j hj (h:j=w2.heap.size)=>by omega).AY fun j hj=>⟨by omega,by omega,by omega,by omega⟩)
end
end Wt
namespace Wt
open Sh Fix Tk Tl Vl
theorem VW {deep:Int}{t:Tr}(h:Cq deep t=true)(hd:deep≠1):t.k≠9:=by
 rw[DK,aj]at h;have h:=h.1;unfold A6 at h;simp only[aj]at h;obtain ⟨_,h⟩:=h;split at h
 ·cases h
 ·unfold EU at h;simp only[aj,bI,bX,bne_iff_ne]at h;exact h.1.2.resolve_left hd
theorem GQ {deep:Int}{t:Tr}(h:Cq deep t=true):t.kids.length<=8191/\deep<=24/\∀k∈t.kids,Cq (deep+1) k=true:=by
 rw[DK,aj]at h;obtain ⟨h,h2⟩:=h;unfold A6 at h;simp only[aj,bu]at h;obtain ⟨h0,h⟩:=h;split at h
 ·cases h
 ·unfold Ey at h;simp only[aj,bu]at h;exact ⟨by have:=h.2.1.1.2;omega,h0,GZ.1 h2⟩
section
variable {w w1 W:World} {b c a:Nat} {s:ByteArray}
attribute [local irreducible] Ld Sh.St Nw Nn AP Ab Ak Am
theorem SS (s:ByteArray)(b c:Nat):∀t:Tr,W9 s b c t
 | .mk k n g y ks kids=>by
  intro w p qs rest x a deep PR Bo hd h9 hp hr hn hb;have ih:∀t∈kids,W9 s b c t:=fun t ht=>SS s b c t
  obtain ⟨G2,VX,FM⟩:=GQ Bo;have FM:∀t∈kids,Cq (deep+1+1) t=true:=FM;have G2:kids.length<=8191:=G2;have HY:=Bo;rw[Cq,aj]at HY;have HY:=HY.1;have hk9:∀t∈kids,t.k≠9:=fun t ht=>VW (FM t ht) (by omega)
  have uy:IntKind.i64.wrap (deep+1)=deep+1:=IntWalk.i64_in _ (by omega);obtain ⟨p',m',pq,hpb⟩:=Cy hp;obtain ⟨rfl,rfl⟩:=cp pq;obtain ⟨_,ANh,_,_⟩:=hpb;refine AG6 (some ⟨b,0,none⟩) (p.k,(x:Int),(a:Int),p.n,p.s) deep w _ _ ?_;unfold zQ;have Md:=AO.lt hb;refine (Hx.one (F:=(·=b)) hb).nw fun w2 H=>?_
  have hg:=H.size;have mL:=AO.lt (H.get 1 rfl);refine H.nw fun w3 H=>?_
  simp only[ae,ag,add_lit,ah]at H⊢;have fin:∀{v:World} {a':Nat} {r:Ob} {z:Array Value},Hx w (·=b) v [(b,#[.string s,.int .i64 (a':Int)],181),(w.heap.size,j3 (p.k,(x:Int),(a:Int),p.n,p.s),114),(w2.heap.size,QS,68)]->Ex (fun j=>w.heap.size<=j/\j<v.heap.size/\j≠w2.heap.size) v r (.mk k n g y ks kids)->D3 s a' rest c->
    Ak (⟨w2.heap.size,0,none⟩:Addr) 0 AD r v fun vw=>Ab vw (⟨w2.heap.size,0,none⟩:Addr) 0 AD fun r=>∃a':Nat,Ex (fun j=>w.heap.size<=j/\j<vw.heap.size) vw r (.mk k n g y ks kids)/\D3 s a' rest c/\Fb vw b s a'/\Ext (·=b) w vw:=by
   intro v a' r z H ho hr;refine Hx.GX H 2 rfl rfl (.inr (by omega)) fun v2 H2 e2=>Hx.I9 H2 2 rfl ?_
   have:=e2.size;exact ⟨a',(ho.AF e2 fun j hj h=>hj.2.2 h).AY fun j hj=>⟨hj.1,by omega⟩,hr,H2.get 0 rfl,H2.ext⟩
  iterate 5 refine H.ld 1 rfl rfl ?_
  refine (Et _ _).mono ?_;rintro q v1 ⟨rfl,e1⟩;have H:=H.AB e1;have jt:=H.size;refine Br.f (by show (!Y1 p.k p.s)=false;rw[ANh];rfl) (Br.dec (fun q=>by have:deep>=24:=q;omega) fun _=>H.ld 1 rfl rfl ?_);rw[PT]at hp;rcases hp with ⟨rfl,he⟩|⟨rfl,he⟩|⟨rfl,T,D,hI,he⟩|⟨rfl,T,W,P,hT,he⟩|⟨rfl,he⟩|⟨rfl,he⟩|⟨rfl,q,hq,he⟩|⟨rfl,q,hq,he⟩|⟨rfl,T,D,U,E,hI,hJ,he⟩
  ·
   obtain ⟨rfl,rfl⟩:=cp he;obtain ⟨t1,t2,t3,t4,t5⟩:=G3 HY (show CN 0=some ⟨false,false,false,false,false⟩from rfl);obtain rfl:=t1 rfl;obtain rfl:=t2 rfl;obtain rfl:=t3 rfl;obtain rfl:=t4 rfl;obtain rfl:=t5 rfl;refine Br.f (show ((5:Int)==1)=false from rfl) (Br.f (show ((5:Int)==2)=false from rfl) (Br.f (show ((5:Int)==3)=false from rfl) (Br.f (show ((5:Int)==4)=false from rfl) (Br.t (show ((5:Int)==5)=true from rfl) (H.ld 1 rfl rfl (Br.t (show ((ba Om).toList==(⟨#[110,117,108,108]⟩:cI).toList)=true by decide+kernel) ?_))))));refine (uo _).mono ?_;rintro r v2 ⟨rfl,e2⟩;exact fin (z:=QS) (H.AB e2) DB hr
  ·
   obtain ⟨rfl,rfl⟩:=cp he;obtain ⟨t1,t2,t3,t4,t5⟩:=G3 HY (show CN 1=some ⟨true,false,false,false,false⟩from rfl);obtain rfl:=t2 rfl;obtain rfl:=t3 rfl;obtain rfl:=t4 rfl;obtain rfl:=t5 rfl;have ANi:n=0\/n=1:=by
    unfold A6 at HY;simp only[aj]at HY;obtain ⟨_,h⟩:=HY;have h:(EU (deep+1) (.mk 1 n 0 ⟨#[]⟩ [] []) ⟨true,false,false,false,false⟩&&Ey (.mk 1 n 0 ⟨#[]⟩ [] []) ⟨true,false,false,false,false⟩)=true:=h;unfold Ey at h;simp only[aj]at h;have h:=h.2.1.1.1.1;have h:decide (0<=n/\n<=1)=true:=h;rw[bu]at h;omega
   rcases ANi with rfl|rfl
   ·refine Br.f (show ((5:Int)==1)=false from rfl) (Br.f (show ((5:Int)==2)=false from rfl) (Br.f (show ((5:Int)==3)=false from rfl) (Br.f (show ((5:Int)==4)=false from rfl) (Br.t (show ((5:Int)==5)=true from rfl) (H.ld 1 rfl rfl (Br.f (show ((ba GD).toList==(⟨#[110,117,108,108]⟩:cI).toList)=false by decide+kernel) (H.ld 1 rfl rfl ?_)))))));refine (gh _ _).mono ?_;rintro r v2 ⟨rfl,e2⟩;refine fin (z:=QS) (H.AB e2) ?_ hr;rw[show (if ((AX (if (0:Int)=0 then GD else KJ)).s.toList==(⟨#[116,114,117,101]⟩:cI).toList)=true then (1:Int)else 0)=0 by decide+kernel];exact DB
   ·refine Br.f (show ((5:Int)==1)=false from rfl) (Br.f (show ((5:Int)==2)=false from rfl) (Br.f (show ((5:Int)==3)=false from rfl) (Br.f (show ((5:Int)==4)=false from rfl) (Br.t (show ((5:Int)==5)=true from rfl) (H.ld 1 rfl rfl (Br.f (show ((ba KJ).toList==(⟨#[110,117,108,108]⟩:cI).toList)=false by decide+kernel) (H.ld 1 rfl rfl ?_)))))));refine (gh _ _).mono ?_;rintro r v2 ⟨rfl,e2⟩;refine fin (z:=QS) (H.AB e2) ?_ hr;rw[show (if ((AX (if (1:Int)=0 then GD else KJ)).s.toList==(⟨#[116,114,117,101]⟩:cI).toList)=true then (1:Int)else 0)=1 by decide+kernel];exact DB
  ·
   obtain ⟨rfl,rfl⟩:=cp he;obtain ⟨t1,t2,t3,t4,t5⟩:=G3 HY (show CN 2=some ⟨true,false,false,false,false⟩from rfl);obtain rfl:=t2 rfl;obtain rfl:=t3 rfl;obtain rfl:=t4 rfl;obtain rfl:=t5 rfl;refine Br.t (show ((1:Int)==1)=true from rfl) ?_
   iterate 5 refine H.ld 1 rfl rfl ?_
   refine (gi (H.get 0 rfl) _ _ _ _ (Y5 hr hn)).mono ?_;rintro r ok v2 ⟨rfl,e2⟩;have H:=H.AB e2;have HS:=H.size;refine H.nw fun v3 H=>?_
   simp only[ae,ag]at H;refine Hx.GX H 3 rfl rfl (.inr (by omega)) fun v4 H _=>?_
   simp only[aa,ab]at H;refine Br.f rfl (H.ld 1 rfl rfl ?_);refine (uq _ _).mono ?_;rintro r v5 ⟨rfl,e5⟩;exact fin (z:=QS) ((H.left (L:=[_,_,_]) (M:=[_])).AB e5) DB hr
  ·
   obtain ⟨rfl,rfl⟩:=cp he;obtain ⟨t1,t2,t3,t4,t5⟩:=G3 HY (show CN 3=some ⟨true,false,false,false,false⟩from rfl);obtain rfl:=t2 rfl;obtain rfl:=t3 rfl;obtain rfl:=t4 rfl;obtain rfl:=t5 rfl;refine Br.f (show ((2:Int)==1)=false from rfl) (Br.t (show ((2:Int)==2)=true from rfl) (H.ld 1 rfl rfl ?_));refine (Wb _ _).mono ?_;rintro r v2 ⟨rfl,e2⟩;exact fin (z:=QS) (H.AB e2) DB hr
  ·
   obtain ⟨rfl,rfl⟩:=cp he;obtain ⟨t1,t2,t3,t4,t5⟩:=G3 HY (show CN 4=some ⟨false,false,true,false,false⟩from rfl);obtain rfl:=t1 rfl;obtain rfl:=t2 rfl;obtain rfl:=t4 rfl;obtain rfl:=t5 rfl;refine Br.f (show ((3:Int)==1)=false from rfl) (Br.f (show ((3:Int)==2)=false from rfl) (Br.t (show ((3:Int)==3)=true from rfl) (H.ld 1 rfl rfl ?_)));refine (Fa _ _).mono ?_;rintro r v2 ⟨rfl,e2⟩;exact fin (z:=QS) (H.AB e2) DB hr
  ·
   obtain ⟨rfl,rfl⟩:=cp he;obtain ⟨t1,t2,t3,t4,t5⟩:=G3 HY (show CN 5=some ⟨false,false,true,false,false⟩from rfl);obtain rfl:=t1 rfl;obtain rfl:=t2 rfl;obtain rfl:=t4 rfl;obtain rfl:=t5 rfl;refine Br.f (show ((4:Int)==1)=false from rfl) (Br.f (show ((4:Int)==2)=false from rfl) (Br.f (show ((4:Int)==3)=false from rfl) (Br.t (show ((4:Int)==4)=true from rfl) (H.ld 1 rfl rfl ?_))));refine (ABc _ _).mono ?_;rintro r v2 ⟨rfl,e2⟩;exact fin (z:=QS) (H.AB e2) DB hr
  ·
   obtain ⟨rfl,rfl⟩:=cp he;obtain ⟨t1,t2,t3,t4,t5⟩:=G3 HY (show CN 6=some ⟨false,false,false,false,true⟩from rfl);obtain rfl:=t1 rfl;obtain rfl:=t2 rfl;obtain rfl:=t3 rfl;obtain rfl:=t4 rfl;refine Br.f (show ((6:Int)==1)=false from rfl) (Br.f (show ((6:Int)==2)=false from rfl) (Br.f (show ((6:Int)==3)=false from rfl) (Br.f (show ((6:Int)==4)=false from rfl) (Br.f (show ((6:Int)==5)=false from rfl) (H.ld 1 rfl rfl (Br.t (show ((ba [91]).toList==(⟨#[91]⟩:cI).toList)=true by decide+kernel) ?_))))));rw[uy];rw[aO]at hr;refine (mV (H.get 0 rfl) ih (by omega) FM hk9 G2 hq hr PR).mono ?_ fun _ _ h=>h
   rintro r v2 ⟨a',Bd,F4,Ha,e2⟩;have HS:=e2.size;have pG:=AO.lt (H.get 2 rfl);have H:=H.MN 0 rfl Ha e2 (.inl rfl);exact fin (z:=QS) H (Bd.AY fun j hj=>⟨by omega,hj.2,by omega⟩) F4
  ·
   obtain ⟨rfl,rfl⟩:=cp he;obtain ⟨t1,t2,t3,t4,t5⟩:=G3 HY (show CN 7=some ⟨false,false,false,true,true⟩from rfl);obtain rfl:=t1 rfl;obtain rfl:=t2 rfl;obtain rfl:=t3 rfl;have Ew:=CB HY rfl;have Ew:F3 false none ks kids=true:=Ew;refine Br.f (show ((6:Int)==1)=false from rfl) (Br.f (show ((6:Int)==2)=false from rfl) (Br.f (show ((6:Int)==3)=false from rfl) (Br.f (show ((6:Int)==4)=false from rfl) (Br.f (show ((6:Int)==5)=false from rfl) (H.ld 1 rfl rfl (Br.f (show ((ba [60,60]).toList==(⟨#[91]⟩:cI).toList)=false by decide+kernel) ?_))))));rw[uy];rw[aO]at hr;refine (ux (H.get 0 rfl) ih (by omega) FM hk9 Ew (by have:=(JM Ew).1;omega) hq hr PR).mono ?_ fun _ _ h=>h
   rintro r v2 ⟨a',Bd,F4,Ha,e2⟩;have HS:=e2.size;have pG:=AO.lt (H.get 2 rfl);have H:=H.MN 0 rfl Ha e2 (.inl rfl);exact fin (z:=QS) H (Bd.AY fun j hj=>⟨by omega,hj.2,by omega⟩) F4
  ·
   obtain ⟨rfl,rfl⟩:=cp he;obtain ⟨t1,t2,t3,t4,t5⟩:=G3 HY (show CN 8=some ⟨true,true,false,false,false⟩from rfl);obtain rfl:=t3 rfl;obtain rfl:=t4 rfl;obtain rfl:=t5 rfl;have hc:=(FT HY (by simp[Tr.k])).2.2.2.2 rfl;have hc:(1<=n/\n<=8191)/\0<=g/\g<=65535:=hc;refine Br.t (show ((1:Int)==1)=true from rfl) ?_
   iterate 5 refine H.ld 1 rfl rfl ?_
   refine (Y4 (H.get 0 rfl) _ _ _ hc.1.1 hc.1.2 hc.2.1 hc.2.2 hr).mono ?_;rintro r ok v2 ⟨rfl,rfl,a',F4,Ha,e2⟩;have H:=H.MN 0 rfl Ha e2 (.inl rfl);have HS:=H.size;simp only[aa,ab]at H;have pG:=AO.lt (H.get 2 rfl);refine H.nw fun v3 H=>?_
   simp only[ae,ag]at H;refine Hx.GX H 3 rfl rfl (.inr (by omega)) fun v4 H _=>?_
   simp only[aa,ab]at H;refine Br.t rfl (Hx.I9 H 3 rfl ?_);exact fin (z:=QS) (H.left (L:=[_,_,_]) (M:=[_])) DB F4
termination_by t=>SizeOf.sizeOf t
decreasing_by
 have:=VS (t:= .mk k n g y ks kids) ht;exact this
end
end Wt
namespace Wt
open Sh Fix Tk Tl Vl
section
variable {w w1 W:World} {b c a:Nat} {s:ByteArray} {t:Tr} {ps rest:List Pt}
attribute [local irreducible] Ld Sh.St Nw Nn AP Ab Ak Am
theorem mX (hb:Fb w b s a)(Bo:Cq 1 t=true)(h9:t.k≠9)(hp:PT t ps)(hr:D3 s a (ps++rest) c)(hn:FQ rest):
  su (some ⟨b,0,none⟩) w fun r e w1=>e=0/\∃a':Nat,Ex (fun j=>w.heap.size<=j/\j<w1.heap.size) w1 r t/\D3 s a' rest c/\Fb w1 b s a'/\Ext (·=b) w w1:=by
 refine AG7 _ _ _ ?_;unfold s7;have Md:=AO.lt hb;obtain ⟨p,m,rfl,_⟩:=Cy hp;refine (Hx.one (F:=(·=b)) hb).nw fun w2 H=>?_
 have hg:=H.size;have mL:=AO.lt (H.get 1 rfl);refine H.nw fun w3 H=>?_
 simp only[ae,ag]at H;have fc:=AO.lt (H.get 2 rfl);rw[ag]at hr;refine (Jf (H.get 0 rfl) hr).mono ?_ fun _ _ h=>h
 rintro r v1 ⟨x,a1,rfl,hr,LP,e1⟩;have H:=H.MN 0 rfl LP e1 (.inl rfl);simp only[aa,ab]at H;have jt:=e1.size;refine (SS s b c t v1 p m rest x a1 0 _ Bo (Int.le_refl _) h9 hp hr hn (H.get 0 rfl)).mono ?_ fun _ _ h=>h
 rintro r v2 ⟨a2,Bd,F4,Ha,e2⟩;have H:=H.MN 0 rfl Ha e2 (.inl rfl);simp only[aa,ab]at H;have HS:=e2.size;refine Hx.GX H 1 rfl rfl (.inr (aB _)) fun v3 H e3=>?_
 simp only[aa,ab]at H;refine H.BZ 2 rfl (by simp) (.inr (by omega)) fun v4 H e4=>?_
 simp only[af,aa,ab]at H;refine eB _ _ _ ?_;unfold ME;have LC:=e3.size;have Zt:=e4.size;refine Hx.I9 H 1 rfl (H.ld 2 rfl rfl ⟨rfl,a2,((Bd.AF e3 fun j hj h=>?_).AF e4 fun j hj h=>?_).AY fun j hj=>⟨by omega,by omega⟩,F4,H.get 0 rfl,H.ext⟩)
 ·have h:j=w.heap.size:=h;omega
 ·have h:j=w2.heap.size:=h;omega
theorem W6 (Bo:Cq 1 t=true)(h9:t.k≠9)(hp:PT t ps)(hr:D3 s a (ps++rest) c)(hn:FQ rest)(w:World):
  C84 s (a:Int) w fun r n e w1=>e=0/\∃a':Nat,n=(a':Int)/\Ex (fun j=>w.heap.size<=j/\j<w1.heap.size) w1 r t/\D3 s a' rest c/\Ext (fun _=>False) w w1:=by
 have Yw:=hr.le.1;refine T84 _ _ _ _ ?_;unfold S84;refine (Hx.start w (fun _=>False)).nw fun w2 H=>?_
 have hg:=H.size;have mL:=AO.lt (H.get 0 rfl);refine Br.dec (fun q=>by have:(a:Int)<0:=q;omega) fun _=>Br.dec (fun q=>by have:(a:Int)>((s.size:Nat):Int):=q;omega) fun _=>?_
 refine H.nw fun w3 H=>?_
 simp only[ae,ag]at H;have fc:=AO.lt (H.get 1 rfl);refine (mX (H.get 1 rfl) Bo h9 hp hr hn).mono ?_;rintro r e v1 ⟨rfl,a1,Bd,N4,LP,e1⟩;have H:=H.MN 1 rfl LP e1 (.inr (by omega));simp only[aa,ab]at H;have jt:=e1.size;refine H.B5 fun v2 H e2=>?_
 simp only[ae,ag]at H;have HS:=e2.size;refine Hx.GX H 2 rfl rfl (.inr (by omega)) fun v3 H e3=>Br.f rfl ?_
 simp only[aa,ab]at H;have LC:=e3.size;refine ⟨fun u=>AO u v1.heap.size (AH r).toArray 68/\AO u w2.heap.size #[.string s,.int .i64 (a1:Int)] 181,⟨H.drew.get 2 rfl,H.drew.get 1 rfl⟩,?_⟩;refine Am.AR (ts:=AD) (pre:=[]) (post:=[]) (x:=r) (fun u h=>by rw[ae,aN];exact h.1) rfl ?_;refine Nn.of (AP.of (fun _ h=>h.2) rfl ?_);have H:=H.drew;refine Hx.GX H 0 rfl rfl (.inr (aB _)) fun v4 H e4=>?_
 simp only[aa,ab]at H;have Zt:=e4.size;have mM:v3.drew.heap.size=v3.heap.size:=rfl;refine ⟨⟨H.get 2 rfl,H.get 1 rfl⟩,Hx.I9 H 0 rfl ⟨rfl,a1,rfl,((((Bd.AF e2 fun _ _ h=>h).AF e3 fun j hj h=>?_).AF (Ext.refl (fun _=>False) v3).drew fun _ _ h=>h).AF e4 fun j hj h=>?_).AY fun j hj=>⟨by omega,by omega⟩,N4,H.ext⟩⟩
 ·have h:j=v1.heap.size:=h;omega
 ·have h:j=w.heap.size:=h;omega
end
end Wt
namespace Wt
open Sh Fix Tk Tl Vl Go.Lib
mutual
def Gt:Tr->Bool
 | .mk k _ _ _ _ kids=>k==8||Kt kids
def Kt:List Tr->Bool
 |[]=>false
 |t::r=>Gt t||Kt r
end
theorem mF (t:Tr):Gt t=(t.k==8||Kt t.kids):=by cases t;rw[Gt];rfl
theorem F8:∀(l:List Tr),Kt l=l.any Gt
 |[]=>rfl
 |t::r=>by rw[Kt,F8 r];rfl
def Ev (l:By)(i:Nat):Bool:=IU (l.getD i 0)&&hasPrefix (l.drop (i+1)) [69,73]&&(decide (i+3=l.length)||IU (l.getD (i+3) 0))
def Dq (l:By):Bool:=(List.range l.length).all fun i=> !Ev l i
def gL:By:=[116,114,117,101]
def VQ:By:=[102,97,108,115,101]
def gM:By:=[110,117,108,108]
def F9 (s:By):Bool:=decide (s=gL)||decide (s=VQ)||decide (s=gM)
def Mi (s:By):Bool:=decide (s=[82])||decide (s=[66,73])||decide (s=[73,68])||decide (s=[69,73])
theorem Ku (a:ByteArray)(l:By):(a.toList==(ba l).toList)=decide (bl a=l):=by
 rw[ByteArray.toList_eq,ByteArray.toList_eq];show ((bl a)==(bl (ba l)))=_;rw[BB];by_cases h:bl a=l
 ·rw[aI h,bX.2 h]
 ·rw[aH h,bf.2 h]
section
variable {w w1 W v:World} {s:ByteArray}
attribute [local irreducible] Ld Sh.St Nw Nn AP Ab Ak Am
theorem IW:∀(t:Tr) (deep:Int) (o:Ob) (w:World),Cq deep t=true->OX w o t->lF o w fun r w1=>r=Gt t/\Ext (fun _=>False) w w1
 | .mk k n g y ks kids,deep,o,w,Bo,h=>by
  have ih:∀t∈kids,∀(deep:Int) (o:Ob) (w:World),Cq deep t=true->OX w o t->lF o w fun r w1=>r=Gt t/\Ext (fun _=>False) w w1:=fun t ht=>IW t
  obtain ⟨G2,_,FM⟩:=GQ Bo;have G2:kids.length<=8191:=G2;have FM:∀t∈kids,Cq (deep+1) t=true:=FM;obtain ⟨⟨hk,_⟩,_,VR⟩:=h.out;have hk:o.1=k:=hk;have VR:NZ w o.2.2.2.2.2 kids:=VR;refine T48 _ _ _ ?_;unfold S48;rw[B1];refine (Hx.start w (fun _=>False)).nw fun w2 H=>?_
  simp only[ae,add_lit,ah]at H⊢;rw[Gt];refine H.ld 0 rfl rfl (Br.eq (fun h8=>?_) fun h8=>H.ld 0 rfl rfl ?_)
  ·exact ⟨by rw[<-hk,h8];rfl,H.ext⟩
  ·rw[<-hk,bf.2 h8,Bool.false_or];refine lG _ _ _ ?_;unfold WS;refine eL _ _ _ ?_;unfold Rg;have hlen:=VR.len;refine ⟨fun n st u=>∃i:Nat,i<=kids.length/\st=(i:Int)/\n=kids.length-i/\Ext (fun _=>False) w u/\Kt (kids.take i)=false,kids.length,⟨0,by omega,rfl,by omega,H.ext,rfl⟩,?_⟩;rintro n st u ⟨i,hi,rfl,rfl,hE,hr⟩;unfold MG;refine Br.dec (fun Av=>?_) fun Fh=>?_
   ·have Av:(i:Int)<((o.2.2.2.2.2.len:Nat):Int):=Av;have Fp:i<kids.length:=by omega
    have D9:kids[i]?=some kids[i]:=al Fp;obtain ⟨d,L,Yi,hA⟩:=VR.AB hE;obtain ⟨x,hx,hxt⟩:=hA.P6 D9;refine ⟨by omega,by omega,?_⟩;rw[show (i:Int).toNat=i by omega];have hm:=bH Fp;have key:lF x u fun r8 uP=>Br r8 (((i:Int)>=0)=True/\Kt kids=true/\Ext (fun _=>False) w uP) (Kt (kids.take (i+1))=false/\Ext (fun _=>False) w uP):=by
     refine (ih _ hm (deep+1) x u (FM _ hm) ⟨d,hxt⟩).mono ?_;rintro r u2 ⟨rfl,e2⟩;cases hb:Gt kids[i]with
     |true=>exact Br.t rfl ⟨by simp,by rw[F8,List.any_eq_true];exact ⟨_,hm,hb⟩,hE.tr e2⟩
     |false=>
      refine Br.f rfl ⟨?_,hE.tr e2⟩;rw[aQ,D9,F8,List.any_append,<-F8,hr];simp[hb]
    obtain ⟨a,ha,hl⟩:=Yi.word hx (K:=fun x7=>lF x7 u fun r8 uP=>Br r8 ((decide ((i:Int)>=0)=Kt kids)/\Ext (fun _=>False) w uP) (∃m,m<kids.length-i/\∃i',i'<=kids.length/\IntKind.i64.wrap ((i:Int)+1)=((i':Nat):Int)/\m=kids.length-i'/\Ext (fun _=>False) w uP/\Kt (kids.take i')=false)) (key.mono fun r u2 hh=>by
     cases r with
     |true=>
      have hh:_/\Kt kids=true/\Ext (fun _=>False) w u2:=hh;refine Br.t rfl ⟨?_,hh.2.2⟩;rw[hh.2.1];simp
     |false=>
      have hh:Kt (kids.take (i+1))=false/\Ext (fun _=>False) w u2:=hh;exact Br.f rfl ⟨kids.length-(i+1),by omega,i+1,by omega,by rw[IntWalk.i64_in _ (by omega)];rfl,rfl,hh.2,hh.1⟩)
    rw[ha];exact Nn.of hl
   ·have Fh:¬(i:Int)<((o.2.2.2.2.2.len:Nat):Int):=Fh;have:i=kids.length:=by omega
    subst this;rw[aP]at hr;exact ⟨by rw[hr];rfl,hE⟩
termination_by t=>SizeOf.sizeOf t
decreasing_by
 have:=VS (t:= .mk k n g y ks kids) ht;exact this
end
end Wt
namespace Wt
open Sh Fix Tk Tl Vl Go.Lib
theorem mG {l p:By}(h:hasPrefix l p=true):p.length<=l.length:=by
 unfold hasPrefix at h;exact (cf.1 h).length_le
def Oe (s:By):Prop:=Cw s=true/\F9 s=false/\Mi s=false
section
variable {w w1 W v:World} {s:ByteArray}
attribute [local irreducible] Ld Sh.St Nw Nn AP Ab Ak Am
theorem QL (s:ByteArray){i:Nat}(hi:i<s.size)(hs:s.size<=1099511627776)(w:World):C92 s (i:Int) w fun r w1=>r=Ev (bl s) i/\w1=w:=by
 refine T92 _ _ _ _ ?_;unfold S92;have La:i<(bl s).length:=by rw[AE];exact hi
 have hc:=al La;have hg:(bl s).getD i 0=(bl s)[i]:=by rw[aE,hc];rfl
 have i1:IntKind.i64.wrap ((i:Int)+1)=((i+1:Nat):Int):=by rw[IntWalk.i64_in _ (by omega)];rfl
 have i3:IntKind.i64.wrap ((i:Int)+3)=((i+3:Nat):Int):=by rw[IntWalk.i64_in _ (by omega)];rfl
 refine ⟨by omega,by omega,?_⟩;rw[AV hc,i1,i3];unfold Ev;rw[hg];refine (GU _ w).mono ?_;rintro r w1 ⟨rfl,rfl⟩;cases h1:IU (bl s)[i]with
 |false=>exact Br.t rfl ⟨rfl,rfl⟩
 |true=>
  refine Br.f rfl ((Tk.Et s _ (a:=i+1) (by omega) w1).mono ?_);rintro r w2 ⟨rfl,rfl⟩;rw[show bl (⟨#[69,73]⟩:cI)=[69,73]from rfl];cases h2:hasPrefix ((bl s).drop (i+1)) [69,73]with
  |false=>exact Br.t rfl ⟨rfl,rfl⟩
  |true=>
   have hl:=mG h2;rw[aM,AE]at hl;have hl:2<=s.size-(i+1):=hl;refine Br.f rfl (Br.eq (fun h3=>⟨?_,rfl⟩) fun h3=>?_)
   ·rw[AE,aI (show i+3=s.size by omega)]
    rfl
   ·have h3l:i+3<(bl s).length:=by rw[AE];omega
    have hc3:=al h3l;have pG:(bl s).getD (i+3) 0=(bl s)[i+3]:=by rw[aE,hc3];rfl
    refine ⟨by omega,by rw[AE]at h3l;omega,?_⟩;rw[AV hc3];refine (GU _ w2).mono ?_;rintro r w3 ⟨rfl,rfl⟩;refine ⟨?_,rfl⟩;rw[pG,AE,aH (show ¬i+3=s.size by omega)]
    rfl
theorem mH (s:ByteArray)(hs:s.size<=1099511627776)(w:World):C65 s w fun r w1=>r=Dq (bl s)/\w1=w:=by
 refine T65 _ _ _ ?_;unfold S65;refine ⟨fun n st u=>∃i:Nat,i<=s.size/\st=(i:Int)/\n=s.size-i/\u=w/\∀j,j<i->Ev (bl s) j=false,s.size,⟨0,by omega,rfl,rfl,rfl,fun j hj=>by omega⟩,?_⟩;rintro n st u ⟨i,hi,rfl,rfl,rfl,hr⟩;unfold oL;refine Br.dec (fun Av=>?_) fun Fh=>?_
 ·have Av:(i:Int)<((s.size:Nat):Int):=Av;refine (QL s (i:=i) (by omega) hs u).mono ?_;rintro r u1 ⟨rfl,rfl⟩;cases hb:Ev (bl s) i with
  |true=>
   refine Br.t rfl ⟨?_,rfl⟩
   symm
   unfold Dq;rw[List.all_eq_false];exact ⟨i,cw.2 (by rw[AE];omega),by rw[hb];decide⟩
  |false=>
   refine Br.f rfl ⟨s.size-(i+1),by omega,i+1,by omega,by rw[IntWalk.i64_in _ (by omega)];rfl,rfl,rfl,fun j hj=>?_⟩;by_cases h:j=i
   ·rw[h];exact hb
   ·exact hr j (by omega)
 ·have Fh:¬(i:Int)<((s.size:Nat):Int):=Fh;refine ⟨?_,rfl⟩
  symm
  unfold Dq;rw[aJ];intro j hj;rw[hr j (by have:=cw.1 hj;rw[AE]at this;omega)]
  rfl
theorem LN (s:ByteArray)(w:World):C57 s w fun r w1=>r=F9 (bl s)/\w1=w:=by
 refine T57 _ _ _ ?_;unfold S57 F9;rw[show (⟨#[116,114,117,101]⟩:cI)=ba gL from rfl,show (⟨#[102,97,108,115,101]⟩:cI)=ba VQ from rfl,show (⟨#[110,117,108,108]⟩:cI)=ba gM from rfl,Ku,Ku,Ku];refine Br.dec (fun h=>⟨by rw[aI h];rfl,rfl⟩) fun h=>Br.dec (fun h2=>⟨by rw[aI h2,aH h];rfl,rfl⟩) fun h2=>⟨by rw[aH h2,aH h];rfl,rfl⟩
theorem mI (s:ByteArray)(hs:s.size<=549755813888)(w:World):C66 s w fun r w1=>(r=true->Oe (bl s))/\Ext (fun _=>False) w w1:=by
 refine T66 _ _ _ ?_;unfold S66;refine (l8 (a:=0) s (bD _) hs w).mono ?_;rintro r e w2 ⟨hn,e2⟩;refine ((Hx.start w2 (fun _=>False))).nw fun w3 H=>?_
 simp only[ae,add_lit,ah]at H⊢
 iterate 5 (refine H.st 0 rfl (by simp) (.inr (aB _)) fun _ H=>?_;simp only[af,aa,ab]at H)
 have no:∀{v:World},Ext (fun _=>False) w2 v->(false=true->Oe (bl s))/\Ext (fun _=>False) w v:=fun h=>⟨fun h=>(by cases h),e2.tr h⟩
 refine Br.ne (fun _=>no H.ext) fun h0=>H.ld 0 rfl rfl (Br.ne (fun _=>no H.ext) fun h5=>H.ld 0 rfl rfl (Br.ne (fun _=>no H.ext) fun hA=>H.ld 0 rfl rfl (Br.ne (fun _=>no H.ext) fun hT=>?_)))
 obtain ⟨b,T,rest,hb,hd,_,hw,rfl⟩:=hn h0 h5;have hA:((b:Nat):Int)=0:=hA;have KE:b=0:=by omega
 subst KE;have hT:((0+T.length:Nat):Int)=((s.size:Nat):Int):=hT;rw[b9]at hd;have hl:=aq List.length hd;rw[AE,ai]at hl;have hr:rest=[]:=aT (by omega);rw[hr,aN]at hd;refine (LN s _).mono ?_;rintro r v ⟨rfl,rfl⟩;cases hc:F9 (bl s)with
 |true=>exact Br.f rfl (no H.ext)
 |false=>
  refine Br.t rfl (H.nw fun w4 H=>?_);simp only[ae,ag]at H;refine (Tryz.slices_Contains_string v.heap.size 0 4 4 [⟨#[82]⟩,⟨#[66,73]⟩,⟨#[73,68]⟩,⟨#[69,73]⟩] s w4 (by simp) (by decide) fun j hj=>?_).mono fun e w' h=>⟨_,h.1,?_⟩
  ·rw[(H.get 1 rfl).cell]
   match j,hj with
   |0,_=>rfl
   |1,_=>rfl
   |2,_=>rfl
   |3,_=>rfl
  ·obtain ⟨_,rfl⟩:=h;refine ⟨fun hr=>⟨hd▸hw,hc,?_⟩,e2.tr H.ext⟩;have hr:Lib.containsS [⟨#[82]⟩,⟨#[66,73]⟩,⟨#[73,68]⟩,⟨#[69,73]⟩] s=false:=by
    cases hx:Lib.containsS [⟨#[82]⟩,⟨#[66,73]⟩,⟨#[73,68]⟩,⟨#[69,73]⟩] s with
    |false=>rfl
    |true=>
     have hr:(!Lib.containsS [⟨#[82]⟩,⟨#[66,73]⟩,⟨#[73,68]⟩,⟨#[69,73]⟩] s)=true:=hr;rw[hx]at hr;cases hr
   have hn:s∉[(⟨#[82]⟩:cI),⟨#[66,73]⟩,⟨#[73,68]⟩,⟨#[69,73]⟩]:=fun hm=>by
    rw[(containsS_iff _ _).2 hm]at hr;cases hr
   unfold Mi;simp only[cD,bM];refine ⟨⟨⟨fun h=>hn ?_,fun h=>hn ?_⟩,fun h=>hn ?_⟩,fun h=>hn ?_⟩
   ·rw[show s=(⟨#[82]⟩:cI)from Ci h];simp
   ·rw[show s=(⟨#[66,73]⟩:cI)from Ci h];simp
   ·rw[show s=(⟨#[73,68]⟩:cI)from Ci h];simp
   ·rw[show s=(⟨#[69,73]⟩:cI)from Ci h];simp
end
end Wt
namespace Wt
open Sh Fix Tk Tl Vl Go.Lib
abbrev Bs:Type:=ByteArray×List Tr×ByteArray
abbrev Kp:Type:=ByteArray×AA×ByteArray
def Qx (w:World)(o:Kp)(q:Bs):Prop:=o.1=q.1/\NZ w o.2.1 q.2.1/\o.2.2=q.2.2
theorem Qx.AB{w w1:World}{o:Kp}{q:Bs}(h:Qx w o q)(he:Ext (fun _=>False) w w1):Qx w1 o q:=⟨h.1,h.2.1.AB he,h.2.2⟩
def Gu:By:=[66,73]
def gN (q:Bs):Prop:=(bl q.1=Gu/\∃d,q.2.1=[d]/\d.k=7/\Dq (bl q.2.2)=true)\/(bl q.1≠Gu/\Oe (bl q.1)/\q.2.1.length<=32/\bl q.2.2=[])
def DH (q:Bs):Prop:=gN q/\∀t∈q.2.1,Cq 1 t=true/\Gt t=false/\t.k≠9
theorem NZ.at'{w:World}{s:AA}{ts:List Tr}(h:NZ w s ts){i:Nat}{t:Tr}(hi:ts[i]?=some t):∃a x,s.p=some a/\OX w x t/\(∀K:AK->Prop,K x->Ab w (a.add (i*6)) 0 AD K)/\w.cell? (a.add (i*6))=some (.int .i64 x.1)/\
  w.cell? ((a.add (i*6)).add 4)=some (AA.v x.2.2.2.2.1)/\w.cell? ((a.add (i*6)).add 5)=some (AA.v x.2.2.2.2.2):=by
 obtain ⟨d,L,Yi,hA⟩:=h;obtain ⟨x,hx,hxt⟩:=hA.P6 hi;obtain ⟨a,ha,c0,_,_,_,c4,c5⟩:=Yi.get hx;refine ⟨a,x,ha,⟨d,hxt⟩,fun K k=>?_,c0,c4,c5⟩;obtain ⟨a',Q5,hl⟩:=Yi.word hx k;rw[ha]at Q5;cases Q5;exact hl
section
variable {w w1 W v:World} {s:ByteArray} {o:Kp} {q:Bs}
attribute [local irreducible] Ld Sh.St Nw Nn AP Ab Ak Am
theorem uV (h:Qx w o q)(h1:q.1.size<=549755813888)(h2:q.2.2.size<=549755813888):C46 o w fun r w1=>(r=true->gN q)/\Ext (fun _=>False) w w1:=by
 obtain ⟨g1,g2,g3⟩:=h;refine T46 _ _ _ ?_;unfold S46;refine (Hx.start w (fun _=>False)).nw fun w2 H=>?_
 simp only[ae,add_lit,ah]at H⊢;have no:∀{v:World},Ext (fun _=>False) w v->(false=true->gN q)/\Ext (fun _=>False) w v:=fun h=>⟨fun h=>(by cases h),h⟩
 have hlen:=g2.len;refine H.ld 0 rfl rfl ?_;rw[show (⟨#[66,73]⟩:cI)=ba Gu from rfl,Ku,g1];refine Br.dec (fun hb=>?_) fun hb=>?_
 ·refine H.ld 0 rfl rfl (Br.eq (fun hl=>?_) fun _=>no H.ext);have IM:q.2.1.length=1:=by omega
  obtain ⟨d,hd⟩:∃d,q.2.1=[d]:=by
   match hq:q.2.1,IM with
   |[d],_=>exact ⟨d,rfl⟩
  obtain ⟨dd,L,Yi,hA⟩:=g2.AB H.ext;rw[hd]at hA;obtain ⟨x,hx,hxt⟩:=hA.P6 (i:=0) rfl;obtain ⟨a,ha,c0,_⟩:=Yi.get hx;refine H.ld 0 rfl rfl ⟨by decide,by omega,?_⟩;rw[ha];refine Nn.of ?_;obtain ⟨⟨hk,_⟩,_⟩:=OX.out ⟨dd,hxt⟩;refine Ld.mk c0 (Br.eq (fun h7=>H.ld 0 rfl rfl ?_) fun _=>no H.ext);refine (mH _ (by rw[g3];omega) _).mono ?_;rintro r w3 ⟨rfl,rfl⟩;exact ⟨fun hr=> .inl ⟨hb,d,hd,by rw[<-hk];exact h7,by rw[<-g3];exact hr⟩,H.ext⟩
 ·refine H.ld 0 rfl rfl ?_;rw[g1];refine (mI _ h1 _).mono ?_;rintro r w3 ⟨hr,e3⟩;have H:=H.AB e3;cases r with
  |false=>exact Br.f rfl (no H.ext)
  |true=>
   refine Br.t rfl (H.ld 0 rfl rfl (Br.dec (fun hl=>H.ld 0 rfl rfl ⟨fun he=> .inr ⟨hb,hr rfl,by omega,?_⟩,H.ext⟩) fun _=>no H.ext));rw[show (⟨#[]⟩:cI)=ba []from rfl,Ku,bu,g3]at he;exact he
theorem ABJ (h:Qx w o q)(h1:q.1.size<=549755813888)(h2:q.2.2.size<=549755813888):C25 o w (fun e w1=>(e=0->DH q)/\Ext (fun _=>False) w w1) fun _ _=>False:=by
 have g2:=h.2.1;have hlen:=g2.len;refine T25 _ _ _ _ ?_;unfold S25;refine (Hx.start w (fun _=>False)).nw fun w2 H=>?_
 simp only[ae,add_lit,ah]at H⊢
 iterate 3 refine H.ld 0 rfl rfl ?_
 refine (uV (o:=o) (h.AB H.ext) h1 h2).mono ?_;rintro r w3 ⟨hr,e3⟩;have H:=H.AB e3;cases r with
 |false=>exact Br.t rfl ⟨fun h=>absurd h (by decide),H.ext⟩
 |true=>
  have hf:=hr rfl;have hl:q.2.1.length<=32:=by
   rcases hf with ⟨_,d,hd,_⟩|⟨_,_,hl,_⟩
   ·rw[hd];simp
   ·exact hl
  refine Br.f rfl (H.ld 0 rfl rfl ?_);refine ⟨fun n st u=>∃i:Nat,i<=q.2.1.length/\st=(i:Int)/\n=q.2.1.length-i/\Hx w (fun _=>False) u [(w.heap.size,#[.string o.1,AA.v o.2.1,.string o.2.2],33)]/\∀t∈q.2.1.take i,Cq 1 t=true,q.2.1.length,⟨0,by omega,rfl,by omega,H,fun t ht=>(by rw[bE]at ht;cases ht)⟩,?_⟩;clear H;rintro n st u ⟨i,hi,rfl,rfl,H,hr⟩;unfold oO;refine Br.dec (fun Av=>?_) fun Fh=>?_
  ·have Av:(i:Int)<((o.2.1.len:Nat):Int):=Av;have Fp:i<q.2.1.length:=by omega
   have D9:q.2.1[i]?=some q.2.1[i]:=al Fp;obtain ⟨a,x,ha,Bd,mJ,_⟩:=NZ.at' (g2.AB H.ext) D9;refine ⟨by omega,by omega,?_⟩;rw[show (i:Int).toNat=i by omega,ha];refine Nn.of (mJ _ ?_);have hs:=H.size;refine H.B5 fun u2 H2 e2=>?_
   simp only[ae,ag]at H2;refine Hx.GX H2 1 rfl rfl (.inr hs) fun u3 H3 e3=>Hx.I9 H3 1 rfl ?_
   have Tq:Ext (fun _=>False) u u3:=Ext.Cg e2 e3 fun j hj=>by have hj:j=u.heap.size:=hj;omega
   refine (Wy (Bd.AB Tq)).mono ?_ fun _ _ h=>h
   rintro e u4 ⟨he,e4⟩;have H3:=(H3.left (L:=[_]) (M:=[_])).AB e4;refine Br.ne (fun Bg=>⟨fun h=>absurd h Bg,H3.ext⟩) fun h0=>?_
   rcases he with ⟨Bo,_⟩|⟨_,Bg⟩
   ·refine ⟨q.2.1.length-(i+1),by omega,i+1,by omega,by rw[IntWalk.i64_in _ (by omega)];rfl,rfl,H3,fun t ht=>?_⟩;rw[aQ,D9]at ht;rcases aS.1 ht with ht|ht
    ·exact hr t ht
    ·have ht:t=q.2.1[i]:=by simpa using ht
     rw[ht];exact Bo
   ·exact absurd h0 Bg
  ·have Fh:¬(i:Int)<((o.2.1.len:Nat):Int):=Fh;have hi:i=q.2.1.length:=by omega
   subst hi;rw[aP]at hr;refine H.ld 0 rfl rfl ?_;refine ⟨fun n st u=>∃i:Nat,i<=q.2.1.length/\st=(i:Int)/\n=q.2.1.length-i/\Hx w (fun _=>False) u [(w.heap.size,#[.string o.1,AA.v o.2.1,.string o.2.2],33)]/\∀t∈q.2.1.take i,Gt t=false/\t.k≠9,q.2.1.length,⟨0,by omega,rfl,by omega,H,fun t ht=>(by rw[bE]at ht;cases ht)⟩,?_⟩;clear H;rintro n st u ⟨i,hi,rfl,rfl,H,F4⟩;unfold oN;refine Br.dec (fun Av=>?_) fun Fh=>?_
   ·have Av:(i:Int)<((o.2.1.len:Nat):Int):=Av;have Fp:i<q.2.1.length:=by omega
    have D9:q.2.1[i]?=some q.2.1[i]:=al Fp;obtain ⟨a,x,ha,Bd,mJ,_⟩:=NZ.at' (g2.AB H.ext) D9;refine ⟨by omega,by omega,?_⟩;rw[show (i:Int).toNat=i by omega,ha];refine Nn.of (mJ _ ?_);have hs:=H.size;refine H.B5 fun u2 H2 e2=>?_
    simp only[ae,ag]at H2;refine Hx.GX H2 1 rfl rfl (.inr hs) fun u3 H3 e3=>Hx.I9 H3 1 rfl ?_
    have Tq:Ext (fun _=>False) u u3:=Ext.Cg e2 e3 fun j hj=>by have hj:j=u.heap.size:=hj;omega
    refine (IW _ 1 _ _ (hr _ (bH Fp)) (Bd.AB Tq)).mono ?_;rintro r u4 ⟨rfl,e4⟩;have H3:=H3.AB e4;obtain ⟨⟨hxk,_⟩,_⟩:=Bd.out;cases j1:Gt q.2.1[i]with
    |true=>exact Br.t rfl ⟨fun h=>absurd h (by decide),H3.ext⟩
    |false=>
     refine Br.f rfl (H3.ld 1 rfl rfl (Br.eq (fun h9=>⟨fun h=>absurd h (by decide),H3.ext⟩) fun h9=>?_));refine ⟨q.2.1.length-(i+1),by omega,i+1,by omega,by rw[IntWalk.i64_in _ (by omega)];rfl,rfl,H3.left (L:=[_]) (M:=[_]),fun t ht=>?_⟩;rw[aQ,D9]at ht;rcases aS.1 ht with ht|ht
     ·exact F4 t ht
     ·have ht:t=q.2.1[i]:=by simpa using ht
      rw[ht];exact ⟨j1,by rw[<-hxk];exact h9⟩
   ·have Fh:¬(i:Int)<((o.2.1.len:Nat):Int):=Fh;have hi:i=q.2.1.length:=by omega
    subst hi;rw[aP]at F4;exact ⟨fun _=>⟨hf,fun t ht=>⟨hr t ht,F4 t ht⟩⟩,H.ext⟩
end
end Wt
namespace Wt
open Sh Fix Tk Tl Vl Go.Lib
def BH:UInt8->List By->UInt8
 |l,[]=>l
 |l,p::r=>if p=[]then BH l r else BH (p.getLastD 0) r
theorem IX:∀(a b:List By) (l:UInt8),AZ l (a++b)=AZ l a++AZ (BH l a) b
 |[],b,l=>rfl
 |p::a,b,l=>by
  rw[ag];by_cases h:p=[]
  ·rw[h,join_nil,join_nil,BH,aD rfl,IX a b]
  ·rw[join_cons l h,join_cons l h,BH,az h,IX a b,aO,aO,aO]
theorem FN:∀(a b:List By) (l:UInt8),BH l (a++b)=BH (BH l a) b
 |[],b,l=>rfl
 |p::a,b,l=>by
  rw[ag,BH,BH];split
  ·exact FN a b l
  ·exact FN a b _
def CX (xs ys:List By):Prop:=∀l,AZ l xs=AZ l ys/\BH l xs=BH l ys
theorem CX.refl(xs:List By):CX xs xs:=fun _=>⟨rfl,rfl⟩
theorem CX.app{a b c d:List By}(h:CX a b)(k:CX c d):CX (a++c) (b++d):=fun l=>by
 rw[IX,IX,FN,FN,(h l).1,(h l).2];exact ⟨by rw[(k _).1],(k _).2⟩
theorem Yq {a b:By}(hb:b≠[]):(a++b).getLastD 0=b.getLastD 0:=by
 obtain ⟨x,y,rfl⟩:∃x y,b=x++[y]:=⟨b.dropLast,b.getLast hb,(List.dropLast_concat_getLast hb).symm⟩
 rw[<-aO];simp[List.getLastD_eq_getLast?]
theorem JY:∀(r:List By) (y:By),y≠[]->(y++AZ (y.getLastD 0) r).getLastD 0=BH (y.getLastD 0) r
 |[],y,h=>by rw[AZ,aN,BH]
 |q::r,y,h=>by
  by_cases hq:q=[]
  ·rw[hq,join_nil,BH,aD rfl];exact JY r y h
  ·rw[join_cons _ hq,BH,az hq,<-aO,<-aO];have e:∀x:By,(x++q).getLastD 0=q.getLastD 0:=fun x=>Yq hq
   rw[<-e (y++(if (Ae (y.getLastD 0)=true\/y.getLastD 0=47)/\Ae (q.headD 0)=true then [32]else []))];exact JY r _ (by simp[hq])
theorem CX.one{ps:List By}(h0:ps≠[])(h:∀p∈ps,p≠[]):CX [AZ 32 ps] ps:=by
 cases ps with
 |nil=>exact absurd rfl h0
 |cons p r=>
  have hp:=h p (ax ..);have ex:AZ 32 (p::r)=p++AZ (p.getLastD 0) r:=Wz hp r (by rintro ⟨h|h,_⟩<;>exact absurd h (by decide));have hx:AZ 32 (p::r)≠[]:=by rw[ex];simp[hp]
  have hh:(AZ 32 (p::r)).headD 0=p.headD 0:=by
   rw[ex];cases p with
   |nil=>exact absurd rfl hp
   |cons c t=>rfl
  have hl:(AZ 32 (p::r)).getLastD 0=BH (p.getLastD 0) r:=by rw[ex];exact JY r p hp
  intro l;have e2:BH l (p::r)=BH (p.getLastD 0) r:=az hp;rw[join_cons l hx,hh,BH,az hx,hl,join_cons l hp,e2];refine ⟨?_,rfl⟩;rw[ex];simp[AZ]
def Zw:By:=[73,68]
def pR (q:Bs)(ps:List Pt):Prop:=(bl q.1≠Gu/\∃qa,PL q.2.1 qa/\ps=qa++[AX (bl q.1)])\/(bl q.1=Gu/\∃d qa,q.2.1=[d]/\PD d.ks d.kids qa/\ps=AX Gu::(qa++[AX Zw]))
theorem QM:∀(a b:List Tr),JQ (a++b)=JQ a+JQ b
 |[],b=>by rw[ae,JQ];omega
 |t::a,b=>by rw[ag,JQ,JQ,QM a b];omega
theorem W0:∀(a b:List ByteArray),VE (a++b)=VE a+VE b
 |[],b=>by rw[ae,VE];omega
 |t::a,b=>by rw[ag,VE,VE,W0 a b];omega
theorem GA (l:List ByteArray)(x:ByteArray):((l++[x]).map fun x=>x.size+1).sum=(l.map fun x=>x.size+1).sum+(x.size+1):=by simp
theorem Of {t:Tr}{ps:List Pt}{r:ByteArray}(h:PT t ps)(hr:bl r=AZ 32 (ps.map (·.t))):r.size<=pI t:=by
 have h1:=gO t ps h;have h2:=Mj ps 32;rw[<-hr,AE]at h2;omega
theorem Og {t:Tr}{ps:List Pt}{deep:Int}(Bo:Cq deep t=true)(h:PT t ps):CX [AZ 32 (ps.map (·.t))] (ps.map (·.t)):=by
 obtain ⟨p,m,rfl,_⟩:=Cy h;refine CX.one (by simp) fun x hx=>?_
 obtain ⟨y,hy,rfl⟩:=cl.1 hx;exact (gP t _ Bo h y hy).ne
section
variable {w w1 W v:World} {s:ByteArray} {o:Kp} {q:Bs}
attribute [local irreducible] Ld Sh.St Nw Nn AP Ab Ak Am
theorem Mk (xs:List ByteArray)(x:ByteArray):(xs++[x]).map Value.string=xs.map Value.string++[.string x]:=by simp
theorem Yr (xs:List ByteArray)(x y:ByteArray):(xs++[x,y]).map Value.string=xs.map Value.string++[.string x,.string y]:=by simp
theorem QN (xs:List ByteArray)(x:ByteArray):(xs++[x]).map bl=xs.map bl++[bl x]:=by simp
def VT (q:Bs)(w:World)(r:AA)(w1:World):Prop:=∃(xs:List ByteArray) (ps:List Pt),Row w1 r 9 1 (xs.map Value.string)/\CX (xs.map bl) (ps.map (·.t))/\pR q ps/\(xs.map fun x=>x.size+1).sum<=JQ q.2.1+q.2.1.length+q.1.size+20/\Ext (fun _=>False) w w1
theorem QO {l:List Tr}{i:Nat}{t:Tr}{p q:List Pt}(hi:l[i]?=some t)(h:PL (l.take i) p)(k:PT t q):PL (l.take (i+1)) (p++q):=by
 rw[aQ,hi];exact h.snoc k
theorem Ys (h:Qx w o q)(hg:DH q)(hn:bl q.1≠Gu)(hT:Tl.PT w)(hc:∀t∈q.2.1,Na t<=4000000)(hm:JQ q.2.1<=1000000000)(hl:q.2.1.length<=32):ze o w (VT q w) fun _ _=>False:=by
 obtain ⟨g1,g2,g3⟩:=h;have hlen:=g2.len;refine T28 _ _ _ _ ?_;unfold S28;refine (Hx.start w (fun _=>False)).nw fun w2 H=>?_
 have uA:=AO.lt (H.get 0 rfl);simp only[ae,add_lit,ah]at H⊢;refine H.ld 0 rfl rfl ?_;rw[show (⟨#[66,73]⟩:cI)=ba Gu from rfl,Ku,g1];refine Br.f (aH hn) (H.ld 0 rfl rfl ?_);refine ⟨fun n st u=>∃(i:Nat) (sl:AA) (xs:List ByteArray) (ps:List Pt),i<=q.2.1.length/\st=(sl,(i:Int))/\n=q.2.1.length-i/\Hx w (fun _=>False) u [(w.heap.size,#[.string o.1,AA.v o.2.1,.string o.2.2],33)]/\
  Row u sl 9 1 (xs.map Value.string)/\(∀j,sl.own j->w.heap.size<j)/\xs.length=i/\CX (xs.map bl) (ps.map (·.t))/\PL (q.2.1.take i) ps/\(xs.map fun x=>x.size+1).sum<=JQ (q.2.1.take i)+i,q.2.1.length,
  ⟨0,⟨none,0,0⟩,[],[],by omega,rfl,by omega,H,Row.nil _ _ _,fun j hj=>(by obtain ⟨a,ha,_⟩:=hj;cases ha),rfl,CX.refl _,(by rw[bE,PL]),by simp⟩,?_⟩
 clear H;rintro n st u ⟨i,sl,xs,ps,hi,rfl,rfl,H,hR,hO,j2,hJ,hP,hS⟩;unfold oR;have hwu:=AO.lt (H.get 0 rfl);have qW:sl.len=xs.length:=by have:=hR.1;rw[aV]at this;omega
 dsimp only;refine Br.dec (fun Av=>?_) fun Fh=>?_
 ·have Av:(i:Int)<((o.2.1.len:Nat):Int):=Av;have Fp:i<q.2.1.length:=by omega
  have D9:q.2.1[i]?=some q.2.1[i]:=al Fp;have Bt:=bH Fp;generalize q.2.1[i]=t at D9 Bt;obtain ⟨a,x,ha,Bd,mJ,_⟩:=NZ.at' (g2.AB H.ext) D9;refine ⟨by omega,by omega,?_⟩;rw[show (i:Int).toNat=i by omega,ha];refine Nn.of (mJ _ ?_);have hs:=H.size;refine H.B5 fun u2 H2 e2=>?_
  simp only[ae,ag]at H2;refine Hx.GX H2 1 rfl rfl (.inr hs) fun u3 H3 e3=>Hx.I9 H3 1 rfl ?_
  have Tq:Ext (fun _=>False) u u3:=Ext.Cg e2 e3 fun j hj=>by have hj:j=u.heap.size:=hj;omega
  refine (W3 (Bd.AB Tq) (hT.AB H3.ext) (hc t Bt)).mono ?_ fun _ _ h=>h
  rintro r e u4 ⟨he,e4⟩;have H4:=(H3.left (L:=[_]) (M:=[_])).AB e4;rcases he with ⟨_,Bo,_,pt,IY,hr⟩|⟨_,uW⟩
  ·refine H4.B5 fun u5 H5 e5=>?_
   simp only[ae,ag]at H5;have e35:Ext (fun _=>False) u u5:=(Tq.tr e4).tr e5;have Wi:=e35.size;obtain ⟨s',u6,r6,WA,r63,e6,WC⟩:=Ml.Hu (ty:=66) (hR.AB e35 fun _ _ h=>h) (H5.get 1 rfl) rfl (fun y hy=>by rw[av.1 hy];rfl) (by omega) (by omega);refine ⟨s',u6,r6,?_⟩;have H6:=(H5.left (L:=[_]) (M:=[_])).other e6 (fun j hj=>by
    have h1:=hO j hj;simp only[aC,br,aw,aG,bA];omega) fun j hj=> .inr (by have:=hO j hj;omega)
   have VR:=Of IY hr;refine ⟨q.2.1.length-(i+1),by omega,i+1,s',xs++[r],ps++pt,by omega,by rw[IntWalk.i64_in _ (by omega)];rfl,rfl,H6,by rw[Mk];exact WA,fun j hj=>(WC j hj).elim (hO j) fun h=>by omega,by rw[ai,j2];rfl,?_,QO D9 hP IY,?_⟩
   ·rw[QN,bd,hr];exact hJ.app (Og Bo IY)
   ·rw[GA,aQ,D9,cE,QM];simp only[JQ];omega
  ·have:=hg.2 t Bt;rcases uW with hb|hb
   ·rw[this.1]at hb;cases hb
   ·exact absurd hb this.2.2
 ·have Fh:¬(i:Int)<((o.2.1.len:Nat):Int):=Fh;have hi:i=q.2.1.length:=by omega
  subst hi;rw[aP]at hP hS;refine H.ld 0 rfl rfl (H.B5 fun u5 H5 e5=>?_);simp only[ae,ag]at H5;have Wi:=e5.size;obtain ⟨s',u6,r6,WA,r63,e6,WC⟩:=Ml.Hu (ty:=66) (hR.AB e5 fun _ _ h=>h) (H5.get 1 rfl) rfl (fun y hy=>by rw[av.1 hy];rfl) (by omega) (by omega);refine ⟨s',u6,r6,xs++[o.1],ps++[AX (bl q.1)],by rw[Mk];exact WA,?_,.inl ⟨hn,ps,hP,rfl⟩,?_,Ext.Cg H5.ext e6 fun j hj=>by have:=hO j hj;omega⟩
  ·rw[QN,bd,g1];exact hJ.app (CX.refl _)
  ·rw[GA,g1];omega
end
end Wt
namespace Wt
open Sh Fix Tk Tl Vl Go.Lib
theorem QP {ks:List ByteArray}{l:List Tr}{i:Nat}{k:ByteArray}{t:Tr}{p q:List Pt}(hk:ks[i]?=some k)(hi:l[i]?=some t)(h:PD (ks.take i) (l.take i) p)(z:PT t q):PD (ks.take (i+1)) (l.take (i+1)) (p++Cz k::q):=by
 rw[aQ,aQ,hk,hi];exact h.snoc z
theorem gQ {d d':Int}{t:Tr}(h:A6 d t=true)(hd:d'<=d)(h1:d≠1\/d'=1):A6 d' t=true:=by
 unfold A6 at h⊢;simp only[aj,bu]at h⊢;refine ⟨by omega,?_⟩;obtain ⟨_,h⟩:=h;split at h
 ·cases h
 ·rename_i u hu;simp only[aj]at h⊢;refine ⟨?_,h.2⟩;have h:=h.1;unfold EU at h⊢;simp only[aj,bI,bX,bne_iff_ne]at h⊢;exact ⟨h.1,by rcases h.2 with h|h<;>omega⟩
mutual
theorem VU:∀(t:Tr) {d d':Int},Cq d t=true->d'<=d->1<=d'->(d≠1\/d'=1)->Cq d' t=true
 | .mk k n g s ks kids,d,d',h,hd,hp,h1=>by
  rw[Cq,aj]at h⊢;refine ⟨gQ h.1 hd h1,?_⟩;exact W4 kids h.2 (by omega) (by omega) (.inl (by omega))
theorem W4:∀(l:List Tr) {d d':Int},SG d l=true->d'<=d->1<=d'->(d≠1\/d'=1)->SG d' l=true
 |[],_,_,_,_,_,_=>rfl
 |t::r,d,d',h,hd,hp,h1=>by
  rw[SG,aj]at h⊢;exact ⟨VU t h.1 hd hp h1,W4 r h.2 hd hp h1⟩
end
theorem Yt {k r:ByteArray}(h:bl r=Bv (bl k)):r.size<=3*k.size+1:=by
 have:=IZ k;rw[<-h,AE]at this;exact this
section
variable {w w1 W v:World} {s:ByteArray} {o:Kp} {q:Bs}
attribute [local irreducible] Ld Sh.St Nw Nn AP Ab Ak Am
theorem Yu (h:Qx w o q)(hg:DH q)(hn:bl q.1=Gu)(hT:Tl.PT w)(hc:∀t∈q.2.1,Na t<=4000000)(hm:JQ q.2.1<=1000000000):ze o w (VT q w) fun _ _=>False:=by
 obtain ⟨g1,g2,g3⟩:=h;obtain ⟨ABL,OU⟩:=hg;obtain ⟨d,hd,pS,_⟩:∃d,q.2.1=[d]/\d.k=7/\Dq (bl q.2.2)=true:=by
  rcases ABL with h|h
  ·exact h.2
  ·exact absurd hn h.1
 have ABM:=(OU d (by rw[hd];exact ax ..)).1;have hcd:=hc d (by rw[hd];exact ax ..);have hlen:=g2.len;rw[hd]at g2 hm hlen;have HY:=ABM;rw[DK,aj]at HY;have Ew:=CB HY.1 pS;obtain ⟨G2,_,FM⟩:=GQ ABM;obtain ⟨hkk,pT,_,_⟩:=JM Ew;have pU:=DA Ew;have hmd:pI d=60+4*d.s.size+VE d.ks+JQ d.kids:=by cases d;rw[pI];rfl
 have hcn:Na d=3+d.ks.length+KF d.kids:=by cases d;rw[Na];rfl
 simp only[JQ]at hm;obtain ⟨a0,x0,ha0,ANN,_,_,hc4,hc5⟩:=NZ.at' g2 (i:=0) (t:=d) rfl;obtain ⟨_,hKV,hOK⟩:=ANN.out;have AUm:=hOK.len;refine T28 _ _ _ _ ?_;unfold S28;refine (Hx.start w (fun _=>False)).nw fun w2 H=>?_
 have uA:=AO.lt (H.get 0 rfl);simp only[ae,add_lit,ah]at H⊢;refine H.ld 0 rfl rfl ?_;rw[show (⟨#[66,73]⟩:cI)=ba Gu from rfl,Ku,g1];refine Br.t (aI hn) (H.B5 fun w3 H3 e3=>?_);simp only[ae,ag]at H3;obtain ⟨s1,w4,r4,oc,r43,e4,cT⟩:=Ml.Hu (ty:=66) (Row.nil w3 9 1) (H3.get 1 rfl) rfl (fun y hy=>by rw[av.1 hy];rfl) (by decide) (by decide);refine ⟨s1,w4,r4,?_⟩;have LC:=e3.size;have hO1:∀j,s1.own j->w.heap.size<j:=fun j hj=>(cT j hj).elim (fun h=>by obtain ⟨a,ha,_⟩:=h;cases ha) fun h=>by omega
 have H4:=(H3.left (L:=[_]) (M:=[_])).other e4 (fun j hj=>by obtain ⟨a,ha,_⟩:=hj;cases ha) fun j hj=>by obtain ⟨a,ha,_⟩:=hj;cases ha
 have AQy:o.2.1.len=1:=hlen;refine H4.ld 0 rfl rfl ⟨by decide,by omega,?_⟩;rw[ha0];refine Nn.of ?_;rw[show ((0:Int)).toNat*6=0*6 from rfl];refine Ld.mk (H4.ext.B8 hc4) ?_;have EZ:x0.2.2.2.2.1.len=d.ks.length:=hKV.1.1;refine ⟨fun n st u=>∃(i:Nat) (sl:AA) (xs:List ByteArray) (ps:List Pt),i<=d.ks.length/\st=(sl,(i:Int))/\n=d.ks.length-i/\Hx w (fun _=>False) u [(w.heap.size,#[.string o.1,AA.v o.2.1,.string o.2.2],33)]/\
  Row u sl 9 1 (xs.map Value.string)/\(∀j,sl.own j->w.heap.size<j)/\xs.length=2*i+1/\CX (xs.map bl) (Gu::ps.map (·.t))/\PD (d.ks.take i) (d.kids.take i) ps/\(xs.map fun x=>x.size+1).sum<=3+VE (d.ks.take i)+JQ (d.kids.take i),d.ks.length,
  ⟨0,s1,[⟨#[66,73]⟩],[],by omega,rfl,by omega,H4,oc,hO1,rfl,CX.refl _,(by rw[bE,bE,PD]),(by show 3<=_;omega)⟩,?_⟩
 clear H H3 H4 oc cT;rintro n st u ⟨i,sl,xs,ps,hi,rfl,rfl,H,hR,hO,j2,hJ,hP,hS⟩;unfold oP;have hwu:=AO.lt (H.get 0 rfl);have qW:sl.len=xs.length:=by have:=hR.1;rw[aV]at this;omega
 dsimp only;refine Br.dec (fun Av=>?_) fun Fh=>?_
 ·have Av:(i:Int)<((x0.2.2.2.2.1.len:Nat):Int):=Av;have Fp:i<d.ks.length:=by omega
  have Cx:d.ks[i]?=some d.ks[i]:=al Fp;have hmk:=bH Fp;generalize d.ks[i]=key at Cx hmk;have D9:d.kids[i]?=some (d.kids[i]'(by omega)):=al (by omega);have Bt:=bH (show i<d.kids.length by omega);generalize d.kids[i]'(by omega)=t at D9 Bt;obtain ⟨ak,hak,Tw⟩:=(hKV.AB H.ext).2 i key Cx;refine ⟨by omega,by omega,?_⟩;rw[show (i:Int).toNat*1=i by omega,hak];refine Nn.of (Ld.mk Tw ?_);refine (Tl.VV (LO (pU key hmk)) u).mono ?_ fun _ _ h=>h
  rintro r1 e1 u2 ⟨he1,f1⟩;have N4:bl r1=Bv (bl key):=by
   rcases he1 with h|h
   ·exact h.2.2
   ·exact absurd h.2 (QQ (pU key hmk))
  have H2:=H.AB f1;refine H2.ld 0 rfl rfl ⟨by decide,by omega,?_⟩;rw[ha0];refine Nn.of ?_;rw[show ((0:Int)).toNat*6=0*6 from rfl];refine Ld.mk (H2.ext.B8 hc5) ?_;obtain ⟨a,x,ha,Bd,mJ,_⟩:=NZ.at' (hOK.AB H2.ext) D9;refine ⟨by omega,by omega,?_⟩;rw[show (i:Int).toNat=i by omega,ha];refine Nn.of (mJ _ ?_);have Hr:=SH D9;refine (W3 Bd (hT.AB H2.ext) (by omega)).mono ?_ fun _ _ h=>h
  rintro r e u4 ⟨he,e4⟩;have H4:=H2.AB e4;have uX:=VW (FM t Bt) (by decide);rcases he with ⟨_,Bo,_,pt,IY,hr⟩|⟨_,uW⟩
  ·refine H4.B5 fun u5 H5 e5=>?_
   simp only[ae,ag]at H5;have e35:Ext (fun _=>False) u u5:=(f1.tr e4).tr e5;have Wi:=e35.size;obtain ⟨s',u6,r6,WA,r63,e6,WC⟩:=Ml.app (ty:=66) (s2:=⟨some ⟨u4.heap.size,0,none⟩,2,2⟩) (hR.AB e35 fun _ _ h=>h) (Bb.of (k:=1) (H5.get 1 rfl) rfl) (fun y hy=>by
    simp only[aw,aG,bA]at hy;rcases hy with rfl|rfl<;>rfl) (by show (sl.len+2)*16<=_;omega) (by show sl.len+2<=_;omega)
   refine ⟨s',u6,r6,?_⟩;have H6:=(H5.left (L:=[_]) (M:=[_])).other e6 (fun j hj=>by
    have h1:=hO j hj;simp only[aC,br,aw,aG,bA];omega) fun j hj=> .inr (by have:=hO j hj;omega)
   have VR:=Of IY hr;have hns:=Yt N4;refine ⟨d.ks.length-(i+1),by omega,i+1,s',xs++[r1,r],ps++Cz key::pt,by omega,by rw[IntWalk.i64_in _ (by omega)];rfl,rfl,H6,by rw[Yr];exact WA,fun j hj=>(WC j hj).elim (hO j) fun h=>by omega,by rw[ai,j2];simp;omega,?_,QP Cx D9 hP IY,?_⟩
   ·have e:(xs++[r1,r]).map bl=xs.map bl++([Bv (bl key)]++[AZ 32 (pt.map (·.t))]):=by rw[bd,aC,aC,br,N4,hr];rfl
    have e2:Gu::(ps++Cz key::pt).map (·.t)=(Gu::ps.map (·.t))++([Bv (bl key)]++pt.map (·.t)):=by simp[Cz]
    rw[e,e2];exact hJ.app ((CX.refl _).app (Og Bo IY))
   ·rw[show xs++[r1,r]=(xs++[r1])++[r] by simp,GA,GA,aQ,Cx,aQ,D9,cE,cE,QM,W0];simp only[JQ,VE];omega
  ·rcases uW with hb|hb
   ·rw[VU t (FM t Bt) (by decide) (by decide) (.inr rfl)]at hb;cases hb
   ·exact absurd hb uX
 ·have Fh:¬(i:Int)<((x0.2.2.2.2.1.len:Nat):Int):=Fh;have hi:i=d.ks.length:=by omega
  subst hi;rw[aP,hkk,aP]at hP;rw[aP,hkk,aP]at hS;refine H.B5 fun u5 H5 e5=>?_
  simp only[ae,ag]at H5;have Wi:=e5.size;obtain ⟨s',u6,r6,WA,r63,e6,WC⟩:=Ml.Hu (ty:=66) (hR.AB e5 fun _ _ h=>h) (H5.get 1 rfl) rfl (fun y hy=>by rw[av.1 hy];rfl) (by omega) (by omega);refine ⟨s',u6,r6,xs++[⟨#[73,68]⟩],AX Gu::(ps++[AX Zw]),by rw[Mk];exact WA,?_,.inr ⟨hn,d,ps,hd,hP,rfl⟩,?_,Ext.Cg H5.ext e6 fun j hj=>by have:=hO j hj;omega⟩
  ·rw[QN,aC,bd,<-ag];exact hJ.app (CX.refl _)
  ·rw[GA,hd];simp only[JQ,ar,aU];have:(⟨#[73,68]⟩:cI).size=2:=rfl;omega
end
end Wt
namespace Wt
open Sh Fix Tk Tl Vl Go.Lib NR
theorem JZ:∀(xs:List By) (l:UInt8),(AZ l xs).length<=(xs.map fun x=>x.length+1).sum
 |[],l=>by simp[AZ]
 |x::r,l=>by
  rw[aC,bK];by_cases h:x=[]
  ·rw[h,join_nil];have:=JZ r l;omega
  ·rw[join_cons l h,ai,ai];have:=JZ r (x.getLastD 0);generalize AZ (x.getLastD 0) r=z at this⊢;split<;>simp<;>omega
theorem SI {xs:List ByteArray}{r:ByteArray}(h:bl r=AZ 32 (xs.map bl)):r.size<=(xs.map fun x=>x.size+1).sum:=by
 have:=JZ (xs.map bl) 32;rw[<-h,AE,List.map_map]at this;refine bC this (Nat.le_of_eq ?_)
 congr 1
def CL (o:Kp):List Value:=[.string o.1,AA.v o.2.1,.string o.2.2]
def Kr (w:World)(s:AA)(Q:List Bs):Prop:=∃L:List Kp,s.len=L.length/\Bb w s 3 (L.flatMap CL)/\A3 (Qx w) L Q
theorem OT {L:List Kp}{i j:Nat}{o:Kp}(hi:L[i]?=some o)(hj:j<3):(L.flatMap CL)[i*3+j]?=(CL o)[j]?:=by
 induction L generalizing i with
 |nil=>cases hi
 |cons p L ih=>
  rw[bB];cases i with
  |zero=>
   cases hi;rw[Nat.zero_mul,ah,bj (by simp[CL];omega)]
  |succ i=>
   rw[bG (by simp[CL];omega),<-ih (by simpa using hi)]
   congr 1
   simp only[CL,ar,aU];omega
theorem Kr.len{w:World}{s:AA}{Q:List Bs}(h:Kr w s Q):s.len=Q.length:=by
 obtain ⟨L,h1,_,h2⟩:=h;rw[h1,h2.len]
theorem Kr.AB{w w1:World}{s:AA}{Q:List Bs}(h:Kr w s Q)(he:Ext (fun _=>False) w w1):Kr w1 s Q:=by
 obtain ⟨L,h1,h2,h3⟩:=h;exact ⟨L,h1,h2.AB he,h3.imp fun _ _ h=>h.AB he⟩
theorem Kr.at'{w:World}{s:AA}{Q:List Bs}(h:Kr w s Q){i:Nat}{q:Bs}(hi:Q[i]?=some q):∃a o,s.p=some a/\Qx w o q/\w.cell? (a.add (i*3))=some (.string o.1)/\w.cell? ((a.add (i*3)).add 1)=some (AA.v o.2.1)/\w.cell? ((a.add (i*3)).add 2)=some (.string o.2.2):=by
 obtain ⟨L,h1,h2,h3⟩:=h;obtain ⟨o,ho,Bd⟩:=h3.P6 hi;have g:∀j v,j<3->(CL o)[j]?=some v->∃a,s.p=some a/\w.cell? ((a.add (i*3)).add j)=some v:=fun j v hj hv=>by
  obtain ⟨a,ha,hc⟩:=h2.2 (i*3+j) v (by rw[OT ho hj];exact hv);exact ⟨a,ha,by rw[Be];exact hc⟩
 obtain ⟨a,ha,c0⟩:=g 0 _ (by omega) rfl;obtain ⟨a1,VB,c1⟩:=g 1 _ (by omega) rfl;obtain ⟨a2,MT,c2⟩:=g 2 _ (by omega) rfl;rw[ha]at VB MT;cases VB;cases MT;exact ⟨a,o,ha,Bd,by rw[Be]at c0;exact c0,c1,c2⟩
def pV (q:Bs)(B:By):Prop:=∃ps,pR q ps/\B=AZ 32 (ps.map (·.t))++10::(if bl q.1=Gu then bl q.2.2++[10,69,73,10]else [])
def Ek:List Bs->By->Prop
 |[],B=>B=[]
 |q::r,B=>∃a b,pV q a/\Ek r b/\B=a++b
theorem Ek.snoc:∀{Q:List Bs} {q:Bs} {A B:By},Ek Q A->pV q B->Ek (Q++[q]) (A++B)
 |[],q,A,B,h,k=>by
  have h:A=[]:=h;subst h;exact ⟨B,[],k,rfl,by simp⟩
 |x::Q,q,A,B,⟨a,b,h1,h2,h3⟩,k=>by
  subst h3;exact ⟨a,b++B,h1,h2.snoc k,by simp⟩
def Zs (q:Bs):Nat:=JQ q.2.1+q.2.1.length+q.1.size+q.2.2.size+40
section
variable {w w1 W v:World} {s:AA} {Q:List Bs}
attribute [local irreducible] Ld Sh.St Nw Nn AP Ab Ak Am
theorem QF {o:Kp}{q:Bs}(h:Qx w o q)(hg:DH q)(hT:Tl.PT w)(hc:∀t∈q.2.1,Na t<=4000000)(hm:JQ q.2.1<=1000000000):ze o w (VT q w) fun _ _=>False:=by
 by_cases hn:bl q.1=Gu
 ·exact Yu h hg hn hT hc hm
 ·refine Ys h hg hn hT hc hm ?_;rcases hg.1 with ⟨h,_⟩|⟨_,_,h,_⟩
  ·exact absurd h hn
  ·exact h
theorem lh (h:Kr w s Q)(hT:Tl.PT w)(hl:Q.length<=8191)(hc:∀q∈Q,∀t∈q.2.1,Na t<=4000000)(hz:(Q.map Zs).sum<=1000000000):C10 s w (fun r e w1=>((e=0->(∀q∈Q,DH q)/\Ek Q (bl r)/\r.size<=1000000000)/\(e≠0->r=⟨#[]⟩))/\Ext (fun _=>False) w w1) fun _ _=>False:=by
 have hlen:=h.len;have hzq:∀q∈Q,Zs q<=1000000000:=fun q hq=>bC (by
  obtain ⟨i,hi⟩:=bP hq;exact HU (i:=i) (by rw[aR,hi];rfl)) hz
 refine T10 _ _ _ _ ?_;unfold S10;refine Br.dec (fun q=>by have:((s.len:Nat):Int)>8191:=q;omega) fun _=>?_
 refine ⟨fun n st u=>∃i:Nat,i<=Q.length/\st=(i:Int)/\n=Q.length-i/\Ext (fun _=>False) w u/\∀q∈Q.take i,DH q,Q.length,⟨0,by omega,rfl,by omega,Ext.refl _ _,fun q hq=>(by rw[bE]at hq;cases hq)⟩,?_⟩;rintro n st u ⟨i,hi,rfl,rfl,hE,hG⟩;unfold oU;refine Br.dec (fun Av=>?_) fun Fh=>?_
 ·have Av:(i:Int)<((s.len:Nat):Int):=Av;have Fp:i<Q.length:=by omega
  have Zr:Q[i]?=some Q[i]:=al Fp;have fg:=bH Fp;generalize Q[i]=q at Zr fg;have Gx:=hzq q fg;unfold Zs at Gx;obtain ⟨a,o,ha,Bd,c0,c1,c2⟩:=(h.AB hE).at' Zr;refine ⟨by omega,by omega,?_⟩;rw[show (i:Int).toNat=i by omega,ha];refine Nn.of (Ld.mk c0 (Ld.mk c1 (Ld.mk c2 ?_)));refine (Hx.start u (fun _=>False)).nw fun u2 H=>?_
  simp only[ae,add_lit,ah]at H⊢
  iterate 3 (refine H.st 0 rfl (by simp) (.inr (aB _)) fun _ H=>?_;simp only[af,aa,ab]at H)
  iterate 3 refine H.ld 0 rfl rfl ?_
  refine (ABJ (o:=o) (Bd.AB H.ext) (by omega) (by omega)).mono ?_ fun _ _ h=>h
  rintro e u3 ⟨he,e3⟩;have hE3:=hE.tr (H.ext.tr e3);refine Br.ne (fun Bg=>⟨⟨fun h=>absurd h Bg,fun _=>by trivial⟩,hE3⟩) fun h0=>⟨Q.length-(i+1),by omega,i+1,by omega,by rw[IntWalk.i64_in _ (by omega)];rfl,rfl,hE3,fun y hy=>?_⟩
  rw[aQ,Zr]at hy;rcases aS.1 hy with hy|hy
  ·exact hG y hy
  ·have hy:y=q:=by simpa using hy
   rw[hy];exact he h0
 ·have Fh:¬(i:Int)<((s.len:Nat):Int):=Fh;have hi:i=Q.length:=by omega
  subst hi;rw[aP]at hG;refine Nw.of ?_;have e0:Ext (fun _=>False) u (u.alloc (.cells #[.pointer none,AA.v ⟨none,0,0⟩] 78)):=(Ext.refl _ _).alloc _;have KE:=AO.new u #[.pointer none,AA.v ⟨none,0,0⟩] 78;generalize u.alloc (.cells #[.pointer none,AA.v ⟨none,0,0⟩] 78)=u1 at e0 KE⊢;have B0:Bu u u1 u.heap.size none ⟨none,0,0⟩ []:=⟨aB _,.inl rfl,KE,⟨rfl,.inl ⟨rfl,rfl⟩⟩⟩
  refine ⟨fun n st v=>∃(i:Nat) (acc:By) (p:Option Addr) (sb:AA),i<=Q.length/\st=(i:Int)/\n=Q.length-i/\Bu u v u.heap.size p sb acc/\Ek (Q.take i) acc/\acc.length+((Q.drop i).map Zs).sum<=1000000000/\Ext (fun j=>u.heap.size<=j) u v,Q.length,
   ⟨0,[],none,_,by omega,rfl,by omega,B0,(by rw[bE];rfl),by simpa using hz,e0.mono fun _ _ h=>h.elim⟩,?_⟩
  rintro n st v ⟨i,acc,p,sb,hi,rfl,rfl,hB,hTx,ANO,pW⟩;unfold oS;have Zx:Ext (fun _=>False) w v:=hE.trans pW (fun _ h=>h) fun j hj h=>by have:=hE.size;have h:u.heap.size<=j:=h;omega
  refine Br.dec (fun Av=>?_) fun Fh=>?_
  ·have Av:(i:Int)<((s.len:Nat):Int):=Av;have Fp:i<Q.length:=by omega
   have Zr:Q[i]?=some Q[i]:=al Fp;have fg:=bH Fp;generalize Q[i]=q at Zr fg;have lp:((Q.drop i).map Zs).sum=Zs q+((Q.drop (i+1)).map Zs).sum:=by rw[Tl.GB Zr,aC,bK]
   have Gx:=hzq q fg;have AUr:Zs q=JQ q.2.1+q.2.1.length+q.1.size+q.2.2.size+40:=rfl;obtain ⟨a,o,ha,Bd,c0,c1,c2⟩:=(h.AB Zx).at' Zr;refine ⟨by omega,by omega,?_⟩;rw[show (i:Int).toNat=i by omega,ha];refine Nn.of (Ld.mk c0 (Ld.mk c1 (Ld.mk c2 ?_)));refine (Hx.start v (fun _=>False)).nw fun v2 H=>?_
   simp only[ae,add_lit,ah]at H⊢
   iterate 3 (refine H.st 0 rfl (by simp) (.inr (aB _)) fun _ H=>?_;simp only[af,aa,ab]at H)
   iterate 3 refine H.ld 0 rfl rfl ?_
   refine (QF (o:=o) (Bd.AB H.ext) (hG q fg) (hT.AB (Zx.tr H.ext)) (hc q fg) (by omega)).mono ?_ fun _ _ h=>h
   rintro r1 v3 ⟨xs,ps,hR,hJ,hLP,hxs,e3⟩;have H:=H.AB e3;have j2:xs.length<=1000000000:=by
    have h1:∀l:List ByteArray,l.length<=(l.map fun x=>x.size+1).sum:=fun l=>by
     induction l with
     |nil=>simp
     |cons x l ih=>rw[ar,aC,bK];omega
    have:=h1 xs;omega
   refine (W5 hR.view (by omega) (by omega)).mono ?_;rintro r2 v4 ⟨F4,e4⟩;have H:=H.AB e4;have AUs:=SI F4;have IM:(r2++(⟨#[10]⟩:cI)).size=r2.size+1:=by rw[ByteArray.size_append];rfl
   refine ⟨by show ((r2.size+1:Nat):Int)<=9223372036854775807;omega,?_⟩;refine (NR.Fa (hB.AB H.ext) (by omega)).mono ?_;rintro r3 r4 v5 ⟨sb5,hB5,hW5⟩;have e1:acc++(r2++(⟨#[10]⟩:cI)).data.toList=acc++(AZ 32 (ps.map (·.t))++[10]):=by
    rw[<-(hJ 32).1,<-F4];simp[bl]
   rw[e1]at hB5;have pX:(acc++(AZ 32 (ps.map fun x:Pt=>x.t)++[10])).length=acc.length+(r2.size+1):=by
    rw[<-e1,ai,bL];show _+(r2++(⟨#[10]⟩:cI)).size=_;rw[IM]
   have ho5:=hW5.AB _ _ _ (by decide) (by decide) (H.get 0 rfl);have hE5:Ext (fun j=>u.heap.size<=j) u v5:=(pW.trans H.ext (fun _ h=>h) fun _ _ h=>h.elim).tr hW5.ext;refine Ld.of ho5 rfl ?_;rw[show (⟨#[66,73]⟩:cI)=ba Gu from rfl,Ku,Bd.1];have Hr:Q.take (i+1)=Q.take i++[q]:=by rw[aQ,Zr];rfl
   refine Br.dec (fun Qy=>?_) fun Qy=>?_
   ·refine Ld.of ho5 rfl ?_;have lV:(o.2.2++(⟨#[10,69,73,10]⟩:cI)).size=o.2.2.size+4:=by rw[ByteArray.size_append];rfl
    have Ja:o.2.2=q.2.2:=Bd.2.2;have AUt:o.2.2.size=q.2.2.size:=by rw[Ja]
    refine ⟨by show ((o.2.2.size+4:Nat):Int)<=9223372036854775807;omega,?_⟩;refine (NR.Fa hB5 (by omega)).mono ?_;rintro r5 r6 v6 ⟨sb6,hB6,hW6⟩;refine ⟨Q.length-(i+1),by omega,i+1,_,_,_,by omega,by rw[IntWalk.i64_in _ (by omega)];rfl,rfl,hB6,?_,?_,hE5.tr hW6.ext⟩
    ·rw[Hr,aO];refine hTx.snoc ⟨ps,hLP,?_⟩;rw[aD Qy,Ja];simp[bl]
    ·rw[ai,pX,bL];show acc.length+(r2.size+1)+(o.2.2++(⟨#[10,69,73,10]⟩:cI)).size+_<=_;rw[lV];omega
   ·refine ⟨Q.length-(i+1),by omega,i+1,_,_,_,by omega,by rw[IntWalk.i64_in _ (by omega)];rfl,rfl,hB5,?_,by rw[pX];omega,hE5⟩;rw[Hr];refine hTx.snoc ⟨ps,hLP,?_⟩;rw[az Qy]
  ·have Fh:¬(i:Int)<((s.len:Nat):Int):=Fh;have hi:i=Q.length:=by omega
   subst hi;rw[aP]at hTx;refine (NR.JD hB pW.size).mono ?_;rintro r v3 ⟨rfl,hb⟩;refine ⟨⟨fun _=>⟨hG,?_,?_⟩,fun h=>absurd rfl h⟩,hE.trans (pW.tr (CZ hb)) (fun _ h=>h) fun j hj h=>by have:=hE.size;have h:u.heap.size<=j:=h;omega⟩
   ·show Ek Q (bl (ba acc));rw[BB];exact hTx
   ·show acc.toArray.size<=_;rw[cB];omega
end
end Wt
namespace Wt
open Sh Fix Tk Tl Vl Go.Lib
def Ia (w:World)(b:Nat)(s:ByteArray)(a:Nat)(sl:AA):Prop:=AO w b #[.string s,.int .i64 (a:Int),AA.v sl] 88
section
variable {w0 w w1 W v:World} {s:ByteArray} {a b c:Nat} {sl:AA} {t:Tr} {ps rest:List Pt}
attribute [local irreducible] Ld Sh.St Nw Nn AP Ab Ak Am
theorem Ia.AB(h:Ia w b s a sl)(he:Ext (fun _=>False) w w1):Ia w1 b s a sl:=he.AR h id
theorem FO (at' e:Int)(w:World){R:World->Prop}{PR:Value->World->Prop}(h:R w):OL true at' e w R PR:=by
 refine T56 _ _ _ _ _ _ ?_;unfold S56;exact Br.f rfl h
theorem BI (at' e:Int)(w:World){q:Bool}{R:World->Prop}{PR:Value->World->Prop}(hq:q=true)(h:R w):OL q at' e w R PR:=by
 subst hq;exact FO at' e w h
theorem FP (hb:Ia w b s a sl)(ha:a<=s.size)(hs:s.size<=549755813888){P:TT->Prop}(hn:Dr s a fun r e=>P r/\e=0){PR:Value->World->Prop}:zf (some ⟨b,0,none⟩) w (fun r w1=>P r/\Ext (fun _=>False) w w1) PR:=by
 refine T55 _ _ _ _ ?_;unfold S55;refine (Hx.start w (fun _=>False)).nw fun w2 H=>?_
 simp only[ae,add_lit,ah]at H⊢;have hd:w2.drew.heap.size=w2.heap.size:=rfl;have H:=H.drew;have hg:=H.size;have LP:Ia w2.drew b s a sl:=hb.AB H.ext;refine ⟨fun u=>Ia u b s a sl,LP,Nn.of (AP.of (fun _ h=>h) rfl (Nn.of (AP.of (fun _ h=>h) rfl ⟨?_,?_⟩)))⟩
 ·refine (hn _).mono ?_;rintro r e w3 ⟨⟨hP,rfl⟩,e3⟩;have H:=H.AB e3;have LC:=H.size;refine H.nw fun w4 H=>?_
  simp only[ae,ag]at H
  iterate 5 (refine H.st 1 rfl (by simp) (.inr LC) fun _ H=>?_;simp only[af,aa,ab]at H)
  have H:=H.drew;refine ⟨fun u=>Ia u b s a sl,hb.AB H.ext,Nn.of (AP.of (fun _ h=>h) rfl (Nn.of (AP.of (fun _ h=>h) rfl ?_)))⟩;refine (QR s ha (by omega) _).mono ?_;rintro r7 w5 ⟨_,rfl⟩;refine FO _ _ _ ?_
  iterate 5 refine H.ld 1 rfl rfl ?_
  iterate 5 (refine H.st 0 rfl (by simp) (.inr (aB _)) fun _ H=>?_;simp only[af,aa,ab]at H)
  iterate 5 refine H.ld 0 rfl rfl ?_
  exact ⟨hP,H.ext⟩
 ·refine H.B5 fun w3 H e3=>?_
  simp only[ae,ag]at H;refine ⟨LP.AB e3,(hn _).mono ?_⟩;rintro r e w4 ⟨⟨hP,rfl⟩,e4⟩;have H:=H.AB e4
  iterate 5 (refine H.st 1 rfl (by simp) (.inr hg) fun _ H=>?_;simp only[af,aa,ab]at H)
  have H:=H.drew;refine ⟨fun u=>Ia u b s a sl,hb.AB H.ext,Nn.of (AP.of (fun _ h=>h) rfl (Nn.of (AP.of (fun _ h=>h) rfl ?_)))⟩;refine (QR s ha (by omega) _).mono ?_;rintro r7 w5 ⟨_,rfl⟩;refine FO _ _ _ ?_
  iterate 5 refine H.ld 1 rfl rfl ?_
  iterate 5 (refine H.st 0 rfl (by simp) (.inr (aB _)) fun _ H=>?_;simp only[af,aa,ab]at H)
  iterate 5 refine H.ld 0 rfl rfl ?_
  exact ⟨hP,H.ext⟩
theorem gR (hb:Ia w b s a sl)(tk:TT)(Bo:Cq 1 t=true)(j1:Gt t=false)(h9:t.k≠9)(hp:PT t ps)(hr:D3 s a (ps++rest) c)(hn:FQ rest){PR:Value->World->Prop}:
  C59 (some ⟨b,0,none⟩) tk w (fun r w1=>∃a':Nat,Ex (fun j=>w.heap.size<=j/\j<w1.heap.size) w1 r t/\D3 s a' rest c/\Ia w1 b s a' sl/\Ext (·=b) w w1) PR:=by
 refine T59 _ tk _ _ _ ?_;unfold S59;have Md:=AO.lt hb;refine (Hx.one (F:=(·=b)) hb).nw fun w2 H=>?_
 have hg:=H.size;have mL:=AO.lt (H.get 1 rfl);refine H.nw fun w3 H=>?_
 simp only[ae,ag,add_lit,ah]at H⊢;have hd:w3.drew.heap.size=w3.heap.size:=rfl;have H:=H.drew;have fc:=AO.lt (H.get 2 rfl);have LP:Ia w3.drew b s a sl:=H.get 0 rfl;refine ⟨fun u=>Ia u b s a sl,LP,Nn.of (AP.of (fun _ h=>h) rfl (Nn.of (AP.of (fun _ h=>h) rfl ⟨?_,?_⟩)))⟩
 ·refine (W6 Bo h9 hp hr hn _).mono ?_;rintro r n e v1 ⟨rfl,a1,rfl,Bd,N4,e1⟩;have H:=H.AB e1;have jt:=e1.size;refine H.B5 fun v2 H e2=>?_
  simp only[ae,ag]at H;have HS:=e2.size;refine Hx.GX H 3 rfl rfl (.inr (by omega)) fun v3 H e3=>?_
  simp only[aa,ab]at H;have LC:=e3.size;refine H.ld 1 rfl rfl (FO _ _ _ ?_);have H:=H.drew;have ed:Ext (fun _=>False) v3 v3.drew:=(Ext.refl _ v3).drew;have hd3:v3.drew.heap.size=v3.heap.size:=rfl;have hx3:=((Bd.AF e2 fun _ _ h=>h).AF e3 fun j hj (h:j=v1.heap.size)=>by omega).AF ed fun _ _ h=>h
  refine ⟨fun u=>AO u v1.heap.size (AH r).toArray 68/\AO u w.heap.size (j3 tk) 114,⟨H.get 3 rfl,H.get 1 rfl⟩,?_⟩;refine Am.AR (ts:=AD) (pre:=[]) (post:=[]) (x:=r) (fun u h=>by rw[ae,aN];exact h.1) rfl (AP.of (fun _ h=>h.2) rfl ?_);refine (IW t 1 _ _ Bo hx3.t0z).mono ?_;rintro q v4 ⟨rfl,e4⟩;have H:=H.AB e4;have Zt:=e4.size;refine ⟨⟨H.get 3 rfl,H.get 1 rfl⟩,?_⟩;rw[j1];refine FO _ _ _ (Nn.of ?_);simp only[add_lit,ah];refine H.BZ 0 rfl (by simp) (.inl rfl) fun v5 H e5=>?_
  simp only[af,aa,ab]at H;have Wi:=e5.size;refine Hx.I9 H 3 rfl (Hx.GX H 2 rfl rfl (.inr hg) fun v6 H e6=>Hx.I9 H 2 rfl ?_);simp only[aa,ab]at H;have Zy:=e6.size;exact ⟨a1,(((hx3.AF e4 fun _ _ h=>h).AF e5 fun j hj (h:j=b)=>by omega).AF e6 fun j hj (h:j=w2.heap.size)=>by omega).AY fun j hj=>⟨by omega,by omega⟩,N4,H.get 0 rfl,H.ext⟩
 ·refine H.B5 fun v2 H e2=>?_
  simp only[ae,ag]at H;have HS:=e2.size;have pG:=AO.lt (H.get 3 rfl);refine ⟨LP.AB e2,(W6 Bo h9 hp hr hn _).mono ?_⟩;rintro r n e v1 ⟨rfl,a1,rfl,Bd,N4,e1⟩;have H:=H.AB e1;have jt:=e1.size;refine Hx.GX H 3 rfl rfl (.inr (by omega)) fun v3 H e3=>?_
  simp only[aa,ab]at H;have LC:=e3.size;refine H.ld 1 rfl rfl (FO _ _ _ ?_);have H:=H.drew;have ed:Ext (fun _=>False) v3 v3.drew:=(Ext.refl _ v3).drew;have hd3:v3.drew.heap.size=v3.heap.size:=rfl;have hx3:=(Bd.AF e3 fun j hj (h:j=w3.drew.heap.size)=>by omega).AF ed fun _ _ h=>h
  refine ⟨fun u=>AO u w3.drew.heap.size (AH r).toArray 68/\AO u w.heap.size (j3 tk) 114,⟨H.get 3 rfl,H.get 1 rfl⟩,?_⟩;refine Am.AR (ts:=AD) (pre:=[]) (post:=[]) (x:=r) (fun u h=>by rw[ae,aN];exact h.1) rfl (AP.of (fun _ h=>h.2) rfl ?_);refine (IW t 1 _ _ Bo hx3.t0z).mono ?_;rintro q v4 ⟨rfl,e4⟩;have H:=H.AB e4;have Zt:=e4.size;refine ⟨⟨H.get 3 rfl,H.get 1 rfl⟩,?_⟩;rw[j1];refine FO _ _ _ (Nn.of ?_);simp only[add_lit,ah];refine H.BZ 0 rfl (by simp) (.inl rfl) fun v5 H e5=>?_
  simp only[af,aa,ab]at H;have Wi:=e5.size;refine Hx.I9 H 3 rfl (Hx.GX H 2 rfl rfl (.inr hg) fun v6 H e6=>Hx.I9 H 2 rfl ?_);simp only[aa,ab]at H;have Zy:=e6.size;exact ⟨a1,(((hx3.AF e4 fun _ _ h=>h).AF e5 fun j hj (h:j=b)=>by omega).AF e6 fun j hj (h:j=w2.heap.size)=>by omega).AY fun j hj=>⟨by omega,by omega⟩,N4,H.get 0 rfl,H.ext⟩
end
end Wt
end Go.Proofs.YtmaekpnpnjndoaaGreatDoor

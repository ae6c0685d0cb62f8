/- Joined texts of the proof; conditions stand in each theorem. -/
import Derived.Test.YtdnhhkhbdfiagaaGreatDoorQYLpE1
import Derived.Test.YtdnhhkhbdfiagaaGreatDoorQYLpE7
import Derived.Test.YtdnhhkhbdfiagaaGreatDoorQYLpE6
import Derived.Lib.Index
import Derived.Lib.LastIndexLaws
import Derived.Shelf.Strings.LastIndexAll
import Derived.Shelf.Strings.Search3
import Derived.Test.YtdnhhkhbdfiagaaGreatDoorProg
import Derived.Test.YtdnhhkhbdfiagaaGreatDoorQYLpE4
set_option linter.unusedVariables false
set_option linter.unusedSimpArgs false
open Go.IntKind (wrap)
open Go.Proofs.Tryz (prog)
namespace Go.Proofs.YtdnhhkhbdfiagaaGreatDoor
set_option maxRecDepth 8000
set_option maxHeartbeats 4000000
namespace Vl
open Sh
mutual
def Tb:Tr->Bool
 | .mk k n g s ks kids=>decide (ks.length<=100000)&&decide (kids.length<=100000)&&nx kids
def nx:List Tr->Bool
 |[]=>true
 |t::r=>Tb t&&nx r
end
theorem Vq (t:Tr):Tb t=(decide (t.ks.length<=100000)&&decide (t.kids.length<=100000)&&nx t.kids):=by
 cases t;rw[Tb]
 rfl
theorem LJ:∀{l:List Tr},nx l=true↔∀t∈l,Tb t=true
 |[]=>by simp[nx]
 |t::r=>by
  rw[nx,ai,LJ];simp
theorem jO {deep:Int}{t:Tr}(h:A3 deep t=true):t.ks.length<=8191/\t.kids.length<=8191:=by
 unfold A3 at h;simp only[ai]at h;obtain ⟨_,h⟩:=h;split at h
 ·cases h
 ·rename_i u hu;unfold Ck Ch at h;simp only[ai,bA,bq,bU,bz]at h;have h1:t.kids.length<=8191:=by have:=h.2.1.1.2;omega
  refine ⟨?_,h1⟩;rcases h.2.2 with Cy|hr
  ·rcases h.1.1.1.2 with h2|h2
   ·rw[Cy]at h2;cases h2
   ·omega
  ·have:t.ks.length=t.kids.length:=by
    by_cases BI:t.ks.length=t.kids.length
    ·exact BI
    ·unfold Hk at hr;rw[Eo BI]at hr;cases hr
   omega
mutual
theorem pz {deep:Int}:∀(t:Tr),CL deep t=true->Tb t=true
 | .mk k n g s ks kids,h=>by
  rw[CL,ai]at h;obtain ⟨h1,h2⟩:=jO h.1;have h1:ks.length<=8191:=h1;have h2:kids.length<=8191:=h2;rw[Tb,aL (by omega),aL (by omega),bW,bW];exact jP kids h.2
theorem jP {deep:Int}:∀(l:List Tr),Ta deep l=true->nx l=true
 |[],_=>rfl
 |t::r,h=>by
  rw[Ta,ai]at h;rw[nx,pz t h.1,jP r h.2]
  rfl
end
theorem ZP (n:Nat)(z:List Value):(List.replicate (n+1) z).flatten=z++(List.replicate n z).flatten:=by rw[List.replicate_succ,cq]
theorem M4 {w0 w w2:World}{L:List (Nat×List Value×TypeId)}{i b:Nat}{cs Bf:List Value}{t:TypeId}(h:Hn w0 w L)(hi:L[i]?=some (b,cs,t))(he:Ext (·=b) w w2)(hb:AN w2 b Bf.toArray t):Hn w0 w2 (L.set i (b,Bf,t)):=by
 have GC:=h.h.nodup;have Iz:=(al.1 hi).1;have hf:(L.set i (b,Bf,t)).map (·.1)=L.map (·.1):=by
  rw[List.map_set];refine cf fun j=>?_
  rw[bN];split
  ·rename_i hj;subst hj;rw[aG (by rw[bc];exact Iz),aH,hi]
   rfl
  ·rfl
 refine ⟨⟨fun p hp=>?_,?_,h.h.ext.trans he (fun _ h=>h) fun k hk e=>by have:=h.ge i hi;have e:k=b:=e;omega⟩,fun p hp=>?_⟩
 ·unfold arr at hp;obtain ⟨q,hq,rfl⟩:=bx.1 hp;obtain ⟨j,hj⟩:=aZ hq;rw[bN]at hj;split at hj
  ·rename_i HD;subst HD;simp only[Iz,if_true,aS]at hj;subst hj;exact hb
  ·rename_i HD;have hq':=h.get j (b:=q.1) (cs:=q.2.1) (t:=q.2.2) hj;refine he.AR hq' fun e=>HD ?_
   have e:q.1=b:=e;rw[IJ]at GC;have h1:(L.map (·.1))[i]?=some b:=by rw[aH,hi];rfl
   have h2:(L.map (·.1))[j]?=some b:=by rw[aH,hj,<-e];rfl
   obtain ⟨WV,h1⟩:=al.1 h1;obtain ⟨j3,h2⟩:=al.1 h2;exact (List.getElem_inj GC).1 (h1.trans h2.symm)
 ·rw[IJ,hf,<-IJ];exact GC
 ·obtain ⟨j,hj⟩:=aZ hp;rw[bN]at hj;split at hj
  ·rename_i HD;subst HD;simp only[Iz,if_true,aS]at hj;subst hj;exact h.ge i hi
  ·exact h.new p (ax hj)
section
variable {w w' w0 w1:World} {o:Ob} {t:Tr}
attribute [local irreducible] Ld Sh.St Nw Nn Lt AU Ae BW Am
abbrev z6:List Value:=[.int .i64 0,.int .i64 0,.int .i64 0,.string ⟨#[]⟩,AA.v ⟨none,0,0⟩,AA.v ⟨none,0,0⟩]
theorem AN9 (o:Ob)(w:World):C75 o w fun r w1=>r=o/\Ext (fun _=>False) w w1:=by
 refine T75 o _ _ ?_;unfold S75;rw[Al];refine (Hn.start w).nw (cs:=AF o) fun w2 H=>H.nw (cs:=z6) fun w3 H=>?_
 simp only[ad,ag]at H;refine H.LH (i:=0) (ts:=AD) (pre:=[]) (post:=[]) (x:=o) rfl rfl ?_;refine H.stT (i:=1) (ts:=AD) (pre:=[]) (post:=[]) (x:=o) (zs:=z6) rfl rfl rfl fun w4 H=>?_
 simp only[aa,ab,ad,aX]at H;exact H.LH (i:=1) (ts:=AD) (pre:=[]) (post:=[]) (x:=o) rfl rfl ⟨rfl,H.ext⟩
theorem Oc:∀(d:Nat) (o:Ob) (t:Tr) (w:World),FH w d o t->Tb t=true->C74 o (.func (.func 75) #[] #[]) w fun r w1=>TD (fun j=>w.heap.size<=j) w1 d r t/\Ext (fun _=>False) w w1
 |0,_,_,_,h,_=>h.elim
 |d+1,o,t,w,hT,hsm=>by
  obtain ⟨hf,hK,L,hL,hA⟩:=hT;rw[Vq]at hsm;simp only[ai,bq]at hsm;obtain ⟨⟨Cy,AQj⟩,hsm⟩:=hsm;refine l7 o _ _ ?_;unfold WN;rw[Al];refine (Hn.start w).nw (cs:=AF o) fun w2 H=>H.nw (cs:=z6) fun w3 H=>?_
  simp only[ad,ag,add_lit,ak]at H⊢;have h01:w.heap.size<w2.heap.size:=by
   have h1:=H.ge 1 rfl;have h2:=H.h.nodup;simp[arr]at h2;have h1:w.heap.size<=w2.heap.size:=h1;omega
  have h13:w2.heap.size<w3.heap.size:=H.lt 1 rfl;refine H.LH (i:=0) (ts:=AD) (pre:=[]) (post:=[]) (x:=o) rfl rfl ((AN9 o w3).mono ?_);rintro r w4 ⟨rfl,e4⟩;have H:=H.AB e4;refine H.stT (i:=0) (ts:=AD) (pre:=[]) (post:=[]) (x:=r) (zs:=AF r) rfl rfl rfl fun w5 H=>?_
  simp only[aa,ab,ad,aX,Al]at H;refine H.ld 0 rfl rfl ?_;have JI:=hK.1.1;have AUd:w2.heap.size<w5.heap.size:=H.lt 1 rfl;refine (TF (hK.AB H.ext).view (QQ _) (by rw[JI];omega)).mono ?_;rintro Nq w6 ⟨hR,hRl,e6,xj⟩;have H:=H.AB e6;refine H.ME 0 rfl (by simp[AF]) fun w7 H e7=>?_
  simp only[AF,aa,ab]at H;have ny:∀j,Nq.own j->w2.heap.size<j:=fun j hj=>by have:=xj j hj;omega
  have hR:=hR.AB e7 fun j hj e=>by have:=ny j hj;have e:j=w.heap.size:=e;omega
  refine H.ld 0 rfl rfl ?_
 
  have fin:∀(v:World) (sk:AA),Hn w v [(w.heap.size,AF (r.1,r.2.1,r.2.2.1,r.2.2.2.1,Nq,sk),26),(w2.heap.size,z6,26)]->Row v Nq 9 1 (t.ks.map Value.string)->(∃L':List Ob,OV v sk L'/\(∀j,sk.own j->w2.heap.size<j)/\Ar (TD (fun j=>w2.heap.size<j) v d) L' t.kids)->
    Ae v (⟨w.heap.size,0,none⟩:Addr) 0 AD fun (PA:AG)=>Am (⟨w2.heap.size,0,none⟩:Addr) 0 AD PA v fun xk=>Ae xk (⟨w2.heap.size,0,none⟩:Addr) 0 AD fun (NI:AG)=>TD (fun j=>w.heap.size<=j) xk (d+1) NI t/\Ext (fun _=>False) w xk:=by
   intro v sk H hR ⟨L',hL',U8,hA'⟩;refine H.LH (i:=0) (ts:=AD) (pre:=[]) (post:=[]) (x:=(r.1,r.2.1,r.2.2.1,r.2.2.2.1,Nq,sk)) rfl rfl ?_;refine Am.AR (ts:=AD) (pre:=[]) (zs:=z6) (post:=[]) (H.get 1 rfl) rfl rfl fun v2 hb he=>?_
   have H2:=M4 H (i:=1) rfl he (Bf:=AF (r.1,r.2.1,r.2.2.1,r.2.2.2.1,Nq,sk)) (by simp only[ad,aX]at hb;exact hb);simp only[aa,ab]at H2;refine H2.LH (i:=1) (ts:=AD) (pre:=[]) (post:=[]) (x:=(r.1,r.2.1,r.2.2.1,r.2.2.2.1,Nq,sk)) rfl rfl ⟨⟨hf,⟨KV.row (hR.AB he fun j hj e=>by have:=ny j hj;have e:j=w2.heap.size:=e;omega) (by omega),fun j hj=>by have:=ny j hj;omega⟩,L',⟨⟨hL'.1,hL'.2.AI he fun j hj e=>by have:=U8 j hj;have e:j=w2.heap.size:=e;omega⟩,fun j hj=>by have:=U8 j hj;omega⟩,?_⟩,H2.ext⟩;exact hA'.imp fun _ _ h=>(h.AI he fun j hj e=>by have hj:w2.heap.size<j:=hj;have e:j=w2.heap.size:=e;omega).CM fun j hj=>by have hj:w2.heap.size<j:=hj;omega
  have xf:r.2.2.2.2.2.len=t.kids.length:=by rw[hL.1,hA.len]
  cases hp:r.2.2.2.2.2.p with
  |none=>
   refine Br.f rfl (fin w7 r.2.2.2.2.2 H hR ?_);have hL0:L=[]:=by
    cases L with
    |nil=>rfl
    |cons x L=>obtain ⟨a,ha,_⟩:=hL.get (i:=0) rfl;rw[hp]at ha;cases ha
   subst hL0;have cO:t.kids=[]:=by
    have:=hA.len;exact aY (by simpa using this.symm)
   rw[cO];exact ⟨[],hL.AB H.ext,(fun j hj=>by obtain ⟨a,ha,_⟩:=hj;rw[hp]at ha;cases ha),trivial⟩
  |some pa=>
   refine Br.t rfl (H.ld 0 rfl rfl ?_);rw[xf];obtain ⟨w8,Dg,hw8⟩:=Kg.make (zs:=AF Kl) rfl w7 t.kids.length (by omega) (by omega);have e8:Ext (fun _=>False) w7 w8:=by rw[hw8];exact (Ext.refl _ _).alloc _
   have b8:AN w8 w7.heap.size ((List.replicate t.kids.length (AF Kl)).flatten).toArray 26:=by rw[hw8];exact AN.new w7 _ _
   refine ⟨_,w8,Dg,?_⟩;have hg:w2.heap.size<w7.heap.size:=H.lt 1 rfl;have H8:=(H.AB e8).push (cs:=(List.replicate t.kids.length (AF Kl)).flatten) b8 (by have:=H.size;omega) (by
    simp only[aB,bj,ar,aF,bp];omega)
   simp only[ag,ad]at H8;refine H8.ld 0 rfl rfl ?_;have hr7:∀j,Nq.own j->j<w7.heap.size:=fun j hj=>hR.own_lt hj
   have hR8:=hR.AB e8 fun _ _ h=>h
   generalize hgg:w7.heap.size=g at*;refine ⟨fun n st v=>∃(i:Nat) (done:List Ob),st=(i:Int)/\i<=t.kids.length/\n=t.kids.length-i/\done.length=i/\Ar (TD (fun j=>g<j) v d) done (t.kids.take i)/\Row v Nq 9 1 (t.ks.map Value.string)/\
     Hn w v [(w.heap.size,AF (r.1,r.2.1,r.2.2.1,r.2.2.2.1,Nq,r.2.2.2.2.2),26),(w2.heap.size,z6,26),(g,done.flatMap AF++(List.replicate (t.kids.length-i) (AF Kl)).flatten,26)],t.kids.length,
    ⟨0,[],rfl,by omega,rfl,rfl,by simp[Ar],hR8,H8⟩,?_⟩
   rintro n st v ⟨i,done,rfl,hi,rfl,hdl,jQ,hRv,Hv⟩;unfold Ny;simp only[add_lit,ak];rw[xf];refine Br.dec (fun q=>⟨by omega,by omega,?_⟩) fun q=>?_
   ·have Qh:=ah (show i<t.kids.length by omega);have CB:t.kids[i]∈t.kids:=cJ _;generalize t.kids[i]=x at Qh CB;obtain ⟨ox,CO,hRx⟩:=hA.jD Qh;refine (hL.AB Hv.ext).jG CO ?_;refine (Hn.start v).nw (cs:=z6) fun v2 G=>?_
    simp only[ad]at G;refine G.stT (i:=0) (ts:=AD) (pre:=[]) (post:=[]) (x:=ox) (zs:=z6) rfl rfl rfl fun v3 G=>?_
    simp only[aa,ad,aX]at G;refine G.LH (i:=0) (ts:=AD) (pre:=[]) (post:=[]) (x:=ox) rfl rfl ?_;have eG:=G.ext;refine (Oc d ox x v3 ((hRx.AB Hv.ext).AB eG) (LJ.1 hsm x CB)).mono ?_;rintro u7 v4 ⟨AOA,e4'⟩;refine ⟨by omega,by show ((i:Nat):Int)<((t.kids.length:Nat):Int);omega,Nn.of ?_⟩;rw[ay];have H4:=(Hv.AB eG).AB e4';have hgv:g<v.heap.size:=Hv.lt 2 rfl;have hv3:=eG.size;have hb4:=H4.get 2 rfl;rw[show t.kids.length-i=(t.kids.length-(i+1))+1 by omega,ZP]at hb4;rw[add_lit,ak];refine Am.AR (ts:=AD) (x:=u7) (pre:=done.flatMap AF) (zs:=AF Kl) (post:=(List.replicate (t.kids.length-(i+1)) (AF Kl)).flatten) hb4 (by rw[DY,hdl]) rfl fun v5 Kp e5=>?_
    have H5:=M4 H4 (i:=2) rfl e5 (Bf:=(done++[u7]).flatMap AF++(List.replicate (t.kids.length-(i+1)) (AF Kl)).flatten) (by
     rw[bd];simpa[Al]using Kp)
    simp only[aa,ab]at H5;refine ⟨t.kids.length-(i+1),by omega,i+1,done++[u7],by rw[AH (by omega)];rfl,by omega,rfl,by rw[ae,hdl];rfl,?_,?_,H5⟩
    ·rw[bC,Qh];refine Ar.app (jQ.imp fun _ _ h=>((h.AI eG fun _ _ h=>h).AI e4' fun _ _ h=>h).AI e5 fun j hj e=>by have hj:g<j:=hj;have e:j=g:=e;omega) ⟨?_,trivial⟩;exact (AOA.CM fun j hj=>by have hj:v3.heap.size<=j:=hj;show g<j;omega).AI e5 fun j hj e=>by have hj:g<j:=hj;have e:j=g:=e;omega
    ·exact ((hRv.AB eG fun _ _ h=>h).AB e4' fun _ _ h=>h).AB e5 fun j hj e=>by have:=hr7 j hj;have e:j=g:=e;omega
   ·have hit:i=t.kids.length:=by omega
    subst hit;rw[bf]at jQ;rw[Nat.sub_self]at Hv;simp only[List.replicate_zero,List.flatten_nil,aX]at Hv;refine Hv.ME 0 rfl (by simp[AF]) fun v2 H2 e2=>?_
    simp only[AF,aa,ab]at H2;have hgw:w.heap.size<g:=by omega
    refine fin v2 (⟨some ⟨g,0,none⟩,t.kids.length,t.kids.length⟩:AA) (H2.left (L:=[_,_]) (M:=[_])) (hRv.AB e2 fun j hj e=>by have:=ny j hj;have e:j=w.heap.size:=e;omega) ⟨done,?_,fun j hj=>by obtain ⟨a,ha,rfl⟩:=hj;cases ha;exact hg,?_⟩
    ·rw[<-hdl];exact OV.of (H2.get 2 rfl)
    ·exact jQ.imp fun _ _ h=>(h.AI e2 fun j hj e=>by have hj:g<j:=hj;have e:j=w.heap.size:=e;omega).CM fun j hj=>by have hj:g<j:=hj;show w2.heap.size<j;omega
theorem nz (h:OX w o t)(hs:Tb t=true):C47 o w fun r w1=>XN (fun j=>w.heap.size<=j) w1 r t/\Ext (fun _=>False) w w1:=by
 obtain ⟨d,hT⟩:=h;refine T47 o _ _ ?_;unfold S47;rw[Al];refine (Hn.start w).nw (cs:=AF o) fun w2 H=>H.nw (cs:=z6) fun w3 H=>?_
 simp only[ad,ag]at H;refine H.LH (i:=0) (ts:=AD) (pre:=[]) (post:=[]) (x:=o) rfl rfl ((Oc d o t w3 (hT.AB H.ext) hs).mono ?_);rintro r w4 ⟨hr,e4⟩;have Au:w2.heap.size<w3.heap.size:=H.lt 1 rfl;have AOC:w.heap.size<w3.heap.size:=H.lt 0 rfl;have H:=H.AB e4;refine Am.AR (ts:=AD) (pre:=[]) (zs:=z6) (post:=[]) (H.get 1 rfl) rfl rfl fun w5 hb he=>?_
 have H2:=M4 H (i:=1) rfl he (Bf:=AF r) (by simpa[Al]using hb);simp only[aa,ab]at H2;exact H2.LH (i:=1) (ts:=AD) (pre:=[]) (post:=[]) (x:=r) rfl rfl ⟨⟨d,(hr.AI he fun j hj e=>by have hj:w3.heap.size<=j:=hj;have e:j=w2.heap.size:=e;omega).CM fun j hj=>by have hj:w3.heap.size<=j:=hj;have:=H2.size;have AUk:w.heap.size<w3.heap.size:=AOC;omega⟩,H2.ext⟩
end
end Vl
namespace Vl
open Sh
def Tr.G8(t:Tr)(ks:List ByteArray)(kids:List Tr):Tr:= .mk t.k t.n t.g t.s ks kids
def Hy (key:ByteArray)(v t:Tr):Tr:=
 if t.ks[B3 key t.ks]?=some key then t.G8 t.ks (t.kids.set (B3 key t.ks) v)
 else t.G8 (t.ks.take (B3 key t.ks)++key::t.ks.drop (B3 key t.ks)) (t.kids.take (B3 key t.ks)++v::t.kids.drop (B3 key t.ks))
theorem Ar.set{α β:Type}{R:α->β->Prop}:∀{l:List α} {m:List β} {a:α} {b:β} (i:Nat),Ar R l m->R a b->Ar R (l.set i a) (m.set i b)
 |[],[],_,_,_,_,_=>by simp[Ar]
 |_::_,_::_,_,_,0,h,k=>⟨k,h.2⟩
 |_::_,_::_,_,_,i+1,h,k=>⟨h.1,Ar.set i h.2 k⟩
theorem G6 {α β:Type}(f:α->List β)(k:Nat)(hf:∀a,(f a).length=k)(l:List α)(i:Nat):(l.flatMap f).take (i*k)=(l.take i).flatMap f/\(l.flatMap f).drop (i*k)=(l.drop i).flatMap f:=by
 induction l generalizing i with
 |nil=>simp
 |cons x l ih=>
  cases i with
  |zero=>simp
  |succ i=>
   rw[bh,List.take_succ_cons,cG,bh,Nat.succ_mul,<-hf x];rw[List.take_append,List.drop_append,aU (by omega),bY (by omega),ad];rw[show i*(f x).length+(f x).length-(f x).length=i*k by rw[Nat.add_sub_cancel,hf x]];rw[(ih i).1,(ih i).2];exact ⟨rfl,rfl⟩
theorem Ep (o:Ob):(AF o).length=6:=rfl
section
variable {w w' w0 w1:World} {o vo:Ob} {t v:Tr}
attribute [local irreducible] Ld Sh.St Nw Nn Lt AU Ae BW Am
theorem n5 {s:AA}{L:List Ob}{i:Nat}{o':Ob}{K:World->Prop}(h:Row w s 26 6 (L.flatMap AF))(hi:i<L.length)(k:∀w2,Row w2 s 26 6 ((L.set i o').flatMap AF)->Ext s.own w w2->K w2):
  0<=((i:Nat):Int)/\((i:Nat):Int)<(s.len:Nat)/\Nn s.p fun a=>Am (a.add (((i:Nat):Int).toNat*6)) 0 AD o' w K:=by
 have hlen:=h.1;rw[DY]at hlen;have JI:s.len=L.length:=by omega
 refine ⟨by omega,by rw[JI];omega,?_⟩;rcases h.2 with h0|⟨g,cur,hp,hB,hle,DN,Fi⟩
 ·rw[h0]at JI;simp at JI;omega
 rw[hp,ay];refine Nn.of ?_;rw[add_lit,ak];have hx:=ah hi;generalize L[i]=x at hx;have xl:L=L.take i++x::L.drop (i+1):=by rw[<-Hj hx,aT]
 have LF:cur.toList=(L.take i).flatMap AF++(AF x++((L.drop (i+1)).flatMap AF++cur.toList.drop (s.len*6))):=by
  rw[<-aD,<-aD,aD ((L.take i).flatMap AF),<-bh,<-bd,<-xl,<-Fi,aT]
 have Oz:(L.take i).length=i:=by rw[aC];omega
 refine Am.AR (ts:=AD) (x:=o') (pre:=(L.take i).flatMap AF) (zs:=AF x) (post:=(L.drop (i+1)).flatMap AF++cur.toList.drop (s.len*6)) (by rw[<-LF];exact hB) (by rw[DY,Oz]) rfl fun w2 hb he=>k w2 ⟨?_,.inr ⟨g,_,hp,hb,hle,?_,?_⟩⟩ (he.mono fun j _ e=>⟨_,hp,e.symm⟩)
 ·rw[DY,List.length_set,JI]
 ·have:=aq List.length LF;simp only[ae,DY,aJ,Ep]at this;simp only[bg,ae,DY,Al,Ep];omega
 ·show List.take (s.len*6) (_++(_++(_++_)))=_;have AOD:L.set i o'=L.take i++o'::L.drop (i+1):=List.set_eq_take_append_cons_drop .. |>.trans (by rw[aG hi])
  rw[AOD,bd,bh,Al,<-aD,<-aD,aD ((L.take i).flatMap AF),cj];simp only[ae,DY,Ep,Oz,aE,JI];omega
def OS (wb:World)(G:Nat->Prop)(w:World)(o:Ob)(t:Tr):Prop:=(o.1=t.k/\o.2.1=t.n/\o.2.2.1=t.g/\o.2.2.2.1=t.s)/\(KV w o.2.2.2.2.1 t.ks/\∀j,o.2.2.2.2.1.own j->G j)/\∃d L,(OV w o.2.2.2.2.2 L/\∀j,o.2.2.2.2.2.own j->G j)/\Ar (FH wb d) L t.kids
theorem OS.t0z{wb:World}{G:Nat->Prop}(h:OS wb G w o t)(E:Ext (fun _=>False) wb w):OX w o t:=by
 obtain ⟨⟨h0,h1,h2,h3⟩,⟨h4,_⟩,d,L,⟨h5,_⟩,h6⟩:=h;exact OX.of h0 h1 h2 h3 h4 ⟨d,L,h5,h6.imp fun _ _ h=>h.AB E⟩
theorem jR {wb:World}{b0 b2:Nat}{v:World}{O:Ob}{M:List (Nat×List Value×TypeId)}{i:Nat}{ks':List ByteArray}{Z5:List Tr}{L':List Ob}{d:Nat}(H:Hn w v ((b0,AF O,26)::M))(hi:M[i]?=some (b2,z6,26))
  (hf:O.1=t.k/\O.2.1=t.n/\O.2.2.1=t.g/\O.2.2.2.1=t.s) (hK:KV v O.2.2.2.2.1 ks') (hk:∀j,O.2.2.2.2.1.own j->w.heap.size<=j/\j≠b2) (hO:OV v O.2.2.2.2.2 L') (ho:∀j,O.2.2.2.2.2.own j->w.heap.size<=j/\j≠b2) (hA:Ar (FH wb d) L' Z5):
  Ae v (⟨b0,0,none⟩:Addr) 0 AD fun (x:AG)=>Am (⟨b2,0,none⟩:Addr) 0 AD x v fun v2=>Ae v2 (⟨b2,0,none⟩:Addr) 0 AD fun (y:AG)=>OS wb (fun j=>w.heap.size<=j) v2 y (t.G8 ks' Z5)/\Ext (fun _=>False) w v2:=by
 refine H.LH (i:=0) (ts:=AD) (pre:=[]) (post:=[]) (x:=O) rfl rfl ?_;refine Am.AR (ts:=AD) (pre:=[]) (zs:=z6) (post:=[]) (H.get (i+1) hi) rfl rfl fun v2 hb he=>?_
 simp only[ad,aX]at hb;have H2:=M4 H (i:=i+1) hi he (Bf:=AF O) hb;refine H2.LH (i:=i+1) (ts:=AD) (pre:=[]) (post:=[]) (x:=O) (by
  rw[bN,aG rfl,aG (al.1 hi|>.1|>fun h=>by simpa using h)]
  rfl) rfl ⟨⟨hf,⟨hK.AI he fun j hj e=>(hk j hj).2 e,fun j hj=>(hk j hj).1⟩,d,L',⟨⟨hO.1,hO.2.AI he fun j hj e=>(ho j hj).2 e⟩,fun j hj=>(ho j hj).1⟩,hA⟩,H2.ext⟩
theorem xm {wb:World}(h:OX wb o t)(hv:OX wb vo v)(E:Ext (fun _=>False) wb w)(hu:Up t.ks)(hl:t.ks.length=t.kids.length)(hn:t.ks.length<=100000)(key:ByteArray):C48 o key vo w fun r w1=>OS wb (fun j=>w.heap.size<=j) w1 r (Hy key v t)/\Ext (fun _=>False) w w1:=by
 obtain ⟨hf,hK,d0,L,hL,hA⟩:=h.out;obtain ⟨dv,hvT⟩:=hv;have hA:Ar (FH wb (max d0 dv)) L t.kids:=hA.imp fun _ _ h=>h.le (Nat.le_max_left ..)
 have hvT:FH wb (max d0 dv) vo v:=hvT.le (Nat.le_max_right ..);refine T48 o _ vo _ _ ?_;unfold S48;rw[Al,Al];refine (Hn.start w).nw (cs:=AF o) fun w2 H=>H.nw (cs:=AF vo) fun w3 H=>H.nw (cs:=z6) fun w4 H=>?_
 simp only[ad,ag,add_lit,ak]at H⊢;have h24:w.heap.size<w4.heap.size:=H.lt 0 rfl;have h34:w3.heap.size<w4.heap.size:=H.lt 2 rfl;have AOE:w2.heap.size<w4.heap.size:=H.lt 1 rfl;have LD:=hK.1.1;have hLl:L.length=t.kids.length:=hA.len;have LF:o.2.2.2.2.2.len=L.length:=hL.1;refine H.ld 0 rfl rfl ((ZO (hK.AB (E.tr H.ext)) hu (by omega) key).mono ?_);rintro r8 r9 w5 ⟨rfl,rfl,hw5⟩;subst w5;have hpl:=jM key t.ks;unfold Hy;generalize B3 key t.ks=p at hpl⊢;refine H.ld 0 rfl rfl ((TF (hK.AB (E.tr H.ext)).view (QQ _) (by omega)).mono ?_);rintro JV w6 ⟨hR,hRl,e6,xj⟩;have H:=H.AB e6;refine H.ME 0 rfl (by simp[AF]) fun w7 H e7=>?_
 simp only[AF,aa,ab]at H;have hR:=hR.AB e7 fun j hj e=>by have:=xj j hj;have e:j=w.heap.size:=e;omega
 have h67:w3.heap.size<w7.heap.size:=H.lt 2 rfl;have h47:w4.heap.size<=w7.heap.size:=by have:=e6.size;have:=e7.size;omega
 have AUm:w.heap.size<w7.heap.size:=H.lt 0 rfl;have h23:w2.heap.size<w7.heap.size:=H.lt 1 rfl;have AUn:w2.heap.size<w4.heap.size:=AOE;have AEC:∀j,JV.own j->j<w7.heap.size:=fun j hj=>hR.own_lt hj
 refine H.ld 0 rfl rfl ((jL (hL.AB (E.tr H.ext)).2 (XO L) (by rw[LF];omega)).mono ?_);rintro D2 w8 ⟨hQ,hQl,e8,xn⟩;have H:=H.AB e8;have hR:=hR.AB e8 fun _ _ h=>h
 refine H.ME 0 rfl (by simp) fun w9 H e9=>?_
 simp only[aa,ab]at H;have hR:=hR.AB e9 fun j hj e=>by have:=xj j hj;have e:j=w.heap.size:=e;omega
 have hQ:=hQ.AB e9 fun j hj e=>by have:=xn j hj;have e:j=w.heap.size:=e;omega
 have TZ:∀j,D2.own j->¬JV.own j:=fun j h1 h2=>by have:=xn j h1;have:=AEC j h2;omega
 have AED:∀j,D2.own j->j<w9.heap.size:=fun j hj=>hQ.own_lt hj
 have AUo:w7.heap.size<=w9.heap.size:=by have:=e8.size;have:=e9.size;omega
 by_cases Zg:t.ks[p]?=some key
 ·rw[aL Zg,aG Zg];have nK:=(al.1 Zg).1;refine Br.t rfl (H.ld 0 rfl rfl (H.LH (i:=1) (ts:=AD) (pre:=[]) (post:=[]) (x:=vo) rfl rfl ?_));refine n5 hQ (by omega) fun yC zG kI=>?_
  have H10:=H.other kI fun j hj=>by
   have:=xn j hj;refine ⟨by omega,?_⟩;simp only[aB,bj,ar,aF,bp];omega
  exact jR (O:=(o.1,o.2.1,o.2.2.1,o.2.2.2.1,JV,D2)) (M:=[_,_]) (i:=1) H10 rfl hf (KV.row (hR.AB kI fun j hj j3=>TZ j j3 hj) (by omega)) (fun j hh=>by have:=xj j hh;omega) (OV.row zG) (fun j hh=>by have:=xn j hh;omega) (hA.set p hvT)
 ·rw[aR Zg,aA Zg];refine Br.f rfl (H.ld 0 rfl rfl (Nw.of ?_));have kI:Ext (fun _=>False) w9 (w9.alloc (.cells #[.string key] 9)):=(Ext.refl _ _).alloc _;have b10:=AN.new w9 #[.string key] 9;generalize w9.alloc (.cells #[.string key] 9)=yC at kI b10⊢;have Ay:w9.heap.size<yC.heap.size:=b10.lt;have H:=H.AB kI;have hR:=hR.AB kI fun _ _ h=>h
  have hQ:=hQ.AB kI fun _ _ h=>h
  refine (Vk (i:=p) (ys:=[.string key]) hR (by omega) (by omega) b10 rfl (fun v hv=>by rw[ao.1 hv];rfl) (QQ _) (fun hh=>by have:=AEC _ hh;omega)).mono ?_;rintro Tq w11 ⟨j6,AUq,e11,AOH⟩;have H:=H.other e11 fun j hj=>by
   have:=xj j hj;refine ⟨by omega,?_⟩;simp only[aB,bj,ar,aF,bp];omega
  have hQ:=hQ.AB e11 fun j h1 h2=>TZ j h1 h2
  have D1:=e11.size;have n7:∀j,Tq.own j->w4.heap.size<=j/\¬D2.own j:=fun j hj=>by
   rcases AOH j hj with h|h
   ·exact ⟨xj j h,fun h2=>TZ j h2 h⟩
   ·exact ⟨by omega,fun h2=>by have:=AED j h2;omega⟩
  refine H.ME 0 rfl (by simp) fun qE H e12=>?_
  simp only[aa,ab]at H;have z12:=e12.size;have j6:=j6.AB e12 fun j hj e=>by have:=(n7 j hj).1;have e:j=w.heap.size:=e;omega
  have hQ:=hQ.AB e12 fun j hj e=>by have:=xn j hj;have e:j=w.heap.size:=e;omega
  refine H.ld 0 rfl rfl (H.LH (i:=1) (ts:=AD) (pre:=[]) (post:=[]) (x:=vo) rfl rfl (Nw.of ?_));have e13:Ext (fun _=>False) qE (qE.alloc (.cells (AF vo).toArray 26)):=(Ext.refl _ _).alloc _;have b13:=AN.new qE (AF vo).toArray 26;show C79 D2 (p:Int) ⟨some ⟨qE.heap.size,0,none⟩,1,1⟩ (qE.alloc (.cells (AF vo).toArray 26)) _;generalize qE.alloc (.cells (AF vo).toArray 26)=w13 at e13 b13⊢;have H:=H.AB e13;have j6:=j6.AB e13 fun _ _ h=>h
  have hQ:=hQ.AB e13 fun _ _ h=>h
  have A6:=e13.size;refine (xg (i:=p) (ys:=AF vo) hQ (by omega) (by omega) b13 rfl (MF vo) (XO L) (fun hh=>by have:=AED _ hh;omega)).mono ?_;rintro Qd w14 ⟨zG,AUr,e14,AOJ⟩;have H:=H.other e14 fun j hj=>by
   have:=xn j hj;refine ⟨by omega,?_⟩;simp only[aB,bj,ar,aF,bp];omega
  have j6:=j6.AB e14 fun j h1 h2=>(n7 j h1).2 h2
  have AEF:∀j,Qd.own j->w4.heap.size<=j:=fun j hj=>by
   rcases AOJ j hj with h|h
   ·have:=xn j h;have:=e7.size;have:=e6.size;omega
   ·omega
  refine H.ME 0 rfl (by simp) fun w15 H e15=>?_
  simp only[aa,ab]at H;have j6:=j6.AB e15 fun j hj e=>by have:=(n7 j hj).1;have e:j=w.heap.size:=e;omega
  have zG:=zG.AB e15 fun j hj e=>by have:=AEF j hj;have e:j=w.heap.size:=e;omega
  have q1:(t.ks.map Value.string).take (p*1)++[Value.string key]++(t.ks.map Value.string).drop (p*1)=(t.ks.take p++key::t.ks.drop p).map Value.string:=by
   rw[ch,<-List.map_take,<-List.map_drop,aP,aB,aD]
   rfl
  have q2:(L.flatMap AF).take (p*6)++AF vo++(L.flatMap AF).drop (p*6)=(L.take p++vo::L.drop p).flatMap AF:=by
   rw[(G6 AF 6 Ep L p).1,(G6 AF 6 Ep L p).2,bd,bh,aD]
  rw[q1]at j6;rw[q2]at zG;refine jR (O:=(o.1,o.2.1,o.2.2.1,o.2.2.2.1,Tq,Qd)) (M:=[_,_]) (i:=1) H rfl hf (KV.row j6 (by rw[ae,au,aC,aE];omega)) (fun j hh=>by have:=(n7 j hh).1;omega) (OV.row zG) (fun j hh=>by have:=AEF j hh;omega) (d:=max d0 dv) ?_;exact (hA.take p).app ⟨hvT,hA.drop p⟩
end
end Vl
namespace Vl
open Sh
def Jw (t:Tr):Bool:=(t.k==7)||(t.k==9)
def ADY (key:ByteArray)(t:Tr):Option Tr:=if Jw t=true then (t.ks.findIdx? fun a=>key.toList==a.toList).bind fun i=>t.kids[i]? else none
theorem AEG {t:Tr}{deep:Int}(h:CL deep t=true)(hk:Jw t=true):Up t.ks/\t.ks.length=t.kids.length:=by
 rw[Dt,ai]at h;have hh:=h.1;unfold A3 at hh;simp only[ai]at hh;have hu:∃u,CV t.k=some u/\u.ks=true:=by
  unfold Jw at hk;simp only[bA,bU]at hk;rcases hk with e|e<;>(rw[e];exact ⟨_,rfl,rfl⟩)
 obtain ⟨u,hu1,hu2⟩:=hu;obtain ⟨_,hh⟩:=hh;rw[hu1]at hh;simp only[ai]at hh;have hr:=hh.2;unfold Ch at hr;simp only[ai,hu2,Bool.not_true,cM]at hr;have hr:=hr.2;refine ⟨(py hr).1,?_⟩;by_cases BI:t.ks.length=t.kids.length
 ·exact BI
 ·unfold Hk at hr;rw[Eo BI]at hr;cases hr
theorem jS {t:Tr}{ks:List ByteArray}{kids:List Tr}(h1:ks.length<=100000)(h2:kids.length<=100000)(h3:∀x∈kids,Tb x=true):Tb (t.G8 ks kids)=true:=by
 rw[Vq];show (decide (ks.length<=100000)&&decide (kids.length<=100000)&&nx kids)=true;rw[aL h1,aL h2,LJ.2 h3]
 rfl
theorem XR {t:Tr}(h:Tb t=true):t.ks.length<=100000/\t.kids.length<=100000/\∀x∈t.kids,Tb x=true:=by
 rw[Vq]at h;simp only[ai,bq]at h;exact ⟨h.1.1,h.1.2,LJ.1 h.2⟩
def pD:Tr:= .mk 0 0 0 ⟨#[]⟩ [] []
section
variable {w w' w0 w1:World} {o vo:Ob} {t v:Tr}
attribute [local irreducible] Ld Sh.St Nw Nn Lt AU Ae BW Am
theorem OX.null(w:World):OX w Kl pD:=OX.of rfl rfl rfl rfl (KV.nil w) ⟨1,[],⟨rfl,rfl,fun j v h=>by cases h⟩,trivial⟩
theorem n8 (h:OX w o t):C44 o w fun r w1=>r=Jw t/\Ext (fun _=>False) w w1:=by
 obtain ⟨⟨hk,_⟩,_,_⟩:=h.out;refine T44 o _ _ ?_;unfold S44;rw[Al];refine (Hn.start w).nw (cs:=AF o) fun w2 H=>?_
 simp only[ad]at H;refine H.ld 0 rfl rfl ?_;unfold Jw;rw[<-hk];refine Br.eq (fun h7=>⟨by rw[h7];rfl,H.ext⟩) fun h7=>H.ld 0 rfl rfl ⟨?_,H.ext⟩
 rw[show (o.1==7)=false from by simpa using h7,cM]
theorem Vr {b:Nat}{v:World}{O:Ob}{M:List (Nat×List Value×TypeId)}{i:Nat}{K:AG->World->Prop}(H:Hn w v M)(hi:M[i]?=some (b,z6,26))
  (k:∀v2,Ext (fun _=>False) w v2->Ext (·=b) v v2->K O v2):Am (⟨b,0,none⟩:Addr) 0 AD O v fun v2=>Ae v2 (⟨b,0,none⟩:Addr) 0 AD fun (y:AG)=>K y v2:=by
 refine Am.AR (ts:=AD) (pre:=[]) (zs:=z6) (post:=[]) (H.get i hi) rfl rfl fun v2 hb he=>?_
 simp only[ad,aX]at hb;have H2:=M4 H (i:=i) hi he (Bf:=AF O) hb;refine H2.LH (i:=i) (ts:=AD) (pre:=[]) (post:=[]) (x:=O) (by
  rw[bN,aG rfl,aG (al.1 hi).1]
  rfl) rfl (k v2 H2.ext he)
theorem n9 (h:OX w o t):C46 o w (fun r e w1=>(CL 1 t=true/\r=o/\e=0\/CL 1 t=false/\r=Kl/\e≠0)/\Ext (fun _=>False) w w1) fun _ _=>False:=by
 refine T46 o _ _ _ ?_;unfold S46;rw[Al];refine (Hn.start w).nw (cs:=AF o) fun w2 H=>H.nw (cs:=z6) fun w3 H=>?_
 simp only[ad,ag]at H;refine H.LH (i:=0) (ts:=AD) (pre:=[]) (post:=[]) (x:=o) rfl rfl ((Ko (h.AB H.ext)).mono ?_ fun _ _ h=>h);rintro e w4 ⟨he,e4⟩;have H:=H.AB e4;rcases he with ⟨BS,rfl⟩|⟨BS,he⟩
 ·exact Br.f rfl (H.LH (i:=0) (ts:=AD) (pre:=[]) (post:=[]) (x:=o) rfl rfl (Vr (i:=1) H rfl fun v2 E _=>⟨.inl ⟨BS,rfl,rfl⟩,E⟩))
 ·exact Br.t (by simpa using he) (Vr (i:=1) H rfl fun v2 E _=>⟨.inr ⟨BS,rfl,he⟩,E⟩)
theorem oA {key:ByteArray}(h:Tb t=true)(h2:t.ks.length<=9000)(h3:t.kids.length<=9000)(hv:Tb v=true):Tb (Hy key v t)=true:=by
 obtain ⟨sk,skk,XS⟩:=XR h;unfold Hy;split
 ·refine jS sk (by rw[List.length_set];exact skk) fun x hx=>?_
  rcases List.mem_or_eq_of_mem_set hx with hx|rfl
  ·exact XS x hx
  ·exact hv
 ·refine jS (by simp;omega) (by simp;omega) fun x hx=>?_
  rcases aK.1 hx with hx|hx
  ·exact XS x (List.mem_of_mem_take hx)
  ·rcases ar.1 hx with rfl|hx
   ·exact hv
   ·exact XS x (cF hx)
theorem zn {wb:World}(h:OX wb o t)(hv:OX wb vo v)(E:Ext (fun _=>False) wb w)(hk:Jw t=true)(BS:CL 1 t=true)(hvk:v.k≠0)(pS:Tb v=true)(key:ByteArray):
  ze o key vo w (fun r e w1=>(CL 1 (Hy key v t)=true/\XN (fun j=>w.heap.size<=j) w1 r (Hy key v t)/\e=0\/CL 1 (Hy key v t)=false/\r=Kl/\e≠0)/\Ext (fun _=>False) w w1) fun _ _=>False:=by
 have hs:=pz t BS;obtain ⟨yx,hlen⟩:=AEG BS hk;obtain ⟨sk,skk,XS⟩:=XR hs;have hl8:=jO (t:=t) (deep:=1) (by rw[Dt,ai]at BS;exact BS.1);refine T24 o _ vo _ _ _ ?_;unfold S24;rw[Al,Al];refine (Hn.start w).nw (cs:=AF o) fun w2 H=>H.nw (cs:=AF vo) fun w3 H=>H.nw (cs:=z6) fun w4 H=>?_
 simp only[ad,ag,add_lit,ak]at H⊢;refine H.LH (i:=0) (ts:=AD) (pre:=[]) (post:=[]) (x:=o) rfl rfl ((n8 (h.AB (E.tr H.ext))).mono ?_);rintro r w5 ⟨rfl,e5⟩;have H:=H.AB e5;rw[hk];refine Br.f rfl (H.LH (i:=0) (ts:=AD) (pre:=[]) (post:=[]) (x:=o) rfl rfl ((Ko (h.AB (E.tr H.ext))).mono ?_ fun _ _ h=>h));rintro e w6 ⟨he,e6⟩;have H:=H.AB e6;rcases he with ⟨_,rfl⟩|⟨Vx,_⟩
 rotate_left
 ·rw[BS]at Vx;cases Vx
 refine Br.f rfl (H.ld 1 rfl rfl (Br.eq (fun h0=>absurd (hv.out.1.1.symm.trans h0) hvk) fun _=>?_));refine H.LH (i:=0) (ts:=AD) (pre:=[]) (post:=[]) (x:=o) rfl rfl (H.LH (i:=1) (ts:=AD) (pre:=[]) (post:=[]) (x:=vo) rfl rfl ?_);refine (xm h hv (E.tr H.ext) yx hlen (by omega) key).mono ?_;rintro jg w7 ⟨AOK,e7⟩;have h36:w3.heap.size<w6.heap.size:=H.lt 2 rfl;have h06:w.heap.size<w6.heap.size:=H.lt 0 rfl;have H:=H.AB e7;have z7:=e7.size;refine (nz (AOK.t0z (E.tr H.ext)) (oA hs (by omega) (by omega) pS)).mono ?_;rintro qZ w8 ⟨AEH,e8⟩;have H:=H.AB e8;refine (n9 AEH.t0z).mono ?_ fun _ _ h=>h
 rintro fA qc w9 ⟨hr,e9⟩;have H:=H.AB e9;refine Vr (i:=2) H rfl fun v3 E3 e3=>⟨?_,E3⟩
 rcases hr with ⟨xo,rfl,rfl⟩|⟨xo,rfl,oO⟩
 ·exact .inl ⟨xo,((AEH.AB e9).AI e3 fun j hj e=>by have hj:w7.heap.size<=j:=hj;have e:j=w3.heap.size:=e;omega).CM fun j hj=>by have hj:w7.heap.size<=j:=hj;omega,rfl⟩
 ·exact .inr ⟨xo,rfl,oO⟩
end
end Vl
set_option maxRecDepth 100000
namespace Pc
open Sh Fix Tk Tl Vl Wt
abbrev Qq (ks:List ByteArray):Nat:=(ks.map fun k=>k.size+1).sum
mutual
def DF:Vl.Tr->Nat
 | .mk _ _ _ s ks kids=>2+s.size+Qq ks+Hp kids
def Hp:List Vl.Tr->Nat
 |[]=>0
 |t::r=>DF t+Hp r
end
theorem Oo:∀l:List Vl.Tr,Hp l=(l.map DF).sum
 |[]=>rfl
 |t::r=>by rw[Hp,aB,b6,Oo r]
theorem Vy:∀ks:List ByteArray,ks.length<=Qq ks
 |[]=>az _
 |k::r=>by have:=Vy r;simp only[Qq,aB,b6,au]at*;omega
theorem Zt:∀ks:List ByteArray,Wt.yD ks<=30*Qq ks
 |[]=>bJ _
 |k::r=>by have:=Zt r;rw[Wt.yD];simp only[Qq,aB,b6]at*;omega
mutual
theorem Qr:∀t,Wt.KR t<=2*DF t
 | .mk _ _ _ s ks kids=>by have:=Zu kids;have:=Vy ks;rw[Wt.KR,DF];omega
theorem Zu:∀l,Wt.JE l<=2*Hp l
 |[]=>bJ _
 |t::r=>by have:=Qr t;have:=Zu r;rw[Wt.JE,Hp];omega
end
mutual
theorem oP:∀t,Wt.zQ t<=30*DF t
 | .mk _ _ _ s ks kids=>by have:=Zv kids;have:=Zt ks;rw[Wt.zQ,DF];omega
theorem Zv:∀l,Wt.oQ l<=30*Hp l
 |[]=>bJ _
 |t::r=>by have:=oP t;have:=Zv r;rw[Wt.oQ,Hp];omega
end
theorem qH:∀t,2<=DF t
 | .mk _ _ _ s ks kids=>by rw[DF];omega
theorem Vz:∀l,2*l.length<=Hp l
 |[]=>bJ _
 |t::r=>by have:=qH t;have:=Vz r;rw[Hp,au];omega
abbrev zR:Type:=Vl.Ob×Vl.Tr
theorem kE {w:World}{n b:Nat}{cs:List Value}(hQ:∀Bf x,Es prog w n 26 Bf x->∃q:zR,Bf=Vl.AF q.1/\Vl.FH w n q.1 q.2/\DF q.2<=x)
  (h:Es prog w (n+1) 24 cs b):∃(s:AA) (L:List zR),cs=[AA.v s]/\Vl.OV w s (L.map (·.1))/\Vl.Ar (Vl.FH w n) (L.map (·.1)) (L.map (·.2))/\Hp (L.map (·.2))<=b:=by
 have:Inhabited zR:=⟨(Vl.Kl,.mk 0 0 0 ⟨#[]⟩ [] [])⟩
 obtain ⟨s,L,bs,h1,h2,h3,h4,h5,h6⟩:=LM (Q:=fun (q:zR) cs x=>cs=Vl.AF q.1/\Vl.FH w n q.1 q.2/\DF q.2<=x) Tryz.underlying24 (show prog.cellsOf 26=6 by kernel_rfl) h hQ;refine ⟨s,L,h1,⟨by rw[bc,h2],B9.make (fun _=>rfl) (by decide) (by rw[bc,h2]) fun i x hi=>?_⟩,.of (by simp) fun i o t ho ht=>?_,?_⟩
 ·rw[aH]at hi;obtain ⟨q,hq,rfl⟩:=aN.1 hi;obtain ⟨a,Bf,x,_,ha,hc,rfl,_⟩:=h6 i q hq;exact ⟨a,ha,hc⟩
 ·rw[aH]at ho ht;obtain ⟨q,hq,rfl⟩:=aN.1 ho;rw[hq]at ht;cases ht;obtain ⟨a,Bf,x,_,ha,hc,_,hx,_⟩:=h6 i q hq;exact hx
 ·rw[Oo,cK];refine bB (HA h3 fun i q x hq hx=>?_) h4;obtain ⟨a,Bf,y,hy,ha,hc,_,_,hb⟩:=h6 i q hq;rw[hx]at hy;cases hy;exact hb
theorem Zw {w:World}:∀(n:Nat) (cs:List Value) (b:Nat),Es prog w n 26 cs b->∃q:zR,cs=Vl.AF q.1/\Vl.FH w n q.1 q.2/\DF q.2<=b
 |0,cs,b,h=>h.elim
 |1,cs,b,h=>by
  obtain ⟨_,bs,_,hf⟩:=Et Vl.Nf h;obtain ⟨x,_,hx⟩:=hf 0 0 3 rfl;exact hx.elim
 |n+2,cs,b,h=>by
  obtain ⟨hl,bs,Xh,hf⟩:=Et Vl.Nf h;rw[show prog.cellsOf 26=6 by kernel_rfl]at hl;obtain ⟨c0,c1,c2,c3,c4,c5,rfl⟩:∃c0 c1 c2 c3 c4 c5,cs=[c0,c1,c2,c3,c4,c5]:=by
   match cs,hl with
   |[c0,c1,c2,c3,c4,c5],_=>exact ⟨c0,c1,c2,c3,c4,c5,rfl⟩
  obtain ⟨y0,_,f0⟩:=hf 0 0 3 rfl;obtain ⟨y1,_,f1⟩:=hf 1 1 2 rfl;obtain ⟨y2,_,f2⟩:=hf 2 2 3 rfl;obtain ⟨y3,z3,f3⟩:=hf 3 3 9 rfl;obtain ⟨y4,z4,f4⟩:=hf 4 4 23 rfl;obtain ⟨y5,z5,f5⟩:=hf 5 5 24 rfl;rw[show prog.cellsOf 3=1 by kernel_rfl]at f0 f2;rw[show prog.cellsOf 2=1 by kernel_rfl]at f1;rw[show prog.cellsOf 9=1 by kernel_rfl]at f3;rw[show prog.cellsOf 23=1 by kernel_rfl]at f4;rw[show prog.cellsOf 24=1 by kernel_rfl]at f5;obtain ⟨x0,e0,_⟩:=Hu Tryz.underlying3 f0.up;obtain ⟨x1,e1,_⟩:=Hu Tryz.underlying2 f1.up;obtain ⟨x2,e2,_⟩:=Hu Tryz.underlying3 f2.up;obtain ⟨x3,e3,_,l3⟩:=LN Tryz.underlying9 f3;obtain ⟨x4,K,b4,e4,g4,k4,t4,m4,q4⟩:=LM (Q:=fun (b:ByteArray) cs x=>cs=[.string b]/\b.size<x) Tryz.underlying23 (show prog.cellsOf 9=1 by kernel_rfl) f4 fun Bf x h=>by
   obtain ⟨s,h1,_,h2⟩:=LN Tryz.underlying9 h;exact ⟨s,h1,h2⟩
  obtain ⟨x5,L,e5,hov,hA,h5⟩:=kE (fun Bf x h=>Zw n Bf x h) f5;have hs:=kF Xh z3 z4 z5;have hK:Qq K<=y4:=bB (HA k4 fun i q x hq hx=>by
   obtain ⟨a,Bf,y,hy,ha,hc,_,hb⟩:=q4 i q hq;rw[hx]at hy;cases hy;exact hb) t4
  obtain rfl:c0= .int .i64 x0:=by simpa using e0
  obtain rfl:c1= .int .i64 x1:=by simpa using e1
  obtain rfl:c2= .int .i64 x2:=by simpa using e2
  obtain rfl:c3= .string x3:=by simpa using e3
  obtain rfl:c4=AA.v x4:=by simpa using e4
  obtain rfl:c5=AA.v x5:=by simpa using e5
  refine ⟨((x0,x1,x2,x3,x4,x5),.mk x0 x1 x2 x3 K (L.map (·.2))),rfl,Vl.FH.mono ⟨⟨rfl,rfl,rfl,rfl⟩,⟨⟨g4,bB m4 (by decide)⟩,fun i b hi=>?_⟩,L.map (·.1),hov,hA⟩,?_⟩
  ·obtain ⟨a,Bf,x,_,ha,hc,rfl,_⟩:=q4 i b hi;have:=hc 0 (by omega);exact ⟨a,ha,by simpa using this⟩
  ·show DF (.mk x0 x1 x2 x3 K (L.map (·.2)))<=b;rw[DF];omega
theorem Oq:∀a b:List Vl.Tr,Hp (a++b)=Hp a+Hp b
 |[],b=>by rw[ad,Hp];omega
 |t::r,b=>by rw[ag,Hp,Hp,Oq r b];omega
theorem V0 (a b:List ByteArray):Qq (a++b)=Qq a+Qq b:=by simp[Qq,aP,List.sum_append]
theorem V1:∀(l:List Vl.Tr) (i:Nat) (v:Vl.Tr),Hp (l.set i v)<=Hp l+DF v
 |[],_,_=>by simp[Hp]
 |t::r,0,v=>by rw[aa,Hp,Hp];omega
 |t::r,i+1,v=>by have:=V1 r i v;rw[ab,Hp,Hp];omega
theorem kG (key:ByteArray)(v:Vl.Tr):∀t:Vl.Tr,DF (Hy key v t)<=DF t+DF v+key.size+1
 | .mk k n g s ks kids=>by
  unfold Hy;split
  ·show DF (.mk k n g s ks (kids.set (B3 key ks) v))<=_;have:=V1 kids (B3 key ks) v;rw[DF,DF];omega
  ·show DF (.mk k n g s (ks.take (B3 key ks)++key::ks.drop (B3 key ks)) (kids.take (B3 key ks)++v::kids.drop (B3 key ks)))<=_;have h1:Qq (ks.take (B3 key ks))+Qq (ks.drop (B3 key ks))=Qq ks:=by rw[<-V0,aT]
   have h2:Hp (kids.take (B3 key ks))+Hp (kids.drop (B3 key ks))=Hp kids:=by rw[<-Oq,aT]
   have h3:Qq (key::ks.drop (B3 key ks))=key.size+1+Qq (ks.drop (B3 key ks)):=by simp[Qq]
   rw[DF,DF,V0,Oq,h3,Hp];omega
theorem Qs:∀(p:Option ByteArray) (ks:List ByteArray) (kids:List Vl.Tr),Df true p ks kids=true->Df false p ks kids=true
 |_,[],[],h=>by simp[Df]
 |p,k::ks,x::xs,h=>by
  rw[Df]at h⊢;simp only[ai]at h⊢;exact ⟨⟨⟨h.1.1.1,by simp⟩,h.1.2⟩,Qs (some k) ks xs h.2⟩
 |_,_::_,[],h=>by simp[Df]at h
 |_,[],_::_,h=>by simp[Df]at h
theorem kH {n g:Int}{s:ByteArray}{ks:List ByteArray}{kids:List Vl.Tr}(h:CL 1 (.mk 9 n g s ks kids)=true):CL 1 (.mk 7 0 0 ⟨#[]⟩ ks kids)=true:=by
 rw[CL,ai]at h⊢;refine ⟨?_,h.2⟩;have h:=h.1;unfold A3 at h⊢;rw[ai]at h⊢;refine ⟨h.1,?_⟩;have h:(Ck 1 (.mk 9 n g s ks kids) ⟨false,false,true,true,true⟩&&Ch (.mk 9 n g s ks kids) ⟨false,false,true,true,true⟩)=true:=h.2;show (Ck 1 (.mk 7 0 0 ⟨#[]⟩ ks kids) ⟨false,false,false,true,true⟩&&Ch (.mk 7 0 0 ⟨#[]⟩ ks kids) ⟨false,false,false,true,true⟩)=true;rw[ai]at h⊢;refine ⟨by simp[Ck,Tr.n,Tr.g,Tr.s,Tr.k,Tr.ks,Tr.kids],?_⟩;have h:=h.2;unfold Ch at h⊢;simp only[ai]at h⊢;refine ⟨⟨⟨⟨rfl,rfl⟩,h.1.1.2⟩,rfl⟩,?_⟩;have h:=h.2;have h:Df true none ks kids=true:=h;exact Qs none ks kids h
end Pc
namespace Pc
open Sh Fix Tk Tl Vl Wt Ov
theorem Xj {num gen:Int}{A DA G DG:By}(hA:Bg num A DA)(hG:Bg gen G DG)(h0:0<=num)(h1:0<=gen):Af 32 [A,G,Bv]=A++32::(G++32::Bv):=by
 obtain ⟨a1,a2,a3⟩:=Ow hA h0;obtain ⟨g1,g2,g3⟩:=Ow hG h1;rw[Km a1 _ (by rintro ⟨h|h,_⟩<;>exact absurd h (by decide)),Kn g1 _ (.inl a3) g2,Kn (by decide) _ (.inl g3) (by decide)];simp[Af]
def qL (x:Fj)(t:Tr)(r:ByteArray):Prop:=(1<=x.1/\x.1<=8191)/\(0<=x.2.1/\x.2.1<=65535)/\CL 1 t=true/\t.k≠8/\(t.k≠9->∃A DA G DG ps,Bg x.1 A DA/\Bg x.2.1 G DG/\PT t ps/\bl r=Ni A G (Af 32 (ps.map (·.t))))
theorem qM:∀t:Tr,t.s.size<=DF t
 | .mk k n g s ks kids=>by rw[DF];show s.size<=_;omega
def qN (x:Fj)(t:Tr)(w:World)(r:ByteArray)(e:Int)(w1:World):Prop:=((e=0/\qL x t r)\/e≠0)/\r.size<=40*DF t+1000/\Ext (fun _=>False) w w1
section
variable {w w1 W:World} {x:Fj} {t:Tr}
attribute [local irreducible] Ld Sh.St Nw Nn AU Ae Am BW
theorem kK (x:Fj)(e:Int)(w:World){R:Fj->World->Prop}{PR:Value->World->Prop}(h1:e=0->∀w1,Ext (fun _=>False) w w1->R x w1)(h2:e≠0->∀w1,Ext (fun _=>False) w w1->PR (jd e) w1):
  C17 x e w R PR:=by
 refine T17 x _ _ _ _ ?_;unfold S17;refine (Hx.start w (fun _=>False)).nw fun w2 H=>?_
 have hg:=H.size;refine H.nw fun w3 H=>?_
 simp only[ad,ag,add_lit,ak]at H⊢;refine Bt _ _ _ (fun h=>?_) fun h=>?_
 ·iterate 8 refine H.ld 0 rfl rfl ?_
  iterate 8 (refine H.st 1 rfl (by simp) (.inr hg) fun _ H=>?_;simp only[af,aa,ab]at H)
  iterate 8 refine H.ld 1 rfl rfl ?_
  exact h1 (by simpa using h) _ H.ext
 ·exact h2 (by simpa using h) _ H.ext
theorem kL (x:Ob)(e:Int)(w:World){R:Ob->World->Prop}{PR:Value->World->Prop}(h1:e=0->∀w1,Ext (fun _=>False) w w1->R x w1)(h2:e≠0->∀w1,Ext (fun _=>False) w w1->PR (jd e) w1):
  zV x e w R PR:=by
 refine T23 x _ _ _ _ ?_;unfold S23;refine (Hx.start w (fun _=>False)).nw fun w2 H=>?_
 have hg:=H.size;refine H.nw fun w3 H=>?_
 simp only[ad,ag,add_lit,ak]at H⊢;refine Bt _ _ _ (fun h=>?_) fun h=>?_
 ·iterate 6 refine H.ld 0 rfl rfl ?_
  iterate 6 (refine H.st 1 rfl (by simp) (.inr hg) fun _ H=>?_;simp only[af,aa,ab]at H)
  iterate 6 refine H.ld 1 rfl rfl ?_
  exact h1 (by simpa using h) _ H.ext
 ·exact h2 (by simpa using h) _ H.ext
theorem Ox (x:ByteArray)(e:Int)(w:World){R:ByteArray->World->Prop}{PR:Value->World->Prop}(h1:e=0->R x w)(h2:e≠0->PR (jd e) w):zW x e w R PR:=by
 refine T21 x _ _ _ _ ?_;unfold S21;exact Bt _ _ _ (fun h=>h1 (by simpa using h)) fun h=>h2 (by simpa using h)
theorem Z0 (h:OX w x.2.2 t):C18 x w (fun e w1=>((e=0/\(1<=x.1/\x.1<=8191)/\(0<=x.2.1/\x.2.1<=65535)/\CL 1 t=true/\t.k≠8)\/e≠0)/\Ext (fun _=>False) w w1) fun _ _=>False:=by
 refine T18 x _ _ _ ?_;unfold S18;obtain ⟨⟨hk,_⟩,_⟩:=h.out;refine (Hx.start w (fun _=>False)).nw fun w2 H=>?_
 simp only[ad,ag,add_lit,ak,Nat.reduceAdd]at H⊢;refine H.ld 0 rfl rfl (Br.dec (fun _=>⟨.inr (by decide),H.ext⟩) fun q1=>H.ld 0 rfl rfl (Br.dec (fun _=>⟨.inr (by decide),H.ext⟩) fun q2=>H.ld 0 rfl rfl (Br.dec (fun _=>⟨.inr (by decide),H.ext⟩) fun q3=>H.ld 0 rfl rfl (Br.dec (fun _=>⟨.inr (by decide),H.ext⟩) fun q4=>?_))))
 iterate 6 refine H.ld 0 rfl rfl ?_
 refine (Ko (o:=x.2.2) (h.AB H.ext)).mono ?_ fun _ _ h=>h
 rintro e w3 ⟨he,e3⟩;have H:=H.AB e3;rcases he with ⟨BS,rfl⟩|⟨BS,he⟩
 ·exact Sh.Br.f rfl (H.ld 0 rfl rfl (Br.eq (fun h8=>⟨.inr (by decide),H.ext⟩) fun h8=>⟨.inl ⟨by trivial,⟨by omega,by omega⟩,⟨by omega,by omega⟩,BS,fun e=>h8 (hk.trans e)⟩,H.ext⟩))
 ·exact Sh.Br.t (by simpa using he) ⟨.inr he,H.ext⟩
theorem Bu.zX{w0 w w':World}{b c:Nat}{p:Option Addr}{sl:AA}{l:List UInt8}{cs:Array Value}{ty:TypeId}(h:Bu w0 w b p sl l)(hc:AN w c cs ty)(ht:ty≠5)(yF:c≠b)(he:Ext (·=c) w w'):Bu w0 w' b p sl l:=
 ⟨h.lo,h.ptr,he.AR h.AR (fun e=>yF e.symm),h.row.kept (row:=some c) ⟨he.os,he.tape,he.output,he.size,fun k hk hn=>he.block k hk fun e=>hn (by rw[e])⟩ (.inr (Lib.ownBlock_ne h.row hc ht))⟩
theorem Z1 {a:By}:bl (⟨a.toArray⟩:cN)=a:=Bp a
theorem kM (h:OX w x.2.2 t)(hT:Tl.PT w)(hb:DF t<=1100000):C7 x w (qN x t w):=by
 refine T7 x _ _ ?_;unfold S7;obtain ⟨⟨hk,hn,hg,hs⟩,hK,hO⟩:=h.out;have yG:IntKind.i64.max=9223372036854775807:=by decide
 refine (Hx.start w (fun _=>False)).nw fun w2 H=>?_
 have g0:=AN.lt (H.get 0 rfl);refine H.nw fun w3 H=>?_
 have g1:=AN.lt (H.get 1 rfl);refine H.nw fun w4 H=>?_
 have g2:=AN.lt (H.get 2 rfl);simp only[ad,ag,add_lit,ak,Nat.reduceAdd]at H⊢;have zY:=Qr t;have fail:∀{e:Int} {v:World} {y:Array Value} {t0 t1 t2:TypeId},e≠0->Hx w (fun _=>False) v [(w.heap.size,y,t0),(w2.heap.size,#[.string ⟨#[]⟩],t1),(w3.heap.size,#[.int .i64 0],t2)]->TN w2 w3 (qN x t w) (jd e) v:=by
  intro e v y t0 t1 t2 he H;unfold TN;refine kN _ _ _ _ _ ?_;unfold Oy;refine (Qp (H.get 2 rfl)).mono ?_ fun _ _ h=>h
  rintro v2 ⟨G7,e2⟩;have H:=H.G8 2 rfl G7 e2 (.inr (by omega));simp only[aa,ab]at H;refine H.ld 2 rfl rfl (Sh.Br.t (by simpa using he) ?_);refine H.st 1 rfl (by simp) (.inr (by omega)) fun v3 H=>?_
  simp only[af,aa,ab]at H;refine H.ld 1 rfl rfl (H.ld 2 rfl rfl ⟨.inr he,bJ _,H.ext⟩)
 refine ⟨fun v=>AN v w.heap.size (BD x).toArray 28,H.drew.get 0 rfl,?_⟩
 iterate 16 refine AU.of (fun _ h=>h) rfl ?_
 have H:=H.drew;refine (Z0 (x:=x) (h.AB H.ext)).mono ?_ fun _ _ h=>h.elim
 rintro e v1 ⟨he,e1⟩;have H:=H.AB e1;refine ⟨H.get 0 rfl,kK x e v1 (fun h0 v2 e2=>?_) fun h0 v2 e2=>fail h0 (H.AB e2)⟩;obtain ⟨_,Tf,yH,BS,h8⟩:=he.resolve_right fun h=>h h0
 subst h0;clear he;have H:=H.AB e2;have TO:=H.size;have l2:=AN.lt (H.get 2 rfl);refine Nw.of ?_;have e0:Ext (fun _=>False) v2 (v2.alloc (.cells #[.pointer none,AA.v ⟨none,0,0⟩] 63)):=(Ext.refl _ _).alloc _;have Gv:=AN.new v2 #[.pointer none,AA.v ⟨none,0,0⟩] 63;generalize v2.alloc (.cells #[.pointer none,AA.v ⟨none,0,0⟩] 63)=v3 at e0 Gv⊢;have B:Bu v2 v3 v2.heap.size none ⟨none,0,0⟩ []:=⟨az _,.inl rfl,Gv,⟨rfl,.inl ⟨rfl,rfl⟩⟩⟩
 have H:=H.AB e0;have B:=B.AB (Ext.refl _ v3).drew;have H:=H.drew;refine ⟨fun v=>AN v w.heap.size (BD x).toArray 28,H.get 0 rfl,AU.of (fun _ h=>h) rfl (AU.of (fun _ h=>h) rfl ?_)⟩;refine (Tl.Qu (n:=x.1) (by omega) (by omega) (hT.AB H.ext)).mono ?_ fun _ _ h=>h.elim
 rintro A e4 v4 ⟨hA,f4⟩;obtain ⟨rfl,_,_,DA,hA⟩:=hA.resolve_right fun h=>by omega
 have H:=H.AB f4;have B:=B.AB f4;refine ⟨H.get 0 rfl,Ox _ _ _ (fun _=>⟨H.get 0 rfl,?_⟩) fun h=>absurd rfl h⟩;refine (Tl.Qu (n:=x.2.1) (by omega) (by omega) (hT.AB H.ext)).mono ?_ fun _ _ h=>h.elim
 rintro G e5 v5 ⟨hG,f5⟩;obtain ⟨rfl,_,_,DG,hG⟩:=hG.resolve_right fun h=>by omega
 have H:=H.AB f5;have B:=B.AB f5;refine Ox _ _ _ (fun _=>?_) fun h=>absurd rfl h
 refine Nw.of ?_;have f6:Ext (fun _=>False) v5 (v5.alloc (.cells #[.string A,.string G,.string Oj] 9)):=(Ext.refl _ _).alloc _;have Xk:=AN.new v5 #[.string A,.string G,.string Oj] 9;generalize v5.alloc (.cells #[.string A,.string G,.string Oj] 9)=v6 at f6 Xk⊢;have H:=H.AB f6;have B:=B.AB f6;have lA:=GL hA;have lG:=GL hG;refine (Z2 (L:=[A,G,Oj]) (B9.of Xk rfl) (by show 3<=4000000;decide) fun y hy=>?_).mono ?_
 ·simp only[ar,aF,bp]at hy;rcases hy with rfl|rfl|rfl
  ·rw[<-AE];omega
  ·rw[<-AE];omega
  ·decide
 rintro kO v7 ⟨kP,f7⟩;have H:=H.AB f7;have B:=B.AB f7;have kP:bl kO=bl A++32::(bl G++32::Bv):=kP.trans (Xj hA hG (by omega) yH.1);have AQ7:kO.size<=60:=by
  rw[<-AE,kP];simp only[ae,au,Bv,aV];omega
 have yE:(⟨#[10]⟩:cN).size=1:=rfl;refine ⟨by rw[yE,yG];omega,?_⟩;refine (EA B (by rw[<-AE,BM,ae,AE,AE,yE,aV];omega)).mono ?_;rintro _ _ v8 ⟨sl8,B,W8⟩;have l8:v2.heap.size<v8.heap.size:=B.AR.lt;have Hw:∀{v v':World} {L:List (Nat×Array Value×TypeId)},Hx w (fun _=>False) v L->Ext (fun j=>v2.heap.size<=j) v v'->(∀p∈L,p.1<v2.heap.size)->Hx w (fun _=>False) v' L:=fun H W hl=>
  H.other W (fun j hj hm=>by
   have hj:v2.heap.size<=j:=hj;obtain ⟨p,hp,rfl⟩:=bx.1 hm;have:=hl p hp;omega) fun j hj=> .inr (by have hj:v2.heap.size<=j:=hj;omega)
 have low:∀{y0 y1 y2:Array Value} {t0 t1 t2:TypeId},∀p∈[(w.heap.size,y0,t0),(w2.heap.size,y1,t1),(w3.heap.size,y2,t2)],p.1<v2.heap.size:=by
  intro y0 y1 y2 t0 t1 t2 p hp;simp only[ar,aF,bp]at hp;rcases hp with rfl|rfl|rfl<;>(simp only;omega)
 have H:=Hw H W8.ext low
 iterate 6 refine H.ld 0 rfl rfl ?_
 refine (Hn.start v8).nw (cs:=[.int .i64 0,.int .i64 0,.int .i64 0,.string ⟨#[]⟩,AA.v ⟨none,0,0⟩,AA.v ⟨none,0,0⟩]) fun u0 H5=>?_
 simp only[ad,ag]at H5
 iterate 6 (refine H5.st 0 rfl (by simp) fun _ H5=>?_;simp only[aa,ab]at H5)
 rename_i ua ub uc ud ue uf;have H:=H.AB H5.ext;have B:=B.AB H5.ext;have Kp:AN uf v8.heap.size (AF x.2.2).toArray 26:=H5.get 0 rfl;clear H5;have lB:=B.lo;have lBl:=B.AR.lt;generalize kQ:([]:List UInt8)++(kO++(⟨#[10]⟩:cN)).data.toList=l1 at B;have kQ:l1=bl A++32::(bl G++32::Bv)++[10]:=by
  rw[<-kQ,ad];show bl (kO++⟨#[10]⟩)=_;rw[BM,kP]
 have ll1:l1.length<=61:=by
  rw[kQ];simp only[ae,au,Bv,aV];omega
 have f8:Ext (fun _=>False) w uf:=H.ext;have J:∀{v:World} {o':Ob} {t':Tr} {tO:TypeId},Bu v2 v v2.heap.size (some ⟨v2.heap.size,0,none⟩) sl8 l1->Hx w (fun _=>False) v [(w.heap.size,(BD x).toArray,28),(w2.heap.size,#[.string ⟨#[]⟩],9),(w3.heap.size,#[.int .i64 0],29)]->
   AN v v8.heap.size (AF o').toArray tO->OX v o' t'->DF t'<=DF t+20->(t.k≠9->t'=t)->kR w w2 w3 v2 v8 (qN x t w) () v:=by
  intro v o' t' tO B H Kp CO hbk heq;have AQ8:=Qr t';unfold kR;simp only[add_lit,ak,Nat.reduceAdd]
  iterate 6 refine Ld.of Kp rfl ?_
  refine (kS (o:=o') CO (hT.AB H.ext) (by omega)).mono ?_ fun _ _ h=>h.elim
  rintro r e u ⟨hr,eu⟩;have H:=H.AB eu;have B:=B.AB eu;refine Ox _ _ _ (fun h0=>?_) fun h0=>fail h0 H
  obtain ⟨_,AQ9,h9',ps,hps,NG⟩:=hr.resolve_right fun h=>h.1 h0
  subst h0;have hms:=oP t';have Oz:=Z3 t' ps hps;have hjl:=LP ps 32;have szr:r.size<=30*DF t+600:=by rw[<-AE,NG];omega
  have l10:(r++(⟨#[10]⟩:cN)).size=r.size+1:=by rw[<-AE,BM,ae,AE,AE,yE]
  refine ⟨by rw[yE,yG];omega,?_⟩;refine (EA B (by rw[l10];omega)).mono ?_;rintro _ _ u1 ⟨sl9,B,W9⟩;have H:=Hw H W9.ext low;have tail:∀{u:World} {sl:AA} {l:List UInt8},Bu v2 u v2.heap.size (some ⟨v2.heap.size,0,none⟩) sl l->Hx w (fun _=>False) u [(w.heap.size,(BD x).toArray,28),(w2.heap.size,#[.string ⟨#[]⟩],9),(w3.heap.size,#[.int .i64 0],29)]->l.length<=31*DF t+900->(t.k≠9->l=l1++(r++(⟨#[10]⟩:cN)).data.toList)->
    O0 (some (⟨v2.heap.size,0,none⟩:Addr)) (⟨#[101,110,100,111,98,106,10]⟩:cN) u fun O1 qO zZ=>oS (some (⟨v2.heap.size,0,none⟩:Addr)) zZ fun qP za=>
     Sh.St za (⟨w2.heap.size,0,none⟩:Addr) (.string qP) fun zb=>Sh.St zb (⟨w3.heap.size,0,none⟩:Addr) (.int .i64 0) fun zc=>Xl (⟨w3.heap.size,0,none⟩:Addr) (⟨w2.heap.size,0,none⟩:Addr) none zc fun Z4=>
      Ld Z4 (⟨w2.heap.size,0,none⟩:Addr) Value.string fun (LQ:ByteArray)=>Ld Z4 (⟨w3.heap.size,0,none⟩:Addr) (Value.int .i64) fun (O2:Int)=>qN x t w LQ O2 Z4:=by
   intro u sl l B H hl9 qQ;have s7:(⟨#[101,110,100,111,98,106,10]⟩:cN).size=7:=rfl;refine (EA B (by rw[s7];omega)).mono ?_;rintro _ _ u2 ⟨Qw,B,W2⟩;have H:=Hw H W2.ext low;have lu:=B.AR.lt;refine (JF B (by omega)).mono ?_;rintro r u3 ⟨rfl,hbw⟩;have H:=Hw H (Cl hbw) low;refine H.st 1 rfl (by simp) (.inr (by omega)) fun u4 H=>?_
   simp only[af,aa,ab]at H;refine H.st 2 rfl (by simp) (.inr (by omega)) fun u5 H=>?_
   simp only[af,aa,ab]at H;refine kT _ _ _ _ ?_;unfold O3;refine Kk _ _ _ _ ?_;unfold Ht;refine H.ld 2 rfl rfl (Sh.Br.f rfl (H.ld 1 rfl rfl (H.ld 2 rfl rfl ⟨.inl ⟨rfl,Tf,yH,BS,h8,fun h9=>?_⟩,?_,H.ext⟩)))
   ·refine ⟨bl A,DA,bl G,DG,ps,hA,hG,heq h9▸hps,?_⟩;rw[Z1,qQ h9,kQ];show _++bl (r++⟨#[10]⟩)++bl (⟨#[101,110,100,111,98,106,10]⟩:cN)=_;rw[BM,NG];show bl A++32::(bl G++32::Bv)++[10]++(Af 32 (ps.map (·.t))++[10])++[101,110,100,111,98,106,10]=_;unfold Ni Bv;simp
   ·rw[<-AE,Z1,ae];show l.length+7<=_;omega
  have hlb:(l1++(r++(⟨#[10]⟩:cN)).data.toList).length=l1.length+(r.size+1):=by
   rw[ae];show l1.length+(bl (r++⟨#[10]⟩)).length=_;rw[AE,l10]
  refine H.ld 0 rfl rfl (Br.eq (fun h9=>H.ld 0 rfl rfl ?_) fun h9=>tail B H (by omega) fun _=>rfl);have zd:x.2.2.2.2.2.1.size<=DF t:=by
   rw[hs];exact qM t
  have s7:(⟨#[115,116,114,101,97,109,10]⟩:cN).size=7:=rfl;have Fk:(⟨#[10,101,110,100,115,116,114,101,97,109,10]⟩:cN).size=11:=rfl;have sA:((⟨#[115,116,114,101,97,109,10]⟩:cN)++x.2.2.2.2.2.1).size=7+x.2.2.2.2.2.1.size:=by rw[<-AE,BM,ae,AE,AE,s7]
  have sB:((⟨#[115,116,114,101,97,109,10]⟩:cN)++x.2.2.2.2.2.1++(⟨#[10,101,110,100,115,116,114,101,97,109,10]⟩:cN)).size=18+x.2.2.2.2.2.1.size:=by rw[<-AE,BM,ae,AE,AE,sA,Fk];omega
  refine ⟨by rw[s7,yG];show ((7+x.2.2.2.2.2.1.size:Nat):Int)<=_;omega,?_,Lt.of ?_⟩
  ·show ((((⟨#[115,116,114,101,97,109,10]⟩:cN)++x.2.2.2.2.2.1).size+(⟨#[10,101,110,100,115,116,114,101,97,109,10]⟩:cN).size:Nat):Int)<=_;rw[sA,Fk,yG];omega
  refine (EA B (by rw[hlb];show _+((⟨#[115,116,114,101,97,109,10]⟩:cN)++x.2.2.2.2.2.1++(⟨#[10,101,110,100,115,116,114,101,97,109,10]⟩:cN)).size<=_;rw[sB];omega)).mono ?_;rintro _ _ u2 ⟨ARA,B,W10⟩;have H:=Hw H W10.ext low;refine tail B H ?_ fun h=>absurd (hk.symm.trans h9) h
  rw[ae,hlb];show _+(bl ((⟨#[115,116,114,101,97,109,10]⟩:cN)++x.2.2.2.2.2.1++(⟨#[10,101,110,100,115,116,114,101,97,109,10]⟩:cN))).length<=_;rw[AE,sB];omega
 refine As.intro ?_;refine Ld.of Kp rfl (Br.eq (fun h9=>?_) fun h9=>J B H Kp (h.AB f8) (by omega) fun _=>rfl);have h9:t.k=9:=hk.symm.trans h9;have oT:CL 1 (.mk 7 0 0 ⟨#[]⟩ t.ks t.kids)=true:=by
  obtain ⟨k',n',g',s',ks',Z5⟩:=t;have h9:k'=9:=h9;subst h9;exact kH BS
 have hbd:DF (.mk 7 0 0 ⟨#[]⟩ t.ks t.kids)<=DF t:=by
  cases t;rw[DF,DF];show 2+0+Qq _+Hp _<=_;simp only[Tr.ks,Tr.kids];omega
 generalize hL:((x.2.2.2.2.2.1.size:Nat):Int)=L;have hbv:DF (.mk 2 L 0 ⟨#[]⟩ [] [])=2:=by rw[DF,Hp];rfl
 have hbw:=kG (⟨#[76,101,110,103,116,104]⟩:cN) (.mk 2 L 0 ⟨#[]⟩ [] []) (.mk 7 0 0 ⟨#[]⟩ t.ks t.kids)
 have s6:(⟨#[76,101,110,103,116,104]⟩:cN).size=6:=rfl;have H:=H.drew;have B:=B.AB (Ext.refl _ uf).drew;have Kp:=(Ext.refl (fun _=>False) uf).drew.AR Kp id;have fin:∀{v:World},Bu v2 v v2.heap.size (some ⟨v2.heap.size,0,none⟩) sl8 l1->Hx w (fun _=>False) v [(w.heap.size,(BD x).toArray,28),(w2.heap.size,#[.string ⟨#[]⟩],9),(w3.heap.size,#[.int .i64 0],29)]->
   AN v v8.heap.size (AF x.2.2).toArray 26->ze (7,0,0,(⟨#[]⟩:cN),x.2.2.2.2.2.2.1,x.2.2.2.2.2.2.2) (⟨#[76,101,110,103,116,104]⟩:cN) (2,L,0,⟨#[]⟩,Tg,Tg) v (fun JG qR zf=>
    zV (JG.1,JG.2.1,JG.2.2.1,JG.2.2.2.1,JG.2.2.2.2.1,JG.2.2.2.2.2) qR zf (fun JH zg=>
     Sh.St zg (⟨v8.heap.size,0,none⟩:Addr) (.int .i64 (JH.1)) fun zh=>Sh.St zh (⟨v8.heap.size,1,none⟩:Addr) (.int .i64 (JH.2.1)) fun zi=>Sh.St zi (⟨v8.heap.size,2,none⟩:Addr) (.int .i64 (JH.2.2.1)) fun zj=>
     Sh.St zj (⟨v8.heap.size,3,none⟩:Addr) (.string (JH.2.2.2.1)) fun zk=>Sh.St zk (⟨v8.heap.size,4,none⟩:Addr) (AA.v (JH.2.2.2.2.1)) fun zl=>Sh.St zl (⟨v8.heap.size,5,none⟩:Addr) (AA.v (JH.2.2.2.2.2)) fun zm=>
     kR w w2 w3 v2 v8 (qN x t w) () zm) (TN w2 w3 (qN x t w))) (TN w2 w3 (qN x t w)):=by
  intro v B H Kp;have l5:=Kp.lt;refine (Vl.zn (o:=(7,0,0,⟨#[]⟩,x.2.2.2.2.2.2.1,x.2.2.2.2.2.2.2)) (vo:=(2,L,0,⟨#[]⟩,Tg,Tg)) (t:= .mk 7 0 0 ⟨#[]⟩ t.ks t.kids) (v:= .mk 2 L 0 ⟨#[]⟩ [] []) (wb:=v) (OX.of rfl rfl rfl rfl (hK.AB H.ext) (hO.AB H.ext)) (OX.of rfl rfl rfl rfl (KV.nil v) ⟨1,[],⟨rfl,rfl,fun j v h=>by cases h⟩,trivial⟩) (Ext.refl _ _) rfl oT (by show (2:Int)≠0;decide) rfl _).mono ?_ fun _ _ h=>h.elim
  rintro r e u ⟨hr,eu⟩;have H:=H.AB eu;have B:=B.AB eu;have Kp:=eu.AR Kp id;refine kL r e u (fun h0 u1 e1=>?_) fun h0 u1 e1=>fail h0 (H.AB e1)
  obtain ⟨_,CO,_⟩:=hr.resolve_right fun h=>h.2.2 h0
  have H:=H.AB e1;have B:=B.AB e1;have Kp:=e1.AR Kp id;have CO:=CO.AB e1;have Xm:=eu.size;have H6:Hx u1 (·=v8.heap.size) u1 [(v8.heap.size,(AF x.2.2).toArray,26)]:=Hx.one Kp;simp only[AF]at H6
  iterate 6 (refine H6.st 0 rfl (by simp) (.inl rfl) fun _ H6=>?_;simp only[af,aa,ab]at H6)
  have E6:=H6.ext;refine J (Bu.zX B Kp (by decide) (by omega) E6) (Hw H (E6.mono fun j _ (h:j=v8.heap.size)=>by show v2.heap.size<=j;omega) low) (H6.get 0 rfl) (CO.AI E6 fun j hj (h:j=v8.heap.size)=>by have hj:v.heap.size<=j:=hj;omega).t0z (by omega) fun h=>absurd h9 h
 refine ⟨fun v=>AN v v8.heap.size (AF x.2.2).toArray 26,Kp,AU.of (fun _ h=>h) rfl (AU.of (fun _ h=>h) rfl (AU.of (fun _ h=>h) rfl ⟨⟨Kp,?_⟩,?_⟩))⟩
 ·refine (Th _ _).mono ?_;rintro r v ⟨rfl,ev⟩;refine ⟨ev.AR Kp id,?_⟩;have:=fin (B.AB ev) (H.AB ev) (ev.AR Kp id);rw[<-hL]at this;exact this
 ·refine (Th _ _).mono ?_;rintro r v ⟨rfl,ev⟩;refine ⟨ev.AR Kp id,ev.AR Kp id,?_⟩;have:=fin (B.AB ev) (H.AB ev) (ev.AR Kp id);rw[<-hL]at this;exact this
end
end Pc
set_option maxRecDepth 512
set_option maxHeartbeats 200000
namespace Pc
open Sh Fix Tk Tl Vl Wt
def Dq:By:=[32,111,98,106]
theorem VO {t:By}{j:Nat}:Lib.occAt t Dq j=true↔mX t j:=by
 unfold Lib.occAt mX;rw[List.isPrefixOf_iff_prefix];have g:∀i,t[j+i]?=(t.drop j)[i]?:=fun i=>by rw[bI]
 rw[g 1,g 2,g 3,show t[j]?=(t.drop j)[0]? from g 0];generalize t.drop j=l;constructor
 ·rintro ⟨r,rfl⟩;exact ⟨rfl,rfl,rfl,rfl⟩
 ·rintro ⟨h0,h1,h2,h3⟩
  match l,h0,h1,h2,h3 with
  |a::b::c::d::r,h0,h1,h2,h3=>
   simp at h0 h1 h2 h3;subst h0 h1 h2 h3;exact ⟨r,rfl⟩
  |[],h0,_,_,_=>simp at h0
  |[_],_,h1,_,_=>simp at h1
  |[_,_],_,_,h2,_=>simp at h2
  |[_,_,_],_,_,_,h3=>simp at h3
theorem mY {t:By}{j:Nat}(h:mX t j):j+3<t.length:=(al.1 h.2.2.2).1
theorem index_first:∀(t:By) (j:Nat),mX t j->∃i:Nat,Lib.index t Dq=(i:Int)/\i<=j
 |[],j,h=>by simp[mX]at h
 |c::r,j,h=>by
  unfold Lib.index;by_cases h0:Dq.isPrefixOf (c::r)=true
  ·rw[aG h0];exact ⟨0,rfl,bJ _⟩
  ·rw[aA h0];cases j with
   |zero=>exact absurd (VO.2 h) h0
   |succ j=>
    obtain ⟨i,h1,h2⟩:=index_first r j ⟨by simpa using h.1,by simpa using h.2.1,by simpa using h.2.2.1,by simpa using h.2.2.2⟩;rw[h1,aA (fun e=>by have e:=eq_of_beq e;omega)];exact ⟨i+1,by simp,by omega⟩
theorem OA {t:By}{j:Nat}(h:mX t j):∃i:Nat,Lib.lastIndex t Dq=(i:Int)/\j<=i:=by
 have hl:=mY h;have h4:Dq.length=4:=rfl;unfold Lib.lastIndex;rw[aG (by omega),h4];rcases Lib.lastOcc_spec t Dq (t.length-4+1)with ⟨_,h1⟩|⟨i,h1,h2,h3,h5⟩
 ·have:=h1 j (by omega);rw[VO.2 h]at this;cases this
 ·refine ⟨i,h2,cw fun Au=>?_⟩;have:=h5 j Au (by omega);rw[VO.2 h]at this;cases this
theorem mJ {t:By}(h:Lib.index t Dq=Lib.lastIndex t Dq):wA t:=by
 intro i j hi hj;obtain ⟨a,a1,a2⟩:=index_first t i hi;obtain ⟨b,b1,b2⟩:=OA hi;obtain ⟨c,c1,c2⟩:=index_first t j hj;obtain ⟨d,d1,d2⟩:=OA hj;rw[a1]at c1;rw[b1]at d1;rw[a1,b1]at h;omega
end Pc
end Go.Proofs.YtdnhhkhbdfiagaaGreatDoor
namespace Go.Proofs
open Go.Shelf
def Tryz.Sc:Go.Shelf.Ren:=⟨fun|148=>29|222=>52|223=>53|269=>89|n=>n,fun|9=>9|3=>3|4=>4|5=>5|46=>133|51=>134|146=>135|n=>n,fun|n=>n⟩
theorem Tryz.nS:Go.Proofs.Lays.n148 Tryz.prog Tryz.Sc:={
 mixed:=by kernel_rfl
 f148:=Tryz.func29.trans (congrArg some (by kernel_rfl))
 f222:=Tryz.func52.trans (congrArg some (by kernel_rfl))
 f223:=Tryz.func53.trans (congrArg some (by kernel_rfl))
 f269:=Tryz.func89.trans (congrArg some (by kernel_rfl))
 t3:=Tryz.underlying3
 a3:=Tryz.isAgg3
 z3:=Tryz.sizeOf3
 v3:=Tryz.zeroValue3
 t4:=Tryz.underlying4
 a4:=Tryz.isAgg4
 z4:=Tryz.sizeOf4
 v4:=Tryz.zeroValue4
 t5:=Tryz.underlying5
 a5:=Tryz.isAgg5
 z5:=Tryz.sizeOf5
 v5:=Tryz.zeroValue5
 t9:=Tryz.underlying9
 a9:=Tryz.isAgg9
 z9:=Tryz.sizeOf9
 v9:=Tryz.zeroValue9
 t46:=Tryz.underlying133
 a46:=Tryz.isAgg133
 z46:=Tryz.sizeOf133
 v46:=Tryz.zeroValue133
 t51:=Tryz.underlying134
 a51:=Tryz.isAgg134
 z51:=Tryz.sizeOf134
 v51:=Tryz.zeroValue134
 t146:=Tryz.underlying135
 a146:=Tryz.isAgg135
 z146:=Tryz.sizeOf135
 v146:=Tryz.zeroValue135}
theorem Tryz.strings_LastIndex(s sub:ByteArray)(hs:s.size<4611686018427387904)(w:World):
  Calls Tryz.prog 29 #[.string s,.string sub] w fun e w'=>e= .returned (.int .i64 (Lib.lastIndex s.data.toList sub.data.toList))/\w'=w:=Any.strings_LastIndex Tryz.nS s sub hs w
end Go.Proofs
namespace Go.Proofs.YtdnhhkhbdfiagaaGreatDoor
set_option maxRecDepth 100000
set_option maxHeartbeats 4000000
namespace Pc
open Sh Fix Tk Tl Vl Wt
abbrev Rs:ByteArray:=⟨#[32,111,98,106]⟩
def MX (w:World):Prop:=∃m,w.cell? ⟨0,0,none⟩=some (.int .i64 m)
theorem MX.AB{w w1:World}(h:MX w)(he:Ext (fun _=>False) w w1):MX w1:=let ⟨m,hm⟩:=h;⟨m,he.GM hm⟩
theorem index_le:∀(s sub:By),Lib.index s sub<=(s.length:Int)
 |[],sub=>by
  unfold Lib.index;split
  ·simp
  ·simp
 |b::l,sub=>by
  have:=index_le l sub;unfold Lib.index;rw[au];split
  ·omega
  ·split
   ·omega
   ·omega
section
variable {w w1:World} {s:ByteArray} {sl:AA} {F:List BQ}
theorem mD (hm:MX w)(hs:s.size<4294967281):C8 s Rs 0 w fun r w1=>r=Lib.index (bl s) Dq/\w1=w:=by
 obtain ⟨m,hm⟩:=hm;refine T8 _ _ _ _ _ ?_;unfold S8;have hx:bl (s.extract 0 s.size)=bl s:=by
  rw[A9,List.drop_zero,ct,aU (by rw[AE];exact az _)]
 have hxs:(s.extract 0 s.size).size=s.size:=by rw[<-AE,hx,AE]
 refine Sh.Br.f (by decide+kernel) (Br.dec (fun q=>?_) fun q=>⟨by decide,by show (0:Int)<=_;omega,?_⟩)
 ·have q:(0:Int)>((s.size:Nat):Int):=q;omega
 ·refine Calls.mono (Any.strings_Index Tryz.mE (s.extract 0 s.size) Rs m w (by rw[hxs];exact hs) hm) ?_;rintro e w1 ⟨rfl,rfl⟩;refine ⟨_,rfl,?_⟩;have e1:Lib.index (s.extract 0 s.size).data.toList Rs.data.toList=Lib.index (bl s) Dq:=by
   show Lib.index (bl (s.extract 0 s.size)) Dq=_;rw[hx]
  rw[e1];have h1:=index_le (bl s) Dq;have h2:=Lib.index_ge (bl s) Dq;rw[AE]at h1;generalize Lib.index (bl s) Dq=r at h1 h2⊢;refine Br.dec (fun q=>⟨?_,rfl⟩) fun q=>⟨by omega,rfl⟩
  show wrap .i64 (0+r)=r;rw[IntWalk.i64_in _ (by omega),Int.zero_add]
theorem mF (hs:s.size<4611686018427387904)(w:World):C9 s Rs w fun r w1=>r=Lib.lastIndex (bl s) Dq/\w1=w:=by
 refine T9 _ _ _ _ ?_;unfold S9;refine Sh.Br.f (by decide+kernel) ?_;refine Calls.mono (Tryz.strings_LastIndex s Rs hs w) ?_;rintro e w1 ⟨rfl,rfl⟩;exact ⟨_,rfl,rfl,rfl⟩
theorem Qy.take(h:Qy w sl F){n c:Nat}(hn:n<=F.length):Qy w (sl.cut 4 0 n c) (F.take n):=by
 have hl:(sl.cut 4 0 n c).len=n:=ct n;have h2:=h.1.2;refine ⟨⟨by rw[hl,aC];omega,by rw[aC];omega⟩,by rw[IK,aC,hl];omega,fun j v hj=>?_⟩;have hjl:j<((F.take n).flatMap BL).length:=(al.1 hj).1;obtain ⟨a,ha,hc⟩:=h.2.2 j v (by
  have:F.flatMap BL=(F.take n).flatMap BL++(F.drop n).flatMap BL:=by rw[<-IL,aT]
  rw[this,aI hjl];exact hj)
 refine ⟨a,?_,hc⟩;show (if c=0 then sl.p else sl.p.map (·.add (0*4)))=_;split
 ·exact ha
 ·rw[ha,cE]
  rfl
abbrev fO:ByteArray:=⟨#[49,32,48,32,111,98,106,10,53,10,101,110,100,111,98,106,10]⟩
def N0:Tr:= .mk 2 5 0 ⟨#[]⟩ [] []
theorem fP:∃c,Cj fO 0 (Ax [49] 1::Ax [48] 0::AY Bv::([Ax [53] 5]++[AY HB])) c:=by
 have h1:Bg 1 [49] [49]:=⟨fun c hc=>by rw[ao.1 hc];unfold BF;decide,by decide,by decide,by decide,by decide⟩
 have h0:Bg 0 [48] [48]:=⟨fun c hc=>by rw[ao.1 hc];unfold BF;decide,by decide,by decide,by decide,by decide⟩
 have h5:Bg 5 [53] [53]:=⟨fun c hc=>by rw[ao.1 hc];unfold BF;decide,by decide,by decide,by decide,by decide⟩
 have hp:PT N0 [Ax [53] 5]:=by
  unfold N0;rw[Wt.PT];exact .inr (.inr (.inl ⟨rfl,_,_,h5,rfl⟩))
 exact Rt (s:=fO) (by decide) (a:=0) (by decide) (post:=[]) h1 h0 (by decide) (by decide) (t:=N0) (by decide+kernel) hp (by decide+kernel)
theorem ve (h:Qy w sl [(1,1,0,0)]):C4 fO sl 1 w fun i e w1=>e=0/\i.2.2.2.1=5/\Ext (fun _=>False) w w1:=by
 obtain ⟨c,hr⟩:=fP;have hp:PT N0 [Ax [53] 5]:=by
  have h5:Bg 5 [53] [53]:=⟨fun c hc=>by rw[ao.1 hc];unfold BF;decide,by decide,by decide,by decide,by decide⟩
  unfold N0;rw[Wt.PT];exact .inr (.inr (.inl ⟨rfl,_,_,h5,rfl⟩))
 refine (U4 (a:=0) (g:=0) (t:=N0) h rfl hr (by decide) (by decide) (by decide+kernel) (by decide) (by decide) hp).mono ?_;rintro i e w1 ⟨rfl,h1,h2,h3,e1⟩;exact ⟨rfl,h3.t0z.out.1.2.1,e1⟩
end
end Pc
namespace Pc
open Sh Fix Tk Tl Vl Wt
structure Ya (v:World) (L:List Fj) (z:Fj) (sb:ByteArray) (ss:AA) (I:List It):Prop where
 l:I.length=L.length+1
 s:bl sb=(J9 I).flatten
 lim:sb.size<=549755813888
 r:D4 v ss (BN 0 I)
 g:∀y∈I,Qf y
 m:∀(k:Nat) (y:It),I[k]?=some y->∃x:Fj,(L++[z])[k]?=some x/\x.1=y.num/\x.2.1=y.gen/\OX v x.2.2 y.t/\KR y.t<=4000000
 up:MG (I.take L.length)
section
variable {w v W:World} {l1 ss fs:AA} {L:List Fj} {z:Fj} {sb:ByteArray} {I:List It} {G:List BQ}
attribute [local irreducible] Ld Sh.St Nw Nn AU Ae Am BW
theorem Ya.AB{v':World}(h:Ya v L z sb ss I)(he:Ext (fun _=>False) v v'):Ya v' L z sb ss I:=
 ⟨h.l,h.s,h.lim,h.r.still he,h.g,fun k y hy=>by
  obtain ⟨x,h1,h2,h3,h4,h5⟩:=h.m k y hy;exact ⟨x,h1,h2,h3,h4.AB he,h5⟩,h.up⟩
theorem Ya.cut(h:Ya v L z sb ss I):∃iz,I=I.take L.length++[iz]/\I[L.length]?=some iz:=by
 have hk:L.length<I.length:=by rw[h.l];omega
 refine ⟨I[L.length],?_,ah hk⟩;have:=U5 (ah hk);rw[bY (by rw[h.l];omega)]at this;exact this
theorem Yb (hl:IV v l1 L)(vf:L.length<=8)(hb:w.heap.size<v.heap.size){tz:TypeId}(hz:AN v w.heap.size (Pk z) tz)(h:Ya v L z sb ss I)(hG:(G.map BK).Perm ((G1 (BN 0 I)).map (·.2)))(Zf:Qy v fs G)(hE:Ext (fun _=>False) W v)(i0:Int):
  Lp (σ:=Int) (rf w l1 (sb,ss,i0) fs (fun r w1=>r=true/\Ext (fun _=>False) W w1)) 0 v:=by
 have mG:=hl.1;have hIl:=h.l;obtain ⟨iz,hIz,ACe⟩:=h.cut;have JI:ss.len=L.length+1:=by rw[h.r.len,BG,h.l]
 have mH:ss.len<=ss.cap:=by
  rcases h.r.2 with rfl|⟨g,cur,_,_,hle,_⟩
  ·simp only at JI;omega
  ·exact hle
 have hGz:(G.map BK).Perm ((G1 (BN 0 (I.take L.length++[iz]))).map (·.2)):=by rw[<-hIz];exact hG
 obtain ⟨xz,hxz,z1,z2,_⟩:=h.m _ _ ACe;have hxz:xz=z:=by
  rw[aM (az _),Nat.sub_self]at hxz;exact (aQ hxz).symm
 subst hxz;refine ⟨fun n st u=>∃k:Nat,k<=L.length/\st=(k:Int)/\n=L.length-k/\Ext (fun _=>False) v u,L.length,⟨0,by omega,rfl,by omega,Ext.refl _ _⟩,?_⟩;rintro n st u ⟨k,hk,rfl,rfl,E⟩;unfold rf;have Xm:=E.size;refine Br.dec (fun q=>?_) fun q=>?_
 ·have vg:k<L.length:=by have q:(k:Int)<((l1.len:Nat):Int):=q;omega
  have hLk:=ah vg;generalize L[k]=x at hLk;have hIk:k<I.length:=by omega
  have yh:=ah hIk;generalize I[k]=y at yh;have jn:=h.g y (ax yh);obtain ⟨x',NQ,m1,m2,m3,m4⟩:=h.m k y yh;obtain rfl:x'=x:=by
   rw[aI vg,hLk]at NQ;exact (aQ NQ).symm
  have ACf:(I.take L.length)[k]?=some y:=by rw[bS,aG vg,yh]
  obtain ⟨A,Gt,ps,c,hp,hr⟩:=fQ h.s h.lim h.g yh;obtain ⟨a,ha,c0,c1,c2,c3,c4,c5,c6,c7⟩:=(hl.AB E).get hLk;have next:∀{u':World},Ext (fun _=>False) u u'->∃n',n'<L.length-k/\∃k':Nat,k'<=L.length/\wrap .i64 ((k:Int)+1)=(k':Int)/\n'=L.length-k'/\Ext (fun _=>False) v u':=fun e=>
   ⟨L.length-(k+1),by omega,k+1,by omega,by rw[IntWalk.i64_in _ (by omega)];rfl,rfl,E.tr e⟩
  refine ⟨by omega,by omega,?_⟩;rw[show (k:Int).toNat=k by omega,ha];refine Nn.of (Ld.mk c0 (Ld.mk c1 (Ld.mk c2 (Ld.mk c3 (Ld.mk c4 (Ld.mk c5 (Ld.mk c6 (Ld.mk c7 ?_))))))));refine (Hx.start u (fun _=>False)).nw fun u1 H=>?_
  have g0:=AN.lt (H.get 0 rfl);simp only[ad,ag,add_lit,ak]at H⊢
  iterate 8 (refine H.st 0 rfl (by simp) (.inr (az _)) fun _ H=>?_;simp only[af,aa,ab]at H)
  rename_i y1 y2 y3 y4 y5 y6 y7 y8;have gy8:=H.size;have gy9:y8.drew.heap.size=y8.heap.size:=rfl;have J:∀{u2:World} {pb:Nat} {i:Fj} {tI:TypeId},Hx u (fun _=>False) u2 [(u.heap.size,Pk x',28),(pb,Pk i,tI)]->i.1=y.num->i.2.1=y.gen->OX u2 i.2.2 y.t->
    rL w (sb,ss,i0) fs (k:Int) u (fun st v'=>∃n',n'<L.length-k/\∃k':Nat,k'<=L.length/\st=(k':Int)/\n'=L.length-k'/\Ext (fun _=>False) v v') (fun r w1=>r=true/\Ext (fun _=>False) W w1) ((⟨pb,0,none⟩:Addr),0) u2:=by
   intro u2 pb i tI H i1 i2 CO;unfold rL;simp only[add_lit,ak];refine Sh.Br.f rfl ?_
   iterate 8 refine H.ld 0 rfl rfl ?_
   iterate 8 refine H.ld 1 rfl rfl ?_
   refine (U6 (x1:=x') (x2:=i) (t:=y.t) (m1.trans i1.symm) (m2.trans i2.symm) ((m3.AB E).AB H.ext) CO m4).mono ?_;rintro r u3 ⟨rfl,e3⟩;have H:=H.AB e3;refine Sh.Br.f rfl (H.ld 0 rfl rfl ?_);rw[m1];refine (To (Zf.AB (E.tr H.ext)) y.num).mono ?_;rintro r4 b4 u4 ⟨Qg,e4⟩;obtain ⟨yy,hyy,heq⟩:=fR (z:=iz) h.up hGz ACf;obtain ⟨rfl,rfl⟩:r4=yy/\b4=true:=by
    rcases Qg with ⟨h1,h2⟩|⟨h1,_⟩
    ·rw[hyy]at h1;exact ⟨(aQ h1).symm,h2⟩
    ·rw[hyy]at h1;cases h1
   have H:=H.AB e4;have gs:=H.size;refine H.nw fun u5 H=>?_
   simp only[ad,ag]at H
   iterate 4 (refine H.st 2 rfl (by simp) (.inr gs) fun _ H=>?_;simp only[af,aa,ab]at H)
   have H:=H.drew;refine Sh.Br.f rfl (H.ld 0 rfl rfl (Ld.of ((E.tr H.ext).AR hz id) rfl ?_));refine Br.ne (fun BI=>?_) fun _=>next H.ext
   have BI:y.num≠iz.num:=by rw[<-m1,<-z1];exact BI
   have heq:=heq BI
   iterate 4 refine H.ld 2 rfl rfl ?_
   obtain ⟨g,hg,d0,d1,d2,d3⟩:=(h.r.still (E.tr H.ext)).Yc (GV yh);refine ⟨by omega,by show (k:Int)<((ss.len:Nat):Int);omega,?_⟩;show Nn ss.p _;rw[hg];refine Nn.of ?_;simp only[add_lit,ay,ak];refine Ld.mk d0 (Ld.mk d1 (Ld.mk d2 (Ld.mk d3 (Sh.Br.f ?_ (next H.ext)))));rw[heq];unfold MH;rw[List.take_take,Nat.min_eq_left (Nat.le_of_lt vg)];simp
  refine As.intro ?_;have hss:=(h.r.still (E.tr H.drew.ext)).view (by rw[BG];omega);have fS:=hss.take (n:=L.length) (c:=ss.cap) (by rw[BG];omega);rw[<-Yd]at fS;have U7:=Ye h.up ACf;have fT:MH (I.take L.length) k y=(y.num,1,((DL (I.take k):Nat):Int),y.gen):=by
   unfold MH;rw[List.take_take,Nat.min_eq_left (Nat.le_of_lt vg)]
  rw[fT]at U7;have hlc:(((l1.len:Nat):Int)).toNat=L.length:=by omega
  refine ⟨fun v=>AN v u.heap.size (Pk x') 28,H.drew.get 0 rfl,by omega,by show ((l1.len:Nat):Int)<=((ss.cap:Nat):Int);omega,AU.of (fun _ h=>h) rfl ?_⟩;show (C4 sb (ss.cut 4 0 (((l1.len:Nat):Int)).toNat ss.cap) x'.1 _ _)/\_;rw[hlc,m1];refine ⟨?_,?_⟩
  ·have H:=H.drew;refine (U4 fS U7 hr jn.n jn.g jn.ok jn.k9 jn.k8 hp).mono ?_;rintro i e u2 ⟨rfl,i1,i2,CO,e2⟩;have H:=H.AB e2;have E0:=H.ext;have gs:=H.size;have H2:=H.here fun _=>False
   clear H;refine H2.nw fun u3 H2=>?_
   simp only[ad,ag]at H2
   iterate 8 (refine H2.st 1 rfl (by simp) (.inr (az _)) fun _ H2=>?_;simp only[af,aa,ab]at H2)
   exact J ⟨H2.AR,H2.nodup,E0.tr H2.ext⟩ i1 i2 (CO.t0z.AB H2.ext)
  ·have H:=H.drew;refine H.JC fun u2 H e2=>⟨H.get 0 rfl,?_⟩
   simp only[ad,ag]at H;have gp:=AN.lt (H.get 1 rfl);have gs:=H.size;refine (U4 (fS.AB e2) U7 hr jn.n jn.g jn.ok jn.k9 jn.k8 hp).mono ?_;rintro i e u3 ⟨rfl,i1,i2,CO,e3⟩;have H:=H.AB e3;have E0:=H.ext;have H2:=H.here fun j=>j=y8.drew.heap.size
   clear H
   iterate 8 (refine H2.st 1 rfl (by simp) (.inl rfl) fun _ H2=>?_;simp only[af,aa,ab]at H2)
   have E2:=H2.ext;exact J ⟨H2.AR,H2.nodup,Ext.Bw E0 E2 fun j (hj:j=y8.drew.heap.size)=>by omega⟩ i1 i2 (CO.AI E2 fun j hj (h:j=y8.drew.heap.size)=>by omega).t0z
 ·have hke:k=L.length:=by have q:¬(k:Int)<((l1.len:Nat):Int):=q;omega
  refine Ld.of (E.AR hz id) rfl ?_;show yI fs xz.1 u _;rw[z1];refine (To (Zf.AB E) iz.num).mono ?_;rintro r4 b4 u4 ⟨Qg,e4⟩;have hyy:=Yf hGz;obtain ⟨rfl,rfl⟩:r4=MH (I.take L.length++[iz]) (I.take L.length).length iz/\b4=true:=by
   rcases Qg with ⟨h1,h2⟩|⟨h1,_⟩
   ·rw[hyy]at h1;exact ⟨(aQ h1).symm,h2⟩
   ·rw[hyy]at h1;cases h1
  refine (Hx.start u4 (fun _=>False)).nw fun u5 H=>?_
  simp only[ad,ag,add_lit,ak]at H⊢
  iterate 4 (refine H.st 0 rfl (by simp) (.inr (az _)) fun _ H=>?_;simp only[af,aa,ab]at H)
  have H:=H.drew;refine Sh.Br.t rfl ?_
  iterate 4 refine H.ld 0 rfl rfl ?_
  have hw:wrap .i64 (((ss.len:Nat):Int)-1)=(L.length:Int):=by rw[IntWalk.i64_in _ (by omega)];omega
  obtain ⟨g,hg,d0,d1,d2,d3⟩:=(h.r.still ((E.tr e4).tr H.ext)).Yc (GV ACe);show 0<=wrap .i64 (((ss.len:Nat):Int)-1)/\wrap .i64 (((ss.len:Nat):Int)-1)<((ss.len:Nat):Int)/\Nn ss.p fun a=>Ld _ (a.add ((wrap .i64 (((ss.len:Nat):Int)-1)).toNat*4)) _ _
  rw[hw,hg];refine ⟨by omega,by omega,Nn.of ?_⟩;simp only[add_lit,ay,ak];refine Ld.mk d0 (Ld.mk d1 (Ld.mk d2 (Ld.mk d3 ⟨?_,((hE.tr E).tr e4).tr H.ext⟩)));rw[<-hIz,aC,hIl,Nat.min_eq_left (by omega)];simp[MH]
end
end Pc
namespace Pc
open Sh Fix Tk Tl Vl Wt
structure LpI (u0 v:World) (L:List Fj) (z:Fj) (i:Nat) (sb:ByteArray) (ss:AA) (I:List It):Prop where
 e:Ext (fun _=>False) u0 v
 l:I.length=i
 s:bl sb=(J9 I).flatten
 lim:sb.size<=i*50000000
 r:D4 v ss (BN 0 I)
 o:∀j,ss.own j->u0.heap.size<=j
 g:∀y∈I,Qf y
 m:∀(k:Nat) (y:It),I[k]?=some y->∃x:Fj,(L++[z])[k]?=some x/\x.1=y.num/\x.2.1=y.gen/\OX u0 x.2.2 y.t/\KR y.t<=4000000
 up:MG (I.take L.length)
def mI (W:World)(r:Bool)(w1:World):Prop:=r=true/\Ext (fun _=>False) W w1
theorem Yg {I:List It}{y:It}{n:Nat}(h:MG (I.take n))(hu:I.length<n->∀a,I[I.length-1]?=some a->0<I.length->a.num<y.num):MG ((I++[y]).take n):=by
 by_cases hn:I.length<n
 ·rw[aU (by rw[ae];simp;omega)];rw[aU (by omega)]at h;intro k a b ha hb;rcases Nat.lt_trichotomy (k+1) I.length with h1|h1|h1
  ·rw[aI (by omega)]at ha hb;exact h k a b ha hb
  ·rw[aI (by omega)]at ha;rw[aM (by omega),show k+1-I.length=0 by omega]at hb;cases hb;exact hu hn a (by rw[show I.length-1=k by omega];exact ha) (by omega)
  ·have:=(al.1 hb).1;rw[ae,bo]at this;omega
 ·rw[List.take_append_of_le_length (by omega)];exact h
section
variable {w v W u0:World} {l1 xs:AA} {L:List Fj} {z:Fj}
attribute [local irreducible] Ld Sh.St Nw Nn AU Ae Am BW
theorem Yh (hl:IV u0 l1 L)(vf:L.length<=8)(hb:w.heap.size<u0.heap.size){tz:TypeId}(hz:AN u0 w.heap.size (Pk z) tz)(hxs:IV u0 xs (L++[z]))(hX:∀x∈L++[z],∃t,OX u0 x.2.2 t/\DF t<=1100000)(hT:Tl.PT u0)(hM:MX u0)(hE:Ext (fun _=>False) W u0):
  lN w l1 (mI W) (xs,((xs.len:Nat):Int),0) u0:=by
 unfold lN;have yG:IntKind.i64.max=9223372036854775807:=by decide
 have WU:xs.len=L.length+1:=by have:=hxs.1;rw[ae,bo]at this;exact this
 have mG:=hl.1;have AL9:∀j,¬(⟨none,0,0⟩:AA).own j:=fun j hj=>by obtain ⟨a,ha,_⟩:=hj;cases ha
 refine ⟨fun n st v=>∃(i:Nat) (I:List It),i<=L.length+1/\st.2.2=(i:Int)/\n=L.length+1-i/\LpI u0 v L z i st.1 st.2.1 I,L.length+1,⟨0,[],by omega,rfl,rfl,Ext.refl _ _,rfl,rfl,bJ _,Row.nil _ _ _,fun j hj=>(AL9 j hj).elim,fun y hy=>absurd hy (by simp),fun k y hy=>absurd hy (by simp),fun k a b ha=>absurd ha (by simp)⟩,?_⟩;rintro n ⟨sb,ss,st⟩ v ⟨i,I,hi,rfl,rfl,Q⟩;have Q:LpI u0 v L z i sb ss I:=Q;have E:=Q.e;have hes:=E.size;unfold AAZ;refine Br.dec (fun q=>?_) fun q=>?_
 ·have WV:i<L.length+1:=by have q:(i:Int)<((xs.len:Nat):Int):=q;omega
  have hXi:=ah (show i<(L++[z]).length by rw[ae,bo];exact WV);generalize (L++[z])[i]'(by rw[ae,bo];exact WV)=x at hXi;obtain ⟨t,CO,hbk⟩:=hX x (ax hXi);have zY:=Qr t;obtain ⟨a,ha,c0,c1,c2,c3,c4,c5,c6,c7⟩:=(hxs.AB E).get hXi;refine ⟨by show (0:Int)<=(i:Int);omega,by show (i:Int)<((xs.len:Nat):Int);omega,?_⟩;show Nn xs.p _;rw[ha];refine Nn.of ?_;simp only[ay];refine Ld.mk c0 (Ld.mk c1 (Ld.mk c2 (Ld.mk c3 (Ld.mk c4 (Ld.mk c5 (Ld.mk c6 (Ld.mk c7 ?_)))))));refine (Hx.start v (fun _=>False)).nw fun u1 H=>?_
  have g0:=AN.lt (H.get 0 rfl);simp only[ad,ag,add_lit,ak]at H⊢
  iterate 8 (refine H.st 0 rfl (by simp) (.inr (az _)) fun _ H=>?_;simp only[af,aa,ab]at H)
  iterate 8 refine H.ld 0 rfl rfl ?_
  refine (kM (x:=x) ((CO.AB E).AB H.ext) (hT.AB (E.tr H.ext)) hbk).mono ?_;rintro r e v2 ⟨hr,DN,e2⟩;have H:=H.AB e2;rcases hr with ⟨rfl,BS⟩|he;rotate_left
  ·exact Sh.Br.t (by simpa using he) ⟨fun _=>True,trivial,rfl,(hE.tr E).tr H.drew.ext⟩
  refine Sh.Br.f rfl ?_;have H:=H.drew;refine (mD (hM.AB (E.tr H.ext)) (by omega)).mono ?_;rintro r1 v3 ⟨rfl,rfl⟩;refine (mF (by omega) _).mono ?_;rintro r2 v4 ⟨rfl,rfl⟩;generalize v2.drew=v4 at H⊢;refine ⟨fun u=>AN u v.heap.size (Pk x) 28/\IV u l1 L,⟨H.get 0 rfl,hl.AB (E.tr H.ext)⟩,Br.ne (fun _=>⟨rfl,(hE.tr E).tr H.ext⟩) fun AMA=>AU.of (fun _ h=>h.1) rfl (Br.eq (fun _=>⟨rfl,(hE.tr E).tr H.ext⟩) fun h9=>?_)⟩;obtain ⟨hn,hg,AMB,h8,htx⟩:=BS;have qQ:t.k≠9:=fun e=>h9 (CO.out.1.1.trans e)
  obtain ⟨A,DA,Gx,DG,ps,hA,hG,hp,NG⟩:=htx qQ;have AMC:Qf ⟨x.1,x.2.1,t,r⟩:=⟨hn,hg,AMB,h8,qQ,⟨A,DA,Gx,DG,ps,hA,hG,hp,NG⟩,mJ AMA⟩
  have hv4:v.heap.size<v4.heap.size:=AN.lt (H.get 0 rfl);have E4:=E.tr H.ext;have tail:(i<L.length->0<i->∀x',L[i-1]?=some x'->x'.1<x.1)->Ld v4 (⟨v.heap.size,0,none⟩:Addr) (Value.int .i64) fun (da:Int)=>Ld v4 (⟨v.heap.size,1,none⟩:Addr) (Value.int .i64) fun (UX:Int)=>
    Nw v4 (.cells #[.int .i64 da,.int .i64 1,.int .i64 ((sb.size:Nat):Int),.int .i64 UX] 33) fun ACh=>
    Rn Tryz.prog (Builtin.append_ #[34,34] 34 #[AA.v ss,AA.v ((⟨some ⟨v4.heap.size,0,none⟩,1,1⟩:AA))]) ACh AA.v fun (db:AA) ACi=>
    (((sb.size+r.size:Nat):Int)<=IntKind.i64.max/\∃n',n'<L.length+1-i/\∃(i':Nat) (I':List It),i'<=L.length+1/\wrap .i64 ((i:Int)+1)=(i':Int)/\n'=L.length+1-i'/\LpI u0 ACi L z i' (sb++r) db I'):=by
   intro hu;refine H.ld 0 rfl rfl (H.ld 0 rfl rfl ?_);refine (Hn.start v4).nw (cs:=BL (x.1,1,((sb.size:Nat):Int),x.2.1)) fun u2 H2=>?_
   have e2:=H2.ext;have JI:ss.len=i:=by rw[Q.r.len,BG,Q.l]
   obtain ⟨s',u3,r1,r2,r3,e3,r5⟩:=ACa.O4 (ty:=34) (D4.still Q.r (H.ext.tr e2)) (H2.get 0 rfl) rfl (fun v hv=>by
    simp only[BL,ar,aF,bp]at hv;rcases hv with rfl|rfl|rfl|rfl<;>rfl) (by omega) (by omega)
   have ASx:=Q.lim;have hsu:=e2.size;have yi:=E4.size;have AMD:sb.size=DL I:=Pl Q.s;have hul:=Q.l;refine ⟨s',u3,r1,by rw[yG];omega,L.length+1-(i+1),by omega,i+1,I++[⟨x.1,x.2.1,t,r⟩],by omega,by rw[IntWalk.i64_in _ (by omega)];rfl,rfl,Ext.Bw (E4.tr e2) e3 Q.o,?_,?_,?_,?_,fun j hj=>?_,fun y hy=>?_,fun k y hy=>?_,Yg Q.up fun h1 a ha h2=>?_⟩
   ·rw[ae,bo,Q.l]
   ·rw[BM,WW,Q.s];simp[J9]
   ·rw[<-AE,BM,ae,AE,AE];omega
   ·unfold D4;rw[Ja,IL,cu,ak,<-AMD];exact r2
   ·rcases r5 j hj with h|h
    ·exact Q.o j h
    ·omega
   ·rcases aK.1 hy with hy|hy
    ·exact Q.g y hy
    ·rw[ao.1 hy];exact AMC
   ·by_cases DP:k<I.length
    ·rw[aI DP]at hy;exact Q.m k y hy
    ·have Au:=(al.1 hy).1;rw[ae,bo]at Au;obtain rfl:k=i:=by omega
     rw[aM (by omega),show k-I.length=0 by omega]at hy;cases hy;exact ⟨x,hXi,rfl,rfl,CO,show KR t<=4000000 by omega⟩
   ·obtain ⟨x',NQ,n1,_⟩:=Q.m _ a ha;rw[Q.l]at NQ h1 h2;rw[aI (by omega)]at NQ;have:=hu h1 h2 x' NQ;show a.num<x.1;omega
  refine Br.dec (fun q1=>Br.dec (fun q2=>AU.of (fun _ h=>h.1) rfl ?_) fun q2=>tail fun h=>absurd (show (i:Int)<((l1.len:Nat):Int) by omega) q2) fun q1=>tail fun _ h=>absurd (show (i:Int)>0 by omega) q1
  have q1:0<i:=by have q1:(i:Int)>0:=q1;omega
  have q2:i<L.length:=by have q2:(i:Int)<((l1.len:Nat):Int):=q2;omega
  have hw:wrap .i64 ((i:Int)-1)=((i-1:Nat):Int):=by rw[IntWalk.i64_in _ (by omega)];omega
  have hLp:=ah (show i-1<L.length by omega);generalize L[i-1]'(by omega)=xp at hLp;obtain ⟨ap,TZ,_⟩:=(hl.AB E4).get hLp;show 0<=wrap .i64 ((i:Int)-1)/\wrap .i64 ((i:Int)-1)<((l1.len:Nat):Int)/\Nn l1.p fun a=>AU _ (a.add ((wrap .i64 ((i:Int)-1)).toNat*8)) _ _
  rw[hw,TZ];refine ⟨by omega,by omega,Nn.of ?_⟩;rw[ay];refine E7 (x:=xp.1) (fun u hu=>?_) (Br.dec (fun _=>⟨rfl,(hE.tr E).tr H.ext⟩) fun q3=>tail fun _ _ x' NQ=>?_)
  ·obtain ⟨ap',ACj,d0,_⟩:=hu.2.get hLp;rw[TZ]at ACj;cases ACj;exact d0
  ·rw[hLp]at NQ;cases NQ;omega
 ·have hie:i=L.length+1:=by have q:¬(i:Int)<((xs.len:Nat):Int):=q;omega
  subst hie;refine (vh Q.s (by have:=Q.lim;omega) Q.g (by have:=Q.l;omega) v).mono ?_;rintro fs v' ⟨⟨G,hG,Zf⟩,e'⟩;have E':=E.tr e';have U8:=E'.size;refine Yb (W:=W) (hl.AB E') vf (by omega) (E'.AR hz id) (I:=I) ⟨Q.l,Q.s,by have:=Q.lim;omega,Q.r.still e',Q.g,fun k y hy=>?_,Q.up⟩ hG Zf (hE.tr E') _;obtain ⟨x,h1,h2,h3,h4,h5⟩:=Q.m k y hy;exact ⟨x,h1,h2,h3,h4.AB E',h5⟩
end
end Pc
namespace Pc
open Sh Fix Tk Tl Vl Wt
section
variable {w v W:World} {l1 xs:AA} {L:List Fj} {z:Fj}
attribute [local irreducible] Ld Sh.St Nw Nn AU Ae Am BW
theorem U9 {b0:Nat}(Gv:AN v b0 #[] 28)(hl:IV v l1 L)(hL:L.length<=8):∃s' v',Ai Tryz.prog (Builtin.append_ #[22,22] 22 #[AA.v ⟨some ⟨b0,0,none⟩,0,0⟩,AA.v l1]) v (AA.v s') v'/\Row v' s' 28 8 (L.flatMap BD)/\s'.len=L.length/\Ext (fun _=>False) v v'/\∀j,s'.own j->j=b0\/v.heap.size<=j:=by
 have mG:=hl.1;obtain ⟨s',v',r1,r2,r3,r4,r5⟩:=ACZ.qA (s:=⟨some ⟨b0,0,none⟩,0,0⟩) (ty:=22) (by decide) ⟨rfl,.inr ⟨b0,#[],rfl,Gv,az _,rfl,rfl⟩⟩ rfl hl.2 (mA L) (by omega) (by omega);refine ⟨s',v',r1,r2,r3.trans mG,r4,fun j hj=>(r5 j hj).imp (fun h=>?_) id⟩;obtain ⟨a,ha,rfl⟩:=h;cases ha
 rfl
theorem VA (hl:IV w l1 L)(mG:L.length<=1000000000)(hX:∀x∈L++[z],∃t,OX w x.2.2 t/\DF t<=1100000)(hT:Tl.PT w)(hM:MX w):C3 l1 z w (mI w):=by
 refine T3 l1 z _ _ ?_;unfold S3;have hlen:=hl.1;refine (Hx.start w (fun _=>False)).nw fun w3 H=>Lt.of ?_
 have g0:=AN.lt (H.get 0 rfl);refine H.nw fun w5 H=>?_
 have g1:=AN.lt (H.get 1 rfl);simp only[ad,ag,add_lit,ak,Nat.reduceAdd]at H⊢;refine (ve ⟨⟨rfl,by decide⟩,B9.of (cs:=[.int .i64 1,.int .i64 1,.int .i64 0,.int .i64 0]) (H.get 1 rfl) rfl⟩).mono ?_;rintro i e w8 ⟨rfl,hi5,e8⟩;have H:=H.AB e8;have gs:=H.size;refine H.nw fun w9 H=>?_
 simp only[ad,ag]at H
 iterate 8 (refine H.st 2 rfl (by simp) (.inr gs) fun _ H=>?_;simp only[af,aa,ab]at H)
 have RT:∀{v:World},Ext (fun _=>False) w v->mI w true v:=fun e=>⟨rfl,e⟩
 refine Sh.Br.f rfl (H.ld 2 rfl rfl (Sh.Br.f (by rw[hi5];rfl) (Br.dec (fun _=>RT H.ext) fun q8=>?_)));have vf:L.length<=8:=by have q8:¬((l1.len:Nat):Int)>8:=q8;omega
 have hc:∀{t:Tr},DF t<=1100000->KR t<=4000000:=fun {t} h=>by have:=Qr t;omega
 refine (YZ (s:=l1) (o:=(0,0,0,⟨#[]⟩,⟨none,0,0⟩,⟨none,0,0⟩)) (t:=Vl.pD) (hl.AB H.ext) mG (fun x hx=>?_) (OX.null _) (by decide)).mono ?_
 ·obtain ⟨t,h1,h2⟩:=hX x (List.mem_append_left _ hx);exact ⟨t,h1.AB H.ext,hc h2⟩
 rintro TR w31 e31;have H:=H.AB e31;refine Br.dec (fun _=>RT H.ext) fun _=>?_
 iterate 6 refine H.ld 0 rfl rfl ?_
 obtain ⟨tz,hzo,hzb⟩:=hX z (by simp);obtain ⟨dz,hzd⟩:=hzo;refine (Pj dz z.2.2 tz _ (hzd.AB H.ext) (hc hzb)).mono ?_;rintro jg w39 e39;have H:=H.AB e39;refine Br.dec (fun _=>RT H.ext) fun _=>As.intro ?_
 have H:=H.drew;have je:AN w39.drew w.heap.size (Pk z) 28:=H.get 0 rfl;have E1:=H.ext;have hgw:=H.size;have hgz:=je.lt;clear H;generalize w39.drew=v0 at je E1 hgw hgz⊢;refine ⟨fun v=>AN v w.heap.size (Pk z) 28,je,?_⟩
 iterate 8 refine AU.of (fun _ h=>h) rfl ?_

 have fin:∀{v:World} {s1:AA} {g:Nat},Ext (fun _=>False) v0 v->Row v s1 28 8 (L.flatMap BD)->s1.len=L.length->(∀j,s1.own j->v0.heap.size<=j)->AN v g (BD z).toArray 28->
   Rn Tryz.prog (Builtin.append_ #[22,22] 22 #[AA.v s1,AA.v ((⟨some ⟨g,0,none⟩,1,1⟩:AA))]) v AA.v fun (x:AA) u=>lN w l1 (mI w) (x,((x.len:Nat):Int),0) u:=by
  intro v s1 g e0 hr kQ Ev hg;obtain ⟨s',u,r1,r2,r3,r4,r5⟩:=ACZ.O4 (ty:=22) hr hg rfl (fL z) (by omega) (by omega);have E2:Ext (fun _=>False) v0 u:=Ext.Bw e0 r4 Ev;have E3:=E1.tr E2;have DN:=E2.size;refine ⟨s',u,r1,Yh (z:=z) (hl.AB E3) vf (by omega) (E2.AR je id) ⟨by rw[r3,kQ,ae,bo],?_⟩ (fun x hx=>?_) (hT.AB E3) (hM.AB E3) E3⟩
  ·have:=Row.view r2;rw[bd,cu];exact this
  ·obtain ⟨t,h1,h2⟩:=hX x hx;exact ⟨t,h1.AB E3,h2⟩
 refine ⟨?_,?_⟩
 ·refine Nw.of ?_;have ea:Ext (fun _=>False) v0 (v0.alloc (.cells #[] 28)):=(Ext.refl _ _).alloc _;have Gv:=AN.new v0 #[] 28;generalize v0.alloc (.cells #[] 28)=v1 at ea Gv⊢;have h01:=Gv.lt;refine ⟨ea.AR je id,?_,?_⟩
  ·obtain ⟨s1,v2,r1,r2,r3,r4,r5⟩:=U9 Gv (hl.AB (E1.tr ea)) vf;refine ⟨s1,v2,r1,(ea.tr r4).AR je id,Nw.of ?_⟩;have eb:Ext (fun _=>False) v2 (v2.alloc (.cells (BD z).toArray 28)):=(Ext.refl _ _).alloc _;have hg:=AN.new v2 (BD z).toArray 28;exact fin ((ea.tr r4).tr eb) (Row.AB r2 eb fun _ _ h=>h) r3 (fun j hj=>by rcases r5 j hj with h|h<;>omega) hg
  ·show Nw v1 (.cells (BD z).toArray 28) _;refine Nw.of ?_;have eb:Ext (fun _=>False) v1 (v1.alloc (.cells (BD z).toArray 28)):=(Ext.refl _ _).alloc _;have hg:=AN.new v1 (BD z).toArray 28;have DN:=eb.size;obtain ⟨s1,v2,r1,r2,r3,r4,r5⟩:=U9 (eb.AR Gv id) (hl.AB ((E1.tr ea).tr eb)) vf;exact ⟨s1,v2,r1,fin ((ea.tr eb).tr r4) r2 r3 (fun j hj=>by rcases r5 j hj with h|h<;>omega) (r4.AR hg id)⟩
 ·show Nw v0 (.cells (BD z).toArray 28) _;refine Nw.of ?_;have ea:Ext (fun _=>False) v0 (v0.alloc (.cells (BD z).toArray 28)):=(Ext.refl _ _).alloc _;have hg:=AN.new v0 (BD z).toArray 28;generalize v0.alloc (.cells (BD z).toArray 28)=v1 at ea hg⊢;refine Nw.of ?_;have eb:Ext (fun _=>False) v1 (v1.alloc (.cells #[] 28)):=(Ext.refl _ _).alloc _;have Gv:=AN.new v1 #[] 28;have DN:=ea.size;have E8:=eb.size;obtain ⟨s1,v2,r1,r2,r3,r4,r5⟩:=U9 Gv (hl.AB ((E1.tr ea).tr eb)) vf;exact ⟨s1,v2,r1,fin ((ea.tr eb).tr r4) r2 r3 (fun j hj=>by rcases r5 j hj with h|h<;>omega) ((eb.tr r4).AR hg id)⟩
end
end Pc
end Go.Proofs.YtdnhhkhbdfiagaaGreatDoor

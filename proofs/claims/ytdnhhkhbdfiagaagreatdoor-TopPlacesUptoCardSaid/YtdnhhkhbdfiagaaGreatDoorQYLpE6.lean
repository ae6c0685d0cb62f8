/- Joined texts of the proof; conditions stand in each theorem. -/
import Derived.Test.YtdnhhkhbdfiagaaGreatDoorQYLpE1
import Derived.Test.YtdnhhkhbdfiagaaGreatDoorQYLpE5
import Derived.Test.YtdnhhkhbdfiagaaGreatDoorQYLpE3
import Derived.Test.YtdnhhkhbdfiagaaGreatDoorQYLpE2
import Derived.Test.YtdnhhkhbdfiagaaGreatDoorQYLpE4
import Derived.Maps.Keyed
import Derived.MapKept
import Derived.StringKeys
import Derived.Maps.RangeRun
set_option linter.unusedVariables false
set_option linter.unusedSimpArgs false
open Go.IntKind (wrap)
open Go.Proofs.Tryz (prog)
namespace Go.Proofs.YtdnhhkhbdfiagaaGreatDoor
set_option maxRecDepth 8000
set_option maxHeartbeats 4000000
namespace Wt
open Sh Fix Tk Tl Vl
mutual
def PT:Tr->List Pt->Prop
 | .mk k n g s ks kids,ps=>(k=0/\ps=[AY OH])\/(k=1/\ps=[AY (if n=0 then GD else KE)])\/(k=2/\∃T D,Bg n T D/\ps=[Ax T n])\/(k=3/\∃T W P,Bz n T W P/\ps=[Oe T n])\/
  (k=4/\ps=[R8 s])\/(k=5/\ps=[Ds s])\/(k=6/\∃q,PL kids q/\ps=Ap [91]::(q++[Ap [93]]))\/(k=7/\∃q,PD ks kids q/\ps=Ap [60,60]::(q++[Ap [62,62]]))\/
  (k=8/\∃T D U E,Bg n T D/\Bg g U E/\ps=[Ax T n,Ax U g,AY VR])
def PL:List Tr->List Pt->Prop
 |[],q=>q=[]
 |t::r,q=>∃a b,PT t a/\PL r b/\q=a++b
def PD:List ByteArray->List Tr->List Pt->Prop
 |[],[],q=>q=[]
 |k::ks,t::r,q=>∃a b,PT t a/\PD ks r b/\q=Ds k::(a++b)
 |_::_,[],_=>False
 |[],_::_,_=>False
end
theorem PL.snoc:∀{l:List Tr} {t:Tr} {p q:List Pt},PL l p->PT t q->PL (l++[t]) (p++q)
 |[],t,p,q,h,k=>by
  rw[PL]at h;subst h;rw[ad,PL];exact ⟨q,[],k,rfl,by simp⟩
 |x::l,t,p,q,h,k=>by
  rw[PL]at h;obtain ⟨a,b,h1,h2,rfl⟩:=h;rw[ag,PL];exact ⟨a,b++q,h1,h2.snoc k,by simp⟩
theorem PD.snoc:∀{ks:List ByteArray} {l:List Tr} {key:ByteArray} {t:Tr} {p q:List Pt},PD ks l p->PT t q->PD (ks++[key]) (l++[t]) (p++Ds key::q)
 |[],[],key,t,p,q,h,k=>by
  rw[PD]at h;subst h;rw[ad,ad,PD];exact ⟨q,[],k,rfl,by simp⟩
 |x::ks,y::l,key,t,p,q,h,k=>by
  rw[PD]at h;obtain ⟨a,b,h1,h2,rfl⟩:=h;rw[ag,ag,PD];exact ⟨a,b++Ds key::q,h1,h2.snoc k,by simp⟩
 |_::_,[],_,_,_,_,h,_=>by rw[PD]at h;exact h.elim
 |[],_::_,_,_,_,_,h,_=>by rw[PD]at h;exact h.elim
theorem FA {deep:Int}{t:Tr}(h:A3 deep t=true)(hk:t.k=0\/t.k=1\/t.k=2\/t.k=3\/t.k=4\/t.k=5\/t.k=8):(t.k=2->-2147483647<=t.n/\t.n<=2147483647)/\(t.k=3->JJ t.n=true)/\(t.k=4->t.s.size<=32767)/\(t.k=5->t.s.size<=127/\Dz t.s=true)/\(t.k=8->(1<=t.n/\t.n<=8191)/\0<=t.g/\t.g<=65535):=by
 unfold A3 at h;simp only[ai]at h;obtain ⟨_,h⟩:=h;split at h
 ·cases h
 ·rename_i u hu;unfold Ch TC QP at h;simp only[ai]at h;obtain ⟨_,⟨⟨⟨hf,hs⟩,_⟩,hn⟩,_⟩:=h;refine ⟨fun e=>?_,fun e=>?_,fun e=>?_,fun e=>?_,fun e=>?_⟩<;>rw[e]at hf hs hn
  ·simpa using hf
  ·unfold JJ;simpa using hf
  ·simpa using hs
  ·exact ⟨by simpa using hs,by simpa using hn⟩
  ·simpa using hf
theorem Vs {deep:Int}{t:Tr}(h:A3 deep t=true):t.k=0\/t.k=1\/t.k=2\/t.k=3\/t.k=4\/t.k=5\/t.k=6\/t.k=7\/t.k=8\/t.k=9:=by
 unfold A3 at h;simp only[ai]at h;obtain ⟨_,h⟩:=h;split at h
 ·cases h
 ·rename_i u hu;unfold CV at hu;split at hu
  ·omega
  ·split at hu
   ·omega
   ·split at hu
    ·omega
    ·split at hu
     ·omega
     ·split at hu
      ·omega
      ·split at hu
       ·omega
       ·split at hu
        ·omega
        ·cases hu
theorem GB {HW:Bool}:∀{ks:List ByteArray} {kids:List Tr} {p:Option ByteArray},Df HW p ks kids=true->∀k∈ks,Dz k=true
 |[],_,_,_,k,hk=>by cases hk
 |x::ks,[],_,h,_,_=>by cases h
 |x::ks,t::r,p,h,k,hk=>by
  rw[EZ]at h;simp only[ai]at h;rcases ar.1 hk with rfl|hk
  ·exact h.1.1.1.1
  ·exact GB h.2 k hk
theorem Ei {deep:Int}{t:Tr}(h:A3 deep t=true)(hk:t.k=7):Df false none t.ks t.kids=true:=by
 unfold A3 at h;simp only[ai]at h;obtain ⟨_,h⟩:=h;rw[hk]at h;have hu:CV 7=some ⟨false,false,false,true,true⟩:=rfl;rw[hu]at h;unfold Ch Hk at h;simp only[ai,bA]at h;rw[hk]at h;have:=h.2.2;simpa using this
mutual
theorem gC {deep:Int}:∀(t:Tr) (ps:List Pt),CL deep t=true->PT t ps->∀p∈ps,I3 p
 | .mk k n g s ks kids,ps,h,hp=>by
  rw[CL,ai]at h;obtain ⟨h,hL⟩:=h;have hc:=FA h;rw[PT]at hp;rcases hp with ⟨rfl,rfl⟩|⟨rfl,rfl⟩|⟨rfl,T,D,hI,rfl⟩|⟨rfl,T,W,P,hT,rfl⟩|⟨rfl,rfl⟩|⟨rfl,rfl⟩|⟨rfl,q,hq,rfl⟩|⟨rfl,q,hq,rfl⟩|⟨rfl,T,D,U,E,hI,hJ,rfl⟩
  ·exact fun p hm=>by rw[ao.1 hm];exact oI
  ·exact fun p hm=>by
    rw[ao.1 hm];split
    ·exact jb
    ·exact oJ
  ·have hc:=(hc (by simp[Tr.k])).1 rfl;exact fun p hm=>by rw[ao.1 hm];exact ok_int hI hc.1 hc.2
  ·have hc:=(hc (by simp[Tr.k])).2.1 rfl;exact fun p hm=>by rw[ao.1 hm];exact oH hT hc
  ·have hc:=(hc (by simp[Tr.k])).2.2.1 rfl;exact fun p hm=>by rw[ao.1 hm];exact xx hc
  ·have hc:=(hc (by simp[Tr.k])).2.2.2.1 rfl;exact fun p hm=>by rw[ao.1 hm];exact Xb hc.2
  ·exact fun p hm=>by
    rcases ar.1 hm with rfl|hm
    ·exact oK
    ·rcases aK.1 hm with hm|hm
     ·exact p8 kids q hL hq p hm
     ·rw[ao.1 hm];exact jc
  ·have hr:=GB (Ei h rfl);exact fun p hm=>by
    rcases ar.1 hm with rfl|hm
    ·exact AEM
    ·rcases aK.1 hm with hm|hm
     ·exact p9 ks kids q hr hL hq p hm
     ·rw[ao.1 hm];exact AEN
  ·have hc:=(hc (by simp[Tr.k])).2.2.2.2 rfl;exact fun p hm=>by
    simp only[ar,aF,bp]at hm;have h1:(1<=n/\n<=8191)/\0<=g/\g<=65535:=hc;rcases hm with rfl|rfl|rfl
    ·exact ok_int hI (by omega) (by omega)
    ·exact ok_int hJ (by omega) (by omega)
    ·exact yA
theorem p8 {deep:Int}:∀(l:List Tr) (ps:List Pt),Ta deep l=true->PL l ps->∀p∈ps,I3 p
 |[],ps,h,hp,p,hm=>by
  rw[PL]at hp;subst hp;cases hm
 |t::r,ps,h,hp,p,hm=>by
  rw[Ta,ai]at h;rw[PL]at hp;obtain ⟨a,b,h1,h2,rfl⟩:=hp;rcases aK.1 hm with hm|hm
  ·exact gC t a h.1 h1 p hm
  ·exact p8 r b h.2 h2 p hm
theorem p9 {deep:Int}:∀(ks:List ByteArray) (l:List Tr) (ps:List Pt),(∀k∈ks,Dz k=true)->Ta deep l=true->PD ks l ps->∀p∈ps,I3 p
 |[],[],ps,_,h,hp,p,hm=>by
  rw[PD]at hp;subst hp;cases hm
 |k::ks,t::r,ps,hk,h,hp,p,hm=>by
  rw[Ta,ai]at h;rw[PD]at hp;obtain ⟨a,b,h1,h2,rfl⟩:=hp;rcases ar.1 hm with rfl|hm
  ·exact Xb (hk k (aw ..))
  ·rcases aK.1 hm with hm|hm
   ·exact gC t a h.1 h1 p hm
   ·exact p9 ks r b (fun x hx=>hk x (av _ hx)) h.2 h2 p hm
 |_::_,[],_,_,_,hp,_,_=>by rw[PD]at hp;exact hp.elim
 |[],_::_,_,_,_,hp,_,_=>by rw[PD]at hp;exact hp.elim
end
end Wt
namespace Vl
open Sh
def TD (G:Nat->Prop)(w:World):Nat->Ob->Tr->Prop
 |0,_,_=>False
 |d+1,o,t=>(o.1=t.k/\o.2.1=t.n/\o.2.2.1=t.g/\o.2.2.2.1=t.s)/\(KV w o.2.2.2.2.1 t.ks/\∀j,o.2.2.2.2.1.own j->G j)/\∃L:List Ob,(OV w o.2.2.2.2.2 L/\∀j,o.2.2.2.2.2.own j->G j)/\Ar (TD G w d) L t.kids
theorem TD.t0z{G:Nat->Prop}{w:World}:∀{d:Nat} {o:Ob} {t:Tr},TD G w d o t->FH w d o t
 |0,_,_,h=>h.elim
 |d+1,o,t,⟨h1,h2,L,h3,h4⟩=>⟨h1,h2.1,L,h3.1,h4.imp fun _ _ h=>h.t0z⟩
theorem KV.AI{F:Nat->Prop}{w w':World}{s:AA}{K:List ByteArray}(h:KV w s K)(he:Ext F w w')(hF:∀j,s.own j->¬F j):KV w' s K:=⟨h.1,fun i b hi=>by
 obtain ⟨a,ha,hc⟩:=h.2 i b hi;refine ⟨a,ha,?_⟩;rw[he.cell (Dh hc) (by rw[DZ];exact hF _ ⟨a,ha,rfl⟩)];exact hc⟩
theorem TD.AI{G F:Nat->Prop}{w w':World}(he:Ext F w w')(hF:∀j,G j->¬F j):∀{d:Nat} {o:Ob} {t:Tr},TD G w d o t->TD G w' d o t
 |0,_,_,h=>h.elim
 |d+1,o,t,⟨h1,h2,L,h3,h4⟩=>⟨h1,⟨h2.1.AI he fun j hj=>hF j (h2.2 j hj),h2.2⟩,L,⟨⟨h3.1.1,h3.1.2.AI he fun j hj=>hF j (h3.2 j hj)⟩,h3.2⟩,h4.imp fun _ _ h=>TD.AI he hF h⟩
theorem TD.CM{G G':Nat->Prop}{w:World}(hG:∀j,G j->G' j):∀{d:Nat} {o:Ob} {t:Tr},TD G w d o t->TD G' w d o t
 |0,_,_,h=>h.elim
 |d+1,o,t,⟨h1,h2,L,h3,h4⟩=>⟨h1,⟨h2.1,fun j hj=>hG j (h2.2 j hj)⟩,L,⟨h3.1,fun j hj=>hG j (h3.2 j hj)⟩,h4.imp fun _ _ h=>TD.CM hG h⟩
theorem KV.view{w:World}{s:AA}{K:List ByteArray}(h:KV w s K):B9 w s 1 (K.map Value.string):=⟨by rw[bc,ch];exact h.1.1.symm,fun j v hj=>by
 rw[aH,aN]at hj;obtain ⟨b,hb,rfl⟩:=hj;exact h.2 j b hb⟩
theorem KV.of{w:World}{s:AA}{K:List ByteArray}(h:B9 w s 1 (K.map Value.string))(hl:K.length<=9223372036854775807):KV w s K:=⟨⟨by have:=h.1;rw[bc]at this;omega,hl⟩,fun i b hi=>h.2 i _ (by rw[aH,hi];rfl)⟩
theorem KV.row{w:World}{s:AA}{K:List ByteArray}(h:Row w s 9 1 (K.map Value.string))(hl:K.length<=9223372036854775807):KV w s K:= .of h.view hl
theorem OV.row{w:World}{s:AA}{L:List Ob}(h:Row w s 26 6 (L.flatMap AF)):OV w s L:=⟨by have:=h.1;rw[DY]at this;omega,h.view⟩
section
variable {w w' w0 w1:World} {o:Ob} {t:Tr}
def XN (G:Nat->Prop)(w:World)(o:Ob)(t:Tr):Prop:=∃d,TD G w d o t
theorem XN.t0z{G:Nat->Prop}(h:XN G w o t):OX w o t:=let ⟨d,h⟩:=h;⟨d,h.t0z⟩
theorem XN.AI{G F:Nat->Prop}(h:XN G w o t)(he:Ext F w w')(hF:∀j,G j->¬F j):XN G w' o t:=let ⟨d,h⟩:=h;⟨d,h.AI he hF⟩
theorem XN.AB{G:Nat->Prop}(h:XN G w o t)(he:Ext (fun _=>False) w w'):XN G w' o t:=h.AI he fun _ _ h=>h
theorem XN.CM{G G':Nat->Prop}(h:XN G w o t)(hG:∀j,G j->G' j):XN G' w o t:=let ⟨d,h⟩:=h;⟨d,h.CM hG⟩
end
def LC (S:Nat->Prop)(w:World):Nat->Ob->Tr->Prop
 |0,_,_=>False
 |d+1,o,t=>(o.1=t.k/\o.2.1=t.n/\o.2.2.1=t.g/\o.2.2.2.1=t.s)/\(KV w o.2.2.2.2.1 t.ks/\(t.ks≠[]->∀j,o.2.2.2.2.1.own j->S j))/\∃L:List Ob,(OV w o.2.2.2.2.2 L/\(L≠[]->∀j,o.2.2.2.2.2.own j->S j))/\Ar (LC S w d) L t.kids
theorem LC.t0z{S:Nat->Prop}{w:World}:∀{d:Nat} {o:Ob} {t:Tr},LC S w d o t->FH w d o t
 |0,_,_,h=>h.elim
 |d+1,o,t,⟨h1,h2,L,h3,h4⟩=>⟨h1,h2.1,L,h3.1,h4.imp fun _ _ h=>h.t0z⟩
theorem LC.CM{S S':Nat->Prop}{w:World}(hS:∀j,S j->S' j):∀{d:Nat} {o:Ob} {t:Tr},LC S w d o t->LC S' w d o t
 |0,_,_,h=>h.elim
 |d+1,o,t,⟨h1,h2,L,h3,h4⟩=>⟨h1,⟨h2.1,fun h j hj=>hS j (h2.2 h j hj)⟩,L,⟨h3.1,fun h j hj=>hS j (h3.2 h j hj)⟩,h4.imp fun _ _ h=>h.CM hS⟩
theorem LC.mono{S:Nat->Prop}{w:World}:∀{d:Nat} {o:Ob} {t:Tr},LC S w d o t->LC S w (d+1) o t
 |0,_,_,h=>h.elim
 |d+1,o,t,⟨h1,h2,L,h3,h4⟩=>⟨h1,h2,L,h3,h4.imp fun _ _ h=>h.mono⟩
theorem LC.le{S:Nat->Prop}{w:World}{d d':Nat}(h:d<=d'){o:Ob}{t:Tr}(k:LC S w d o t):LC S w d' o t:=by
 induction h with
 |refl=>exact k
 |step _ ih=>exact ih.mono
theorem jE {S F:Nat->Prop}{w w':World}{s:AA}{K:List ByteArray}(h:KV w s K)(hS:K≠[]->∀j,s.own j->S j)(he:Ext F w w')(hF:∀j,S j->¬F j):KV w' s K:=by
 by_cases hK:K=[]
 ·subst hK;exact ⟨h.1,fun i b hi=>by simp at hi⟩
 ·exact h.AI he fun j hj=>hF j (hS hK j hj)
theorem jF {S F:Nat->Prop}{w w':World}{s:AA}{L:List Ob}(h:OV w s L)(hS:L≠[]->∀j,s.own j->S j)(he:Ext F w w')(hF:∀j,S j->¬F j):OV w' s L:=by
 by_cases hL:L=[]
 ·subst hL;exact ⟨h.1,h.2.1,fun j v hj=>by simp at hj⟩
 ·exact ⟨h.1,h.2.AI he fun j hj=>hF j (hS hL j hj)⟩
theorem LC.AI{S F:Nat->Prop}{w w':World}(he:Ext F w w')(hF:∀j,S j->¬F j):∀{d:Nat} {o:Ob} {t:Tr},LC S w d o t->LC S w' d o t
 |0,_,_,h=>h.elim
 |d+1,o,t,⟨h1,h2,L,h3,h4⟩=>⟨h1,⟨jE h2.1 h2.2 he hF,h2.2⟩,L,⟨jF h3.1 h3.2 he hF,h3.2⟩,h4.imp fun _ _ h=>LC.AI he hF h⟩
theorem LC.of{G:Nat->Prop}{w:World}:∀{d:Nat} {o:Ob} {t:Tr},TD G w d o t->LC (fun j=>G j/\j<w.heap.size) w d o t
 |0,_,_,h=>h.elim
 |d+1,o,t,⟨h1,h2,L,h3,h4⟩=>by
  refine ⟨h1,⟨h2.1,fun BI j hj=>⟨h2.2 j hj,?_⟩⟩,L,⟨h3.1,fun BI j hj=>⟨h3.2 j hj,?_⟩⟩,h4.imp fun _ _ h=>LC.of h⟩
  ·obtain ⟨b,hb⟩:∃b,t.ks[0]?=some b:=by
    cases hk:t.ks with
    |nil=>exact absurd hk BI
    |cons x r=>exact ⟨x,rfl⟩
   obtain ⟨a,ha,hc⟩:=h2.1.2 0 b hb;obtain ⟨a',pr,rfl⟩:=hj;rw[ha]at pr;cases pr;have:=Dh hc;rwa[DZ]at this
  ·obtain ⟨b,hb⟩:∃b,L[0]?=some b:=by
    cases hk:L with
    |nil=>exact absurd hk BI
    |cons x r=>exact ⟨x,rfl⟩
   obtain ⟨a,ha,hc,_⟩:=h3.1.get hb;obtain ⟨a',pr,rfl⟩:=hj;rw[ha]at pr;cases pr;have:=Dh hc;rwa[DZ]at this
def FT (S:Nat->Prop)(w:World)(o:Ob)(t:Tr):Prop:=∃d,LC S w d o t
theorem FT.of{G:Nat->Prop}{w:World}{o:Ob}{t:Tr}(h:XN G w o t):FT (fun j=>G j/\j<w.heap.size) w o t:=h.imp fun _ h=>LC.of h
theorem FT.t0z{S:Nat->Prop}{w:World}{o:Ob}{t:Tr}(h:FT S w o t):OX w o t:=h.imp fun _ h=>h.t0z
theorem FT.AI{S F:Nat->Prop}{w w':World}{o:Ob}{t:Tr}(h:FT S w o t)(he:Ext F w w')(hF:∀j,S j->¬F j):FT S w' o t:=h.imp fun _ h=>h.AI he hF
theorem FT.CM{S S':Nat->Prop}{w:World}{o:Ob}{t:Tr}(h:FT S w o t)(hS:∀j,S j->S' j):FT S' w o t:=h.imp fun _ h=>h.CM hS
theorem Jn {α β:Type}{R:α->β->Prop}:∀{l:List α} {m:List β} {a:α} {b:β},Ar R l m->R a b->Ar R (l++[a]) (m++[b])
 |[],[],_,_,_,k=>⟨k,trivial⟩
 |_::_,_::_,_,_,h,k=>⟨h.1,Jn h.2 k⟩
end Vl
namespace Wt
open Sh Fix Tk Tl Vl
def Tx (xs:List ByteArray)(ps:List Pt):Prop:=xs.map bl=ps.map (·.t)
theorem Tx.app{xs ys:List ByteArray}{ps qs:List Pt}(h:Tx xs ps)(k:Tx ys qs):Tx (xs++ys) (ps++qs):=by
 unfold Tx at*;rw[aP,aP,h,k]
theorem Tx.one{x:ByteArray}{p:Pt}(h:bl x=p.t):Tx [x] [p]:=by
 unfold Tx;rw[aB,aB,h]
 rfl
theorem Tx.nil:Tx [] []:=rfl
theorem Tx.len{xs:List ByteArray}{ps:List Pt}(h:Tx xs ps):xs.length=ps.length:=by
 have:=aq List.length h;simpa using this
section
variable {w:World} {o:AG} {t:Tr}
attribute [local irreducible] Ld Sh.St Nw Nn Lt AU
def AOL (w w1:World)(r:AA)(xs:List ByteArray):Prop:=∃b,r=⟨some ⟨b,0,none⟩,xs.length,xs.length⟩/\AN w1 b (xs.map Value.string).toArray 9/\w.heap.size<=b
theorem xq {deep:Int}{t:Tr}(h:A3 deep t=true)(hk:t.k=1):t.n=0\/t.n=1:=by
 unfold A3 at h;simp only[ai]at h;obtain ⟨_,h⟩:=h;split at h
 ·cases h
 ·unfold Ch TC at h;simp only[ai]at h;have hf:=h.2.1.1.1.1;rw[hk]at hf;simp only[if_true,bq]at hf;omega
theorem XT {s:ByteArray}(h:Dz s=true):0∉bl s:=by
 unfold Dz at h;simp only[ai]at h;simpa[bl]using h.2
theorem jT (h:OX w o t){deep:Int}(BS:A3 deep t=true)(h6:t.k≠6)(h7:t.k≠7)(h9:t.k≠9)(hT:Tl.PT w):
  C83 o w (fun r w1=>(∃ps xs,PT t ps/\Tx xs ps/\AOL w w1 r xs)/\Ext (fun _=>False) w w1) fun _ _=>False:=by
 refine T83 _ _ _ _ ?_;unfold S83;obtain ⟨k,n,g,s,ksl,kdl⟩:=o;obtain ⟨tk,tn,tg,ts,ks,kids⟩:=t;obtain ⟨⟨e1,e2,e3,e4⟩,_,_⟩:=h.out;simp only[Tr.k,Tr.n,Tr.g,Tr.s]at e1 e2 e3 e4 h6 h7 h9;subst e1 e2 e3 e4;have hc:=Vs BS;have hp:=fun q=>FA BS q
 simp only[Tr.k,Tr.n,Tr.g,Tr.s]at hc hp;refine (Hn.start w).nw (cs:=AF (k,n,g,s,ksl,kdl)) fun w2 H=>?_
 simp only[ad,AF]at H⊢;have hT2:=hT.AB H.ext;simp only[add_lit,ak];refine H.ld 0 rfl rfl ?_;refine Br.eq (fun h0=>?_) fun h0=>?_
 ·refine H.JC (cs:=[.string ⟨#[110,117,108,108]⟩]) fun w3 H3 _=>?_
  refine ⟨⟨[AY OH],[_],by rw[PT];exact .inl ⟨h0,rfl⟩,Tx.one rfl,⟨_,rfl,H3.get 1 rfl,H3.ge 1 rfl⟩⟩,H3.ext⟩
 refine Br.eq (fun h1=>?_) fun h1=>?_
 ·have hb:n=0\/n=1:=xq BS h1;refine H.ld 0 rfl rfl ⟨by rcases hb with h|h<;>omega,by rcases hb with h|h<;>(rw[h];decide),if n=0 then ⟨#[102,97,108,115,101]⟩else ⟨#[116,114,117,101]⟩,by rcases hb with h|h<;>(rw[h];rfl),?_⟩;refine H.JC (cs:=[.string (if n=0 then ⟨#[102,97,108,115,101]⟩else ⟨#[116,114,117,101]⟩)]) fun w3 H3 _=>?_
  exact ⟨⟨[AY (if n=0 then GD else KE)],[_],by rw[PT];exact .inr (.inl ⟨h1,rfl⟩),Tx.one (by by_cases h:n=0<;>simp only[h,if_true,if_false]<;>rfl),⟨_,rfl,H3.get 1 rfl,H3.ge 1 rfl⟩⟩,H3.ext⟩
 refine Br.eq (fun h2=>?_) fun h2=>?_
 ·have hr:=(hp (by simp[h2])).1 h2;refine H.ld 0 rfl rfl ((Qu (by omega) (by omega) hT2).mono ?_ fun _ _ h=>h);rintro x e w3 ⟨hx,e3⟩;rcases hx with ⟨_,_,_,D,hI⟩|⟨_,h⟩
  ·refine (H.AB e3).JC (cs:=[.string x]) fun w3 H3 _=>⟨⟨[Ax (bl x) n],[x],by rw[PT];exact .inr (.inr (.inl ⟨h2,_,D,hI,rfl⟩)),Tx.one rfl,⟨_,rfl,H3.get 1 rfl,H3.ge 1 rfl⟩⟩,H3.ext⟩
  ·omega
 refine Br.eq (fun h3=>?_) fun h3=>?_
 ·have hr:=(hp (by simp[h3])).2.1 h3;refine H.ld 0 rfl rfl ((xN n w2).mono ?_);rintro x e w3 ⟨hx,e3⟩;rcases hx with ⟨_,_,W,P,hI⟩|⟨_,h⟩
  ·refine (H.AB e3).JC (cs:=[.string x]) fun w3 H3 _=>⟨⟨[Oe (bl x) n],[x],by rw[PT];exact .inr (.inr (.inr (.inl ⟨h3,_,W,P,hI,rfl⟩))),Tx.one rfl,⟨_,rfl,H3.get 1 rfl,H3.ge 1 rfl⟩⟩,H3.ext⟩
  ·rw[hr]at h;cases h
 refine Br.eq (fun h4=>?_) fun h4=>?_
 ·have hr:=(hp (by simp[h4])).2.2.1 h4;refine H.ld 0 rfl rfl ((iv hr w2).mono ?_ fun _ _ h=>h);rintro x e w3 ⟨_,hx,e3⟩;refine (H.AB e3).JC (cs:=[.string x]) fun w3 H3 _=>⟨⟨[R8 s],[x],by rw[PT];exact .inr (.inr (.inr (.inr (.inl ⟨h4,rfl⟩)))),Tx.one hx,⟨_,rfl,H3.get 1 rfl,H3.ge 1 rfl⟩⟩,H3.ext⟩
 refine Br.eq (fun h5=>?_) fun h5=>?_
 ·obtain ⟨hr,hk⟩:=(hp (by simp[h5])).2.2.2.1 h5;refine H.ld 0 rfl rfl ((iw hr w2).mono ?_ fun _ _ h=>h);rintro x e w3 ⟨hx,e3⟩;rcases hx with ⟨_,_,hx⟩|⟨_,h⟩
  ·refine (H.AB e3).JC (cs:=[.string x]) fun w3 H3 _=>⟨⟨[Ds s],[x],by rw[PT];exact .inr (.inr (.inr (.inr (.inr (.inl ⟨h5,rfl⟩))))),Tx.one hx,⟨_,rfl,H3.get 1 rfl,H3.ge 1 rfl⟩⟩,H3.ext⟩
  ·exact absurd h (XT hk)
 refine Br.eq (fun h8=>?_) fun h8=>?_
 ·obtain ⟨hr,hg⟩:=(hp (by simp[h8])).2.2.2.2 h8;refine H.ld 0 rfl rfl ((Qu (by omega) (by omega) hT2).mono ?_ fun _ _ h=>h);rintro x e w3 ⟨hx,e3⟩;rcases hx with ⟨_,_,_,D,hI⟩|⟨_,h⟩
  ·refine (H.AB e3).ld 0 rfl rfl ((Qu (by omega) (by omega) (hT2.AB e3)).mono ?_ fun _ _ h=>h);rintro y e w4 ⟨hy,e4⟩;rcases hy with ⟨_,_,_,E,hJ⟩|⟨_,h⟩
   ·refine ((H.AB e3).AB e4).JC (cs:=[.string x,.string y,.string ⟨#[82]⟩]) fun w3 H3 _=>⟨⟨[Ax (bl x) n,Ax (bl y) g,AY VR],[x,y,⟨#[82]⟩],by rw[PT];exact .inr (.inr (.inr (.inr (.inr (.inr (.inr (.inr ⟨h8,_,D,_,E,hI,hJ,rfl⟩))))))),rfl,⟨_,rfl,H3.get 1 rfl,H3.ge 1 rfl⟩⟩,H3.ext⟩
   ·omega
  ·omega
 omega
end
end Wt
set_option maxRecDepth 100000
namespace Wt
open Sh Fix Tk Tl Vl
mutual
def KR:Tr->Nat
 | .mk _ _ _ _ ks kids=>3+ks.length+JE kids
def JE:List Tr->Nat
 |[]=>0
 |t::r=>KR t+JE r
end
theorem XU:∀(a b:List Tr),JE (a++b)=JE a+JE b
 |[],b=>by rw[ad,JE];omega
 |t::a,b=>by rw[ag,JE,JE,XU a b];omega
theorem LI:∀(l:List Tr),l.length<=JE l
 |[]=>bJ _
 | .mk k n g s ks kids::r=>by have:=LI r;rw[JE,KR,au];omega
theorem Mw {l:List Tr}{i:Nat}{t:Tr}(h:l[i]?=some t):JE (l.take i)+KR t<=JE l:=by
 have e:l=l.take i++(t::l.drop (i+1)):=by
  rw[<-Tl.Hj h,aT]
 have:=aq JE e;rw[XU,JE]at this;omega
mutual
theorem XV:∀(t:Tr) (ps:List Pt),PT t ps->ps.length<=KR t
 | .mk k n g s ks kids,ps,hp=>by
  rw[KR];rw[PT]at hp;rcases hp with ⟨rfl,rfl⟩|⟨rfl,rfl⟩|⟨rfl,T,D,hI,rfl⟩|⟨rfl,T,W,P,hT,rfl⟩|⟨rfl,rfl⟩|⟨rfl,rfl⟩|⟨rfl,q,hq,rfl⟩|⟨rfl,q,hq,rfl⟩|⟨rfl,T,D,U,E,hI,hJ,rfl⟩<;>simp only[au,aV,ae]<;>try omega
  ·have:=TI kids q hq;omega
  ·have:=TJ ks kids q hq;omega
theorem TI:∀(l:List Tr) (q:List Pt),PL l q->q.length<=JE l
 |[],q,h=>by rw[PL]at h;subst h;exact bJ _
 |t::r,q,h=>by
  rw[PL]at h;obtain ⟨a,b,h1,h2,rfl⟩:=h;have:=XV t a h1;have:=TI r b h2;rw[ae,JE];omega
theorem TJ:∀(ks:List ByteArray) (l:List Tr) (q:List Pt),PD ks l q->q.length<=ks.length+JE l
 |[],[],q,h=>by rw[PD]at h;subst h;exact bJ _
 |k::ks,t::r,q,h=>by
  rw[PD]at h;obtain ⟨a,b,h1,h2,rfl⟩:=h;have:=XV t a h1;have:=TJ ks r b h2;rw[au,ae,au,JE];omega
 |_::_,[],q,h=>by rw[PD]at h;exact h.elim
 |[],_::_,q,h=>by rw[PD]at h;exact h.elim
end
theorem AON {deep:Int}{t:Tr}(h:A3 deep t=true)(hd:deep≠1):t.k≠9:=by
 unfold A3 at h;simp only[ai]at h;obtain ⟨_,h⟩:=h;split at h
 ·cases h
 ·unfold Ck at h;simp only[ai,bA]at h;have:=h.1.2;rcases this with h|h
  ·exact absurd (by simpa using h) hd
  ·simpa using h
structure oB (n0 l:Nat) (J:(Nat->Prop)->List ByteArray->World->Prop):Prop where
 lt:∀{S:Nat->Prop} {xs:List ByteArray} {W:World},J S xs W->∀j,S j->j<W.heap.size
 AB:∀{S F:Nat->Prop} {xs:List ByteArray} {W W':World},J S xs W->Ext F W W'->(∀j,F j->¬S j/\n0<=j)->J S xs W'
 yl:∀{S:Nat->Prop} {xs:List ByteArray} {W:World} {x:ByteArray} {K:Bool->World->Prop},J S xs W->xs.length<4000000->(∀S' W',J S' (xs++[x]) W'->Ext S W W'->(∀j,S' j->S j\/W.heap.size<=j)->K true W')->Yl prog l #[.string x] W K
structure Hm (J:(Nat->Prop)->List ByteArray->World->Prop) (W:World) (S:Nat->Prop) (pre:List ByteArray) (B:List Nat) (v:World) (S':Nat->Prop) (xs:List ByteArray):Prop where
 j:J S' (pre++xs) v
 e:Ext S W v
 s:∀j,S' j->S j\/W.heap.size<=j
 n:∀b∈B,¬S' b
 lt:∀b∈B,b<v.heap.size
section
variable {n0 l:Nat} {J:(Nat->Prop)->List ByteArray->World->Prop} {W v v':World} {S S' F:Nat->Prop} {pre xs:List ByteArray} {B:List Nat} {x:ByteArray} {b:Nat}
theorem Hm.of(h:J S pre W)(hB:∀b∈B,¬S b)(hl:∀b∈B,b<W.heap.size):Hm J W S pre B W S []:=⟨by rwa[aX],Ext.refl _ _,fun _ h=> .inl h,hB,hl⟩
theorem Hm.go(hR:oB n0 l J)(h:Hm J W S pre B v S' xs)(he:Ext F v v')(hF:∀j,F j->¬S' j/\n0<=j/\W.heap.size<=j):Hm J W S pre B v' S' xs:=
 ⟨hR.AB h.j he fun j hj=>⟨(hF j hj).1,(hF j hj).2.1⟩,h.e.trans he (fun _ h=>h) fun i hi h=>by have:=(hF i h).2.2;omega,h.s,h.n,fun b hb=>Nat.lt_of_lt_of_le (h.lt b hb) he.size⟩
theorem Hm.new(hR:oB n0 l J)(h:Hm J W S pre B v S' xs)(he:Ext (fun _=>False) v v'):Hm J W S pre B v' S' xs:=h.go hR he fun _ h=>h.elim
theorem Hm.more(h:Hm J W S pre B v S' xs)(hb:b<v.heap.size)(hn:¬S' b):Hm J W S pre (b::B) v S' xs:=
 ⟨h.j,h.e,h.s,fun c hc=>by rcases ar.1 hc with rfl|hc;exact hn;exact h.n c hc,fun c hc=>by rcases ar.1 hc with rfl|hc;exact hb;exact h.lt c hc⟩
theorem Hm.fresh(hR:oB n0 l J)(h:Hm J W S pre B v S' xs)(hb:v.heap.size<=b):¬S' b:=fun hs=>by have:=hR.lt h.j b hs;omega
theorem Hm.less(h:Hm J W S pre (b::B) v S' xs):Hm J W S pre B v S' xs:=⟨h.j,h.e,h.s,fun c hc=>h.n c (av _ hc),fun c hc=>h.lt c (av _ hc)⟩
theorem Hm.step(h:Hm J W S pre B v S' xs){S2:Nat->Prop}{ys:List ByteArray}(hj:J S2 (pre++xs++ys) v')(he:Ext S' v v')(hs:∀j,S2 j->S' j\/v.heap.size<=j):Hm J W S pre B v' S2 (xs++ys):=
 ⟨by rwa[<-aD],h.e.trans he (fun _ h=>h) fun i hi hh=>(h.s i hh).elim id fun q=>by omega,fun j hj=>(hs j hj).elim (h.s j) fun q=> .inr (by have:=h.e.size;omega),
  fun b hb hh=>(hs b hh).elim (h.n b hb) fun q=>by have:=h.lt b hb;omega,fun b hb=>Nat.lt_of_lt_of_le (h.lt b hb) he.size⟩
attribute [local irreducible] Ld Sh.St Nw Nn Lt AU Ae Am
theorem TK (hR:oB n0 l J)(h:Hm J W S pre B v S' xs)(hl:(pre++xs).length<4000000){K:Sg [(.one .bool)]->World->Prop}(k:∀S2 v',Hm J W S pre B v' S2 (xs++[x])->Ext S' v v'->K true v'):
  TQ prog FF [(.one .bool)] (.func (.yield l) #[] #[]) #[.string x] v K:=by
 refine .inl ⟨l,rfl,hR.yl h.j hl fun S2 v' h1 h2 h3=>⟨true,rfl,k S2 v' ?_ h2⟩⟩;exact h.step h1 h2 h3
def XW (J:(Nat->Prop)->List ByteArray->World->Prop)(S:Nat->Prop)(pre:List ByteArray)(t:Tr)(W:World)(b:Bool)(W':World):Prop:=
 b=true/\∃ps xs S',PT t ps/\Tx xs ps/\J S' (pre++xs) W'/\Ext S W W'/\∀j,S' j->S j\/W.heap.size<=j
theorem Hm.q{t:Tr}{ps:List Pt}(h:Hm J W S pre B v S' xs)(hp:PT t ps)(hx:Tx xs ps):XW J S pre t W true v:=⟨rfl,ps,xs,S',hp,hx,h.j,h.e,h.s⟩
theorem ZQ (hR:oB n0 l J){r:AA}{ys:List ByteArray}{c2:Nat}{ty:TypeId}{t:Tr}{ps:List Pt}(h:Hm J W S pre [b,c2] v S' [])(hr:r=⟨some ⟨b,0,none⟩,ys.length,ys.length⟩)(hb:AN v b (ys.map Value.string).toArray 9)
  (h2:AN v c2 #[.func (.yield l) #[] #[]] ty) (hl:pre.length+ys.length<=4000000) (hp:PT t ps) (hx:Tx ys ps):
  Lp (σ:=Int) (Pg ⟨c2,0,none⟩ r (XW J S pre t W)) 0 v:=by
 subst hr;refine ⟨fun n st v=>∃(i:Nat) (S':Nat->Prop),st=(i:Int)/\i<=ys.length/\n=ys.length-i/\Hm J W S pre [b,c2] v S' (ys.take i)/\AN v b (ys.map Value.string).toArray 9/\AN v c2 #[.func (.yield l) #[] #[]] ty,ys.length,
  ⟨0,S',rfl,by omega,by omega,h,hb,h2⟩,?_⟩
 clear h hb h2;rintro n st v ⟨i,S1,rfl,hi,rfl,h,hb,h2⟩;unfold Pg;refine Br.dec (fun q=>?_) fun q=>?_
 ·have WV:i<ys.length:=by have:((i:Nat):Int)<(ys.length:Nat):=q;omega
  have NQ:ys[i]?=some ys[i]:=ah WV;have ht:ys.take (i+1)=ys.take i++[ys[i]]:=by rw[bC,NQ];rfl
  generalize ys[i]=y at NQ ht;refine ⟨by omega,q,Nn.of ?_⟩;simp only[add_lit,ak,ch];refine Ld.of (x:=y) hb (by simp[NQ]) (Ld.of h2 rfl ?_);refine TK hR h (by rw[ae,aC];omega) fun S2 v' h' e'=>Sh.Br.f rfl ?_
  refine ⟨ys.length-(i+1),by omega,i+1,S2,by rw[AH (by omega)];rfl,by omega,rfl,by rw[ht];exact h',e'.AR hb (h.n b (by simp)),e'.AR h2 (h.n c2 (by simp))⟩
 ·have SE:i=ys.length:=by have:¬((i:Nat):Int)<(ys.length:Nat):=q;omega
  subst SE;rw[bf]at h;exact h.q hp hx
end
end Wt
namespace Wt
open Sh Fix Tk Tl Vl
abbrev yv (l:Nat):Value:= .func (.yield l) #[] #[]
abbrev tv (c2 c3:Nat):Value:= .func (.func 82) #[] #[.pointer (some ⟨c2,0,none⟩),.pointer (some ⟨c3,0,none⟩)]
def jU (n0 l:Nat)(J:(Nat->Prop)->List ByteArray->World->Prop)(w0:World)(c2 c3:Nat)(t2 t3:TypeId)(d:Nat):Prop:=
 ∀(o:Ob) (t:Tr) (W:World) (S:Nat->Prop) (pre:List ByteArray) (deep:Int),FH w0 d o t->CL deep t=true->1<=deep->t.k≠9->Ext (fun _=>False) w0 W->n0<=W.heap.size->(∀j,S j->w0.heap.size<=j)->J S pre W->
  AN W c2 #[yv l] t2->AN W c3 #[tv c2 c3] t3->¬S c2->¬S c3->pre.length+KR t<=4000000->Rl o ⟨c2,0,none⟩ ⟨c3,0,none⟩ W (XW J S pre t W)
section
variable {n0 l c2 c3 d:Nat} {J:(Nat->Prop)->List ByteArray->World->Prop} {w0 W W1 v:World} {S:Nat->Prop} {pre:List ByteArray} {t2 t3:TypeId} {o:Ob} {t:Tr} {deep:Int}
attribute [local irreducible] Ld Sh.St Nw Nn Lt AU Ae Am
theorem XX {x:Ob}{K:Sg [(.one .bool)]->World->Prop}{R:Bool->World->Prop}(h:Rl x ⟨c2,0,none⟩ ⟨c3,0,none⟩ v R)(hk:∀b w',R b w'->K b w'):TQ prog FF [(.one .bool)] (tv c2 c3) #[.agg (Aj.cells AD x).toArray] v K:=
 .inr ⟨82,#[],_,rfl,by kernel_rfl,(callsIn_wide.1 (ACW x _ _ v _ h)).mono fun e w' ⟨b,he,hr⟩=>⟨b,he,hk _ _ hr⟩⟩
theorem xr {s:ByteArray}(h:Dz s=true):s.size<=127:=by
 unfold Dz at h;simp only[ai]at h;simpa using h.1
theorem xt {q:List Pt}(h:t.k=6)(hq:PL t.kids q):PT t (Ap [91]::(q++[Ap [93]])):=by
 cases t;rw[PT];exact .inr (.inr (.inr (.inr (.inr (.inr (.inl ⟨h,q,hq,rfl⟩))))))
theorem oC {q:List Pt}(h:t.k=7)(hq:PD t.ks t.kids q):PT t (Ap [60,60]::(q++[Ap [62,62]])):=by
 cases t;rw[PT];exact .inr (.inr (.inr (.inr (.inr (.inr (.inr (.inl ⟨h,q,hq,rfl⟩)))))))
theorem ZR (hR:oB n0 l J)(ih:jU n0 l J w0 c2 c3 t2 t3 d)(hT:Tl.PT w0)(h:FH w0 (d+1) o t)(BS:CL deep t=true)(hd:1<=deep)(e0:Ext (fun _=>False) w0 W)(hn:n0<=W.heap.size)(hS:∀j,S j->w0.heap.size<=j)(hj:J S pre W)
  (k2:AN W c2 #[yv l] t2) (k3:AN W c3 #[tv c2 c3] t3) (n2:¬S c2) (n3:¬S c3) (hl:pre.length+KR t<=4000000) {a z:ByteArray} {ta tb:TypeId} (H:Hn W v [(W.heap.size,AF o,ta),(W1.heap.size,[.string a,.string z],tb)])
  (hk:(t.k=6/\bl a=[91]/\bl z=[93])\/(t.k=7/\bl a=[60,60]/\bl z=[62,62])):Pf W ⟨c2,0,none⟩ ⟨c3,0,none⟩ W1 (XW J S pre t W) () v:=by
 obtain ⟨⟨q1,q2,q3,q4⟩,hK,L,hL,hA⟩:=h;rw[Dt,ai]at BS;obtain ⟨OG,hkd⟩:=BS;have hkd:=IY.1 hkd;have zY:KR t=3+t.ks.length+JE t.kids:=by cases t;rw[KR];rfl
 have b1:=H.get 0 rfl;have b2:=H.get 1 rfl;have g1:W.heap.size<=W.heap.size:=az _;have g2:=H.ge 1 rfl;have h0:Hm J W S pre [W.heap.size,W1.heap.size,c2,c3] v S []:=
  (((Hm.of (B:=[c2,c3]) hj (by simp[n2,n3]) (by simp[k2.lt,k3.lt])).new hR H.ext).more (H.lt 1 rfl) (fun hs=>by have:=hR.lt hj _ hs;omega)).more (H.lt 0 rfl) (fun hs=>by have:=hR.lt hj _ hs;omega)
 have k2:=H.ext.AR k2 id;have k3:=H.ext.AR k3 id;clear H;unfold Pf;refine Ld.of k2 rfl (Ld.of b2 rfl ?_);refine TK hR h0 (by rw[aX];omega) fun S2 v2 h1 e1=>Sh.Br.f rfl ?_
 have b1:=e1.AR b1 (h0.n _ (by simp));have b2:=e1.AR b2 (h0.n _ (by simp));have k2:=e1.AR k2 (h0.n _ (by simp));have k3:=e1.AR k3 (h0.n _ (by simp));clear h0 e1;simp only[add_lit,ak];refine Ld.of b1 rfl ?_;refine ⟨fun n st v=>∃(i:Nat) (S':Nat->Prop) (xs:List ByteArray) (qs:List Pt),st=(i:Int)/\i<=t.kids.length/\n=t.kids.length-i/\Hm J W S pre [W.heap.size,W1.heap.size,c2,c3] v S' (a::xs)/\Tx xs qs/\
   ((t.k=6/\PL (t.kids.take i) qs)\/(t.k=7/\PD (t.ks.take i) (t.kids.take i) qs))/\AN v W.heap.size (AF o).toArray ta/\AN v W1.heap.size #[.string a,.string z] tb/\AN v c2 #[yv l] t2/\AN v c3 #[tv c2 c3] t3,t.kids.length,
  ⟨0,S2,[],[],rfl,by omega,by omega,h1,Tx.nil,by rcases hk with ⟨h,_⟩|⟨h,_⟩;exact .inl ⟨h,by rw[List.take_zero,PL]⟩;exact .inr ⟨h,by rw[List.take_zero,List.take_zero,PD]⟩,b1,b2,k2,k3⟩,?_⟩
 clear h1 b1 b2 k2 k3;rintro n st v ⟨i,S1,xs,qs,rfl,hi,rfl,h,hx,hq,b1,b2,k2,k3⟩;have hqs:xs.length<=i+JE (t.kids.take i):=by
  rw[hx.len];rcases hq with ⟨_,h⟩|⟨_,h⟩
  ·have:=TI _ _ h;omega
  ·have:=TJ _ _ _ h;rw[aC]at this;omega
 have e0v:Ext (fun _=>False) w0 v:=Ext.Bw e0 h.e hS;have hlen:o.2.2.2.2.2.len=t.kids.length:=by rw[hL.1,hA.len]
 unfold WR;simp only[add_lit,ak];rw[hlen];refine Br.dec (fun q=>?_) fun q=>?_
 ·have WV:i<t.kids.length:=by have:((i:Nat):Int)<(t.kids.length:Nat):=q;omega
  have l9:t.kids[i]?=some t.kids[i]:=ah WV;have Fi:t.kids.take (i+1)=t.kids.take i++[t.kids[i]]:=by rw[bC,l9];rfl
  generalize t.kids[i]=tx at l9 Fi;obtain ⟨x,Qh,CO⟩:=hA.jD l9;have hcx:=Mw l9;refine ⟨by omega,q,(hL.AB e0v).jG Qh ?_⟩
 
  have fin:∀{K:Sg [(.one .bool)]->World->Prop} {b3:Nat} {t5:TypeId} {u:World} {S3:Nat->Prop} {zs:List ByteArray},Hm J W S pre [b3,W.heap.size,W1.heap.size,c2,c3] u S3 (a::(xs++zs))->AN u b3 (AF x).toArray t5->AN u W.heap.size (AF o).toArray ta->
    AN u W1.heap.size #[.string a,.string z] tb->AN u c2 #[yv l] t2->AN u c3 #[tv c2 c3] t3->xs.length+zs.length<=t.ks.length+JE (t.kids.take i)->
    (∀ys ps S4 u',PT tx ps->Tx ys ps->Hm J W S pre [W.heap.size,W1.heap.size,c2,c3] u' S4 (a::(xs++(zs++ys)))->AN u' W.heap.size (AF o).toArray ta->AN u' W1.heap.size #[.string a,.string z] tb->AN u' c2 #[yv l] t2->AN u' c3 #[tv c2 c3] t3->K true u')->
    Ld u ⟨c3,0,none⟩ (fun x:Value=>x) fun f=>Ae u ⟨b3,0,none⟩ 0 AD fun y=>TQ prog FF [(.one .bool)] f #[.agg (Aj.cells AD y).toArray] u K:=by
   intro K b3 t5 u S3 zs hs g3 g1 g2 k2 k3 hz hK;refine Ld.of k3 rfl (Ae.AR (ts:=AD) (pre:=[]) (post:=[]) (x:=x) (by rw[ad,aX];exact g3) rfl ?_);have hkx:=hkd tx (ax l9);have hkh:=hkx;rw[Dt,ai]at hkh;refine XX (ih x tx u S3 (pre++a::(xs++zs)) (deep+1) CO hkx (by omega) (AON hkh.1 (by omega)) (Ext.Bw e0 hs.e hS) (bB hn hs.e.size) (fun j hj=>(hs.s j hj).elim (hS j) fun q=>bB e0.size q) hs.j k2 k3 (hs.n _ (by simp)) (hs.n _ (by simp))
    (by simp only[ae,au];omega)) ?_
   rintro b w' ⟨rfl,ps,ys,S4,hp,hy,hj4,e4,s4⟩;have h4:=hs.step (ys:=ys) hj4 e4 s4;refine hK ys ps S4 w' hp hy ?_ (e4.AR g1 (hs.n _ (by simp))) (e4.AR g2 (hs.n _ (by simp))) (e4.AR k2 (hs.n _ (by simp))) (e4.AR k3 (hs.n _ (by simp)));have:=h4.less;rwa[ag,aD]at this
  refine Nw.of ?_;have ev:Ext (fun _=>False) v (v.alloc (.cells #[.int .i64 0,.int .i64 0,.int .i64 0,.string ⟨#[]⟩,AA.v ⟨none,0,0⟩,AA.v ⟨none,0,0⟩] 26)):=(Ext.refl _ _).alloc _;have Qo:=AN.new v #[.int .i64 0,.int .i64 0,.int .i64 0,.string ⟨#[]⟩,AA.v ⟨none,0,0⟩,AA.v ⟨none,0,0⟩] 26;have zB:¬S1 v.heap.size:=h.fresh hR (az _);have h3:=(h.new hR ev).more (b:=v.heap.size) Qo.lt zB;have b1:=ev.AR b1 id;have b2:=ev.AR b2 id;have k2:=ev.AR k2 id;have k3:=ev.AR k3 id;have hWv:=h.e.size;have kQ:=h.lt W.heap.size (by simp);have pB:=h.lt W1.heap.size (by simp);have hl3:=h.lt c2 (by simp);have hl4:=h.lt c3 (by simp);generalize v.alloc (.cells #[.int .i64 0,.int .i64 0,.int .i64 0,.string ⟨#[]⟩,AA.v ⟨none,0,0⟩,AA.v ⟨none,0,0⟩] 26)=v1 at ev Qo h3 b1 b2 k2 k3⊢;refine Am.AR (ts:=AD) (pre:=[]) (zs:=[.int .i64 0,.int .i64 0,.int .i64 0,.string ⟨#[]⟩,AA.v ⟨none,0,0⟩,AA.v ⟨none,0,0⟩]) (post:=[]) Qo rfl rfl fun v3 Qo e3=>?_
  rw[ad,aX,Al]at Qo;have h3:=h3.go hR e3 fun j hj=>by
   have hj:j=v.heap.size:=hj;subst hj;exact ⟨zB,by omega,by omega⟩
  have b1:=e3.AR b1 (by omega);have b2:=e3.AR b2 (by omega);have k2:=e3.AR k2 (by omega);have k3:=e3.AR k3 (by omega);have AOP:Ext (fun _=>False) w0 v3:=Ext.Bw e0 h3.e hS;have i1:wrap .i64 (((i:Nat):Int)+1)=((i+1:Nat):Int):=by
   have:=LI t.kids;rw[AH (by omega)]
   rfl
  refine Ld.of b1 rfl ?_;rw[q1];rcases hq with ⟨h6,hq⟩|⟨h7,hq⟩
  ·refine Br.eq (fun h=>by omega) fun _=>?_
   have hq1:xs.length<=JE (t.kids.take i):=by rw[hx.len];exact TI _ _ hq
   refine fin (zs:=[]) (by rw[aX];exact h3) Qo b1 b2 k2 k3 (by rw[aV];omega) fun ys ps S4 u' hp hy h4 c1 c2' c3' c4=>Sh.Br.f rfl ?_
   exact ⟨t.kids.length-(i+1),by omega,i+1,S4,xs++ys,qs++ps,i1,by omega,rfl,h4,hx.app hy,.inl ⟨h6,by rw[Fi];exact hq.snoc hp⟩,c1,c2',c3',c4⟩
  ·refine Br.eq (fun _=>?_) fun h=>absurd h7 h
   have zH:=Ei OG h7;have LD:t.ks.length=t.kids.length:=Classical.byContradiction fun hc=>by rw[Eo hc]at zH;cases zH
   have DP:t.ks[i]?=some t.ks[i]:=ah (by omega);have mo:t.ks.take (i+1)=t.ks.take i++[t.ks[i]]:=by rw[bC,DP];rfl
   generalize t.ks[i]=key at DP mo;have DS:=GB zH key (ax DP);have hq1:xs.length<=i+JE (t.kids.take i):=by
    rw[hx.len];have:=TJ _ _ _ hq;rw[aC]at this;omega
   refine Ld.of b1 rfl ⟨by omega,by rw[hK.1.1,LD];exact q,(hK.AB AOP).get DP ?_⟩;refine (iw (xr DS) v3).mono ?_ fun _ _ h=>h
   rintro nm e v4 ⟨hnm,e4⟩;rcases hnm with ⟨_,_,hnm⟩|⟨_,h⟩
   ·have h4:=h3.new hR e4;have b1:=e4.AR b1 id;have b2:=e4.AR b2 id;have k2:=e4.AR k2 id;have k3:=e4.AR k3 id;have Qo:=e4.AR Qo id;refine Ld.of k2 rfl (TK hR h4 (by simp only[ae,au];omega) fun S5 v5 h5 e5=>Sh.Br.f rfl ?_);refine fin (zs:=[nm]) h5 (e5.AR Qo (h4.n _ (by simp))) (e5.AR b1 (h4.n _ (by simp))) (e5.AR b2 (h4.n _ (by simp))) (e5.AR k2 (h4.n _ (by simp))) (e5.AR k3 (h4.n _ (by simp))) (by rw[bo];omega) fun ys ps S4 u' hp hy h4 c1 c2' c3' c4=>Sh.Br.f rfl ?_
    exact ⟨t.kids.length-(i+1),by omega,i+1,S4,xs++([nm]++ys),qs++([Ds key]++ps),i1,by omega,rfl,h4,hx.app ((Tx.one hnm).app hy),.inr ⟨h7,by rw[Fi,mo];exact hq.snoc hp⟩,c1,c2',c3',c4⟩
   ·exact absurd h (XT DS)
 ·have SE:i=t.kids.length:=by have:¬((i:Nat):Int)<(t.kids.length:Nat):=q;omega
  subst SE;rw[bf]at hq;refine Ld.of k2 rfl (Ld.of b2 rfl ?_);rcases hk with ⟨h6,ha,hz⟩|⟨h7,ha,hz⟩
  ·rcases hq with ⟨_,hq⟩|⟨h,_⟩
   ·have hq1:=TI _ _ hq;rw[<-hx.len]at hq1;refine TK hR h (by simp only[ae,au];omega) fun S5 v5 h5 e5=>h5.q (ps:=Ap [91]::(qs++[Ap [93]])) (xt h6 hq) ?_
    exact (Tx.one (p:=Ap [91]) ha).app (hx.app (Tx.one (p:=Ap [93]) hz))
   ·omega
  ·rcases hq with ⟨h,_⟩|⟨_,hq⟩
   ·omega
   ·have zH:=Ei OG h7;have LD:t.ks.length=t.kids.length:=Classical.byContradiction fun hc=>by rw[Eo hc]at zH;cases zH
    rw[<-LD,bf]at hq;have hq1:=TJ _ _ _ hq;rw[<-hx.len]at hq1;refine TK hR h (by simp only[ae,au];omega) fun S5 v5 h5 e5=>h5.q (ps:=Ap [60,60]::(qs++[Ap [62,62]])) (oC h7 hq) ?_
    exact (Tx.one (p:=Ap [60,60]) ha).app (hx.app (Tx.one (p:=Ap [62,62]) hz))
theorem jV (hR:oB n0 l J)(hT:Tl.PT w0):∀d,jU n0 l J w0 c2 c3 t2 t3 d
 |0=>fun o t W S pre deep h=>h.elim
 |d+1=>fun o t W S pre deep h BS hd h9 e0 hn hS hj k2 k3 n2 n3 hl=>by
  have ih:=jV hR hT d;obtain ⟨q1,q2,q3,q4⟩:=h.1;have hh:=BS;rw[Dt,ai]at hh;unfold Rl;rw[Al];refine (Hn.start W).nw (cs:=AF o) fun w1 H=>?_
  refine H.nw (cs:=[.string ⟨#[]⟩,.string ⟨#[]⟩]) fun w2 H=>?_
  simp only[ad,ag,AF,add_lit,ak]at H⊢
  iterate 2 (refine H.st 1 rfl (by simp) fun _ H=>?_;simp only[aa,ab]at H)
  refine ⟨fun _ v=>∃a z ty,Hn W v [(W.heap.size,AF o,26),(w1.heap.size,[.string a,.string z],ty)]/\((t.k=6/\bl a=[91]/\bl z=[93])\/(t.k=7/\bl a=[60,60]/\bl z=[62,62])),?_,?_⟩
  ·rintro ⟨⟩ v ⟨a,z,ty,H,hk⟩;exact ZR hR ih hT h BS hd e0 hn hS hj k2 k3 n2 n3 hl H hk
  ·refine H.ld 0 rfl rfl (Br.eq (fun h6=>⟨_,_,_,H,.inl ⟨by omega,rfl,rfl⟩⟩) fun h6=>Br.eq (fun h7=>?_) fun h7=>?_)
   ·iterate 2 (refine H.st 1 rfl (by simp) fun _ H=>?_;simp only[aa,ab]at H)
    exact ⟨_,_,_,H,.inr ⟨by omega,rfl,rfl⟩⟩
   ·refine Ae.AR (ts:=AD) (pre:=[]) (post:=[]) (x:=o) (H.get 0 rfl) rfl ?_;have CO:OX w0 o t:=⟨d+1,h⟩
    have e2:=e0.tr H.ext;refine (jT (CO.AB e2) hh.1 (by omega) (by omega) h9 (hT.AB e2)).mono ?_ fun _ _ h=>h
    rintro r w4 ⟨⟨ps,xs,hp,hx,b,hr,hb,hbn⟩,e4⟩;have hw:=H.ext.size;have h1:=(((Hm.of (B:=[c2]) hj (by simp[n2]) (by simp[k2.lt])).new hR (H.ext.tr e4)).more (b:=b) hb.lt fun hs=>by have:=hR.lt hj _ hs;omega)
    have:=XV _ _ hp;exact ZQ hR h1 hr hb ((H.ext.tr e4).AR k2 id) (by rw[hx.len];omega) hp hx
end
end Wt
namespace Wt
open Sh Fix Tk Tl Vl Go.Lib
open Go.RowKit
theorem Ext.put{F:Nat->Prop}{a w:World}(h:Ext F a w){l:Nat}(o:Obj)(hl:F l\/a.heap.size<=l):Ext F a (w.putObj l o):=
 ⟨h.os,h.tape,h.output,by have:=h.size;simp[World.putObj];exact this,fun i hi hn=>by
  have BI:i≠l:=fun e=>by
   subst e;rcases hl with hl|hl
   ·exact hn hl
   ·omega
  rw[World.putObj_heap_other BI];exact h.block i hi hn⟩
theorem QL {w:World}{b l:Nat}{cs:Array Value}{t:TypeId}(h:AN w b cs t)(o:Obj)(hn:b≠l):AN (w.putObj l o) b cs t:=by
 unfold AN at h⊢;rw[World.putObj_heap_other hn];exact h
theorem XY:∀{E:Env} {t:Nat} {v:Value},E.get? t=some v->(t,v)∈E
 |(s,u)::r,t,v,h=>by
  unfold Env.get? at h;cases hb:Nat.beq s t with
  |true=>
   rw[hb]at h;simp only[aS]at h;rw[<-h,<-b5 hb];exact aw ..
  |false=>
   rw[hb]at h;exact av _ (XY h)
theorem Ao {N:Nat}{E E':Env}{a a':Act}(h:Fits N E a)(ht:a'.tmps=a.tmps)(hp:∀p∈E',E.get? p.1=some p.2):Fits N E' a':=⟨by rw[ht];exact h.size,fun t v hv=>by
 rw[ht];exact h.get t v (hp _ (XY hv))⟩
theorem GA:El prog 23 9 1 16 (.string ⟨#[]⟩):=⟨by kernel_rfl,by kernel_rfl,by kernel_rfl,by kernel_rfl,rfl⟩
structure JS (w:World) (D b n0:Nat) (rec:Loop) (S:Nat->Prop) (xs:List ByteArray) (W:World):Prop where
 rc:W.heap[D+1]?=some (.loop rec)
 df:W.heap[D]?=some (.deferred (some []))
 k:∃sl:AA,AN W b #[AA.v sl] 23/\Row W sl 9 1 (xs.map Value.string)/\sl.len=xs.length/\(∀j,S j↔(j=D\/j=D+1\/j=b\/sl.own j))/\∀j,sl.own j->n0<=j
 ext:Ext (fun _=>False) w W
 sz:n0<=W.heap.size
section
variable {w W W':World} {D b n0:Nat} {rec:Loop} {S:Nat->Prop} {xs:List ByteArray} {x:ByteArray}
theorem JS.lt(h:JS w D b n0 rec S xs W):∀j,S j->j<W.heap.size:=fun j hj=>by
 obtain ⟨sl,k1,k2,k3,k4,k5⟩:=h.k;rcases (k4 j).1 hj with rfl|rfl|rfl|q
 ·exact (aj.1 h.df).1
 ·exact (aj.1 h.rc).1
 ·exact k1.lt
 ·exact k2.own_lt q
theorem JS.AB{F:Nat->Prop}(hw:w.heap.size<=n0)(h:JS w D b n0 rec S xs W)(he:Ext F W W')(hF:∀j,F j->¬S j/\n0<=j):JS w D b n0 rec S xs W':=by
 obtain ⟨sl,k1,k2,k3,k4,k5⟩:=h.k;have hn:∀{j:Nat},(j=D\/j=D+1\/j=b\/sl.own j)->¬F j:=fun q f=>(hF _ f).1 ((k4 _).2 q)
 exact ⟨(he.block _ (aj.1 h.rc).1 (hn (.inr (.inl rfl)))).trans h.rc,(he.block _ (aj.1 h.df).1 (hn (.inl rfl))).trans h.df,
  ⟨sl,he.AR k1 (hn (.inr (.inr (.inl rfl)))),k2.AB he fun j hj hh=>hn (.inr (.inr (.inr hj))) hh,k3,k4,k5⟩,Ext.Bw h.ext he fun j hj=>by have:=(hF j hj).2;omega,by have:=h.sz;have:=he.size;omega⟩
attribute [local irreducible] Ld Sh.St Nw Nn AU
theorem xu {fn:FuncId}{tmps:Array Value}{K:Bool->World->Prop}(hj:JS w D b n0 (Ad fn tmps #[7] HP HR D) S xs W)(DN:w.heap.size<=b/\b<D/\D+1<n0)(hlen:xs.length<4000000)(hf:Fits 13 [(2,.pointer (some ⟨b,0,none⟩))] {tmps:=tmps,defers:=[]})
  (hK:∀S' W',JS w D b n0 (Ad fn tmps #[7] HP HR D) S' (xs++[x]) W'->Ext S W W'->(∀j,S' j->S j\/W.heap.size<=j)->K true W'):Yl prog (D+1) #[.string x] W K:=by
 obtain ⟨s1,s2,s3⟩:=DN;refine QJ (N:=13) (F:=⟨FF,CG,fun _ _=>False⟩) okF (fun _ _ h=>h) hj.rc rfl (E:=[(7,.string x),(2,.pointer (some ⟨b,0,none⟩))]) ?_ (pa:=ABt) (pb:=ABv) (by kernel_rfl) (by kernel_rfl) ?_
 ·have e9:GK #[7] #[.string x] tmps=tmps.setIfInBounds 7 (.string x):=by simp[GK]
  rw[e9];exact hf.put (d:=some 7) (v:= .string x) (fun t ht=>by cases ht;decide)
 rw[AI4];unfold ABu;refine ⟨hj.rc,?_⟩;rw[AI5];unfold ABw;obtain ⟨sl,q1,q2,q3,q4,q5⟩:=hj.k;have hD:=(aj.1 hj.rc).1;have eP:Ext (·=D+1) W (W.putObj (D+1) (.loop {Ad fn tmps #[7] HP HR D with state:= .busy})):=Ext.put (Ext.refl _ _) _ (.inl rfl);have p1:=eP.AR q1 (by omega);have p2:=q2.AB eP fun j hj e=>by have:=q5 j hj;have e:j=D+1:=e;omega
 have h0:(W.putObj (D+1) (.loop {Ad fn tmps #[7] HP HR D with state:= .busy})).heap[D+1]?=_:=World.putObj_heap_same hD;generalize hu:W.putObj (D+1) (.loop {Ad fn tmps #[7] HP HR D with state:= .busy})=u at eP p1 p2 h0⊢;have hDu:=(aj.1 h0).1;have Xm:=eP.size;have hn0:=hj.sz;refine Ld.of p1 rfl ?_;refine (Hn.start u).nw (cs:=[.string x]) fun u2 H2=>?_
 have e2:=H2.ext;obtain ⟨s',u3,r1,r2,r3,e3,r5⟩:=GA.O4 (ty:=23) (p2.AB e2 fun _ _ e=>e) (H2.get 0 rfl) rfl (fun v hv=>by rw[ao.1 hv];rfl) (by omega) (by omega);refine ⟨s',u3,r1,?_⟩;have CF:∀j,s'.own j->n0<=j:=fun j hj=>(r5 j hj).elim (q5 j) fun h=>by have:=e2.size;omega
 have xH:=e3.AR (e2.AR p1 id) fun hj=>by have:=q5 _ hj;omega
 have hlu:b<u3.heap.size:=xH.lt;unfold Sh.St;have e4:Ext (·=b) u3 (u3.setCell ⟨b,0,none⟩ (AA.v s')):=(Ext.refl (·=b) u3).set (.inl rfl) _;have k4':AN (u3.setCell ⟨b,0,none⟩ (AA.v s')) b #[AA.v s'] 23:=xH.set 0 _;refine ⟨xH.can (by simp),?_⟩;generalize u3.setCell ⟨b,0,none⟩ (AA.v s')=u4 at e4 k4'⊢;have a1:=e2.size;have a2:=e3.size;have pf:u4.heap[D+1]?=some (.loop {Ad fn tmps #[7] HP HR D with state:= .busy}):=by
  rw[e4.block (D+1) (by omega) (by show ¬D+1=b;omega),e3.block (D+1) (by omega) (fun hj=>by have:=q5 _ hj;omega),e2.block (D+1) hDu (fun h=>h)];exact h0
 have hD4:=(aj.1 pf).1;have E4:Ext (fun j=>j=D+1\/j=b\/sl.own j) W u4:=
  Ext.trans (F:=fun j=>j=D+1\/sl.own j) (Ext.trans (F:=fun j=>j=D+1) (Ext.trans (F:=fun j=>j=D+1) eP e2 (fun _ h=>h) fun _ _ h=>h.elim) e3 (fun _ h=> .inl h) fun _ _ h=> .inr h) e4 (fun _ h=>h.elim .inl fun h=> .inr (.inr h)) fun _ _ h=> .inr (.inl h)
 have nb:∀{c:Nat},c<n0->c≠D+1->c≠b->¬(c=D+1\/c=b\/sl.own c):=fun h1 h2 h3 h=>by
  rcases h with h|h|h
  ·exact h2 h
  ·exact h3 h
  ·have:=q5 _ h;omega
 have EP:Ext (·=D+1) u4 (u4.putObj (D+1) (.loop (Ad fn tmps #[7] HP HR D))):=Ext.put (Ext.refl _ _) _ (.inl rfl);have es:=E4.size;refine ⟨pf,hK (fun j=>j=D\/j=D+1\/j=b\/s'.own j) _ ?_ ?_ ?_⟩
 ·refine ⟨World.putObj_heap_same hD4,(World.putObj_heap_other (by omega)).trans ((E4.block D (by omega) (nb (by omega) (by omega) (by omega))).trans hj.df),⟨s',QL k4' _ (by omega),?_,by rw[r3,q3,ae];rfl,fun j=>Iff.rfl,CF⟩,?_,?_⟩
  ·rw[aP];refine (r2.AB e4 fun j hj (e:j=b)=>?_).AB EP fun j hj (e:j=D+1)=>?_
   ·have:=CF j hj;omega
   ·have:=CF j hj;omega
  ·exact Ext.Bw (Ext.Bw hj.ext E4 (by rintro j (h|h|h);omega;omega;have:=q5 _ h;omega)) EP fun j (hj:j=D+1)=>by omega
  ·simp only[World.putObj_size];omega
 ·refine (E4.trans (H:=S) EP (fun j h=>?_) fun j _ (h:j=D+1)=>(q4 j).2 (.inr (.inl h)));rcases h with h|h|h
  ·exact (q4 j).2 (.inr (.inl h))
  ·exact (q4 j).2 (.inr (.inr (.inl h)))
  ·exact (q4 j).2 (.inr (.inr (.inr h)))
 ·rintro j (h|h|h|h)
  ·exact .inl ((q4 j).2 (.inl h))
  ·exact .inl ((q4 j).2 (.inr (.inl h)))
  ·exact .inl ((q4 j).2 (.inr (.inr (.inl h))))
  ·rcases r5 j h with h|h
   ·exact .inl ((q4 j).2 (.inr (.inr (.inr h))))
   ·exact .inr (by omega)
end
end Wt
namespace Wt
open Sh Fix Tk Tl Vl Go.Lib
open Go.RowKit
abbrev pa (b:Nat):Value:= .pointer (some ⟨b,0,none⟩)
section
variable {w W W':World} {n0 l c:Nat} {S:Nat->Prop} {J:(Nat->Prop)->List ByteArray->World->Prop} {o:Ob} {t:Tr} {ty:TypeId}
attribute [local irreducible] Ld Sh.St Nw Nn Lt AU Ae Am
theorem jW (hR:oB n0 l J)(h:OX w o t)(BS:CL 1 t=true)(h9:t.k≠9)(hT:Tl.PT w)(hl:KR t<=4000000)(e0:Ext (fun _=>False) w W)(hn:n0<=W.heap.size)(hS:∀j,S j->w.heap.size<=j)(hj:J S [] W)(hc:AN W c (AF o).toArray ty):
  WS l ⟨c,0,none⟩ W fun W'=>∃ps xs S',PT t ps/\Tx xs ps/\J S' xs W':=by
 obtain ⟨d,h⟩:=h;unfold WS;refine (Hn.start W).nw (cs:=[yv l]) fun w1 H=>?_
 refine H.nw (cs:=[Value.nilFunc]) fun w2 H=>?_
 simp only[ad,ag,add_lit,ak]at H⊢;refine H.st 1 rfl (by simp) fun w3 H=>?_
 simp only[aa,ab]at H;refine H.ld 1 rfl rfl ?_;refine Ae.AR (ts:=AD) (pre:=[]) (post:=[]) (x:=o) (by rw[ad,aX];exact H.ext.AR hc id) rfl ?_;have q2:=H.ge 1 rfl;refine XX (jV hR hT d o t w3 S [] 1 h BS (by omega) h9 (e0.tr H.ext) (bB hn H.ext.size) hS (hR.AB hj H.ext fun _ h=>h.elim) (H.get 0 rfl) (H.get 1 rfl) (fun hs=>by have:=hR.lt hj _ hs;omega) (fun hs=>by have:=hR.lt hj _ hs;omega) (by rw[aV];omega)) ?_;rintro b w' ⟨_,ps,xs,S',hp,hx,j3,_,_⟩;exact ⟨ps,xs,S',hp,hx,j3⟩
abbrev sl0:List Value:=[AA.v ⟨none,0,0⟩]
theorem jX:Tryz.f80.body=some (.seq ABp (.seq (.seq ABr (.block 0 (.rangeFunc (.tmp 6) #[7] HP HR))) vG)):=by kernel_rfl
theorem AEJ (h:OX w o t)(BS:CL 1 t=true)(h9:t.k≠9)(hT:Tl.PT w)(hl:KR t<=4000000)(hc:AN w c (AF o).toArray ty):
  C80 ⟨none,0,0⟩ (.func (.func 81) #[] #[pa c]) w fun r w1=>(∃ps xs,PT t ps/\Tx xs ps/\B9 w1 r 1 (xs.map Value.string))/\Ext (fun _=>False) w w1:=by
 refine (callsIn_wide (n:=0)).1 ?_;refine callsIn_of_wp_marks Tryz.func80 jX trivial ?_ rfl;obtain ⟨f1,nR⟩:∃f1:Value,f1= .func (.func 81) #[] #[pa c]:=⟨_,rfl⟩
 rw[<-nR];have pg:Fits 13 [(1,f1),(0,AA.v ⟨none,0,0⟩)] {tmps:=#[AA.v ⟨none,0,0⟩,f1]++Array.replicate (Tryz.f80.ntmps-#[AA.v ⟨none,0,0⟩,f1].size) undef,defers:=[]}:=Ao (KG (args:=[AA.v ⟨none,0,0⟩,f1]) (n:=13) (by simp)) rfl fun p hp=>by
  simp only[ar,aF,bp]at hp;rcases hp with rfl|rfl<;>rfl
 obtain ⟨a0,pj,pn⟩:∃a0:Act,a0={tmps:=#[AA.v ⟨none,0,0⟩,f1]++Array.replicate (Tryz.f80.ntmps-#[AA.v ⟨none,0,0⟩,f1].size) undef,defers:=[]}/\a0.defers=[]:=⟨_,rfl,rfl⟩
 rw[<-pj]at pg⊢;clear pj;refine Vi (F:=⟨FF,CG,fun _ _=>False⟩) ND.wide okF (fun _ _ h=>h) (pl:=ABq) (K:=fun E w1=>E=[(4,AA.v ⟨none,0,0⟩),(2,pa w.heap.size),(1,f1),(0,AA.v ⟨none,0,0⟩)]/\Hn w w1 [(w.heap.size,sl0,23)]) (by
  rw[AI1];exact (Hn.start w).nw (cs:=sl0) fun w1 H=>⟨rfl,H⟩) pg (by kernel_rfl) ?_
 rintro E a1 w1 ⟨rfl,H1⟩ xL NC;rw[pn]at NC;refine wpIn_seq ?_;have hfB:Fits 13 [(2,pa w.heap.size),(1,f1)] a1:=Ao xL rfl fun p hp=>by
  simp only[ar,aF,bp]at hp;rcases hp with rfl|rfl<;>rfl
 refine Vi (F:=⟨FF,CG,fun _ _=>False⟩) ND.wide okF (fun _ _ h=>h) (pl:=ABs) (K:=fun E w2=>E=[(6,f1),(2,pa w.heap.size),(1,f1)]/\w2=w1) (by
  rw[AI3];exact ⟨rfl,rfl⟩) hfB (by kernel_rfl) ?_
 rintro E a4 w4 ⟨rfl,rfl⟩ iX po;rw[NC]at po;have k2:=H1.get 0 rfl;have l2:=k2.lt;have e4:=H1.ext;have hev:a4.eval (.tmp 6)= .func (.func 81) #[] #[pa c]:=by rw[<-nR];exact iX.Ag (x:= .tmp 6) rfl
 refine wpIn_block ?_;refine iU okF hev (by kernel_rfl) fun fn=>?_
 obtain ⟨wr,SI⟩:∃wr,wr=xD w4 fn a4.tmps #[7] HP HR:=⟨_,rfl⟩
 have er:Ext (fun _=>False) w4 wr:=by rw[SI];exact ((Ext.refl _ w4).alloc _).alloc _
 have VD:wr.heap[w4.heap.size+1]?=some (.loop (Ad fn a4.tmps #[7] HP HR w4.heap.size)):=by
  rw[SI];have:=World.alloc_heap_new (w4.alloc (.deferred (some []))) (.loop (Ad fn a4.tmps #[7] HP HR w4.heap.size));rwa[World.size_alloc]at this
 have N5:wr.heap[w4.heap.size]?=some (.deferred (some [])):=by
  rw[SI];exact (Below.heap_alloc _ _ _ (by simp)).trans (World.alloc_heap_new w4 _)
 have hsr:w4.heap.size+1<wr.heap.size:=(aj.1 VD).1;have hw4:=e4.size;have QD:∀j,¬(⟨none,0,0⟩:AA).own j:=fun j hj=>by obtain ⟨a,ha,_⟩:=hj;cases ha
 have j4:JS w w4.heap.size w.heap.size wr.heap.size (Ad fn a4.tmps #[7] HP HR w4.heap.size) (fun j=>j=w4.heap.size\/j=w4.heap.size+1\/j=w.heap.size\/(⟨none,0,0⟩:AA).own j) [] wr:=
  ⟨VD,N5,⟨⟨none,0,0⟩,er.AR k2 (fun h=>h),Row.nil _ _ _,rfl,fun j=>Iff.rfl,fun j hj=>(QD j hj).elim⟩,e4.tr er,az _⟩
 have hR:oB wr.heap.size (w4.heap.size+1) (JS w w4.heap.size w.heap.size wr.heap.size (Ad fn a4.tmps #[7] HP HR w4.heap.size)):=
  ⟨fun h=>h.lt,fun h he hF=>h.AB (by omega) he hF,fun h hlen hK=>xu h ⟨by omega,by omega,by omega⟩ hlen (Ao iX rfl fun p hp=>by rw[ao.1 hp];rfl) hK⟩
 rw[<-SI];refine (ACX (w4.heap.size+1) ⟨c,0,none⟩ wr _ (jW hR h BS h9 hT hl (e4.tr er) (az _) (fun j hj=>by
  rcases hj with h|h|h|h
  ·omega
  ·omega
  ·omega
  ·exact (QD j h).elim) j4 ((e4.tr er).AR hc id))).mono ?_
 rintro e W2 ⟨rfl,ps,xs,S',hp,hx,Qm⟩;refine ⟨⟨_,rfl⟩,Qm.rc,?_⟩;obtain ⟨sl,z1,z2,z3,_,z4⟩:=Qm.k;refine wpIn_mono (wpIn_wide.2 (CW (N:=13) (F:=⟨FF,CG,fun _ _=>False⟩) okF Gw vG ABx [(2,pa w.heap.size)] _
  (rtK fun r W'=>r=sl/\B9 W' sl 1 (xs.map Value.string)/\W'.heap[w4.heap.size]?=some (.deferred (some []))/\Ext (fun _=>False) w W') _ ?_ (Ao iX rfl fun p hp=>by
   rw[ao.1 hp];rfl) (by kernel_rfl))) fun e a' w' hq=>?_
 ·rw[AI7];unfold ABy;have eP:Ext (·=w4.heap.size+1) W2 (W2.putObj (w4.heap.size+1) (.loop {Ad fn a4.tmps #[7] HP HR w4.heap.size with state:= .exhausted})):=Ext.put (Ext.refl _ _) _ (.inl rfl);refine Ld.of (eP.AR z1 (by omega)) rfl ⟨rfl,?_,?_,?_⟩
  ·exact (z2.AB eP fun j hj e=>by have:=z4 j hj;have e:j=w4.heap.size+1:=e;omega).view
  ·exact (World.putObj_heap_other (by omega)).trans Qm.df
  ·exact Ext.put Qm.ext _ (.inr (by omega))
 ·rcases hq with ⟨E',hr,hfe,hse⟩|⟨_,_,hp,_⟩
  ·cases e<;>try exact hr.elim
   unfold rtK at hr;simp only at hr;split at hr
   ·rename_i a n m g2;obtain ⟨rfl,hv,j5,KB⟩:=hr;have Sp:Fits 13 [(4,AA.v ⟨a,n,m⟩)] a':=Ao hfe rfl fun p hp=>by
     rw[ao.1 hp];exact g2
    have eD:Ext (·=w4.heap.size) w' (w'.putObj w4.heap.size (.deferred none)):=Ext.put (Ext.refl _ _) _ (.inl rfl);have TO:=hv.AI eD fun j hj e=>by have:=z4 j hj;have e:j=w4.heap.size:=e;omega
    obtain ⟨v,v1,sv,v2,v3⟩:=CX (P:=prog) (fn:=Tryz.f80) (w':=w'.putObj w4.heap.size (.deferred none)) (tys:=[(.one .BJ)]) Sp (R:=fun r W=>B9 W r 1 (xs.map Value.string)/\Ext (fun _=>False) w W) ⟨TO,Ext.put KB _ (.inr (by omega))⟩;show LeavesInM _ _ _ _ _ _ a'.defers _ _;rw[hse.2,po];exact ⟨by simp,.inl ⟨_,_,rfl,run_takeDeferred j5,v,v1,sv,v2,⟨ps,xs,hp,hx,v3.1⟩,v3.2⟩⟩
   ·exact hr.elim
  ·exact hp.elim
end
end Wt
set_option maxRecDepth 512
set_option maxHeartbeats 200000
section
open Sh
abbrev pC:List Da:=[.int .i64,.int .i64,.int .i64,.int .i64]
end
set_option maxRecDepth 100000
set_option maxHeartbeats 4000000
namespace Wt
open Sh Fix Tk Tl Vl
theorem GL {n:Int}{T D:By}(h:Bg n T D):T.length<=22:=by
 have:=h.d21;rw[h.t,ae];split<;>simp<;>omega
theorem TL {n:Int}{T W P:By}(h:Bz n T W P):T.length<=12:=by
 have:=h.w6;have:=(Cv h.p h.p4).2.2.2.2;rw[h.t,ae,ae,au];split<;>simp<;>omega
theorem XZ (s:ByteArray):(IS (bl s)).length<=4*s.size+2:=by
 have:=Ba Mz (bl s);have hz:=AE s;unfold IS;rw[au,ae,bo];omega
theorem M5 (s:ByteArray):(Ci (bl s)).length<=3*s.size+1:=by
 have:=Ba M0 (bl s);have hz:=AE s;unfold Ci;rw[au];omega
theorem oD:(AY OH).t.length<=200000:=by decide
theorem jY:(AY GD).t.length<=200000:=by decide
theorem oE:(AY KE).t.length<=200000:=by decide
theorem xv:(AY VR).t.length<=200000:=by decide
theorem oF:(Ap [91]).t.length<=200000:=by decide
theorem jZ:(Ap [93]).t.length<=200000:=by decide
theorem AEK:(Ap [60,60]).t.length<=200000:=by decide
theorem AEL:(Ap [62,62]).t.length<=200000:=by decide
theorem Vt {n:Int}{T D:By}(h:Bg n T D)(_:-2147483647<=n)(_:n<=2147483647):(Ax T n).t.length<=200000:=bB (GL h) (by decide)
theorem oG {n:Int}{T W P:By}(h:Bz n T W P)(_:JJ n=true):(Oe T n).t.length<=200000:=bB (TL h) (by decide)
theorem xw {b:ByteArray}(h:b.size<=32767):(R8 b).t.length<=200000:=bB (XZ b) (by omega)
theorem Wq {s:ByteArray}(h:Dz s=true):s.size<=127:=by
 unfold Dz at h;simp only[ai]at h;simpa using h.1
theorem Xa {b:ByteArray}(h:Dz b=true):(Ds b).t.length<=200000:=bB (M5 b) (by have:=Wq h;omega)
mutual
theorem ja {deep:Int}:∀(t:Tr) (ps:List Pt),CL deep t=true->PT t ps->∀p∈ps,p.t.length<=200000
 | .mk k n g s ks kids,ps,h,hp=>by
  rw[CL,ai]at h;obtain ⟨h,hL⟩:=h;have hc:=FA h;rw[PT]at hp;rcases hp with ⟨rfl,rfl⟩|⟨rfl,rfl⟩|⟨rfl,T,D,hI,rfl⟩|⟨rfl,T,W,P,hT,rfl⟩|⟨rfl,rfl⟩|⟨rfl,rfl⟩|⟨rfl,q,hq,rfl⟩|⟨rfl,q,hq,rfl⟩|⟨rfl,T,D,U,E,hI,hJ,rfl⟩
  ·exact fun p hm=>by rw[ao.1 hm];exact oD
  ·exact fun p hm=>by
    rw[ao.1 hm];split
    ·exact jY
    ·exact oE
  ·have hc:=(hc (by simp[Tr.k])).1 rfl;exact fun p hm=>by rw[ao.1 hm];exact Vt hI hc.1 hc.2
  ·have hc:=(hc (by simp[Tr.k])).2.1 rfl;exact fun p hm=>by rw[ao.1 hm];exact oG hT hc
  ·have hc:=(hc (by simp[Tr.k])).2.2.1 rfl;exact fun p hm=>by rw[ao.1 hm];exact xw hc
  ·have hc:=(hc (by simp[Tr.k])).2.2.2.1 rfl;exact fun p hm=>by rw[ao.1 hm];exact Xa hc.2
  ·exact fun p hm=>by
    rcases ar.1 hm with rfl|hm
    ·exact oF
    ·rcases aK.1 hm with hm|hm
     ·exact p3 kids q hL hq p hm
     ·rw[ao.1 hm];exact jZ
  ·have hr:=GB (Ei h rfl);exact fun p hm=>by
    rcases ar.1 hm with rfl|hm
    ·exact AEK
    ·rcases aK.1 hm with hm|hm
     ·exact p5 ks kids q hr hL hq p hm
     ·rw[ao.1 hm];exact AEL
  ·have hc:=(hc (by simp[Tr.k])).2.2.2.2 rfl;exact fun p hm=>by
    simp only[ar,aF,bp]at hm;have h1:(1<=n/\n<=8191)/\0<=g/\g<=65535:=hc;rcases hm with rfl|rfl|rfl
    ·exact Vt hI (by omega) (by omega)
    ·exact Vt hJ (by omega) (by omega)
    ·exact xv
theorem p3 {deep:Int}:∀(l:List Tr) (ps:List Pt),Ta deep l=true->PL l ps->∀p∈ps,p.t.length<=200000
 |[],ps,h,hp,p,hm=>by
  rw[PL]at hp;subst hp;cases hm
 |t::r,ps,h,hp,p,hm=>by
  rw[Ta,ai]at h;rw[PL]at hp;obtain ⟨a,b,h1,h2,rfl⟩:=hp;rcases aK.1 hm with hm|hm
  ·exact ja t a h.1 h1 p hm
  ·exact p3 r b h.2 h2 p hm
theorem p5 {deep:Int}:∀(ks:List ByteArray) (l:List Tr) (ps:List Pt),(∀k∈ks,Dz k=true)->Ta deep l=true->PD ks l ps->∀p∈ps,p.t.length<=200000
 |[],[],ps,_,h,hp,p,hm=>by
  rw[PD]at hp;subst hp;cases hm
 |k::ks,t::r,ps,hk,h,hp,p,hm=>by
  rw[Ta,ai]at h;rw[PD]at hp;obtain ⟨a,b,h1,h2,rfl⟩:=hp;rcases ar.1 hm with rfl|hm
  ·exact Xa (hk k (aw ..))
  ·rcases aK.1 hm with hm|hm
   ·exact ja t a h.1 h1 p hm
   ·exact p5 ks r b (fun x hx=>hk x (av _ hx)) h.2 h2 p hm
 |_::_,[],_,_,_,hp,_,_=>by rw[PD]at hp;exact hp.elim
 |[],_::_,_,_,_,hp,_,_=>by rw[PD]at hp;exact hp.elim
end
def tl:List Pt->Nat
 |[]=>0
 |p::r=>p.t.length+1+tl r
theorem M6:∀(a b:List Pt),tl (a++b)=tl a+tl b
 |[],b=>by rw[ad,tl];omega
 |p::a,b=>by rw[ag,tl,tl,M6 a b];omega
theorem LP:∀(ps:List Pt) (last:UInt8),(Af last (ps.map (·.t))).length<=tl ps
 |[],last=>by simp[Af]
 |p::r,last=>by
  rw[aB,tl];by_cases h:p.t=[]
  ·rw[h,join_nil];have:=LP r last;omega
  ·rw[join_cons last h,ae,ae];have:=LP r (p.t.getLastD 0);generalize Af (p.t.getLastD 0) (r.map (·.t))=z at this⊢;split<;>simp<;>omega
def yD:List ByteArray->Nat
 |[]=>0
 |k::r=>4*k.size+8+yD r
mutual
def zQ:Tr->Nat
 | .mk _ _ _ s ks kids=>60+4*s.size+yD ks+oQ kids
def oQ:List Tr->Nat
 |[]=>0
 |t::r=>zQ t+oQ r
end
mutual
theorem Z3:∀(t:Tr) (ps:List Pt),PT t ps->tl ps<=zQ t
 | .mk k n g s ks kids,ps,hp=>by
  rw[zQ];have h1:=XZ s;have h2:=M5 s;rw[PT]at hp;rcases hp with ⟨rfl,rfl⟩|⟨rfl,rfl⟩|⟨rfl,T,D,hI,rfl⟩|⟨rfl,T,W,P,hT,rfl⟩|⟨rfl,rfl⟩|⟨rfl,rfl⟩|⟨rfl,q,hq,rfl⟩|⟨rfl,q,hq,rfl⟩|⟨rfl,T,D,U,E,hI,hJ,rfl⟩
  ·simp only[tl,AY,OH,au,aV];omega
  ·split<;>simp only[tl,AY,GD,KE,au,aV]<;>omega
  ·have:=GL hI;simp only[tl,Ax];omega
  ·have:=TL hT;simp only[tl,Oe];omega
  ·simp only[tl,R8];omega
  ·simp only[tl,Ds];omega
  ·have:=p6 kids q hq;simp only[tl,M6,Ap,au,aV];omega
  ·have:=p7 ks kids q hq;simp only[tl,M6,Ap,au,aV];omega
  ·have:=GL hI;have:=GL hJ;simp only[tl,Ax,AY,VR,au,aV];omega
theorem p6:∀(l:List Tr) (q:List Pt),PL l q->tl q<=oQ l
 |[],q,h=>by rw[PL]at h;subst h;exact bJ _
 |t::r,q,h=>by
  rw[PL]at h;obtain ⟨a,b,h1,h2,rfl⟩:=h;have:=Z3 t a h1;have:=p6 r b h2;rw[M6,oQ];omega
theorem p7:∀(ks:List ByteArray) (l:List Tr) (q:List Pt),PD ks l q->tl q<=yD ks+oQ l
 |[],[],q,h=>by rw[PD]at h;subst h;exact bJ _
 |k::ks,t::r,q,h=>by
  rw[PD]at h;obtain ⟨a,b,h1,h2,rfl⟩:=h;have:=Z3 t a h1;have:=p7 ks r b h2;have:=M5 k;rw[tl,M6,oQ,yD];simp only[Ds];omega
 |_::_,[],q,h=>by rw[PD]at h;exact h.elim
 |[],_::_,q,h=>by rw[PD]at h;exact h.elim
end
section
variable {w:World} {o:Ob} {t:Tr}
attribute [local irreducible] Ld Sh.St Nw Nn Lt AU Ae Am
theorem kS (h:OX w o t)(hT:Tl.PT w)(hl:KR t<=4000000):
  C26 o w (fun r e w1=>((e=0/\CL 1 t=true/\t.k≠9/\∃ps,PT t ps/\bl r=Af 32 (ps.map (·.t)))\/(e≠0/\(CL 1 t=false\/t.k=9)))/\Ext (fun _=>False) w w1) fun _ _=>False:=by
 refine T26 _ _ _ _ ?_;unfold S26;rw[Al];refine (Hn.start w).nw (cs:=AF o) fun w2 H=>?_
 simp only[ad]at H;obtain ⟨⟨hk,_⟩,_⟩:=h.out;refine Ae.AR (ts:=AD) (pre:=[]) (post:=[]) (x:=o) (H.get 0 rfl) rfl ?_;refine (Ko (h.AB H.ext)).mono ?_ fun _ _ h=>h
 rintro e w3 ⟨he,e3⟩;have H:=H.AB e3;refine Br.ne (fun q=>?_) fun q=>H.ld 0 rfl rfl (Br.eq (fun q9=>?_) fun q9=>?_)
 ·rcases he with ⟨_,rfl⟩|⟨ho,_⟩
  ·exact absurd rfl q
  ·exact ⟨.inr ⟨q,.inl ho⟩,H.ext⟩
 ·exact ⟨.inr ⟨by decide,.inr (by omega)⟩,H.ext⟩
 ·rcases he with ⟨ho,_⟩|⟨_,he⟩
  ·refine Ae.AR (ts:=AD) (pre:=[]) (post:=[]) (x:=o) (H.get 0 rfl) rfl ?_;refine T50 _ _ _ _ ?_;unfold S50;rw[Al];refine H.JC (cs:=AF o) fun w4 H4 _=>?_
   refine T49 _ _ _ ?_;unfold S49;refine (AEJ (h.AB H4.ext) ho (by omega) (hT.AB H4.ext) hl (H4.get 1 rfl)).mono ?_;rintro r w5 ⟨⟨ps,xs,hp,hx,hV⟩,e5⟩;have zY:=XV _ _ hp;refine (Z2 hV (by rw[hx.len];omega) fun x hxm=>?_).mono ?_
   ·obtain ⟨p,hpm,e⟩:∃p∈ps,p.t=bl x:=by
     have:bl x∈ps.map (·.t):=by rw[<-hx];exact bE hxm
     simpa using this
    have:=ja t ps ho hp p hpm;rw[e]at this;exact (AE x).symm▸this
   rintro r w6 ⟨hr,e6⟩;refine ⟨.inl ⟨rfl,ho,by omega,ps,hp,by rw[hr,hx]⟩,(H4.ext.tr e5).tr e6⟩
  ·exact absurd q he
end
end Wt
namespace Wt
open Sh Fix Tk Tl Vl
theorem Br.t{b:Bool}{A B:Prop}(h:b=true)(k:A):Br b A B:=Sh.Br.t h k
theorem Br.f{b:Bool}{A B:Prop}(h:b=false)(k:B):Br b A B:=Sh.Br.f h k
abbrev Kl:Ob:=(0,0,0,⟨#[]⟩,⟨none,0,0⟩,⟨none,0,0⟩)
section
variable {w0 w w1 W:World} {F:Nat->Prop} {L:List (Nat×Array Value×TypeId)} {b:Nat} {t:TypeId} {s:ByteArray} {a c:Nat} {v:Value}
theorem Hx.MT(h:Hx w0 F w L)(i:Nat){z:Array Value}(hi:L[i]?=some (b,z,t))(hz:z.size=6)(hF:F b\/w0.heap.size<=b){o:Ob}{K:World->Prop}(k:∀w2,Hx w0 F w2 (L.set i (b,(AF o).toArray,t))->Ext (·=b) w w2->K w2):Am ⟨b,0,none⟩ 0 AD o w K:=by
 refine Am.AR (ts:=AD) (pre:=[]) (zs:=z.toList) (post:=[]) (t:=t) (by simpa using h.get i hi) rfl (by simpa using hz) fun w2 hb he=>?_
 rw[ad,aX,Al]at hb;exact k w2 (h.G8 i hi hb he hF) he
theorem Hx.OE(h:Hx w0 F w L)(i:Nat){o:Ob}(hi:L[i]?=some (b,(AF o).toArray,t)){K:Ob->Prop}(k:K o):Ae w ⟨b,0,none⟩ 0 AD K:=
 Ae.AR (ts:=AD) (pre:=[]) (post:=[]) (x:=o) (by rw[ad,aX];exact h.get i hi) rfl k
abbrev oM (t:TT):Array Value:=#[.int .i64 t.1,.int .i64 t.2.1,.int .i64 t.2.2.1,.int .i64 t.2.2.2.1,.string t.2.2.2.2]
abbrev tk0:Array Value:=#[.int .i64 0,.int .i64 0,.int .i64 0,.int .i64 0,.string ⟨#[]⟩]
def Es (w:World)(b:Nat)(s:ByteArray)(a:Nat):Prop:=AN w b #[.string s,.int .i64 (a:Int)] 220
theorem Es.AB(h:Es w b s a)(he:Ext F w w1)(hn:¬F b):Es w1 b s a:=he.AR h hn
def CN (s:ByteArray)(a:Nat)(P:TT->Int->Prop):Prop:=∀w,FW s (a:Int) w fun r e w1=>P r e/\Ext (fun _=>False) w w1
theorem CN.mono{P Q:TT->Int->Prop}(h:CN s a P)(hq:∀r e,P r e->Q r e):CN s a Q:=fun w=>(h w).mono fun r e w1 hh=>⟨hq _ _ hh.1,hh.2⟩
theorem Cj.next{p:Pt}{ps:List Pt}(h:Cj s a (p::ps) c):∃x a':Nat,CN s a (fun r e=>r=p.tok (x:Int) (a':Int)/\e=0)/\p.k≠0/\Cj s a' ps c:=by
 cases h with
 |cons ha h k0 k=>exact ⟨_,_,fun w=>(h w).mono fun r e w1 hh=>⟨⟨hh.1,hh.2.1⟩,hh.2.2⟩,k0,k⟩
attribute [local irreducible] Ld Sh.St Nw Nn AU Ae Am BW
def mh (k:Int)(s:ByteArray):Bool:=
 if k=5 then s.toList==(⟨#[116,114,117,101]⟩:cN).toList||s.toList==(⟨#[102,97,108,115,101]⟩:cN).toList||s.toList==(⟨#[110,117,108,108]⟩:cN).toList
 else if k=6 then s.toList==(⟨#[91]⟩:cN).toList||s.toList==(⟨#[60,60]⟩:cN).toList else true
theorem F6 (t:TT)(w:World):la t w fun r w1=>r=mh t.1 t.2.2.2.2/\Ext (fun _=>False) w w1:=by
 refine AIE _ _ _ ?_;unfold AA5 mh;refine (Hx.start w (fun _=>False)).nw fun w2 H=>?_
 simp only[ad,add_lit,ak]at H⊢;refine H.ld 0 rfl rfl (Br.eq (fun h=>?_) fun h=>Br.eq (fun h6=>?_) fun h6=>?_)
 ·rw[aG h];refine H.ld 0 rfl rfl ?_;cases h1:(t.2.2.2.2.toList==(⟨#[116,114,117,101]⟩:cN).toList)with
  |true=>exact Br.t rfl ⟨rfl,H.ext⟩
  |false=>
   refine Br.f rfl (H.ld 0 rfl rfl ?_);cases h2:(t.2.2.2.2.toList==(⟨#[102,97,108,115,101]⟩:cN).toList)with
   |true=>exact Br.t rfl ⟨rfl,H.ext⟩
   |false=>exact Br.f rfl (H.ld 0 rfl rfl ⟨rfl,H.ext⟩)
 ·rw[aA h,aG h6];refine H.ld 0 rfl rfl ?_;cases h1:(t.2.2.2.2.toList==(⟨#[91]⟩:cN).toList)with
  |true=>exact Br.t rfl ⟨rfl,H.ext⟩
  |false=>exact Br.f rfl (H.ld 0 rfl rfl ⟨rfl,H.ext⟩)
 ·rw[aA h,aA h6];exact ⟨rfl,H.ext⟩
theorem Jk (t:TT)(k:Int)(x:ByteArray)(w:World):eV t k x w fun r w1=>r=((t.1==k)&&(t.2.2.2.2.toList==x.toList))/\Ext (fun _=>False) w w1:=by
 refine AIH _ _ _ _ _ ?_;unfold AA7;refine (Hx.start w (fun _=>False)).nw fun w2 H=>?_
 simp only[ad,add_lit,ak]at H⊢;refine H.ld 0 rfl rfl (Br.eq (fun h=>H.ld 0 rfl rfl ⟨?_,H.ext⟩) fun h=>⟨?_,H.ext⟩)
 ·rw[bU.2 h,bW]
 ·rw[bw.2 h,Bool.false_and]
theorem mi (n g:Int)(w:World):uX n g w fun r w1=>r=(8,n,g,⟨#[]⟩,⟨none,0,0⟩,⟨none,0,0⟩)/\Ext (fun _=>False) w w1:=by
 refine AII _ _ _ _ ?_;unfold AA8;refine (Hx.start w (fun _=>False)).nw fun w2 H=>?_
 simp only[ad]at H;exact Hx.MT H 0 rfl rfl (.inr (az _)) fun w3 H3 _=>Hx.OE H3 0 rfl ⟨rfl,H3.ext⟩
theorem Zy (w:World):UN w fun r w1=>r=Kl/\Ext (fun _=>False) w w1:=by
 refine AID _ _ ?_;unfold AA4;refine (Hx.start w (fun _=>False)).nw fun w2 H=>?_
 simp only[ad]at H;exact Hx.MT H 0 rfl rfl (.inr (az _)) fun w3 H3 _=>Hx.OE H3 0 rfl ⟨rfl,H3.ext⟩
theorem EA (x:ByteArray)(w:World):uZ x w fun r w1=>r=(4,0,0,x,⟨none,0,0⟩,⟨none,0,0⟩)/\Ext (fun _=>False) w w1:=by
 refine AIL _ _ _ ?_;unfold ABB;refine (Hx.start w (fun _=>False)).nw fun w2 H=>?_
 simp only[ad]at H;exact Hx.MT H 0 rfl rfl (.inr (az _)) fun w3 H3 _=>Hx.OE H3 0 rfl ⟨rfl,H3.ext⟩
theorem AC9 (x:ByteArray)(w:World):ug x w fun r w1=>r=(5,0,0,x,⟨none,0,0⟩,⟨none,0,0⟩)/\Ext (fun _=>False) w w1:=by
 refine AIM _ _ _ ?_;unfold ABC;refine (Hx.start w (fun _=>False)).nw fun w2 H=>?_
 simp only[ad]at H;exact Hx.MT H 0 rfl rfl (.inr (az _)) fun w3 H3 _=>Hx.OE H3 0 rfl ⟨rfl,H3.ext⟩
theorem gF (y:Bool)(w:World):uh y w fun r w1=>r=(1,if y=true then 1 else 0,0,⟨#[]⟩,⟨none,0,0⟩,⟨none,0,0⟩)/\Ext (fun _=>False) w w1:=by
 refine AIN _ _ _ ?_;unfold ABD;refine (Hx.start w (fun _=>False)).nw fun w2 H=>?_
 have hg:=H.size;refine H.nw fun w3 H=>?_
 simp only[ad,ag,add_lit,ak]at H⊢;refine Hx.MT H 1 rfl rfl (.inr hg) fun w4 H _=>?_
 simp only[aa,ab]at H;cases y with
 |true=>
  refine Br.t rfl (H.st 1 rfl (by decide) (.inr hg) fun w5 H=>?_);simp only[aa,ab]at H;refine Hx.OE H 1 (o:=(1,1,0,⟨#[]⟩,⟨none,0,0⟩,⟨none,0,0⟩)) rfl (Hx.MT H 0 rfl rfl (.inr (az _)) fun w6 H _=>Hx.OE H 0 rfl ⟨rfl,H.ext⟩)
 |false=>exact Br.f rfl (Hx.OE H 1 rfl (Hx.MT H 0 rfl rfl (.inr (az _)) fun w6 H _=>Hx.OE H 0 rfl ⟨rfl,H.ext⟩))
theorem Th (n:Int)(w:World):C25 n w fun r w1=>r=(2,n,0,⟨#[]⟩,⟨none,0,0⟩,⟨none,0,0⟩)/\Ext (fun _=>False) w w1:=by
 refine T25 _ _ _ ?_;unfold S25
 first
  |
   refine (Hx.start w (fun _=>False)).nw fun w2 H=>?_
   simp only[ad,ag,add_lit,ak]at H⊢;exact Hx.MT H 0 rfl rfl (.inr (az _)) fun w4 H _=>Hx.OE H 0 rfl ⟨rfl,H.ext⟩
  |
   refine (Hn.start w).nw (cs:=AF Kl) fun w2 H=>?_
   simp only[ad,add_lit,ak,AF]at H⊢
   iterate 6 (refine H.st 0 rfl (by simp) fun _ H=>?_;simp only[aa,ab]at H)
   iterate 6 refine H.ld 0 rfl rfl ?_
   exact ⟨rfl,H.ext⟩
theorem mj (n:Int)(w:World):uY n w fun r w1=>r=(3,n,0,⟨#[]⟩,⟨none,0,0⟩,⟨none,0,0⟩)/\Ext (fun _=>False) w w1:=by
 refine AIK _ _ _ ?_;unfold ABA
 first
  |
   refine (Hx.start w (fun _=>False)).nw fun w2 H=>?_
   simp only[ad,ag,add_lit,ak]at H⊢;exact Hx.MT H 0 rfl rfl (.inr (az _)) fun w4 H _=>Hx.OE H 0 rfl ⟨rfl,H.ext⟩
  |
   refine (Hn.start w).nw (cs:=AF Kl) fun w2 H=>?_
   simp only[ad,add_lit,ak,AF]at H⊢
   iterate 6 (refine H.st 0 rfl (by simp) fun _ H=>?_;simp only[aa,ab]at H)
   iterate 6 refine H.ld 0 rfl rfl ?_
   exact ⟨rfl,H.ext⟩
theorem Pz (hb:AN w b #[.string s,v] t){P:TT->Int->Prop}(h:CN s a P):lb (some ⟨b,0,none⟩) (a:Int) w fun r ok w1=>(∃e,P r e/\ok=(e==0))/\Ext (fun _=>False) w w1:=by
 refine AIF _ _ _ _ ?_;unfold AA6;refine (Hn.start w).nw (cs:=tk0.toList) fun w2 H=>Nn.of ?_
 simp only[ad,add_lit,ak]at H⊢;refine Ld.of (H.ext.AR hb id) rfl ((h w2).mono ?_);rintro r e w3 ⟨hp,e3⟩;have H:=H.AB e3;refine H.nw (cs:=tk0.toList) fun w4 H=>?_
 simp only[ad,ag]at H
 iterate 5 (refine H.st 1 rfl (by simp) fun _ H=>?_;simp only[aa,ab]at H)
 iterate 5 refine H.ld 1 rfl rfl ?_
 iterate 5 (refine H.st 0 rfl (by simp) fun _ H=>?_;simp only[aa,ab]at H)
 iterate 5 refine H.ld 0 rfl rfl ?_
 exact ⟨⟨e,hp,rfl⟩,H.ext⟩
end
end Wt
namespace Wt
open Sh Fix Tk Tl Vl
section
variable {w0 w w1 W:World} {F:Nat->Prop} {L:List (Nat×Array Value×TypeId)} {b:Nat} {t:TypeId} {s:ByteArray} {a c:Nat} {p:Pt} {ps:List Pt}
attribute [local irreducible] Ld Sh.St Nw Nn AU Ae Am BW
theorem Jl (hb:Es w b s a)(hr:Cj s a (p::ps) c){PR:Value->World->Prop}:
  YN (some ⟨b,0,none⟩) w (fun r w1=>∃x a':Nat,r=p.tok (x:Int) (a':Int)/\Cj s a' ps c/\Es w1 b s a'/\Ext (·=b) w w1) PR:=by
 obtain ⟨x,a',hn,hk,hr⟩:=hr.next
 refine AIO _ _ _ _ ?_;unfold ABE;have NG:=AN.lt hb;refine (Hx.one (F:=(·=b)) hb).nw fun w2 H=>?_
 simp only[ad,ag,add_lit,ak]at H⊢;refine ⟨fun st v=>∃k,w.heap.size<=k/\st=(⟨k,0,none⟩,0)/\Hx w (·=b) v [(b,#[.string s,.int .i64 (a:Int)],220),(w.heap.size,tk0,148),(k,oM (p.tok (x:Int) (a':Int)),148)],?_,?_⟩
 ·rintro st v ⟨k,Xe,rfl,H⟩;unfold eX;refine Br.f rfl (H.ld 2 rfl rfl (Br.f (bw.2 hk) (H.ld 2 rfl rfl (Nn.of ?_))));simp only[add_lit,ak];refine H.st 0 rfl (by simp) (.inl rfl) fun v2 H=>?_
  simp only[af,aa,ab]at H
  iterate 5 refine H.ld 2 rfl rfl ?_
  iterate 5 (refine H.st 1 rfl (by simp) (.inr (az _)) fun _ H=>?_;simp only[af,aa,ab]at H)
  iterate 5 refine H.ld 1 rfl rfl ?_
  exact ⟨x,a',rfl,hr,H.get 0 rfl,H.ext⟩
 ·refine ⟨fun v=>AN v b #[.string s,.int .i64 (a:Int)] 220,H.drew.get 0 rfl,Nn.of (AU.of (fun _ h=>h) rfl (Nn.of (AU.of (fun _ h=>h) rfl ⟨?_,?_⟩)))⟩
  ·refine (hn _).mono ?_;rintro r e w3 ⟨⟨rfl,rfl⟩,e3⟩;have H:=H.drew.AB e3;have hs:=H.size;refine H.nw fun w4 H=>?_
   simp only[ad,ag]at H
   iterate 5 (refine H.st 2 rfl (by simp) (.inr hs) fun _ H=>?_;simp only[af,aa,ab]at H)
   exact ⟨_,hs,rfl,H⟩
  ·have H:=H.drew;have hs:=H.size;refine H.nw fun w3 H=>⟨H.get 0 rfl,(hn _).mono ?_⟩
   rintro r e w4 ⟨⟨rfl,rfl⟩,e4⟩;have H:=H.AB e4;simp only[ad,ag]at H
   iterate 5 (refine H.st 2 rfl (by simp) (.inr hs) fun _ H=>?_;simp only[af,aa,ab]at H)
   exact ⟨_,hs,rfl,H⟩
def pP (s:ByteArray)(a:Nat):Prop:=CN s a fun r e=>e=0->r.1=1->∃a':Nat,r.2.2.1=(a':Int)/\CN s a' fun r2 e2=>e2=0->r2.1=5->r2.2.2.2.2.toList≠(⟨#[82]⟩:cN).toList
theorem gH (hb:Es w b s a)(x n:Int)(y:ByteArray)(k:Int)(h:pP s a):lg (some ⟨b,0,none⟩) (k,x,(a:Int),n,y) w fun r ok w1=>ok=false/\Ext (fun _=>False) w w1:=by
 refine AA9 (some ⟨b,0,none⟩) (k,x,(a:Int),n,y) w _ ?_;unfold um;refine (Hx.start w (fun _=>False)).nw fun w2 H=>?_
 have hg:=H.size;refine H.nw fun w3 H=>?_
 simp only[ad,ag,add_lit,ak]at H⊢;have out:∀{v:World} {M:List (Nat×Array Value×TypeId)} {z:Array Value} {ty:TypeId},Hx w (fun _=>False) v ((w.heap.size,oM (k,x,(a:Int),n,y),148)::(w2.heap.size,z,ty)::M)->z.size=6->
   Am (⟨w2.heap.size,0,none⟩:Addr) 0 AD Kl v fun vw=>Ae vw (⟨w2.heap.size,0,none⟩:Addr) 0 AD fun Gf=>True/\Ext (fun _=>False) w vw:=fun H hz=>
  Hx.MT H 1 rfl hz (.inr hg) fun v2 H _=>Hx.OE H 1 rfl ⟨trivial,H.ext⟩
 refine H.ld 0 rfl rfl (Br.dec (fun _=>out H rfl) fun _=>H.ld 0 rfl rfl (Br.dec (fun _=>out H rfl) fun _=>H.ld 0 rfl rfl ?_));refine (Pz (H.ext.AR hb id) h).mono ?_;rintro r ok w4 ⟨⟨e,hp,rfl⟩,e4⟩;have H:=H.AB e4;have hs:=H.size;refine H.nw fun w5 H=>?_
 simp only[ad,ag]at H
 iterate 5 (refine H.st 2 rfl (by simp) (.inr hs) fun _ H=>?_;simp only[af,aa,ab]at H)
 by_cases he:e=0
 ·refine Br.f (by rw[he];rfl) (H.ld 2 rfl rfl (Br.ne (fun _=>out H rfl) fun NS=>H.ld 2 rfl rfl (Br.dec (fun _=>out H rfl) fun _=>H.ld 2 rfl rfl (Br.dec (fun _=>out H rfl) fun _=>H.ld 2 rfl rfl ?_))));obtain ⟨a',ha,h2⟩:=hp he NS;rw[ha];refine (Pz (H.ext.AR hb id) h2).mono ?_;rintro r2 ok2 w6 ⟨⟨e2,jy,rfl⟩,e6⟩;have H:=H.AB e6;have pQ:=H.size;refine H.nw fun w7 H=>?_
  simp only[ad,ag]at H
  iterate 5 (refine H.st 3 rfl (by simp) (.inr pQ) fun _ H=>?_;simp only[af,aa,ab]at H)
  by_cases oO:e2=0
  ·refine Br.f (by rw[oO];rfl) ?_
   iterate 5 refine H.ld 3 rfl rfl ?_
   refine (Jk _ _ _ _).mono ?_;rintro q w8 ⟨rfl,e8⟩;have H:=H.AB e8;refine Br.t ?_ (out H rfl);have:=jy oO;by_cases h5:r2.1=5
   ·rw[bw.2 (this h5),Bool.and_false];rfl
   ·rw[bw.2 h5,Bool.false_and];rfl
  ·exact Br.t (by rw[bw.2 oO];rfl) (out H rfl)
 ·exact Br.t (by rw[bw.2 he];rfl) (out H rfl)
theorem Yq {n g:Int}{U:By}(hb:Es w b s a)(x:Int)(y:ByteArray)(k:Int)(h1:1<=n)(h2:n<=8191)(h3:0<=g)(h4:g<=65535)(hr:Cj s a (Ax U g::AY VR::ps) c):
  lg (some ⟨b,0,none⟩) (k,x,(a:Int),n,y) w fun r ok w1=>ok=true/\r=(8,n,g,⟨#[]⟩,⟨none,0,0⟩,⟨none,0,0⟩)/\∃a':Nat,Cj s a' ps c/\Es w1 b s a'/\Ext (·=b) w w1:=by
 obtain ⟨x1,a1,Tf,_,hr⟩:=hr.next
 obtain ⟨x2,a2,wI,_,hr⟩:=hr.next
 refine AA9 (some ⟨b,0,none⟩) (k,x,(a:Int),n,y) w _ ?_;unfold um;refine (Hx.one (F:=(·=b)) hb).nw fun w2 H=>?_
 have hg:=H.size;refine H.nw fun w3 H=>?_
 simp only[ad,ag,add_lit,ak]at H⊢;refine H.ld 1 rfl rfl (Br.dec (fun q=>by have:n<1:=q;omega) fun _=>H.ld 1 rfl rfl (Br.dec (fun q=>by have:n>8191:=q;omega) fun _=>H.ld 1 rfl rfl ?_));refine (Pz (H.get 0 rfl) Tf).mono ?_;rintro r ok w4 ⟨⟨e,⟨rfl,rfl⟩,rfl⟩,e4⟩;have H:=H.AB e4;have hs:=H.size;refine H.nw fun w5 H=>?_
 simp only[ad,ag]at H
 iterate 5 (refine H.st 3 rfl (by simp) (.inr hs) fun _ H=>?_;simp only[af,aa,ab]at H)
 refine Br.f rfl (H.ld 3 rfl rfl (Br.f rfl (H.ld 3 rfl rfl (Br.dec (fun q=>by have:g<0:=q;omega) fun _=>H.ld 3 rfl rfl (Br.dec (fun q=>by have:g>65535:=q;omega) fun _=>H.ld 3 rfl rfl ?_)))));refine (Pz (H.get 0 rfl) wI).mono ?_;rintro r2 ok2 w6 ⟨⟨e2,⟨rfl,rfl⟩,rfl⟩,e6⟩;have H:=H.AB e6;have pQ:=H.size;refine H.nw fun w7 H=>?_
 simp only[ad,ag]at H
 iterate 5 (refine H.st 4 rfl (by simp) (.inr pQ) fun _ H=>?_;simp only[af,aa,ab]at H)
 refine Br.f rfl ?_
 iterate 5 refine H.ld 4 rfl rfl ?_
 refine (Jk _ _ _ _).mono ?_;rintro q w8 ⟨rfl,e8⟩;have H:=H.AB e8;refine Br.f (show (!(((5:Int)==5)&&((ba VR).toList==(⟨#[82]⟩:cN).toList)))=false by decide+kernel) (H.ld 4 rfl rfl (Nn.of ?_));simp only[add_lit,ak];refine H.st 0 rfl (by simp) (.inl rfl) fun v2 H=>?_
 simp only[af,aa,ab]at H;refine H.ld 1 rfl rfl (H.ld 3 rfl rfl ((mi _ _ _).mono ?_));rintro r w9 ⟨rfl,e9⟩;have H:=H.AB e9;refine Hx.MT H 2 rfl rfl (.inr hg) fun v2 H _=>Hx.OE H 2 rfl ⟨trivial,rfl,a2,hr,H.get 0 rfl,H.ext⟩
end
end Wt
set_option maxRecDepth 8000
namespace Wt
open Sh Fix Tk Tl Vl
def yq (p:Pt):Prop:=p.k=5/\p.s.toList=(⟨#[82]⟩:cN).toList
def Eu (rest:List Pt):Prop:=∃p m,rest=p::m/\(p.k=1->∃q m2,m=q::m2/\¬yq q)
def SB (rest:List Pt):Prop:=∃q m,rest=q::m/\q.k≠1/\¬yq q
def pR (rest:List Pt):Prop:=∃q m,rest=q::m/\¬yq q
theorem SB.gI{rest:List Pt}(h:SB rest):Eu rest:=by
 obtain ⟨q,m,h1,h2,h3⟩:=h;exact ⟨q,m,h1,fun h=>absurd h h2⟩
theorem SB.first{rest:List Pt}(h:SB rest):pR rest:=by
 obtain ⟨q,m,h1,h2,h3⟩:=h;exact ⟨q,m,h1,h3⟩
theorem Yr {s:ByteArray}{a c:Nat}{rest:List Pt}(h:Cj s a rest c)(k:Eu rest):pP s a:=by
 obtain ⟨p,m,rfl,hp⟩:=k;obtain ⟨x,a',hn,_,h⟩:=h.next
 refine hn.mono ?_;rintro r e ⟨rfl,rfl⟩ _ h1;obtain ⟨q,m2,rfl,hq⟩:=hp h1;obtain ⟨x2,a2,wI,_,_⟩:=h.next
 refine ⟨a',rfl,wI.mono ?_⟩;rintro r e ⟨rfl,rfl⟩ _ h5 h82;exact hq ⟨h5,h82⟩
theorem G2 {p:Pt}(h:p.k≠5):¬yq p:=fun e=>h e.1
theorem F9 {t:Tr}{ps:List Pt}(h:PT t ps):∃p m,ps=p::m/\¬yq p/\mh p.k p.s=true/\¬(p.k=6/\p.s.toList=(⟨#[93]⟩:cN).toList)/\(m=[]\/p.k≠1\/∃q m2,m=q::m2/\¬yq q):=by
 cases t with
 |mk k n g s ks kids=>
  rw[PT]at h;rcases h with ⟨rfl,rfl⟩|⟨rfl,rfl⟩|⟨rfl,T,D,hI,rfl⟩|⟨rfl,T,W,P,hT,rfl⟩|⟨rfl,rfl⟩|⟨rfl,rfl⟩|⟨rfl,q,hq,rfl⟩|⟨rfl,q,hq,rfl⟩|⟨rfl,T,D,U,E,hI,hJ,rfl⟩
  ·exact ⟨_,_,rfl,fun h=>absurd h.2 (by decide+kernel),by decide+kernel,fun h=>absurd h.1 (by decide),.inl rfl⟩
  ·refine ⟨_,_,rfl,?_,?_,fun h=>absurd h.1 (show ¬(5:Int)=6 by decide),.inl rfl⟩
   ·split
    ·exact fun h=>absurd h.2 (by decide+kernel)
    ·exact fun h=>absurd h.2 (by decide+kernel)
   ·split
    ·decide+kernel
    ·decide+kernel
  ·exact ⟨_,_,rfl,G2 (show ¬(1:Int)=5 by decide),rfl,fun h=>absurd h.1 (show ¬(1:Int)=6 by decide),.inl rfl⟩
  ·exact ⟨_,_,rfl,G2 (show ¬(2:Int)=5 by decide),rfl,fun h=>absurd h.1 (show ¬(2:Int)=6 by decide),.inl rfl⟩
  ·exact ⟨_,_,rfl,G2 (show ¬(3:Int)=5 by decide),rfl,fun h=>absurd h.1 (show ¬(3:Int)=6 by decide),.inl rfl⟩
  ·exact ⟨_,_,rfl,G2 (show ¬(4:Int)=5 by decide),rfl,fun h=>absurd h.1 (show ¬(4:Int)=6 by decide),.inl rfl⟩
  ·exact ⟨_,_,rfl,G2 (by decide),by decide+kernel,fun h=>absurd h.2 (by decide+kernel),.inr (.inl (by decide))⟩
  ·exact ⟨_,_,rfl,G2 (by decide),by decide+kernel,fun h=>absurd h.2 (by decide+kernel),.inr (.inl (by decide))⟩
  ·exact ⟨_,_,rfl,G2 (show ¬(1:Int)=5 by decide),rfl,fun h=>absurd h.1 (show ¬(1:Int)=6 by decide),.inr (.inr ⟨_,_,rfl,G2 (show ¬(1:Int)=5 by decide)⟩)⟩
theorem SC:∀{l:List Tr} {qs rest:List Pt},PL l qs->SB rest->Eu (qs++rest)/\pR (qs++rest)
 |[],qs,rest,h,k=>by
  rw[PL]at h;subst h;exact ⟨k.gI,k.first⟩
 |t::r,qs,rest,h,k=>by
  rw[PL]at h;obtain ⟨a,b,h1,h2,rfl⟩:=h;obtain ⟨_,q,m,e,hq⟩:=SC h2 k;obtain ⟨p,m1,rfl,hp,_,_,h3⟩:=F9 h1;refine ⟨⟨p,m1++(b++rest),by simp,fun h=>?_⟩,p,m1++(b++rest),by simp,hp⟩;rcases h3 with rfl|h3|⟨q2,m2,rfl,hq2⟩
  ·exact ⟨q,m,by rw[ad,e],hq⟩
  ·exact absurd h h3
  ·exact ⟨q2,m2++(b++rest),by simp,hq2⟩
theorem SD {l:By}{m:List Pt}:SB (Ap l::m):=⟨_,_,rfl,show ¬(6:Int)=1 by decide,G2 (show ¬(6:Int)=5 by decide)⟩
theorem gJ {k:ByteArray}{m:List Pt}:SB (Ds k::m):=⟨_,_,rfl,show ¬(4:Int)=1 by decide,G2 (show ¬(4:Int)=5 by decide)⟩
theorem wJ {s:ByteArray}(h:(s.toList==(⟨#[]⟩:cN).toList)=true):s=⟨#[]⟩:=by
 have h:=eq_of_beq h;rw[ByteArray.toList_eq,ByteArray.toList_eq]at h;have:s.data=#[]:=Array.toList_inj.1 h;exact ByteArray.ext this
theorem IU {deep:Int}{k n g:Int}{s:ByteArray}{ks:List ByteArray}{kids:List Tr}{u:Us}(h:A3 deep (.mk k n g s ks kids)=true)(hu:CV k=some u):(u.n=false->n=0)/\(u.g=false->g=0)/\(u.s=false->s=⟨#[]⟩)/\(u.ks=false->ks=[])/\(u.kids=false->kids=[]):=by
 unfold A3 at h;simp only[ai,Tr.k]at h;rw[hu]at h;obtain ⟨_,h⟩:=h;unfold Ck at h;simp only[ai,bA,Tr.n,Tr.g,Tr.s,Tr.ks,Tr.kids]at h;obtain ⟨⟨⟨⟨⟨⟨h1,h2⟩,h3⟩,h4⟩,h5⟩,_⟩,_⟩:=h;refine ⟨fun e=>?_,fun e=>?_,fun e=>?_,fun e=>?_,fun e=>?_⟩
 ·rw[e]at h1;simpa using h1
 ·rw[e]at h2;simpa using h2
 ·rw[e]at h3;exact wJ (by simpa using h3)
 ·rw[e]at h4;simpa using h4
 ·rw[e]at h5;simpa using h5
theorem Cz {S:Nat->Prop}{w:World}{k n g:Int}{s:ByteArray}:FT S w (k,n,g,s,⟨none,0,0⟩,⟨none,0,0⟩) (.mk k n g s [] []):=
 ⟨1,⟨rfl,rfl,rfl,rfl⟩,⟨KV.nil w,fun h=>absurd rfl h⟩,[],⟨⟨rfl,⟨rfl,fun j v hj=>by simp at hj⟩⟩,fun h=>absurd rfl h⟩,trivial⟩
theorem Jm {S:Nat->Prop}{w:World}:∀{L:List Ob} {ts:List Tr},Ar (FT S w) L ts->∃d,Ar (LC S w d) L ts
 |[],[],_=>⟨0,trivial⟩
 |o::L,t::ts,h=>by
  obtain ⟨d1,h1⟩:=h.1;obtain ⟨d2,h2⟩:=Jm h.2;exact ⟨max d1 d2,h1.le (Nat.le_max_left _ _),h2.imp fun _ _ k=>k.le (Nat.le_max_right _ _)⟩
end Wt
set_option maxRecDepth 512
set_option maxHeartbeats 200000
namespace Sh
open Go.WideMaps Go.WideShapes Go.Maps
abbrev Ke:Type:=List (Int×Value)
def Qi (E:List MapEntry)(L:Ke):Prop:=E.map (fun e=>(e.key,e.val))=L.map fun p=>((.int .i64 p.1:Value),p.2)
structure Hr (w:World) (b:Nat) (L:Ke):Prop where
 AR:∃(E:Array MapEntry) (clock:Nat),w.heap[b]?=some (.map E clock)/\Qi E.toList L
 one:(L.map (·.1)).Nodup
 Yk:∀p∈L,(Lit.int .i64 p.1).wf=true
 born:∀(E:Array MapEntry) (clock:Nat),w.heap[b]?=some (.map E clock)->(E.toList.map (·.born)).Nodup/\∀e∈E.toList,e.born<clock
def Eh:Ke->Int->Option Value
 |[],_=>none
 |p::L,k=>if p.1=k then some p.2 else Eh L k
def D7:Ke->Int->Value->Ke
 |[],k,v=>[(k,v)]
 |p::L,k,v=>if p.1=k then (k,v)::L else p::D7 L k v
theorem ft (L:Ke)(k:Int)(v:Value)(j:Int):Eh (D7 L k v) j=if j=k then some v else Eh L j:=by
 induction L with
 |nil=>
  show (if k=j then some v else none)=_;by_cases h:j=k
  ·rw[aG h,aG h.symm]
  ·rw[aA h,aA (fun e=>h e.symm)]
   rfl
 |cons p L ih=>
  unfold D7;by_cases hp:p.1=k
  ·rw[aG hp];show (if k=j then some v else Eh L j)=if j=k then some v else (if p.1=j then some p.2 else Eh L j)
   by_cases h:j=k
   ·rw[aG h,aG h.symm]
   ·rw[aA h,aA (fun e=>h e.symm),aA (fun e=>h (e.symm.trans hp))]
  ·rw[aA hp];show (if p.1=j then some p.2 else Eh (D7 L k v) j)=if j=k then some v else (if p.1=j then some p.2 else Eh L j)
   by_cases h1:p.1=j
   ·rw[aG h1,aG h1,aA (fun e=>hp (h1.trans e))]
   ·rw[aA h1,aA h1,ih]
theorem Ym {L:Ke}{k:Int}(h:k∉L.map (·.1)):Eh L k=none:=by
 induction L with
 |nil=>rfl
 |cons p L ih=>
  rw[aB]at h;unfold Eh;rw[aA (fun e=>h (by rw[e];exact aw ..))];exact ih fun hm=>h (av _ hm)
section
variable {P:Program} {w:World} {t k e:TypeId} {b:Nat} {L:Ke} {z:Value}
theorem Hr.AI{F:Nat->Prop}{w':World}(h:Hr w b L)(he:Ext F w w')(hb:¬F b):Hr w' b L:=by
 obtain ⟨E,c,h1,h2⟩:=h.AR;have hl:=(aj.1 h1).1;exact ⟨⟨E,c,by rw[he.block b hl hb];exact h1,h2⟩,h.one,h.Yk,fun E' c' h'=>h.born E' c' (by rw[<-he.block b hl hb];exact h')⟩
theorem Hr.AB{w':World}(h:Hr w b L)(he:Ext (fun _=>False) w w'):Hr w' b L:=h.AI he id
theorem Hr.lt(h:Hr w b L):b<w.heap.size:=by
 obtain ⟨E,c,h1,h2⟩:=h.AR;exact (aj.1 h1).1
theorem Hr.new(w:World):Hr (w.alloc (.map #[] 0)) w.heap.size []:=⟨⟨#[],0,by show (w.heap.push _)[w.heap.size]?=_;simp,rfl⟩,cI,fun p hp=>(by cases hp),fun E c h=>by
 have h:(w.heap.push (.map #[] 0))[w.heap.size]?=some (.map E c):=h;simp only[Array.getElem?_push_size,aS,Obj.map.injEq]at h;rw[<-h.1];simp⟩
theorem N7 (L:Ke)(k:Int)(v:Value):(k∈L.map (·.1)/\(D7 L k v).map (·.1)=L.map (·.1))\/(k∉L.map (·.1)/\D7 L k v=L++[(k,v)]):=by
 induction L with
 |nil=>exact .inr ⟨by simp,rfl⟩
 |cons p L ih=>
  unfold D7;by_cases hp:p.1=k
  ·rw[aG hp];exact .inl ⟨by rw[aB,hp];exact aw ..,by rw[aB,aB,hp]⟩
  ·rw[aA hp];rcases ih with ⟨h1,h2⟩|⟨h1,h2⟩
   ·exact .inl ⟨av _ h1,by rw[aB,aB,h2]⟩
   ·exact .inr ⟨fun h=>by
     rw[aB]at h;rcases ar.1 h with h|h
     ·exact hp h.symm
     ·exact h1 h,by rw[h2];rfl⟩
theorem HZ {L:Ke}(h:(L.map (·.1)).Nodup)(k:Int)(v:Value):((D7 L k v).map (·.1)).Nodup:=by
 rcases N7 L k v with ⟨_,h2⟩|⟨h1,h2⟩
 ·rw[h2];exact h
 ·rw[h2,aP];exact bO.2 ⟨h,by simp,fun a ha c hc e=>h1 (by rw[aB,bj,ao]at hc;rw[<-show c=k from hc,<-e];exact ha)⟩
theorem R5 {L:Ke}{k:Int}{v:Value}(h:∀p∈L,(Lit.int .i64 p.1).wf=true)(hk:(Lit.int .i64 k).wf=true):∀p∈D7 L k v,(Lit.int .i64 p.1).wf=true:=by
 induction L with
 |nil=>intro p hp;rw[ao.1 hp];exact hk
 |cons q L ih=>
  intro p hp;unfold D7 at hp;split at hp
  ·rcases ar.1 hp with rfl|hp
   ·exact hk
   ·exact h p (av _ hp)
  ·rcases ar.1 hp with rfl|hp
   ·exact h p (aw ..)
   ·exact ih (fun p hp=>h p (av _ hp)) p hp
theorem Pr {L:Ke}(h:(L.map (·.1)).Nodup){j:Nat}{k:Int}{x:Value}(hj:L[j]?=some (k,x)):Eh L k=some x/\∀v,D7 L k v=L.set j (k,v):=by
 induction L generalizing j with
 |nil=>cases hj
 |cons p L ih=>
  cases j with
  |zero=>
   cases hj;exact ⟨by unfold Eh;rw[aG rfl],fun v=>by unfold D7;rw[aG rfl];rfl⟩
  |succ j=>
   have hj:L[j]?=some (k,x):=by simpa using hj
   rw[aB,List.nodup_cons]at h;have BI:¬p.1=k:=fun e=>h.1 (by rw[e];exact bx.2 ⟨_,ax hj,rfl⟩)
   obtain ⟨h1,h2⟩:=ih h.2 hj;refine ⟨?_,fun v=>?_⟩
   ·unfold Eh;rw[aA BI];exact h1
   ·unfold D7;rw[aA BI,h2]
    rfl
theorem Qi.get{E:List MapEntry}(h:Qi E L){i:Nat}{x:MapEntry}(hi:E[i]?=some x):∃p,L[i]?=some p/\x.key= .int .i64 p.1/\x.val=p.2:=by
 have h1:(E.map fun e=>(e.key,e.val))[i]?=some (x.key,x.val):=by rw[aH,hi];rfl
 rw[h,aH]at h1;obtain ⟨p,hp,h2⟩:=aN.1 h1;exact ⟨p,hp,(aq Prod.fst h2).symm,(aq Prod.snd h2).symm⟩
theorem Qi.keys{E:List MapEntry}(h:Qi E L)(hk:P.underlying k=some (.int .i64))(hs:∀p∈L,(Lit.int .i64 p.1).wf=true):∀x∈E,∃l,keyOf P k x.key=some l:=fun x hx=>by
 obtain ⟨i,hi⟩:=aZ hx;obtain ⟨p,hp,h1,_⟩:=h.get hi;exact ⟨_,by rw[h1];exact keyOf_int_mk hk (hs p (ax hp))⟩
theorem Ps {E:List MapEntry}(h:Qi E L)(hn:(L.map (·.1)).Nodup)(hk:P.underlying k=some (.int .i64))(hs:∀p∈L,(Lit.int .i64 p.1).wf=true){key:Int}(Cy:(Lit.int .i64 key).wf=true)(w:World):
  ((Instr.findKey k (.int .i64 key) E).run P w= .ok none w/\Eh L key=none/\key∉L.map (·.1))\/∃j x,(Instr.findKey k (.int .i64 key) E).run P w= .ok (some (j,x)) w/\L[j]?=some (key,x)/\(E[j]?).map (·.key)=some (.int .i64 key):=by
 rcases (int_keyed hk).find w (keyOf_int_mk hk Cy) E (h.keys hk hs)with ⟨h1,h2⟩|⟨j,x,h1,h2,h3⟩
 ·have no:key∉L.map (·.1):=fun hm=>by
   obtain ⟨p,hp,e⟩:=bx.1 hm;obtain ⟨i,hi⟩:=aZ hp;have hl:(E.map fun e=>(e.key,e.val))[i]?=some ((.int .i64 p.1:Value),p.2):=by rw[h,aH,hi];rfl
   rw[aH]at hl;obtain ⟨x,hx,h4⟩:=aN.1 hl;refine h2 x (ax hx) ?_;exact (aq Prod.fst h4).trans (by rw[e])
  exact .inl ⟨h1,Ym no,no⟩
 ·obtain ⟨p,hp,h4,h5⟩:=h.get h2;have mV:p.1=key:=by
   rw[h3]at h4;exact (Value.int.inj h4).2.symm
  exact .inr ⟨j,x.val,h1,by rw[hp,h5,<-mV],by rw[h2];exact aq some h3⟩
theorem Hr.look(h:Hr w b L)(ht:P.underlying t=some (.map k e))(hk:P.underlying k=some (.int .i64))(hz:(zeroValue e).run P w= .ok z w){key:Int}(Cy:(Lit.int .i64 key).wf=true):
  Ai P (Instr.lookup t (.map (some b)) (.int .i64 key) false) w ((Eh L key).getD z) w:=by
 obtain ⟨E,c,hb,hE⟩:=h.AR;have DS:=keyOf_int_mk hk Cy;have Pv:=(int_keyed hk).check w E.isEmpty DS;rcases Ps hE h.one hk h.Yk Cy w with ⟨h1,h2,_⟩|⟨j,x,h1,h2,_⟩
 ·rw[h2];simp[Ai,Instr.lookup,run_underlying ht,MapKept.run_getObj_map hb,Pv,h1,hz,Result.andThen]
 ·rw[(Pr h.one h2).1];simp[Ai,Instr.lookup,run_underlying ht,MapKept.run_getObj_map hb,Pv,h1,Result.andThen]
theorem Hr.put(h:Hr w b L)(ht:P.underlying t=some (.map k e))(hk:P.underlying k=some (.int .i64)){key:Int}(Cy:(Lit.int .i64 key).wf=true)(v:Value):
  ∃w',VL P (Instr.mapUpdate t (.map (some b)) (.int .i64 key) v) w w'/\Hr w' b (D7 L key v)/\Ext (·=b) w w':=by
 obtain ⟨E,c,hb,hE⟩:=h.AR;have DS:=keyOf_int_mk hk Cy;have Pv:=(int_keyed hk).check w false DS;have ext:∀o:Obj,Ext (·=b) w {w with heap:=w.heap.setIfInBounds b o}:=fun o=>⟨rfl,rfl,rfl,by simp,fun i hi hn=>by
  show (w.heap.setIfInBounds b o)[i]?=_;rw[bR (fun e=>hn e.symm)]⟩
 have here:∀o:Obj,({w with heap:=w.heap.setIfInBounds b o}:World).heap[b]?=some o:=fun o=>by
  show (w.heap.setIfInBounds b o)[b]?=_;rw[bP (aj.1 hb).1]
 rcases Ps hE h.one hk h.Yk Cy w with ⟨h1,h2,h3⟩|⟨j,x,h1,h2,h3⟩
 ·refine ⟨{w with heap:=w.heap.setIfInBounds b (.map (E.push {key:= .int .i64 key,val:=v,born:=c}) (c+1))},?_,⟨⟨_,_,here _,?_⟩,HZ h.one _ _,R5 h.Yk Cy,fun E' c' h'=>?_⟩,ext _⟩;rotate_left 2
  ·rw[here]at h';simp only[aS,Obj.map.injEq]at h';obtain ⟨rfl,rfl⟩:=h';obtain ⟨b1,b2⟩:=h.born E c hb;rw[Array.toList_push];refine ⟨?_,fun e he=>?_⟩
   ·rw[aP,bO];refine ⟨b1,by simp,fun x hx y hy e=>?_⟩;simp only[aB,bj,ao]at hy;obtain ⟨z,hz,rfl⟩:=bx.1 hx;have:=b2 z hz;omega
   ·rcases aK.1 he with he|he
    ·have:=b2 e he;omega
    ·rw[ao.1 he];exact Nat.lt_succ_self _
  ·simp[VL,Instr.mapUpdate,run_underlying ht,MapKept.run_getObj_map hb,Pv,h1,Result.andThen,MapKept.run_setObj_map _ hb]
  ·rcases N7 L key v with ⟨h4,_⟩|⟨_,h4⟩
   ·exact absurd h4 h3
   ·rw[h4];unfold Qi at hE⊢;rw[Array.toList_push,aP,hE,aP]
    rfl
 ·obtain ⟨y,hy,hy2⟩:=aN.1 h3;have hyE:E[j]?=some y:=by simpa using hy
  refine ⟨{w with heap:=w.heap.setIfInBounds b (.map (E.modify j fun e=>{e with key:= .int .i64 key,val:=v}) c)},?_,⟨⟨_,_,here _,?_⟩,HZ h.one _ _,R5 h.Yk Cy,fun E' c' h'=>?_⟩,ext _⟩;rotate_left 2
  ·rw[here]at h';simp only[aS,Obj.map.injEq]at h';obtain ⟨rfl,rfl⟩:=h';obtain ⟨b1,b2⟩:=h.born E c hb;have em:(E.modify j fun e=>{e with key:= .int .i64 key,val:=v}).toList.map (·.born)=E.toList.map (·.born):=by
    rw[Array.toList_modify];apply cf;intro i;rw[aH,aH,List.getElem?_modify];by_cases HD:j=i
    ·subst HD;simp;cases E[j]?<;>rfl
    ·simp[HD]
   refine ⟨em▸b1,fun e he=>?_⟩;have:e.born∈E.toList.map (·.born):=em▸bE he;obtain ⟨z,hz,e2⟩:=bx.1 this;have:=b2 z hz;omega
  ·simp[VL,Instr.mapUpdate,run_underlying ht,MapKept.run_getObj_map hb,Pv,h1,Result.andThen,MapKept.run_setObj_map _ hb,hyE,hy2,(int_keyed hk).stays w DS]
  ·rw[(Pr h.one h2).2];unfold Qi at hE⊢;have hEi:∀i,(E.toList[i]?).map (fun e:MapEntry=>(e.key,e.val))=(L[i]?).map (fun p:Int×Value=>((.int .i64 p.1:Value),p.2)):=fun i=>by rw[<-aH,hE,aH]
   rw[Array.toList_modify];apply cf;intro i;have hL:j<L.length:=(al.1 h2).1;rw[aH,aH,List.getElem?_modify,bN];by_cases HD:j=i
   ·subst HD;rw[aG rfl,aG hL,hy];simp
   ·rw[aA HD,<-hEi i];simp[HD]
end
end Sh
namespace Pc
open Sh
abbrev BQ:Type:=Int×Int×Int×Int
def BK (x:BQ):Value:= .agg #[.int .i64 x.1,.int .i64 x.2.1,.int .i64 x.2.2.1,.int .i64 x.2.2.2]
theorem Jh {x y:BQ}(h:BK x=BK y):x=y:=by
 obtain ⟨a,b,c,d⟩:=x;obtain ⟨a',b',c',d'⟩:=y;unfold BK at h;simp at h;obtain ⟨rfl,rfl,rfl,rfl⟩:=h
 rfl
def G1 (F:List BQ):Ke:=F.foldl (fun L x=>D7 L x.1 (BK x)) []
theorem F8 (F:List BQ)(x:BQ):G1 (F++[x])=D7 (G1 F) x.1 (BK x):=by
 unfold G1;rw[List.foldl_append]
 rfl
theorem K9 {α:Type}{p:List α->Prop}(h0:p [])(hs:∀l x,p l->p (l++[x]))(l:List α):p l:=by
 have:∀r:List α,p r.reverse:=fun r=>by
  induction r with
  |nil=>exact h0
  |cons x r ih=>rw[List.reverse_cons];exact hs _ _ ih
 have h:=this l.reverse;rwa[List.reverse_reverse]at h
def FM (F:List BQ)(n:Int):Option BQ:=F.reverse.find? fun x=>x.1==n
theorem Ha (F:List BQ)(x:BQ)(n:Int):FM (F++[x]) n=if x.1=n then some x else FM F n:=by
 unfold FM;rw[List.reverse_append];show (x::F.reverse).find? _=_;rw[List.find?_cons];by_cases h:x.1=n
 ·rw[aG h,show (x.1==n)=true from bU.2 h]
 ·rw[aA h,show (x.1==n)=false from bw.2 h]
theorem We (F:List BQ)(n:Int):Eh (G1 F) n=(FM F n).map BK:=by
 induction F using K9 with
 |h0=>rfl
 |hs F x ih=>
  rw[F8,Ha,ft,ih];by_cases h:n=x.1
  ·rw[aG h,aG h.symm];rfl
  ·rw[aA h,aA fun e=>h e.symm]
theorem fw {L:Ke}{k:Int}{v:Value}{p:Int×Value}(h:p∈D7 L k v):p=(k,v)\/p∈L:=by
 induction L with
 |nil=>exact .inl (ao.1 h)
 |cons q L ih=>
  unfold D7 at h;split at h
  ·rcases ar.1 h with h|h
   ·exact .inl h
   ·exact .inr (av _ h)
  ·rcases ar.1 h with h|h
   ·exact .inr (by rw[h];exact aw ..)
   ·exact (ih h).imp id fun h=>av _ h
theorem Wf (F:List BQ):∀p∈G1 F,∃x∈F,p=(x.1,BK x):=by
 induction F using K9 with
 |h0=>intro p hp;cases hp
 |hs F x ih=>
  intro p hp;rw[F8]at hp;rcases fw hp with h|h
  ·exact ⟨x,by simp,h⟩
  ·obtain ⟨y,hy,e⟩:=ih p h;exact ⟨y,by simp[hy],e⟩
theorem Yo (F:List BQ):((G1 F).map (·.1)).Nodup:=by
 induction F using K9 with
 |h0=>exact cI
 |hs F x ih=>rw[F8];exact HZ ih _ _
theorem fx (L:Ke)(k:Int)(v:Value):(D7 L k v).length<=L.length+1:=by
 induction L with
 |nil=>exact az _
 |cons q L ih=>
  unfold D7;split
  ·simp
  ·simpa using ih
theorem Wg (F:List BQ):(G1 F).length<=F.length:=by
 induction F using K9 with
 |h0=>exact az _
 |hs F x ih=>
  have:=fx (G1 F) x.1 (BK x);rw[F8,ae,bo];omega
theorem fy {L:Ke}{k:Int}{v:Value}(h:Eh L k=some v):(k,v)∈L:=by
 induction L with
 |nil=>cases h
 |cons q L ih=>
  unfold Eh at h;split at h
  ·rename_i e;rw[<-e,<-aQ h];exact aw ..
  ·exact av _ (ih h)
theorem R9 {L:Ke}(hn:(L.map (·.1)).Nodup){k:Int}{v:Value}(h:(k,v)∈L):Eh L k=some v:=by
 obtain ⟨i,hi⟩:=aZ h;exact (Pr hn hi).1
theorem N9 {F G:List BQ}(h:(G.map BK).Perm ((G1 F).map (·.2)))(n:Int):G.find? (fun x=>x.1==n)=FM F n:=by
 have VB:∀y∈G,Eh (G1 F) y.1=some (BK y):=fun y hy=>by
  have:BK y∈(G1 F).map (·.2):=h.mem_iff.1 (bE hy);obtain ⟨p,hp,e⟩:=bx.1 this;obtain ⟨x,hx,rfl⟩:=Wf F p hp;have exy:x=y:=Jh e;subst exy;exact R9 (Yo F) hp
 cases hl:FM F n with
 |none=>
  rw[cL];intro y hy e;have e:y.1=n:=by simpa using e
  have:=VB y hy;rw[e,We,hl]at this;cases this
 |some x=>
  have Ho:x.1=n:=by
   unfold FM at hl;simpa using List.find?_some hl
  have AC6:Eh (G1 F) n=some (BK x):=by rw[We,hl];rfl
  have hm:BK x∈(G1 F).map (·.2):=bx.2 ⟨_,fy AC6,rfl⟩;have hg:BK x∈G.map BK:=h.mem_iff.2 hm;obtain ⟨y,hy,e⟩:=bx.1 hg;have:=Jh e;subst this;cases hf:G.find? (fun x=>x.1==n)with
  |none=>
   rw[cL]at hf;exact absurd (by simpa using Ho) (hf _ hy)
  |some z=>
   have zr:z.1=n:=by simpa using List.find?_some hf
   have:=VB z (List.mem_of_find?_eq_some hf);rw[zr,AC6]at this;rw[Jh (aQ this)]
theorem LA {F:List BQ}{z:BQ}(hr:∀i x y,F[i]?=some x->F[i+1]?=some y->x.1<y.1){i:Nat}{x:BQ}(hi:F[i]?=some x):FM (F++[z]) x.1=if z.1=x.1 then some z else some x:=by
 rw[Ha];split
 ·rfl
 have lt:∀(d i:Nat) (x y:BQ),F[i]?=some x->F[i+d+1]?=some y->x.1<y.1:=by
  intro d
  induction d with
  |zero=>exact fun i x y h1 h2=>hr i x y h1 h2
  |succ d ih=>
   intro i x y h1 h2;have hl:=(al.1 h2).1;have hm:=ah (show i+d+1<F.length by omega);have:=ih i x _ h1 hm;have:=hr (i+d+1) _ y hm h2;omega
 have un:∀j y,F[j]?=some y->y.1=x.1->y=x:=fun j y hj e=>by
  rcases Nat.lt_trichotomy i j with h|h|h
  ·have:=lt (j-i-1) i x y hi (by rw[show i+(j-i-1)+1=j by omega];exact hj);omega
  ·subst h;rw[hi]at hj;exact (aQ hj).symm
  ·have:=lt (i-j-1) j y x hj (by rw[show j+(i-j-1)+1=i by omega];exact hi);omega
 unfold FM;cases hf:F.reverse.find? (fun y=>y.1==x.1)with
 |none=>
  rw[cL]at hf;exact absurd (by simp) (hf x (List.mem_reverse.2 (ax hi)))
 |some y=>
  have h1:y.1=x.1:=by simpa using List.find?_some hf
  have h2:=List.mem_reverse.1 (List.mem_of_find?_eq_some hf);obtain ⟨j,hj⟩:=aZ h2;rw[un j y hj h1]
theorem fz (F:List BQ)(z:BQ):FM (F++[z]) z.1=some z:=by
 rw[Ha,aG rfl]
end Pc
set_option maxRecDepth 100000
set_option maxHeartbeats 4000000
namespace Pc
open Sh Fix Tk Tl Vl Wt
def BL (x:BQ):List Value:=[.int .i64 x.1,.int .i64 x.2.1,.int .i64 x.2.2.1,.int .i64 x.2.2.2]
def Qy (w:World)(s:AA)(F:List BQ):Prop:=(s.len=F.length/\F.length<=1000000000)/\B9 w s 4 (F.flatMap BL)
theorem Qz {F:List BQ}{i j:Nat}{x:BQ}(hi:F[i]?=some x)(hj:j<4):(F.flatMap BL)[i*4+j]?=(BL x)[j]?:=by
 induction F generalizing i with
 |nil=>cases hi
 |cons p L ih=>
  rw[bh];cases i with
  |zero=>
   cases hi;rw[cE,ak,aI (by simp[BL];omega)]
  |succ i=>
   rw[aM (by simp[BL];omega),<-ih (by simpa using hi)]
   congr 1
   simp only[BL,au,aV];omega
section
variable {w w1 w0:World} {s:AA} {F:List BQ} {n:Int}
theorem Qy.AB(h:Qy w s F)(he:Ext (fun _=>False) w w1):Qy w1 s F:=⟨h.1,h.2.AB he⟩
theorem Qy.at'(h:Qy w s F){i:Nat}{x:BQ}(hi:F[i]?=some x):∃a,s.p=some a/\w.cell? (a.add (i*4))=some (.int .i64 x.1)/\w.cell? ((a.add (i*4)).add 1)=some (.int .i64 x.2.1)/\w.cell? ((a.add (i*4)).add 2)=some (.int .i64 x.2.2.1)/\w.cell? ((a.add (i*4)).add 3)=some (.int .i64 x.2.2.2):=by
 have g:∀j v,j<4->(BL x)[j]?=some v->∃a,s.p=some a/\w.cell? ((a.add (i*4)).add j)=some v:=fun j v hj hv=>by
  obtain ⟨a,ha,hc⟩:=h.2.2 (i*4+j) v (by rw[Qz hi hj];exact hv);exact ⟨a,ha,by rw[CQ];exact hc⟩
 obtain ⟨a,ha,c0⟩:=g 0 _ (by omega) rfl;obtain ⟨a1,oV,c1⟩:=g 1 _ (by omega) rfl;obtain ⟨a2,oW,c2⟩:=g 2 _ (by omega) rfl;obtain ⟨a3,oX,c3⟩:=g 3 _ (by omega) rfl;rw[ha]at oV oW oX;cases oV;cases oW;cases oX;exact ⟨a,ha,by rw[CQ]at c0;exact c0,c1,c2,c3⟩
attribute [local irreducible] Ld Sh.St Nw Nn AU Ae Am BW
def an (F:List BQ)(n:Int)(r:Int):Prop:=(∃(i:Nat) (x:BQ),r=(i:Int)/\F[i]?=some x/\x.1=n/\∀j y,j<i->F[j]?=some y->y.1≠n)\/(r=-1/\∀y∈F,y.1≠n)
theorem zv {c:Nat}(h:Qy w s F)(hc:AN w c #[.int .i64 n] 3):C33 s (.func (.func 34) #[] #[.pointer (some ⟨c,0,none⟩)]) w fun r w1=>an F n r/\Ext (fun _=>False) w w1:=by
 refine kY _ _ _ _ ?_;unfold V6;have hlen:=h.1;refine ⟨fun k st u=>∃i:Nat,i<=F.length/\st=(i:Int)/\k=F.length-i/\Ext (fun _=>False) w u/\∀j y,j<i->F[j]?=some y->y.1≠n,F.length,⟨0,by omega,rfl,by omega,Ext.refl _ _,fun j y hj=>by omega⟩,?_⟩;rintro k st u ⟨i,hi,rfl,rfl,E,hb⟩;unfold Nj;refine Br.dec (fun Au=>?_) fun Og=>?_
 ·have Au:(i:Int)<((s.len:Nat):Int):=Au;have oY:i<F.length:=by omega
  have DP:F[i]?=some F[i]:=ah oY;obtain ⟨a,ha,c0,c1,c2,c3⟩:=(h.AB E).at' DP;refine ⟨by omega,by omega,?_⟩;rw[show (i:Int).toNat=i by omega,ha];refine Nn.of (Ld.mk c0 (Ld.mk c1 (Ld.mk c2 (Ld.mk c3 ?_))));refine T34 _ _ _ _ ?_;unfold S34;refine (Hx.start u (fun _=>False)).nw fun u2 H=>?_
  simp only[ad,ag,add_lit,ak]at H⊢;refine H.ld 0 rfl rfl (Ld.of ((E.tr H.ext).AR hc id) rfl ?_);refine Br.eq (fun he=>⟨.inl ⟨i,_,rfl,DP,he,hb⟩,E.tr H.ext⟩) fun BI=>?_
  refine ⟨F.length-(i+1),by omega,i+1,by omega,by rw[IntWalk.i64_in _ (by omega)];rfl,rfl,E.tr H.ext,fun j y hj hy=>?_⟩;by_cases Ks:j=i
  ·subst Ks;rw[DP]at hy;cases hy;exact BI
  ·exact hb j y (by omega) hy
 ·have Og:¬(i:Int)<((s.len:Nat):Int):=Og;refine ⟨.inr ⟨rfl,fun y hy=>?_⟩,E⟩;obtain ⟨j,hj⟩:=aZ hy;exact hb j y (by have:=(al.1 hj).1;omega) hj
theorem kZ {r:Int}(h:an F n r):(∃(i:Nat) (x:BQ),r=(i:Int)/\F[i]?=some x/\F.find? (fun x=>x.1==n)=some x)\/(r=-1/\F.find? (fun x=>x.1==n)=none):=by
 rcases h with ⟨i,x,rfl,hi,hx,hb⟩|⟨rfl,hn⟩
 ·refine .inl ⟨i,x,rfl,hi,?_⟩
  induction F generalizing i with
  |nil=>cases hi
  |cons y F ih=>
   cases i with
   |zero=>
    cases hi;rw[List.find?_cons,show (x.1==n)=true from bU.2 hx]
   |succ i=>
    rw[List.find?_cons,show (y.1==n)=false from bw.2 (hb 0 y (by omega) rfl)];exact ih i (by simpa using hi) fun j z hj hz=>hb (j+1) z (by omega) (by simpa using hz)
 ·exact .inr ⟨rfl,cL.2 fun y hy e=>hn y hy (by simpa using e)⟩
theorem To (h:Qy w s F)(n:Int):yI s n w fun r b w1=>((F.find? (fun x=>x.1==n)=some r/\b=true)\/(F.find? (fun x=>x.1==n)=none/\b=false))/\Ext (fun _=>False) w w1:=by
 refine T12 _ _ _ _ ?_;unfold S12;have hlen:=h.1;refine (Hx.start w (fun _=>False)).nw fun w2 H=>?_
 have hg:=H.size;refine H.nw fun w3 H=>?_
 simp only[ad,ag,add_lit,ak]at H⊢;refine (zv (h.AB H.ext) (H.get 0 rfl)).mono ?_;rintro r w4 ⟨hr,e4⟩;have H:=H.AB e4;rcases kZ hr with ⟨i,x,rfl,hi,hf⟩|⟨rfl,hf⟩
 ·have Iz:=(al.1 hi).1;obtain ⟨a,ha,c0,c1,c2,c3⟩:=(h.AB H.ext).at' hi;refine Br.dec (fun q=>by have q:(i:Int)<0:=q;omega) fun _=>⟨by omega,by omega,?_⟩
  rw[show (i:Int).toNat=i by omega,ha];refine Nn.of (Ld.mk c0 (Ld.mk c1 (Ld.mk c2 (Ld.mk c3 ?_))))
  iterate 4 (refine H.st 1 rfl (by simp) (.inr hg) fun _ H=>?_;simp only[af,aa,ab]at H)
  iterate 4 refine H.ld 1 rfl rfl ?_
  exact ⟨.inl ⟨hf,by trivial⟩,H.ext⟩
 ·refine Sh.Br.t rfl ?_
  iterate 4 (refine H.st 1 rfl (by simp) (.inr hg) fun _ H=>?_;simp only[af,aa,ab]at H)
  iterate 4 refine H.ld 1 rfl rfl ?_
  exact ⟨.inr ⟨hf,by trivial⟩,H.ext⟩
end
end Pc
set_option maxRecDepth 4000
set_option maxHeartbeats 2000000
namespace Pc
open Sh Fix Tk Tl Vl Wt
theorem IK (T:List BQ):(T.flatMap BL).length=T.length*4:=by
 induction T with
 |nil=>rfl
 |cons x T ih=>rw[bh,ae,ih,au];simp[BL];omega
theorem IL (A B:List BQ):(A++B).flatMap BL=A.flatMap BL++B.flatMap BL:=by rw[bd]
theorem Sm (x:BQ)(B:List BQ):(x::B).flatMap BL=BL x++B.flatMap BL:=by rw[bh]
def D4 (w:World)(s:AA)(T:List BQ):Prop:=Row w s 33 4 (T.flatMap BL)
section
variable {w w1:World} {s:AA} {T:List BQ}
theorem D4.len(h:D4 w s T):s.len=T.length:=by
 have:=h.1;rw[IK]at this;omega
theorem D4.view(h:D4 w s T)(hl:T.length<=1000000000):Qy w s T:=⟨⟨h.len,hl⟩,Row.view h⟩
theorem D4.get(h:D4 w s T){i:Nat}{e:BQ}(hi:T[i]?=some e):∃g,s.p=some ⟨g,0,none⟩/\∀j v,(BL e)[j]?=some v->w.cell? ⟨g,i*4+j,none⟩=some v:=by
 have Iz:=(al.1 hi).1;have hv:=Row.view h;rcases h.2 with rfl|⟨g,cur,hp,hg,hle,DN,Fi⟩
 ·have:=h.len;simp only at this;omega
 ·refine ⟨g,hp,fun j v hj=>?_⟩;have hj4:j<4:=by have:=(al.1 hj).1;simpa[BL]using this
  obtain ⟨a,ha,hc⟩:=hv.2 (i*4+j) v (by rw[Qz hi hj4];exact hj);rw[hp]at ha;cases ha;rw[add_lit,ak]at hc;exact hc
theorem D4.put{i:Nat}{y:BQ}{K:World->Prop}(h:D4 w s T)(hi:i<T.length)(k:∀w2,D4 w2 s (T.set i y)->Ext s.own w w2->K w2):∃g,s.p=some ⟨g,0,none⟩/\Am ⟨g,i*4,none⟩ 0 pC y w K:=by
 have hlen:=h.len;rcases h.2 with rfl|⟨g,cur,hp,hg,hle,DN,Fi⟩
 ·simp only at hlen;omega
 ·refine ⟨g,hp,?_⟩;have hT:T=T.take i++T[i]::T.drop (i+1):=by rw[<-cm hi,aT]
  have hS:T.set i y=T.take i++y::T.drop (i+1):=by rw[List.set_eq_take_append_cons_drop,aG hi]
  have ADh:cur.toList=(T.take i).flatMap BL++(BL T[i]++((T.drop (i+1)).flatMap BL++cur.toList.drop (s.len*4))):=by
   conv=>lhs;rw[<-aT (s.len*4) cur.toList,Fi]
   conv=>lhs;rw[hT]
   rw[IL,Sm];simp only[aD]
  have hb:AN w g ((T.take i).flatMap BL++(BL T[i]++((T.drop (i+1)).flatMap BL++cur.toList.drop (s.len*4)))).toArray 33:=by
   rw[<-ADh];exact hg
  have Oz:(T.take i).length=i:=by rw[aC];omega
  refine Am.AR (ts:=pC) (x:=y) hb (by rw[IK,Oz]) rfl fun w2 G7 e2=>?_
  refine k w2 ⟨by rw[IK,List.length_set,hlen],.inr ⟨g,_,hp,G7,hle,?_,?_⟩⟩ (e2.mono fun j _ e=>⟨_,hp,e.symm⟩)
  ·have:=aq List.length ADh;rw[aJ]at this;rw[bg,<-DN,this];simp only[ae]
   rfl
  ·show List.take (s.len*4) ((T.take i).flatMap BL++(BL y++((T.drop (i+1)).flatMap BL++cur.toList.drop (s.len*4))))=_;rw[hS,IL,Sm];have ea:(T.take i).flatMap BL++(BL y++((T.drop (i+1)).flatMap BL++cur.toList.drop (s.len*4)))=((T.take i).flatMap BL++(BL y++(T.drop (i+1)).flatMap BL))++cur.toList.drop (s.len*4):=by simp only[aD]
   rw[ea];refine cj ?_;simp only[ae,IK,BL,aC,aE,au,aV];omega
theorem D4.Yc(h:D4 w s T){i:Nat}{e:BQ}(hi:T[i]?=some e):∃g,s.p=some ⟨g,0,none⟩/\w.cell? ⟨g,i*4,none⟩=some (.int .i64 e.1)/\w.cell? ⟨g,i*4+1,none⟩=some (.int .i64 e.2.1)/\w.cell? ⟨g,i*4+2,none⟩=some (.int .i64 e.2.2.1)/\w.cell? ⟨g,i*4+3,none⟩=some (.int .i64 e.2.2.2):=by
 obtain ⟨g,hg,hc⟩:=h.get hi;exact ⟨g,hg,hc 0 _ rfl,hc 1 _ rfl,hc 2 _ rfl,hc 3 _ rfl⟩
theorem D4.ANe{i:Nat}{y:BQ}{K:World->Prop}(h:D4 w s T)(hi:i<T.length)(k:∀w2,D4 w2 s (T.set i y)->Ext s.own w w2->K w2):∃g,s.p=some ⟨g,0,none⟩/\
  Sh.St w ⟨g,i*4,none⟩ (.int .i64 y.1) fun w=>Sh.St w ⟨g,i*4+1,none⟩ (.int .i64 y.2.1) fun w=>Sh.St w ⟨g,i*4+2,none⟩ (.int .i64 y.2.2.1) fun w=>Sh.St w ⟨g,i*4+3,none⟩ (.int .i64 y.2.2.2) K:=by
 obtain ⟨g,hg,h⟩:=h.put hi k;exact ⟨g,hg,h⟩
theorem D4.ADi{i:Nat}{y:BQ}{g:Nat}{K:World->Prop}(h:D4 w s T)(hg:s.p=some ⟨g,0,none⟩)(hi:i<T.length)(k:∀w2,D4 w2 s (T.set i y)->Ext s.own w w2->K w2):
  Sh.St w ⟨g,i*4,none⟩ (.int .i64 y.1) fun w=>Sh.St w ⟨g,i*4+1,none⟩ (.int .i64 y.2.1) fun w=>Sh.St w ⟨g,i*4+2,none⟩ (.int .i64 y.2.2.1) fun w=>Sh.St w ⟨g,i*4+3,none⟩ (.int .i64 y.2.2.2) K:=by
 obtain ⟨g',Nc,h⟩:=h.ANe hi k;rw[hg]at Nc;cases Nc;exact h
theorem E7 {S:World->Prop}{α:Type}{V:α->Value}{K:α->Prop}{x:α}{a:Addr}(h:∀w,S w->w.cell? a=some (V x))(k:K x):AU S a V K:=⟨x,h,k⟩
theorem D4.still(h:D4 w s T)(he:Ext (fun _=>False) w w1):D4 w1 s T:=Row.AB h he fun _ _ e=>e
theorem set_perm {i j:Nat}{x y:BQ}(gi:T[i]?=some x)(gj:T[j]?=some y)(HD:i≠j):((T.set i y).set j x).Perm T:=by
 have hi:=(al.1 gi)
 have hj:=(al.1 gj)
 obtain ⟨li,hi⟩:=hi;obtain ⟨lj,hj⟩:=hj;subst hi hj;exact List.set_set_perm li lj
end
end Pc
namespace Pc
open Sh Fix Tk Tl Vl Wt
abbrev clR:Value:= .func (.func 59) #[] #[]
section
variable {w w1:World} {s:AA} {T:List BQ}
attribute [local irreducible] Ld Sh.St Nw Nn Lt AU Ae Am BW
theorem xF (x y:BQ)(w:World):C59 x y w fun _ w1=>Ext (fun _=>False) w w1:=by
 refine T59 _ _ _ _ ?_;unfold S59;refine (Hx.start w (fun _=>False)).nw fun w2 H=>?_
 refine H.nw fun w3 H=>?_
 simp only[ad,ag,add_lit,ak]at H⊢;refine H.ld 0 rfl rfl (H.ld 1 rfl rfl ?_);refine T60 _ _ _ _ ?_;unfold S60;refine T97 _ _ _ ?_;unfold S97;refine T97 _ _ _ ?_;unfold S97;refine Sh.Br.f (by simp) (Sh.Br.f (by simp) (Br.dec (fun _=>H.ext) fun _=>Br.dec (fun _=>H.ext) fun _=>H.ext))
theorem Vk {n:Nat}(h:D4 w s T)(hn:T.length=n)(hl:n<=1000000):
  vK s 0 (n:Int) clR w fun w1=>Ext s.own w w1/\∃T':List BQ,T'.Perm T/\D4 w1 s T':=by
 refine ew _ _ _ _ _ ?_;unfold Rg;refine ⟨fun m st w1=>∃(k:Nat) (T':List BQ),st=(k:Int)/\1<=k/\m=n+1-k/\T'.Perm T/\D4 w1 s T'/\Ext s.own w w1,n,⟨1,T,rfl,az _,by omega,.refl _,h,Ext.refl _ _⟩,?_⟩;rintro m st w1 ⟨k,T1,rfl,hk,rfl,hp,H1,e1⟩;unfold MB;refine Br.dec (fun q=>?_) fun q=>⟨e1,T1,hp,H1⟩
 have hkn:k<n:=by omega
 refine ⟨fun m st w2=>∃(j:Nat) (T2:List BQ),st=(j:Int)/\j=m/\j<n/\T2.Perm T/\D4 w2 s T2/\Ext s.own w w2,k,⟨k,T1,rfl,rfl,hkn,hp,H1,e1⟩,?_⟩;rintro m st w2 ⟨j,T2,rfl,rfl,hj,jy,H2,e2⟩;unfold MA;have pB:T2.length=n:=by rw[jy.length_eq,hn]
 have fin:∀w3,D4 w3 s T2->Ext s.own w w3->∃n',n'<n+1-k/\∃(k':Nat) (T':List BQ),wrap .i64 ((k:Int)+1)=(k':Int)/\1<=k'/\n'=n+1-k'/\T'.Perm T/\D4 w3 s T'/\Ext s.own w w3:=fun w3 H3 e3=>
  ⟨n+1-(k+1),by omega,k+1,T2,by rw[IntWalk.i64_in _ (by omega)];rfl,by omega,rfl,jy,H3,e3⟩
 refine Br.dec (fun q2=>?_) fun q2=>fin _ (H2.still (Ext.refl _ w2).drew) (e2.tr (Ext.refl _ w2).drew)
 have j4:0<j:=by omega
 have gx:=ah (show j<T2.length by omega);have gy:=ah (show j-1<T2.length by omega);have i2:wrap .i64 ((j:Int)-1)=((j-1:Nat):Int):=by rw[IntWalk.i64_in _ (by omega)];omega
 rw[i2];have JI:=H2.len;generalize hx:T2[j]=x at gx;generalize hy:T2[j-1]=y at gy;have ed:Ext (fun _=>False) w2 w2.drew:=(Ext.refl _ w2).drew;have Hd:=H2.still ed;obtain ⟨g,hg,a0,a1,a2,a3⟩:=Hd.Yc gx;obtain ⟨g',Nc,b0,b1,b2,b3⟩:=Hd.Yc gy;rw[hg]at Nc;cases Nc;rw[hg];refine ⟨by omega,by omega,Nn.of ?_⟩;simp only[add_lit,ay,ak];refine Ld.mk a0 (Ld.mk a1 (Ld.mk a2 (Ld.mk a3 ⟨by omega,by omega,Nn.of ?_⟩)));simp only[add_lit,ay,ak];refine Ld.mk b0 (Ld.mk b1 (Ld.mk b2 (Ld.mk b3 ((xF x y _).mono ?_))));rintro r w3 e3;have H3:=Hd.still e3;have E3:Ext s.own w w3:=e2.tr ((ed.tr e3).mono fun _ _ h=>h.elim);refine Br.dec (fun q3=>?_) fun q3=>fin w3 H3 E3
 have ed3:Ext (fun _=>False) w3 w3.drew:=(Ext.refl _ w3).drew;have H4:=H3.still ed3;refine ⟨fun w'=>D4 w' s T2,H4,by omega,by omega,Nn.of ?_⟩;have ga:∀w',D4 w' s T2->w'.cell? ⟨g,j*4,none⟩=some (.int .i64 x.1)/\w'.cell? ⟨g,j*4+1,none⟩=some (.int .i64 x.2.1)/\w'.cell? ⟨g,j*4+2,none⟩=some (.int .i64 x.2.2.1)/\w'.cell? ⟨g,j*4+3,none⟩=some (.int .i64 x.2.2.2):=fun w' h=>by
  obtain ⟨g',Nc,h⟩:=h.Yc gx;rw[hg]at Nc;cases Nc;exact h
 have gb:∀w',D4 w' s T2->w'.cell? ⟨g,(j-1)*4,none⟩=some (.int .i64 y.1)/\w'.cell? ⟨g,(j-1)*4+1,none⟩=some (.int .i64 y.2.1)/\w'.cell? ⟨g,(j-1)*4+2,none⟩=some (.int .i64 y.2.2.1)/\w'.cell? ⟨g,(j-1)*4+3,none⟩=some (.int .i64 y.2.2.2):=fun w' h=>by
  obtain ⟨g',Nc,h⟩:=h.Yc gy;rw[hg]at Nc;cases Nc;exact h
 simp only[add_lit,ay,ak];refine E7 (fun w' h=>(gb w' h).1) (E7 (fun w' h=>(gb w' h).2.1) (E7 (fun w' h=>(gb w' h).2.2.1) (E7 (fun w' h=>(gb w' h).2.2.2) ⟨by omega,by omega,Nn.of ?_⟩)));simp only[add_lit,ay,ak];refine E7 (fun w' h=>(ga w' h).1) (E7 (fun w' h=>(ga w' h).2.1) (E7 (fun w' h=>(ga w' h).2.2.1) (E7 (fun w' h=>(ga w' h).2.2.2) ⟨by omega,by omega,Nn.of ?_⟩)));simp only[add_lit,ay,ak];refine H4.ADi (y:=y) hg (show j<T2.length by omega) fun w5 H5 e5=>⟨by omega,by omega,Nn.of ?_⟩
 simp only[add_lit,ay,ak];refine H5.ADi (i:=j-1) (y:=x) hg (by rw[List.length_set];omega) fun w6 H6 e6=>?_
 exact ⟨j-1,by omega,j-1,_,rfl,rfl,by omega,(set_perm gx gy (by omega)).trans jy,H6,E3.tr ((ed3.mono fun _ _ h=>h.elim).tr (e5.tr e6))⟩
theorem ZD (x:Int)(hx:0<=x/\x<256)(w:World){R:Int->World->Prop}(h:∀r,R r w):vL x w R:=by
 refine AJQ _ _ _ ?_;unfold ACF;refine AJP _ _ _ ?_;unfold ACE;refine As.intro (Br.dec (fun q=>by omega) fun _=>?_);unfold fC;have hu:wrap .u8 x=x:=by
  show x%256=x;omega
 refine Br.dec (fun q=>by have q:x>=65536:=q;omega) fun _=>Br.dec (fun q=>by have q:x>=256:=q;omega) fun _=>?_
 rw[hu];refine ⟨hx.1,?_,?_⟩
 ·show x<256;exact hx.2
 ·exact Lt.of (h _)
theorem nZ (h:D4 w s T)(hl:T.length<=12):C95 s clR w fun w1=>Ext s.own w w1/\∃T':List BQ,T'.Perm T/\D4 w1 s T':=by
 refine lz _ _ _ ?_;unfold WK;have hlen:=h.len;have hu:wrap .u64 ((s.len:Nat):Int)=(s.len:Int):=by
  show ((s.len:Nat):Int)%18446744073709551616=_;omega
 rw[hu];refine ZD _ (by omega) w fun r=>?_
 refine fB _ _ _ _ _ _ ?_;unfold Rh;refine ⟨fun m st w1=>st=(0,((s.len:Nat):Int),r,true,true)/\w1=w,0,⟨rfl,rfl⟩,?_⟩;rintro m st w1 ⟨rfl,rfl⟩;unfold MC;have hw:wrap .i64 (((s.len:Nat):Int)-0)=(s.len:Int):=by rw[IntWalk.i64_in _ (by omega)];omega
 refine Br.dec (fun _=>Vk h hlen.symm (by omega)) fun q=>absurd (show wrap .i64 (((s.len:Nat):Int)-0)<=12 by rw[hw];omega) q
end
end Pc
set_option maxRecDepth 100000
set_option maxHeartbeats 4000000
namespace Pc
open Sh Fix Tk Tl Vl Wt
section
attribute [local irreducible] Ld Sh.St Nw Nn AU Ae Am BW
theorem Pj:∀(d:Nat) (o:Ob) (t:Tr) (w:World),FH w d o t->KR t<=4000000->C6 o w fun _ w1=>Ext (fun _=>False) w w1
 |0,o,t,w,h,_=>h.elim
 |d+1,o,t,w,⟨_,h2,L,h3,h4⟩,hc=>by
  have zY:JE t.kids<=4000000:=by
   cases t;rw[KR]at hc;exact bB (Nat.le_add_left _ _) hc
  refine T6 _ _ _ ?_;unfold S6;have hk:=h2.1;refine (Hx.start w (fun _=>False)).nw fun w2 H=>?_
  simp only[ad,ag,add_lit,ak]at H⊢;refine H.ld 0 rfl rfl (H.ld 0 rfl rfl ?_);refine ⟨fun n st u=>∃i:Nat,i<=t.ks.length/\st.2=(i:Int)/\n=t.ks.length-i/\Hx w (fun _=>False) u [(w.heap.size,(AF o).toArray,26)],t.ks.length,⟨0,by omega,rfl,by omega,H⟩,?_⟩;clear H;rintro n ⟨m,st⟩ u ⟨i,hi,rfl,rfl,H⟩;unfold ABX;refine Br.dec (fun Au=>?_) fun Og=>H.ld 0 rfl rfl ?_
  ·have Au:(i:Int)<((o.2.2.2.2.1.len:Nat):Int):=Au;have DP:t.ks[i]?=some t.ks[i]:=ah (by omega);obtain ⟨a,ha,hc⟩:=(h2.AB H.ext).2 i _ DP;refine ⟨by omega,Au,?_⟩;rw[show (i:Int).toNat*1=i by omega,ha];exact Nn.of (Ld.mk hc ⟨t.ks.length-(i+1),by omega,i+1,by omega,by show wrap .i64 ((i:Int)+1)=_;rw[IntWalk.i64_in _ (by omega)];rfl,rfl,H⟩)
  ·have mG:=h3.1;have hlm:L.length<=9223372036854775807:=by have:=LI t.kids;have:=h4.len;omega
   refine ⟨fun n st u=>∃i:Nat,i<=L.length/\st.2=(i:Int)/\n=L.length-i/\Ext (fun _=>False) w u,L.length,⟨0,by omega,rfl,by omega,H.ext⟩,?_⟩;clear H;rintro n ⟨m,st⟩ u ⟨i,hi,rfl,rfl,E⟩;unfold ABW;refine Br.dec (fun Au=>?_) fun Og=>E
   have Au:(i:Int)<((o.2.2.2.2.2.len:Nat):Int):=Au;have DP:L[i]?=some L[i]:=ah (by omega);obtain ⟨y,hy,hxy⟩:=h4.get DP;obtain ⟨a,ha,c0,c1,c2,c3,c4,c5⟩:=(h3.AB E).get DP;refine ⟨by omega,Au,?_⟩;rw[show (i:Int).toNat=i by omega,ha];refine Nn.of (Ld.mk c0 (Ld.mk c1 (Ld.mk c2 (Ld.mk c3 (Ld.mk c4 (Ld.mk c5 ?_))))));refine (Hx.start u (fun _=>False)).nw fun u2 H=>?_
   simp only[ad,ag,add_lit,ak]at H⊢
   iterate 6 (refine H.st 0 rfl (by simp) (.inr (az _)) fun _ H=>?_;simp only[af,aa,ab]at H)
   iterate 6 refine H.ld 0 rfl rfl ?_
   refine (Pj d _ _ _ (hxy.AB (E.tr H.ext)) (by have:=Mw hy;omega)).mono ?_;rintro r u3 e3;exact ⟨L.length-(i+1),by omega,i+1,by omega,by show wrap .i64 ((i:Int)+1)=_;rw[IntWalk.i64_in _ (by omega)];rfl,rfl,(E.tr H.ext).tr e3⟩
end
end Pc
namespace Pc
open Sh Fix Tk Tl Vl Wt
section
variable {w:World} {s1 s2:AA} {K:List ByteArray}
attribute [local irreducible] Ld Sh.St Nw Nn AU Ae Am BW
theorem QN (h1:KV w s1 K)(h2:KV w s2 K):C61 s1 s2 w fun r w1=>r=true/\Ext (fun _=>False) w w1:=by
 have k1:=h1.1;have k2:=h2.1;refine T61 _ _ _ _ ?_;unfold S61;refine Sh.Br.f (by rw[k1.1,k2.1];simp) ?_;refine ⟨fun n st u=>∃i:Nat,i<=K.length/\st=(i:Int)/\n=K.length-i/\Ext (fun _=>False) w u,K.length,⟨0,by omega,rfl,by omega,Ext.refl _ _⟩,?_⟩;rintro n st u ⟨i,hi,rfl,rfl,E⟩;unfold oz;refine Br.dec (fun Au=>?_) fun Og=>⟨rfl,E⟩
 have Au:(i:Int)<((s1.len:Nat):Int):=Au;have DP:K[i]?=some K[i]:=ah (by omega);have E:=E.drew;obtain ⟨a,ha,hc⟩:=(h1.AB E).2 i _ DP;obtain ⟨b,hb,hd⟩:=(h2.AB E).2 i _ DP;refine ⟨by omega,Au,?_⟩;rw[show (i:Int).toNat*1=i by omega,ha];refine Nn.of (Ld.mk hc ⟨by omega,by omega,?_⟩);rw[hb];refine Nn.of (Ld.mk hd (Sh.Br.f (by simp) ?_));exact ⟨K.length-(i+1),by omega,i+1,by omega,by rw[IntWalk.i64_in _ (by omega)];rfl,rfl,E⟩
theorem iY:∀(d:Nat) (o1 o2:Ob) (t:Tr) (w:World),FH w d o1 t->FH w d o2 t->KR t<=4000000->C32 o1 o2 w fun r w1=>r=true/\Ext (fun _=>False) w w1
 |0,_,_,_,_,h,_,_=>h.elim
 |d+1,o1,o2,t,w,⟨f1,k1,L1,v1,a1⟩,⟨f2,k2,L2,v2,a2⟩,hc=>by
  have zY:JE t.kids<=4000000:=by
   cases t;rw[KR]at hc;exact bB (Nat.le_add_left _ _) hc
  have LD:=LI t.kids;have l1:=a1.len;have l2:=a2.len;have n1:=v1.1;have n2:=v2.1;refine T32 _ _ _ _ ?_;unfold S32;refine (Hx.start w (fun _=>False)).nw fun w2 H=>?_
  refine H.nw fun w3 H=>?_
  simp only[ad,ag,add_lit,ak]at H⊢;refine H.ld 0 rfl rfl (H.ld 1 rfl rfl (Sh.Br.t (by rw[f1.1,f2.1];simp) ?_));refine H.ld 0 rfl rfl (H.ld 1 rfl rfl (Sh.Br.t (by rw[f1.2.1,f2.2.1];simp) ?_));refine H.ld 0 rfl rfl (H.ld 1 rfl rfl (Sh.Br.t (by rw[f1.2.2.1,f2.2.2.1];simp) ?_));refine H.ld 0 rfl rfl (H.ld 1 rfl rfl (Sh.Br.t (by rw[f1.2.2.2,f2.2.2.2];simp) ?_));refine H.ld 0 rfl rfl (H.ld 1 rfl rfl ?_);refine (QN (k1.AB H.ext) (k2.AB H.ext)).mono ?_;rintro r w4 ⟨rfl,e4⟩;have H:=H.AB e4;refine Sh.Br.t rfl (H.ld 0 rfl rfl (H.ld 1 rfl rfl ?_));refine T62 _ _ _ _ ?_;unfold S62;have l3:L1.length=L2.length:=by omega
  refine Sh.Br.f (by show (((o1.2.2.2.2.2.len:Nat):Int) !=((o2.2.2.2.2.2.len:Nat):Int))=false;rw[n1,n2,l3];simp) ?_;have hE:=H.ext;clear H;refine ⟨fun n st u=>∃i:Nat,i<=L1.length/\st=(i:Int)/\n=L1.length-i/\Ext (fun _=>False) w u,L1.length,⟨0,by omega,rfl,by omega,hE⟩,?_⟩;rintro n st u ⟨i,hi,rfl,rfl,E⟩;unfold o0;refine Br.dec (fun Au=>?_) fun Og=>⟨rfl,E⟩
  have Au:(i:Int)<((o1.2.2.2.2.2.len:Nat):Int):=Au;have NS:L1[i]?=some L1[i]:=ah (by omega);have Xe:L2[i]?=some L2[i]:=ah (by omega);generalize L1[i]=x1 at NS;generalize L2[i]=x2 at Xe;obtain ⟨y,hy,Ho⟩:=a1.get NS;obtain ⟨y',hy',MK⟩:=a2.get Xe;rw[hy]at hy';cases hy';have E:=E.drew;obtain ⟨p1,mV,c0,c1,c2,c3,c4,c5⟩:=(v1.AB E).get NS;obtain ⟨p2,jy,d0,d1,d2,d3,d4,d5⟩:=(v2.AB E).get Xe;refine ⟨by omega,Au,?_⟩;rw[show (i:Int).toNat=i by omega,mV];refine Nn.of (Ld.mk c0 (Ld.mk c1 (Ld.mk c2 (Ld.mk c3 (Ld.mk c4 (Ld.mk c5 ⟨by omega,by omega,?_⟩))))));rw[jy];refine Nn.of (Ld.mk d0 (Ld.mk d1 (Ld.mk d2 (Ld.mk d3 (Ld.mk d4 (Ld.mk d5 ?_))))));refine (iY d x1 x2 y _ (Ho.AB E) (MK.AB E) (by have:=Mw hy;omega)).mono ?_;rintro r u3 ⟨rfl,e3⟩;exact Sh.Br.f rfl ⟨L1.length-(i+1),by omega,i+1,by omega,by rw[IntWalk.i64_in _ (by omega)];rfl,rfl,E.tr e3⟩
abbrev Fj:Type:=Int×Int×Ob
theorem U6 {x1 x2:Fj}{t:Tr}{w:World}(e1:x1.1=x2.1)(e2:x1.2.1=x2.2.1)(h1:OX w x1.2.2 t)(h2:OX w x2.2.2 t)(hc:KR t<=4000000):C11 x1 x2 w fun r w1=>r=true/\Ext (fun _=>False) w w1:=by
 obtain ⟨d1,h1⟩:=h1;obtain ⟨d2,h2⟩:=h2;have h1:FH w (max d1 d2) x1.2.2 t:=FH.le (Nat.le_max_left _ _) h1;have h2:FH w (max d1 d2) x2.2.2 t:=FH.le (Nat.le_max_right _ _) h2;refine T11 _ _ _ _ ?_;unfold S11;refine (Hx.start w (fun _=>False)).nw fun w2 H=>?_
 refine H.nw fun w3 H=>?_
 simp only[ad,ag,add_lit,ak]at H⊢;refine H.ld 0 rfl rfl (H.ld 1 rfl rfl (Sh.Br.t (by rw[e1];simp) ?_));refine H.ld 0 rfl rfl (H.ld 1 rfl rfl (Sh.Br.t (by rw[e2];simp) ?_));simp only[add_lit,ak,Nat.reduceAdd]
 iterate 6 refine H.ld 0 rfl rfl ?_
 iterate 6 refine H.ld 1 rfl rfl ?_
 refine (iY _ x1.2.2 x2.2.2 t _ (h1.AB H.ext) (h2.AB H.ext) hc).mono ?_;rintro r w4 ⟨rfl,e4⟩;exact ⟨rfl,H.ext.tr e4⟩
end
end Pc
namespace Pc
open Sh Fix Tk Tl Vl Wt
def BD (x:Fj):List Value:= .int .i64 x.1:: .int .i64 x.2.1::AF x.2.2
theorem fL (x:Fj):∀v∈BD x,v.oneCell'=true:=by
 intro v hv;rcases ar.1 hv with rfl|hv
 ·rfl
 rcases ar.1 hv with rfl|hv
 ·rfl
 ·exact MF x.2.2 v hv
theorem mA (L:List Fj):∀v∈L.flatMap BD,v.oneCell'=true:=by
 intro v hv;obtain ⟨o,_,h⟩:=List.mem_flatMap.1 hv;exact fL o v h
theorem mB {L:List Fj}{i j:Nat}{o:Fj}(hi:L[i]?=some o)(hj:j<8):(L.flatMap BD)[i*8+j]?=(BD o)[j]?:=by
 induction L generalizing i with
 |nil=>cases hi
 |cons p L ih=>
  rw[bh];cases i with
  |zero=>
   cases hi;rw[cE,ak,aI (by simp[BD,AF];omega)]
  |succ i=>
   rw[aM (by simp[BD,AF];omega),<-ih (by simpa using hi)]
   congr 1
   simp only[BD,AF,au,aV];omega
def IV (w:World)(s:AA)(L:List Fj):Prop:=s.len=L.length/\B9 w s 8 (L.flatMap BD)
theorem ACZ:El prog 22 28 8 104 (.agg (BD (0,0,Vl.Kl)).toArray):=⟨by kernel_rfl,by kernel_rfl,by kernel_rfl,by kernel_rfl,rfl⟩
theorem ACa:El prog 34 33 4 32 (.agg #[.int .i64 0,.int .i64 0,.int .i64 0,.int .i64 0]):=⟨by kernel_rfl,by kernel_rfl,by kernel_rfl,by kernel_rfl,rfl⟩
theorem IV.AB{w w':World}{s:AA}{L:List Fj}(h:IV w s L)(he:Ext (fun _=>False) w w'):IV w' s L:=⟨h.1,h.2.AB he⟩
theorem IV.get{w:World}{s:AA}{L:List Fj}(h:IV w s L){i:Nat}{o:Fj}(hi:L[i]?=some o):∃a,s.p=some a/\w.cell? (a.add (i*8))=some (.int .i64 o.1)/\w.cell? ((a.add (i*8)).add 1)=some (.int .i64 o.2.1)/\w.cell? ((a.add (i*8)).add 2)=some (.int .i64 o.2.2.1)/\
  w.cell? ((a.add (i*8)).add 3)=some (.int .i64 o.2.2.2.1)/\w.cell? ((a.add (i*8)).add 4)=some (.int .i64 o.2.2.2.2.1)/\w.cell? ((a.add (i*8)).add 5)=some (.string o.2.2.2.2.2.1)/\w.cell? ((a.add (i*8)).add 6)=some (AA.v o.2.2.2.2.2.2.1)/\w.cell? ((a.add (i*8)).add 7)=some (AA.v o.2.2.2.2.2.2.2):=by
 have g:∀j v,j<8->(BD o)[j]?=some v->∃a,s.p=some a/\w.cell? ((a.add (i*8)).add j)=some v:=fun j v hj hv=>by
  obtain ⟨a,ha,hc⟩:=h.2.2 (i*8+j) v (by rw[mB hi hj];exact hv);exact ⟨a,ha,by rw[CQ];exact hc⟩
 obtain ⟨a,ha,c0⟩:=g 0 _ (by omega) rfl;obtain ⟨a1,oV,c1⟩:=g 1 _ (by omega) rfl;obtain ⟨a2,oW,c2⟩:=g 2 _ (by omega) rfl;obtain ⟨a3,oX,c3⟩:=g 3 _ (by omega) rfl;obtain ⟨a4,ha4,c4⟩:=g 4 _ (by omega) rfl;obtain ⟨a5,ha5,c5⟩:=g 5 _ (by omega) rfl;obtain ⟨a6,ha6,c6⟩:=g 6 _ (by omega) rfl;obtain ⟨a7,ha7,c7⟩:=g 7 _ (by omega) rfl;rw[ha]at oV oW oX ha4 ha5 ha6 ha7;cases oV;cases oW;cases oX;cases ha4;cases ha5;cases ha6;cases ha7;exact ⟨a,ha,by rw[CQ]at c0;exact c0,c1,c2,c3,c4,c5,c6,c7⟩
section
variable {w:World} {s:AA} {L:List Fj}
attribute [local irreducible] Ld Sh.St Nw Nn AU Ae Am BW
theorem YZ {o:Ob}{t:Tr}(h:IV w s L)(hl:L.length<=1000000000)(hL:∀x∈L,∃t,OX w x.2.2 t/\KR t<=4000000)(ho:OX w o t)(hc:KR t<=4000000):C5 (s,o) w fun _ w1=>Ext (fun _=>False) w w1:=by
 refine T5 (s,o) _ _ ?_;unfold S5;refine (Hx.start w (fun _=>False)).nw fun w2 H=>?_
 simp only[ad,ag,add_lit,ak,Nat.reduceAdd]at H⊢
 iterate 6 refine H.ld 0 rfl rfl ?_
 obtain ⟨d,ho⟩:=ho;refine (Pj d _ t _ (ho.AB H.ext) hc).mono ?_;rintro r w3 e3;have H:=H.AB e3;refine H.ld 0 rfl rfl ?_;have hlen:=h.1;have hE:=H.ext;clear H;refine ⟨fun n st u=>∃i:Nat,i<=L.length/\st.2=(i:Int)/\n=L.length-i/\Ext (fun _=>False) w u,L.length,⟨0,by omega,rfl,by omega,hE⟩,?_⟩;rintro n ⟨m,st⟩ u ⟨i,hi,rfl,rfl,E⟩;unfold ABY;refine Br.dec (fun Au=>?_) fun Og=>E
 have Au:(i:Int)<((s.len:Nat):Int):=Au;have DP:L[i]?=some L[i]:=ah (by omega);obtain ⟨a,ha,c0,c1,c2,c3,c4,c5,c6,c7⟩:=(h.AB E).get DP;obtain ⟨tx,⟨d',CO⟩,hcx⟩:=hL _ (ax DP);refine ⟨by omega,Au,?_⟩;rw[show (i:Int).toNat=i by omega,ha];refine Nn.of (Ld.mk c0 (Ld.mk c1 (Ld.mk c2 (Ld.mk c3 (Ld.mk c4 (Ld.mk c5 (Ld.mk c6 (Ld.mk c7 ?_))))))));refine (Hx.start u (fun _=>False)).nw fun u2 H=>?_
 simp only[ad,ag,add_lit,ak,Nat.reduceAdd]at H⊢
 iterate 8 (refine H.st 0 rfl (by simp) (.inr (az _)) fun _ H=>?_;simp only[af,aa,ab]at H)
 iterate 6 refine H.ld 0 rfl rfl ?_
 refine (Pj d' _ _ _ (CO.AB (E.tr H.ext)) hcx).mono ?_;rintro r u3 e3;exact ⟨L.length-(i+1),by omega,i+1,by omega,by show wrap .i64 ((i:Int)+1)=_;rw[IntWalk.i64_in _ (by omega)];rfl,rfl,(E.tr H.ext).tr e3⟩
end
end Pc
set_option maxRecDepth 512
set_option maxHeartbeats 200000
namespace Sh
open Go.WideMaps Go.WideShapes
abbrev NT:Type:=List (ByteArray×Value)
def Qj (E:List MapEntry)(L:NT):Prop:=E.map (fun e=>(e.key,e.val))=L.map fun p=>((.string p.1:Value),p.2)
structure I2 (w:World) (b:Nat) (L:NT):Prop where
 AR:∃(E:Array MapEntry) (clock:Nat),w.heap[b]?=some (.map E clock)/\Qj E.toList L
 one:(L.map (·.1)).Nodup
 Yk:∀p∈L,p.1.size<=maxLen
 born:∀(E:Array MapEntry) (clock:Nat),w.heap[b]?=some (.map E clock)->(E.toList.map (·.born)).Nodup/\∀e∈E.toList,e.born<clock
def NU:NT->ByteArray->Option Value
 |[],_=>none
 |p::L,k=>if p.1=k then some p.2 else NU L k
def Kf:NT->ByteArray->Value->NT
 |[],k,v=>[(k,v)]
 |p::L,k,v=>if p.1=k then (k,v)::L else p::Kf L k v
theorem N8 {L:NT}{k:ByteArray}(h:k∉L.map (·.1)):NU L k=none:=by
 induction L with
 |nil=>rfl
 |cons p L ih=>
  rw[aB]at h;unfold NU;rw[aA (fun e=>h (by rw[e];exact aw ..))];exact ih fun hm=>h (av _ hm)
section
variable {P:Program} {w:World} {t k e:TypeId} {b:Nat} {L:NT} {z:Value}
theorem I2.AI{F:Nat->Prop}{w':World}(h:I2 w b L)(he:Ext F w w')(hb:¬F b):I2 w' b L:=by
 obtain ⟨E,c,h1,h2⟩:=h.AR;have hl:=(aj.1 h1).1;exact ⟨⟨E,c,by rw[he.block b hl hb];exact h1,h2⟩,h.one,h.Yk,fun E' c' h'=>h.born E' c' (by rw[<-he.block b hl hb];exact h')⟩
theorem I2.AB{w':World}(h:I2 w b L)(he:Ext (fun _=>False) w w'):I2 w' b L:=h.AI he id
theorem I2.lt(h:I2 w b L):b<w.heap.size:=by
 obtain ⟨E,c,h1,h2⟩:=h.AR;exact (aj.1 h1).1
theorem I2.new(w:World):I2 (w.alloc (.map #[] 0)) w.heap.size []:=⟨⟨#[],0,by show (w.heap.push _)[w.heap.size]?=_;simp,rfl⟩,cI,fun p hp=>(by cases hp),fun E c h=>by
 have h:(w.heap.push (.map #[] 0))[w.heap.size]?=some (.map E c):=h;simp only[Array.getElem?_push_size,aS,Obj.map.injEq]at h;rw[<-h.1];simp⟩
theorem Je (L:NT)(k:ByteArray)(v:Value):(k∈L.map (·.1)/\(Kf L k v).map (·.1)=L.map (·.1))\/(k∉L.map (·.1)/\Kf L k v=L++[(k,v)]):=by
 induction L with
 |nil=>exact .inr ⟨by simp,rfl⟩
 |cons p L ih=>
  unfold Kf;by_cases hp:p.1=k
  ·rw[aG hp];exact .inl ⟨by rw[aB,hp];exact aw ..,by rw[aB,aB,hp]⟩
  ·rw[aA hp];rcases ih with ⟨h1,h2⟩|⟨h1,h2⟩
   ·exact .inl ⟨av _ h1,by rw[aB,aB,h2]⟩
   ·exact .inr ⟨fun h=>by
     rw[aB]at h;rcases ar.1 h with h|h
     ·exact hp h.symm
     ·exact h1 h,by rw[h2];rfl⟩
theorem MO {L:NT}(h:(L.map (·.1)).Nodup)(k:ByteArray)(v:Value):((Kf L k v).map (·.1)).Nodup:=by
 rcases Je L k v with ⟨_,h2⟩|⟨h1,h2⟩
 ·rw[h2];exact h
 ·rw[h2,aP];exact bO.2 ⟨h,by simp,fun a ha c hc e=>h1 (by rw[aB,bj,ao]at hc;rw[<-show c=k from hc,<-e];exact ha)⟩
theorem R7 {L:NT}{k:ByteArray}{v:Value}(h:∀p∈L,p.1.size<=maxLen)(hk:k.size<=maxLen):∀p∈Kf L k v,p.1.size<=maxLen:=by
 induction L with
 |nil=>intro p hp;rw[ao.1 hp];exact hk
 |cons q L ih=>
  intro p hp;unfold Kf at hp;split at hp
  ·rcases ar.1 hp with rfl|hp
   ·exact hk
   ·exact h p (av _ hp)
  ·rcases ar.1 hp with rfl|hp
   ·exact h p (aw ..)
   ·exact ih (fun p hp=>h p (av _ hp)) p hp
theorem at_key {L:NT}(h:(L.map (·.1)).Nodup){j:Nat}{k:ByteArray}{x:Value}(hj:L[j]?=some (k,x)):NU L k=some x/\∀v,Kf L k v=L.set j (k,v):=by
 induction L generalizing j with
 |nil=>cases hj
 |cons p L ih=>
  cases j with
  |zero=>
   cases hj;exact ⟨by unfold NU;rw[aG rfl],fun v=>by unfold Kf;rw[aG rfl];rfl⟩
  |succ j=>
   have hj:L[j]?=some (k,x):=by simpa using hj
   rw[aB,List.nodup_cons]at h;have BI:¬p.1=k:=fun e=>h.1 (by rw[e];exact bx.2 ⟨_,ax hj,rfl⟩)
   obtain ⟨h1,h2⟩:=ih h.2 hj;refine ⟨?_,fun v=>?_⟩
   ·unfold NU;rw[aA BI];exact h1
   ·unfold Kf;rw[aA BI,h2]
    rfl
theorem Qj.get{E:List MapEntry}(h:Qj E L){i:Nat}{x:MapEntry}(hi:E[i]?=some x):∃p,L[i]?=some p/\x.key= .string p.1/\x.val=p.2:=by
 have h1:(E.map fun e=>(e.key,e.val))[i]?=some (x.key,x.val):=by rw[aH,hi];rfl
 rw[h,aH]at h1;obtain ⟨p,hp,h2⟩:=aN.1 h1;exact ⟨p,hp,(aq Prod.fst h2).symm,(aq Prod.snd h2).symm⟩
theorem Qj.keys{E:List MapEntry}(h:Qj E L)(hk:P.underlying k=some .string)(hs:∀p∈L,p.1.size<=maxLen):∀x∈E,∃l,keyOf P k x.key=some l:=fun x hx=>by
 obtain ⟨i,hi⟩:=aZ hx;obtain ⟨p,hp,h1,_⟩:=h.get hi;exact ⟨_,by rw[h1];exact keyOf_string_mk hk (hs p (ax hp))⟩
theorem Pw {E:List MapEntry}(h:Qj E L)(hn:(L.map (·.1)).Nodup)(hk:P.underlying k=some .string)(hs:∀p∈L,p.1.size<=maxLen){key:ByteArray}(Cy:key.size<=maxLen)(w:World):
  ((Instr.findKey k (.string key) E).run P w= .ok none w/\NU L key=none/\key∉L.map (·.1))\/∃j x,(Instr.findKey k (.string key) E).run P w= .ok (some (j,x)) w/\L[j]?=some (key,x)/\(E[j]?).map (·.key)=some (.string key):=by
 rcases (string_law hk).find w (keyOf_string_mk hk Cy) E (h.keys hk hs)with ⟨h1,h2⟩|⟨j,x,h1,h2,h3⟩
 ·have no:key∉L.map (·.1):=fun hm=>by
   obtain ⟨p,hp,e⟩:=bx.1 hm;obtain ⟨i,hi⟩:=aZ hp;have hl:(E.map fun e=>(e.key,e.val))[i]?=some ((.string p.1:Value),p.2):=by rw[h,aH,hi];rfl
   rw[aH]at hl;obtain ⟨x,hx,h4⟩:=aN.1 hl;refine h2 x (ax hx) ?_;exact (aq Prod.fst h4).trans (by rw[e])
  exact .inl ⟨h1,N8 no,no⟩
 ·obtain ⟨p,hp,h4,h5⟩:=h.get h2;have mV:p.1=key:=by
   rw[h3]at h4;exact (Value.string.inj h4).symm
  exact .inr ⟨j,x.val,h1,by rw[hp,h5,<-mV],by rw[h2];exact aq some h3⟩
theorem I2.look(h:I2 w b L)(ht:P.underlying t=some (.map k e))(hk:P.underlying k=some .string)(hz:(zeroValue e).run P w= .ok z w){key:ByteArray}(Cy:key.size<=maxLen):
  Ai P (Instr.lookup t (.map (some b)) (.string key) false) w ((NU L key).getD z) w:=by
 obtain ⟨E,c,hb,hE⟩:=h.AR;have DS:=keyOf_string_mk hk Cy;have Pv:=(string_law hk).check w E.isEmpty DS;rcases Pw hE h.one hk h.Yk Cy w with ⟨h1,h2,_⟩|⟨j,x,h1,h2,_⟩
 ·rw[h2];simp[Ai,Instr.lookup,run_underlying ht,MapKept.run_getObj_map hb,Pv,h1,hz,Result.andThen]
 ·rw[(at_key h.one h2).1];simp[Ai,Instr.lookup,run_underlying ht,MapKept.run_getObj_map hb,Pv,h1,Result.andThen]
theorem I2.put(h:I2 w b L)(ht:P.underlying t=some (.map k e))(hk:P.underlying k=some .string){key:ByteArray}(Cy:key.size<=maxLen)(v:Value):
  ∃w',VL P (Instr.mapUpdate t (.map (some b)) (.string key) v) w w'/\I2 w' b (Kf L key v)/\Ext (·=b) w w':=by
 obtain ⟨E,c,hb,hE⟩:=h.AR;have DS:=keyOf_string_mk hk Cy;have Pv:=(string_law hk).check w false DS;have ext:∀o:Obj,Ext (·=b) w {w with heap:=w.heap.setIfInBounds b o}:=fun o=>⟨rfl,rfl,rfl,by simp,fun i hi hn=>by
  show (w.heap.setIfInBounds b o)[i]?=_;rw[bR (fun e=>hn e.symm)]⟩
 have here:∀o:Obj,({w with heap:=w.heap.setIfInBounds b o}:World).heap[b]?=some o:=fun o=>by
  show (w.heap.setIfInBounds b o)[b]?=_;rw[bP (aj.1 hb).1]
 rcases Pw hE h.one hk h.Yk Cy w with ⟨h1,h2,h3⟩|⟨j,x,h1,h2,h3⟩
 ·refine ⟨{w with heap:=w.heap.setIfInBounds b (.map (E.push {key:= .string key,val:=v,born:=c}) (c+1))},?_,⟨⟨_,_,here _,?_⟩,MO h.one _ _,R7 h.Yk Cy,fun E' c' h'=>?_⟩,ext _⟩;rotate_left 2
  ·rw[here]at h';simp only[aS,Obj.map.injEq]at h';obtain ⟨rfl,rfl⟩:=h';obtain ⟨b1,b2⟩:=h.born E c hb;rw[Array.toList_push];refine ⟨?_,fun e he=>?_⟩
   ·rw[aP,bO];refine ⟨b1,by simp,fun x hx y hy e=>?_⟩;simp only[aB,bj,ao]at hy;obtain ⟨z,hz,rfl⟩:=bx.1 hx;have:=b2 z hz;omega
   ·rcases aK.1 he with he|he
    ·have:=b2 e he;omega
    ·rw[ao.1 he];exact Nat.lt_succ_self _
  ·simp[VL,Instr.mapUpdate,run_underlying ht,MapKept.run_getObj_map hb,Pv,h1,Result.andThen,MapKept.run_setObj_map _ hb]
  ·rcases Je L key v with ⟨h4,_⟩|⟨_,h4⟩
   ·exact absurd h4 h3
   ·rw[h4];unfold Qj at hE⊢;rw[Array.toList_push,aP,hE,aP]
    rfl
 ·obtain ⟨y,hy,hy2⟩:=aN.1 h3;have hyE:E[j]?=some y:=by simpa using hy
  refine ⟨{w with heap:=w.heap.setIfInBounds b (.map (E.modify j fun e=>{e with key:= .string key,val:=v}) c)},?_,⟨⟨_,_,here _,?_⟩,MO h.one _ _,R7 h.Yk Cy,fun E' c' h'=>?_⟩,ext _⟩;rotate_left 2
  ·rw[here]at h';simp only[aS,Obj.map.injEq]at h';obtain ⟨rfl,rfl⟩:=h';obtain ⟨b1,b2⟩:=h.born E c hb;have em:(E.modify j fun e=>{e with key:= .string key,val:=v}).toList.map (·.born)=E.toList.map (·.born):=by
    rw[Array.toList_modify];apply cf;intro i;rw[aH,aH,List.getElem?_modify];by_cases HD:j=i
    ·subst HD;simp;cases E[j]?<;>rfl
    ·simp[HD]
   refine ⟨em▸b1,fun e he=>?_⟩;have:e.born∈E.toList.map (·.born):=em▸bE he;obtain ⟨z,hz,e2⟩:=bx.1 this;have:=b2 z hz;omega
  ·simp[VL,Instr.mapUpdate,run_underlying ht,MapKept.run_getObj_map hb,Pv,h1,Result.andThen,MapKept.run_setObj_map _ hb,hyE,hy2,(string_law hk).stays w DS]
  ·rw[(at_key h.one h2).2];unfold Qj at hE⊢;have hEi:∀i,(E.toList[i]?).map (fun e:MapEntry=>(e.key,e.val))=(L[i]?).map (fun p:ByteArray×Value=>((.string p.1:Value),p.2)):=fun i=>by rw[<-aH,hE,aH]
   rw[Array.toList_modify];apply cf;intro i;have hL:j<L.length:=(al.1 h2).1;rw[aH,aH,List.getElem?_modify,bN];by_cases HD:j=i
   ·subst HD;rw[aG rfl,aG hL,hy];simp
   ·rw[aA HD,<-hEi i];simp[HD]
end
end Sh
namespace Sh
open Go.WideMaps Go.WideShapes
open Go.ChangeMaps (setBlock)
theorem Qj.len{E:List MapEntry}{L:NT}(h:Qj E L):E.length=L.length:=by
 have:=aq List.length h;simpa using this
theorem Qj.back{E:List MapEntry}{L:NT}(h:Qj E L):E.map (fun e=>match e.key with| .string s=>(s,e.val)|_=>(⟨#[]⟩,e.val))=L:=by
 have:=aq (List.map fun q:Value×Value=>match q.1 with| .string s=>(s,q.2)|_=>((⟨#[]⟩:cN),q.2)) h;rw[cK,cK]at this;have e:((fun q:Value×Value=>match q.1 with| .string s=>(s,q.2)|_=>((⟨#[]⟩:cN),q.2))∘fun p:ByteArray×Value=>((.string p.1:Value),p.2))=id:=by
  funext p
  rfl
 rw[e,List.map_id]at this;rw[<-this]
 rfl
theorem Qj.perm{D E:List MapEntry}{done L:NT}(h:Qj E L)(k:Qj D done)(hp:D.Perm E):done.Perm L:=by
 rw[<-h.back,<-k.back];exact hp.map _
section
variable {P:Program} {w:World} {t k e:TypeId} {b:Nat} {L:NT} {z:Value}
theorem I2.ACz(h:I2 w b L)(ht:P.underlying t=some (.map k e))(hk:P.underlying k=some .string)(hz:(zeroValue e).run P w= .ok z w){key:ByteArray}(Cy:key.size<=maxLen):
  Ai P (Instr.lookup t (.map (some b)) (.string key) true) w (.tuple #[(NU L key).getD z,.bool (NU L key).isSome]) w:=by
 obtain ⟨E,c,hb,hE⟩:=h.AR;have DS:=keyOf_string_mk hk Cy;have Pv:=(string_law hk).check w E.isEmpty DS;rcases Pw hE h.one hk h.Yk Cy w with ⟨h1,h2,_⟩|⟨j,x,h1,h2,_⟩
 ·rw[h2];simp[Ai,Instr.lookup,run_underlying ht,MapKept.run_getObj_map hb,Pv,h1,hz,Result.andThen]
 ·rw[(at_key h.one h2).1];simp[Ai,Instr.lookup,run_underlying ht,MapKept.run_getObj_map hb,Pv,h1,Result.andThen]
theorem I2.len(h:I2 w b L)(ht:P.underlying t=some (.map k e)){ty:TypeId}(hl:L.length<=9223372036854775807):Ai P (Builtin.len_ #[t] ty #[.map (some b)]) w (.int .i64 (L.length:Int)) w:=by
 obtain ⟨E,c,hb,hE⟩:=h.AR;have:=hE.len;have hw:wrap .i64 ((L.length:Nat):Int)=(L.length:Int):=IntWalk.i64_in _ (by omega);simp[Ai,Builtin.len_,run_underlying ht,MapKept.run_getObj_map hb,goInt,Result.andThen];rw[<-aJ,this]
structure mW (w:World) (it bm:Nat) (L done:NT):Prop where
 out:∃(E:Array MapEntry) (c:Nat) (D:List MapEntry),w.heap[bm]?=some (.map E c)/\w.heap[it]?=some (.mapIter (some bm) c (D.map (·.born)).toArray c)/\Qj E.toList L/\(E.toList.map (·.born)).Nodup/\(∀x∈E.toList,x.born<c)/\
  Qj D done/\(D.map (·.born)).Nodup/\∀x∈D,x∈E.toList
theorem mW.AI{F:Nat->Prop}{w':World}{it bm:Nat}{done:NT}(h:mW w it bm L done)(he:Ext F w w')(h1:¬F it)(h2:¬F bm):mW w' it bm L done:=by
 obtain ⟨E,c,D,a1,a2,a3⟩:=h.out;exact ⟨E,c,D,by rw[he.block bm (aj.1 a1).1 h2];exact a1,by rw[he.block it (aj.1 a2).1 h1];exact a2,a3⟩
theorem I2.range(h:I2 w b L)(ht:P.underlying t=some (.map k e)):∃w',Ai P (Instr.range t (.map (some b))) w (.pointer (some ⟨w.heap.size,0,none⟩)) w'/\Ext (fun _=>False) w w'/\mW w' w.heap.size b L []/\w.heap.size<w'.heap.size:=by
 obtain ⟨E,c,hb,hE⟩:=h.AR;obtain ⟨b1,b2⟩:=h.born E c hb;refine ⟨_,run_range_map w t k e b E c ht hb,(Ext.refl _ w).alloc _,⟨E,c,[],?_,?_,hE,b1,b2,rfl,cI,fun x hx=>by cases hx⟩,by simp⟩
 ·rw[heap_alloc_old w _ (aj.1 hb).1];exact hb
 ·rw[heap_alloc_new]
  rfl
theorem DT {w:World}{r:Nat}{o:Obj}:Ext (·=r) w (setBlock w r o):=⟨rfl,rfl,rfl,by simp[setBlock],fun i hi hn=>by
 show (w.heap.setIfInBounds r o)[i]?=_;rw[bR (fun e=>hn e.symm)]⟩
theorem mW.next{it bm:Nat}{done:NT}{ty:TypeId}(h:mW w it bm L done):
  (Ai P (Instr.next (.pointer (some ⟨it,0,none⟩)) false ty) w (.tuple #[.bool false]) w/\done.Perm L)\/
  ∃key v w',Ai P (Instr.next (.pointer (some ⟨it,0,none⟩)) false ty) w (.tuple #[.bool true,.string key,v]) w'/\Ext (·=it) w w'/\mW w' it bm L (done++[(key,v)])/\(key,v)∈L/\done.length<L.length/\Ai P (Instr.entry (.pointer (some ⟨it,0,none⟩))) w' (.tuple #[.string key,v]) w':=by
 obtain ⟨E,c,D,hb,hi,hE,b1,b2,hD,d1,d2⟩:=h.out;have BI:it≠bm:=fun e=>by rw[e,hb]at hi;cases hi
 have hDn:D.Nodup:=(List.pairwise_map.1 d1).imp fun h e=>h (by rw[e])
 have yp:E.toList.Nodup:=(List.pairwise_map.1 b1).imp fun h e=>h (by rw[e])
 have inj:∀x∈E.toList,∀y∈E.toList,x.born=y.born->x=y:=fun x hx y hy e=>by
  have h1:=find_born x E.toList b1 hx;have h2:=find_born y E.toList b1 hy;rw[e,h2]at h1;exact (aQ h1).symm
 rcases run_next_at (P:=P) w ty it bm c c (D.map (·.born)).toArray E c hi hb b2 (az _)with ⟨h0,hr⟩|⟨x,hx,w1,vv,hr⟩
 ·refine .inl ⟨hr,hE.perm hD ((List.perm_ext_iff_of_nodup hDn yp).2 fun x=>⟨d2 x,fun hx=>?_⟩)⟩;have:leftOf E (D.map (·.born)).toArray=#[]:=Array.eq_empty_of_size_eq_zero h0;unfold leftOf at this;rw[Array.filter_eq_empty_iff]at this;have h1:=this x (by simpa using hx);simp only[List.contains_toArray,bz,Bool.not_eq_false,aW]at h1;obtain ⟨y,hy,e⟩:=bx.1 h1;exact inj y (d2 y hy) x hx e▸hy
 ·unfold leftOf at hx;have Ho:x∈E.toList/\x.born∉D.map (·.born):=by
   simp only[Array.toList_filter,cC,List.contains_toArray,bz,List.contains_eq_mem,cr]at hx;exact hx
  obtain ⟨i,Qh⟩:=aZ Ho.1;obtain ⟨p,hp,e1,e2⟩:=hE.get Qh;have vx:Ext (·=it) w w1:=by
   rcases vv with rfl|rfl
   ·exact Ext.refl _ _
   ·exact (Ext.refl _ _).drew
  have vy:it<w1.heap.size:=by
   have:=(aj.1 hi).1;rcases vv with rfl|rfl<;>exact this
  have Te:(setBlock w1 it (.mapIter (some bm) c ((D.map (·.born)).toArray.push x.born) c)).heap[bm]?=some (.map E c):=by
   show (w1.heap.setIfInBounds it _)[bm]?=_;rw[bR BI];rcases vv with rfl|rfl<;>exact hb
  have Tf:(setBlock w1 it (.mapIter (some bm) c ((D.map (·.born)).toArray.push x.born) c)).heap[it]?=some (.mapIter (some bm) c ((D.map (·.born)).toArray.push x.born) c):=by
   show (w1.heap.setIfInBounds it _)[it]?=_;rw[bP vy]
  have mO:=run_entry_at (P:=P) _ it bm c (D.map (·.born)).toArray E c x Tf Te Ho.1 b1;rw[e1,e2]at hr mO;have hpm:(p.1,p.2)∈L:=ax hp;have hD':∀y∈D++[x],y∈E.toList:=fun y hy=>(aK.1 hy).elim (d2 y) fun h=>by rw[ao.1 h];exact Ho.1
  have vz:(D++[x]).Nodup:=bO.2 ⟨hDn,by simp,fun y hy z hz e=>by
   rw[ao]at hz;subst hz;exact Ho.2 (e▸bE hy)⟩
  refine .inr ⟨p.1,p.2,_,hr,vx.trans DT (fun _ h=>h) fun _ _ h=>h,⟨E,c,D++[x],Te,?_,hE,b1,b2,?_,?_,hD'⟩,hpm,?_,mO⟩
  ·rw[Tf];simp
  ·unfold Qj at hD⊢;rw[aP,hD,aP,cz,cz,e1,e2]
  ·rw[aP,cz];exact bO.2 ⟨d1,by simp,fun y hy z hz e=>Ho.2 (by rw[ao]at hz;rw[<-hz,<-e];exact hy)⟩
  ·have h1:=List.Nodup.length_le_of_subset vz (fun y hy=>hD' y hy);rw[ae,bo,hE.len]at h1;have:=hD.len;omega
end
end Sh
namespace Sh
open Go.WideMaps Go.WideShapes Go.Maps
open Go.ChangeMaps (setBlock)
theorem Qi.len{E:List MapEntry}{L:Ke}(h:Qi E L):E.length=L.length:=by
 have:=aq List.length h;simpa using this
theorem Qi.back{E:List MapEntry}{L:Ke}(h:Qi E L):E.map (fun e=>match e.key with| .int _ s=>(s,e.val)|_=>(0,e.val))=L:=by
 have:=aq (List.map fun q:Value×Value=>match q.1 with| .int _ s=>(s,q.2)|_=>((0:Int),q.2)) h;rw[cK,cK]at this;have e:((fun q:Value×Value=>match q.1 with| .int _ s=>(s,q.2)|_=>((0:Int),q.2))∘fun p:Int×Value=>((.int .i64 p.1:Value),p.2))=id:=by
  funext p
  rfl
 rw[e,List.map_id]at this;rw[<-this]
 rfl
theorem Qi.perm{D E:List MapEntry}{done L:Ke}(h:Qi E L)(k:Qi D done)(hp:D.Perm E):done.Perm L:=by
 rw[<-h.back,<-k.back];exact hp.map _
section
variable {P:Program} {w:World} {t k e:TypeId} {b:Nat} {L:Ke} {z:Value}
theorem Hr.len(h:Hr w b L)(ht:P.underlying t=some (.map k e)){ty:TypeId}(hl:L.length<=9223372036854775807):Ai P (Builtin.len_ #[t] ty #[.map (some b)]) w (.int .i64 (L.length:Int)) w:=by
 obtain ⟨E,c,hb,hE⟩:=h.AR;have:=hE.len;have hw:wrap .i64 ((L.length:Nat):Int)=(L.length:Int):=IntWalk.i64_in _ (by omega);simp[Ai,Builtin.len_,run_underlying ht,MapKept.run_getObj_map hb,goInt,Result.andThen];rw[<-aJ,this]
structure pN (w:World) (it bm:Nat) (L done:Ke):Prop where
 out:∃(E:Array MapEntry) (c:Nat) (D:List MapEntry),w.heap[bm]?=some (.map E c)/\w.heap[it]?=some (.mapIter (some bm) c (D.map (·.born)).toArray c)/\Qi E.toList L/\(E.toList.map (·.born)).Nodup/\(∀x∈E.toList,x.born<c)/\
  Qi D done/\(D.map (·.born)).Nodup/\∀x∈D,x∈E.toList
theorem pN.AI{F:Nat->Prop}{w':World}{it bm:Nat}{done:Ke}(h:pN w it bm L done)(he:Ext F w w')(h1:¬F it)(h2:¬F bm):pN w' it bm L done:=by
 obtain ⟨E,c,D,a1,a2,a3⟩:=h.out;exact ⟨E,c,D,by rw[he.block bm (aj.1 a1).1 h2];exact a1,by rw[he.block it (aj.1 a2).1 h1];exact a2,a3⟩
theorem Hr.range(h:Hr w b L)(ht:P.underlying t=some (.map k e)):∃w',Ai P (Instr.range t (.map (some b))) w (.pointer (some ⟨w.heap.size,0,none⟩)) w'/\Ext (fun _=>False) w w'/\pN w' w.heap.size b L []/\w.heap.size<w'.heap.size:=by
 obtain ⟨E,c,hb,hE⟩:=h.AR;obtain ⟨b1,b2⟩:=h.born E c hb;refine ⟨_,run_range_map w t k e b E c ht hb,(Ext.refl _ w).alloc _,⟨E,c,[],?_,?_,hE,b1,b2,rfl,cI,fun x hx=>by cases hx⟩,by simp⟩
 ·rw[heap_alloc_old w _ (aj.1 hb).1];exact hb
 ·rw[heap_alloc_new]
  rfl
theorem pN.next{it bm:Nat}{done:Ke}{ty:TypeId}(h:pN w it bm L done):
  (Ai P (Instr.next (.pointer (some ⟨it,0,none⟩)) false ty) w (.tuple #[.bool false]) w/\done.Perm L)\/
  ∃key v w',Ai P (Instr.next (.pointer (some ⟨it,0,none⟩)) false ty) w (.tuple #[.bool true,.int .i64 key,v]) w'/\Ext (·=it) w w'/\pN w' it bm L (done++[(key,v)])/\(key,v)∈L/\done.length<L.length/\Ai P (Instr.entry (.pointer (some ⟨it,0,none⟩))) w' (.tuple #[.int .i64 key,v]) w':=by
 obtain ⟨E,c,D,hb,hi,hE,b1,b2,hD,d1,d2⟩:=h.out;have BI:it≠bm:=fun e=>by rw[e,hb]at hi;cases hi
 have hDn:D.Nodup:=(List.pairwise_map.1 d1).imp fun h e=>h (by rw[e])
 have yp:E.toList.Nodup:=(List.pairwise_map.1 b1).imp fun h e=>h (by rw[e])
 have inj:∀x∈E.toList,∀y∈E.toList,x.born=y.born->x=y:=fun x hx y hy e=>by
  have h1:=find_born x E.toList b1 hx;have h2:=find_born y E.toList b1 hy;rw[e,h2]at h1;exact (aQ h1).symm
 rcases run_next_at (P:=P) w ty it bm c c (D.map (·.born)).toArray E c hi hb b2 (az _)with ⟨h0,hr⟩|⟨x,hx,w1,vv,hr⟩
 ·refine .inl ⟨hr,hE.perm hD ((List.perm_ext_iff_of_nodup hDn yp).2 fun x=>⟨d2 x,fun hx=>?_⟩)⟩;have:leftOf E (D.map (·.born)).toArray=#[]:=Array.eq_empty_of_size_eq_zero h0;unfold leftOf at this;rw[Array.filter_eq_empty_iff]at this;have h1:=this x (by simpa using hx);simp only[List.contains_toArray,bz,Bool.not_eq_false,aW]at h1;obtain ⟨y,hy,e⟩:=bx.1 h1;exact inj y (d2 y hy) x hx e▸hy
 ·unfold leftOf at hx;have Ho:x∈E.toList/\x.born∉D.map (·.born):=by
   simp only[Array.toList_filter,cC,List.contains_toArray,bz,List.contains_eq_mem,cr]at hx;exact hx
  obtain ⟨i,Qh⟩:=aZ Ho.1;obtain ⟨p,hp,e1,e2⟩:=hE.get Qh;have vx:Ext (·=it) w w1:=by
   rcases vv with rfl|rfl
   ·exact Ext.refl _ _
   ·exact (Ext.refl _ _).drew
  have vy:it<w1.heap.size:=by
   have:=(aj.1 hi).1;rcases vv with rfl|rfl<;>exact this
  have Te:(setBlock w1 it (.mapIter (some bm) c ((D.map (·.born)).toArray.push x.born) c)).heap[bm]?=some (.map E c):=by
   show (w1.heap.setIfInBounds it _)[bm]?=_;rw[bR BI];rcases vv with rfl|rfl<;>exact hb
  have Tf:(setBlock w1 it (.mapIter (some bm) c ((D.map (·.born)).toArray.push x.born) c)).heap[it]?=some (.mapIter (some bm) c ((D.map (·.born)).toArray.push x.born) c):=by
   show (w1.heap.setIfInBounds it _)[it]?=_;rw[bP vy]
  have mO:=run_entry_at (P:=P) _ it bm c (D.map (·.born)).toArray E c x Tf Te Ho.1 b1;rw[e1,e2]at hr mO;have hpm:(p.1,p.2)∈L:=ax hp;have hD':∀y∈D++[x],y∈E.toList:=fun y hy=>(aK.1 hy).elim (d2 y) fun h=>by rw[ao.1 h];exact Ho.1
  have vz:(D++[x]).Nodup:=bO.2 ⟨hDn,by simp,fun y hy z hz e=>by
   rw[ao]at hz;subst hz;exact Ho.2 (e▸bE hy)⟩
  refine .inr ⟨p.1,p.2,_,hr,vx.trans DT (fun _ h=>h) fun _ _ h=>h,⟨E,c,D++[x],Te,?_,hE,b1,b2,?_,?_,hD'⟩,hpm,?_,mO⟩
  ·rw[Tf];simp
  ·unfold Qi at hD⊢;rw[aP,hD,aP,cz,cz,e1,e2]
  ·rw[aP,cz];exact bO.2 ⟨d1,by simp,fun y hy z hz e=>Ho.2 (by rw[ao]at hz;rw[<-hz,<-e];exact hy)⟩
  ·have h1:=List.Nodup.length_le_of_subset vz (fun y hy=>hD' y hy);rw[ae,bo,hE.len]at h1;have:=hD.len;omega
theorem Hr.del(h:Hr w b L)(ht:P.underlying t=some (.map k e))(hk:P.underlying k=some (.int .i64)){key:Int}(Cy:(Lit.int .i64 key).wf=true){ty:TypeId}:∃w',Ai P (Builtin.delete_ #[t,k] ty #[.map (some b),.int .i64 key]) w (.tuple #[]) w'/\Ext (fun j=>j=b) w w':=by
 obtain ⟨E,c,hb,hE⟩:=h.AR;have DS:=keyOf_int_mk hk Cy;have Pv:=fun em=>(int_keyed hk).check w em DS
 rcases Ps hE h.one hk h.Yk Cy w with ⟨h1,_,_⟩|⟨j,x,h1,_,_⟩
 ·exact ⟨setBlock w b (.map E c),by simp[Ai,Builtin.delete_,run_underlying ht,MapKept.run_getObj_map hb,Pv,h1,MapKept.run_setObj_map _ hb,Result.andThen,setBlock],DT⟩
 ·exact ⟨setBlock w b (.map (E.eraseIdxIfInBounds j) c),by simp[Ai,Builtin.delete_,run_underlying ht,MapKept.run_getObj_map hb,Pv,h1,MapKept.run_setObj_map _ hb,Result.andThen,setBlock],DT⟩
end
end Sh
set_option maxRecDepth 100000
set_option maxHeartbeats 4000000
namespace Pc
open Sh Fix Tk Tl Vl Wt Go.Lib
open Go.RowKit
abbrev Zh (x:BQ):Value:= .agg #[.int .i64 x.1,.int .i64 x.2.1,.int .i64 x.2.2.1,.int .i64 x.2.2.2]
structure ZE (n0 l:Nat) (J:(Nat->Prop)->List BQ->World->Prop):Prop where
 lt:∀{S:Nat->Prop} {F:List BQ} {W:World},J S F W->∀j,S j->j<W.heap.size
 AB:∀{S G:Nat->Prop} {F:List BQ} {W W':World},J S F W->Ext G W W'->(∀j,G j->¬S j/\n0<=j)->J S F W'
 yl:∀{S:Nat->Prop} {F:List BQ} {W:World} {x:BQ} {K:Bool->World->Prop},J S F W->F.length<1000000->0<=x.1/\x.1<=1000000->(∀S' W',J S' (F++[x]) W'->Ext S W W'->(∀j,S' j->S j\/W.heap.size<=j)->K true W')->Yl prog l #[Zh x] W K
structure JL (w:World) (D b n0:Nat) (rec:Loop) (S:Nat->Prop) (F:List BQ) (W:World):Prop where
 rc:W.heap[D+1]?=some (.loop rec)
 df:W.heap[D]?=some (.deferred (some []))
 k:∃sl:AA,AN W b #[AA.v sl] 34/\D4 W sl F/\(∀j,S j↔(j=D\/j=D+1\/j=b\/sl.own j))/\∀j,sl.own j->n0<=j
 ext:Ext (fun _=>False) w W
 sz:n0<=W.heap.size
structure JM (w:World) (D c mb n0:Nat) (rec:Loop) (S:Nat->Prop) (F:List BQ) (W:World):Prop where
 rc:W.heap[D+1]?=some (.loop rec)
 df:W.heap[D]?=some (.deferred (some []))
 k:AN W c #[.map (some mb)] 77/\Hr W mb (G1 F)
 s:∀j,S j↔(j=D\/j=D+1\/j=c\/j=mb)
 ext:Ext (fun _=>False) w W
 sz:n0<=W.heap.size
section
variable {w W W':World} {D b c mb n0:Nat} {rec:Loop} {S:Nat->Prop} {F:List BQ} {x:BQ}
theorem JL.lt(h:JL w D b n0 rec S F W):∀j,S j->j<W.heap.size:=fun j hj=>by
 obtain ⟨sl,k1,k2,k4,k5⟩:=h.k;rcases (k4 j).1 hj with rfl|rfl|rfl|q
 ·exact (aj.1 h.df).1
 ·exact (aj.1 h.rc).1
 ·exact k1.lt
 ·exact Row.own_lt k2 q
theorem JL.AB{G:Nat->Prop}(hw:w.heap.size<=n0)(h:JL w D b n0 rec S F W)(he:Ext G W W')(hG:∀j,G j->¬S j/\n0<=j):JL w D b n0 rec S F W':=by
 obtain ⟨sl,k1,k2,k4,k5⟩:=h.k;have hn:∀{j:Nat},(j=D\/j=D+1\/j=b\/sl.own j)->¬G j:=fun q f=>(hG _ f).1 ((k4 _).2 q)
 exact ⟨(he.block _ (aj.1 h.rc).1 (hn (.inr (.inl rfl)))).trans h.rc,(he.block _ (aj.1 h.df).1 (hn (.inl rfl))).trans h.df,
  ⟨sl,he.AR k1 (hn (.inr (.inr (.inl rfl)))),Row.AB k2 he fun j hj hh=>hn (.inr (.inr (.inr hj))) hh,k4,k5⟩,Ext.Bw h.ext he fun j hj=>by have:=(hG j hj).2;omega,by have:=h.sz;have:=he.size;omega⟩
theorem JM.lt(h:JM w D c mb n0 rec S F W):∀j,S j->j<W.heap.size:=fun j hj=>by
 rcases (h.s j).1 hj with rfl|rfl|rfl|rfl
 ·exact (aj.1 h.df).1
 ·exact (aj.1 h.rc).1
 ·exact h.k.1.lt
 ·exact h.k.2.lt
theorem JM.AB{G:Nat->Prop}(hw:w.heap.size<=n0)(h:JM w D c mb n0 rec S F W)(he:Ext G W W')(hG:∀j,G j->¬S j/\n0<=j):JM w D c mb n0 rec S F W':=by
 have hn:∀{j:Nat},(j=D\/j=D+1\/j=c\/j=mb)->¬G j:=fun q f=>(hG _ f).1 ((h.s _).2 q)
 exact ⟨(he.block _ (aj.1 h.rc).1 (hn (.inr (.inl rfl)))).trans h.rc,(he.block _ (aj.1 h.df).1 (hn (.inl rfl))).trans h.df,
  ⟨he.AR h.k.1 (hn (.inr (.inr (.inl rfl)))),h.k.2.AI he (hn (.inr (.inr (.inr rfl))))⟩,h.s,Ext.Bw h.ext he fun j hj=>by have:=(hG j hj).2;omega,by have:=h.sz;have:=he.size;omega⟩
attribute [local irreducible] Ld Sh.St Nw Nn AU
theorem xG {fn:FuncId}{tmps:Array Value}{K:Bool->World->Prop}(hj:JL w D b n0 (Ad fn tmps #[7] HT HU D) S F W)(DN:w.heap.size<=b/\b<D/\D+1<n0)(hlen:F.length<1000000)(hf:Fits 13 [(2,.pointer (some ⟨b,0,none⟩))] {tmps:=tmps,defers:=[]})
  (hK:∀S' W',JL w D b n0 (Ad fn tmps #[7] HT HU D) S' (F++[x]) W'->Ext S W W'->(∀j,S' j->S j\/W.heap.size<=j)->K true W'):Yl prog (D+1) #[Zh x] W K:=by
 obtain ⟨s1,s2,s3⟩:=DN;refine QJ (N:=13) (F:=⟨FF,CG,fun _ _=>False⟩) okF (fun _ _ h=>h) hj.rc rfl (E:=[(7,Zh x),(2,.pointer (some ⟨b,0,none⟩))]) ?_ (pa:=AB3) (pb:=AB5) (by kernel_rfl) (by kernel_rfl) ?_
 ·have e9:GK #[7] #[Zh x] tmps=tmps.setIfInBounds 7 (Zh x):=by simp[GK]
  rw[e9];exact hf.put (d:=some 7) (v:=Zh x) (fun t ht=>by cases ht;decide)
 rw[AJC];unfold AB4;refine (Hn.start W).nw (cs:=[.int .i64 0,.int .i64 0,.int .i64 0,.int .i64 0]) fun u0 H0=>?_
 simp only[ad,ag,add_lit,ak]at H0⊢
 iterate 4 (refine H0.st 0 rfl (by simp) fun _ H0=>?_;simp only[aa,ab]at H0)
 have e0:=H0.ext;refine ⟨(e0.block (D+1) (aj.1 hj.rc).1 id).trans hj.rc,?_⟩;rw[AJD];unfold AB6;obtain ⟨sl,q1,q2,q4,q5⟩:=hj.k;rename_i ua ub uc ud;have hD:=(aj.1 hj.rc).1;have hD0:D+1<ud.heap.size:=by have:=e0.size;omega
 have a5:=H0.get 0 rfl;have n0W:=hj.sz;have eP:Ext (·=D+1) ud (ud.putObj (D+1) (.loop {Ad fn tmps #[7] HT HU D with state:= .busy})):=Ext.put (Ext.refl _ _) _ (.inl rfl);have p1:=eP.AR (e0.AR q1 id) (by omega);have a5:=eP.AR a5 (by omega);have p2:=(Row.AB q2 e0 fun _ _ e=>e).AB eP fun j hj e=>by have:=q5 j hj;have e:j=D+1:=e;omega
 have h0:(ud.putObj (D+1) (.loop {Ad fn tmps #[7] HT HU D with state:= .busy})).heap[D+1]?=_:=World.putObj_heap_same hD0;generalize hu:ud.putObj (D+1) (.loop {Ad fn tmps #[7] HT HU D with state:= .busy})=u at eP p1 p2 a5 h0⊢;have hDu:=(aj.1 h0).1;have Xm:=eP.size;have ANg:=e0.size;refine Ld.of p1 rfl ?_;simp only[add_lit,ak];refine Ld.of a5 rfl (Ld.of a5 rfl (Ld.of a5 rfl (Ld.of a5 rfl ?_)));refine (Hn.start u).nw (cs:=BL x) fun u2 H2=>?_
 have e2:=H2.ext;have JI:sl.len=F.length:=D4.len q2;obtain ⟨s',u3,r1,r2,r3,e3,r5⟩:=ACa.O4 (ty:=34) (p2.AB e2 fun _ _ e=>e) (H2.get 0 rfl) rfl (fun v hv=>by
  simp only[BL,ar,aF,bp]at hv;rcases hv with rfl|rfl|rfl|rfl<;>rfl) (by omega) (by omega)
 refine ⟨s',u3,r1,?_⟩;have CF:∀j,s'.own j->n0<=j:=fun j hj=>(r5 j hj).elim (q5 j) fun h=>by have:=e2.size;omega
 have xH:=e3.AR (e2.AR p1 id) fun hj=>by have:=q5 _ hj;omega
 have hlu:b<u3.heap.size:=xH.lt;unfold Sh.St;have e4:Ext (·=b) u3 (u3.setCell ⟨b,0,none⟩ (AA.v s')):=(Ext.refl (·=b) u3).set (.inl rfl) _;have k4':AN (u3.setCell ⟨b,0,none⟩ (AA.v s')) b #[AA.v s'] 34:=xH.set 0 _;refine ⟨xH.can (by simp),?_⟩;generalize u3.setCell ⟨b,0,none⟩ (AA.v s')=u4 at e4 k4'⊢;have a1:=e2.size;have a2:=e3.size;have pf:u4.heap[D+1]?=some (.loop {Ad fn tmps #[7] HT HU D with state:= .busy}):=by
  rw[e4.block (D+1) (by omega) (by show ¬D+1=b;omega),e3.block (D+1) (by omega) (fun hj=>by have:=q5 _ hj;omega),e2.block (D+1) hDu (fun h=>h)];exact h0
 have hD4:=(aj.1 pf).1;have E4:Ext (fun j=>j=D+1\/j=b\/sl.own j) W u4:=
  Ext.trans (F:=fun j=>j=D+1\/sl.own j) (Ext.trans (F:=fun j=>j=D+1) (Ext.trans (F:=fun j=>j=D+1) (Ext.trans (F:=fun _=>False) e0 eP (fun _ h=>h.elim) fun _ _ h=>h) e2 (fun _ h=>h) fun _ _ h=>h.elim) e3 (fun _ h=> .inl h) fun _ _ h=> .inr h) e4 (fun _ h=>h.elim .inl fun h=> .inr (.inr h)) fun _ _ h=> .inr (.inl h)
 have nb:∀{c:Nat},c<n0->c≠D+1->c≠b->¬(c=D+1\/c=b\/sl.own c):=fun h1 h2 h3 h=>by
  rcases h with h|h|h
  ·exact h2 h
  ·exact h3 h
  ·have:=q5 _ h;omega
 have EP:Ext (·=D+1) u4 (u4.putObj (D+1) (.loop (Ad fn tmps #[7] HT HU D))):=Ext.put (Ext.refl _ _) _ (.inl rfl);have es:=E4.size;refine ⟨pf,hK (fun j=>j=D\/j=D+1\/j=b\/s'.own j) _ ?_ ?_ ?_⟩
 ·refine ⟨World.putObj_heap_same hD4,(World.putObj_heap_other (by omega)).trans ((E4.block D (by omega) (nb (by omega) (by omega) (by omega))).trans hj.df),⟨s',QL k4' _ (by omega),?_,fun j=>Iff.rfl,CF⟩,?_,?_⟩
  ·unfold D4;rw[IL,cu];refine (r2.AB e4 fun j hj (e:j=b)=>?_).AB EP fun j hj (e:j=D+1)=>?_
   ·have:=CF j hj;omega
   ·have:=CF j hj;omega
  ·exact Ext.Bw (Ext.Bw hj.ext E4 (by rintro j (h|h|h);omega;omega;have:=q5 _ h;omega)) EP fun j (hj:j=D+1)=>by omega
  ·simp only[World.putObj_size];omega
 ·refine (E4.trans (H:=S) EP (fun j h=>?_) fun j _ (h:j=D+1)=>(q4 j).2 (.inr (.inl h)));rcases h with h|h|h
  ·exact (q4 j).2 (.inr (.inl h))
  ·exact (q4 j).2 (.inr (.inr (.inl h)))
  ·exact (q4 j).2 (.inr (.inr (.inr h)))
 ·rintro j (h|h|h|h)
  ·exact .inl ((q4 j).2 (.inl h))
  ·exact .inl ((q4 j).2 (.inr (.inl h)))
  ·exact .inl ((q4 j).2 (.inr (.inr (.inl h))))
  ·rcases r5 j h with h|h
   ·exact .inl ((q4 j).2 (.inr (.inr (.inr h))))
   ·exact .inr (by omega)
theorem iW:prog.underlying 77=some (.map 3 33):=by kernel_rfl
theorem xI:prog.underlying 3=some (.int .i64):=by kernel_rfl
theorem na {fn:FuncId}{tmps:Array Value}{K:Bool->World->Prop}(hj:JM w D c mb n0 (Ad fn tmps #[8] Ff Fg D) S F W)(DN:w.heap.size<=c/\c<D/\D+1<n0/\w.heap.size<=mb/\mb<D/\mb≠c)(hx:0<=x.1/\x.1<=1000000)(hf:Fits 15 [(3,.pointer (some ⟨c,0,none⟩))] {tmps:=tmps,defers:=[]})
  (hK:∀S' W',JM w D c mb n0 (Ad fn tmps #[8] Ff Fg D) S' (F++[x]) W'->Ext S W W'->(∀j,S' j->S j\/W.heap.size<=j)->K true W'):Yl prog (D+1) #[Zh x] W K:=by
 obtain ⟨s1,s2,s3,s4,s5,s6⟩:=DN;refine QJ (N:=15) (F:=⟨FF,CG,fun _ _=>False⟩) okF (fun _ _ h=>h) hj.rc rfl (E:=[(8,Zh x),(3,.pointer (some ⟨c,0,none⟩))]) ?_ (pa:=ABi) (pb:=ABk) (by kernel_rfl) (by kernel_rfl) ?_
 ·have e9:GK #[8] #[Zh x] tmps=tmps.setIfInBounds 8 (Zh x):=by simp[GK]
  rw[e9];exact hf.put (d:=some 8) (v:=Zh x) (fun t ht=>by cases ht;decide)
 rw[AIx];unfold ABj;refine (Hn.start W).nw (cs:=[.int .i64 0,.int .i64 0,.int .i64 0,.int .i64 0]) fun u0 H0=>?_
 simp only[ad,ag,add_lit,ak]at H0⊢
 iterate 4 (refine H0.st 0 rfl (by simp) fun _ H0=>?_;simp only[aa,ab]at H0)
 have e0:=H0.ext;refine ⟨(e0.block (D+1) (aj.1 hj.rc).1 id).trans hj.rc,?_⟩;rw[AIy];unfold ABl;obtain ⟨q1,q2⟩:=hj.k;rename_i ua ub uc ud;have hD:=(aj.1 hj.rc).1;have hD0:D+1<ud.heap.size:=by have:=e0.size;omega
 have a5:=H0.get 0 rfl;have n0W:=hj.sz;have eP:Ext (·=D+1) ud (ud.putObj (D+1) (.loop {Ad fn tmps #[8] Ff Fg D with state:= .busy})):=Ext.put (Ext.refl _ _) _ (.inl rfl);have p1:=eP.AR (e0.AR q1 id) (by omega);have a5:=eP.AR a5 (by omega);have p2:=(q2.AB e0).AI eP (by omega);have h0:(ud.putObj (D+1) (.loop {Ad fn tmps #[8] Ff Fg D with state:= .busy})).heap[D+1]?=_:=World.putObj_heap_same hD0;generalize hu:ud.putObj (D+1) (.loop {Ad fn tmps #[8] Ff Fg D with state:= .busy})=u at eP p1 p2 a5 h0⊢;have hDu:=(aj.1 h0).1;have Xm:=eP.size;have ANg:=e0.size;refine Ld.of p1 rfl ?_;simp only[add_lit,ak];refine Ld.of a5 rfl (Ld.of a5 rfl (Ld.of a5 rfl (Ld.of a5 rfl (Ld.of a5 rfl ?_))));obtain ⟨u4,r1,r2,e4⟩:=p2.put iW xI (WalkArith.wf_i64 (n:=x.1) ⟨by omega,by omega⟩) (BK x);refine ⟨u4,r1,?_⟩;have hmk:G1 (F++[x])=D7 (G1 F) x.1 (BK x):=F8 F x;have pf:u4.heap[D+1]?=some (.loop {Ad fn tmps #[8] Ff Fg D with state:= .busy}):=by
  rw[e4.block (D+1) (by omega) (by show ¬D+1=mb;omega)];exact h0
 have hD4:=(aj.1 pf).1;have E4:Ext (fun j=>j=D+1\/j=mb) W u4:=
  Ext.trans (F:=fun j=>j=D+1) (Ext.trans (F:=fun _=>False) e0 eP (fun _ h=>h.elim) fun _ _ h=>h) e4 (fun _ h=> .inl h) fun _ _ h=> .inr h
 have EP:Ext (·=D+1) u4 (u4.putObj (D+1) (.loop (Ad fn tmps #[8] Ff Fg D))):=Ext.put (Ext.refl _ _) _ (.inl rfl);have es:=E4.size;refine ⟨pf,hK S _ ?_ ?_ fun j h=> .inl h⟩
 ·refine ⟨World.putObj_heap_same hD4,(World.putObj_heap_other (by omega)).trans ((E4.block D (by omega) (by omega)).trans hj.df),⟨QL (e4.AR p1 (by omega)) _ (by omega),?_⟩,hj.s,?_,?_⟩
  ·rw[hmk];exact r2.AI EP (by omega)
  ·exact Ext.Bw (Ext.Bw hj.ext E4 (by rintro j (h|h)<;>omega)) EP fun j (hj:j=D+1)=>by omega
  ·simp only[World.putObj_size];omega
 ·refine (E4.trans (H:=S) EP (fun j h=>?_) fun j _ (h:j=D+1)=>(hj.s j).2 (.inr (.inl h)));rcases h with h|h
  ·exact (hj.s j).2 (.inr (.inl h))
  ·exact (hj.s j).2 (.inr (.inr (.inr h)))
end
end Pc
set_option maxRecDepth 512
set_option maxHeartbeats 200000
namespace Pc
open Sh Fix Tk Tl Vl Wt
theorem K7:∀(l:By) (b:Bool) (m:Nat),m<=AP l b->∃b',AP (l.drop m) b'=AP l b-m
 |l,b,0,_=>⟨b,by simp⟩
 |[],b,m+1,h=>by simp[AP]at h
 |c::r,true,m+1,h=>by
  simp only[AP]at h⊢;obtain ⟨b',e⟩:=K7 r (!(c==13||c==10)) m (by omega);exact ⟨b',by rw[cG,e];omega⟩
 |c::r,false,m+1,h=>by
  simp only[AP]at h⊢;split at h
  ·rename_i h1;rw[aG h1];obtain ⟨b',e⟩:=K7 r true m (by omega);exact ⟨b',by rw[cG,e];omega⟩
  ·rename_i h1;rw[aA h1];split at h
   ·rename_i h2;rw[aG h2];obtain ⟨b',e⟩:=K7 r false m (by omega);exact ⟨b',by rw[cG,e];omega⟩
   ·omega
theorem AC0 {c:UInt8}(h:(c==13||c==10)=true):D9 c=true:=by
 rcases bA _ _▸h with h|h
 ·rw[bU]at h;subst h;rfl
 ·rw[bU]at h;subst h;rfl
theorem Jf:∀(l:By) (b:Bool) (n:Nat),AP l b=n+1->n+1<l.length->∃c,l[n]?=some c/\D9 c=true
 |[],b,n,h,_=>by simp[AP]at h
 |[c],b,n,h,hl=>by simp at hl
 |c::d::r,true,0,h,hl=>by
  have h:1+AP (d::r) (!(c==13||c==10))=0+1:=h;cases hc:(c==13||c==10)with
  |true=>exact ⟨c,rfl,AC0 hc⟩
  |false=>
   rw[hc]at h;simp only[Bool.not_false,AP]at h;omega
 |c::d::r,true,n+1,h,hl=>by
  have h:1+AP (d::r) (!(c==13||c==10))=n+1+1:=h;obtain ⟨x,h1,h2⟩:=Jf (d::r) (!(c==13||c==10)) n (by omega) (by simpa using hl);exact ⟨x,by simpa using h1,h2⟩
 |c::d::r,false,0,h,hl=>by
  have h:(if c=37 then 1+AP (d::r) true else if D9 c=true then 1+AP (d::r) false else 0)=0+1:=h;split at h
  ·have:AP (d::r) true=1+AP r (!(d==13||d==10)):=rfl;omega
  ·split at h
   ·rename_i h2;exact ⟨c,rfl,h2⟩
   ·omega
 |c::d::r,false,n+1,h,hl=>by
  have h:(if c=37 then 1+AP (d::r) true else if D9 c=true then 1+AP (d::r) false else 0)=n+1+1:=h;have:∃b',AP (d::r) b'=n+1:=by
   split at h
   ·exact ⟨true,by omega⟩
   ·split at h
    ·exact ⟨false,by omega⟩
    ·omega
  obtain ⟨b',e⟩:=this;obtain ⟨x,h1,h2⟩:=Jf (d::r) b' n e (by simpa using hl);exact ⟨x,by simpa using h1,h2⟩
structure NV (l:By) (a b e:Nat):Prop where
 at':b=a+AP (l.drop a) false
 lt:b<e
 le:e<=l.length
 A7:∀i,b<=i->i<e->∃c,l[i]?=some c/\AW c=true
 stop:∀c,l[e]?=some c->AW c=false
def Bv:By:=[111,98,106]
def HB:By:=[101,110,100,111,98,106]
def oN (l:By)(p:Nat):Prop:=∃b1 e1 b2 e2 b3 e3,NV l p b1 e1/\NV l e1 b2 e2/\NV l e2 b3 e3/\e3=b3+3/\l[b3]?=some 111/\l[b3+1]?=some 98/\l[b3+2]?=some 106
structure Qk (t A G J:By):Prop where
 eq:t=A++32::(G++32::111::98::106::10::(J++10::101::110::100::111::98::106::[10]))
 a:Aq A
 g:Aq G
 a1:A≠[]
 g1:G≠[]
 j1:J≠[]
 jo:J.headD 0≠111
 jw:∀c∈J,D9 c=true->c=32
def mX (t:By)(j:Nat):Prop:=t[j]?=some 32/\t[j+1]?=some 111/\t[j+2]?=some 98/\t[j+3]?=some 106
def wA (t:By):Prop:=∀i j,mX t i->mX t j->i=j
theorem Wb {x y:By}{c:UInt8}(j:Nat):(x++c::y)[j]?=if j<x.length then x[j]? else if j=x.length then some c else y[j-x.length-1]?:=by
 split
 ·rename_i h;rw[aI h]
 ·rename_i h;rw[aM (by omega)];split
  ·rename_i h2;subst h2;simp
  ·rw[show j-x.length=(j-x.length-1)+1 by omega,bK]
   congr 1
theorem DU {c:UInt8}(h:BF c):AW c=true/\c≠10/\c≠32/\c≠37/\c≠111/\D9 c=false:=by
 have h1:=h.1;have h2:=h.2;have:∀n:Fin 256,48<=n.val->n.val<=57->(AW (UInt8.ofNat n.val)=true/\UInt8.ofNat n.val≠10/\UInt8.ofNat n.val≠32/\UInt8.ofNat n.val≠37/\UInt8.ofNat n.val≠111/\D9 (UInt8.ofNat n.val)=false):=by decide+kernel
 have:=this ⟨c.toNat,c.toNat_lt⟩ h1 h2;rwa[UInt8.ofNat_toNat]at this
section
variable {t A G J:By}
theorem Qk.len(h:Qk t A G J):t.length=A.length+G.length+J.length+14:=by
 rw[h.eq];simp;omega
theorem Qk.get(h:Qk t A G J)(j:Nat):t[j]?=if j<A.length then A[j]? else if j=A.length then some 32 else if j<A.length+1+G.length then G[j-A.length-1]? else if j=A.length+1+G.length then some 32 else
  if j=A.length+G.length+2 then some 111 else if j=A.length+G.length+3 then some 98 else if j=A.length+G.length+4 then some 106 else if j=A.length+G.length+5 then some 10 else
  if j<A.length+G.length+6+J.length then J[j-(A.length+G.length+6)]? else (10::101::110::100::111::98::106::[10]:By)[j-(A.length+G.length+6+J.length)]?:=by
 rw[h.eq,Wb];split
 ·rfl
 split
 ·rfl
 rw[Wb];split
 ·rw[aG (by omega)]
 split
 ·rw[aA (by omega),aG (by omega)]
 rw[aA (by omega),aA (by omega)];rename_i h1 h2 h3 h4;by_cases h5:j=A.length+G.length+2
 ·rw[aG h5,show j-A.length-1-G.length-1=0 by omega];rfl
 by_cases h6:j=A.length+G.length+3
 ·rw[aA h5,aG h6,show j-A.length-1-G.length-1=1 by omega];rfl
 by_cases h7:j=A.length+G.length+4
 ·rw[aA h5,aA h6,aG h7,show j-A.length-1-G.length-1=2 by omega];rfl
 by_cases h8:j=A.length+G.length+5
 ·rw[aA h5,aA h6,aA h7,aG h8,show j-A.length-1-G.length-1=3 by omega];rfl
 rw[aA h5,aA h6,aA h7,aA h8,show j-A.length-1-G.length-1=(j-(A.length+G.length+6))+4 by omega];simp only[bK];by_cases h9:j<A.length+G.length+6+J.length
 ·rw[aG h9,aI (by omega)]
 ·rw[aA h9,aM (by omega)]
  congr 1
  omega
theorem Qk.at4(h:Qk t A G J):mX t (A.length+1+G.length):=by
 refine ⟨?_,?_,?_,?_⟩
 ·rw[h.get,aA (by omega),aA (by omega),aA (by omega),aG (by omega)]
 ·rw[h.get,aA (by omega),aA (by omega),aA (by omega),aA (by omega),aG (by omega)]
 ·rw[h.get,aA (by omega),aA (by omega),aA (by omega),aA (by omega),aA (by omega),aG (by omega)]
 ·rw[h.get,aA (by omega),aA (by omega),aA (by omega),aA (by omega),aA (by omega),aA (by omega),aG (by omega)]
theorem Qk.AC1(h:Qk t A G J){j:Nat}{c:UInt8}(hj:t[j]?=some c)(hw:D9 c=true):c=32\/(c=10/\(j=A.length+G.length+5\/j=A.length+G.length+6+J.length\/j=A.length+G.length+J.length+13)):=by
 have Au:=(al.1 hj).1;rw[h.len]at Au;rw[h.get]at hj;split at hj
 ·have:=(DU (h.a c (ax hj))).2.2.2.2.2;rw[hw]at this;cases this
 split at hj
 ·cases hj;exact .inl rfl
 split at hj
 ·have:=(DU (h.g c (ax hj))).2.2.2.2.2;rw[hw]at this;cases this
 split at hj
 ·cases hj;exact .inl rfl
 split at hj
 ·cases hj;exact absurd hw (by decide)
 split at hj
 ·cases hj;exact absurd hw (by decide)
 split at hj
 ·cases hj;exact absurd hw (by decide)
 split at hj
 ·cases hj;exact .inr ⟨rfl,.inl (by assumption)⟩
 split at hj
 ·exact .inl (h.jw c (ax hj) hw)
 ·rename_i hn;obtain ⟨k,hk⟩:∃k,j=A.length+G.length+6+J.length+k:=⟨j-(A.length+G.length+6+J.length),by omega⟩
  have hk7:k<=7:=by omega
  rw[hk,Nat.add_sub_cancel_left]at hj
  match k,hk7,hj with
  |0,_,hj=>cases hj;exact .inr ⟨rfl,.inr (.inl hk)⟩
  |1,_,hj=>cases hj;exact absurd hw (by decide)
  |2,_,hj=>cases hj;exact absurd hw (by decide)
  |3,_,hj=>cases hj;exact absurd hw (by decide)
  |4,_,hj=>cases hj;exact absurd hw (by decide)
  |5,_,hj=>cases hj;exact absurd hw (by decide)
  |6,_,hj=>cases hj;exact absurd hw (by decide)
  |7,_,hj=>cases hj;exact .inr ⟨rfl,.inr (.inr (by omega))⟩
theorem Qk.last(h:Qk t A G J):t[A.length+G.length+J.length+13]?=some 10:=by
 rw[h.get]
 repeat rw[aA (by omega)]
 rw[show A.length+G.length+J.length+13-(A.length+G.length+6+J.length)=7 by omega]
 rfl
theorem Qk.first(h:Qk t A G J):∃c,t[0]?=some c/\BF c:=by
 have h1:0<A.length:=cg.2 h.a1;rw[h.get,aG h1];exact ⟨A[0],ah h1,h.a _ (cJ h1)⟩
theorem Qk.after(h:Qk t A G J){j:Nat}(hj:j=A.length+G.length+5\/j=A.length+G.length+6+J.length):t[j+1]?≠some 111:=by
 have hJ:0<J.length:=cg.2 h.j1;rw[h.get];rcases hj with rfl|rfl
 ·repeat rw[aA (by omega)]
  rw[aG (by omega),show A.length+G.length+5+1-(A.length+G.length+6)=0 by omega];have:=h.jo;cases hJJ:J with
  |nil=>rw[hJJ]at hJ;cases hJ
  |cons c r=>
   rw[hJJ]at this;intro e;exact this (by simpa using e)
 ·repeat rw[aA (by omega)]
  rw[show A.length+G.length+6+J.length+1-(A.length+G.length+6+J.length)=1 by omega];decide
end
theorem GS:∀(Ts:List By) (q:Nat),q<Ts.flatten.length->∃DO t Bi j,Ts=DO++t::Bi/\q=DO.flatten.length+j/\j<t.length
 |[],q,h=>by simp at h
 |t::Ts,q,h=>by
  by_cases h1:q<t.length
  ·exact ⟨[],t,Ts,q,rfl,by simp,h1⟩
  ·rw[cq,ae]at h;obtain ⟨DO,u,Bi,j,e,h2,h3⟩:=GS Ts (q-t.length) (by omega);refine ⟨t::DO,u,Bi,j,by rw[e];rfl,?_,h3⟩;rw[cq,ae];omega
theorem Fs {DO Bi:List By}{t:By}{j:Nat}:(DO++t::Bi).flatten[DO.flatten.length+j]?=(t++Bi.flatten)[j]?:=by
 rw[List.flatten_append,cq,aM (by omega),Nat.add_sub_cancel_left]
theorem EB {DO Bi:List By}{t:By}{j:Nat}(h:j<t.length):(DO++t::Bi).flatten[DO.flatten.length+j]?=t[j]?:=by
 rw[Fs,aI h]
def Zs (t:By):Prop:=(∃A G J,Qk t A G J)/\wA t
theorem wB {Ts:List By}(hT:∀t∈Ts,Zs t){b:Nat}{c:UInt8}(h0:Ts.flatten[b]?=some c)(hw:D9 c=true)(h1:Ts.flatten[b+1]?=some 111)(h2:Ts.flatten[b+2]?=some 98)(h3:Ts.flatten[b+3]?=some 106):
  ∃DO t Bi A G J,Ts=DO++t::Bi/\Qk t A G J/\b=DO.flatten.length+(A.length+1+G.length):=by
 obtain ⟨DO,t,Bi,j,rfl,rfl,hj⟩:=GS Ts b (al.1 h0).1;obtain ⟨⟨A,G,J,hI⟩,hO⟩:=hT t (by simp);refine ⟨DO,t,Bi,A,G,J,rfl,hI,?_⟩;rw[EB hj]at h0;have hlen:=hI.len;have fu:=hI.last;have inn:∀{k:Nat} {d:UInt8},k<t.length->d≠10->t[k]?=some d->k+1<t.length:=fun {k d} hk hd e=>by
  refine Nat.lt_of_not_le fun hle=>?_
  have:k=A.length+G.length+J.length+13:=by omega
  rw[this,fu]at e;exact hd (by simpa using e.symm)
 rcases hI.AC1 h0 hw with rfl|⟨rfl,hp⟩
 ·have k1:=inn hj (by decide) h0;rw[show DO.flatten.length+j+1=DO.flatten.length+(j+1) by omega,EB k1]at h1;have k2:=inn k1 (by decide) h1;rw[show DO.flatten.length+j+2=DO.flatten.length+(j+2) by omega,EB k2]at h2;have k3:=inn k2 (by decide) h2;rw[show DO.flatten.length+j+3=DO.flatten.length+(j+3) by omega,EB k3]at h3;have:=hO j _ ⟨h0,h1,h2,h3⟩ hI.at4;omega
 ·exfalso;rw[show DO.flatten.length+j+1=DO.flatten.length+(j+1) by omega]at h1;rcases hp with hp|hp|hp
  ·rw[EB (by omega)]at h1;exact hI.after (.inl hp) h1
  ·rw[EB (by omega)]at h1;exact hI.after (.inr hp) h1
  ·rw[Fs,aM (by omega),show j+1-t.length=0 by omega]at h1;cases Bi with
   |nil=>simp at h1
   |cons u Bi=>
    obtain ⟨⟨A',G',J',wC⟩,_⟩:=hT u (by simp);obtain ⟨d,e,hd⟩:=wC.first
    have hu:0<u.length:=(al.1 e).1;rw[cq,aI hu,e]at h1;exact (DU hd).2.2.2.2.1 (by simpa using h1)
theorem NV.before{l:By}{a b e:Nat}(h:NV l a b e)(hab:a<b):∃c,l[b-1]?=some c/\D9 c=true:=by
 have h1:=h.at';have Au:=h.lt;have hle:=h.le;obtain ⟨n,hn⟩:∃n,AP (l.drop a) false=n+1:=⟨AP (l.drop a) false-1,by omega⟩
 obtain ⟨c,hc,hw⟩:=Jf _ _ n hn (by rw[aE];omega);rw[bI]at hc;exact ⟨c,by rw[show b-1=a+n by omega];exact hc,hw⟩
theorem Wc {l:By}{a b e q:Nat}(h:NV l a b e)(hq:q+2=b)(haq:a<=q){d:UInt8}(hd:l[q]?=some d)(G9:BF d)(hs:l[q+1]?=some 32):False:=by
 have h1:=h.at';obtain ⟨b',e'⟩:=K7 (l.drop a) false (q-a) (by omega);rw[bH,show a+(q-a)=q by omega,show AP (l.drop a) false-(q-a)=2 by omega]at e';have hx:l.drop q=d::32::l.drop (q+2):=by
  rw[b7,hd,b7 (i:=q+1),hs]
  rfl
 obtain ⟨c,hc,fk⟩:=h.A7 b (az _) h.lt;have hy:l.drop (q+2)=c::l.drop (q+3):=by
  rw[b7,hq,hc];subst hq
  rfl
 rw[hx,hy]at e';obtain ⟨_,n1,n2,n3,_,n4⟩:=DU G9;cases b' with
 |true=>
  have AMQ:d≠13:=fun h=>by subst h;exact absurd G9.1 (by decide)
  have f:(d==13||d==10)=false:=by simp[AMQ,n1]
  simp only[AP,f,Bool.not_false]at e';have f2:((32:UInt8)==13||(32:UInt8)==10)=false:=rfl;simp only[f2,Bool.not_false,AP]at e';omega
 |false=>
  simp only[AP,aA n3,n4]at e';simp at e'
theorem Yn {Ts:List By}(hT:∀t∈Ts,Zs t)(h:0<Ts.flatten.length):Ts.flatten[Ts.flatten.length-1]?=some 10:=by
 obtain ⟨DO,t,Bi,j,e,h1,h2⟩:=GS Ts (Ts.flatten.length-1) (by omega);obtain ⟨⟨A,G,J,hI⟩,_⟩:=hT t (by rw[e];simp);have hlen:=hI.len;have hp:0<(Bi.flatten).length\/(Bi.flatten).length=0:=by omega
 have e2:Ts.flatten.length=DO.flatten.length+t.length+Bi.flatten.length:=by rw[e];simp;omega
 rcases hp with hp|hp
 ·omega
 ·rw[h1,e,EB h2,show j=A.length+G.length+J.length+13 by omega];exact hI.last
theorem On {Ts:List By}(hT:∀t∈Ts,Zs t){p:Nat}(h:oN Ts.flatten p){d:UInt8}(hd:Ts.flatten[p]?=some d)(G9:BF d)(hw:p=0\/∃c,Ts.flatten[p-1]?=some c/\D9 c=true):
  ∃DO t Bi,Ts=DO++t::Bi/\p=DO.flatten.length:=by
 obtain ⟨b1,e1,b2,e2,b3,e3,T1,T2,T3,he,o1,o2,o3⟩:=h;have key:∀{a b e q:Nat} {c:UInt8},NV Ts.flatten a b e->Ts.flatten[e]?=some c->AW c=true->False:=fun h h1 h2=>by
  have:=h.stop _ h1;rw[h2]at this;cases this
 have l1:=T1.lt;have l2:=T2.lt;have l3:=T3.lt;have n23:e2≠b3:=fun e=>by rw[<-e]at o1;exact key (q:=0) T2 o1 (by decide)
 have pH:e2<b3:=by have:=T3.at';omega
 obtain ⟨c,hc,hcw⟩:=T3.before pH;obtain ⟨DO,t,Bi,A,G,J,e,hI,hb⟩:=wB hT (b:=b3-1) hc hcw (by rw[show b3-1+1=b3 by omega];exact o1) (by rw[show b3-1+2=b3+1 by omega];exact o2) (by rw[show b3-1+3=b3+2 by omega];exact o3);refine ⟨DO,t,Bi,e,?_⟩;have hA:=cg.2 hI.a1;have hG:=cg.2 hI.g1;have hlen:=hI.len;have g:∀j,j<t.length->Ts.flatten[DO.flatten.length+j]?=t[j]?:=fun j hj=>by rw[e];exact EB hj
 have gA:∀j,j<A.length->∃c,Ts.flatten[DO.flatten.length+j]?=some c/\BF c:=fun j hj=>⟨A[j],by rw[g j (by omega),hI.get,aG hj,ah hj],hI.a _ (cJ hj)⟩
 have gS:Ts.flatten[DO.flatten.length+A.length]?=some 32:=by rw[g _ (by omega),hI.get,aA (by omega),aG rfl]
 have gG:∀j,j<G.length->∃c,Ts.flatten[DO.flatten.length+(A.length+1+j)]?=some c/\BF c:=fun j hj=>⟨G[j],by rw[g _ (by omega),hI.get,aA (by omega),aA (by omega),aG (by omega),show A.length+1+j-A.length-1=j by omega,ah hj],hI.g _ (cJ hj)⟩
 have gT:Ts.flatten[DO.flatten.length+(A.length+1+G.length)]?=some 32:=by rw[g _ (by omega)];exact hI.at4.1
 generalize hL:DO.flatten.length=L at*;have hE2:e2=b3-1:=by
  refine Nat.le_antisymm (by omega) (cw fun Au=>?_);obtain ⟨x,hx,wD⟩:=gG (G.length-1) (by omega);exact Wc T3 (q:=b3-2) (by omega) (by omega) (by rw[show b3-2=L+(A.length+1+(G.length-1)) by omega];exact hx) wD (by rw[show b3-2+1=L+(A.length+1+G.length) by omega];exact gT)
 have n12:e1≠b2:=fun e=>by
  obtain ⟨x,hx,hr⟩:=T2.A7 b2 (az _) l2;rw[<-e]at hx;exact key (q:=0) T1 hx hr
 have l12:e1<b2:=by have:=T2.at';omega
 obtain ⟨c2,Rz,AC2⟩:=T2.before l12;have NB:b2=L+A.length+1:=by
  refine Nat.le_antisymm (cw fun Au=>?_) (cw fun Au=>?_)
  ·obtain ⟨x,hx,wD⟩:=gG (b2-1-(L+A.length+1)) (by omega);rw[show L+(A.length+1+(b2-1-(L+A.length+1)))=b2-1 by omega,Rz]at hx;cases hx;rw[(DU wD).2.2.2.2.2]at AC2;cases AC2
  ·obtain ⟨x,hx,hr⟩:=T2.A7 (L+A.length) (by omega) (by omega);rw[gS]at hx;cases hx;exact absurd hr (by decide)
 have hE1:e1=L+A.length:=by
  refine Nat.le_antisymm (by omega) (cw fun Au=>?_);obtain ⟨x,hx,wD⟩:=gA (A.length-1) (by omega);exact Wc T2 (q:=b2-2) (by omega) (by omega) (by rw[show b2-2=L+(A.length-1) by omega];exact hx) wD (by rw[show b2-2+1=L+A.length by omega];exact gS)
 have hB1:b1=p:=by
  have h1:=T1.at';have hx:Ts.flatten.drop p=d::Ts.flatten.drop (p+1):=by
   rw[b7,hd]
   rfl
  obtain ⟨_,_,_,n3,_,n4⟩:=DU G9;rw[hx]at h1;simp only[AP,aA n3,n4]at h1;simpa using h1
 refine Nat.le_antisymm (cw fun Au=>?_) (cw fun Au=>?_)
 ·rcases hw with h0|⟨c,hc,hcw⟩
  ·omega
  ·obtain ⟨x,hx,wD⟩:=gA (p-1-L) (by omega);rw[show L+(p-1-L)=p-1 by omega,hc]at hx;cases hx;rw[(DU wD).2.2.2.2.2]at hcw;cases hcw
 ·obtain ⟨x,hx,hr⟩:=T1.A7 (L-1) (by omega) (by omega);have h10:=Yn (Ts:=DO) (fun u hu=>hT u (by rw[e];simp[hu])) (by omega);have:Ts.flatten[L-1]?=some 10:=by
   rw[e,List.flatten_append,aI (by omega),<-hL];exact h10
  rw[this]at hx;cases hx;exact absurd hr (by decide)
end Pc
namespace Pc
open Sh Fix Tk Tl Vl Wt
def PW (p:Pt):Prop:=∀c∈p.t,D9 c=true->c=32
theorem fv {p:Pt}(h:∀c∈p.t,AW c=true):PW p:=fun c hc hw=>by
 have:=(Px (h c hc)).1;rw[hw]at this;cases this
theorem wE (c d:UInt8)(h:d∈A0 c)(hw:D9 d=true):d=32:=by
 have:∀n:Fin 256,∀d∈A0 (UInt8.ofNat n.val),D9 d=true->d=32:=by decide+kernel
 have:=this ⟨c.toNat,c.toNat_lt⟩ d;rw[UInt8.ofNat_toNat]at this;exact this h hw
theorem wF (b:ByteArray):PW (R8 b):=fun c hc hw=>by
 have hc:c∈(40:UInt8)::((bl b).flatMap A0++[41]):=hc;rcases ar.1 hc with rfl|hc
 ·exact absurd hw (by decide)
 ·rcases aK.1 hc with hc|hc
  ·obtain ⟨x,_,hx⟩:=List.mem_flatMap.1 hc;exact wE x c hx hw
  ·rw[ao.1 hc]at hw;exact absurd hw (by decide)
theorem Wd (b:ByteArray):PW (Ds b):=fun c hc hw=>by
 have hc:c∈(47:UInt8)::(bl b).flatMap BC:=hc;rcases ar.1 hc with rfl|hc
 ·exact absurd hw (by decide)
 ·have:=(Px (Jg _ _ hc)).1;rw[hw]at this;cases this
theorem F7 {l:By}{k n:Int}{s:ByteArray}(h:l.all (fun c=> !D9 c)=true):PW ⟨l,k,n,s⟩:=fun c hc hw=>by
 have:=aO.1 h c hc;rw[hw]at this;cases this
theorem VM {n:Int}{T D:By}(h:Bg n T D):PW (Ax T n):=fv h.A7
mutual
theorem wG:∀(t:Tr) (ps:List Pt),PT t ps->∀p∈ps,PW p
 | .mk k n g s ks kids,ps,hp=>by
  rw[Wt.PT]at hp;rcases hp with ⟨rfl,rfl⟩|⟨rfl,rfl⟩|⟨rfl,T,D,hI,rfl⟩|⟨rfl,T,W,P,hT,rfl⟩|⟨rfl,rfl⟩|⟨rfl,rfl⟩|⟨rfl,q,hq,rfl⟩|⟨rfl,q,hq,rfl⟩|⟨rfl,T,D,U,E,hI,hJ,rfl⟩
  ·exact fun p hm=>by rw[ao.1 hm];exact F7 (by decide)
  ·exact fun p hm=>by
    rw[ao.1 hm];split
    ·exact F7 (by decide)
    ·exact F7 (by decide)
  ·exact fun p hm=>by rw[ao.1 hm];exact VM hI
  ·exact fun p hm=>by rw[ao.1 hm];exact fv hT.A7
  ·exact fun p hm=>by rw[ao.1 hm];exact wF s
  ·exact fun p hm=>by rw[ao.1 hm];exact Wd s
  ·exact fun p hm=>by
    rcases ar.1 hm with rfl|hm
    ·exact F7 (by decide)
    ·rcases aK.1 hm with hm|hm
     ·exact AC3 kids q hq p hm
     ·rw[ao.1 hm];exact F7 (by decide)
  ·exact fun p hm=>by
    rcases ar.1 hm with rfl|hm
    ·exact F7 (by decide)
    ·rcases aK.1 hm with hm|hm
     ·exact AC4 ks kids q hq p hm
     ·rw[ao.1 hm];exact F7 (by decide)
  ·exact fun p hm=>by
    rcases ar.1 hm with rfl|hm
    ·exact VM hI
    ·rcases ar.1 hm with rfl|hm
     ·exact VM hJ
     ·rw[ao.1 hm];exact F7 (by decide)
theorem AC3:∀(l:List Tr) (q:List Pt),PL l q->∀p∈q,PW p
 |[],q,h=>by rw[PL]at h;subst h;exact fun p hp=>by cases hp
 |t::r,q,h=>by
  rw[PL]at h;obtain ⟨a,b,h1,h2,rfl⟩:=h;exact fun p hp=>(aK.1 hp).elim (wG t a h1 p) (AC3 r b h2 p)
theorem AC4:∀(ks:List ByteArray) (l:List Tr) (q:List Pt),PD ks l q->∀p∈q,PW p
 |[],[],q,h=>by rw[PD]at h;subst h;exact fun p hp=>by cases hp
 |k::ks,t::r,q,h=>by
  rw[PD]at h;obtain ⟨a,b,h1,h2,rfl⟩:=h;exact fun p hp=>by
   rcases ar.1 hp with rfl|hp
   ·exact Wd k
   ·exact (aK.1 hp).elim (wG t a h1 p) (AC4 ks r b h2 p)
 |_::_,[],q,h=>by rw[PD]at h;exact h.elim
 |[],_::_,q,h=>by rw[PD]at h;exact h.elim
end
theorem VN:∀(xs:List By) (l:UInt8),(∀x∈xs,∀c∈x,D9 c=true->c=32)->∀c∈Af l xs,D9 c=true->c=32
 |[],l,_,c,hc,_=>by simp[Af]at hc
 |x::r,l,h,c,hc,hw=>by
  by_cases hx:x=[]
  ·rw[hx,join_nil]at hc;exact VN r l (fun y hy=>h y (av _ hy)) c hc hw
  ·rw[join_cons l hx]at hc;rcases aK.1 hc with hc|hc
   ·rcases aK.1 hc with hc|hc
    ·split at hc
     ·exact ao.1 hc
     ·cases hc
    ·exact h x (aw ..) c hc hw
   ·exact VN r _ (fun y hy=>h y (av _ hy)) c hc hw
theorem MP {n:Int}{T D:By}(h:Bg n T D):T≠[]/\T.headD 0≠111:=by
 have hl:=h.d1;rw[h.t];split
 ·exact ⟨by simp,by simp⟩
 ·cases hD:D with
  |nil=>rw[hD]at hl;simp at hl
  |cons c r=>
   refine ⟨by simp,?_⟩;show c≠111;exact (DU (h.d c (by rw[hD];exact aw ..))).2.2.2.2.1
theorem pO {t:Tr}{ps:List Pt}(hp:PT t ps):∃p m,ps=p::m/\p.t≠[]/\p.t.headD 0≠111:=by
 cases t with
 |mk k n g s ks kids=>
  rw[Wt.PT]at hp;rcases hp with ⟨rfl,rfl⟩|⟨rfl,rfl⟩|⟨rfl,T,D,hI,rfl⟩|⟨rfl,T,W,P,hT,rfl⟩|⟨rfl,rfl⟩|⟨rfl,rfl⟩|⟨rfl,q,hq,rfl⟩|⟨rfl,q,hq,rfl⟩|⟨rfl,T,D,U,E,hI,hJ,rfl⟩
  ·exact ⟨_,_,rfl,by decide,by decide⟩
  ·refine ⟨_,_,rfl,?_⟩;split
   ·exact ⟨by decide,by decide⟩
   ·exact ⟨by decide,by decide⟩
  ·exact ⟨_,_,rfl,MP hI⟩
  ·refine ⟨_,_,rfl,?_⟩;show T≠[]/\T.headD 0≠111;have hl:=hT.w1;rw[hT.t];split
   ·exact ⟨by simp,by simp⟩
   ·cases hW:W with
    |nil=>rw[hW]at hl;simp at hl
    |cons c r=>
     refine ⟨by simp,?_⟩;show c≠111;exact (DU (hT.w c (by rw[hW];exact aw ..))).2.2.2.2.1
  ·exact ⟨_,_,rfl,by simp[R8,IS],by show (40:UInt8)≠111;decide⟩
  ·exact ⟨_,_,rfl,by simp[Ds,Ci],by show (47:UInt8)≠111;decide⟩
  ·exact ⟨_,_,rfl,by decide,by decide⟩
  ·exact ⟨_,_,rfl,by decide,by decide⟩
  ·exact ⟨_,_,rfl,MP hI⟩
def Ni (A G J:By):By:=A++32::(G++32::111::98::106::10::(J++10::101::110::100::111::98::106::[10]))
theorem AC5 {num gen:Int}{A DA G DG:By}{t:Tr}{ps:List Pt}(hA:Bg num A DA)(hG:Bg gen G DG)(h0:0<=num)(h1:0<=gen)(hp:PT t ps):Qk (Ni A G (Af 32 (ps.map (·.t)))) A G (Af 32 (ps.map (·.t))):=by
 obtain ⟨p,m,rfl,hn,ho⟩:=pO hp;have eA:A=DA:=by rw[hA.t,aA (by omega)];rfl
 have eG:G=DG:=by rw[hG.t,aA (by omega)];rfl
 have hj:Af 32 ((p::m).map (·.t))=p.t++Af (p.t.getLastD 0) (m.map (·.t)):=by
  rw[aB,Km hn _ (by rintro ⟨h|h,_⟩<;>exact absurd h (by decide))]
 refine ⟨rfl,eA▸hA.d,eG▸hG.d,(MP hA).1,(MP hG).1,?_,?_,?_⟩
 ·rw[hj];intro e;exact hn (List.append_eq_nil_iff.1 e).1
 ·rw[hj];cases K8:p.t with
  |nil=>exact absurd K8 hn
  |cons c r=>rw[K8]at ho;exact ho
 ·refine VN _ _ fun x hx=>?_
  obtain ⟨q,hq,rfl⟩:=bx.1 hx;exact wG t _ hp q hq
end Pc
end Go.Proofs.YtdnhhkhbdfiagaaGreatDoor

/- Joined texts of the proof; conditions stand in each theorem. -/
import Derived.Test.YtdmmgclkphaaaaaGreatDoorQYQFil1
import Derived.Test.YtdmmgclkphaaaaaGreatDoorQYQFil6
import Derived.Test.YtdmmgclkphaaaaaGreatDoorQYQFil5
import Derived.Test.YtdmmgclkphaaaaaGreatDoorQYQFil3
import Derived.Test.YtdmmgclkphaaaaaGreatDoorQYQFil4
import Derived.StringKeys
import Derived.MapKept
set_option linter.unusedVariables false
set_option linter.unusedSimpArgs false
open Go.IntKind (wrap)
open Go.Proofs.Tryz (prog)
namespace Go.Proofs.YtdmmgclkphaaaaaGreatDoor
namespace Pm
open A8
def lv (c:List Int):Nat->List Tr
 |0=>[]
 |i+1=>if 0<c.getD i 0 then lv c i++[.leaf i (c.getD i 0)]else lv c i
theorem Ho {c:List Int}:∀{i:Nat} {t:Tr},t∈lv c i↔∃s,s<i/\t= .leaf s (c.getD s 0)/\0<c.getD s 0
 |0,t=>⟨fun h=>by simp[lv]at h,fun ⟨s,h,_⟩=>by omega⟩
 |i+1,t=>by
  have ih:=Ho (c:=c) (i:=i) (t:=t);unfold lv;split
  ·rename_i hp;rw[aQ,ih,az];constructor
   ·rintro (⟨s,h1,h2⟩|rfl)
    ·exact ⟨s,by omega,h2⟩
    ·exact ⟨i,by omega,rfl,hp⟩
   ·rintro ⟨s,h1,h2,h3⟩;by_cases e:s=i
    ·subst e;exact .inr h2
    ·exact .inl ⟨s,by omega,h2,h3⟩
  ·rename_i hp;rw[ih];constructor
   ·rintro ⟨s,h1,h2⟩;exact ⟨s,by omega,h2⟩
   ·rintro ⟨s,h1,h2,h3⟩;by_cases e:s=i
    ·subst e;omega
    ·exact ⟨s,by omega,h2,h3⟩
theorem Zp (c:List Int):∀i,((lv c i).map Tr.VU).Nodup
 |0=>List.nodup_nil
 |i+1=>by
  unfold lv;split
  ·rw[bh];refine dP.2 ⟨Zp c i,by simp,fun a ha b hb e=>?_⟩;obtain ⟨t,ht,rfl⟩:=cJ.1 ha;obtain ⟨s,hs,rfl,_⟩:=Ho.1 ht;simp only[bw,cK,az,Tr.VU]at hb e;omega
  ·exact Zp c i
theorem Un (c:List Int):∀i,(lv c i).length<=i
 |0=>av _
 |i+1=>by
  have:=Un c i;unfold lv;split
  ·rw[ae];simp;omega
  ·omega
structure Sd (c:List Int) (S:List Tr):Prop where
 perm:S.Perm (lv c c.length)
 up:Up S
theorem Sd.lv{c:List Int}{S:List Tr}(h:Sd c S):Lv S:=
 ⟨fun t ht=>by
  obtain ⟨s,_,e,h0⟩:=Ho.1 (h.perm.mem_iff.1 ht);exact ⟨s,_,e,h0⟩,h.up,(h.perm.map Tr.VU).nodup_iff.2 (Zp c _)⟩
theorem Sd.sign{c:List Int}{S:List Tr}(h:Sd c S){r:Nat}(hr:r<S.length):sg S r<c.length/\0<c.getD (sg S r) 0/\S[r]= .leaf (sg S r) (c.getD (sg S r) 0):=by
 obtain ⟨s,h1,h2,h3⟩:=Ho.1 (h.perm.mem_iff.1 (bZ hr));have e:sg S r=s:=by
  unfold sg;rw[af,ad hr,cN,h2]
  rfl
 rw[e];exact ⟨h1,h3,h2⟩
theorem Sd.AMO{c:List Int}{S:List Tr}(h:Sd c S){i:Nat}(hi:i<c.length)(h0:0<c.getD i 0):∃r,r<S.length/\sg S r=i:=by
 have hm:Tr.leaf i (c.getD i 0)∈S:=h.perm.mem_iff.2 (Ho.2 ⟨i,hi,rfl,h0⟩);obtain ⟨r,hr,e⟩:=cu.1 hm;refine ⟨r,hr,?_⟩;unfold sg;rw[af,ad hr,cN,e]
 rfl
def KZ (g:Nat->Nat):List Tr->Nat
 |[]=>0
 |t::r=>g t.VU+KZ g r
theorem Qe (g:Nat->Nat):∀l m,KZ g (l++m)=KZ g l+KZ g m
 |[],m=>by simp[KZ]
 |t::r,m=>by
  have:=Qe g r m;simp only[ar,KZ];omega
theorem kY {g:Nat->Nat}{l m:List Tr}(h:l.Perm m):KZ g l=KZ g m:=by
 induction h with
 |nil=>rfl
 |cons x _ ih=>simp only[KZ];omega
 |swap x y l=>simp only[KZ];omega
 |trans _ _ h1 h2=>omega
theorem Sq (g:Nat->Nat)(S:List Tr):∀n,n<=S.length->KZ g (S.take n)=Ec (fun r=>g (sg S r)) n
 |0,_=>by simp[KZ,Ec]
 |n+1,h=>by
  have ih:=Sq g S n (by omega);have ht:S.take (n+1)=S.take n++[S[n]]:=by rw[aO,ad (by omega)];rfl
  have e:sg S n=(S[n]).VU:=by
   unfold sg;rw[af,ad (by omega),cN]
  rw[ht,Qe,ih];simp only[Ec,KZ,e];omega
def BM (T:List Tr)(n:Nat):List Int:=(List.range n).map fun i=>(cs i T:Int)
theorem Ci (T:List Tr)(n:Nat):(BM T n).length=n:=by unfold BM;simp
theorem Cj {T:List Tr}{n i:Nat}(h:i<n):(BM T n).getD i 0=(cs i T:Int):=by
 unfold BM;rw[af,aE,dc h]
 rfl
theorem iJ {c:List Int}{T:List Tr}{n:Nat}(hz:∀i,i<n->(0<cs i T↔0<c.getD i 0)):∀i,i<=n->kr (BM T n) i=(KZ (fun s=>2^(15-cs s T)) (lv c i):Nat)
 |0,_=>rfl
 |i+1,h=>by
  have ih:=iJ hz i (by omega);have hi:=hz i (by omega);show (if 0<(BM T n).getD i 0 then kr (BM T n) i+2^(15-((BM T n).getD i 0).toNat)else kr (BM T n) i)=_;rw[Cj (by omega)];unfold lv;by_cases h0:0<c.getD i 0
  ·have:=hi.2 h0;rw[ak (by omega),ak h0,Qe,ih];simp[KZ,Tr.VU]
  ·have:¬0<cs i T:=fun hh=>h0 (hi.1 hh)
   rw[ah (by omega),ah h0,ih]
theorem su {l:List Int}(hl:l.length<=288)(hb:∀i,i<l.length->0<=l.getD i 0/\l.getD i 0<=15)(h:kr l l.length=32768\/kr l l.length=0\/(BG l l.length=1/\BO l l.length=1)):DE l=0:=by
 unfold DE;rw[ah (by omega),ah,ak h];intro ha;obtain ⟨x,hx,hh⟩:=dC.1 ha;obtain ⟨i,hi,rfl⟩:=cu.1 hx;have:=hb i hi;rw[af,ad hi,cN]at this;simp only[ck,bP]at hh;omega
def XS (l c:List Int):Nat->Int
 |0=>0
 |i+1=>if 0<=l.getD i 0/\l.getD i 0<=15/\0<=c.getD i 0/\c.getD i 0<=2147483647 then XS l c i+l.getD i 0*c.getD i 0 else XS l c i
def Ju (f:Nat->Int):Nat->Int
 |0=>0
 |n+1=>Ju f n+f n
theorem Qf (f g:Nat->Int):∀n,Ju (fun i=>f i+g i) n=Ju f n+Ju g n
 |0=>rfl
 |n+1=>by
  have:=Qf f g n;simp only[Ju];omega
theorem Ka {f g:Nat->Int}:∀n,(∀i,i<n->f i=g i)->Ju f n=Ju g n
 |0,_=>rfl
 |n+1,h=>by
  have:=Ka n fun i hi=>h i (by omega)
  have:=h n (by omega);simp only[Ju];omega
theorem XT (s:Nat)(x:Nat->Int):∀n,Ju (fun i=>((if s=i then 1 else 0:Nat):Int)*x i) n=if s<n then x s else 0
 |0=>rfl
 |n+1=>by
  have:=XT s x n;simp only[Ju];rw[this];by_cases e:s=n
  ·subst e;rw[ah (by omega),ak rfl,ak (by omega)];simp
  ·rw[ah e];split<;>split<;>first|omega|simp
def Tr.ok(c:List Int):Tr->Prop
 | .leaf s w=>s<c.length/\w=c.getD s 0
 | .node a b=>a.ok c/\b.ok c
theorem Tr.cost{c:List Int}:∀{t:Tr},t.ok c->t.w=Ju (fun i=>(t.Ft i:Int)*c.getD i 0) c.length
 | .leaf s w,⟨h1,h2⟩=>by
  simp only[Tr.w,Tr.Ft];rw[XT s (fun i=>c.getD i 0),ak h1,h2]
 | .node a b,⟨h1,h2⟩=>by
  have e1:=Tr.cost h1;have e2:=Tr.cost h2;simp only[Tr.w,Tr.Ft];rw[e1,e2,<-Qf];refine Ka _ fun i _=>?_
  rw[dJ,Int.add_mul]
theorem Uu {c:List Int}:∀{T:List Tr},(∀t∈T,t.ok c)->ws T=Ju (fun i=>(cs i T:Int)*c.getD i 0) c.length
 |[],_=>by
  have:∀n,Ju (fun i=>(cs i []:Int)*c.getD i 0) n=0:=fun n=>by
   induction n with
   |zero=>rfl
   |succ n ih=>
    show Ju (fun i=>(cs i []:Int)*c.getD i 0) n+_=0;rw[ih];simp[cs]
  rw[this]
  rfl
 |t::r,h=>by
  simp only[ws,cs];rw[Tr.cost (h t (by simp)),Uu fun t ht=>h t (by simp[ht]),<-Qf];refine Ka _ fun i _=>?_
  rw[dJ,Int.add_mul]
theorem M7 {c:List Int}{T:List Tr}(hc:∀i,i<c.length->0<=c.getD i 0/\c.getD i 0<=2147483647)(hT:∀i,i<c.length->cs i T<=15):∀i,i<=c.length->XS (BM T c.length) c i=Ju (fun i=>(cs i T:Int)*c.getD i 0) i
 |0,_=>rfl
 |i+1,h=>by
  have ih:=M7 hc hT i (by omega);have h1:=hc i (by omega);have h2:=hT i (by omega);simp only[XS,Ju];rw[Cj (by omega),ak (by omega),ih]
theorem La {c:List Int}{S:List Tr}(h:Sd c S):∀k,∀t∈rows S k,t.ok c
 |0,t,ht=>by
  obtain ⟨s,h1,rfl,_⟩:=Ho.1 (h.perm.mem_iff.1 ht);exact ⟨h1,rfl⟩
 |k+1,t,ht=>by
  rcases aQ.1 ((LZ _ _).mem_iff.1 ht)with h1|h1
  ·obtain ⟨s,h2,rfl,_⟩:=Ho.1 (h.perm.mem_iff.1 h1);exact ⟨h2,rfl⟩
  ·obtain ⟨a,ha,b,hb,rfl⟩:=PD _ _ h1;exact ⟨La h k a ha,La h k b hb⟩
abbrev UpI (l:List Int):Prop:=l.Pairwise fun a b=>a<=b
def kZ (a b:Int):Bool:=decide (a<=b)
def ka:List Int->List Int
 |a::b::r=>(a+b)::ka r
 |_=>[]
def rI (s:List Int):Nat->List Int
 |0=>s
 |k+1=>List.merge s (ka (rI s k)) kZ
def sw:List Int->Int
 |[]=>0
 |x::r=>x+sw r
theorem iK:∀l:List Tr,(HE l).map Tr.w=ka (l.map Tr.w)
 |[]=>rfl
 |[_]=>rfl
 |a::b::r=>by
  have:=iK r;simp only[HE,bw,ka,this]
  rfl
theorem sy (S:List Tr):∀k,(rows S k).map Tr.w=rI (S.map Tr.w) k
 |0=>rfl
 |k+1=>by
  show (mg S (HE (rows S k))).map Tr.w=List.merge (S.map Tr.w) (ka (rI (S.map Tr.w) k)) kZ;rw[<-sy S k,<-iK];unfold mg;exact List.map_merge fun a _ b _=>rfl
theorem Zq:∀l:List Tr,ws l=sw (l.map Tr.w)
 |[]=>rfl
 |t::r=>by
  have:=Zq r;simp only[ws,bw,sw,this]
theorem Zr {l m:List Int}(h:UpI l)(k:UpI m)(p:l.Perm m):l=m:=by
 refine p.eq_of_pairwise (le:=fun a b=>a<=b) (fun a b _ _ h k=>by omega) h k
theorem AMP {s:List Int}(h:UpI s):∀k,UpI (rI s k)
 |0=>h
 |k+1=>by
  have hp:∀l:List Int,UpI l->UpI (ka l):=fun l=>by
   intro h
   induction l using ka.induct with
   |case1 a b r ih=>
    obtain ⟨h1,h2⟩:=bn.1 h;obtain ⟨h3,h4⟩:=bn.1 h2;have hm:∀(l:List Int) (t:Int),t∈ka l->∃x∈l,∃y∈l,t=x+y:=fun l=>by
     induction l using ka.induct with
     |case1 a b r ih=>
      intro t ht;simp only[ka,aN]at ht;rcases ht with rfl|ht
      ·exact ⟨a,by simp,b,by simp,rfl⟩
      ·obtain ⟨x,hx,y,hy,e⟩:=ih t ht;exact ⟨x,by simp[hx],y,by simp[hy],e⟩
     |case2 l hl=>intro t ht;rw[ka]at ht;cases ht;exact hl
    refine bn.2 ⟨fun t ht=>?_,ih h4⟩;obtain ⟨x,hx,y,hy,rfl⟩:=hm r t ht;have:=h1 x (by simp[hx]);have:=h3 y hy;omega
   |case2 l hl=>rw[ka];exact List.Pairwise.nil;exact hl
  have:=List.pairwise_merge (le:=kZ) (fun a b c h1 h2=>by simp only[kZ,bP]at*;omega) (fun a b=>by simp only[kZ,ck,bP];omega) s (ka (rI s k))
   (h.imp fun h=>by simpa[kZ]using h) ((hp _ (AMP h k)).imp fun h=>by simpa[kZ]using h)
  exact this.imp fun h=>by simpa[kZ]using h
def iN (c:List Int):List Int:=(c.filter fun x=>decide (0<x)).mergeSort kZ
theorem AFZ (c:List Int):UpI (iN c):=by
 have:=List.pairwise_mergeSort (le:=kZ) (fun a b c h1 h2=>by simp only[kZ,bP]at*;omega) (fun a b=>by simp only[kZ,ck,bP];omega) (c.filter fun x=>decide (0<x));exact this.imp fun h=>by simpa[kZ]using h
theorem Zs (c:List Int):∀i,i<=c.length->(lv c i).map Tr.w=(c.take i).filter fun x=>decide (0<x)
 |0,_=>rfl
 |i+1,h=>by
  have ih:=Zs c i (by omega);have ht:c.take (i+1)=c.take i++[c[i]]:=by rw[aO,ad (by omega)];rfl
  have e:c.getD i 0=c[i]:=by rw[af,ad (by omega)];rfl
  rw[ht,List.filter_append,<-ih,lv,e];split
  ·rename_i h0;rw[bh];simp[h0,Tr.w]
  ·rename_i h0;simp[h0]
theorem AFa {c s:List Int}(hs:UpI s)(hp:s.Perm (c.filter fun x=>decide (0<x))):s=iN c:=
 Zr hs (AFZ c) (hp.trans (List.mergeSort_perm _ _).symm)
theorem Sd.map{c:List Int}{S:List Tr}(h:Sd c S):S.map Tr.w=iN c:=by
 refine AFa (List.pairwise_map.2 h.up) ?_;have:=h.perm.map Tr.w;rw[Zs c _ (av _),bj]at this;exact this
theorem Sd.len{c:List Int}{S:List Tr}(h:Sd c S):S.length=(iN c).length:=by rw[<-h.map,bp]
def least (c:List Int)(most:Nat):Int:=if (iN c).length<2 then (iN c).getD 0 0 else sw ((rI (iN c) (most-1)).take (2*(iN c).length-2))
def iF (c:List Int)(most:Int):Int:=if 288<c.length then 6 else if most<1\/15<most then 1 else if c.any (fun x=>decide (x<0)||decide (2147483647<x))=true then 1
 else if 2^most.toNat<(iN c).length then 13 else 0
structure LR (c:List Int) (mo:Nat) (l:List Int):Prop where
 len:l.length=c.length
 DE:DE l=0
 most:∀i,i<c.length->0<=l.getD i 0/\l.getD i 0<=(mo:Int)/\(l.getD i 0=0↔c.getD i 0=0)
 cost:XS l c c.length=least c mo
theorem LR.many{c:List Int}{S:List Tr}{most:Nat}(h:Sd c S)(h288:c.length<=288)(hc:∀i,i<c.length->0<=c.getD i 0/\c.getD i 0<=2147483647)(h1:1<=most)(h15:most<=15)(h2:2<=S.length)(hm:S.length<=2^most):
  2*S.length-2<=(rows S (most-1)).length/\LR c most (BM ((rows S (most-1)).take (2*S.length-2)) c.length):=by
 have tA:=Sn (S:=S) (most-1) most hm (by omega);rw[show most-(most-1)=1 by omega]at tA;have hl:2*S.length-2<=(rows S (most-1)).length:=by omega
 obtain ⟨D,d1,d2,d3,d4⟩:=yw h.lv (k:=most-1) (by omega) h2 hl;generalize hT:(rows S (most-1)).take (2*S.length-2)=T at d2 d3⊢;have key:∀i,i<c.length->cs i T<=most/\(0<cs i T↔0<c.getD i 0):=fun i hi=>by
  by_cases h0:0<c.getD i 0
  ·obtain ⟨r,hr,rfl⟩:=h.AMO hi h0;have:=d1 r hr;rw[d2 r hr];exact ⟨by omega,fun _=>h0,fun _=>this.1⟩
  ·have:cs i T=0:=d3 i fun r hr e=>h0 (by rw[<-e];exact (h.sign hr).2.1)
   rw[this];exact ⟨bz _,fun hh=>by omega,fun hh=>absurd hh h0⟩
 refine ⟨hl,Ci _ _,su (by rw[Ci];exact h288) (fun i hi=>?_) (.inl ?_),fun i hi=>?_,?_⟩
 ·rw[Ci]at hi;rw[Cj hi];have:=(key i hi).1;omega
 ·rw[Ci,iJ (c:=c) (fun i hi=>(key i hi).2) _ (av _),<-kY h.perm];have e:=Sq (fun s=>2^(15-cs s T)) S S.length (av _);rw[bj]at e;rw[e];have e2:∀n,n<=S.length->Ec (fun r=>2^(15-cs (sg S r) T)) n=Ec (fun r=>2^(15-D r)) n:=fun n=>by
   induction n with
   |zero=>intro _;rfl
   |succ n ih=>
    intro hn;simp only[Ec];rw[ih (by omega),d2 n (by omega)]
  rw[e2 _ (av _),d4]
  rfl
 ·rw[Cj hi];have:=key i hi;have:=hc i hi;omega
 ·rw[M7 hc (fun i hi=>by have:=(key i hi).1;omega) _ (av _),<-Uu (T:=T) (fun t ht=>La h (most-1) t (by rw[<-hT]at ht;exact cE ht)),Zq,<-hT,List.map_take,sy,h.map];unfold least;rw[ah (by rw[<-h.len];omega),h.len]
theorem AMQ {S:List Tr}(h:Lv S){k m:Nat}(hk:k<=14)(hm:m<=(rows S k).length)(i:Nat):cs i ((rows S k).take m)<=15:=by
 obtain ⟨A,D,b1,b2,b3,b4,b5,b6,b7⟩:=ss h k hk m hm;by_cases e:∃r,r<S.length/\sg S r=i
 ·obtain ⟨r,hr,rfl⟩:=e;rw[b5 r hr];have:=(b3 r hr).1;omega
 ·rw[b6 i fun r hr hh=>e ⟨r,hr,hh⟩];exact bz _
theorem Qg (S:List Tr):∀k,(rows S k).length<=2*S.length
 |0=>by show S.length<=_;omega
 |k+1=>by
  have:=Qg S k;rw[XP];omega
theorem ABd {B:Int}:∀{l:List Tr},(∀t∈l,t.w<=B)->ws l<=(l.length:Int)*B
 |[],_=>by simp[ws]
 |t::r,h=>by
  have h1:=h t (by simp);have h2:=ABd fun t ht=>h t (aC _ ht)
  simp only[ws,aA];rw[dJ,Int.add_mul];omega
theorem ABe:∀{l:List Tr},(∀t∈l,0<=t.w)->0<=ws l
 |[],_=>bH _
 |t::r,h=>by
  have h1:=h t (by simp);have h2:=ABe fun t ht=>h t (aC _ ht)
  simp only[ws];omega
theorem AFb {c:List Int}{S:List Tr}(h:Sd c S)(h288:c.length<=288)(hc:∀i,i<c.length->0<=c.getD i 0/\c.getD i 0<=2147483647){k:Nat}(hk:k<=14):∀t∈rows S k,0<=t.w/\t.w<=1000000000000000:=fun t ht=>by
 have h0:=HF h.lv k;have h1:=sr (fun t ht=>dO (h0 t ht)) t ht;have h2:=iI h.lv k;have h3:ws S<=(S.length:Int)*2147483647:=ABd fun t ht=>by
  obtain ⟨s,h1,rfl,h2⟩:=Ho.1 (h.perm.mem_iff.1 ht);exact (hc s h1).2
 have h4:S.length<=288:=by
  have:=Un c c.length;rw[h.perm.length_eq];omega
 have h5:0<=ws S:=ABe fun t ht=>dO (HF h.lv 0 t ht)
 have h6:((k+1:Nat):Int)*ws S<=15*ws S:=Int.mul_le_mul_of_nonneg_right (by omega) h5;exact ⟨dO (h0 t ht),by omega⟩
theorem sW (c:List Int):(lv c c.length).length=(iN c).length:=by
 have:=bI List.length (Zs c _ (av _));rw[bp,bj]at this;rw[this];unfold iN;rw[List.length_mergeSort]
theorem LR.none{c:List Int}{S:List Tr}{most:Nat}(h:Sd c S)(h288:c.length<=288)(hc:∀i,i<c.length->0<=c.getD i 0/\c.getD i 0<=2147483647)(h1:1<=most)(hS:S.length<=1):LR c most (BM S c.length):=by
 have hle:∀i,cs i S<=1:=fun i=>by
  match S,hS,h with
  |[],_,_=>simp[cs]
  |[t],_,h=>
   obtain ⟨s,w,rfl,_⟩:=h.lv.leaf t (by simp);simp only[cs,Tr.Ft];split<;>omega
 have key:∀i,i<c.length->(0<cs i S↔0<c.getD i 0):=fun i hi=>by
  have hh:=h.lv.Jh i S.length (av _);rw[bj]at hh;by_cases h0:0<c.getD i 0
  ·obtain ⟨r,hr,rfl⟩:=h.AMO hi h0;rw[hh.1 r hr rfl,ak hr];exact ⟨fun _=>h0,fun _=>by decide⟩
  ·rw[hh.2 fun r hr e=>h0 (by rw[<-e];exact (h.sign hr).2.1)];exact ⟨fun hh=>by omega,fun hh=>absurd hh h0⟩
 refine ⟨Ci _ _,su (by rw[Ci];exact h288) (fun i hi=>?_) ?_,fun i hi=>?_,?_⟩
 ·rw[Ci]at hi;rw[Cj hi];have:=hle i;omega
 ·rw[Ci]
  match S,hS,h with
  |[],_,_=>
   refine .inr (.inl ?_);have:∀i,i<=c.length->kr (BM [] c.length) i=0:=fun i=>by
    induction i with
    |zero=>intro _;rfl
    |succ i ih=>
     intro hi;show (if 0<(BM [] c.length).getD i 0 then _ else kr (BM [] c.length) i)=0;rw[Cj (by omega),ah (by simp[cs]),ih (by omega)]
   exact this _ (av _)
  |[t],_,h=>
   refine .inr (.inr ?_);obtain ⟨q1,q2,q3⟩:=h.sign (r:=0) (by simp);generalize hs:sg [t] 0=s at q1 q2 q3;have q3:t=Tr.leaf s (c.getD s 0):=q3;subst q3;have Oj:∀i,cs i [Tr.leaf s (c.getD s 0)]=if s=i then 1 else 0:=fun i=>by simp[cs,Tr.Ft]
   have:∀i,i<=c.length->BG (BM [Tr.leaf s (c.getD s 0)] c.length) i=(if s<i then 1 else 0)/\BO (BM [Tr.leaf s (c.getD s 0)] c.length) i=(if s<i then 1 else 0):=fun i=>by
    induction i with
    |zero=>intro _;exact ⟨rfl,rfl⟩
    |succ i ih=>
     intro hi;obtain ⟨i1,i2⟩:=ih (by omega);have e1:BG (BM [Tr.leaf s (c.getD s 0)] c.length) (i+1)=if (BM [Tr.leaf s (c.getD s 0)] c.length).getD i 0≠0 then BG (BM [Tr.leaf s (c.getD s 0)] c.length) i+1 else BG (BM [Tr.leaf s (c.getD s 0)] c.length) i:=rfl
     have e2:BO (BM [Tr.leaf s (c.getD s 0)] c.length) (i+1)=if (BM [Tr.leaf s (c.getD s 0)] c.length).getD i 0>BO (BM [Tr.leaf s (c.getD s 0)] c.length) i then (BM [Tr.leaf s (c.getD s 0)] c.length).getD i 0 else BO (BM [Tr.leaf s (c.getD s 0)] c.length) i:=rfl
     rw[e1,e2,i1,i2,Cj (by omega),Oj];rcases Nat.lt_trichotomy s i with e|e|e
     ·have a1:s≠i:=by omega
      have a2:s<i+1:=by omega
      simp[a1,e,a2]
     ·subst e;simp
     ·have a1:s≠i:=by omega
      have a2:¬s<i+1:=by omega
      have a3:¬s<i:=by omega
      simp[a1,a2,a3]
   have:=this _ (av _);rw[ak q1]at this;exact this
 ·rw[Cj hi];have:=key i hi;have:=hle i;have:=hc i hi;omega
 ·rw[M7 hc (fun i hi=>by have:=hle i;omega) _ (av _),<-Uu (T:=S) (fun t ht=>La h 0 t ht),Zq,h.map];have hl:=h.len;unfold least;rw[ak (by omega)]
  match he:iN c,hl with
  |[],_=>rfl
  |[x],_=>simp[sw]
  |x::y::r,hl=>simp only[aA]at hl;omega
end Pm
set_option maxRecDepth 4000
set_option maxHeartbeats 1000000
namespace A8
open Sh DS
theorem Dn (s:ByteArray)(i k:Nat)(hk:k<8):bt s 1 (8*i+k)=OI s i/2^k%2:=by
 unfold bt;rw[ak rfl,show (8*i+k)/8=i by omega,show (8*i+k)%8=k by omega]
theorem Dp (s:ByteArray)(p n:Nat):tk s 1 p (n+1)=tk s 1 p n+bt s 1 (p+n)*2^n:=by
 show (if (1:Int)=1 then _ else _)=_;rw[ak rfl]
theorem gr (s:ByteArray)(i:Nat):tk s 1 (8*i) 8=OI s i:=by
 have hb:=mh s i;rw[Dp,Dp,Dp,Dp,Dp,Dp,Dp,Dp,show tk s 1 (8*i) 0=0 by rfl];rw[Dn s i 0 (by omega),Dn s i 1 (by omega),Dn s i 2 (by omega),Dn s i 3 (by omega),Dn s i 4 (by omega),Dn s i 5 (by omega),Dn s i 6 (by omega),Dn s i 7 (by omega)];simp only[show (2:Int)^7=128 by decide,show (2:Int)^6=64 by decide,show (2:Int)^5=32 by decide,show (2:Int)^4=16 by decide,show (2:Int)^3=8 by decide,show (2:Int)^2=4 by decide,show (2:Int)^1=2 by decide,show (2:Int)^0=1 by decide];omega
theorem XJ (s:ByteArray)(i:Nat):tk s 1 (8*i) 16=OI s i+256*OI s (i+1):=by
 rw[show (16:Nat)=8+8 by rfl,mj,gr,show 8*i+8=8*(i+1) by omega,gr,show (2:Int)^8=256 by decide];omega
def hd5 (f:UInt8)(n:Nat):List UInt8:=[f,UInt8.ofNat (n%256),UInt8.ofNat (n/256),UInt8.ofNat (255-n%256),UInt8.ofNat (255-n/256)]
def DG (f:UInt8)(p:List UInt8):List UInt8:=hd5 f p.length++p
theorem Gp (f:UInt8)(p:List UInt8):(DG f p).length=5+p.length:=by unfold DG hd5;simp;omega
theorem XK {n:Nat}(h:n<256):(UInt8.ofNat n).toNat=n:=by rw[cG,bA (by omega)]
theorem LU {t:ByteArray}{pre rest:List UInt8}{f:UInt8}{p:List UInt8}(ht:t.data.toList=pre++(DG f p++rest)){k:Nat}(hk:k<5):OI t (pre.length+k)=(((hd5 f p.length).getD k 0).toNat:Int):=by
 rw[rn,ht,af,aF (by omega),dx];unfold DG;rw[ax,aG (by show k<5;exact hk),af]
theorem P6 {t:ByteArray}{pre rest p:List UInt8}{f:UInt8}{most:Nat}{out:List UInt8}(ht:t.data.toList=pre++(DG f p++rest))(hf:f.toNat<=1)(hp:p.length<=65535)(hm:out.length+p.length<=most):
  num t (8*pre.length) 1= .ok ((f.toNat:Int),8*pre.length+1)/\num t (8*pre.length+1) 2= .ok (0,8*pre.length+1+2)/\block t most 0 out (8*pre.length+1+2)= .ok (out++p,8*(pre++DG f p).length):=by
 have A1:t.size=pre.length+(5+p.length+rest.length):=by
  rw[Ah,ht,ae,ae,Gp]
 have b0:=LU ht (k:=0) (by omega);have b1:=LU ht (k:=1) (by omega);have b2:=LU ht (k:=2) (by omega);have b3:=LU ht (k:=3) (by omega);have b4:=LU ht (k:=4) (by omega);rw[bY]at b0;have b0:OI t pre.length=(f.toNat:Int):=b0;have b1:OI t (pre.length+1)=((UInt8.ofNat (p.length%256)).toNat:Int):=b1;have b2:OI t (pre.length+2)=((UInt8.ofNat (p.length/256)).toNat:Int):=b2;have b3:OI t (pre.length+3)=((UInt8.ofNat (255-p.length%256)).toNat:Int):=b3;have b4:OI t (pre.length+4)=((UInt8.ofNat (255-p.length/256)).toNat:Int):=b4;rw[XK (by omega)]at b1 b2 b3 b4;refine ⟨?_,?_,?_⟩
 ·unfold num;rw[ak (by omega),Dp,show tk t 1 (8*pre.length) 0=0 by rfl,Dn t _ 0 (by omega),b0]
  congr 2
  simp only[show (2:Int)^0=1 by decide];omega
 ·unfold num;rw[ak (by omega),Dp,Dp,show tk t 1 (8*pre.length+1) 0=0 by rfl,bY,Dn t _ 1 (by omega),show 8*pre.length+1+1=8*pre.length+2 by omega,Dn t _ 2 (by omega),b0]
  congr 2
  simp only[show (2:Int)^0=1 by decide,show (2:Int)^1=2 by decide,show (2:Int)^2=4 by decide];omega
 ·unfold block;rw[ah (by decide),ak rfl];unfold stored;have e1:(8*pre.length+1+2+7)/8*8=8*(pre.length+1):=by omega
  have n1:num t (8*(pre.length+1)) 16= .ok ((p.length:Int),8*(pre.length+1)+16):=by
   unfold num;rw[ak (by omega),XJ,show pre.length+1+1=pre.length+2 by omega,b1,b2]
   congr 2
   omega
  have n2:num t (8*(pre.length+1)+16) 16= .ok (65535-(p.length:Int),8*(pre.length+1)+16+16):=by
   unfold num;rw[ak (by omega),show 8*(pre.length+1)+16=8*(pre.length+3) by omega,XJ,show pre.length+3+1=pre.length+4 by omega,b3,b4]
   congr 2
   omega
  rw[e1,n1];dsimp only;rw[n2];dsimp only;rw[ah (fun hh=>hh rfl),aa,ah (by omega),ah (by omega)];have hx:(t.extract ((8*(pre.length+1)+16+16)/8) ((8*(pre.length+1)+16+16)/8+p.length)).data.toList=p:=by
   rw[Ao,ht,show (8*(pre.length+1)+16+16)/8=pre.length+5 by omega,dx];unfold DG;rw[ax,<-ax,dy (by rw[ae];rfl),bK rfl]
  rw[hx]
  congr 2
  rw[ae,Gp];omega
section
variable (L:List ByteArray)
end
def strs (L:List ByteArray):List Value:=L.map .string
attribute [local irreducible] Ld St Nw Nn Lt AP
end A8
namespace A8
open Sh DS Pm
theorem Rp.all{H:List UInt8->Prop}{near far:List Int}{p0:Nat}(hc:DE near=0)(hf:DE far=0):∀(l:List JR) {st:WS} {out:List UInt8},Rp H near far p0 st out->Fit l out->(∀p∈l,Has near far p)->Rp H near far p0 (l.foldl (wP near far) st) (l.foldl Pr out)
 |[],st,out,h,_,_=>h
 |p::l,st,out,h,⟨f1,f2,f3⟩,hh=>Rp.all hc hf l (h.part hc hf f1 f2 (hh p (aT ..))) f3 fun x hx=>hh x (aC _ hx)
theorem Yo {s:ByteArray}{p:Nat}{out o:List UInt8}{m m' q:Nat}(h:stored s p out m'= .ok (o,q))(hm:m<o.length):stored s p out m= .error 5:=by
 unfold stored at h⊢;cases h1:num s ((p+7)/8*8) 16 with
 |error e=>rw[h1]at h;cases h
 |ok z=>
  obtain ⟨n,p1⟩:=z;rw[h1]at h;dsimp only at h⊢;cases h2:num s p1 16 with
  |error e=>rw[h2]at h;cases h
  |ok z=>
   obtain ⟨mm,p2⟩:=z;rw[h2]at h;dsimp only at h⊢;by_cases c1:mm≠65535-n
   ·rw[ak c1]at h;cases h
   rw[ah c1]at h⊢;by_cases c2:¬out.length+n.toNat<=m'
   ·rw[ak c2]at h;cases h
   rw[ah c2]at h;by_cases c3:¬p2/8+n.toNat<=s.size
   ·rw[ak c3]at h;cases h
   rw[ah c3]at h;cases h;rw[ae]at hm;have e1:(s.extract (p2/8) (p2/8+n.toNat)).data.toList.length=(s.extract (p2/8) (p2/8+n.toNat)).size:=aK;rw[e1,cr]at hm;rw[ak (by omega)]
theorem Tv (p:List UInt8)(hp:p.length<=65535):F9 (DG 1 p) p:=by
 have ht:(⟨(DG 1 p).toArray⟩:ey).data.toList=[]++(DG 1 p++[]):=by simp
 have hlen:=Gp 1 p;have AS:∀most r,block ⟨(DG 1 p).toArray⟩ most 0 [] 3=r->FZ ⟨(DG 1 p).toArray⟩ most (8*(⟨(DG 1 p).toArray⟩:ey).size+1) [] 0=match r with
   | .error e=> .error e
   | .ok (o,q)=> .ok (o,q):=fun most r hr=>by
  obtain ⟨b1,b2,_⟩:=P6 (most:=p.length) (out:=[]) ht (f:=1) (by decide) hp (by simp);unfold FZ;rw[show num ⟨(DG 1 p).toArray⟩ 0 1= .ok (1,1)from b1];dsimp only[Ca];rw[show num ⟨(DG 1 p).toArray⟩ 1 2= .ok (0,3)from b2];dsimp only;rw[hr];cases r with
  |error e=>rfl
  |ok z=>
   obtain ⟨o,q⟩:=z;dsimp only;rw[ak rfl]
 intro most;refine ⟨fun hm=>?_,fun hm=>?_⟩
 ·obtain ⟨_,_,b3⟩:=P6 (most:=most) (out:=[]) ht (f:=1) (by decide) hp (by simpa using hm);refine ⟨_,AS most _ b3,?_⟩;simp only[ag];omega
 ·obtain ⟨_,_,b3⟩:=P6 (most:=p.length) (out:=[]) ht (f:=1) (by decide) hp (by simp);have:block ⟨(DG 1 p).toArray⟩ most 0 [] 3= .error 5:=by
   have b3:block ⟨(DG 1 p).toArray⟩ p.length 0 [] 3=_:=b3;unfold block at b3⊢;rw[ah (by decide),ak rfl]at b3⊢;exact Yo b3 (by simpa using hm)
  exact AS most _ this
def jY:WS:=lw (lw ([],0) 1 1) 1 2
theorem nT:Ei 1 jY/\pos jY=3/\∀T:List UInt8,Bf 1 (pos jY) jY.1 T->pos jY<=8*T.length->num ⟨T.toArray⟩ 0 1= .ok (1,1)/\num ⟨T.toArray⟩ 1 2= .ok (1,3):=by
 have h0:Ei 1 ([],0):=Ei.zero 1 [];have h1:=Il h0 1 1;have p0:pos (([],0):WS)=0:=rfl;have p1:pos (lw ([],0) 1 1)=1:=by rw[Dc h0,p0]
 refine ⟨Il h1 1 2,by unfold jY;rw[Dc h1,p1],fun T ha hT=>?_⟩;unfold jY at ha hT;obtain ⟨a1,a2⟩:=Db h1 (v:=1) (n:=2) (by decide) ha;obtain ⟨b1,b2⟩:=Db h0 (v:=1) (n:=1) (by decide) a1;rw[Dc h1,p1]at hT;rw[p1]at a2;rw[p0]at b2;exact ⟨b2 (by omega),a2 (by omega)⟩
theorem fe {p:JR}(h:p.ok):Has Js MW p:=by
 unfold Has;rw[QA,Vu];by_cases hn:p.n=0
 ·rw[ak hn];have:=p.b.toNat_lt;have:=Kx p.b.toNat (by omega);omega
 ·rw[ah hn];rcases h with h|⟨_,h3,h4,h5,h6⟩
  ·exact absurd h.1 hn
  have a:=(Hb h3 h4).1;have b:=(Ha h5 h6).1;have:=Kx (257+kL p.n) (by omega);have:=nU (kD p.f) (by omega);omega
theorem Fit.ok{l:List JR}:∀{out:List UInt8},Fit l out->∀p∈l,p.ok:=by
 induction l with
 |nil=>intro out _ p hp;cases hp
 |cons q l ih=>
  intro out h p hp;obtain ⟨h1,_,h3⟩:=h;rcases aN.1 hp with rfl|hp
  ·exact h1
  ·exact ih h3 p hp
def nV (l:List JR):List UInt8:=(cw Js (l.foldl (wP Js MW) jY) 256).1
theorem Vv {l:List JR}(hf:Fit l []):F9 (nV l) (l.foldl Pr []):=by
 obtain ⟨h1,h2,h3⟩:=nT;have e:=Rp.all Dd Fa l (Rp.zero (near:=Js) (far:=MW) h1 h3 h2.symm) hf fun p hp=>fe (hf.ok p hp)
 refine e.fin (kind:=1) Dd (by rw[QA];decide) (by have:=Kx 256 (by decide);omega) rfl fun T hT=>⟨hT.1,hT.2,fun most=>?_⟩
 unfold block;rw[ah (by decide),ah (by decide),ah (by decide)]
structure Own where
 a:List Int
 b:List Int
 c:List Int
def Own.na(o:Own):Nat:=FC o.a 257 o.a.length
def Own.nb(o:Own):Nat:=FC o.b 1 o.b.length
def Own.ni(o:Own):Nat:=FC (DM o.c) 4 (DM o.c).length
def Own.all(o:Own):List Int:=o.a.take o.na++o.b.take o.nb
def Own.Cz(o:Own):WS:=lw (lw (lw (lw (lw ([],0) 1 1) 2 2) (o.na-257) 5) (o.nb-1) 5) (o.ni-4) 4
def Own.ff(o:Own):WS:=(order.take o.ni).foldl (wO o.c) o.Cz
def Own.Vw(o:Own):WS:=(EE o.all).foldl (wM o.c) o.ff
def Own.T(o:Own)(l:List JR):List UInt8:=(cw o.a (l.foldl (wP o.a o.b) o.Vw) 256).1
structure Own.ok (o:Own):Prop where
 la:o.a.length=286
 lb:o.b.length=30
 lc:o.c.length=19
 ca:DE o.a=0
 cb:DE o.b=0
 cc:DE o.c=0
 AC2:0<o.a.getD 256 0
 c7:∀i,0<=o.c.getD i 0/\o.c.getD i 0<=7
 has:∀m∈EE o.all,m.1<19/\0<o.c.getD m.1 0
theorem Own.ta(o:Own):Trail o.a o.na:=Trail.cut o.a 257
theorem Own.tb(o:Own):Trail o.b o.nb:=Trail.cut o.b 1
theorem Own.tc(o:Own):Trail (DM o.c) o.ni:=Trail.cut (DM o.c) 4
section
variable {o:Own}
theorem Own.fg(h:o.ok):257<=o.na/\o.na<=286/\1<=o.nb/\o.nb<=30/\4<=o.ni/\o.ni<=19/\o.all.length=o.na+o.nb:=by
 have hi:(DM o.c).length=19:=by unfold DM;rw[bp];decide
 have a:=EB o.a 257 o.a.length;have b:=EB o.b 1 o.b.length;have c:=EB (DM o.c) 4 (DM o.c).length;have:=h.la;have:=h.lb;have a2:=a.2.1 (by omega);have b2:=b.2.1 (by omega);have c2:=c.2.1 (by omega);unfold Own.na Own.nb Own.ni;refine ⟨a2,by omega,b2,by omega,c2,by omega,?_⟩;unfold Own.all Own.na Own.nb;rw[ae,au,au];omega
theorem Own.head(h:o.ok):Ei 1 o.Cz/\pos o.Cz=17/\∀T:List UInt8,Bf 1 (pos o.Cz) o.Cz.1 T->17<=8*T.length->num ⟨T.toArray⟩ 0 1= .ok (1,1)/\num ⟨T.toArray⟩ 1 2= .ok (2,3)/\num ⟨T.toArray⟩ 3 5= .ok (((o.na-257:Nat):Int),8)/\
  num ⟨T.toArray⟩ 8 5= .ok (((o.nb-1:Nat):Int),13)/\num ⟨T.toArray⟩ 13 4= .ok (((o.ni-4:Nat):Int),17):=by
 obtain ⟨s1,s2,s3,s4,s5,s6,_⟩:=Own.fg h;have h0:Ei 1 ([],0):=Ei.zero 1 [];have h1:=Il h0 1 1;have h2:=Il h1 2 2;have h3:=Il h2 (o.na-257) 5;have h4:=Il h3 (o.nb-1) 5;have p0:pos (([],0):WS)=0:=rfl;have p1:pos (lw ([],0) 1 1)=1:=by rw[Dc h0,p0]
 have p2:pos (lw (lw ([],0) 1 1) 2 2)=3:=by rw[Dc h1,p1]
 have p3:pos (lw (lw (lw ([],0) 1 1) 2 2) (o.na-257) 5)=8:=by rw[Dc h2,p2]
 have p4:pos (lw (lw (lw (lw ([],0) 1 1) 2 2) (o.na-257) 5) (o.nb-1) 5)=13:=by rw[Dc h3,p3]
 have p5:pos o.Cz=17:=by unfold Own.Cz;rw[Dc h4,p4]
 refine ⟨Il h4 _ _,p5,fun T ha hT=>?_⟩;unfold Own.Cz at ha;obtain ⟨e1,e2⟩:=Db h4 (v:=o.ni-4) (n:=4) (by show _<16;omega) ha;obtain ⟨d1,d2⟩:=Db h3 (v:=o.nb-1) (n:=5) (by show _<32;omega) e1;obtain ⟨c1,c2⟩:=Db h2 (v:=o.na-257) (n:=5) (by show _<32;omega) d1;obtain ⟨b1,b2⟩:=Db h1 (v:=2) (n:=2) (by decide) c1;obtain ⟨a1,a2⟩:=Db h0 (v:=1) (n:=1) (by decide) b1;rw[p0]at a2;rw[p1]at b2;rw[p2]at c2;rw[p3]at d2;rw[p4]at e2;exact ⟨a2 (by omega),b2 (by omega),c2 (by omega),d2 (by omega),e2 (by omega)⟩
def Own.H(o:Own)(T:List UInt8):Prop:=num ⟨T.toArray⟩ 0 1= .ok (1,1)/\num ⟨T.toArray⟩ 1 2= .ok (2,3)/\dyn ⟨T.toArray⟩ 3= .ok (o.a.take o.na,o.b.take o.nb,pos o.Vw)
theorem Own.read(h:o.ok):Ei 1 o.Vw/\∀T:List UInt8,Bf 1 (pos o.Vw) o.Vw.1 T->pos o.Vw<=8*T.length->o.H T:=by
 obtain ⟨s1,s2,s3,s4,s5,s6,s7⟩:=Own.fg h;obtain ⟨k1,k2,k3⟩:=Own.head h;have Vx:(order.take o.ni).length=o.ni:=by rw[au];show min o.ni 19=_;omega
 have BF:∀i,0<=o.all.getD i 0/\o.all.getD i 0<=15:=fun i=>by
  unfold Own.all;rw[af];by_cases hi:i<(o.a.take o.na).length
  ·rw[aG hi,<-af,o.ta.take];exact (A5 h.ca).nn i
  ·rw[aF (by omega),<-af,o.tb.take];exact (A5 h.cb).nn _
 obtain ⟨f1,f2⟩:=Py BF
 let H0:List UInt8->Prop:=fun T=>num ⟨T.toArray⟩ 0 1= .ok (1,1)/\num ⟨T.toArray⟩ 1 2= .ok (2,3)/\num ⟨T.toArray⟩ 3 5= .ok (((o.na-257:Nat):Int),8)/\
  num ⟨T.toArray⟩ 8 5= .ok (((o.nb-1:Nat):Int),13)/\num ⟨T.toArray⟩ 13 4= .ok (((o.ni-4:Nat):Int),17)/\CR ⟨T.toArray⟩ (order.take o.ni) (List.replicate 19 0) 17= .ok (o.c,pos o.ff)
 have w2:=fun T l=>fc h.c7 (order.take o.ni) (T:=T) (l:=l) k1
 have p2:pos o.ff=17+3*o.ni:=by
  have:=(w2 [] []).2.1;rw[k2,Vx]at this;exact this
 have z:Tt H0 o.c o.all.length (pos o.ff) o.ff []:=⟨(w2 [] []).1,av _,fun T ha hT=>by
  obtain ⟨_,_,b⟩:=w2 T (List.replicate 19 0);obtain ⟨b1,b2⟩:=b ha;obtain ⟨c1,c2,c3,c4,c5⟩:=k3 T b1 (by omega);rw[k2,Vx]at b2;have b3:=b2 (by omega);rw[nS h.lc o.tc,<-p2]at b3;exact ⟨⟨c1,c2,c3,c4,c5,b3⟩,0,by omega,av _,fun k=>rfl⟩⟩
 obtain ⟨e,el⟩:=Tt.all h.cc (EE o.all) z f1 fun m hm=>by rw[h.lc];exact h.has m hm
 rw[f2]at e;refine ⟨e.ok,fun T ha hT=>?_⟩;obtain ⟨⟨c1,c2,c3,c4,c5,c6⟩,i,i1,i2,i3⟩:=e.dec T ha hT;refine ⟨c1,c2,?_⟩;have nW:=i3 (o.all.length+1-i);rw[show o.all.length+1-i+i=o.all.length+1 by omega]at nW;have He:CC o.c ⟨T.toArray⟩ o.all.length (o.all.length+1-i) o.all (pos o.Vw)= .ok (o.all,pos o.Vw):=by
  rw[show o.all.length+1-i=(o.all.length-i)+1 by omega];unfold CC;rw[ak (av _)]
 have e3:(EE o.all).foldl (wM o.c) o.ff=o.Vw:=rfl;rw[e3,He,s7]at nW;unfold dyn;rw[c3];dsimp only;rw[ah (by omega),c4];dsimp only;rw[ah (by omega),c5];dsimp only;rw[aa,aa,aa,show o.ni-4+4=o.ni by omega,c6];dsimp only;rw[ah (by rw[h.cc];simp),show o.na-257+257=o.na by omega,show o.nb-1+1=o.nb by omega,nW];dsimp only;have ta:(o.a.take o.na).length=o.na:=by rw[au,h.la];omega
 have tk:o.all.take o.na=o.a.take o.na:=by unfold Own.all;exact bK ta
 have dr:o.all.drop o.na=o.b.take o.nb:=by unfold Own.all;exact dy ta
 have APu:o.all.getD 256 0=o.a.getD 256 0:=by
  unfold Own.all;rw[af,aG (by omega),<-af,o.ta.take]
 have:=h.AC2;have ha0:DE (o.a.take o.na)=0:=Vs o.ta (by rw[h.la];omega) h.ca;have hb0:DE (o.b.take o.nb)=0:=Vs o.tb (by rw[h.lb];omega) h.cb;rw[ah (by rw[APu];omega),tk,dr,ah (by rw[ha0];simp),ah (by rw[hb0];simp)]
theorem own_gives (h:o.ok){l:List JR}(hf:Fit l [])(hh:∀p∈l,Has o.a o.b p):F9 (o.T l) (l.foldl Pr []):=by
 obtain ⟨r1,r2⟩:=Own.read h;obtain ⟨s1,s2,s3,s4,s5,s6,s7⟩:=Own.fg h;have e:=Rp.all h.ca h.cb l (Rp.zero (near:=o.a) (far:=o.b) r1 r2 rfl) hf hh;refine e.fin (kind:=2) h.ca (by rw[h.la];decide) h.AC2 rfl fun T hT=>⟨hT.1,hT.2.1,fun most=>?_⟩
 unfold block;rw[ah (by decide),ah (by decide),ak rfl,hT.2.2];dsimp only;exact Io (fun p=>Vr o.ta (by rw[h.la];omega) _ p) (fun p=>Vr o.tb (by rw[h.lb];omega) _ p) most _ _ _
end
theorem F9.Dw{T out:List UInt8}(h:F9 T out)(hb:out.length<=1048576){most:Int}(hm:(out.length:Int)<=most):Dw ⟨T.toArray⟩ most=(⟨out.toArray⟩,(T.length:Int),0):=by
 rw[KL (by omega)];obtain ⟨q,h1,h2⟩:=(h (min most 1048576).toNat).1 (by omega);rw[h1];dsimp only;rw[h2]
end A8
namespace A8
open Sh DS
attribute [local irreducible] Ld St Nw Nn Lt AP
def wa (v:Int):Int×Int×Int×Int:=if v<3\/258<v then (0,0,0,1)else (((257+kL v.toNat:Nat):Int),((v.toNat-Ab (kL v.toNat):Nat):Int),((BB (kL v.toNat):Nat):Int),0)
def we (v:Int):Int×Int×Int×Int:=if v<1\/32768<v then (0,0,0,1)else (((kD v.toNat:Nat):Int),((v.toNat-AZ (kD v.toNat):Nat):Int),((B3 (kD v.toNat):Nat):Int),0)
theorem Gq {first each:Nat}(he:2<=each):∀k,k<=2*each->OM first each k=first+k
 |0,_=>rfl
 |k+1,h=>by
  show OM first each k+2^(k/each-1)=_
  have:k/each<=1:=by
   have:=(Nat.div_lt_iff_lt_mul (by omega:0<each)).2 (show k<2*each by omega);omega
  rw[Gq he k (by omega),show k/each-1=0 by omega];omega
theorem Ky {first each j:Nat}(he:2<=each):∀q,q<=each->OM first each (each*(j+2)+q)=OM first each (each*(j+2))+q*2^(j+1)
 |0,_=>by simp
 |q+1,h=>by
  show OM first each (each*(j+2)+q)+2^((each*(j+2)+q)/each-1)=_
  have:(each*(j+2)+q)/each=j+2:=by
   rw[Nat.mul_add_div (by omega),Nat.div_eq_of_lt (by omega)]
  rw[Ky he q (by omega),this,show j+2-1=j+1 by omega,bN,eu,cC]
theorem nX {x m:Nat}(hx:x<2^40)(hm:m<=30):CY .i64 (x:Int) (wrap .i64 (wrap .i64 (1*2^(min ((m:Int)).toNat 64))-1))=((x%2^m:Nat):Int):=by
 have hp:2^m<=2^30:=cq (by omega) hm;have h0:0<2^m:=cY (by decide);rw[sh1 rfl hm,<-dj];generalize 2^m=P at hp h0;rw[AE (by omega),show (P:Int)-1=((P-1:Nat):Int) by omega,Kp (by omega) (by omega)]
theorem nY (first each:Nat):∀k,first<=OM first each k
 |0=>av _
 |k+1=>cd (nY first each k) (Nat.le_add_right _ _)
theorem nZ {first each:Nat}(he:each=2\/each=4){n:Nat}(hn:n<=40000)(w:World):wg (n:Int) ((2*each:Nat):Int) (each:Int) w fun r0 r1 r2 w1=>∃k:Nat,r0=(k:Int)/\OM first each k<=first+n/\first+n<OM first each (k+1)/\r1=((first+n-OM first each k:Nat):Int)/\r2=((k/each-1:Nat):Int)/\Ext (fun _=>False) w w1:=by
 have h2:2<=each:=by omega
 refine APv _ _ _ _ _ ?_;unfold AIk;refine Br.dec (fun q=>?_) fun q=>?_
 ·have:n/each<=1:=by
   have:=(Nat.div_lt_iff_lt_mul (by omega:0<each)).2 (show n<2*each by omega);omega
  exact ⟨n,rfl,by rw[Gq h2 n (by omega)];omega,by rw[Gq h2 (n+1) (by omega)];omega,by rw[Gq h2 n (by omega)];omega,by rw[show n/each-1=0 by omega];rfl,Ext.refl _ _⟩
 ·refine ⟨fun m st w3=>∃j:Nat,m=40-j/\j<=14/\OM first each (each*(j+2))<=first+n/\st=(((first+n-OM first each (each*(j+2)):Nat):Int),((each*(j+2):Nat):Int),((j+1:Nat):Int))/\w3=w,40,?_,?_⟩
  ·have e0:OM first each (each*(0+2))=first+2*each:=by rw[show each*(0+2)=2*each by omega,Gq h2 _ (av _)]
   refine ⟨0,rfl,by omega,by rw[e0];omega,?_,rfl⟩;rw[e0,AE (by omega),show ((n:Nat):Int)-((2*each:Nat):Int)=((first+n-(first+2*each):Nat):Int) by omega,show each*(0+2)=2*each by omega]
   rfl
  ·rintro m st _ ⟨j,rfl,hj,hle,rfl,rfl⟩;unfold nd;dsimp only;have hp:2^(j+1)<=2^15:=cq (by omega) (by omega);have hp0:0<2^(j+1):=cY (by decide);have MD:=nY first each (each*(j+2))
   have e2:(each:Int)*2^(min (((j+1:Nat):Int)).toNat 64)=((each*2^(j+1):Nat):Int):=by rw[aa,bo (by omega)];simp
   have hm1:each*2^(j+1)<=4*2^15:=Nat.mul_le_mul (by omega) hp;have eW:wrap .i64 ((each*2^(j+1):Nat):Int)=((each*2^(j+1):Nat):Int):=AE (by omega);have Cz:=Ky (first:=first) (j:=j) h2 each (av _);have em:each*(j+2)+each=each*(j+1+2):=by rw[<-Nat.mul_succ]
   rw[em]at Cz;have hmul:each*(j+2)<=4*16:=Nat.mul_le_mul (by omega) (by omega);refine ⟨by omega,?_⟩;rw[e2,eW];refine Br.dec (fun q2=>⟨by omega,?_⟩) fun q2=>⟨by omega,by omega,Lt.of ?_⟩
   ·have Jx:j+1<=14:=by
     rcases bX j 14 with h|h
     ·omega
     ·have:j=14:=by omega
      subst this;omega
    refine ⟨40-(j+1),by omega,j+1,rfl,Jx,by rw[Cz];omega,?_,rfl⟩;rw[Cz,AE (by omega),AE (by omega),AE (by omega)];refine Prod.ext ?_ (Prod.ext ?_ ?_)
    ·show (_:Int)=_;dsimp only;omega
    ·show (_:Int)=_;dsimp only;rw[<-em];omega
    ·show (_:Int)=_;dsimp only;omega
   ·have hx:first+n-OM first each (each*(j+2))<each*2^(j+1):=by omega
    generalize hxe:first+n-OM first each (each*(j+2))=x at hx
    have hq:x/2^(j+1)<each:=(Nat.div_lt_iff_lt_mul hp0).2 hx;have hdm:=Nat.div_add_mod x (2^(j+1));have jZ:=cX x hp0;have s1:=Ky (first:=first) (j:=j) h2 (x/2^(j+1)) (by omega);have s2:=Ky (first:=first) (j:=j) h2 (x/2^(j+1)+1) (by omega);rw[bN,eu]at s2;rw[cW]at hdm;have efd:Int.fdiv (x:Int) (2^(min (((j+1:Nat):Int)).toNat 64))=((x/2^(j+1):Nat):Int):=by
     rw[aa,bo (by omega),fdiv_pow];simp
    have ediv:(each*(j+2)+x/2^(j+1))/each=j+2:=by
     rw[Nat.mul_add_div (by omega),Nat.div_eq_of_lt hq]
    have hxb:x<2^40:=by omega
    refine ⟨each*(j+2)+x/2^(j+1),?_,by rw[s1];omega,by rw[cC,s2];omega,?_,by rw[ediv];rfl,(Ext.refl _ _).drew⟩
    ·rw[efd];generalize x/2^(j+1)=qq at hq⊢;rw[AE (by omega)];omega
    ·rw[nX hxb (by omega),s1];omega
theorem ng (v:Int)(w:World):wh v w fun a b c e w1=>(a,b,c,e)=wa v/\Ext (fun _=>False) w w1:=by
 refine APw _ _ _ ?_;unfold AIm wa;refine Br.dec (fun q=>⟨by rw[ak (.inl q)],Ext.refl _ _⟩) fun q=>Br.dec (fun q2=>⟨by rw[ak (.inr q2)],Ext.refl _ _⟩) fun q2=>?_
 rw[ah (by omega)];obtain ⟨n,rfl⟩:∃n:Nat,v=(n:Int):=⟨v.toNat,by omega⟩
 rw[aa];refine Br.eq (fun q3=>?_) fun q3=>?_
 ·have:n=258:=by omega
  subst this;exact ⟨rfl,Ext.refl _ _⟩
 ·rw[AE (by omega),show (n:Int)-3=((n-3:Nat):Int) by omega];refine (nZ (first:=3) (each:=4) (.inr rfl) (n:=n-3) (by omega) w).mono ?_;rintro a b c w1 ⟨k,rfl,h1,h2,rfl,rfl,he⟩;rw[fh]at h1 h2⊢;have hk:=AIh (v:=n) (k:=k) (by omega) (by omega) (by omega) (by omega);obtain ⟨k1,k2,k3,k4⟩:=Hb (v:=n) (by omega) (by omega);rw[<-hk]at k1 k2 k3 k4⊢;have A2:k≠28:=by omega
  have hf:Ab k=Cy k:=by unfold Ab;rw[ah A2]
  have hm:BB k=k/4-1:=by unfold BB;rw[ah A2]
  rw[AE (by omega),hf,hm];refine ⟨?_,he⟩;refine Prod.ext ?_ (Prod.ext ?_ rfl)
  ·show (_:Int)=_;dsimp only;omega
  ·show (_:Int)=_;dsimp only;omega
theorem nh (v:Int)(w:World):wi v w fun a b c e w1=>(a,b,c,e)=we v/\Ext (fun _=>False) w w1:=by
 refine APx _ _ _ ?_;unfold AIn we;refine Br.dec (fun q=>⟨by rw[ak (.inl q)],Ext.refl _ _⟩) fun q=>Br.dec (fun q2=>⟨by rw[ak (.inr q2)],Ext.refl _ _⟩) fun q2=>?_
 rw[ah (by omega)];obtain ⟨n,rfl⟩:∃n:Nat,v=(n:Int):=⟨v.toNat,by omega⟩
 rw[aa];rw[AE (by omega),show (n:Int)-1=((n-1:Nat):Int) by omega];refine (nZ (first:=1) (each:=2) (.inl rfl) (n:=n-1) (by omega) w).mono ?_;rintro a b c w1 ⟨k,rfl,h1,h2,rfl,rfl,he⟩;rw[fj]at h1 h2⊢;have hk:=AIg (v:=n) (k:=k) (by omega) (by omega) (by omega) (by omega);rw[<-hk];refine ⟨?_,he⟩;refine Prod.ext rfl (Prod.ext ?_ rfl);show (_:Int)=_;dsimp only;omega
end A8
namespace A8
open Sh DS
attribute [local irreducible] Ld St Nw Nn Lt AP
abbrev Qr:=Int×Int×Int
def BY (q:Qr):List Value:=[.int .u8 q.1,.int .i64 q.2.1,.int .i64 q.2.2]
theorem elP:El prog 170 193 3 24 (.agg (BY (0,0,0)).toArray):=⟨by kernel_rfl,by kernel_rfl,by kernel_rfl,by kernel_rfl,rfl⟩
theorem ABn (L:List Qr):(L.flatMap BY).length=L.length*3:=by
 induction L with
 |nil=>rfl
 |cons o L ih=>rw[bC,ae,ih,aA];simp[BY];omega
theorem ANC {L:List Qr}{i j:Nat}{o:Qr}(hi:L[i]?=some o)(hj:j<3):(L.flatMap BY)[i*3+j]?=(BY o)[j]?:=by
 induction L generalizing i with
 |nil=>cases hi
 |cons p L ih=>
  rw[bC];cases i with
  |zero=>
   cases hi;rw[cg,aj,aG (by simp[BY];omega)]
  |succ i=>
   rw[aF (by simp[BY];omega),<-ih (by simpa using hi)]
   congr 1
   simp only[BY,aA,bq];omega
theorem AMi (L:List Qr):∀v∈L.flatMap BY,v.oneCell'=true:=by
 intro v hv;obtain ⟨q,_,hq⟩:=List.mem_flatMap.1 hv;unfold BY at hq;rcases aN.1 hq with rfl|hq
 ·rfl
 rcases aN.1 hq with rfl|hq
 ·rfl
 rcases aN.1 hq with rfl|hq
 ·rfl
 ·cases hq
def PV (w:World)(s:AA)(L:List Qr):Prop:=s.len=L.length/\Bh w s 3 (L.flatMap BY)
theorem PV.AB{w w':World}{s:AA}{L:List Qr}(h:PV w s L)(he:Ext (fun _=>False) w w'):PV w' s L:=⟨h.1,h.2.AB he⟩
theorem PV.get{w:World}{s:AA}{L:List Qr}(h:PV w s L){i:Nat}{o:Qr}(hi:L[i]?=some o):∃a,s.p=some a/\w.cell? (a.add (i*3))=some (.int .u8 o.1)/\w.cell? ((a.add (i*3)).add 1)=some (.int .i64 o.2.1)/\w.cell? ((a.add (i*3)).add 2)=some (.int .i64 o.2.2):=by
 have g:∀j v,j<3->(BY o)[j]?=some v->∃a,s.p=some a/\w.cell? ((a.add (i*3)).add j)=some v:=fun j v hj hv=>by
  obtain ⟨a,ha,hc⟩:=h.2.2 (i*3+j) v (by rw[ANC hi hj];exact hv);exact ⟨a,ha,by rw[BN];exact hc⟩
 obtain ⟨a,ha,c0⟩:=g 0 _ (by omega) rfl;obtain ⟨a1,vT,c1⟩:=g 1 _ (by omega) rfl;obtain ⟨a2,QM,c2⟩:=g 2 _ (by omega) rfl;rw[ha]at vT QM;cases vT;cases QM;exact ⟨a,ha,by rw[BN]at c0;exact c0,c1,c2⟩
def okQ (q:Qr):Prop:=(q.2.1=0/\q.2.2=0)\/(q.1=0/\3<=q.2.1/\q.2.1<=258/\1<=q.2.2/\q.2.2<=32768)
instance (q:Qr):Decidable (okQ q):=by unfold okQ;infer_instance
def Hr (q:Qr):JR:=⟨UInt8.ofNat q.1.toNat,q.2.1.toNat,q.2.2.toNat⟩
def Hm (p:JR):Qr:=((p.b.toNat:Int),(p.n:Int),(p.f:Int))
section
variable {w vw:World} {B:Nat} {cs:List Value} {t:TypeId} {sl:AA} {out:List UInt8}
variable {s2:AA×Int} {vw3:World} {I4:(AA×Int)->World->Prop} {b:Int} {n f:Nat}
end
theorem AMg (x:Int):(if 1>x then 1 else x)=max x 1:=by split<;>omega
end A8
set_option maxRecDepth 512
set_option maxHeartbeats 200000
namespace DS
open Sh
def fp (b:Nat)(s:AA):Nat->Prop:=fun j=>j=b\/s.own j
structure Wn (w w':World) (b:Nat) (s s':AA):Prop where
 ext:Ext (fp b s) w w'
 new:∀j,s'.own j->s.own j\/w.heap.size<=j
theorem Wn.refl(w:World)(b:Nat)(s:AA):Wn w w b s s:=⟨Ext.refl _ _,fun _ h=> .inl h⟩
theorem Wn.trans{w w1 w2:World}{b:Nat}{s s1 s2:AA}(h:Wn w w1 b s s1)(k:Wn w1 w2 b s1 s2):Wn w w2 b s s2:=
 ⟨h.ext.trans k.ext (fun _ h=>h) fun i hi hg=>hg.elim .inl fun hg=>(h.new i hg).elim .inr fun h2=>by omega,
  fun j hj=>(k.new j hj).elim (h.new j) fun h2=> .inr (cd h.ext.size h2)⟩
theorem Wn.to{w w1 w2:World}{b:Nat}{s s1:AA}(h:Wn w w1 b s s1)(k:Ext (·=b) w1 w2):Wn w w2 b s s1:=
 ⟨h.ext.trans k (fun _ h=>h) fun i hi hg=> .inl hg,h.new⟩
theorem Wn.to'{w w1 w2:World}{b:Nat}{s s1:AA}(h:Wn w w1 b s s1)(k:Ext (fun _=>False) w1 w2):Wn w w2 b s s1:=
 ⟨h.ext.trans k (fun _ h=>h) fun i hi hg=>hg.elim,h.new⟩
structure JQ (w:World) (b:Nat) (s:AA) (AJ:Int) (st:List UInt8×Nat):Prop where
 AS:AO w b #[.int .i64 AJ,.int .i64 ((st.2:Nat):Int),AA.v s] 227
 row:BQ w s st.1
 own:¬s.own b
abbrev Vd (b:Nat):Option Addr:=some ⟨b,0,none⟩
section
variable {w w2:World} {b:Nat} {s:AA} {AJ:Int} {st:List UInt8×Nat}
theorem JQ.AB{G:Nat->Prop}(h:JQ w b s AJ st)(he:Ext G w w2)(hn:∀j,fp b s j->¬G j):JQ w2 b s AJ st:=
 ⟨he.AS h.AS (hn b (.inl rfl)),h.row.AB he fun j hj=>hn j (.inr hj),h.own⟩
theorem JQ.lt(h:JQ w b s AJ st):∀j,fp b s j->j<w.heap.size:=fun j hj=>hj.elim (fun e=>e▸h.AS.lt) h.row.own_lt
theorem wJ {cs:Array Value}{t:TypeId}{u:Nat}(h:AO w b cs t)(hu:cs[1]?=some (.int .i64 ((u:Nat):Int)))(Am:u<8)(w':Int):
  jT (Vd b) w' w fun x w1=>x=((pl w' u:Nat):Int)/\w1=w:=by
 refine AH7 _ _ _ _ ?_;unfold ACa;unfold pl;by_cases hw:w'=1
 ·simp only[hw,beq_self_eq_true,Ot];exact Nn.of (Ld.of h hu ⟨rfl,trivial⟩)
 ·simp only[hw,dz,beq_eq_false_iff_ne.2 hw,Kr];exact Nn.of (Ld.of h hu ⟨by rw[AE (by omega)];omega,trivial⟩)
theorem wK {cs:Array Value}{t:TypeId}(h:AO w b cs t)(hu:cs[0]?=some (.int .i64 AJ))(w':Int):
  ml (Vd b) w' w fun x w1=>x=(AJ !=0&&AJ !=w')/\w1=w:=by
 refine AH8 _ _ _ _ ?_;unfold ACb;refine Nn.of (Ld.of h hu (AX (fun e=>?_) fun e=>?_))
 ·exact Nn.of (Ld.of h hu ⟨by simp[e],rfl⟩)
 ·exact ⟨by simp[e],rfl⟩
theorem F2 (w:World):mu w fun r w1=>r=Vd w.heap.size/\JQ w1 w.heap.size ⟨none,0,0⟩ 0 ([],0)/\Ext (fun _=>False) w w1:=by
 refine APb _ _ ?_;unfold AIM;refine (Hx.start w (fun _=>False)).nw fun w2 H=>⟨rfl,⟨H.get 0 rfl,BQ.nil _,?_⟩,H.ext⟩
 rintro ⟨a,ha,_⟩;cases ha
theorem mw {l:List UInt8}(h:l≠[]):∃x,l[l.length-1]?=some x/\x.toNat=BX l:=by
 have:0<l.length:=ch.2 h;refine ⟨l[l.length-1],ad (by omega),?_⟩;unfold BX;simp[List.getD,ad (show l.length-1<l.length by omega)]
theorem wL {AJ:Int}(h:Ei AJ st){x:Nat}(hx:x<=1):
  Kk .u8 ((BX (grow st):Nat):Int) (wrap .u8 (wrap .i64 ((x:Int)*2^min (((pl AJ st.2:Nat):Int)).toNat 64)))=
   (((UInt8.ofNat (BX (grow st)+x*2^pl AJ st.2)).toNat:Nat):Int):=by
 obtain ⟨h1,h2,h3⟩:=MP h hx;have Am:=h.lt;have hp:pl AJ st.2<=7:=by unfold pl;split<;>omega
 have e:((x:Int)*2^min (((pl AJ st.2:Nat):Int)).toNat 64)=((x*2^pl AJ st.2:Nat):Int):=by
  rw[aa,bo (by omega)];simp
 rw[e,AE (by omega),Hu (by omega),Yc (Ve _) h3,h2,dk h1]
theorem ACl (h:JQ w b s AJ st){w':Int}(BA:Ei w' st)(A1:st.1.length<=549755813888){x:Nat}(hx:x<=1):
  mz (Vd b) (x:Int) w' w fun w1=>∃s',JQ w1 b s' AJ (EW w' st x)/\Wn w w1 b s s':=by
 refine APc _ _ _ _ _ ?_;unfold AIN;obtain ⟨hb,hr,ho⟩:=h;have Am:=BA.lt;have H0:Hx w (fp b s) w _:=Hx.one hb;refine Nn.of (H0.ld 0 rfl rfl (AX (fun e=>?a) fun e=>?b))
 case' a=>
  have e0:st.2=0:=by simpa using e
  refine Nn.of (H0.ld 0 rfl rfl (H0.Ro fun w2 H he=>?_));have hr1:=hr.AB he fun _ _ h=>h
  obtain ⟨s1,w3,Ag,AV,D8,Cw⟩:=Ou (ty:=108) (b:=0) hr1 (H.get 1 rfl) (by omega);refine ⟨s1,w3,Ag,Nn.of ?_⟩;have nA:∀j,s.own j->j∉[b,w.heap.size]:=fun j hj hm=>by
   rcases aN.1 hm with h|h
   ·exact ho (h▸hj)
   ·have:=hr.own_lt hj;have:j=w.heap.size:=by simpa using h
    omega
  have H:=H.other D8 (fun j hj=>nA j hj) fun j hj=> .inl (.inr hj)
  have lQ:∀j,s1.own j->s.own j\/w.heap.size<=j:=fun j hj=>(Cw j hj).imp id fun h=>cd he.size h
  have IU:¬s1.own b:=fun hj=>(lQ b hj).elim ho fun h=>by have:=hb.lt;omega
  refine H.EV 0 rfl (by simp) (.inl (.inl rfl)) fun w4 H he4=>?_
  have AV:=AV.AB he4 fun j hj e=>IU (by have e:j=b:=e;rw[<-e];exact hj)
  have H:=H.only 0 rfl;have hg:st.1++[0]=grow st:=by unfold grow;rw[ak e0]
  rw[hg]at AV
 case' b=>
  have e0:¬st.2=0:=by
   have:¬((st.2:Nat):Int)=0:=by simpa using e
   omega
  have AV:BQ w s (grow st):=by unfold grow;rw[ah e0];exact hr
  have H:=H0;have lQ:∀j,s.own j->s.own j\/w.heap.size<=j:=fun j hj=> .inl hj
  have IU:=ho
 all_goals
  have HD:=H.drew;have AV:=AV.AB (Ext.refl (fun _=>False) _).drew fun _ _ h=>h
  have hlen:=AV.len;have hgn:=Ks BA;have HX:0<(grow st).length:=ch.2 hgn;have hgl:=Ph st;obtain ⟨y,hy,hyN⟩:=mw hgn;obtain ⟨g,hp,hc⟩:=AV.get hy;obtain ⟨g',Kq,nB,Ti,Vf⟩:=AV.set (show (grow st).length-1<(grow st).length by omega) (UInt8.ofNat (BX (grow st)+x*2^pl w' st.2));have:g'=g:=by rw[hp]at Kq;cases Kq;rfl
  subst this;refine ⟨fun w3=>w3=_,rfl,Nn.of (AP.of (fun w3 e=>e▸HD.get 0 rfl) rfl (Nn.of (AP.of (fun w3 e=>e▸HD.get 0 rfl) rfl ?_)))⟩;rw[hlen,AE (by omega),show ((((grow st).length:Nat):Int)-1).toNat*1=(grow st).length-1 by omega,hp];refine ⟨by omega,by omega,Nn.of ⟨((BX (grow st):Nat):Int),fun w3 e=>by rw[e,add_lit,aj,hc,hyN],Nn.of ((wJ (HD.get 0 rfl) rfl Am w').mono ?_)⟩⟩;rintro r w3 ⟨rfl,rfl⟩;refine ⟨rfl,by omega,by omega,by omega,Nn.of ⟨by rw[add_lit,aj];exact nB,Nn.of ?_⟩⟩;rw[add_lit,aj,wL BA hx];have Ye:g'≠b:=fun e=>IU ⟨_,hp,e⟩
  have hgb:∀j,j=g'->j∉[b]:=fun j hj hm=>Ye (by rw[<-hj];simpa using hm)
  have H5:=HD.other Vf hgb fun j hj=>by rw[hj];exact (lQ g' ⟨_,hp,rfl⟩).imp .inr id
  refine H5.ld 0 rfl rfl (Nn.of (H5.EV 0 rfl (by simp) (.inl (.inl rfl)) fun w6 H6 SI=>?_));refine ⟨_,⟨?_,Ti.AB SI fun j hj e=>IU (by have e:j=b:=e;rw[<-e];exact hj),IU⟩,H6.ext,lQ⟩;have:=H6.get 0 rfl;rw[AE (by omega),F0 (by omega)]at this;exact this
theorem PM (h:JQ w b s AJ st)(hi:FY AJ st)(A1:st.1.length<=274877906944)(v n:Int){w':Int}(jR:w'=1\/w'=2):
  ACo (Vd b) v n w' w fun e w1=>e=(Jr AJ st v n w').1/\∃s',JQ w1 b s' (Jr AJ st v n w').2.2 (Jr AJ st v n w').2.1/\Wn w w1 b s s':=by
 refine APd _ _ _ _ _ _ ?_;unfold AIO;have no:(n<0\/24<n\/v<0\/2^n.toNat<=v\/(AJ≠0/\AJ≠w'))->(1:Int)=(Jr AJ st v n w').1/\∃s',JQ w b s' (Jr AJ st v n w').2.2 (Jr AJ st v n w').2.1/\Wn w w b s s':=fun hc=>by
  rw[Vg hc];exact ⟨rfl,s,h,Wn.refl _ _ _⟩
 refine AX (fun e=>?_) fun _=>AX (fun e=>?_) fun e1=>AX (fun e=>?_) fun e2=>AX (fun e=>?_) fun e3=>⟨by simpa using e1,AX (fun e=>?_) fun e4=>?_⟩
 ·cases e
 ·exact no (.inl (by simpa using e))
 ·exact no (.inr (.inl (by simpa using e)))
 ·exact no (.inr (.inr (.inl (by simpa using e))))
 all_goals
  have h0:¬n<0:=by simpa using e1
  have h24:n<=24:=by simpa using e2
  have hv0:¬v<0:=by simpa using e3
  obtain ⟨m,rfl⟩:=aR (show 0<=n by omega);obtain ⟨u,rfl⟩:=aR (show 0<=v by omega);have APW:=Pf (show m<=24 by omega);have hpp:=two_pow_pos m;have hwr:wrap .i64 (1*2^min ((m:Int)).toNat 64)=2^m:=by
   rw[aa,bo (by omega),Int.one_mul,AE (by omega)]
 ·have e:(2:Int)^m<=(u:Int):=by rw[hwr]at e;simpa using e
  exact no (.inr (.inr (.inr (.inl (by rw[aa];exact e)))))
 have Am:(u:Int)<2^m:=by rw[hwr]at e4;simpa using e4
 refine Nn.of ((wK h.AS rfl w').mono ?_);rintro x w1 ⟨rfl,rfl⟩;refine AX (fun e=>?_) fun e5=>?_
 ·exact no (.inr (.inr (.inr (.inr (by simpa using e)))))
 have Kf:¬(AJ≠0/\AJ≠w'):=by simpa using e5
 have BF:¬((m:Int)<0\/24<(m:Int)\/(u:Int)<0\/2^((m:Int)).toNat<=(u:Int)\/(AJ≠0/\AJ≠w')):=by
  rw[aa];omega
 have BA:=hi.to Kf;rw[Kt BF,aa,aa];have AIP:u<16777216:=by omega
 refine ⟨fun k i w3=>∃j:Nat,j<=m/\k=m-j/\i=(j:Int)/\∃s',JQ w3 b s' AJ (HZ w' u m st j)/\Wn w1 w3 b s s',m,⟨0,by omega,by omega,rfl,s,h,Wn.refl _ _ _⟩,?_⟩;rintro k i w3 ⟨j,hj,rfl,rfl,s',hb,hn⟩;unfold nC;have APe:=BA.put u m j;have hlen:=Pj w' u m st j;refine AX (fun e=>?_) fun e=>?_
 ·have hjm:j<m:=by simpa using e
  have key:∀x:Int,x=((Gi w' u m j:Nat):Int)->mz (Vd b) x w' w3 fun w4=>∃n',n'<m-j/\∃j':Nat,j'<=m/\n'=m-j'/\wrap .i64 ((j:Int)+1)=(j':Int)/\∃s',JQ w4 b s' AJ (HZ w' u m st j')/\Wn w1 w4 b s s':=fun x hx=>by
   rw[hx];refine (ACl hb APe (by omega) (Tj _ _ _ _)).mono ?_;rintro w4 ⟨s2,TW,Tk⟩;exact ⟨m-(j+1),by omega,j+1,by omega,rfl,by rw[AE (by omega)];rfl,s2,TW,hn.trans Tk⟩
  rcases jR with rfl|rfl
  ·simp only[show ((1:Int)==2)=false by rfl,Kr];refine ⟨by omega,key _ ?_⟩;rw[aa,bo (by omega),Pk u j AIP];simp[Gi]
  ·simp only[beq_self_eq_true,Ot];rw[AE (n:=(m:Int)-1) (by omega),AE (by omega)];refine ⟨by omega,key _ ?_⟩;rw[show ((m:Int)-1-(j:Int)).toNat=m-1-j by omega,bo (by omega),Pk u _ AIP];simp[Gi]
 ·have MD:j=m:=by
   have:¬(j:Int)<m:=by simpa using e
   omega
  subst MD;refine AX (fun e=>?_) fun e=>?_
  ·have HX:(0:Int)<j:=by simpa using e
   rw[ak HX];refine Nn.of ((Hx.one (F:=(·=b)) hb.AS).EV 0 rfl (by simp) (.inl rfl) fun w5 H he=>⟨rfl,s',⟨H.get 0 rfl,hb.row.AB he fun i hi e=>hb.own (by have e:i=b:=e;rw[<-e];exact hi),hb.own⟩,hn.to he⟩)
  ·have hz:¬(0:Int)<j:=by simpa using e
   rw[ah hz];exact ⟨rfl,s',hb,hn⟩
theorem Yf (h:JQ w b s AJ st)(hi:FY AJ st)(A1:st.1.length<=274877906944)(v n:Int):
  Gj (Vd b) v n w fun e w1=>e=(Jr AJ st v n 1).1/\∃s',JQ w1 b s' (Jr AJ st v n 1).2.2 (Jr AJ st v n 1).2.1/\Wn w w1 b s s':=
 APf _ _ _ _ _ (PM h hi A1 v n (.inl rfl))
theorem Pl (h:JQ w b s AJ st):nD (Vd b) w fun w1=>JQ w1 b s 0 (st.1,0)/\Ext (·=b) w w1:=by
 refine APg _ _ _ ?_;unfold AIQ;refine AX (fun _=>?_) fun e=>by cases e
 refine Nn.of ((Hx.one (F:=(·=b)) h.AS).st 0 rfl (by simp) (.inl rfl) fun w2 H=>H.st 0 rfl (by simp) (.inl rfl) fun w3 H=>?_);exact ⟨⟨H.get 0 rfl,h.row.AB H.ext fun i hi e=>h.own (by have e:i=b:=e;rw[<-e];exact hi),h.own⟩,H.ext⟩
theorem ACp (h:JQ w b s AJ st)(t:ByteArray)(A1:st.1.length<=274877906944)(ht:t.size<=274877906944):
  ACq (Vd b) t w fun w1=>∃s',JQ w1 b s' (Tl AJ st) (nE st t)/\Wn w w1 b s s':=by
 refine APh _ _ _ _ ?_;unfold AIR;have fin:∀(w2:World) (Yg:Int),JQ w2 b s Yg (st.1,0)->Ext (·=b) w w2->∃x w3,BW prog (Builtin.append_ #[108,9] 108 #[AA.v s,.string t]) w2 (AA.v x) w3/\
   Nn (Vd b) fun a=>St w3 (a.add 2) (AA.v x) fun w4=>∃s',JQ w4 b s' Yg (nE st t)/\Wn w w4 b s s':=fun w2 Yg h2 he=>by
  obtain ⟨s1,w3,Ag,AV,D8,Cw⟩:=fS (ty:=108) h2.row t (by show st.1.length+_<=_;omega);have IU:¬s1.own b:=fun hj=>(Cw b hj).elim h2.own fun hh=>by have:=h2.AS.lt;omega
  have APi:∀j,s.own j->j∉[b]:=fun j hj hm=>h2.own ((show j=b by simpa using hm)▸hj)
  have H:=(Hx.one (F:=fp b s) h2.AS).other D8 APi fun j hj=> .inl (.inr hj)
  refine ⟨s1,w3,Ag,Nn.of (H.EV 0 rfl (by simp) (.inl (.inl rfl)) fun w4 H he4=>⟨s1,⟨H.get 0 rfl,AV.AB he4 fun j hj e=>IU (by have e:j=b:=e;rw[<-e];exact hj),IU⟩,?_,?_⟩)⟩
  ·exact he.trans H.ext (fun _ h=> .inl h) fun _ _ h=>h
  ·exact fun j hj=>(Cw j hj).imp id fun hh=>cd he.size hh
 refine AX (fun e=>?_) fun _=>Nn.of ((Hx.one (F:=(·=b)) h.AS).ld 0 rfl rfl (AX (fun e=>?_) fun e=>?_))
 ·cases e
 ·have e:(0:Int)<((st.2:Nat):Int):=by simpa using e
  have e:¬st.2=0:=by omega
  refine (Pl h).mono ?_;rintro w2 ⟨h2,he⟩;unfold Tl;rw[ah e];exact Nn.of (Ld.of h2.AS rfl (fin w2 0 h2 he))
 ·have e:¬(0:Int)<((st.2:Nat):Int):=by simpa using e
  have e:st.2=0:=by omega
  unfold Tl;rw[ak e];refine Nn.of (Ld.of h.AS rfl (fin w AJ ?_ (Ext.refl _ _)));obtain ⟨l,u⟩:=st;simp only at e;subst e;exact h
theorem FB {l:List UInt8}(h:BQ w s l)(A1:l.length<=549755813888):ACr s w fun s' w1=>BQ w1 s' l/\Ext (fun _=>False) w w1:=by
 refine APj _ _ _ ?_;unfold AIS;refine AX (fun e=>?_) fun e=>(Hx.start w (fun _=>False)).Ro fun w2 H he=>?_
 ·have:l=[]:=by
   rcases h.2 with rfl|⟨g,cur,hp,_⟩
   ·exact aw (by have:=h.len;simpa using this.symm)
   ·rw[hp]at e;cases e
  rw[this];exact ⟨BQ.nil _,Ext.refl _ _⟩
 ·have hr:BQ w2 ⟨some ⟨w.heap.size,0,none⟩,0,0⟩ []:=⟨rfl,.inr ⟨_,#[],rfl,H.get 0 rfl,av _,rfl,rfl⟩⟩
  obtain ⟨s1,w3,Ag,AV,D8,Cw⟩:=Kj (ty:=108) hr (h.AB he fun _ _ h=>h) (by simp;omega);refine ⟨s1,w3,Ag,AV,he.trans D8 (fun _ h=>h) fun i hi ⟨a,ha,hb⟩=>?_⟩;cases ha;have:w.heap.size=i:=hb;omega
theorem Tm (h:JQ w b s AJ st)(A1:st.1.length<=549755813888):nF (Vd b) w fun x w1=>x=⟨st.1.toArray⟩/\Ext (fun _=>False) w w1:=by
 refine APk _ _ _ ?_;unfold AIT;refine AX (fun e=>?_) fun _=>Nn.of (Ld.of h.AS rfl ((FB h.row A1).mono ?_))
 ·cases e
 rintro s' w1 ⟨hr,he⟩;exact ⟨_,w1,HP hr,rfl,he⟩
end
end DS
set_option maxRecDepth 4000
set_option maxHeartbeats 1000000
namespace A8
open Sh DS
attribute [local irreducible] Ld St Nw Nn Lt AP
theorem Hs (l:List UInt8)(x:UInt8)(v:Nat):DZ (l++[x]) v=l++[UInt8.ofNat (x.toNat+v)]:=by
 have h:BX (l++[x])=x.toNat:=by unfold BX;simp
 unfold DZ;rw[h,ae];simp
theorem uR (v n i:Nat):Gi 1 v n i=v/2^i%2:=by unfold Gi;rw[ak rfl]
theorem byte_at {v n m:Nat}{st:WS}{l:List UInt8}(h:HZ 1 v n st m=(l,0)):∀i,i<8->HZ 1 v n st (m+(i+1))=(l++[UInt8.ofNat (v/2^m%2^(i+1))],(i+1)%8)
 |0,_=>by
  show EW 1 (HZ 1 v n st m) (Gi 1 v n m)=_;rw[h,uR];unfold EW grow pl;rw[ak rfl,ak rfl,Hs];show (l++[UInt8.ofNat (0+v/2^m%2*1)],1)=_;rw[aj,aH]
 |i+1,hi=>by
  show EW 1 (HZ 1 v n st (m+(i+1))) (Gi 1 v n (m+(i+1)))=_;rw[byte_at h i (by omega),uR];have jZ:(i+1)%8=i+1:=bA (by omega);unfold EW grow pl;dsimp only;rw[jZ,ah (by omega),ak rfl,Hs];have hp:2^(i+1)<=2^7:=cq (by omega) (by omega);have Am:v/2^m%2^(i+1)<256:=by have:=cX (v/2^m) (show 0<2^(i+1)from cY (by decide));omega
  have e:(UInt8.ofNat (v/2^m%2^(i+1))).toNat+v/2^(m+(i+1))%2*2^(i+1)=v/2^m%2^(i+1+1):=by
   rw[XK Am,dm (n:=2) (m:=i+1),Nat.mod_mul,Nat.pow_add 2 m (i+1),aV,cW (2^(i+1)) (_%2)]
  rw[e]
theorem eX (l:List UInt8)(v:Nat):lw (l,0) v 16=(l++[UInt8.ofNat (v%256),UInt8.ofNat (v/256%256)],0):=by
 have h1:=byte_at (v:=v) (n:=16) (m:=0) (st:=(l,0)) (l:=l) rfl 7 (by decide);have h2:=byte_at (v:=v) (n:=16) (m:=0+(7+1)) (st:=(l,0)) h1 7 (by decide);rw[Nat.pow_zero,Nat.div_one]at h2;show HZ 1 v 16 (l,0) 16=_;rw[show (16:Nat)=0+(7+1)+(7+1)from rfl];rw[show (0+(7+1)+(7+1):Nat)=16 from rfl]at h2⊢;rw[h2,ax]
 rfl
theorem AM6 (l:List UInt8){f:Nat}(hf:f<=1):(lw (lw (l,0) f 1) 0 2).1=l++[UInt8.ofNat f]:=by
 have h1:=byte_at (v:=f) (n:=1) (m:=0) (st:=(l,0)) (l:=l) rfl 0 (by decide);have e1:lw (l,0) f 1=(l++[UInt8.ofNat f],1):=by
  show HZ 1 f 1 (l,0) 1=_;rw[show (0+(0+1):Nat)=1 from rfl]at h1;rw[h1,Nat.pow_zero,Nat.div_one,bA (by show f<2;omega)]
 have z:∀k,k≠0->EW 1 (l++[UInt8.ofNat f],k) (Gi 1 0 2 (k-1))=(l++[UInt8.ofNat f],(k+1)%8):=fun k hk=>by
  unfold EW grow;rw[uR,Nat.zero_div];dsimp only;rw[ah hk,Nat.zero_mod,cg,Hs,bY,UInt8.ofNat_toNat]
 rw[e1];show (EW 1 (EW 1 (l++[UInt8.ofNat f],1) (Gi 1 0 2 0)) (Gi 1 0 2 1)).1=_;rw[z 1 (by decide)];exact bI Prod.fst (z 2 (by decide))
def stS:Nat->List UInt8->List UInt8
 |0,_=>[]
 |k+1,l=>if l.length<=65535 then DG 1 l else DG 0 (l.take 65535)++stS k (l.drop 65535)
def Jp (l:List UInt8):List UInt8:=stS (l.length+1) l
theorem SA {l:List UInt8}(h:l.length<=65535):Jp l=DG 1 l:=by
 unfold Jp stS;rw[ak h]
theorem VB {w:World}{b:Nat}{s:AA}{AJ:Int}{st:WS}(h:JQ w b s AJ st)(hi:FY AJ st)(kQ:AJ=0\/AJ=1)(A1:st.1.length<=274877906944){v n:Nat}(hv:v<2^n)(hn:1<=n)(Tk:n<=24):
  Gj (Vd b) (v:Int) (n:Int) w fun e w1=>e=0/\∃s',JQ w1 b s' 1 (lw st v n)/\Wn w w1 b s s':=by
 have e2:((2^n:Nat):Int)=2^n:=by simp
 have hp:Jr AJ st (v:Int) (n:Int) 1=(0,lw st v n,1):=by
  rw[Kt (by rw[aa];omega)];simp only[aa];rw[ak (by omega)]
  rfl
 refine (Yf h hi A1 (v:Int) (n:Int)).mono ?_;rw[hp];exact fun e w1 h=>h
theorem inv1 {AJ:Int}{st:WS}(hi:FY AJ st)(kQ:AJ=0\/AJ=1)(v n:Nat):FY 1 (lw st v n):=
 ⟨(hi.to (by omega)).put _ _ _,fun e=>absurd e (by decide)⟩
theorem AGH (f n:Nat)(hn:n<=65535):hd5 (UInt8.ofNat f) n=[UInt8.ofNat f,UInt8.ofNat (n%256),UInt8.ofNat (n/256%256),UInt8.ofNat ((65535-n)%256),UInt8.ofNat ((65535-n)/256%256)]:=by
 unfold hd5;rw[show n/256%256=n/256 by omega,show (65535-n)%256=255-n%256 by omega,show (65535-n)/256%256=255-n/256 by omega]
theorem jC (n:Nat):(if (65535:Int)<((n:Nat):Int)then 65535 else ((n:Nat):Int))=((min n 65535:Nat):Int):=by
 split<;>omega
theorem kX {S:ByteArray}(hs:S.size<=1048576)(w:World):ADx S w fun r w1=>r=⟨(Jp S.data.toList).toArray⟩/\Ext (fun _=>False) w w1:=by
 refine ARK _ _ _ ?_;unfold AJ1;refine (DS.F2 w).mono ?_;rintro r w0 ⟨rfl,hW,he0⟩;have e0:(Ah S)=(Ah S):=rfl;refine ⟨fun m rest w3=>∃(pre:List UInt8) (sl:AA) (k:Nat),m=k/\rest.size<k/\pre++stS k rest.data.toList=Jp S.data.toList/\pre.length+2*rest.size<=2*S.size/\JQ w3 w.heap.size sl 0 (pre,0)/\Wn w0 w3 w.heap.size ⟨none,0,0⟩ sl,S.size+1,⟨[],_,_,rfl,by omega,by rw[Ah];rfl,by simp,hW,Wn.refl _ _ _⟩,?_⟩;rintro m rest w3 ⟨pre,sl,k,rfl,hk,lF,hlen,hW,hn⟩;obtain ⟨k,rfl⟩:∃j,m=j+1:=⟨m-1,by omega⟩
 have hrl:=Ah rest;unfold pX;have fact:∀(f:Nat),(f=1/\rest.size<=65535)\/(f=0/\65535<rest.size)->ZI (Vd w.heap.size) rest (fun s' w'=>∃n',n'<k+1/\∃(pre:List UInt8) (sl:AA) (k:Nat),n'=k/\s'.size<k/\pre++stS k s'.data.toList=Jp S.data.toList/\pre.length+2*s'.size<=2*S.size/\JQ w' w.heap.size sl 0 (pre,0)/\Wn w0 w' w.heap.size ⟨none,0,0⟩ sl)
   (fun r w1=>r=⟨(Jp S.data.toList).toArray⟩/\Ext (fun _=>False) w w1) (f:Int) w3:=fun f hf=>by
  unfold ZI;rw[jC];have hc:min rest.size 65535<=65535:=Nat.min_le_right _ _;have yX:min rest.size 65535<=rest.size:=Nat.min_le_left _ _;generalize hce:min rest.size 65535=c at hc yX⊢;refine (VB hW (FY.zero _) (.inl rfl) (by show pre.length<=_;omega) (v:=f) (n:=1) (by show f<2;omega) (by omega) (by omega)).mono ?_;rintro _ w4 ⟨rfl,s4,W4,n4⟩;have l4:(lw (pre,0) f 1).1.length<=pre.length+1:=by
   have:=byte_at (v:=f) (n:=1) (m:=0) (st:=(pre,0)) (l:=pre) rfl 0 (by decide);have e:lw (pre,0) f 1=_:=this;rw[e];simp
  refine (VB W4 (inv1 (FY.zero _) (.inl rfl) _ _) (.inr rfl) (by omega) (v:=0) (n:=2) (by decide) (by omega) (by omega)).mono ?_;rintro _ w5 ⟨rfl,s5,W5,n5⟩;refine (Pl W5).mono ?_;rintro w6 ⟨W6,e6⟩;rw[AM6 pre (by omega)]at W6;refine (VB W6 (FY.zero _) (.inl rfl) (by simp;omega) (v:=c) (n:=16) (by show c<65536;omega) (by omega) (by omega)).mono ?_;rintro _ w7 ⟨rfl,s7,W7,n7⟩;refine Lt.of ?_;rw[AE (by omega),show (65535:Int)-(c:Int)=((65535-c:Nat):Int) by omega];refine (VB W7 (inv1 (FY.zero _) (.inl rfl) _ _) (.inr rfl) (by rw[eX];simp;omega) (v:=65535-c) (n:=16) (by show 65535-c<65536;omega) (by omega) (by omega)).mono ?_;rintro _ w8 ⟨rfl,s8,W8,n8⟩;refine (Pl W8).mono ?_;rintro w9 ⟨W9,e9⟩;rw[eX,eX]at W9;have D8:rest.extract 0 ((c:Int)).toNat=rest.extract 0 c:=by rw[aa]
  have Ahs:(rest.extract 0 c).size=c:=by rw[cr];omega
  refine ⟨by omega,by omega,Lt.of ?_⟩;rw[D8];refine (ACp W9 (rest.extract 0 c) (by simp;omega) (by omega)).mono ?_;rintro IY ⟨DF,zg,n10⟩;have IT:nE (pre++[UInt8.ofNat f]++[UInt8.ofNat (c%256),UInt8.ofNat (c/256%256)]++[UInt8.ofNat ((65535-c)%256),UInt8.ofNat ((65535-c)/256%256)],0) (rest.extract 0 c)=(pre++DG (UInt8.ofNat f) (rest.data.toList.take c),0):=by
   have e1:(rest.extract 0 c).data.toList=rest.data.toList.take c:=by rw[Ao,cV,bM]
   have e2:(rest.data.toList.take c).length=c:=by rw[au];omega
   unfold nE DG;rw[e1,e2,AGH f c hc];simp
  rw[IT]at zg;have zg:JQ IY w.heap.size DF 0 (pre++DG (UInt8.ofNat f) (rest.data.toList.take c),0):=zg;have AM7:=(((((((hn.trans n4).trans n5).to e6).trans n7).trans n8).to e9).trans n10)
  have OH:(pre++DG (UInt8.ofNat f) (rest.data.toList.take c)).length=pre.length+5+c:=by
   rw[ae,Gp,au];omega
  refine ⟨by omega,by omega,Lt.of ?_⟩;unfold stS at lF;refine Br.eq (fun q=>?_) fun q=>?_
  ·have lQ:f=1/\rest.size<=65535:=by omega
   rw[ak (by omega)]at lF;have ec:c=rest.size:=by omega
   rw[ec,lQ.1,aX (by omega)]at zg;have zg:JQ IY w.heap.size DF 0 (pre++DG 1 rest.data.toList,0):=zg;rw[lF]at zg;refine (Tm zg (by dsimp only;rw[<-lF,ae,Gp];omega)).mono ?_;rintro x PU ⟨rfl,NQ⟩;refine ⟨rfl,?_⟩;refine ((he0.trans AM7.ext (fun _ h=>h) fun j hj hg=>?_)).tr NQ;rcases hg with e|⟨a,ha,_⟩
   ·omega
   ·cases ha
  ·have hf0:f=0/\65535<rest.size:=by omega
   rw[ah (by omega)]at lF;have ec:c=65535:=by omega
   have esz:(rest.extract ((c:Int)).toNat rest.size).size=rest.size-65535:=by rw[cr,aa];omega
   refine ⟨k,by omega,pre++DG (UInt8.ofNat f) (rest.data.toList.take c),DF,k,rfl,by rw[esz];omega,?_,by rw[esz,OH];omega,zg,AM7⟩;rw[<-lF,aa,Bp,ec,hf0.1,ax]
   rfl
 refine ⟨fun f w4=>w4=w3/\∃f':Nat,f=(f':Int)/\((f'=1/\rest.size<=65535)\/(f'=0/\65535<rest.size)),?_,?_⟩
 ·rintro f _ ⟨rfl,f',rfl,hf⟩;exact fact f' hf
 ·rw[jC];refine Lt.of (Br.eq (fun q=>⟨rfl,1,rfl,.inl ⟨rfl,by omega⟩⟩) fun q=>⟨rfl,0,rfl,.inr ⟨rfl,by omega⟩⟩)
end A8
set_option maxHeartbeats 2000000
namespace A8
open Sh DS
theorem yl {AJ:Int}{st:WS}(h:AJ=0\/AJ=1){b:Nat}(hb:b<=1):Jr AJ st (b:Int) 1 1=(0,EW 1 st b,1):=by
 rw[Kt (by
  have:(2:Int)^(1:Int).toNat=2:=by decide
  rw[this];omega)]
 rw[ak (by decide)];show (0,EW 1 st (Gi 1 (b:Int).toNat 1 0),1)=_;have:Gi 1 (b:Int).toNat 1 0=b:=by
  unfold Gi;rw[ak rfl,aa,Nat.pow_zero,Nat.div_one];omega
 rw[this]
theorem kP {lens:List Int}{g:Nat}(h:g<lens.length):(LM lens).getD g 0=Ea lens g:=by
 unfold LM;rw[af,aE,dc h]
 rfl
attribute [local irreducible] Ld St Nw Nn Lt AP
section
variable {w:World} {lo hi tb wb:Nat} {AJ:Int} {ws:AA} {st:WS} {lens:List Int}
theorem ym (ht:TB w lo hi tb lens)(hc:DE lens=0)(hw:JQ w wb ws AJ st)(Uk:FY AJ st)(kQ:AJ=0\/AJ=1)(A1:st.1.length<=200000000000)(Ul:∀j,fp wb ws j->j<lo\/hi<=j)
  {g n:Nat} (hg:g<lens.length) (hn:lens.getD g 0=(n:Int)) (h0:0<n):
  WV (some (⟨tb,0,none⟩:Addr)) (Vd wb) (g:Int) w fun e w1=>e=0/\∃Ki,JQ w1 wb Ki 1 (cw lens st g)/\Wn w w1 wb ws Ki:=by
 refine ASg _ _ _ _ _ ?_;unfold AKw;obtain ⟨s1,s2,s3,h1,h2,h3,h4,h5,h6,h7,h8,h9⟩:=ht;obtain ⟨n1,n15,_,c,hcc,hci,_,Am⟩:=iA hc hg hn h0;have hlen:=(A5 hc).len;have BA:Ei 1 st:=Uk.to (by omega);refine Br.f rfl (Br.f rfl (Br.f (by simp) (Nn.of (Ld.of h1 (o:=0) (x:=s1) rfl ?_))));rw[h2.1];refine Br.f (by simp;omega) (Nn.of (Ld.of h1 (o:=0) (x:=s1) rfl ⟨by omega,by rw[h2.1];omega,?_⟩));obtain ⟨a,ha,Es⟩:=h2.get hg;rw[ha,aa];refine Nn.of (Ld.mk Es ?_);rw[hn];refine Br.f (by simp;omega) ?_;rw[AE (by omega)];have e:cw lens st g=A8.hw st c n n:=by unfold cw;rw[hcc,hn,aa]
 rw[e];refine ⟨fun k Ck w3=>∃i:Nat,i<=n/\k=n-i/\Ck=(n:Int)-1-(i:Int)/\∃Ki,JQ w3 wb Ki (if i=0 then AJ else 1) (A8.hw st c n i)/\Wn w w3 wb ws Ki,n,⟨0,by omega,by omega,by omega,ws,hw,Wn.refl _ _ _⟩,?_⟩;rintro k Ck w3 ⟨i,hi,rfl,rfl,Ki,hb,hwn⟩;unfold qT;have hl:=Zm st c n i;refine Br.dec (fun q=>?_) fun q=>?_
 ·have AgX:i<n:=by omega
  have hB:=hwn.ext.AS h1 fun hf=>by have:=Ul _ hf;omega
  have hV:=h3.AI hwn.ext fun j hj hf=>by have:=Ul _ hf;have:=h8 j hj;omega
  obtain ⟨a2,QM,yX⟩:=hV.get (i:=g) (by unfold LM;simpa using hg);rw[kP hg,<-hci]at yX;refine Nn.of ?_;simp only[add_lit,aj];refine Ld.of hB (o:=1) (x:=s2) rfl ⟨by omega,by rw[hV.1];unfold LM;simp;omega,?_⟩;rw[QM,aa];refine Nn.of (Ld.mk yX ⟨by omega,?_⟩);have e3:((n:Int)-1-(i:Int)).toNat=n-1-i:=by omega
  have AgY:2^n<=2^15:=cq (by decide) n15;rw[e3,bo (by omega),Pk c (n-1-i) (by omega)];have oD:(if i=0 then AJ else 1)=0\/(if i=0 then AJ else 1)=1:=by split<;>omega
  have hinv:FY (if i=0 then AJ else 1) (A8.hw st c n i):=by
   by_cases hi0:i=0
   ·subst hi0;exact Uk
   ·rw[ah hi0];exact ⟨SN BA c n i,fun hh=>by cases hh⟩
  refine (Yf hb hinv (by omega) _ 1).mono ?_;rw[yl oD (Zl _)];rintro r w4 ⟨rfl,ws2,TW,Tk⟩;refine Br.f rfl ⟨n-(i+1),by omega,i+1,by omega,rfl,by rw[AE (by omega)];omega,ws2,?_,hwn.trans Tk⟩;rw[ah (by omega)];exact TW
 ·have:i=n:=by omega
  subst this;rw[ah (by omega)]at hb;exact ⟨rfl,Ki,hb,hwn⟩
end
end A8
set_option maxRecDepth 512
set_option maxHeartbeats 200000
namespace Sh
open Go.WideMaps Go.WideShapes
abbrev QE:Type:=List (ByteArray×Value)
def MpE (E:List MapEntry)(L:QE):Prop:=E.map (fun e=>(e.key,e.val))=L.map fun p=>((.string p.1:Value),p.2)
structure UB (w:World) (b:Nat) (L:QE):Prop where
 AS:∃(E:Array MapEntry) (clock:Nat),w.heap[b]?=some (.map E clock)/\MpE E.toList L
 one:(L.map (·.1)).Nodup
 few:∀p∈L,p.1.size<=maxLen
def FD:QE->ByteArray->Option Value
 |[],_=>none
 |p::L,k=>if p.1=k then some p.2 else FD L k
def KY:QE->ByteArray->Value->QE
 |[],k,v=>[(k,v)]
 |p::L,k,v=>if p.1=k then (k,v)::L else p::KY L k v
theorem Is (L:QE)(k:ByteArray)(v:Value)(j:ByteArray):FD (KY L k v) j=if j=k then some v else FD L j:=by
 induction L with
 |nil=>
  show (if k=j then some v else none)=_;by_cases h:j=k
  ·rw[ak h,ak h.symm]
  ·rw[ah h,ah (fun e=>h e.symm)]
   rfl
 |cons p L ih=>
  unfold KY;by_cases hp:p.1=k
  ·rw[ak hp];show (if k=j then some v else FD L j)=if j=k then some v else (if p.1=j then some p.2 else FD L j)
   by_cases h:j=k
   ·rw[ak h,ak h.symm]
   ·rw[ah h,ah (fun e=>h e.symm),ah (fun e=>h (e.symm.trans hp))]
  ·rw[ah hp];show (if p.1=j then some p.2 else FD (KY L k v) j)=if j=k then some v else (if p.1=j then some p.2 else FD L j)
   by_cases h1:p.1=j
   ·rw[ak h1,ak h1,ah (fun e=>hp (h1.trans e))]
   ·rw[ah h1,ah h1,ih]
theorem kR {L:QE}{k:ByteArray}(h:k∉L.map (·.1)):FD L k=none:=by
 induction L with
 |nil=>rfl
 |cons p L ih=>
  rw[bw]at h;unfold FD;rw[ah (fun e=>h (by rw[e];exact aT ..))];exact ih fun hm=>h (aC _ hm)
section
variable {P:Program} {w:World} {t k e:TypeId} {b:Nat} {L:QE} {z:Value}
theorem UB.AI{F:Nat->Prop}{w':World}(h:UB w b L)(he:Ext F w w')(hb:¬F b):UB w' b L:=by
 obtain ⟨E,c,h1,h2⟩:=h.AS;exact ⟨⟨E,c,by rw[he.block b (aL.1 h1).1 hb];exact h1,h2⟩,h.one,h.few⟩
theorem UB.AB{w':World}(h:UB w b L)(he:Ext (fun _=>False) w w'):UB w' b L:=h.AI he id
theorem UB.lt(h:UB w b L):b<w.heap.size:=by
 obtain ⟨E,c,h1,h2⟩:=h.AS;exact (aL.1 h1).1
theorem UB.new(w:World):UB (w.alloc (.map #[] 0)) w.heap.size []:=⟨⟨#[],0,by show (w.heap.push _)[w.heap.size]?=_;simp,rfl⟩,List.nodup_nil,fun p hp=>by cases hp⟩
theorem Si (L:QE)(k:ByteArray)(v:Value):(k∈L.map (·.1)/\(KY L k v).map (·.1)=L.map (·.1))\/(k∉L.map (·.1)/\KY L k v=L++[(k,v)]):=by
 induction L with
 |nil=>exact .inr ⟨by simp,rfl⟩
 |cons p L ih=>
  unfold KY;by_cases hp:p.1=k
  ·rw[ak hp];exact .inl ⟨by rw[bw,hp];exact aT ..,by rw[bw,bw,hp]⟩
  ·rw[ah hp];rcases ih with ⟨h1,h2⟩|⟨h1,h2⟩
   ·exact .inl ⟨aC _ h1,by rw[bw,bw,h2]⟩
   ·exact .inr ⟨fun h=>by
     rw[bw]at h;rcases aN.1 h with h|h
     ·exact hp h.symm
     ·exact h1 h,by rw[h2];rfl⟩
theorem Qc {L:QE}(h:(L.map (·.1)).Nodup)(k:ByteArray)(v:Value):((KY L k v).map (·.1)).Nodup:=by
 rcases Si L k v with ⟨_,h2⟩|⟨h1,h2⟩
 ·rw[h2];exact h
 ·rw[h2,bh];exact dP.2 ⟨h,by simp,fun a ha c hc e=>h1 (by rw[bw,cK,az]at hc;rw[<-show c=k from hc,<-e];exact ha)⟩
theorem XL {L:QE}{k:ByteArray}{v:Value}(h:∀p∈L,p.1.size<=maxLen)(hk:k.size<=maxLen):∀p∈KY L k v,p.1.size<=maxLen:=by
 induction L with
 |nil=>intro p hp;rw[az.1 hp];exact hk
 |cons q L ih=>
  intro p hp;unfold KY at hp;split at hp
  ·rcases aN.1 hp with rfl|hp
   ·exact hk
   ·exact h p (aC _ hp)
  ·rcases aN.1 hp with rfl|hp
   ·exact h p (aT ..)
   ·exact ih (fun p hp=>h p (aC _ hp)) p hp
theorem at_key {L:QE}(h:(L.map (·.1)).Nodup){j:Nat}{k:ByteArray}{x:Value}(hj:L[j]?=some (k,x)):FD L k=some x/\∀v,KY L k v=L.set j (k,v):=by
 induction L generalizing j with
 |nil=>cases hj
 |cons p L ih=>
  cases j with
  |zero=>
   cases hj;exact ⟨by unfold FD;rw[ak rfl],fun v=>by unfold KY;rw[ak rfl];rfl⟩
  |succ j=>
   have hj:L[j]?=some (k,x):=by simpa using hj
   rw[bw,List.nodup_cons]at h;have A2:¬p.1=k:=fun e=>h.1 (by rw[e];exact cJ.2 ⟨_,aB hj,rfl⟩)
   obtain ⟨h1,h2⟩:=ih h.2 hj;refine ⟨?_,fun v=>?_⟩
   ·unfold FD;rw[ah A2];exact h1
   ·unfold KY;rw[ah A2,h2]
    rfl
theorem MpE.get{E:List MapEntry}(h:MpE E L){i:Nat}{x:MapEntry}(hi:E[i]?=some x):∃p,L[i]?=some p/\x.key= .string p.1/\x.val=p.2:=by
 have h1:(E.map fun e=>(e.key,e.val))[i]?=some (x.key,x.val):=by rw[aE,hi];rfl
 rw[h,aE]at h1;obtain ⟨p,hp,h2⟩:=bg.1 h1;exact ⟨p,hp,(bI Prod.fst h2).symm,(bI Prod.snd h2).symm⟩
theorem MpE.keys{E:List MapEntry}(h:MpE E L)(hk:P.underlying k=some .string)(hs:∀p∈L,p.1.size<=maxLen):∀x∈E,∃l,keyOf P k x.key=some l:=fun x hx=>by
 obtain ⟨i,hi⟩:=cZ hx;obtain ⟨p,hp,h1,_⟩:=h.get hi;exact ⟨_,by rw[h1];exact keyOf_string_mk hk (hs p (aB hp))⟩
theorem iD {E:List MapEntry}(h:MpE E L)(hn:(L.map (·.1)).Nodup)(hk:P.underlying k=some .string)(hs:∀p∈L,p.1.size<=maxLen){key:ByteArray}(SQ:key.size<=maxLen)(w:World):
  ((Instr.findKey k (.string key) E).run P w= .ok none w/\FD L key=none/\key∉L.map (·.1))\/∃j x,(Instr.findKey k (.string key) E).run P w= .ok (some (j,x)) w/\L[j]?=some (key,x)/\(E[j]?).map (·.key)=some (.string key):=by
 rcases (string_law hk).find w (keyOf_string_mk hk SQ) E (h.keys hk hs)with ⟨h1,h2⟩|⟨j,x,h1,h2,h3⟩
 ·have no:key∉L.map (·.1):=fun hm=>by
   obtain ⟨p,hp,e⟩:=cJ.1 hm;obtain ⟨i,hi⟩:=cZ hp;have hl:(E.map fun e=>(e.key,e.val))[i]?=some ((.string p.1:Value),p.2):=by rw[h,aE,hi];rfl
   rw[aE]at hl;obtain ⟨x,hx,h4⟩:=bg.1 hl;refine h2 x (aB hx) ?_;exact (bI Prod.fst h4).trans (by rw[e])
  exact .inl ⟨h1,kR no,no⟩
 ·obtain ⟨p,hp,h4,h5⟩:=h.get h2;have YF:p.1=key:=by
   rw[h3]at h4;exact (Value.string.inj h4).symm
  exact .inr ⟨j,x.val,h1,by rw[hp,h5,<-YF],by rw[h2];exact bI some h3⟩
theorem UB.look(h:UB w b L)(ht:P.underlying t=some (.map k e))(hk:P.underlying k=some .string)(hz:(zeroValue e).run P w= .ok z w){key:ByteArray}(SQ:key.size<=maxLen):
  BW P (Instr.lookup t (.map (some b)) (.string key) false) w ((FD L key).getD z) w:=by
 obtain ⟨E,c,hb,hE⟩:=h.AS;have M4:=keyOf_string_mk hk SQ;have hch:=(string_law hk).check w E.isEmpty M4;rcases iD hE h.one hk h.few SQ w with ⟨h1,h2,_⟩|⟨j,x,h1,h2,_⟩
 ·rw[h2];simp[BW,Instr.lookup,run_underlying ht,MapKept.run_getObj_map hb,hch,h1,hz,Result.andThen]
 ·rw[(at_key h.one h2).1];simp[BW,Instr.lookup,run_underlying ht,MapKept.run_getObj_map hb,hch,h1,Result.andThen]
theorem UB.put(h:UB w b L)(ht:P.underlying t=some (.map k e))(hk:P.underlying k=some .string){key:ByteArray}(SQ:key.size<=maxLen)(v:Value):
  ∃w',sK P (Instr.mapUpdate t (.map (some b)) (.string key) v) w w'/\UB w' b (KY L key v)/\Ext (·=b) w w':=by
 obtain ⟨E,c,hb,hE⟩:=h.AS;have M4:=keyOf_string_mk hk SQ;have hch:=(string_law hk).check w false M4;have ext:∀o:Obj,Ext (·=b) w {w with heap:=w.heap.setIfInBounds b o}:=fun o=>⟨rfl,rfl,rfl,by simp,fun i hi hn=>by
  show (w.heap.setIfInBounds b o)[i]?=_;rw[Array.getElem?_setIfInBounds_ne (fun e=>hn e.symm)]⟩
 have here:∀o:Obj,({w with heap:=w.heap.setIfInBounds b o}:World).heap[b]?=some o:=fun o=>by
  show (w.heap.setIfInBounds b o)[b]?=_;rw[Array.getElem?_setIfInBounds_self_of_lt (aL.1 hb).1]
 rcases iD hE h.one hk h.few SQ w with ⟨h1,h2,h3⟩|⟨j,x,h1,h2,h3⟩
 ·refine ⟨{w with heap:=w.heap.setIfInBounds b (.map (E.push {key:= .string key,val:=v,born:=c}) (c+1))},?_,⟨⟨_,_,here _,?_⟩,Qc h.one _ _,XL h.few SQ⟩,ext _⟩
  ·simp[sK,Instr.mapUpdate,run_underlying ht,MapKept.run_getObj_map hb,hch,h1,Result.andThen,MapKept.run_setObj_map _ hb]
  ·rcases Si L key v with ⟨h4,_⟩|⟨_,h4⟩
   ·exact absurd h4 h3
   ·rw[h4];unfold MpE at hE⊢;rw[Array.toList_push,bh,hE,bh]
    rfl
 ·obtain ⟨y,hy,hy2⟩:=bg.1 h3;have hyE:E[j]?=some y:=by simpa using hy
  refine ⟨{w with heap:=w.heap.setIfInBounds b (.map (E.modify j fun e=>{e with key:= .string key,val:=v}) c)},?_,⟨⟨_,_,here _,?_⟩,Qc h.one _ _,XL h.few SQ⟩,ext _⟩
  ·simp[sK,Instr.mapUpdate,run_underlying ht,MapKept.run_getObj_map hb,hch,h1,Result.andThen,MapKept.run_setObj_map _ hb,hyE,hy2,(string_law hk).stays w M4]
  ·rw[(at_key h.one h2).2];unfold MpE at hE⊢;have hEi:∀i,(E.toList[i]?).map (fun e:MapEntry=>(e.key,e.val))=(L[i]?).map (fun p:ByteArray×Value=>((.string p.1:Value),p.2)):=fun i=>by rw[<-aE,hE,aE]
   rw[Array.toList_modify];apply db;intro i;have hL:j<L.length:=(ao.1 h2).1;rw[aE,aE,List.getElem?_modify,cD];by_cases MG:j=i
   ·subst MG;rw[ak rfl,ak hL,hy];simp
   ·rw[ah MG,<-hEi i];simp[MG]
end
end Sh
set_option maxRecDepth 4000
set_option maxHeartbeats 1000000
namespace A8
open Sh DS
attribute [local irreducible] Ld St Nw Nn Lt AP
theorem Ol {S:ByteArray}{a b m:Nat}(mB:a<=b)(hb:b+m<=S.size)(hs:S.size<=2000000)(w:World):ADu S (a:Int) (b:Int) (m:Int) w fun r w1=>r=((B0 S.data.toList a b 0 m:Nat):Int)/\Ext (fun _=>False) w w1:=by
 refine ARD _ _ _ _ _ _ ?_;unfold AJw;refine ⟨fun k st w3=>∃n:Nat,st=(n:Int)/\n<=m/\k=m-n/\B0 S.data.toList a b n (m-n)=B0 S.data.toList a b 0 m/\Ext (fun _=>False) w w3,m,⟨0,rfl,by omega,rfl,rfl,Ext.refl _ _⟩,?_⟩;rintro k st w3 ⟨n,rfl,hn,rfl,ha,he⟩;unfold pS;refine Br.dec (fun q=>?_) fun q=>?_
 ·rw[AE (n:=(a:Int)+(n:Int)) (by omega),AE (n:=(b:Int)+(n:Int)) (by omega),show (a:Int)+(n:Int)=((a+n:Nat):Int) by omega,show (b:Int)+(n:Int)=((b+n:Nat):Int) by omega,DX,DX];rw[show m-n=(m-(n+1))+1 by omega,Vk]at ha;refine ⟨by omega,by omega,by omega,by omega,Br.eq (fun h1=>?_) fun h1=>?_⟩
  ·rw[ak (UInt8.toNat_inj.1 (by omega))]at ha;exact ⟨m-(n+1),by omega,n+1,by rw[AE (by omega)];rfl,by omega,rfl,ha,he.drew⟩
  ·rw[ah (fun e=>h1 (by rw[e]))]at ha;exact ⟨by rw[ha],he.drew⟩
 ·have:n=m:=by omega
  subst this;rw[cl]at ha;exact ⟨by rw[<-ha];rfl,he.drew⟩
def Ht (s:List UInt8)(p:Nat)(key:List UInt8):List Nat:=(List.range p).filter fun q=>(s.drop q).take 3=key/\q+3<=s.length
theorem Jq (s:List UInt8)(p:Nat)(key:List UInt8):Ht s (p+1) key=if (s.drop p).take 3=key/\p+3<=s.length then Ht s p key++[p]else Ht s p key:=by
 unfold Ht;rw[ej,List.filter_append];split
 ·rename_i h
  congr 1
  simp[h]
 ·rename_i h;rw[show List.filter (fun q=>decide ((s.drop q).take 3=key/\q+3<=s.length)) [p]=[] by simp only[List.filter_cons,List.filter_nil,h,decide_false];rfl,aM]
theorem RU (s:List UInt8){p:Nat}(hp:s.length<p+3)(key:List UInt8):∀d,Ht s (p+d) key=Ht s p key
 |0=>rfl
 |d+1=>by
  rw[<-cC,Jq,ah (by omega),RU s hp key d]
theorem X0 {s:List UInt8}{p q:Nat}{key:List UInt8}:q∈Ht s p key↔q<p/\(s.drop q).take 3=key/\q+3<=s.length:=by
 unfold Ht;rw[dK,dF,cH]
theorem lG (s:List UInt8)(p:Nat)(key:List UInt8):(Ht s p key).Pairwise (·<·):=List.Pairwise.filter _ List.pairwise_lt_range
theorem X3 (s:List UInt8)(p:Nat)(key:List UInt8):(Ht s p key).length<=p:=by
 unfold Ht;have:=List.length_filter_le (fun q=>decide ((s.drop q).take 3=key/\q+3<=s.length)) (List.range p);rw[dQ]at this;exact this
theorem X4 {s:List UInt8}{p F:Nat}:∀d,(∀k,F<k->k<=F+d->Ej s p k<3)->Kg (Cl s p (F+d))=Kg (Cl s p F)
 |0,_=>rfl
 |d+1,h=>by
  rw[<-cC,wZ (h (F+d+1) (by omega) (by omega))];exact X4 d fun k h1 h2=>h k h1 (by omega)
theorem uT {s:List UInt8}{p k:Nat}(h3:p+3<=s.length)(h1:1<=k)(hk:k<=p):3<=Ej s p k↔p-k∈Ht s p ((s.drop p).take 3):=by
 rw[AIi h3 hk,X0];exact ⟨fun h=>⟨by omega,h,by omega⟩,fun h=>h.2.1⟩
structure Of (w:World) (mb:Nat) (L:QE) (s:List UInt8) (p:Nat):Prop where
 map:UB w mb L
 val:∀k v,FD L k=some v->∃sl,v=AA.v sl/\Row w sl 3 1 (ints (HA (Ht s p k.data.toList)))/\¬sl.own mb
 no:∀k,FD L k=none->Ht s p k.data.toList=[]
 sep:∀k k' sl Bi,FD L k=some (AA.v sl)->FD L k'=some (AA.v Bi)->k≠k'->∀j,sl.own j->¬Bi.own j
def FJ (mb:Nat)(L:QE)(j:Nat):Prop:=j=mb\/∃k sl,FD L k=some (AA.v sl)/\sl.own j
section
variable {w:World} {mb:Nat} {L:QE} {s:List UInt8} {p:Nat}
theorem Of.AI{F:Nat->Prop}{w':World}(h:Of w mb L s p)(he:Ext F w w')(hF:∀j,FJ mb L j->¬F j):Of w' mb L s p:=
 ⟨h.map.AI he (hF mb (.inl rfl)),fun k v hk=>by
  obtain ⟨sl,h1,h2,h3⟩:=h.val k v hk;exact ⟨sl,h1,h2.AB he fun j hj=>hF j (.inr ⟨k,sl,by rw[hk,h1],hj⟩),h3⟩,h.no,h.sep⟩
theorem Of.AB{w':World}(h:Of w mb L s p)(he:Ext (fun _=>False) w w'):Of w' mb L s p:=h.AI he fun _ _ h=>h
theorem Of.lt(h:Of w mb L s p){j:Nat}(hj:FJ mb L j):j<w.heap.size:=by
 rcases hj with rfl|⟨k,sl,hk,hj⟩
 ·exact h.map.lt
 ·obtain ⟨Bi,h1,h2,_⟩:=h.val k _ hk;rw[AA.gR]at h1;subst h1;exact h2.own_lt hj
theorem ABx:prog.underlying 191=some (.map 9 196):=by kernel_rfl
theorem AGI (w:World):(zeroValue 196).run prog w= .ok (AA.v ⟨none,0,0⟩) w:=by
 have h:(prog.info? 196).bind (·.zero)=some (AA.v ⟨none,0,0⟩):=by kernel_rfl
 cases hi:prog.info? 196 with
 |none=>rw[hi]at h;cases h
 |some i=>
  rw[hi]at h;have hz:i.zero=some (AA.v ⟨none,0,0⟩):=h;simp[zeroValue,typeInfo,hi,hz]
theorem Of.look(h:Of w mb L s p){key:ByteArray}(hk:key.size<=maxLen):∃sl,BW prog (Instr.lookup 191 (.map (some mb)) (.string key) false) w (AA.v sl) w/\Row w sl 3 1 (ints (HA (Ht s p key.data.toList)))/\(∀j,sl.own j->FJ mb L j/\j≠mb)/\
  ∀k' Bi,FD L k'=some (AA.v Bi)->k'≠key->∀j,sl.own j->¬Bi.own j:=by
 have hr:=h.map.look ABx Cb (AGI w) hk;cases hg:FD L key with
 |none=>
  rw[hg]at hr;refine ⟨⟨none,0,0⟩,hr,?_,fun j hj=>?_,fun k' Bi _ _ j hj=>?_⟩
  ·rw[h.no key hg];exact Row.nil w _ _
  ·obtain ⟨a,ha,_⟩:=hj;cases ha
  ·obtain ⟨a,ha,_⟩:=hj;cases ha
 |some v=>
  rw[hg]at hr;obtain ⟨sl,rfl,h2,h3⟩:=h.val key v hg;exact ⟨sl,hr,h2,fun j hj=>⟨.inr ⟨key,sl,hg,hj⟩,fun e=>h3 (by rw[<-e];exact hj)⟩,fun k' Bi ME A2 j hj=>h.sep key k' sl Bi hg ME (fun e=>A2 e.symm) j hj⟩
end
section
variable {w:World} {mb:Nat} {L:QE} {S:ByteArray} {p:Nat}
theorem ke (h:Of w mb L S.data.toList p)(hp:p<S.size)(hs:S.size<=1048576):
  ADv (some mb) S (p:Int) w fun r w1=>r=(0,(((Kg (Cl S.data.toList p (Bc p))).1:Nat):Int),(((Kg (Cl S.data.toList p (Bc p))).2:Nat):Int))/\Ext (fun _=>False) w w1:=by
 have A1:S.data.toList.length=S.size:=(Ah S).symm;refine ARH _ _ _ _ _ ?_;unfold AJx;refine (Hn.start w).nw fun w4 H=>?_
 simp only[ag]at H;refine H.nw fun w5 H=>?_
 simp only[ar,ag]at H;rw[AE (n:=(p:Int)+3) (by omega)];refine Br.dec (fun q=>?_) fun q=>?_
 ·iterate 3 refine H.ld 1 rfl rfl ?_
  iterate 3 (refine H.st 0 rfl (by simp) fun _ H=>?_;simp only[ag,ar,ai,aq,aj]at H)
  iterate 3 refine H.ld 0 rfl rfl ?_
  have:Kg (Cl S.data.toList p (Bc p))=(0,0):=by
   have:=Ps S.data.toList p (Bc p);unfold CB at this;unfold Kg;rw[ak (by omega)]
  rw[this];exact ⟨rfl,H.ext⟩
 ·have h3:p+3<=S.data.toList.length:=by omega
  have hmk:CB S.data.toList p=min 258 (S.size-p):=by unfold CB;rw[A1]
  have rh:(if wrap .i64 (((S.size:Nat):Int)-(p:Int))<258 then wrap .i64 (((S.size:Nat):Int)-(p:Int))else 258)=((CB S.data.toList p:Nat):Int):=by
   rw[hmk,AE (by omega)];split<;>omega
  rw[rh];refine Lt.of ?_;have hT:=h.AB H.ext;have e3:((p:Int)+3).toNat=p+3:=by omega
  rw[e3,aa];have M4:(S.extract p (p+3)).data.toList=(S.data.toList.drop p).take 3:=by rw[Ao];congr 1;omega
  obtain ⟨sl,Ag,AV,Ar,_⟩:=hT.look (key:=S.extract p (p+3)) (by rw[cr];unfold maxLen;omega);rw[M4]at AV;refine ⟨by omega,by omega,by omega,by omega,sl,_,Ag,?_⟩;clear Ag;have vX:=IV.row AV;have uU:=lG S.data.toList p ((S.data.toList.drop p).take 3);have DV:=fun k=>uT (s:=S.data.toList) (p:=p) (k:=k) h3
  have Am:∀q,q∈Ht S.data.toList p ((S.data.toList.drop p).take 3)->q<p:=fun q hq=>(X0.1 hq).1
  have hlen:=X3 S.data.toList p ((S.data.toList.drop p).take 3);generalize Ht S.data.toList p ((S.data.toList.drop p).take 3)=PS at vX uU DV Am hlen;have Ga:sl.len=PS.length:=by rw[vX.1,Ch]
  dsimp only;rw[Ga]
 
  have skip:∀F G A B,PS=A++B->F<=G->G<=p->(∀q∈A,G<p-q)->(∀q∈B,p-q<=F)->Kg (Cl S.data.toList p G)=Kg (Cl S.data.toList p F):=fun F G A B vY hFG hGp hA hB=>by
   have:=X4 (s:=S.data.toList) (p:=p) (F:=F) (G-F) fun k k1 k2=>by
    rcases bX (Ej S.data.toList p k) 3 with h|h
    ·exact h
    ·have:=(DV k (by omega) (by omega)).1 h;rw[vY]at this;rcases aQ.1 this with h|h
     ·have:=hA _ h;omega
     ·have:=hB _ h;omega
   rw[show F+(G-F)=G by omega]at this;exact this
  refine ⟨fun m st w9=>∃(A B:List Nat) (F:Nat),PS=A++B/\st=(A.length:Int)-1/\m=A.length/\(∀q∈A,F<p-q)/\(∀q∈B,p-q<=F)/\F<=Bc p/\
   Hn w w9 [(w.heap.size,BY (0,0,0),193),(w4.heap.size,BY (0,((Kg (Cl S.data.toList p F)).1:Int),((Kg (Cl S.data.toList p F)).2:Int)),193)]/\IV w9 sl (HA PS),PS.length,
   ⟨PS,[],0,by simp,by rw[AE (by omega)],rfl,fun q hq=>by have:=Am q hq;omega,(fun q hq=>by cases hq),bz _,H,vX⟩,?_⟩
  rintro m st w9 ⟨A,B,F,vY,rfl,rfl,hA,hB,hF,H,vX⟩;unfold pT BY at*;have hfk:Bc p=min p 32768:=rfl;have fin:∀F',Kg (Cl S.data.toList p (Bc p))=Kg (Cl S.data.toList p F')->F'=F->∀w9,Hn w w9 [(w.heap.size,BY (0,0,0),193),(w4.heap.size,BY (0,((Kg (Cl S.data.toList p F)).1:Int),((Kg (Cl S.data.toList p F)).2:Int)),193)]->Ld w9 (⟨w4.heap.size,0,none⟩:Addr) (Value.int .u8) fun (jq:Int)=>
    Ld w9 ((⟨w4.heap.size,0,none⟩:Addr).add 1) (Value.int .i64) fun (ZG:Int)=>
    Ld w9 ((⟨w4.heap.size,0,none⟩:Addr).add 2) (Value.int .i64) fun (ZH:Int)=>
    St w9 (⟨w.heap.size,0,none⟩:Addr) (.int .u8 jq) fun AC7=>
    St AC7 ((⟨w.heap.size,0,none⟩:Addr).add 1) (.int .i64 ZG) fun nq=>
    St nq ((⟨w.heap.size,0,none⟩:Addr).add 2) (.int .i64 ZH) fun zh=>
    Ld zh (⟨w.heap.size,0,none⟩:Addr) (Value.int .u8) fun (Ys:Int)=>
    Ld zh ((⟨w.heap.size,0,none⟩:Addr).add 1) (Value.int .i64) fun (x68:Int)=>
    Ld zh ((⟨w.heap.size,0,none⟩:Addr).add 2) (Value.int .i64) fun (xe:Int)=>
    (((Ys,x68,xe):Int×Int×Int)=(0,(((Kg (Cl S.data.toList p (Bc p))).1:Nat):Int),(((Kg (Cl S.data.toList p (Bc p))).2:Nat):Int))/\Ext (fun _=>False) w zh):=fun F' hF' e w9 H=>by
   subst e;unfold BY at H
   iterate 3 refine H.ld 1 rfl rfl ?_
   iterate 3 (refine H.st 0 rfl (by simp) fun _ H=>?_;simp only[ag,ar,ai,aq,aj]at H)
   iterate 3 refine H.ld 0 rfl rfl ?_
   rw[hF'];exact ⟨rfl,H.ext⟩
  refine Br.dec (fun q1=>?_) fun q1=>?_
  ·obtain ⟨A',qq,rfl⟩:∃A' qq,A=A'++[qq]:=by
    rcases List.eq_nil_or_concat A with h|⟨A',qq,h⟩
    ·subst h;simp at q1
    ·exact ⟨A',qq,by rw[h,List.concat_eq_append]⟩
   have hAl:(((A'++[qq]).length:Nat):Int)-1=(A'.length:Int):=by rw[ae];simp
   rw[hAl];have hPl:A'.length<PS.length:=by rw[vY];simp
   have hqm:qq∈PS:=by rw[vY];simp
   have hqp:=Am qq hqm;have sJ:((HA PS).getD A'.length 0)=(qq:Int):=by
    rw[QX,af,vY,ax,aF (av _),cl]
    rfl
   obtain ⟨a,ha,hc⟩:=vX.get (i:=A'.length) (by rw[Ch];exact hPl);rw[sJ]at hc;rw[ha];refine ⟨by omega,by omega,Nn.of ?_⟩;rw[aa];refine Ld.mk (x:=(qq:Int)) hc ?_;have hFq:=hA qq (by simp);have hA':∀q∈A',p-qq<p-q:=fun q hq=>by
    rw[vY,ax]at uU;have:=(bT.1 uU).2.2 q hq qq (by simp);omega
   rw[AE (n:=(p:Int)-(qq:Int)) (by omega)];refine Br.dec (fun q2=>?_) fun q2=>?_
   ·iterate 1 refine H.ld 1 rfl rfl ?_
    refine Br.dec (fun q3=>?_) fun q3=>?_
    ·refine ⟨by omega,by omega,Nn.of ?_⟩;refine Ld.mk (x:=(qq:Int)) hc ?_;refine (Ol (S:=S) (a:=qq) (b:=p) (m:=CB S.data.toList p) (by omega) (by omega) (by omega) w9).mono ?_;rintro r w36 ⟨rfl,he⟩;have H:=H.AB he;have vX:=vX.AB he;have hcc:=he.Bn hc
     iterate 1 refine H.ld 1 rfl rfl ?_
     have eM:B0 S.data.toList qq p 0 (CB S.data.toList p)=Ej S.data.toList p (p-qq):=by
      unfold Ej;rw[show p-(p-qq)=qq by omega]
     rw[eM];have m3:3<=Ej S.data.toList p (p-qq):=(DV (p-qq) (by omega) (by omega)).2 (by rw[show p-(p-qq)=qq by omega];exact hqm);have sk:=skip F (p-qq-1) (A'++[qq]) B vY (by omega) (by omega) (fun q hq=>by
      rcases aQ.1 hq with h|h
      ·have:=hA' q h;omega
      ·rw[az.1 h];omega) hB
     have th:=nO (s:=S.data.toList) (p:=p) (F:=p-qq-1) (by rw[show p-qq-1+1=p-qq by omega];exact m3);rw[show p-qq-1+1=p-qq by omega,sk]at th;have YS:∀q∈qq::B,p-q<=p-qq:=fun q hq=>by
      rcases aN.1 hq with rfl|hq
      ·exact av _
      ·have:=hB q hq;omega
     have AM8:PS=A'++(qq::B):=by rw[vY,ax];rfl
     dsimp only;refine Br.dec (fun q4=>?_) fun q4=>?_
     ·refine ⟨by omega,by omega,Nn.of ?_⟩;refine Ld.mk (x:=(qq:Int)) hcc ?_;rw[AE (n:=(p:Int)-(qq:Int)) (by omega)];rw[ak (by omega)]at th;have Ahv:=vX;have AcJ:=H.size;refine H.EV 1 rfl (by simp) fun w40 H e40=>?_
      simp only[ai,aq]at H;refine H.EV 1 rfl (by simp) fun w41 H e41=>?_
      simp only[ai,aq]at H;refine H.EV 1 rfl (by simp) fun w42 H e42=>?_
      simp only[ai,aq]at H;have uw:∀j,sl.own j->¬j=w4.heap.size:=fun j hj=>by
       have h1:=h.lt (Ar j hj).1;have h2:=H.ge 1 rfl;omega
      refine ⟨A'.length,by simp,A',qq::B,p-qq,AM8,by rw[AE (by omega)],rfl,hA',YS,by omega,?_,((vX.AI e40 uw).AI e41 uw).AI e42 uw⟩;rw[th];dsimp only;rw[show (p:Int)-(qq:Int)=((p-qq:Nat):Int) by omega]at H;exact H
     ·rw[ah (by omega)]at th;exact ⟨A'.length,by simp,A',qq::B,p-qq,AM8,by rw[AE (by omega)],rfl,hA',YS,by omega,by rw[th];exact H,vX⟩
    ·refine fin F ?_ rfl w9 H;have hm3:3<=CB S.data.toList p:=by omega
     have hle:=Ps S.data.toList p F;have hq3:¬((Kg (Cl S.data.toList p F)).1:Int)<(CB S.data.toList p:Int):=q3;have heq:(Cl S.data.toList p F).1=CB S.data.toList p:=by
      unfold Kg at hq3;split at hq3
      ·exact absurd hq3 (by show ¬¬((0:Nat):Int)<_;omega)
      ·omega
     have:=fW heq (Bc p-F);rw[show F+(Bc p-F)=Bc p by omega]at this;rw[this]
   ·refine fin F (skip F (Bc p) (A'++[qq]) B vY hF (by omega) (fun q hq=>?_) hB) rfl w9 H;rcases aQ.1 hq with h|h
    ·have:=hA' q h;omega
    ·rw[az.1 h];omega
  ·have:A=[]:=by
    cases A with
    |nil=>rfl
    |cons a A=>simp at q1
   subst this;exact fin F (skip F (Bc p) [] B vY hF (by omega) (fun q hq=>by cases hq) hB) rfl w9 H
end
end A8
namespace A8
open Sh DS
attribute [local irreducible] Ld St Nw Nn Lt AP
section
variable {w:World} {mb:Nat} {L:QE} {s:List UInt8} {p q:Nat}
theorem Of.stay(h:Of w mb L s q)(hq:s.length<q+3)(d:Nat):Of w mb L s (q+d):=
 ⟨h.map,fun k v hk=>by rw[RU s hq];exact h.val k v hk,fun k hk=>by rw[RU s hq];exact h.no k hk,h.sep⟩
theorem Of.push(h:Of w mb L s q)(hs:s.length<=1048576)(hq:q+3<=s.length){key:ByteArray}(M4:key.data.toList=(s.drop q).take 3)(SQ:key.size<=maxLen){sl:AA}(AV:Row w sl 3 1 (ints (HA (Ht s q key.data.toList))))(Ar:∀j,sl.own j->FJ mb L j/\j≠mb)
  (Ul:∀k' Bi,FD L k'=some (AA.v Bi)->k'≠key->∀j,sl.own j->¬Bi.own j) {g:Nat} (hg:AO w g #[.int .i64 (q:Int)] 3):
  ∃Bi wc,BW prog (Builtin.append_ #[196,196] 196 #[AA.v sl,AA.v ⟨some ⟨g,0,none⟩,1,1⟩]) w (AA.v Bi) wc/\∃wd,sK prog (Instr.mapUpdate 191 (.map (some mb)) (.string key) (AA.v Bi)) wc wd/\
   ∃L',Of wd mb L' s (q+1)/\Ext (FJ mb L) w wd/\∀j,FJ mb L' j->FJ mb L j\/w.heap.size<=j:=by
 have OH:=X3 s q key.data.toList;have Ga:sl.len=(Ht s q key.data.toList).length:=by rw[(IV.row AV).1,Ch]
 obtain ⟨Bi,wc,Ag,AM9,AMH,D8,Jw⟩:=YO.Ip (ty:=196) (ys:=[.int .i64 (q:Int)]) AV hg rfl (fun v hv=>by rw[az.1 hv];rfl) (by omega) (by omega);have hmb:=h.map.lt;have AYc:=h.map.AI D8 fun hj=>(Ar mb hj).2 rfl
 obtain ⟨wd,ADE,ANA,uW⟩:=AYc.put ABx Cb SQ (AA.v Bi);have Cw:∀j,Bi.own j->j≠mb:=fun j hj=>by
  rcases Jw j hj with e|e
  ·exact (Ar j e).2
  ·omega
 refine ⟨Bi,wc,Ag,wd,ADE,KY L key (AA.v Bi),⟨ANA,fun k v hk=>?_,fun k hk=>?_,fun k k' s1 s2 h1 h2 A2 j hj Jx=>?_⟩,?_,fun j hj=>?_⟩
 ·rw[Is]at hk;by_cases uX:k=key
  ·rw[ak uX]at hk;cases hk;subst uX;refine ⟨Bi,rfl,?_,fun hj=>Cw mb hj rfl⟩;rw[Jq,ak ⟨M4.symm,hq⟩,LN,EZ];exact AM9.AB uW fun j hj=>Cw j hj
  ·rw[ah uX]at hk;obtain ⟨s1,h1,h2,h3⟩:=h.val k v hk;subst h1;refine ⟨s1,rfl,?_,h3⟩;rw[Jq,ah (fun e=>uX (FW (by rw[M4];exact e.1.symm)))];exact (h2.AB D8 fun j hj Jx=>Ul k s1 hk uX j Jx hj).AB uW fun j hj e=>h3 (by rw[<-e];exact hj)
 ·rw[Is]at hk;by_cases uX:k=key
  ·rw[ak uX]at hk;cases hk
  ·rw[ah uX]at hk;rw[Jq,ah (fun e=>uX (FW (by rw[M4];exact e.1.symm)))];exact h.no k hk
 ·rw[Is]at h1 h2;have old:∀k s1,FD L k=some (AA.v s1)->k≠key->∀j,Bi.own j->¬s1.own j:=fun k s1 hk uX j hj Jx=>by
   rcases Jw j hj with e|e
   ·exact Ul k s1 hk uX j e Jx
   ·have:=h.lt (.inr ⟨k,s1,hk,Jx⟩);omega
  by_cases e1:k=key
  ·rw[ak e1]at h1;have e2:k'≠key:=fun e2=>A2 (e1.trans e2.symm)
   rw[ah e2]at h2;have h1:=AA.gR _ _|>.1 (aY h1)
   subst h1;exact old k' s2 h2 e2 j hj Jx
  ·rw[ah e1]at h1;by_cases e2:k'=key
   ·rw[ak e2]at h2;have h2:=AA.gR _ _|>.1 (aY h2)
    subst h2;exact old k s1 h1 e1 j Jx hj
   ·rw[ah e2]at h2;exact h.sep k k' s1 s2 h1 h2 A2 j hj Jx
 ·refine (D8.mono fun j _ hj=>(Ar j hj).1).trans uW (fun _ h=>h) fun j _ e=> .inl e
 ·rcases hj with rfl|⟨k,s1,hk,hj⟩
  ·exact .inl (.inl rfl)
  ·rw[Is]at hk;by_cases e1:k=key
   ·rw[ak e1]at hk;have hk:=AA.gR _ _|>.1 (aY hk)
    subst hk;exact (Jw j hj).imp (fun e=>(Ar j e).1) id
   ·rw[ah e1]at hk;exact .inl (.inr ⟨k,s1,hk,hj⟩)
end
theorem AFr {w:World}{mb:Nat}{L:QE}{S:ByteArray}{p t:Nat}(h:Of w mb L S.data.toList p)(hpt:p<=t)(ht:t<=S.size)(hs:S.size<=1048576):
  pR (some mb) S (p:Int) (t:Int) w fun w1=>∃L',Of w1 mb L' S.data.toList t/\Ext (FJ mb L) w w1/\∀j,FJ mb L' j->FJ mb L j\/w.heap.size<=j:=by
 have A1:S.data.toList.length=S.size:=(Ah S).symm;refine ARI _ _ _ _ _ _ ?_;unfold AJy;refine ⟨fun m st w3=>∃(q:Nat) (L':QE),st=(q:Int)/\p<=q/\q<=t/\m=t-q/\Of w3 mb L' S.data.toList q/\Ext (FJ mb L) w w3/\∀j,FJ mb L' j->FJ mb L j\/w.heap.size<=j,t-p,⟨p,L,rfl,by omega,hpt,rfl,h,Ext.refl _ _,fun j hj=> .inl hj⟩,?_⟩;rintro m st w3 ⟨q,L',rfl,hq1,hq2,rfl,hT,he,ho⟩;unfold pU;refine Br.dec (fun h1=>?_) fun h1=>?_
 ·rw[AE (n:=(q:Int)+3) (by omega)];refine Br.dec (fun h2=>?_) fun h2=>?_
  ·have e3:((q:Int)+3).toNat=q+3:=by omega
   rw[e3,aa];have M4:(S.extract q (q+3)).data.toList=(S.data.toList.drop q).take 3:=by rw[Ao];congr 1;omega
   have SQ:(S.extract q (q+3)).size<=maxLen:=by rw[cr];unfold maxLen;omega
   have hTd:=hT.AB (w':=w3.drew) (Ext.refl _ _).drew;have next:∀wb wd L2,Ext (fun _=>False) w3 wb->Of wd mb L2 S.data.toList (q+1)->Ext (FJ mb L') wb wd->(∀j,FJ mb L2 j->FJ mb L' j\/wb.heap.size<=j)->∃n',n'<t-q/\∃(q_1:Nat) (L_1:QE),wrap .i64 ((q:Int)+1)=(q_1:Int)/\p<=q_1/\q_1<=t/\n'=t-q_1/\Of wd mb L_1 S.data.toList q_1/\Ext (FJ mb L) w wd/\∀j,FJ mb L_1 j->FJ mb L j\/w.heap.size<=j:=fun wb wd L2 e1 t1 e2 o2=>by
    have z1:=he.size;have z2:=e1.size;refine ⟨t-(q+1),by omega,q+1,L2,by rw[AE (by omega)];rfl,by omega,by omega,rfl,t1,?_,fun j hj=>?_⟩
    ·refine (he.trans e1 (fun _ h=>h) fun _ _ h=>h.elim).trans e2 (fun _ h=>h) fun j hj e=>?_
     rcases ho j e with e|e
     ·exact e
     ·omega
    ·rcases o2 j hj with e|e
     ·exact ho j e
     ·exact .inr (by omega)
   refine ⟨by omega,by omega,by omega,by omega,by omega,by omega,by omega,by omega,?_,?_⟩
   ·obtain ⟨sl,Ag,AV,Ar,Ul⟩:=hTd.look SQ;refine ⟨sl,_,Ag,Nw.of ?_⟩;have e1:=(Ext.refl (fun _=>False) w3.drew).alloc (.cells #[.int .i64 (q:Int)] 3);obtain ⟨Bi,wc,r1,wd,r2,L2,t1,e2,o2⟩:=(hTd.AB e1).push (by omega) (by omega) M4 SQ (AV.AB e1 fun _ _ h=>h) Ar Ul (AO.new w3.drew _ _);exact ⟨Bi,wc,r1,wd,r2,next _ wd L2 ((Ext.refl _ _).drew.tr e1) t1 e2 o2⟩
   ·refine Nw.of ?_;have e1:=(Ext.refl (fun _=>False) w3.drew).alloc (.cells #[.int .i64 (q:Int)] 3);obtain ⟨sl,Ag,AV,Ar,Ul⟩:=(hTd.AB e1).look SQ;refine ⟨sl,_,Ag,?_⟩;obtain ⟨Bi,wc,r1,wd,r2,L2,t1,e2,o2⟩:=(hTd.AB e1).push (by omega) (by omega) M4 SQ AV Ar Ul (AO.new w3.drew _ _);exact ⟨Bi,wc,r1,wd,r2,next _ wd L2 ((Ext.refl _ _).drew.tr e1) t1 e2 o2⟩
  ·have:=hT.stay (by omega) (t-q);rw[show q+(t-q)=t by omega]at this;exact ⟨L',this,he,ho⟩
 ·have:q=t:=by omega
  subst this;exact ⟨L',hT,he,ho⟩
end A8
namespace A8
open Sh DS
attribute [local irreducible] Ld St Nw Nn Lt AP
theorem ABm {TS T:TypeId}{z:Value}(hel:El prog TS T 3 24 z){w:World}{sl:AA}{D:List Qr}(hr:Row w sl T 3 (D.flatMap BY))(hl:D.length<=2000000)(q:Qr){K:AA->World->Prop}
  (k:∀s' w',Row w' s' T 3 ((D++[q]).flatMap BY)->Ext sl.own w w'->(∀j,s'.own j->sl.own j\/w.heap.size<=j)->K s' w'):
  Nw w (.cells #[.int .u8 q.1,.int .i64 q.2.1,.int .i64 q.2.2] T) fun v=>Rn prog (Builtin.append_ #[TS,TS] TS #[AA.v sl,AA.v ((⟨some ⟨w.heap.size,0,none⟩,1,1⟩:AA))]) v AA.v K:=by
 refine Nw.of ?_;have e1:=(Ext.refl (fun _=>False) w).alloc (.cells #[.int .u8 q.1,.int .i64 q.2.1,.int .i64 q.2.2] T);have Ga:sl.len=D.length:=by
  have:=hr.1;rw[ABn]at this;omega
 obtain ⟨s',w',Ag,AV,hlen,D8,Ar⟩:=hel.Ip (ty:=TS) (ys:=BY q) (hr.AB e1 fun _ _ h=>h) (AO.new w _ _) rfl (fun v hv=>AMi [q] v (by simpa using hv)) (by omega) (by omega);refine ⟨s',w',Ag,k s' w' ?_ ?_ fun j hj=>(Ar j hj).imp id fun h=>cd e1.size h⟩
 ·rw[bJ];simpa using AV
 ·exact (e1.mono fun _ _ h=>h.elim).trans D8 (fun _ h=>h) fun _ _ h=>h
theorem AFp {w:World}{sl:AA}{T:TypeId}{D:List Qr}(hr:Row w sl T 3 (D.flatMap BY)):PV w sl D:=by
 refine ⟨?_,hr.view⟩;have:=hr.1;rw[ABn]at this;omega
theorem Z0 (s:List UInt8){p:Nat}(hp:p<s.length):(((Cl s p (Bc p)).1<3)->Be s (s.length-p) p=⟨s.getD p 0,0,0⟩::Be s (s.length-(p+1)) (p+1))/\
  (¬((Cl s p (Bc p)).1<3)->Be s (s.length-p) p=⟨0,(Cl s p (Bc p)).1,(Cl s p (Bc p)).2⟩::Be s (s.length-(p+(Cl s p (Bc p)).1)) (p+(Cl s p (Bc p)).1))/\p+(Cl s p (Bc p)).1<=s.length:=by
 have hle:=Ps s p (Bc p);unfold CB at hle;have e:s.length-p=(s.length-(p+1))+1:=by omega
 refine ⟨fun h=>?_,fun h=>?_,by omega⟩
 ·rw[e]
  conv=>lhs;unfold Be
  rw[ah (by omega),ak h]
 ·rw[e]
  conv=>lhs;unfold Be
  rw[ah (by omega),ah h]
  congr 1
  have:=Im s (s.length-(p+(Cl s p (Bc p)).1)) ((Cl s p (Bc p)).1-1) (p+(Cl s p (Bc p)).1) (by omega);rw[<-this]
  congr 1
  omega
theorem yr {S:ByteArray}(hs:S.size<=1048576)(w:World):ADw S w fun r w1=>PV w1 r ((Cs S.data.toList).map Hm)/\Ext (fun _=>False) w w1:=by
 have A1:S.data.toList.length=S.size:=(Ah S).symm;refine ARJ _ _ _ ?_;unfold AJz;refine Br.dec (fun q=>absurd q (by omega)) fun q=>Nw.of ?_
 have e0:=(Ext.refl (fun _=>False) w).alloc (.map #[] 0);have T0:Of (w.alloc (.map #[] 0)) w.heap.size [] S.data.toList 0:=⟨UB.new w,(fun k v hk=>by cases hk),fun k _=>rfl,fun k k' s1 s2 h=>by cases h⟩
 refine ⟨fun m st w3=>∃(p:Nat) (L:QE) (D:List Qr),st.2=(p:Int)/\p<=S.size/\m=S.size-p/\D.length<=p/\Row w3 st.1 193 3 (D.flatMap BY)/\D++(Be S.data.toList (S.data.toList.length-p) p).map Hm=(Cs S.data.toList).map Hm/\
  Of w3 w.heap.size L S.data.toList p/\Ext (fun _=>False) w w3/\(∀j,st.1.own j->w.heap.size<=j/\¬FJ w.heap.size L j)/\∀j,FJ w.heap.size L j->w.heap.size<=j,S.size,
  ⟨0,[],[],rfl,bz _,rfl,av _,Row.nil _ _ _,rfl,T0,e0,(fun j hj=>by obtain ⟨a,ha,_⟩:=hj;cases ha),fun j hj=>by
   rcases hj with rfl|⟨k,sl,hk,_⟩
   ·exact av _
   ·cases hk⟩,?_⟩
 rintro m ⟨sl,p'⟩ w3 ⟨p,L,D,Kq,hp,rfl,hD,hr,AW,hT,he,ho,hto⟩;simp only at Kq hr ho;subst Kq;unfold pV;dsimp only;refine Br.dec (fun q1=>?_) fun q1=>?_
 ·have hp:p<S.size:=by omega
  refine (ke hT hp hs).mono ?_;rintro r w7 ⟨rfl,e7⟩;dsimp only;have hT:=hT.AB e7;have hr:=hr.AB e7 fun _ _ h=>h
  have he:=he.tr e7;obtain ⟨s1,s2,s3⟩:=Z0 S.data.toList (p:=p) (by omega);refine (Hn.start w7).nw fun w8 H=>?_
  simp only[ag]at H
  iterate 3 (refine H.st 0 rfl (by simp) fun _ H=>?_;simp only[ag,ar,ai,aq,aj]at H)
  iterate 2 refine H.ld 0 rfl rfl ?_
 
  have next:∀(pr:JR) (n:Nat),Be S.data.toList (S.data.toList.length-p) p=pr::Be S.data.toList (S.data.toList.length-(p+n)) (p+n)->1<=n->p+n<=S.size->∀w9,Ext (fun _=>False) w7 w9->∀s' w',Row w' s' 193 3 ((D++[Hm pr]).flatMap BY)->Ext sl.own w9 w'->(∀j,s'.own j->sl.own j\/w9.heap.size<=j)->∀x:Int,x=((p+n:Nat):Int)->pR (some w.heap.size) S (p:Int) x w' fun IY=>∃n',n'<S.size-p/\∃(p_1:Nat) (L:QE) (D:List Qr),x=(p_1:Int)/\p_1<=S.size/\n'=S.size-p_1/\D.length<=p_1/\Row IY s' 193 3 (D.flatMap BY)/\D++(Be S.data.toList (S.data.toList.length-p_1) p_1).map Hm=(Cs S.data.toList).map Hm/\
    Of IY w.heap.size L S.data.toList p_1/\Ext (fun _=>False) w IY/\(∀j,s'.own j->w.heap.size<=j/\¬FJ w.heap.size L j)/\∀j,FJ w.heap.size L j->w.heap.size<=j:=by
   rintro pr n YC hn iE w9 e9 s' w' hr' JO o10 x rfl;have hT9:=(hT.AB e9).AI JO fun j hj Jx=>(ho j Jx).2 hj
   refine (AFr hT9 (by omega) iE hs).mono ?_;rintro PU ⟨L',t1,NQ,o11⟩;have z9:=e9.size;have Az:=JO.size;have zz:=he.size;have AMj:∀j,s'.own j->¬FJ w.heap.size L j:=fun j hj Jx=>by
    rcases o10 j hj with e|e
    ·exact (ho j e).2 Jx
    ·have:=hT.lt Jx;omega
   refine ⟨S.size-(p+n),by omega,p+n,L',D++[Hm pr],rfl,iE,rfl,by rw[ae];simp;omega,hr'.AB NQ fun j hj Jx=>AMj j hj Jx,?_,t1,?_,fun j hj=>⟨?_,fun Jx=>?_⟩,fun j hj=>?_⟩
   ·rw[YC,bw]at AW;rw[<-AW,ax]
    rfl
   ·exact ((he.tr e9).trans JO (fun _ h=>h) fun j hj e=>by have:=(ho j e).1;omega).trans NQ (fun _ h=>h) fun j hj e=>by have:=hto j e;omega
   ·rcases o10 j hj with e|e
    ·exact (ho j e).1
    ·omega
   ·rcases o11 j Jx with e|e
    ·exact AMj j hj e
    ·have:=hr'.own_lt hj;omega
   ·rcases o11 j hj with e|e
    ·exact hto j e
    ·omega
  have hx:∀(y:Nat),p+max y 1<=S.size->wrap .i64 ((p:Int)+(if 1>(y:Int)then 1 else (y:Int)))=((p+max y 1:Nat):Int):=fun y hy=>by
   rw[AMg,AE (by omega)];omega
  by_cases hb:(Cl S.data.toList p (Bc p)).1<3
  ·have AFs:Kg (Cl S.data.toList p (Bc p))=(0,0):=by unfold Kg;rw[ak hb]
   rw[AFs]at H⊢;dsimp only at H⊢;refine Br.eq (fun _=>?_) fun h=>absurd rfl h
   refine ⟨by omega,by omega,?_⟩;rw[DX]
   iterate 1 (refine H.st 0 rfl (by simp) fun _ H=>?_;simp only[ag,ar,ai,aq,aj]at H)
   iterate 3 refine H.ld 0 rfl rfl ?_
   refine ABm elP (D:=D) (hr.AB H.ext fun _ _ h=>h) (by omega) (Hm ⟨S.data.toList.getD p 0,0,0⟩) fun s' w' r1 r2 r3=>?_
   exact next ⟨S.data.toList.getD p 0,0,0⟩ 1 (s1 hb) (av _) (by omega) _ H.ext s' w' r1 r2 r3 _ (hx 0 (by omega))
  ·have AFs:Kg (Cl S.data.toList p (Bc p))=Cl S.data.toList p (Bc p):=by unfold Kg;rw[ah hb]
   rw[AFs]at H⊢;refine Br.eq (fun h=>absurd h (by omega)) fun _=>?_
   iterate 3 refine H.ld 0 rfl rfl ?_
   refine ABm elP (D:=D) (hr.AB H.ext fun _ _ h=>h) (by omega) (Hm ⟨0,(Cl S.data.toList p (Bc p)).1,(Cl S.data.toList p (Bc p)).2⟩) fun s' w' r1 r2 r3=>?_
   refine next ⟨0,(Cl S.data.toList p (Bc p)).1,(Cl S.data.toList p (Bc p)).2⟩ _ (s2 hb) (by omega) (by omega) _ H.ext s' w' r1 r2 r3 _ ?_
   rw[hx _ (by omega)];omega
 ·have:p=S.size:=by omega
  subst this;rw[A1,cl]at AW;have AW:D++[]=_:=AW;rw[aM]at AW;rw[<-AW];exact ⟨AFp hr,he⟩
end A8
namespace A8
open Sh DS
attribute [local irreducible] Ld St Nw Nn Lt AP
structure PW (w0 w:World) (wlo wb:Nat) (ws:AA) (AJ:Int) (st:WS):Prop where
 wr:JQ w wb ws AJ st
 inv:FY AJ st
 AJ:AJ=0\/AJ=1
 lo:∀j,fp wb ws j->wlo<=j
 Nu:wlo<=w.heap.size
 ext:Ext (fun j=>wlo<=j) w0 w
def M5 (w:World)(wb:Nat)(ws:AA)(G:List (Nat×List Value×TypeId)):Prop:=∀p∈G,AO w p.1 p.2.1.toArray p.2.2/\¬fp wb ws p.1
section
variable {w0 w w1:World} {wlo wb:Nat} {ws Ki:AA} {AJ:Int} {st EV:WS} {G:List (Nat×List Value×TypeId)}
theorem PW.call(h:PW w0 w wlo wb ws AJ st)(h1:JQ w1 wb Ki 1 EV)(n:Wn w w1 wb ws Ki)(hi:FY 1 EV):PW w0 w1 wlo wb Ki 1 EV:=
 ⟨h1,hi,.inr rfl,fun j hj=>by
  rcases hj with e|e
  ·exact h.lo j (.inl e)
  ·rcases n.new j e with e|e
   ·exact h.lo j (.inr e)
   ·exact cd h.Nu e,cd h.Nu n.ext.size,h.ext.trans n.ext (fun _ h=>h) fun j hj e=>h.lo j e⟩
theorem PW.AB(h:PW w0 w wlo wb ws AJ st)(he:Ext (fun _=>False) w w1):PW w0 w1 wlo wb ws AJ st:=
 ⟨h.wr.AB he fun _ _ h=>h,h.inv,h.AJ,h.lo,cd h.Nu he.size,h.ext.trans he (fun _ h=>h) fun _ _ e=>e.elim⟩
theorem M5.call(h:M5 w wb ws G)(n:Wn w w1 wb ws Ki):M5 w1 wb Ki G:=fun p hp=>by
 obtain ⟨a,b⟩:=h p hp;refine ⟨n.ext.AS a b,fun e=>?_⟩;rcases e with e|e
 ·exact b (.inl e)
 ·rcases n.new _ e with e|e
  ·exact b (.inr e)
  ·have:=a.lt;omega
theorem M5.AB(h:M5 w wb ws G)(he:Ext (fun _=>False) w w1):M5 w1 wb ws G:=fun p hp=>⟨he.AS (h p hp).1 id,(h p hp).2⟩
theorem M5.ld{α:Type}{V:α->Value}{K:α->Prop}{x:α}{b o:Nat}{cs:List Value}{t:TypeId}(h:M5 w wb ws G)(i:Nat)(hi:G[i]?=some (b,cs,t))(hx:cs[o]?=some (V x))(hk:K x):Ld w ⟨b,o,none⟩ V K:=
 Ld.of (h _ (aB hi)).1 (by simpa using hx) hk
theorem PW.low(h:PW w0 w wlo wb ws AJ st)(A1:st.1.length<=200000000000)(v n:Nat)(hv:v<2^n)(Tk:n<=24)(hn:1<=n\/AJ=1):
  Gj (Vd wb) (v:Int) (n:Int) w fun e w1=>∃Ki,PW w0 w1 wlo wb Ki 1 (lw st v n)/\Wn w w1 wb ws Ki:=by
 have e2:((2^n:Nat):Int)=2^n:=by simp
 have kQ:=h.AJ;have hp:Jr AJ st (v:Int) (n:Int) 1=(0,lw st v n,1):=by
  rw[Kt (by rw[aa];omega)];simp only[aa];refine Prod.ext rfl (Prod.ext rfl ?_);dsimp only;split<;>omega
 refine (Yf h.wr h.inv (by omega) (v:Int) (n:Int)).mono ?_;rw[hp];rintro e w1 ⟨_,s',h1,h2⟩;refine ⟨s',h.call h1 h2 ?_,h2⟩;exact ⟨(h.inv.to (by omega)).put _ _ _,fun e=>absurd e (by decide)⟩
theorem PW.sign{lens:List Int}{lo hi tb:Nat}(h:PW w0 w wlo wb ws AJ st)(A1:st.1.length<=200000000000)(ht0:TB w0 lo hi tb lens)(hhi:hi<=wlo)(hc:DE lens=0){g:Nat}(hg:g<lens.length)(h0:0<lens.getD g 0):
  WV (some (⟨tb,0,none⟩:Addr)) (Vd wb) (g:Int) w fun e w1=>∃Ki,PW w0 w1 wlo wb Ki 1 (cw lens st g)/\Wn w w1 wb ws Ki:=by
 obtain ⟨n,hn⟩:=aR (show 0<=lens.getD g 0 by omega);have kQ:=h.AJ;refine (ym (ht0.AB h.ext fun j _ hj=>by omega) hc h.wr h.inv h.AJ A1 (fun j hj=> .inr (by have:=h.lo j hj;omega)) hg hn (by omega)).mono ?_;rintro e w1 ⟨_,s',h1,h2⟩;refine ⟨s',h.call h1 h2 ?_,h2⟩;exact ⟨SK (h.inv.to (by omega)) _,fun e=>absurd e (by decide)⟩
end
theorem sN {near far:List Int}(hn:NV near)(hf:NV far)(st:WS)(p:JR)(hp:p.ok):(wP near far st p).1.length<=st.1.length+48:=by
 unfold wP;split
 ·have:=Hl (st:=st) hn p.b.toNat;omega
 ·rename_i h0;rcases hp with hp|⟨_,h3,h4,h5,h6⟩
  ·exact absurd hp.1 h0
  have a1:=Hl (st:=st) hn (257+kL p.n);have a2:=JB (cw near st (257+kL p.n)) (p.n-Ab (kL p.n)) (BB (kL p.n));have a3:=Hl (st:=lw (cw near st (257+kL p.n)) (p.n-Ab (kL p.n)) (BB (kL p.n))) hf (kD p.f);have a4:=JB (cw far (lw (cw near st (257+kL p.n)) (p.n-Ab (kL p.n)) (BB (kL p.n))) (kD p.f)) (p.f-AZ (kD p.f)) (B3 (kD p.f));obtain ⟨k1,_⟩:=Hb h3 h4;obtain ⟨d1,_⟩:=Ha h5 h6;have b1:BB (kL p.n)<=5:=by unfold BB;split<;>omega
  have b2:B3 (kD p.f)<=13:=by unfold B3;omega
  omega
theorem sP {w:World}{wlo wb:Nat}{ws s:AA}{AJ:Int}{st:WS}{near far:List Int}{lo1 uz t1 lo2 SE t2:Nat}{l:List JR}(hP:PV w s (l.map Hm))(Ga:l≠[]->∀j,s.own j->j<wlo)(hl:l.length<=1048576)(BA:∀p∈l,p.ok/\Has near far p)
  (T1:TB w lo1 uz t1 near) (T2:TB w lo2 SE t2 far) (h1:uz<=wlo) (h2:SE<=wlo) (hc1:DE near=0) (yX:DE far=0) (hg:256<near.length) (nL:0<near.getD 256 0) (hW:JQ w wb ws AJ st) (hi:FY AJ st) (kQ:AJ=0\/AJ=1) (nJ:∀j,fp wb ws j->wlo<=j) (JA:wlo<=w.heap.size) (A1:st.1.length<=100000):
  xf (some ⟨t1,0,none⟩,some ⟨t2,0,none⟩) (Vd wb) s w fun w1=>∃Ki,PW w w1 wlo wb Ki 1 (cw near (l.foldl (wP near far) st) 256)/\Wn w w1 wb ws Ki:=by
 have TX:=A5 hc1;have YD:=A5 yX;refine ARL (some ⟨t1,0,none⟩,some ⟨t2,0,none⟩) _ _ _ _ ?_;unfold AJ5;refine Nw.of ?_;have e4:=(Ext.refl (fun _=>False) w).alloc (.cells #[.pointer (some ⟨t1,0,none⟩),.pointer (some ⟨t2,0,none⟩)] 201);have fO:∀j,fp wb ws j->j<w.heap.size:=hW.lt;have P0:PW w w wlo wb ws AJ st:=⟨hW,hi,kQ,nJ,JA,Ext.refl _ _⟩
 refine ⟨fun m i' w3=>∃(i:Nat) (Ki:AA) (Yg:Int),i'=(i:Int)/\i<=l.length/\m=l.length-i/\PW w w3 wlo wb Ki Yg ((l.take i).foldl (wP near far) st)/\Wn w w3 wb ws Ki/\M5 w3 wb Ki [(w.heap.size,[.pointer (some ⟨t1,0,none⟩),.pointer (some ⟨t2,0,none⟩)],201)]/\((l.take i).foldl (wP near far) st).1.length<=100000+48*i,l.length,
  ⟨0,ws,AJ,rfl,bz _,rfl,P0.AB e4,(Wn.refl _ _ _).to' e4,fun p hp=>by
   rw[az.1 hp];exact ⟨AO.new w _ _,fun hh=>by have:=fO _ hh;simp at this⟩,A1⟩,?_⟩
 rintro m i' w3 ⟨i,ws3,Fz,rfl,FP,rfl,P3,n3,H3,z3⟩;unfold pZ;have hlen:s.len=l.length:=by rw[hP.1,bp]
 rw[hlen];refine Br.dec (fun q=>?_) fun q=>?_
 ·have FP:i<l.length:=by omega
  have yn:(l.map Hm)[i]?=some (Hm l[i]):=by rw[aE,ad FP];rfl
  have hPk:PV w3 s (l.map Hm):=⟨hP.1,hP.2.AI P3.ext fun j hj e=>by have:=Ga (fun e=>by rw[e]at FP;simp at FP) j hj;omega⟩
  obtain ⟨a,ha,c0,c1,c2⟩:=hPk.get yn;obtain ⟨pok,R9⟩:=BA l[i] (bZ FP);have DD:(l.take (i+1)).foldl (wP near far) st=wP near far ((l.take i).foldl (wP near far) st) l[i]:=by
   rw[aO,ad FP,du]
   rfl
  have hwl:=sN TX YD ((l.take i).foldl (wP near far) st) l[i] pok;rw[<-DD]at hwl;generalize (l.take i).foldl (wP near far) st=Vw at*;generalize l[i]=p at*;obtain ⟨pb,pn,pf⟩:=p;have hpb:=pb.toNat_lt;rw[ha];refine ⟨by omega,by omega,Nn.of ?_⟩;rw[aa];refine Ld.mk (x:=(pb.toNat:Int)) c0 (Ld.mk (x:=(pn:Int)) c1 (Ld.mk (x:=(pf:Int)) c2 ?_));refine (Hn.start w3).nw fun w4 H=>?_
  simp only[ag]at H
  iterate 3 (refine H.st 0 rfl (by simp) fun _ H=>?_;simp only[ag,ar,ai,aq,aj]at H)
  rename_i w7;have P7:=P3.AB H.ext;have n7:=n3.to' H.ext;have H7:M5 w7 wb ws3 [(w.heap.size,[.pointer (some ⟨t1,0,none⟩),.pointer (some ⟨t2,0,none⟩)],201),(w3.heap.size,[.int .u8 (pb.toNat:Int),.int .i64 (pn:Int),.int .i64 (pf:Int)],193)]:=fun p hp=>by
   rcases aN.1 hp with rfl|hp
   ·exact H3.AB H.ext _ (az.2 rfl)
   ·rw[az.1 hp];exact ⟨H.get 0 rfl,fun hh=>by have:=P3.wr.lt _ hh;simp at this⟩
  clear H;have fin:∀w9 ws9,PW w w9 wlo wb ws9 1 (wP near far Vw ⟨pb,pn,pf⟩)->Wn w w9 wb ws ws9->M5 w9 wb ws9 [(w.heap.size,[.pointer (some ⟨t1,0,none⟩),.pointer (some ⟨t2,0,none⟩)],201),(w3.heap.size,[.int .u8 (pb.toNat:Int),.int .i64 (pn:Int),.int .i64 (pf:Int)],193)]->
    ∃n',n'<l.length-i/\∃(Gc:Nat) (Ki:AA) (Yg:Int),wrap .i64 ((i:Int)+1)=(Gc:Int)/\Gc<=l.length/\n'=l.length-Gc/\PW w w9 wlo wb Ki Yg ((l.take Gc).foldl (wP near far) st)/\Wn w w9 wb ws Ki/\M5 w9 wb Ki [(w.heap.size,[.pointer (some ⟨t1,0,none⟩),.pointer (some ⟨t2,0,none⟩)],201)]/\((l.take Gc).foldl (wP near far) st).1.length<=100000+48*Gc:=fun w9 ws9 P9 n9 H9=>
   ⟨l.length-(i+1),by omega,i+1,ws9,1,by rw[AE (by omega)];rfl,by omega,rfl,by rw[DD];exact P9,n9,fun p hp=>H9 p (by rw[az.1 hp];exact aT ..),by omega⟩
  refine H7.ld 1 rfl rfl ?_;unfold Has at R9;dsimp only at R9;refine Br.eq (fun h0=>?_) fun h0=>?_
  ·have iE:pn=0:=by omega
   subst iE;rw[ak rfl]at R9;refine H7.ld 0 rfl rfl ?_;refine H7.ld 1 rfl rfl ?_;rw[AE (by omega)];refine (P7.sign (by omega) T1 h1 hc1 R9.1 R9.2).mono ?_;rintro e w8 ⟨ws8,P8,n8⟩;exact fin w8 ws8 P8 (n7.trans n8) (H7.call n8)
  ·have iE:¬pn=0:=by omega
   rw[ah iE]at R9;rcases pok with hp|⟨_,q3,q4,q5,q6⟩
   ·exact absurd hp.1 iE
   dsimp only at q3 q4 q5 q6;obtain ⟨k1,k2,k3,k4⟩:=Hb q3 q4;obtain ⟨d1,d2,d3⟩:=Ha q5 q6;have b1:BB (kL pn)<=5:=by unfold BB;split<;>omega
   have b2:B3 (kD pf)<=13:=by unfold B3;omega
   refine H7.ld 1 rfl rfl ?_;refine (ng (pn:Int) w7).mono ?_;rintro a1 a2 a3 a4 w8 ⟨hs,e8⟩;unfold wa at hs;rw[ah (by omega),aa]at hs;simp only[Prod.mk.injEq]at hs;obtain ⟨rfl,rfl,rfl,rfl⟩:=hs;have P8:=P7.AB e8;have n8:=n7.to' e8;have H8:=H7.AB e8;refine H8.ld 0 rfl rfl ?_;refine (P8.sign (by omega) T1 h1 hc1 R9.1.1 R9.1.2).mono ?_;rintro _ w9 ⟨ws9,P9,n9⟩;have H9:=H8.call n9;have l9:=Hl (st:=Vw) TX (257+kL pn);refine (P9.low (by omega) (pn-Ab (kL pn)) (BB (kL pn)) (by omega) (by omega) (.inr rfl)).mono ?_;rintro _ IY ⟨Agg,P10,n10⟩;have Mz:=H9.call n10;have l10:=JB (cw near Vw (257+kL pn)) (pn-Ab (kL pn)) (BB (kL pn));refine Mz.ld 1 rfl rfl ?_;refine (nh (pf:Int) IY).mono ?_;rintro a1 a2 a3 a4 PU ⟨hs,NQ⟩;unfold we at hs;rw[ah (by omega),aa]at hs;simp only[Prod.mk.injEq]at hs;obtain ⟨rfl,rfl,rfl,rfl⟩:=hs;have P11:=P10.AB NQ;have H11:=Mz.AB NQ;refine H11.ld 0 rfl rfl ?_;refine (P11.sign (by omega) T2 h2 yX R9.2.1 R9.2.2).mono ?_;rintro _ Ef ⟨Agi,P12,n12⟩;have H12:=H11.call n12;have l12:=Hl (st:=lw (cw near Vw (257+kL pn)) (pn-Ab (kL pn)) (BB (kL pn))) YD (kD pf);refine (P12.low (by omega) (pf-AZ (kD pf)) (B3 (kD pf)) (by unfold B3 at*;omega) (by omega) (.inr rfl)).mono ?_;rintro _ Fs ⟨AXN,P13,n13⟩;refine fin Fs AXN ?_ (((((n8.trans n9).trans n10).to' NQ).trans n12).trans n13) (H12.call n13);unfold wP;rw[ah iE];exact P13
 ·have:i=l.length:=by omega
  subst this;rw[bj]at P3 z3;refine H3.ld 0 rfl rfl ?_;refine (P3.sign (by omega) T1 h1 hc1 (g:=256) hg nL).mono ?_;rintro _ w4 ⟨ws4,P4,n4⟩;exact ⟨ws4,P4,n3.trans n4⟩
theorem Um {near far:List Int}(hn:NV near)(hf:NV far):∀(l:List JR) (st:WS),(∀p∈l,p.ok)->(l.foldl (wP near far) st).1.length<=st.1.length+48*l.length
 |[],st,_=>av _
 |p::l,st,h=>by
  have h1:=sN hn hf st p (h p (aT ..));have h2:=Um hn hf l (wP near far st p) fun q hq=>h q (aC _ hq)
  rw[b9,aA];omega
theorem PV.lt{w:World}{s:AA}{L:List Qr}(h:PV w s L)(hL:L≠[]){j:Nat}(hj:s.own j):j<w.heap.size:=by
 obtain ⟨q,r,rfl⟩:=List.exists_cons_of_ne_nil hL;obtain ⟨a,ha,c,_⟩:=h.get (i:=0) rfl;obtain ⟨b,hb,rfl⟩:=hj;rw[ha]at hb;cases hb;have:=BJ c;rw[Bl]at this;exact this
theorem sQ {w:World}{s:AA}{l:List JR}(hP:PV w s (l.map Hm))(hl:l.length<=1048576)(hf:Fit l []):AD1 s w (fun r w1=>r=⟨(nV l).toArray⟩/\Ext (fun _=>False) w w1) fun _ _=>False:=by
 refine ARM _ _ _ _ ?_;unfold AJ6;refine (gm w).mono ?_ fun _ _ h=>h
 rintro r2 r3 w4 ⟨I2,I3,e4⟩;have o3:∀j,r3.own j->j≠w4.heap.size:=fun j hj=>by have:=yW I3 (by intro e;have:=Vu;rw[e]at this;simp at this) hj;omega
 refine (Hn.start w).AB e4|>.Ro fun w5 H e5=>?_
 simp only[ag]at H;have z5:w4.heap.size<w5.heap.size:=H.lt 0 rfl;refine (F2 (I2.AB e5)).mono ?_;rintro r6 r7 w8 ⟨rfl,e8,_,h8⟩;obtain ⟨t1,rfl,T1⟩:=h8 Dd;have H:=H.AB e8;refine H.EV 0 rfl (by simp) fun w9 H e9=>?_
 simp only[ai,aq]at H;have T1:=T1.AB e9 fun j h1 h2 e=>by omega
 have I3:=((I3.AB e5).AB e8).AI e9 o3;refine (F2 I3).mono ?_;rintro LB MF Ef ⟨rfl,TU,_,h12⟩;obtain ⟨t2,rfl,T2⟩:=h12 Fa;have H:=H.AB TU;have T1:=T1.AB TU fun _ _ _ h=>h
 have z9:w8.heap.size<=w9.heap.size:=e9.size;have z8:=e8.size;refine H.EV 0 rfl (by simp) fun Fs H YT=>?_
 simp only[ai,aq]at H;have T1:=T1.AB YT fun j h1 h2 e=>by have e:j=w4.heap.size:=e;omega
 have T2:=T2.AB YT fun j h1 h2 e=>by have e:j=w4.heap.size:=e;omega
 have AY:=YT.size;have z12:=TU.size;refine (DS.F2 Fs).mono ?_;rintro Jt VT ⟨rfl,W,fK⟩;have H:=H.AB fK;have T1:=T1.AB fK fun _ _ _ h=>h
 have T2:=T2.AB fK fun _ _ _ h=>h
 have Bv:=fK.size;have P15:PW VT VT Fs.heap.size Fs.heap.size ⟨none,0,0⟩ 0 ([],0):=⟨W,FY.zero _,.inl rfl,(fun j hj=>by
  rcases hj with e|⟨a,ha,_⟩
  ·omega
  ·cases ha),Bv,Ext.refl _ _⟩
 refine (P15.low (by simp) 1 1 (by decide) (by decide) (.inl (by decide))).mono ?_;rintro _ w17 ⟨s17,P17,n17⟩;refine (P17.low (by have:=JB ([],0) 1 1;simp only[bq]at this;omega) 1 2 (by decide) (by decide) (.inl (by decide))).mono ?_;rintro _ vQ ⟨pD,mA,n19⟩;have mA:PW VT vQ Fs.heap.size Fs.heap.size pD 1 jY:=mA;have hzF:jY.1.length<=3:=by
  have h1:=JB ([],0) 1 1;have h2:=JB (lw ([],0) 1 1) 1 2;unfold jY;simp only[bq]at h1;omega
 have bB:=mA.ext.AS (H.get 0 rfl) (by show ¬Fs.heap.size<=w4.heap.size;omega);refine Ld.of bB rfl (Ld.of bB rfl ?_);have E15:Ext (fun _=>False) w VT:=H.ext;have hPk:PV vQ s (l.map Hm):=by
  by_cases Iv:l=[]
  ·subst Iv;exact ⟨hP.1,hP.2.1,fun j v hj=>by cases hj⟩
  ·exact ⟨hP.1,(hP.2.AB E15).AI mA.ext fun j hj e=>by
    have:=hP.lt (by simpa using Iv) hj;have:=e4.size;omega⟩
 have Md:=Fit.ok hf;refine (sP (s:=s) (l:=l) hPk (fun Iv j hj=>by have:=hP.lt (by simpa using Iv) hj;have:=e4.size;omega) hl (fun p hp=>⟨Md p hp,fe (Md p hp)⟩) (T1.AB mA.ext fun j _ h2 e=>by omega) (T2.AB mA.ext fun j _ h2 e=>by omega) (by omega) (by omega) Dd Fa (by rw[QA];decide) (by have:=Kx 256 (by decide);omega) mA.wr mA.inv mA.AJ mA.lo mA.Nu (by omega)).mono ?_;rintro w22 ⟨s22,P22,n22⟩;have z1:=Um (A5 Dd) (A5 Fa) l jY Md;have z2:=Hl (st:=l.foldl (wP Js MW) jY) (A5 Dd) 256;refine (Tm P22.wr (by omega)).mono ?_;rintro r w24 ⟨rfl,e24⟩;refine ⟨rfl,?_⟩;have zz:=e4.size;exact ((E15.trans mA.ext (fun _ h=>h) fun j hj e=>by omega).trans P22.ext (fun _ h=>h) fun j hj e=>by omega).tr e24
end A8
set_option maxRecDepth 512
set_option maxHeartbeats 200000
namespace Ey
abbrev E:=Nat×Nat
def lt (W:Nat->Int)(a b:E):Prop:=W a.1<W b.1\/(W a.1=W b.1/\a.2<b.2)
abbrev So (W:Nat->Int)(l:List E):Prop:=l.Pairwise (lt W)
section
variable {W:Nat->Int}
theorem lt_trans {a b c:E}(h:lt W a b)(k:lt W b c):lt W a c:=by
 unfold lt at*;omega
theorem RP {a b:E}(h:W a.1<=W b.1)(k:a.2<b.2):lt W a b:=by
 unfold lt;omega
theorem le_of_lt {a b:E}(h:lt W a b):W a.1<=W b.1:=by
 unfold lt at h;omega
theorem GY {l m:List E}:So W (l++m)↔So W l/\So W m/\∀a∈l,∀b∈m,lt W a b:=bT
theorem kc:∀{l m:List E},So W l->So W m->l.Perm m->l=m:=by
 intro l m hl hm hp;refine hp.eq_of_pairwise (le:=lt W) (fun a b _ _ h k=>?_) hl hm;unfold lt at h k;omega
theorem eQ {A B:List E}{x:E}(h:So W (A++B))(h1:∀y∈A,lt W y x)(h2:∀y∈B,lt W x y):So W (A++x::B):=by
 obtain ⟨a,b,c⟩:=GY.1 h;refine GY.2 ⟨a,bn.2 ⟨h2,b⟩,fun y hy z hz=>?_⟩;rcases aN.1 hz with rfl|hz
 ·exact h1 y hy
 ·exact c y hy z hz
def Tg (l m:List E):Prop:=∀a∈l,∀b∈m,a.2<b.2
theorem Tg.perm{l l' m m':List E}(h:Tg l m)(h1:l'.Perm l)(h2:m'.Perm m):Tg l' m':=fun a ha b hb=>h a (h1.mem_iff.1 ha) b (h2.mem_iff.1 hb)
theorem Tg.sub{l l' m m':List E}(h:Tg l m)(h1:∀a∈l',a∈l)(h2:∀a∈m',a∈m):Tg l' m':=fun a ha b hb=>h a (h1 a ha) b (h2 b hb)
theorem k9 {U1 U2 V1 V2:List E}(hU:So W (U1++U2))(hV:So W (V1++V2))(hT:Tg (U1++U2) (V1++V2))
  (h1:U1=[]\/V2=[]\/∃A a b B,U1=A++[a]/\V2=b::B/\W a.1<=W b.1) (h2:V1=[]\/U2=[]\/∃A a b B,V1=A++[a]/\U2=b::B/\W a.1<W b.1):
  ∀x∈U1++V1,∀y∈U2++V2,lt W x y:=by
 obtain ⟨u1,u2,u3⟩:=GY.1 hU;obtain ⟨v1,v2,v3⟩:=GY.1 hV;have last:∀{A:List E} {a x:E},So W (A++[a])->x∈A++[a]->x=a\/lt W x a:=fun {A a x} h hx=>by
  rcases aQ.1 hx with hx|hx
  ·exact .inr ((GY.1 h).2.2 x hx a (by simp))
  ·exact .inl (by simpa using hx)
 have first:∀{B:List E} {b y:E},So W (b::B)->y∈b::B->y=b\/lt W b y:=fun {B b y} h hy=>by
  rcases aN.1 hy with rfl|hy
  ·exact .inl rfl
  ·exact .inr ((bn.1 h).1 y hy)
 intro x hx y hy;rcases aQ.1 hx with hx|hx
 ·rcases aQ.1 hy with hy|hy
  ·exact u3 x hx y hy
  ·rcases h1 with e|e|⟨A,a,b,B,e1,e2,hw⟩
   ·rw[e]at hx;cases hx
   ·rw[e]at hy;cases hy
   ·have ht:=hT x (cF _ hx) y (di _ hy);have mB:lt W a b:=RP hw (hT a (by rw[e1];simp) b (by rw[e2];simp));have u0:W b.1<=W y.1:=by
     rw[e2]at hy v2;rcases first v2 hy with rfl|h
     ·exact bH _
     ·exact le_of_lt h
    have vT:W x.1<=W a.1:=by
     rw[e1]at hx u1;rcases last u1 hx with rfl|h
     ·exact bH _
     ·exact le_of_lt h
    exact RP (by omega) ht
 ·rcases aQ.1 hy with hy|hy
  ·rcases h2 with e|e|⟨A,a,b,B,e1,e2,hw⟩
   ·rw[e]at hx;cases hx
   ·rw[e]at hy;cases hy
   ·have u0:W b.1<=W y.1:=by
     rw[e2]at hy u2;rcases first u2 hy with rfl|h
     ·exact bH _
     ·exact le_of_lt h
    have vT:W x.1<=W a.1:=by
     rw[e1]at hx v1;rcases last v1 hx with rfl|h
     ·exact bH _
     ·exact le_of_lt h
    exact .inl (by omega)
  ·exact v3 x hx y hy
def Sz (bs:Nat):List (List E)->Prop
 |[]=>True
 |[B]=>1<=B.length/\B.length<=bs
 |B::C::r=>B.length=bs/\Sz bs (C::r)
structure Bk (W:Nat->Int) (Bs:List (List E)):Prop where
 so:∀B∈Bs,So W B
 tg:Bs.Pairwise Tg
theorem Sz.len{bs:Nat}(h0:1<=bs):∀{Bs:List (List E)},Sz bs Bs->∀B∈Bs,1<=B.length/\B.length<=bs
 |[],_,B,hB=>by cases hB
 |[X],h,B,hB=>by
  rw[az.1 hB];exact h
 |X::Y::r,h,B,hB=>by
  rcases aN.1 hB with rfl|hB
  ·have:=h.1;omega
  ·exact Sz.len h0 h.2 B hB
theorem Sz.app{bs:Nat}:∀{Ms Rs:List (List E)},(∀M∈Ms,M.length=bs)->Sz bs Rs->(1<=bs)->Sz bs (Ms++Rs)
 |[],Rs,_,h,_=>h
 |[M],[],hm,_,h0=>⟨by rw[hm M (by simp)];exact h0,by rw[hm M (by simp)];exact av _⟩
 |[M],R::r,hm,h,_=>⟨hm M (by simp),h⟩
 |M::M'::Ms,Rs,hm,h,h0=>⟨hm M (by simp),Sz.app (Ms:=M'::Ms) (fun X hX=>hm X (aC _ hX)) h h0⟩
theorem TJ {bs:Nat}:∀{Ms:List (List E)},(∀M∈Ms,M.length=bs)->Ms.flatten.length=Ms.length*bs
 |[],_=>by simp
 |M::Ms,h=>by
  rw[ct,ae,h M (by simp),TJ fun X hX=>h X (aC _ hX),aA,bN];omega
theorem Bk.done{bs:Nat}{Bs:List (List E)}(h:Bk W Bs)(hs:Sz bs Bs)(h0:1<=bs)(hn:Bs.flatten.length<=bs):So W Bs.flatten:=by
 match Bs,h,hs,hn with
 |[],_,_,_=>exact List.Pairwise.nil
 |[B],h,_,_=>
  have:=h.so B (by simp);simpa using this
 |B::C::r,h,hs,hn=>
  have h1:=hs.1;have h2:=(Sz.len h0 hs.2 C (by simp)).1;simp only[ct,ae]at hn;omega
theorem Bk.merge{Ms Rs:List (List E)}{U V M:List E}(h:Bk W (Ms++U::V::Rs))(hM:So W M)(hp:M.Perm (U++V)):Bk W (Ms++M::Rs):=by
 have DV:∀x∈M,x∈U\/x∈V:=fun x hx=>aQ.1 (hp.mem_iff.1 hx)
 obtain ⟨t1,t2,t3⟩:=bT.1 h.tg;obtain ⟨t4,t5⟩:=bn.1 t2;obtain ⟨t6,t7⟩:=bn.1 t5;refine ⟨fun B hB=>?_,bT.2 ⟨t1,bn.2 ⟨fun R hR a ha b hb=>?_,t7⟩,fun A hA B hB a ha b hb=>?_⟩⟩
 ·rcases aQ.1 hB with hB|hB
  ·exact h.so B (cF _ hB)
  ·rcases aN.1 hB with rfl|hB
   ·exact hM
   ·exact h.so B (di _ (aC _ (aC _ hB)))
 ·rcases DV a ha with h1|h1
  ·exact t4 R (aC _ hR) a h1 b hb
  ·exact t6 R hR a h1 b hb
 ·rcases aN.1 hB with rfl|hB
  ·rcases DV b hb with h1|h1
   ·exact t3 A hA U (by simp) a ha b h1
   ·exact t3 A hA V (by simp) a ha b h1
  ·exact t3 A hA B (by simp[hB]) a ha b hb
theorem RQ {Ms Rs:List (List E)}{U V M O:List E}(h:(Ms++U::V::Rs).flatten.Perm O)(hp:M.Perm (U++V)):(Ms++M::Rs).flatten.Perm O:=by
 refine List.Perm.trans ?_ h;simp only[List.flatten_append,ct];refine List.Perm.append_left _ ?_;rw[<-ax];exact List.Perm.append_right _ hp
theorem FI {α:Type}{pre post:List α}{c v:α}{i:Nat}(h:pre.length=i):(pre++c::post).set i v=pre++v::post:=by
 rw[dh _ _ (by omega),show i-pre.length=0 by omega]
 rfl
theorem ES {α:Type}{pre post:List α}{c:α}{i:Nat}(h:pre.length=i):(pre++c::post)[i]?=some c:=by
 rw[aF (by omega),show i-pre.length=0 by omega]
 rfl
theorem U9 {α:Type}{l:List α}{i:Nat}(h:i<=l.length):∃A B,l=A++B/\A.length=i:=
 ⟨l.take i,l.drop i,(aW i l).symm,by rw[au];omega⟩
end
end Ey
set_option maxRecDepth 4000
set_option maxHeartbeats 2000000
namespace Ey
open Sh
theorem Br.t{b:Bool}{A B:Prop}(h:b=true)(h1:A):Br b A B:=by rw[h];exact h1
theorem Br.f{b:Bool}{A B:Prop}(h:b=false)(h1:B):Br b A B:=by rw[h];exact h1
theorem Dk {α:Type}{S:World->Prop}{V:α->Value}{K:α->Prop}{x:α}{a:Addr}(h:∀w,S w->w.cell? a=some (V x))(k:K x):AP S a V K:=⟨x,h,k⟩
def ptr (b:Nat):Value:= .pointer (some ⟨b,0,none⟩)
def Uv (l:List E):List Value:=l.map fun e=>ptr e.1
theorem Xx (l:List E):(Uv l).length=l.length:=by unfold Uv;simp
def PR (w:World)(s:AA)(T:List E):Prop:=Row w s 244 1 (Uv T)
section
variable {w w1:World} {s:AA} {T:List E} {W:Nat->Int} {c:Addr}
theorem PR.len(h:PR w s T):s.len=T.length:=by
 have:=h.1;rw[Xx]at this;omega
theorem PR.get(h:PR w s T){i:Nat}{e:E}(hi:T[i]?=some e):∃g,s.p=some ⟨g,0,none⟩/\w.cell? ⟨g,i,none⟩=some (ptr e.1):=
 Row.cell h (by unfold Uv;rw[aE,hi];rfl)
theorem PR.set(h:PR w s T){i:Nat}(hi:i<T.length)(e:E):∃g,s.p=some ⟨g,0,none⟩/\Kl w ⟨g,i,none⟩/\PR (w.setCell ⟨g,i,none⟩ (ptr e.1)) s (T.set i e)/\Ext s.own w (w.setCell ⟨g,i,none⟩ (ptr e.1)):=by
 have hlen:=h.len;rcases h.2 with rfl|⟨g,cur,hp,hg,hle,A1,DD⟩
 ·simp only at hlen;omega
 ·have Am:i<cur.size:=by omega
  refine ⟨g,hp,hg.can Am,⟨by rw[Xx,br,hlen,aH],.inr ⟨g,_,hp,hg.set i _,hle,by simpa using A1,?_⟩⟩,(Ext.refl _ w).set (.inl ⟨_,hp,rfl⟩) _⟩;rw[Array.toList_setIfInBounds,List.take_set,DD];unfold Uv;rw[dM]
structure SS (w:World) (s:AA) (T:List E) (c:Addr) (W:Nat->Int):Prop where
 row:PR w s T
 clo:w.cell? c=some wfn
 wt:∀e∈T,w.cell? ⟨e.1,0,none⟩=some (.int .i64 (W e.1))
 ne:∀e∈T,¬s.own e.1
 nc:¬s.own c.block
 Nu:T.length<=1000000
theorem SS.step{T':List E}(h:SS w s T c W)(he:Ext s.own w w1)(hr:PR w1 s T')(hm:∀e∈T',e∈T):SS w1 s T' c W:=by
 have l1:=h.row.len;have l2:=hr.len;refine ⟨hr,?_,fun e hx=>?_,fun e hx=>h.ne e (hm e hx),h.nc,by have:=h.Nu;omega⟩
 ·rw[he.cell (BJ h.clo) h.nc];exact h.clo
 ·have:=h.wt e (hm e hx);rw[he.cell (BJ this) (h.ne e (hm e hx))];exact this
theorem SS.still(h:SS w s T c W)(he:Ext (fun _=>False) w w1):SS w1 s T c W:=
 h.step (he.mono fun _ _ e=>e.elim) (h.row.AB he fun _ _ e=>e) fun _ h=>h
theorem SS.perm{T':List E}(h:SS w s T c W)(he:Ext s.own w w1)(hr:PR w1 s T')(hm:T'.Perm T):SS w1 s T' c W:=h.step he hr fun e hx=>hm.mem_iff.1 hx
attribute [local irreducible] Ld St Nw Nn Lt AP
theorem lA (x y:Int)(w:World):AC1 x y w fun r w1=>(r<0↔x<y)/\w1=w:=by
 refine AQx _ _ _ _ ?_;unfold AJg;have n:∀(z:Int) (w:World),xU z w fun r w1=>r=false/\w1=w:=fun z w=>AQw _ _ _ (by unfold AJf;exact ⟨by simp,rfl⟩)
 refine (n x w).mono ?_;rintro r w ⟨rfl,rfl⟩;refine (n y w).mono ?_;rintro r w ⟨rfl,rfl⟩;refine Ey.Br.f rfl (Ey.Br.f rfl (Br.dec (fun q=>⟨by omega,rfl⟩) fun q=>Br.dec (fun q2=>⟨by omega,rfl⟩) fun q2=>⟨by omega,rfl⟩))
theorem JG {b:Nat}{x:Int}(h:w.cell? ⟨b,0,none⟩=some (.int .i64 x)):wU (some ⟨b,0,none⟩) w fun r w1=>r=x/\w1=w:=by
 refine AQv _ _ _ ?_;unfold AJe;exact Nn.of (Ld.mk h ⟨rfl,rfl⟩)
theorem ABt {x y:E}(h:SS w s T c W)(hx:x∈T)(hy:y∈T):Yk (some ⟨x.1,0,none⟩) (some ⟨y.1,0,none⟩) c w fun r w1=>(r<0↔W x.1<W y.1)/\SS w1 s T c W/\Ext s.own w w1:=by
 have hd:=h.still (Ext.refl _ w).drew;refine APs _ _ _ _ _ h.clo ((JG (hd.wt x hx)).mono ?_);rintro r w1 ⟨rfl,rfl⟩;refine ⟨hd.clo,(JG (hd.wt y hy)).mono ?_⟩;rintro r w1 ⟨rfl,rfl⟩;refine ⟨hd.clo,(lA _ _ _).mono ?_⟩;rintro r w1 ⟨hr,rfl⟩;exact ⟨hr,hd,(Ext.refl _ w).drew⟩
theorem SS.swap{i j:Nat}{x y:E}{K:World->Prop}(h:SS w s T c W)(hi:T[i]?=some x)(hj:T[j]?=some y)(MG:i≠j)
  (k:∀w1,SS w1 s ((T.set i y).set j x) c W->Ext s.own w w1->K w1):∃g,s.p=some ⟨g,0,none⟩/\w.cell? ⟨g,i,none⟩=some (ptr x.1)/\w.cell? ⟨g,j,none⟩=some (ptr y.1)/\St w ⟨g,i,none⟩ (ptr y.1) fun w1=>St w1 ⟨g,j,none⟩ (ptr x.1) K:=by
 have li:=(ao.1 hi).1;have lj:=(ao.1 hj).1;obtain ⟨g,hg,h1⟩:=h.row.get hi;obtain ⟨g',IJ,h2⟩:=h.row.get hj;rw[hg]at IJ;cases IJ;refine ⟨g,hg,h1,h2,?_⟩;obtain ⟨g',IJ,c1,p1,e1⟩:=h.row.set li y;rw[hg]at IJ;cases IJ;obtain ⟨g',IJ,c2,p2,e2⟩:=p1.set (i:=j) (by rw[br];exact lj) x;rw[hg]at IJ;cases IJ;have mx:x∈T:=aB hi;have my:y∈T:=aB hj;have E:=e1.tr e2;unfold St;refine ⟨c1,c2,k _ (h.step E p2 fun e he=>?_) E⟩;rcases dg he with he|rfl
 ·rcases dg he with he|rfl
  ·exact he
  ·exact my
 ·exact mx
theorem uK {α:Type}{X Z:List α}{a b:α}{i:Nat}(h:X.length=i):((X++a::b::Z).set i b).set (i+1) a=X++b::a::Z:=by
 rw[FI h,show X++b::b::Z=(X++[b])++b::Z by simp,FI (by simp[h])];simp
theorem TK {α:Type}{X Z:List α}{a b:α}{i:Nat}(h:X.length=i):((X++a::b::Z).set (i+1) a).set i b=X++b::a::Z:=by
 rw[show X++a::b::Z=(X++[a])++b::Z by simp,FI (by simp[h]),show X++[a]++a::Z=X++a::a::Z by simp,FI h]
theorem ABu {P M Q:List E}(h:SS w s (P++M++Q) c W)(hT:M.Pairwise fun x y=>x.2<y.2){a b:Nat}(ha:P.length=a)(hb:a+M.length=b):
  yG s (a:Int) (b:Int) (.func (.func 204) #[] #[.pointer (some c)]) w fun w1=>Ext s.own w w1/\∃M':List E,M'.Perm M/\So W M'/\SS w1 s (P++M'++Q) c W:=by
 refine j6 _ _ _ _ _ _ ?_;unfold SV;have JA:=h.Nu;simp only[ae]at JA;rw[AE (by omega)];refine ⟨fun n st w1=>∃(k:Nat) (M1:List E),st=(a:Int)+(k:Int)/\1<=k/\n=M.length+1-k/\M1.Perm (M.take k)/\So W M1/\SS w1 s (P++M1++M.drop k++Q) c W/\Ext s.own w w1,M.length,⟨1,M.take 1,rfl,av _,by omega,.refl _,?_,?_,Ext.refl _ _⟩,?_⟩
 ·match M with
  |[]=>exact List.Pairwise.nil
  |x::r=>exact ee _ _
 ·rw[ax P,aW];exact h
 rintro n st w1 ⟨k,M1,rfl,hk,rfl,hp,hs,H1,e1⟩;unfold Ng;refine Br.dec (fun q=>?_) fun q=>?_
 ·have hkM:k<M.length:=by omega
  have lM1:M1.length=k:=by rw[hp.length_eq,au];omega
  have J6:M.drop k=M[k]::M.drop (k+1):=aS hkM;rw[J6]at H1;have AMe:∀y∈M1,y.2<M[k].2:=fun y hy=>by
   have hy:=hp.mem_iff.1 hy;have hT2:=hT;rw[<-aW k M]at hT2;exact (bT.1 hT2).2.2 y hy M[k] (by rw[J6];exact aT)
  generalize hx:M[k]=x at*;refine ⟨fun n st w2=>∃(A B:List E),M1=A++B/\st=(a:Int)+(A.length:Int)/\n=A.length/\(∀y∈B,lt W x y)/\SS w2 s (P++A++x::B++M.drop (k+1)++Q) c W/\Ext s.own w w2,k,⟨M1,[],by simp,by omega,lM1.symm,fun y hy=>(by cases hy),by simpa using H1,e1⟩,?_⟩;rintro n st w2 ⟨A,B,rfl,rfl,rfl,hB,H2,e2⟩;unfold Nf;have ABv:=H2.row.len;simp only[ae,aA,aJ]at ABv lM1;have fin:∀w3,SS w3 s (P++A++x::B++M.drop (k+1)++Q) c W->Ext s.own w w3->(∀y∈A,lt W y x)->∃n',n'<M.length+1-k/\∃(k':Nat) (M1':List E),wrap .i64 ((a:Int)+(k:Int)+1)=(a:Int)+(k':Int)/\1<=k'/\n'=M.length+1-k'/\M1'.Perm (M.take k')/\So W M1'/\SS w3 s (P++M1'++M.drop k'++Q) c W/\Ext s.own w w3:=fun w3 H3 e3 hA=>by
   refine ⟨M.length+1-(k+1),by omega,k+1,A++x::B,by rw[AE (by omega)];omega,by omega,rfl,?_,eQ hs hA hB,by simpa using H3,e3⟩;have ht:M.take (k+1)=M.take k++[x]:=by rw[aO,ad hkM,hx];rfl
   rw[ht];exact (List.perm_middle.trans (List.Perm.cons x hp)).trans (List.perm_append_singleton x _).symm
  refine Br.dec (fun q2=>?_) fun q2=>?_
  ·obtain ⟨A',y,rfl⟩:∃A' y,A=A'++[y]:=by
    refine ⟨A.dropLast,A.getLast (by intro e;rw[e]at q2;simp at q2),(List.dropLast_concat_getLast _).symm⟩
   simp only[ae,cT]at ABv lM1 q2⊢;have gx:(P++(A'++[y])++x::B++M.drop (k+1)++Q)[a+A'.length+1]?=some x:=by
    rw[ax,ax,ax];rw[show P++((A'++[y])++(x::B++(M.drop (k+1)++Q)))=(P++(A'++[y]))++x::(B++(M.drop (k+1)++Q)) by simp];exact ES (by simp[ha];omega)
   have gy:(P++(A'++[y])++x::B++M.drop (k+1)++Q)[a+A'.length]?=some y:=by
    rw[show P++(A'++[y])++x::B++M.drop (k+1)++Q=(P++A')++y::(x::B++M.drop (k+1)++Q) by simp];exact ES (by simp[ha])
   have H2d:=H2.still (Ext.refl _ w2).drew;obtain ⟨g,hg,cx⟩:=H2d.row.get gx;obtain ⟨g',IJ,cy⟩:=H2d.row.get gy;rw[hg]at IJ;cases IJ;have i1:(a:Int)+((A'.length+1:Nat):Int)=((a+A'.length+1:Nat):Int):=by omega
   have i2:wrap .i64 (((a+A'.length+1:Nat):Int)-1)=((a+A'.length:Nat):Int):=by rw[AE (by omega)];omega
   rw[i1,i2,hg];refine ⟨by omega,by omega,Nn.of ?_⟩;simp only[add_lit,aa,aH,aj];refine Ld.mk cx ⟨by omega,by omega,Nn.of ?_⟩;simp only[add_lit,aa,aH,aj];refine Ld.mk cy ?_;refine (ABt H2d (aB gx) (aB gy)).mono ?_;rintro r w3 ⟨hr,H3,e3⟩;have E3:=e2.tr ((Ext.refl _ w2).drew.tr e3);refine Br.dec (fun q3=>?_) fun q3=>?_
   ·have Am:=hr.1 q3;obtain ⟨g',IJ,c1,c2,IT⟩:=(H3.still (Ext.refl _ w3).drew).swap gx gy (by omega) (K:=fun w1=>∃n',n'<A'.length+1/\∃(A B_1:List E),A'++[y]++B=A++B_1/\((a+A'.length:Nat):Int)=(a:Int)+(A.length:Int)/\n'=A.length/\(∀y∈B_1,lt W x y)/\SS w1 s (P++A++x::B_1++M.drop (k+1)++Q) c W/\Ext s.own w w1) fun w4 H4 e4=>by
     refine ⟨A'.length,by omega,A',y::B,by simp,by omega,rfl,fun z hz=>?_,?_,E3.tr ((Ext.refl _ w3).drew.tr e4)⟩
     ·rcases aN.1 hz with rfl|hz
      ·exact .inl Am
      ·exact hB z hz
     ·have e:((P++(A'++[y])++x::B++M.drop (k+1)++Q).set (a+A'.length+1) y).set (a+A'.length) x=P++A'++x::y::B++M.drop (k+1)++Q:=by
       rw[show P++(A'++[y])++x::B++M.drop (k+1)++Q=(P++A')++y::x::(B++M.drop (k+1)++Q) by simp];rw[TK (by simp[ha])];simp
      rw[e]at H4;exact H4
    rw[hg]at IJ;cases IJ;refine ⟨fun w'=>w'=w3.drew,rfl,by omega,by omega,Nn.of ?_⟩;simp only[add_lit,aa,aH,aj];refine Dk (x:=some ⟨y.1,0,none⟩) (fun w' e=>e▸c2) ⟨by omega,by omega,Nn.of ?_⟩;simp only[add_lit,aa,aH,aj];refine Dk (x:=some ⟨x.1,0,none⟩) (fun w' e=>e▸c1) ⟨by omega,by omega,Nn.of ?_⟩;simp only[add_lit,aa,aH,aj];have eR:=IT;unfold St at eR⊢;exact ⟨eR.1,by omega,by omega,Nn.of (by simp only[add_lit,aj];exact eR.2)⟩
   ·refine fin w3 H3 E3 fun z hz=>?_
    have hle:W y.1<=W x.1:=by
     have:=fun h=>q3 (hr.2 h)
     omega
    have hyx:lt W y x:=RP hle (AMe y (by simp));rcases aQ.1 hz with hz|hz
    ·have hsA:=(GY.1 (GY.1 hs).1).2.2;exact lt_trans (hsA z hz y (by simp)) hyx
    ·rw[az.1 hz];exact hyx
  ·have hA0:A=[]:=aw (by omega);exact fin _ (H2.still (Ext.refl _ w2).drew) (e2.tr (Ext.refl _ w2).drew) fun z hz=>by rw[hA0]at hz;cases hz
 ·have YD:M.length<=k:=by omega
  refine ⟨e1,M1,?_,hs,?_⟩
  ·rw[aX YD]at hp;exact hp
  ·rw[bR YD]at H1;simpa using H1
end
end Ey
namespace Ey
open Sh
attribute [local irreducible] Ld St Nw Nn Lt AP
section
variable {w w1:World} {s:AA} {T:List E} {W:Nat->Int} {c:Addr}
theorem SS.NJ{i j:Nat}{x y:E}{ii jj:Int}{K:World->Prop}(h:SS w s T c W)(gi:T[i]?=some x)(gj:T[j]?=some y)(MG:i≠j)(hi:ii=(i:Int))(hj:jj=(j:Int))
  (k:∀w1,SS w1 s ((T.set i y).set j x) c W->Ext s.own w w1->K w1):
  ∃vS:World->Prop,vS w.drew/\0<=jj/\jj<(s.len:Nat)/\Nn s.p fun a=>AP vS (a.add (jj.toNat*1)) Value.pointer fun (x1:Option Addr)=>0<=ii/\ii<(s.len:Nat)/\Nn s.p fun a=>AP vS (a.add (ii.toNat*1)) Value.pointer fun (x2:Option Addr)=>
   0<=ii/\ii<(s.len:Nat)/\Nn s.p fun a=>St w.drew (a.add (ii.toNat*1)) (.pointer x1) fun w2=>0<=jj/\jj<(s.len:Nat)/\Nn s.p fun a=>St w2 (a.add (jj.toNat*1)) (.pointer x2) K:=by
 subst hi hj;have li:=(ao.1 gi).1;have lj:=(ao.1 gj).1;have hl:=h.row.len;have hd:=h.still (Ext.refl _ w).drew;obtain ⟨g,hg,c1,c2,IT⟩:=hd.swap gi gj MG (K:=K) fun w1 H1 e1=>k w1 H1 ((Ext.refl _ w).drew.tr e1)
 rw[hg];refine ⟨fun w'=>w'=w.drew,rfl,by omega,by omega,Nn.of ?_⟩;simp only[add_lit,aa,aH,aj];refine Dk (x:=some ⟨y.1,0,none⟩) (fun w' e=>e▸c2) ⟨by omega,by omega,Nn.of ?_⟩;simp only[add_lit,aa,aH,aj];refine Dk (x:=some ⟨x.1,0,none⟩) (fun w' e=>e▸c1) ⟨by omega,by omega,Nn.of ?_⟩;simp only[add_lit,aa,aH,aj];have eR:=IT;unfold St at eR⊢;exact ⟨eR.1,by omega,by omega,Nn.of (by simp only[add_lit,aj];exact eR.2)⟩
theorem VA {P X Z Y Q:List E}(h:SS w s (P++X++Z++Y++Q) c W){a b n:Nat}(ha:P.length=a)(hb:a+X.length+Z.length=b)(hX:X.length=n)(hY:Y.length=n)(f:Value):
  qd s (a:Int) (b:Int) (n:Int) f w fun w1=>Ext s.own w w1/\SS w1 s (P++Y++Z++X++Q) c W:=by
 refine ASy _ _ _ _ _ _ _ ?_;unfold ALG;have JA:=h.Nu;simp only[ae]at JA;refine ⟨fun m st w1=>∃i:Nat,st=(i:Int)/\i<=n/\m=n-i/\SS w1 s (P++Y.take i++X.drop i++Z++X.take i++Y.drop i++Q) c W/\Ext s.own w w1,n,⟨0,rfl,by omega,rfl,by simpa using h,Ext.refl _ _⟩,?_⟩;rintro m st w1 ⟨i,rfl,hi,rfl,H1,e1⟩;unfold qh;refine Br.dec (fun q=>?_) fun q=>?_
 ·have Uk:i<n:=by omega
  have dX:X.drop i=X[i]::X.drop (i+1):=aS (by omega);have dY:Y.drop i=Y[i]::Y.drop (i+1):=aS (by omega);have tX:X.take (i+1)=X.take i++[X[i]]:=by rw[aO,ad (by omega)];rfl
  have tY:Y.take (i+1)=Y.take i++[Y[i]]:=by rw[aO,ad (by omega)];rfl
  have lX:(X.take i).length=i:=by rw[au];omega
  have lY:(Y.take i).length=i:=by rw[au];omega
  have lD:(X.drop (i+1)).length=n-(i+1):=by rw[aJ];omega
  generalize X[i]=x at dX tX;generalize Y[i]=y at dY tY;rw[dX,dY]at H1;have f1:P++Y.take i++(x::X.drop (i+1))++Z++X.take i++(y::Y.drop (i+1))++Q=(P++Y.take i)++x::(X.drop (i+1)++Z++X.take i++(y::Y.drop (i+1))++Q):=by simp
  have f2:P++Y.take i++(x::X.drop (i+1))++Z++X.take i++(y::Y.drop (i+1))++Q=(P++Y.take i++x::X.drop (i+1)++Z++X.take i)++y::(Y.drop (i+1)++Q):=by simp
  have gi:(P++Y.take i++(x::X.drop (i+1))++Z++X.take i++(y::Y.drop (i+1))++Q)[a+i]?=some x:=by
   rw[f1];exact ES (by simp[ha,lY])
  have gj:(P++Y.take i++(x::X.drop (i+1))++Z++X.take i++(y::Y.drop (i+1))++Q)[b+i]?=some y:=by
   rw[f2];exact ES (by simp only[ae,aA,lX,lY,lD,ha];omega)
  rw[AE (n:=(b:Int)+(i:Int)) (by omega),AE (n:=(a:Int)+(i:Int)) (by omega)];refine H1.NJ gi gj (by omega) (by omega) (by omega) fun w2 H2 e2=>?_
  refine ⟨n-(i+1),by omega,i+1,by rw[AE (by omega)];rfl,by omega,rfl,?_,e1.tr e2⟩;have e:((P++Y.take i++(x::X.drop (i+1))++Z++X.take i++(y::Y.drop (i+1))++Q).set (a+i) y).set (b+i) x=P++Y.take (i+1)++X.drop (i+1)++Z++X.take (i+1)++Y.drop (i+1)++Q:=by
   rw[f1,FI (by simp[ha,lY])];rw[show (P++Y.take i)++y::(X.drop (i+1)++Z++X.take i++(y::Y.drop (i+1))++Q)=(P++Y.take i++y::X.drop (i+1)++Z++X.take i)++y::(Y.drop (i+1)++Q) by simp];rw[FI (by simp only[ae,aA,lX,lY,lD,ha];omega),tX,tY];simp
  rw[e]at H2;exact H2
 ·have:i=n:=by omega
  subst this;rw[aX (by omega),aX (by omega),bR (by omega),bR (by omega)]at H1;exact ⟨e1,by simpa using H1⟩
theorem AM2 {P U V Q:List E}(h:SS w s (P++U++V++Q) c W){a m b:Nat}(ha:P.length=a)(hm:a+U.length=m)(hb:m+V.length=b)(hU:U≠[])(hV:V≠[])(f:Value):
  AEq s (a:Int) (m:Int) (b:Int) f w fun w1=>Ext s.own w w1/\SS w1 s (P++V++U++Q) c W:=by
 refine ASz _ _ _ _ _ _ _ ?_;unfold ALI;have JA:=h.Nu;simp only[ae]at JA;have lU:=ch.2 hU;have lV:=ch.2 hV;rw[AE (n:=(m:Int)-(a:Int)) (by omega),AE (n:=(b:Int)-(m:Int)) (by omega)];refine ⟨fun n st w1=>∃(P' X Y Q':List E),st=((X.length:Int),(Y.length:Int))/\n=X.length+Y.length/\P'.length+X.length=m/\1<=X.length/\1<=Y.length/\P'++Y++X++Q'=P++V++U++Q/\SS w1 s (P'++X++Y++Q') c W/\Ext s.own w w1,U.length+V.length,⟨P,U,V,Q,by simp only[Prod.mk.injEq];omega,rfl,by omega,lU,lV,rfl,h,Ext.refl _ _⟩,?_⟩;rintro n st w1 ⟨P',X,Y,Q',rfl,rfl,hPX,lX,lY,He,H1,e1⟩;unfold qi;dsimp only;have hlen:=bI List.length He;simp only[ae]at hlen;rw[AE (n:=(m:Int)-(X.length:Int)) (by omega),show (m:Int)-(X.length:Int)=((P'.length:Nat):Int) by omega];refine Br.ne (fun q=>Br.dec (fun q2=>?_) fun q2=>?_) fun q=>?_
 ·obtain ⟨X1,X2,rfl,l1⟩:=U9 (l:=X) (i:=Y.length) (by omega);simp only[ae]at*;refine (VA (P:=P') (X:=X1) (Z:=X2) (Y:=Y) (Q:=Q') (a:=P'.length) (b:=m) (n:=Y.length) (by simpa using H1) rfl (by omega) l1 rfl f).mono ?_;rintro w2 ⟨e2,H2⟩;refine ⟨X2.length+X1.length,by omega,P'++Y,X2,X1,Q',?_,rfl,by simp;omega,by omega,by omega,by rw[<-He];simp,by simpa using H2,e1.tr e2⟩;rw[AE (by omega)];simp only[Prod.mk.injEq];omega
 ·obtain ⟨Y1,Y2,rfl,l1⟩:=U9 (l:=Y) (i:=Y.length-X.length) (by omega);simp only[ae]at*;have e3:wrap .i64 (wrap .i64 ((m:Int)+((Y1.length+Y2.length:Nat):Int))-(X.length:Int))=((P'.length+X.length+Y1.length:Nat):Int):=by
   rw[AE (n:=(m:Int)+((Y1.length+Y2.length:Nat):Int)) (by omega),AE (by omega)];omega
  rw[e3];refine (VA (P:=P') (X:=X) (Z:=Y1) (Y:=Y2) (Q:=Q') (a:=P'.length) (b:=P'.length+X.length+Y1.length) (n:=X.length) (by simpa using H1) rfl rfl rfl (by omega) f).mono ?_;rintro w2 ⟨e2,H2⟩;refine ⟨Y2.length+Y1.length,by omega,P',Y2,Y1,X++Q',?_,rfl,by omega,by omega,by omega,by rw[<-He];simp,by simpa using H2,e1.tr e2⟩;rw[AE (by omega)];simp only[Prod.mk.injEq];omega
 ·have hXY:X.length=Y.length:=by omega
  refine (VA (P:=P') (X:=X) (Z:=[]) (Y:=Y) (Q:=Q') (a:=P'.length) (b:=m) (n:=X.length) (by simpa using H1) rfl (by simpa using hPX) rfl hXY.symm f).mono ?_;rintro w2 ⟨e2,H2⟩;refine ⟨e1.tr e2,?_⟩;rw[<-He];simpa using H2
end
end Ey
set_option maxHeartbeats 4000000
namespace Ey
open Sh
theorem Dr {α β:Type}{a c:α}{b d:β}(h:a=c)(k:b=d):(a,b)=(c,d):=by rw[h,k]
theorem KW {n:Int}(h:0<=n/\n<=18446744073709551615):wrap .u64 n=n:=IntWalk.u64_in n h
theorem half {x y:Nat}(h:x+y<=8000000):wrap .i64 (Int.fdiv (wrap .u64 (wrap .i64 ((x:Int)+(y:Int)))) (2^1))=(((x+y)/2:Nat):Int):=by
 rw[AE (n:=(x:Int)+(y:Int)) (by omega),KW (by omega),DS.fdiv_pow,show (2:Int)^1=2 by decide,AE (by omega)];omega
theorem JM {W:Nat->Int}{l:List E}(h:So W l){i j:Nat}{x y:E}(hi:l[i]?=some x)(hj:l[j]?=some y)(MG:i<=j):W x.1<=W y.1:=by
 by_cases e:i=j
 ·subst e;rw[hi]at hj;cases hj;exact bH _
 ·obtain ⟨li,rfl⟩:=ao.1 hi;obtain ⟨lj,rfl⟩:=ao.1 hj;exact le_of_lt (List.pairwise_iff_getElem.1 h i j li lj (by omega))
attribute [local irreducible] Ld St Nw Nn Lt AP
section
variable {w w1:World} {s:AA} {T:List E} {W:Nat->Int} {c:Addr}
theorem SS.RS{i j:Nat}{x y:E}{ii jj:Int}{K:Int->World->Prop}(h:SS w s T c W)(gi:T[i]?=some x)(gj:T[j]?=some y)(hi:ii=(i:Int))(hj:jj=(j:Int))
  (k:∀r w1,(r<0↔W x.1<W y.1)->SS w1 s T c W->Ext s.own w w1->K r w1):
  0<=ii/\ii<(s.len:Nat)/\Nn s.p fun a=>Ld w.drew (a.add (ii.toNat*1)) Value.pointer fun (x1:Option Addr)=>0<=jj/\jj<(s.len:Nat)/\Nn s.p fun a=>Ld w.drew (a.add (jj.toNat*1)) Value.pointer fun (x2:Option Addr)=>
   Yk x1 x2 c w.drew fun r w2=>K r w2:=by
 subst hi hj;have li:=(ao.1 gi).1;have lj:=(ao.1 gj).1;have hl:=h.row.len;have hd:=h.still (Ext.refl _ w).drew;obtain ⟨g,hg,c1⟩:=hd.row.get gi;obtain ⟨g',IJ,c2⟩:=hd.row.get gj;rw[hg]at IJ;cases IJ;rw[hg];refine ⟨by omega,by omega,Nn.of ?_⟩;simp only[add_lit,aa,aH,aj];refine Ld.mk c1 ⟨by omega,by omega,Nn.of ?_⟩;simp only[add_lit,aa,aH,aj];refine Ld.mk c2 ((ABt hd (aB gi) (aB gj)).mono ?_);rintro r w2 ⟨hr,H2,e2⟩;exact k r w2 hr H2 ((Ext.refl _ w).drew.tr e2)
abbrev uN (c:Addr):Value:= .func (.func 204) #[] #[.pointer (some c)]
theorem AGA {P V Q:List E}{u:E}(h:SS w s (P++[u]++V++Q) c W)(hV:So W V)(hT:Tg [u] V){a b:Nat}(ha:P.length=a)(hb:a+1+V.length=b):
  Wd s (a:Int) ((a+1:Nat):Int) (b:Int) (uN c) w fun w1=>Ext s.own w w1/\∃M',M'.Perm ([u]++V)/\So W M'/\SS w1 s (P++M'++Q) c W:=by
 refine Mt _ _ _ _ _ _ _ ?_;unfold JZ;have JA:=h.Nu;simp only[ae,cT]at JA;refine Ey.Br.t (by rw[AE (by omega)];simp;omega) ?_;have gu:(P++[u]++V++Q)[a]?=some u:=by
  rw[show P++[u]++V++Q=P++u::(V++Q) by simp];exact ES ha
 have gv:∀i v,V[i]?=some v->(P++[u]++V++Q)[a+1+i]?=some v:=fun i v hi=>by
  have li:=(ao.1 hi).1;rw[aG (by simp only[ae,cT];omega),aF (by simp;omega)];rw[show a+1+i-(P++[u]).length=i by simp;omega];exact hi
 refine ⟨fun n st w1=>∃p q:Nat,st=(((a+1+p:Nat):Int),((a+1+q:Nat):Int))/\p<=q/\q<=V.length/\n=q-p/\(∀i v,i<p->V[i]?=some v->W v.1<W u.1)/\(∀i v,q<=i->V[i]?=some v->W u.1<=W v.1)/\SS w1 s (P++[u]++V++Q) c W/\Ext s.own w w1,V.length,
  ⟨0,V.length,Dr (by omega) (by omega),by omega,av _,rfl,fun i v hi=>by omega,fun i v hi hv=>by have:=(ao.1 hv).1;omega,h,Ext.refl _ _⟩,?_⟩
 rintro n st w1 ⟨p,q,rfl,Rb,hq,rfl,lo,hi,H1,e1⟩;unfold Ni;dsimp only;refine Br.dec (fun q1=>?_) fun q1=>?_
 ·rw[half (by omega)];obtain ⟨t,ht⟩:∃t,(a+1+p+(a+1+q))/2=a+1+t:=⟨(p+q)/2,by omega⟩
  have htq:p<=t/\t<q:=by omega
  rw[ht];have gt:V[t]?=some V[t]:=ad (by omega);generalize V[t]=v at gt;refine H1.RS (gv t v gt) gu rfl rfl fun r w2 hr H2 e2=>?_
  refine Br.dec (fun q2=>Lt.of ?_) fun q2=>?_
  ·have hvu:=hr.1 q2;refine ⟨q-(t+1),by omega,t+1,q,?_,by omega,hq,rfl,fun i x hix hx=>?_,hi,H2,e1.tr e2⟩
   ·exact Dr (by rw[AE (by omega)];omega) rfl
   ·have:=JM hV hx gt (by omega);omega
  ·have hvu:W u.1<=W v.1:=by
    have:=fun h=>q2 (hr.2 h)
    omega
   refine ⟨t-p,by omega,p,t,rfl,by omega,by omega,rfl,lo,fun i x hix hx=>?_,H2,e1.tr e2⟩;have:=JM hV gt hx hix;omega
 ·have AGB:p=q:=by omega
  subst AGB;refine ⟨fun n st w2=>∃t:Nat,st=((a+t:Nat):Int)/\t<=p/\n=p-t/\SS w2 s (P++V.take t++[u]++V.drop t++Q) c W/\Ext s.own w w2,p,⟨0,by simp,by omega,rfl,by simpa using H1,e1⟩,?_⟩;rintro n st w2 ⟨t,rfl,ht,rfl,H2,e2⟩;unfold Nh;dsimp only;have lT:(V.take t).length=t:=by rw[au];omega
  rw[AE (n:=((a+1+p:Nat):Int)-1) (by omega)];refine Br.dec (fun q2=>?_) fun q2=>?_
  ·have htp:t<p:=by omega
   have dV:V.drop t=V[t]::V.drop (t+1):=aS (by omega);have tV:V.take (t+1)=V.take t++[V[t]]:=by rw[aO,ad (by omega)];rfl
   generalize V[t]=v at dV tV;rw[dV]at H2;have f:P++V.take t++[u]++(v::V.drop (t+1))++Q=(P++V.take t)++u::v::(V.drop (t+1)++Q):=by simp
   rw[f]at H2;have lP:(P++V.take t).length=a+t:=by simp[ha,lT]
   refine H2.NJ (i:=a+t) (j:=a+t+1) (ES lP) (by rw[show (P++V.take t)++u::v::(V.drop (t+1)++Q)=(P++V.take t++[u])++v::(V.drop (t+1)++Q) by simp];exact ES (by simp[ha,lT];omega)) (by omega) rfl (by rw[AE (by omega)];omega) fun w3 H3 e3=>?_
   rw[uK lP]at H3;refine ⟨p-(t+1),by omega,t+1,by rw[AE (by omega)];omega,by omega,rfl,?_,e2.tr e3⟩;rw[tV];simpa using H3
  ·have htp:t=p:=by omega
   subst htp;refine ⟨e2,V.take t++u::V.drop t,?_,eQ (by rw[aW];exact hV) (fun y hy=>?_) fun y hy=>?_,by simpa using H2⟩
   ·rw[List.singleton_append];refine List.perm_middle.trans (List.Perm.cons u ?_);rw[aW]
   ·obtain ⟨i,Xy⟩:=bU.1 hy;rw[aU]at Xy;split at Xy
    ·rename_i hit;exact .inl (lo i y hit Xy)
    ·cases Xy
   ·obtain ⟨i,Xy⟩:=bU.1 hy;rw[bW]at Xy;exact RP (hi _ y (by omega) Xy) (hT u (by simp) y (aB Xy))
theorem AGC {P U Q:List E}{v:E}(h:SS w s (P++U++[v]++Q) c W)(hU:So W U)(hT:Tg U [v])(hl:U.length≠1){a m:Nat}(ha:P.length=a)(hm:a+U.length=m):
  Wd s (a:Int) (m:Int) ((m+1:Nat):Int) (uN c) w fun w1=>Ext s.own w w1/\∃M',M'.Perm (U++[v])/\So W M'/\SS w1 s (P++M'++Q) c W:=by
 refine Mt _ _ _ _ _ _ _ ?_;unfold JZ;have JA:=h.Nu;simp only[ae,cT]at JA;refine Ey.Br.f (by rw[AE (by omega)];simp;omega) (Ey.Br.t (by rw[AE (by omega)];simp;omega) ?_);have gv:(P++U++[v]++Q)[m]?=some v:=by
  rw[show P++U++[v]++Q=(P++U)++v::Q by simp];exact ES (by simp[ha,hm])
 have gu:∀i u,U[i]?=some u->(P++U++[v]++Q)[a+i]?=some u:=fun i u hi=>by
  have li:=(ao.1 hi).1;rw[ax,aG (by simp;omega),aF (by omega),show a+i-P.length=i by omega];exact hi
 refine ⟨fun n st w1=>∃p q:Nat,st=(((a+p:Nat):Int),((a+q:Nat):Int))/\p<=q/\q<=U.length/\n=q-p/\(∀i u,i<p->U[i]?=some u->W u.1<=W v.1)/\(∀i u,q<=i->U[i]?=some u->W v.1<W u.1)/\SS w1 s (P++U++[v]++Q) c W/\Ext s.own w w1,U.length,
  ⟨0,U.length,Dr (by omega) (by omega),by omega,av _,rfl,fun i v hi=>by omega,fun i v hi hv=>by have:=(ao.1 hv).1;omega,h,Ext.refl _ _⟩,?_⟩
 rintro n st w1 ⟨p,q,rfl,Rb,hq,rfl,lo,hi,H1,e1⟩;unfold Nk;dsimp only;refine Br.dec (fun q1=>?_) fun q1=>?_
 ·rw[half (by omega)];obtain ⟨t,ht⟩:∃t,(a+p+(a+q))/2=a+t:=⟨(p+q)/2,by omega⟩
  have htq:p<=t/\t<q:=by omega
  rw[ht];have gt:U[t]?=some U[t]:=ad (by omega);generalize U[t]=u at gt;refine H1.RS gv (gu t u gt) rfl rfl fun r w2 hr H2 e2=>?_
  by_cases q2:r<0
  ·have hvu:=hr.1 q2;refine Ey.Br.f (by simp[q2]) ⟨t-p,by omega,p,t,rfl,by omega,by omega,rfl,lo,fun i x hix hx=>?_,H2,e1.tr e2⟩;have:=JM hU gt hx hix;omega
  ·have hvu:W u.1<=W v.1:=by
    have:=fun h=>q2 (hr.2 h)
    omega
   refine Ey.Br.t (by simp[q2]) (Lt.of ⟨q-(t+1),by omega,t+1,q,?_,by omega,hq,rfl,fun i x hix hx=>?_,hi,H2,e1.tr e2⟩)
   ·exact Dr (by rw[AE (by omega)];omega) rfl
   ·have:=JM hU hx gt (by omega);omega
 ·have AGB:p=q:=by omega
  subst AGB;refine ⟨fun n st w2=>∃t:Nat,st=((a+t:Nat):Int)/\p<=t/\t<=U.length/\n=t-p/\SS w2 s (P++U.take t++[v]++U.drop t++Q) c W/\Ext s.own w w2,U.length-p,⟨U.length,by omega,by omega,av _,rfl,by simpa using H1,e1⟩,?_⟩;rintro n st w2 ⟨t,rfl,hpt,ht,rfl,H2,e2⟩;unfold Nj;dsimp only;refine Br.dec (fun q2=>?_) fun q2=>?_
  ·obtain ⟨t,rfl⟩:∃t',t=t'+1:=⟨t-1,by omega⟩
   have lT:(U.take t).length=t:=by rw[au];omega
   have dU:U.drop t=U[t]::U.drop (t+1):=aS (by omega);have tU:U.take (t+1)=U.take t++[U[t]]:=by rw[aO,ad (by omega)];rfl
   generalize U[t]=u at dU tU;rw[tU]at H2;have f:P++(U.take t++[u])++[v]++U.drop (t+1)++Q=(P++U.take t)++u::v::(U.drop (t+1)++Q):=by simp
   rw[f]at H2;have lP:(P++U.take t).length=a+t:=by simp[ha,lT]
   refine H2.NJ (i:=a+t+1) (j:=a+t) (by rw[show (P++U.take t)++u::v::(U.drop (t+1)++Q)=(P++U.take t++[u])++v::(U.drop (t+1)++Q) by simp];exact ES (by simp[ha,lT];omega)) (ES lP) (by omega) (by omega) (by rw[AE (by omega)];omega) fun w3 H3 e3=>?_
   rw[TK lP]at H3;refine ⟨t-p,by omega,t,by rw[AE (by omega)];omega,by omega,by omega,rfl,?_,e2.tr e3⟩;rw[dU];simpa using H3
  ·have htp:t=p:=by omega
   subst htp;refine ⟨e2,U.take t++v::U.drop t,?_,eQ (by rw[aW];exact hU) (fun y hy=>?_) fun y hy=>?_,by simpa using H2⟩
   ·refine (List.perm_middle.trans (List.Perm.cons v ?_)).trans (List.perm_append_singleton v U).symm;rw[aW]
   ·obtain ⟨i,Xy⟩:=bU.1 hy;rw[aU]at Xy;split at Xy
    ·rename_i hit;exact RP (lo i y hit Xy) (hT y (aB Xy) v (by simp))
    ·cases Xy
   ·obtain ⟨i,Xy⟩:=bU.1 hy;rw[bW]at Xy;exact .inl (hi _ y (by omega) Xy)
end
end Ey
namespace Ey
open Sh
attribute [local irreducible] Ld St Nw Nn Lt AP
theorem uO {A B C D:List E}{i j:Nat}{x:E}(h:B[j]?=some x)(hi:A.length+j=i):(A++B++C++D)[i]?=some x:=by
 have lj:=(ao.1 h).1;rw[ax,ax,aF (by omega),aG (by omega),show i-A.length=j by omega];exact h
theorem lE {A B C D:List E}{i j:Nat}{x:E}(h:C[j]?=some x)(hi:A.length+B.length+j=i):(A++B++C++D)[i]?=some x:=by
 have lj:=(ao.1 h).1;rw[ax,aF (by rw[ae];omega),aG (by rw[ae];omega),ae,show i-(A.length+B.length)=j by omega];exact h
section
variable {w w1:World} {s:AA} {T:List E} {W:Nat->Int} {c:Addr}
theorem jA {l:List E}{k:Nat}{x:E}(h:l[k]?=some x):∃A,l.take (k+1)=A++[x]:=⟨l.take k,by rw[aO,h];rfl⟩
theorem Xz {l:List E}{k:Nat}{x:E}(h:l[k]?=some x):∃B,l.drop k=x::B:=by
 obtain ⟨lk,rfl⟩:=ao.1 h;exact ⟨l.drop (k+1),aS lk⟩
theorem jB:∀(N:Nat) {w:World} {P U V Q:List E} {a m b:Nat},SS w s (P++U++V++Q) c W->So W U->So W V->Tg U V->U≠[]->V≠[]->P.length=a->a+U.length=m->m+V.length=b->U.length+V.length<=N->
  Wd s (a:Int) (m:Int) (b:Int) (uN c) w fun w1=>Ext s.own w w1/\∃M',M'.Perm (U++V)/\So W M'/\SS w1 s (P++M'++Q) c W
 |0,w,P,U,V,Q,a,m,b,_,_,_,_,hU0,_,_,_,_,hN=>absurd (aw (by omega)) hU0
 |N+1,w,P,U,V,Q,a,m,b,h,hU,hV,hT,hU0,hV0,ha,hm,hb,hN=>by
  have lU:=ch.2 hU0;have lV:=ch.2 hV0;by_cases u1:U.length=1
  ·obtain ⟨u,rfl⟩:∃u,U=[u]:=by
    match U,u1 with
    |[u],_=>exact ⟨u,rfl⟩
   have:=AGA (u:=u) h hV hT ha (b:=b) (by simp at hm;omega);simp only[cT]at hm;rw[hm]at this;exact this
  by_cases v1:V.length=1
  ·obtain ⟨v,rfl⟩:∃v,V=[v]:=by
    match V,v1 with
    |[v],_=>exact ⟨v,rfl⟩
   have:=AGC (v:=v) h hU hT u1 ha hm;simp only[cT]at hb;rw[hb]at this;exact this
  refine Mt _ _ _ _ _ _ _ ?_;unfold JZ;have JA:=h.Nu;simp only[ae]at JA;refine Ey.Br.f (by rw[AE (by omega)];simp;omega) (Ey.Br.f (by rw[AE (by omega)];simp;omega) (Lt.of ?_));rw[half (by omega)];obtain ⟨GO,AGD⟩:∃GO,(a+b)/2=GO:=⟨_,rfl⟩
  rw[AGD];have hm1:a<GO/\GO<b:=by omega
  rw[AE (n:=(GO:Int)+(m:Int)) (by omega)]
 
  obtain ⟨lo,hi,Ez,Ahk,Ahl,Ahm,Ahn⟩:∃lo hi:Nat,(lo,hi)=(if m>GO then (GO+m-b,GO)else (a,m))/\a<=lo/\GO+m-b<=lo/\hi<=GO/\hi<=m:=by
   by_cases q:m>GO
   ·exact ⟨_,_,by rw[ak q],by omega,by omega,by omega,by omega⟩
   ·exact ⟨_,_,by rw[ah q],by omega,by omega,by omega,by omega⟩
  have hle:lo<=hi:=by
   by_cases q:m>GO
   ·rw[ak q]at Ez;cases Ez;omega
   ·rw[ah q]at Ez;cases Ez;omega
  refine ⟨fun (st:Int×Int) w1=>st=((lo:Int),(hi:Int))/\w1=w,?_,?_⟩;rotate_left
  ·refine Lt.of ?_;by_cases q:m>GO
   ·rw[ak q]at Ez;cases Ez;refine Ey.Br.t (by simp;omega) ⟨Dr (by rw[AE (by omega)];omega) rfl,rfl⟩
   ·rw[ah q]at Ez;cases Ez;exact Ey.Br.f (by simp;omega) ⟨rfl,rfl⟩
  rintro st w0 ⟨rfl,rfl⟩;unfold Nq;dsimp only;have gU:∀k,lo<=k->k<hi->∃x,U[k-a]?=some x/\(P++U++V++Q)[k]?=some x:=fun k h1 h2=>by
   have hk:k-a<U.length:=by omega
   exact ⟨_,ad hk,uO (ad hk) (by omega)⟩
  have gV:∀k,lo<=k->k<hi->∃y,V[GO-1-k]?=some y/\(P++U++V++Q)[GO+m-1-k]?=some y:=fun k h1 h2=>by
   have hk:GO-1-k<V.length:=by omega
   exact ⟨_,ad hk,lE (ad hk) (by omega)⟩
  refine ⟨fun n st w1=>∃p q:Nat,st=((p:Int),(q:Int))/\lo<=p/\p<=q/\q<=hi/\n=q-p/\(∀k x y,lo<=k->k<p->U[k-a]?=some x->V[GO-1-k]?=some y->W x.1<=W y.1)/\(∀k x y,q<=k->k<hi->U[k-a]?=some x->V[GO-1-k]?=some y->W y.1<W x.1)/\SS w1 s (P++U++V++Q) c W/\Ext s.own w0 w1,hi-lo,
   ⟨lo,hi,rfl,av _,hle,av _,rfl,fun k x y h1 h2=>by omega,fun k x y h1 h2=>by omega,h,Ext.refl _ _⟩,?_⟩
  rintro n st w1 ⟨p,q,rfl,YF,Rb,hq1,rfl,below,ABw,H1,e1⟩;unfold Np;dsimp only;refine Br.dec (fun q1=>Lt.of ?_) fun q1=>?_
  ·rw[half (by omega)];obtain ⟨t,ht⟩:∃t,(p+q)/2=t:=⟨_,rfl⟩
   rw[ht];have htq:p<=t/\t<q:=by omega
   obtain ⟨x,hx,gx⟩:=gU t (by omega) (by omega);obtain ⟨y,hy,gy⟩:=gV t (by omega) (by omega);have ec:wrap .i64 (wrap .i64 ((GO:Int)+(m:Int)-1)-(t:Int))=((GO+m-1-t:Nat):Int):=by
    rw[AE (n:=(GO:Int)+(m:Int)-1) (by omega),AE (by omega)];omega
   refine H1.RS gy gx ec rfl fun r w2 hr H2 e2=>?_
   by_cases q2:r<0
   ·have hyx:=hr.1 q2;refine Ey.Br.f (by simp[q2]) ⟨t-p,by omega,p,t,rfl,YF,by omega,by omega,rfl,below,fun k x' y' h1 h2 hx' hy'=>?_,H2,e1.tr e2⟩;have a1:=JM hU hx hx' (by omega);have a2:=JM hV hy' hy (by omega);omega
   ·have hxy:W x.1<=W y.1:=by
     have:=fun h=>q2 (hr.2 h)
     omega
    refine Ey.Br.t (by simp[q2]) ⟨q-(t+1),by omega,t+1,q,Dr (by rw[AE (by omega)];omega) rfl,by omega,by omega,hq1,rfl,fun k x' y' h1 h2 hx' hy'=>?_,ABw,H2,e1.tr e2⟩;have a1:=JM hU hx' hx (by omega);have a2:=JM hV hy hy' (by omega);omega
  ·have:p=q:=by omega
   subst this;have He:wrap .i64 ((GO:Int)+(m:Int)-(p:Int))=((GO+m-p:Nat):Int):=by rw[AE (by omega)];omega
   rw[He];obtain ⟨U1,U2,eU,lU1⟩:=U9 (l:=U) (i:=p-a) (by omega);obtain ⟨V1,V2,eV,lV1⟩:=U9 (l:=V) (i:=GO-p) (by omega);have lU2:U2.length=m-p:=by have:=bI List.length eU;rw[ae]at this;omega
   have lV2:V2.length=b-(GO+m-p):=by have:=bI List.length eV;rw[ae]at this;omega
   have tU:U.take (p-a)=U1:=by rw[eU,<-lU1];simp
   have dU:U.drop (p-a)=U2:=by rw[eU,<-lU1];simp
   have tV:V.take (GO-p)=V1:=by rw[eV,<-lV1];simp
   have dV:V.drop (GO-p)=V2:=by rw[eV,<-lV1];simp
   have AM4:∀x∈U1++V1,∀y∈U2++V2,lt W x y:=by
    refine k9 (by rw[<-eU];exact hU) (by rw[<-eV];exact hV) (by rw[<-eU,<-eV];exact hT) ?_ ?_
    ·by_cases OH:p=lo
     ·by_cases q:m>GO
      ·rw[ak q]at Ez;cases Ez;exact .inr (.inl (aw (by omega)))
      ·rw[ah q]at Ez;cases Ez;exact .inl (aw (by omega))
     ·refine .inr (.inr ?_);obtain ⟨x,hx,_⟩:=gU (p-1) (by omega) (by omega);obtain ⟨y,hy,_⟩:=gV (p-1) (by omega) (by omega);obtain ⟨A,hA⟩:=jA hx;obtain ⟨B,hB⟩:=Xz hy;rw[show p-1-a+1=p-a by omega,tU]at hA;rw[show GO-1-(p-1)=GO-p by omega,dV]at hB;exact ⟨A,x,y,B,hA,hB,below (p-1) x y (by omega) (by omega) hx hy⟩
    ·by_cases hph:p=hi
     ·by_cases q:m>GO
      ·rw[ak q]at Ez;cases Ez;exact .inl (aw (by omega))
      ·rw[ah q]at Ez;cases Ez;exact .inr (.inl (aw (by omega)))
     ·refine .inr (.inr ?_);obtain ⟨x,hx,_⟩:=gU p (by omega) (by omega);obtain ⟨y,hy,_⟩:=gV p (by omega) (by omega);obtain ⟨A,hA⟩:=jA hy;obtain ⟨B,hB⟩:=Xz hx;rw[show GO-1-p+1=GO-p by omega,tV]at hA;rw[dU]at hB;exact ⟨A,y,x,B,hA,hB,ABw p x y (by omega) (by omega) hx hy⟩
   subst eU eV;simp only[ae]at*;obtain ⟨sU1,sU2,_⟩:=GY.1 hU;obtain ⟨sV1,sV2,_⟩:=GY.1 hV;have T1:Tg U1 V1:=hT.sub (fun a ha=>cF _ ha) (fun a ha=>cF _ ha);have T2:Tg U2 V2:=hT.sub (fun a ha=>di _ ha) (fun a ha=>di _ ha);refine ⟨fun (_:Unit) w2=>SS w2 s (P++U1++V1++(U2++V2++Q)) c W/\Ext s.own w0 w2,?_,?_⟩;rotate_left
   ·by_cases q2:p<m/\m<GO+m-p
    ·refine Ey.Br.t (by simp;omega) (Ey.Br.t (by simp;omega) ?_);refine (AM2 (P:=P++U1) (U:=U2) (V:=V1) (Q:=V2++Q) (by simpa using H1) (by simp;omega) (by omega) (by omega) (by intro e;rw[e]at lU2;simp at lU2;omega) (by intro e;rw[e]at lV1;simp at lV1;omega) _).mono ?_;rintro w2 ⟨e2,H2⟩;exact ⟨by simpa using H2,e1.tr e2⟩
    ·have Iv:U2=[]\/V1=[]:=by
      rcases bX p m with h1|h1
      ·exact .inr (aw (by omega))
      ·exact .inl (aw (by omega))
     have H1':SS w1 s (P++U1++V1++(U2++V2++Q)) c W:=by
      rcases Iv with e|e
      ·rw[e]at H1⊢;simpa using H1
      ·rw[e]at H1⊢;simpa using H1
     refine Br.dec (fun q3=>Br.dec (fun q4=>by omega) fun q4=>⟨H1',e1⟩) fun q3=>⟨H1',e1⟩
   rintro _ w2 ⟨H2,e2⟩;unfold No;dsimp only;rw[half (by omega),AGD];refine ⟨fun (_:Unit) w3=>Ext s.own w0 w3/\∃M1,M1.Perm (U1++V1)/\So W M1/\SS w3 s (P++M1++(U2++V2++Q)) c W,?_,?_⟩;rotate_left
   ·by_cases q2:a<p/\p<GO
    ·refine Ey.Br.t (by simp;omega) (Lt.of (Ey.Br.t (by simp;omega) ?_));refine (jB N (P:=P) (U:=U1) (V:=V1) (Q:=U2++V2++Q) (a:=a) (m:=p) (b:=GO) H2 sU1 sV1 T1 (by intro e;rw[e]at lU1;simp at lU1;omega) (by intro e;rw[e]at lV1;simp at lV1;omega) ha (by omega) (by omega) (by omega)).mono ?_;rintro w3 ⟨e3,M1,p1,s1,H3⟩;exact ⟨e2.tr e3,M1,p1,s1,H3⟩
    ·have hs:So W (U1++V1):=by
      rcases bX a p with h1|h1
      ·have:V1=[]:=aw (by omega);rw[this];simpa using sU1
      ·have:U1=[]:=aw (by omega);rw[this];simpa using sV1
     refine Br.dec (fun q3=>Lt.of (Br.dec (fun q4=>by omega) fun q4=>⟨e2,U1++V1,.refl _,hs,by simpa using H2⟩)) fun q3=>⟨e2,U1++V1,.refl _,hs,by simpa using H2⟩
   rintro _ w3 ⟨e3,M1,p1,s1,H3⟩;unfold Nl;dsimp only;rw[half (by omega),AGD,He];have lM1:M1.length=GO-a:=by rw[p1.length_eq,ae];omega
   have fin:∀w4,Ext s.own w0 w4->∀M2,M2.Perm (U2++V2)->So W M2->SS w4 s (P++M1++M2++Q) c W->Ext s.own w0 w4/\∃M',M'.Perm (U1++U2++(V1++V2))/\So W M'/\SS w4 s (P++M'++Q) c W:=fun w4 e4 M2 p2 s2 H4=>by
    refine ⟨e4,M1++M2,?_,GY.2 ⟨s1,s2,fun x hx y hy=>AM4 x (p1.mem_iff.1 hx) y (p2.mem_iff.1 hy)⟩,by simpa using H4⟩;refine (p1.append p2).trans ?_;have:(V1++(U2++V2)).Perm (U2++(V1++V2)):=by
     rw[<-ax,<-ax];exact List.Perm.append_right _ List.perm_append_comm
    simpa using List.Perm.append_left U1 this
   by_cases q2:GO<GO+m-p/\GO+m-p<b
   ·refine Lt.of (Ey.Br.t (by simp;omega) (Ey.Br.t (by simp;omega) ?_));refine (jB N (P:=P++M1) (U:=U2) (V:=V2) (Q:=Q) (a:=GO) (m:=GO+m-p) (b:=b) (by simpa using H3) sU2 sV2 T2 (by intro e;rw[e]at lU2;simp at lU2;omega) (by intro e;rw[e]at lV2;simp at lV2;omega) (by rw[ae];omega) (by omega) (by omega) (by omega)).mono ?_;rintro w4 ⟨e4,M2,p2,s2,H4⟩;exact fin w4 (e3.tr e4) M2 p2 s2 H4
   ·have hs:So W (U2++V2):=by
     rcases bX GO (GO+m-p)with h1|h1
     ·have:V2=[]:=aw (by omega);rw[this];simpa using sU2
     ·have:U2=[]:=aw (by omega);rw[this];simpa using sV2
    have F:=fin w3 e3 (U2++V2) (.refl _) hs (by simpa using H3);refine Lt.of (Br.dec (fun q3=>Br.dec (fun q4=>by omega) fun q4=>F) fun q3=>F)
end
end Ey
namespace Ey
open Sh
attribute [local irreducible] Ld St Nw Nn Lt AP
theorem Sz.tail{bs:Nat}{B C:List E}{r:List (List E)}(h:Sz bs (B::C::r)):Sz bs r:=by
 match r,h with
 |[],_=>trivial
 |D::r,h=>exact h.2.2
theorem NK (Ms:List (List E))(M:List E):(Ms++[M]).flatten=Ms.flatten++M:=by simp
section
variable {w w1:World} {s:AA} {T:List E} {W:Nat->Int} {c:Addr}
theorem uP (h:SS w s T c W)(hT:T.Pairwise fun x y=>x.2<y.2):AEr s ((T.length:Nat):Int) (uN c) w fun w1=>Ext s.own w w1/\∃T',T'.Perm T/\So W T'/\SS w1 s T' c W:=by
 refine j7 _ _ _ _ _ ?_;unfold SW;have JA:=h.Nu;have tagged:∀k x y,x∈T.take k->y∈T.drop k->x.2<y.2:=fun k x y hx hy=>by
  have:=hT;rw[<-aW k T]at this;exact (bT.1 this).2.2 x hx y hy
 refine ⟨fun n st w1=>∃(k:Nat) (Ms:List (List E)),st=(((20*k:Nat):Int),((20*k+20:Nat):Int))/\20*k<=T.length/\n=T.length-20*k/\(∀M∈Ms,M.length=20)/\Bk W Ms/\Ms.flatten.Perm (T.take (20*k))/\SS w1 s (Ms.flatten++T.drop (20*k)) c W/\Ext s.own w w1,T.length,
  ⟨0,[],rfl,by omega,rfl,fun M hM=>(by cases hM),⟨fun B hB=>(by cases hB),List.Pairwise.nil⟩,by simp,by simpa using h,Ext.refl _ _⟩,?_⟩
 rintro n st w1 ⟨k,Ms,rfl,hk,rfl,hM,hB,hp,H1,e1⟩;unfold Nt;dsimp only;have lMs:Ms.flatten.length=20*k:=by rw[hp.length_eq,au];omega
 have tgM:∀M',(∀x∈M',x∈T.drop (20*k))->∀A∈Ms,Tg A M':=fun M' hM' A hA a ha b hb=>tagged (20*k) a b (hp.mem_iff.1 (List.mem_flatten.2 ⟨A,hA,ha⟩)) (hM' b hb)
 refine Br.dec (fun q=>?_) fun q=>?_
 ·have eT:T.drop (20*k)=(T.drop (20*k)).take 20++T.drop (20*k+20):=by
   rw[<-List.drop_drop,aW]
  have lM:((T.drop (20*k)).take 20).length=20:=by rw[au,aJ];omega
  have hTM:((T.drop (20*k)).take 20).Pairwise fun x y=>x.2<y.2:=(hT.drop).take
  have DD:T.take (20*k+20)=T.take (20*k)++(T.drop (20*k)).take 20:=List.take_add;have nA:∀x∈(T.drop (20*k)).take 20,x∈T.drop (20*k):=fun x hx=>cE hx
  rw[eT,<-ax]at H1;generalize (T.drop (20*k)).take 20=M at*;refine (ABu (P:=Ms.flatten) (M:=M) (Q:=T.drop (20*k+20)) H1 hTM lMs (by omega)).mono ?_;rintro w2 ⟨e2,M',pM,sM,H2⟩;have ek:20*(k+1)=20*k+20:=by omega
  refine ⟨T.length-20*(k+1),by omega,k+1,Ms++[M'],Dr (by omega) (by rw[AE (by omega)];omega),by omega,rfl,fun X hX=>?_,⟨fun X hX=>?_,?_⟩,?_,?_,e1.tr e2⟩
  ·rcases aQ.1 hX with hX|hX
   ·exact hM X hX
   ·rw[az.1 hX,pM.length_eq,lM]
  ·rcases aQ.1 hX with hX|hX
   ·exact hB.so X hX
   ·rw[az.1 hX];exact sM
  ·refine bT.2 ⟨hB.tg,ee _ _,fun A hA X hX=>?_⟩;rw[az.1 hX];exact tgM M' (fun x hx=>nA x (pM.mem_iff.1 hx)) A hA
  ·rw[NK,ek,DD];exact hp.append pM
  ·rw[NK,ek];exact H2
 ·refine (ABu (P:=Ms.flatten) (M:=T.drop (20*k)) (Q:=[]) (by simpa using H1) (hT.drop) lMs (b:=T.length) (by rw[aJ];omega)).mono ?_;rintro w2 ⟨e2,M',pM,sM,H2⟩;have lM':M'.length=T.length-20*k:=by rw[pM.length_eq,aJ]
  obtain ⟨Bs,fO,A1,Jy⟩:∃Bs,Bs.flatten=Ms.flatten++M'/\Sz 20 Bs/\Bk W Bs:=by
   by_cases Iv:M'=[]
   ·refine ⟨Ms,by rw[Iv];simp,?_,hB⟩;have:=Sz.app (bs:=20) (Rs:=[]) hM trivial (by decide);simpa using this
   ·refine ⟨Ms++[M'],NK _ _,Sz.app hM ⟨ch.2 Iv,by omega⟩ (by decide),⟨fun X hX=>?_,?_⟩⟩
    ·rcases aQ.1 hX with hX|hX
     ·exact hB.so X hX
     ·rw[az.1 hX];exact sM
    ·refine bT.2 ⟨hB.tg,ee _ _,fun A hA X hX=>?_⟩;rw[az.1 hX];exact tgM M' (fun x hx=>pM.mem_iff.1 hx) A hA
  have DR:Bs.flatten.Perm T:=by
   rw[fO];have:=hp.append pM;rwa[aW]at this
  have H2:SS w2 s Bs.flatten c W:=by rw[fO];simpa using H2
  refine ⟨fun n st w1=>∃(bs:Nat) (Bs:List (List E)),st=((bs:Nat):Int)/\20<=bs/\bs<=2*T.length+20/\n=T.length-bs/\Sz bs Bs/\Bk W Bs/\Bs.flatten.Perm T/\SS w1 s Bs.flatten c W/\Ext s.own w w1,T.length-20,⟨20,Bs,rfl,by omega,by omega,rfl,A1,Jy,DR,H2,e1.tr e2⟩,?_⟩;clear DR H2 A1 Jy fO e2 H1 e1;rintro n st w3 ⟨bs,Bs,rfl,Ahq,hbT,rfl,A1,Jy,DR,H3,e3⟩;unfold Ns;refine Br.dec (fun q2=>?_) fun q2=>⟨e3,_,DR,Jy.done A1 (by omega) (by rw[DR.length_eq];omega),H3⟩
  rw[AE (n:=2*(bs:Int)) (by omega)];refine ⟨fun n st w1=>∃(Ms Rs:List (List E)),st=(((Ms.length*(2*bs):Nat):Int),((Ms.length*(2*bs)+2*bs:Nat):Int))/\n=Rs.length/\(∀M∈Ms,M.length=2*bs)/\Sz bs Rs/\Bk W (Ms++Rs)/\(Ms++Rs).flatten.Perm T/\SS w1 s (Ms++Rs).flatten c W/\Ext s.own w w1,Bs.length,
   ⟨[],Bs,Dr (by simp) (by simp),rfl,fun M hM=>(by cases hM),A1,Jy,DR,H3,e3⟩,?_⟩
  clear DR H3 A1 Jy e3;rintro n st w4 ⟨Ms,Rs,rfl,rfl,hM,A1,Jy,DR,H4,e4⟩;unfold Nr;dsimp only;have lMs:=TJ hM;have GZ:Ms.flatten.length+Rs.flatten.length=T.length:=by rw[<-ae,<-List.flatten_append];exact DR.length_eq
  have hb0:1<=bs:=by omega
  have fin:∀(w5:World) (Rs':List (List E)),Sz (2*bs) Rs'->Bk W (Ms++Rs')->(Ms++Rs').flatten.Perm T->SS w5 s (Ms++Rs').flatten c W->Ext s.own w w5->∃n',n'<T.length-bs/\∃(bs':Nat) (Bs:List (List E)),wrap .i64 ((bs:Int)*2)=((bs':Nat):Int)/\20<=bs'/\bs'<=2*T.length+20/\n'=T.length-bs'/\Sz bs' Bs/\Bk W Bs/\Bs.flatten.Perm T/\SS w5 s Bs.flatten c W/\Ext s.own w w5:=
   fun w5 Rs' z1 z2 z3 z4 z5=>⟨T.length-2*bs,by omega,2*bs,Ms++Rs',by rw[AE (by omega)];omega,by omega,by omega,rfl,Sz.app hM z1 (by omega),z2,z3,z4,z5⟩
  generalize hA:Ms.length*(2*bs)=A at*;rw[AE (n:=(A:Int)+(bs:Int)) (by omega),show (A:Int)+(bs:Int)=((A+bs:Nat):Int) by omega];refine Br.dec (fun q3=>?_) fun q3=>Br.dec (fun q4=>?_) fun q4=>?_
  ·match Rs,A1,Jy,DR,H4,GZ with
   |[],_,_,_,_,GZ=>simp only[c9,bq]at GZ;omega
   |[B],A1,_,_,_,GZ=>
    have h2:=A1.2;simp only[ct,c9,ae,bq,aM]at GZ;omega
   |B::C::r,A1,Jy,DR,H4,GZ=>
    have lB:=A1.1;have lC:C.length=bs:=by
     match r,A1 with
     |[],A1=>
      have h2:=A1.2.2;simp only[ct,c9,ae,bq,aM]at GZ;omega
     |D::r,A1=>exact A1.2.1
    have sB:=Jy.so B (by simp);have sC:=Jy.so C (by simp);have tBC:Tg B C:=by
     have:=(bT.1 Jy.tg).2.1;exact (bn.1 this).1 C (by simp)
    refine (jB (B.length+C.length) (P:=Ms.flatten) (U:=B) (V:=C) (Q:=r.flatten) (a:=A) (m:=A+bs) (b:=A+2*bs) (by simpa using H4) sB sC tBC (by intro e;rw[e]at lB;simp at lB;omega) (by intro e;rw[e]at lC;simp at lC;omega) (by omega) (by omega) (by omega) (av _)).mono ?_;rintro w5 ⟨e5,M,pM,sM,H5⟩;have eq1:(Ms++[M])++r=Ms++M::r:=by simp
    refine ⟨r.length,by simp;omega,Ms++[M],r,?_,rfl,fun X hX=>?_,A1.tail,by rw[eq1];exact Jy.merge sM pM,by rw[eq1];exact RQ DR pM,by rw[eq1];simpa using H5,e4.tr e5⟩
    ·have eA:(Ms++[M]).length*(2*bs)=A+2*bs:=by rw[ae,bN,hA];simp
     rw[eA];exact Dr rfl (by rw[AE (n:=2*(bs:Int)) (by omega),AE (by omega)];omega)
    ·rcases aQ.1 hX with hX|hX
     ·exact hM X hX
     ·rw[az.1 hX,pM.length_eq,ae];omega
  ·match Rs,A1,Jy,DR,H4,GZ with
   |[],_,_,_,_,GZ=>simp only[c9,bq]at GZ;omega
   |[B],A1,_,_,_,GZ=>
    have h2:=A1.2;simp only[ct,c9,ae,bq,aM]at GZ;omega
   |B::C::D::r,A1,_,_,_,GZ=>
    have lB:=A1.1;have lC:=A1.2.1;simp only[ct,c9,ae,bq,aM]at GZ;omega
   |[B,C],A1,Jy,DR,H4,GZ=>
    have lB:=A1.1;have lC:=A1.2;have sB:=Jy.so B (by simp);have sC:=Jy.so C (by simp);have tBC:Tg B C:=by
     have:=(bT.1 Jy.tg).2.1;exact (bn.1 this).1 C (by simp)
    simp only[ct,c9,aM,ae]at GZ;refine (jB (B.length+C.length) (P:=Ms.flatten) (U:=B) (V:=C) (Q:=[]) (a:=A) (m:=A+bs) (b:=T.length) (by simpa using H4) sB sC tBC (by intro e;rw[e]at lB;simp at lB;omega) (by intro e;have:=lC.1;rw[e]at this;simp at this) (by omega) (by omega) (by omega) (av _)).mono ?_;rintro w5 ⟨e5,M,pM,sM,H5⟩;have lM:M.length=B.length+C.length:=by rw[pM.length_eq,ae]
    have hlc:=lC.1;have Ahr:=lC.2;exact fin w5 [M] ⟨by omega,by omega⟩ (Jy.merge sM pM) (RQ DR pM) (by simpa using H5) (e4.tr e5)
  ·match Rs,A1,Jy,DR,H4,GZ with
   |[],A1,Jy,DR,H4,GZ=>exact fin w4 [] trivial Jy DR H4 e4
   |[B],A1,Jy,DR,H4,GZ=>exact fin w4 [B] ⟨A1.1,by have:=A1.2;omega⟩ Jy DR H4 e4
   |B::C::r,A1,_,_,_,GZ=>
    have lB:=A1.1;have lC:=(Sz.len hb0 A1.2 C (by simp)).1;simp only[ct,c9,ae,bq,aM]at GZ;omega
theorem AFe (h:SS w s T c W)(hT:T.Pairwise fun x y=>x.2<y.2):AEs s (uN c) w fun w1=>Ext s.own w w1/\∃T',T'.Perm T/\So W T'/\SS w1 s T' c W:=by
 refine j8 _ _ _ _ ?_;unfold SX;rw[h.row.len];exact uP h hT
end
end Ey
end Go.Proofs.YtdmmgclkphaaaaaGreatDoor

/- Joined texts of the proof; conditions stand in each theorem. -/
import Derived.Test.YtdmmgclkphaaaaaGreatDoorQYQFil1
import Derived.Test.YtdmmgclkphaaaaaGreatDoorQYQFil7
import Derived.Test.YtdmmgclkphaaaaaGreatDoorQYQFil5
import Derived.Shelf.Pu.Clone
import Derived.Test.YtdmmgclkphaaaaaGreatDoorQYQFil3
import Derived.Test.YtdmmgclkphaaaaaGreatDoorQYQFil4
import Derived.Test.YtdmmgclkphaaaaaGreatDoorQYQFil6
import Derived.Test.YtdmmgclkphaaaaaGreatDoorQYQFil2
set_option linter.unusedVariables false
set_option linter.unusedSimpArgs false
open Go.IntKind (wrap)
open Go.Proofs.Tryz (prog)
namespace Go.Proofs.YtdmmgclkphaaaaaGreatDoor
set_option maxRecDepth 4000
set_option maxHeartbeats 4000000
namespace Ey
open Sh Pm
theorem elP:El prog 243 244 1 8 (.pointer none):=⟨by kernel_rfl,by kernel_rfl,by kernel_rfl,by kernel_rfl,rfl⟩
theorem AO.ty{w:World}{b:Nat}{cs CU:Array Value}{t t':TypeId}(h:AO w b cs t)(k:AO w b CU t'):t=t':=by
 unfold AO at h k;rw[h]at k;cases k
 rfl
def CT (w:World)(b:Nat):Tr->Prop
 | .leaf s x=>AO w b #[.int .i64 x,.int .i64 (s:Int),.pointer none,.pointer none] 246
 | .node l r=>∃b1 b2:Nat,AO w b #[.int .i64 (l.w+r.w),.int .i64 0,ptr b1,ptr b2] 246/\CT w b1 l/\CT w b2 r
theorem CT.AS{w:World}:∀{b:Nat} {t:Tr},CT w b t->∃cs,AO w b cs 246/\cs[0]?=some (.int .i64 t.w)
 |b,.leaf s x,h=>⟨_,h,rfl⟩
 |b,.node l r,⟨b1,b2,h,_,_⟩=>⟨_,h,rfl⟩
theorem CT.AB{F:Nat->Prop}{w w':World}(he:Ext F w w')(hF:∀j,F j->∀cs,¬AO w j cs 246):∀{b:Nat} {t:Tr},CT w b t->CT w' b t
 |b,.leaf s x,h=>he.AS h fun hf=>hF _ hf _ h
 |b,.node l r,⟨b1,b2,h,h1,h2⟩=>⟨b1,b2,he.AS h fun hf=>hF _ hf _ h,CT.AB he hF h1,CT.AB he hF h2⟩
theorem CT.still{w w':World}(he:Ext (fun _=>False) w w'){b:Nat}{t:Tr}(h:CT w b t):CT w' b t:=CT.AB he (fun _ h=>h.elim) h
theorem CT.wt{w:World}{b:Nat}{t:Tr}(h:CT w b t):w.cell? ⟨b,0,none⟩=some (.int .i64 t.w):=by
 obtain ⟨cs,h1,h2⟩:=h.AS;rw[h1.cell];exact h2
def pl (L:List (Nat×Tr)):List Value:=L.map fun p=>ptr p.1
def RT (w:World)(s:AA)(L:List (Nat×Tr)):Prop:=Row w s 244 1 (pl L)/\∀p∈L,CT w p.1 p.2
theorem AGE (L:List (Nat×Tr)):(pl L).length=L.length:=by unfold pl;simp
theorem uQ (L M:List (Nat×Tr)):pl (L++M)=pl L++pl M:=by unfold pl;simp
theorem AGF (L:List (Nat×Tr)):∀v∈pl L,v.oneCell'=true:=by
 intro v hv;obtain ⟨p,_,rfl⟩:=cJ.1 hv
 rfl
section
variable {w w1:World} {s s2:AA} {L M:List (Nat×Tr)}
theorem RT.len(h:RT w s L):s.len=L.length:=by
 have:=h.1.1;rw[AGE]at this;omega
theorem RT.nil(w:World):RT w ⟨none,0,0⟩ []:=⟨Row.nil _ _ _,fun p hp=>by cases hp⟩
theorem RT.own_ty(h:RT w s L){j:Nat}(hj:s.own j):∃cs,AO w j cs 244:=by
 obtain ⟨a,ha,rfl⟩:=hj;rcases h.1.2 with rfl|⟨g,cur,hp,hb,_⟩
 ·cases ha
 ·rw[hp]at ha;cases ha;exact ⟨_,hb⟩
theorem own_coin (h:RT w s L):∀j,s.own j->∀cs,¬AO w j cs 246:=fun j hj cs hb=>by
 obtain ⟨CU,IZ⟩:=h.own_ty hj;have:=AO.ty hb IZ;revert this;decide
theorem RT.AB(h:RT w s L)(he:Ext (fun _=>False) w w1):RT w1 s L:=⟨h.1.AB he fun _ _ e=>e,fun p hp=>(h.2 p hp).still he⟩
theorem RT.get(h:RT w s L){i:Nat}{p:Nat×Tr}(hi:L[i]?=some p):∃g,s.p=some ⟨g,0,none⟩/\w.cell? ⟨g,i,none⟩=some (ptr p.1)/\CT w p.1 p.2:=by
 obtain ⟨g,hg,hc⟩:=h.1.cell (j:=i) (v:=ptr p.1) (by unfold pl;rw[aE,hi];rfl);exact ⟨g,hg,hc,h.2 p (aB hi)⟩
theorem RT.snoc{ty:TypeId}{b gb:Nat}{t:Tr}(h:RT w s L)(hb:AO w gb #[ptr b] 244)(ht:CT w b t)(hL:L.length<=100000):
  ∃s' w',BW prog (Builtin.append_ #[243,243] ty #[AA.v s,AA.v ⟨some ⟨gb,0,none⟩,1,1⟩]) w (AA.v s') w'/\RT w' s' (L++[(b,t)])/\Ext s.own w w'/\∀j,s'.own j->s.own j\/w.heap.size<=j:=by
 have hl:=h.len;obtain ⟨s',w',r1,r2,r3,r4,r5⟩:=elP.Ip (ty:=ty) (ys:=[ptr b]) h.1 hb rfl (by intro v hv;rw[az.1 hv];rfl) (by omega) (by omega);refine ⟨s',w',r1,⟨by rw[uQ];exact r2,fun p hp=>?_⟩,r4,r5⟩;rcases aQ.1 hp with hp|hp
 ·exact (h.2 p hp).AB r4 (own_coin h)
 ·rw[az.1 hp];exact CT.AB r4 (own_coin h) ht
theorem RT.app{ty:TypeId}(h:RT w s L)(k:RT w s2 M)(hL:L.length+M.length<=100000):
  ∃s' w',BW prog (Builtin.append_ #[243,243] ty #[AA.v s,AA.v s2]) w (AA.v s') w'/\RT w' s' (L++M)/\Ext s.own w w'/\∀j,s'.own j->s.own j\/w.heap.size<=j:=by
 have hl:=h.len;have hk:=k.len;obtain ⟨s',w',r1,r2,r3,r4,r5⟩:=elP.app (ty:=ty) h.1 k.1.view (AGF _) (by omega) (by omega);refine ⟨s',w',r1,⟨by rw[uQ];exact r2,fun p hp=>?_⟩,r4,r5⟩;rcases aQ.1 hp with hp|hp
 ·exact (h.2 p hp).AB r4 (own_coin h)
 ·exact (k.2 p hp).AB r4 (own_coin h)
attribute [local irreducible] Ld St Nw Nn Lt AP
theorem AGG (w:World){n:Nat}(hn:n<=200000):AEo ⟨none,0,0⟩ (n:Int) w (fun r w1=>RT w1 r []/\Ext (fun _=>False) w w1/\∀j,r.own j->w.heap.size<=j) fun _ _=>False:=by
 refine ASv _ _ _ _ _ ?_;unfold ALD;refine Br.dec (fun q=>by omega) fun q=>Lt.of ?_
 have e:wrap .i64 ((n:Int)-wrap .i64 (((0:Nat):Int)-((0:Nat):Int)))=(n:Int):=by
  rw[AE (n:=((0:Nat):Int)-((0:Nat):Int)) (by omega),AE (by omega)];omega
 show Br (decide (wrap .i64 ((n:Int)-wrap .i64 (((0:Nat):Int)-((0:Nat):Int)))>0)) _ _;rw[e];refine Br.dec (fun q1=>⟨by omega,by omega,?_⟩) fun q1=>⟨RT.nil _,Ext.refl _ _,fun j hj=>by obtain ⟨a,ha,_⟩:=hj;cases ha⟩
 obtain ⟨s',w',r1,r2,r3,r4⟩:=elP.grow (w:=w) (ti:=3) (ty:=243) (by kernel_rfl) (n:=n) (by omega) (by decide) (by omega) (by omega);refine ⟨s',w',r1,by simp only[AA.cap];omega,by show ((0:Nat):Int)<=_;omega,⟨r2,fun p hp=>by cases hp⟩,r3,fun j hj=>?_⟩;obtain ⟨a,ha,rfl⟩:=hj;refine r4 _ ?_;have ha:(if s'.cap=0 then s'.p else s'.p.map (·.add (0*1)))=some a:=ha;split at ha
 ·exact ⟨a,ha,rfl⟩
 ·obtain ⟨x,hx,rfl⟩:=bg.1 ha;exact ⟨x,hx,(Bl x _).symm⟩
theorem tB (h:RT w s L)(k:RT w s2 M)(hL:L.length+M.length<=100000){g:Nat}(hg:AO w g #[AA.v s,AA.v s2] 243):
  AEp ⟨some ⟨g,0,none⟩,2,2⟩ w (fun r w1=>RT w1 r (L++M)/\Ext (fun _=>False) w w1/\∀j,r.own j->w.heap.size<=j) fun _ _=>False:=by
 refine ASw _ _ _ _ ?_;unfold ALE;have hl:=h.len;have hk:=k.len;have c0:w.cell? ⟨g,0,none⟩=some (AA.v s):=by rw[hg.cell];rfl
 have c1:w.cell? ⟨g,1,none⟩=some (AA.v s2):=by rw[hg.cell];rfl
 refine ⟨fun n st w1=>w1=w/\((n=2/\st=((0:Int),(0:Int)))\/(n=1/\st=(((L.length:Nat):Int),(1:Int)))\/(n=0/\st=(((L.length+M.length:Nat):Int),(2:Int)))),2,⟨rfl,.inl ⟨rfl,rfl⟩⟩,?_⟩;rintro n st w1 ⟨rfl,IT⟩;unfold qg;rcases IT with ⟨rfl,rfl⟩|⟨rfl,rfl⟩|⟨rfl,rfl⟩
 ·refine Ey.Br.t rfl ⟨by simp,by simp,Nn.of (Ld.mk c0 (Br.dec (fun q=>?_) fun q=>⟨1,by decide,rfl,.inr (.inl ⟨rfl,?_⟩)⟩))⟩
  ·dsimp only at q;rw[AE (by omega)]at q;omega
  ·dsimp only;rw[AE (by omega)];exact Dr (by omega) rfl
 ·refine Ey.Br.t rfl ⟨by simp,by simp,Nn.of (Ld.mk c1 (Br.dec (fun q=>?_) fun q=>⟨0,by decide,rfl,.inr (.inr ⟨rfl,?_⟩)⟩))⟩
  ·dsimp only at q;rw[AE (by omega)]at q;omega
  ·dsimp only;rw[AE (by omega)];exact Dr (by omega) rfl
 ·refine Ey.Br.f rfl ?_;dsimp only;refine (AGG w1 (by omega)).mono ?_ (fun _ _ h=>h);rintro r w2 ⟨hr,e2,o2⟩;have h2:=h.AB e2;have k2:=k.AB e2;have c0:w2.cell? ⟨g,0,none⟩=some (AA.v s):=e2.Bn c0;have c1:w2.cell? ⟨g,1,none⟩=some (AA.v s2):=e2.Bn c1;have hg1:g<w1.heap.size:=hg.lt;have other:∀{w3 w4:World} {r:AA} (hw:w1.heap.size<=w3.heap.size),(∀j,r.own j->w1.heap.size<=j)->Ext r.own w3 w4->Ext (fun _=>False) w1 w3->Ext (fun _=>False) w1 w4:=fun {w3 w4 r} hw ho he JP=>JP.trans he (fun _ h=>h) fun i hi hh=>absurd hi (by have:=ho i hh;omega)
  refine ⟨fun n st w3=>Ext (fun _=>False) w1 w3/\(∀j,st.1.own j->w1.heap.size<=j)/\((n=2/\st.2=(0:Int)/\RT w3 st.1 [])\/(n=1/\st.2=(1:Int)/\RT w3 st.1 L)\/(n=0/\st.2=(2:Int)/\RT w3 st.1 (L++M))),2,⟨e2,o2,.inl ⟨rfl,rfl,hr⟩⟩,?_⟩;rintro n ⟨r,i⟩ w3 ⟨e3,o3,IT⟩;unfold qf;dsimp only at*;have h3:=h.AB e3;have k3:=k.AB e3;have c0:w3.cell? ⟨g,0,none⟩=some (AA.v s):=e3.Bn (by rw[hg.cell];rfl);have c1:w3.cell? ⟨g,1,none⟩=some (AA.v s2):=e3.Bn (by rw[hg.cell];rfl);rcases IT with ⟨rfl,rfl,hr⟩|⟨rfl,rfl,hr⟩|⟨rfl,rfl,hr⟩
  ·obtain ⟨s',w4,r1,r2,r3,r4⟩:=hr.app (ty:=243) h3 (by simp;omega);refine Ey.Br.t rfl ⟨by simp,by simp,Nn.of (Ld.mk c0 ⟨s',w4,r1,1,by decide,other e3.size o3 r3 e3,fun j hj=>?_,.inr (.inl ⟨rfl,rfl,r2⟩)⟩)⟩;have:=e3.size;rcases r4 j hj with hh|hh
   ·exact o3 j hh
   ·omega
  ·obtain ⟨s',w4,r1,r2,r3,r4⟩:=hr.app (ty:=243) k3 (by omega);refine Ey.Br.t rfl ⟨by simp,by simp,Nn.of (Ld.mk c1 ⟨s',w4,r1,0,by decide,other e3.size o3 r3 e3,fun j hj=>?_,.inr (.inr ⟨rfl,rfl,r2⟩)⟩)⟩;have:=e3.size;rcases r4 j hj with hh|hh
   ·exact o3 j hh
   ·omega
  ·exact Ey.Br.f rfl ⟨hr,e3,o3⟩
def tag:Nat->List (Nat×Tr)->List E
 |_,[]=>[]
 |n,p::r=>(p.1,n)::tag (n+1) r
theorem XV:∀(n:Nat) (L:List (Nat×Tr)),Uv (tag n L)=pl L
 |_,[]=>rfl
 |n,p::r=>by
  have:=XV (n+1) r;unfold Uv pl at*;simp[tag,this]
theorem Hp:∀(n:Nat) (L:List (Nat×Tr)),∀e∈tag n L,n<=e.2/\e.2<n+L.length/\∃p,L[e.2-n]?=some p/\p.1=e.1
 |_,[],e,h=>by cases h
 |n,p::r,e,h=>by
  rcases aN.1 h with rfl|h
  ·exact ⟨av _,by simp,p,by simp,rfl⟩
  ·obtain ⟨h1,h2,q,h3,h4⟩:=Hp (n+1) r e h;refine ⟨by omega,by simp;omega,q,?_,h4⟩;rw[show e.2-n=(e.2-(n+1))+1 by omega];simpa using h3
theorem tC:∀(n:Nat) (L:List (Nat×Tr)),(tag n L).Pairwise fun x y=>x.2<y.2
 |_,[]=>List.Pairwise.nil
 |n,p::r=>bn.2 ⟨fun e he=>by have:=(Hp _ _ e he).1;show n<e.2;omega,tC (n+1) r⟩
theorem iQ:∀(n:Nat) (L M:List (Nat×Tr)),tag n (L++M)=tag n L++tag (n+L.length) M
 |n,[],M=>by simp[tag]
 |n,p::r,M=>by
  have:=iQ (n+1) r M;simp only[ar,tag,this,aA];rw[show n+1+r.length=n+(r.length+1) by omega]
theorem iR:∀(n:Nat) (L:List (Nat×Tr)),(tag n L).length=L.length
 |_,[]=>rfl
 |n,p::r=>by simp[tag,iR (n+1) r]
def un (L:List (Nat×Tr))(e:E):Nat×Tr:=L.getD e.2 default
theorem Uw (K:List (Nat×Tr)):∀(n:Nat) (L:List (Nat×Tr)),(∀i p,L[i]?=some p->K[n+i]?=some p)->(tag n L).map (un K)=L
 |_,[],_=>rfl
 |n,p::r,h=>by
  have h0:=h 0 p rfl;have ih:=Uw K (n+1) r fun i q hq=>by
   have:=h (i+1) q (by simpa using hq);rw[show n+1+i=n+(i+1) by omega];exact this
  simp only[tag,bw,ih]
  congr 1
  unfold un;rw[af];rw[bY]at h0;simp only[h0,cN]
def wOf (w:World)(b:Nat):Int:=match w.cell? ⟨b,0,none⟩with
 |some (.int .i64 x)=>x
 |_=>0
theorem AFd {b:Nat}{t:Tr}(h:CT w b t):wOf w b=t.w:=by
 unfold wOf;rw[h.wt]
def leE (W:Nat->Int)(a b:E):Bool:=decide (W a.1<=W b.1)
theorem Qh {W:Nat->Int}:∀(N:Nat) (A B:List E),A.length+B.length<=N->So W A->So W B->Tg A B->So W (List.merge A B (leE W))
 |_,[],B,_,_,hB,_=>by simpa[List.merge]using hB
 |_,a::A,[],_,hA,_,_=>by simpa[List.merge]using hA
 |0,a::A,b::B,h,_,_,_=>by simp at h
 |N+1,a::A,b::B,h,hA,hB,hT=>by
  simp only[aA]at h;obtain ⟨a1,a2⟩:=bn.1 hA;obtain ⟨b1,b2⟩:=bn.1 hB;by_cases mB:W a.1<=W b.1
  ·rw[List.cons_merge_cons_pos _ _ _ (by simpa[leE]using mB)];have Am:lt W a b:=RP mB (hT a (by simp) b (by simp));refine bn.2 ⟨fun y hy=>?_,Qh N A (b::B) (by simp only[aA];omega) a2 hB (hT.sub (fun x hx=>aC _ hx) fun x hx=>hx)⟩;rcases List.mem_merge.1 hy with hy|hy
   ·exact a1 y hy
   ·rcases aN.1 hy with rfl|hy
    ·exact Am
    ·exact lt_trans Am (b1 y hy)
  ·rw[List.cons_merge_cons_neg _ _ _ (by simpa[leE]using mB)];have Am:lt W b a:= .inl (by omega);refine bn.2 ⟨fun y hy=>?_,Qh N (a::A) B (by simp only[aA];omega) hA b2 (hT.sub (fun x hx=>hx) fun x hx=>aC _ hx)⟩;rcases List.mem_merge.1 hy with hy|hy
   ·rcases aN.1 hy with rfl|hy
    ·exact Am
    ·exact lt_trans Am (a1 y hy)
   ·exact b1 y hy
theorem Zt {W:Nat->Int}:∀(n:Nat) (L:List (Nat×Tr)),(∀p∈L,W p.1=p.2.w)->Up (L.map (·.2))->So W (tag n L)
 |_,[],_,_=>List.Pairwise.nil
 |n,p::r,hW,hU=>by
  obtain ⟨h1,h2⟩:=bn.1 hU;refine bn.2 ⟨fun e he=>?_,Zt (n+1) r (fun q hq=>hW q (by simp[hq])) h2⟩;obtain ⟨g1,g2,q,g3,g4⟩:=Hp _ _ e he;have hq:q∈r:=aB g3;refine RP ?_ (by show n<e.2;omega);have:=h1 q.2 (de hq);show W p.1<=W e.1;rw[<-g4,hW q (by simp[hq]),hW p (by simp)];exact this
end
end Ey
namespace Ey
open Sh Pm
attribute [local irreducible] Ld St Nw Nn Lt AP
def Fv (L:List (Nat×Tr)):List Tr:=L.map (·.2)
theorem GH (L:List (Nat×Tr)):(Fv L).length=L.length:=by unfold Fv;simp
theorem iO (L M:List (Nat×Tr)):Fv (L++M)=Fv L++Fv M:=by unfold Fv;simp
theorem PE {L:List (Nat×Tr)}{i:Nat}{p:Nat×Tr}(h:L[i]?=some p):(Fv L)[i]?=some p.2:=by
 unfold Fv;rw[aE,h]
 rfl
section
variable {w w1:World} {s s2:AA} {L M:List (Nat×Tr)}
def dT:Tr:= .leaf 0 0
def Stb (A S:List Tr):Prop:=∃js:List Nat,js.Perm (List.range A.length)/\js.Pairwise (fun i j=>(A.getD i dT).w<(A.getD j dT).w\/((A.getD i dT).w=(A.getD j dT).w/\i<j))/\S=js.map fun i=>A.getD i dT
theorem Stb.one{A S S':List Tr}(h:Stb A S)(k:Stb A S'):S=S':=by
 obtain ⟨a,a1,a2,rfl⟩:=h;obtain ⟨b,b1,b2,rfl⟩:=k;have:a=b:=(a1.trans b1.symm).eq_of_pairwise (le:=fun i j=>(A.getD i dT).w<(A.getD j dT).w\/((A.getD i dT).w=(A.getD j dT).w/\i<j)) (fun i j _ _ h k=>by omega) a2 b2;rw[this]
theorem iP:∀(n:Nat) (L:List (Nat×Tr)),(tag n L).map (·.2)=List.range' n L.length
 |n,[]=>rfl
 |n,p::L=>by
  show n::(tag (n+1) L).map (·.2)=_;rw[iP,aA,List.range'_succ]
def Mg (L M R:List (Nat×Tr)):Prop:=R.Perm (L++M)/\Up (Fv R)/\(Up (Fv L)->Up (Fv M)->Fv R=mg (Fv L) (Fv M))/\Stb (Fv (L++M)) (Fv R)
theorem kb {W:Nat->Int}{T':List E}(hW:∀p∈L++M,W p.1=p.2.w)(hp:T'.Perm (tag 0 (L++M)))(hs:So W T'):Mg L M (T'.map (un (L++M)))/\pl (T'.map (un (L++M)))=Uv T':=by
 have vU:∀e∈T',∃p∈L++M,un (L++M) e=p/\p.1=e.1:=fun e he=>by
  obtain ⟨g1,g2,p,g3,g4⟩:=Hp _ _ e (hp.mem_iff.1 he);rw[bM]at g3;refine ⟨p,aB g3,?_,g4⟩;unfold un;rw[af,g3]
  rfl
 have hid:(tag 0 (L++M)).map (un (L++M))=L++M:=Uw (L++M) 0 (L++M) fun i p h=>by rw[aj];exact h
 refine ⟨⟨?_,?_,fun uL uM=>?_,?_⟩,?_⟩
 ·have:=hp.map (un (L++M));rwa[hid]at this
 ·unfold Fv;rw[ei];refine List.pairwise_map.2 ?_;refine List.Pairwise.imp_of_mem ?_ hs;intro a b ha hb mB;obtain ⟨p,YF,jg,hp3⟩:=vU a ha;obtain ⟨q,hq1,hq2,hq3⟩:=vU b hb;have:=le_of_lt mB;simp only[Function.comp,jg,hq2];rw[<-hW p YF,<-hW q hq1,hp3,hq3];exact this
 ·have sL:So W (tag 0 L):=Zt 0 L (fun p hp=>hW p (cF _ hp)) uL;have sM:So W (tag L.length M):=Zt _ M (fun p hp=>hW p (di _ hp)) uM;have tT:Tg (tag 0 L) (tag L.length M):=fun a ha b hb=>by
   have:=(Hp _ _ a ha).2.1;have:=(Hp _ _ b hb).1;omega
  have e0:tag 0 (L++M)=tag 0 L++tag L.length M:=by rw[iQ,aj]
  have e1:T'=List.merge (tag 0 L) (tag L.length M) (leE W):=kc hs (Qh _ _ _ (av _) sL sM tT) (by rw[e0]at hp;exact hp.trans (List.merge_perm_append _).symm);have iL:(tag 0 L).map (un (L++M))=L:=Uw _ 0 L fun i p h=>by
   rw[aj,aG (ao.1 h).1];exact h
  have iM:(tag L.length M).map (un (L++M))=M:=Uw _ _ M fun i p h=>by
   rw[aF (by omega),dx];exact h
  have eL:(tag 0 L).map (fun e=>(un (L++M) e).2)=Fv L:=by
   unfold Fv
   conv=>rhs;rw[<-iL]
   rw[ei]
   rfl
  have eM:(tag L.length M).map (fun e=>(un (L++M) e).2)=Fv M:=by
   unfold Fv
   conv=>rhs;rw[<-iM]
   rw[ei]
   rfl
  unfold Fv;rw[ei,e1];show List.map (fun e=>(un (L++M) e).2) _=_;rw[List.map_merge (s:=le) (f:=fun e=>(un (L++M) e).2),eL,eM]
  ·rfl
  ·intro a ha b hb;have Oq:a∈T':=by rw[e1];exact List.mem_merge.2 (.inl ha)
   have IZ:b∈T':=by rw[e1];exact List.mem_merge.2 (.inr hb)
   obtain ⟨p,YF,jg,hp3⟩:=vU a Oq;obtain ⟨q,hq1,hq2,hq3⟩:=vU b IZ;unfold leE le;rw[jg,hq2,<-hW p YF,<-hW q hq1,hp3,hq3]
 ·have key:∀e∈T',(Fv (L++M)).getD e.2 dT=(un (L++M) e).2/\(un (L++M) e).2.w=W e.1:=fun e he=>by
   obtain ⟨g1,g2,p,g3,g4⟩:=Hp _ _ e (hp.mem_iff.1 he);rw[bM]at g3;have hu:un (L++M) e=p:=by
    unfold un;rw[af,g3]
    rfl
   refine ⟨?_,?_⟩
   ·rw[af,PE g3,hu]
    rfl
   ·rw[hu,<-hW p (aB g3),g4]
  refine ⟨T'.map (·.2),?_,?_,?_⟩
  ·have:=hp.map (·.2);rw[iP,<-List.range_eq_range']at this;rw[GH];exact this
  ·refine List.pairwise_map.2 ?_;refine List.Pairwise.imp_of_mem ?_ hs;intro a b ha hb mB;obtain ⟨a1,a2⟩:=key a ha;obtain ⟨b1,b2⟩:=key b hb;rw[a1,b1,a2,b2];exact mB
  ·unfold Fv;rw[ei,ei];refine List.map_congr_left fun e he=>?_
   have:=(key e he).1;unfold Fv at this;simp only[Function.comp];exact this.symm
 ·unfold pl Uv;rw[ei];refine List.map_congr_left fun e he=>?_
  obtain ⟨p,YF,jg,hp3⟩:=vU e he;simp only[Function.comp,jg,hp3]
theorem XU (h:RT w s L)(k:RT w s2 M)(hL:L.length+M.length<=100000):yI s s2 w (fun r w1=>Ext (fun _=>False) w w1/\(∀j,r.own j->w.heap.size<=j)/\∃R,RT w1 r R/\Mg L M R) fun _ _=>False:=by
 refine ATC _ _ _ _ _ ?_;unfold ALL;refine P1.mono (j9 s s2 w (fun r w1=>Ext (fun _=>False) w w1/\(∀j,r.own j->w.heap.size<=j)/\∃R,RT w1 r R/\Mg L M R) (fun _ _=>False) ?_) (fun _ _ h=>h) fun _ _ h=>h
 unfold SY;refine (Hn.start w).nw fun w2 H=>?_
 refine H.nw fun w3 H=>?_
 have hc:=H.get 0 rfl;have hg:=H.get 1 rfl;have e3:=H.ext;refine (tB (h.AB e3) (k.AB e3) hL hg).mono ?_ (fun _ _ h=>h);rintro r w4 ⟨hr,e4,o4⟩;have hc4:w4.cell? ⟨w.heap.size,0,none⟩=some wfn:=by
  have:w3.cell? ⟨w.heap.size,0,none⟩=some wfn:=by rw[hc.cell];rfl
  exact e4.Bn this
 have Am:w.heap.size<w3.heap.size:=H.lt 0 rfl;have hlen:=hr.len;rw[ae]at hlen;have hW:∀p∈L++M,wOf w4 p.1=p.2.w:=fun p hp=>AFd (hr.2 p hp)
 have HS:SS w4 r (tag 0 (L++M)) ⟨w.heap.size,0,none⟩ (wOf w4):=by
  refine ⟨?_,hc4,fun e he=>?_,fun e he hj=>?_,fun hj=>?_,by rw[iR,ae];omega⟩
  ·unfold PR;rw[XV];exact hr.1
  ·obtain ⟨_,_,p,g3,g4⟩:=Hp _ _ e he;have hp:=aB g3;rw[<-g4,hW p hp];exact (hr.2 p hp).wt
  ·obtain ⟨_,_,p,g3,g4⟩:=Hp _ _ e he;obtain ⟨cs,hb,_⟩:=(hr.2 p (aB g3)).AS;rw[g4]at hb;exact own_coin hr _ hj _ hb
  ·have:=o4 _ hj;simp only at this;omega
 refine (AFe HS (tC _ _)).mono ?_;rintro w5 ⟨e5,T',hp,hs,H5⟩;obtain ⟨hm,OH⟩:=kb hW hp hs;have E4:=e3.tr e4;refine ⟨E4.trans e5 (fun _ h=>h) fun i hi hh=>absurd hi (by have:=o4 i hh;omega),fun j hj=>by have:=o4 j hj;omega,_,⟨by rw[OH];exact H5.row,fun p Kq=>?_⟩,hm⟩;exact (hr.2 p (hm.1.mem_iff.1 Kq)).AB e5 (own_coin hr)
theorem tD {l:List Tr}{k:Nat}{x y:Tr}(hx:l[2*k]?=some x)(hy:l[2*k+1]?=some y):HE (l.take (2*(k+1)))=HE (l.take (2*k))++[.node x y]:=by
 have ly:=(ao.1 hy).1;have Am:k<(HE l).length:=by rw[Jg];omega
 obtain ⟨x',y',h1,h2,h3⟩:=Uq k l _ (ad Am);rw[hx]at h1;rw[hy]at h2;cases h1;cases h2;rw[JD,JD,aO,ad Am,h3]
 rfl
theorem yx (h:RT w s L)(hL:L.length<=100000)(hw:∀p∈L,0<=p.2.w/\p.2.w<=1000000000000000):AEt s w fun r w1=>Ext (fun _=>False) w w1/\(∀j,r.own j->w.heap.size<=j)/\∃R,RT w1 r R/\Fv R=HE (Fv L):=by
 refine ATD _ _ _ ?_;unfold ALM;have hl:=h.len;refine ⟨fun n st w1=>∃(k:Nat) (R:List (Nat×Tr)),st.2=((2*k:Nat):Int)/\2*k<=L.length+1/\n=L.length+2-2*k/\R.length=k/\RT w1 st.1 R/\Fv R=HE ((Fv L).take (2*k))/\Ext (fun _=>False) w w1/\∀j,st.1.own j->w.heap.size<=j,L.length+2,⟨0,[],rfl,by omega,rfl,rfl,RT.nil _,by simp[Fv,HE],Ext.refl _ _,fun j hj=>by obtain ⟨a,ha,_⟩:=hj;cases ha⟩,?_⟩;rintro n ⟨r,i⟩ w1 ⟨k,R,hi,hk,rfl,hR,h1,h2,e1,o1⟩;unfold qm;dsimp only at*;subst hi;rw[AE (n:=((2*k:Nat):Int)+1) (by omega)];refine Br.dec (fun q=>?_) fun q=>?_
 ·obtain ⟨p1,YF⟩:∃p,L[2*k]?=some p:=⟨_,ad (by omega)⟩
  obtain ⟨p2,jg⟩:∃p,L[2*k+1]?=some p:=⟨_,ad (by omega)⟩
  have hd:Ext (fun _=>False) w w1.drew:=e1.drew;have Tb:=h.AB hd;obtain ⟨g,hg,c1,t1⟩:=Tb.get YF;obtain ⟨g',IJ,c2,t2⟩:=Tb.get jg;rw[hg]at IJ;cases IJ;have b1:=hw _ (aB YF);have b2:=hw _ (aB jg);rw[hg];refine ⟨fun w'=>w'=w1.drew,rfl,by omega,by omega,Nn.of ?_⟩;simp only[add_lit,aa,aH,aj];have e2k:(((2*k:Nat):Int)+1).toNat=2*k+1:=by omega
  refine Dk (x:=some ⟨p1.1,0,none⟩) (fun w' e=>e▸c1) (Nn.of (Dk (x:=p1.2.w) (fun w' e=>e▸t1.wt) ⟨by omega,by omega,Nn.of ?_⟩));simp only[add_lit,e2k,aH,aj];refine Dk (x:=some ⟨p2.1,0,none⟩) (fun w' e=>e▸c2) (Nn.of (Dk (x:=p2.2.w) (fun w' e=>e▸t2.wt) ⟨by omega,by omega,Nn.of ?_⟩));simp only[add_lit,aa,aH,aj];refine Dk (x:=some ⟨p1.1,0,none⟩) (fun w' e=>e▸c1) ⟨by omega,by omega,Nn.of ?_⟩;simp only[add_lit,e2k,aH,aj];refine Dk (x:=some ⟨p2.1,0,none⟩) (fun w' e=>e▸c2) ?_;rw[AE (n:=p1.2.w+p2.2.w) (by omega)];refine (Hn.start w1.drew).nw fun w2 H=>?_
  refine H.nw fun w3 H=>?_
  have hb:=H.get 0 rfl;have hp:=H.get 1 rfl;have e3:=H.ext;have AMT:CT w3 w1.drew.heap.size (.node p1.2 p2.2):=⟨p1.1,p2.1,hb,t1.still e3,t2.still e3⟩
  have h13:RT w3 r R:=h1.AB (Ext.tr (Ext.refl _ w1).drew e3);obtain ⟨s',w4,r1,r2,r3,r4⟩:=h13.snoc (ty:=243) hp AMT (by omega);have E3:Ext (fun _=>False) w w3:=hd.tr e3;refine ⟨s',w4,r1,L.length+2-2*(k+1),by omega,k+1,R++[(w1.drew.heap.size,.node p1.2 p2.2)],by rw[AE (by omega)];omega,by omega,rfl,by rw[ae,hR];rfl,r2,?_,E3.trans r3 (fun _ h=>h) fun i hi hh=>absurd hi (by have:=o1 i hh;omega),fun j hj=>?_⟩
  ·rw[iO,h2,tD (PE YF) (PE jg)]
   rfl
  ·have:=E3.size;rcases r4 j hj with hh|hh
   ·exact o1 j hh
   ·omega
 ·refine ⟨e1,o1,R,h1,?_⟩;rw[h2];by_cases e:2*k<=L.length
  ·have jJ:(Fv L).length/2=k:=by rw[GH];omega
   rw[JD,aX (by rw[Jg,jJ];exact av _)]
  ·rw[aX (by rw[GH];omega)]
def Zu (f:Nat->Nat)(n:Nat):List Int:=(List.range n).map fun i=>(f i:Int)
theorem Ux (f:Nat->Nat)(n:Nat):(Zu f n).length=n:=by unfold Zu;simp
theorem yy {f:Nat->Nat}{n i:Nat}(h:i<n):(A8.ints (Zu f n))[i]?=some (.int .i64 (f i:Int)):=by
 unfold A8.ints Zu;rw[aE,aE,dc h]
 rfl
theorem iS {f:Nat->Nat}{n i:Nat}{x:Nat}(h:i<n):(A8.ints (Zu f n)).set i (.int .i64 (x:Int))=A8.ints (Zu (fun j=>if i=j then x else f j) n):=by
 rw[A8.ints_set]
 congr 1
 apply db;intro j;unfold Zu;rw[cD,bp,dQ,aE,aE];by_cases e:i=j
 ·subst e;rw[ak rfl,ak h,dc h];simp
 ·rw[ah e];by_cases hj:j<n
  ·rw[dc hj];simp[e]
  ·rw[bF (by rw[dQ];omega)]
   rfl
structure OB (w:World) (g cO n:Nat) (f:Nat->Nat):Prop where
 row:AO w g (A8.ints (Zu f n)).toArray 3
 var:w.cell? ⟨cO,0,none⟩=some (AA.v ⟨some ⟨g,0,none⟩,n,n⟩)
 ne:cO≠g
theorem OB.yz{g cO n:Nat}{f:Nat->Nat}(h:OB w g cO n f):∀j,j=g->∀cs,¬AO w j cs 246:=fun j hj cs hb=>by
 subst hj;have:=AO.ty hb h.row;revert this;decide
theorem AFf {g cO n i:Nat}{f:Nat->Nat}(h:OB w g cO n f)(hi:i<n)(hf:f i<=1000000):AEu (i:Int) ⟨cO,0,none⟩ w fun w1=>Ext (·=g) w w1/\OB w1 g cO n fun j=>f j+if i=j then 1 else 0:=by
 refine ATE _ _ _ _ ?_;unfold ALN;refine Ld.mk h.var ⟨by omega,by show (i:Int)<((n:Nat):Int);omega,Nn.of ?_⟩;simp only[add_lit,aa,aH,aj];refine Ld.mk (x:=(f i:Int)) (by rw[h.row.cell];simpa using yy hi) ⟨by omega,by omega,Nn.of ?_⟩;rw[AE (by omega),show (f i:Int)+1=((f i+1:Nat):Int) by omega];simp only[add_lit,aa,aH,aj];have e1:Ext (·=g) w (w.setCell ⟨g,i,none⟩ (.int .i64 ((f i+1:Nat):Int))):=(Ext.refl (·=g) w).set (.inl rfl) _;unfold St;refine ⟨h.row.can (by rw[aZ,A8.Ap,Ux];exact hi),e1,?_,?_,h.ne⟩
 ·have:=h.row.set i (.int .i64 ((f i+1:Nat):Int));rw[dE,iS hi]at this;have e:(fun j=>if i=j then f i+1 else f j)=fun j=>f j+if i=j then 1 else 0:=by
   funext j
   by_cases e:i=j
   ·subst e;simp
   ·simp[e]
  rw[e]at this;exact this
 ·rw[e1.cell (BJ h.var) h.ne];exact h.var
theorem Zv {g cO n:Nat}:∀(t:Tr) {w:World} {b:Nat} {f:Nat->Nat} {c:List Int},CT w b t->OB w g cO n f->t.ok c->c.length=n->(∀i,f i+t.Ft i<=1000000)->
  qe (some ⟨b,0,none⟩) (.func (.func 182) #[] #[.pointer (some ⟨cO,0,none⟩)]) w fun w1=>Ext (·=g) w w1/\OB w1 g cO n fun j=>f j+t.Ft j
 | .leaf sn x,w,b,f,c,ht,ho,hk,hn,hf=>by
  refine SZ _ _ _ _ ?_;unfold Mu;have ht:AO w b #[.int .i64 x,.int .i64 (sn:Int),.pointer none,.pointer none] 246:=ht;refine Nn.of ?_;simp only[add_lit,aj];refine Ld.mk (x:=none) (by rw[ht.cell];rfl) (Ey.Br.t rfl (Nn.of ?_));simp only[add_lit,aj];refine Ld.mk (x:=(sn:Int)) (by rw[ht.cell];rfl) ?_;have:=hf sn;exact AFf ho (by rw[<-hn];exact hk.1) (by omega)
 | .node l r,w,b,f,c,ht,ho,hk,hn,hf=>by
  refine SZ _ _ _ _ ?_;unfold Mu;obtain ⟨b1,b2,hb,hl,hr⟩:=ht;refine Nn.of ?_;simp only[add_lit,aj];refine Ld.mk (x:=some ⟨b1,0,none⟩) (by rw[hb.cell];rfl) (Ey.Br.f rfl (Nn.of ?_));simp only[add_lit,aj];refine Ld.mk (x:=some ⟨b1,0,none⟩) (by rw[hb.cell];rfl) ?_;refine (Zv l hl ho hk.1 hn fun i=>by have:=hf i;simp only[Tr.Ft]at this;omega).mono ?_;rintro w1 ⟨e1,IU⟩;have u0:AO w1 b _ 246:=e1.AS hb fun hh=>ho.yz _ hh _ hb
  refine Nn.of ?_;simp only[add_lit,aj];refine Ld.mk (x:=some ⟨b2,0,none⟩) (by rw[u0.cell];rfl) ?_;refine (Zv r (hr.AB e1 ho.yz) IU hk.2 hn fun i=>by have:=hf i;simp only[Tr.Ft]at this;omega).mono ?_;rintro w2 ⟨e2,iT⟩;refine ⟨e1.tr e2,?_⟩;have e:(fun j=>f j+l.Ft j+r.Ft j)=fun j=>f j+(Tr.node l r).Ft j:=by
   funext j
   simp only[Tr.Ft];omega
  rw[e]at iT;exact iT
end
end Ey
namespace Ey
open Sh Pm A8
attribute [local irreducible] Ld St Nw Nn Lt AP
theorem Ext.new{F:Nat->Prop}{a b c:World}(h:Ext (fun _=>False) a b)(k:Ext F b c)(hF:∀j,F j->a.heap.size<=j):Ext (fun _=>False) a c:=
 h.trans k (fun _ h=>h) fun i hi hh=>absurd hi (by have:=hF i hh;omega)
section
variable {w w1:World} {s:AA} {c:List Int} {most:Int}
theorem iU (h:c.length<=288)(hm:1<=most/\most<=15){i:Nat}(hi:i<c.length)(hc:c.getD i 0<0\/2147483647<c.getD i 0):iF c most=1:=by
 unfold iF;rw[ah (by omega),ah (by omega),ak];refine dC.2 ⟨c.getD i 0,?_,by simpa using hc⟩;rw[af,ad hi];exact bZ hi
theorem XO (h:c.length<=288)(hm:1<=most/\most<=15)(hc:∀i,i<c.length->0<=c.getD i 0/\c.getD i 0<=2147483647):iF c most=if 2^most.toNat<(iN c).length then 13 else 0:=by
 unfold iF;rw[ah (by omega),ah (by omega),ah];intro ha;obtain ⟨x,hx,hh⟩:=dC.1 ha;obtain ⟨i,hi,rfl⟩:=cu.1 hx;have:=hc i hi;rw[af,ad hi,cN]at this;simp only[ck,bP]at hh;omega
theorem tE (T:List Tr)(n:Nat):Zu (fun i=>cs i T) n=BM T n:=rfl
theorem tF (n:Nat):Zu (fun _=>0) n=List.replicate n 0:=by
 unfold Zu;rw[List.map_const',dQ]
 rfl
theorem OB.still{g cO n:Nat}{f:Nat->Nat}(h:OB w g cO n f)(he:Ext (fun _=>False) w w1):OB w1 g cO n f:=⟨he.AS h.row id,he.Bn h.var,h.ne⟩
theorem OB.iv{g cO n:Nat}{f:Nat->Nat}(h:OB w g cO n f):IV w ⟨some ⟨g,0,none⟩,n,n⟩ (Zu f n):=IV.AS h.row (Ux f n).symm
def Ny (c:List Int)(mo:Nat)(l:List Int):Prop:=((lv c c.length).length<2/\l=Zu (fun i=>cs i (lv c c.length)) c.length)\/(2<=(lv c c.length).length/\∃S,Stb (lv c c.length) S/\l=Zu (fun j=>cs j ((rows S (mo-1)).take (2*S.length-2))) c.length)
theorem Ny.one{c:List Int}{mo:Nat}{l l':List Int}(h:Ny c mo l)(k:Ny c mo l'):l=l':=by
 rcases h with ⟨h1,h2⟩|⟨h1,S,h2,h3⟩
 ·rcases k with ⟨k1,k2⟩|⟨k1,_⟩
  ·rw[h2,k2]
  ·omega
 ·rcases k with ⟨k1,k2⟩|⟨k1,S',k2,k3⟩
  ·omega
  ·rw[h3,k3,h2.one k2]
theorem Zn (h:IV w s c):ZO s most w (fun r e w1=>e=iF c most/\Ext (fun _=>False) w w1/\(iF c most≠0->r.len=0)/\(iF c most=0->∃l,IV w1 r l/\LR c most.toNat l/\r.len<=r.cap/\Ny c most.toNat l)) fun _ _=>False:=by
 refine ATF _ _ _ _ _ ?_;unfold ALQ;have h1:=h.1;refine Br.dec (fun q=>?_) fun q=>Br.dec (fun q2=>?_) fun q2=>Br.dec (fun q3=>?_) fun q3=>?_
 ·have e:iF c most=6:=by unfold iF;rw[ak (by omega)]
  exact ⟨e.symm,Ext.refl _ _,fun _=>rfl,fun hh=>by rw[e]at hh;cases hh⟩
 ·have e:iF c most=1:=by unfold iF;rw[ah (by omega),ak (.inl q2)]
  exact ⟨e.symm,Ext.refl _ _,fun _=>rfl,fun hh=>by rw[e]at hh;cases hh⟩
 ·have e:iF c most=1:=by unfold iF;rw[ah (by omega),ak (.inr q3)]
  exact ⟨e.symm,Ext.refl _ _,fun _=>rfl,fun hh=>by rw[e]at hh;cases hh⟩
 have hm:1<=most/\most<=15:=by omega
 have hlen:c.length<=288:=by omega
 refine ⟨fun n st w1=>∃(i:Nat) (L:List (Nat×Tr)),st.2=(i:Int)/\i<=c.length/\n=c.length-i/\(∀j,j<i->0<=c.getD j 0/\c.getD j 0<=2147483647)/\RT w1 st.1 L/\Fv L=lv c i/\Ext (fun _=>False) w w1/\∀j,st.1.own j->w.heap.size<=j,c.length,⟨0,[],rfl,by omega,rfl,fun j hj=>by omega,RT.nil _,rfl,Ext.refl _ _,fun j hj=>by obtain ⟨a,ha,_⟩:=hj;cases ha⟩,?_⟩;rintro n ⟨r,i⟩ w1 ⟨i,L,rfl,hi,rfl,hc,hr,hL,e1,o1⟩;unfold qs;dsimp only at*;rw[h1];have hLl:L.length=(lv c i).length:=by rw[<-hL,GH]
 have hLi:=Un c i;refine Br.dec (fun q=>⟨by omega,by omega,?_⟩) fun q=>?_
 ·have Am:i<c.length:=by omega
  obtain ⟨a,ha,Es⟩:=(h.AB e1).get Am;rw[ha,aa];have lvs:lv c (i+1)=if 0<c.getD i 0 then lv c i++[.leaf i (c.getD i 0)]else lv c i:=rfl
  refine Nn.of (Ld.mk Es (Br.dec (fun q4=>?_) fun q4=>Br.dec (fun q5=>?_) fun q5=>?_))
  ·have e:=iU hlen hm Am (.inl q4);exact ⟨e.symm,e1,fun _=>rfl,fun hh=>by rw[e]at hh;cases hh⟩
  ·have e:=iU hlen hm Am (.inr q5);exact ⟨e.symm,e1,fun _=>rfl,fun hh=>by rw[e]at hh;cases hh⟩
  have me:∀j,j<i+1->0<=c.getD j 0/\c.getD j 0<=2147483647:=fun j hj=>by
   by_cases e:j=i
   ·subst e;omega
   ·exact hc j (by omega)
  refine Br.dec (fun q6=>?_) fun q6=>?_
  ·rw[ak q6]at lvs;refine (Hn.start w1).nw fun w2 H=>?_
   refine H.nw fun w3 H=>?_
   have hb:=H.get 0 rfl;have hp:=H.get 1 rfl;have e3:=H.ext;have AMU:CT w3 w1.heap.size (.leaf i (c.getD i 0)):=hb;obtain ⟨s',w4,r1,r2,r3,r4⟩:=(hr.AB e3).snoc (ty:=243) hp AMU (by omega);have E3:=e1.tr e3;refine ⟨s',w4,r1,c.length-(i+1),by omega,i+1,_,by rw[AE (by omega)];rfl,by omega,rfl,me,r2,by rw[iO,hL,lvs];rfl,Ext.new E3 r3 o1,fun j hj=>?_⟩;have:=E3.size;rcases r4 j hj with hh|hh
   ·exact o1 j hh
   ·omega
  ·rw[ah q6]at lvs;exact ⟨c.length-(i+1),by omega,i+1,L,by rw[AE (by omega)];rfl,by omega,rfl,me,hr,by rw[hL,lvs],e1,o1⟩
 have:i=c.length:=by omega
 subst this;obtain ⟨mo,hmo⟩:∃mo:Nat,most=(mo:Int):=⟨most.toNat,by omega⟩
 subst hmo;have hw:=XO hlen hm hc;rw[aa]at hw;have hrl:=hr.len;have hS:L.length=(iN c).length:=by rw[hLl,sW]
 have h15:2^mo<=2^15:=cq (by decide) (by omega);rw[sh1 rfl (by omega)];refine ⟨by omega,Br.dec (fun q4=>?_) fun q4=>?_⟩
 ·rw[ak (by omega)]at hw;exact ⟨hw.symm,e1,fun _=>rfl,fun hh=>by rw[hw]at hh;cases hh⟩
 rw[ah (by omega)]at hw;obtain ⟨w2,Ag,oD⟩:=YO.make (zs:=[.int .i64 0]) rfl w1 c.length (by omega) (by omega);refine ⟨_,w2,Ag,?_⟩;have H:Hn w1 w2 [(w1.heap.size,ints (Zu (fun _=>0) c.length),3)]:=by
  rw[tF,<-G9,oD];exact ((Hn.start w1).AB ((Ext.refl _ _).alloc _)).push (AO.new _ _ _) (av _) (by simp)
 refine H.nw fun w3 H=>?_
 simp only[ar,ag]at H;refine H.st 1 rfl (by simp) fun w4 H=>?_
 simp only[ai,aq]at H;have e4:=e1.tr H.ext;have hOB:OB w4 w1.heap.size w2.heap.size c.length fun _=>0:=⟨H.get 0 rfl,by rw[(H.get 1 rfl).cell];rfl,by have:=H.h.nodup;have h3:=H.lt 0 rfl;intro e;rw[e]at this;simp[arr]at this⟩
 have hr4:=hr.AB H.ext;have hg:w.heap.size<=w1.heap.size:=e1.size;clear H Ag oD;generalize hgg:w1.heap.size=g at*;refine ⟨fun (_:Unit) w5=>Ext (fun _=>False) w w5/\RT w5 r L/\OB w5 g w2.heap.size c.length fun i=>if L.length=1 then cs i (Fv L)else 0,?_,?_⟩;rotate_left
 ·refine Br.eq (fun q5=>?_) fun q5=>⟨e4,hr4,by rw[show (fun i=>if L.length=1 then cs i (Fv L)else 0)=fun _=>0 from funext fun i=>ah (by omega)];exact hOB⟩
  have hd:=hr4.AB (Ext.refl _ w4).drew;obtain ⟨p,hp⟩:∃p,L=[p]:=by
   match L,(show L.length=1 by omega)with
   |[p],_=>exact ⟨p,rfl⟩
  subst hp;obtain ⟨g0,nL,vg,hct⟩:=hd.get (i:=0) rfl;obtain ⟨sn,hsn,hpe,HX⟩:=Ho.1 (show p.2∈lv c c.length by rw[<-hL];simp[Fv]);have Zw:=hOB.still (Ext.refl _ w4).drew;rw[hpe]at hct;have hct:AO w4.drew p.1 #[.int .i64 (c.getD sn 0),.int .i64 (sn:Int),.pointer none,.pointer none] 246:=hct;rw[nL];refine Ld.mk Zw.var ⟨by omega,by omega,Nn.of ?_⟩;simp only[add_lit,Int.toNat_zero,cg,bY];refine Ld.mk (x:=some (⟨p.1,0,none⟩:Addr)) vg (Nn.of ?_);simp only[add_lit,aj];refine Ld.mk (x:=(sn:Int)) (by rw[hct.cell];rfl) ⟨by omega,by show (sn:Int)<((c.length:Nat):Int);omega,Nn.of ?_⟩;simp only[add_lit,aa,aH,aj];have e5:Ext (·=g) w4.drew (w4.drew.setCell ⟨g,sn,none⟩ (.int .i64 1)):=(Ext.refl (·=g) w4.drew).set (.inl rfl) _;unfold St;refine ⟨Zw.row.can (by rw[aZ,Ap,Ux];exact hsn),Ext.new (e4.drew) e5 (fun j hj=>by subst hj;exact hg),⟨hd.1.AB e5 fun j hj hh=>?_,fun q hq=>(hd.2 q hq).AB e5 Zw.yz⟩,?_,?_,hOB.ne⟩
  ·subst hh;obtain ⟨CU,IZ⟩:=hd.own_ty hj;have:=AO.ty IZ Zw.row;revert this;decide
  ·have:=Zw.row.set sn (.int .i64 ((1:Nat):Int));rw[dE,iS hsn]at this;have e:(fun j=>if sn=j then 1 else 0)=fun i=>if [p].length=1 then cs i (Fv [p])else 0:=by
    funext j
    simp[Fv,cs,hpe,Tr.Ft]
   rw[e]at this;exact this
  ·rw[e5.cell (BJ Zw.var) hOB.ne];exact Zw.var
 clear hOB hr4 e4;rintro _ w5 ⟨e5,hr5,hO5⟩;unfold qp;dsimp only;refine Br.dec (fun q5=>Ld.mk hO5.var ⟨hw.symm,e5,fun hh=>absurd hw hh,fun _=>⟨_,hO5.iv,?_,av _,?_⟩⟩) fun q5=>?_
 ·have hsd:Sd c (Fv L):=⟨by rw[hL],by
   match L,(show L.length<2 by omega)with
   |[],_=>exact List.Pairwise.nil
   |[p],_=>exact ee _ _⟩
  have:=LR.none (most:=mo) hsd hlen hc (by omega) (by rw[GH];omega);rw[<-tE]at this;have e:(fun i=>if L.length=1 then cs i (Fv L)else 0)=fun i=>cs i (Fv L):=by
   funext i
   split
   ·rfl
   ·have:L=[]:=aw (by omega);rw[this]
    rfl
  rw[e,aa];exact this
 ·have e:(fun i=>if L.length=1 then cs i (Fv L)else 0)=fun i=>cs i (Fv L):=by
   funext i
   split
   ·rfl
   ·have:L=[]:=aw (by omega);rw[this]
    rfl
  rw[e,hL];exact .inl ⟨by omega,rfl⟩
 have eO:(fun i=>if L.length=1 then cs i (Fv L)else 0)=fun _=>0:=by
  funext i
  rw[ah (by omega)]
 rw[eO]at hO5;refine (XU hr5 (RT.nil w5) (by simp;omega)).mono ?_ (fun _ _ h=>h);rintro r6 w6 ⟨e6,o6,R,hr6,hmg⟩;have hsd:Sd c (Fv R):=⟨by
  have:=hmg.1.map (·.2);rw[aM]at this;rw[<-hL];exact this,hmg.2.1⟩
 have hRl:R.length=L.length:=by
  have:=hmg.1.length_eq;rw[aM]at this;exact this
 have AhL:=hr6.len;have E6:=e5.tr e6;have O6:=hO5.still e6;have AFg:=hmg.2.2.2;rw[aM,hL]at AFg;generalize hSS:Fv R=S at hsd AFg;have hSl:S.length=L.length:=by rw[<-hSS,GH,hRl]
 have AMW:Up S:=hsd.up;refine ⟨fun n st w7=>∃(k:Nat) (K:List (Nat×Tr)),st.2=(k:Int)/\k+1<=mo/\n=mo-1-k/\RT w7 st.1 K/\Fv K=rows S k/\RT w7 r6 R/\OB w7 g w2.heap.size c.length (fun _=>0)/\Ext (fun _=>False) w w7,mo-1,⟨0,R,rfl,by omega,rfl,hr6,hSS,hr6,O6,E6⟩,?_⟩;rintro n ⟨r7,k⟩ w7 ⟨k,K,rfl,hk,rfl,hr7,hK,hR7,O7,e7⟩;unfold qo;dsimp only at*;rw[AE (n:=(mo:Int)-1) (by omega)];have hKl:K.length=(rows S k).length:=by rw[<-hK,GH]
 have hKs:=Qg S k;refine Br.dec (fun q6=>?_) fun q6=>?_
 ·refine (yx hr7 (by omega) fun p hp=>AFb hsd hlen hc (k:=k) (by omega) p.2 (by rw[<-hK];exact de hp)).mono ?_;rintro r8 w8 ⟨e8,o8,P,vV,hP⟩;have hPl:P.length=(rows S k).length/2:=by rw[<-GH,hP,hK,Jg]
  refine (XU (hR7.AB e8) vV (by omega)).mono ?_ (fun _ _ h=>h);rintro r9 w9 ⟨e9,o9,K',hr9,AXy⟩;refine ⟨mo-1-(k+1),by omega,k+1,K',by rw[AE (by omega)];rfl,by omega,rfl,hr9,?_,(hR7.AB e8).AB e9,(O7.still e8).still e9,e7.tr (e8.tr e9)⟩;have:=AXy.2.2.1 (by rw[hSS];exact AMW) (by rw[hP,hK];exact Ur _ (Ut AMW k));rw[this,hSS,hP,hK]
  rfl
 ·have TX:k=mo-1:=by omega
  obtain ⟨tA,hLR⟩:=LR.many (most:=mo) hsd hlen hc (by omega) (by omega) (by omega) (by omega);rw[<-TX]at tA hLR;have AhN:=hr7.len;have Rm:=O5 hr7.1;have em:wrap .i64 (wrap .i64 (2*((r6.len:Nat):Int))-2)=((2*S.length-2:Nat):Int):=by
   rw[AE (n:=2*((r6.len:Nat):Int)) (by omega),AE (by omega)];omega
  rw[em,aa];refine ⟨by omega,by omega,Lt.of ?_⟩;have IS:(r7.cut 1 0 (2*S.length-2) r7.cap).len=2*S.length-2:=rfl;rw[IS];generalize hM:2*S.length-2=M at*;refine ⟨fun n st w8=>∃i:Nat,st=(i:Int)/\i<=M/\n=M-i/\RT w8 r7 K/\OB w8 g w2.heap.size c.length (fun j=>cs j ((rows S k).take i))/\Ext (fun _=>False) w w8,M,⟨0,rfl,by omega,rfl,hr7,by simpa[cs]using O7,e7⟩,?_⟩;rintro n st w8 ⟨i,rfl,hiM,rfl,vV,O8,e8⟩;unfold qn;dsimp only;rw[em,aa,IS];refine Br.dec (fun q7=>⟨by omega,by omega,?_⟩) fun q7=>?_
  ·obtain ⟨p,hp⟩:∃p,K[i]?=some p:=⟨_,ad (by omega)⟩
   obtain ⟨g0,nL,vg,hct⟩:=vV.get hp;have hpp:(r7.cut 1 0 M r7.cap).p=some ⟨g0,0,none⟩:=by
    show (if r7.cap=0 then r7.p else r7.p.map (·.add (0*1)))=_;rw[ah (by omega),nL];simp
   rw[hpp];refine Nn.of ?_;simp only[add_lit,aa,aH,aj];refine Ld.mk (x:=some (⟨p.1,0,none⟩:Addr)) vg ?_;have AV:(rows S k)[i]?=some p.2:=by rw[<-hK];exact PE hp
   have DD:(rows S k).take (i+1)=(rows S k).take i++[p.2]:=by rw[aO,AV];rfl
   have wQ:∀j,cs j ((rows S k).take (i+1))=cs j ((rows S k).take i)+p.2.Ft j:=fun j=>by
    rw[DD,Uo];simp[cs]
   refine (Zv p.2 hct O8 (La hsd k p.2 (aB AV)) rfl fun j=>?_).mono ?_
   ·have:=AMQ hsd.lv (k:=k) (m:=i+1) (by omega) (by omega) j;rw[wQ]at this;omega
   ·rintro w9 ⟨e9,O9⟩;refine ⟨M-(i+1),by omega,i+1,by rw[AE (by omega)];rfl,by omega,rfl,⟨vV.1.AB e9 fun j hj hh=>?_,fun q hq=>(vV.2 q hq).AB e9 O8.yz⟩,?_,Ext.new e8 e9 fun j hj=>by subst hj;exact hg⟩
    ·subst hh;obtain ⟨CU,IZ⟩:=vV.own_ty hj;have:=AO.ty IZ O8.row;revert this;decide
    ·have e:(fun j=>cs j ((rows S k).take i)+p.2.Ft j)=fun j=>cs j ((rows S k).take (i+1)):=by
      funext j
      rw[wQ]
     rw[e]at O9;exact O9
  ·have:i=M:=by omega
   subst this;refine Ld.mk O8.var ⟨hw.symm,e8,fun hh=>absurd hw hh,fun _=>⟨_,O8.iv,?_,av _,?_⟩⟩
   ·rw[aa];exact hLR
   ·refine .inr ⟨by omega,S,AFg,?_⟩;rw[aa,<-TX,hM]
end
end Ey
set_option maxHeartbeats 1000000
namespace A8
open Sh DS
attribute [local irreducible] Ld St Nw Nn Lt AP
def inc (c:List Int)(o:Nat):List Int:=c.set o (c.getD o 0+1)
theorem LV (c:List Int)(o:Nat):(inc c o).length=c.length:=by unfold inc;rw[br]
theorem LW {c:List Int}{o:Nat}(h:o<c.length)(j:Nat):(inc c o).getD j 0=if j=o then c.getD o 0+1 else c.getD j 0:=by
 unfold inc;by_cases hj:j=o
 ·subst hj;rw[ak rfl,af,da h]
  rfl
 ·rw[ah hj,af,List.getElem?_set_ne (fun e=>hj e.symm),af]
def Seen (ca cb:List Int)(p:JR):Prop:=if p.n=0 then 0<ca.getD p.b.toNat 0 else 0<ca.getD (257+kL p.n) 0/\0<cb.getD (kD p.f) 0
theorem Seen.up{ca cb ca' cb':List Int}{p:JR}(h:Seen ca cb p)(ha:∀j,ca.getD j 0<=ca'.getD j 0)(hb:∀j,cb.getD j 0<=cb'.getD j 0):Seen ca' cb' p:=by
 unfold Seen at*;split at h
 ·rename_i h0;rw[ak h0];have:=ha p.b.toNat;omega
 ·rename_i h0;rw[ah h0];have:=ha (257+kL p.n);have:=hb (kD p.f);omega
def AFL (c:List Int×List Int)(p:JR):List Int×List Int:=if p.n=0 then (inc c.1 p.b.toNat,c.2)else (inc c.1 (257+kL p.n),inc c.2 (kD p.f))
def kT (l:List JR):List Int×List Int:=l.foldl AFL (inc (List.replicate 286 0) 256,List.replicate 30 0)
theorem Sj (l:List JR)(p:JR):kT (l++[p])=AFL (kT l) p:=by
 unfold kT;rw[du]
 rfl
structure AL7 (ca cb:List Int) (l:List JR) (i:Nat):Prop where
 it:(ca,cb)=kT (l.take i)
 la:ca.length=286
 lb:cb.length=30
 ba:∀j,0<=ca.getD j 0/\ca.getD j 0<=(i:Int)+1
 bb:∀j,0<=cb.getD j 0/\cb.getD j 0<=(i:Int)
 e:0<ca.getD 256 0
 seen:∀p∈l.take i,Seen ca cb p
theorem LX (n j:Nat):(List.replicate n (0:Int)).getD j 0=0:=by
 rw[af,cB];split<;>rfl
theorem sR {w:World}{s:AA}{l:List JR}(hP:PV w s (l.map Hm))(hl:l.length<=1048576)(BA:∀p∈l,p.ok):
  AD2 s w fun r2 r3 w1=>∃ca cb,IV w1 r2 ca/\IV w1 r3 cb/\AL7 ca cb l l.length/\Ext (fun _=>False) w w1:=by
 refine ARN _ _ _ ?_;unfold AJ7;refine ⟨fun st w2=>∃g1 g2:Nat,st=(⟨some ⟨g1,0,none⟩,286,286⟩,⟨some ⟨g2,0,none⟩,30,30⟩)/\Hn w w2 [(g1,ints (List.replicate 286 0),3),(g2,ints (List.replicate 30 0),3)],?_,?_⟩
 ·rintro _ w2 ⟨g1,g2,rfl,H⟩;unfold pg;dsimp only;refine ⟨by decide,by decide,Nn.of ?_⟩;refine H.st 0 rfl (by simp[Ap]) fun w3 H=>?_
  simp only[ai,aq]at H;have e1:(ints (List.replicate 286 0)).set (0+Int.toNat 256*1) (Value.int .i64 1)=ints (inc (List.replicate 286 0) 256):=by
   unfold inc;rw[show (0+Int.toNat 256*1)=256 by decide,ints_set,LX]
   rfl
  rw[e1]at H;refine ⟨fun m i' w4=>∃(i:Nat) (ca cb:List Int),i'=(i:Int)/\i<=l.length/\m=l.length-i/\Hn w w4 [(g1,ints ca,3),(g2,ints cb,3)]/\AL7 ca cb l i,l.length,⟨0,_,_,rfl,bz _,rfl,H,?_⟩,?_⟩
  ·have hg:∀j,(inc (List.replicate 286 0) 256).getD j 0=if j=256 then 1 else 0:=fun j=>by
    rw[LW (by rw[aI];decide),LX,LX]
    rfl
   exact ⟨rfl,by rw[LV,aI],aI,fun j=>by rw[hg];split<;>omega,fun j=>by rw[LX];omega,by rw[hg];decide,fun p hp=>by cases hp⟩
  rintro m i' w4 ⟨i,ca,cb,rfl,hi,rfl,H,hI⟩;unfold pc;have hlen:s.len=l.length:=by rw[hP.1,bp]
  rw[hlen];dsimp only;refine Br.dec (fun q=>?_) fun q=>?_
  ·have FP:i<l.length:=by omega
   have yn:(l.map Hm)[i]?=some (Hm l[i]):=by rw[aE,ad FP];rfl
   obtain ⟨a,ha,c0,c1,c2⟩:=(hP.AB H.ext).get yn;have pok:=BA l[i] (bZ FP);have DD:l.take (i+1)=l.take i++[l[i]]:=by rw[aO,ad FP];rfl
   generalize l[i]=p at*;obtain ⟨pb,pn,pf⟩:=p;have hpb:=pb.toNat_lt;have la:=hI.la;have lb:=hI.lb;rw[ha];refine ⟨by omega,by omega,Nn.of ?_⟩;rw[aa];refine Ld.mk (x:=(pb.toNat:Int)) c0 (Ld.mk (x:=(pn:Int)) c1 (Ld.mk (x:=(pf:Int)) c2 ?_));refine H.nw fun w5 H=>?_
   simp only[ar,ag]at H
   iterate 3 (refine H.st 2 rfl (by simp) fun _ H=>?_;simp only[ag,ar,ai,aq,aj]at H)
   iterate 1 refine H.ld 2 rfl rfl ?_
   refine Br.eq (fun h0=>?_) fun h0=>?_
   ·have iE:pn=0:=by omega
    subst iE
    iterate 1 refine H.ld 2 rfl rfl ?_
    have hba:=hI.ba pb.toNat;refine ⟨by omega,by omega,Nn.of ?_⟩;simp only[add_lit,aa,aH,aj];refine H.ld 0 rfl (EY (by omega)) ?_;refine ⟨by omega,by omega,Nn.of ?_⟩;simp only[add_lit,aa,aH,aj];rw[AE (by omega)];refine H.st 0 rfl (by rw[Ap];omega) fun w9 H=>?_
    simp only[ai,aq]at H;rw[ints_set]at H;have H:=Hn.left (L:=[_,_]) (M:=[_]) H;have hg:=fun j=>LW (c:=ca) (o:=pb.toNat) (by omega) j
    have up:∀j,ca.getD j 0<=(inc ca pb.toNat).getD j 0:=fun j=>by rw[hg];split<;>(try subst_vars)<;>omega
    refine ⟨l.length-(i+1),by omega,i+1,inc ca pb.toNat,cb,by rw[AE (by omega)];rfl,by omega,rfl,H,⟨by rw[DD,Sj,<-hI.it];rfl,by rw[LV];exact la,lb,fun j=>by have:=hI.ba j;rw[hg];split<;>omega,fun j=>by have:=hI.bb j;omega,by have:=hI.e;have:=up 256;omega,fun p hp=>?_⟩⟩;rw[DD]at hp;rcases aQ.1 hp with hp|hp
    ·exact (hI.seen p hp).up up fun j=>bH _
    ·rw[az.1 hp];unfold Seen;rw[ak rfl,hg,ak rfl];omega
   ·have iE:¬pn=0:=by omega
    rcases pok with hp|⟨_,q3,q4,q5,q6⟩
    ·exact absurd hp.1 iE
    dsimp only at q3 q4 q5 q6;obtain ⟨k1,k2,k3,k4⟩:=Hb q3 q4;obtain ⟨d1,d2,d3⟩:=Ha q5 q6
    iterate 1 refine H.ld 2 rfl rfl ?_
    refine (ng (pn:Int) _).mono ?_;rintro a1 a2 a3 a4 w8 ⟨hs,e8⟩;unfold wa at hs;rw[ah (by omega),aa]at hs;simp only[Prod.mk.injEq]at hs;obtain ⟨rfl,rfl,rfl,rfl⟩:=hs;have H:=H.AB e8
    iterate 1 refine H.ld 2 rfl rfl ?_
    refine (nh (pf:Int) _).mono ?_;rintro a1 a2 a3 a4 w9 ⟨hs,e9⟩;unfold we at hs;rw[ah (by omega),aa]at hs;simp only[Prod.mk.injEq]at hs;obtain ⟨rfl,rfl,rfl,rfl⟩:=hs;have H:=H.AB e9;have hba:=hI.ba (257+kL pn);have hbb:=hI.bb (kD pf);refine ⟨by omega,by omega,Nn.of ?_⟩;simp only[add_lit,aa,aH,aj];refine H.ld 0 rfl (EY (by omega)) ?_;refine ⟨by omega,by omega,Nn.of ?_⟩;simp only[add_lit,aa,aH,aj];rw[AE (n:=ca.getD (257+kL pn) 0+1) (by omega)];refine H.st 0 rfl (by rw[Ap];omega) fun IY H=>?_
    simp only[ai,aq]at H;rw[ints_set]at H;refine ⟨by omega,by omega,Nn.of ?_⟩;simp only[add_lit,aa,aH,aj];refine H.ld 1 rfl (EY (by omega)) ?_;refine ⟨by omega,by omega,Nn.of ?_⟩;simp only[add_lit,aa,aH,aj];rw[AE (n:=cb.getD (kD pf) 0+1) (by omega)];refine H.st 1 rfl (by rw[Ap];omega) fun PU H=>?_
    simp only[ai,aq]at H;rw[ints_set]at H;have H:=Hn.left (L:=[_,_]) (M:=[_]) H;have hg:=fun j=>LW (c:=ca) (o:=257+kL pn) (by omega) j
    have hgb:=fun j=>LW (c:=cb) (o:=kD pf) (by omega) j
    have up:∀j,ca.getD j 0<=(inc ca (257+kL pn)).getD j 0:=fun j=>by rw[hg];split<;>(try subst_vars)<;>omega
    have upb:∀j,cb.getD j 0<=(inc cb (kD pf)).getD j 0:=fun j=>by rw[hgb];split<;>(try subst_vars)<;>omega
    refine ⟨l.length-(i+1),by omega,i+1,inc ca (257+kL pn),inc cb (kD pf),by rw[AE (by omega)];rfl,by omega,rfl,H,⟨by rw[DD,Sj,<-hI.it];unfold AFL;rw[ah iE],by rw[LV];exact la,by rw[LV];exact lb,fun j=>by have:=hI.ba j;rw[hg];split<;>omega,fun j=>by have:=hI.bb j;rw[hgb];split<;>omega,by have:=hI.e;have:=up 256;omega,fun p hp=>?_⟩⟩;rw[DD]at hp;rcases aQ.1 hp with hp|hp
    ·exact (hI.seen p hp).up up upb
    ·rw[az.1 hp];unfold Seen;dsimp only;rw[ah iE,hg,ak rfl,hgb,ak rfl];omega
  ·have:i=l.length:=by omega
   subst this;exact ⟨ca,cb,IV.AS (H.get 0 rfl) hI.la.symm,IV.AS (H.get 1 rfl) hI.lb.symm,hI,H.ext⟩
 ·have mk:∀(w1:World) (n:Nat),n<=286->∃w',BW prog (Instr.makeSlice 196 (.int .i64 (n:Int)) (.int .i64 (n:Int))) w1 (AA.v ⟨some ⟨w1.heap.size,0,none⟩,n,n⟩) w'/\AO w' w1.heap.size (ints (List.replicate n 0)).toArray 3/\Ext (fun _=>False) w1 w'/\w1.heap.size<w'.heap.size:=fun w1 n hn=>by
   obtain ⟨w',h1,h2⟩:=YO.make (zs:=[.int .i64 0]) rfl w1 n (by omega) (by omega);rw[G9]at h2;subst h2;exact ⟨_,h1,AO.new w1 _ _,(Ext.refl _ _).alloc _,(AO.new w1 _ _).lt⟩
  have hd:=(Ext.refl (fun _=>False) w).drew;refine ⟨?_,?_⟩
  ·obtain ⟨w1,r1,b1,e1,z1⟩:=mk w.drew 286 (by decide);obtain ⟨w2,r2,b2,e2,z2⟩:=mk w1 30 (by decide);refine ⟨_,w1,r1,_,w2,r2,_,_,rfl,?_⟩;have E:=(hd.tr e1).tr e2;exact (((Hn.start w).AB E).push (e2.AS b1 id) (av _) (by simp)).push b2 (by have:=e1.size;exact this) (by simp only[ag,bw,cK,az];omega)
  ·obtain ⟨w1,r1,b1,e1,z1⟩:=mk w.drew 30 (by decide);obtain ⟨w2,r2,b2,e2,z2⟩:=mk w1 286 (by decide);refine ⟨_,w1,r1,_,w2,r2,_,_,rfl,?_⟩;have E:=(hd.tr e1).tr e2;exact (((Hn.start w).AB E).push b2 (by have:=e1.size;exact this) (by simp)).push (e2.AS b1 id) (av _) (by simp only[ag,bw,cK,az];omega)
theorem IV.front{w:World}{s:AA}{l:List Int}(h:IV w s l){m:Nat}(hm:m<=l.length)(cap:Nat):IV w (s.cut 1 0 m cap) (l.take m):=by
 refine ⟨by show m-0=_;rw[au];omega,by rw[Ap,au];show min m l.length=(m-0)*1;omega,fun j v hj=>?_⟩;have Jx:(ints l)[j]?=some v:=by
  have Am:j<m:=by
   have:=(ao.1 hj).1;rw[Ap,au]at this;omega
  unfold ints at hj⊢;rw[aE,aU,ak Am]at hj;rw[aE];exact hj
 obtain ⟨a,ha,hc⟩:=h.2.2 j v Jx;unfold AA.cut;dsimp only;split
 ·exact ⟨a,ha,hc⟩
 ·refine ⟨a.add (0*1),by rw[ha];rfl,?_⟩;rw[BN,cg,aj];exact hc
theorem sS {w:World}{s:AA}{l:List Int}(h:IV w s l)(hc:s.len<=s.cap)(hl:l.length<=100000)(AB:Nat)(hk:AB<=l.length):pY s (AB:Int) w fun r w1=>IV w1 r (l.take (FC l AB l.length))/\r.len=FC l AB l.length/\w1=w:=by
 refine ARO _ _ _ _ ?_;unfold AJ9;have h1:=h.1;rw[h1];refine ⟨fun m st w3=>∃n:Nat,st=(n:Int)/\n<=l.length/\AB<=n/\m=n/\FC l AB n=FC l AB l.length/\w3=w,l.length,⟨l.length,rfl,av _,hk,rfl,rfl,rfl⟩,?_⟩;rintro m st w3 ⟨n,rfl,hn,hkn,rfl,kB,rfl⟩;unfold pj;rw[h1];have fin:FC l AB m=m->0<=(m:Int)/\(m:Int)<=((s.cap:Nat):Int)/\(IV w3 (s.cut 1 0 ((m:Int)).toNat s.cap) (l.take (FC l AB l.length))/\(s.cut 1 0 ((m:Int)).toNat s.cap).len=FC l AB l.length/\w3=w3):=fun e=>by
  rw[<-kB,e,aa];exact ⟨by omega,by omega,h.front hn _,by show m-0=m;omega,rfl⟩
 refine Br.dec (fun q=>?_) fun q=>fin ?_
 ·obtain ⟨k,rfl⟩:∃k,m=k+1:=⟨m-1,by omega⟩
  rw[AE (by omega),show ((k+1:Nat):Int)-1=(k:Int) by omega];obtain ⟨a,ha,Es⟩:=h.get (i:=k) (by omega);rw[ha];refine ⟨by omega,by omega,Nn.of ?_⟩;rw[aa];refine Ld.mk (x:=l.getD k 0) Es (Br.eq (fun q2=>?_) fun q2=>fin ?_)
  ·refine ⟨k,by omega,k,rfl,by omega,by omega,rfl,?_,rfl⟩;rw[<-kB]
   conv=>rhs;unfold FC
   rw[ak ⟨by omega,q2⟩]
  ·conv=>lhs;unfold FC
   rw[ah (fun hh=>q2 hh.2)]
 ·cases m with
  |zero=>rfl
  |succ m=>
   conv=>lhs;unfold FC
   rw[ah (fun hh=>by omega)]
end A8
namespace A8
open Sh DS
attribute [local irreducible] Ld St Nw Nn Lt AP
def HC (m:Mk):List Value:=[.int .i64 (m.1:Int),.int .i64 (m.2.1:Int),.int .i64 (m.2.2:Int)]
theorem elM:El prog 209 212 3 24 (.agg (HC (0,0,0)).toArray):=⟨by kernel_rfl,by kernel_rfl,by kernel_rfl,by kernel_rfl,rfl⟩
theorem sU (L:List Mk):(L.flatMap HC).length=L.length*3:=by
 induction L with
 |nil=>rfl
 |cons o L ih=>rw[bC,ae,ih,aA];simp[HC];omega
theorem AL8 {L:List Mk}{i j:Nat}{o:Mk}(hi:L[i]?=some o)(hj:j<3):(L.flatMap HC)[i*3+j]?=(HC o)[j]?:=by
 induction L generalizing i with
 |nil=>cases hi
 |cons p L ih=>
  rw[bC];cases i with
  |zero=>
   cases hi;rw[cg,aj,aG (by simp[HC];omega)]
  |succ i=>
   rw[aF (by simp[HC];omega),<-ih (by simpa using hi)]
   congr 1
   simp only[HC,aA,bq];omega
theorem AL9 (L:List Mk):∀v∈L.flatMap HC,v.oneCell'=true:=by
 intro v hv;obtain ⟨q,_,hq⟩:=List.mem_flatMap.1 hv;unfold HC at hq;rcases aN.1 hq with rfl|hq
 ·rfl
 rcases aN.1 hq with rfl|hq
 ·rfl
 rcases aN.1 hq with rfl|hq
 ·rfl
 ·cases hq
def MV (w:World)(s:AA)(L:List Mk):Prop:=s.len=L.length/\Bh w s 3 (L.flatMap HC)
theorem MV.AB{w w':World}{s:AA}{L:List Mk}(h:MV w s L)(he:Ext (fun _=>False) w w'):MV w' s L:=⟨h.1,h.2.AB he⟩
theorem MV.get{w:World}{s:AA}{L:List Mk}(h:MV w s L){i:Nat}{o:Mk}(hi:L[i]?=some o):∃a,s.p=some a/\w.cell? (a.add (i*3))=some (.int .i64 (o.1:Int))/\w.cell? ((a.add (i*3)).add 1)=some (.int .i64 (o.2.1:Int))/\w.cell? ((a.add (i*3)).add 2)=some (.int .i64 (o.2.2:Int)):=by
 have g:∀j v,j<3->(HC o)[j]?=some v->∃a,s.p=some a/\w.cell? ((a.add (i*3)).add j)=some v:=fun j v hj hv=>by
  obtain ⟨a,ha,hc⟩:=h.2.2 (i*3+j) v (by rw[AL8 hi hj];exact hv);exact ⟨a,ha,by rw[BN];exact hc⟩
 obtain ⟨a,ha,c0⟩:=g 0 _ (by omega) rfl;obtain ⟨a1,vT,c1⟩:=g 1 _ (by omega) rfl;obtain ⟨a2,QM,c2⟩:=g 2 _ (by omega) rfl;rw[ha]at vT QM;cases vT;cases QM;exact ⟨a,ha,by rw[BN]at c0;exact c0,c1,c2⟩
theorem XM {w:World}{sl:AA}{D:List Mk}(hr:Row w sl 212 3 (D.flatMap HC))(hl:D.length<=2000000)(Q:List Mk)(hQ:Q.length<=2){n:Nat}(hn:n=Q.length){cs:Array Value}(Oj:cs=(Q.flatMap HC).toArray){K:AA->World->Prop}
  (k:∀s' w',Row w' s' 212 3 ((D++Q).flatMap HC)->Ext sl.own w w'->(∀j,s'.own j->sl.own j\/w.heap.size<=j)->K s' w'):
  Nw w (.cells cs 212) fun v=>Rn prog (Builtin.append_ #[209,209] 209 #[AA.v sl,AA.v ((⟨some ⟨w.heap.size,0,none⟩,n,n⟩:AA))]) v AA.v K:=by
 subst Oj hn;refine Nw.of ?_;have e1:=(Ext.refl (fun _=>False) w).alloc (.cells (Q.flatMap HC).toArray 212);have Ga:sl.len=D.length:=by
  have:=hr.1;rw[sU]at this;omega
 obtain ⟨s',w',Ag,AV,hlen,D8,Ar⟩:=elM.app (ty:=209) (s2:=⟨some ⟨w.heap.size,0,none⟩,Q.length,Q.length⟩) (hr.AB e1 fun _ _ h=>h) (Bh.of (AO.new w _ _) (sU Q)) (AL9 Q) (by show (sl.len+Q.length)*24<=_;omega) (by show sl.len+Q.length<=_;omega);refine ⟨s',w',Ag,k s' w' ?_ ?_ fun j hj=>(Ar j hj).imp id fun h=>cd e1.size h⟩
 ·rw[bJ];exact AV
 ·exact (e1.mono fun _ _ h=>h.elim).trans D8 (fun _ h=>h) fun _ _ h=>h
theorem AFM {w:World}{sl:AA}{D:List Mk}(hr:Row w sl 212 3 (D.flatMap HC)):MV w sl D:=by
 refine ⟨?_,hr.view⟩;have:=hr.1;rw[sU]at this;omega
theorem Nv (l:List Int):∀(k d i:Nat),l.length<=i+k->CQ l (k+d) i=CQ l k i
 |0,0,i,h=>rfl
 |0,d+1,i,h=>by
  show CQ l (0+d+1) i=[];unfold CQ;rw[ak (by omega)]
 |k+1,d,i,h=>by
  rw[show k+1+d=k+d+1 by omega];unfold CQ;split
  ·rfl
  ·rename_i c1;have h1:1<=(CF l i).2:=by
    have:=Gm l i (l.length-(i+1)) 1;unfold CF;dsimp only;split
    ·omega
    ·split
     ·omega
     ·split<;>omega
   rw[Nv l k d (i+(CF l i).2) (by omega)]
theorem M6 (l:List Int){i:Nat}(hi:i<l.length):1<=(CF l i).2/\i+(CF l i).2<=l.length/\(CF l i).1.length<=2:=by
 have:=Gm l i (l.length-(i+1)) 1;unfold CF;dsimp only;split
 ·exact ⟨by omega,by omega,by simp⟩
 ·split
  ·exact ⟨by omega,by omega,by simp⟩
  ·split
   ·exact ⟨by omega,by omega,by simp⟩
   ·exact ⟨by omega,by omega,by simp⟩
theorem XN (l:List Int){i:Nat}(hi:i<l.length):CQ l (l.length-i) i=(CF l i).1++CQ l (l.length-(i+(CF l i).2)) (i+(CF l i).2):=by
 obtain ⟨h1,h2,_⟩:=M6 l hi;rw[show l.length-i=(l.length-(i+1))+1 by omega]
 conv=>lhs;unfold CQ
 rw[ah (by omega)]
 congr 1
 have:=Nv l (l.length-(i+(CF l i).2)) ((CF l i).2-1) (i+(CF l i).2) (by omega);rw[<-this]
 congr 1
 omega
theorem kU (l:List Int)(i n k:Nat):runK l i n (k+1)=if l.getD (i+n) 0=l.getD i 0 then runK l i (n+1) k else n:=rfl
theorem yo {w:World}{s:AA}{l:List Int}(h:IV w s l)(hlen:l.length<=1000)(hl:∀i,0<=l.getD i 0/\l.getD i 0<=15):AD3 s w fun r w1=>MV w1 r (EE l)/\Ext (fun _=>False) w w1:=by
 refine ARQ _ _ _ ?_;unfold AKB;refine ⟨fun m st w3=>∃(i:Nat) (D:List Mk),st.2=(i:Int)/\i<=l.length/\m=l.length-i/\D.length<=2*i/\Row w3 st.1 212 3 (D.flatMap HC)/\D++CQ l (l.length-i) i=EE l/\Ext (fun _=>False) w w3/\∀j,st.1.own j->w.heap.size<=j,l.length,
  ⟨0,[],rfl,bz _,rfl,av _,Row.nil _ _ _,rfl,Ext.refl _ _,fun j hj=>by obtain ⟨a,ha,_⟩:=hj;cases ha⟩,?_⟩
 rintro m ⟨sl,i'⟩ w3 ⟨i,D,YV,hi,rfl,hD,hr,AW,he,ho⟩;simp only at YV hr ho;subst YV;have h1:=h.1;unfold pt;dsimp only;rw[h1];refine Br.dec (fun q=>?_) fun q=>?_
 ·have FP:i<l.length:=by omega
  have hx:=hl i;obtain ⟨b1,b2,b3⟩:=M6 l FP;rw[XN l FP]at AW;have spec:=Gm l i (l.length-(i+1)) 1;refine ⟨fun n' w4=>n'=(runK l i 1 (l.length-(i+1)):Int)/\Ext (fun _=>False) w3 w4,?_,?_⟩
  ·rintro _ w4 ⟨rfl,e4⟩;unfold po;dsimp only;rw[h1];have hr:=hr.AB e4 fun _ _ h=>h
   have he4:=he.tr e4;obtain ⟨a,ha,hc⟩:=(h.AB he4).get FP;rw[ha,aa];have zz:=he4.size
  
   have next:∀(Q:List Mk) (n:Nat),CF l i=(Q,n)->∀s' w',Row w' s' 212 3 ((D++Q).flatMap HC)->Ext sl.own w4 w'->(∀j,s'.own j->sl.own j\/w4.heap.size<=j)->∀x:Int,x=((i+n:Nat):Int)->∃n',n'<l.length-i/\∃(Gc:Nat) (D:List Mk),x=(Gc:Int)/\Gc<=l.length/\n'=l.length-Gc/\D.length<=2*Gc/\Row w' s' 212 3 (D.flatMap HC)/\D++CQ l (l.length-Gc) Gc=EE l/\Ext (fun _=>False) w w'/\∀j,s'.own j->w.heap.size<=j:=by
    rintro Q n hm s' w' r1 r2 r3 x rfl;rw[hm]at b1 b2 b3 AW;dsimp only at b1 b2 b3 AW;refine ⟨l.length-(i+n),by omega,i+n,D++Q,rfl,b2,rfl,by rw[ae];omega,r1,by rw[ax];exact AW,he4.trans r2 (fun _ h=>h) fun j hj e=>by have:=ho j e;omega,fun j hj=>?_⟩;rcases r3 j hj with e|e
    ·exact ho j e
    ·omega
   unfold CF at next
   dsimp only at next
   generalize hn:runK l i 1 (l.length-(i+1))=n at spec next⊢
   have hxn:((l.getD i 0).toNat:Int)=l.getD i 0:=by omega
   refine ⟨by omega,by omega,Nn.of (Ld.mk (x:=l.getD i 0) hc (Br.eq (fun q1=>?_) fun q1=>?_))⟩
   ·refine Br.dec (fun q2=>?_) fun q2=>?_
    ·rw[ak ⟨q1,by omega⟩]at next
     have em:(if (138:Int)<(n:Int)then 138 else (n:Int))=((min n 138:Nat):Int):=by split<;>omega
     rw[em,AE (n:=((min n 138:Nat):Int)-11) (by omega),show ((min n 138:Nat):Int)-11=((min n 138-11:Nat):Int) by omega];refine XM (D:=D) hr (by omega) [(18,min n 138-11,7)] (by simp) rfl rfl fun s' w' r1 r2 r3=>?_
     exact next _ _ rfl s' w' r1 r2 r3 _ (by rw[AE (by omega)];omega)
    ·rw[ah (fun hh=>by omega)]at next
     refine ⟨by omega,by omega,Nn.of (Ld.mk (x:=l.getD i 0) hc (Br.eq (fun _=>?_) fun hh=>absurd q1 hh))⟩;refine Br.dec (fun q3=>?_) fun q3=>?_
     ·rw[ak ⟨q1,by omega⟩]at next
      rw[AE (n:=(n:Int)-3) (by omega),show (n:Int)-3=((n-3:Nat):Int) by omega];refine XM (D:=D) hr (by omega) [(17,n-3,3)] (by simp) rfl rfl fun s' w' r1 r2 r3=>?_
      exact next _ _ rfl s' w' r1 r2 r3 _ (by rw[AE (by omega)];omega)
     ·rw[ah (fun hh=>by omega)]at next
      refine Br.dec (fun q4=>absurd q4 (by omega)) fun q4=>?_
      rw[ah (by omega)]at next
      refine ⟨by omega,by omega,Nn.of (Ld.mk (x:=l.getD i 0) hc ?_)⟩;rw[<-hxn];refine XM (D:=D) hr (by omega) [((l.getD i 0).toNat,0,0)] (by simp) rfl rfl fun s' w' r1 r2 r3=>?_
      exact next _ _ rfl s' w' r1 r2 r3 _ (by rw[AE (by omega)];omega)
   ·rw[ah (fun hh=>q1 hh.1),ah (fun hh=>q1 hh.1)]at next
    refine ⟨by omega,by omega,Nn.of (Ld.mk (x:=l.getD i 0) hc (Br.eq (fun hh=>absurd hh q1) fun _=>?_))⟩;refine Br.dec (fun q4=>?_) fun q4=>?_
    ·rw[ak (by omega)]at next
     have em:(if (7:Int)<(n:Int)then 7 else (n:Int))=((min n 7:Nat):Int):=by split<;>omega
     refine ⟨by omega,by omega,Nn.of (Ld.mk (x:=l.getD i 0) hc ?_)⟩;rw[em,AE (n:=((min n 7:Nat):Int)-4) (by omega),show ((min n 7:Nat):Int)-4=((min n 7-4:Nat):Int) by omega,<-hxn];refine XM (D:=D) hr (by omega) [((l.getD i 0).toNat,0,0),(16,min n 7-4,2)] (by simp) rfl rfl fun s' w' r1 r2 r3=>?_
     exact next _ _ rfl s' w' r1 r2 r3 _ (by rw[AE (by omega)];omega)
    ·rw[ah (by omega)]at next
     refine ⟨by omega,by omega,Nn.of (Ld.mk (x:=l.getD i 0) hc ?_)⟩;rw[<-hxn];refine XM (D:=D) hr (by omega) [((l.getD i 0).toNat,0,0)] (by simp) rfl rfl fun s' w' r1 r2 r3=>?_
     exact next _ _ rfl s' w' r1 r2 r3 _ (by rw[AE (by omega)];omega)
  ·refine ⟨fun m st w4=>∃n:Nat,st=(n:Int)/\1<=n/\i+n<=l.length/\m=l.length-n/\runK l i n (l.length-(i+n))=runK l i 1 (l.length-(i+1))/\Ext (fun _=>False) w3 w4,l.length-1,⟨1,rfl,av _,by omega,rfl,rfl,Ext.refl _ _⟩,?_⟩;rintro m st w4 ⟨n,rfl,n1,n2,rfl,hrn,e4⟩;unfold pq;dsimp only;rw[h1,AE (n:=(i:Int)+(n:Int)) (by omega),show (i:Int)+(n:Int)=((i+n:Nat):Int) by omega];refine Br.dec (fun q1=>?_) fun q1=>?_
   ·obtain ⟨a,ha,hc⟩:=(h.AB (he.tr e4.drew)).get (i:=i+n) (by omega);obtain ⟨a',Oq,me⟩:=(h.AB (he.tr e4.drew)).get FP;rw[ha]at Oq;cases Oq;rw[ha];refine ⟨by omega,by omega,Nn.of ?_⟩;rw[aa,aa];refine Ld.mk (x:=l.getD (i+n) 0) hc ⟨by omega,by omega,Nn.of (Ld.mk (x:=l.getD i 0) me ?_)⟩;rw[show l.length-(i+n)=(l.length-(i+(n+1)))+1 by omega,kU]at hrn;refine Br.eq (fun q2=>?_) fun q2=>?_
    ·rw[ak q2]at hrn;exact ⟨l.length-(n+1),by omega,n+1,by rw[AE (by omega)];rfl,by omega,by omega,rfl,hrn,e4.drew⟩
    ·rw[ah q2]at hrn;exact ⟨by rw[hrn],e4.drew⟩
   ·have:l.length-(i+n)=0:=by omega
    rw[this]at hrn;exact ⟨by rw[<-hrn];rfl,e4.drew⟩
 ·have:i=l.length:=by omega
  subst this;rw[cl]at AW;have AW:D++[]=_:=AW;rw[aM]at AW;rw[<-AW];exact ⟨AFM hr,he⟩
end A8
set_option maxRecDepth 512
set_option maxHeartbeats 200000
section
open Sh
def ACu:Go.Shelf.Ren:={f:=fun _=>162,t:=fun k=>if k=37 then 108 else if k=47 then 146 else k,g:=fun k=>k}
section
variable {P:Program} {t:TypeId} {d:TypeDesc} {z:Value} {n b:Nat}
theorem F3 (h:(P.info? t).map (fun i=>(i.zero,i.size,i.bytes))=some (some z,n,b))(w:World):(Go.sizeOf t).run P w= .ok n w/\(zeroValue t).run P w= .ok z w:=by
 cases hi:P.info? t with
 |none=>rw[hi]at h;cases h
 |some i=>
  rw[hi]at h;have h:=aY h;have h1:i.zero=some z:=bI (fun x=>x.1) h;have h2:i.size=n:=bI (fun x=>x.2.1) h;subst h2;exact ⟨by simp[sizeOf,typeInfo,hi],by simp[zeroValue,typeInfo,hi,h1]⟩
end
theorem lt0:prog.underlying 0=some (TypeDesc.tuple #[]):=by kernel_rfl
theorem li0:(prog.info? 0).map (fun i=>(i.zero,i.size,i.bytes))=some (some (Value.tuple #[]),1,0):=by kernel_rfl
theorem la0 (w:World):(isAgg 0).run prog w= .ok false w:=by simp[isAgg,run_underlying lt0]
theorem lt3:prog.underlying 3=some (TypeDesc.int IntKind.i64):=by kernel_rfl
theorem li3:(prog.info? 3).map (fun i=>(i.zero,i.size,i.bytes))=some (some (Value.int IntKind.i64 0),1,8):=by kernel_rfl
theorem la3 (w:World):(isAgg 3).run prog w= .ok false w:=by simp[isAgg,run_underlying lt3]
theorem lt4:prog.underlying 4=some (TypeDesc.bool):=by kernel_rfl
theorem li4:(prog.info? 4).map (fun i=>(i.zero,i.size,i.bytes))=some (some (Value.bool false),1,1):=by kernel_rfl
theorem la4 (w:World):(isAgg 4).run prog w= .ok false w:=by simp[isAgg,run_underlying lt4]
theorem lt5:prog.underlying 5=some (TypeDesc.int IntKind.u8):=by kernel_rfl
theorem li5:(prog.info? 5).map (fun i=>(i.zero,i.size,i.bytes))=some (some (Value.int IntKind.u8 0),1,1):=by kernel_rfl
theorem la5 (w:World):(isAgg 5).run prog w= .ok false w:=by simp[isAgg,run_underlying lt5]
theorem lt9:prog.underlying 9=some (TypeDesc.string):=by kernel_rfl
theorem li9:(prog.info? 9).map (fun i=>(i.zero,i.size,i.bytes))=some (some (Value.string {data:=#[]}),1,16):=by kernel_rfl
theorem la9 (w:World):(isAgg 9).run prog w= .ok false w:=by simp[isAgg,run_underlying lt9]
theorem AIc:prog.underlying 108=some (TypeDesc.slice 5):=by kernel_rfl
theorem ACv:(prog.info? 108).map (fun i=>(i.zero,i.size,i.bytes))=some (some (Value.slice none 0 0),1,24):=by kernel_rfl
theorem APq (w:World):(isAgg 108).run prog w= .ok false w:=by simp[isAgg,run_underlying AIc]
theorem AId:prog.underlying 146=some (TypeDesc.pointer 5):=by kernel_rfl
theorem ACw:(prog.info? 146).map (fun i=>(i.zero,i.size,i.bytes))=some (some (Value.pointer none),1,8):=by kernel_rfl
theorem APr (w:World):(isAgg 146).run prog w= .ok false w:=by simp[isAgg,run_underlying AId]
set_option maxRecDepth 100000 in
theorem clone_lays:LaysPu.n25 prog ACu where
 mixed:=by kernel_rfl
 f25:=by kernel_rfl
 t0:=lt0
 a0:=la0
 z0:=fun w=>(F3 li0 w).1
 v0:=fun w=>(F3 li0 w).2
 i0:=li0
 t3:=lt3
 a3:=la3
 z3:=fun w=>(F3 li3 w).1
 v3:=fun w=>(F3 li3 w).2
 i3:=li3
 t4:=lt4
 a4:=la4
 z4:=fun w=>(F3 li4 w).1
 v4:=fun w=>(F3 li4 w).2
 i4:=li4
 t5:=lt5
 a5:=la5
 z5:=fun w=>(F3 li5 w).1
 v5:=fun w=>(F3 li5 w).2
 i5:=li5
 t9:=lt9
 a9:=la9
 z9:=fun w=>(F3 li9 w).1
 v9:=fun w=>(F3 li9 w).2
 i9:=li9
 t37:=AIc
 a37:=APq
 z37:=fun w=>(F3 ACv w).1
 v37:=fun w=>(F3 ACv w).2
 i37:=ACv
 t47:=AId
 a47:=APr
 z47:=fun w=>(F3 ACw w).1
 v47:=fun w=>(F3 ACw w).2
 i47:=ACw
theorem MM {B:Nat}{w w':World}(h:Go.RowKit.Below B w w')(hB:B=w.heap.size):Ext (fun _=>False) w w':=by
 subst hB;exact ⟨h.os,h.tape,h.output,h.size,fun k hk _=>h.block k hk⟩
theorem Ik (s:ByteArray)(hs:s.size<=281474976710656)(w:World):AIe s w fun r w1=>r=s/\Ext (fun _=>False) w w1:=by
 have:=AnyPu.stringslite_Clone clone_lays s w hs;exact this.mono fun e w' ⟨he,hb⟩=>⟨s,he,rfl,MM hb rfl⟩
end
set_option maxRecDepth 4000
set_option maxHeartbeats 2000000
namespace A8
open Sh DS
attribute [local irreducible] Ld St Nw Nn Lt AP
theorem sV {c:List Int}{m:Nat}(h:c.length<=288)(hm:1<=m/\m<=15)(hc:∀i,i<c.length->0<=c.getD i 0/\c.getD i 0<=2147483647)(h2:c.length<=2^m):Pm.iF c (m:Int)=0:=by
 rw[Ey.XO h (by omega) hc,ah];rw[aa,<-Pm.sW];have:=Pm.Un c c.length;omega
theorem sX {w:World}{s:AA}{c:List Int}(h:IV w s c)(hl:c.length<=288){m:Nat}(hm:1<=m/\m<=15)(hc:∀i,i<c.length->0<=c.getD i 0/\c.getD i 0<=2147483647)(h2:c.length<=2^m):
  ZO s (m:Int) w (fun r e w1=>Ext (fun _=>False) w w1/\∃l,IV w1 r l/\r.len<=r.cap/\l.length=c.length/\DE l=0/\(∀i,0<=l.getD i 0/\l.getD i 0<=(m:Int))/\(∀i,0<c.getD i 0->0<l.getD i 0)/\Ey.Ny c m l) fun _ _=>False:=by
 refine (Ey.Zn h).mono ?_ fun _ _ h=>h
 rintro r e w1 ⟨_,he,_,h4⟩;obtain ⟨l,a,b,d,u⟩:=h4 (sV hl hm hc h2);rw[aa]at u;have out:∀i,¬i<c.length->l.getD i 0=0/\c.getD i 0=0:=fun i hi=>by
  have:=b.len;exact ⟨by rw[af,bF (by omega)];rfl,by rw[af,bF (by omega)];rfl⟩
 refine ⟨he,l,a,d,b.len,b.DE,fun i=>?_,fun i hi=>?_,u⟩
 ·by_cases hi:i<c.length
  ·have:=b.most i hi;rw[aa]at this;exact ⟨this.1,this.2.1⟩
  ·rw[(out i hi).1];omega
 ·by_cases SE:i<c.length
  ·have:=b.most i SE;have h3:=this.2.2;have h1:=this.1;rcases Int.lt_or_le 0 (l.getD i 0)with h|h
   ·exact h
   ·have:=h3.1 (by omega);omega
  ·have:=(out i SE).2;omega
theorem Vt.ok{many:Nat}:∀(M:List Mk) (acc:List Int),Vt many M acc->∀m∈M,m.ok
 |[],_,_,m,hm=>by cases hm
 |q::M,acc,h,m,hm=>by
  obtain ⟨h1,_,_,h4⟩:=h;rcases aN.1 hm with rfl|hm
  ·exact h1
  ·exact Vt.ok M _ h4 m hm
theorem sY (w:World):xg w fun r w1=>r=(16,17,18,0,8,7,9,6,10,5,11,4,12,3,13,2,14,1,15)/\Ext (fun _=>False) w w1:=by
 refine ARR _ _ ?_;unfold AKC;refine (Hn.start w).nw fun w2 H=>?_
 simp only[ag]at H
 iterate 19 (refine H.st 0 rfl (by simp) fun _ H=>?_;simp only[ag,ar,ai,aq,aj]at H)
 iterate 19 refine H.ld 0 rfl rfl ?_
 exact ⟨rfl,H.ext⟩
theorem AFO {i:Nat}(h:i<19):(#[.int .i64 16,.int .i64 17,.int .i64 18,.int .i64 0,.int .i64 8,.int .i64 7,.int .i64 9,.int .i64 6,.int .i64 10,.int .i64 5,.int .i64 11,.int .i64 4,.int .i64 12,.int .i64 3,.int .i64 13,.int .i64 2,.int .i64 14,.int .i64 1,.int .i64 15]:Array Value)[i]?=some (.int .i64 ((order.getD i 0:Nat):Int)):=by
 have e:(#[.int .i64 16,.int .i64 17,.int .i64 18,.int .i64 0,.int .i64 8,.int .i64 7,.int .i64 9,.int .i64 6,.int .i64 10,.int .i64 5,.int .i64 11,.int .i64 4,.int .i64 12,.int .i64 3,.int .i64 13,.int .i64 2,.int .i64 14,.int .i64 1,.int .i64 15]:Array Value)=(ints (HA order)).toArray:=rfl;rw[e,bV,EY (by rw[Ch];exact h),QX]
def kV (M:List Mk):List Int:=M.foldl (fun c m=>inc c m.1) (List.replicate 19 0)
theorem kW (M:List Mk)(m:Mk):kV (M++[m])=inc (kV M) m.1:=by
 unfold kV;rw[du]
 rfl
theorem own_marks {w:World}{Gy Iy Hz OO s:AA}{AMA:World}{M:List Mk}(hM:MV w Gy M)(hl:M.length<=1000)(BA:∀m∈M,m.1<19){g:Nat}{R:ByteArray->World->Prop}(hx:Iy=⟨some ⟨g,0,none⟩,19,19⟩){w32:World}(H:Hn w w32 [(g,ints (List.replicate 19 0),3)])
  (k:∀w' cm,Hn w w' [(g,ints cm,3)]->cm.length=19->(∀j,0<=cm.getD j 0/\cm.getD j 0<=2147483647)->(∀m∈M,0<cm.getD m.1 0)->cm=kV M->ZO Iy 7 w' (fun lf r66 AXQ=>
   Ml lf AXQ fun vK Y9 AXR=>
    xg AXR fun IN AXS=>
     Lp (σ:=AA×Int) (ZM s AMA Hz OO Gy lf vK IN R) ((⟨none,0,0⟩:AA),0) AXS) fun _ _=>False):
  Lp (σ:=Int) (ZN s AMA Hz OO Gy Iy R fun _ _=>False) 0 w32:=by
 subst hx;refine ⟨fun m i' w4=>∃(i:Nat) (cm:List Int),i'=(i:Int)/\i<=M.length/\m=M.length-i/\Hn w w4 [(g,ints cm,3)]/\cm.length=19/\(∀j,0<=cm.getD j 0/\cm.getD j 0<=(i:Int))/\(∀q∈M.take i,0<cm.getD q.1 0)/\cm=kV (M.take i),M.length,⟨0,_,rfl,bz _,rfl,H,aI,fun j=>by rw[LX];omega,(fun q hq=>by cases hq),rfl⟩,?_⟩;rintro m i' w4 ⟨i,cm,rfl,hi,rfl,H,IS,yp,hcp,hcm⟩;unfold ZN;rw[hM.1];dsimp only;refine Br.dec (fun q=>?_) fun q=>?_
 ·have FP:i<M.length:=by omega
  have yn:M[i]?=some M[i]:=ad FP;have hmk:=BA M[i] (bZ FP);have DD:M.take (i+1)=M.take i++[M[i]]:=by rw[aO,yn];rfl
  obtain ⟨a,ha,c0,c1,c2⟩:=(hM.AB H.ext).get yn;generalize M[i]=mk at*;rw[ha];refine ⟨by omega,by omega,Nn.of ?_⟩;rw[aa];refine Ld.mk (x:=(mk.1:Int)) c0 (Ld.mk (x:=(mk.2.1:Int)) c1 (Ld.mk (x:=(mk.2.2:Int)) c2 ?_));refine H.nw fun w5 H=>?_
  simp only[ar,ag]at H
  iterate 3 (refine H.st 1 rfl (by simp) fun _ H=>?_;simp only[ag,ar,ai,aq,aj]at H)
  iterate 1 refine H.ld 1 rfl rfl ?_
  have hb:=yp mk.1;refine ⟨by omega,by omega,Nn.of ?_⟩;simp only[add_lit,aa,aH,aj];refine H.ld 0 rfl (EY (by omega)) ?_;refine ⟨by omega,by omega,Nn.of ?_⟩;simp only[add_lit,aa,aH,aj];rw[AE (n:=cm.getD mk.1 0+1) (by omega)];refine H.st 0 rfl (by rw[Ap];omega) fun w9 H=>?_
  simp only[ai,aq]at H;rw[ints_set]at H;have H:=Hn.left (L:=[_]) (M:=[_]) H;have hg:=fun j=>LW (c:=cm) (o:=mk.1) (by omega) j
  refine ⟨M.length-(i+1),by omega,i+1,inc cm mk.1,by rw[AE (by omega)];rfl,by omega,rfl,H,by rw[LV];exact IS,fun j=>by have:=yp j;rw[hg];split<;>omega,fun q hq=>?_,by rw[DD,kW,<-hcm]⟩;rw[DD]at hq;rw[hg];rcases aQ.1 hq with hq|hq
  ·have:=hcp q hq;split<;>omega
  ·rw[az.1 hq,ak rfl];omega
 ·have:i=M.length:=by omega
  subst this;rw[bj]at hcp hcm;exact k w4 cm H IS (fun j=>by have:=yp j;omega) hcp hcm
end A8
set_option maxHeartbeats 4000000
namespace A8
open Sh DS
attribute [local irreducible] Ld St Nw Nn Lt AP
theorem Qd (l:List Int):∀(k i:Nat),(CQ l k i).length<=2*k
 |0,i=>av _
 |k+1,i=>by
  unfold CQ;split
  ·simp
  ·rename_i h;have h1:=(M6 l (i:=i) (by omega)).2.2;have h2:=Qd l k (i+(CF l i).2);rw[ae];omega
theorem iG (s:Nat):Hd s<=7:=by
 unfold Hd;split
 ·decide
 ·split<;>decide
theorem PW.base{wA w:World}{wb:Nat}{ws:AA}{AJ:Int}{st:WS}(h:PW wA w wA.heap.size wb ws AJ st):Ext (fun _=>False) wA w:=
 (Ext.refl _ _).trans h.ext (fun _ h=>h) fun j hj e=>by omega
theorem Own.bds(o:Own)(ha:∀i,0<=o.a.getD i 0/\o.a.getD i 0<=15)(hb:∀i,0<=o.b.getD i 0/\o.b.getD i 0<=15)(i:Nat):0<=o.all.getD i 0/\o.all.getD i 0<=15:=by
 unfold Own.all;rw[af];by_cases hi:i<(o.a.take o.na).length
 ·rw[aG hi,<-af,o.ta.take];exact ha i
 ·rw[aF (by omega),<-af,o.tb.take];exact hb _
structure Sl (l:List JR) (o:Own):Prop where
 a:Ey.Ny (kT l).1 15 o.a
 b:Ey.Ny (kT l).2 15 o.b
 c:Ey.Ny (kV (EE o.all)) 7 o.c
theorem Sl.one{l:List JR}{o o':Own}(h:Sl l o)(k:Sl l o'):o=o':=by
 obtain ⟨a,b,c⟩:=o;obtain ⟨a',b',c'⟩:=o';have ea:a=a':=h.a.one k.a;have eb:b=b':=h.b.one k.b;subst ea eb;have ec:c=c':=h.c.one k.c;rw[ec]
theorem ABV {w:World}{s:AA}{l:List JR}(hP:PV w s (l.map Hm))(hl:l.length<=1048576)(hf:Fit l []):xh s w (fun r w1=>∃o:Own,o.ok/\(∀p∈l,Has o.a o.b p)/\r=⟨(o.T l).toArray⟩/\Ext (fun _=>False) w w1/\Sl l o) fun _ _=>False:=by
 have Md:=Fit.ok hf;refine ARa _ _ _ _ ?_;unfold AKD;refine (sR hP hl Md).mono ?_;rintro r2 r3 w4 ⟨ca,cb,Ia,Ib,CI,e4⟩;have vI:=CI.la;have hlb:=CI.lb;refine (sX Ia (m:=15) (by omega) (by decide) (fun i _=>by have:=CI.ba i;omega) (by rw[vI];decide)).mono ?_ fun _ _ h=>h
 rintro r5 r6 w7 ⟨e7,la,Ia,AXU,lla,ca0,ba,AFP,ua⟩;refine (sX (Ib.AB e7) (m:=15) (by omega) (by decide) (fun i _=>by have:=CI.bb i;omega) (by rw[hlb];decide)).mono ?_ fun _ _ h=>h
 rintro r8 r9 IY ⟨JO,lb,Ib,AXV,llb,cb0,bb,AXW,ub⟩;have oR:=CI.it;rw[bj]at oR;have Ia:=Ia.AB JO;have lla:la.length=286:=by rw[lla,vI]
 have llb:lb.length=30:=by rw[llb,hlb]
 have E10:=(e4.tr e7).tr JO;refine (Hn.start IY).Ro fun PU H NQ=>?_
 simp only[ag]at H;have Bg:IY.heap.size<PU.heap.size:=H.lt 0 rfl;refine (F2 (Ia.AB NQ)).mono ?_;rintro Eh jr lN ⟨rfl,e14,_,h14⟩;obtain ⟨t1,rfl,T1⟩:=h14 ca0;have H:=H.AB e14;refine H.EV 0 rfl (by simp) fun VT H fK=>?_
 simp only[ai,aq]at H;have T1:=T1.AB fK fun j h1 h2 e=>by omega
 refine (F2 (Ib.AB H.ext)).mono ?_;rintro O2 ln w18 ⟨rfl,e18,_,h18⟩;obtain ⟨t2,rfl,T2⟩:=h18 cb0;have H:=H.AB e18;have T1:=T1.AB e18 fun _ _ _ h=>h
 have AN:=e14.size;have Bv:=fK.size;have CZ:=e18.size;refine H.EV 0 rfl (by simp) fun vQ H e19=>?_
 simp only[ai,aq]at H;have T1:=T1.AB e19 fun j h1 h2 e=>by have e:j=IY.heap.size:=e;omega
 have T2:=T2.AB e19 fun j h1 h2 e=>by have e:j=IY.heap.size:=e;omega
 have CV:=e19.size;have E19:=E10.tr H.ext;have AXZ:=Ia.AB H.ext;have AXa:=Ib.AB H.ext;have pB:=H.get 0 rfl;refine (sS AXZ AXU (by omega) 257 (by omega)).mono ?_;rintro Hz w21 ⟨AXb,Sm,hw⟩
 replace hw:=hw.symm
 subst hw;refine (sS AXa AXV (by omega) 1 (by omega)).mono ?_;rintro OO w21 ⟨AXc,iH,hw⟩
 replace hw:=hw.symm
 subst hw

 refine Nw.of ?_;have e24:=(Ext.refl (fun _=>False) vQ).alloc (.cells #[] 3);have R0:Row (vQ.alloc (.cells #[] 3)) ⟨some ⟨vQ.heap.size,0,none⟩,0,0⟩ 3 1 []:=Row.new vQ #[] 3 1 0 rfl;have m1:=EB la 257 la.length;have m2:=EB lb 1 lb.length;obtain ⟨JY,w26,Ag,R25,ABX,e26,AMD⟩:=YO.ACZ (ty:=196) (by decide) R0 rfl (AXb.AB e24).2 (Fk _) (by rw[Sm];omega) (by rw[Sm];omega);refine ⟨JY,w26,Ag,?_⟩;have E26:=(e24.tr e26)
 have z24:=e24.size;have DT:=e26.size;obtain ⟨Mn,w28,Ag,R27,Abk,e28,Abl⟩:=YO.app (ty:=196) R25 (AXc.AB E26).2 (Fk _) (by rw[ABX,Sm,iH];omega) (by rw[ABX,Sm,iH];omega);refine ⟨Mn,w28,Ag,?_⟩;have E28:Ext (fun _=>False) vQ w28:=E26.trans e28 (fun _ h=>h) fun j hj e=>by
  rcases AMD j e with ⟨a,ha,hb⟩|e
  ·cases ha;have hb:vQ.heap.size=j:=hb;omega
  ·omega
 rw[<-EZ]at R27

 have BF:∀lc,(Own.mk la lb lc).all=la.take (FC la 257 la.length)++lb.take (FC lb 1 lb.length):=fun _=>rfl
 have ABY:=(Own.mk la lb []).bds ba bb;rw[<-BF []]at R27;have hlen:(Own.mk la lb []).all.length<=316:=by rw[BF,ae,au,au];omega
 refine (yo (IV.row R27) (by omega) ABY).mono ?_;rintro Gy w30 ⟨hM,e30⟩;have hML:(EE (Own.mk la lb []).all).length<=1000:=by
  have:=Qd (Own.mk la lb []).all (Own.mk la lb []).all.length 0;have e:EE (Own.mk la lb []).all=CQ (Own.mk la lb []).all (Own.mk la lb []).all.length 0:=rfl;rw[e];omega
 have yq:=Vt.ok _ _ (Py ABY).1;obtain ⟨w32,Ag,AME⟩:=YO.make (zs:=[.int .i64 0]) rfl w30 19 (by omega) (by omega);refine ⟨_,w32,Ag,?_⟩;rw[G9]at AME;have H32:Hn w30 w32 [(w30.heap.size,ints (List.replicate 19 0),3)]:=by
  rw[AME];exact ((Hn.start w30).AB ((Ext.refl _ _).alloc _)).push (AO.new _ _ _) (av _) (by simp)
 have E30:=E19.tr (E28.tr e30);have F30:=E28.tr e30;generalize hMS:EE (Own.mk la lb []).all=M at*;refine own_marks hM hML (fun m hm=>(yq m hm).1) rfl H32 fun w33 cm H33 cml cmb cmp cmi=>?_
 refine (sX (IV.AS (n:=19) (H33.get 0 rfl) cml.symm) (m:=7) (by omega) (by decide) (fun i _=>cmb i) (by rw[cml];decide)).mono ?_ fun _ _ h=>h
 rintro lf r66 w67 ⟨e67,lc,Ic,Ag2,llc,cc0,bc,AMF,uc⟩;have llc:lc.length=19:=by rw[llc,cml]
 refine (F2 Ic).mono ?_;rintro vK Y9 w70 ⟨rfl,e70,_,h70⟩;obtain ⟨t3,rfl,T3⟩:=h70 cc0;refine (sY w70).mono ?_;rintro IN w83 ⟨rfl,e83⟩;have AMG:=(Ic.AB e70).AB e83;have E83:Ext (fun _=>False) w30 w83:=((H33.ext.tr e67).tr e70).tr e83;have z83:=e83.size;have T3:=T3.AB e83 fun _ _ _ h=>h
 have AXh:(DM lc).length=19:=by unfold DM;rw[bp];rfl
 have sZ:∀i,i<19->(DM lc).getD i 0=lc.getD (order.getD i 0) 0:=fun i hi=>by
  have Vx:i<order.length:=hi;unfold DM;rw[af,aE,ad Vx,af (l:=order),ad Vx]
  rfl
 refine ⟨fun m st w84=>∃i:Nat,st.2=(i:Int)/\i<=19/\m=19-i/\Row w84 st.1 3 1 (ints ((DM lc).take i))/\Ext (fun _=>False) w83 w84/\∀j,st.1.own j->w83.heap.size<=j,19,⟨0,rfl,by decide,rfl,Row.nil _ _ _,Ext.refl _ _,fun j hj=>by obtain ⟨a,ha,_⟩:=hj;cases ha⟩,?_⟩;rintro m ⟨sl,i'⟩ w84 ⟨i,YV,hi,rfl,R84,e84,sa⟩;simp only at YV R84 sa;subst YV;unfold ZM;dsimp only;refine Br.dec (fun q=>?_) fun q=>?_
 ·have AFQ:i<19:=by omega
  have hox:order.getD i 0<19:=fZ _ (by rw[af,ad (show i<order.length from AFQ)];exact bZ _);obtain ⟨a,ha,hc⟩:=(AMG.AB e84).get (i:=order.getD i 0) (by omega);refine ⟨by omega,by omega,((order.getD i 0:Nat):Int),by rw[aa,aH];exact AFO AFQ,by omega,by rw[AMG.1];omega,?_⟩;rw[ha];refine Nn.of ?_;rw[aa];refine Ld.mk (x:=lc.getD (order.getD i 0) 0) hc (Nw.of ?_);have e1:=(Ext.refl (fun _=>False) w84).alloc (.cells #[.int .i64 (lc.getD (order.getD i 0) 0)] 3);have Ga:sl.len=i:=by rw[(IV.row R84).1,au];omega
  obtain ⟨s',w',Ag,AV,AMH,D8,Ar⟩:=YO.Ip (ty:=196) (ys:=[.int .i64 (lc.getD (order.getD i 0) 0)]) (R84.AB e1 fun _ _ h=>h) (AO.new w84 _ _) rfl (fun v hv=>by rw[az.1 hv];rfl) (by omega) (by omega);have z1:=e1.size;have lz:=e84.size;refine ⟨s',w',Ag,19-(i+1),by omega,i+1,by rw[AE (by omega)];rfl,by omega,rfl,?_,(e84.tr e1).trans D8 (fun _ h=>h) fun j hj e=>by have:=sa j e;omega,fun j hj=>?_⟩
  ·have:(DM lc).take (i+1)=(DM lc).take i++[lc.getD (order.getD i 0) 0]:=by rw[<-sZ i AFQ,take_one (by omega)]
   rw[this,EZ];exact AV
  ·rcases Ar j hj with e|e
   ·exact sa j e
   ·omega
 have:i=19:=by omega
 subst this;have R84:Row w84 sl 3 1 (ints (DM lc)):=by
  rw[aX (by omega)]at R84;exact R84
 refine (sS (IV.row R84) (O5 R84) (by omega) 4 (by omega)).mono ?_;rintro r93 wA ⟨I93,sb,rfl⟩

 generalize hoe:Own.mk la lb lc=o at*;have oa:o.a=la:=by rw[<-hoe]
 have ob:o.b=lb:=by rw[<-hoe]
 have oc:o.c=lc:=by rw[<-hoe]
 have AFS:o.all=(Own.mk la lb []).all:=by rw[<-hoe];rfl
 have EA:Ext (fun _=>False) w30 wA:=E83.tr e84;have FA:Ext (fun _=>False) vQ wA:=F30.tr EA;have T1:=T1.AB FA fun _ _ _ h=>h
 have T2:=T2.AB FA fun _ _ _ h=>h
 have T3:=T3.AB e84 fun _ _ _ h=>h
 have MA:=hM.AB EA;have pA:=FA.AS pB id;have PA:=hP.AB (E19.tr FA);have zA:=FA.size;have zA2:=e84.size;have zA3:=EA.size;have BA:o.ok:=⟨by rw[oa];exact lla,by rw[ob];exact llb,by rw[oc];exact llc,by rw[oa];exact ca0,by rw[ob];exact cb0,by rw[oc];exact cc0,by rw[oa];exact AFP 256 CI.e,fun i=>by rw[oc];exact bc i,fun m hm=>by
  rw[AFS,hMS]at hm;rw[oc];exact ⟨(yq m hm).1,AMF _ (cmp m hm)⟩⟩
 have hof:Sl l o:=⟨by rw[oa,<-oR];exact ua,by rw[ob,<-oR];exact ub,by rw[oc,AFS,hMS,<-cmi];exact uc⟩
 have AMJ:∀p∈l,Has o.a o.b p:=fun p hp=>by
  have hs:=CI.seen p (by rw[bj];exact hp);rw[oa,ob];unfold Seen at hs;unfold Has;rw[lla,llb];split
  ·rename_i h0;rw[ak h0]at hs;have:=p.b.toNat_lt;exact ⟨by omega,AFP _ hs⟩
  ·rename_i h0;rw[ah h0]at hs;rcases Md p hp with hh|⟨_,q3,q4,q5,q6⟩
   ·exact absurd hh.1 h0
   ·have k1:=(Hb q3 q4).1;have d1:=(Ha q5 q6).1;exact ⟨⟨by omega,AFP _ hs.1⟩,by omega,AXW _ hs.2⟩
 obtain ⟨n1,n2,n3,n4,n5,n6,n7⟩:=Own.fg BA;have na:o.na=FC la 257 la.length:=by rw[<-hoe];rfl
 have nb:o.nb=FC lb 1 lb.length:=by rw[<-hoe];rfl
 have ni:o.ni=FC (DM lc) 4 (DM lc).length:=by rw[<-hoe];rfl
 rw[<-na]at Sm;rw[<-nb]at iH;rw[<-ni]at sb I93;rw[Sm,iH,sb];refine (DS.F2 wA).mono ?_;rintro ZJ w96 ⟨rfl,W,e96⟩;have P96:PW wA w96 wA.heap.size wA.heap.size ⟨none,0,0⟩ 0 ([],0):=⟨W,FY.zero _,.inl rfl,(fun j hj=>by
  rcases hj with e|⟨a,ha,_⟩
  ·omega
  ·cases ha),e96.size,e96.mono fun _ _ h=>h.elim⟩
 have g0:∀(st:WS) (v n k:Nat),st.1.length<=k->(lw st v n).1.length<=k+n:=fun st v n k h=>by have:=JB st v n;omega
 refine (P96.low (by simp) 1 1 (by decide) (by decide) (.inl (by decide))).mono ?_;rintro _ w98 ⟨s98,P98,_⟩;have l98:=g0 ([],0) 1 1 0 (by simp);refine (P98.low (by omega) 2 2 (by decide) (by decide) (.inl (by decide))).mono ?_;rintro _ Ag9 ⟨AhA,AXi,_⟩;have AXj:=g0 _ 2 2 _ l98;rw[AE (n:=((o.na:Nat):Int)-257) (by omega),show ((o.na:Nat):Int)-257=((o.na-257:Nat):Int) by omega,AE (n:=((o.nb:Nat):Int)-1) (by omega),show ((o.nb:Nat):Int)-1=((o.nb-1:Nat):Int) by omega,AE (n:=((o.ni:Nat):Int)-4) (by omega),show ((o.ni:Nat):Int)-4=((o.ni-4:Nat):Int) by omega];refine (AXi.low (by omega) (o.na-257) 5 (by show _<32;omega) (by decide) (.inl (by decide))).mono ?_;rintro _ AhB ⟨AhC,AXk,_⟩;have AXl:=g0 _ (o.na-257) 5 _ AXj;refine (AXk.low (by omega) (o.nb-1) 5 (by show _<32;omega) (by decide) (.inl (by decide))).mono ?_;rintro _ AhD ⟨AhE,AXm,_⟩;have AXn:=g0 _ (o.nb-1) 5 _ AXl;refine (AXm.low (by omega) (o.ni-4) 4 (by show _<16;omega) (by decide) (.inl (by decide))).mono ?_;rintro _ AXo ⟨AMK,AFT,_⟩;have AFU:=g0 _ (o.ni-4) 4 _ AXn;have AFT:PW wA AXo wA.heap.size wA.heap.size AMK 1 o.Cz:=AFT;have AFU:o.Cz.1.length<=17:=AFU;have AXp:∀i,i<o.ni->(order.take o.ni)[i]?=some (order.getD i 0):=fun i hi=>by
  rw[aU,ak hi,ad (show i<order.length by show i<19;omega),af,ad (show i<order.length by show i<19;omega)]
  rfl
 have Abr:(order.take o.ni).length=o.ni:=by rw[au];show min o.ni 19=_;omega
 refine ⟨fun m i' w3=>∃(i:Nat) (ws:AA),i'=(i:Int)/\i<=o.ni/\m=o.ni-i/\PW wA w3 wA.heap.size wA.heap.size ws 1 (((order.take o.ni).take i).foldl (wO lc) o.Cz)/\(((order.take o.ni).take i).foldl (wO lc) o.Cz).1.length<=17+3*i,o.ni,⟨0,AMK,rfl,bz _,rfl,AFT,AFU⟩,?_⟩;rintro m i' w3 ⟨i,ws,rfl,hi,rfl,P3,l3⟩;unfold p6;rw[sb];refine Br.dec (fun q=>?_) fun q=>?_
 ·have Uk:i<o.ni:=by omega
  obtain ⟨a,ha,hc⟩:=(I93.AB P3.base).get (i:=i) (by rw[au];omega);rw[Pt Uk,sZ i (by omega)]at hc;have b7:=bc (order.getD i 0);rw[ha];refine ⟨by omega,by omega,Nn.of ?_⟩;rw[aa];refine Ld.mk (x:=lc.getD (order.getD i 0) 0) hc ?_;have hv:((lc.getD (order.getD i 0) 0).toNat:Int)=lc.getD (order.getD i 0) 0:=by omega
  have AML:((order.take o.ni).take (i+1)).foldl (wO lc) o.Cz=lw (((order.take o.ni).take i).foldl (wO lc) o.Cz) (lc.getD (order.getD i 0) 0).toNat 3:=by
   rw[aO,AXp i Uk,du]
   rfl
  rw[<-hv];refine (P3.low (by omega) (lc.getD (order.getD i 0) 0).toNat 3 (by show _<8;omega) (by decide) (.inl (by decide))).mono ?_;rintro _ w5 ⟨s5,P5,_⟩;have l5:=g0 _ (lc.getD (order.getD i 0) 0).toNat 3 _ l3;rw[<-AML]at P5 l5;exact ⟨o.ni-(i+1),by omega,i+1,s5,by rw[AE (by omega)];rfl,by omega,rfl,P5,by omega⟩
 have:i=o.ni:=by omega
 subst this;rw[aX (by omega)]at P3 l3;have AXq:(order.take o.ni).foldl (wO lc) o.Cz=o.ff:=by rw[<-oc];rfl
 rw[AXq]at P3 l3;have hkc:=A5 cc0;have hM3:∀st (m:Mk),m∈M->(wM lc st m).1.length<=st.1.length+22:=fun st m hm=>by
  have h1:=Hl (st:=st) hkc m.1;have h2:=JB (cw lc st m.1) m.2.1 m.2.2;have h3:=(yq m hm).2.2;have h4:=iG m.1;unfold wM;split at h3<;>omega
 refine ⟨fun m i' w5=>∃(i:Nat) (ws:AA),i'=(i:Int)/\i<=M.length/\m=M.length-i/\PW wA w5 wA.heap.size wA.heap.size ws 1 ((M.take i).foldl (wM lc) o.ff)/\((M.take i).foldl (wM lc) o.ff).1.length<=17+3*o.ni+22*i,M.length,⟨0,ws,rfl,bz _,rfl,P3,l3⟩,?_⟩;rintro m i' w5 ⟨i,ws5,rfl,hi,rfl,P5,l5⟩;unfold pv;rw[MA.1];refine Br.dec (fun q=>?_) fun q=>?_
 ·have Uk:i<M.length:=by omega
  have yn:M[i]?=some M[i]:=ad Uk;have DV:=bZ Uk;have AXr:=yq _ DV;have HX:=AMF _ (cmp _ DV);have AXs:=hM3 ((M.take i).foldl (wM lc) o.ff) _ DV;have DD:(M.take (i+1)).foldl (wM lc) o.ff=wM lc ((M.take i).foldl (wM lc) o.ff) M[i]:=by
   rw[aO,yn,du]
   rfl
  obtain ⟨a,ha,c0,c1,c2⟩:=(MA.AB P5.base).get yn;rw[<-DD]at AXs;obtain ⟨k1,k2,k3⟩:=AXr;have k4:=iG M[i].1;rw[ha];refine ⟨by omega,by omega,Nn.of ?_⟩;rw[aa];refine Ld.mk (x:=(M[i].1:Int)) c0 (Ld.mk (x:=(M[i].2.1:Int)) c1 (Ld.mk (x:=(M[i].2.2:Int)) c2 ?_));refine (Hn.start w5).nw fun w6 H=>?_
  simp only[ag]at H
  iterate 3 (refine H.st 0 rfl (by simp) fun _ H=>?_;simp only[ag,ar,ai,aq,aj]at H)
  rename_i w7;have P7:=P5.AB H.ext;have H7:M5 w7 wA.heap.size ws5 [(w5.heap.size,[.int .i64 (M[i].1:Int),.int .i64 (M[i].2.1:Int),.int .i64 (M[i].2.2:Int)],212)]:=fun p hp=>by
   rw[az.1 hp];exact ⟨H.get 0 rfl,fun hh=>by have:=P5.wr.lt _ hh;simp at this⟩
  refine H7.ld 0 rfl rfl ?_;refine (P7.sign (by omega) T3 (by omega) cc0 (by rw[llc];exact k1) HX).mono ?_;rintro _ w8 ⟨s8,P8,n8⟩;have H8:=H7.call n8;have l8:=Hl (st:=(M.take i).foldl (wM lc) o.ff) hkc M[i].1;refine H8.ld 0 rfl rfl ?_;refine H8.ld 0 rfl rfl ?_;refine (P8.low (by omega) M[i].2.1 M[i].2.2 k2 (by split at k3<;>omega) (.inr rfl)).mono ?_;rintro _ w9 ⟨s9,P9,n9⟩;refine ⟨M.length-(i+1),by omega,i+1,s9,by rw[AE (by omega)];rfl,by omega,rfl,?_,by omega⟩;rw[DD];exact P9
 have:i=M.length:=by omega
 subst this;rw[bj]at P5 l5;have AXt:M.foldl (wM lc) o.ff=o.Vw:=by rw[<-oc,<-hMS,<-AFS];rfl
 rw[AXt]at P5 l5;have bB:=P5.base.AS pA id;refine Ld.of bB rfl (Ld.of bB rfl ?_);have PVk:=PA.AB P5.base;refine (sP (wlo:=wA.heap.size) (s:=s) (l:=l) PVk (fun Iv j hj=>by have:=PA.lt (by simpa using Iv) hj;exact this) hl (fun p hp=>⟨Md p hp,AMJ p hp⟩) (by rw[oa];exact T1.AB P5.base fun _ _ _ h=>h) (by rw[ob];exact T2.AB P5.base fun _ _ _ h=>h) (by omega) (by omega) BA.ca BA.cb (by rw[oa,lla];decide) BA.AC2 P5.wr P5.inv P5.AJ P5.lo P5.Nu (by omega)).mono ?_;rintro w22 ⟨s22,P22,n22⟩;have z1:=Um (A5 BA.ca) (A5 BA.cb) l o.Vw Md;have z2:=Hl (st:=l.foldl (wP o.a o.b) o.Vw) (A5 BA.ca) 256;refine (Tm P22.wr (by omega)).mono ?_;rintro r w24 ⟨rfl,AXu⟩;refine ⟨o,BA,AMJ,rfl,?_,hof⟩;exact (((E19.tr FA).tr P5.base).trans P22.ext (fun _ h=>h) fun j hj e=>by have:=(E19.tr FA).size;omega).tr AXu
end A8
set_option maxHeartbeats 1000000
namespace A8
open Sh DS
attribute [local irreducible] Ld St Nw Nn Lt AP
theorem AXv {s:ByteArray}(hs:s.size<=281474976710656)(w:World):UU s w fun r w1=>r=s/\Ext (fun _=>False) w w1:=by
 refine ARb _ _ _ ?_;unfold AKE;exact (Ik s hs w).mono fun r w1 h=>h
def shorter (a b:List UInt8):List UInt8:=if a.length<b.length then a else b
theorem Je {a b:List UInt8}(h:a.length<b.length):shorter a b=a:=ak h
theorem Jf {a b:List UInt8}(h:¬a.length<b.length):shorter a b=b:=ah h
def Nz (s:List UInt8)(lv:Int)(T:List UInt8):Prop:=(lv=0/\T=DG 1 s)\/(lv≠0/\lv≠2/\T=shorter (nV (Cs s)) (DG 1 s))\/(lv=2/\∃o:Own,Sl (Cs s) o/\T=shorter (o.T (Cs s)) (shorter (nV (Cs s)) (DG 1 s)))
theorem Nz.one{s T T':List UInt8}{lv:Int}(h:Nz s lv T)(k:Nz s lv T'):T=T':=by
 rcases h with ⟨h1,h2⟩|⟨h1,h2,h3⟩|⟨h1,o,h2,h3⟩<;>rcases k with ⟨k1,k2⟩|⟨k1,k2,k3⟩|⟨k1,o',k2,k3⟩
 all_goals first
  |(rw[h2,k2];done)
  |(rw[h3,k3];done)
  |(rw[h3,k3,h2.one k2];done)
  |(exfalso;omega)
def AMM (S:ByteArray)(lv:Int)(w:World)(r:ByteArray)(e:Int)(w1:World):Prop:=
 e=0/\(∃T:List UInt8,r=⟨T.toArray⟩/\F9 T S.data.toList/\T.length<=S.size+5/\(lv=0->T.length=S.size+5)/\Nz S.data.toList lv T)/\Ext (fun _=>False) w w1
theorem EO (T:List UInt8):(⟨T.toArray⟩:ey).size=T.length:=by show T.toArray.size=_;simp
theorem AFV {S:ByteArray}(hs:S.size<=65535){lv:Int}(h0:0<=lv)(h2:lv<=2)(w:World):AD4 S lv w (fun r e w1=>AMM S lv w r e w1) (fun _ _=>False):=by
 have A1:S.data.toList.length=S.size:=(Ah S).symm;refine ARc _ _ _ _ _ ?_;unfold AKF;refine Br.dec (fun q=>absurd q (by omega)) fun _=>Br.dec (fun q=>absurd q (by omega)) fun _=>Br.dec (fun q=>absurd q (by omega)) fun _=>?_
 refine (kX (S:=S) (by omega) w).mono ?_;rintro r w4 ⟨rfl,e4⟩;rw[SA (by omega)];have g3:=Tv S.data.toList (by omega);have l3:(DG 1 S.data.toList).length=S.size+5:=by rw[Gp];omega
 generalize hT3:DG 1 S.data.toList=T3 at g3 l3;refine Br.eq (fun q=>⟨rfl,⟨T3,rfl,g3,by omega,fun _=>l3,.inl ⟨q,hT3.symm⟩⟩,e4⟩) fun hlv=>?_
 refine (yr (S:=S) (by omega) w4).mono ?_;rintro r5 w6 ⟨P5,e6⟩;obtain ⟨Du,se⟩:=Yn S.data.toList;have OH:(Cs S.data.toList).length<=1048576:=by
  have:(Cs S.data.toList).length<=S.data.toList.length:=KH _ _ _;omega
 refine (sQ P5 OH Du).mono ?_ fun _ _ h=>h
 rintro r IY ⟨rfl,JO⟩;have g9:=Vv Du;rw[se]at g9;have P10:=P5.AB JO;have E10:=(e4.tr e6).tr JO;generalize hT9:nV (Cs S.data.toList)=T9 at g9

 have fin:∀(T:List UInt8) (Ef:World),F9 T S.data.toList->T.length<=S.size+5->Ext (fun _=>False) w Ef->Nz S.data.toList lv T->UU (⟨T.toArray⟩:ey) Ef fun r Fs=>AMM S lv w r 0 Fs:=fun T Ef g hT e u=>by
  refine (AXv (by rw[EO];omega) Ef).mono ?_;rintro r Fs ⟨rfl,YT⟩;exact ⟨rfl,⟨T,rfl,g,hT,fun h=>absurd h hlv,u⟩,e.tr YT⟩
 rw[EO,EO];refine Br.dec (fun q1=>Br.eq (fun q2=>?_) fun q2=>?_) fun q1=>Br.eq (fun q2=>?_) fun q2=>?_
 ·refine (ABV P10 OH Du).mono ?_ fun _ _ h=>h
  rintro r Ef ⟨o,BA,hh,rfl,TU,hof⟩;have g11:=own_gives BA Du hh;rw[se]at g11;have u:Nz S.data.toList lv (shorter (o.T (Cs S.data.toList)) T9):= .inr (.inr ⟨q2,o,hof,by rw[hT9,hT3,Je (a:=T9) (b:=T3) (by omega)]⟩);generalize o.T (Cs S.data.toList)=T11 at g11 u;rw[EO];refine Br.dec (fun q3=>?_) fun q3=>?_
  ·rw[Je (by omega)]at u;exact fin T11 Ef g11 (by omega) (E10.tr TU) u
  ·rw[Jf (by omega)]at u;exact fin T9 Ef g9 (by omega) (E10.tr TU) u
 ·exact fin T9 IY g9 (by omega) E10 (.inr (.inl ⟨hlv,q2,by rw[hT9,hT3,Je (by omega)]⟩))
 ·refine (ABV P10 OH Du).mono ?_ fun _ _ h=>h
  rintro r Ef ⟨o,BA,hh,rfl,TU,hof⟩;have g11:=own_gives BA Du hh;rw[se]at g11;have u:Nz S.data.toList lv (shorter (o.T (Cs S.data.toList)) T3):= .inr (.inr ⟨q2,o,hof,by rw[hT9,hT3,Jf (a:=T9) (b:=T3) (by omega)]⟩);generalize o.T (Cs S.data.toList)=T11 at g11 u;rw[EO];refine Br.dec (fun q3=>?_) fun q3=>?_
  ·rw[Je (by omega)]at u;exact fin T11 Ef g11 (by omega) (E10.tr TU) u
  ·rw[Jf (by omega)]at u;exact fin T3 Ef g3 (by omega) (E10.tr TU) u
 ·exact fin T3 IY g3 (by omega) E10 (.inr (.inl ⟨hlv,q2,by rw[hT9,hT3,Jf (by omega)]⟩))
end A8
namespace A8
open Sh DS
attribute [local irreducible] Ld St Nw Nn Lt AP
theorem Laid.to{N:Nat}{w w':World}(h:Laid N w)(he:Ext (fun _=>False) w w'):Laid N w':=h.AB he fun _ h=>h.elim
end A8
namespace A8
open Sh DS
theorem NO {n:Int}(h:0<=n/\n<=4294967295):wrap .u32 n=n:=by
 unfold IntKind.wrap;simp[IntKind.bits,IntKind.signed];omega
theorem ur {x y:Nat}(hx:x<2^32)(hy:y<2^32):CY .u32 (x:Int) (y:Int)=((x&&&y:Nat):Int):=by
 unfold CY;rw[Bm,Bm];have h1:(BitVec.ofNat IntKind.u32.bits x&&&BitVec.ofNat IntKind.u32.bits y).toNat=x&&&y:=by
  rw[BitVec.toNat_and,BitVec.toNat_ofNat,BitVec.toNat_ofNat,bA (by simp[IntKind.bits];omega),bA (by simp[IntKind.bits];omega)]
 rw[h1];have h2:x&&&y<2^32:=Nat.and_lt_two_pow x hy;exact NO (by omega)
theorem zv {x y:Nat}(hx:x<2^32)(hy:y<2^32):Kk .u32 (x:Int) (y:Int)=((x|||y:Nat):Int):=by
 unfold Kk;rw[Bm,Bm];have h1:(BitVec.ofNat IntKind.u32.bits x|||BitVec.ofNat IntKind.u32.bits y).toNat=x|||y:=by
  rw[BitVec.toNat_or,BitVec.toNat_ofNat,BitVec.toNat_ofNat,bA (by simp[IntKind.bits];omega),bA (by simp[IntKind.bits];omega)]
 rw[h1];have h2:x|||y<2^32:=Nat.or_lt_two_pow hx hy
 exact NO (by omega)
def mD (p:Nat×Nat)(x:UInt8):Nat×Nat:=((p.1+x.toNat)%65521,(p.2+(p.1+x.toNat)%65521)%65521)
def ad0 (was:Nat):Nat×Nat:=(was%65536%65521,was/65536%65521)
def adN (p:Nat×Nat):Nat:=p.2*65536+p.1
def NW (was:Nat)(l:List UInt8):Nat:=adN (l.foldl mD (ad0 was))
theorem AB5:∀(l:List UInt8) (p:Nat×Nat),p.1<65521/\p.2<65521->(l.foldl mD p).1<65521/\(l.foldl mD p).2<65521
 |[],p,h=>h
 |x::l,p,h=>by
  rw[b9];exact AB5 l _ ⟨cX _ (by decide),cX _ (by decide)⟩
theorem AGV (was:Nat):(ad0 was).1<65521/\(ad0 was).2<65521:=⟨cX _ (by decide),cX _ (by decide)⟩
theorem YA (x n:Nat):Int.tmod (x:Int) (n:Int)=((x%n:Nat):Int):=by
 rw[Int.tmod_eq_emod_of_nonneg (by omega)];simp
attribute [local irreducible] Ld St Nw Nn Lt AP
theorem wq {p:Nat×Nat}(h:p.1<65521/\p.2<65521)(x:UInt8){c:Int}(hc:c=(x.toNat:Int))(w:World):AE2 ((p.1:Int),(p.2:Int)) c w fun r w1=>r=(((mD p x).1:Int),((mD p x).2:Int))/\Ext (fun _=>False) w w1:=by
 subst hc;have hx:=x.toNat_lt;refine AW0 ((p.1:Int),(p.2:Int)) _ _ _ ?_;unfold ALb;refine (Hn.start w).nw fun w3 H=>?_
 simp only[ag]at H;refine H.nw fun w4 H=>?_
 simp only[ar,ag]at H
 iterate 1 refine H.ld 0 rfl rfl ?_
 have e1:Int.tmod (wrap .u32 ((p.1:Int)+wrap .u32 (x.toNat:Int))) 65521=(((p.1+x.toNat)%65521:Nat):Int):=by
  rw[NO (n:=(x.toNat:Int)) (by omega),NO (by omega)];exact YA (p.1+x.toNat) 65521
 have m1:(p.1+x.toNat)%65521<65521:=cX _ (by decide);rw[e1]
 iterate 1 (refine H.st 0 rfl (by simp) fun _ H=>?_;simp only[ag,ar,ai,aq,aj]at H)
 iterate 2 refine H.ld 0 rfl rfl ?_
 have e2:Int.tmod (wrap .u32 ((p.2:Int)+(((p.1+x.toNat)%65521:Nat):Int))) 65521=(((p.2+(p.1+x.toNat)%65521)%65521:Nat):Int):=by
  rw[NO (by omega)];exact YA (p.2+(p.1+x.toNat)%65521) 65521
 rw[e2]
 iterate 1 (refine H.st 0 rfl (by simp) fun _ H=>?_;simp only[ag,ar,ai,aq,aj]at H)
 iterate 2 refine H.ld 0 rfl rfl ?_
 iterate 2 (refine H.st 1 rfl (by simp) fun _ H=>?_;simp only[ag,ar,ai,aq,aj]at H)
 iterate 2 refine H.ld 1 rfl rfl ?_
 exact ⟨rfl,H.ext⟩
theorem lI {s:List UInt8}{i:Nat}(h:i<s.length)(p:Nat×Nat):(s.take (i+1)).foldl mD p=mD ((s.take i).foldl mD p) (s.getD i 0):=by
 rw[aO,ad h,du,af,ad h]
 rfl
theorem AGW {was:Nat}(hw:was<4294967296){S:ByteArray}(hs:S.size<=4294967296)(w:World):AE3 (was:Int) S w fun r w1=>r=((NW was S.data.toList:Nat):Int)/\Ext (fun _=>False) w w1:=by
 have A1:S.data.toList.length=S.size:=(Ah S).symm;refine AW1 _ _ _ _ ?_;unfold ALc;refine (Hn.start w).nw fun w3 H=>?_
 simp only[ag]at H;have e1:Int.tmod (CY .u32 (was:Int) 65535) 65521=((was%65536%65521:Nat):Int):=by
  have:=ur (x:=was) (y:=65535) (by omega) (by decide);rw[show (65535:Int)=((65535:Nat):Int)from rfl,this,show (65535:Nat)=2^16-1 by decide,dj];exact YA _ 65521
 have e2:Int.tmod (Int.fdiv (was:Int) (2^16)) 65521=((was/65536%65521:Nat):Int):=by
  rw[fdiv_pow,show (2:Int)^16=((65536:Nat):Int) by decide,<-dA];exact YA _ 65521
 rw[e1,e2]
 iterate 2 (refine H.st 0 rfl (by simp) fun _ H=>?_;simp only[ag,ar,ai,aq,aj]at H)
 refine ⟨fun m i' w5=>∃i:Nat,i'=(i:Int)/\i<=S.size/\m=S.size-i/\Hn w w5 [(w.heap.size,[.int .u32 (((S.data.toList.take i).foldl mD (ad0 was)).1:Int),.int .u32 (((S.data.toList.take i).foldl mD (ad0 was)).2:Int)],217)],S.size,⟨0,rfl,bz _,rfl,H⟩,?_⟩;rintro m i' w5 ⟨i,rfl,hi,rfl,H⟩;unfold rD;have Am:=AB5 (S.data.toList.take i) _ (AGV was);refine Br.dec (fun q=>?_) fun q=>?_
 ·have H:=H.drew
  iterate 2 refine H.ld 0 rfl rfl ?_
  refine ⟨by omega,by omega,?_⟩;have htf:=lI (s:=S.data.toList) (i:=i) (by omega) (ad0 was);refine (wq Am (S.data.toList.getD i 0) (DX S i) _).mono ?_;rintro r w6 ⟨rfl,e6⟩;have H:=H.AB e6
  iterate 2 (refine H.st 0 rfl (by simp) fun _ H=>?_;simp only[ag,ar,ai,aq,aj]at H)
  refine ⟨S.size-(i+1),by omega,i+1,by rw[AE (by omega)];rfl,by omega,rfl,?_⟩;rw[htf];exact H
 ·have:i=S.size:=by omega
  subst this;rw[aX (by omega)]at H Am
  iterate 2 refine H.ld 0 rfl rfl ?_
  refine ⟨?_,H.ext⟩;have hn:(((S.data.toList.foldl mD (ad0 was)).2:Nat):Int)*2^16=(((S.data.toList.foldl mD (ad0 was)).2*65536:Nat):Int):=by
   rw[show (2:Int)^16=65536 by decide];simp
  rw[hn,NO (by omega),zv (by omega) (by omega),show (65536:Nat)=2^16 by decide,cW,<-Nat.two_pow_add_eq_or_of_lt (by omega)];unfold NW adN;rw[show (2:Nat)^16=65536 by decide,cW]
theorem AB6 {S:ByteArray}(hs:S.size<=4294967296)(w:World):yP S w fun r w1=>r=((NW 1 S.data.toList:Nat):Int)/\Ext (fun _=>False) w w1:=by
 refine AW2 _ _ _ ?_;unfold ALd;exact (AGW (was:=1) (by decide) hs w).mono fun r w1 h=>h
end A8
namespace A8
open Sh DS
attribute [local irreducible] Ld St Nw Nn Lt AP
theorem eqL (a b:ByteArray):(a.toList==b.toList)=decide (a.data.toList=b.data.toList):=by
 rw[ByteArray.toList_eq,ByteArray.toList_eq];by_cases h:a.data.toList=b.data.toList
 ·rw[aD h];simpa using h
 ·rw[aP h];simpa using h
theorem FN (l:List UInt8):(⟨l.toArray⟩:ey).data.toList=l:=by simp
theorem RY (a b:ByteArray):(a++b).data.toList=a.data.toList++b.data.toList:=by rw[ByteArray.data_append,cR]
def Iq (n:Nat):List UInt8:=[UInt8.ofNat (n/16777216),UInt8.ofNat (n/65536),UInt8.ofNat (n/256),UInt8.ofNat n]
theorem u8w (n:Nat):wrap .u8 (n:Int)=((UInt8.ofNat n).toNat:Int):=by
 unfold IntKind.wrap;simp[IntKind.bits,IntKind.signed]
theorem AYw (n:Nat):Int.fdiv (n:Int) (2^24)=((n/16777216:Nat):Int):=by
 rw[fdiv_pow,show (2:Int)^24=((16777216:Nat):Int) by decide,<-dA]
theorem AYx (n:Nat):Int.fdiv (n:Int) (2^16)=((n/65536:Nat):Int):=by
 rw[fdiv_pow,show (2:Int)^16=((65536:Nat):Int) by decide,<-dA]
theorem fd8 (n:Nat):Int.fdiv (n:Int) (2^8)=((n/256:Nat):Int):=by
 rw[fdiv_pow,show (2:Int)^8=((256:Nat):Int) by decide,<-dA]
theorem uu {n:Nat}(w:World):yO (n:Int) w fun r w1=>r=⟨(Iq n).toArray⟩/\Ext (fun _=>False) w w1:=by
 refine AWz _ _ _ ?_;unfold ALa;rw[AYw,AYx,fd8,u8w,u8w,u8w,u8w];refine Nw.of ?_;have e1:=(Ext.refl (fun _=>False) w).alloc (.cells (Bw (Iq n)).toArray 5);have R1:BQ (w.alloc (.cells (Bw (Iq n)).toArray 5)) ⟨some ⟨w.heap.size,0,none⟩,4,4⟩ (Iq n):=Row.new w (Bw (Iq n)).toArray 5 1 4 rfl;exact ⟨_,_,HP R1,rfl,e1⟩
theorem JT (n:Nat):(Iq n).length=4:=rfl
def YB (a b:Nat):Int:=if a%16≠8 then 3 else if 7<a/16 then 3 else if (256*a+b)%31≠0 then 3 else if b/32%2≠0 then 3 else 0
def EU (s:ByteArray):Int:=if s.size<2 then 4 else YB (s.data.toList.getD 0 0).toNat (s.data.toList.getD 1 0).toNat
theorem ANL:∀b:Nat,b<256->b&&&32=b/32%2*32:=by decide+kernel
theorem ANM:∀b:Nat,b<256->b&&&15=b%16:=by decide+kernel
theorem uv (s:ByteArray)(w:World):AE4 s w fun r w1=>r=EU s/\Ext (fun _=>False) w w1:=by
 refine AW3 _ _ _ ?_;unfold ALe;refine Br.dec (fun q=>⟨by unfold EU;rw[ak (by omega)],Ext.refl _ _⟩) fun q=>⟨by decide,by omega,by decide,by omega,?_⟩
 have e:EU s=YB (s.data.toList.getD 0 0).toNat (s.data.toList.getD 1 0).toNat:=by unfold EU;rw[ah (by omega)]
 have h0:Cp s 0=(((s.data.toList.getD 0 0).toNat:Nat):Int):=DX s 0;have h1:Cp s 1=(((s.data.toList.getD 1 0).toNat:Nat):Int):=DX s 1;rw[e,h0,h1];have l0:=(s.data.toList.getD 0 0).toNat_lt;have l1:=(s.data.toList.getD 1 0).toNat_lt;generalize (s.data.toList.getD 0 0).toNat=a at*;generalize (s.data.toList.getD 1 0).toNat=b at*;have l0:a<256:=l0;have l1:b<256:=l1;rw[AE (n:=(a:Int)) (by omega),AE (n:=(b:Int)) (by omega)];have a1:CY .i64 (a:Int) 15=((a%16:Nat):Int):=by rw[show (15:Int)=((15:Nat):Int)from rfl,Kp (by omega) (by decide),ANM a l0]
 have a2:Int.fdiv (a:Int) (2^4)=((a/16:Nat):Int):=by rw[fdiv_pow,show (2:Int)^4=((16:Nat):Int) by decide,<-dA]
 have a3:Kk .i64 (wrap .i64 ((a:Int)*2^8)) (b:Int)=((256*a+b:Nat):Int):=by
  rw[show (a:Int)*2^8=((a*2^8:Nat):Int) by simp,AE (by omega),Td (by omega) (by omega),Nat.or_comm,Ii (by omega)];omega
 have a4:CY .i64 (b:Int) 32=((b/32%2*32:Nat):Int):=by rw[show (32:Int)=((32:Nat):Int)from rfl,Kp (by omega) (by decide),ANL b l1]
 have hd:=(Ext.refl (fun _=>False) w).drew;rw[a1,a2,a3,a4];unfold YB;refine Br.ne (fun h=>⟨(ak (by omega)).symm,hd⟩) fun h=>?_
 rw[ah (by omega)];refine Br.dec (fun h=>⟨(ak (by omega)).symm,hd⟩) fun h=>?_
 rw[ah (by omega)];refine Lt.of ?_;have a5:Int.tmod (((256*a+b:Nat):Int)) 31=(((256*a+b)%31:Nat):Int):=YA _ 31;rw[a5];refine Br.ne (fun h=>⟨(ak (by omega)).symm,hd⟩) fun h=>?_
 rw[ah (by omega)];refine Br.ne (fun h=>⟨(ak (by omega)).symm,hd⟩) fun h=>?_
 rw[ah (by omega)];exact ⟨rfl,hd⟩
def fk (T s:List UInt8):List UInt8:=[120,156]++(T++Iq (NW 1 s))
def ANN (S:ByteArray)(lv:Int)(w:World)(r:ByteArray)(e:Int)(w1:World):Prop:=
 e=0/\(∃T:List UInt8,r=⟨(fk T S.data.toList).toArray⟩/\F9 T S.data.toList/\T.length<=S.size+5/\(lv=0->T.length=S.size+5)/\Nz S.data.toList lv T)/\Ext (fun _=>False) w w1
theorem AC5 {S:ByteArray}(hs:S.size<=65535){lv:Int}(h0:0<=lv)(h2:lv<=2)(w:World):C90 S lv w (fun r e w1=>ANN S lv w r e w1) (fun _ _=>False):=by
 refine T90 _ _ _ _ _ ?_;unfold S90;refine (AFV hs h0 h2 w).mono ?_ fun _ _ h=>h
 rintro r e w5 ⟨rfl,⟨T,rfl,g,h1,h3,h4⟩,e5⟩;have ANO:IntKind.i64.max=9223372036854775807:=rfl;have hs2:(⟨#[120,156]⟩:ey).size=2:=rfl;refine Br.ne (fun h=>(h rfl).elim) fun _=>⟨by rw[ANO,hs2,EO];omega,?_⟩
 refine (AB6 (S:=S) (by omega) w5).mono ?_;rintro r6 w7 ⟨rfl,e7⟩;refine (uu w7).mono ?_;rintro r8 w9 ⟨rfl,e9⟩;refine ⟨by rw[ANO,ByteArray.size_append,hs2,EO,EO,JT];omega,rfl,⟨T,?_,g,h1,h3,h4⟩,(e5.tr e7).tr e9⟩;refine FW ?_;rw[RY,RY,FN,FN,FN];exact ax _ _ _
def PJ (s:ByteArray)(most:Int):ByteArray×Int:=
 if EU s≠0 then (⟨#[]⟩,EU s)else
 if (Dw (s.extract 2 s.size) most).2.2≠0 then (⟨#[]⟩,(Dw (s.extract 2 s.size) most).2.2)else
 if (s.size:Int)-2-(Dw (s.extract 2 s.size) most).2.1<4 then (⟨#[]⟩,4)else
 if ((s.data.toList.drop 2).drop (Dw (s.extract 2 s.size) most).2.1.toNat).take 4=Iq (NW 1 (Dw (s.extract 2 s.size) most).1.data.toList)then ((Dw (s.extract 2 s.size) most).1,0)else (⟨#[]⟩,12)
theorem fD {s:ByteArray}{most:Int}{d:ByteArray}{n:Int}(h:(d,n,0)=Dw s most):d.size<=1048576:=by
 by_cases hm:most<0
 ·unfold Dw at h;rw[ak hm]at h;cases h
 ·have e:Dw s most=Dw s (min most 1048576):=by
   rw[KL (by omega),KL (by omega),show min (min most 1048576) 1048576=min most 1048576 by omega]
  rw[e]at h;obtain ⟨u,_,_,_,u3,_,_⟩:=KX h;omega
theorem fE {s:ByteArray}(h:EU s=0):2<=s.size:=by
 unfold EU at h;split at h
 ·cases h
 ·omega
theorem np {s:ByteArray}(hs:s.size<=1000000){N:Nat}{w:World}(hL:Laid N w)(m:Int):C91 s m w fun d e w1=>(d,e)=PJ s m/\Ext (fun _=>False) w w1:=by
 have A1:s.data.toList.length=s.size:=(Ah s).symm;refine T91 _ _ _ _ ?_;unfold S91;refine (uv s w).mono ?_;rintro r5 w6 ⟨rfl,e6⟩;unfold PJ;refine Br.ne (fun h=>⟨(ak h).symm,e6⟩) fun h=>?_
 rw[ah (fun k=>k h)];have h2:=fE h;refine ⟨by decide,by omega,?_⟩;have e2:((2:Int)).toNat=2:=rfl;rw[e2];have hx:(s.extract 2 s.size).size=s.size-2:=by rw[cr];omega
 have II:(s.extract 2 s.size).data.toList=s.data.toList.drop 2:=Bp s 2;generalize s.extract 2 s.size=x at*;refine (ALz (s:=x) (by omega) (hL.to e6) m).mono ?_;rintro t n e IY ⟨hR,JO⟩;rw[<-hR];dsimp only;refine Br.ne (fun h=>⟨(ak h).symm,e6.tr JO⟩) fun h=>?_
 subst h;rw[ah (fun k=>k rfl)];have ht:=fD hR;obtain ⟨u,rfl,u1,u2,u3,_,_⟩:=KX hR;rw[AE (n:=((x.size:Nat):Int)-(u:Int)) (by omega)];refine Lt.of ?_;refine Br.dec (fun q=>⟨(ak (by omega)).symm,e6.tr JO⟩) fun q=>?_
 rw[ah (by omega)];have ew:wrap .i64 ((u:Int)+4)=((u+4:Nat):Int):=AE (by omega);rw[ew,aa,aa];refine ⟨by omega,by omega,by omega,by omega,?_⟩;refine (AB6 (S:=t) (by omega) _).mono ?_;rintro Eh Fs ⟨rfl,YT⟩;refine (uu _).mono ?_;rintro Jt VT ⟨rfl,fK⟩;have E:=(((e6.tr JO).drew).tr YT).tr fK;have hex:(x.extract u (u+4)).data.toList=((s.data.toList.drop 2).drop u).take 4:=by
  rw[Ao,II,show u+4-u=4 by omega]
 rw[eqL,hex,FN];by_cases hq:((s.data.toList.drop 2).drop u).take 4=Iq (NW 1 t.data.toList)
 ·rw[ak hq];exact Br.f (by rw[aD hq];rfl) ⟨rfl,E⟩
 ·rw[ah hq];exact Br.t (by rw[aP hq];rfl) ⟨rfl,E⟩
theorem jb {T out R:List UInt8}{a b:UInt8}(h:YB a.toNat b.toNat=0)(g:F9 T out)(hb:out.length<=1048576){most:Int}(hm:(out.length:Int)<=most):
  PJ ⟨(a::b::(T++R)).toArray⟩ most=if R.length<4 then (⟨#[]⟩,4)else if R.take 4=Iq (NW 1 out)then (⟨out.toArray⟩,0)else (⟨#[]⟩,12):=by
 have A1:(⟨(a::b::(T++R)).toArray⟩:ey).size=2+T.length+R.length:=by rw[EO];simp;omega
 have hbg:EU ⟨(a::b::(T++R)).toArray⟩=0:=by
  unfold EU;rw[ah (by omega),FN];exact h
 have hex:(⟨(a::b::(T++R)).toArray⟩:ey).extract 2 (⟨(a::b::(T++R)).toArray⟩:ey).size=⟨T.toArray⟩++⟨R.toArray⟩:=by
  refine FW ?_;rw[Bp,RY,FN,FN,FN]
  rfl
 have hR:=g.Dw hb hm;obtain ⟨u,hu,_,_,_,AGX,_⟩:=KX hR.symm;have hu:u=T.length:=by omega
 subst hu;have hT:(⟨T.toArray⟩:ey).extract 0 T.length=⟨T.toArray⟩:=FW (by rw[Ao];simp);have BF:=AGX ⟨R.toArray⟩ 0 (by decide);rw[hT,Int.add_zero]at BF;unfold PJ;rw[hbg,ah (fun k=>k rfl),hex,BF,A1,FN];dsimp only;rw[ah (fun k=>k rfl)];by_cases hl:R.length<4
 ·have A2:((2+T.length+R.length:Nat):Int)-2-((T.length:Nat):Int)<4:=by omega
  rw[ak hl,ak A2]
 ·have A2:¬((2+T.length+R.length:Nat):Int)-2-((T.length:Nat):Int)<4:=by omega
  have:List.drop T.length (List.drop 2 (a::b::(T++R)))=R:=by simp
  rw[ah hl,ah A2,aa,this]
end A8
namespace A8
open Sh DS
attribute [local irreducible] Ld St Nw Nn Lt AP
theorem h156:YB (120:UInt8).toNat (156:UInt8).toNat=0:=by decide+kernel
theorem FI (l:List UInt8){i:Nat}(h:i<l.length)(c:UInt8):l.take i++[c]++l.drop (i+1)=l.set i c:=by
 rw[dI,ak h,ax]
 rfl
end A8
set_option maxHeartbeats 200000
namespace IK
open Sh
def VR (l:List UInt8)(i:Int):Nat:=if i<0 then 0 else (l.getD i.toNat 0).toNat
theorem NA (l:List UInt8)(i:Int):VR l i<256:=by unfold VR;split;omega;exact UInt8.toNat_lt _
def Qm (a b c:Nat):Nat:=
 if ((a:Int)+b-c-a).natAbs<=((a:Int)+b-c-b).natAbs/\((a:Int)+b-c-a).natAbs<=((a:Int)+b-c-c).natAbs then a
 else if ((a:Int)+b-c-b).natAbs<=((a:Int)+b-c-c).natAbs then b else c
theorem tH {a b c:Nat}(ha:a<256)(hb:b<256)(hc:c<256):Qm a b c<256:=by unfold Qm;split;exact ha;split;exact hb;exact hc
def off (tag:Int)(prev row:List UInt8)(i colors:Nat):Nat:=
 if tag=1 then VR row ((i:Int)-colors)
 else if tag=2 then VR prev i
 else if tag=3 then (VR row ((i:Int)-colors)+VR prev i)/2
 else if tag=4 then Qm (VR row ((i:Int)-colors)) (VR prev i) (VR prev ((i:Int)-colors))
 else 0
theorem tI (tag:Int)(prev row:List UInt8)(i colors:Nat):off tag prev row i colors<256:=by
 have h1:=NA row ((i:Int)-colors);have h2:=NA prev i;have h3:=NA prev ((i:Int)-colors);unfold off;split
 ·exact h1
 ·split
  ·exact h2
  ·split
   ·omega
   ·split
    ·exact tH h1 h2 h3
    ·omega
theorem iY {tag:Int}{prev row tJ:List UInt8}{i colors:Nat}(hc:1<=colors)(h:∀j,j<i->row.getD j 0=tJ.getD j 0):off tag prev row i colors=off tag prev tJ i colors:=by
 have:VR row ((i:Int)-colors)=VR tJ ((i:Int)-colors):=by
  unfold VR;split
  ·rfl
  ·rw[h _ (by omega)]
 unfold off;rw[this]
def less (tag:Int)(prev row:List UInt8)(colors:Nat):List UInt8:=(List.range row.length).map fun i=>row.getD i 0-UInt8.ofNat (off tag prev row i colors)
theorem BZ (tag:Int)(prev row:List UInt8)(colors:Nat):(less tag prev row colors).length=row.length:=by simp[less]
theorem Xc {tag:Int}{prev row:List UInt8}{colors i:Nat}(h:i<row.length):(less tag prev row colors).getD i 0=row.getD i 0-UInt8.ofNat (off tag prev row i colors):=by
 simp[less,af,h]
theorem kd {tag:Int}{prev row:List UInt8}{colors i:Nat}(h:i<row.length):(less tag prev row colors).take (i+1)=(less tag prev row colors).take i++[row.getD i 0-UInt8.ofNat (off tag prev row i colors)]:=by
 rw[aO,ad (by rw[BZ];exact h)]
 congr 1
 have:=Xc (tag:=tag) (prev:=prev) (colors:=colors) h;rw[af,ad (by rw[BZ];exact h)]at this;simpa using this
def far (l:List UInt8):Nat:=(l.map fun b=>min b.toNat (256-b.toNat)).sum
theorem tK (l:List UInt8){i:Nat}(h:i<l.length):far (l.take (i+1))=far (l.take i)+min (l.getD i 0).toNat (256-(l.getD i 0).toNat):=by
 have e:l.take (i+1)=l.take i++[l.getD i 0]:=by
  rw[aO,ad h];simp[af,h]
 unfold far;rw[e,bh,List.sum_append];simp
theorem tL:∀(l:List UInt8),far l<=256*l.length
 |[]=>by simp[far]
 |b::l=>by
  have ih:=tL l;have:=b.toNat_lt;simp only[far,bw,List.sum_cons,aA]at*;omega
def IB (prev row:List UInt8)(colors:Nat):Nat->Nat×Nat
 |0=>(0,0)
 |k+1=>let n:=far (less k prev row colors);if k=0\/n<(IB prev row colors k).2 then (k,n)else IB prev row colors k
def Zx (prev row:List UInt8)(colors:Nat):Nat:=(IB prev row colors 5).1
def dec (tag:Int)(prev raw:List UInt8)(colors:Nat):Nat->List UInt8
 |0=>[]
 |i+1=>dec tag prev raw colors i++[raw.getD i 0+UInt8.ofNat (off tag prev (dec tag prev raw colors i) i colors)]
theorem Uz (tag:Int)(prev raw:List UInt8)(colors:Nat):∀i,(dec tag prev raw colors i).length=i
 |0=>rfl
 |i+1=>by simp[dec,Uz tag prev raw colors i]
theorem Xb {tag:Int}{prev row:List UInt8}{colors:Nat}(hc:1<=colors):∀i,i<=row.length->dec tag prev (less tag prev row colors) colors i=row.take i
 |0,_=>by simp[dec]
 |i+1,h=>by
  have ih:=Xb (tag:=tag) (prev:=prev) (row:=row) hc i (by omega);have hg:row[i]?=some (row.getD i 0):=by rw[ad (by omega)];simp[af,show i<row.length by omega]
  rw[dec,ih,Xc (by omega),aO,hg]
  congr 1
  rw[iY (row:=row.take i) (tJ:=row) hc fun j hj=>by simp[af,hj]];simp
end IK
namespace IK
open Sh
def GB (p:Int×Int×Int):Bool:=decide ((p.1=1\/p.1=2\/(10<=p.1/\p.1<=15))/\1<=p.2.1/\1<=p.2.2/\p.2.1*p.2.2<=8192)
theorem AFm {p:Int×Int×Int}(h:¬((p.1=1\/p.1=2\/(10<=p.1/\p.1<=15))/\1<=p.2.1/\1<=p.2.2/\p.2.1*p.2.2<=8192)):GB p=false:=aP h
theorem Fm {p:Int×Int×Int}(h:GB p=true):(p.1=1\/p.1=2\/(10<=p.1/\p.1<=15))/\1<=p.2.1/\1<=p.2.2/\p.2.1*p.2.2<=8192:=bf h
theorem WC (p:Int×Int×Int)(w:World):C46 p w fun r w1=>r=GB p/\Ext (fun _=>False) w w1:=by
 refine T46 _ _ _ ?_;unfold S46;refine (Hx.start w (fun _=>False)).nw fun w2 H=>?_
 have no:∀{u:World},Ext (fun _=>False) w u->¬((p.1=1\/p.1=2\/(10<=p.1/\p.1<=15))/\1<=p.2.1/\1<=p.2.2/\p.2.1*p.2.2<=8192)->false=GB p/\Ext (fun _=>False) w u:=fun he h=>⟨(AFm h).symm,he⟩
 refine H.ld 0 rfl rfl (AX (fun k=>?a) fun k1=>H.ld 0 rfl rfl (AX (fun k=>?b) fun k2=>H.ld 0 rfl rfl (AX (fun k3=>H.ld 0 rfl rfl (AX (fun k=>?c) fun k=>?d)) fun k=>?e)))
 case d=>
  have a1:¬p.1=1:=by simpa using k1
  have a2:¬p.1=2:=by simpa using k2
  have a3:10<=p.1:=by simpa using k3
  have a4:¬p.1<=15:=by simpa using k
  exact no H.drew.ext (fun h=>by omega)
 case e=>
  have a1:¬p.1=1:=by simpa using k1
  have a2:¬p.1=2:=by simpa using k2
  have a3:¬10<=p.1:=by simpa using k
  exact no H.drew.ext (fun h=>by omega)
 case' a=>have hk:p.1=1\/p.1=2\/(10<=p.1/\p.1<=15):= .inl (by simpa using k)
 case' b=>have hk:p.1=1\/p.1=2\/(10<=p.1/\p.1<=15):= .inr (.inl (by simpa using k))
 case' c=>have hk:p.1=1\/p.1=2\/(10<=p.1/\p.1<=15):= .inr (.inr ⟨by simpa using k3,by simpa using k⟩)
 all_goals
  refine H.drew.ld 0 rfl rfl (AX (fun g1=>H.drew.ld 0 rfl rfl (AX (fun g2=>H.drew.ld 0 rfl rfl (AX (fun g3=>H.drew.ld 0 rfl rfl (H.drew.ld 0 rfl rfl ?f)) fun g3=>?g)) fun g2=>?h)) fun g1=>?i)
  case i=>
   have b1:¬1<=p.2.1:=by simpa using g1
   exact no H.drew.ext (fun h=>by omega)
  case h=>
   have b1:¬1<=p.2.2:=by simpa using g2
   exact no H.drew.ext (fun h=>by omega)
  case g=>
   have b1:1<=p.2.1:=by simpa using g1
   have b2:1<=p.2.2:=by simpa using g2
   have b3:¬p.2.1<=8192:=by simpa using g3
   refine no H.drew.ext (fun h=>?_);have:p.2.1*1<=p.2.1*p.2.2:=Int.mul_le_mul_of_nonneg_left b2 (by omega);omega
  case f=>
   have b1:1<=p.2.1:=by simpa using g1
   have b2:1<=p.2.2:=by simpa using g2
   refine ⟨by omega,?_,H.drew.ext⟩;have hd:(8192:Int)/p.2.1<=8192:=Int.ediv_le_self _ (by omega);have h0:0<=(8192:Int)/p.2.1:=Int.ediv_nonneg (by omega) (by omega);rw[Km (by omega),AE (by omega)];unfold GB;refine decide_eq_decide.2 ⟨fun h=>⟨hk,b1,b2,?_⟩,fun h=>?_⟩
   ·rw[Int.mul_comm];exact (Int.le_ediv_iff_mul_le (by omega)).1 h
   ·exact (Int.le_ediv_iff_mul_le (by omega)).2 (by rw[Int.mul_comm];exact h.2.2.2)
def tG (p:Int×Int×Int):Int:=if GB p=true then p.2.1*p.2.2 else 0
theorem ABg (p:Int×Int×Int)(w:World):yB p w fun r w1=>r=tG p/\Ext (fun _=>False) w w1:=by
 refine ASh _ _ _ ?_;unfold AKy;refine (Hx.start w (fun _=>False)).nw fun w2 H=>H.ld 0 rfl rfl (H.ld 0 rfl rfl (H.ld 0 rfl rfl ((WC _ _).mono ?_)))
 rintro r w3 ⟨rfl,he⟩;have H:=H.AB he;unfold tG;refine AX (fun e=>?_) fun e=>?_
 ·have e:GB p=false:=by simpa using e
  rw[e];exact ⟨rfl,H.ext⟩
 ·have e:GB p=true:=by simpa using e
  have h:=Fm e;refine H.ld 0 rfl rfl (H.ld 0 rfl rfl ⟨?_,H.ext⟩);rw[ak e,AE];have:1*1<=p.2.1*p.2.2:=Int.mul_le_mul h.2.1 h.2.2.1 (by omega) (by omega);omega
theorem Ov (p:Int×Int×Int)(w:World):vO p w fun r w1=>r=(if GB p=true then 0 else 1)/\Ext (fun _=>False) w w1:=by
 refine T24 _ _ _ ?_;unfold S24;refine (Hx.start w (fun _=>False)).nw fun w2 H=>H.ld 0 rfl rfl (H.ld 0 rfl rfl (H.ld 0 rfl rfl ((WC _ _).mono ?_)))
 rintro r w3 ⟨rfl,he⟩;have H:=H.AB he;refine AX (fun e=>?_) fun e=>?_
 ·have e:GB p=false:=by simpa using e
  exact ⟨by rw[e];rfl,H.ext⟩
 ·have e:GB p=true:=by simpa using e
  exact ⟨by rw[e];rfl,H.ext⟩
def CJ (p:Int×Int×Int)(n row:Int):Int:=if GB p=false then 1 else if 1048576<n then 5 else if p.1≠1/\Int.tmod n row≠0 then 16 else 0
theorem XW (p:Int×Int×Int)(s:ByteArray){row:Int}(hr:row≠0)(w:World):yC p s row w fun r w1=>r=CJ p s.size row/\Ext (fun _=>False) w w1:=by
 refine ASi _ _ _ _ _ ?_;unfold AKz;refine (Hx.start w (fun _=>False)).nw fun w2 H=>H.ld 0 rfl rfl (H.ld 0 rfl rfl (H.ld 0 rfl rfl ((WC _ _).mono ?_)))
 rintro r w3 ⟨rfl,he⟩;have H:=H.AB he;unfold CJ;refine AX (fun e=>?_) fun e=>AX (fun e2=>?_) fun e2=>H.ld 0 rfl rfl (AX (fun e3=>⟨hr,AX (fun e4=>?_) fun e4=>?_⟩) fun e3=>?_)
 ·have e:GB p=false:=by simpa using e
  exact ⟨by rw[ak e],H.ext⟩
 all_goals have e:¬GB p=false:=by simpa using e
 ·have e2:(1048576:Int)<(s.size:Int):=by simpa using e2
  exact ⟨by rw[ah e,ak e2],H.ext⟩
 all_goals have e2:¬(1048576:Int)<(s.size:Int):=by simpa using e2
 ·have e3:¬p.1=1:=by simpa using e3
  have e4:¬Int.tmod (s.size:Int) row=0:=by simpa using e4
  exact ⟨by rw[ah e,ah e2,ak ⟨e3,e4⟩],H.ext⟩
 ·have e4:Int.tmod (s.size:Int) row=0:=by simpa using e4
  exact ⟨by rw[ah e,ah e2,ah (fun h=>h.2 e4)],H.ext⟩
 ·have e3:p.1=1:=by simpa using e3
  exact ⟨by rw[ah e,ah e2,ah (fun h=>h.1 e3)],H.ext⟩
theorem PF {a b:Int}(ha:-100000<=a/\a<=100000)(hb:-100000<=b/\b<=100000)(w:World):yD a b w fun r w1=>r=((a-b).natAbs:Int)/\w1=w:=by
 refine ASk _ _ _ _ ?_;unfold AK1;rw[AE (n:=b-a) (by omega),AE (n:=a-b) (by omega)];refine Lt.of ⟨?_,rfl⟩;split<;>omega
theorem zF {a b c:Nat}(ha:a<256)(hb:b<256)(hc:c<256)(w:World):AEj (a:Int) (b:Int) (c:Int) w fun r w1=>r=((Qm a b c:Nat):Int)/\w1=w:=by
 refine ASl _ _ _ _ _ ?_;unfold AK2;rw[AE (n:=(a:Int)) (by omega),AE (n:=(b:Int)) (by omega),AE (n:=(c:Int)) (by omega),AE (n:=(a:Int)+b) (by omega),AE (by omega)];refine Lt.of ⟨fun n st w'=>w'=w/\((n=2/\st=((a:Int),0))\/(n=1/\st=((if ((b:Int)-(a+b-c)).natAbs<((a:Int)-(a+b-c)).natAbs then (b:Int)else a),1))\/
  (n=0/\st=(((Qm a b c:Nat):Int),2))),2,⟨rfl,.inl ⟨rfl,rfl⟩⟩,?_⟩
 rintro n st w' ⟨rfl,h⟩;unfold qW;rcases h with ⟨rfl,rfl⟩|⟨rfl,rfl⟩|⟨rfl,rfl⟩
 ·refine AX (fun _=>?_) fun h=>by cases h
  refine ⟨by show (0:Int)<=0;omega,by show (0:Int)<2;omega,(b:Int),rfl,?_⟩;rw[AE (n:=(b:Int)) (by omega),AE (n:=(a:Int)) (by omega)];refine (PF (by omega) (by omega) w').mono ?_;rintro x w1 ⟨rfl,rfl⟩;refine (PF (by omega) (by omega) w1).mono ?_;rintro x w1 ⟨rfl,rfl⟩;refine AX (fun e=>⟨1,by omega,rfl,.inr (.inl ⟨rfl,?_⟩)⟩) fun e=>⟨1,by omega,rfl,.inr (.inl ⟨rfl,?_⟩)⟩
  ·have e:(((b:Int)-(a+b-c)).natAbs:Int)<(((a:Int)-(a+b-c)).natAbs:Int):=by simpa using e
   rw[ak (by omega)]
   rfl
  ·have e:¬(((b:Int)-(a+b-c)).natAbs:Int)<(((a:Int)-(a+b-c)).natAbs:Int):=by simpa using e
   rw[ah (by omega)]
   rfl
 ·refine AX (fun _=>?_) fun h=>by cases h
  refine ⟨by show (0:Int)<=1;omega,by show (1:Int)<2;omega,(c:Int),rfl,?_⟩;generalize hm:(if ((b:Int)-(a+b-c)).natAbs<((a:Int)-(a+b-c)).natAbs then (b:Int)else a)=m;have hmb:0<=m/\m<256:=by rw[<-hm];split<;>omega
  dsimp only;rw[AE (n:=(c:Int)) (by omega),AE (n:=m) (by omega)];refine (PF (by omega) (by omega) w').mono ?_;rintro x w1 ⟨rfl,rfl⟩;refine (PF (by omega) (by omega) w1).mono ?_;rintro x w1 ⟨rfl,rfl⟩;refine AX (fun e=>⟨0,by omega,rfl,.inr (.inr ⟨rfl,?_⟩)⟩) fun e=>⟨0,by omega,rfl,.inr (.inr ⟨rfl,?_⟩)⟩
  ·have e:(((c:Int)-(a+b-c)).natAbs:Int)<((m-(a+b-c)).natAbs:Int):=by simpa using e
   refine Prod.ext ?_ rfl;show (c:Int)=_;unfold Qm;split at hm<;>subst hm<;>split<;>(try split)<;>omega
  ·have e:¬(((c:Int)-(a+b-c)).natAbs:Int)<((m-(a+b-c)).natAbs:Int):=by simpa using e
   refine Prod.ext ?_ rfl;show m=_;unfold Qm;split at hm<;>subst hm<;>split<;>(try split)<;>omega
 ·refine AX (fun h=>by cases h) fun _=>⟨rfl,rfl⟩
theorem jU {w:World}{s:AA}{l:List UInt8}(h:Bx w s l)(i:Int):qU s i w fun r w1=>r=((VR l i:Nat):Int)/\w1=w:=by
 refine ASj _ _ _ _ ?_;unfold AK0;have hl:=h.len;unfold VR;refine AX (fun e=>?_) fun e=>AX (fun e2=>?_) fun e2=>?_
 ·have e:i<0:=by simpa using e
  rw[ak e];exact ⟨rfl,rfl⟩
 ·have e:¬i<0:=by simpa using e
  have e2:(s.len:Int)<=i:=by simpa using e2
  rw[ah e,af,bF (by omega)];exact ⟨rfl,rfl⟩
 ·have e:¬i<0:=by simpa using e
  have e2:¬(s.len:Int)<=i:=by simpa using e2
  rw[ah e];obtain ⟨k,rfl⟩:=aR (show 0<=i by omega);rw[aa];have hk:k<l.length:=by omega
  obtain ⟨g,hp,hc⟩:=h.get (ad hk);rw[hp];refine ⟨by omega,by omega,Nn.of ⟨((l[k].toNat:Nat):Int),by rw[add_lit];simpa using hc,?_,rfl⟩⟩;simp[af,hk]
theorem ABl {w:World}{s1 s2:AA}{prev row:List UInt8}(h1:Bx w s1 prev)(h2:Bx w s2 row)(tag:Int){i colors:Nat}(hi:i<=1099511627776)(hc:colors<=9223372036854775807):
  yE (s1,s2,(colors:Int)) tag (i:Int) w fun r w1=>r=((off tag prev row i colors:Nat):Int)/\Ext (fun _=>False) w w1:=by
 refine ASm (s1,s2,(colors:Int)) _ _ _ _ ?_;unfold AK3;refine (Hx.start w (fun _=>False)).nw fun w2 H=>?_
 have HD:=H.drew;have hS:∀w3,w3=w2.drew->AO w3 w.heap.size #[AA.v s1,AA.v s2,.int .i64 (colors:Int)] 154:=fun w3 e=>e▸HD.get 0 rfl
 refine ⟨fun w3=>w3=w2.drew,rfl,AP.of hS rfl (AP.of hS rfl (AP.of hS rfl (AP.of hS rfl (AP.of hS rfl ?_))))⟩;have g1:=h1.AB HD.ext fun _ _ h=>h
 have g2:=h2.AB HD.ext fun _ _ h=>h
 rw[AE (n:=(i:Int)-colors) (by omega)];refine (jU g2 _).mono ?_;rintro x w3 ⟨rfl,rfl⟩;refine ⟨rfl,(jU g1 _).mono ?_⟩;rintro x w3 ⟨rfl,rfl⟩;refine ⟨rfl,(jU g1 _).mono ?_⟩;rintro x w3 ⟨rfl,rfl⟩;have b1:=NA row ((i:Int)-colors);have b2:=NA prev i;have b3:=NA prev ((i:Int)-colors);unfold off;refine AX (fun e=>?_) fun e=>AX (fun e2=>?_) fun e2=>AX (fun e3=>?_) fun e3=>AX (fun e4=>?_) fun e4=>?_
 ·have e:tag=1:=by simpa using e
  rw[ak e];exact ⟨rfl,HD.ext⟩
 all_goals have e:¬tag=1:=by simpa using e
 all_goals rw[ah e]
 ·have e2:tag=2:=by simpa using e2
  rw[ak e2];exact ⟨rfl,HD.ext⟩
 all_goals have e2:¬tag=2:=by simpa using e2
 all_goals rw[ah e2]
 ·have e3:tag=3:=by simpa using e3
  rw[ak e3,AE (n:=((VR row ((i:Int)-colors):Nat):Int)) (by omega),AE (n:=((VR prev i:Nat):Int)) (by omega),AE (n:=((VR row ((i:Int)-colors):Nat):Int)+((VR prev i:Nat):Int)) (by omega),Km (by omega),AE (by omega)];exact Lt.of ⟨by rw[Hu (by omega)];omega,HD.ext⟩
 all_goals have e3:¬tag=3:=by simpa using e3
 all_goals rw[ah e3]
 ·have e4:tag=4:=by simpa using e4
  rw[ak e4];refine (zF b1 b2 b3 _).mono ?_;rintro x w4 ⟨rfl,rfl⟩;exact ⟨rfl,HD.ext⟩
 ·have e4:¬tag=4:=by simpa using e4
  rw[ah e4];exact ⟨rfl,HD.ext⟩
theorem AFn (x:UInt8){o:Nat}(ho:o<256):wrap .u8 ((x.toNat:Int)-(o:Int))=(((x-UInt8.ofNat o).toNat:Nat):Int):=by
 have:=x.toNat_lt;rw[IntKind.wrap_u8,UInt8.toNat_sub,dk ho];omega
theorem AFo (x:UInt8){o:Nat}(ho:o<256):wrap .u8 ((x.toNat:Int)+(o:Int))=(((x+UInt8.ofNat o).toNat:Nat):Int):=by
 have:=x.toNat_lt;rw[IntKind.wrap_u8,UInt8.toNat_add,dk ho];omega
theorem FI {l:List UInt8}{n i:Nat}{b:UInt8}(hl:l.length=i)(hi:i<n):(l++List.replicate (n-i) 0).set i b=(l++[b])++List.replicate (n-(i+1)) 0:=by
 rw[dh _ _ (by omega),hl,cl,show n-i=n-(i+1)+1 by omega,cQ,ai,ax]
 rfl
theorem M9 {w:World}{s1 s2:AA}{prev row:List UInt8}(h1:Bx w s1 prev)(h2:Bx w s2 row)(tag:Int){colors:Nat}(A1:row.length<=1099511627776)(hc:colors<=9223372036854775807):
  Wc (s1,s2,(colors:Int)) tag w fun r w1=>BQ w1 r (less tag prev row colors)/\Ext (fun _=>False) w w1/\∀j,r.own j->w.heap.size<=j:=by
 refine ASn (s1,s2,(colors:Int)) _ _ _ ?_;unfold AK4;refine (Hx.start w (fun _=>False)).Ro fun w2 H JP=>H.ld 0 rfl rfl ?_
 have jJ:=h2.len;dsimp only;rw[jJ];obtain ⟨x5,w3,Ag,AV,VK,Cw⟩:=KA w2 row.length row.length (av _) (by omega);have Qn:w.heap.size<w2.heap.size:=(H.get 0 rfl).lt;have H:=H.AB VK;refine ⟨x5,w3,Ag,H.ld 0 rfl rfl ?_⟩;refine ⟨fun n st w4=>∃i:Nat,st=(i:Int)/\i<=row.length/\n=row.length-i/\Hx w (fun _=>False) w4 [(w.heap.size,#[AA.v s1,AA.v s2,.int .i64 (colors:Int)],154)]/\
  BQ w4 x5 ((less tag prev row colors).take i++List.replicate (row.length-i) 0),row.length,⟨0,rfl,by omega,rfl,H,by simpa using AV⟩,?_⟩
 rintro n st w4 ⟨i,rfl,hi,rfl,H,AV⟩;unfold qX;rw[jJ];refine AX (fun e=>?_) fun e=>?_
 ·have Am:i<row.length:=by
   have:(i:Int)<(row.length:Int):=by simpa using e
   omega
  have g1:=h1.AB H.ext fun _ _ h=>h
  have g2:=h2.AB H.ext fun _ _ h=>h
  obtain ⟨g,hp,Es⟩:=g2.get (ad Am);rw[hp];refine ⟨by omega,by omega,Nn.of ⟨((row[i].toNat:Nat):Int),by rw[add_lit];simpa using Es,H.ld 0 rfl rfl (H.ld 0 rfl rfl (H.ld 0 rfl rfl ((ABl g1 g2 tag (by omega) hc).mono ?_)))⟩⟩;rintro x w5 ⟨rfl,he⟩;have iZ:=AV.AB he fun _ _ h=>h
  have AMh:=iZ.len;have DD:((less tag prev row colors).take i).length=i:=by rw[au,BZ];omega
  rw[ae,DD,aI]at AMh;obtain ⟨g',Kq,nB,Ti,D8⟩:=iZ.set (i:=i) (by rw[ae,DD,aI];omega) (row[i]-UInt8.ofNat (off tag prev row i colors));rw[Kq];have IJ:w2.heap.size<=g':=Cw g' ⟨_,Kq,rfl⟩;have H5:=(H.AB he).other D8 (fun j hj hm=>by
   have:j=w.heap.size:=by simpa using hm
   omega) fun j hj=> .inr (by omega)
  refine ⟨by omega,by omega,Nn.of ⟨by rw[add_lit];simpa using nB,row.length-(i+1),by omega,i+1,by rw[AE (by omega)];rfl,by omega,rfl,?_⟩⟩;rw[add_lit,AFn _ (tI _ _ _ _ _)];simp only[aj,aa,aH];refine ⟨H5,?_⟩;rw[kd Am,<-FI DD Am];have:row.getD i 0=row[i]:=by simp[af,Am]
  rw[this];exact Ti
 ·have MD:i=row.length:=by
   have:¬(i:Int)<(row.length:Int):=by simpa using e
   omega
  subst MD;rw[cl,List.replicate_zero,aM,aX (by rw[BZ];omega)]at AV;exact ⟨AV,H.ext,fun j hj=>cd (Nat.le_of_lt Qn) (Cw j hj)⟩
theorem JG {w:World}{s:AA}{l:List UInt8}(h:Bx w s l)(A1:l.length<=1099511627776):yF s w fun r w1=>r=((far l:Nat):Int)/\w1=w:=by
 refine ASo _ _ _ ?_;unfold AK5;have hl:=h.len;refine ⟨fun n st w4=>∃i:Nat,st=(((far (l.take i):Nat):Int),(i:Int))/\i<=l.length/\n=l.length-i/\w4=w,l.length,⟨0,by simp[far],by omega,rfl,rfl⟩,?_⟩;rintro n st w4 ⟨i,rfl,hi,rfl,rfl⟩;unfold qY;rw[hl];dsimp only;refine AX (fun e=>?_) fun e=>?_
 ·have Am:i<l.length:=by
   have:(i:Int)<(l.length:Int):=by simpa using e
   omega
  obtain ⟨g,hp,Es⟩:=h.get (ad Am);rw[hp];have hb:=l[i].toNat_lt;have hf:=tL (l.take i);rw[au,bo hi]at hf;refine ⟨by omega,by omega,Nn.of ⟨((l[i].toNat:Nat):Int),by rw[add_lit];simpa using Es,?_⟩⟩;dsimp only;rw[AE (n:=((l[i].toNat:Nat):Int)) (by omega),AE (n:=256-((l[i].toNat:Nat):Int)) (by omega)];refine Lt.of ⟨l.length-(i+1),by omega,i+1,?_,by omega,rfl,rfl⟩;have hg:l.getD i 0=l[i]:=by simp[af,Am]
  rw[tK l Am,hg];refine Prod.ext ?_ ?_
  ·dsimp only;split
   ·rw[AE (by omega)];omega
   ·rw[AE (by omega)];omega
  ·dsimp only;rw[AE (by omega)];rfl
 ·have MD:i=l.length:=by
   have:¬(i:Int)<(l.length:Int):=by simpa using e
   omega
  subst MD;exact ⟨by rw[bj],rfl⟩
theorem AFk {w:World}{s1 s2:AA}{prev row:List UInt8}(h1:Bx w s1 prev)(h2:Bx w s2 row){colors:Nat}(A1:row.length<=1099511627776)(hc:colors<=9223372036854775807):
  AEk (s1,s2,(colors:Int)) w fun r w1=>r=((Zx prev row colors:Nat):Int)/\Ext (fun _=>False) w w1:=by
 refine ASp (s1,s2,(colors:Int)) _ _ ?_;unfold AK6;refine (Hx.start w (fun _=>False)).Ro fun w2 H JP=>H.ld 0 rfl rfl (H.ld 0 rfl rfl (H.ld 0 rfl rfl ?_))
 refine (M9 (h1.AB JP fun _ _ h=>h) (h2.AB JP fun _ _ h=>h) 0 A1 hc).mono ?_;rintro r w3 ⟨hr,VK,_⟩;have H:=H.AB VK;refine (JG hr.toR (by rw[BZ];omega)).mono ?_;rintro x w3 ⟨rfl,rfl⟩;refine ⟨fun n st w4=>∃k:Nat,1<=k/\st=(((IB prev row colors k).1:Int),(((IB prev row colors k).2:Nat):Int),(k:Int))/\k<=5/\n=5-k/\Hx w (fun _=>False) w4 [(w.heap.size,#[AA.v s1,AA.v s2,.int .i64 (colors:Int)],154)],
  4,⟨1,by omega,rfl,by omega,rfl,H⟩,?_⟩
 rintro n st w4 ⟨k,TX,rfl,hk,rfl,H⟩;unfold qZ;dsimp only;refine AX (fun e=>?_) fun e=>?_
 ·have Am:k<5:=by
   have:(k:Int)<5:=by simpa using e
   omega
  refine H.ld 0 rfl rfl (H.ld 0 rfl rfl (H.ld 0 rfl rfl ?_));refine (M9 (h1.AB H.ext fun _ _ h=>h) (h2.AB H.ext fun _ _ h=>h) k A1 hc).mono ?_;rintro r w5 ⟨hr,Vf,_⟩;have H:=H.AB Vf;refine (JG hr.toR (by rw[BZ];omega)).mono ?_;rintro x w5 ⟨rfl,rfl⟩;rw[AE (n:=(k:Int)+1) (by omega)];refine AX (fun e2=>?_) fun e2=>?_
  ·have e2:far (less k prev row colors)<(IB prev row colors k).2:=by
    have:((far (less k prev row colors):Nat):Int)<(((IB prev row colors k).2:Nat):Int):=by simpa using e2
    omega
   refine ⟨5-(k+1),by omega,k+1,by omega,?_,by omega,rfl,H⟩;simp only[IB];rw[ak (.inr e2)]
   rfl
  ·have e2:¬far (less k prev row colors)<(IB prev row colors k).2:=by
    have:¬((far (less k prev row colors):Nat):Int)<(((IB prev row colors k).2:Nat):Int):=by simpa using e2
    omega
   refine ⟨5-(k+1),by omega,k+1,by omega,?_,by omega,rfl,H⟩;simp only[IB];rw[ah (by omega)]
   rfl
 ·have MD:k=5:=by
   have:¬(k:Int)<5:=by simpa using e
   omega
  subst MD;exact ⟨rfl,H.ext⟩
theorem tM {l:List UInt8}{r:List UInt8}{i j:Nat}(hl:l.length=i)(hj:j<i):(l++r).getD j 0=l.getD j 0:=by
 rw[af,aG (by omega),af]
theorem zG {l raw:List UInt8}{i:Nat}(hl:l.length=i)(hi:i<raw.length):(l++raw.drop i)[i]?=some (raw.getD i 0):=by
 rw[aF (by omega),hl,cl,bW,bY,ad hi];simp[af,hi]
theorem zI {l raw:List UInt8}{i:Nat}{b:UInt8}(hl:l.length=i)(hi:i<raw.length):(l++raw.drop i).set i b=(l++[b])++raw.drop (i+1):=by
 rw[dh _ _ (by omega),hl,cl,aS hi,ai,ax]
 rfl
theorem AFl {w:World}{s1 s2:AA}{prev raw:List UInt8}(h1:Bx w s1 prev)(h2:Bx w s2 raw)(mC:∀j,s1.own j->¬s2.own j)(tag:Int){colors:Nat}(A1:raw.length<=1099511627776)(hc1:1<=colors)(hc:colors<=9223372036854775807):
  qV (s1,s2,(colors:Int)) tag w fun w1=>Bx w1 s2 (dec tag prev raw colors raw.length)/\Ext s2.own w w1:=by
 refine ASr (s1,s2,(colors:Int)) _ _ _ ?_;unfold AK8;refine (Hx.start w s2.own).Ro fun w2 H JP=>H.ld 0 rfl rfl ?_
 have jJ:=h2.len;dsimp only;refine ⟨fun n st w4=>∃i:Nat,st=(i:Int)/\i<=raw.length/\n=raw.length-i/\Hx w s2.own w4 [(w.heap.size,#[AA.v s1,AA.v s2,.int .i64 (colors:Int)],154)]/\
  Bx w4 s2 (dec tag prev raw colors i++raw.drop i),raw.length,⟨0,rfl,by omega,rfl,H,by simpa[dec]using h2.AB JP fun _ _ h=>h⟩,?_⟩
 rintro n st w4 ⟨i,rfl,hi,rfl,H,AV⟩;unfold qc;rw[jJ];have nM:=Uz tag prev raw colors i;refine AX (fun e=>?_) fun e=>?_
 ·have Am:i<raw.length:=by
   have:(i:Int)<(raw.length:Int):=by simpa using e
   omega
  have HD:=H.drew;have hS:∀w3,Ext (fun _=>False) w4.drew w3->AO w3 w.heap.size #[AA.v s1,AA.v s2,.int .i64 (colors:Int)] 154:=fun w3 e=>(HD.AB e).get 0 rfl
  have HI:=AV.AB (Ext.refl (fun _=>False) w4).drew fun _ _ h=>h
  have g1:Bx w4.drew s1 prev:=h1.AB HD.ext mC;obtain ⟨g,hp,Es⟩:=HI.get (zG nM Am);refine ⟨fun w3=>Ext (fun _=>False) w4.drew w3,Ext.refl _ _,AP.of hS rfl ?_⟩;rw[jJ,hp];refine ⟨by omega,by omega,Nn.of ⟨(((raw.getD i 0).toNat:Nat):Int),fun w3 e=>by rw[add_lit];exact e.Bn (by simpa using Es),AP.of hS rfl (AP.of hS rfl (AP.of hS rfl ((ABl g1 HI tag (by omega) hc).mono ?_)))⟩⟩;rintro x w5 ⟨rfl,he⟩;rw[iY (tJ:=dec tag prev raw colors i) hc1 fun j hj=>tM nM hj];have iZ:=HI.AB he fun _ _ h=>h
  obtain ⟨g',Kq,nB,Ti,D8⟩:=iZ.set (i:=i) (by rw[ae,nM,aJ];omega) (raw.getD i 0+UInt8.ofNat (off tag prev (dec tag prev raw colors i) i colors));have:g'=g:=by rw[hp]at Kq;cases Kq;rfl
  subst this;have ho:s2.own g':=⟨_,hp,rfl⟩
  have Zz:g'<w.heap.size:=h2.own_lt ho;have H5:=(HD.AB he).other D8 (fun j hj hm=>by
   have:j=w.heap.size:=by simpa using hm
   omega) fun j hj=> .inl (by rw[hj];exact ho)
  refine ⟨he,by omega,by omega,Nn.of ⟨by rw[add_lit];simpa using nB,raw.length-(i+1),by omega,i+1,by rw[AE (by omega)];rfl,by omega,rfl,?_⟩⟩;rw[add_lit,AFo _ (tI _ _ _ _ _)];simp only[aj,aa,aH];refine ⟨H5,?_⟩;rw[dec,<-zI nM Am];exact Ti
 ·have MD:i=raw.length:=by
   have:¬(i:Int)<(raw.length:Int):=by simpa using e
   omega
  subst MD;rw[List.drop_length,aM]at AV;exact ⟨AV,H.ext⟩
end IK
namespace IK
open Sh
def Qi (pred:Int)(prev row:List UInt8)(colors:Nat):Int:=if pred=15 then ((Zx prev row colors:Nat):Int)else pred-10
def EJ (pred:Int)(prev row:List UInt8)(colors:Nat):List UInt8:=
 if pred=2 then less 1 prev row colors else UInt8.ofNat (Qi pred prev row colors).toNat::less (Qi pred prev row colors) prev row colors
def Jv (pred:Int)(n colors:Nat):Nat->List UInt8->List UInt8->List UInt8
 |0,_,_=>[]
 |k+1,prev,s=>EJ pred prev (s.take n) colors++Jv pred n colors k (s.take n) (s.drop n)
def AT (p:Int×Int×Int):Nat:=if GB p=true then (p.2.1*p.2.2).toNat else 1
theorem HG (p:Int×Int×Int):(if 1>tG p then 1 else tG p)=((AT p:Nat):Int)/\1<=AT p/\AT p<=8192:=by
 unfold AT tG;by_cases h:GB p=true
 ·have h2:=Fm h;have:1*1<=p.2.1*p.2.2:=Int.mul_le_mul h2.2.1 h2.2.2.1 (by omega) (by omega);simp only[ak h];rw[ah (by omega)];omega
 ·simp only[ah h];refine ⟨rfl,by omega,by omega⟩
def MX (p:Int×Int×Int)(s:List UInt8):List UInt8×Int:=
 if CJ p s.length (AT p)≠0 then ([],CJ p s.length (AT p))
 else if p.1=1 then (s,0)
 else if 10<=p.1/\1048576<s.length+s.length/AT p then ([],5)
 else (Jv p.1 (AT p) p.2.1.toNat (s.length/AT p) [] s,0)
theorem Ji {p:Int×Int×Int}{n m:Int}(h:CJ p n m=0):GB p=true/\n<=1048576/\(p.1≠1->Int.tmod n m=0):=by
 unfold CJ at h;by_cases h1:GB p=false
 ·rw[ak h1]at h;cases h
 ·rw[ah h1]at h;by_cases h2:1048576<n
  ·rw[ak h2]at h;cases h
  ·rw[ah h2]at h;by_cases h3:p.1≠1/\Int.tmod n m≠0
   ·rw[ak h3]at h;cases h
   ·refine ⟨by simpa using h1,by omega,fun h4=>?_⟩;refine Decidable.byContradiction fun h5=>h3 ⟨h4,h5⟩
theorem iV (prev row:List UInt8)(colors:Nat):Zx prev row colors<=4:=by
 unfold Zx;simp only[IB]
 repeat (first|omega|split|(simp only[];omega))
theorem Zy (pred:Int)(prev row:List UInt8)(colors:Nat):(EJ pred prev row colors).length<=row.length+1:=by
 unfold EJ;split
 ·rw[BZ];omega
 ·rw[aA,BZ];omega
section
variable {w:World}
def AFh (w:World)(p:Int×Int×Int)(b:Nat)(total:List UInt8)(k:Nat)(st:ByteArray×AA)(w4:World):Prop:=
 ∃(prev acc:List UInt8) (s1 s2:AA),st.1.data.toList.length=k*AT p/\acc++Jv p.1 (AT p) p.2.1.toNat k prev st.1.data.toList=total/\acc.length+2*st.1.data.toList.length<=4194304/\
  Hx w (fun _=>False) w4 [(w.heap.size,#[.int .i64 p.1,.int .i64 p.2.1,.int .i64 p.2.2],27),(b,#[AA.v s1,AA.v s2,.int .i64 p.2.1],154)]/\
  Bx w4 s2 prev/\BQ w4 st.2 acc/\(∀j,st.2.own j->w.heap.size<j/\j≠b/\¬s2.own j)/\(∀j,s2.own j->w.heap.size<j/\j≠b)
theorem V0 (p:Int×Int×Int)(s:ByteArray)(w:World):C89 p s w fun r e w1=>(r.data.toList,e)=MX p s.data.toList/\Ext (fun _=>False) w w1:=by
 refine T89 _ _ _ _ ?_;unfold S89;obtain ⟨hn,YP,Tk⟩:=HG p;refine (Hx.start w (fun _=>False)).Ro fun w2 H JP=>H.ld 0 rfl rfl (H.ld 0 rfl rfl (H.ld 0 rfl rfl ((ABg p _).mono ?_)))
 rintro r w3 ⟨rfl,he⟩;have H:=H.AB he;have Ga:=Ah s;rw[hn];refine H.ld 0 rfl rfl (H.ld 0 rfl rfl (H.ld 0 rfl rfl ((XW p _ (by omega) _).mono ?_)));rintro r w4 ⟨rfl,he⟩;have H:=H.AB he;rw[Ga];unfold MX;refine Br.ne (fun e=>?_) fun e=>?_
 ·rw[ak e];exact ⟨rfl,H.ext⟩
 rw[ah (by rw[e];simp)];obtain ⟨BA,hlen,jZ⟩:=Ji e;have XX:=Fm BA;have hdiv:Int.tdiv (s.data.toList.length:Int) ((AT p:Nat):Int)=((s.data.toList.length/AT p:Nat):Int):=by rw[Km (by omega)];rfl
 have y4:s.data.toList.length/AT p<=s.data.toList.length:=en _ _;have RZ:p.1≠1->s.data.toList.length=s.data.toList.length/AT p*AT p:=fun e1=>by
  have:=jZ e1;rw[F0 (by omega)]at this;have h2:s.data.toList.length%AT p=0:=by omega
  exact (Nat.div_mul_cancel (Nat.dvd_of_mod_eq_zero h2)).symm
 generalize hq:s.data.toList.length/AT p=q at hdiv y4 RZ⊢;rw[hdiv,AE (n:=((q:Nat):Int)) (by omega),AE (by omega)];refine ⟨fun _ w5=>Hx w (fun _=>False) w5 [(w.heap.size,#[.int .i64 p.1,.int .i64 p.2.1,.int .i64 p.2.2],27)]/\p.1≠1/\¬(10<=p.1/\1048576<s.data.toList.length+q),?_,?_⟩
 case refine_2=>
  refine H.ld 0 rfl rfl (Br.eq (fun e1=>?_) fun e1=>H.ld 0 rfl rfl (Br.dec (fun e2=>⟨by omega,Lt.of (Br.dec (fun e3=>?_) fun e3=>?_)⟩) fun e2=>?_))
  ·rw[ak e1];exact ⟨rfl,H.ext⟩
  ·rw[ah e1,ak ⟨e2,by omega⟩];exact ⟨rfl,H.ext⟩
  ·exact ⟨H,e1,by omega⟩
  ·exact ⟨H,e1,by omega⟩
 rintro _ w5 ⟨H,e1,e2⟩;rw[ah e1,ah e2];have hk:=RZ e1;unfold AA2;rw[hn,Ga,hdiv,AE (n:=((q:Nat):Int)) (by omega),AE (by omega)];refine ⟨by omega,Lt.of ?_⟩;obtain ⟨JY,w6,Ag,AV,SI,Cw⟩:=KA w5 0 (s.data.toList.length+q) (by omega) (by omega);have ACU:=(H.get 0 rfl).lt;have H:=H.AB SI;refine ⟨JY,w6,by simpa using Ag,H.ld 0 rfl rfl (H.Ro fun w7 H he7=>?_)⟩;have iW:∀j,JY.own j->j<w6.heap.size:=fun j hj=>AV.own_lt hj
 have AV:=AV.AB he7 fun _ _ h=>h
 refine H.EV 1 rfl (by simp) (.inr (by have:=SI.size;omega)) fun w8 H he8=>?_
 have AV:=AV.AB he8 fun j hj h=>by have:=iW j hj;omega
 rw[add_lit,add_lit];refine H.EV 1 rfl (by simp) (.inr (by have:=SI.size;omega)) fun w9 H he9=>?_
 have AV:=AV.AB he9 fun j hj h=>by have:=iW j hj;omega
 refine H.EV 1 rfl (by simp) (.inr (by have:=SI.size;omega)) fun IY H AMX=>?_
 have AV:=AV.AB AMX fun j hj h=>by have:=iW j hj;omega
 refine ⟨AFh w p w6.heap.size (Jv p.1 (AT p) p.2.1.toNat (q) [] s.data.toList),_,⟨[],[],⟨none,0,0⟩,⟨none,0,0⟩,hk,rfl,by simp only[bq];omega,H,Bx.nil _,AV,fun j hj=>⟨by have:=Cw j hj;omega,fun h=>by have:=iW j hj;omega,by rintro ⟨a,ha,_⟩;cases ha⟩,by rintro j ⟨a,ha,_⟩;cases ha⟩,?_⟩;generalize Jv p.1 (AT p) p.2.1.toNat (q) [] s.data.toList=total;rintro k ⟨Cz,out⟩ PU ⟨prev,acc,s1,s2,hl,Oe,hb,H,kC,AV,IU,iT⟩;unfold AA1;simp only at hl Oe hb kC AV IU iT⊢;rw[hn];have A1:=Ah Cz;refine Br.dec (fun e3=>?_) fun e3=>?_
 case refine_2=>
  have h0:Cz.data.toList.length=0:=by omega
  have RZ:k=0:=by
   rw[h0]at hl;rcases Nat.mul_eq_zero.1 hl.symm with h|h
   ·exact h
   ·omega
  subst RZ;refine ⟨_,PU,HP AV,?_,H.ext⟩;rw[<-Oe];simp[Jv]
 have RZ:k≠0:=fun h=>by subst h;rw[cg]at hl;omega
 obtain ⟨k,rfl⟩:∃k',k=k'+1:=⟨k-1,by omega⟩
 have hN:AT p<=Cz.data.toList.length:=by rw[hl];exact Nat.le_mul_of_pos_left _ (by omega)
 have DD:(Cz.data.toList.take (AT p)).length=AT p:=by rw[au];omega
 refine ⟨fun _ Ef=>∃s3:AA,Hx w (fun _=>False) Ef [(w.heap.size,#[.int .i64 p.1,.int .i64 p.2.1,.int .i64 p.2.2],27),(w6.heap.size,#[AA.v s2,AA.v s3,.int .i64 p.2.1],154)]/\
  Bx Ef s2 prev/\Bx Ef s3 (Cz.data.toList.take (AT p))/\BQ Ef out acc/\(∀j,out.own j->¬s3.own j)/\(∀j,s3.own j->w.heap.size<j/\j≠w6.heap.size),?_,?_⟩
 case refine_2=>
  have HD:=H.drew;have AXz:=(H.get 1 rfl).lt;have XY:=kC.AB (Ext.refl (fun _=>False) PU).drew fun _ _ h=>h
  have HI:=AV.AB (Ext.refl (fun _=>False) PU).drew fun _ _ h=>h
  refine ⟨fun Ef=>Ext (fun _=>False) PU.drew Ef,Ext.refl _ _,AP.of (fun Ef he=>(HD.AB he).get 1 rfl) rfl ⟨by omega,by omega,?_,?_⟩⟩
  ·obtain ⟨x,Ef,Ag,hx,he,Cw⟩:=FO PU.drew (Cz.extract 0 (((AT p:Nat):Int)).toNat);refine ⟨x,Ef,Ag,he,?_⟩;have H12:=HD.AB he;have II:∀j,x.own j->w6.heap.size<j:=fun j hj=>by have:=Cw j hj;simp at this;omega
   refine H12.EV 1 rfl (by simp) (.inr (by have:=SI.size;omega)) fun Fs y5 Qj=>?_
   rw[add_lit];refine y5.EV 1 rfl (by simp) (.inr (by have:=SI.size;omega)) fun lN vW Ed=>?_
   have IZ:∀j,x.own j->¬j=w6.heap.size:=fun j hj h=>by have:=II j hj;omega
   refine ⟨x,vW,((XY.AB he fun _ _ h=>h).AB Qj fun j hj=>(iT j hj).2).AB Ed fun j hj=>(iT j hj).2,?_,((HI.AB he fun _ _ h=>h).AB Qj fun j hj=>(IU j hj).2.1).AB Ed fun j hj=>(IU j hj).2.1,fun j hj h=>?_,fun j hj=>⟨?_,IZ j hj⟩⟩
   ·have:=(hx.AB Qj IZ).AB Ed IZ;rw[Ao,cV,bM,aa]at this;exact this
   ·have h1:=AV.own_lt hj;have h2:=Cw j h;simp at h2;omega
   ·have:=II j hj;have:=SI.size;omega
  ·refine HD.EV 1 rfl (by simp) (.inr (by have:=SI.size;omega)) fun Fs y5 Qj=>?_
   obtain ⟨x,Ef,Ag,hx,he,Cw⟩:=FO Fs (Cz.extract 0 (((AT p:Nat):Int)).toNat);refine ⟨x,Ef,Ag,?_⟩;have H12:=y5.AB he;have AFi:=Qj.size;simp at AFi;have II:∀j,x.own j->w6.heap.size<j:=fun j hj=>by have:=Cw j hj;omega
   rw[add_lit];refine H12.EV 1 rfl (by simp) (.inr (by have:=SI.size;omega)) fun lN vW Ed=>?_
   have IZ:∀j,x.own j->¬j=w6.heap.size:=fun j hj h=>by have:=II j hj;omega
   refine ⟨x,vW,((XY.AB Qj fun j hj=>(iT j hj).2).AB he fun _ _ h=>h).AB Ed fun j hj=>(iT j hj).2,?_,((HI.AB Qj fun j hj=>(IU j hj).2.1).AB he fun _ _ h=>h).AB Ed fun j hj=>(IU j hj).2.1,fun j hj h=>?_,fun j hj=>⟨?_,IZ j hj⟩⟩
   ·have:=hx.AB Ed IZ;rw[Ao,cV,bM,aa]at this;exact this
   ·have h1:=AV.own_lt hj;have h2:=Cw j h;omega
   ·have:=II j hj;have:=SI.size;omega
 rintro _ Ef ⟨s3,H,kC,kH,AV,y6,ho4⟩;unfold AA0;simp only;rw[hn];have hc:((p.2.1.toNat:Nat):Int)=p.2.1:=by omega
 have yp:p.2.1.toNat<=9223372036854775807:=by
  have:p.2.1*1<=p.2.1*p.2.2:=Int.mul_le_mul_of_nonneg_left XX.2.2.1 (by omega);omega
 have fin:∀(x:AA) (Fs:World),BQ Fs x (acc++EJ p.1 prev (Cz.data.toList.take (AT p)) p.2.1.toNat)->Hx w (fun _=>False) Fs [(w.heap.size,#[.int .i64 p.1,.int .i64 p.2.1,.int .i64 p.2.2],27),(w6.heap.size,#[AA.v s2,AA.v s3,.int .i64 p.2.1],154)]->
   Bx Fs s3 (Cz.data.toList.take (AT p))->(∀j,x.own j->out.own j\/Ef.heap.size<=j)->
   0<=((AT p:Nat):Int)/\((AT p:Nat):Int)<=((Cz.size:Nat):Int)/\∃n',n'<k+1/\AFh w p w6.heap.size total n' (Cz.extract (((AT p:Nat):Int)).toNat Cz.size,x) Fs:=fun x Fs hx y5 hr Ar=>by
  have hd:(Cz.extract (((AT p:Nat):Int)).toNat Cz.size).data.toList=Cz.data.toList.drop (AT p):=by rw[aa,Bp]
  have hlr:=Zy p.1 prev (Cz.data.toList.take (AT p)) p.2.1.toNat;refine ⟨by omega,by omega,k,by omega,Cz.data.toList.take (AT p),_,s2,s3,?_,?_,?_,y5,hr,hx,?_,ho4⟩
  ·rw[hd,aJ,hl,bN,eu,cz]
  ·rw[hd,ax];exact Oe
  ·rw[hd,ae,aJ];omega
  ·intro j hj;rcases Ar j hj with h|h
   ·exact ⟨(IU j h).1,(IU j h).2.1,y6 j h⟩
   ·have h1:=(H.get 0 rfl).lt;have h2:=(H.get 1 rfl).lt;exact ⟨by omega,by omega,fun h3=>by have:=kH.own_lt h3;omega⟩
 have tagged:p.1≠2->∀(t:Int) (Fs:World),Ext (fun _=>False) Ef Fs->Qi p.1 prev (Cz.data.toList.take (AT p)) p.2.1.toNat=t->0<=t->t<=4->
   ∃Mr:World->Prop,Mr Fs.drew/\AP Mr ⟨w6.heap.size,0,none⟩ AA.v fun oh=>
    AP Mr (.add ⟨w6.heap.size,0,none⟩ 1) AA.v fun ZA=>
    AP Mr (.add ⟨w6.heap.size,0,none⟩ 2) (.int .i64) fun x77=>
    Nw Fs.drew (.cells #[.int .u8 (wrap .u8 t)] 5) fun qI=>
    Mr qI/\Rn prog (Builtin.append_ #[108,108] 108 #[AA.v out,AA.v ((⟨some ⟨Fs.drew.heap.size,0,none⟩,1,1⟩:AA))]) qI AA.v fun (x79:AA) ZR=>
    Mr ZR/\Wc (oh,ZA,x77) t ZR fun Ma lq=>
     Rn prog (Builtin.append_ #[108,108] 108 #[AA.v x79,AA.v Ma]) lq AA.v fun (xt:AA) lz=>
     0<=((AT p:Nat):Int)/\((AT p:Nat):Int)<=((Cz.size:Nat):Int)/\∃n',n'<k+1/\AFh w p w6.heap.size total n' (Cz.extract (((AT p:Nat):Int)).toNat Cz.size,xt) lz:=by
  intro e4 t Fs he ht ht0 ht4;have HD:=(H.AB he).drew;have HI:=(AV.AB he fun _ _ h=>h).AB (Ext.refl (fun _=>False) Fs).drew fun _ _ h=>h
  have XY:=(kC.AB he fun _ _ h=>h).AB (Ext.refl (fun _=>False) Fs).drew fun _ _ h=>h
  have AFj:=(kH.AB he fun _ _ h=>h).AB (Ext.refl (fun _=>False) Fs).drew fun _ _ h=>h
  have hS:∀w3,Ext out.own Fs.drew w3->AO w3 w6.heap.size #[AA.v s2,AA.v s3,.int .i64 p.2.1] 154:=fun w3 h=>h.AS (HD.get 1 rfl) fun h=>(IU _ h).2.1 rfl
  refine ⟨fun w3=>Ext out.own Fs.drew w3,Ext.refl _ _,AP.of hS rfl (AP.of hS rfl (AP.of hS rfl (HD.Ro fun lN vW Ed=>⟨Ed.mono fun _ _ h=>h.elim,?_⟩)))⟩;have hu:wrap .u8 t=(((UInt8.ofNat t.toNat).toNat:Nat):Int):=by rw[Hu (by omega),dk (by show t.toNat<256;omega)];omega
  have wX:=vW.get 2 rfl;rw[hu]at wX;obtain ⟨x,VT,Ag,hx,JE,Ar⟩:=Ou (ty:=108) (HI.AB Ed fun _ _ h=>h) wX (by omega);have AMY:∀j,out.own j->j<Fs.drew.heap.size:=fun j hj=>HI.own_lt hj
  have H15:=vW.other JE (fun j hj hm=>by
   have h1:=IU j hj;have h2:=AMY j hj;simp at hm h2;omega) fun j hj=> .inr (by have:=(IU j hj).1;omega)
  refine ⟨x,VT,Ag,(Ed.mono fun _ _ h=>h.elim).tr JE,?_⟩;have XZ:=M9 ((XY.AB Ed fun _ _ h=>h).AB JE fun j hj h=>(IU j h).2.2 hj) ((AFj.AB Ed fun _ _ h=>h).AB JE fun j hj h=>y6 j h hj) t (colors:=p.2.1.toNat) (by omega) yp;rw[hc]at XZ;refine XZ.mono ?_;rintro r w16 ⟨hr,y7,AMa⟩;obtain ⟨x2,w17,AMb,fF,AMc,ABN⟩:=Kj (ty:=108) (hx.AB y7 fun _ _ h=>h) hr (by rw[BZ,ae,cT];omega);have hxo:∀j,x.own j->w.heap.size<j/\j≠w6.heap.size/\¬s3.own j:=fun j hj=>by
   rcases Ar j hj with h|h
   ·exact ⟨(IU j h).1,(IU j h).2.1,y6 j h⟩
   ·have h1:=(HD.get 0 rfl).lt;have h2:=(HD.get 1 rfl).lt;have h3:=Ed.size;exact ⟨by omega,by omega,fun h5=>by have:=AFj.own_lt h5;omega⟩
  refine ⟨x2,w17,AMb,fin x2 w17 ?_ (((H15.AB y7).left (L:=[_,_]) (M:=[_])).other AMc (fun j hj hm=>?_) fun j hj=> .inr (by have:=(hxo j hj).1;omega)) ((((AFj.AB Ed fun _ _ h=>h).AB JE fun j hj h=>y6 j h hj).AB y7 fun _ _ h=>h).AB AMc fun j hj h=>(hxo j h).2.2 hj) fun j hj=>?_⟩
  ·unfold EJ;rw[ah e4,ht];rw[ax]at fF;exact fF
  ·have:=hxo j hj;simp at hm;omega
  ·have g1:=he.size;have g2:=Ed.size;have g3:=JE.size;have g4:=y7.size;simp at g2;rcases ABN j hj with h|h
   ·rcases Ar j h with h|h
    ·exact .inl h
    ·exact .inr (by omega)
   ·exact .inr (by omega)
 refine H.ld 0 rfl rfl (H.ld 0 rfl rfl (Br.eq (fun e4=>?_) fun e4=>Br.eq (fun e5=>?_) fun e5=>?_))
 ·refine H.ld 1 rfl rfl (H.ld 1 rfl rfl (H.ld 1 rfl rfl ?_));have XZ:=M9 kC kH 1 (colors:=p.2.1.toNat) (by omega) yp;rw[hc]at XZ;refine XZ.mono ?_;rintro r Fs ⟨hr,he,AMa⟩;obtain ⟨x,lN,Ag,hx,Ed,Ar⟩:=Kj (ty:=108) (AV.AB he fun _ _ h=>h) hr (by rw[BZ];omega);refine ⟨x,lN,Ag,fin x lN (by unfold EJ;rw[ak e4];exact hx) ((H.AB he).other Ed (fun j hj hm=>?_) fun j hj=> .inr (by have:=(IU j hj).1;omega)) ((kH.AB he fun _ _ h=>h).AB Ed fun j hj h=>y6 j h hj) fun j hj=>(Ar j hj).imp id fun h=>cd he.size h⟩;have:=IU j hj;simp at hm;omega
 ·refine H.ld 1 rfl rfl (H.ld 1 rfl rfl (H.ld 1 rfl rfl ?_));have ABh:=AFk kC kH (colors:=p.2.1.toNat) (by omega) yp;rw[hc]at ABh;refine ABh.mono ?_;rintro r Fs ⟨rfl,he⟩;have ht:Qi p.1 prev (Cz.data.toList.take (AT p)) p.2.1.toNat=((Zx prev (Cz.data.toList.take (AT p)) p.2.1.toNat:Nat):Int):=by unfold Qi;rw[ak e5]
  have ht4:((Zx prev (Cz.data.toList.take (AT p)) p.2.1.toNat:Nat):Int)<=4:=by have:=iV prev (Cz.data.toList.take (AT p)) p.2.1.toNat;omega
  have ht0:0<=((Zx prev (Cz.data.toList.take (AT p)) p.2.1.toNat:Nat):Int):=by omega
  exact tagged e4 _ Fs he ht ht0 ht4
 ·have ht:Qi p.1 prev (Cz.data.toList.take (AT p)) p.2.1.toNat=p.1-10:=by unfold Qi;rw[ah e5]
  rw[AE (n:=p.1-10) (by omega)];exact tagged e4 _ Ef (Ext.refl _ _) ht (by omega) (by omega)
def Ai (p:Int×Int×Int):Nat:=if 10<=p.1 then 1 else 0
def Uy (h:Nat)(s:List UInt8):Nat:=if h=1 then (s.getD 0 0).toNat else 1
def SB (h n colors:Nat):Nat->List UInt8->List UInt8->Option (List UInt8)
 |0,_,_=>some []
 |k+1,prev,s=>if 5<=Uy h s then none else (SB h n colors k (dec (Uy h s) prev ((s.drop h).take n) colors n) (s.drop (n+h))).map fun l=>dec (Uy h s) prev ((s.drop h).take n) colors n++l
def QB (p:Int×Int×Int)(s:List UInt8):List UInt8×Int:=
 if CJ p s.length ((AT p+Ai p:Nat):Int)≠0 then ([],CJ p s.length ((AT p+Ai p:Nat):Int))
 else if p.1=1 then (s,0)
 else match SB (Ai p) (AT p) p.2.1.toNat (s.length/(AT p+Ai p)) [] s with
  |none=>([],3)
  |some l=>(l,0)
def AMd (w:World)(p:Int×Int×Int)(b:Nat)(total:Option (List UInt8))(k:Nat)(st:ByteArray×AA)(w4:World):Prop:=
 ∃(prev acc:List UInt8) (s1 s2:AA),st.1.data.toList.length=k*(AT p+Ai p)/\(SB (Ai p) (AT p) p.2.1.toNat k prev st.1.data.toList).map (fun l=>acc++l)=total/\acc.length+st.1.data.toList.length<=4194304/\
  Hx w (fun _=>False) w4 [(w.heap.size,#[.int .i64 p.1,.int .i64 p.2.1,.int .i64 p.2.2],27),(b,#[AA.v s1,AA.v s2,.int .i64 p.2.1],154)]/\
  Bx w4 s2 prev/\BQ w4 st.2 acc/\(∀j,st.2.own j->w.heap.size<j/\j≠b/\¬s2.own j)/\(∀j,s2.own j->w.heap.size<j/\j≠b)
theorem V4 (p:Int×Int×Int)(s:ByteArray)(w:World):C92 p s w fun r e w1=>(r.data.toList,e)=QB p s.data.toList/\Ext (fun _=>False) w w1:=by
 refine T92 _ _ _ _ ?_;unfold S92;obtain ⟨hn,YP,Tk⟩:=HG p;have hh:Ai p=0\/Ai p=1:=by unfold Ai;split<;>simp
 refine (Hx.start w (fun _=>False)).Ro fun w2 H JP=>H.ld 0 rfl rfl (H.ld 0 rfl rfl (H.ld 0 rfl rfl ((ABg p _).mono ?_)))
 rintro r w3 ⟨rfl,he⟩;have H:=H.AB he;have Ga:=Ah s;refine ⟨fun h w4=>h=((Ai p:Nat):Int)/\Hx w (fun _=>False) w4 [(w.heap.size,#[.int .i64 p.1,.int .i64 p.2.1,.int .i64 p.2.2],27)],?_,H.ld 0 rfl rfl (Br.dec (fun e=>⟨?_,H⟩) fun e=>⟨?_,H⟩)⟩
 case refine_2=>unfold Ai;rw[ak e];rfl
 case refine_3=>unfold Ai;rw[ah e];rfl
 rintro _ w4 ⟨rfl,H⟩;unfold AA6;have hm:wrap .i64 (((AT p:Nat):Int)+((Ai p:Nat):Int))=((AT p+Ai p:Nat):Int):=by rw[AE (by omega)];omega
 rw[hn,hm];refine H.ld 0 rfl rfl (H.ld 0 rfl rfl (H.ld 0 rfl rfl ((XW p _ (by omega) _).mono ?_)));rintro r w5 ⟨rfl,he⟩;have H:=H.AB he;rw[Ga];unfold QB;refine Br.ne (fun e=>?_) fun e=>?_
 ·rw[ak e];exact ⟨rfl,H.ext⟩
 rw[ah (by rw[e];simp)];obtain ⟨BA,hlen,jZ⟩:=Ji e;have XX:=Fm BA;refine H.ld 0 rfl rfl (Br.eq (fun e1=>?_) fun e1=>H.ld 0 rfl rfl ?_)
 ·rw[ak e1];exact ⟨rfl,H.ext⟩
 rw[ah e1];have hc:((p.2.1.toNat:Nat):Int)=p.2.1:=by omega
 have yp:p.2.1.toNat<=9223372036854775807:=by
  have:p.2.1*1<=p.2.1*p.2.2:=Int.mul_le_mul_of_nonneg_left XX.2.2.1 (by omega);omega
 have hk:s.data.toList.length=s.data.toList.length/(AT p+Ai p)*(AT p+Ai p):=by
  have:=jZ e1;rw[F0 (by omega)]at this;have h2:s.data.toList.length%(AT p+Ai p)=0:=by omega
  exact (Nat.div_mul_cancel (Nat.dvd_of_mod_eq_zero h2)).symm
 have ACU:=(H.get 0 rfl).lt;generalize hq:s.data.toList.length/(AT p+Ai p)=q at hk⊢;refine H.Ro fun w7 H he7=>H.EV 1 rfl (by simp) (.inr (by omega)) fun w8 H he8=>?_
 rw[add_lit,add_lit];refine H.EV 1 rfl (by simp) (.inr (by omega)) fun w9 H he9=>H.EV 1 rfl (by simp) (.inr (by omega)) fun IY H AMX=>?_
 refine ⟨AMd w p w5.heap.size (SB (Ai p) (AT p) p.2.1.toNat q [] s.data.toList),_,⟨[],[],⟨none,0,0⟩,⟨none,0,0⟩,hk,by simp,by simp only[bq];omega,H,Bx.nil _,BQ.nil _,(by rintro j ⟨a,ha,_⟩;cases ha),(by rintro j ⟨a,ha,_⟩;cases ha)⟩,?_⟩;generalize SB (Ai p) (AT p) p.2.1.toNat q [] s.data.toList=total;rintro k ⟨Cz,out⟩ PU ⟨prev,acc,s1,s2,hl,Oe,hb,H,kC,AV,IU,iT⟩;unfold AA5;simp only at hl Oe hb kC AV IU iT⊢;have A1:=Ah Cz;refine Br.dec (fun e3=>?_) fun e3=>?_
 case refine_2=>
  have h0:Cz.data.toList.length=0:=by omega
  have RZ:k=0:=by
   rw[h0]at hl;rcases Nat.mul_eq_zero.1 hl.symm with h|h
   ·exact h
   ·omega
  subst RZ;refine ⟨_,PU,HP AV,?_,H.ext⟩;rw[<-Oe];simp[SB]
 have RZ:k≠0:=fun h=>by subst h;rw[cg]at hl;omega
 obtain ⟨k,rfl⟩:∃k',k=k'+1:=⟨k-1,by omega⟩
 have hN:AT p+Ai p<=Cz.data.toList.length:=by rw[hl];exact Nat.le_mul_of_pos_left _ (by omega)
 have ACy:((Cz.data.toList.drop (Ai p)).take (AT p)).length=AT p:=by rw[au,aJ];omega
 refine ⟨fun t Ef=>t=((Uy (Ai p) Cz.data.toList:Nat):Int)/\Ef=PU,?_,?_⟩
 case refine_2=>
  refine Br.eq (fun e4=>⟨by omega,by omega,?_,rfl⟩) fun e4=>⟨?_,rfl⟩
  ·unfold Uy;rw[ak (by omega),show (0:Int)=((0:Nat):Int)from rfl,DX];have:=(Cz.data.toList.getD 0 0).toNat_lt;rw[AE (by omega)]
  ·unfold Uy;rw[ah (by omega)]
   rfl
 rintro _ Ef ⟨rfl,rfl⟩;unfold AA4;dsimp only;simp only[SB]at Oe;rw[hn,hm];refine Br.dec (fun e4=>?_) fun e4=>?_
 ·rw[ak (by omega)]at Oe;rw[<-Oe];exact ⟨rfl,H.ext⟩
 rw[ah (by omega)]at Oe;generalize AMe:Uy (Ai p) Cz.data.toList=tag at Oe e4⊢;have tail:∀(x:AA) (w5':World),Hx w (fun _=>False) w5' [(w.heap.size,#[.int .i64 p.1,.int .i64 p.2.1,.int .i64 p.2.2],27),(w5.heap.size,#[AA.v s2,AA.v x,.int .i64 p.2.1],154)]->
   Bx w5' s2 prev->Bx w5' x ((Cz.data.toList.drop (Ai p)).take (AT p))->BQ w5' out acc->(∀j,x.own j->w.heap.size<j/\j≠w5.heap.size/\¬s2.own j/\¬out.own j)->
   Ld w5' ⟨w5.heap.size,0,none⟩ AA.v fun WT=>
   Ld w5' (.add ⟨w5.heap.size,0,none⟩ 1) AA.v fun YL=>
   Ld w5' (.add ⟨w5.heap.size,0,none⟩ 2) (.int .i64) fun QS=>
   qV (WT,YL,QS) ((tag:Nat):Int) w5' fun z53=>
    Ld z53 (.add ⟨w5.heap.size,0,none⟩ 1) AA.v fun R5=>
    Rn prog (Builtin.append_ #[108,108] 108 #[AA.v out,AA.v R5]) z53 AA.v fun (UR:AA) UQ=>
    0<=((AT p+Ai p:Nat):Int)/\((AT p+Ai p:Nat):Int)<=((Cz.size:Nat):Int)/\∃n',n'<k+1/\AMd w p w5.heap.size total n' (Cz.extract (((AT p+Ai p:Nat):Int)).toNat Cz.size,UR) UQ:=by
  intro x Fs H kC kH AV hx;refine H.ld 1 rfl rfl (H.ld 1 rfl rfl (H.ld 1 rfl rfl ?_));have ABj:=AFl kC kH (fun j hj h=>(hx j h).2.2.1 hj) ((tag:Nat):Int) (colors:=p.2.1.toNat) (by omega) (by omega) yp;rw[hc,ACy]at ABj;refine ABj.mono ?_;rintro lN ⟨kH,Ed⟩;have H:=H.other Ed (fun j hj hm=>by
   have:=hx j hj;simp at hm;omega) fun j hj=> .inr (by have:=(hx j hj).1;omega)
  have AV:=AV.AB Ed fun j hj h=>(hx j h).2.2.2 hj
  have nM:=Uz ((tag:Nat):Int) prev ((Cz.data.toList.drop (Ai p)).take (AT p)) p.2.1.toNat (AT p);obtain ⟨y,VT,Ag,hy,JE,Ar⟩:=sI (ty:=108) AV kH (by omega);refine H.ld 1 rfl rfl ⟨y,VT,Ag,by omega,by omega,k,by omega,dec ((tag:Nat):Int) prev ((Cz.data.toList.drop (Ai p)).take (AT p)) p.2.1.toNat (AT p),_,s2,x,?_,?_,?_,H.other JE (fun j hj hm=>?_) fun j hj=> .inr (by have:=(IU j hj).1;omega),kH.AB JE fun j hj h=>(hx j hj).2.2.2 h,hy,?_,fun j hj=>⟨(hx j hj).1,(hx j hj).2.1⟩⟩
  ·rw[aa,Bp,aJ,hl,bN,eu,cz]
  ·rw[aa,Bp,<-Oe,Option.map_map];refine bI (fun f=>Option.map f _) (funext fun l=>?_);exact ax _ _ _
  ·rw[aa,Bp,ae,aJ];omega
  ·have:=IU j hj;simp at hm;omega
  ·intro j hj;rcases Ar j hj with h|h
   ·exact ⟨(IU j h).1,(IU j h).2.1,fun h2=>(hx j h2).2.2.2 h⟩
   ·have h1:=(H.get 0 rfl).lt;have h2:=(H.get 1 rfl).lt;exact ⟨by omega,by omega,fun h3=>by have:=kH.own_lt h3;omega⟩
 have HD:=H.drew;have AXz:=(H.get 1 rfl).lt;have XY:=kC.AB (Ext.refl (fun _=>False) Ef).drew fun _ _ h=>h
 have HI:=AV.AB (Ext.refl (fun _=>False) Ef).drew fun _ _ h=>h
 have hex:(Cz.extract (((Ai p:Nat):Int)).toNat (((AT p+Ai p:Nat):Int)).toNat).data.toList=(Cz.data.toList.drop (Ai p)).take (AT p):=by
  rw[Ao,aa,aa,cz]
 refine ⟨fun Fs=>Ext (fun _=>False) Ef.drew Fs,Ext.refl _ _,AP.of (fun Fs he=>(HD.AB he).get 1 rfl) rfl ⟨by omega,by omega,by omega,by rw[aa];omega,?_,?_⟩⟩
 ·obtain ⟨x,Fs,Ag,hx,he,Cw⟩:=FO Ef.drew (Cz.extract (((Ai p:Nat):Int)).toNat (((AT p+Ai p:Nat):Int)).toNat);rw[hex]at hx;refine ⟨x,Fs,Ag,he,?_⟩;have y5:=HD.AB he;have II:∀j,x.own j->w5.heap.size<j:=fun j hj=>by have:=Cw j hj;simp at this;omega
  have IZ:∀j,x.own j->¬j=w5.heap.size:=fun j hj h=>by have:=II j hj;omega
  refine y5.EV 1 rfl (by simp) (.inr (by omega)) fun lN vW Ed=>?_
  rw[add_lit];refine vW.EV 1 rfl (by simp) (.inr (by omega)) fun VT H15 JE=>?_
  exact tail x VT H15 (((XY.AB he fun _ _ h=>h).AB Ed fun j hj=>(iT j hj).2).AB JE fun j hj=>(iT j hj).2) ((hx.AB Ed IZ).AB JE IZ) (((HI.AB he fun _ _ h=>h).AB Ed fun j hj=>(IU j hj).2.1).AB JE fun j hj=>(IU j hj).2.1)
   fun j hj=>⟨by have:=II j hj;omega,IZ j hj,fun h=>by have h1:=XY.own_lt h;have h2:=Cw j hj;omega,fun h=>by have h1:=HI.own_lt h;have h2:=Cw j hj;omega⟩
 ·refine HD.EV 1 rfl (by simp) (.inr (by omega)) fun Fs y5 Qj=>?_
  obtain ⟨x,lN,Ag,hx,he,Cw⟩:=FO Fs (Cz.extract (((Ai p:Nat):Int)).toNat (((AT p+Ai p:Nat):Int)).toNat);rw[hex]at hx;refine ⟨x,lN,Ag,?_⟩;have vW:=y5.AB he;have AFi:=Qj.size;simp at AFi;have II:∀j,x.own j->w5.heap.size<j:=fun j hj=>by have:=Cw j hj;omega
  have IZ:∀j,x.own j->¬j=w5.heap.size:=fun j hj h=>by have:=II j hj;omega
  rw[add_lit];refine vW.EV 1 rfl (by simp) (.inr (by omega)) fun VT H15 JE=>?_
  have AMf:=XY.AB Qj fun j hj=>(iT j hj).2
  have ABk:=HI.AB Qj fun j hj=>(IU j hj).2.1
  exact tail x VT H15 ((AMf.AB he fun _ _ h=>h).AB JE fun j hj=>(iT j hj).2) (hx.AB JE IZ) ((ABk.AB he fun _ _ h=>h).AB JE fun j hj=>(IU j hj).2.1)
   fun j hj=>⟨by have:=II j hj;omega,IZ j hj,fun h=>by have h1:=AMf.own_lt h;have h2:=Cw j hj;omega,fun h=>by have h1:=ABk.own_lt h;have h2:=Cw j hj;omega⟩
end
end IK
end Go.Proofs.YtdmmgclkphaaaaaGreatDoor

namespace Go.Proofs.YtdmmgclkphaaaaaGreatDoor
set_option maxRecDepth 4000
namespace IK
open Sh
theorem AMg (c:Int):(if 1>c then 1 else c)=(((max c 1).toNat:Nat):Int):=by
 split<;>omega
theorem Qk {p:Int×Int×Int}(h:GB p=true){n m:Int}:CJ p n m=if 1048576<n then 5 else if p.1≠1/\Int.tmod n m≠0 then 16 else 0:=by
 unfold CJ;rw[ah (by rw[h];simp)]
theorem y8 {p:Int×Int×Int}(BA:GB p=true)(s:List UInt8):MX p s=if 1048576<(s.length:Int)then (([],5):List UInt8×Int)else if p.1=1 then (s,0)else if Int.tmod s.length ((AT p:Nat):Int)≠0 then ([],16)
  else if 10<=p.1/\1048576<s.length+s.length/AT p then ([],5)else (Jv p.1 (AT p) p.2.1.toNat (s.length/AT p) [] s,0):=by
 unfold MX;rw[Qk BA];by_cases a:1048576<(s.length:Int)
 ·rw[ak a,ak a,ak (by simp)]
 ·rw[ah a,ah a];by_cases b:p.1=1
  ·rw[ah (c:=p.1≠1/\_) (fun h=>h.1 b),ah (by simp),ak b,ak b]
  ·rw[ah b,ah b];by_cases c:Int.tmod (s.length:Int) ((AT p:Nat):Int)≠0
   ·rw[ak (show p.1≠1/\_ from ⟨b,c⟩),ak (by simp),ak c]
   ·rw[ah (c:=p.1≠1/\_) (fun h=>c h.2),ah (by simp),ah c]
theorem iX {p:Int×Int×Int}(BA:GB p=true)(s:List UInt8):QB p s=if 1048576<(s.length:Int)then (([],5):List UInt8×Int)else if p.1=1 then (s,0)else if Int.tmod s.length ((AT p+Ai p:Nat):Int)≠0 then ([],16)
  else match SB (Ai p) (AT p) p.2.1.toNat (s.length/(AT p+Ai p)) [] s with
   |none=>([],3)
   |some l=>(l,0):=by
 unfold QB;rw[Qk BA];by_cases a:1048576<(s.length:Int)
 ·rw[ak a,ak a,ak (by simp)]
 ·rw[ah a,ah a];by_cases b:p.1=1
  ·rw[ah (c:=p.1≠1/\_) (fun h=>h.1 b),ah (by simp),ak b,ak b]
  ·rw[ah b,ah b];by_cases c:Int.tmod (s.length:Int) ((AT p+Ai p:Nat):Int)≠0
   ·rw[ak (show p.1≠1/\_ from ⟨b,c⟩),ak (by simp),ak c]
   ·rw[ah (c:=p.1≠1/\_) (fun h=>c h.2),ah (by simp),ah c]
    all_goals rfl
end IK
end Go.Proofs.YtdmmgclkphaaaaaGreatDoor

namespace Go.Proofs.YtdmmgclkphaaaaaGreatDoor
set_option maxRecDepth 4000
namespace IK
open Sh
theorem Xa {pred:Int}{prev row:List UInt8}{colors h:Nat}(hp:pred=2/\h=0\/10<=pred/\h=1):(EJ pred prev row colors).length=row.length+h:=by
 unfold EJ;rcases hp with ⟨h1,h2⟩|⟨h1,h2⟩
 ·rw[ak h1,BZ];omega
 ·rw[ah (by omega),aA,BZ];omega
theorem Lb {pred:Int}{n colors h:Nat}(hp:pred=2/\h=0\/10<=pred/\h=1):∀(k:Nat) (prev s:List UInt8),s.length=k*n->(Jv pred n colors k prev s).length=k*(n+h)
 |0,_,_,_=>by simp[Jv]
 |k+1,prev,s,hs=>by
  have h1:(k+1)*n=k*n+n:=by rw[bN,eu]
  rw[Jv,ae,Xa hp,Lb hp k _ _ (by rw[aJ];omega),au,bo (by omega),bN k 1,eu];omega
theorem y9 {pred:Int}{prev row:List UInt8}{colors:Nat}(h1:10<=pred)(h2:pred<=15):0<=Qi pred prev row colors/\Qi pred prev row colors<=4:=by
 unfold Qi;split
 ·have:=iV prev row colors;omega
 ·omega
theorem Sr {pred:Int}{n colors h:Nat}(hc:1<=colors)(hp:pred=2/\h=0\/10<=pred/\h=1)(h15:pred<=15):∀(k:Nat) (prev s:List UInt8),s.length=k*n->SB h n colors k prev (Jv pred n colors k prev s)=some s
 |0,prev,s,hs=>by
  have:s=[]:=aw (by omega);rw[this];rfl
 |k+1,prev,s,hs=>by
  have h1:(k+1)*n=k*n+n:=by rw[bN,eu]
  have hl:(s.take n).length=n:=by rw[au];omega
  have ih:=Sr (n:=n) hc hp h15 k (s.take n) (s.drop n) (by rw[aJ];omega);have key:∃t:Nat,t<=4/\Uy h (Jv pred n colors (k+1) prev s)=t/\((Jv pred n colors (k+1) prev s).drop h).take n=less (t:Int) prev (s.take n) colors/\(Jv pred n colors (k+1) prev s).drop (n+h)=Jv pred n colors k (s.take n) (s.drop n):=by
   rw[Jv];rcases hp with ⟨h1,rfl⟩|⟨h1,rfl⟩
   ·refine ⟨1,by omega,rfl,?_,?_⟩
    ·unfold EJ;rw[ak h1,cV,bK (by rw[BZ];exact hl)]
     rfl
    ·unfold EJ;rw[ak h1,bY,dy (by rw[BZ];exact hl)]
   ·obtain ⟨b1,b2⟩:=y9 (prev:=prev) (row:=s.take n) (colors:=colors) h1 h15;refine ⟨(Qi pred prev (s.take n) colors).toNat,by omega,?_,?_,?_⟩
    ·unfold EJ;rw[ah (show ¬pred=2 by omega)];unfold Uy;rw[ak rfl];simp only[ar,List.getD_cons_zero];exact dk (by show _<256;omega)
    ·unfold EJ;rw[ah (by omega),ar,dW,cV,bK (by rw[BZ];exact hl),Int.toNat_of_nonneg b1]
    ·unfold EJ;rw[ah (by omega),ar,dW,dy (by rw[BZ];exact hl)]
  obtain ⟨t,ht,e1,e2,e3⟩:=key;rw[SB,e1,e2,e3,ah (by omega)];have hd:=Xb (tag:=(t:Int)) (prev:=prev) (row:=s.take n) hc n (by omega);rw[hd,aX (by omega),ih];simp
theorem Ql {p:Int×Int×Int}(BA:GB p=true){s:List UInt8}(hl:s.length<=100000)(hm:s.length%AT p=0):∃x,MX p s=(x,0)/\QB p x=(s,0):=by
 obtain ⟨_,YP,Tk⟩:=HG p;have XX:=Fm BA;rw[y8 BA,ah (by omega)];by_cases h1:p.1=1
 ·refine ⟨s,by rw[ak h1],?_⟩;rw[iX BA,ah (by omega),ak h1]
 ·have y4:s.length/AT p<=s.length:=en _ _;have hk:s.length=s.length/AT p*AT p:=(Nat.div_mul_cancel (Nat.dvd_of_mod_eq_zero hm)).symm;rw[ah h1,ah (by rw[F0 (by omega)];omega),ah (by omega)];refine ⟨_,rfl,?_⟩;generalize s.length/AT p=k at hk y4⊢;have hp:p.1=2/\Ai p=0\/10<=p.1/\Ai p=1:=by
   unfold Ai;split<;>omega
  have hlen:=Lb (colors:=p.2.1.toNat) hp k [] s hk;have hmul:k*(AT p+Ai p)=k*AT p+k*Ai p:=Nat.mul_add _ _ _;have hkh:k*Ai p<=k:=by
   rcases hp with ⟨_,h⟩|⟨_,h⟩<;>rw[h]<;>omega
  rw[iX BA,ah (by omega),ah h1,hlen,ah,Nat.mul_div_cancel _ (by omega),Sr (by omega) hp (by omega) k [] s hk];rw[F0 (by omega)];have:k*(AT p+Ai p)%(AT p+Ai p)=0:=Nat.mul_mod_left _ _;omega
end IK
set_option maxHeartbeats 1000000
section
open IK (MX QB CJ AT Ai Ji HG Ql Fm Lb GB V0 V4)
namespace A8
open Sh DS
attribute [local irreducible] Ld St Nw Nn Lt AP
theorem V3 {p:Int×Int×Int}{s x:List UInt8}(hl:s.length<=100000)(h:MX p s=(x,0)):QB p x=(s,0)/\x.length<=2*s.length:=by
 have h':=h;unfold MX at h;by_cases hr:CJ p s.length (AT p)≠0
 ·rw[ak hr]at h;exact absurd (Prod.mk.inj h).2 hr
 ·rw[ah hr]at h;have hr:CJ p s.length (AT p)=0:=by simpa using hr
  obtain ⟨BA,h2,h3⟩:=Ji hr;by_cases h1:p.1=1
  ·rw[ak h1]at h;obtain ⟨rfl,_⟩:=Prod.mk.inj h;refine ⟨?_,by omega⟩;unfold QB;have:CJ p s.length ((AT p+Ai p:Nat):Int)=0:=by
    unfold CJ;rw[ah (by rw[BA];decide),ah (by omega),ah (fun k=>k.1 h1)]
   rw[this,ah (fun k=>k rfl),ak h1]
  ·obtain ⟨_,YP,Tk⟩:=HG p;have hm:=h3 h1;rw[F0 (by omega)]at hm;have hm:s.length%AT p=0:=by omega
   obtain ⟨x',e1,e2⟩:=Ql BA hl hm;rw[h']at e1;obtain ⟨rfl,_⟩:=Prod.mk.inj e1;refine ⟨e2,?_⟩;rw[ah h1]at h;split at h
   ·cases (Prod.mk.inj h).2
   ·obtain ⟨rfl,_⟩:=Prod.mk.inj h;have XX:=Fm BA;have hp:p.1=2/\Ai p=0\/10<=p.1/\Ai p=1:=by
     unfold Ai;split<;>omega
    have hk:s.length=s.length/AT p*AT p:=(Nat.div_mul_cancel (Nat.dvd_of_mod_eq_zero hm)).symm;have y4:s.length/AT p<=s.length:=en _ _;rw[Lb (colors:=p.2.1.toNat) hp (s.length/AT p) [] s hk,Nat.mul_add];generalize s.length/AT p=k at*;have hkh:k*Ai p<=k:=by
     rcases hp with ⟨_,h⟩|⟨_,h⟩
     ·rw[h,Nat.mul_zero];exact bz _
     ·rw[h,aH];exact av _
    omega
end A8
end
set_option maxRecDepth 8000
set_option maxHeartbeats 4000000
namespace Vl
open Sh
theorem NM (RW:Bool)(p:Option ByteArray)(k:ByteArray)(ks:List ByteArray)(x:Tr)(xs:List Tr):RV RW p (k::ks) (x::xs)=(VC k&&X5 p k&& !(RW&&(k.toList==(⟨#[76,101,110,103,116,104]⟩:ey).toList))&&decide (x.k≠0)&&RV RW (some k) ks xs):=rfl
theorem Lx {RW:Bool}:∀{ks:List ByteArray} {kids:List Tr} {prev:Option ByteArray},ks.length≠kids.length->RV RW prev ks kids=false
 |[],[],_,h=>absurd rfl h
 |[],_::_,_,_=>rfl
 |_::_,[],_,_=>rfl
 |k::ks,x::xs,p,h=>by
  rw[NM,Lx (ks:=ks) (kids:=xs) (by simpa using h),Bool.and_false]
theorem ez {α:Type}{l:List α}{i:Nat}{c:α}(h:l[i]?=some c):l.drop i=c::l.drop (i+1):=by
 obtain ⟨hi,e⟩:=ao.1 h;rw[aS hi,e]
section
variable {w w' w0 w1:World} {o:Ob} {t:Tr}
attribute [local irreducible] Ld Sh.St Nw Nn Lt AP Af B1 A6
theorem KV.get{s:AA}{K:List ByteArray}(h:KV w s K){i:Nat}{b:ByteArray}(hi:K[i]?=some b){Q:ByteArray->Prop}(k:Q b):Nn s.p fun a=>Ld w (a.add (((i:Nat):Int).toNat*1)) Value.string Q:=by
 obtain ⟨a,ha,hc⟩:=h.2 i b hi;rw[ha,aa,aH];exact Nn.of (Ld.mk hc k)
theorem VJ.kind{s:AA}{ts:List Tr}(h:VJ w s ts){i:Nat}{t:Tr}(hi:ts[i]?=some t){Q:Int->Prop}(k:Q t.k):Nn s.p fun a=>Ld w (a.add (((i:Nat):Int).toNat*6)) (Value.int .i64) Q:=by
 obtain ⟨d,L,h1,h2⟩:=h;obtain ⟨o,ho,hR⟩:=h2.WI hi;obtain ⟨a,ha,c0,_⟩:=h1.get ho;rw[ha,aa];have hk:o.1=t.k:=by
  cases d with
  |zero=>exact hR.elim
  |succ d=>exact hR.1.1
 rw[hk]at c0;exact Nn.of (Ld.mk c0 k)
theorem OV.uY{s:AA}{L:List Ob}(h:OV w s L){i:Nat}{o:Ob}(hi:L[i]?=some o){K:AG->Prop}(k:K o):Nn s.p fun a=>Af w (a.add (((i:Nat):Int).toNat*6)) 0 AD K:=by
 obtain ⟨a,ha,hw⟩:=h.word hi k;rw[ha,aa];exact Nn.of hw
theorem uZ (h:OX w o t):C42 o w fun r w1=>r=Lu t/\Ext (fun _=>False) w w1:=by
 obtain ⟨⟨hk,hn,hg,hs⟩,hK,hO⟩:=h.out;refine T42 o _ _ ?_;unfold S42;rw[AR];refine (Hn.start w).nw (cs:=AF o) fun w2 H=>?_
 simp only[ag,add_lit,aj]at H⊢;refine H.ld 0 rfl rfl (H.ld 0 rfl rfl ?_);have hK:=hK.AB H.ext;have hO:=hO.AB H.ext;have hl:=hK.1.2;have mP:=hK.1.1;rw[mP,hO.len];refine Br.ne (fun q=>⟨(Lx (by omega)).symm,H.ext⟩) fun q=>H.ld 0 rfl rfl ?_
 have hle:t.ks.length=t.kids.length:=by omega
 refine ⟨fun n st v=>∃(i:Nat) (p:Option ByteArray),st=(i:Int)/\i<=t.ks.length/\n=t.ks.length-i/\v=w2/\(i=0->p=none)/\(∀j,i=j+1->p=t.ks[j]?)/\RV (decide (t.k=9)) p (t.ks.drop i) (t.kids.drop i)=Lu t,t.ks.length,⟨0,none,rfl,by omega,rfl,rfl,fun _=>rfl,fun j hj=>by omega,rfl⟩,?_⟩;rintro n st v ⟨i,p,rfl,hi,rfl,rfl,hp0,YF,hr⟩;unfold AA8;simp only[add_lit,aj];rw[mP];refine Br.dec (fun q=>⟨by omega,by omega,?_⟩) fun q=>?_
 ·have hik:i<t.ks.length:=by omega
  have J0:=ad hik;have fA:=ad (show i<t.kids.length by omega);generalize t.ks[i]=k at J0;generalize t.kids[i]=x at fA;rw[ez J0,ez fA,NM]at hr;refine hK.get J0 ((AB1 k v).mono ?_);rintro r w3 ⟨rfl,rfl⟩;have i1:IntKind.i64.wrap (((i:Nat):Int)+1)=((i+1:Nat):Int):=by rw[AE (by omega)];rfl
  have im:i≠0->IntKind.i64.wrap (((i:Nat):Int)-1)=((i-1:Nat):Int):=fun h=>by rw[AE (by omega)];omega
 
  have fin:VC k=true->X5 p k=true->Br (o.1==9) (Br (k.toList==(⟨#[76,101,110,103,116,104]⟩:ey).toList) (false=Lu t/\Ext (fun _=>False) w w3) (Ld w3 ⟨w.heap.size,5,none⟩ AA.v fun (En:AA)=>
        0<=((i:Nat):Int)/\((i:Nat):Int)<(En.len:Nat)/\Nn En.p fun a20=>
        Ld w3 (a20.add ((((i:Nat):Int)).toNat*6)) (Value.int .i64) fun (D6:Int)=>
        Br (D6==0) (false=Lu t/\Ext (fun _=>False) w w3) (∃n',n'<t.ks.length-i/\∃(Gc:Nat) (p:Option ByteArray),IntKind.i64.wrap (((i:Nat):Int)+1)=(Gc:Int)/\Gc<=t.ks.length/\n'=t.ks.length-Gc/\w3=w3/\(Gc=0->p=none)/\(∀j,Gc=j+1->p=t.ks[j]?)/\RV (decide (t.k=9)) p (t.ks.drop Gc) (t.kids.drop Gc)=Lu t)))
       (Ld w3 ⟨w.heap.size,5,none⟩ AA.v fun (En:AA)=>
        0<=((i:Nat):Int)/\((i:Nat):Int)<(En.len:Nat)/\Nn En.p fun a20=>
        Ld w3 (a20.add ((((i:Nat):Int)).toNat*6)) (Value.int .i64) fun (D6:Int)=>
        Br (D6==0) (false=Lu t/\Ext (fun _=>False) w w3) (∃n',n'<t.ks.length-i/\∃(Gc:Nat) (p:Option ByteArray),IntKind.i64.wrap (((i:Nat):Int)+1)=(Gc:Int)/\Gc<=t.ks.length/\n'=t.ks.length-Gc/\w3=w3/\(Gc=0->p=none)/\(∀j,Gc=j+1->p=t.ks[j]?)/\RV (decide (t.k=9)) p (t.ks.drop Gc) (t.kids.drop Gc)=Lu t)):=by
   intro TX hp;rw[TX,hp,cM,cM]at hr;have last:(!(decide (t.k=9)&&(k.toList==(⟨#[76,101,110,103,116,104]⟩:ey).toList)))=true->(Ld w3 ⟨w.heap.size,5,none⟩ AA.v fun (En:AA)=>
        0<=((i:Nat):Int)/\((i:Nat):Int)<(En.len:Nat)/\Nn En.p fun a20=>
        Ld w3 (a20.add ((((i:Nat):Int)).toNat*6)) (Value.int .i64) fun (D6:Int)=>
        Br (D6==0) (false=Lu t/\Ext (fun _=>False) w w3) (∃n',n'<t.ks.length-i/\∃(Gc:Nat) (p:Option ByteArray),IntKind.i64.wrap (((i:Nat):Int)+1)=(Gc:Int)/\Gc<=t.ks.length/\n'=t.ks.length-Gc/\w3=w3/\(Gc=0->p=none)/\(∀j,Gc=j+1->p=t.ks[j]?)/\RV (decide (t.k=9)) p (t.ks.drop Gc) (t.kids.drop Gc)=Lu t)):=by
    intro hs;rw[hs,cM]at hr;refine H.ld 0 rfl rfl ⟨by omega,by rw[hO.len];omega,hO.kind fA (Br.eq (fun h0=>⟨?_,H.ext⟩) fun h0=>?_)⟩
    ·rw[<-hr,aP (by omega)];rfl
    ·rw[aD h0,cM]at hr;exact ⟨t.ks.length-(i+1),by omega,i+1,some k,i1,by omega,rfl,rfl,fun h=>by omega,fun j hj=>(show i=j by omega)▸J0.symm,hr⟩
   rw[hk];refine Br.eq (fun h9=>?_) fun h9=>last (by rw[aP h9];rfl)
   cases hL:(k.toList==(⟨#[76,101,110,103,116,104]⟩:ey).toList)with
   |true=>
    refine Br.t rfl ⟨?_,H.ext⟩;rw[<-hr,hL,aD h9]
    rfl
   |false=>exact Br.f rfl (by have:=last (by rw[hL,aD h9];rfl);exact this)
  cases TX:VC k with
  |false=>
   refine Br.t rfl ⟨?_,H.ext⟩;rw[<-hr,TX]
   rfl
  |true=>
   refine Br.f rfl ?_;cases i with
   |zero=>
    obtain rfl:=hp0 rfl;exact Br.f rfl (H.ld 0 rfl rfl (fin TX rfl))
   |succ i=>
    obtain rfl:=YF i rfl;have hpi:=ad (show i<t.ks.length by omega);generalize t.ks[i]=kp at hpi;rw[hpi]at hr fin;refine Br.dec (fun _=>H.ld 0 rfl rfl ?_) fun q=>absurd (by omega) q
    rw[im (by omega),cz,mP];refine ⟨by omega,by omega,hK.get hpi ?_⟩;cases hb:Op.bytesLess kp.toList k.toList with
    |false=>
     refine Br.t rfl ⟨?_,H.ext⟩;rw[<-hr,TX];rw[show X5 (some kp) k=false from hb]
     rfl
    |true=>exact Br.f rfl (H.ld 0 rfl rfl (fin TX hb))
 ·have SE:i=t.ks.length:=by omega
  rw[bR (by omega),bR (by omega)]at hr;exact ⟨hr,H.ext⟩
def AYe (e:Int):Value:= .iface 71 (.agg #[.int .i64 e])
def Ly (t:Tr)(deep:Int)(w:World)(v:Value)(w1:World):Prop:=Cc deep t=false/\(∃e:Int,e≠0/\v=AYe e)/\Ext (fun _=>False) w w1
theorem ud {deep:Int}(h:Ff deep t=false):Cc deep t=false:=by rw[Mf,h];rfl
theorem Ov:∀(d:Nat) (o:Ob) (t:Tr) (deep:Int) (w:World),KM w d o t->0<=deep->deep<=25->(∀(x:Ob) (t':Tr) (w1:World),KM w1 (d-1) x t'->t'∈t.kids->deep<=24->C18 x (deep+1) w1 (fun w2=>Cc (deep+1) t'=true/\Ext (fun _=>False) w1 w2) (Ly t' (deep+1) w1))->
  C18 o deep w (fun w1=>Cc deep t=true/\Ext (fun _=>False) w w1) (Ly t deep w):=by
 intro d o t deep w hT hd0 Tb IH;cases d with
 |zero=>exact hT.elim
 |succ d=>
 rw[cz]at IH;have hX:OX w o t:=⟨d+1,hT⟩
 obtain ⟨⟨hk,hn,hg,hs⟩,hK,L,hL,hA⟩:=hT;have mP:=hK.1.1;have Vx:o.2.2.2.2.2.len=t.kids.length:=by rw[hL.1,hA.len]
 refine T18 o _ _ _ _ ?_;unfold S18;rw[AR];refine (Hn.start w).nw (cs:=AF o) fun w2 H=>?_
 simp only[ag,add_lit,aj]at H⊢;have bad:∀{v:World} {e:Int},e≠0->Ff deep t=false->Ext (fun _=>False) w v->Ly t deep w (.iface 71 (.agg #[.int .i64 e])) v:=fun he hh hv=>⟨ud hh,⟨_,he,rfl⟩,hv⟩
 refine Cd _ _ _ (fun q=>?_) fun q=>bad (by decide) (by unfold Ff;rw[q];rfl) H.ext
 have AYf:=bf q;refine H.ld 0 rfl rfl ((AGJ o.1 w2).mono ?_);rintro r6 r7 w4 ⟨hu,e4⟩;have H:=H.AB e4;rw[hk]at hu;refine H.nw (cs:=[.bool false,.bool false,.bool false,.bool false,.bool false]) fun w5 H=>?_
 simp only[ar,ag,add_lit,aj]at H⊢
 iterate 5 (refine H.st 1 rfl (by simp) fun _ H=>?_;simp only[ai,aq]at H)
 refine CP.intro ?_;cases hus:BG t.k with
 |none=>
  unfold usV at hu;rw[hus]at hu;obtain ⟨rfl,rfl⟩:=Prod.mk.inj hu;refine Br.f rfl (Cd _ _ _ (fun q=>by cases q) fun _=>bad (by decide) (by unfold Ff;rw[hus,Bool.and_false]) H.ext)
 |some u=>
 have hh:Ff deep t=(KP deep t u&&Lw t u):=by
  unfold Ff;rw[hus,q,cM]
 unfold usV at hu;rw[hus]at hu;obtain ⟨rfl,rfl⟩:=Prod.mk.inj hu

 have J2:∀{v:World},Hn w v [(w.heap.size,AF o,25),(w4.heap.size,[.bool u.n,.bool u.g,.bool u.s,.bool u.ks,.bool u.kids],73)]->KP deep t u=true->gP w deep w4 (fun w1=>Cc deep t=true/\Ext (fun _=>False) w w1) (Ly t deep w) () v:=by
  intro v H hch;rw[hch,cM]at hh;have X:=hX.AB H.ext;unfold gP;simp only[add_lit,aj];refine H.Dx (i:=0) (ts:=AD) (pre:=[]) (post:=[]) (x:=o) rfl rfl ((AGL X v).mono ?_);rintro r w6 ⟨rfl,e6⟩;have H:=H.AB e6;refine Cd _ _ _ (fun q1=>?_) fun q1=>bad (by decide) (by rw[hh];unfold Lw;rw[q1];rfl) H.ext
  refine H.Dx (i:=0) (ts:=AD) (pre:=[]) (post:=[]) (x:=o) rfl rfl ((zi (X.AB e6) w6).mono ?_);rintro r w7 ⟨rfl,e7⟩;have H:=H.AB e7;refine Cd _ _ _ (fun q2=>?_) fun q2=>bad (by decide) (by rw[hh];unfold Lw;rw[q1,q2];rfl) H.ext
  refine H.ld 0 rfl rfl ?_;rw[Vx];refine Cd _ _ _ (fun q3=>?_) fun q3=>bad (by decide) (by rw[hh];unfold Lw;rw[q1,q2,q3];rfl) H.ext
  have hr:Lw t u=(((t.k !=5)||VC t.s)&&(!u.ks||Lu t)):=by unfold Lw;rw[q1,q2,q3];rfl
  rw[hr]at hh;have X:=(X.AB e6).AB e7
 
  have J1:∀{v:World},Hn w v [(w.heap.size,AF o,25),(w4.heap.size,[.bool u.n,.bool u.g,.bool u.s,.bool u.ks,.bool u.kids],73)]->Ff deep t=true->Sa w deep (fun w1=>Cc deep t=true/\Ext (fun _=>False) w w1) (Ly t deep w) () v:=by
   intro v H BA;unfold Sa;simp only[add_lit,aj];refine H.ld 0 rfl rfl ?_;refine ⟨fun n st v=>∃i:Nat,st=(i:Int)/\i<=t.kids.length/\n=t.kids.length-i/\Ext (fun _=>False) w v/\∀x∈t.kids.take i,Cc (deep+1) x=true,t.kids.length,⟨0,rfl,by omega,rfl,H.ext,fun x hx=>by simp at hx⟩,?_⟩;rintro n st v ⟨i,rfl,hi,rfl,hE,BF⟩;unfold AA9;rw[Vx];have hlen:t.kids.length<=8191:=by
    have:=bf q3;omega
   refine Br.dec (fun q=>⟨by omega,by omega,?_⟩) fun q=>?_
   ·have fA:=ad (show i<t.kids.length by omega);have DV:t.kids[i]∈t.kids:=bZ _;generalize t.kids[i]=x at fA DV;obtain ⟨ox,hox,hR⟩:=hA.WI fA;refine (hL.AB hE).uY hox ?_;refine (Hn.start v).nw (cs:=[.int .i64 0,.int .i64 0,.int .i64 0,.string ⟨#[]⟩,AA.v ⟨none,0,0⟩,AA.v ⟨none,0,0⟩]) fun v2 G=>?_
    simp only[ag]at G;refine G.lS (i:=0) (ts:=AD) (pre:=[]) (post:=[]) (x:=ox) (zs:=[.int .i64 0,.int .i64 0,.int .i64 0,.string ⟨#[]⟩,AA.v ⟨none,0,0⟩,AA.v ⟨none,0,0⟩]) rfl rfl rfl fun v3 G=>?_
    simp only[ai,ag,aM]at G;refine G.Dx (i:=0) (ts:=AD) (pre:=[]) (post:=[]) (x:=ox) rfl rfl ?_;rw[AE (n:=deep+1) (by omega)];refine (IH ox x v3 ((hR.AB hE).AB G.ext) DV AYf).mono ?_ ?_
    ·rintro v4 ⟨hx,e4⟩;refine ⟨t.kids.length-(i+1),by omega,i+1,by rw[AE (by omega)];rfl,by omega,rfl,(hE.tr G.ext).tr e4,fun y hy=>?_⟩;rw[aO,fA]at hy;rcases aQ.1 hy with hy|hy
     ·exact BF y hy
     ·rw[show y=x by simpa using hy];exact hx
    ·rintro y v4 ⟨hx,he,e4⟩;refine ⟨?_,he,(hE.tr G.ext).tr e4⟩;rw[Mf,BA,cM,<-Bool.not_eq_true,VD];intro hc;rw[hc x DV]at hx;cases hx
   ·refine ⟨?_,hE⟩;rw[Mf,BA,cM,VD];rwa[show i=t.kids.length by omega,bj]at BF
  refine CP.intro ?_;have mK:∀{v:World} (b:Bool),Hn w v [(w.heap.size,AF o,25),(w4.heap.size,[.bool u.n,.bool u.g,.bool u.s,.bool u.ks,.bool u.kids],73)]->Ff deep t=b->BL b 3 v (fun vw=>Sa w deep (fun w1=>Cc deep t=true/\Ext (fun _=>False) w w1) (Ly t deep w) () vw) (Ly t deep w):=by
   intro v b H hb;exact Cd _ _ _ (fun q=>J1 H (hb.trans q)) fun q=>bad (by decide) (hb.trans q) H.ext
 
  have ris:∀{v:World},Hn w v [(w.heap.size,AF o,25),(w4.heap.size,[.bool u.n,.bool u.g,.bool u.s,.bool u.ks,.bool u.kids],73)]->Ff deep t=(!u.ks||Lu t)->Ld v ⟨w4.heap.size,3,none⟩ Value.bool fun (AEz:Bool)=>
        Br (!AEz) (BL true 3 v (fun vw=>Sa w deep (fun w1=>Cc deep t=true/\Ext (fun _=>False) w w1) (Ly t deep w) () vw) (Ly t deep w)) (Af v (⟨w.heap.size,0,none⟩:Addr) 0 AD fun (AE0:AG)=>
         C42 AE0 v fun AE1 AND=>
          BL AE1 3 AND (fun vw=>Sa w deep (fun w1=>Cc deep t=true/\Ext (fun _=>False) w w1) (Ly t deep w) () vw) (Ly t deep w)):=by
   intro v H hb;refine H.ld 1 rfl rfl ?_;cases hku:u.ks with
   |false=>
    rw[hku]at hb;exact Br.t rfl (mK true H hb)
   |true=>
    rw[hku]at hb;refine Br.f rfl (H.Dx (i:=0) (ts:=AD) (pre:=[]) (post:=[]) (x:=o) rfl rfl ((uZ (hX.AB H.ext)).mono ?_));rintro r v2 ⟨rfl,e2⟩;exact mK _ (H.AB e2) hb
  refine H.ld 0 rfl rfl ?_;rw[hk];refine Br.ne (fun q5=>?_) fun q5=>H.ld 0 rfl rfl ((AB1 _ w7).mono ?_)
  ·exact ris H (by rw[hh,show (t.k !=5)=true by simpa using q5];rfl)
  ·rintro r w8 ⟨rfl,rfl⟩;rw[hs];have h5:(t.k !=5)=false:=by rw[q5];rfl
   rw[h5,dS]at hh;cases hkt:VC t.s with
   |true=>
    rw[hkt,cM]at hh;exact Br.t rfl (ris H hh)
   |false=>
    rw[hkt]at hh;exact Br.f rfl (mK false H hh)

 have leaf:∀(b:Bool) {v:World},Hn w v [(w.heap.size,AF o,25),(w4.heap.size,[.bool u.n,.bool u.g,.bool u.s,.bool u.ks,.bool u.kids],73)]->KP deep t u=b->BL b 10 v (fun vw=>gP w deep w4 (fun w1=>Cc deep t=true/\Ext (fun _=>False) w w1) (Ly t deep w) () vw) (Ly t deep w):=by
  intro b v H hb;exact Cd _ _ _ (fun q=>J2 H (hb.trans q)) fun q=>bad (by decide) (by rw[hh,hb.trans q];rfl) H.ext
 clear J2 bad;refine Br.t rfl ?_;have E:KP deep t u=((u.n||(o.2.1==0))&&(u.g||(o.2.2.1==0))&&(u.s||(o.2.2.2.1.toList==(⟨#[]⟩:ey).toList))&&(u.ks||(((o.2.2.2.2.1.len:Nat):Int)==0))&&(u.kids||(((o.2.2.2.2.2.len:Nat):Int)==0))&&((deep==1)||(o.1 !=9))):=by
  rw[hn,hg,hs,hk,mP,Vx]
  rfl
 replace H:Hn w _ [(w.heap.size,AF o,25),(w4.heap.size,[.bool u.n,.bool u.g,.bool u.s,.bool u.ks,.bool u.kids],73)]:=H
 clear hn hg hs hk mP Vx hh hus hX hL hA hK IH
 repeat' first
  |refine leaf _ H ?_
  |refine H.ld 1 rfl rfl ?_
  |refine H.ld 0 rfl rfl ?_
  |refine AX (fun _=>?_) fun _=>?_
 all_goals (rw[E];simp only[*,Bool.or_true,Bool.true_or,dS,Bool.or_false,Bool.and_true,cM,Bool.and_false,Bool.false_and])
theorem X6:∀(d:Nat) (o:Ob) (t:Tr) (deep:Int) (w:World),KM w d o t->0<=deep->deep<=25->C18 o deep w (fun w1=>Cc deep t=true/\Ext (fun _=>False) w w1) (Ly t deep w)
 |0,_,_,_,_,h,_,_=>h.elim
 |d+1,o,t,deep,w,h,h0,h1=>Ov (d+1) o t deep w h h0 h1 fun x t' w1 hx _ hd=>X6 d x t' (deep+1) w1 hx (by omega) (by omega)
theorem GC (h:OX w o t):C5 o w (fun r w1=>(Cc 1 t=true/\r=0\/Cc 1 t=false/\r≠0)/\Ext (fun _=>False) w w1) fun _ _=>False:=by
 obtain ⟨d,hT⟩:=h;refine T5 o _ _ _ ?_;unfold S5;rw[AR];refine (Hn.start w).nw (cs:=AF o) fun w2 H=>?_
 simp only[ag]at H;refine yM _ _ _ ?_;unfold UZ;refine H.nw (cs:=[.int .i64 0]) fun w3 H=>?_
 simp only[ar,ag]at H;refine T17 _ _ _ _ ?_;unfold S17;refine H.Dx (i:=0) (ts:=AD) (pre:=[]) (post:=[]) (x:=o) rfl rfl ((X6 d o t 1 w3 (hT.AB H.ext) (by decide) (by decide)).mono ?_ ?_)
 ·rintro w4 ⟨BA,e4⟩;have H:=H.AB e4;refine H.st 1 rfl (by simp) fun w5 H=>?_
  simp only[ai,aq]at H;refine yK _ _ _ ?_;unfold UX;exact H.ld 1 rfl rfl ⟨.inl ⟨BA,rfl⟩,H.ext⟩
 ·rintro v w4 ⟨BA,⟨e,he,rfl⟩,e4⟩;have H:=H.AB e4;unfold Wh;refine yL _ _ _ _ ?_;unfold UY;refine H.nw (cs:=[.int .i64 0]) fun w5 H=>?_
  simp only[ar,ag,add_lit,aj]at H⊢;refine H.st 2 rfl (by simp) fun w6 H=>?_
  simp only[ai,aq]at H;refine H.ld 2 rfl rfl (H.st 1 rfl (by simp) fun w7 H=>?_);simp only[ai,aq]at H;exact H.ld 1 rfl rfl ⟨.inr ⟨BA,he⟩,H.ext⟩
end
end Vl
end Go.Proofs.YtdmmgclkphaaaaaGreatDoor

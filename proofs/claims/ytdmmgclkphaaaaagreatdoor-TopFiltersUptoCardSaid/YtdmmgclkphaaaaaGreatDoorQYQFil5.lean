/- Joined texts of the proof; conditions stand in each theorem. -/
import Derived.Test.YtdmmgclkphaaaaaGreatDoorQYQFil1
import Derived.Test.YtdmmgclkphaaaaaGreatDoorQYQFil4
import Derived.Test.YtdmmgclkphaaaaaGreatDoorQYQFil2
import Derived.ChangeKeysEq
import Derived.Laws.CopyRow
import Derived.Lib.AppendZerosOnto
import Derived.Lib.Overlaps
import Derived.Shelf.Strings.Builder1
import Derived.WalkKit
import Derived.Test.YtdmmgclkphaaaaaGreatDoorQYQFil3
set_option linter.unusedVariables false
set_option linter.unusedSimpArgs false
open Go.IntKind (wrap)
open Go.Proofs.Tryz (prog)
namespace Go.Proofs.YtdmmgclkphaaaaaGreatDoor
set_option maxRecDepth 8000
set_option maxHeartbeats 4000000
namespace Ac
open Sh lK
inductive Rk:By->By->Prop
 |fin:Rk [128] []
 |lit {d t r:By}:1<=d.length->d.length<=128->Rk t r->Rk (UInt8.ofNat (d.length-1)::(d++t)) (d++r)
 |rep {n:Nat} {c:UInt8} {t r:By}:2<=n->n<=128->Rk t r->Rk (UInt8.ofNat (257-n)::c::t) (List.replicate n c++r)
theorem ofn {n:Nat}(h:n<256):(UInt8.ofNat n).toNat=n:=by rw[cG];omega
theorem eqE (s:ByteArray):(!(s.toList==(⟨#[]⟩:ey).toList))=decide (bl s≠[]):=by
 rw[Vl.eqL];by_cases h:bl s=[]
 ·have h':s.data.toList=[]:=h;rw[aD (by rw[h']),aP (by simp[h])]
  rfl
 ·have h':¬s.data.toList=(⟨#[]⟩:ey).data.toList:=h;rw[aP h',aD h]
  rfl
theorem E0 (s:ByteArray)(a:Nat):bl (s.extract a s.size)=(bl s).drop a:=Bp s a
theorem Ok (s:ByteArray)(a:Nat):bl (s.extract 0 a)=(bl s).take a:=by
 show (s.extract 0 a).data.toList=_;rw[Ao,cV,bM]
 rfl
theorem Bx.view{w:World}{s:AA}{l:By}(h:Bx w s l):Bh w s 1 (Bw l):=⟨by rw[An,h.len,aH],fun j v hj=>by
 simp only[Bw,aE,bg]at hj;obtain ⟨x,hx,rfl⟩:=hj;obtain ⟨g,hg,hc⟩:=h.get hx;exact ⟨_,hg,by rw[add_lit,aj];exact hc⟩⟩
theorem Bu.start(w:World):Bu w (w.alloc (.cells #[.pointer none,AA.v ⟨none,0,0⟩] 110)) w.heap.size none ⟨none,0,0⟩ []:=
 ⟨av _,.inl rfl,AO.new _ _ _,rfl,.inl ⟨rfl,rfl⟩⟩
theorem mQ (c:UInt8):∀n,Lib.repeatL [c] n=List.replicate n c
 |0=>rfl
 |n+1=>by
  show [c]++Lib.repeatL [c] n=_;rw[mQ c n,cQ]
  rfl
section
variable {w0 w w' w1:World} {s t:ByteArray} {b:Nat} {l m out:By} {most:Nat}
attribute [local irreducible] Ld Sh.St Nw Nn Lt AP
theorem Ol (hs:s.size<=1099511627776)(w:World):C85 s w fun r w1=>(∃n:Nat,r=n/\n<=s.size/\n<=128/\(bl s).take n=List.replicate n ((bl s).getD 0 0))/\Ext (fun _=>False) w w1:=by
 refine T85 _ _ _ ?_;unfold S85;have hz:=AQ s;refine ⟨fun n st v=>∃i:Nat,st=(i:Int)/\n=s.size-i/\i<=s.size/\i<=128/\(bl s).take i=List.replicate i ((bl s).getD 0 0)/\Ext (fun _=>False) w v,s.size,⟨0,rfl,rfl,by omega,by omega,rfl,Ext.refl _ _⟩,?_⟩;rintro n st v ⟨i,rfl,rfl,h1,h2,h3,hE⟩;unfold AAC;refine Br.dec (fun q=>?_) fun q=>⟨⟨i,rfl,h1,h2,h3⟩,hE.drew⟩
 have q1:i<s.size/\i<128:=by
  split at q
  ·omega
  ·omega
 have hc:=byte_at (t:=bl s) (i:=i) (by omega);have vg:=byte_at (t:=bl s) (i:=0) (by omega);have e0:Cp s 0=(((bl s).getD 0 0).toNat:Int):=DW (i:=0) vg;refine ⟨by omega,by omega,by omega,by omega,?_⟩;rw[DW hc,e0];refine Br.eq (fun e=>?_) fun e=>⟨⟨i,rfl,h1,h2,h3⟩,hE.drew⟩
 have e:(bl s).getD i 0=(bl s).getD 0 0:=UInt8.toNat_inj.1 (by omega);refine ⟨s.size-(i+1),by omega,i+1,by rw[AE (by omega)];rfl,rfl,by omega,by omega,?_,hE.drew⟩;rw[PK hc,h3,e,List.replicate_succ']
theorem mR {v:World}{p:Option Addr}{sl:AA}{pre:By}{n:Nat}{I:ByteArray->World->Prop}(hB:Bu w v b p sl pre)(h1:1<=n)(h2:n<=s.size)(h3:n<=128)(hp:pre.length<=1000000)
  (k:∀v' Bi,Bu w v' b (some ⟨b,0,none⟩) Bi (pre++(UInt8.ofNat (n-1)::(bl s).take n))->Wr w v v'->I (s.extract n s.size) v'):
  lL (some ⟨b,0,none⟩) (wrap .u8 (wrap .i64 ((n:Int)-1))) v fun _ v1=>
   0<=(n:Int)/\(n:Int)<=((s.size:Nat):Int)/\C86 (some ⟨b,0,none⟩) (s.extract 0 ((n:Int).toNat)) v1 fun _ _ v2=>
    0<=(n:Int)/\(n:Int)<=((s.size:Nat):Int)/\I (s.extract ((n:Int).toNat) s.size) v2:=by
 have e:wrap .u8 (wrap .i64 ((n:Int)-1))=((UInt8.ofNat (n-1)).toNat:Int):=by
  rw[AE (by omega),Hu (by omega),ofn (by omega)];omega
 rw[e];refine (TT (c:=UInt8.ofNat (n-1)) hB (by omega)).mono ?_;rintro r v1 ⟨sl1,hB1,hW1⟩;refine ⟨by omega,by omega,?_⟩;rw[aa];have hz:(s.extract 0 n).size=n:=by rw[AQ,Ok,au,<-AQ];omega
 refine (AHW hB1 (by rw[ae,hz];simp;omega)).mono ?_;rintro r r2 v2 ⟨sl2,jK,hW2⟩;refine ⟨by omega,by omega,k v2 sl2 ?_ (hW1.tr hW2)⟩;have:(s.extract 0 n).data.toList=(bl s).take n:=Ok s n;rw[this,ax]at jK;exact jK
theorem AHX (hs:s.size<=400000)(w:World):C53 s w fun r w1=>Rk (bl r) (bl s)/\r.size<=2*s.size+1/\Ext (fun _=>False) w w1:=by
 refine T53 _ _ _ ?_;unfold S53;refine Nw.of ?_;have hB0:=Bu.start w;have e0:Ext (fun _=>False) w (w.alloc (.cells #[.pointer none,AA.v ⟨none,0,0⟩] 110)):=(Ext.refl _ _).alloc _;generalize w.alloc (.cells #[.pointer none,AA.v ⟨none,0,0⟩] 110)=v0 at hB0 e0⊢;refine ⟨fun n st v=>n=st.size/\∃p sl pre,Bu w v w.heap.size p sl pre/\Wr w v0 v/\st.size<=s.size/\pre.length<=2*(s.size-st.size)/\∀t,Rk t (bl st)->Rk (pre++t) (bl s),s.size,⟨rfl,none,_,[],hB0,Wr.refl _ _,av _,by simp,fun t h=>h⟩,?_⟩;rintro n st v ⟨rfl,p,sl,pre,hB,hW,h1,h2,h3⟩;unfold AAF;rw[eqE];have hz:=AQ st;refine Br.dec (fun q=>?_) fun q=>?_
 ·have A2:1<=st.size:=by
   rw[hz];cases hb:bl st with
   |nil=>exact absurd hb q
   |cons _ _=>simp
  refine (Ol (by omega) v).mono ?_;rintro r v1 ⟨⟨n,rfl,n1,n2,n3⟩,e1⟩;refine Br.dec (fun q3=>?_) fun q3=>?_
  ·rw[show (if (128:Int)<(n:Int)then (128:Int)else (n:Int))=(n:Int) by rw[ah (by omega)]];have e:wrap .u8 (wrap .i64 (257-(n:Int)))=((UInt8.ofNat (257-n)).toNat:Int):=by
    rw[AE (by omega),Hu (by omega),ofn (by omega)];omega
   rw[e];refine (TT (c:=UInt8.ofNat (257-n)) (hB.AB e1) (by omega)).mono ?_;rintro r v2 ⟨sl2,jK,hW2⟩;refine ⟨by omega,by omega,?_⟩;have vg:=byte_at (t:=bl st) (i:=0) (by omega);rw[show Cp st 0=(((bl st).getD 0 0).toNat:Int)from DW (i:=0) vg];refine (TT jK (by simp;omega)).mono ?_;rintro r v3 ⟨sl3,hB3,hW3⟩;refine ⟨by omega,by omega,?_⟩;rw[aa];have fG:(st.extract n st.size).size=st.size-n:=by rw[AQ,E0,aJ,<-hz]
   refine ⟨st.size-n,by omega,fG.symm,_,sl3,_,hB3,((hW.tr (Wr.of e1)).tr hW2).tr hW3,by omega,by rw[fG];simp;omega,fun t ht=>?_⟩;rw[E0]at ht;have hr:=Rk.rep (n:=n) (c:=(bl st).getD 0 0) (by omega) n2 ht;rw[<-n3,aW]at hr;have:=h3 _ hr;simpa using this
  ·refine ⟨fun n' i v'=>∃j:Nat,i=(j:Int)/\n'=st.size-j/\1<=j/\j<=st.size/\j<=128/\Bu w v' w.heap.size p sl pre/\Wr w v0 v',st.size-1,⟨1,rfl,rfl,by omega,A2,by omega,hB.AB e1,hW.tr (Wr.of e1)⟩,?_⟩;rintro n' i v' ⟨j,rfl,rfl,j1,j2,j3,YS,hW'⟩;unfold AAG;have last:∀v5,Bu w v5 w.heap.size p sl pre->Wr w v0 v5->lL (some ⟨w.heap.size,0,none⟩) (wrap .u8 (wrap .i64 ((j:Int)-1))) v5 fun _ v1=>
     0<=(j:Int)/\(j:Int)<=((st.size:Nat):Int)/\C86 (some ⟨w.heap.size,0,none⟩) (st.extract 0 ((j:Int).toNat)) v1 fun _ _ v2=>
      0<=(j:Int)/\(j:Int)<=((st.size:Nat):Int)/\∃m,m<st.size/\(m=(st.extract ((j:Int).toNat) st.size).size/\∃p sl pre,Bu w v2 w.heap.size p sl pre/\Wr w v0 v2/\(st.extract ((j:Int).toNat) st.size).size<=s.size/\pre.length<=2*(s.size-(st.extract ((j:Int).toNat) st.size).size)/\∀t,Rk t (bl (st.extract ((j:Int).toNat) st.size))->Rk (pre++t) (bl s)):=fun v5 hB5 hW5=>by
    have fG:(st.extract j st.size).size=st.size-j:=by rw[AQ,E0,aJ,<-hz]
    refine mR (I:=fun EV v2=>∃m,m<st.size/\(m=EV.size/\∃p sl pre,Bu w v2 w.heap.size p sl pre/\Wr w v0 v2/\EV.size<=s.size/\pre.length<=2*(s.size-EV.size)/\∀t,Rk t (bl EV)->Rk (pre++t) (bl s))) hB5 j1 j2 j3 (by omega) fun v2 sl2 jK hW2=>?_
    have Am:((bl st).take j).length=j:=by rw[au];omega
    refine ⟨st.size-j,by omega,fG.symm,_,sl2,_,jK,hW5.tr hW2,by omega,by rw[ae,aA,Am,fG];omega,fun t ht=>?_⟩;rw[E0]at ht;have hl:=Rk.lit (d:=(bl st).take j) (by omega) (by omega) ht;rw[aW,Am]at hl;have:=h3 _ hl;simpa using this
   refine Lt.of (Br.dec (fun q5=>?_) fun q5=>last v' YS hW');have q6:j<st.size/\j<128:=by
    split at q5
    ·omega
    ·omega
   refine ⟨by omega,by omega,?_⟩;rw[aa];have fG:(st.extract j st.size).size=st.size-j:=by rw[AQ,E0,aJ,<-hz]
   refine (Ol (by omega) v').mono ?_;rintro r v6 ⟨⟨n,rfl,_⟩,e6⟩;exact Br.dec (fun _=>⟨st.size-(j+1),by omega,j+1,by rw[AE (by omega)];rfl,rfl,by omega,by omega,by omega,YS.AB e6,hW'.tr (Wr.of e6)⟩) fun _=>by
    have:=last v6 (YS.AB e6) (hW'.tr (Wr.of e6));rw[aa]at this;exact this
 ·have he:bl st=[]:=Classical.not_not.1 q;refine (TT (c:=128) hB (by omega)).mono ?_;rintro r v1 ⟨sl1,hB1,hW1⟩;have z0:=e0.size;have z1:=(hW.tr hW1).ext.size;refine (ACD hB1 (by omega)).mono ?_;rintro r v2 ⟨rfl,hb⟩;refine ⟨?_,?_,Ext.IG e0 ((hW.tr hW1).ext.tr (MM hb)) fun j hj=>hj⟩
  ·show Rk (bl (ba _)) _;rw[CS];exact h3 _ (by rw[he];exact .fin)
  ·rw[AQ];show (bl (ba _)).length<=_;rw[CS,ae];simp only[aA,bq];omega
theorem mS {v0:World}{T:By}(hb:Rk (bl s) l)(hl:l.length<=most)(hM:most<=1048576)(hs:s.size<=1000000)(h:Sk w0 v0 b [] most)(PR:Value->World->Prop):
  C87 s (some ⟨b,0,none⟩) v0 (fun w3=>Sk w0 w3 b l most/\Wk w0 v0 w3) PR:=by
 refine T87 _ _ _ _ _ ?_;unfold S87;refine ⟨fun n st v=>n=st.size/\∃pre rest,Rk (bl st) rest/\pre++rest=l/\Sk w0 v b pre most/\Wk w0 v0 v/\st.size<=1000000,s.size,⟨rfl,[],l,hb,rfl,h,Wk.refl _ _,hs⟩,?_⟩;rintro n st v ⟨rfl,pre,rest,hR,YC,hS,hW,hz⟩;unfold AAH;have hbz:=AQ st;have hlen:pre.length+rest.length=l.length:=by rw[<-YC,ae]
 rw[eqE];have e1:bl (st.extract ((1:Int).toNat) st.size)=(bl st).drop 1:=E0 st 1;have z1:(st.extract ((1:Int).toNat) st.size).size=st.size-1:=by rw[AQ,e1,aJ,<-hbz]
 generalize Om:st.extract ((1:Int).toNat) st.size=x1 at e1 z1;generalize hbs:bl st=B at hR hbz e1;cases hR with
 |fin=>
  refine (BK 4 v PR (aD (by simp))).mono ?_ (fun _ _ h=>h);rintro w1 rfl;have A1:st.size=1:=by rw[hbz];rfl
  rw[show Cp st 0=((128:UInt8).toNat:Int)from DW (i:=0) (by rw[hbs];rfl)];refine ⟨by omega,by omega,by omega,by omega,Br.t (by decide) ⟨?_,hW⟩⟩;rw[aM]at YC;rw[<-YC];exact hS
 |@lit d t r d1 d2 hR=>
  refine (BK 4 v PR (aD (by simp))).mono ?_ (fun _ _ h=>h);rintro w1 rfl;rw[aA,ae]at hbz;rw[dW,cV]at e1;rw[show Cp st 0=((UInt8.ofNat (d.length-1)).toNat:Int)from DW (i:=0) (by rw[hbs];rfl),ofn (by omega),AE (n:=((d.length-1:Nat):Int)) (by omega)];rw[AE (n:=((d.length-1:Nat):Int)+1) (by omega),show ((d.length-1:Nat):Int)+1=(d.length:Int) by omega,aa];rw[ae]at hlen;refine ⟨by omega,by omega,by omega,by omega,Br.f (by simpa using (by omega:((d.length-1:Nat):Int)≠128)) (Br.t (aD (by omega)) (Lt.of ?_))⟩;refine (BK 4 _ PR (aD (by omega))).mono ?_ (fun _ _ h=>h);rintro w1 rfl;refine ⟨by omega,by omega,Lt.of ?_⟩;obtain ⟨sl,w2,hr,hRR,hE,hO⟩:=FO w1 (x1.extract 0 d.length);have ed:(x1.extract 0 d.length).data.toList=d:=by
   show bl _=d;rw[Ok,e1,bK rfl]
  rw[ed]at hRR;refine ⟨sl,w2,hr,?_⟩;refine (PM (hS.AB hE) (Bx.view hRR) (by omega) hM PR).mono ?_ (fun _ _ h=>h);rintro w3 ⟨hS3,hW3⟩;refine ⟨by omega,by omega,Lt.of ?_⟩;have et:bl (x1.extract d.length x1.size)=t:=by rw[E0,e1,dy rfl]
  have zt:(x1.extract d.length x1.size).size=t.length:=by rw[AQ,et]
  refine ⟨t.length,by omega,zt.symm,pre++d,r,by rw[et];exact hR,by rw[ax];exact YC,hS3,(hW.tr (Wk.of hE)).tr hW3,by omega⟩
 |@rep n c t r n1 n2 hR=>
  refine (BK 4 v PR (aD (by simp))).mono ?_ (fun _ _ h=>h);rintro w1 rfl;rw[aA,aA]at hbz;rw[dW,cV]at e1;rw[show Cp st 0=((UInt8.ofNat (257-n)).toNat:Int)from DW (i:=0) (by rw[hbs];rfl),ofn (by omega),AE (n:=((257-n:Nat):Int)) (by omega),AE (n:=257-((257-n:Nat):Int)) (by omega),show 257-((257-n:Nat):Int)=(n:Int) by omega,eqE];rw[ae,aI]at hlen;refine ⟨by omega,by omega,by omega,by omega,Br.f (by simpa using (by omega:((257-n:Nat):Int)≠128)) (Br.f (aP (by omega)) ?_)⟩;refine (BK 4 _ PR (aD (by rw[e1];simp))).mono ?_ (fun _ _ h=>h);rintro w1 rfl;refine ⟨by omega,by omega,?_⟩;have ec:(x1.extract 0 ((1:Int).toNat)).data.toList=[c]:=by
   show bl _=[c];rw[show ((1:Int).toNat)=1 from rfl,Ok,e1]
   rfl
  have zc:(x1.extract 0 ((1:Int).toNat)).size=1:=by rw[Ah,ec];rfl
  refine P1.mono (R:=fun r v2=>r=ba (List.replicate n c)/\Ext (fun _=>False) w1 v2) (PR:=fun _ _=>False) ?_ ?_ (fun _ _ h=>h.elim)
  ·refine (Tryz.strings_Repeat _ n w1 (by omega) (by rw[zc];omega)).mono fun e w' hh=> .inl ⟨_,hh.1,?_,?_⟩
   ·rw[ec,mQ]
    rfl
   ·exact ⟨hh.2.os,hh.2.tape,hh.2.output,hh.2.size,fun k hk _=>hh.2.block k hk⟩
  rintro r' v2 ⟨rfl,hE2⟩;obtain ⟨sl,w2,hr,hRR,hE,hO⟩:=FO v2 (ba (List.replicate n c));rw[show (ba (List.replicate n c)).data.toList=List.replicate n c from CS _]at hRR;refine ⟨sl,w2,hr,?_⟩;have hEE:=hE2.tr hE;refine (PM (hS.AB hEE) (Bx.view hRR) (by rw[aI];omega) hM PR).mono ?_ (fun _ _ h=>h);rintro w3 ⟨hS3,hW3⟩;refine ⟨by omega,by omega,Lt.of ?_⟩;have et:bl (x1.extract ((1:Int).toNat) x1.size)=t:=by rw[show ((1:Int).toNat)=1 from rfl,E0,e1];rfl
  have zt:(x1.extract ((1:Int).toNat) x1.size).size=t.length:=by rw[AQ,et]
  refine ⟨t.length,by omega,zt.symm,pre++List.replicate n c,r,by rw[et];exact hR,by rw[ax];exact YC,hS3,(hW.tr (Wk.of hEE)).tr hW3,by omega⟩
theorem vh (hb:Rk (bl s) l)(hl:l.length<=most)(hM:most<=1048576)(hs:s.size<=1000000)(w:World):C54 s (most:Int) w fun r e w1=>r=ba l/\e=0/\Ext (fun _=>False) w w1:=by
 refine T54 _ _ _ _ ?_;unfold S54;refine vj _ _ _ _ ?_;show Unp (most:Int) w _ (C87 s) (fun lJ=>PT w lJ _);exact mL hM (fun p v Q Q' PR h k=>k.mono h (fun _ _ h=>h)) (fun w1 w2 b PR _ _ ux=>(mS (T:=[]) hb hl hM hs ux PR).mono (fun _ h=>⟨h.1,h.2.ext⟩) fun _ _ h=>h) fun w' he=>⟨rfl,rfl,he⟩
end
end Ac
namespace Ac
open Sh lK
def HR:List Nat:=[52200625,614125,7225,85,1]
def PW (w:World):Prop:=∀i:Nat,i<5->w.cell? ⟨0,i,none⟩=some (.int .u64 ((HR.getD i 0:Nat):Int))
theorem PW.AB{F:Nat->Prop}{w w':World}(h:PW w)(he:Ext F w w')(hF:¬F 0):PW w':=fun i hi=>by
 rw[he.cell (BJ (h i hi)) hF];exact h i hi
def HT (a b c d:UInt8):Nat:=a.toNat*16777216+b.toNat*65536+c.toNat*256+d.toNat
def mT (v:Nat):By:=[UInt8.ofNat (v/16777216),UInt8.ofNat (v/65536),UInt8.ofNat (v/256),UInt8.ofNat v]
def Cu (g:By):Nat:=HT (g.getD 0 0) (g.getD 1 0) (g.getD 2 0) (g.getD 3 0)
def jL (v:Nat):By:=HR.map fun p=>UInt8.ofNat (33+v/p%85)
inductive F5:By->By->Prop
 |fin:F5 [126,62] []
 |z {t r:By}:F5 t r->F5 (122::t) (0::0::0::0::r)
 |four {a b c d:UInt8} {t r:By}:F5 t r->F5 (jL (HT a b c d)++t) ([a,b,c,d]++r)
 |part {g:By}:1<=g.length->g.length<=3->F5 ((jL (Cu g)).take (g.length+1)++[126,62]) g
theorem On (a b c d:UInt8):HT a b c d<4294967296:=by
 have:=Ay a;have:=Ay b;have:=Ay c;have:=Ay d;unfold HT;omega
theorem fH (g:By):Cu g<4294967296:=On _ _ _ _
def VS (d0 d1 d2 d3 d4:Nat):Nat:=d0*52200625+d1*614125+d2*7225+d3*85+d4
theorem mU (v:Nat)(h:v<4294967296):VS (v/52200625%85) (v/614125%85) (v/7225%85) (v/85%85) (v/1%85)=v:=by
 have e2:v/7225=v/85/85:=by rw[aV]
 have e1:v/614125=v/85/85/85:=by rw[aV,aV]
 have e0:v/52200625=v/85/85/85/85:=by rw[aV,aV,aV]
 rw[e0,e1,e2,Nat.div_one];unfold VS;omega
theorem vk (a b c d:UInt8):mT (HT a b c d)=[a,b,c,d]:=by
 have h1:=Ay a;have h2:=Ay b;have h3:=Ay c;have h4:=Ay d;have hh:∀(x:UInt8) (n:Nat),n%256=x.toNat->UInt8.ofNat n=x:=fun x n e=>UInt8.toNat_inj.1 (by rw[cG];exact e)
 unfold mT HT;rw[hh a _ (by omega),hh b _ (by omega),hh c _ (by omega),hh d _ (by omega)]
theorem jM {g:By}(h1:1<=g.length)(h2:g.length<=3){x:Nat}(hx:x<85^(4-g.length)):Cu g+x<4294967296/\(mT (Cu g+x)).take g.length=g:=by
 have hh:∀(c:UInt8) (n:Nat),n%256=c.toNat->UInt8.ofNat n=c:=fun c n e=>UInt8.toNat_inj.1 (by rw[cG];exact e)
 unfold Cu HT mT
 match g,h1,h2 with
 |[a],_,_=>
  have k1:=Ay a;have hx:x<614125:=hx;simp only[List.getD_cons_zero,List.getD_cons_succ,List.getD_nil,aA,bq];have z:(0:UInt8).toNat=0:=rfl;rw[z];refine ⟨by omega,?_⟩;rw[hh a _ (by omega)]
  rfl
 |[a,b],_,_=>
  have k1:=Ay a;have k2:=Ay b;have hx:x<7225:=hx;simp only[List.getD_cons_zero,List.getD_cons_succ,List.getD_nil,aA,bq];have z:(0:UInt8).toNat=0:=rfl;rw[z];refine ⟨by omega,?_⟩;rw[hh a _ (by omega),hh b _ (by omega)]
  rfl
 |[a,b,c],_,_=>
  have k1:=Ay a;have k2:=Ay b;have k3:=Ay c;have hx:x<85:=hx;simp only[List.getD_cons_zero,List.getD_cons_succ,List.getD_nil,aA,bq];have z:(0:UInt8).toNat=0:=rfl;rw[z];refine ⟨by omega,?_⟩;rw[hh a _ (by omega),hh b _ (by omega),hh c _ (by omega)]
  rfl
theorem mV (v k:Nat)(h:v<4294967296)(h1:2<=k)(h2:k<=4):∃x,x<85^(5-k)/\
  VS (v/52200625%85) (v/614125%85) (if 2<k then v/7225%85 else 84) (if 3<k then v/85%85 else 84) 84=v/85^(5-k)*85^(5-k)+x:=by
 have e2:v/7225=v/85/85:=by rw[aV]
 have e1:v/614125=v/85/85/85:=by rw[aV,aV]
 have e0:v/52200625=v/85/85/85/85:=by rw[aV,aV,aV]
 rw[e0,e1,e2];unfold VS;have hk:k=2\/k=3\/k=4:=by omega
 rcases hk with rfl|rfl|rfl
 ·refine ⟨614124,by decide,?_⟩;rw[ah (by decide),ah (by decide),show 85^(5-2)=614125 from rfl,e1];omega
 ·refine ⟨7224,by decide,?_⟩;rw[ak (by decide),ah (by decide),show 85^(5-3)=7225 from rfl,e2];omega
 ·refine ⟨84,by decide,?_⟩;rw[ak (by decide),ak (by decide),show 85^(5-4)=85 from rfl];omega
theorem mW {g:By}(h1:1<=g.length)(h2:g.length<=3):∀V,V=VS (Cu g/52200625%85) (Cu g/614125%85) (if 2<g.length+1 then Cu g/7225%85 else 84) (if 3<g.length+1 then Cu g/85%85 else 84) 84->
  V<4294967296/\(mT V).take g.length=g:=by
 rintro V rfl;obtain ⟨x,hx,e⟩:=mV (Cu g) (g.length+1) (fH g) (by omega) (by omega);rw[e];rw[show 5-(g.length+1)=4-g.length by omega]at hx⊢;have hd:=Nat.div_add_mod (Cu g) (85^(4-g.length));have hm:=cX (Cu g) (cY (n:=4-g.length) (by decide:0<85));rw[cW]at hd;generalize hq:Cu g/85^(4-g.length)*85^(4-g.length)=q at hd⊢

 obtain ⟨y,mX,hy2⟩:∃y,y<85^(4-g.length)/\q+x=Cu g+y:=by
  have ex:x=85^(4-g.length)-1:=by
   have hk:g.length=1\/g.length=2\/g.length=3:=by omega
   have e2:Cu g/7225=Cu g/85/85:=by rw[aV]
   have e1:Cu g/614125=Cu g/85/85/85:=by rw[aV,aV]
   have e0:Cu g/52200625=Cu g/85/85/85/85:=by rw[aV,aV,aV]
   have hb:=fH g;rw[show 5-(g.length+1)=4-g.length by omega,hq,e0,e1,e2]at e;unfold VS at e;rcases hk with hk|hk|hk
   ·rw[hk]at e hx hq⊢;rw[ah (by decide),ah (by decide)]at e;rw[show 85^(4-1)=614125 from rfl]at hx hq⊢;rw[e1]at hq;omega
   ·rw[hk]at e hx hq⊢;rw[ak (by decide),ah (by decide)]at e;rw[show 85^(4-2)=7225 from rfl]at hx hq⊢;rw[e2]at hq;omega
   ·rw[hk]at e hx hq⊢;rw[ak (by decide),ak (by decide)]at e;rw[show 85^(4-3)=85 from rfl]at hx hq⊢;omega
  exact ⟨x-(Cu g-q),by omega,by omega⟩
 rw[hy2];exact jM h1 h2 mX
end Ac
namespace Ac
open Sh lK
def Rl (D:By)(i:Nat):Nat:=((List.range i).map fun j=>(D.getD j 0).toNat*HR.getD j 0).sum
theorem D7 (D:By)(i:Nat):Rl D (i+1)=Rl D i+(D.getD i 0).toNat*HR.getD i 0:=by
 unfold Rl;rw[ej,bh,List.sum_append];simp
theorem fI (D:By):∀i,i<=5->Rl D i<=i*13311159375
 |0,_=>by unfold Rl;simp
 |i+1,h=>by
  have:=fI D i (by omega);rw[D7];have h1:=Ay (D.getD i 0);have h2:HR.getD i 0<=52200625:=by
   have:∀j:Fin 5,HR.getD j.val 0<=52200625:=by decide
   exact this ⟨i,by omega⟩
  have h3:(D.getD i 0).toNat*HR.getD i 0<=255*52200625:=Nat.mul_le_mul (by omega) h2;omega
theorem AAI (D:By):Rl D 5=VS (D.getD 0 0).toNat (D.getD 1 0).toNat (D.getD 2 0).toNat (D.getD 3 0).toNat (D.getD 4 0).toNat:=by
 rw[D7,D7,D7,D7,D7];show 0+_*52200625+_*614125+_*7225+_*85+_*1=_;unfold VS;omega
theorem APA {E:By}(h:E.length=5):∃x0 x1 x2 x3 x4,Bw E=[x0,x1,x2,x3,x4]:=by
 match E,h with
 |[x0,x1,x2,x3,x4],_=>exact ⟨_,_,_,_,_,rfl⟩
theorem DY {w:World}{g o:Nat}{L:List Value}{t:TypeId}{v:Value}{K:World->Prop}(h:AO w g L.toArray t)(ho:o<L.length)
  (k:∀w',AO w' g (L.set o v).toArray t->Ext (·=g) w w'->K w'):Sh.St w ⟨g,o,none⟩ v K:=by
 unfold Sh.St;refine ⟨h.can (by simpa using ho),k _ ?_ ((Ext.refl (·=g) w).set (.inl rfl) _)⟩;have:=h.set o v;rw[dE]at this;exact this
section
variable {w0 w w' w1:World} {s t:ByteArray} {b g:Nat} {l m out pre D:By} {most k:Nat}
attribute [local irreducible] Ld Sh.St Nw Nn Lt AP
theorem mY (hS:Sk w0 w b pre most)(hg:AO w g (Bw D++[Value.int .i64 (k:Int)]).toArray 125)(hD:D.length=5)(h0:w0.heap.size<=g)(hP:PW w)(hp:0<w0.heap.size)
  (hk:2<=k) (uy:k<=5) {V:Nat} (hV:V=Rl (D.take k++List.replicate (5-k) 84) 5) (hV2:V<4294967296) (hm:pre.length+(k-1)<=most) (hM:most<=1048576) (PR:Value->World->Prop):
  vm (some ⟨g,0,none⟩) (some ⟨b,0,none⟩) w (fun w'=>Sk w0 w' b (pre++(mT V).take (k-1)) most/\AO w' g (Bw [0,0,0,0,0]++[Value.int .i64 0]).toArray 125/\Ext (fun j=>w0.heap.size<=j) w w') PR:=by
 refine T83 _ _ _ _ _ ?_;unfold S83;refine Nn.of ?_;rw[add_lit];have c5:∀E:By,E.length=5->(Bw E++[Value.int .i64 (k:Int)]).toArray[0+5]?=some (.int .i64 (k:Int)):=fun E hE=>by
  rw[bV,aF (by rw[An];omega),An,hE]
  rfl
 refine Ld.of hg (c5 D hD) ?_;refine ⟨fun n st v=>∃(i:Nat) (E:By),st=(i:Int)/\n=5-i/\k<=i/\i<=5/\E.length=5/\E.take i=D.take k++List.replicate (i-k) 84/\AO v g (Bw E++[Value.int .i64 (k:Int)]).toArray 125/\Ext (·=g) w v,5-k,⟨k,D,rfl,rfl,av _,uy,hD,by simp,hg,Ext.refl _ _⟩,?_⟩;rintro n st v ⟨i,E,rfl,rfl,i1,i2,hE5,hE,hgv,hX⟩;unfold AAJ;refine Br.dec (fun q=>?_) fun q=>?_
 ·refine Nn.of ⟨by omega,by omega,?_⟩;rw[aa,add_lit];refine DY (v:= .int .u8 84) hgv (by rw[ae,An];omega) fun v' hb he=>⟨5-(i+1),by omega,i+1,E.set i 84,by rw[AE (by omega)];rfl,rfl,by omega,by omega,by rw[br];exact hE5,?_,?_,hX.tr he⟩
  ·have h1:(E.set i 84)[i]?=some 84:=by rw[da (by omega)]
   rw[PK h1,List.take_set_of_le (av _),hE,ax,<-List.replicate_succ',show i-k+1=i+1-k by omega]
  ·have e:(Bw E++[Value.int .i64 (k:Int)]).set (0+i*1) (.int .u8 84)=Bw (E.set i 84)++[Value.int .i64 (k:Int)]:=by
    rw[List.set_append_left _ _ (by rw[An];omega)];unfold Bw;rw[dM,show 0+i*1=i by omega]
    rfl
   rw[e]at hb;exact hb
 have hi:i=5:=by omega
 subst hi;rw[aX (by omega)]at hE;rw[<-hE]at hV;have hgn:g≠0:=by omega
 have hPv:PW v:=hP.AB hX fun e=>hgn e.symm
 have ld:∀(j:Nat) (hj:j<5) (K:Int->Prop),K ((HR.getD j 0:Nat):Int)->Ld v ⟨0,j,none⟩ (Value.int .u64) K:=fun j hj K hK=>Ld.mk (hPv j hj) hK
 simp only[add_lit,aj];refine ld 0 (by decide) _ (ld 1 (by decide) _ (ld 2 (by decide) _ (ld 3 (by decide) _ (ld 4 (by decide) _ ?_))));have hSv:Sk w0 v b pre most:=hS.AI hX fun j cs t hj hb=>by
  have hj:j=g:=hj;subst hj;rw[IX hb hg];exact ⟨by decide,by decide⟩
 refine ⟨fun n st v'=>v'=v/\∃i:Nat,st=(((Rl E i:Nat):Int),(i:Int))/\n=5-i/\i<=5,5,⟨rfl,0,rfl,rfl,by omega⟩,?_⟩;rintro n st v' ⟨rfl,i,rfl,rfl,hi⟩;unfold AAK;have hle:=fI E i hi;refine Br.dec (fun q=>?_) fun q=>?_
 ·have q:(i:Int)<5:=q;dsimp only;rw[aa];refine ⟨by omega,by omega,((HR.getD i 0:Nat):Int),?_,Nn.of ⟨by omega,by omega,?_⟩⟩
  ·have:∀j:Fin 5,(#[Value.int .u64 ((HR.getD 0 0:Nat):Int),.int .u64 ((HR.getD 1 0:Nat):Int),.int .u64 ((HR.getD 2 0:Nat):Int),.int .u64 ((HR.getD 3 0:Nat):Int),.int .u64 ((HR.getD 4 0:Nat):Int)])[j.val*1]?=some (.int .u64 ((HR.getD j.val 0:Nat):Int)):=fun j=>by
    match j with
    |0=>rfl
    |1=>rfl
    |2=>rfl
    |3=>rfl
    |4=>rfl
   exact this ⟨i,by omega⟩
  rw[add_lit];have hEi:=byte_at (t:=E) (i:=i) (by omega);refine Ld.of (x:=((E.getD i 0).toNat:Int)) hgv ?_ ?_
  ·rw[bV,aG (by rw[An];omega),show 0+i*1=i by omega];exact Oo hEi
  ·have u64:∀z:Int,0<=z->z<18446744073709551616->wrap .u64 z=z:=fun z h1 h2=>IntWalk.u64_in z ⟨h1,by omega⟩
   have h1:=Ay (E.getD i 0);have h2:HR.getD i 0<=52200625:=by
    have:∀j:Fin 5,HR.getD j.val 0<=52200625:=by decide
    exact this ⟨i,by omega⟩
   have h3:(E.getD i 0).toNat*HR.getD i 0<=255*52200625:=Nat.mul_le_mul (by omega) h2;have h4:((E.getD i 0).toNat:Int)*((HR.getD i 0:Nat):Int)=(((E.getD i 0).toNat*HR.getD i 0:Nat):Int):=by rw[Int.natCast_mul]
   rw[u64 ((E.getD i 0).toNat:Int) (by omega) (by omega),h4,u64 (((E.getD i 0).toNat*HR.getD i 0:Nat):Int) (by omega) (by omega),u64 _ (by omega) (by omega)];refine ⟨5-(i+1),by omega,rfl,i+1,?_,rfl,by omega⟩;rw[AE (by omega),D7,<-dJ]
   rfl
 have hi5:i=5:=by
  have q:¬(i:Int)<5:=q;omega
 subst hi5;dsimp only;rw[<-hV];refine (BK 3 _ PR (aD (by omega))).mono ?_ (fun _ _ h=>h);rintro v2 rfl;refine (Hn.start v2).nw (cs:=[.int .u8 0,.int .u8 0,.int .u8 0,.int .u8 0]) fun w4 H=>?_
 simp only[ag]at H;have b4:∀(q:Nat),wrap .u8 (Int.fdiv (V:Int) ((q:Nat):Int))=((UInt8.ofNat (V/q)).toNat:Int):=fun q=>by
  rw[dD _ (by omega),fJ,cG,<-dA];omega
 rw[show (2:Int)^24=((16777216:Nat):Int)from rfl,show (2:Int)^16=((65536:Nat):Int)from rfl,show (2:Int)^8=((256:Nat):Int)from rfl,b4,b4,b4];rw[show wrap .u8 (V:Int)=((UInt8.ofNat V).toNat:Int) by rw[fJ,cG];omega];refine H.st 0 rfl (by simp) fun w5 H=>?_
 refine H.st 0 rfl (by simp) fun w6 H=>?_
 refine H.st 0 rfl (by simp) fun w7 H=>?_
 refine H.st 0 rfl (by simp) fun w8 H=>?_
 simp only[ai,aq]at H;have vn:AO w8 v2.heap.size (Bw (mT V)).toArray 114:=H.get 0 rfl;have e8:=H.ext;clear H;have AHd:=e8.AS hgv id;refine Nn.of (Ld.of AHd (c5 E hE5) ?_);rw[AE (by omega),show ((k:Int)-1).toNat=k-1 by omega];refine ⟨by omega,by omega,?_⟩;have mZ:Bh w8 ((⟨some (⟨v2.heap.size,0,none⟩:Addr),4,4⟩:AA).cut 1 0 (k-1) 4) 1 (Bw ((mT V).take (k-1))):=by
  have hl4:(mT V).length=4:=rfl;refine ⟨?_,fun j x hj=>?_⟩
  ·show _=(k-1-0)*1;rw[An,au,hl4];omega
  ·refine ⟨⟨v2.heap.size,0,none⟩,by simp[AA.cut],?_⟩;rw[add_lit,vn.cell,aj,bV];unfold Bw at hj⊢;rw[List.map_take,aU]at hj;split at hj
   ·exact hj
   ·cases hj
 refine (PM (hSv.AB e8) mZ (by rw[au];have:(mT V).length=4:=rfl;omega) hM PR).mono ?_ (fun _ _ h=>h);rintro w9 ⟨hS9,hW9⟩;have hg9:=hW9.AB _ _ _ (by decide) (by decide) AHd;refine Nn.of ?_;simp only[add_lit,aj];have hlen:(Bw E++[Value.int .i64 (k:Int)]).length=6:=by rw[ae,An,hE5];rfl
 refine DY hg9 (by omega) fun IY h10 JO=>?_
 refine DY h10 (by rw[br];omega) fun PU h11 NQ=>?_
 refine DY h11 (by rw[br,br];omega) fun Ef h12 TU=>?_
 refine DY h12 (by simp only[br];omega) fun Fs h13 YT=>?_
 refine DY h13 (by simp only[br];omega) fun lN h14 e14=>?_
 refine DY h14 (by simp only[br];omega) fun VT h15 fK=>?_
 have eG:Ext (·=g) w9 VT:=((((JO.tr NQ).tr TU).tr YT).tr e14).tr fK;refine ⟨hS9.AI eG fun j cs t hj hb=>?_,?_,?_⟩
 ·have hj:j=g:=hj;subst hj;rw[IX hb hg9];exact ⟨by decide,by decide⟩
 ·obtain ⟨x0,x1,x2,x3,x4,e6⟩:=APA hE5;rw[e6]at h15;simp only[ar,ag,ai,aq]at h15;exact h15
 ·have hz:=eG.size;refine Ext.trans (F:=fun j=>w0.heap.size<=j) (G:=(·=g)) ?_ eG (fun _ h=>h) fun j _ e=>by have e:j=g:=e;omega
  refine Ext.trans (F:=fun j=>w0.heap.size<=j) (G:=fun j=>w0.heap.size<=j) ?_ hW9.ext (fun _ h=>h) fun _ _ h=>h
  exact (hX.mono fun j _ e=>by have e:j=g:=e;omega).trans (G:=fun _=>False) e8 (fun _ h=>h) fun _ _ h=>h.elim
theorem AHe {left:ByteArray}(hl:bl left=[62])(hg:AO w g (Bw D++[Value.int .i64 (k:Int)]).toArray 125)(hD:D.length=5)(hk:k≠1){K:World->Prop}{PR:Value->World->Prop}{x:Option Addr}
  (k0:k=0->K w) (k2:2<=k->vm (some ⟨g,0,none⟩) x w K PR):C84 left (some ⟨g,0,none⟩) x w K PR:=by
 refine T84 _ _ _ _ _ _ ?_;unfold S84;rw[eqE];refine (BK 4 w PR (aD (by rw[hl];simp))).mono ?_ (fun _ _ h=>h);rintro w1 rfl;have c5:(Bw D++[Value.int .i64 (k:Int)]).toArray[0+5]?=some (.int .i64 (k:Int)):=by
  rw[bV,aF (by rw[An];omega),An,hD]
  rfl
 have hz:left.size=1:=by rw[AQ,hl];rfl
 rw[show Cp left 0=((62:UInt8).toNat:Int)from DW (i:=0) (by rw[hl];rfl)];refine ⟨by omega,by omega,Br.t (by decide) (Nn.of ?_)⟩;simp only[add_lit];refine Ld.of hg c5 ?_;refine (BK 3 _ PR (by simp;omega)).mono ?_ (fun _ _ h=>h);rintro w2 rfl;refine Nn.of ?_;simp only[add_lit];refine Ld.of hg c5 (Br.dec (fun q=>k2 (by omega)) fun q=>k0 (by omega))
end
end Ac
namespace Ac
open Sh lK
theorem PX (v:Nat){k:Nat}(h:k<5):(jL v)[k]?=some (UInt8.ofNat (33+v/HR.getD k 0%85)):=by
 have hk:k=0\/k=1\/k=2\/k=3\/k=4:=by omega
 rcases hk with rfl|rfl|rfl|rfl|rfl<;>rfl
theorem HW (v:Nat):(jL v).length=5:=rfl
theorem VU {x:Nat}(h:x<85):(UInt8.ofNat (33+x)).toNat=33+x:=ofn (by omega)
def Dg (t D:By)(k:Nat):Prop:=∀j,j<k->∃x,x<85/\t[j]?=some (UInt8.ofNat (33+x))/\D[j]?=some (UInt8.ofNat x)
theorem Dg.set{t D:By}{k x:Nat}(h:Dg t D k)(hx:x<85)(ht:t[k]?=some (UInt8.ofNat (33+x)))(hD:k<D.length):Dg t (D.set k (UInt8.ofNat x)) (k+1):=fun j hj=>by
 by_cases e:j=k
 ·subst e;exact ⟨x,hx,ht,da hD⟩
 ·obtain ⟨y,h1,h2,h3⟩:=h j (by omega);exact ⟨y,h1,h2,by rw[List.getElem?_set_ne (fun h=>e h.symm)];exact h3⟩
theorem Dg.get{t D:By}{k j y:Nat}(h:Dg t D k)(hj:j<k)(hy:y<85)(ht:t[j]?=some (UInt8.ofNat (33+y))):(D.getD j 0).toNat=y:=by
 obtain ⟨x,h1,h2,h3⟩:=h j hj;rw[ht]at h2;have e:=bI (Option.map UInt8.toNat) h2;simp only[cI,bE]at e;rw[VU hy,VU h1]at e;rw[af,h3];show (UInt8.ofNat x).toNat=y;rw[ofn (by omega)];omega
theorem Cv {D:By}{k:Nat}(hD:D.length=5)(hk:k<=5){j:Nat}(hj:j<5):(D.take k++List.replicate (5-k) 84).getD j 0=if j<k then D.getD j 0 else 84:=by
 rw[af,af,List.getElem?_append,au,bo (by omega)];split
 ·rw[aU,ak (by assumption)]
 ·rw[cB,ak (by omega)]
  rfl
section
variable {w0 w w' w1:World} {s t:ByteArray} {b g:Nat} {l m out pre D:By} {most k:Nat}
attribute [local irreducible] Ld Sh.St Nw Nn Lt AP
theorem c5 {D:By}(hD:D.length=5)(k:Nat):(Bw D++[Value.int .i64 (k:Int)]).toArray[5]?=some (.int .i64 (k:Int)):=by
 rw[bV,aF (by rw[An];omega),An,hD]
 rfl
section
variable {v:World} {x2:Option Addr} {R:World->Prop} {PR:Value->World->Prop} {I:Int->World->Prop} {i x:Nat}
theorem PY (hs:s.size<=1000000)(hc:(bl s)[i]?=some (UInt8.ofNat (33+x)))(hx:x<85)(hg:AO v w.heap.size (Bw D++[Value.int .i64 (k:Int)]).toArray 125)(hD:D.length=5)(hk:k<5)
  (K1:k+1<5->∀v',AO v' w.heap.size (Bw (D.set k (UInt8.ofNat x))++[Value.int .i64 ((k+1:Nat):Int)]).toArray 125->Ext (·=w.heap.size) v v'->I ((i+1:Nat):Int) v')
  (K2:k+1=5->∀v',AO v' w.heap.size (Bw (D.set k (UInt8.ofNat x))++[Value.int .i64 ((k+1:Nat):Int)]).toArray 125->Ext (·=w.heap.size) v v'->vm (some ⟨w.heap.size,0,none⟩) x2 v' (fun v''=>I ((i+1:Nat):Int) v'') PR):
  PZ w s x2 R PR I (i:Int) v:=by
 unfold PZ;have hi:=(ao.1 hc).1;rw[<-AQ]at hi;have hv:=VU hx;refine Br.t (aD (by omega)) ⟨by omega,by omega,?_⟩;rw[DW hc];refine (JN _ _).mono ?_;rintro r w1 ⟨rfl,rfl⟩;have uz:wrap .i64 ((i:Int)+1)=((i+1:Nat):Int):=by rw[AE (by omega)];rfl
 rw[uz];refine Br.f (mH (by omega)) (Br.f (by simpa using (by omega:((UInt8.ofNat (33+x)).toNat:Int)≠122)) (Br.t (aD (by omega)) (Br.t (aD (by omega)) ?_)));simp only[add_lit,aj];refine Ld.of hg (c5 hD k) ⟨by omega,by omega,?_⟩;rw[aa,aH];have eb:wrap .u8 (((UInt8.ofNat (33+x)).toNat:Int)-33)=((UInt8.ofNat x).toNat:Int):=by
  rw[hv,ofn (by omega),Hu (by omega)];omega
 rw[eb];refine DY hg (by rw[ae,An];omega) fun v1 h1 e1=>?_
 have es:(Bw D++[Value.int .i64 (k:Int)]).set k (.int .u8 ((UInt8.ofNat x).toNat:Int))=Bw (D.set k (UInt8.ofNat x))++[Value.int .i64 (k:Int)]:=by
  rw[List.set_append_left _ _ (by rw[An];omega)];unfold Bw;rw[dM]
 rw[es]at h1;have hD2:(D.set k (UInt8.ofNat x)).length=5:=by rw[br];exact hD
 refine Ld.of h1 (c5 hD2 k) ?_;rw[AE (n:=(k:Int)+1) (by omega),show (k:Int)+1=((k+1:Nat):Int)from rfl];refine DY h1 (by rw[ae,An,hD2];simp) fun v2 h2 e2=>?_
 have es2:(Bw (D.set k (UInt8.ofNat x))++[Value.int .i64 (k:Int)]).set 5 (.int .i64 ((k+1:Nat):Int))=Bw (D.set k (UInt8.ofNat x))++[Value.int .i64 ((k+1:Nat):Int)]:=by
  rw[dh _ _ (by rw[An,hD2];decide),An,hD2]
  rfl
 rw[es2]at h2;refine Ld.of h2 (c5 hD2 (k+1)) (Br.eq (fun q=>K2 (by omega) v2 h2 (e1.tr e2)) fun q=>K1 (by omega) v2 h2 (e1.tr e2))
theorem Pa (hs:s.size<=1000000)(hc:(bl s)[i]?=some 126)(hr:(bl s).drop (i+1)=[62])(hg:AO v w.heap.size (Bw D++[Value.int .i64 (k:Int)]).toArray 125)(hD:D.length=5)(hk:k≠1)
  (k0:k=0->R v) (k2:2<=k->vm (some ⟨w.heap.size,0,none⟩) x2 v R PR):
  PZ w s x2 R PR I (i:Int) v:=by
 unfold PZ;have hi:=(ao.1 hc).1;rw[<-AQ]at hi;have hv:(126:UInt8).toNat=126:=rfl;refine Br.t (aD (by omega)) ⟨by omega,by omega,?_⟩;rw[DW hc];refine (JN _ _).mono ?_;rintro r w1 ⟨rfl,rfl⟩;have uz:wrap .i64 ((i:Int)+1)=((i+1:Nat):Int):=by rw[AE (by omega)];rfl
 rw[uz,hv];refine Br.f (by decide) (Br.f (by decide) (Br.t (by decide) (Br.f (by decide) (Br.t (by decide) ⟨by omega,by omega,?_⟩))));rw[aa];exact (AHe (by rw[E0];exact hr) hg hD hk k0 k2)
theorem ACH (hs:s.size<=1000000)(hc:(bl s)[i]?=some 122)(hg:AO v w.heap.size (Bw D++[Value.int .i64 0]).toArray 125)(hD:D.length=5)
  (K:∀v' sl,Bh v' sl 1 (Bw [0,0,0,0])->Ext (fun _=>False) v v'->vd x2 sl v' (fun v''=>I ((i+1:Nat):Int) v'') PR):
  PZ w s x2 R PR I (i:Int) v:=by
 unfold PZ;have hi:=(ao.1 hc).1;rw[<-AQ]at hi;have hv:(122:UInt8).toNat=122:=rfl;refine Br.t (aD (by omega)) ⟨by omega,by omega,?_⟩;rw[DW hc];refine (JN _ _).mono ?_;rintro r w1 ⟨rfl,rfl⟩;have uz:wrap .i64 ((i:Int)+1)=((i+1:Nat):Int):=by rw[AE (by omega)];rfl
 rw[uz,hv];refine Br.f (by decide) (Br.t (by decide) ?_);simp only[add_lit,aj];refine Ld.of hg (c5 hD 0) (Br.t rfl (Nw.of ?_));exact K _ _ (Bh.of (AO.new w1 (Bw [0,0,0,0]).toArray 5) rfl) ((Ext.refl _ _).alloc _)
end
theorem jN {v0:World}(hb:F5 (bl s) l)(hl:l.length<=most)(hM:most<=1048576)(hs:s.size<=1000000)(h:Sk w0 v0 b [] most)(hz:w0.heap.size<=v0.heap.size)(hP:PW v0)(hp:0<w0.heap.size)(PR:Value->World->Prop):
  C82 s (some ⟨b,0,none⟩) v0 (fun w3=>Sk w0 w3 b l most/\Ext (fun j=>w0.heap.size<=j) v0 w3) PR:=by
 refine T82 _ _ _ _ _ ?_;unfold S82;refine Nw.of ?_;have eA:Ext (fun _=>False) v0 (v0.alloc (.cells (Bw [0,0,0,0,0]++[Value.int .i64 0]).toArray 125)):=(Ext.refl _ _).alloc _;have hB:=AO.new v0 (Bw [0,0,0,0,0]++[Value.int .i64 0]).toArray 125;have eq0:(v0.alloc (.cells #[.int .u8 0,.int .u8 0,.int .u8 0,.int .u8 0,.int .u8 0,.int .i64 0] 125))=v0.alloc (.cells (Bw [0,0,0,0,0]++[Value.int .i64 0]).toArray 125):=rfl;rw[eq0];generalize v0.alloc (.cells (Bw [0,0,0,0,0]++[Value.int .i64 0]).toArray 125)=v1 at eA hB;refine ⟨fun n st v=>∃(i k:Nat) (D t rest pre:By),st=(i:Int)/\n=s.size-i/\i<=s.size/\F5 t rest/\pre++rest=l/\Sk w0 v b pre most/\(bl s).drop i=t.drop k/\D.length=5/\k<5/\Dg t D k/\
  AO v v0.heap.size (Bw D++[Value.int .i64 (k:Int)]).toArray 125/\Ext (fun j=>w0.heap.size<=j) v0 v,s.size,
  ⟨0,0,[0,0,0,0,0],bl s,l,[],rfl,rfl,by omega,hb,rfl,h.AB eA,rfl,rfl,by decide,fun j hj=>by omega,hB,eA.mono fun _ _ e=>e.elim⟩,?_⟩
 rintro n st v ⟨i,k,D,t,rest,pre,rfl,rfl,hi,hF,YC,hS,hd,hD,hk,hDg,hg,hX⟩;have hlen:pre.length+rest.length=l.length:=by rw[<-YC,ae]
 have hPv:PW v:=hP.AB hX fun e=>by omega
 have YU:∀{v':World},Ext (·=v0.heap.size) v v'->Sk w0 v' b pre most:=fun he=>hS.AI he fun j cs t hj hb=>by
  have hj:j=v0.heap.size:=hj;subst hj;rw[IX hb hg];exact ⟨by decide,by decide⟩
 have ma:∀{v':World},Ext (·=v0.heap.size) v v'->Ext (fun j=>w0.heap.size<=j) v0 v':=fun he=>hX.tr (he.mono fun j _ e=>by have e:j=v0.heap.size:=e;omega)
 have at_:∀{c:UInt8},t[k]?=some c->(bl s)[i]?=some c/\(bl s).drop (i+1)=t.drop (k+1):=fun {c} hc=>by
  have h1:=mF hc;rw[<-hd]at h1;have h2:(bl s)[i]?=some c:=by
   have:((bl s).drop i)[0]?=some c:=by rw[h1];rfl
   rw[bW]at this;exact this
  refine ⟨h2,?_⟩;have h3:=mF h2;rw[h3]at h1;exact (List.cons.inj h1).2
 have AAL:∀{c:UInt8} {t':By},t=c::t'->118<=c.toNat->k=0:=fun {c t'} e hc=>by
  rcases Nat.eq_zero_or_pos k with h|h
  ·exact h
  ·obtain ⟨x,h1,h2,_⟩:=hDg 0 h;rw[e]at h2;have:=bI (Option.map UInt8.toNat) h2;simp only[bL,cI,bE]at this;rw[VU h1]at this;omega
 cases hF with
 |fin=>
  have RZ:=AAL rfl (by decide);subst RZ;obtain ⟨h1,h2⟩:=at_ (c:=126) rfl;refine Pa hs h1 (by rw[h2];rfl) hg hD (by decide) (fun _=>⟨?_,hX⟩) fun q=>absurd q (by decide)
  rw[aM]at YC;rw[<-YC];exact hS
 |@z t r hF=>
  have RZ:=AAL rfl (by decide);subst RZ;obtain ⟨h1,h2⟩:=at_ (c:=122) rfl;have YV:=(ao.1 h1).1;rw[<-AQ]at YV;refine ACH hs h1 hg hD fun v' sl hv he=>?_
  simp only[aA]at hlen;refine (PM (hS.AB he) hv (by simp;omega) hM PR).mono ?_ (fun _ _ h=>h);rintro v2 ⟨jO,hW2⟩;refine ⟨s.size-(i+1),by omega,i+1,0,D,t,r,pre++[0,0,0,0],rfl,rfl,by omega,hF,by rw[ax];exact YC,jO,?_,hD,by decide,fun j hj=>by omega,?_,(hX.tr (he.mono fun _ _ e=>e.elim)).tr hW2.ext⟩
  ·rw[h2]
   rfl
  ·exact hW2.AB _ _ _ (by decide) (by decide) (he.AS hg id)
 |@four a1 a2 a3 a4 t r hF=>
  have uy:(jL (HT a1 a2 a3 a4)++t)[k]?=some (UInt8.ofNat (33+HT a1 a2 a3 a4/HR.getD k 0%85)):=by
   rw[aG (by rw[HW];exact hk)];exact PX _ hk
  obtain ⟨h1,h2⟩:=at_ uy;have hx:HT a1 a2 a3 a4/HR.getD k 0%85<85:=cX _ (by decide);have YV:=(ao.1 h1).1;rw[<-AQ]at YV;have ACI:=hDg.set hx uy (by omega);have hD':(D.set k (UInt8.ofNat (HT a1 a2 a3 a4/HR.getD k 0%85))).length=5:=by rw[br];exact hD
  refine PY hs h1 hx hg hD hk (fun q v' IZ KB=>?_) fun q v' IZ KB=>?_
  ·exact ⟨s.size-(i+1),by omega,i+1,k+1,_,_,_,pre,rfl,rfl,by omega,.four hF,YC,YU KB,h2,hD',q,ACI,IZ,ma KB⟩
  ·generalize D.set k (UInt8.ofNat (HT a1 a2 a3 a4/HR.getD k 0%85))=E at ACI hD' IZ;have hk4:k=4:=by omega
   subst hk4;have hV:HT a1 a2 a3 a4=Rl (E.take 5++List.replicate (5-5) 84) 5:=by
    rw[AAI,Cv hD' (av _) (by decide),Cv hD' (av _) (by decide),Cv hD' (av _) (by decide),Cv hD' (av _) (by decide),Cv hD' (av _) (by decide)];simp only[show (0<5)=True by simp,show (1<5)=True by simp,show (2<5)=True by simp,show (3<5)=True by simp,show (4<5)=True by simp,if_true];have hh:∀j,j<5->(E.getD j 0).toNat=HT a1 a2 a3 a4/HR.getD j 0%85:=fun j hj=>ACI.get hj (cX _ (by decide)) (by
     rw[aG (by rw[HW];exact hj)];exact PX _ hj)
    rw[hh 0 (by decide),hh 1 (by decide),hh 2 (by decide),hh 3 (by decide),hh 4 (by decide)];exact (mU _ (On _ _ _ _)).symm
   simp only[ae,aA,bq]at hlen;refine (mY (k:=5) (YU KB) IZ hD' hz (hPv.AB KB fun e=>by have e:0=v0.heap.size:=e;omega) hp (by decide) (by decide) hV (On _ _ _ _) (by omega) hM PR).mono ?_ (fun _ _ h=>h);rintro v2 ⟨jO,hg2,hX2⟩;rw[show (5:Nat)-1=4 from rfl,aX (by show (mT _).length<=4;exact av 4),vk]at jO;refine ⟨s.size-(i+1),by omega,i+1,0,[0,0,0,0,0],t,r,pre++[a1,a2,a3,a4],rfl,rfl,by omega,hF,by rw[ax];exact YC,jO,?_,rfl,by decide,fun j hj=>by omega,hg2,(ma KB).tr hX2⟩;rw[h2];exact dy (HW _)
 |@part _ n1 n3=>
  have hl5:((jL (Cu rest)).take (rest.length+1)).length=rest.length+1:=by rw[au,HW];omega
  by_cases hkn:k<rest.length+1
  ·have uy:((jL (Cu rest)).take (rest.length+1)++[126,62])[k]?=some (UInt8.ofNat (33+Cu rest/HR.getD k 0%85)):=by
    rw[aG (by omega),aU,ak hkn];exact PX _ hk
   obtain ⟨h1,h2⟩:=at_ uy;have hx:Cu rest/HR.getD k 0%85<85:=cX _ (by decide);have YV:=(ao.1 h1).1;rw[<-AQ]at YV;refine PY hs h1 hx hg hD hk (fun q v' IZ KB=>?_) fun q v' IZ KB=>by omega
   exact ⟨s.size-(i+1),by omega,i+1,k+1,_,_,_,pre,rfl,rfl,by omega,.part n1 n3,YC,YU KB,h2,by rw[br];exact hD,q,hDg.set hx uy (by omega),IZ,ma KB⟩
  ·have hke:k=rest.length+1:=by
    rcases bX (rest.length+1) k with h|h
    ·obtain ⟨x,x1,x2,_⟩:=hDg (rest.length+1) h;rw[aF (by omega),hl5,cl]at x2;have:=bI (Option.map UInt8.toNat) x2;simp only[bL,cI,bE]at this;rw[VU x1]at this;have z:(126:UInt8).toNat=126:=rfl;omega
    ·omega
   subst hke;have uy:((jL (Cu rest)).take (rest.length+1)++[126,62])[rest.length+1]?=some 126:=by
    rw[aF (by omega),hl5,cl]
    rfl
   obtain ⟨h1,h2⟩:=at_ uy;refine Pa hs h1 ?_ hg hD (by omega) (fun q=>by omega) fun q=>?_
   ·rw[h2,List.drop_append,hl5,bR (by omega)];rw[show rest.length+1+1-(rest.length+1)=1 by omega]
    rfl
   ·have hh:∀j,j<rest.length+1->(D.getD j 0).toNat=Cu rest/HR.getD j 0%85:=fun j hj=>hDg.get hj (cX _ (by decide)) (by
     rw[aG (by omega),aU,ak hj];exact PX _ (by omega))
    obtain ⟨V,hV⟩:∃V,V=Rl (D.take (rest.length+1)++List.replicate (5-(rest.length+1)) 84) 5:=⟨_,rfl⟩
    have hV2:=hV;rw[AAI,Cv hD (by omega) (by decide),Cv hD (by omega) (by decide),Cv hD (by omega) (by decide),Cv hD (by omega) (by decide),Cv hD (by omega) (by decide)]at hV2;rw[ak (by omega),ak (by omega),ah (show ¬4<rest.length+1 by omega),hh 0 (by omega),hh 1 (by omega)]at hV2;have e2:(if 2<rest.length+1 then D.getD 2 0 else 84).toNat=if 2<rest.length+1 then Cu rest/7225%85 else 84:=by
     split
     ·exact hh 2 (by omega)
     ·rfl
    have e3:(if 3<rest.length+1 then D.getD 3 0 else 84).toNat=if 3<rest.length+1 then Cu rest/85%85 else 84:=by
     split
     ·exact hh 3 (by omega)
     ·rfl
    rw[e2,e3]at hV2;obtain ⟨p1,p2⟩:=mW n1 n3 V hV2;refine (mY (k:=rest.length+1) hS hg hD hz hPv hp (by omega) (by omega) hV p1 (by omega) hM PR).mono ?_ (fun _ _ h=>h);rintro v2 ⟨jO,hg2,hX2⟩;rw[show rest.length+1-1=rest.length by omega,p2,YC]at jO;exact ⟨jO,hX.tr hX2⟩
theorem mc (hb:F5 (bl s) l)(hl:l.length<=most)(hM:most<=1048576)(hs:s.size<=1000000)(w:World)(hP:PW w)(hp:0<w.heap.size):C52 s (most:Int) w fun r e w1=>r=ba l/\e=0/\Ext (fun _=>False) w w1:=by
 refine T52 _ _ _ _ ?_;unfold S52;refine vp _ _ _ _ ?_;show Unp (most:Int) w _ (C82 s) (fun lJ=>Pb w lJ _);exact mL hM (fun p v Q Q' PR h k=>k.mono h (fun _ _ h=>h)) (fun w1 w2 b PR e1 e2 ux=>by
  have z1:=e1.size;exact jN hb hl hM hs ux e2.size ((hP.AB e1 id).AB e2 id) (by omega) PR) fun w' he=>⟨rfl,rfl,he⟩
end
end Ac
namespace Ac
open Sh lK
open Go.RowKit
theorem vq (w:World)(o1 o2:Operand)(a b c d:Int):BW prog (do eqGuard .eql 114 o1 o2 (.agg #[.int .u8 a,.int .u8 b,.int .u8 c,.int .u8 d]) (.agg #[.int .u8 0,.int .u8 0,.int .u8 0,.int .u8 0]);binOp .eql 114 (.agg #[.int .u8 a,.int .u8 b,.int .u8 c,.int .u8 d]) (.agg #[.int .u8 0,.int .u8 0,.int .u8 0,.int .u8 0])) w (.bool (a==0&&(b==0&&(c==0&&d==0)))) w:=by
 have hu:prog.underlying 114=some (.array 4 5):=by kernel_rfl
 have hg:prog.eqGuardType prog.depth 114=false:=by kernel_rfl
 have hc:prog.cellsOf 5=1:=by kernel_rfl
 obtain ⟨i,hi,_⟩:=Ie;have e:(Op.equalIn (9999+1) 114 (.agg #[.int .u8 a,.int .u8 b,.int .u8 c,.int .u8 d]) (.agg #[.int .u8 0,.int .u8 0,.int .u8 0,.int .u8 0])).run prog w= .ok (a==0&&(b==0&&(c==0&&d==0))) w:=by
  rw[run_equalIn_array w 9999 _ _ hu hi,hc];have hr:List.range 4=[0,1,2,3]:=rfl;have hn:∀w,(isAgg 5).run prog w= .ok false w:=fun w=>by rw[DL Gh];rfl
  have hq:∀(x y:Int) (w:World),(Op.equalIn 9999 5 (.int .u8 x) (.int .u8 y)).run prog w= .ok (x==y) w:=fun x y w=>run_equalIn_int w 9998 _ _ _ _ _ Gh
  rw[hr];simp only[Op.eqItems,part,Sem.run_bind,hn,Result.andThen_ok,bD,dz];simp[hq];by_cases ha:a=0<;>by_cases hb:b=0<;>by_cases me:c=0<;>by_cases hd:d=0<;>simp[ha,hb,me,hd]
 have e':(Op.equal 114 (.agg #[.int .u8 a,.int .u8 b,.int .u8 c,.int .u8 d]) (.agg #[.int .u8 0,.int .u8 0,.int .u8 0,.int .u8 0])).run prog w= .ok (a==0&&(b==0&&(c==0&&d==0))) w:=e;unfold BW;simp only[eqGuard,binOp,Sem.run_bind,Sem.run_pure];simp[hg,e']
theorem TV {a b i:Nat}(ha:a*2^i<9223372036854775808)(hb:b<2^i)(h2:a*2^i+b<9223372036854775808):Kk .u64 (((a*2^i:Nat)):Int) (b:Int)=((a*2^i+b:Nat):Int):=by
 unfold Kk;have e:(BitVec.ofInt IntKind.u64.bits (((a*2^i:Nat)):Int)|||BitVec.ofInt IntKind.u64.bits (b:Int)).toNat=a*2^i+b:=by
  rw[BitVec.toNat_or];have AHi:IntKind.u64.bits=64:=rfl;have t:∀n:Nat,n<9223372036854775808->(BitVec.ofInt IntKind.u64.bits (n:Int)).toNat=n:=fun n hn=>by
   rw[BitVec.toNat_ofInt,AHi];omega
  rw[t _ ha,t b (by omega)];have h3:=Nat.shiftLeft_add_eq_or_of_lt hb a;rw[Nat.shiftLeft_eq]at h3;exact h3.symm
 rw[e];exact IntWalk.u64_in _ (by omega)
def enc (four:By):By:=if four=[0,0,0,0]then [122]else (jL (Cu four)).take (four.length+1)
structure SF (w0:World) (n1:Nat) (w:World) (b:Nat) (p:Option Addr) (sl:AA) (l:By):Prop where
 lo:w0.heap.size<=b
 ptr:p=none\/p=some ⟨b,0,none⟩
 AS:AO w b #[.pointer p,AA.v sl] 110
 row:w.ownsRow n1 5 1 (AA.v sl) l.length (Lib.byteCells l)
 le:w0.heap.size<=n1
theorem SF.AI{F:Nat->Prop}{w0 w w':World}{n1 b:Nat}{p:Option Addr}{sl:AA}{l:By}(h:SF w0 n1 w b p sl l)(he:Ext F w w')(hb:¬F b)(hF:∀j,F j->j<n1):SF w0 n1 w' b p sl l:=
 ⟨h.lo,h.ptr,he.AS h.AS hb,⟨h.row.1,h.row.2.elim .inl fun ⟨g,cap,cur,h1,h2,h3,h4⟩=> .inr ⟨g,cap,cur,h1,h2,(he.block g (aL.1 h3).1 fun hf=>by have:=hF g hf;omega).trans h3,h4⟩⟩,h.le⟩
theorem SF.AB{w0 w w':World}{n1 b:Nat}{p:Option Addr}{sl:AA}{l:By}(h:SF w0 n1 w b p sl l)(he:Ext (fun _=>False) w w'):SF w0 n1 w' b p sl l:=h.AI he id fun _ e=>e.elim
section
variable {w0 w w' w1:World} {s t:ByteArray} {b g n1:Nat} {l m out pre D:By} {p:Option Addr} {sl:AA}
theorem vr (h:SF w0 n1 w b p sl l):vt (some ⟨b,0,none⟩) w fun w'=>SF w0 n1 w' b (some ⟨b,0,none⟩) sl l/\Ext (fun j=>j=b\/n1<=j) w w':=by
 have c0:w.cell? ⟨b,0,none⟩=some (.pointer p):=h.AS.cell 0;rcases h.ptr with rfl|rfl
 ·refine (Pc b w c0 (by have:=h.AS;unfold AO at this;simp[World.shape?,this]) (h.AS.frozen 0)).mono ?_;rintro e w' ⟨rfl,rfl⟩;exact ⟨rfl,⟨h.lo,.inr rfl,h.AS.set 0 _,h.row.kept (row:=some b) ⟨rfl,rfl,rfl,by simp[World.setCell],fun k _ hk=>Go.RowKit.Below.heap_setCell _ _ _ _ (fun e=>hk (by simp[e]))⟩ (.inr (Lib.ownBlock_ne h.row h.AS (by decide))),h.le⟩,(Ext.refl (fun j=>j=b\/n1<=j) w).set (.inl (.inl rfl)) _⟩
 ·refine (SG b w c0).mono ?_;rintro e w' ⟨rfl,rfl⟩;exact ⟨rfl,h,Ext.refl _ _⟩
theorem SF.put{w2:World}{v':Value}(h:SF w0 n1 w1 b p sl l)(Ar:w2.ownsRow n1 5 1 v' m.length (Lib.byteCells m))(hg:w1.grownBy w2 (AA.v sl).ownBlock):
  ∃Bi,v'=AA.v Bi/\Kl w2 ⟨b,1,none⟩/\SF w0 n1 (w2.setCell ⟨b,1,none⟩ v') b p Bi m/\Ext (fun j=>j=b\/n1<=j) w1 (w2.setCell ⟨b,1,none⟩ v'):=by
 obtain ⟨Bi,rfl⟩:∃Bi,v'=AA.v Bi:=by
  rcases Ar.2 with ⟨rfl,_⟩|⟨g,cap,cur,rfl,_⟩
  ·exact ⟨⟨none,0,0⟩,rfl⟩
  ·exact ⟨⟨some ⟨g,0,none⟩,_,cap⟩,rfl⟩
 have TW:AO w2 b #[.pointer p,AA.v sl] 110:=by
  have:=h.AS;unfold AO at this⊢;rw[hg.block b h.AS.lt fun e=>Lib.ownBlock_ne h.row h.AS (by decide) e.symm];exact this
 refine ⟨Bi,rfl,TW.can (Nat.lt_succ_self 1),⟨h.lo,h.ptr,TW.set 1 _,Ar.kept (row:=some b) ⟨rfl,rfl,rfl,by simp[World.setCell],fun k _ hk=>Go.RowKit.Below.heap_setCell _ _ _ _ (fun e=>hk (by simp[e]))⟩ (.inr (Lib.ownBlock_ne Ar TW (by decide))),h.le⟩,?_⟩;have e:Ext (fun j=>j=b\/n1<=j) w1 w2:=⟨hg.os,hg.tape,hg.output,hg.size,fun k hk hn=>hg.block k hk fun e=>hn (.inr (h.row.lt k e.symm).1)⟩
 exact e.set (.inl (.inl rfl)) _
attribute [local irreducible] Ld Nw Nn Lt AP
theorem fL {c:UInt8}(h:SF w0 n1 w b p sl l)(hn:n1<=w.heap.size)(hs:l.length+1<=1099511627776):lL (some ⟨b,0,none⟩) (c.toNat:Int) w fun _ w'=>∃Bi,SF w0 n1 w' b (some ⟨b,0,none⟩) Bi (l++[c])/\Ext (fun j=>j=b\/n1<=j) w w':=by
 refine T80 _ _ _ _ ?_;unfold S80;refine (vr h).mono ?_;rintro w1 ⟨h1,k1⟩;refine Nn.of (Ld.of (x:=sl) h1.AS rfl (Nw.of ?_));obtain ⟨i0,hi,hz0,hz1,fG⟩:=info_parts Tryz.BR.infoByte;have Am:=h1.AS.lt;have TX:=k1.size;have e1:Ext (fun _=>False) w1 (w1.alloc (.cells #[.int .u8 (c.toNat:Int)] 5)):=(Ext.refl _ _).alloc _;have h2:=h1.AB e1;have z1:=e1.size;have uw:=AO.new w1 #[.int .u8 (c.toNat:Int)] 5;obtain ⟨v',w2,Ag,Ar,VV,_⟩:=run_append_own (P:=prog) (w1.alloc (.cells #[.int .u8 (c.toNat:Int)] 5)) n1 108 108 5 i0 (.int .u8 0) 1 1 Bj hi hz0 hz1 fG rfl (by decide) (AA.v sl) l.length (Lib.byteCells l) h2.row ⟨w1.heap.size,0,none⟩ 1 1 [.int .u8 (c.toNat:Int)] rfl (fun j u hj=>by
  match j,hj with
  |0,hj=>rw[show ((⟨w1.heap.size,0,none⟩:Addr).add 0)=⟨w1.heap.size,0,none⟩from rfl,uw.cell];exact hj) (fun u hu=>by rw[az.1 hu];rfl) (by unfold maxLen;omega) (by omega) (by omega)
 have Jw:w2.ownsRow n1 5 1 v' (l++[c]).length (Lib.byteCells (l++[c])):=by
  rw[YW,ae];exact Ar
 obtain ⟨Bi,rfl,hc,hB,hW⟩:=h2.put Jw VV;exact ⟨Bi,w2,Ag,Nn.of ⟨hc,Bi,hB,(k1.trans (G:=fun _=>False) e1 (fun _ h=>h) fun _ _ h=>h.elim).tr hW⟩⟩
end
end Ac
set_option maxRecDepth 512
set_option maxHeartbeats 200000
namespace Sh
section
variable {P:Program} {t e ti:TypeId} {k B:Nat} {z:Value} {w:World} {ty:TypeId}
theorem El.grow(h:El P t e k B z)(hti:P.underlying ti=some (.int .i64)){n:Nat}(hn:0<n)(hk:0<k)(hb:n*B<=140737488355328)(h63:n<=4611686018427387904):
  ∃s' w',BW P (Builtin.append_ #[t,ti] ty #[AA.v ⟨none,0,0⟩,.int .i64 (n:Int)]) w (AA.v s') w'/\Row w' (s'.cut k 0 0 s'.cap) e k []/\Ext (fun _=>False) w w'/\(∀j,s'.own j->w.heap.size<=j):=by
 obtain ⟨i,hi,rfl,rfl,hz⟩:=h.info;have MD:=grownCap_ge w n 0 e;have Du:¬(281474976710656<Builtin.nextslicecap n 0*i.bytes):=by
  have:=growslice_fits (need:=n) (old:=0) (bytes:=i.bytes) hn hb;omega
 have h6:¬(9223372036854775807<(n:Int)):=by omega
 have hw:wrap .i64 (n:Int)=(n:Int):=IntWalk.i64_in n (by omega);have hn0:¬(n=0):=by omega
 have RZ:¬(i.size=0):=by omega
 have AE5:¬(281474976710656<(n:Int)*(i.bytes:Int)):=by
  have:((n*i.bytes:Nat):Int)<=140737488355328:=by omega
  rw[Int.natCast_mul]at this;omega
 have AW4:¬((n:Int)<0):=by omega
 refine ⟨⟨some ⟨w.heap.size,0,none⟩,n,grownCap w n 0 e⟩,w.drew.alloc (.cells (Builtin.zeroCells z.cells n++Builtin.zeroCells z.cells (grownCap w n 0 e-n)) e),?_,⟨by simp[AA.cut],.inr ⟨w.heap.size,_,?_,AO.new w.drew _ _,?_,?_,?_⟩⟩,((Ext.refl _ w).drew).alloc _,fun j hj=>?_⟩
 ·simp[BW,AA.v,Builtin.append_,run_underlying h.fP,run_underlying hti,sizeOf,typeInfo,zeroValue,asInt,asIntOf,hi,hz,hw,AW4,AE5,hn0,RZ,h6,Du,Question.forced,run_firstCells_none,newRow,grownCap];intro h0;have:=Nat.mul_pos hn hk;omega
 ·show (if grownCap w n 0 e=0 then some (⟨w.heap.size,0,none⟩:Addr)else _)=_;rw[ah (by omega)];simp
 ·exact bz _
 ·show _=(grownCap w n 0 e-0)*i.size;simp only[dN,size_zeroCells,h.cells];rw[<-bN]
  congr 1
  omega
 ·simp[AA.cut]
 ·obtain ⟨a,ha,rfl⟩:=hj;cases ha;exact av _
end
end Sh
namespace Sh
section
variable {P:Program} {t e:TypeId} {k B:Nat} {z:Value} {w:World} {s:AA} {ty:TypeId} {xs ys news:List Value} {i:TypeInfo} {x:Value} {m len:Nat} {a:Addr}
theorem Tc (ht:P.underlying t=some (.slice e))(hi:P.info? e=some i)(hz:i.zero=some z)(hzs:z.cells.size=i.size)(hm:0<m)
  (hlen:Builtin.lenOf x=pure m) (FX:∀w':World,w'.heap=w.heap->(Builtin.firstCells i.size m x).run P w'= .ok news.toArray w') (hl:news.length=m*i.size)
  (Om:xs.length=len*i.size) (holds:∀j v,xs[j]?=some v->w.cell? (a.add j)=some v) (hb:(len+m)*i.bytes<=140737488355328) (h63:len+m<=9223372036854775807):
  ∃s' w',BW P (Builtin.append_ #[t,t] ty #[AA.v ⟨some a,len,len⟩,x]) w (AA.v s') w'/\Row w' s' e i.size (xs++news)/\s'.len=len+m/\Ext (fun _=>False) w w'/\∀j,s'.own j->w.heap.size<=j:=by
 have NR:(xs++news).length=(len+m)*i.size:=by rw[ae,Om,hl,bN]
 have hd:w.drew.heap=w.heap:=rfl;refine ⟨⟨some ⟨w.heap.size,0,none⟩,len+m,grownCap w (len+m) len e⟩,w.drew.alloc (.cells (xs.toArray++news.toArray++Builtin.zeroCells z.cells (grownCap w (len+m) len e-(len+m))) e),?_,⟨NR,.inr ⟨_,_,rfl,AO.new w.drew _ e,grownCap_ge w (len+m) len e,?_,?_⟩⟩,rfl,((Ext.refl _ w).drew).alloc _,fun j hj=>?_⟩
 ·have hc:=FX w.drew hd;have hf:=growslice_fits (need:=len+m) (old:=len) (by omega) hb;have Cr:¬(281474976710656<Builtin.nextslicecap (len+m) len*i.bytes):=by omega
  have h6:¬(9223372036854775807<((len:Int)+(m:Int))):=by omega
  have Kn:¬(len+m<=len):=by omega
  have hm0:m≠0:=by omega
  have hfo:=run_firstCells_some (P:=P) w.drew i.size len a len len xs Om (fun j v hj=>by have:=holds j v hj;simpa using this);simp[BW,AA.v,Builtin.append_,run_underlying ht,sizeOf,typeInfo,zeroValue,hi,hz,hlen,Kn,hm0,h6,Cr,Question.forced,hfo,hc,newRow,grownCap]<;>
   (congr 2;apply Array.ext';simp[ax])
 ·have MD:=grownCap_ge w (len+m) len e;simp only[dN,aZ,size_zeroCells,hzs,Om,hl,<-bN]
  congr 1
  omega
 ·simp only[cR];rw[<-NR];exact List.take_left
 ·obtain ⟨a',ha,rfl⟩:=hj;cases ha;exact av _
theorem El.ACZ{s2:AA}(h:El P t e k B z)(hk:0<k)(own:Row w s e k [])(hc:s.cap=0)(h2:Bh w s2 k ys)(h1:∀v∈ys,v.oneCell'=true)(hb:s2.len*B<=140737488355328)(h63:s2.len<=9223372036854775807):
  ∃s' w',BW P (Builtin.append_ #[t,t] ty #[AA.v s,AA.v s2]) w (AA.v s') w'/\Row w' s' e k ys/\s'.len=s2.len/\Ext (fun _=>False) w w'/\∀j,s'.own j->s.own j\/w.heap.size<=j:=by
 have vv:s.len=0:=by
  have:=own.1;rcases Nat.mul_eq_zero.1 this.symm with h0|h0
  ·exact h0
  ·omega
 obtain ⟨p,len,cap⟩:=s;simp only at hc vv;subst hc vv;cases p with
 |none=>
  obtain ⟨s',w',r1,r2,r3,r4,r5⟩:=h.app (ty:=ty) (xs:=[]) own h2 h1 (by simpa using hb) (by simpa using h63);exact ⟨s',w',r1,by simpa using r2,by simpa using r3,r4.mono (fun j _ hj=>by obtain ⟨a,ha,_⟩:=hj;cases ha),r5⟩
 |some a=>
  obtain ⟨i,hi,rfl,rfl,hz⟩:=h.info;have FX:∀w':World,w'.heap=w.heap->(Builtin.firstCells i.size s2.len (AA.v s2)).run P w'= .ok ys.toArray w':=fun w' jR=>by
   obtain ⟨p,len,cap⟩:=s2;cases p with
   |none=>
    have hy:ys=[]:=by
     cases ys with
     |nil=>rfl
     |cons y r=>
      obtain ⟨a,ha,_⟩:=h2.2 0 y rfl;cases ha
    subst hy;have hl:=h2.1;simp only[bq]at hl;exact run_firstCells_none (P:=P) (w:=w') _ _ _ _
   |some a=>
    refine run_firstCells_some w' i.size len a len cap ys h2.1 fun j v hj=>?_
    obtain ⟨a',ha,hc⟩:=h2.2 j v hj;cases ha;unfold World.cell? at hc⊢;rw[jR];exact hc
  by_cases hm:s2.len=0
  ·have hy:ys=[]:=aw (by have:=h2.1;rw[hm]at this;simpa using this);subst hy;refine ⟨⟨some a,0,0⟩,w,?_,own,hm.symm,Ext.refl _ _,fun j hj=> .inl hj⟩;have hc:=FX w rfl;have hlen:Builtin.lenOf (AA.v s2)=pure 0:=by rw[<-hm];rfl
   rw[hm]at hc;simp[BW,Builtin.append_,run_underlying h.fP,sizeOf,typeInfo,hi,hlen,hc,AA.v]at*;simp[BW,Builtin.append_,run_underlying h.fP,sizeOf,typeInfo,hi,hlen,hc,AA.v,storeCells]
  ·obtain ⟨s',w',r1,r2,r3,r4,r5⟩:=Tc (ty:=ty) (a:=a) (len:=0) (xs:=[]) (x:=AA.v s2) (m:=s2.len) h.fP hi hz h.cells (by omega) rfl FX h2.1 (by simp) (fun j v hj=>by cases hj) (by simpa using hb) (by simpa using h63);exact ⟨s',w',r1,by simpa using r2,by simpa using r3,r4,fun j hj=> .inr (r5 j hj)⟩
end
end Sh
set_option maxHeartbeats 1000000
namespace Sh
theorem F1 {w:World}{g:Nat}{cur:Array Value}{t:TypeId}(h:AO w g cur t)(cs:Array Value):AO (w.setRow g cs) g cs t/\Ext (·=g) w (w.setRow g cs):=
 ⟨setRow_heap w g cur cs t _ h,⟨rfl,rfl,rfl,by simp[World.setRow],fun k _ hk=>setRow_other w g k _ (fun e=>hk e)⟩⟩
section
variable {P:Program} {t e:TypeId} {k B:Nat} {z:Value} {w:World} {s s2:AA} {ty:TypeId} {xs ys:List Value}
theorem El.JC(h:El P t e k B z){g o dLen dCap sLen sCap n:Nat}{a:Addr}{cur:Array Value}{cs:List Value}{sT:TypeId}(hg:AO w g cur e)(hn:n=Nat.min sLen dLen)(hc:cs.length=n*k)
  (TY:∀j v,cs[j]?=some v->w.cell? (a.add j)=some v) (Du:o+cs.length<=cur.size) (h1:∀v∈cs,v.oneCell'=true):
  ∃w',BW P (Builtin.copy_ #[t,sT] ty #[AA.v ⟨some ⟨g,o,none⟩,dLen,dCap⟩,AA.v ⟨some a,sLen,sCap⟩]) w (.int .i64 (n:Int)) w'/\AO w' g (cur.toList.take o++cs++cur.toList.drop (o+cs.length)).toArray e/\Ext (·=g) w w':=by
 obtain ⟨i,hi,rfl,rfl,hz⟩:=h.info;have hl:=run_firstCells_some (P:=P) w i.size n a sLen sCap cs hc TY;have IT:=run_storeCells_at P g o e cs 0 cur w hg (by simpa using Du) h1;obtain ⟨b1,b2⟩:=F1 hg (cur.toList.take o++cs++cur.toList.drop (o+cs.length)).toArray;refine ⟨_,?_,b1,b2⟩;simp only[bY]at IT;simp[BW,AA.v,Builtin.copy_,run_underlying h.fP,Builtin.lenOf,sizeOf,typeInfo,hi,<-hn,hl,IT,goInt]
theorem El.ABT(h:El P t e k B z){ti:TypeId}(hti:P.underlying ti=some (.int .i64)){p:Addr}{sLen sCap n:Nat}{olds:List Value}(hlen:olds.length=sLen*k)(hold:∀j v,olds[j]?=some v->w.cell? (p.add j)=some v)
  (hn:0<n) (hk:0<k) (hg:sCap<sLen+n) (hb:(sLen+n)*B<=140737488355328) (h63:sLen+n<=4611686018427387904):
  ∃g cap cur w',BW P (Builtin.append_ #[t,ti] ty #[AA.v ⟨some p,sLen,sCap⟩,.int .i64 (n:Int)]) w (AA.v ⟨some ⟨g,0,none⟩,sLen+n,cap⟩) w'/\AO w' g cur e/\sLen+n<=cap/\cur.size=cap*k/\cur.toList.take (sLen*k)=olds/\Ext (fun _=>False) w w'/\w.heap.size<=g:=by
 obtain ⟨i,hi,rfl,rfl,hz⟩:=h.info;have MD:=grownCap_ge w (sLen+n) sCap e;have hbn:n*i.bytes<=140737488355328:=cd (cL _ (Nat.le_add_left _ _)) hb;have Ag:=Lib.run_append_grow_zeros (P:=P) w t ti ty e i z .i64 .i64 h.fP hti hi hz (some p) sLen sCap olds (run_firstCells_some (P:=P) w.drew i.size sLen p sLen sCap olds hlen fun j v hj=>by
  have:=hold j v hj;unfold World.cell? at this⊢;exact this) n hn hk hg (by omega) (by omega) (growslice_fits hg hb)
 refine ⟨w.heap.size,_,_,_,Ag,AO.new w.drew _ e,MD,?_,?_,((Ext.refl _ w).drew).alloc _,av _⟩
 ·simp only[dN,aZ,size_zeroCells,h.cells,hlen];rw[<-bN,<-bN,Nat.add_sub_cancel' MD]
  rfl
 ·simp only[cR];rw[ax,<-hlen];exact List.take_left
theorem R8 (zc:Array Value)(n:Nat):(Builtin.zeroCells zc n).toList.length=n*zc.size:=by rw[aK,size_zeroCells]
theorem El.iB(h:El P t e k B z){g o len cap:Nat}{cur:Array Value}(hg:AO w g cur e)(Du:o+len*k<=cur.size)(h1:∀n,∀v∈(Builtin.zeroCells z.cells n).toList,v.oneCell'=true):
  ∃x w' M3,BW P (Builtin.clear_ #[t] ty #[AA.v ⟨some ⟨g,o,none⟩,len,cap⟩]) w x w'/\AO w' g M3 e/\M3.size=cur.size/\M3.toList.take o=cur.toList.take o/\Ext (·=g) w w':=by
 obtain ⟨i,hi,rfl,rfl,hz⟩:=h.info;cases len with
 |zero=>
  refine ⟨.tuple #[],w,cur,?_,hg,rfl,rfl,Ext.refl _ _⟩;simp[BW,AA.v,Builtin.clear_,run_underlying h.fP]
 |succ len=>
  have hzl:=R8 z.cells (len+1);rw[h.cells]at hzl;have IT:=run_storeCells_at P g o e (Builtin.zeroCells z.cells (len+1)).toList 0 cur w hg (by rw[hzl];omega) (h1 _);obtain ⟨b1,b2⟩:=F1 hg (cur.toList.take o++(Builtin.zeroCells z.cells (len+1)).toList++cur.toList.drop (o+(Builtin.zeroCells z.cells (len+1)).toList.length)).toArray;refine ⟨.tuple #[],_,_,?_,b1,?_,?_,b2⟩
  ·simp only[bY]at IT;simp[BW,AA.v,Builtin.clear_,run_underlying h.fP,zeroValue,typeInfo,hi,hz,IT]
  ·simp only[aZ,ae,au,aJ,aK]at*;omega
  ·rw[ax,bK (by rw[au,aK];omega)]
theorem El.iC(h:El P t e k B z){g len cap n cap2:Nat}{a:Addr}{cur:Array Value}{cs:List Value}(hg:AO w g cur e)(A1:cur.size=cap*k)(hc:cs.length=n*k)(TY:∀j v,cs[j]?=some v->w.cell? (a.add j)=some v)(Kn:len+n<=cap)(h1:∀v∈cs,v.oneCell'=true):
  ∃w',BW P (Builtin.append_ #[t,t] ty #[AA.v ⟨some ⟨g,0,none⟩,len,cap⟩,AA.v ⟨some a,n,cap2⟩]) w (AA.v ⟨some ⟨g,0,none⟩,len+n,cap⟩) w'/\AO w' g (cur.toList.take (len*k)++cs++cur.toList.drop (len*k+cs.length)).toArray e/\Ext (·=g) w w':=by
 obtain ⟨i,hi,rfl,rfl,hz⟩:=h.info;have hl:=run_firstCells_some (P:=P) w i.size n a n cap2 cs hc TY;have IT:=run_storeCells_at P g (len*i.size) e cs 0 cur w hg (by rw[hc,A1,bY,<-bN];exact cL _ Kn) h1;obtain ⟨b1,b2⟩:=F1 hg (cur.toList.take (len*i.size)++cs++cur.toList.drop (len*i.size+cs.length)).toArray;refine ⟨_,?_,b1,b2⟩;simp only[bY]at IT;simp[BW,AA.v,Builtin.append_,run_underlying h.fP,sizeOf,typeInfo,hi,Builtin.lenOf,Kn,hl,IT]
end
end Sh
set_option maxRecDepth 8000
set_option maxHeartbeats 4000000
namespace Ac
open Sh lK
open Go.RowKit
section
variable {w0 w w' w1 v:World} {s t:ByteArray} {b g n1:Nat} {l m out pre D four:By} {p:Option Addr} {sl x:AA}
attribute [local irreducible] Ld Sh.St Nw Nn Lt AP
theorem jP {p0 p1 p2 p3:UInt8}{R:World->Prop}(hB:SF w0 n1 v b p sl pre)(hn:n1<=v.heap.size)(hg:AO v w.heap.size (Bw [p0,p1,p2,p3]).toArray 114)(Om:1<=x.len)(hx4:x.len<=4)(hP:PW v)(hp:0<n1)(hpb:0≠b)(hs:pre.length<=1000000000)
  (hR:∀v' p' Bi,SF w0 n1 v' b p' Bi (pre++(jL (HT p0 p1 p2 p3)).take (x.len+1))->Ext (fun j=>j=b\/n1<=j) v v'->R v'):fM w ⟨b,0,none⟩ x R () v:=by
 unfold fM;have k0:=Ay p0;have k1:=Ay p1;have k2:=Ay p2;have k3:=Ay p3;simp only[add_lit,aj];refine Ld.of (x:=(p0.toNat:Int)) hg rfl (Ld.of (x:=(p1.toNat:Int)) hg rfl (Lt.of (Ld.of (x:=(p2.toNat:Int)) hg rfl (Ld.of (x:=(p3.toNat:Int)) hg rfl (Lt.of ?_)))));have u64:∀z:Int,0<=z->z<18446744073709551616->wrap .u64 z=z:=fun z h1 h2=>IntWalk.u64_in z ⟨h1,by omega⟩
 rw[show (2:Int)^24=16777216 from rfl,show (2:Int)^16=65536 from rfl,show (2:Int)^8=256 from rfl];rw[u64 (p0.toNat:Int) (by omega) (by omega),u64 (p1.toNat:Int) (by omega) (by omega),u64 (p2.toNat:Int) (by omega) (by omega),u64 (p3.toNat:Int) (by omega) (by omega)];rw[u64 ((p0.toNat:Int)*16777216) (by omega) (by omega),u64 ((p1.toNat:Int)*65536) (by omega) (by omega),u64 ((p2.toNat:Int)*256) (by omega) (by omega)];have e1:Kk .u64 ((p0.toNat:Int)*16777216) ((p1.toNat:Int)*65536)=(((p0.toNat*256+p1.toNat)*2^16:Nat):Int):=by
  have:=TV (a:=p0.toNat) (b:=p1.toNat*65536) (i:=24) (by omega) (by omega) (by omega);rw[show ((p0.toNat*2^24:Nat):Int)=(p0.toNat:Int)*16777216 by omega,show ((p1.toNat*65536:Nat):Int)=(p1.toNat:Int)*65536 by omega]at this;rw[this];omega
 have e2:Kk .u64 (((p0.toNat*256+p1.toNat)*2^16:Nat):Int) ((p2.toNat:Int)*256)=((((p0.toNat*256+p1.toNat)*256+p2.toNat)*2^8:Nat):Int):=by
  have:=TV (a:=p0.toNat*256+p1.toNat) (b:=p2.toNat*256) (i:=16) (by omega) (by omega) (by omega);rw[show ((p2.toNat*256:Nat):Int)=(p2.toNat:Int)*256 by omega]at this;rw[this];omega
 have e3:Kk .u64 ((((p0.toNat*256+p1.toNat)*256+p2.toNat)*2^8:Nat):Int) (p3.toNat:Int)=((HT p0 p1 p2 p3:Nat):Int):=by
  rw[TV (a:=(p0.toNat*256+p1.toNat)*256+p2.toNat) (b:=p3.toNat) (i:=8) (by omega) (by omega) (by omega)];unfold HT;omega
 rw[e1,e2,e3];have hV:=On p0 p1 p2 p3;generalize HT p0 p1 p2 p3=V at hV hR;have i1:wrap .i64 (((x.len:Nat):Int)+1)=((x.len+1:Nat):Int):=by rw[AE (by omega)];rfl
 rw[i1,aa];have mZ:((⟨some (⟨0,0,none⟩:Addr),5,5⟩:AA).cut 1 0 (x.len+1) 5)=⟨some ⟨0,0,none⟩,x.len+1,5⟩:=by
  simp[AA.cut]
 refine ⟨by omega,by omega,Lt.of ?_⟩;refine ⟨fun n st v'=>∃(j:Nat) (p':Option Addr) (Bi:AA),st=(j:Int)/\n=x.len+1-j/\j<=x.len+1/\SF w0 n1 v' b p' Bi (pre++(jL V).take j)/\Ext (fun j=>j=b\/n1<=j) v v',x.len+1,⟨0,p,sl,rfl,rfl,by omega,by simpa using hB,Ext.refl _ _⟩,?_⟩;rintro n st v' ⟨j,p',Bi,rfl,rfl,hj,YS,hE⟩;unfold AAN;rw[i1,aa,mZ];refine Br.dec (fun q=>?_) fun q=>?_
 ·have q:(j:Int)<((x.len+1:Nat):Int):=q;refine ⟨by omega,q,Nn.of ?_⟩;rw[add_lit,aa,show 0+j*1=j by omega];have hPv:=hP.AB hE (by
   rintro (h|h)
   ·exact hpb h
   ·omega)
  refine Ld.mk (x:=((HR.getD j 0:Nat):Int)) (hPv j (by omega)) ?_;have HX:0<HR.getD j 0:=by
   have:∀i:Fin 5,0<HR.getD i.val 0:=by decide
   exact this ⟨j,by omega⟩
  refine ⟨by omega,Lt.of ?_⟩;have hm:V/HR.getD j 0%85<85:=cX _ (by decide);have hd:V/HR.getD j 0<=V:=en _ _;have ev:wrap .u8 (wrap .u64 (33+(Int.tmod (wrap .u64 (Int.tdiv (V:Int) ((HR.getD j 0:Nat):Int))) 85)))=((UInt8.ofNat (33+V/HR.getD j 0%85)).toNat:Int):=by
   rw[Km (by omega),<-dA];generalize V/HR.getD j 0=q at hm hd⊢;rw[u64 (q:Int) (by omega) (by omega),F0 (by omega),u64 (33+(q:Int)%85) (by omega) (by omega),Hu (by omega),VU hm];omega
  rw[ev];have hz:=hE.size;have hl5:((jL V).take j).length<=5:=by rw[au,HW];omega
  refine (fL YS (by omega) (by rw[ae];omega)).mono ?_;rintro r v2 ⟨sl2,jK,hE2⟩;refine ⟨x.len+1-(j+1),by omega,j+1,some ⟨b,0,none⟩,sl2,by rw[AE (by omega)];rfl,rfl,by omega,?_,hE.tr hE2⟩;rw[PK (PX V (by omega)),<-ax];exact jK
 ·have Jx:j=x.len+1:=by
   have q:¬(j:Int)<((x.len+1:Nat):Int):=q;omega
  subst Jx;exact hR v' p' Bi YS hE
theorem YX {R:World->Prop}(hB:SF w0 n1 w b p sl pre)(hn:n1<=w.heap.size)(hx:Bh w x 1 (Bw four))(h1:1<=four.length)(h4:four.length<=4)(hP:PW w)(hp:0<n1)(hpb:0≠b)(hs:pre.length<=1000000000)
  (hR:∀v' p' Bi,SF w0 n1 v' b p' Bi (pre++enc four)->Ext (fun j=>j=b\/n1<=j) w v'->R v'):ACJ ⟨b,0,none⟩ x w R:=by
 unfold ACJ;have II:x.len=four.length:=by have:=hx.1;rw[An]at this;omega
 have Ac9:=hB.AS.lt;refine (Hn.start w).nw (cs:=[.int .u8 0,.int .u8 0,.int .u8 0,.int .u8 0]) fun w6 H=>?_
 simp only[ag,add_lit,aj]at H⊢;refine H.st 0 rfl (by simp) fun w7 H=>?_
 refine H.st 0 rfl (by simp) fun w8 H=>?_
 refine H.st 0 rfl (by simp) fun w9 H=>?_
 refine H.st 0 rfl (by simp) fun IY H=>?_
 simp only[ai,aq]at H;have mZ:((⟨some (⟨w.heap.size,0,none⟩:Addr),4,4⟩:AA).cut 1 0 4 4)=⟨some ⟨w.heap.size,0,none⟩,4,4⟩:=by simp[AA.cut]
 rw[mZ];have AHm:=H.get 0 rfl;have JO:=H.ext;have APE:=hx.AB JO;have hxp:∃a,x.p=some a:=by
  obtain ⟨a,ha,_⟩:=hx.2 0 _ (Oo (byte_at (t:=four) (i:=0) (by omega)));exact ⟨a,ha⟩
 obtain ⟨a,ha⟩:=hxp;obtain ⟨xp,xl,xc⟩:=x;simp only at ha II;subst ha;have TY:∀j u,(Bw four)[j]?=some u->IY.cell? (a.add j)=some u:=fun j u hj=>by
  obtain ⟨a',Oq,hc⟩:=APE.2 j u hj;cases Oq;exact hc
 have Ag:=run_copy_row (P:=prog) IY 108 108 3 5 w.heap.size 0 4 4 a xl xc #[.int .u8 0,.int .u8 0,.int .u8 0,.int .u8 0] 114 (Bw four) Bj (by
  obtain ⟨i,hi,A1,_⟩:=Ie;rw[hi];exact bI some A1) AHm (by rw[An];show four.length=min xl 4;omega) TY (by rw[An];show 0+four.length<=4;omega) (TQ four)
 obtain ⟨b1,b2⟩:=F1 AHm ((#[Value.int .u8 0,.int .u8 0,.int .u8 0,.int .u8 0]).toList.take 0++Bw four++(#[Value.int .u8 0,.int .u8 0,.int .u8 0,.int .u8 0]).toList.drop (0+(Bw four).length)).toArray;generalize IY.setRow w.heap.size ((#[Value.int .u8 0,.int .u8 0,.int .u8 0,.int .u8 0]).toList.take 0++Bw four++(#[Value.int .u8 0,.int .u8 0,.int .u8 0,.int .u8 0]).toList.drop (0+(Bw four).length)).toArray=Ef at Ag b1 b2;refine ⟨_,Ef,Ag,?_⟩;have APF:∃p0 p1 p2 p3,(((#[Value.int .u8 0,.int .u8 0,.int .u8 0,.int .u8 0]).toList.take 0++Bw four++(#[Value.int .u8 0,.int .u8 0,.int .u8 0,.int .u8 0]).toList.drop (0+(Bw four).length))=Bw [p0,p1,p2,p3])/\Cu four=HT p0 p1 p2 p3/\(four.length=4->four=[p0,p1,p2,p3]):=by
  match four,h1,h4 with
  |[a0],_,_=>exact ⟨a0,0,0,0,rfl,rfl,fun h=>by cases h⟩
  |[a0,a1],_,_=>exact ⟨a0,a1,0,0,rfl,rfl,fun h=>by cases h⟩
  |[a0,a1,a2],_,_=>exact ⟨a0,a1,a2,0,rfl,rfl,fun h=>by cases h⟩
  |[a0,a1,a2,a3],_,_=>exact ⟨a0,a1,a2,a3,rfl,rfl,fun _=>rfl⟩
 obtain ⟨p0,p1,p2,p3,q1,q2,q3⟩:=APF;rw[q1]at b1;have eW:Ext (fun j=>j=b\/n1<=j) w Ef:=(JO.mono fun _ _ e=>e.elim).trans (G:=(·=w.heap.size)) b2 (fun _ h=>h) fun j _ e=>by have e:j=w.heap.size:=e;omega
 have TU:Ext (fun _=>False) w Ef:=Ext.IG JO b2 fun j e=>by have e:j=w.heap.size:=e;omega
 have AHn:=hB.AB TU;have APG:PW Ef:=hP.AB TU id;have AdB:=TU.size;refine CP.intro ?_;have join:enc four=(jL (Cu four)).take (four.length+1)->fM w ⟨b,0,none⟩ ⟨some a,xl,xc⟩ R () Ef:=fun he=>jP AHn (by omega) b1 (by show 1<=xl;omega) (by show xl<=4;omega) APG hp hpb hs fun v' p' Bi YS YY=>hR v' p' Bi (by
  have hx:xl+1=four.length+1:=by omega
  rw[he,q2,<-hx];exact YS) (eW.tr YY)
 refine Br.eq (fun q=>?_) fun q=>?_
 ·have q:((xl:Nat):Int)=4:=q;have hf:=q3 (by omega);refine Ld.of (x:=(p0.toNat:Int)) b1 rfl (Ld.of (x:=(p1.toNat:Int)) b1 rfl (Ld.of (x:=(p2.toNat:Int)) b1 rfl (Ld.of (x:=(p3.toNat:Int)) b1 rfl ?_)));refine ⟨_,Ef,vq Ef _ _ _ _ _ _,?_⟩;cases hz:((p0.toNat:Int)==0&&((p1.toNat:Int)==0&&((p2.toNat:Int)==0&&(p3.toNat:Int)==0)))with
  |true=>
   simp only[ay,beq_iff_eq]at hz;have zz:∀c:UInt8,(c.toNat:Int)=0->c=0:=fun c h=>UInt8.toNat_inj.1 (by show c.toNat=0;omega)
   have hf0:four=[0,0,0,0]:=by rw[hf,zz _ hz.1,zz _ hz.2.1,zz _ hz.2.2.1,zz _ hz.2.2.2]
   refine Br.t rfl ?_;refine (fL (c:=122) AHn (by omega) (by omega)).mono ?_;rintro r v2 ⟨sl2,jK,hE2⟩;refine hR v2 (some ⟨b,0,none⟩) sl2 ?_ (eW.tr hE2);unfold enc;rw[ak hf0];exact jK
  |false=>
   refine Br.f rfl (join ?_);unfold enc;rw[ah];intro h;rw[hf]at h;simp only[List.cons.injEq,and_true]at h;obtain ⟨rfl,rfl,rfl,rfl⟩:=h;exact absurd hz (by decide)
 ·refine join ?_;unfold enc;rw[ah];intro h;rw[h]at II;have q:¬((xl:Nat):Int)=4:=q;have:xl=4:=II;omega
end
end Ac
set_option maxRecDepth 100000
set_option maxHeartbeats 2000000
namespace Ac
open Sh lK
open Go.RowKit
theorem ntS:Tryz.f81.ntmps=14:=by kernel_rfl
theorem vu {w:World}{g b cap:Nat}{cur:Array Value}{p:Value}{l:By}(Jy:w.heap[b]?=some (.cells #[p,.slice (some ⟨g,0,none⟩) l.length cap] 110 (0,0)))(hg:w.heap[g]?=some (.cells cur 5 (0,0)))
  (h0:l≠[]) (hnc:l.length<=cap) (hcm:cap<=maxLen) (Oj:cur.size=cap) (AHo:cur.toList.take l.length=Lib.byteCells l):
  Calls prog 81 #[.pointer (some ⟨b,0,none⟩)] w fun e w'=>e= .returned (.string ⟨l.toArray⟩)/\w'=w.drew.freeze ⟨g,0,none⟩ l.length:=by
 have vv:l.length≠0:=by simpa using h0
 have c1:w.drew.cell? ⟨b,1,none⟩=some (.slice (some ⟨g,0,none⟩) l.length cap):=by
  have:w.drew.heap[b]?=some (.cells #[p,.slice (some ⟨g,0,none⟩) l.length cap] 110 (0,0)):=Jy;rw[Lib.cell_of_heap this];rfl
 have hSD:(Builtin.unsafeSliceData_ #[108] 146 #[.slice (some ⟨g,0,none⟩) l.length cap]).run prog w.drew= .ok (.pointer (some ⟨g,0,none⟩)) w.drew:=
  Lib.run_unsafeSliceData_row _ _ _ _ _ _ (by omega)
 have hUS:(Builtin.unsafeString_ #[146,3] 9 #[.pointer (some ⟨g,0,none⟩),.int .i64 l.length]).run prog w.drew= .ok (.string ⟨l.toArray⟩) (w.drew.freeze ⟨g,0,none⟩ l.length):=by
  refine Lib.run_unsafeString_row w.drew 146 3 9 5 Tryz.underlying146 (by kernel_rfl) g cur.size (by have IJ:w.drew.heap[g]?=some (.cells cur 5 (0,0)):=hg;simp[World.shape?,IJ]) l h0 (by omega) (by unfold maxLen at hcm;omega) ?_;intro j x hx;have IJ:w.drew.heap[g]?=some (.cells cur 5 (0,0)):=hg;rw[add_lit,aj,Lib.cell_of_heap IJ];have hj:=(ao.1 hx).1;have h1:(cur.toList.take l.length)[j]?=some (.int .u8 (x.toNat:Int)):=by rw[AHo];simp[Lib.byteCells,hx]
  rw[aU,ak hj]at h1;simpa using h1
 have mixed:prog.follows .mixedOrders=true:=by kernel_rfl
 have t72:=Tryz.underlying110;have a72:=Tryz.isAgg110;have z72:=Tryz.sizeOf110;have v72:=Tryz.zeroValue110;have u72:=run_underlying t72;have t70:=Tryz.underlying107;have a70:=Tryz.isAgg107;have z70:=Tryz.sizeOf107;have v70:=Tryz.zeroValue107;have u70:=run_underlying t70;have t37:=Tryz.underlying108;have a37:=Tryz.isAgg108;have z37:=Tryz.sizeOf108;have v37:=Tryz.zeroValue108;have u37:=run_underlying t37;have t127:=Tryz.underlying146;have a127:=Tryz.isAgg146;have z127:=Tryz.sizeOf146;have v127:=Tryz.zeroValue146;have AdD:=run_underlying t127;have t3:=Tryz.underlying3;have a3:=Tryz.isAgg3;have z3:=Tryz.sizeOf3;have v3:=Tryz.zeroValue3;have u3:=run_underlying t3;have t9:=Tryz.underlying9;have a9:=Tryz.isAgg9;have z9:=Tryz.sizeOf9;have v9:=Tryz.zeroValue9;have u9:=run_underlying t9
 go_enter Tryz.func81,ntS
 go_wp2
 go_region_o
 all_goals (go_wp2;go_ret;exact ⟨rfl,rfl⟩)
theorem YZ (w:World)(g n:Nat):Ext (·=g) w (w.drew.freeze ⟨g,0,none⟩ n):=by
 unfold World.freeze;split
 ·exact (Ext.refl _ w).drew
 ·refine ⟨rfl,rfl,rfl,by simp,fun k hk hn=>?_⟩;have hn:¬k=g:=hn;simp only[Array.getElem?_modify];rw[ah (fun e=>hn e.symm)]
  rfl
section
variable {w0 w w' w1:World} {b n1:Nat} {l:By} {p:Option Addr} {sl:AA}
theorem vx (h:SF w0 n1 w b p sl l)(hn:sl=⟨none,0,0⟩\/l≠[]):C81 (some ⟨b,0,none⟩) w fun r w'=>r=ba l/\Ext (fun j=>n1<=j) w w':=by
 have Jy:=h.AS;unfold AO at Jy;rcases h.row.2 with ⟨hv,hl⟩|⟨g,cap,cur,hv,h1,h2,h3,h4,h5,h6⟩
 ·have hl:l=[]:=aw hl;subst hl;rw[hv]at Jy;refine (Any.Builder_String_nil Tryz.TZ Tryz.BR w.heap.size b (.pointer p) w Jy).mono ?_;rintro e w' ⟨rfl,hb⟩;exact ⟨_,rfl,rfl,⟨hb.os,hb.tape,hb.output,hb.size,fun k hk _=>hb.block k hk⟩⟩
 ·have A2:l≠[]:=hn.elim (fun e=>by rw[e]at hv;cases hv) id;rw[hv]at Jy;rw[aH]at h5 h6;refine (vu Jy h2 A2 h3 h4 h5 h6).mono ?_;rintro e w' ⟨rfl,rfl⟩;exact ⟨_,rfl,rfl,(YZ w g l.length).mono fun j _ e=>by have e:j=g:=e;omega⟩
end
end Ac
set_option maxHeartbeats 4000000
namespace Ac
open Sh lK
open Go.RowKit
def OG (d:By)(k:Nat):By:=(List.range k).flatMap fun j=>enc ((d.drop (4*j)).take 4)
theorem MN (d:By)(k:Nat):OG d (k+1)=OG d k++enc ((d.drop (4*k)).take 4):=by
 unfold OG;rw[ej,bJ];simp
theorem ACN (f:By):enc f≠[]:=by
 unfold enc;split
 ·simp
 ·intro h;have:=bI List.length h;rw[au,HW]at this;simp at this
theorem vy (f:By):(enc f).length<=5:=by
 unfold enc;split
 ·simp
 ·rw[au,HW];omega
theorem Pd (d:By):∀k,(OG d k).length<=5*k
 |0=>by simp[OG]
 |k+1=>by
  have h1:=Pd d k;have h2:=vy ((d.drop (4*k)).take 4);rw[MN,ae];omega
theorem AAO (d:By):∀(m k:Nat),k+m=(d.length+3)/4->∃t,OG d (k+m)++[126,62]=OG d k++t/\F5 t (d.drop (4*k))
 |0,k,h=>⟨[126,62],rfl,by
  rw[bR (by omega)];exact .fin⟩
 |m+1,k,h=>by
  obtain ⟨t,h1,h2⟩:=AAO d m (k+1) (by omega);rw[show k+(m+1)=k+1+m by omega,h1,MN,ax];refine ⟨_,rfl,?_⟩;have Am:4*k<d.length:=by omega
  have hd:d.drop (4*k)=(d.drop (4*k)).take 4++d.drop (4*(k+1)):=by
   rw[show 4*(k+1)=4*k+4 by omega,<-List.drop_drop,aW]
  by_cases h4:4*k+4<=d.length
  ·have hl:((d.drop (4*k)).take 4).length=4:=by rw[au,aJ];omega
   generalize (d.drop (4*k)).take 4=f at hl hd⊢;rw[hd]
   match f,hl with
   |[a,b,c,e],_=>
    show F5 (enc [a,b,c,e]++t) _;unfold enc;by_cases hz:[a,b,c,e]=[0,0,0,0]
    ·rw[ak hz];simp only[List.cons.injEq,and_true]at hz;obtain ⟨rfl,rfl,rfl,rfl⟩:=hz;exact .z h2
    ·rw[ah hz];exact .four h2
  ·have hm:m=0:=by omega
   subst hm;have ht:t=[126,62]:=by
    rw[bY]at h1;exact (List.append_cancel_left h1).symm
   subst ht;have hl:((d.drop (4*k)).take 4)=d.drop (4*k):=aX (by rw[aJ];omega);rw[hl];have hlen:(d.drop (4*k)).length=d.length-4*k:=aJ;generalize d.drop (4*k)=f at hlen;unfold enc;rw[ah (fun e=>by rw[e]at hlen;simp at hlen;omega)];exact .part (by omega) (by omega)
theorem Ext.put{F:Nat->Prop}{a w:World}(h:Ext F a w){l:Nat}(o:Obj)(hl:F l\/a.heap.size<=l):Ext F a (w.putObj l o):=
 ⟨h.os,h.tape,h.output,by have:=h.size;simp[World.putObj];exact this,fun i hi hn=>by
  have A2:i≠l:=fun e=>by
   subst e;rcases hl with hl|hl
   ·exact hn hl
   ·omega
  rw[World.putObj_heap_other A2];exact h.block i hi hn⟩
theorem fN:∀{E:Env} {t:Nat} {v:Value},E.get? t=some v->(t,v)∈E
 |(s,u)::r,t,v,h=>by
  unfold Env.get? at h;cases hb:Nat.beq s t with
  |true=>
   rw[hb]at h;simp only[bE]at h;rw[<-h,<-cS hb];exact aT ..
  |false=>
   rw[hb]at h;exact aC _ (fN h)
theorem MO {N:Nat}{E E':Env}{a a':Act}(h:Fits N E a)(ht:a'.tmps=a.tmps)(hp:∀p∈E',E.get? p.1=some p.2):Fits N E' a':=⟨by rw[ht];exact h.size,fun t v hv=>by
 rw[ht];exact h.get t v (hp _ (fN hv))⟩
structure JF (w0:World) (D b n1:Nat) (rec:Loop) (pre:By) (W:World):Prop where
 rc:W.heap[D+1]?=some (.loop rec)
 df:W.heap[D]?=some (.deferred (some []))
 bu:∃p sl,SF w0 n1 W b p sl pre/\(sl=⟨none,0,0⟩\/pre≠[])
 ext:Ext (fun _=>False) w0 W
 sz:n1<=W.heap.size
section
variable {w0 w W W0 W':World} {D b n1:Nat} {rec:Loop} {pre four d:By} {x sx:AA}
theorem JF.AB(h:JF w0 D b n1 rec pre W)(he:Ext (fun _=>False) W W'):JF w0 D b n1 rec pre W':=by
 obtain ⟨p,sl,h1,h2⟩:=h.bu;exact ⟨(he.block _ (aL.1 h.rc).1 id).trans h.rc,(he.block _ (aL.1 h.df).1 id).trans h.df,⟨p,sl,h1.AB he,h2⟩,h.ext.tr he,by have:=h.sz;have:=he.size;omega⟩
attribute [local irreducible] Ld Sh.St Nw Nn AP
theorem vz {fn:FuncId}{tmps:Array Value}{K:Bool->World->Prop}(hj0:JF w0 D b n1 (Cn fn tmps #[13] KC KD D) pre W0)(hE:Ext (fun _=>False) W0 W)(A1:w0.heap.size<=b/\b<D/\D+1<n1)(hP:PW w0)(hp:0<w0.heap.size)
  (hx:Bh W x 1 (Bw four)) (hxo:∀j,x.own j->j≠D+1) (h1:1<=four.length) (h4:four.length<=4) (hs:pre.length<=1000000000) (hf:Fits 64 [(3,.pointer (some ⟨b,0,none⟩))] {tmps:=tmps,defers:=[]})
  (hK:∀W',JF w0 D b n1 (Cn fn tmps #[13] KC KD D) (pre++enc four) W'->Ext (fun j=>j=D+1\/j=b\/n1<=j) W W'->K true W'):Yl prog (D+1) #[AA.v x] W K:=by
 obtain ⟨s1,s2,s3⟩:=A1;have hj:=hj0.AB hE;refine wB (N:=64) (F:=⟨FF,Ig,fun _ _=>False⟩) okF (fun _ _ h=>h) hj.rc rfl (E:=[(13,AA.v x),(3,.pointer (some ⟨b,0,none⟩))]) ?_ (pa:=AHp) (pb:=AHq) (by kernel_rfl) (by kernel_rfl) ?_
 ·have e9:Ta #[13] #[AA.v x] tmps=tmps.setIfInBounds 13 (AA.v x):=by simp[Ta]
  rw[e9];exact hf.put (d:=some 13) (v:=AA.v x) (fun t ht=>by cases ht;decide)
 rw[APH];unfold AHr;refine ⟨hj.rc,?_⟩;rw[API];have hD6:=(aL.1 hj.rc).1;have eP:Ext (·=D+1) W (W.putObj (D+1) (.loop {Cn fn tmps #[13] KC KD D with state:= .busy})):=Ext.put (Ext.refl _ _) _ (.inl rfl);have h0:(W.putObj (D+1) (.loop {Cn fn tmps #[13] KC KD D with state:= .busy})).heap[D+1]?=_:=World.putObj_heap_same hD6;generalize W.putObj (D+1) (.loop {Cn fn tmps #[13] KC KD D with state:= .busy})=u at eP h0⊢;obtain ⟨p,sl,q1,q2⟩:=hj.bu;have A1:=hj.sz;have hus:=eP.size;have hDu:=(aL.1 h0).1;refine YX (n1:=n1) (q1.AI eP (by omega) fun j e=>by have e:j=D+1:=e;omega) (by omega) (hx.AI eP fun j hj e=>hxo j hj e) h1 h4 ((hP.AB hj.ext id).AB eP (by omega)) (by omega) (by omega) hs fun v p' Bi hB YY=>?_
 have u0:v.heap[D+1]?=some (.loop {Cn fn tmps #[13] KC KD D with state:= .busy}):=(YY.block (D+1) hDu (by omega)).trans h0;have hDv:=(aL.1 u0).1;refine ⟨u0,hK _ ?_ ?_⟩
 ·have EP:Ext (·=D+1) v (v.putObj (D+1) (.loop (Cn fn tmps #[13] KC KD D))):=Ext.put (Ext.refl _ _) _ (.inl rfl);have hdf:u.heap[D]?=some (.deferred (some [])):=(eP.block D (by omega) (by omega)).trans hj.df;have hvs:=YY.size;refine ⟨World.putObj_heap_same hDv,(World.putObj_heap_other (by omega)).trans ((YY.block D (by omega) (by omega)).trans hdf),⟨p',Bi,hB.AI EP (by omega) fun j e=>by have e:j=D+1:=e;omega,.inr fun h=>ACN four (List.append_eq_nil_iff.1 h).2⟩,?_,?_⟩
  ·have:=hj.ext.size;exact Ext.put (Ext.IG (Ext.IG hj.ext eP fun j e=>by have e:j=D+1:=e;omega) YY fun j h=>by rcases h with h|h<;>omega) _ (.inr (by omega))
  ·have:=EP.size;omega
 ·refine Ext.put ?_ _ (.inl (.inl rfl));exact Ext.trans (F:=(·=D+1)) (G:=fun j=>j=b\/n1<=j) eP YY (fun _ h=> .inl h) fun j _ h=> .inr h
theorem wC {l c3 c4:Nat}{J:By->World->Prop}{F:Nat->Prop}(h3:AO W c3 #[AA.v sx] 108)(h4:AO W c4 #[.int .i64 4] 3)(hn3:¬F c3)(hn4:¬F c4)(hv:Bh W sx 1 (Bw d))(hc:sx.len<=sx.cap)(ho:∀j,sx.own j->¬F j)(hd:d.length<=1000000)
  (hJ:∀(pre:By) (W W':World),J pre W->Ext (fun _=>False) W W'->J pre W')
  (hY:∀(pre four:By) (x:AA) (W0:World) (K:Bool->World->Prop),J pre W0->Bh W0 x 1 (Bw four)->(∀j,x.own j->sx.own j)->1<=four.length->four.length<=4->pre.length<=1000000000->(∀W',J (pre++enc four) W'->Ext F W0 W'->K true W')->Yl prog l #[AA.v x] W0 K)
  (hj:J [] W):Ya l ⟨c3,0,none⟩ ⟨c4,0,none⟩ W fun W'=>J (OG d ((d.length+3)/4)) W':=by
 have Ga:sx.len=d.length:=by have:=hv.1;rw[An]at this;omega
 refine ⟨fun n st v=>∃k:Nat,st=((4*k:Nat):Int)/\n=(d.length+3)/4-k/\k<=(d.length+3)/4/\J (OG d k) v/\AO v c3 #[AA.v sx] 108/\AO v c4 #[.int .i64 4] 3/\Bh v sx 1 (Bw d),(d.length+3)/4,⟨0,rfl,rfl,by omega,hj,h3,h4,hv⟩,?_⟩;rintro n st v ⟨k,rfl,rfl,hk,hj,h3,h4,hv⟩;unfold VW;refine Ld.of h3 rfl (Br.dec (fun q=>?_) fun q=>?_)
 ·have Am:4*k<d.length:=by omega
  have d3:AO v.drew c3 #[AA.v sx] 108:=h3;have d4:AO v.drew c4 #[.int .i64 4] 3:=h4;refine Ld.of d4 rfl (Ld.of d3 rfl ⟨by omega,by omega,Lt.of ?_⟩);have APK:(sx.cut 1 (((4*k:Nat):Int).toNat) sx.len sx.cap).len=sx.len-4*k:=by rw[aa];rfl
  rw[APK];obtain ⟨e,he⟩:∃e:Nat,(if (((sx.len-4*k:Nat):Nat):Int)<4 then (((sx.len-4*k:Nat):Nat):Int)else 4)=(e:Int)/\e=min (d.length-4*k) 4:=⟨min (d.length-4*k) 4,by split<;>omega,rfl⟩
  obtain ⟨he,JP⟩:=he;rw[he];have i1:wrap .i64 (((4*k:Nat):Int)+(e:Int))=((4*k+e:Nat):Int):=by rw[AE (by omega)];omega
  rw[i1];simp only[aa];refine Ld.of d3 rfl ⟨by omega,by omega,by omega,by omega,by omega,by omega,?_⟩;have e0:Ext (fun _=>False) v v.drew:=(Ext.refl _ v).drew;have fO:((d.drop (4*k)).take 4).length=e:=by rw[au,aJ];omega
  have hxv:Bh v.drew (sx.cut 1 (4*k) (4*k+e) (4*k+e)) 1 (Bw ((d.drop (4*k)).take 4)):=by
   refine ⟨?_,fun j u hj=>?_⟩
   ·rw[An,fO];show e=(4*k+e-4*k)*1;omega
   ·have lO:(Bw d)[4*k+j]?=some u:=by
     unfold Bw at hj⊢;rw[List.map_take,List.map_drop,aU]at hj;split at hj
     ·rw[bW]at hj;exact hj
     ·cases hj
    obtain ⟨a,ha,Es⟩:=(hv.AB e0).2 _ _ lO;refine ⟨a.add (4*k*1),?_,?_⟩
    ·unfold AA.cut;rw[ah (by omega),ha]
     rfl
    ·rw[BN,aH];exact Es
  refine hY (OG d k) _ _ _ _ (hJ _ _ _ hj e0) hxv (fun j hj=>?_) (by omega) (by omega) (by have:=Pd d k;omega) fun W' lO hE=>?_
  ·unfold AA.own at hj⊢;obtain ⟨a,ha,hb⟩:=hj;unfold AA.cut at ha;simp only at ha;rw[ah (by omega)]at ha;obtain ⟨a',Oq,rfl⟩:=bg.1 ha;exact ⟨a',Oq,by rw[<-hb,Bl]⟩
  ·have g3:=hE.AS d3 hn3;have g4:=hE.AS d4 hn4;refine Br.f rfl (Ld.of g4 rfl ⟨(d.length+3)/4-(k+1),by omega,k+1,?_,rfl,by omega,?_,g3,g4,(hv.AB e0).AI hE ho⟩)
   ·rw[AE (by omega)];omega
   ·rw[MN];exact lO
 ·have YD:k=(d.length+3)/4:=by omega
  subst YD;exact hj
end
end Ac
namespace Ac
open Sh lK
open Go.RowKit
theorem jQ:Tryz.f51.body=some (.seq AHs (.seq AHt (.seq (.seq AHu (.block 0 (.rangeFunc (.tmp 12) #[13] KC KD))) ACQ))):=by kernel_rfl
attribute [local irreducible] Ld Sh.St Nw Nn AP
abbrev pa (b:Nat):Value:= .pointer (some ⟨b,0,none⟩)
theorem ACR {s:ByteArray}(hs:s.size<=1000000)(w:World)(hP:PW w)(hp:0<w.heap.size):C51 s w fun r w1=>F5 (bl r) (bl s)/\r.size<=5*((s.size+3)/4)+2/\Ext (fun _=>False) w w1:=by
 refine (callsIn_wide (n:=0)).1 ?_;refine callsIn_of_wp_marks Tryz.func51 jQ trivial ?_ rfl;have hf0:Fits 64 [(0,.string s)] {tmps:=#[.string s]++Array.replicate (Tryz.f51.ntmps-#[Value.string s].size) undef,defers:=[]}:=VX (args:=[.string s]) (n:=64) (by simp);obtain ⟨a0,ha0,hd0⟩:∃a0:Act,a0={tmps:=#[.string s]++Array.replicate (Tryz.f51.ntmps-#[Value.string s].size) undef,defers:=[]}/\a0.defers=[]:=⟨_,rfl,rfl⟩
 rw[<-ha0]at hf0⊢;clear ha0;refine ACS (F:=⟨FF,Ig,fun _ _=>False⟩) VY.wide okF (fun _ _ h=>h) (pl:=AHv) (K:=fun E w1=>E=[(2,.string ⟨#[]⟩),(0,.string s)]/\w1=w) (by
  rw[APL];exact ⟨rfl,rfl⟩) hf0 (by kernel_rfl) ?_
 rintro E a1 w1 ⟨rfl,rfl⟩ lQ Tb;rw[hd0]at Tb;refine ACS (F:=⟨FF,Ig,fun _ _=>False⟩) VY.wide okF (fun _ _ h=>h) (pl:=AHw) (K:=fun E w2=>E=[(3,pa w1.heap.size),(2,.string ⟨#[]⟩),(0,.string s)]/\AO w2 w1.heap.size #[.pointer none,AA.v ⟨none,0,0⟩] 110/\Ext (fun _=>False) w1 w2) (by
  rw[APM];exact Nw.of ⟨rfl,AO.new _ _ _,(Ext.refl _ _).alloc _⟩) lQ (by kernel_rfl) ?_
 rintro E a2 w2 ⟨rfl,jK,e2⟩ hf2 hd2;rw[Tb]at hd2;have l2:=jK.lt;refine wpIn_seq ?_;refine ACS (F:=⟨FF,Ig,fun _ _=>False⟩) VY.wide okF (fun _ _ h=>h) (pl:=AHy) (K:=fun E w4=>∃(c3 c4:Nat) (sx:AA),E=[(12,.func (.func 103) #[] #[pa c3,pa c4]),(11,AA.v sx),(10,.string s),(3,pa w1.heap.size),(2,.string ⟨#[]⟩),(0,.string s)]/\w2.heap.size<=c3/\c3<w4.heap.size/\w2.heap.size<=c4/\c4<w4.heap.size/\Ext (fun _=>False) w2 w4/\
   AO w4 c3 #[AA.v sx] 108/\AO w4 c4 #[.int .i64 4] 3/\Bh w4 sx 1 (Bw (bl s))/\sx.len<=sx.cap/\∀j,sx.own j->w2.heap.size<=j/\j<w4.heap.size) (by
  rw[APN];unfold AHz;obtain ⟨sx,w3,hr,hMM,hE,hO⟩:=Yb w2 s;have hM:=hMM.toR;refine ⟨sx,w3,hr,T79 _ _ _ _ _ ?_⟩;unfold S79;have hz:=hE.size;have Rm:sx.len<=sx.cap:=by
   rcases hMM.2 with h|⟨g,cur,hp,hg,hle,ht⟩
   ·rw[h];exact av _
   ·exact hle
  refine (Hn.start w3).nw (cs:=[AA.v sx]) fun w4 H=>?_
  have Am:w3.heap.size<w4.heap.size:=H.lt 0 rfl;refine H.nw (cs:=[.int .i64 4]) fun w5 H=>?_
  simp only[ag,ar]at H;have ACU:w4.heap.size<w5.heap.size:=H.lt 1 rfl;refine H.ld 1 rfl rfl (Br.f rfl ?_);refine ⟨w3.heap.size,w4.heap.size,sx,rfl,by omega,by omega,by omega,by omega,hE.tr H.ext,H.get 0 rfl,H.get 1 rfl,(Bx.view hM).AB H.ext,Rm,fun j hj=>⟨hO j hj,by have:=hM.own_lt hj;omega⟩⟩) hf2 (by kernel_rfl) ?_
 rintro E a4 w4 ⟨c3,c4,sx,rfl,k3,k3',k4,k4',e4,b3,b4,hv,Rm,hO⟩ hf4 hd4;rw[hd2]at hd4;have hev:a4.eval (.tmp 12)= .func (.func 103) #[] #[pa c3,pa c4]:=hf4.A3 (x:= .tmp 12) rfl;refine wpIn_block ?_;refine AH0 okF hev (by kernel_rfl) fun fn=>?_
 obtain ⟨wr,hwr⟩:∃wr,wr=rfW w4 fn a4.tmps #[13] KC KD:=⟨_,rfl⟩
 have er:Ext (fun _=>False) w4 wr:=by rw[hwr];exact ((Ext.refl _ w4).alloc _).alloc _
 have hr1:wr.heap[w4.heap.size+1]?=some (.loop (Cn fn a4.tmps #[13] KC KD w4.heap.size)):=by
  rw[hwr];have:=World.alloc_heap_new (w4.alloc (.deferred (some []))) (.loop (Cn fn a4.tmps #[13] KC KD w4.heap.size));rwa[World.size_alloc]at this
 have va:wr.heap[w4.heap.size]?=some (.deferred (some [])):=by
  rw[hwr];exact (Below.heap_alloc _ _ _ (by simp)).trans (World.alloc_heap_new w4 _)
 have hsr:w4.heap.size+1<wr.heap.size:=(aL.1 hr1).1;have z2:=e2.size;have z4:=e4.size;have e24:=e2.tr (e4.tr er);have hj0:JF w1 w4.heap.size w1.heap.size wr.heap.size (Cn fn a4.tmps #[13] KC KD w4.heap.size) [] wr:=⟨hr1,va,⟨none,⟨none,0,0⟩,⟨av _,.inl rfl,(e4.tr er).AS jK id,⟨rfl,.inl ⟨rfl,rfl⟩⟩,by omega⟩,.inl rfl⟩,e24,av _⟩
 rw[<-hwr];have A1:(bl s).length<=1000000:=by rw[<-AQ];exact hs
 refine (ACX (w4.heap.size+1) ⟨c3,0,none⟩ ⟨c4,0,none⟩ wr _ (wC (d:=bl s) (J:=JF w1 w4.heap.size w1.heap.size wr.heap.size (Cn fn a4.tmps #[13] KC KD w4.heap.size)) (F:=fun j=>j=w4.heap.size+1\/j=w1.heap.size\/wr.heap.size<=j)
  (er.AS b3 id) (er.AS b4 id) (by omega) (by omega) (hv.AB er) Rm (fun j hj=>by have:=hO j hj;omega) A1 (fun pre W W' h he=>h.AB he)
  (fun pre four x W0 K hj hx hxo h1 h4 hp5 hK=>vz hj (Ext.refl _ _) ⟨av _,by omega,by omega⟩ hP hp hx (fun j hj=>by have:=hO j (hxo j hj);omega) h1 h4 hp5 (MO hf4 rfl fun p hp=>by rw[az.1 hp];rfl) hK) hj0)).mono ?_
 rintro e W2 ⟨rfl,Jx⟩;refine ⟨⟨_,rfl⟩,Jx.rc,?_⟩;obtain ⟨t,ht1,vB⟩:=AAO (bl s) (((bl s).length+3)/4) 0 (by omega);have OH:=Pd (bl s) (((bl s).length+3)/4);have ht:t=OG (bl s) (((bl s).length+3)/4)++[126,62]:=by
  rw[aj]at ht1;rw[ht1]
  rfl
 rw[ht,Nat.mul_zero,cV]at vB;rw[<-AQ]at vB OH;rw[<-AQ]at Jx;generalize OG (bl s) ((s.size+3)/4)=L at Jx vB OH;have D2:=(aL.1 Jx.rc).1;have D1:=(aL.1 Jx.df).1;obtain ⟨p,sl,q1,q2⟩:=Jx.bu;have eP:Ext (·=w4.heap.size+1) W2 (W2.putObj (w4.heap.size+1) (.loop {Cn fn a4.tmps #[13] KC KD w4.heap.size with state:= .exhausted})):=Ext.put (Ext.refl _ _) _ (.inl rfl);refine wpIn_mono (wpIn_wide.2 (Ih (N:=64) (F:=⟨FF,Ig,fun _ _=>False⟩) okF Ra ACQ AH2 [(3,pa w1.heap.size)] _
  (rtK fun r W'=>r=ba (L++[126,62])/\W'.heap[w4.heap.size]?=some (.deferred (some []))/\Ext (fun _=>False) w1 W') _ ?_ (MO hf4 rfl fun p hp=>by
   rw[az.1 hp]
   rfl) (by kernel_rfl))) fun e a' w' hq=>?_
 ·rw[APR];unfold AH3;refine (vx (q1.AI eP (by omega) fun j e=>by have e:j=w4.heap.size+1:=e;omega) q2).mono ?_;rintro r w5 ⟨rfl,e5⟩;have mx:IntKind.i64.max=9223372036854775807:=by decide
  have zr:(ba L).size=L.length:=by rw[AQ,CS]
  have z1:(⟨#[126,62]⟩:ey).size=2:=rfl;have zP:=eP.size;have z24:=e24.size;refine ⟨by rw[mx,z1,zr];omega,?_,?_,?_⟩
  ·exact FW (by rw[mE];show bl (ba L)++_=bl (ba _);rw[CS,CS])
  ·exact (e5.block _ (by omega) (by omega)).trans ((eP.block _ D1 (by omega)).trans Jx.df)
  ·exact Ext.IG (Ext.IG Jx.ext eP fun j e=>by have e:j=w4.heap.size+1:=e;omega) e5 fun j h=>by omega
 ·rcases hq with ⟨E',hr,hfe,hse⟩|⟨_,_,hp,_⟩
  ·cases e<;>try exact hr.elim
   unfold rtK at hr;simp only at hr;split at hr
   ·rename_i a g2;obtain ⟨rfl,hdf,KB⟩:=hr;have wD:Fits 64 [(2,.string (ba (L++[126,62])))] a':=MO hfe rfl fun p hp=>by
     rw[az.1 hp];exact g2
    obtain ⟨v,v1,sv,v2,v3⟩:=HY (P:=prog) (fn:=Tryz.f51) (w':=w'.putObj w4.heap.size (.deferred none)) (tys:=[(.one .str)]) wD (R:=fun s' W=>s'=ba (L++[126,62])/\Ext (fun _=>False) w1 W) ⟨rfl,Ext.put KB _ (.inr (by omega))⟩;show LeavesInM _ _ _ _ _ _ a'.defers _ _;rw[hse.2,hd4];refine ⟨by simp,.inl ⟨_,_,rfl,run_takeDeferred hdf,v,v1,sv,v2,?_,?_,v3.2⟩⟩
    ·rw[v3.1,CS];exact vB
    ·rw[v3.1,AQ,CS,ae];show L.length+2<=_;omega
   ·exact hr.elim
  ·exact hp.elim
end Ac
set_option maxRecDepth 512
set_option maxHeartbeats 200000
namespace DS
open Sh
def OI (s:ByteArray)(i:Nat):Int:=((s.data.getD i 0).toNat:Int)
theorem mh (s:ByteArray)(i:Nat):0<=OI s i/\OI s i<=255:=by
 unfold OI;have:=(s.data.getD i 0).toNat_lt;omega
theorem fQ (s:ByteArray)(i:Nat):Cp s (i:Int)=OI s i:=by
 unfold Cp OI;rw[aa]
def bt (s:ByteArray)(AJ:Int)(p:Nat):Int:=if AJ=1 then OI s (p/8)/2^(p%8)%2 else OI s (p/8)/2^(7-p%8)%2
theorem fR (s:ByteArray)(AJ:Int)(p:Nat):0<=bt s AJ p/\bt s AJ p<=1:=by
 unfold bt;split<;>omega
def tk (s:ByteArray)(AJ:Int)(p:Nat):Nat->Int
 |0=>0
 |i+1=>if AJ=1 then tk s AJ p i+bt s AJ (p+i)*2^i else 2*tk s AJ p i+bt s AJ (p+i)
theorem two_pow_pos (i:Nat):(0:Int)<2^i:=Int.pow_pos (by decide)
theorem two_pow_succ (i:Nat):(2:Int)^(i+1)=2*2^i:=by rw[Int.pow_succ];omega
theorem Bz {i j:Nat}(h:i<=j):(2:Int)^i<=2^j:=by
 obtain ⟨d,rfl⟩:=Nat.exists_eq_add_of_le h
 induction d with
 |zero=>exact bH _
 |succ d ih=>have:=ih (by omega);rw[<-cC,two_pow_succ];have:=two_pow_pos (i+d);omega
theorem Pf {i:Nat}(h:i<=24):(2:Int)^i<=16777216:=by
 have:=Bz h;have e:(2:Int)^24=16777216:=by decide
 omega
theorem mi (s:ByteArray)(AJ:Int)(p:Nat):∀i,0<=tk s AJ p i/\tk s AJ p i<2^i
 |0=>by simp[tk]
 |i+1=>by
  have ih:=mi s AJ p i;have hb:=fR s AJ (p+i);have hp:=two_pow_pos i;rw[two_pow_succ];unfold tk;split
  ·have h1:bt s AJ (p+i)=0\/bt s AJ (p+i)=1:=by omega
   rcases h1 with h1|h1<;>rw[h1]<;>omega
  ·omega
theorem mj (s:ByteArray)(p i:Nat):∀j,tk s 1 p (i+j)=tk s 1 (p+i) j*2^i+tk s 1 p i
 |0=>by simp[tk]
 |j+1=>by
  have ih:=mj s p i j;rw[<-cC];simp only[tk,if_true];rw[ih,<-cC,Int.pow_add,Int.add_mul,Int.mul_assoc,Int.mul_comm ((2:Int)^i)];omega
theorem Bm (n x:Nat):BitVec.ofInt n (x:Int)=BitVec.ofNat n x:=by
 apply BitVec.eq_of_toNat_eq;simp
theorem Kp {x y:Nat}(hx:x<2^63)(hy:y<2^63):CY .i64 (x:Int) (y:Int)=((x&&&y:Nat):Int):=by
 unfold CY;rw[Bm,Bm];have h1:(BitVec.ofNat IntKind.i64.bits x&&&BitVec.ofNat IntKind.i64.bits y).toNat=x&&&y:=by
  rw[BitVec.toNat_and,BitVec.toNat_ofNat,BitVec.toNat_ofNat,bA (by simp[IntKind.bits];omega),bA (by simp[IntKind.bits];omega)]
 rw[h1];have h2:x&&&y<2^63:=Nat.and_lt_two_pow x hy;exact AE (by omega)
theorem Td {x y:Nat}(hx:x<2^63)(hy:y<2^63):Kk .i64 (x:Int) (y:Int)=((x|||y:Nat):Int):=by
 unfold Kk;rw[Bm,Bm];have h1:(BitVec.ofNat IntKind.i64.bits x|||BitVec.ofNat IntKind.i64.bits y).toNat=x|||y:=by
  rw[BitVec.toNat_or,BitVec.toNat_ofNat,BitVec.toNat_ofNat,bA (by simp[IntKind.bits];omega),bA (by simp[IntKind.bits];omega)]
 rw[h1];have h2:x|||y<2^63:=Nat.or_lt_two_pow hx hy
 exact AE (by omega)
theorem Yc {x y:Nat}(hx:x<2^8)(hy:y<2^8):Kk .u8 (x:Int) (y:Int)=((x|||y:Nat):Int):=by
 unfold Kk;rw[Bm,Bm];have h1:(BitVec.ofNat IntKind.u8.bits x|||BitVec.ofNat IntKind.u8.bits y).toNat=x|||y:=by
  rw[BitVec.toNat_or,BitVec.toNat_ofNat,BitVec.toNat_ofNat,bA (by simp[IntKind.bits];omega),bA (by simp[IntKind.bits];omega)]
 rw[h1];have h2:x|||y<2^8:=Nat.or_lt_two_pow hx hy
 exact Hu (by omega)
theorem VZ {x:Int}(h0:0<=x)(h1:x<9223372036854775808):CY .i64 x 1=x%2:=by
 obtain ⟨n,rfl⟩:=aR h0;rw[show (1:Int)=((1:Nat):Int)from rfl,Kp (by omega) (by omega),Nat.and_one_is_mod];omega
theorem Ii {x b i:Nat}(hx:x<2^i):x|||b*2^i=x+b*2^i:=by
 rw[Nat.or_comm,<-Nat.shiftLeft_eq,<-Nat.shiftLeft_add_eq_or_of_lt hx,Nat.add_comm]
theorem wE {x b:Int}{i:Nat}(h0:0<=x)(h1:x<2^i)(hb:0<=b/\b<=1)(hi:i<=24):Kk .i64 x (b*2^i)=x+b*2^i:=by
 obtain ⟨n,rfl⟩:=aR h0;obtain ⟨c,rfl⟩:=aR hb.1;have e:((c:Int)*2^i)=((c*2^i:Nat):Int):=by simp
 have hn:n<2^i:=by exact_mod_cast h1
 have Kq:2^i<=2^24:=cq (by decide) hi;have h24:(2:Nat)^24=16777216:=by decide
 have hc:c*2^i<=1*2^i:=cL _ (by omega);rw[e,Td (by omega) (by omega),Ii hn,dJ]
theorem Va {x b:Int}(h0:0<=x)(h1:x<16777216)(hb:0<=b/\b<=1):Kk .i64 (x*2) b=2*x+b:=by
 obtain ⟨n,rfl⟩:=aR h0;obtain ⟨c,rfl⟩:=aR hb.1;have e:((n:Int)*2)=((n*2:Nat):Int):=by omega
 rw[e,Td (by omega) (by omega),Nat.or_comm];have:=Ii (x:=c) (b:=n) (i:=1) (by omega);simp only[Nat.pow_one]at this;rw[this];omega
theorem fdiv_pow {x:Int}{i:Nat}:Int.fdiv x (2^i)=x/2^i:=dD x (dO (two_pow_pos i))
theorem NS {x:Int}{i:Nat}(h:0<=x):0<=x/2^i/\x/2^i<=x:=
 ⟨Int.ediv_nonneg h (dO (two_pow_pos i)),Int.ediv_le_self _ h⟩
end DS
namespace A8
open Sh DS
def num (s:ByteArray)(p n:Nat):Except Int (Int×Nat):=if p+n<=8*s.size then .ok (tk s 1 p n,p+n)else .error 4
def Gl (lens:List Int)(n i:Nat):List Nat:=(List.range i).filter fun j=>lens.getD j 0==(n:Int)
def idxs (lens:List Int)(n:Nat):List Nat:=Gl lens n lens.length
def Cg (lens:List Int)(n i:Nat):Nat:=(Gl lens n i).length
def Ft (lens:List Int)(n:Nat):Nat:=Cg lens n lens.length
def BO (lens:List Int):Nat->Int
 |0=>0
 |i+1=>if lens.getD i 0>BO lens i then lens.getD i 0 else BO lens i
def Ae (lens:List Int):Nat:=(BO lens lens.length).toNat
def kr (lens:List Int):Nat->Int
 |0=>0
 |i+1=>if 0<lens.getD i 0 then kr lens i+2^(15-(lens.getD i 0).toNat)else kr lens i
def BG (lens:List Int):Nat->Int
 |0=>0
 |i+1=>if lens.getD i 0≠0 then BG lens i+1 else BG lens i
def DE (lens:List Int):Int:=if 288<lens.length then 6 else if lens.any (fun l=>decide (l<0)||decide (15<l))=true then 1
 else if kr lens lens.length=32768\/kr lens lens.length=0\/(BG lens lens.length=1/\BO lens lens.length=1)then 0 else 13
def VH (lens:List Int)(s:ByteArray):Nat->Nat->Int->Int->Nat->Except Int (Nat×Nat)
 |0,_,_,_,_=> .error 13
 |k+1,n,code,first,p=>if 8*s.size<=p then .error 4
  else if 2*code+bt s 1 p-2*first<(Ft lens n:Int)then .ok ((idxs lens n).getD (2*code+bt s 1 p-2*first).toNat 0,p+1)
  else VH lens s k (n+1) (2*code+bt s 1 p) (2*first+(Ft lens n:Int)) (p+1)
def sym (lens:List Int)(s:ByteArray)(p:Nat):Except Int (Nat×Nat):=VH lens s (Ae lens) 1 0 0 p
def stored (s:ByteArray)(p:Nat)(out:List UInt8)(most:Nat):Except Int (List UInt8×Nat):=
 match num s ((p+7)/8*8) 16 with
 | .error e=> .error e
 | .ok (n,p1)=>match num s p1 16 with
  | .error e=> .error e
  | .ok (m,p2)=>if m≠65535-n then .error 3 else if ¬out.length+n.toNat<=most then .error 5 else if ¬p2/8+n.toNat<=s.size then .error 4
   else .ok (out++(s.extract (p2/8) (p2/8+n.toNat)).data.toList,p2+8*n.toNat)
def Hd (sg:Nat):Nat:=if sg=18 then 7 else if sg=17 then 3 else 2
def ED (sg:Nat):Nat:=if sg=18 then 11 else 3
def CC (lens:List Int)(s:ByteArray)(many:Nat):Nat->List Int->Nat->Except Int (List Int×Nat)
 |0,_,_=> .error 0
 |k+1,l,p=>if many<=l.length then .ok (l,p)else match sym lens s p with
  | .error e=> .error e
  | .ok (sg,p1)=>if sg<16 then CC lens s many k (l++[(sg:Int)]) p1
   else if sg=16/\l.length=0 then .error 3
   else match num s p1 (Hd sg)with
    | .error e=> .error e
    | .ok (v,p2)=>if many<l.length+(ED sg+v.toNat)then .error 3
     else CC lens s many k (l++List.replicate (ED sg+v.toNat) (if sg=16 then l.getD (l.length-1) 0 else 0)) p2
def order:List Nat:=[16,17,18,0,8,7,9,6,10,5,11,4,12,3,13,2,14,1,15]
def CR (s:ByteArray):List Nat->List Int->Nat->Except Int (List Int×Nat)
 |[],l,p=> .ok (l,p)
 |o::r,l,p=>match num s p 3 with
  | .error e=> .error e
  | .ok (v,q)=>CR s r (l.set o v) q
def dyn (s:ByteArray)(p:Nat):Except Int (List Int×List Int×Nat):=
 match num s p 5 with
 | .error e=> .error e
 | .ok (hl,p1)=>if 29<hl then .error 3 else match num s p1 5 with
  | .error e=> .error e
  | .ok (hd,p2)=>if 29<hd then .error 3 else match num s p2 4 with
   | .error e=> .error e
   | .ok (hc,p3)=>match CR s (order.take (hc.toNat+4)) (List.replicate 19 0) p3 with
    | .error e=> .error e
    | .ok (gn,p4)=>if DE gn≠0 then .error (DE gn)else match CC gn s (hl.toNat+257+(hd.toNat+1)) (hl.toNat+257+(hd.toNat+1)+1) [] p4 with
     | .error e=> .error e
     | .ok (l,p5)=>if l.getD 256 0=0 then .error 13 else if DE (l.take (hl.toNat+257))≠0 then .error (DE (l.take (hl.toNat+257)))
      else if DE (l.drop (hl.toNat+257))≠0 then .error (DE (l.drop (hl.toNat+257)))else .ok (l.take (hl.toNat+257),l.drop (hl.toNat+257),p5)
def BB (k:Nat):Nat:=if k=28 then 0 else k/4-1
def B3 (k:Nat):Nat:=k/2-1
def Cy:Nat->Nat
 |0=>3
 |k+1=>Cy k+2^(k/4-1)
def AZ:Nat->Nat
 |0=>1
 |k+1=>AZ k+2^(k/2-1)
def Ab (k:Nat):Nat:=if k=28 then 258 else Cy k
def gT (sign more:Int):Int×Int:=if sign<257\/285<sign then (0,1)else if more<0\/2^BB (sign-257).toNat<=more then (0,1)else (Ab (sign-257).toNat+more,0)
def yQ (sign more:Int):Int×Int:=if sign<0\/29<sign then (0,1)else if more<0\/2^B3 sign.toNat<=more then (0,1)else (AZ sign.toNat+more,0)
def copy (out:List UInt8)(d:Nat):Nat->List UInt8
 |0=>out
 |n+1=>copy out d n++[(copy out d n).getD ((copy out d n).length-d) 0]
def copied (s:ByteArray)(far:List Int)(most:Nat)(sg:Nat)(out:List UInt8)(p:Nat):Except Int (List UInt8×Nat):=
 if 285<sg then .error 13 else match num s p (BB (sg-257))with
 | .error e=> .error e
 | .ok (v,p1)=>match sym far s p1 with
  | .error e=> .error e
  | .ok (d,p2)=>if 29<d then .error 13 else match num s p2 (B3 d)with
   | .error e=> .error e
   | .ok (x,p3)=>if out.length<AZ d+x.toNat then .error 14 else if most<out.length+(Ab (sg-257)+v.toNat)then .error 5
    else .ok (copy out (AZ d+x.toNat) (Ab (sg-257)+v.toNat),p3)
def Ad (s:ByteArray)(near far:List Int)(most:Nat):Nat->List UInt8->Nat->Except Int (List UInt8×Nat)
 |0,_,_=> .error 0
 |k+1,out,p=>match sym near s p with
  | .error e=> .error e
  | .ok (sg,p1)=>if sg=256 then .ok (out,p1)else if 256<sg then match copied s far most sg out p1 with
    | .error e=> .error e
    | .ok (o,q)=>Ad s near far most k o q
   else if most<=out.length then .error 5 else Ad s near far most k (out++[UInt8.ofNat sg]) p1
def Js:List Int:=List.replicate 144 8++List.replicate 112 9++List.replicate 24 7++List.replicate 8 8
def MW:List Int:=List.replicate 32 5
def block (s:ByteArray)(most:Nat)(kind:Int)(out:List UInt8)(p:Nat):Except Int (List UInt8×Nat):=
 if kind=3 then .error 3 else if kind=0 then stored s p out most else if kind=2 then match dyn s p with
  | .error e=> .error e
  | .ok (a,b,q)=>Ad s a b most (8*s.size+1) out q
 else Ad s Js MW most (8*s.size+1) out p
def Qa (s:ByteArray)(most:Nat):Nat->List UInt8->Nat->Except Int (List UInt8×Nat)
 |0,_,_=> .error 0
 |k+1,out,p=>match num s p 1 with
  | .error e=> .error e
  | .ok (last,p1)=>match num s p1 2 with
   | .error e=> .error e
   | .ok (kind,p2)=>match block s most kind out p2 with
    | .error e=> .error e
    | .ok (o,q)=>if last=1 then .ok (o,(q+7)/8)else Qa s most k o q
def Dw (s:ByteArray)(most:Int):ByteArray×Int×Int:=if most<0 then (⟨#[]⟩,0,1)else match Qa s (min most 1048576).toNat (8*s.size+1) [] 0 with
 | .error e=>(⟨#[]⟩,0,e)
 | .ok (o,n)=>(⟨o.toArray⟩,(n:Int),0)
theorem I1 {s:ByteArray}{p n:Nat}{v:Int}{q:Nat}(h:num s p n= .ok (v,q)):v=tk s 1 p n/\q=p+n/\p+n<=8*s.size:=by
 unfold num at h;split at h
 ·cases h;exact ⟨rfl,rfl,‹_›⟩
 ·cases h
theorem BU {s:ByteArray}{p n:Nat}{v:Int}{q:Nat}(h:num s p n= .ok (v,q)):0<=v/\v<2^n/\q=p+n/\q<=8*s.size:=by
 obtain ⟨rfl,rfl,h3⟩:=I1 h;have:=mi s 1 p n;exact ⟨this.1,this.2,rfl,h3⟩
theorem rj {lens:List Int}{n k:Nat}(h:k<Ft lens n):(idxs lens n).getD k 0<lens.length/\lens.getD ((idxs lens n).getD k 0) 0=(n:Int):=by
 have hm:(idxs lens n).getD k 0∈idxs lens n:=by
  have h':k<(idxs lens n).length:=h;rw[af,ad h'];exact bZ h'
 generalize (idxs lens n).getD k 0=x at hm;unfold idxs Gl at hm;obtain ⟨h1,h2⟩:=dK.1 hm;exact ⟨dF.1 h1,by simpa using h2⟩
theorem rk {lens:List Int}{s:ByteArray}{g q:Nat}:∀(k n:Nat) (c f:Int) (p:Nat),VH lens s k n c f p= .ok (g,q)->p<q/\q<=8*s.size/\(f<=c->g<lens.length/\∃m,n<=m/\m<n+k/\lens.getD g 0=(m:Int))
 |0,n,c,f,p,h=>by cases h
 |k+1,n,c,f,p,h=>by
  unfold VH at h;split at h
  ·cases h
  ·have hb:=fR s 1 p;split at h
   ·rename_i h1 h2;cases h;refine ⟨by omega,by omega,fun hcf=>?_⟩;have:=rj (lens:=lens) (n:=n) (k:=(2*c+bt s 1 p-2*f).toNat) (by omega);exact ⟨this.1,n,av _,by omega,this.2⟩
   ·rename_i h1 h2;obtain ⟨a1,a2,a3⟩:=rk k (n+1) _ _ (p+1) h;refine ⟨by omega,a2,fun hcf=>?_⟩;obtain ⟨b1,m,b2,b3,b4⟩:=a3 (by omega);exact ⟨b1,m,by omega,by omega,b4⟩
theorem Hk {lens:List Int}{s:ByteArray}{g p q:Nat}(h:sym lens s p= .ok (g,q)):p<q/\q<=8*s.size/\g<lens.length:=by
 obtain ⟨a1,a2,a3⟩:=rk _ _ _ _ _ h;exact ⟨a1,a2,(a3 (bH _)).1⟩
theorem Kv (out:List UInt8)(d:Nat):∀n,(copy out d n).length=out.length+n
 |0=>rfl
 |n+1=>by
  show (copy out d n++[_]).length=_;rw[ae,Kv out d n]
  rfl
theorem kK {s:ByteArray}{p:Nat}{out o:List UInt8}{most q:Nat}(h:stored s p out most= .ok (o,q)):p<=q/\q<=8*s.size/\o.length<=most:=by
 unfold stored at h;split at h
 ·cases h
 ·rename_i n p1 h1;split at h
  ·cases h
  ·rename_i m p2 h2;obtain ⟨b1,b2,b3,b4⟩:=BU h1;obtain ⟨c1,c2,c3,c4⟩:=BU h2;split at h
   ·cases h
   ·split at h
    ·cases h
    ·rename_i h4;split at h
     ·cases h
     ·rename_i h5;cases h;refine ⟨by omega,by omega,?_⟩;rw[ae];have e1:(s.extract (p2/8) (p2/8+n.toNat)).data.toList.length=(s.extract (p2/8) (p2/8+n.toNat)).size:=aK;rw[e1,cr];omega
theorem Jc {s:ByteArray}{far:List Int}{most sg p q:Nat}{out o:List UInt8}(h:copied s far most sg out p= .ok (o,q)):p<=q/\q<=8*s.size/\o.length<=most:=by
 unfold copied at h;split at h
 ·cases h
 ·split at h
  ·cases h
  ·rename_i v p1 h1;obtain ⟨b1,b2,b3,b4⟩:=BU h1;split at h
   ·cases h
   ·rename_i d p2 h2;obtain ⟨c1,c2,c3⟩:=Hk h2;split at h
    ·cases h
    ·split at h
     ·cases h
     ·rename_i x p3 h3;obtain ⟨d1,d2,d3,d4⟩:=BU h3;split at h
      ·cases h
      ·split at h
       ·cases h
       ·cases h;exact ⟨by omega,by omega,by rw[Kv];omega⟩
theorem Jd {s:ByteArray}{near far:List Int}{most q:Nat}{o:List UInt8}:∀(k:Nat) (out:List UInt8) (p:Nat),out.length<=most->Ad s near far most k out p= .ok (o,q)->p<q/\q<=8*s.size/\o.length<=most
 |0,_,_,_,h=>by cases h
 |k+1,out,p,hm,h=>by
  unfold Ad at h;split at h
  ·cases h
  ·rename_i sg p1 h1;obtain ⟨c1,c2,c3⟩:=Hk h1;split at h
   ·cases h;exact ⟨c1,c2,hm⟩
   ·split at h
    ·split at h
     ·cases h
     ·rename_i o2 q2 h2;obtain ⟨d1,d2,d3⟩:=Jc h2;obtain ⟨e1,e2,e3⟩:=Jd k o2 q2 d3 h;exact ⟨by omega,e2,e3⟩
    ·split at h
     ·cases h
     ·obtain ⟨e1,e2,e3⟩:=Jd k _ p1 (by rw[ae];simp;omega) h;exact ⟨by omega,e2,e3⟩
theorem Se {s:ByteArray}:∀(r:List Nat) (l l2:List Int) (p q:Nat),p<=8*s.size->CR s r l p= .ok (l2,q)->p<=q/\q<=8*s.size/\l2.length=l.length
 |[],l,l2,p,q,hp,h=>by cases h;exact ⟨av _,hp,rfl⟩
 |o::r,l,l2,p,q,hp,h=>by
  unfold CR at h;split at h
  ·cases h
  ·rename_i v p1 h1;obtain ⟨b1,b2,b3,b4⟩:=BU h1;obtain ⟨c1,c2,c3⟩:=Se r _ l2 p1 q b4 h;exact ⟨by omega,c2,by rw[c3,br]⟩
theorem LQ {s:ByteArray}{lens l2:List Int}{many q:Nat}:∀(k:Nat) (l:List Int) (p:Nat),p<=8*s.size->l.length<=many->CC lens s many k l p= .ok (l2,q)->p<=q/\q<=8*s.size/\l2.length=many
 |0,_,_,_,_,h=>by cases h
 |k+1,l,p,hp,hl,h=>by
  unfold CC at h;split at h
  ·cases h;exact ⟨av _,hp,by omega⟩
  ·split at h
   ·cases h
   ·rename_i sg p1 h1;obtain ⟨c1,c2,c3⟩:=Hk h1;split at h
    ·obtain ⟨d1,d2,d3⟩:=LQ k _ p1 c2 (by rw[ae];simp;omega) h;exact ⟨by omega,d2,d3⟩
    ·split at h
     ·cases h
     ·split at h
      ·cases h
      ·rename_i v p2 h2;obtain ⟨b1,b2,b3,b4⟩:=BU h2;split at h
       ·cases h
       ·obtain ⟨d1,d2,d3⟩:=LQ k _ p2 b4 (by rw[ae,aI];omega) h;exact ⟨by omega,d2,d3⟩
theorem rl {s:ByteArray}{a b:List Int}{p q:Nat}(hp:p<=8*s.size)(h:dyn s p= .ok (a,b,q)):p<=q/\q<=8*s.size:=by
 unfold dyn at h;split at h
 ·cases h
 ·rename_i hl p1 h1;obtain ⟨a1,a2,a3,a4⟩:=BU h1;split at h
  ·cases h
  ·split at h
   ·cases h
   ·rename_i hd p2 h2;obtain ⟨b1,b2,b3,b4⟩:=BU h2;split at h
    ·cases h
    ·split at h
     ·cases h
     ·rename_i hc p3 h3;obtain ⟨c1,c2,c3,c4⟩:=BU h3;split at h
      ·cases h
      ·rename_i gn p4 h4;obtain ⟨d1,d2,d3⟩:=Se _ _ _ _ _ c4 h4;split at h
       ·cases h
       ·split at h
        ·cases h
        ·rename_i l p5 h5;obtain ⟨e1,e2,e3⟩:=LQ _ _ _ d2 (by simp) h5;split at h
         ·cases h
         ·split at h
          ·cases h
          ·split at h
           ·cases h
           ·cases h;exact ⟨by omega,e2⟩
theorem QZ {s:ByteArray}{most q p:Nat}{kind:Int}{out o:List UInt8}(hp:p<=8*s.size)(hm:out.length<=most)(h:block s most kind out p= .ok (o,q)):p<=q/\q<=8*s.size/\o.length<=most:=by
 unfold block at h;split at h
 ·cases h
 ·split at h
  ·exact kK h
  ·split at h
   ·split at h
    ·cases h
    ·rename_i a b q2 h2;obtain ⟨a1,a2⟩:=rl hp h2;obtain ⟨b1,b2,b3⟩:=Jd _ _ _ hm h;exact ⟨by omega,b2,b3⟩
   ·obtain ⟨b1,b2,b3⟩:=Jd _ _ _ hm h;exact ⟨by omega,b2,b3⟩
theorem EC (lens:List Int)(n i:Nat):Gl lens n (i+1)=if lens.getD i 0=(n:Int)then Gl lens n i++[i]else Gl lens n i:=by
 unfold Gl;rw[ej,List.filter_append];by_cases h:lens.getD i 0=(n:Int)
 ·rw[ak h];have:(lens.getD i 0==(n:Int))=true:=beq_iff_eq.2 h;simp only[List.filter,this]
 ·rw[ah h];have:(lens.getD i 0==(n:Int))=false:=by simpa using h
  simp only[List.filter,this,aM]
theorem EI (lens:List Int)(n i:Nat):Cg lens n (i+1)=if lens.getD i 0=(n:Int)then Cg lens n i+1 else Cg lens n i:=by
 unfold Cg;rw[EC];split
 ·rw[ae];rfl
 ·rfl
theorem GG (lens:List Int)(n:Nat):∀i,Cg lens n i<=i
 |0=>av _
 |i+1=>by
  have:=GG lens n i;rw[EI];split<;>omega
structure NV (lens:List Int):Prop where
 len:lens.length<=288
 nn:∀i,0<=lens.getD i 0/\lens.getD i 0<=15
theorem Uh {lens:List Int}:(lens.any (fun l=>decide (l<0)||decide (15<l))=true)↔¬∀i,0<=lens.getD i 0/\lens.getD i 0<=15:=by
 constructor
 ·intro h BF;obtain ⟨x,hx,hb⟩:=dC.1 h;obtain ⟨i,hi,rfl⟩:=cu.1 hx;have:=BF i;rw[af,ad hi]at this;simp only[cN]at this;simp at hb;omega
 ·intro h;cases hh:lens.any (fun l=>decide (l<0)||decide (15<l))with
  |true=>rfl
  |false=>
   refine absurd (fun i=>?_) h;by_cases hi:i<lens.length
   ·have:=List.any_eq_false.1 hh lens[i] (bZ hi);rw[af,ad hi];simp at this⊢;omega
   ·rw[af,bF (by omega)];simp
theorem A5 {lens:List Int}(h:DE lens=0):NV lens:=by
 unfold DE at h;split at h
 ·cases h
 ·split at h
  ·cases h
  ·rename_i h1 h2;rw[Uh]at h2;exact ⟨by omega,Classical.not_not.1 h2⟩
theorem rH {lens:List Int}(h:288<lens.length):DE lens=6:=by unfold DE;rw[ak h]
theorem gd {lens:List Int}(h:¬288<lens.length){i:Nat}(hi:¬(0<=lens.getD i 0/\lens.getD i 0<=15)):DE lens=1:=by
 unfold DE;rw[ah h,ak (Uh.2 fun hh=>hi (hh i))]
theorem Kw {lens:List Int}(h:NV lens):DE lens=if kr lens lens.length=32768\/kr lens lens.length=0\/(BG lens lens.length=1/\BO lens lens.length=1)then 0 else 13:=by
 unfold DE;rw[ah (by have:=h.len;omega),ah (fun hh=>Uh.1 hh h.nn)]
def kS (lens:List Int)(i:Nat):Nat->Int
 |0=>0
 |l+1=>kS lens i l+(Cg lens (l+1) i:Int)*2^(15-(l+1))
def uS (lens:List Int)(i:Nat):Nat->Int
 |0=>0
 |l+1=>uS lens i l+(Cg lens (l+1) i:Int)
theorem gp (lens:List Int)(i:Nat):∀l,(0<=lens.getD i 0)->kS lens (i+1) l=kS lens i l+(if 0<lens.getD i 0/\lens.getD i 0<=(l:Int)then 2^(15-(lens.getD i 0).toNat)else 0)
 |0,h=>by
  rw[ah (by omega)]
  rfl
 |l+1,h=>by
  have ih:=gp lens i l h;show kS lens (i+1) l+(Cg lens (l+1) (i+1):Int)*2^(15-(l+1))=kS lens i l+(Cg lens (l+1) i:Int)*2^(15-(l+1))+_;rw[ih,EI];by_cases he:lens.getD i 0=((l+1:Nat):Int)
  ·rw[ak he,ah (by omega),ak (by omega),show (lens.getD i 0).toNat=l+1 by omega];rw[dJ,Int.add_mul];omega
  ·rw[ah he];by_cases h2:0<lens.getD i 0/\lens.getD i 0<=(l:Int)
   ·rw[ak h2,ak (by omega)];omega
   ·rw[ah h2,ah (by omega)];omega
theorem gq (lens:List Int)(i:Nat):∀l,(0<=lens.getD i 0)->uS lens (i+1) l=uS lens i l+(if 0<lens.getD i 0/\lens.getD i 0<=(l:Int)then 1 else 0)
 |0,h=>by
  rw[ah (by omega)]
  rfl
 |l+1,h=>by
  have ih:=gq lens i l h;show uS lens (i+1) l+(Cg lens (l+1) (i+1):Int)=uS lens i l+(Cg lens (l+1) i:Int)+_;rw[ih,EI];by_cases he:lens.getD i 0=((l+1:Nat):Int)
  ·rw[ak he,ah (by omega),ak (by omega)];omega
  ·rw[ah he];by_cases h2:0<lens.getD i 0/\lens.getD i 0<=(l:Int)
   ·rw[ak h2,ak (by omega)];omega
   ·rw[ah h2,ah (by omega)];omega
theorem Ui (lens:List Int):∀l,kS lens 0 l=0/\uS lens 0 l=0
 |0=>⟨rfl,rfl⟩
 |l+1=>by
  obtain ⟨a,b⟩:=Ui lens l;refine ⟨?_,?_⟩
  ·show kS lens 0 l+((0:Nat):Int)*_=0;rw[a];simp
  ·show uS lens 0 l+((0:Nat):Int)=0;rw[b];rfl
theorem rJ {lens:List Int}(h:NV lens):∀i,kS lens i 15=kr lens i
 |0=>(Ui lens 15).1
 |i+1=>by
  have hn:=h.nn i;rw[gp lens i 15 hn.1,rJ h i];show _=if 0<lens.getD i 0 then _ else _
  by_cases h0:0<lens.getD i 0
  ·rw[ak ⟨h0,hn.2⟩,ak h0]
  ·rw[ah (fun hh=>h0 hh.1),ah h0];omega
theorem gg {lens:List Int}(h:NV lens):∀i,uS lens i 15=BG lens i
 |0=>(Ui lens 15).2
 |i+1=>by
  have hn:=h.nn i;rw[gq lens i 15 hn.1,gg h i];show _=if lens.getD i 0≠0 then _ else _
  by_cases h0:0<lens.getD i 0
  ·rw[ak ⟨h0,hn.2⟩,ak (by omega)]
  ·rw[ah (fun hh=>h0 hh.1),ah (by omega)];omega
theorem LL {lens:List Int}(h:NV lens):∀i,0<=BG lens i/\BG lens i<=kr lens i/\(BG lens i=0->kr lens i=0/\BO lens i=0/\Cg lens 1 i=0)/\(BG lens i=1->(BO lens i=1↔Cg lens 1 i=1))/\0<=BO lens i/\BO lens i<=15
 |0=>⟨bH _,bH _,fun _=>⟨rfl,rfl,rfl⟩,fun h=>by have h:(0:Int)=1:=h;omega,bH _,by show (0:Int)<=15;omega⟩
 |i+1=>by
  obtain ⟨a1,a2,a3,a4,a5,a6⟩:=LL h i;have hn:=h.nn i;have u:BG lens (i+1)=if lens.getD i 0≠0 then BG lens i+1 else BG lens i:=rfl
  have k:kr lens (i+1)=if 0<lens.getD i 0 then kr lens i+2^(15-(lens.getD i 0).toNat)else kr lens i:=rfl
  have l:BO lens (i+1)=if lens.getD i 0>BO lens i then lens.getD i 0 else BO lens i:=rfl
  have c:=EI lens 1 i;have hp:=two_pow_pos (15-(lens.getD i 0).toNat);by_cases h0:lens.getD i 0=0
  ·rw[ah (fun hh=>hh h0)]at u;rw[ah (by omega)]at k l;rw[ah (by omega)]at c;rw[u,k,l,c];exact ⟨a1,a2,a3,a4,a5,a6⟩
  ·rw[ak h0]at u;rw[ak (by omega)]at k;rw[u,k];refine ⟨by omega,by omega,fun hh=>by omega,fun hh=>?_,?_,?_⟩
   ·obtain ⟨b1,b2,b3⟩:=a3 (by omega);rw[b2,ak (by omega)]at l;rw[l,c,b3];split<;>omega
   ·rw[l];split<;>omega
   ·rw[l];split<;>omega
theorem M0 {lens:List Int}:∀i j,j<i->lens.getD j 0<=BO lens i
 |0,j,h=>by omega
 |i+1,j,h=>by
  have l:BO lens (i+1)=if lens.getD i 0>BO lens i then lens.getD i 0 else BO lens i:=rfl
  rw[l];by_cases hj:j=i
  ·subst hj;split<;>omega
  ·have:=M0 (lens:=lens) i j (by omega);split<;>omega
theorem rL {lens:List Int}(h:NV lens){n:Nat}(hn:Ae lens<n):Ft lens n=0:=by
 have:∀i,i<=lens.length->Cg lens n i=0:=fun i=>by
  induction i with
  |zero=>intro _;rfl
  |succ i ih=>
   intro hi;rw[EI,ah,ih (by omega)];have h1:=M0 (lens:=lens) lens.length i (by omega);have h2:=(LL h lens.length).2.2.2.2;unfold Ae at hn;omega
 exact this _ (av _)
theorem Ww {lens:List Int}:∀i,BO lens i=0\/∃j,j<i/\lens.getD j 0=BO lens i
 |0=> .inl rfl
 |i+1=>by
  have l:BO lens (i+1)=if lens.getD i 0>BO lens i then lens.getD i 0 else BO lens i:=rfl
  rw[l];split
  ·exact .inr ⟨i,by omega,rfl⟩
  ·rcases Ww (lens:=lens) i with h|⟨j,h1,h2⟩
   ·exact .inl h
   ·exact .inr ⟨j,by omega,h2⟩
def fs (f:Nat->Int):Nat->Int
 |0=>0
 |1=>0
 |n+2=>2*(fs f (n+1)+f (n+1))
def cn (lens:List Int)(n:Nat):Int:=if n=0 then 0 else (Ft lens n:Int)
theorem gZ {f:Nat->Int}(hf:∀n,0<=f n/\f n<=288):∀n,0<=fs f n/\fs f n+576<=576*2^n
 |0=>by simp[fs]
 |1=>by simp[fs]
 |n+2=>by
  have ih:=gZ hf (n+1);have:=hf (n+1);rw[two_pow_succ];show 0<=2*(fs f (n+1)+f (n+1))/\2*(fs f (n+1)+f (n+1))+576<=_;have hp:=two_pow_pos (n+1);omega
theorem Ws {lens:List Int}(h:lens.length<=288)(n:Nat):0<=cn lens n/\cn lens n<=288:=by
 unfold cn;split
 ·omega
 ·have:=GG lens n lens.length;unfold Ft;omega
def My (lens:List Int):Nat->List Nat
 |0=>[]
 |n+1=>My lens n++idxs lens (n+1)
end A8
set_option maxRecDepth 4000
set_option maxHeartbeats 1000000
namespace A8
open Sh DS
theorem Br.t{b:Bool}{A B:Prop}(h:b=true)(k:A):Br b A B:=by rw[h];exact k
theorem Br.f{b:Bool}{A B:Prop}(h:b=false)(k:B):Br b A B:=by rw[h];exact k
def ints (l:List Int):List Value:=l.map fun x=> .int .i64 x
theorem YO:El prog 196 3 1 8 (.int .i64 0):=⟨by kernel_rfl,by kernel_rfl,by kernel_rfl,by kernel_rfl,rfl⟩
theorem Ap (l:List Int):(ints l).length=l.length:=by unfold ints;simp
theorem Fk (l:List Int):∀v∈ints l,v.oneCell'=true:=by
 intro v hv;obtain ⟨x,_,rfl⟩:=cJ.1 hv
 rfl
theorem EY {l:List Int}{i:Nat}(hi:i<l.length):(ints l)[i]?=some (.int .i64 (l.getD i 0)):=by
 unfold ints;rw[aE,ad hi,af,ad hi]
 rfl
theorem ints_set (l:List Int)(i:Nat)(x:Int):(ints l).set i (.int .i64 x)=ints (l.set i x):=by unfold ints;rw[dM]
theorem EZ (l m:List Int):ints (l++m)=ints l++ints m:=by unfold ints;rw[bh]
def IV (w:World)(s:AA)(l:List Int):Prop:=s.len=l.length/\Bh w s 1 (ints l)
theorem IV.AB{w w':World}{s:AA}{l:List Int}(h:IV w s l)(he:Ext (fun _=>False) w w'):IV w' s l:=⟨h.1,h.2.AB he⟩
theorem IV.AI{F:Nat->Prop}{w w':World}{s:AA}{l:List Int}(h:IV w s l)(he:Ext F w w')(hF:∀j,s.own j->¬F j):IV w' s l:=⟨h.1,h.2.AI he hF⟩
theorem IV.nil(w:World):IV w ⟨none,0,0⟩ []:=⟨rfl,rfl,fun j v h=>by cases h⟩
theorem IV.get{w:World}{s:AA}{l:List Int}(h:IV w s l){i:Nat}(hi:i<l.length):∃a,s.p=some a/\w.cell? (a.add (i*1))=some (.int .i64 (l.getD i 0)):=by
 obtain ⟨a,ha,hc⟩:=h.2.2 i _ (EY hi);exact ⟨a,ha,by rw[aH];exact hc⟩
theorem getD_in {l:List Int}{P:Int->Prop}(h:∀x∈l,P x){i:Nat}(hi:i<l.length):P (l.getD i 0):=by
 rw[af,ad hi];exact h _ (bZ hi)
attribute [local irreducible] Ld St Nw Nn Lt AP
def OM (first each:Nat):Nat->Nat
 |0=>first
 |k+1=>OM first each k+2^(k/each-1)
theorem fh:∀k,OM 3 4 k=Cy k
 |0=>rfl
 |k+1=>by show OM 3 4 k+_=Cy k+_;rw[fh k]
theorem fj:∀k,OM 1 2 k=AZ k
 |0=>rfl
 |k+1=>by show OM 1 2 k+_=AZ k+_;rw[fj k]
theorem ABF {k each:Nat}(hk:k<=30)(he:2<=each):2^(k/each-1)<=16384:=by
 have h1:k/each<=k/2:=Nat.div_le_div_left he (by omega);have:2^(k/each-1)<=2^14:=cq (by omega) (by omega);omega
theorem Uc {first each:Nat}(he:2<=each):∀k,k<=30->OM first each k<=first+k*16384
 |0,_=>by show first<=_;omega
 |k+1,hk=>by
  have ih:=Uc (first:=first) he k (by omega);have:=ABF (k:=k) (by omega) he;show OM first each k+2^(k/each-1)<=_
  omega
theorem sh1 {x:Int}{m:Nat}(hx:x=(m:Int))(hm:m<=30):wrap .i64 (1*2^(min x.toNat 64))=((2^m:Nat):Int):=by
 subst hx;rw[aa,show min m 64=m by omega,Int.one_mul];have h1:2^m<=2^30:=cq (by omega) hm;have e:((2^m:Nat):Int)=2^m:=by simp
 have h0:=two_pow_pos m;rw[<-e];exact AE (by omega)
theorem gS {k each:Nat}(hk:k<=30)(he:2<=each)(h9:each<=9):(if wrap .i64 (wrap .i64 (Int.tdiv (k:Int) (each:Int))-1)>0 then wrap .i64 (wrap .i64 (Int.tdiv (k:Int) (each:Int))-1)else 0)=((k/each-1:Nat):Int):=by
 rw[Km (by omega)];have e:(k:Int)/(each:Int)=((k/each:Nat):Int):=by simp
 have h1:k/each<=k:=en _ _;have h2:(0:Int)<=((k/each:Nat):Int):=Int.natCast_nonneg _;rw[e,AE (n:=((k/each:Nat):Int)) (by omega),AE (by omega)];split<;>omega
theorem Wo {i first each:Nat}(hi:i<=30)(hf:first<=1000)(he:2<=each)(h9:each<=9)(w:World):xW (i:Int) (first:Int) (each:Int) w fun r w1=>r=(((OM first each i:Nat):Int),((i/each-1:Nat):Int))/\Ext (fun _=>False) w w1:=by
 refine AQ6 _ _ _ _ _ ?_;unfold AJp;refine (Hn.start w).nw fun w2 H=>?_
 simp only[ag]at H;refine ⟨fun n st w3=>∃k:Nat,st=(((OM first each k:Nat):Int),(k:Int))/\k<=i/\n=i-k/\w3=w2,i,⟨0,rfl,by omega,rfl,rfl⟩,?_⟩;rintro n st w3 ⟨k,rfl,hk,rfl,rfl⟩;unfold pP;dsimp only;refine Br.dec (fun q=>⟨by omega,Lt.of ?_⟩) fun q=>⟨by omega,Lt.of ?_⟩
 ·have h1:=Uc (first:=first) he k (by omega);have h2:=ABF (k:=k) (each:=each) (by omega) he;have h3:(0:Int)<=((2^(k/each-1):Nat):Int):=Int.natCast_nonneg _;rw[gS (by omega) he h9,sh1 rfl (by have:k/each<=k:=en _ _;omega),AE (n:=(k:Int)+1) (by omega),AE (by omega)];exact ⟨by omega,i-(k+1),by omega,k+1,by rw[show OM first each (k+1)=OM first each k+2^(k/each-1) by rfl];simp,by omega,rfl,rfl⟩
 ·have J0:k=i:=by omega
  subst J0;rw[gS (by omega) he h9]
  iterate 2 (refine H.st 0 rfl (by simp) fun _ H=>?_;simp only[ag,ar,ai,aq,aj]at H)
  iterate 2 refine H.ld 0 rfl rfl ?_
  exact ⟨rfl,H.ext⟩
def ABG (first:Int)(m:Nat)(more:Int):Int×Int:=if more<0\/2^m<=more then (0,1)else (first+more,0)
theorem UD {first:Int}{m:Nat}(hf:0<=first/\first<=1000000)(hm:m<=30)(more:Int)(w:World):xY (first,(m:Int)) more w fun r e w1=>(r,e)=ABG first m more/\Ext (fun _=>False) w w1:=by
 refine AQ8 (first,(m:Int)) _ _ _ ?_;unfold AJr ABG;refine (Hn.start w).nw fun w2 H=>?_
 simp only[ag]at H;have hp:2^m<=2^30:=cq (by omega) hm;have e2:((2^m:Nat):Int)=2^m:=by simp
 refine Br.dec (fun q=>⟨by rw[ak (.inl q)],H.ext⟩) fun q=>?_
 iterate 1 refine H.ld 0 rfl rfl ?_
 refine ⟨by omega,?_⟩;rw[sh1 rfl hm];refine Br.dec (fun q2=>⟨by rw[ak (.inr (by omega))],H.ext⟩) fun q2=>?_
 iterate 1 refine H.ld 0 rfl rfl ?_
 rw[ah (by omega),AE (by omega)];exact ⟨rfl,H.ext⟩
theorem rE (k:Nat)(hk:k<=28)(w:World):xX (k:Int) w fun r w1=>r=(((Ab k:Nat):Int),((BB k:Nat):Int))/\Ext (fun _=>False) w w1:=by
 refine AQ7 _ _ _ ?_;unfold AJq;refine (Hn.start w).nw fun w2 H=>?_
 simp only[ag]at H;refine Br.eq (fun q=>?_) fun q=>?_
 ·have:k=28:=by omega
  subst this
  iterate 2 (refine H.st 0 rfl (by simp) fun _ H=>?_;simp only[ag,ar,ai,aq,aj]at H)
  iterate 2 refine H.ld 0 rfl rfl ?_
  exact ⟨rfl,H.ext⟩
 ·have A2:k≠28:=by omega
  refine (Wo (i:=k) (first:=3) (each:=4) (by omega) (by omega) (by omega) (by omega) _).mono ?_;rintro r w3 ⟨rfl,he⟩;have H:=H.AB he
  iterate 2 (refine H.st 0 rfl (by simp) fun _ H=>?_;simp only[ag,ar,ai,aq,aj]at H)
  iterate 2 refine H.ld 0 rfl rfl ?_
  exact ⟨by unfold Ab BB;rw[ah A2,ah A2,fh],H.ext⟩
theorem rF (k:Nat)(hk:k<=29)(w:World):xZ (k:Int) w fun r w1=>r=(((AZ k:Nat):Int),((B3 k:Nat):Int))/\Ext (fun _=>False) w w1:=by
 refine ARA _ _ _ ?_;unfold AJt;refine (Hn.start w).nw fun w2 H=>?_
 simp only[ag]at H;refine (Wo (i:=k) (first:=1) (each:=2) (by omega) (by omega) (by omega) (by omega) _).mono ?_;rintro r w3 ⟨rfl,he⟩;have H:=H.AB he
 iterate 2 (refine H.st 0 rfl (by simp) fun _ H=>?_;simp only[ag,ar,ai,aq,aj]at H)
 iterate 2 refine H.ld 0 rfl rfl ?_
 exact ⟨by unfold B3;rw[fj],H.ext⟩
theorem O4 {k:Nat}(hk:k<=30):Cy k<=500000/\AZ k<=500000/\Ab k<=500000/\BB k<=30/\B3 k<=30:=by
 have h1:=Uc (first:=3) (each:=4) (by omega) k hk;have h2:=Uc (first:=1) (each:=2) (by omega) k hk;rw[fh]at h1;rw[fj]at h2;refine ⟨by omega,by omega,?_,?_,?_⟩
 ·unfold Ab;split<;>omega
 ·unfold BB;split<;>omega
 ·unfold B3;omega
theorem AE6 (sign more:Int)(w:World):ADo sign more w fun r e w1=>(r,e)=gT sign more/\Ext (fun _=>False) w w1:=by
 refine AQ9 _ _ _ _ ?_;unfold AJs gT;refine Br.dec (fun q=>⟨by rw[ak (.inl q)],Ext.refl _ _⟩) fun q=>Br.dec (fun q2=>⟨by rw[ak (.inr q2)],Ext.refl _ _⟩) fun q2=>?_
 obtain ⟨k,hk⟩:∃k:Nat,sign-257=(k:Int):=⟨(sign-257).toNat,by omega⟩
 rw[AE (by omega),hk,ah (by omega),aa];refine (rE k (by omega) w).mono ?_;rintro r w2 ⟨rfl,he⟩;obtain ⟨b1,b2,b3,b4,b5⟩:=O4 (k:=k) (by omega);refine (UD (first:=(Ab k:Nat)) (m:=BB k) (by omega) b4 more w2).mono ?_;rintro r e w3 ⟨h,JP⟩;exact ⟨h,he.tr JP⟩
theorem ALf (sign more:Int)(w:World):ADp sign more w fun r e w1=>(r,e)=yQ sign more/\Ext (fun _=>False) w w1:=by
 refine ARB _ _ _ _ ?_;unfold AJu yQ;refine Br.dec (fun q=>⟨by rw[ak (.inl q)],Ext.refl _ _⟩) fun q=>Br.dec (fun q2=>⟨by rw[ak (.inr q2)],Ext.refl _ _⟩) fun q2=>?_
 obtain ⟨k,rfl⟩:∃k:Nat,sign=(k:Int):=⟨sign.toNat,by omega⟩
 rw[ah (by omega),aa];refine (rF k (by omega) w).mono ?_;rintro r w2 ⟨rfl,he⟩;obtain ⟨b1,b2,b3,b4,b5⟩:=O4 (k:=k) (by omega);refine (UD (first:=(AZ k:Nat)) (m:=B3 k) (by omega) b5 more w2).mono ?_;rintro r e w3 ⟨h,JP⟩;exact ⟨h,he.tr JP⟩
theorem KW {n:Int}(h:0<=n/\n<=18446744073709551615):wrap .u64 n=n:=IntWalk.u64_in n h
end A8
set_option maxHeartbeats 2000000
namespace A8
open Sh DS
abbrev A16:=Int×Int×Int×Int×Int×Int×Int×Int×Int×Int×Int×Int×Int×Int×Int×Int
def gW (f:Nat->Int):A16:=(f 0,f 1,f 2,f 3,f 4,f 5,f 6,f 7,f 8,f 9,f 10,f 11,f 12,f 13,f 14,f 15)
def Dl (f:Nat->Int):List Value:=[.int .i64 (f 0),.int .i64 (f 1),.int .i64 (f 2),.int .i64 (f 3),.int .i64 (f 4),.int .i64 (f 5),.int .i64 (f 6),.int .i64 (f 7),.int .i64 (f 8),.int .i64 (f 9),.int .i64 (f 10),.int .i64 (f 11),.int .i64 (f 12),.int .i64 (f 13),.int .i64 (f 14),.int .i64 (f 15)]
theorem kA (f:Nat->Int):Dl f=(List.range 16).map fun i=> .int .i64 (f i):=rfl
theorem Bo (f:Nat->Int){i:Nat}(hi:i<16):(Dl f)[i]?=some (.int .i64 (f i)):=by
 rw[kA,aE,dc hi]
 rfl
def Rr (f:Nat->Int)(i:Nat)(x:Int):Nat->Int:=fun j=>if j=i then x else f j
theorem Mw (f:Nat->Int){i:Nat}(hi:i<16)(x:Int):(Dl f).set i (.int .i64 x)=Dl (Rr f i x):=by
 apply db;intro j;rw[cD];have hl:(Dl f).length=16:=rfl;by_cases hj:j<16
 ·rw[Bo _ hj,Bo _ hj];by_cases h:i=j
  ·subst h;rw[ak rfl,ak (by omega)];unfold Rr;rw[ak rfl]
  ·rw[ah h];unfold Rr;rw[ah (fun e=>h e.symm)]
 ·rw[ah (by omega),bF (by omega),bF (by show 16<=j;omega)]
theorem EH (f:Nat->Int):(Dl f).length=16:=rfl
def cf (lens:List Int)(i n:Nat):Int:=if n=0 then 0 else (Cg lens n i:Int)
theorem gX {lens:List Int}{i n:Nat}(h:lens.getD i 0=(n:Int))(hn:0<n):Rr (cf lens i) n (cf lens i n+1)=cf lens (i+1):=by
 funext j
 unfold Rr cf;rw[EI,h];by_cases hj:j=n
 ·subst hj;rw[ak rfl,ah (by omega),ah (by omega),ak rfl];omega
 ·rw[ah hj];by_cases h0:j=0
  ·rw[ak h0,ak h0]
  ·rw[ah h0,ah h0,ah (by omega)]
theorem gY {lens:List Int}{i:Nat}(h:lens.getD i 0=0):cf lens (i+1)=cf lens i:=by
 funext j
 unfold cf;rw[EI,h];by_cases h0:j=0
 ·rw[ak h0,ak h0]
 ·rw[ah h0,ah h0,ah (by omega)]
theorem ABH {lens:List Int}{i:Nat}(hi:i<=288)(n:Nat):0<=cf lens i n/\cf lens i n<=288:=by
 unfold cf;have:=GG lens n i;split<;>omega
section
variable {w0 w:World} {L:List (Nat×List Value×TypeId)} {b:Nat} {t:TypeId}
theorem ALg {v0 v1 v2 v3 v4 v5 v6 v7 v8 v9 v10 v11 v12 v13 v14 v15:Value}{zs pre post:List Value}{K:World->Prop}(H:Hn w0 w L)(o i:Nat)(hi:L[i]?=some (b,pre++(zs++post),t))(ho:pre.length=o)(hz:zs.length=16)(k:∀w2,Hn w0 w2 (L.set i (b,pre++([v0,v1,v2,v3,v4,v5,v6,v7,v8,v9,v10,v11,v12,v13,v14,v15]++post),t))->K w2):St w ⟨b,o,none⟩ v0 fun w=>St w ⟨b,o+1,none⟩ v1 fun w=>St w ⟨b,o+2,none⟩ v2 fun w=>St w ⟨b,o+3,none⟩ v3 fun w=>St w ⟨b,o+4,none⟩ v4 fun w=>St w ⟨b,o+5,none⟩ v5 fun w=>St w ⟨b,o+6,none⟩ v6 fun w=>St w ⟨b,o+7,none⟩ v7 fun w=>St w ⟨b,o+8,none⟩ v8 fun w=>St w ⟨b,o+9,none⟩ v9 fun w=>St w ⟨b,o+10,none⟩ v10 fun w=>St w ⟨b,o+11,none⟩ v11 fun w=>St w ⟨b,o+12,none⟩ v12 fun w=>St w ⟨b,o+13,none⟩ v13 fun w=>St w ⟨b,o+14,none⟩ v14 fun w=>St w ⟨b,o+15,none⟩ v15 fun w=>K w:=
 Hn.stL [v0,v1,v2,v3,v4,v5,v6,v7,v8,v9,v10,v11,v12,v13,v14,v15] zs pre post o w H hi ho hz k
theorem yR {v0 v1 v2 v3 v4 v5 v6 v7 v8 v9 v10 v11 v12 v13 v14 v15:Value}{zs:List Value}{K:World->Prop}(H:Hn w0 w L)(i:Nat)(hi:L[i]?=some (b,zs,t))(hz:zs.length=16)(k:∀w2,Hn w0 w2 (L.set i (b,[v0,v1,v2,v3,v4,v5,v6,v7,v8,v9,v10,v11,v12,v13,v14,v15],t))->K w2):St w ⟨b,0,none⟩ v0 fun w=>St w ⟨b,1,none⟩ v1 fun w=>St w ⟨b,2,none⟩ v2 fun w=>St w ⟨b,3,none⟩ v3 fun w=>St w ⟨b,4,none⟩ v4 fun w=>St w ⟨b,5,none⟩ v5 fun w=>St w ⟨b,6,none⟩ v6 fun w=>St w ⟨b,7,none⟩ v7 fun w=>St w ⟨b,8,none⟩ v8 fun w=>St w ⟨b,9,none⟩ v9 fun w=>St w ⟨b,10,none⟩ v10 fun w=>St w ⟨b,11,none⟩ v11 fun w=>St w ⟨b,12,none⟩ v12 fun w=>St w ⟨b,13,none⟩ v13 fun w=>St w ⟨b,14,none⟩ v14 fun w=>St w ⟨b,15,none⟩ v15 fun w=>K w:=
 Hn.stL [v0,v1,v2,v3,v4,v5,v6,v7,v8,v9,v10,v11,v12,v13,v14,v15] zs [] [] 0 w H (by simpa using hi) rfl hz fun w2 h=>k w2 (by simpa using h)
theorem ABI {f:Nat->Int}{cs:List Value}{K:Int->Int->Int->Int->Int->Int->Int->Int->Int->Int->Int->Int->Int->Int->Int->Int->Prop}(h:Hn w0 w L)(o i:Nat)(hi:L[i]?=some (b,cs,t))(g:∀j,j<16->cs[o+j]?=some (.int .i64 (f j)))(k:K (f 0) (f 1) (f 2) (f 3) (f 4) (f 5) (f 6) (f 7) (f 8) (f 9) (f 10) (f 11) (f 12) (f 13) (f 14) (f 15)):Ld w ⟨b,o,none⟩ (Value.int .i64) fun x0=>Ld w ⟨b,o+1,none⟩ (Value.int .i64) fun x1=>Ld w ⟨b,o+2,none⟩ (Value.int .i64) fun x2=>Ld w ⟨b,o+3,none⟩ (Value.int .i64) fun x3=>Ld w ⟨b,o+4,none⟩ (Value.int .i64) fun x4=>Ld w ⟨b,o+5,none⟩ (Value.int .i64) fun x5=>Ld w ⟨b,o+6,none⟩ (Value.int .i64) fun x6=>Ld w ⟨b,o+7,none⟩ (Value.int .i64) fun x7=>Ld w ⟨b,o+8,none⟩ (Value.int .i64) fun x8=>Ld w ⟨b,o+9,none⟩ (Value.int .i64) fun x9=>Ld w ⟨b,o+10,none⟩ (Value.int .i64) fun D0=>Ld w ⟨b,o+11,none⟩ (Value.int .i64) fun Cm=>Ld w ⟨b,o+12,none⟩ (Value.int .i64) fun DA=>Ld w ⟨b,o+13,none⟩ (Value.int .i64) fun Et=>Ld w ⟨b,o+14,none⟩ (Value.int .i64) fun Em=>Ld w ⟨b,o+15,none⟩ (Value.int .i64) fun Dt=>K x0 x1 x2 x3 x4 x5 x6 x7 x8 x9 D0 Cm DA Et Em Dt:=
 h.ld i hi (g 0 (by omega)) (h.ld i hi (g 1 (by omega)) (h.ld i hi (g 2 (by omega)) (h.ld i hi (g 3 (by omega)) (h.ld i hi (g 4 (by omega)) (h.ld i hi (g 5 (by omega)) (h.ld i hi (g 6 (by omega)) (h.ld i hi (g 7 (by omega)) (h.ld i hi (g 8 (by omega)) (h.ld i hi (g 9 (by omega)) (h.ld i hi (g 10 (by omega)) (h.ld i hi (g 11 (by omega)) (h.ld i hi (g 12 (by omega)) (h.ld i hi (g 13 (by omega)) (h.ld i hi (g 14 (by omega)) (h.ld i hi (g 15 (by omega)) (k))))))))))))))))
theorem yS {f:Nat->Int}{K:Int->Int->Int->Int->Int->Int->Int->Int->Int->Int->Int->Int->Int->Int->Int->Int->Prop}(h:Hn w0 w L)(i:Nat)(hi:L[i]?=some (b,Dl f,t))(k:K (f 0) (f 1) (f 2) (f 3) (f 4) (f 5) (f 6) (f 7) (f 8) (f 9) (f 10) (f 11) (f 12) (f 13) (f 14) (f 15)):Ld w ⟨b,0,none⟩ (Value.int .i64) fun x0=>Ld w ⟨b,1,none⟩ (Value.int .i64) fun x1=>Ld w ⟨b,2,none⟩ (Value.int .i64) fun x2=>Ld w ⟨b,3,none⟩ (Value.int .i64) fun x3=>Ld w ⟨b,4,none⟩ (Value.int .i64) fun x4=>Ld w ⟨b,5,none⟩ (Value.int .i64) fun x5=>Ld w ⟨b,6,none⟩ (Value.int .i64) fun x6=>Ld w ⟨b,7,none⟩ (Value.int .i64) fun x7=>Ld w ⟨b,8,none⟩ (Value.int .i64) fun x8=>Ld w ⟨b,9,none⟩ (Value.int .i64) fun x9=>Ld w ⟨b,10,none⟩ (Value.int .i64) fun D0=>Ld w ⟨b,11,none⟩ (Value.int .i64) fun Cm=>Ld w ⟨b,12,none⟩ (Value.int .i64) fun DA=>Ld w ⟨b,13,none⟩ (Value.int .i64) fun Et=>Ld w ⟨b,14,none⟩ (Value.int .i64) fun Em=>Ld w ⟨b,15,none⟩ (Value.int .i64) fun Dt=>K x0 x1 x2 x3 x4 x5 x6 x7 x8 x9 D0 Cm DA Et Em Dt:=
 ABI h 0 i hi (fun j hj=>by rw[aj];exact Bo f hj) k
end
attribute [local irreducible] Ld St Nw Nn Lt AP
section
variable {w:World} {s:AA} {lens:List Int}
theorem Mx (h:IV w s lens)(hk:NV lens):pE s w fun r w1=>r=gW (cn lens)/\Ext (fun _=>False) w w1:=by
 refine AQy _ _ _ ?_;unfold AJh;refine (Hn.start w).nw fun w2 H=>H.nw fun w3 H=>?_
 simp only[ag,ar]at H;have hlen:=hk.len;refine ⟨fun n st w4=>∃i:Nat,st=(i:Int)/\i<=lens.length/\n=lens.length-i/\Hn w w4 [(w.heap.size,Dl fun _=>0,236),(w2.heap.size,Dl (cf lens i),236)],lens.length,⟨0,rfl,by omega,rfl,H⟩,?_⟩;rintro n st w4 ⟨i,rfl,hi,rfl,H⟩;unfold pG;rw[h.1];refine Br.dec (fun q=>⟨by omega,by omega,?_⟩) fun q=>?_
 ·have Am:i<lens.length:=by omega
  obtain ⟨a,ha,hc⟩:=(h.AB H.ext).get Am;rw[ha,aa];refine Nn.of (Ld.mk hc ?_);have hn:=hk.nn i;obtain ⟨m,hm⟩:=aR hn.1;have hb:=ABH (lens:=lens) (i:=i) (by omega) m;rw[hm];refine Br.dec (fun q2=>⟨by omega,by omega,?_⟩) fun q2=>?_
  ·simp only[add_lit,aa,aH,aj];refine H.ld 1 rfl (Bo _ (by omega)) ⟨by omega,by omega,?_⟩;refine H.st 1 rfl (by rw[EH];omega) fun w5 H=>?_
   simp only[ai,aq]at H;rw[AE (by omega),Mw _ (by omega),gX hm (by omega)]at H;exact ⟨lens.length-(i+1),by omega,i+1,by rw[AE (by omega)];rfl,by omega,rfl,H⟩
  ·refine ⟨lens.length-(i+1),by omega,i+1,by rw[AE (by omega)];rfl,by omega,rfl,?_⟩;rw[gY (by omega)];exact H
 ·have:i=lens.length:=by omega
  subst this;simp only[add_lit,aj];refine yS H 1 rfl (yR H 0 rfl rfl fun w5 H=>?_);simp only[ai,aq]at H;refine yS (f:=cf lens lens.length) H 0 rfl ⟨rfl,H.ext⟩
theorem Wp {f:Nat->Int}(hf:∀n,0<=f n/\f n<=288)(w:World):xV (gW f) w fun r w1=>r=gW (fs f)/\Ext (fun _=>False) w w1:=by
 refine AQz (gW f) _ _ ?_;unfold AJi;refine (Hn.start w).nw fun w2 H=>H.nw fun w3 H=>H.nw fun w4 H=>?_
 simp only[ag,ar]at H;refine ⟨fun n st w5=>∃k:Nat,st=(k:Int)/\1<=k/\k<=15/\n=15-k/\Hn w w5 [(w.heap.size,Dl f,236),(w2.heap.size,Dl fun _=>0,236),(w3.heap.size,Dl fun j=>if j<=k then fs f j else 0,236)],14,⟨1,rfl,by omega,by omega,rfl,H⟩,?_⟩;rintro n st w5 ⟨k,rfl,TX,hk,rfl,H⟩;unfold pI;refine Br.dec (fun q=>⟨by omega,by omega,?_⟩) fun q=>?_
 ·have H:=H.drew;have b1:=gZ hf k;have b2:=hf k;have hp:=Bz (show k<=15 by omega);have h15:(2:Int)^15=32768:=by decide
  simp only[add_lit,aa,aH,aj];refine H.ld 2 rfl (Bo _ (by omega)) ⟨by omega,by omega,?_⟩;refine H.ld 0 rfl (Bo _ (by omega)) ?_;rw[AE (n:=(k:Int)+1) (by omega)];refine ⟨by omega,by omega,?_⟩;rw[show ((k:Int)+1).toNat=k+1 by omega];refine H.st 2 rfl (by rw[EH];omega) fun w6 H=>?_
  simp only[ai,aq]at H;rw[Mw _ (by omega),ak (av k),AE (n:=fs f k+f k) (by omega),AE (by omega)]at H;refine ⟨15-(k+1),by omega,k+1,rfl,by omega,by omega,rfl,?_⟩;have e:Rr (fun j=>if j<=k then fs f j else 0) (k+1) (2*(fs f k+f k))=fun j=>if j<=k+1 then fs f j else 0:=by
   funext j
   unfold Rr;by_cases hj:j=k+1
   ·subst hj;rw[ak rfl,ak (av _)];obtain ⟨m,rfl⟩:∃m,k=m+1:=⟨k-1,by omega⟩
    rfl
   ·rw[ah hj];dsimp only;by_cases h2:j<=k
    ·rw[ak h2,ak (by omega)]
    ·rw[ah h2,ah (by omega)]
  rw[e]at H;exact H
 ·have:k=15:=by omega
  subst this;simp only[add_lit,aj];refine yS H 2 rfl (yR H 1 rfl rfl fun w5 H=>?_);simp only[ai,aq]at H;refine yS (f:=fs f) H 1 rfl ⟨rfl,H.ext⟩
theorem rG {lens:List Int}{i:Nat}(hi:i<=288):∀l,l<=15->0<=kS lens i l/\kS lens i l<=l*9437184/\0<=uS lens i l/\uS lens i l<=l*288
 |0,_=>⟨bH _,bH _,bH _,bH _⟩
 |l+1,hl=>by
  obtain ⟨a1,a2,a3,a4⟩:=rG (lens:=lens) hi l (by omega);have hc:=GG lens (l+1) i;have hp:=Bz (show 15-(l+1)<=15 by omega);have hp0:=two_pow_pos (15-(l+1));have h15:(2:Int)^15=32768:=by decide
  have m1:(Cg lens (l+1) i:Int)*2^(15-(l+1))<=288*32768:=Int.mul_le_mul (by omega) (by omega) (by omega) (by omega);have m2:0<=(Cg lens (l+1) i:Int)*2^(15-(l+1)):=Int.mul_nonneg (by omega) (by omega);have e1:kS lens i (l+1)=kS lens i l+(Cg lens (l+1) i:Int)*2^(15-(l+1)):=rfl;have e2:uS lens i (l+1)=uS lens i l+(Cg lens (l+1) i:Int):=rfl;rw[e1,e2];omega
theorem AFA (h:∀j,j<lens.length->0<=lens.getD j 0/\lens.getD j 0<=15)(hl:lens.length<=288):NV lens:=⟨hl,fun i=>by
 by_cases hi:i<lens.length
 ·exact h i hi
 ·rw[af,bF (by omega)];exact ⟨bH _,by decide⟩⟩
theorem ALh (h:IV w s lens):ADl s w fun r w1=>r=DE lens/\Ext (fun _=>False) w w1:=by
 refine AQ0 _ _ _ ?_;unfold AJj;rw[h.1];refine Br.dec (fun q=>⟨(rH (by omega)).symm,Ext.refl _ _⟩) fun q=>?_
 refine ⟨fun n st w4=>∃i:Nat,st=(i:Int)/\i<=lens.length/\n=lens.length-i/\w4=w/\∀j,j<i->0<=lens.getD j 0/\lens.getD j 0<=15,lens.length,⟨0,rfl,by omega,rfl,rfl,fun j hj=>by omega⟩,?_⟩;rintro n st w ⟨i,rfl,hi,rfl,rfl,BF⟩;unfold pK;rw[h.1];refine Br.dec (fun q1=>⟨by omega,by omega,?_⟩) fun q1=>?_
 ·have Am:i<lens.length:=by omega
  obtain ⟨a,ha,hc⟩:=h.get Am;rw[ha,aa];refine Nn.of (Ld.mk hc (Br.dec (fun q2=>⟨(gd (by omega) (i:=i) (by omega)).symm,Ext.refl _ _⟩) fun q2=>Br.dec (fun q3=>⟨(gd (by omega) (i:=i) (by omega)).symm,Ext.refl _ _⟩) fun q3=>?_));refine ⟨lens.length-(i+1),by omega,i+1,by rw[AE (by omega)];rfl,by omega,rfl,rfl,fun j hj=>?_⟩;by_cases OJ:j=i
  ·subst OJ;omega
  ·exact BF j (by omega)
 ·have:i=lens.length:=by omega
  subst this;have hk:=AFA BF (by omega);refine (Mx h hk).mono ?_;rintro r w1 ⟨rfl,he⟩;refine (Hn.start w1).nw fun w2 H=>?_
  simp only[ag,ar]at H;simp only[add_lit,aj];refine yR H 0 rfl rfl fun w3 H=>?_
  simp only[ai,aq]at H;refine ⟨fun n st w4=>∃l:Nat,st=(kS lens lens.length l,uS lens lens.length l,((l+1:Nat):Int))/\l<=15/\n=15-l/\Hn w1 w4 [(w1.heap.size,Dl (cn lens),236)],15,⟨0,rfl,by omega,rfl,H⟩,?_⟩;rintro n st w4 ⟨l,rfl,hl,rfl,H⟩;unfold pJ;dsimp only;obtain ⟨a1,a2,a3,a4⟩:=rG (lens:=lens) (i:=lens.length) (by omega) l (by omega);refine Br.dec (fun q4=>⟨by omega,by omega,?_⟩) fun q4=>?_
  ·simp only[add_lit,aa,aH,aj];refine H.ld 0 rfl (Bo _ (by omega)) ?_;obtain ⟨b1,b2,b3,b4⟩:=rG (lens:=lens) (i:=lens.length) (by omega) (l+1) (by omega);have hc:cn lens (l+1)=(Cg lens (l+1) lens.length:Int):=by unfold cn;rw[ah (by omega)];rfl
   have IS:=GG lens (l+1) lens.length;have e1:kS lens lens.length (l+1)=kS lens lens.length l+(Cg lens (l+1) lens.length:Int)*2^(15-(l+1)):=rfl;have e2:uS lens lens.length (l+1)=uS lens lens.length l+(Cg lens (l+1) lens.length:Int):=rfl;rw[AE (n:=15-((l+1:Nat):Int)) (by omega),show min (15-((l+1:Nat):Int)).toNat 64=15-(l+1) by omega,hc];generalize (Cg lens (l+1) lens.length:Int)*2^(15-(l+1))=z at*;rw[AE (n:=z) (by omega),AE (by omega),<-e1];refine ⟨by omega,Lt.of ⟨by omega,by omega,H.ld 0 rfl (Bo _ (by omega)) ?_⟩⟩;rw[hc,AE (n:=uS lens lens.length l+_) (by omega),<-e2,AE (n:=((l+1:Nat):Int)+1) (by omega)];exact ⟨15-(l+1),by omega,l+1,rfl,by omega,rfl,H⟩
  ·have:l=15:=by omega
   subst this;rw[rJ hk,gg hk,Kw hk];obtain ⟨u1,u2,u3,u4,u5,u6⟩:=LL hk lens.length;have e:=he.tr H.ext;refine Br.eq (fun q5=>⟨by rw[ak (.inl q5)],e⟩) fun q5=>Br.eq (fun q6=>⟨by rw[ak (.inr (.inl (u3 q6).1))],e⟩) fun q6=>Br.eq (fun q7=>?_) fun q7=>⟨by rw[ah (by omega)],e⟩
   iterate 1 refine H.ld 0 rfl rfl ?_
   have hc:cn lens 1=(Cg lens 1 lens.length:Int):=rfl;rw[hc];have:=u4 q7;refine Br.eq (fun q8=>⟨by rw[ak (.inr (.inr ⟨q7,this.2 (by omega)⟩))],e⟩) fun q8=>⟨by rw[ah (by omega)],e⟩
end
end A8
namespace A8
open Sh DS
theorem Wu (lens:List Int)(n i:Nat):∀d,∃r,Gl lens n (i+d)=Gl lens n i++r
 |0=>⟨[],by simp⟩
 |d+1=>by
  obtain ⟨r,h⟩:=Wu lens n i d;rw[show i+(d+1)=i+d+1 by omega,EC];split
  ·exact ⟨r++[i+d],by rw[h,ax]⟩
  ·exact ⟨r,h⟩
theorem Ud {lens:List Int}{n i:Nat}(h:lens.getD i 0=(n:Int))(hi:i<lens.length):(idxs lens n).getD (Cg lens n i) 0=i/\Cg lens n i<Ft lens n:=by
 obtain ⟨r,hr⟩:=Wu lens n (i+1) (lens.length-(i+1));rw[show i+1+(lens.length-(i+1))=lens.length by omega,EC,ak h]at hr;have e:idxs lens n=Gl lens n i++[i]++r:=hr;constructor
 ·rw[e,ax,af];unfold Cg;rw[aF (av _),cl]
  rfl
 ·show (Gl lens n i).length<(idxs lens n).length;rw[e,ax,ae,ae];simp;omega
attribute [local irreducible] Ld St Nw Nn Lt AP
section
variable {w:World} {s:AA} {lens:List Int}
end
end A8
set_option maxRecDepth 512
set_option maxHeartbeats 200000
namespace DS
open Sh
def NT (w:World)(b:Nat)(s:ByteArray)(p:Nat)(AJ:Int):Prop:=
 AO w b #[.int .i64 AJ,.int .i64 ((p%8:Nat):Int),.string s,.int .i64 ((p/8:Nat):Int)] 222
abbrev SH (b:Nat):Option Addr:=some ⟨b,0,none⟩
section
variable {w:World} {b:Nat} {s:ByteArray} {p:Nat} {AJ:Int}
theorem wF (h:NT w b s p AJ)(w':Int):jT (SH b) w' w fun x w1=>x=(if w'=1 then ((p%8:Nat):Int)else 7-((p%8:Nat):Int))/\w1=w:=by
 refine AH7 _ _ _ _ ?_;unfold ACa;by_cases hw:w'=1
 ·simp only[hw,beq_self_eq_true,Ot];exact Nn.of (Ld.of h rfl ⟨rfl,trivial⟩)
 ·simp only[hw,dz,beq_eq_false_iff_ne.2 hw,Kr];exact Nn.of (Ld.of h rfl ⟨AE (by omega),trivial⟩)
theorem wG (h:NT w b s p AJ)(w':Int):ml (SH b) w' w fun x w1=>x=(AJ !=0&&AJ !=w')/\w1=w:=by
 refine AH8 _ _ _ _ ?_;unfold ACb;refine Nn.of (Ld.of h rfl (AX (fun e=>?_) fun e=>?_))
 ·exact Nn.of (Ld.of h rfl ⟨by simp[e],rfl⟩)
 ·exact ⟨by simp[e],rfl⟩
theorem ACc (h:NT w b s p AJ)(hp:p<=8*s.size)(hs:s.size<=1000000):ACd (SH b) w fun x w1=>x=((8*s.size-p:Nat):Int)/\w1=w.drew:=by
 refine APS _ _ _ ?_;unfold AH9;refine Nn.of (Ld.of h.drew rfl (Nn.of (Ld.of h.drew rfl (Nn.of (Ld.of h.drew rfl ⟨?_,rfl⟩)))));simp (disch:=omega) only[AE];omega
theorem jU (h:NT w b s p AJ)(hp:p<=8*s.size)(hs:s.size<=1000000):wH (SH b) w fun x w1=>x=(((p+7)/8:Nat):Int)/\w1=w:=by
 refine APT _ _ _ ?_;unfold AIA;refine Nn.of (Ld.of h rfl (AX (fun e=>?_) fun e=>?_))
 ·have e:(0:Int)<((p%8:Nat):Int):=by simpa using e
  refine Nn.of (Ld.of h rfl ⟨?_,rfl⟩);rw[AE (by omega)];omega
 ·have e:¬(0:Int)<((p%8:Nat):Int):=by simpa using e
  refine Nn.of (Ld.of h rfl ⟨?_,rfl⟩);omega
theorem AIB (s:ByteArray)(w':Int)(p:Nat):CY .i64 (Int.fdiv (wrap .i64 (Cp s ((p/8:Nat):Int))) (2^min (if w'=1 then ((p%8:Nat):Int)else 7-((p%8:Nat):Int)).toNat 64)) 1=bt s w' p:=by
 have hb:=mh s (p/8);rw[fQ,AE (by omega),fdiv_pow];have hd:=@NS (OI s (p/8)) (min (if w'=1 then ((p%8:Nat):Int)else 7-((p%8:Nat):Int)).toNat 64) hb.1;rw[VZ hd.1 (by omega)];unfold bt;split
 ·rw[show min ((p%8:Nat):Int).toNat 64=p%8 by omega]
 ·rw[show min (7-((p%8:Nat):Int)).toNat 64=7-p%8 by omega]
theorem mn (h:NT w b s p AJ)(hp:p<8*s.size)(hs:s.size<=1000000)(w':Int):
  ACe (SH b) w' w fun x w1=>x=bt s w' p/\NT w1 b s (p+1) AJ/\Ext (·=b) w w1:=by
 refine APU _ _ _ _ ?_;unfold AIC;have hS:∀w1,w1=w.drew->NT w1 b s p AJ:=fun w1 e=>e▸h.drew
 refine ⟨fun w1=>w1=w.drew,rfl,Nn.of (AP.of hS rfl (Nn.of (AP.of hS rfl ⟨by omega,by omega,Nn.of ((wF h.drew w').mono ?_)⟩)))⟩;rintro x w1 ⟨rfl,rfl⟩;rw[AIB];have H:Hx w (·=b) w.drew _:=(Hx.one h).drew;refine ⟨rfl,by split<;>omega,Nn.of (H.ld 0 rfl rfl (Nn.of (H.st 0 rfl (by simp) (.inl rfl) fun w2 H=>Nn.of (H.ld 0 rfl rfl (AX (fun e=>?_) fun e=>?_)))))⟩
 ·rw[AE (by omega)]at e;have e:((p%8:Nat):Int)+1=8:=by simpa using e
  refine Nn.of (H.st 0 rfl (by simp) (.inl rfl) fun w3 H=>Nn.of (H.ld 0 rfl rfl (Nn.of (H.st 0 rfl (by simp) (.inl rfl) fun w4 H=>⟨rfl,?_,H.ext⟩))));have:=H.get 0 rfl;unfold NT;rw[show (p+1)%8=0 by omega,show (p+1)/8=p/8+1 by omega];rw[AE (n:=((p/8:Nat):Int)+1) (by omega)]at this;exact this
 ·rw[AE (by omega)]at e;have e:¬((p%8:Nat):Int)+1=8:=by simpa using e
  refine ⟨rfl,?_,H.ext⟩;have:=H.get 0 rfl;unfold NT;rw[show (p+1)%8=p%8+1 by omega,show (p+1)/8=p/8 by omega];rw[AE (n:=((p%8:Nat):Int)+1) (by omega)]at this;exact this
def jV (s:ByteArray)(p:Nat)(AJ n w':Int):Int×Int×Nat×Int:=
 if n<0\/24<n\/(AJ≠0/\AJ≠w')then (0,1,p,AJ)
 else if ((8*s.size-p:Nat):Int)<n then (0,4,p,AJ)
 else (tk s w' p n.toNat,0,p+n.toNat,if 0<n then w' else AJ)
theorem Te {n w':Int}(h:n<0\/24<n\/(AJ≠0/\AJ≠w')):jV s p AJ n w'=(0,1,p,AJ):=ak h
theorem Tf {n w':Int}(h:¬(n<0\/24<n\/(AJ≠0/\AJ≠w')))(h2:((8*s.size-p:Nat):Int)<n):jV s p AJ n w'=(0,4,p,AJ):=by
 unfold jV;rw[ah h,ak h2]
theorem Yd {n w':Int}(h:¬(n<0\/24<n\/(AJ≠0/\AJ≠w')))(h2:¬((8*s.size-p:Nat):Int)<n):
  jV s p AJ n w'=(tk s w' p n.toNat,0,p+n.toNat,if 0<n then w' else AJ):=by
 unfold jV;rw[ah h,ah h2]
theorem ACf (h:NT w b s p AJ)(hp:p<=8*s.size)(hs:s.size<=1000000)(n w':Int)(jR:w'=1\/w'=2):
  ACg (SH b) n w' w fun v e w1=>v=(jV s p AJ n w').1/\e=(jV s p AJ n w').2.1/\NT w1 b s (jV s p AJ n w').2.2.1 (jV s p AJ n w').2.2.2/\Ext (·=b) w w1:=by
 refine APV _ _ _ _ _ ?_;unfold AID;refine AX (fun e=>?_) fun _=>?_
 ·cases e
 refine AX (fun e=>?_) fun e1=>AX (fun e=>?_) fun e2=>Nn.of ((wG h w').mono ?_)
 ·rw[Te (.inl (by simpa using e))];exact ⟨rfl,rfl,h,Ext.refl _ _⟩
 ·rw[Te (.inr (.inl (by simpa using e)))];exact ⟨rfl,rfl,h,Ext.refl _ _⟩
 rintro x w1 ⟨rfl,rfl⟩;refine AX (fun e=>?_) fun e3=>?_
 ·rw[Te (.inr (.inr (by simpa using e)))];exact ⟨rfl,rfl,h,Ext.refl _ _⟩
 have h0:¬n<0:=by simpa using e1
 have h24:n<=24:=by simpa using e2
 have hw:¬(AJ≠0/\AJ≠w'):=by simpa using e3
 have Kf:¬(n<0\/24<n\/(AJ≠0/\AJ≠w')):=by omega
 refine (ACc h hp hs).mono ?_;rintro x w2 ⟨rfl,rfl⟩;refine AX (fun e=>?_) fun e4=>?_
 ·rw[Tf Kf (by simpa using e)];exact ⟨rfl,rfl,h.drew,(Ext.refl _ _).drew⟩
 have hn:n<=((8*s.size-p:Nat):Int):=by simpa using e4
 rw[Yd Kf (by omega)];obtain ⟨m,rfl⟩:=aR (show 0<=n by omega);rw[aa];refine ⟨fun k st w3=>∃i:Nat,i<=m/\k=m-i/\st=(tk s w' p i,(i:Int))/\NT w3 b s (p+i) AJ/\Ext (·=b) w1 w3,m,⟨0,by omega,by omega,rfl,h.drew,(Ext.refl _ _).drew⟩,?_⟩;rintro k st w3 ⟨i,hi,rfl,rfl,hr,hx⟩;unfold mq;have hb:=mi s w' p i;have APW:=Pf (show i<=24 by omega);refine AX (fun e=>?_) fun e=>?_
 ·have Am:i<m:=by simpa using e
  refine (mn hr (by omega) hs w').mono ?_;rintro x w4 ⟨rfl,hr',hx'⟩;have hbb:=fR s w' (p+i);have h2:m-(i+1)<m-i:=by omega
  dsimp only;rw[AE (n:=(i:Int)+1) (by omega)];rcases jR with rfl|rfl
  ·simp only[beq_self_eq_true,Ot];have h3:bt s 1 (p+i)*2^i<=1*2^i:=Int.mul_le_mul_of_nonneg_right hbb.2 (dO (two_pow_pos i));have h4:0<=bt s 1 (p+i)*2^i:=Int.mul_nonneg hbb.1 (dO (two_pow_pos i));refine ⟨by omega,_,h2,i+1,by omega,rfl,?_,hr',hx.tr hx'⟩;rw[show min ((i:Int)).toNat 64=i by omega,AE (by omega),wE hb.1 hb.2 hbb (by omega)];simp[tk]
  ·simp only[show ((2:Int)==1)=false by rfl,Kr];refine ⟨_,h2,i+1,by omega,rfl,?_,hr',hx.tr hx'⟩;rw[show tk s 2 p i*2^1=tk s 2 p i*2 by simp,AE (by omega),Va hb.1 (by omega) hbb];simp[tk]
 ·have MD:i=m:=by
   have:¬(i:Int)<m:=by simpa using e
   omega
  subst MD;refine AX (fun e=>?_) fun e=>?_
  ·have HX:(0:Int)<i:=by simpa using e
   rw[ak HX];refine Nn.of ((Hx.one (F:=(·=b)) hr).st 0 rfl (by simp) (.inl rfl) fun w5 H=>⟨rfl,rfl,H.get 0 rfl,hx.tr H.ext⟩)
  ·have hz:¬(0:Int)<i:=by simpa using e
   rw[ah hz];exact ⟨rfl,rfl,hr,hx⟩
theorem AIH (h:NT w b s p AJ)(hp:p<=8*s.size)(hs:s.size<=1000000)(n:Int):
  mr (SH b) n w fun v e w1=>v=(jV s p AJ n 1).1/\e=(jV s p AJ n 1).2.1/\NT w1 b s (jV s p AJ n 1).2.2.1 (jV s p AJ n 1).2.2.2/\Ext (·=b) w w1:=
 APX _ _ _ _ (ACf h hp hs n 1 (.inl rfl))
theorem ACh (w:World)(s:ByteArray):ACi s w fun r w1=>r=SH w.heap.size/\NT w1 w.heap.size s 0 0/\Ext (fun _=>False) w w1:=by
 refine APY _ _ _ ?_;unfold AII;exact (Hx.start w (fun _=>False)).nw fun w2 H=>⟨rfl,H.get 0 rfl,H.ext⟩
theorem wI (h:NT w b s p AJ)(hp:p<=8*s.size)(hs:s.size<=1000000):ACj (SH b) w fun w1=>NT w1 b s ((p+7)/8*8) 0/\Ext (·=b) w w1:=by
 refine APZ _ _ _ ?_;unfold AIJ;have H:Hx w (·=b) w _:=Hx.one h;refine Nn.of (H.ld 0 rfl rfl (AX (fun e=>?_) fun e=>?_))
 ·have e:(0:Int)<((p%8:Nat):Int):=by simpa using e
  refine Nn.of (H.ld 0 rfl rfl (Nn.of (H.st 0 rfl (by simp) (.inl rfl) fun w2 H=>Nn.of (H.st 0 rfl (by simp) (.inl rfl) fun w3 H=>H.st 0 rfl (by simp) (.inl rfl) fun w4 H=>⟨?_,H.ext⟩))));have:=H.get 0 rfl;unfold NT;rw[show (p+7)/8*8%8=0 by omega,show (p+7)/8*8/8=p/8+1 by omega];rw[AE (by omega)]at this;exact this
 ·have e:¬(0:Int)<((p%8:Nat):Int):=by simpa using e
  refine Nn.of (H.st 0 rfl (by simp) (.inl rfl) fun w2 H=>H.st 0 rfl (by simp) (.inl rfl) fun w3 H=>⟨?_,H.ext⟩);have:=H.get 0 rfl;unfold NT;rw[show (p+7)/8*8%8=0 by omega,show (p+7)/8*8/8=p/8 by omega];exact this
def Vb (s:ByteArray)(p:Nat)(n:Int):ByteArray×Int×Nat:=
 if n<0\/p%8≠0 then (⟨#[]⟩,1,p)
 else if ((s.size-p/8:Nat):Int)<n then (⟨#[]⟩,4,p)
 else (s.extract (p/8) (p/8+n.toNat),0,p+8*n.toNat)
theorem Vc {n:Int}(h:n<0\/p%8≠0):Vb s p n=(⟨#[]⟩,1,p):=ak h
theorem Pg {n:Int}(h:¬(n<0\/p%8≠0))(h2:((s.size-p/8:Nat):Int)<n):Vb s p n=(⟨#[]⟩,4,p):=by
 unfold Vb;rw[ah h,ak h2]
theorem Th {n:Int}(h:¬(n<0\/p%8≠0))(h2:¬((s.size-p/8:Nat):Int)<n):Vb s p n=(s.extract (p/8) (p/8+n.toNat),0,p+8*n.toNat):=by
 unfold Vb;rw[ah h,ah h2]
theorem AIK (h:NT w b s p AJ)(hp:p<=8*s.size)(hs:s.size<=1000000)(n:Int):
  ACk (SH b) n w fun v e w1=>v=(Vb s p n).1/\e=(Vb s p n).2.1/\NT w1 b s (Vb s p n).2.2 AJ/\Ext (·=b) w w1:=by
 refine APa _ _ _ _ ?_;unfold AIL;have H:Hx w (·=b) w _:=Hx.one h;refine AX (fun e=>?_) fun _=>AX (fun e=>?_) fun e1=>Nn.of (H.ld 0 rfl rfl (AX (fun e=>?_) fun e2=>Nn.of (H.drew.ld 0 rfl rfl (Nn.of (H.drew.ld 0 rfl rfl (AX (fun e=>?_) fun e3=>?_))))))
 ·cases e
 ·rw[Vc (.inl (by simpa using e))];exact ⟨rfl,rfl,h,H.ext⟩
 ·have e:(0:Int)<((p%8:Nat):Int):=by simpa using e
  rw[Vc (.inr (by omega))];exact ⟨rfl,rfl,h,H.ext⟩
 ·have h0:¬n<0:=by simpa using e1
  have h8:¬(0:Int)<((p%8:Nat):Int):=by simpa using e2
  rw[AE (by omega)]at e;have e:(s.size:Int)-((p/8:Nat):Int)<n:=by simpa using e
  rw[Pg (by omega) (by omega)];exact ⟨rfl,rfl,h.drew,H.drew.ext⟩
 ·have h0:¬n<0:=by simpa using e1
  have h8:¬(0:Int)<((p%8:Nat):Int):=by simpa using e2
  rw[AE (by omega)]at e3;have e3:¬(s.size:Int)-((p/8:Nat):Int)<n:=by simpa using e3
  rw[Th (by omega) (by omega)];obtain ⟨m,rfl⟩:=aR (show 0<=n by omega);rw[aa];refine Nn.of (H.drew.ld 0 rfl rfl (Nn.of (H.drew.st 0 rfl (by simp) (.inl rfl) fun w2 H=>Nn.of (H.drew.ld 0 rfl rfl (Nn.of (H.drew.ld 0 rfl rfl (Nn.of (H.drew.ld 0 rfl rfl ?_))))))));rw[AE (n:=((p/8:Nat):Int)+(m:Int)) (by omega),AE (by omega)];refine ⟨by omega,by omega,by omega,by omega,?_,rfl,?_,H.drew.ext⟩
  ·rw[show (((p/8:Nat):Int)+(m:Int)-(m:Int)).toNat=p/8 by omega,show (((p/8:Nat):Int)+(m:Int)).toNat=p/8+m by omega]
  ·have:=H.drew.get 0 rfl;rw[AE (n:=((p/8:Nat):Int)+(m:Int)) (by omega)]at this;unfold NT;rw[show (p+8*m)%8=p%8 by omega,show (p+8*m)/8=p/8+m by omega];exact this
end
end DS
set_option maxRecDepth 4000
set_option maxHeartbeats 2000000
namespace A8
open Sh DS
def Ea (lens:List Int)(i:Nat):Int:=if 0<lens.getD i 0 then fs (cn lens) (lens.getD i 0).toNat+(Cg lens (lens.getD i 0).toNat i:Int)else 0
def Dm (lens:List Int)(i:Nat):List Int:=(List.range i).map (Ea lens)++List.replicate (lens.length-i) 0
def LM (lens:List Int):List Int:=(List.range lens.length).map (Ea lens)
theorem Zb (lens:List Int){i:Nat}(hi:i<=lens.length):(Dm lens i).length=lens.length:=by
 unfold Dm;simp;omega
theorem Zc (lens:List Int){i:Nat}(hi:i<lens.length)(x:Int)(hx:x=Ea lens i):(Dm lens i).set i x=Dm lens (i+1):=by
 unfold Dm;rw[dh _ _ (by simp),bp,dQ,cl,show lens.length-i=(lens.length-(i+1))+1 by omega,cQ,ai,ej,bh,ax,hx]
 rfl
theorem Wq (lens:List Int){i:Nat}(hi:i<lens.length)(hx:Ea lens i=0):Dm lens (i+1)=Dm lens i:=by
 unfold Dm;rw[show lens.length-i=(lens.length-(i+1))+1 by omega,cQ,ej,bh,ax];simp[hx]
theorem Zd (lens:List Int):Dm lens lens.length=LM lens:=by unfold Dm LM;simp
theorem G9 (n:Nat):(List.replicate n [Value.int .i64 0]).flatten=ints (List.replicate n 0):=by
 unfold ints
 induction n with
 |zero=>rfl
 |succ n ih=>rw[cQ,ct,ih,cQ];rfl
theorem IV.AS{w:World}{g n:Nat}{l:List Int}{t:TypeId}(h:AO w g (ints l).toArray t)(hn:n=l.length):IV w ⟨some ⟨g,0,none⟩,n,n⟩ l:=⟨hn,Bh.of h (by rw[Ap,hn];omega)⟩
theorem IV.row{w:World}{s:AA}{l:List Int}{t:TypeId}(h:Row w s t 1 (ints l)):IV w s l:=by
 refine ⟨?_,h.view⟩;have:=h.1;rw[Ap]at this;omega
theorem O5 {w:World}{s:AA}{t:TypeId}{k:Nat}{xs:List Value}(h:Row w s t k xs):s.len<=s.cap:=by
 rcases h.2 with h|⟨g,cur,h1,h2,h3,h4,h5⟩
 ·rw[h];exact av _
 ·exact h3
theorem IV.drop{w:World}{s:AA}{l:List Int}(h:IV w s l)(hc:s.len<=s.cap){d:Nat}(hd:d<=l.length):IV w (s.cut 1 d s.len s.cap) (l.drop d)/\(s.cut 1 d s.len s.cap).len<=(s.cut 1 d s.len s.cap).cap:=by
 have h1:=h.1;refine ⟨⟨?_,?_⟩,?_⟩
 ·show s.len-d=_;rw[aJ];omega
 ·refine ⟨?_,fun j v hj=>?_⟩
  ·rw[Ap,aJ];show _=(s.len-d)*1;omega
  ·have V7:j<(l.drop d).length:=by
    have:=(ao.1 hj).1;rw[Ap]at this;exact this
   rw[aJ]at V7;obtain ⟨a,ha,me⟩:=h.2.2 (d+j) v (by
    rw[<-hj];unfold ints;rw[aE,aE,bW])
   refine ⟨a.add d,?_,by rw[BN];exact me⟩;show (if s.cap=d then s.p else s.p.map (·.add (d*1)))=_;rw[ah (by omega),ha,aH]
   rfl
 ·show s.len-d<=s.cap-d;omega
theorem yT {s:AA}{d j:Nat}(h:(s.cut 1 d s.len s.cap).own j):s.own j:=by
 obtain ⟨a,ha,rfl⟩:=h;have ha:(if s.cap=d then s.p else s.p.map (·.add (d*1)))=some a:=ha;split at ha
 ·exact ⟨a,ha,rfl⟩
 ·obtain ⟨x,hx,rfl⟩:=bg.1 ha;exact ⟨x,hx,(Bl x _).symm⟩
def nx (lens:List Int)(i:Nat)(n:Nat):Int:=fs (cn lens) n+cf lens i n
theorem yU {lens:List Int}{i n:Nat}(h:lens.getD i 0=(n:Int))(hn:0<n):Rr (nx lens i) n (nx lens i n+1)=nx lens (i+1):=by
 have hc:=gX h hn
 funext j
 have hj:=congrFun hc j;unfold Rr at hj⊢;unfold nx;by_cases e:j=n
 ·subst e;rw[ak rfl]at hj⊢;omega
 ·rw[ah e]at hj⊢;rw[hj]
attribute [local irreducible] Ld St Nw Nn Lt AP
section
variable {w:World} {s:AA} {lens:List Int}
theorem yV (h:IV w s lens):ADm s w fun r e w1=>e=DE lens/\Ext (fun _=>False) w w1/\(DE lens=0->IV w1 r (LM lens)/\∀j,r.own j->w.heap.size<=j/\j<w1.heap.size):=by
 refine AQ1 _ _ _ ?_;unfold AJl;refine (ALh h).mono ?_;rintro r w1 ⟨rfl,vP⟩;refine Br.ne (fun q=>⟨rfl,vP,fun hh=>absurd hh q⟩) fun q=>?_
 have hk:=A5 q;have hlen:=hk.len;refine (Mx (h.AB vP) hk).mono ?_;rintro r w2 ⟨rfl,JP⟩;refine (Wp (f:=cn lens) (fun n=>Ws hlen n) w2).mono ?_;rintro r w3 ⟨rfl,VK⟩;have E3:=vP.tr (JP.tr VK);refine (Hn.start w3).nw fun w4 H=>?_
 simp only[ag,add_lit,aj]at H⊢;refine yR H 0 rfl rfl fun w5 H=>?_
 simp only[ai,aq]at H;rw[h.1];obtain ⟨w6,Ag,hw6⟩:=YO.make (zs:=[.int .i64 0]) rfl w5 lens.length (by omega) (by omega);refine ⟨_,w6,Ag,?_⟩;have ACU:=H.lt 0 rfl;have H:Hn w3 w6 [(w3.heap.size,Dl (nx lens 0),236),(w5.heap.size,ints (Dm lens 0),3)]:=by
  have e0:nx lens 0=fs (cn lens):=by
   funext j
   unfold nx cf;split
   ·omega
   ·show _+((0:Nat):Int)=_;omega
  have e1:Dm lens 0=List.replicate lens.length 0:=by unfold Dm;simp
  rw[e0,e1,hw6,G9];exact (H.AB ((Ext.refl _ _).alloc _)).push (AO.new _ _ _) H.size (by simp;omega)
 refine ⟨fun n st w7=>∃i:Nat,st=(i:Int)/\i<=lens.length/\n=lens.length-i/\Hn w3 w7 [(w3.heap.size,Dl (nx lens i),236),(w5.heap.size,ints (Dm lens i),3)],lens.length,⟨0,rfl,by omega,rfl,H⟩,?_⟩;rintro n st w7 ⟨i,rfl,hi,rfl,H⟩;unfold pL;rw[h.1];refine Br.dec (fun q1=>⟨by omega,by omega,?_⟩) fun q1=>?_
 ·have Am:i<lens.length:=by omega
  obtain ⟨a,ha,hc⟩:=((h.AB E3).AB H.ext).get Am;rw[ha,aa];have hn:=hk.nn i;obtain ⟨m,hm⟩:=aR hn.1;have b1:=gZ (fun n=>Ws hlen n) m;have b2:=ABH (lens:=lens) (i:=i) (by omega) m;have hp:=Bz (show m<=15 by omega);have h15:(2:Int)^15=32768:=by decide
  have hnx:nx lens i m=fs (cn lens) m+cf lens i m:=rfl;refine Nn.of (Ld.mk hc ?_);rw[hm];refine Br.dec (fun q2=>⟨by omega,by omega,?_⟩) fun q2=>?_
  ·have ALi:nx lens i m=Ea lens i:=by
    unfold Ea;rw[ak (by omega),hm,aa,hnx];unfold cf;rw[ah (by omega)]
   simp only[add_lit,aa,aH,aj];refine H.ld 0 rfl (Bo _ (by omega)) ⟨by omega,by omega,Nn.of ?_⟩;simp only[add_lit,aa,aH,aj];refine H.st 1 rfl (by rw[Ap,Zb _ hi];omega) fun w8 H=>?_
   simp only[ai,aq]at H;rw[ints_set,Zc _ Am _ ALi]at H;refine ⟨by omega,by omega,H.ld 0 rfl (Bo _ (by omega)) ⟨by omega,by omega,H.st 0 rfl (by rw[EH];omega) fun w9 H=>?_⟩⟩;simp only[ai,aq]at H;rw[AE (n:=nx lens i m+1) (by omega),Mw _ (by omega),yU hm (by omega)]at H;exact ⟨lens.length-(i+1),by omega,i+1,by rw[AE (by omega)];rfl,by omega,rfl,H⟩
  ·refine ⟨lens.length-(i+1),by omega,i+1,by rw[AE (by omega)];rfl,by omega,rfl,?_⟩;have e:nx lens (i+1)=nx lens i:=by
    funext j
    unfold nx;rw[gY (by omega)]
   rw[e,Wq _ Am (by unfold Ea;rw[ah (by omega)])];exact H
 ·have:i=lens.length:=by omega
  subst this;rw[Zd]at H;refine ⟨q.symm,E3.tr H.ext,fun _=>⟨IV.AS (H.get 1 rfl) (by unfold LM;simp),fun j hj=>?_⟩⟩;obtain ⟨a,ha,rfl⟩:=hj;cases ha;have:=H.ge 1 rfl;have:=E3.size;have:=H.lt 1 rfl;show w.heap.size<=w5.heap.size/\w5.heap.size<w7.heap.size;omega
theorem FB (h:IV w s lens)(hlen:lens.length<=100000):ADn s w fun r w1=>IV w1 r lens/\Ext (fun _=>False) w w1/\∀j,r.own j->w.heap.size<=j/\j<w1.heap.size:=by
 refine AQ2 _ _ _ ?_;unfold AJm;have h1:=h.1;cases hp:s.p with
 |none=>
  have hl:lens=[]:=by
   cases hl:lens with
   |nil=>rfl
   |cons x r=>
    obtain ⟨a,ha,_⟩:=h.get (i:=0) (by rw[hl];simp);rw[hp]at ha;cases ha
  rw[hl];refine Br.t rfl ⟨IV.nil _,Ext.refl _ _,fun j hj=>?_⟩;obtain ⟨a,ha,_⟩:=hj;cases ha
 |some p=>
  refine Br.f rfl (Nw.of ?_);have e1:Ext (fun _=>False) w (w.alloc (.cells #[] 3)):=(Ext.refl _ _).alloc _;obtain ⟨s',w',r1,r2,r3,r4,r5⟩:=YO.app (ty:=196) (Row.new w #[] 3 1 0 rfl) (h.AB e1).2 (Fk lens) (by show (0+s.len)*8<=_;omega) (by show 0+s.len<=_;omega);refine ⟨s',w',r1,IV.row (l:=lens) (by simpa using r2),e1.trans r4 (fun _ h=>h) (fun i hi hh=>?_),fun j hj=>?_⟩
  ·obtain ⟨a,ha,rfl⟩:=hh;cases ha;exact absurd hi (Nat.lt_irrefl _)
  ·refine ⟨?_,r2.own_lt hj⟩;rcases r5 j hj with hh|hh
   ·obtain ⟨a,ha,rfl⟩:=hh;cases ha;exact av _
   ·have:=e1.size;omega
def tc (s1 s2:AA)(f g:Nat->Int)(s3:AA):List Value:=[AA.v s1,AA.v s2]++(Dl f++(Dl g++[AA.v s3]))
theorem AFB (s1 s2:AA)(f g:Nat->Int)(s3:AA){j:Nat}(hj:j<16):(tc s1 s2 f g s3)[2+j]?=some (.int .i64 (f j)):=by
 unfold tc;rw[aF (by simp),show 2+j-[AA.v s1,AA.v s2].length=j by simp,aG (by rw[EH];omega),Bo _ hj]
theorem AW5 (s1 s2:AA)(f g:Nat->Int)(s3:AA){j:Nat}(hj:j<16):(tc s1 s2 f g s3)[18+j]?=some (.int .i64 (g j)):=by
 unfold tc;rw[aF (by simp;omega),show 18+j-[AA.v s1,AA.v s2].length=16+j by simp;omega,aF (by rw[EH];omega),EH,dx,aG (by rw[EH];omega),Bo _ hj]
def HA (l:List Nat):List Int:=l.map Int.ofNat
theorem Wt {lens:List Int}(h:lens.length<=288):∀n,(My lens n).length<=n*288
 |0=>av _
 |n+1=>by
  have ih:=Wt h n;have:(idxs lens (n+1)).length<=lens.length:=GG lens (n+1) lens.length;show (My lens n++idxs lens (n+1)).length<=_;rw[ae];omega
def TB (w:World)(lo hi b:Nat)(lens:List Int):Prop:=∃s1 s2 s3:AA,AO w b (tc s1 s2 (cn lens) (fs (cn lens)) s3).toArray 239/\IV w s1 lens/\IV w s2 (LM lens)/\IV w s3 (HA (My lens 15))/\s3.len<=s3.cap/\
 (lo<=b/\b<hi)/\(∀j,s1.own j->lo<=j/\j<hi)/\(∀j,s2.own j->lo<=j/\j<hi)/\∀j,s3.own j->lo<=j/\j<hi
theorem TB.AB{F:Nat->Prop}{w w':World}{lo hi b:Nat}(h:TB w lo hi b lens)(he:Ext F w w')(hF:∀j,lo<=j->j<hi->¬F j):TB w' lo hi b lens:=by
 obtain ⟨s1,s2,s3,h1,h2,h3,h4,h5,h6,h7,h8,h9⟩:=h;exact ⟨s1,s2,s3,he.AS h1 (hF _ h6.1 h6.2),h2.AI he (fun j hj=>hF j (h7 j hj).1 (h7 j hj).2),h3.AI he (fun j hj=>hF j (h8 j hj).1 (h8 j hj).2),h4.AI he (fun j hj=>hF j (h9 j hj).1 (h9 j hj).2),h5,h6,h7,h8,h9⟩
theorem yW {w:World}{s:AA}{l:List Int}(h:IV w s l)(hl:l≠[]){j:Nat}(hj:s.own j):j<w.heap.size:=by
 obtain ⟨a,ha,rfl⟩:=hj;obtain ⟨a2,QM,hc⟩:=h.get (i:=0) (ch.2 hl);rw[ha]at QM;cases QM;have:=BJ hc;rw[Bl]at this;exact this
end
end A8
namespace A8
open Sh DS
theorem LN (l m:List Nat):HA (l++m)=HA l++HA m:=by unfold HA;rw[bh]
theorem Ch (l:List Nat):(HA l).length=l.length:=by unfold HA;simp
def Oc (lens:List Int):Nat->Nat->List Nat
 |0,_=>[]
 |k+1,n=>idxs lens n++Oc lens k (n+1)
theorem rK (lens:List Int):∀k l,My lens (l+k)=My lens l++Oc lens k (l+1)
 |0,l=>by simp[Oc]
 |k+1,l=>by
  rw[show l+(k+1)=(l+1)+k by omega,rK lens k (l+1)];show (My lens l++idxs lens (l+1))++_=My lens l++(idxs lens (l+1)++Oc lens k (l+1+1));rw[ax]
theorem Wv {lens:List Int}(hk:NV lens):∀k n,Ae lens<n->Oc lens k n=[]
 |0,_,_=>rfl
 |k+1,n,h=>by
  have h1:idxs lens n=[]:=aw (rL hk h);show idxs lens n++Oc lens k (n+1)=[];rw[h1,Wv hk k (n+1) (by omega)]
  rfl
theorem rM {lens:List Int}(hk:NV lens)(h:1<=Ae lens):0<Ft lens (Ae lens):=by
 rcases Ww (lens:=lens) lens.length with h0|⟨j,h1,h2⟩
 ·unfold Ae at h;rw[h0]at h;exact absurd h (by decide)
 ·have hn:=(LL hk lens.length).2.2.2.2.1;have h3:lens.getD j 0=(Ae lens:Int):=by rw[h2];unfold Ae;omega
  have:=(Ud h3 h1).2;omega
theorem gh {lens:List Int}(hk:NV lens):∀k n,1<=n->n<=Ae lens->Ae lens<n+k->0<(Oc lens k n).length
 |0,n,_,h,h2=>by omega
 |k+1,n,h0,h,h2=>by
  show 0<(idxs lens n++Oc lens k (n+1)).length;rw[ae];by_cases he:n=Ae lens
  ·have:(idxs lens n).length=Ft lens n:=rfl;have h3:=rM hk (by omega);rw[<-he]at h3;omega
  ·have:=gh hk k (n+1) (by omega) (by omega) (by omega);omega
theorem AFC {lens:List Int}(hk:NV lens):Ae lens<=15:=by
 have:=(LL hk lens.length).2.2.2.2.2;unfold Ae;omega
def RB (w:World)(b:Nat)(s:ByteArray)(p:Nat):Prop:=p<=8*s.size/\∃AJ:Int,(AJ=0\/AJ=1)/\NT w b s p AJ
theorem RB.AB{F:Nat->Prop}{w w':World}{b:Nat}{s:ByteArray}{p:Nat}(h:RB w b s p)(he:Ext F w w')(hF:¬F b):RB w' b s p:=by
 obtain ⟨h1,AJ,h2,h3⟩:=h;exact ⟨h1,AJ,h2,he.AS h3 hF⟩
theorem RB.lt{w:World}{b:Nat}{s:ByteArray}{p:Nat}(h:RB w b s p):b<w.heap.size:=by
 obtain ⟨h1,AJ,h2,h3⟩:=h;exact AO.lt h3
def ALj (s:ByteArray)(p n:Nat)(v e:Int)(q:Nat):Prop:=(num s p n= .ok (v,q)/\e=0)\/(num s p n= .error 4/\e=4)
attribute [local irreducible] Ld St Nw Nn Lt AP
section
variable {w:World} {s:AA} {lens:List Int}
theorem rN {b:Nat}{t:ByteArray}{p n:Nat}(h:RB w b t p)(hs:t.size<=1000000)(hn:n<=24):mr (SH b) (n:Int) w fun v e w1=>Ext (·=b) w w1/\∃q,ALj t p n v e q/\(e=0->RB w1 b t q):=by
 obtain ⟨hp,AJ,hw,hr⟩:=h;refine (AIH hr hp hs (n:Int)).mono ?_;rintro v e w1 ⟨rfl,rfl,h3,he⟩;refine ⟨he,p+n,?_,?_⟩
 ·unfold ALj num;by_cases h1:p+n<=8*t.size
  ·rw[Yd (by omega) (by omega),ak h1,aa];exact .inl ⟨rfl,rfl⟩
  ·rw[Tf (by omega) (by omega),ah h1];exact .inr ⟨rfl,rfl⟩
 ·intro h0;by_cases h1:p+n<=8*t.size
  ·rw[Yd (by omega) (by omega),aa]at h3;refine ⟨h1,_,?_,h3⟩;dsimp only;split
   ·exact .inr rfl
   ·exact hw
  ·rw[Tf (by omega) (by omega)]at h0;exact absurd h0 (by show ¬(4:Int)=0;decide)
theorem F2 (h:IV w s lens):Ml s w fun r e w1=>e=DE lens/\Ext (fun _=>False) w w1/\(DE lens≠0->r=none)/\(DE lens=0->∃b,r=some (⟨b,0,none⟩:Addr)/\TB w1 w.heap.size w1.heap.size b lens):=by
 refine AQ5 _ _ _ ?_;unfold AJo;refine (yV h).mono ?_;rintro r2 e w1 ⟨rfl,vP,h1⟩;refine Br.ne (fun q=>⟨rfl,vP,fun _=>rfl,fun hh=>absurd hh q⟩) fun q=>?_
 obtain ⟨v2,o2⟩:=h1 q;have hk:=A5 q;have hlen:=hk.len;refine (FB (h.AB vP) (by omega)).mono ?_;rintro r5 w2 ⟨v5,JP,o5⟩;refine (Mx ((h.AB vP).AB JP) hk).mono ?_;rintro r7 w3 ⟨rfl,VK⟩;have z1:=vP.size;have z2:=JP.size;have z3:=VK.size;refine (Hn.start w3).nw fun w4 H=>?_
 simp only[ag]at H;have H:Hn w3 w4 [(w3.heap.size,tc r5 r2 (cn lens) (fun _=>0) ⟨none,0,0⟩,239)]:=H;refine Nn.of ?_;simp only[add_lit,aj];refine ABI (f:=cn lens) H 2 0 rfl (fun j hj=>AFB _ _ _ _ _ hj) ?_;refine (Wp (f:=cn lens) (fun n=>Ws hlen n) w4).mono ?_;rintro r w5 ⟨rfl,Vf⟩;have H:=H.AB Vf;refine Nn.of ?_;simp only[add_lit,aj];refine ALg (pre:=[AA.v r5,AA.v r2]++Dl (cn lens)) (zs:=Dl fun _=>0) (post:=[AA.v ⟨none,0,0⟩]) H 18 0 rfl rfl rfl fun w6 H=>?_
 simp only[ai]at H;have H:Hn w3 w6 [(w3.heap.size,tc r5 r2 (cn lens) (fs (cn lens)) ⟨none,0,0⟩,239)]:=H;refine ⟨fun n st w7=>∃l:Nat,st=((l+1:Nat):Int)/\l<=15/\n=15-l/\∃s3:AA,Row w7 s3 3 1 (ints (HA (My lens l)))/\(∀j,s3.own j->w3.heap.size<j)/\Hn w3 w7 [(w3.heap.size,tc r5 r2 (cn lens) (fs (cn lens)) s3,239)],15,⟨0,rfl,by omega,rfl,⟨none,0,0⟩,Row.nil _ _ _,fun j hj=>(by obtain ⟨a,ha,_⟩:=hj;cases ha),H⟩,?_⟩;rintro n st w7 ⟨l,rfl,hl,rfl,s3,AV,Wx,H⟩;unfold pO;refine Br.dec (fun q1=>?_) fun q1=>?_
 ·refine ⟨fun n st w8=>∃i:Nat,st=(i:Int)/\i<=lens.length/\n=lens.length-i/\∃s3:AA,Row w8 s3 3 1 (ints (HA (My lens l++Gl lens (l+1) i)))/\(∀j,s3.own j->w3.heap.size<j)/\Hn w3 w8 [(w3.heap.size,tc r5 r2 (cn lens) (fs (cn lens)) s3,239)],lens.length,⟨0,rfl,by omega,rfl,s3,by rw[show Gl lens (l+1) 0=[] by rfl,aM];exact AV,Wx,H⟩,?_⟩;rintro n st w8 ⟨i,rfl,hi,rfl,s3,AV,Wx,H⟩;unfold pN;rw[h.1];refine Br.dec (fun q2=>⟨by omega,by omega,?_⟩) fun q2=>?_
  ·have Am:i<lens.length:=by omega
   obtain ⟨a,ha,hc⟩:=((((h.AB vP).AB JP).AB VK).AB H.ext).get Am;rw[ha,aa];have hsc:=EC lens (l+1) i;refine Nn.of (Ld.mk hc (Br.eq (fun q3=>Nn.of ?_) fun q3=>?_))
   ·rw[ak q3]at hsc;simp only[add_lit,aj];refine H.ld 0 rfl rfl ?_;have Af2:=H.lt 0 rfl;refine H.Ro fun w9 H9 he9=>?_
    simp only[ar,ag]at H9;have u0:=Wt hlen l;have TW:(Gl lens (l+1) i).length<=i:=GG lens (l+1) i;have hrl:=AV.1;rw[Ap,Ch,ae]at hrl;obtain ⟨s4,IY,g1,g2,g3,g4,g5⟩:=YO.Ip (ty:=196) (ys:=[.int .i64 (i:Int)]) (AV.AB he9 fun _ _ h=>h) (H9.get 1 rfl) rfl (by intro v hv;rw[az.1 hv];rfl) (by omega) (by omega);refine ⟨s4,IY,g1,Nn.of ?_⟩;have ALm:∀j,s3.own j->j<w8.heap.size:=fun j hj=>AV.own_lt hj
    have Mz:=(H9.left (L:=[_]) (M:=[_])).other g4 fun j hj=>⟨by have:=Wx j hj;omega,by have:=Wx j hj;simp;omega⟩
    simp only[add_lit,aj];have ALn:∀j,s4.own j->w3.heap.size<j:=fun j hj=>by
     rcases g5 j hj with hh|hh
     ·exact Wx j hh
     ·have:=he9.size;omega
    refine Mz.EV 0 rfl (by show 34<35;omega) fun PU H AW6=>?_
    simp only[ai]at H;refine ⟨lens.length-(i+1),by omega,i+1,by rw[AE (by omega)];rfl,by omega,rfl,s4,?_,ALn,H⟩;have e:ints (HA (My lens l++Gl lens (l+1) (i+1)))=ints (HA (My lens l++Gl lens (l+1) i))++[.int .i64 (i:Int)]:=by
     rw[hsc,<-ax,LN,EZ]
     rfl
    rw[e];exact g2.AB AW6 fun j hj e=>by have:=ALn j hj;have e:j=w3.heap.size:=e;omega
   ·rw[ah q3]at hsc;exact ⟨lens.length-(i+1),by omega,i+1,by rw[AE (by omega)];rfl,by omega,rfl,s3,by rw[hsc];exact AV,Wx,H⟩
  ·have:i=lens.length:=by omega
   subst this;exact ⟨15-(l+1),by omega,l+1,by rw[AE (by omega)];rfl,by omega,rfl,s3,AV,Wx,H⟩
 ·have:l=15:=by omega
  subst this;have z7:=H.lt 0 rfl;have E:=(vP.tr JP).tr VK;refine ⟨q.symm,E.tr H.ext,fun hh=>absurd q hh,fun _=>⟨_,rfl,r5,r2,s3,H.get 0 rfl,(v5.AB VK).AB H.ext,((v2.AB JP).AB VK).AB H.ext,IV.row AV,O5 AV,⟨by omega,z7⟩,fun j hj=>?_,fun j hj=>?_,fun j hj=>?_⟩⟩
  ·have:=o5 j hj;omega
  ·have:=o2 j hj;omega
  ·have:=Wx j hj;have:=AV.own_lt hj;omega
theorem rO {l m:List Int}{i:Nat}(h:i<l.length):(l++m).getD i 0=l.getD i 0:=by
 rw[af,aG h,af]
theorem QX (l:List Nat)(i:Nat):(HA l).getD i 0=((l.getD i 0:Nat):Int):=by
 unfold HA;rw[af,aE,af];cases l[i]?<;>rfl
theorem rP {lens:List Int}{b:ByteArray}{n:Nat}{c f:Int}{p:Nat}:VH lens b 0 n c f p= .error 13:=rfl
def TR (lens:List Int)(b:ByteArray)(p:Nat)(v e:Int)(q:Nat):Prop:=(∃g:Nat,sym lens b p= .ok (g,q)/\v=(g:Int)/\e=0)\/(sym lens b p= .error e/\e≠0)
theorem Ue {lo hi tb rb p:Nat}{b:ByteArray}(ht:TB w lo hi tb lens)(hk:NV lens)(hr:RB w rb b p)(hs:b.size<=1000000)(hrb:rb<lo\/hi<=rb):
  pF (some (⟨tb,0,none⟩:Addr)) (SH rb) w fun v e w1=>Ext (·=rb) w w1/\∃q,TR lens b p v e q/\(e=0->RB w1 rb b q):=by
 refine ARC _ _ _ _ ?_;unfold AJv;obtain ⟨s1,s2,s3,h1,h2,h3,h4,h5,h6,h7,h8,h9⟩:=ht;have hlen:=hk.len;have h15:=AFC hk;refine Br.f rfl (Br.f rfl (Nn.of ?_));simp only[add_lit,aj];refine Ld.of h1 (o:=34) (x:=s3) rfl ?_;have A2:tb≠rb:=by omega
 refine ⟨fun k st w5=>∃(n:Nat) (c:Int) (q:Nat) (left:AA),st=(left,c,(n:Int))/\1<=n/\n<=16/\k=16-n/\IV w5 left (HA (Oc lens (16-n) n))/\left.len<=left.cap/\(∀j,left.own j->s3.own j)/\fs (cn lens) n<=2*c/\0<=fs (cn lens) n/\0<=c/\2*c+2<=2^n/\∃f:Int,fs (cn lens) n=2*f/\VH lens b (Ae lens+1-n) n c f q=sym lens b p/\RB w5 rb b q/\Ext (·=rb) w w5,15,⟨1,0,p,s3,rfl,by omega,by omega,rfl,?_,h5,fun j hj=>hj,by show (0:Int)<=2*0;decide,by show (0:Int)<=0;decide,bH _,by decide,0,rfl,?_,hr,Ext.refl _ _⟩,?_⟩
 ·have e:=rK lens 15 0;rw[aj]at e;have e:My lens 15=Oc lens 15 1:=e;rw[<-e];exact h4
 ·rw[cz];rfl
 rintro k st w5 ⟨n,c,q,left,rfl,YP,Af3,rfl,hv,Rm,Ar,hfc,hf0,vg,yX,f,hff,gk,rQ,he⟩;unfold pQ;dsimp only;have hlv:=hv.1;rw[Ch]at hlv;have Af4:=Bz (show n<=16 by omega);have h16:(2:Int)^16=65536:=by decide
 refine Br.dec (fun q1=>?_) fun q1=>?_
 ·have vG:n<=Ae lens:=by
   by_cases hh:n<=Ae lens
   ·exact hh
   ·rw[Wv hk _ n (by omega)]at hlv;simp only[bq]at hlv;omega
  obtain ⟨m,hm⟩:∃m,Ae lens+1-n=m+1:=⟨Ae lens-n,by omega⟩
  rw[hm]at gk;unfold VH at gk;have hb:=fR b 1 q;refine (rN (n:=1) rQ hs (by omega)).mono ?_;rintro v e w6 ⟨SI,q2,yY,AFD⟩;have KB:Ext (·=rb) w w6:=he.tr SI;rcases yY with ⟨BA,rfl⟩|⟨AFE,rfl⟩
  ·obtain ⟨rfl,rfl,hle⟩:=I1 BA;rw[ah (by omega)]at gk;have DD:tk b 1 q 1=bt b 1 q:=by
    show (if (1:Int)=1 then tk b 1 q 0+bt b 1 (q+0)*2^0 else _)=_;rw[ak rfl,bY];show (0:Int)+bt b 1 q*1=_;omega
   have hB:=KB.AS h1 A2;have kB:cn lens n=(Ft lens n:Int):=by unfold cn;rw[ah (by omega)]
   have IS:Ft lens n<=lens.length:=GG lens n lens.length;refine Br.f rfl (Nn.of ⟨by omega,by omega,?_⟩);simp only[add_lit,aa,aH,aj];refine Ld.of hB (o:=18+n) (x:=fs (cn lens) n) (by rw[bV];exact AW5 _ _ _ _ _ (by omega)) (Nn.of ⟨by omega,by omega,?_⟩);simp only[add_lit,aa,aH,aj];refine Ld.of hB (o:=2+n) (x:=cn lens n) (by rw[bV];exact AFB _ _ _ _ _ (by omega)) ?_;rw[DD,show c*2^1=c*2 by simp,AE (n:=c*2) (by omega),Va vg (by omega) hb,AE (n:=2*c+bt b 1 q-fs (cn lens) n) (by omega),kB,hff];have Wy:Oc lens (16-n) n=idxs lens n++Oc lens (16-(n+1)) (n+1):=by
    rw[show 16-n=(16-(n+1))+1 by omega]
    rfl
   have FP:(idxs lens n).length=Ft lens n:=rfl;rw[Wy,ae,FP]at hlv;refine Lt.of (Br.dec (fun q3=>⟨by omega,by omega,?_⟩) fun q3=>Nn.of ⟨by omega,by omega,?_⟩)
   ·rw[ak q3]at gk;obtain ⟨z,hz⟩:∃z:Nat,2*c+bt b 1 q-2*f=(z:Int):=⟨(2*c+bt b 1 q-2*f).toNat,by omega⟩
    rw[hz]at gk q3⊢;rw[aa]at gk⊢;have hv6:=hv.AI SI fun j hj e=>by have:=h9 j (Ar j hj);have e:j=rb:=e;omega
    obtain ⟨a,ha,hc⟩:=hv6.get (i:=z) (by rw[Ch,Wy,ae,FP];omega);rw[ha];rw[aH]at hc;refine Nn.of (Ld.mk hc ⟨KB,q+1,.inl ⟨_,gk.symm,?_,rfl⟩,fun _=>AFD rfl⟩);rw[Wy,LN,rO (by rw[Ch,FP];omega),QX]
   ·rw[ah q3]at gk;simp only[add_lit,aa,aH,aj];refine Ld.of hB (o:=2+n) (x:=cn lens n) (by rw[bV];exact AFB _ _ _ _ _ (by omega)) ?_;rw[kB,aa];have Af5:n<=15:=by omega
    have hv6:=hv.AI SI fun j hj e=>by have:=h9 j (Ar j hj);have e:j=rb:=e;omega
    obtain ⟨d1,d2⟩:=hv6.drop Rm (d:=Ft lens n) (by rw[Ch,Wy,ae,FP];omega);have WN:fs (cn lens) (n+1)=2*(fs (cn lens) n+cn lens n):=by
     obtain ⟨x,rfl⟩:∃x,n=x+1:=⟨n-1,by omega⟩
     rfl
    rw[AE (n:=(n:Int)+1) (by omega)];refine ⟨by omega,by omega,16-(n+1),by omega,n+1,_,q+1,_,rfl,by omega,by omega,rfl,?_,d2,fun j hj=>Ar j (yT hj),?_,?_,by omega,?_,2*f+(Ft lens n:Int),?_,?_,AFD rfl,KB⟩
    ·rw[Wy,LN,<-FP,<-Ch,List.drop_left]at d1;rw[Ch,FP]at d1;exact d1
    ·rw[WN,kB,hff];omega
    ·rw[WN,kB,hff];omega
    ·rw[two_pow_succ];omega
    ·rw[WN,kB,hff]
    ·rw[show Ae lens+1-(n+1)=m by omega];exact gk
  ·have ALo:8*b.size<=q:=by
    unfold num at AFE;split at AFE
    ·cases AFE
    ·omega
   rw[ak ALo]at gk;exact Br.t rfl ⟨KB,q,.inr ⟨gk.symm,by decide⟩,fun h=>absurd h (by decide)⟩
 ·have vG:Ae lens+1-n=0:=by
   by_cases hh:n<=Ae lens
   ·have:=gh hk (16-n) n YP hh (by omega);omega
   ·omega
  rw[vG,rP]at gk;exact ⟨he,q,.inr ⟨gk.symm,by decide⟩,fun h=>absurd h (by decide)⟩
end
end A8
end Go.Proofs.YtdmmgclkphaaaaaGreatDoor

/- Joined texts of the proof; conditions stand in each theorem. -/
import Derived.Test.YtmaekpnpnjndoaaGreatDoorQYQSta1
import Derived.Test.YtmaekpnpnjndoaaGreatDoorQYQSta4
import Derived.Test.YtmaekpnpnjndoaaGreatDoorQYQSta2
import Derived.Test.YtmaekpnpnjndoaaGreatDoorQYQSta3
import Derived.Lib.IndexAny
set_option linter.unusedVariables false
set_option linter.unusedSimpArgs false
open Go.IntKind (wrap)
namespace Go.Proofs.YtmaekpnpnjndoaaGreatDoor
set_option maxRecDepth 8000
set_option maxHeartbeats 4000000
namespace Tl
open Sh Fix Tk NR Go.Lib
theorem wD (c:Nat)(k:Int)(m:Nat)(hk:k=(m:Int))(hm:1<=m)(hc:c<256):wrap .u8 (48+Int.tmod (wrap .u8 (Int.tdiv (c:Int) k)) 8)=((UInt8.ofNat (48+c/m%8)).toNat:Int):=by
 subst hk;have h1:Int.tdiv (c:Int) (m:Int)=((c/m:Nat):Int):=by rw[cx (by omega)];rfl
 have h2:c/m<=c:=Nat.div_le_self _ _;rw[h1];generalize c/m=d at h2⊢;rw[G0 (n:=((d:Nat):Int)) (by omega),cz (by omega),bR,G0 (by omega)];omega
section
variable {w0 w:World} {b:Nat} {p:Option Addr} {sl:AA} {l:By} {s:ByteArray}
attribute [local irreducible] Ld Sh.St Nw Nn Lt AP
theorem jM {w:World}{n:Nat}(hb:AO w b #[.pointer none,AA.v ⟨none,0,0⟩] 78)(h1:w0.heap.size<=b)(h2:w0.heap.size<=w.heap.size)(hn:n<=5000000):
  tA (some ⟨b,0,none⟩) (n:Int) w (fun w'=>∃sl,Bu w0 w' b (some ⟨b,0,none⟩) sl []/\Ext (fun j=>w0.heap.size<=j) w w') fun _ _=>False:=by
 refine (Tryz.Builder_Grow_fresh w0.heap.size b n w h1 hb h2 (by omega)).mono ?_;rintro e w' ⟨he,hB,hw⟩;refine .inl ⟨he,?_⟩;obtain ⟨wY,v,vI,Bm,Bg⟩:=hB;obtain ⟨Bh,rfl⟩:∃Bh,v=AA.v Bh:=by
  rcases Bm.2 with ⟨rfl,_⟩|⟨g,cap,cur,rfl,_⟩
  ·exact ⟨⟨none,0,0⟩,rfl⟩
  ·exact ⟨⟨some ⟨g,0,none⟩,_,cap⟩,rfl⟩
 exact ⟨Bh,⟨wY,.inr rfl,vI,Bm⟩,CZ hw⟩
theorem AC7 {d c:UInt8}(h:Bu w0 w b p sl l)(hs:l.length+4<=1099511627776){R:World->Prop}(k:∀Bh w',Bu w0 w' b (some ⟨b,0,none⟩) Bh (l++[d,c])->Wr w0 w w'->R w'):
  Jr (some ⟨b,0,none⟩) (d.toNat:Int) w fun r3 P5=>Jr (some ⟨b,0,none⟩) (c.toNat:Int) P5 fun r5 vw6=>R vw6:=by
 refine (EL h (by omega)).mono ?_;rintro r w1 ⟨xw,h1,k1⟩;refine (EL h1 (by simp;omega)).mono ?_;rintro r w2 ⟨Tu,h2,k2⟩;rw[aO]at h2;exact k _ _ h2 (k1.tr k2)
theorem wE {i:Nat}(hi:i<3)(c:UInt8):∃x:Int,(#[.int .u8 64,.int .u8 8,.int .u8 1]:Array Value)[((i:Nat):Int).toNat*1]?=some (.int .u8 x)/\x≠0/\wrap .u8 (48+Int.tmod (wrap .u8 (Int.tdiv (c.toNat:Int) x)) 8)=(((Ix c).getD i 0).toNat:Int):=by
 have hc:=CM c
 match i,hi with
 |0,_=>exact ⟨64,rfl,by decide,wD _ _ 64 rfl (by decide) hc⟩
 |1,_=>exact ⟨8,rfl,by decide,wD _ _ 8 rfl (by decide) hc⟩
 |2,_=>exact ⟨1,rfl,by decide,wD _ _ 1 rfl (by decide) hc⟩
theorem jN {i:Nat}(hi:i<3)(c:UInt8):(Ix c).take (i+1)=(Ix c).take i++[(Ix c).getD i 0]:=by
 match i,hi with
 |0,_=>rfl
 |1,_=>rfl
 |2,_=>rfl
theorem ZX {c:UInt8}{i:Nat}(hi:i<3)(h:Bu w0 w b p sl (l++92::(Ix c).take i))(hs:l.length+4<=1099511627776){R:Int->World->Prop}(k:∀Bh w',Bu w0 w' b (some ⟨b,0,none⟩) Bh (l++92::(Ix c).take (i+1))->Wr w0 w w'->R ((i+1:Nat):Int) w'):
  0<=((i:Nat):Int)/\((i:Nat):Int)<(3:Nat)/\∃Gn:Int,(#[.int .u8 64,.int .u8 8,.int .u8 1]:Array Value)[((i:Nat):Int).toNat*1]?=some (.int .u8 Gn)/\Gn≠0/\Jr (some ⟨b,0,none⟩) (wrap .u8 (48+(Int.tmod (wrap .u8 (Int.tdiv (c.toNat:Int) Gn)) 8))) w fun sT wF=>R (wrap .i64 (((i:Nat):Int)+1)) wF:=by
 obtain ⟨x,h1,h2,h3⟩:=wE hi c;refine ⟨by omega,by omega,x,h1,h2,?_⟩;rw[h3];refine (EL h (by rw[ai,ar,aW];omega)).mono ?_;rintro r w2 ⟨Tu,hB,hW⟩;rw[AG (by omega)];refine k Tu w2 ?_ hW;rw[jN hi];simpa using hB
theorem wG (c:UInt8)(h:Bu w0 w b (some ⟨b,0,none⟩) sl l)(hs:l.length+4<=1099511627776):tB (some ⟨b,0,none⟩) (c.toNat:Int) w fun w'=>∃Bh,Bu w0 w' b (some ⟨b,0,none⟩) Bh (l++A1 c)/\Wr w0 w w':=by
 refine AHB _ _ _ _ ?_;unfold zZ;have e:∀d:UInt8,(c.toNat:Int)=(d.toNat:Int)->c=d:=fun d h=>bS.1 (by omega)
 have two:c=40\/c=41\/c=92->Jr (some ⟨b,0,none⟩) ((92:UInt8).toNat:Int) w fun r3 P5=>Jr (some ⟨b,0,none⟩) (c.toNat:Int) P5 fun r5 vw6=>∃Bh,Bu w0 vw6 b (some ⟨b,0,none⟩) Bh (l++A1 c)/\Wr w0 w vw6:=fun hc=>
  AC7 h hs fun Bh w' hB hW=>⟨Bh,by unfold A1;rw[aD hc];exact hB,hW⟩
 refine Br.eq (fun q=>two (.inl (e 40 q))) fun q1=>Br.eq (fun q=>two (.inr (.inl (e 41 q)))) fun q2=>Br.eq (fun q=>two (.inr (.inr (e 92 q)))) fun q3=>?_
 have hn:¬(c=40\/c=41\/c=92):=by
  rintro (h|h|h)
  ·exact q1 (by rw[h];rfl)
  ·exact q2 (by rw[h];rfl)
  ·exact q3 (by rw[h];rfl)
 have lit:A1 c=[92]++Ix c->Jr (some ⟨b,0,none⟩) ((92:UInt8).toNat:Int) w fun xC AOc=>∀(B:(Int->World->Prop)->Int->World->Prop),(∀(I:Int->World->Prop) (i:Int) (v:World),(i<3->0<=i/\i<(3:Nat)/\∃Gn:Int,(#[.int .u8 64,.int .u8 8,.int .u8 1]:Array Value)[i.toNat*1]?=some (.int .u8 Gn)/\Gn≠0/\Jr (some ⟨b,0,none⟩) (wrap .u8 (48+(Int.tmod (wrap .u8 (Int.tdiv (c.toNat:Int) Gn)) 8))) v fun sT wF=>I (wrap .i64 (i+1)) wF)->(¬i<3->∃Bh,Bu w0 v b (some ⟨b,0,none⟩) Bh (l++A1 c)/\Wr w0 w v)->B I i v)->Lp (σ:=Int) B 0 AOc:=by
  intro he;refine (EL h (by omega)).mono ?_;rintro r w1 ⟨xw,h1,k1⟩;intro B hBd;refine ⟨fun n st v=>∃(i:Nat) (sl:AA),st=(i:Int)/\i<=3/\n=3-i/\Bu w0 v b (some ⟨b,0,none⟩) sl (l++92::(Ix c).take i)/\Wr w0 w v,3,⟨0,xw,rfl,by omega,rfl,h1,k1⟩,?_⟩;rintro n st v ⟨i,sl,rfl,hi,rfl,hB,hW⟩;refine hBd _ _ _ (fun q=>?_) fun q=>?_
  ·exact ZX (R:=fun st w'=>∃n',n'<3-i/\∃(i:Nat) (sl:AA),st=(i:Int)/\i<=3/\n'=3-i/\Bu w0 w' b (some ⟨b,0,none⟩) sl (l++92::(Ix c).take i)/\Wr w0 w w') (by omega) hB hs fun Bh w' vS uz=>⟨3-(i+1),by omega,i+1,Bh,rfl,by omega,rfl,vS,hW.tr uz⟩
  ·have:i=3:=by omega
   subst this;exact ⟨sl,by rw[he];exact hB,hW⟩
 refine Br.dec (fun q=>?_) fun q4=>Br.dec (fun q=>?_) fun q5=>?_
 ·refine (lit (by unfold A1;rw[az hn,aD (.inl (by omega))];rfl)).mono ?_;intro r w' hh;exact hh _ fun I i v h1 h2=>Br.dec h1 h2
 ·refine (lit (by unfold A1;rw[az hn,aD (.inr (by omega))];rfl)).mono ?_;intro r w' hh;exact hh _ fun I i v h1 h2=>Br.dec h1 h2
 ·refine (EL h (by omega)).mono ?_;rintro r w1 ⟨xw,h1,k1⟩;refine ⟨xw,?_,k1⟩;unfold A1;rw[az hn,az (by omega)];exact h1
theorem wH (c:UInt8)(h:Bu w0 w b (some ⟨b,0,none⟩) sl l)(hs:l.length+4<=1099511627776):C76 (some ⟨b,0,none⟩) (c.toNat:Int) w fun w'=>∃Bh,Bu w0 w' b (some ⟨b,0,none⟩) Bh (l++A9 c)/\Wr w0 w w':=by
 refine T76 _ _ _ _ ?_;unfold S76;have mx:IntKind.i64.max=9223372036854775807:=by decide
 have tail:∀v:World,Bu w0 v b (some ⟨b,0,none⟩) sl l->Wr w0 w v->A9 c=35::Kq c->Nw v (.cells #[.int .u8 (c.toNat:Int)] 5) fun AOd=>
      Rn Tryz.prog (convert 76 9 (AA.v ((⟨some ⟨v.heap.size,0,none⟩,1,1⟩:AA)))) AOd Value.string fun (GN:ByteArray) AOe=>
      sY GN AOe fun RE cK=>
       ((((⟨#[35]⟩:cI)).size+(RE).size:Nat):Int)<=IntKind.i64.max/\UF (some ⟨b,0,none⟩) ((⟨#[35]⟩:cI)++RE) cK fun H9 PV AC8=>
        ∃Bh,Bu w0 AC8 b (some ⟨b,0,none⟩) Bh (l++A9 c)/\Wr w0 w AC8:=by
  intro v hB hW he;refine Nw.of ?_;have e1:Ext (fun _=>False) v (v.alloc (.cells (Ft [c]).toArray 5)):=(Ext.refl _ _).alloc _;have R1:BL (v.alloc (.cells (Ft [c]).toArray 5)) ⟨some ⟨v.heap.size,0,none⟩,1,1⟩ [c]:=Row.new v (Ft [c]).toArray 5 1 1 rfl;refine ⟨_,_,CH R1,?_⟩;refine (AC6 (s:=⟨[c].toArray⟩) (by show 1<=_;omega) _).mono ?_;rintro r v2 ⟨hr,e2⟩;have F4:bl r=Kq c:=by rw[hr];simp[ZV,bl]
  have hrs:r.size=2:=by rw[<-AE,F4];rfl
  have z:(⟨#[35]⟩:cI).size=1:=rfl;refine ⟨by omega,(Fa (hB.AB (e1.tr e2)) (by simp only[ByteArray.size_append];omega)).mono ?_⟩;rintro H9 PV v3 ⟨sl3,xx,jx⟩;refine ⟨sl3,?_,(hW.tr (Wr.of (e1.tr e2))).tr jx⟩;rw[he];have:((⟨#[35]⟩:cI)++r).data.toList=35::Kq c:=by
   show bl _=_;rw[DJ,F4]
   rfl
  rw[this]at xx;exact xx
 have hw:=Wr.refl w0 w;refine Br.dec (fun q1=>Br.dec (fun q2=>Br.ne (fun q3=>?_) fun q3=>?_) fun q2=>?_) fun q1=>?_
 ·refine (Xc c w).mono ?_;rintro r v ⟨rfl,rfl⟩;have h35:c≠35:=fun e=>q3 (by rw[e];rfl)
  cases hd:jy c with
  |false=>
   refine Br.t rfl ((EL h (by omega)).mono ?_);rintro r w1 ⟨xw,h1,k1⟩;refine ⟨xw,?_,k1⟩;unfold A9;rw[aD ⟨by omega,by omega,h35,hd⟩];exact h1
  |true=>exact Br.f rfl (tail _ h hw (by unfold A9;rw[az (fun hh=>by rw[hd]at hh;cases hh.2.2.2)]))
 ·exact tail _ h hw (by unfold A9;rw[az (fun hh=>hh.2.2.1 (bS.1 (by have:((35:UInt8).toNat:Int)=35:=rfl;omega)))])
 ·exact tail _ h hw (by unfold A9;rw[az (fun hh=>by omega)])
 ·exact tail _ h hw (by unfold A9;rw[az (fun hh=>by omega)])
theorem TU {op en:ByteArray}(ho:op.size<=10)(he:en.size<=10)(hs:s.size<=1000000)(w:World):xA op s en (.func (.func 147) #[] #[]) w (fun r w1=>bl r=bl op++((bl s).flatMap A1++bl en)/\Ext (fun _=>False) w w1) fun _ _=>False:=by
 refine eJ _ _ _ _ _ _ ?_;unfold Rf;have Yh:=AE s;have hbo:=AE op;have hbe:=AE en;refine Nw.of (Lt.of ?_);have e0:Ext (fun _=>False) w (w.alloc (.cells #[.pointer none,AA.v ⟨none,0,0⟩] 78)):=(Ext.refl _ _).alloc _;have KE:=AO.new w #[.pointer none,AA.v ⟨none,0,0⟩] 78;generalize w.alloc (.cells #[.pointer none,AA.v ⟨none,0,0⟩] 78)=w1 at e0 KE⊢;have z1:=e0.size;rw[AG (n:=((op.size:Nat):Int)+((s.size:Nat):Int)) (by omega),show wrap .i64 (((op.size:Nat):Int)+((s.size:Nat):Int)+((en.size:Nat):Int))=((op.size+s.size+en.size:Nat):Int) by rw[AG (by omega)];omega];refine (jM (w0:=w) (n:=op.size+s.size+en.size) KE (aB _) z1 (by omega)).mono ?_ fun _ _ h=>h
 rintro w2 ⟨sl,hB,wI⟩;refine (Fa hB (by simp;omega)).mono ?_;rintro r8 r9 w3 ⟨sl3,xx,jx⟩;refine ⟨fun n st v=>∃(i:Nat) (sl:AA),st=(i:Int)/\i<=s.size/\n=s.size-i/\Bu w v w.heap.size (some ⟨w.heap.size,0,none⟩) sl (bl op++((bl s).take i).flatMap A1)/\Ext (fun j=>w.heap.size<=j) w1 v,s.size,⟨0,sl3,rfl,by omega,rfl,by simpa using xx,wI.tr jx.ext⟩,?_⟩;rintro n st v ⟨i,sl,rfl,hi,rfl,hB,hE⟩;unfold MF;have hl:=BP NN ((bl s).take i);rw[aW]at hl;have wY:(bl op++((bl s).take i).flatMap A1).length<=5000000:=by rw[ai];omega
 refine Br.dec (fun q=>?_) fun q=>?_
 ·have hc:=Tk.byte_at (t:=bl s) (i:=i) (by omega);generalize (bl s).getD i 0=c at hc;rw[AV hc];refine ⟨by omega,by omega,(wG c hB (by omega)).mono ?_⟩;rintro v2 ⟨Tu,N5,hW⟩;refine ⟨s.size-(i+1),by omega,i+1,Tu,by rw[AG (by omega)];rfl,by omega,rfl,?_,hE.tr hW.ext⟩;rw[Hj hc,bg,<-aO];simpa using N5
 ·have Oh:i=(bl s).length:=by omega
  rw[Oh,aP]at hB;have hl:=BP NN (bl s);refine (Fa hB (by rw[ai];omega)).mono ?_;rintro kd Np v2 ⟨Tu,N5,hW⟩;refine (JD N5 (by have:=hE.size;have:=hW.ext.size;omega)).mono ?_;rintro r v3 ⟨rfl,hb⟩;refine ⟨?_,Ext.Cg e0 (((hE.tr hW.ext)).tr (CZ hb)) fun _ h=>h⟩;rw[BB];simp
theorem TV {op en:ByteArray}(ho:op.size<=10)(he:en.size<=10)(hs:s.size<=1000000)(w:World):xA op s en (.func (.func 76) #[] #[]) w (fun r w1=>bl r=bl op++((bl s).flatMap A9++bl en)/\Ext (fun _=>False) w w1) fun _ _=>False:=by
 refine lE _ _ _ _ _ _ ?_;unfold WQ;have Yh:=AE s;have hbo:=AE op;have hbe:=AE en;refine Nw.of (Lt.of ?_);have e0:Ext (fun _=>False) w (w.alloc (.cells #[.pointer none,AA.v ⟨none,0,0⟩] 78)):=(Ext.refl _ _).alloc _;have KE:=AO.new w #[.pointer none,AA.v ⟨none,0,0⟩] 78;generalize w.alloc (.cells #[.pointer none,AA.v ⟨none,0,0⟩] 78)=w1 at e0 KE⊢;have z1:=e0.size;rw[AG (n:=((op.size:Nat):Int)+((s.size:Nat):Int)) (by omega),show wrap .i64 (((op.size:Nat):Int)+((s.size:Nat):Int)+((en.size:Nat):Int))=((op.size+s.size+en.size:Nat):Int) by rw[AG (by omega)];omega];refine (jM (w0:=w) (n:=op.size+s.size+en.size) KE (aB _) z1 (by omega)).mono ?_ fun _ _ h=>h
 rintro w2 ⟨sl,hB,wI⟩;refine (Fa hB (by simp;omega)).mono ?_;rintro r8 r9 w3 ⟨sl3,xx,jx⟩;refine ⟨fun n st v=>∃(i:Nat) (sl:AA),st=(i:Int)/\i<=s.size/\n=s.size-i/\Bu w v w.heap.size (some ⟨w.heap.size,0,none⟩) sl (bl op++((bl s).take i).flatMap A9)/\Ext (fun j=>w.heap.size<=j) w1 v,s.size,⟨0,sl3,rfl,by omega,rfl,by simpa using xx,wI.tr jx.ext⟩,?_⟩;rintro n st v ⟨i,sl,rfl,hi,rfl,hB,hE⟩;unfold OK;have hl:=BP NO ((bl s).take i);rw[aW]at hl;have wY:(bl op++((bl s).take i).flatMap A9).length<=5000000:=by rw[ai];omega
 refine Br.dec (fun q=>?_) fun q=>?_
 ·have hc:=Tk.byte_at (t:=bl s) (i:=i) (by omega);generalize (bl s).getD i 0=c at hc;rw[AV hc];refine ⟨by omega,by omega,(wH c hB (by omega)).mono ?_⟩;rintro v2 ⟨Tu,N5,hW⟩;refine ⟨s.size-(i+1),by omega,i+1,Tu,by rw[AG (by omega)];rfl,by omega,rfl,?_,hE.tr hW.ext⟩;rw[Hj hc,bg,<-aO];simpa using N5
 ·have Oh:i=(bl s).length:=by omega
  rw[Oh,aP]at hB;have hl:=BP NO (bl s);refine (Fa hB (by rw[ai];omega)).mono ?_;rintro kd Np v2 ⟨Tu,N5,hW⟩;refine (JD N5 (by have:=hE.size;have:=hW.ext.size;omega)).mono ?_;rintro r v3 ⟨rfl,hb⟩;refine ⟨?_,Ext.Cg e0 (((hE.tr hW.ext)).tr (CZ hb)) fun _ h=>h⟩;rw[BB];simp
theorem jO (hs:s.size<=32767)(w:World):tC s w (fun r e w1=>e=0/\bl r=Jp (bl s)/\Ext (fun _=>False) w w1) fun _ _=>False:=by
 refine AHC _ _ _ _ ?_;unfold zb;refine Br.dec (fun q=>by omega) fun _=>(TU (by decide) (by decide) (by omega) w).mono ?_ fun _ _ h=>h
 rintro r w1 ⟨hr,he⟩;exact ⟨rfl,hr,he⟩
theorem VV (hs:s.size<=127)(w:World):zU s w (fun r e w1=>((e=0/\0∉bl s/\bl r=Bv (bl s))\/(e=3/\0∈bl s))/\Ext (fun _=>False) w w1) fun _ _=>False:=by
 refine T52 _ _ _ _ ?_;unfold S52;refine Br.dec (fun q=>by omega) fun _=>(KG s 0 w).mono ?_
 rintro r w1 ⟨rfl,rfl⟩;rw[BM];cases hz:(bl s).contains 0 with
 |true=>exact Br.t rfl ⟨.inr ⟨rfl,aY.1 hz⟩,Ext.refl _ _⟩
 |false=>
  refine Br.f rfl ((TV (by decide) (by decide) (by omega) _).mono ?_ fun _ _ h=>h);rintro r w2 ⟨hr,he⟩;refine ⟨.inl ⟨rfl,fun hm=>?_,?_⟩,he⟩
  ·rw[aY.2 hm]at hz;cases hz
  ·rw[hr];show 47::(_++[])=_;rw[aN]
   rfl
end
end Tl
namespace Tl
open Sh Fix Tk NR Go.Lib
theorem nV {l:By}(h:l≠[]):l[0]?=some (l.headD 0):=by
 cases l with
 |nil=>exact absurd rfl h
 |cons c r=>rfl
theorem Xe {l:By}(h:l≠[]):l[l.length-1]?=some (l.getLastD 0):=by
 rw[List.getLastD_eq_getLast?,<-List.getLast?_eq_getElem?,List.getLast?_eq_some_getLast h]
 rfl
theorem GB {α:Type}{l:List α}{i:Nat}{c:α}(h:l[i]?=some c):l.drop i=c::l.drop (i+1):=by
 obtain ⟨hi,e⟩:=ao.1 h;rw[b5 hi,e]
theorem join_nil (last:UInt8)(r:List By):AZ last ([]::r)=AZ last r:=by simp[AZ]
theorem join_cons (last:UInt8){p:By}(h:p≠[])(r:List By):AZ last (p::r)=(if (Ae last=true\/last=47)/\Ae (p.headD 0)=true then [32]else [])++p++AZ (p.getLastD 0) r:=by simp[AZ,h]
theorem Wz {last:UInt8}{p:By}(h:p≠[])(r:List By)(h1:¬((Ae last=true\/last=47)/\Ae (p.headD 0)=true)):AZ last (p::r)=p++AZ (p.getLastD 0) r:=by
 rw[join_cons last h,az h1]
 rfl
section
variable {w0 w:World} {b:Nat} {p:Option Addr} {sl:AA} {l:By} {s:ByteArray}
attribute [local irreducible] Ld Sh.St Nw Nn Lt AP
theorem W5 {L:List ByteArray}(hV:Bb w sl 1 (L.map Value.string))(hL:L.length<=1099511627776)(hz:(L.map fun x=>x.size+1).sum<=1099511627776):zV sl w fun r w1=>bl r=AZ 32 (L.map bl)/\Ext (fun _=>False) w w1:=by
 refine T27 _ _ _ ?_;unfold S27;have hlen:sl.len=L.length:=by have:=hV.1;rw[aV]at this;omega
 have jH:∀{i:Nat} {x:ByteArray},L[i]?=some x->∃a,sl.p=some a/\w.cell? (a.add i)=some (.string x):=fun {i x} h=>hV.2 i _ (by rw[aR,h];rfl)
 refine Nw.of ?_;have e0:Ext (fun _=>False) w (w.alloc (.cells #[.pointer none,AA.v ⟨none,0,0⟩] 78)):=(Ext.refl _ _).alloc _;have KE:=AO.new w #[.pointer none,AA.v ⟨none,0,0⟩] 78;generalize w.alloc (.cells #[.pointer none,AA.v ⟨none,0,0⟩] 78)=w1 at e0 KE⊢;have B0:Bu w w1 w.heap.size none ⟨none,0,0⟩ []:=⟨aB _,.inl rfl,KE,⟨rfl,.inl ⟨rfl,rfl⟩⟩⟩
 refine ⟨fun n st v=>∃(i:Nat) (last:UInt8) (acc:By) (p:Option Addr) (sb:AA),st=((last.toNat:Int),(i:Int))/\i<=L.length/\n=L.length-i/\Bu w v w.heap.size p sb acc/\acc++AZ last ((L.drop i).map bl)=AZ 32 (L.map bl)/\acc.length+((L.drop i).map fun x=>x.size+1).sum<=1099511627776/\Ext (fun j=>w.heap.size<=j) w1 v,L.length,
  ⟨0,32,[],none,_,rfl,by omega,rfl,B0,rfl,by simpa using hz,Ext.refl _ _⟩,?_⟩
 rintro n st v ⟨i,last,acc,p,sb,rfl,hi,rfl,hB,hJ,ANO,hE⟩;unfold oK;have z1:=e0.size;have z2:=hE.size;rw[hlen];refine Br.dec (fun q=>?_) fun q=>?_
 ·have xg:i<L.length:=by have:((i:Nat):Int)<(L.length:Nat):=q;omega
  have hx:L[i]?=some L[i]:=al xg;generalize L[i]=x at hx;have lp:((L.drop i).map fun x=>x.size+1).sum=x.size+1+((L.drop (i+1)).map fun x=>x.size+1).sum:=by rw[GB hx,aC,bK]
  obtain ⟨a,ha,hc⟩:=jH hx;have hc:v.cell? (a.add i)=some (.string x):=hE.cellOf (e0.cellOf hc (fun h=>h)) (by have:=XC hc;show ¬w.heap.size<=_;omega);refine ⟨by omega,by show ((i:Nat):Int)<(L.length:Nat);omega,?_⟩;rw[ha];refine Nn.of (Ld.mk (x:=x) (by show v.cell? (a.add (((i:Nat):Int).toNat*1))=_;rw[aF,bU];exact hc) ?_);rw[GB hx,aC]at hJ;have hbx:=AE x;have i64:wrap .i64 (((i:Nat):Int)+1)=((i+1:Nat):Int):=by rw[AG (by omega)];rfl
  rw[WV];refine Br.dec (fun q0=>?_) fun q0=>?_
  ·have q0:bl x=[]:=q0;rw[q0,join_nil]at hJ;exact ⟨L.length-(i+1),by omega,i+1,last,acc,p,sb,by rw[<-i64],by omega,rfl,hB,hJ,(by omega),hE⟩
  have q0:bl x≠[]:=q0;have LX:1<=x.size:=by
   rw[<-hbx];exact List.length_pos_iff.2 q0
  have h0:=nV q0;have hl:=Xe q0;rw[hbx]at hl;have b0:Bf x 0=(((bl x).headD 0).toNat:Int):=AV (i:=0) h0;have bl':Bf x ((x.size-1:Nat):Int)=(((bl x).getLastD 0).toNat:Int):=AV hl;rw[join_cons last q0]at hJ
 
  have J:∀(u:World) (p':Option Addr) (sb':AA) (ZY:By),Bu w u w.heap.size p' sb' ZY->ZY=acc++(if (Ae last=true\/last=47)/\Ae ((bl x).headD 0)=true then [32]else [])->Ext (fun j=>w.heap.size<=j) w1 u->
    WR w ((last.toNat:Int),(i:Int)) (fun st v=>∃n',n'<L.length-i/\∃(i:Nat) (last:UInt8) (acc:By) (p:Option Addr) (sb:AA),st=((last.toNat:Int),(i:Int))/\i<=L.length/\n'=L.length-i/\Bu w v w.heap.size p sb acc/\acc++AZ last ((L.drop i).map bl)=AZ 32 (L.map bl)/\acc.length+((L.drop i).map fun x=>x.size+1).sum<=1099511627776/\Ext (fun j=>w.heap.size<=j) w1 v) x () u:=by
   intro u p' sb' ZY vS Q5 hE';unfold WR;have SA:ZY.length<=acc.length+1:=by
    rw[Q5,ai];split<;>simp
   refine (Fa vS (by omega)).mono ?_;rintro Np sT u2 ⟨sb2,N5,wI⟩;rw[show wrap .i64 (((x.size:Nat):Int)-1)=((x.size-1:Nat):Int) by rw[AG (by omega)];omega];refine ⟨by omega,by omega,L.length-(i+1),by omega,i+1,(bl x).getLastD 0,_,_,_,?_,by omega,rfl,N5,?_,?_,hE'.tr wI.ext⟩
   ·rw[bl',<-i64]
   ·rw[<-hJ,Q5];simp
   ·have:(ZY++x.data.toList).length=ZY.length+x.size:=by rw[ai];rfl
    omega
  have jP:∀u,Bu w u w.heap.size p sb acc->Ext (fun j=>w.heap.size<=j) w1 u->¬((Ae last=true\/last=47)/\Ae ((bl x).headD 0)=true)->_:=fun u h1 h2 h3=>J u p sb acc h1 (by rw[az h3,aN]) h2
  have sp:∀u,Bu w u w.heap.size p sb acc->Ext (fun j=>w.heap.size<=j) w1 u->((Ae last=true\/last=47)/\Ae ((bl x).headD 0)=true)->Jr (some (⟨w.heap.size,0,none⟩:Addr)) ((32:UInt8).toNat:Int) u fun zc AOf=>WR w ((last.toNat:Int),(i:Int)) (fun st v=>∃n',n'<L.length-i/\∃(i:Nat) (last:UInt8) (acc:By) (p:Option Addr) (sb:AA),st=((last.toNat:Int),(i:Int))/\i<=L.length/\n'=L.length-i/\Bu w v w.heap.size p sb acc/\acc++AZ last ((L.drop i).map bl)=AZ 32 (L.map bl)/\acc.length+((L.drop i).map fun x=>x.size+1).sum<=1099511627776/\Ext (fun j=>w.heap.size<=j) w1 v) x () AOf:=fun u h1 h2 h3=>by
   refine (EL h1 (by omega)).mono ?_;rintro r u2 ⟨sb2,N5,wI⟩;exact J u2 _ _ _ N5 (by rw[aD h3]) (h2.tr wI.ext)
  refine As.intro ((Xd last v).mono ?_);rintro r u ⟨rfl,rfl⟩;cases hr:Ae last with
  |true=>
   refine Br.t rfl ⟨by decide,by omega,?_⟩;rw[b0];refine (Xd _ _).mono ?_;rintro r u ⟨rfl,rfl⟩;cases F4:Ae ((bl x).headD 0)with
   |true=>exact Br.t rfl (sp _ hB hE ⟨.inl hr,F4⟩)
   |false=>exact Br.f rfl (jP _ hB hE (by rw[F4];rintro ⟨_,h⟩;cases h))
  |false=>
   refine Br.f rfl (Br.eq (fun h47=>⟨by decide,by omega,?_⟩) fun h47=>?_)
   ·rw[b0];refine (Xd _ _).mono ?_;rintro r u ⟨rfl,rfl⟩;have h47:last=47:=bS.1 (by have:((47:UInt8).toNat:Int)=47:=rfl;have:((last.toNat:Nat):Int)=47:=h47;omega);cases F4:Ae ((bl x).headD 0)with
    |true=>exact Br.t rfl (sp _ hB hE ⟨.inr h47,F4⟩)
    |false=>exact Br.f rfl (jP _ hB hE (by rw[F4];rintro ⟨_,h⟩;cases h))
   ·exact jP _ hB hE (by
     rw[hr];rintro ⟨h|h,_⟩
     ·cases h
     ·exact h47 (by rw[h];rfl))
 ·have Oh:i=L.length:=by have:¬((i:Nat):Int)<(L.length:Nat):=q;omega
  subst Oh;rw[List.drop_length,br]at hJ;refine (JD hB (by omega)).mono ?_;rintro r v3 ⟨rfl,hb⟩;refine ⟨?_,Ext.Cg e0 (hE.tr (CZ hb)) fun _ h=>h⟩;rw[BB,<-hJ];simp[AZ]
theorem V0 {L:List ByteArray}{B:Nat}(hz:∀x∈L,x.size<=B):(L.map fun x=>x.size+1).sum<=L.length*(B+1):=by
 induction L with
 |nil=>simp
 |cons x L ih=>
  have h1:=hz x (ax ..);have h2:=ih fun y hy=>hz y (ay _ hy)
  rw[aC,bK,ar,cu,Nat.one_mul];omega
theorem wJ {L:List ByteArray}(hV:Bb w sl 1 (L.map Value.string))(hL:L.length<=4000000)(hz:∀x∈L,x.size<=200000):zV sl w fun r w1=>bl r=AZ 32 (L.map bl)/\Ext (fun _=>False) w w1:=
 W5 hV (by omega) (by have:=V0 hz;omega)
end
end Tl
namespace Tl
open Sh Fix Tk NR Go.Lib
theorem nW {a b i:Nat}(ha:a*2^i<9223372036854775808)(hb:b<2^i)(h2:a*2^i+b<9223372036854775808):wi .i64 (((a*2^i:Nat)):Int) (b:Int)=((a*2^i+b:Nat):Int):=by
 unfold wi;have e:(BitVec.ofInt IntKind.i64.bits (((a*2^i:Nat)):Int)|||BitVec.ofInt IntKind.i64.bits (b:Int)).toNat=a*2^i+b:=by
  rw[BitVec.toNat_or];have ADA:IntKind.i64.bits=64:=rfl;have t:∀n:Nat,n<9223372036854775808->(BitVec.ofInt IntKind.i64.bits (n:Int)).toNat=n:=fun n hn=>by
   rw[BitVec.toNat_ofInt,ADA];omega
  rw[t _ ha,t b (by omega)];have h3:=Nat.shiftLeft_add_eq_or_of_lt hb a;rw[Nat.shiftLeft_eq]at h3;exact h3.symm
 rw[e];exact AG (by omega)
theorem nX (c:UInt8):wrap .u8 (wi .i64 (wrap .i64 (((c.toNat/16:Nat):Int)*2^4)) ((c.toNat%16:Nat):Int))=(c.toNat:Int):=by
 have hc:=CM c;have e:((c.toNat/16:Nat):Int)*2^4=((c.toNat/16*2^4:Nat):Int):=by
  show ((c.toNat/16:Nat):Int)*16=((c.toNat/16*16:Nat):Int);omega
 rw[e,AG (by omega),nW (by omega) (by omega) (by omega),G0 (by omega)];show ((c.toNat/16*16+c.toNat%16:Nat):Int)=_;omega
theorem wK {n:Nat}(h:n<16):(hx n).toNat=if n<10 then 48+n else 55+n:=by
 unfold hx;split
 ·rw[bR];omega
 ·rw[bR];omega
theorem jQ {n:Nat}(h:n<16):Ae (hx n)=true/\IU (hx n)=false/\hx n≠62:=by
 have:∀m:Fin 16,Ae (hx m.val)=true/\IU (hx m.val)=false/\hx m.val≠62:=by decide
 exact this ⟨n,h⟩
theorem O7 {f:UInt8->By}(l rest:By)(k:Nat):(l.flatMap f++rest).drop ((l.take k).flatMap f).length=(l.drop k).flatMap f++rest:=by
 have h:l.flatMap f=(l.take k).flatMap f++(l.drop k).flatMap f:=by rw[<-bg,bV]
 rw[h,aO];exact Mn rfl
theorem at_drop {l:By}{i j:Nat}{t:By}(h:l.drop i=t){c:UInt8}(hc:t[j]?=some c):l[i+j]?=some c:=by
 rw[<-h,cF]at hc;exact hc
section
variable {w0 w:World} {s t:ByteArray}
attribute [local irreducible] Ld Sh.St Nw Nn Lt AP
theorem VK (x kind t0z Cf:Int)(h:((t.size:Nat):Int)<=Cf)(w:World):Ki (s,x) kind t0z t Cf w fun r e w1=>r=(kind,x,t0z,0,t)/\e=0/\Ext (fun _=>False) w w1:=by
 refine yW (s,x) _ _ _ _ _ _ ?_;unfold rN;refine (Hn.start w).nw (cs:=[.string s,.int .i64 x]) fun w2 H=>?_
 refine H.nw (cs:=[.int .i64 0,.int .i64 0,.int .i64 0,.int .i64 0,.string ⟨#[]⟩]) fun w3 H=>?_
 simp only[ag,ae,add_lit,ah]at H⊢;refine Br.dec (fun q=>by omega) fun _=>?_
 refine H.ld 0 rfl rfl ?_
 iterate 5 (refine H.st 1 rfl (by simp) fun _ H=>?_;simp only[aa,ab]at H)
 iterate 5 refine H.ld 1 rfl rfl ?_
 exact ⟨rfl,by trivial,H.ext⟩
theorem qN {n:Nat}(h:n<16)(w:World):YA ((hx n).toNat:Int) w fun r w1=>r=(n:Int)/\w1=w:=by
 refine y8 _ _ _ ?_;unfold sZ;have hv:=wK h;generalize (hx n).toNat=m at hv;have u8:∀z:Int,0<=z->z<256->wrap .u8 z=z:=fun z h1 h2=>G0 (by omega)
 by_cases h10:n<10
 ·rw[aD h10]at hv;refine Br.dec (fun _=>Br.dec (fun _=>⟨?_,rfl⟩) fun q=>absurd q (by omega)) fun q=>absurd q (by omega)
  rw[u8 _ (by omega) (by omega),AG (by omega)];omega
 ·rw[az h10]at hv;refine Br.dec (fun _=>Br.dec (fun q=>absurd q (by omega)) fun _=>Br.dec (fun _=>Br.dec (fun _=>⟨?_,rfl⟩) fun q=>absurd q (by omega)) fun q=>absurd q (by omega)) fun q=>absurd q (by omega)
  rw[u8 _ (by omega) (by omega),AG (n:=(m:Int)-65) (by omega),AG (by omega)];omega
theorem nY (c:UInt8)(ht:bl t=Kq c)(w:World):kc t w fun r e w1=>bl r=[c]/\e=0/\Ext (fun _=>False) w w1:=by
 refine y9 _ _ _ ?_;unfold se;have hc:=CM c;have VR:t.size=2:=by rw[<-AE,ht];rfl
 rw[VR];refine Br.ne (fun q=>absurd (show Int.tmod ((2:Nat):Int) 2=0 by decide) q) fun _=>?_
 obtain ⟨r0,w0,Nc,hR0,uN,ho0⟩:=HW w 0 1 (by omega) (by omega);refine ⟨r0,w0,Nc,?_⟩;refine ⟨fun n st v=>(n=1/\st=(r0,0)/\v=w0)\/(n=0/\∃sl,st=(sl,2)/\BL v sl [c]/\Ext (fun _=>False) w v),1,.inl ⟨rfl,rfl,rfl⟩,?_⟩;rintro n st v (⟨rfl,rfl,rfl⟩|⟨rfl,sl,rfl,hR,hE⟩)
 ·unfold MC;have b0:Bf t 0=((hx (c.toNat/16)).toNat:Int):=AV (i:=0) (by rw[ht];rfl);have b1:Bf t 1=((hx (c.toNat%16)).toNat:Int):=AV (i:=1) (by rw[ht];rfl);have i1:wrap .i64 (0+1)=1:=by decide
  have i2:wrap .i64 (0+2)=2:=by decide
  dsimp only;rw[VR,i1,i2,b0,b1];refine Br.t rfl ⟨by decide,by omega,by decide,by omega,(qN (by omega) _).mono ?_⟩;rintro r v1 ⟨rfl,rfl⟩;refine (qN (by omega) _).mono ?_;rintro r v1 ⟨rfl,rfl⟩;refine Br.dec (fun q=>absurd q (by omega)) fun _=>Br.dec (fun q=>absurd q (by omega)) fun _=>Nw.of ?_
  rw[nX];have e1:Ext (fun _=>False) v.drew (v.drew.alloc (.cells (Ft [c]).toArray 5)):=(Ext.refl _ _).alloc _;have LK:BL v.drew r0 (List.replicate 0 0):=hR0.AB (Ext.refl (fun _=>False) v).drew fun _ _ h=>h
  obtain ⟨Bh,v',HA,LK,Nd,I3⟩:=K5 (ty:=76) (b:=c) (LK.AB e1 fun _ _ h=>h) (AO.new v.drew (Ft [c]).toArray 5) (by simp);exact ⟨Bh,v',HA,0,by omega,.inr ⟨rfl,Bh,rfl,LK,Ext.Cg (uN.drew.tr e1) Nd fun j hj=>ho0 j hj⟩⟩
 ·unfold MC;dsimp only;rw[VR];refine Br.f rfl ⟨_,_,CH hR,?_,rfl,hE⟩;exact BB _
end
end Tl
namespace Tl
open Sh Fix Tk NR Go.Lib
theorem jR (c:UInt8):∀x∈A9 c,Ae x=true:=by
 intro x Wj;have Av:=CM c;unfold A9 at Wj;split at Wj
 ·rename_i h;rw[av.1 Wj];unfold Ae;have:IU c=false:=by
   rw[<-ck];intro hw;unfold IU at hw;rw[aY]at hw;simp only[aw,aG,bA]at hw;have h1:=h.1;rcases hw with rfl|rfl|rfl|rfl|rfl|rfl<;>exact absurd h1 (by decide)
  rw[this,h.2.2.2]
  rfl
 ·rcases aw.1 Wj with rfl|Wj
  ·rfl
  ·simp only[Kq,aw,aG,bA]at Wj;rcases Wj with rfl|rfl
   ·exact (jQ (by omega)).1
   ·exact (jQ (by omega)).1
theorem O8 (l:By):∀x∈l.flatMap A9,Ae x=true:=fun x hx=>by
 obtain ⟨c,_,h⟩:=List.mem_flatMap.1 hx;exact jR c x h
theorem FZ.BY{n:Int}{t D:By}(h:FZ n t D):∀c∈t,Ae c=true:=by
 intro c hc;rw[h.t]at hc;rcases aS.1 hc with hc|hc
 ·split at hc
  ·rw[av.1 hc];rfl
  ·cases hc
 ·exact Qk (h.d c hc)
theorem FZ.len{n:Int}{t D:By}(h:FZ n t D):t.length=(if n<0 then 1 else 0)+D.length:=by
 rw[h.t,ai];split<;>rfl
theorem FZ.trim{n:Int}{t D:By}(h:FZ n t D):trimLeftS t [43,45]=D:=by
 have d1:=h.d1;have hd:trimLeftS D [43,45]=D:=by
  cases D with
  |nil=>simp at d1
  |cons c0 D'=>
   have W8:=h.d c0 (ax ..);unfold trimLeftS;rw[b7,az];have:([43,45]:By).contains c0=false:=by
    rw[<-ck,aY];intro hm;simp only[aw,aG,bA]at hm;rcases hm with rfl|rfl
    ·exact absurd W8.1 (by decide)
    ·exact absurd W8.1 (by decide)
   rw[this];decide
 rw[h.t];split
 ·show trimLeftS (45::D) [43,45]=_;unfold trimLeftS at hd⊢;rw[b7,aD (by decide)];exact hd
 ·exact hd
section
variable {w0 w:World} {s t:ByteArray}
attribute [local irreducible] Ld Sh.St Nw Nn Lt AP
theorem nZ {b:Nat}{l rest:By}(hd:(bl s).drop b=Bv l++rest)(hr:∀c,rest.head?=some c->Ae c=false)(hb:b<=s.size)(hs:s.size<=1099511627776)(hl:l.length<=127)(h0:0∉l)(w:World):
  kW (s,(b:Int)) w fun r e w1=>r=(4,(b:Int),((b+(Bv l).length:Nat):Int),0,ba l)/\e=0/\Ext (fun _=>False) w w1:=by
 refine ya (s,(b:Int)) _ _ ?_;unfold rS;have Yh:=AE s;have hba:(ba l).size=l.length:=by rw[<-AE,BB]
 have hF:(Bv l).length=(l.flatMap A9).length+1:=by unfold Bv;rw[ar]
 have Gx:b+(Bv l).length<=s.size:=by
  have:=aq List.length hd;rw[aM,ai,AE]at this;omega
 have Tz:(bl s).drop (b+1)=l.flatMap A9++rest:=by
  rw[<-bc,hd]
  rfl
 refine (Hn.start w).nw (cs:=[.string s,.int .i64 (b:Int)]) fun w2 H=>?_
 refine H.nw (cs:=[.int .i64 0,.int .i64 0,.int .i64 0,.int .i64 0,.string ⟨#[]⟩]) fun w3 H=>?_
 simp only[ag,ae,add_lit,ah]at H⊢;have h23:w2.heap.size<w3.heap.size:=H.lt 1 rfl;have h13:w.heap.size<w3.heap.size:=H.lt 0 rfl
 iterate 3 refine H.ld 0 rfl rfl ?_
 have ib:wrap .i64 (((b:Nat):Int)+1)=((b+1:Nat):Int):=by rw[AG (by omega)];rfl
 rw[ib];refine (R9 s _ (a:=b+1) (by omega) hs w3).mono ?_;rintro r w4 ⟨Wv,e4⟩;rw[Tz,F6 (O8 l) hr]at Wv;subst Wv;have z4:=e4.size;have H:=H.AB e4;refine H.ld 0 rfl rfl ?_;rw[ib];refine ⟨fun n st v=>∃(k:Nat) (sl:AA),st=(sl,((b+1+((l.take k).flatMap A9).length:Nat):Int))/\k<=l.length/\n=l.length-k/\BL v sl (l.take k)/\(∀j,sl.own j->w3.heap.size<=j)/\Hn w v [(w.heap.size,[.string s,.int .i64 (b:Int)],173),(w2.heap.size,[.int .i64 0,.int .i64 0,.int .i64 0,.int .i64 0,.string ⟨#[]⟩],114)]/\w3.heap.size<=v.heap.size,l.length,
  ⟨0,⟨none,0,0⟩,rfl,by omega,rfl,BL.nil _,(fun j hj=>by obtain ⟨a,ha,_⟩:=hj;cases ha),H,z4⟩,?_⟩
 rintro n st v ⟨k,sl,rfl,hk,rfl,hR,ho,H,lv⟩;unfold UZ;by_cases G2:k<l.length
 ·have hc:=al G2;generalize l[k]=c at hc;have Av:=CM c;have hfd:=O7 (f:=A9) l rest k;rw[ES hc,bB]at hfd;have Hr:(l.take (k+1)).flatMap A9=(l.take k).flatMap A9++A9 c:=by rw[Hj hc,bg];simp
  have hle:((l.take (k+1)).flatMap A9).length<=(l.flatMap A9).length:=by
   have:l.flatMap A9=(l.take (k+1)).flatMap A9++(l.drop (k+1)).flatMap A9:=by rw[<-bg,bV]
   rw[this,ai];omega
  have jS:=hle;rw[Hr,ai]at jS;have D4:(bl s).drop (b+1+((l.take k).flatMap A9).length)=A9 c++((l.drop (k+1)).flatMap A9++rest):=by
   rw[<-bc,Tz,hfd,aO]
 
  have more:∀(u:World),Ext (fun _=>False) v u->∀(vo:Int),vo=((b+1+((l.take (k+1)).flatMap A9).length:Nat):Int)->Nw u (.cells #[.int .u8 (c.toNat:Int)] 5) fun Aa=>
       Rn Tryz.prog (Builtin.append_ #[76,76] 76 #[AA.v sl,AA.v ((⟨some ⟨u.heap.size,0,none⟩,1,1⟩:AA))]) Aa AA.v fun (Cu:AA) IT=>
       ∃m,m<l.length-k/\∃(k:Nat) (sl:AA),(Cu,vo)=(sl,((b+1+((l.take k).flatMap A9).length:Nat):Int))/\k<=l.length/\m=l.length-k/\BL IT sl (l.take k)/\(∀j,sl.own j->w3.heap.size<=j)/\Hn w IT [(w.heap.size,[.string s,.int .i64 (b:Int)],173),(w2.heap.size,[.int .i64 0,.int .i64 0,.int .i64 0,.int .i64 0,.string ⟨#[]⟩],114)]/\w3.heap.size<=IT.heap.size:=by
   rintro u eu vo rfl;have hR:=hR.AB eu fun _ _ h=>h
   have H:=H.AB eu;have zu:=eu.size;refine Nw.of ?_;have e1:Ext (fun _=>False) u (u.alloc (.cells (Ft [c]).toArray 5)):=(Ext.refl _ _).alloc _;obtain ⟨Bh,v',HA,LK,Nd,I3⟩:=K5 (ty:=76) (b:=c) (hR.AB e1 fun _ _ h=>h) (AO.new u (Ft [c]).toArray 5) (by rw[aW];omega);refine ⟨Bh,v',HA,l.length-(k+1),by omega,k+1,Bh,rfl,by omega,rfl,by rw[Hj hc];exact LK,?_,?_,?_⟩
   ·intro j hj;rcases I3 j hj with h|h
    ·exact ho j h
    ·have:=e1.size;omega
   ·refine (H.AB e1).other Nd fun j hj=>?_
    have hj:=ho j hj;refine ⟨by omega,?_⟩;simp only[aC,br,aw,aG,bA];omega
   ·have:=e1.size;have:=Nd.size;omega
  generalize hA:((l.take k).flatMap A9).length=A at*;have ib2:wrap .i64 (((b+1+A:Nat):Int)+1)=((b+1+A+1:Nat):Int):=by rw[AG (by omega)];rfl
  refine Br.dec (fun _=>?_) fun q=>absurd (show ((b+1+A:Nat):Int)<((b+1+(l.flatMap A9).length:Nat):Int) by
   have:1<=(A9 c).length:=by unfold A9;split<;>simp
   omega) q
  refine H.ld 0 rfl rfl ?_;by_cases hp:32<c.toNat/\c.toNat<=126/\c≠35/\jy c=false
  ·have hE:A9 c=[c]:=by unfold A9;rw[aD hp]
   rw[hE]at D4 Hr jS;have AOg:A+1<=(l.flatMap A9).length:=jS;have LU:(bl s)[b+1+A]?=some c:=at_drop (j:=0) D4 rfl;refine ⟨by omega,by show ((b+1+A:Nat):Int)<_;omega,?_⟩;rw[AV LU];refine Br.eq (fun q=>absurd (bS.1 (by have:((35:UInt8).toNat:Int)=35:=rfl;omega)) hp.2.2.1) fun _=>?_
   rw[ib2];refine more v (Ext.refl _ _) _ ?_;rw[Hr,ai,hA]
   rfl
  ·have hE:A9 c=35::Kq c:=by unfold A9;rw[az hp]
   rw[hE]at D4 Hr jS;have AOg:A+3<=(l.flatMap A9).length:=jS;have LU:(bl s)[b+1+A]?=some 35:=at_drop (j:=0) D4 rfl;refine ⟨by omega,by show ((b+1+A:Nat):Int)<_;omega,?_⟩;rw[AV LU];have i2:wrap .i64 (((b+1+A:Nat):Int)+2)=((b+1+A+2:Nat):Int):=by rw[AG (by omega)];rfl
   have i3:wrap .i64 (((b+1+A:Nat):Int)+3)=((b+1+A+3:Nat):Int):=by rw[AG (by omega)];rfl
   have i23:wrap .i64 (((b+1+A+2:Nat):Int)+1)=((b+1+A+3:Nat):Int):=by rw[AG (by omega)];rfl
   rw[ib2,i2,i3,i23];refine Br.t rfl (Br.dec (fun q=>absurd q (by omega)) fun _=>H.ld 0 rfl rfl ⟨by omega,by omega,by omega,by omega,?_⟩);refine (nY c ?_ v).mono ?_
   ·rw[A5,aF,aF,show b+1+A+1=(b+1+A)+1 from rfl,<-bc,D4];show (Kq c++_).take _=_;rw[show b+1+A+3-(b+1+A+1)=(Kq c).length by simp[Kq]];simp
   rintro r e v1 ⟨hrc,rfl,e1⟩;have AOh:r=⟨#[c]⟩:=Ci hrc;have W8:c≠0:=fun e=>h0 (by rw[<-e];exact aA hc)
   subst AOh;refine Br.ne (fun q=>absurd rfl q) fun _=>?_
   rw[WV];refine Br.dec (fun q=>by
    have q:[c]=[0]:=q;exact absurd (List.head_eq_of_cons_eq q) W8) fun _=>?_
   have:Bf (⟨#[c]⟩:cI) 0=(c.toNat:Int):=AV (i:=0) rfl;rw[this];refine ⟨by decide,by show (0:Int)<((1:Nat):Int);decide,?_⟩;refine more v1 e1 _ ?_;rw[Hr,ai,hA]
   rfl
 ·have G2:k=l.length:=by omega
  subst G2;rw[aP]at hR⊢;refine Br.dec (fun q=>absurd q (by omega)) fun _=>?_
  iterate 2 refine H.ld 0 rfl rfl ?_
  refine ⟨_,_,CH hR,?_⟩;refine (VK _ _ _ _ (show (((ba l).size:Nat):Int)<=127 by omega) v).mono ?_;rintro r e v1 ⟨rfl,rfl,he⟩;have H:=H.AB he
  iterate 5 (refine H.st 1 rfl (by simp) fun _ H=>?_;simp only[aa,ab]at H)
  iterate 5 refine H.ld 1 rfl rfl ?_
  refine ⟨?_,by trivial,H.ext⟩;have:b+1+(l.flatMap A9).length=b+(Bv l).length:=by omega
  rw[this]
end
end Tl
namespace Tl
open Sh Fix Tk NR Go.Lib
section
variable {w0 w:World} {s t:ByteArray}
attribute [local irreducible] Ld Sh.St Nw Nn Lt AP
theorem ZZ {n:Int}{D:By}(h:FZ n (bl t) D)(w:World):dI t w fun r w1=>r=1/\Ext (fun _=>False) w w1:=by
 refine re _ _ _ ?_;unfold kg;have hl:=h.len;have d1:=h.d1;have d21:=h.d21;rw[AE]at hl;refine (F5 t w).mono ?_;rintro r w2 ⟨hr,e2⟩;rw[h.trim]at hr;have pJ:r.size=D.length:=by rw[<-AE,hr]
 rw[hl,pJ];refine Br.dec (fun _=>?_) fun q=>absurd (by rw[AG]<;>split<;>omega) q
 rw[WV];have Bg:decide (r.data.toList=(⟨#[]⟩:cI).data.toList)=false:=aH fun q=>by
  have q:bl r=[]:=q;rw[hr]at q;rw[q]at d1;simp at d1
 rw[Bg];refine Br.t rfl ((IS r (by omega) w2).mono ?_);rintro r6 w3 ⟨h6,e3⟩;rw[WV];have he6:decide (r6.data.toList=(⟨#[]⟩:cI).data.toList)=true:=aI (by
  show bl r6=[];rw[h6,hr,Dp h.d])
 rw[he6];exact Br.t rfl ⟨rfl,e2.tr e3⟩
theorem na {n:Int}{D:By}(h:FZ n (bl t) D)(h1:-2147483647<=n)(h2:n<=2147483647)(w:World):kZ t w fun r e w1=>r=n/\e=0/\Ext (fun _=>False) w w1:=by
 refine yg _ _ _ ?_;unfold rf;have hl:=h.len;have d1:=h.d1;have d21:=h.d21;have hv:=h.dv;rw[AE]at hl;refine (F5 t w).mono ?_;rintro r w2 ⟨hr,e2⟩;rw[h.trim]at hr;have pJ:r.size=D.length:=by rw[<-AE,hr]
 refine Nw.of ?_;have e3:=(Ext.refl (fun _=>False) w2).alloc (.stringIter r 0);refine ⟨fun c st v=>∃i:Nat,v.heap[w2.heap.size]?=some (.stringIter r i)/\i<=D.length/\c=D.length-i/\st=((AU (D.take i):Nat):Int)/\Ext (fun _=>False) w v,D.length,⟨0,by unfold World.alloc;simp,by omega,rfl,by simp[AU],e2.tr e3⟩,?_⟩;rintro c st v ⟨i,hit,hi,rfl,rfl,hE⟩;unfold Uf;have Qy:w2.heap.size<v.heap.size:=(au.1 hit).1;refine JT hit (by rw[hr];exact MZ h.d) (by omega) (fun c hc=>?_) fun JU=>?_
 ·rw[hr]at hc;have hiD:=(ao.1 hc).1;have R7:=h.d c (aA hc);have a2:=@BN D i;have a3:=@BN D (i+1);rw[Em (by omega) (by omega) R7];have ev:(10*((AU (D.take i):Nat):Int)+((c.toNat-48:Nat):Int))=((AU (D.take (i+1)):Nat):Int):=by
   rw[En hc];omega
  rw[ev];refine Lt.of ⟨D.length-(i+1),by omega,i+1,F2 (s:=r) (p:=i+1) Qy,by omega,rfl,?_,?_⟩
  ·rw[az (by omega)]
  ·exact Ext.Cg hE (EC v w2.heap.size r (i+1)) fun j hj=>by have:=e2.size;have hj:j=_:=hj;omega
 ·have hiD:i=D.length:=by omega
  subst hiD;rw[aP,hv];refine Br.dec (fun q=>absurd q (by omega)) fun _=>⟨by decide,by split at hl<;>omega,?_⟩
  by_cases hn:n<0
  ·have h0:(bl t)[0]?=some 45:=by rw[h.t,aD hn];rfl
   have KE:Bf t 0=((45:UInt8).toNat:Int):=AV (i:=0) h0;rw[KE];refine Br.t rfl ⟨?_,rfl,hE⟩;rw[AG (by omega)];omega
  ·obtain ⟨c0,D',hD⟩:∃c0 D',D=c0::D':=by
    cases D with
    |nil=>simp at d1
    |cons c0 D'=>exact ⟨c0,D',rfl⟩
   have h0:(bl t)[0]?=some c0:=by rw[h.t,az hn,hD];rfl
   have KE:Bf t 0=(c0.toNat:Int):=AV (i:=0) h0;have hd0:=h.d c0 (by rw[hD];exact ax ..);have Tz:=hd0.1;rw[KE];refine Br.eq (fun q=>absurd q (by omega)) fun _=>⟨by omega,rfl,hE⟩
theorem V1 {n:Int}{D T rest:By}{b:Nat}(h:FZ n T D)(h1:-2147483647<=n)(h2:n<=2147483647)(hd:(bl s).drop b=T++rest)(hr:∀c,rest.head?=some c->Ae c=false)(hb:b<=s.size)(hs:s.size<=1099511627776)(w:World):
  RQ (s,(b:Int)) w fun r e w1=>r=(1,(b:Int),((b+T.length:Nat):Int),n,⟨#[]⟩)/\e=0/\Ext (fun _=>False) w w1:=by
 refine ri (s,(b:Int)) _ _ ?_;unfold kh;refine (Hn.start w).nw (cs:=[.string s,.int .i64 (b:Int)]) fun w2 H=>?_
 refine H.nw (cs:=[.int .i64 0,.int .i64 0,.int .i64 0,.int .i64 0,.string ⟨#[]⟩]) fun w3 H=>?_
 simp only[ag,ae,add_lit,ah]at H⊢
 iterate 3 refine H.ld 0 rfl rfl ?_
 refine (R9 s _ hb hs w3).mono ?_;rintro r w4 ⟨Wv,e4⟩;rw[hd,F6 h.BY hr]at Wv;subst Wv;have H:=H.AB e4;have hTl:b+T.length<=s.size:=by
  have:=aq List.length hd;rw[aM,ai,AE]at this;omega
 iterate 2 refine H.ld 0 rfl rfl ?_
 have hx:bl (s.extract ((b:Int)).toNat (((b+T.length:Nat):Int)).toNat)=T:=by
  rw[A5,aF,aF,hd,show b+T.length-b=T.length by omega];simp
 refine ⟨by omega,by omega,by omega,by omega,?_⟩;rw[<-hx]at h;refine (ZZ h w4).mono ?_;rintro r w5 ⟨rfl,e5⟩;have H:=H.AB e5;refine Br.t rfl ((na h h1 h2 w5).mono ?_);rintro r e w6 ⟨rfl,rfl,e6⟩;have H:=H.AB e6;refine Br.f rfl (H.ld 0 rfl rfl ?_)
 iterate 5 (refine H.st 1 rfl (by simp) fun _ H=>?_;simp only[aa,ab]at H)
 iterate 5 refine H.ld 1 rfl rfl ?_
 exact ⟨rfl,by trivial,H.ext⟩
end
end Tl
namespace Tl
open Sh Fix Tk NR Go.Lib
theorem TW {c d:UInt8}(h:(c.toNat:Int)=(d.toNat:Int)):c=d:=bS.1 (by omega)
theorem jT {d:UInt8}(h:d.toNat<98):([110,114,116,98,102]:By).contains d=false:=by
 rw[<-ck,aY];intro hm;simp only[aw,aG,bA]at hm;rcases hm with rfl|rfl|rfl|rfl|rfl<;>exact absurd h (by decide)
def ov (c:UInt8):Nat->Nat
 |0=>0
 |1=>c.toNat/64
 |2=>c.toNat/8
 |_=>c.toNat
theorem Xf (c:UInt8){j:Nat}(h:j<3):∃d:UInt8,(Ix c)[j]?=some d/\48<=d.toNat/\d.toNat<=55/\ov c (j+1)=8*ov c j+(d.toNat-48):=by
 have hc:=CM c;have v:∀x,x<8->(UInt8.ofNat (48+x)).toNat=48+x:=fun x hx=>by rw[bR];omega
 match j,h with
 |0,_=>
  refine ⟨_,rfl,?_⟩;rw[v _ (by omega)];simp only[ov];omega
 |1,_=>
  refine ⟨_,rfl,?_⟩;rw[v _ (by omega)];simp only[ov];omega
 |2,_=>
  refine ⟨_,rfl,?_⟩;rw[v _ (by omega)];simp only[ov];omega
theorem ADC (c:UInt8)(j:Nat):ov c j<256:=by
 have hc:=CM c
 match j with
 |0=>simp[ov]
 |1=>simp only[ov];omega
 |2=>simp only[ov];omega
 |j+3=>simp only[ov];omega
section
variable {w0 w:World} {s t:ByteArray}
attribute [local irreducible] Ld Sh.St Nw Nn Lt AP
theorem TX {i:Nat}{c:UInt8}(x:Int)(hc:(bl s)[i]?=some c)(h13:c≠13)(h10:c≠10)(w:World):dG (s,x) (i:Int) w fun r b w1=>r=(i:Int)/\b=false/\Ext (fun _=>False) w w1:=by
 refine yb (s,x) _ _ _ ?_;unfold rT;have hi:=(ao.1 hc).1;rw[AE]at hi;refine (Hn.start w).nw (cs:=[.string s,.int .i64 x]) fun w2 H=>?_
 simp only[ae,add_lit,ah]at H⊢;refine H.ld 0 rfl rfl ⟨by omega,by omega,?_⟩;rw[AV hc];refine Br.eq (fun q=>absurd (TW (d:=13) q) h13) fun _=>?_
 refine H.ld 0 rfl rfl ⟨by omega,by omega,?_⟩;rw[AV hc];exact Br.eq (fun q=>absurd (TW (d:=10) q) h10) fun _=>⟨by trivial,by trivial,H.ext⟩
theorem Za {i:Nat}{c:UInt8}{more tl:By}(x:Int)(hE:A1 c=92::tl)(hd:(bl s).drop (i+1)=tl++more)(hi:i+1<=s.size)(hs:s.size<=1099511627776)(w:World):
  kX (s,x) ((i+1:Nat):Int) w fun r t0z w1=>r=⟨#[c]⟩/\t0z=((i+(A1 c).length:Nat):Int)/\Ext (fun _=>False) w w1:=by
 refine yc (s,x) _ _ _ ?_;unfold rU;have Qe:=CM c;have Yh:=AE s;have hlen:i+1+tl.length+more.length=s.size:=by
  have:=aq List.length hd;rw[aM,ai,AE]at this;omega
 have OY:(∃_:c=40\/c=41\/c=92,tl=[c])\/tl=Ix c:=by
  unfold A1 at hE;split at hE
  ·rename_i h;exact .inl ⟨h,by injection hE with _ h;exact h.symm⟩
  ·rename_i hn;split at hE
   ·exact .inr (by injection hE with _ h;exact h.symm)
   ·injection hE with h;exact absurd (.inr (.inr h)) hn
 refine (Hn.start w).nw (cs:=[.string s,.int .i64 x]) fun w2 H=>?_
 simp only[ae,add_lit,ah]at H⊢;have i1:wrap .i64 (((i+1:Nat):Int)+1)=((i+2:Nat):Int):=by rw[AG (by omega)];rfl
 have i3:wrap .i64 (((i+1:Nat):Int)+3)=((i+4:Nat):Int):=by rw[AG (by omega)];rfl
 rw[hE];rcases OY with ⟨h3,rfl⟩|rfl
 ·have LU:(bl s)[i+1]?=some c:=at_drop (j:=0) hd rfl;have hlen:i+1+1+more.length=s.size:=hlen;have Av:c.toNat<98:=by rcases h3 with rfl|rfl|rfl<;>decide
  have hoc:¬(48<=c.toNat/\c.toNat<=55):=by rcases h3 with rfl|rfl|rfl<;>decide
  refine H.ld 0 rfl rfl ⟨by omega,by omega,?_⟩;rw[AV LU];refine (KG _ c w2).mono ?_;rintro r w3 ⟨rfl,rfl⟩;rw[BM,show bl (⟨#[110,114,116,98,102]⟩:cI)=[110,114,116,98,102]from rfl,jT Av];refine Br.f rfl ?_
  iterate 2 refine H.ld 0 rfl rfl ?_
  refine (TX x LU (by rcases h3 with rfl|rfl|rfl<;>decide) (by rcases h3 with rfl|rfl|rfl<;>decide) _).mono ?_;rintro r b w4 ⟨rfl,rfl,e4⟩;have H:=H.AB e4;have J:HI w ((i+1:Nat):Int) (fun r t0z w1=>r=⟨#[c]⟩/\t0z=((i+[92,c].length:Nat):Int)/\Ext (fun _=>False) w w1) (0,((i+1:Nat):Int)) w4:=by
   unfold HI;refine Br.dec (fun q=>absurd q (by show ¬((i+1:Nat):Int)>_;omega)) fun _=>H.ld 0 rfl rfl ?_
   rw[i1];refine ⟨by omega,by omega,by omega,by omega,?_,rfl,H.ext⟩;rw[<-KI (s.extract _ _),A5,aF,aF,hd,show i+2-(i+1)=1 by omega]
   rfl
  refine Br.f rfl (As.intro ⟨fun n st v=>st=(0,((i+1:Nat):Int))/\v=w4,0,⟨rfl,rfl⟩,?_⟩);rintro n st v ⟨rfl,rfl⟩;unfold Pa;refine H.ld 0 rfl rfl (Br.dec (fun _=>?_) fun q=>J);rw[i3];refine Br.dec (fun _=>H.ld 0 rfl rfl ?_) fun q=>J
  dsimp only;have ADD:=AV LU;rw[AV LU];refine ⟨by omega,by omega,Br.dec (fun q1=>H.ld 0 rfl rfl ?_) fun q=>J⟩;exact ⟨by omega,by omega,Br.dec (fun q2=>absurd ⟨by omega,by omega⟩ hoc) fun q=>J⟩
 ·have hlen:i+1+3+more.length=s.size:=hlen;obtain ⟨d0,g0,l0,u0,_⟩:=Xf c (j:=0) (by decide);have LU:(bl s)[i+1]?=some d0:=at_drop (j:=0) hd (by rw[bj (by show 0<3;decide)];exact g0);refine H.ld 0 rfl rfl ⟨by omega,by omega,?_⟩;rw[AV LU];refine (KG _ d0 w2).mono ?_;rintro r w3 ⟨rfl,rfl⟩;rw[BM,show bl (⟨#[110,114,116,98,102]⟩:cI)=[110,114,116,98,102]from rfl,jT (by omega)];refine Br.f rfl ?_
  iterate 2 refine H.ld 0 rfl rfl ?_
  refine (TX x LU (fun e=>by subst e;exact absurd l0 (by decide)) (fun e=>by subst e;exact absurd l0 (by decide)) _).mono ?_;rintro r b w4 ⟨rfl,rfl,e4⟩;have H:=H.AB e4;refine Br.f rfl (As.intro ⟨fun n st v=>∃j,j<=3/\n=3-j/\st=(((ov c j:Nat):Int),((i+1+j:Nat):Int))/\v=w4,3,⟨0,by omega,rfl,rfl,rfl⟩,?_⟩);rintro n st v ⟨j,hj,rfl,rfl,rfl⟩;unfold Pa;dsimp only;rw[i3];have J:j=3->HI w ((i+1:Nat):Int) (fun r t0z w1=>r=⟨#[c]⟩/\t0z=((i+(92::Ix c).length:Nat):Int)/\Ext (fun _=>False) w w1) (((ov c j:Nat):Int),((i+1+j:Nat):Int)) v:=by
   rintro rfl;unfold HI;refine Br.dec (fun _=>Nw.of ?_) fun q=>absurd (show ((i+1+3:Nat):Int)>((i+1:Nat):Int) by omega) q
   have e1:Ext (fun _=>False) v (v.alloc (.cells (Ft [c]).toArray 5)):=(Ext.refl _ _).alloc _;have R1:BL (v.alloc (.cells (Ft [c]).toArray 5)) ⟨some ⟨v.heap.size,0,none⟩,1,1⟩ [c]:=Row.new v (Ft [c]).toArray 5 1 1 rfl;have Yi:wrap .u8 ((ov c 3:Nat):Int)=(c.toNat:Int):=G0 (n:=((c.toNat:Nat):Int)) (by omega);dsimp only;rw[Yi];exact ⟨_,_,CH R1,rfl,rfl,(H.AB e1).ext⟩
  refine H.ld 0 rfl rfl (Br.dec (fun q1=>?_) fun q=>J (by omega));refine Br.dec (fun q2=>H.ld 0 rfl rfl ?_) fun q=>J (by omega)
  have hj3:j<3:=by omega
  obtain ⟨d,g,ld,ud,hv⟩:=Xf c hj3;have ADE:(bl s)[i+1+j]?=some d:=at_drop (j:=j) hd (by rw[bj (by show j<3;omega)];exact g);have Yi:=ADC c j;have ADD:=AV ADE;rw[AV ADE];refine ⟨by omega,by omega,Br.dec (fun _=>H.ld 0 rfl rfl ⟨by omega,by omega,Br.dec (fun _=>H.ld 0 rfl rfl ⟨by omega,by omega,Lt.of ?_⟩) fun q=>absurd (by omega) q⟩) fun q=>absurd (by omega) q⟩;refine ⟨3-(j+1),by omega,j+1,by omega,rfl,?_,rfl⟩;rw[hv,ADD,G0 (by omega),AG (n:=8*((ov c j:Nat):Int)) (by omega),AG (n:=((d.toNat:Nat):Int)-48) (by omega),AG (by omega),AG (by omega)]
  congr 1
  omega
end
end Tl
namespace Tl
open Sh Fix Tk NR Go.Lib
theorem O9 (c:UInt8):(A1 c=[c]/\c≠92/\c≠40/\c≠41/\c≠13/\c≠10)\/∃tl,A1 c=92::tl:=by
 unfold A1;split
 ·exact .inr ⟨_,rfl⟩
 ·rename_i h;split
  ·exact .inr ⟨_,rfl⟩
  ·rename_i h2;refine .inl ⟨rfl,fun e=>h (.inr (.inr e)),fun e=>h (.inl e),fun e=>h (.inr (.inl e)),fun e=>?_,fun e=>?_⟩
   ·subst e;exact h2 (.inl (by decide))
   ·subst e;exact h2 (.inl (by decide))
section
variable {w0 w:World} {s t:ByteArray}
attribute [local irreducible] Ld Sh.St Nw Nn Lt AP
theorem nc {b:Nat}{l rest:By}(hd:(bl s).drop b=Jp l++rest)(hb:b<=s.size)(hs:s.size<=1099511627776)(hl:l.length<=32767)(w:World):
  kY (s,(b:Int)) w fun r e w1=>r=(3,(b:Int),((b+(Jp l).length:Nat):Int),0,ba l)/\e=0/\Ext (fun _=>False) w w1:=by
 refine ye (s,(b:Int)) _ _ ?_;unfold rb;have Yh:=AE s;have hba:(ba l).size=l.length:=by rw[<-AE,BB]
 have hF:(Jp l).length=(l.flatMap A1).length+2:=by unfold Jp;rw[ar,ai];rfl
 have Gx:b+(Jp l).length<=s.size:=by
  have:=aq List.length hd;rw[aM,ai,AE]at this;omega
 have Tz:(bl s).drop (b+1)=l.flatMap A1++41::rest:=by
  rw[<-bc,hd];show (l.flatMap A1++[41])++rest=_;simp
 refine (Hn.start w).nw (cs:=[.string s,.int .i64 (b:Int)]) fun w2 H=>?_
 refine H.nw (cs:=[.int .i64 0,.int .i64 0,.int .i64 0,.int .i64 0,.string ⟨#[]⟩]) fun w3 H=>?_
 simp only[ag,ae,add_lit,ah]at H⊢;have h23:w2.heap.size<w3.heap.size:=H.lt 1 rfl;have h13:w.heap.size<w3.heap.size:=H.lt 0 rfl;have hw0:=H.size;refine Nw.of ?_;have e0:Ext (fun _=>False) w3 (w3.alloc (.cells #[.pointer none,AA.v ⟨none,0,0⟩] 78)):=(Ext.refl _ _).alloc _;have KE:=AO.new w3 #[.pointer none,AA.v ⟨none,0,0⟩] 78;generalize w3.alloc (.cells #[.pointer none,AA.v ⟨none,0,0⟩] 78)=w4 at e0 KE⊢;have B0:Bu w3 w4 w3.heap.size none ⟨none,0,0⟩ []:=⟨aB _,.inl rfl,KE,⟨rfl,.inl ⟨rfl,rfl⟩⟩⟩
 have H:=H.AB e0;have z4:=e0.size;refine H.ld 0 rfl rfl ?_;have ib:wrap .i64 (((b:Nat):Int)+1)=((b+1:Nat):Int):=by rw[AG (by omega)];rfl
 rw[ib];refine ⟨fun n st v=>∃(k:Nat) (p:Option Addr) (sl:AA),st=(1,((b+1+((l.take k).flatMap A1).length:Nat):Int))/\k<=l.length/\n=l.length-k/\Bu w3 v w3.heap.size p sl (l.take k)/\w3.heap.size<=v.heap.size/\
   Hn w v [(w.heap.size,[.string s,.int .i64 (b:Int)],173),(w2.heap.size,[.int .i64 0,.int .i64 0,.int .i64 0,.int .i64 0,.string ⟨#[]⟩],114)],l.length,
  ⟨0,none,⟨none,0,0⟩,rfl,by omega,rfl,B0,z4,H⟩,?_⟩
 rintro n st v ⟨k,p,sl,rfl,hk,rfl,hB,lv,H⟩;unfold Uc;have KH:∀{u u':World},Hn w u [(w.heap.size,[.string s,.int .i64 (b:Int)],173),(w2.heap.size,[.int .i64 0,.int .i64 0,.int .i64 0,.int .i64 0,.string ⟨#[]⟩],114)]->Ext (fun j=>w3.heap.size<=j) u u'->
   Hn w u' [(w.heap.size,[.string s,.int .i64 (b:Int)],173),(w2.heap.size,[.int .i64 0,.int .i64 0,.int .i64 0,.int .i64 0,.string ⟨#[]⟩],114)]:=fun H e=>H.other e fun j hj=>by
  have hj:w3.heap.size<=j:=hj;refine ⟨by omega,?_⟩;simp only[aC,br,aw,aG,bA];omega
 by_cases G2:k<l.length
 ·have hc:=al G2;generalize l[k]=c at hc;have Av:=CM c;have hfd:=O7 (f:=A1) l (41::rest) k;rw[ES hc,bB]at hfd;have Hr:(l.take (k+1)).flatMap A1=(l.take k).flatMap A1++A1 c:=by rw[Hj hc,bg];simp
  have hle:((l.take (k+1)).flatMap A1).length<=(l.flatMap A1).length:=by
   have:l.flatMap A1=(l.take (k+1)).flatMap A1++(l.drop (k+1)).flatMap A1:=by rw[<-bg,bV]
   rw[this,ai];omega
  rw[Hr,ai]at hle;have D4:(bl s).drop (b+1+((l.take k).flatMap A1).length)=A1 c++((l.drop (k+1)).flatMap A1++41::rest):=by
   rw[<-bc,Tz,hfd,aO]
  generalize hA:((l.take k).flatMap A1).length=A at*;have OY:((l.take (k+1)).flatMap A1).length=A+(A1 c).length:=by rw[Hr,ai,hA]
  have Bg:1<=(A1 c).length:=by
   rcases O9 c with ⟨h,_⟩|⟨tl,h⟩<;>rw[h]<;>simp
  refine H.ld 0 rfl rfl (Br.dec (fun _=>?_) fun q=>absurd (show ((b+1+A:Nat):Int)<((s.size:Nat):Int) by omega) q)
  iterate 2 refine H.ld 0 rfl rfl ?_
  have nd:∀{u:World} {p':Option Addr} {Bh:AA},Bu w3 u w3.heap.size p' Bh (l.take k++[c])->w3.heap.size<=u.heap.size->Hn w u [(w.heap.size,[.string s,.int .i64 (b:Int)],173),(w2.heap.size,[.int .i64 0,.int .i64 0,.int .i64 0,.int .i64 0,.string ⟨#[]⟩],114)]->∀t0z:Int,t0z=((b+1+A+(A1 c).length:Nat):Int)->
    ∃n',n'<l.length-k/\∃(k:Nat) (p:Option Addr) (sl:AA),((1:Int),t0z)=(1,((b+1+((l.take k).flatMap A1).length:Nat):Int))/\k<=l.length/\n'=l.length-k/\Bu w3 u w3.heap.size p sl (l.take k)/\w3.heap.size<=u.heap.size/\
   Hn w u [(w.heap.size,[.string s,.int .i64 (b:Int)],173),(w2.heap.size,[.int .i64 0,.int .i64 0,.int .i64 0,.int .i64 0,.string ⟨#[]⟩],114)]:=by
   rintro u p' Bh h1 h2 h3 t0z rfl;refine ⟨l.length-(k+1),by omega,k+1,p',Bh,?_,by omega,rfl,by rw[Hj hc];exact h1,h2,h3⟩;rw[OY,Nat.add_assoc]
  rcases O9 c with ⟨hE,n92,n40,n41,n13,n10⟩|⟨tl,hE⟩
  ·have LU:(bl s)[b+1+A]?=some c:=at_drop (j:=0) D4 (by rw[hE];rfl);refine (TX _ LU n13 n10 v).mono ?_;rintro r bb v1 ⟨rfl,rfl,e1⟩;have H:=H.AB e1;have hB:=hB.AB e1;have z1:=e1.size;refine Br.f rfl (As.intro (H.ld 0 rfl rfl ⟨by omega,by show ((b+1+A:Nat):Int)<_;omega,?_⟩));dsimp only;rw[AV LU];refine Br.eq (fun q=>absurd (TW (d:=92) q) n92) fun _=>Br.eq (fun q=>absurd (TW (d:=40) q) n40) fun _=>Br.eq (fun q=>absurd (TW (d:=41) q) n41) fun _=>?_
   unfold Lv;refine Br.f rfl (H.ld 0 rfl rfl ⟨by omega,by show ((b+1+A:Nat):Int)<_;omega,?_⟩);dsimp only;rw[AV LU];refine (EL hB (by rw[aW];omega)).mono ?_;rintro r v2 ⟨Tu,N5,hW⟩;refine nd N5 (by have:=hW.ext.size;omega) (KH H hW.ext) _ ?_;rw[hE,AG (by omega)]
   rfl
  ·have LU:(bl s)[b+1+A]?=some 92:=at_drop (j:=0) D4 (by rw[hE];rfl);have Kv:(bl s).drop (b+1+A+1)=tl++((l.drop (k+1)).flatMap A1++41::rest):=by
    rw[<-bc,D4,hE]
    rfl
   refine (TX _ LU (by decide) (by decide) v).mono ?_;rintro r bb v1 ⟨rfl,rfl,e1⟩;have H:=H.AB e1;have hB:=hB.AB e1;have z1:=e1.size;refine Br.f rfl (As.intro (H.ld 0 rfl rfl ⟨by omega,by show ((b+1+A:Nat):Int)<_;omega,?_⟩));dsimp only;rw[AV LU,show wrap .i64 (((b+1+A:Nat):Int)+1)=((b+1+A+1:Nat):Int) by rw[AG (by omega)];rfl];refine Br.t rfl (H.ld 0 rfl rfl (Br.eq (fun q=>absurd q (by omega)) fun _=>?_))
   iterate 2 refine H.ld 0 rfl rfl ?_
   refine (Za _ hE Kv (by omega) hs v1).mono ?_;rintro r t0z v2 ⟨rfl,rfl,e2⟩;have H:=H.AB e2;have hB:=hB.AB e2;have z2:=e2.size;refine (Fa hB (by rw[aW];show _+1<=_;omega)).mono ?_;rintro r r' v3 ⟨Tu,N5,hW⟩;exact nd N5 (by have:=hW.ext.size;omega) (KH H hW.ext) _ rfl
 ·have G2:k=l.length:=by omega
  subst G2;rw[aP]at hB⊢;have LU:(bl s)[b+1+(l.flatMap A1).length]?=some 41:=by
   refine at_drop (j:=(l.flatMap A1).length) Tz ?_;rw[bG (aB _),Nat.sub_self]
   rfl
  refine H.ld 0 rfl rfl (Br.dec (fun _=>?_) fun q=>absurd (show ((b+1+(l.flatMap A1).length:Nat):Int)<((s.size:Nat):Int) by omega) q)
  iterate 2 refine H.ld 0 rfl rfl ?_
  refine (TX _ LU (by decide) (by decide) v).mono ?_;rintro r bb v1 ⟨rfl,rfl,e1⟩;have H:=H.AB e1;have hB:=hB.AB e1;have z1:=e1.size;refine Br.f rfl (As.intro (H.ld 0 rfl rfl ⟨by omega,by show ((b+1+(l.flatMap A1).length:Nat):Int)<_;omega,?_⟩));dsimp only;rw[AV LU];refine Br.f rfl (Br.f rfl (Br.t rfl ?_));unfold Lv;refine Br.t (show (wrap .i64 (1-1)==0)=true by decide) ⟨fun u=>Hn w u [(w.heap.size,[.string s,.int .i64 (b:Int)],173),(w2.heap.size,[.int .i64 0,.int .i64 0,.int .i64 0,.int .i64 0,.string ⟨#[]⟩],114)],H.drew,?_⟩;refine AP.of (fun u hu=>hu.get 0 rfl) rfl (AP.of (fun u hu=>hu.get 0 rfl) rfl ?_);refine (JD (hB.AB (Ext.refl (fun _=>False) v1).drew) (by show w3.heap.size<=v1.heap.size;omega)).mono ?_;rintro r v2 ⟨rfl,LY⟩;have H:=KH H.drew (CZ LY);refine ⟨H,?_⟩;refine (VK _ _ _ _ (show (((ba l).size:Nat):Int)<=32767 by omega) v2).mono ?_;rintro r e v3 ⟨rfl,rfl,he⟩;have H:=H.AB he;simp only[add_lit,ah]
  iterate 5 (refine H.st 1 rfl (by simp) fun _ H=>?_;simp only[aa,ab]at H)
  iterate 5 refine H.ld 1 rfl rfl ?_
  refine ⟨?_,by trivial,H.ext⟩;have:wrap .i64 (((b+1+(l.flatMap A1).length:Nat):Int)+1)=((b+(Jp l).length:Nat):Int):=by rw[AG (by omega)];omega
  rw[this]
end
end Tl
namespace Tl
open Sh Fix Tk NR Go.Lib
section
variable {w0 w:World} {s t:ByteArray} {a:Nat}
attribute [local irreducible] Ld Sh.St Nw Nn Lt AP
theorem GV {b:Nat}(ha:a<=s.size)(hb:a+Ag ((bl s).drop a) false=b):b<=s.size:=by
 have:=Iv ((bl s).drop a) false;rw[aM,AE]at this;omega
theorem TY {b:Nat}{l rest:By}(ha:a<=s.size)(hs:s.size<=1099511627776)(hb:a+Ag ((bl s).drop a) false=b)(hd:(bl s).drop b=Bv l++rest)(hr:∀c,rest.head?=some c->Ae c=false)(hl:l.length<=127)(h0:0∉l)(w:World):
  Qr s (a:Int) w fun r e w1=>r=(4,(b:Int),((b+(Bv l).length:Nat):Int),0,ba l)/\e=0/\Ext (fun _=>False) w w1:=by
 have hc:(bl s)[b]?=some 47:=at_drop (j:=0) hd rfl;refine Cj ha hs hb hc w fun w2 v H=>?_
 unfold KA;rw[AV hc];refine Br.f rfl (Br.f rfl (Br.f rfl (Br.t rfl ?_)));simp only[add_lit,ah]
 iterate 2 refine H.ld 1 rfl rfl ?_
 refine (nZ hd hr (GV ha hb) hs hl h0 v).mono ?_;rintro r e w3 ⟨rfl,rfl,e3⟩;have H:=H.AB e3
 iterate 5 (refine H.st 0 rfl (by simp) fun _ H=>?_;simp only[aa,ab]at H)
 iterate 5 refine H.ld 0 rfl rfl ?_
 exact ⟨rfl,by trivial,H.ext⟩
theorem V2 {b:Nat}{l rest:By}(ha:a<=s.size)(hs:s.size<=1099511627776)(hb:a+Ag ((bl s).drop a) false=b)(hd:(bl s).drop b=Jp l++rest)(hl:l.length<=32767)(w:World):
  Qr s (a:Int) w fun r e w1=>r=(3,(b:Int),((b+(Jp l).length:Nat):Int),0,ba l)/\e=0/\Ext (fun _=>False) w w1:=by
 have hc:(bl s)[b]?=some 40:=at_drop (j:=0) hd rfl;refine Cj ha hs hb hc w fun w2 v H=>?_
 unfold KA;rw[AV hc];refine Br.f rfl (Br.f rfl (Br.f rfl (Br.f rfl (Br.t rfl ?_))));simp only[add_lit,ah]
 iterate 2 refine H.ld 1 rfl rfl ?_
 refine (nc hd (GV ha hb) hs hl v).mono ?_;rintro r e w3 ⟨rfl,rfl,e3⟩;have H:=H.AB e3
 iterate 5 (refine H.st 0 rfl (by simp) fun _ H=>?_;simp only[aa,ab]at H)
 iterate 5 refine H.ld 0 rfl rfl ?_
 exact ⟨rfl,by trivial,H.ext⟩
theorem FZ.head{n:Int}{T D:By}(h:FZ n T D):∃c T',T=c::T':=by
 have h1:=h.len;have h2:=h.d1;cases T with
 |nil=>rw[aU]at h1;split at h1<;>omega
 |cons c T'=>exact ⟨c,T',rfl⟩
theorem Jc {c:UInt8}{r:By}(h:IU c=false)(h2:c≠37):Ag (c::r) false=0:=by
 show (if c=37 then _ else if IU c=true then _ else 0)=0;rw[az h2,h]
 rfl
theorem nf {c:UInt8}{r:By}(h:Ae c=true):Ag (32::c::r) false=1:=by
 show (if (32:UInt8)=37 then _ else if IU 32=true then 1+Ag (c::r) false else 0)=1;rw[az (by decide),aD (by decide),jG h]
end
end Tl
set_option maxRecDepth 4000
set_option maxHeartbeats 2000000
namespace Vl
open Sh
abbrev Ob:=Int×Int×Int×ByteArray×AA×AA
abbrev CU:AA:=⟨none,0,0⟩
def AH (o:Ob):List Value:=[.int .i64 o.1,.int .i64 o.2.1,.int .i64 o.2.2.1,.string o.2.2.2.1,AA.v o.2.2.2.2.1,AA.v o.2.2.2.2.2]
def Bk:Ob:=(0,0,0,⟨#[]⟩,CU,CU)
theorem P4 (o:Ob):∀v∈AH o,v.oneCell'=true:=by
 intro v hv;simp only[AH,aw,aG,bA]at hv;rcases hv with rfl|rfl|rfl|rfl|rfl|rfl<;>rfl
theorem FE (L:List Ob):(L.flatMap AH).length=L.length*6:=by
 induction L with
 |nil=>rfl
 |cons o L ih=>rw[bB,ai,ih,ar];simp[AH];omega
theorem QJ {L:List Ob}{i j:Nat}{o:Ob}(hi:L[i]?=some o)(hj:j<6):(L.flatMap AH)[i*6+j]?=(AH o)[j]?:=by
 induction L generalizing i with
 |nil=>cases hi
 |cons p L ih=>
  rw[bB];cases i with
  |zero=>
   cases hi;rw[Nat.zero_mul,ah,bj (by simp[AH];omega)]
  |succ i=>
   rw[bG (by simp[AH];omega),<-ih (by simpa using hi)]
   congr 1
   simp only[AH,ar,aU];omega
def OV (w:World)(s:AA)(L:List Ob):Prop:=s.len=L.length/\Bb w s 6 (L.flatMap AH)
abbrev uT (g n:Nat):AA:=⟨some ⟨g,0,none⟩,n,n⟩
theorem OV.of{w:World}{g:Nat}{L:List Ob}{t:TypeId}(h:AO w g (L.flatMap AH).toArray t):OV w (uT g L.length) L:=⟨rfl,Bb.of h (FE L)⟩
theorem OV.AB{w w':World}{s:AA}{L:List Ob}(h:OV w s L)(he:Ext (fun _=>False) w w'):OV w' s L:=⟨h.1,h.2.AB he⟩
theorem OV.get{w:World}{s:AA}{L:List Ob}(h:OV w s L){i:Nat}{o:Ob}(hi:L[i]?=some o):∃a,s.p=some a/\w.cell? (a.add (i*6))=some (.int .i64 o.1)/\w.cell? ((a.add (i*6)).add 1)=some (.int .i64 o.2.1)/\w.cell? ((a.add (i*6)).add 2)=some (.int .i64 o.2.2.1)/\
  w.cell? ((a.add (i*6)).add 3)=some (.string o.2.2.2.1)/\w.cell? ((a.add (i*6)).add 4)=some (AA.v o.2.2.2.2.1)/\w.cell? ((a.add (i*6)).add 5)=some (AA.v o.2.2.2.2.2):=by
 have g:∀j v,j<6->(AH o)[j]?=some v->∃a,s.p=some a/\w.cell? ((a.add (i*6)).add j)=some v:=fun j v hj hv=>by
  obtain ⟨a,ha,hc⟩:=h.2.2 (i*6+j) v (by rw[QJ hi hj];exact hv);exact ⟨a,ha,by rw[Be];exact hc⟩
 obtain ⟨a,ha,c0⟩:=g 0 _ (by omega) rfl;obtain ⟨a1,VB,c1⟩:=g 1 _ (by omega) rfl;obtain ⟨a2,MT,c2⟩:=g 2 _ (by omega) rfl;obtain ⟨a3,ha3,c3⟩:=g 3 _ (by omega) rfl;obtain ⟨a4,ha4,c4⟩:=g 4 _ (by omega) rfl;obtain ⟨a5,ha5,c5⟩:=g 5 _ (by omega) rfl;rw[ha]at VB MT ha3 ha4 ha5;cases VB;cases MT;cases ha3;cases ha4;cases ha5;exact ⟨a,ha,by rw[Be]at c0;exact c0,c1,c2,c3,c4,c5⟩
theorem OW:IP Tryz.prog 68=some [(0,3),(1,2),(2,3),(3,9),(4,66),(5,30)]:=by kernel_rfl
theorem Ab.any{w:World}{a:Addr}:∀(ts:List DR) (i:Nat) (x:AQ ts) (K:AQ ts->Prop),(∀j v,(AQ.cells ts x)[j]?=some v->w.cell? (a.add (i+j))=some v)->K x->Ab w a i ts K
 |[],_,_,_,_,k=>k
 |[t],i,x,K,h,k=>Ld.mk (x:=x) (h 0 (t.v x) rfl) k
 |t::u::r,i,x,K,h,k=>Ld.mk (x:=x.1) (h 0 (t.v x.1) rfl) (Ab.any (u::r) (i+1) x.2 (fun y=>K (x.1,y)) (fun j v hj=>by
   have:=h (j+1) v hj;rw[show i+1+j=i+(j+1) by omega];exact this) k)
theorem OV.word{w:World}{s:AA}{L:List Ob}(h:OV w s L){i:Nat}{o:Ob}(hi:L[i]?=some o){K:AK->Prop}(k:K o):∃a,s.p=some a/\Ab w (a.add (i*6)) 0 AD K:=by
 obtain ⟨a,ha,c0,c1,c2,c3,c4,c5⟩:=h.get hi;refine ⟨a,ha,Ab.any AD 0 o K (fun j v hj=>?_) k⟩;rw[ah]
 match j,hj with
 |0,hj=>obtain rfl:=aZ hj;rw[show (a.add (i*6)).add 0=a.add (i*6) by rw[Be];rfl];exact c0
 |1,hj=>obtain rfl:=aZ hj;exact c1
 |2,hj=>obtain rfl:=aZ hj;exact c2
 |3,hj=>obtain rfl:=aZ hj;exact c3
 |4,hj=>obtain rfl:=aZ hj;exact c4
 |5,hj=>obtain rfl:=aZ hj;exact c5
 |n+6,hj=>simp[AQ.cells]at hj
end Vl
namespace Vl
open Sh
inductive Tr where
 |mk (k n g:Int) (s:ByteArray) (ks:List ByteArray) (kids:List Tr)
def Tr.k:Tr->Int| .mk k _ _ _ _ _=>k
def Tr.n:Tr->Int| .mk _ n _ _ _ _=>n
def Tr.g:Tr->Int| .mk _ _ g _ _ _=>g
def Tr.s:Tr->ByteArray| .mk _ _ _ s _ _=>s
def Tr.ks:Tr->List ByteArray| .mk _ _ _ _ ks _=>ks
def Tr.kids:Tr->List Tr| .mk _ _ _ _ _ kids=>kids
theorem Tr.ext{a b:Tr}(h1:a.k=b.k)(h2:a.n=b.n)(h3:a.g=b.g)(h4:a.s=b.s)(h5:a.ks=b.ks)(h6:a.kids=b.kids):a=b:=by
 cases a;cases b;simp only[Tr.k,Tr.n,Tr.g,Tr.s,Tr.ks,Tr.kids]at*;subst h1 h2 h3 h4 h5 h6
 rfl
def A3 {α β:Type}(R:α->β->Prop):List α->List β->Prop
 |[],[]=>True
 |a::l,b::m=>R a b/\A3 R l m
 |_,_=>False
theorem A3.len{α β:Type}{R:α->β->Prop}:∀{l:List α} {m:List β},A3 R l m->l.length=m.length
 |[],[],_=>rfl
 |_::_,_::_,h=>by rw[ar,ar,h.2.len]
theorem A3.imp{α β:Type}{R Q:α->β->Prop}(h:∀a b,R a b->Q a b):∀{l:List α} {m:List β},A3 R l m->A3 Q l m
 |[],[],_=>trivial
 |_::_,_::_,k=>⟨h _ _ k.1,k.2.imp h⟩
theorem A3.get{α β:Type}{R:α->β->Prop}:∀{l:List α} {m:List β},A3 R l m->∀{i:Nat} {a:α},l[i]?=some a->∃b,m[i]?=some b/\R a b
 |[],[],_,i,a,h=>by simp at h
 |_::_,b::_,k,0,a,h=>by
  simp only[ct,bw]at h;subst h;exact ⟨b,rfl,k.1⟩
 |_::_,_::_,k,i+1,a,h=>by
  simp only[cr]at h⊢;exact k.2.get h
theorem A3.P6{α β:Type}{R:α->β->Prop}:∀{l:List α} {m:List β},A3 R l m->∀{i:Nat} {b:β},m[i]?=some b->∃a,l[i]?=some a/\R a b
 |[],[],_,i,a,h=>by simp at h
 |a::_,_::_,k,0,b,h=>by
  simp only[ct,bw]at h;subst h;exact ⟨a,rfl,k.1⟩
 |_::_,_::_,k,i+1,b,h=>by
  simp only[cr]at h⊢;exact k.2.P6 h
theorem A3.of{α β:Type}{R:α->β->Prop}:∀{l:List α} {m:List β},l.length=m.length->(∀(i:Nat) a b,l[i]?=some a->m[i]?=some b->R a b)->A3 R l m
 |[],[],_,_=>trivial
 |a::l,b::m,h,k=>⟨k 0 a b rfl rfl,.of (by simpa using h) fun i a' b' h1 h2=>k (i+1) a' b' (by simpa using h1) (by simpa using h2)⟩
theorem A3.take{α β:Type}{R:α->β->Prop}:∀{l:List α} {m:List β} (n:Nat),A3 R l m->A3 R (l.take n) (m.take n)
 |_,_,0,_=>by simp[A3]
 |[],[],_+1,_=>by simp[A3]
 |_::_,_::_,n+1,k=>⟨k.1,k.2.take n⟩
def KV (w:World)(s:AA)(K:List ByteArray):Prop:=(s.len=K.length/\K.length<=9223372036854775807)/\∀(i:Nat) (b:ByteArray),K[i]?=some b->∃a,s.p=some a/\w.cell? (a.add i)=some (.string b)
theorem KV.AB{w w':World}{s:AA}{K:List ByteArray}(h:KV w s K)(he:Ext (fun _=>False) w w'):KV w' s K:=⟨h.1,fun i b hi=>by
 obtain ⟨a,ha,hc⟩:=h.2 i b hi;exact ⟨a,ha,he.B8 hc⟩⟩
theorem KV.nil(w:World):KV w CU []:=⟨⟨rfl,by simp⟩,fun i b h=>by simp at h⟩
def JN (w:World):Nat->Ob->Tr->Prop
 |0,_,_=>False
 |d+1,o,t=>(o.1=t.k/\o.2.1=t.n/\o.2.2.1=t.g/\o.2.2.2.1=t.s)/\KV w o.2.2.2.2.1 t.ks/\∃L:List Ob,OV w o.2.2.2.2.2 L/\A3 (JN w d) L t.kids
theorem JN.AB{w w':World}(he:Ext (fun _=>False) w w'):∀{d:Nat} {o:Ob} {t:Tr},JN w d o t->JN w' d o t
 |0,_,_,h=>h.elim
 |d+1,o,t,⟨h1,h2,L,h3,h4⟩=>⟨h1,h2.AB he,L,h3.AB he,h4.imp fun _ _ h=>JN.AB he h⟩
theorem JN.mono{w:World}:∀{d:Nat} {o:Ob} {t:Tr},JN w d o t->JN w (d+1) o t
 |0,_,_,h=>h.elim
 |d+1,o,t,⟨h1,h2,L,h3,h4⟩=>⟨h1,h2,L,h3,h4.imp fun _ _ h=>JN.mono h⟩
theorem JN.le{w:World}{d d':Nat}(h:d<=d'){o:Ob}{t:Tr}(k:JN w d o t):JN w d' o t:=by
 induction h with
 |refl=>exact k
 |step _ ih=>exact ih.mono
def NZ (w:World)(s:AA)(ts:List Tr):Prop:=∃d L,OV w s L/\A3 (JN w d) L ts
def OX (w:World)(o:Ob)(t:Tr):Prop:=∃d,JN w d o t
theorem OX.AB{w w':World}{o:Ob}{t:Tr}(h:OX w o t)(he:Ext (fun _=>False) w w'):OX w' o t:=let ⟨d,h⟩:=h;⟨d,h.AB he⟩
theorem NZ.AB{w w':World}{s:AA}{ts:List Tr}(h:NZ w s ts)(he:Ext (fun _=>False) w w'):NZ w' s ts:=by
 obtain ⟨d,L,h1,h2⟩:=h;exact ⟨d,L,h1.AB he,h2.imp fun _ _ h=>h.AB he⟩
theorem NZ.len{w:World}{s:AA}{ts:List Tr}(h:NZ w s ts):s.len=ts.length:=by
 obtain ⟨d,L,h1,h2⟩:=h;rw[h1.1,h2.len]
theorem OX.of{w:World}{o:Ob}{t:Tr}(h1:o.1=t.k)(h2:o.2.1=t.n)(h3:o.2.2.1=t.g)(h4:o.2.2.2.1=t.s)(h5:KV w o.2.2.2.2.1 t.ks)(h6:NZ w o.2.2.2.2.2 t.kids):OX w o t:=by
 obtain ⟨d,L,k1,k2⟩:=h6;exact ⟨d+1,⟨h1,h2,h3,h4⟩,h5,L,k1,k2⟩
theorem OX.out{w:World}{o:Ob}{t:Tr}(h:OX w o t):(o.1=t.k/\o.2.1=t.n/\o.2.2.1=t.g/\o.2.2.2.1=t.s)/\KV w o.2.2.2.2.1 t.ks/\NZ w o.2.2.2.2.2 t.kids:=by
 obtain ⟨d,h⟩:=h;cases d with
 |zero=>exact h.elim
 |succ d=>exact ⟨h.1,h.2.1,d,h.2.2⟩
structure Us where
 n:Bool
 g:Bool
 s:Bool
 ks:Bool
 kids:Bool
def CN (k:Int):Option Us:=
 if k=0 then some ⟨false,false,false,false,false⟩else if k=1\/k=2\/k=3 then some ⟨true,false,false,false,false⟩else if k=4\/k=5 then some ⟨false,false,true,false,false⟩
 else if k=6 then some ⟨false,false,false,false,true⟩else if k=7 then some ⟨false,false,false,true,true⟩else if k=8 then some ⟨true,true,false,false,false⟩else if k=9 then some ⟨false,false,true,true,true⟩else none
def Dz (s:ByteArray):Bool:=decide (s.size<=127)&& !s.data.toList.contains 0
def Xg:Option ByteArray->ByteArray->Bool
 |some p,k=>Op.bytesLess p.toList k.toList
 |none,_=>true
def F3 (Km:Bool):Option ByteArray->List ByteArray->List Tr->Bool
 |_,[],[]=>true
 |prev,k::ks,x::xs=>Dz k&&Xg prev k&& !(Km&&(k.toList==(⟨#[76,101,110,103,116,104]⟩:cI).toList))&&decide (x.k≠0)&&F3 Km (some k) ks xs
 |_,_,_=>false
def Jq (t:Tr):Bool:=F3 (decide (t.k=9)) none t.ks t.kids
def Bj (t:Tr):Bool:=
 if t.k=1 then decide (0<=t.n/\t.n<=1)else if t.k=2 then decide (-2147483647<=t.n/\t.n<=2147483647)else if t.k=3 then decide (-1073741824<=t.n/\t.n<=1073741824)
 else if t.k=8 then decide (1<=t.n/\t.n<=8191)&&decide (0<=t.g/\t.g<=65535)else true
def Ql (t:Tr):Bool:=if t.k=4 then decide (t.s.size<=32767)else if t.k=5 then decide (t.s.size<=127)else decide (t.s.size<=1048576)
def EU (deep:Int)(t:Tr)(u:Us):Bool:=(u.n||(t.n==0))&&(u.g||(t.g==0))&&(u.s||(t.s.toList==(⟨#[]⟩:cI).toList))&&(u.ks||(((t.ks.length:Nat):Int)==0))&&(u.kids||(((t.kids.length:Nat):Int)==0))&&((deep==1)||(t.k !=9))
def Ey (t:Tr)(u:Us):Bool:=Bj t&&Ql t&&decide (((t.kids.length:Nat):Int)<=8191)&&((t.k !=5)||Dz t.s)&&(!u.ks||Jq t)
def A6 (deep:Int)(t:Tr):Bool:=decide (deep<=24)&&(match CN t.k with
 |none=>false
 |some u=>EU deep t u&&Ey t u)
mutual
def Cq (deep:Int):Tr->Bool
 | .mk k n g s ks kids=>A6 deep (.mk k n g s ks kids)&&SG (deep+1) kids
def SG (deep:Int):List Tr->Bool
 |[]=>true
 |t::r=>Cq deep t&&SG deep r
end
theorem DK (deep:Int)(t:Tr):Cq deep t=(A6 deep t&&SG (deep+1) t.kids):=by
 cases t;rw[Cq]
 rfl
theorem GZ {deep:Int}:∀{l:List Tr},SG deep l=true↔∀t∈l,Cq deep t=true
 |[]=>by simp[SG]
 |t::r=>by
  rw[SG,aj,GZ];simp
end Vl
set_option maxRecDepth 8000
set_option maxHeartbeats 4000000
namespace Wt
open Sh Fix Tk Tl
structure Pt where
 t:By
 k:Int
 n:Int
 s:ByteArray
def Pt.tok(p:Pt)(x b:Int):TT:=(p.k,x,b,p.n,p.s)
structure JA (p:Pt):Prop where
 ne:p.t≠[]
 ws:IU (p.t.headD 0)=false
 rm:p.t.headD 0≠37
 k0:p.k≠0
 lex:∀(s:ByteArray) (a b:Nat) (rest:By),a<=s.size->s.size<=1099511627776->a+Ag ((bl s).drop a) false=b->(bl s).drop b=p.t++rest->((Ae (p.t.getLastD 0)=true\/p.t.getLastD 0=47)->∀c,rest.head?=some c->Ae c=false)->
  ∀w,Qr s (a:Int) w fun r e w1=>r=p.tok (b:Int) ((b+p.t.length:Nat):Int)/\e=0/\Ext (fun _=>False) w w1
inductive D3 (s:ByteArray):Nat->List Pt->Nat->Prop where
 |nil {a:Nat} (ha:a<=s.size):D3 s a [] a
 |cons {a x b c:Nat} {p:Pt} {ps:List Pt} (ha:a<=s.size) (h:∀w,Qr s (a:Int) w fun r e w1=>r=p.tok (x:Int) (b:Int)/\e=0/\Ext (fun _=>False) w w1) (k0:p.k≠0) (k:D3 s b ps c):D3 s a (p::ps) c
theorem D3.le{s:ByteArray}{a c:Nat}{ps:List Pt}(h:D3 s a ps c):a<=s.size/\c<=s.size:=by
 induction h with
 |nil ha=>exact ⟨ha,ha⟩
 |cons ha _ _ _ ih=>exact ⟨ha,ih.2⟩
theorem D3.split{s:ByteArray}:∀{ps qs:List Pt} {a c:Nat},D3 s a (ps++qs) c->∃b,D3 s a ps b/\D3 s b qs c
 |[],qs,a,c,h=>⟨a,.nil h.le.1,h⟩
 |p::ps,qs,a,c,.cons ha h k0 k=>by
  obtain ⟨b,h1,h2⟩:=D3.split k;exact ⟨b,.cons ha h k0 h1,h2⟩
theorem Oi {last:UInt8}{r:List Pt}{rest:By}(hp:∀p∈r,JA p)(hl:Ae last=true\/last=47)(hr:∀c,rest.head?=some c->Ae c=false):∀c,(AZ last (r.map (·.t))++rest).head?=some c->Ae c=false:=by
 intro c hc;cases r with
 |nil=>exact hr c hc
 |cons q r=>
  have hq:=(hp q (ax ..)).ne;rw[aC,join_cons last hq]at hc;by_cases h2:Ae (q.t.headD 0)=true
  ·rw[aD ⟨hl,h2⟩]at hc;simp only[ag,ae,List.head?_cons,bw]at hc;subst hc;decide
  ·rw[az fun h=>h2 h.2]at hc;cases hqt:q.t with
   |nil=>exact absurd hqt hq
   |cons d tl=>
    rw[hqt]at hc h2;simp only[ae,ag,aO,List.head?_cons,bw]at hc;subst hc;simpa using h2
theorem SQ {s:ByteArray}(hs:s.size<=1099511627776){rest:By}(hr:∀c,rest.head?=some c->Ae c=false):∀(ps:List Pt) (last:UInt8) (a:Nat),(∀p∈ps,JA p)->a<=s.size->(bl s).drop a=AZ last (ps.map (·.t))++rest->
  ∃c,D3 s a ps c/\(bl s).drop c=rest
 |[],last,a,_,ha,hd=>⟨a,.nil ha,hd⟩
 |p::r,last,a,hp,ha,hd=>by
  have Va:=hp p (ax ..);have hpr:∀q∈r,JA q:=fun q hq=>hp q (ay _ hq)
  rw[aC,join_cons last Va.ne]at hd;obtain ⟨d,tl,IY⟩:∃d tl,p.t=d::tl:=by
   cases IY:p.t with
   |nil=>exact absurd IY Va.ne
   |cons d tl=>exact ⟨d,tl,rfl⟩
  have hw:IU d=false:=by simpa[IY]using Va.ws
  have hm:d≠37:=by simpa[IY]using Va.rm
  have key:∃b,a+Ag ((bl s).drop a) false=b/\(bl s).drop b=p.t++(AZ (p.t.getLastD 0) (r.map (·.t))++rest):=by
   by_cases h:(Ae last=true\/last=47)/\Ae (p.t.headD 0)=true
   ·rw[aD h]at hd;have h2:Ae d=true:=by simpa[IY]using h.2
    refine ⟨a+1,?_,?_⟩
    ·rw[hd,IY];simp only[ag,ae,aO];rw[nf h2]
    ·rw[<-bc,hd];simp
   ·rw[az h]at hd;refine ⟨a,?_,?_⟩
    ·rw[hd,IY];simp only[ag,ae,aO];rw[Jc hw hm]
     rfl
    ·rw[hd];simp
  obtain ⟨b,hb,Yz⟩:=key;have hl:=Va.lex s a b _ ha hs hb Yz fun h=>Oi hpr h hr
  have Md:b+p.t.length<=s.size:=by
   have LY:=GV ha hb;have:=aq List.length Yz;rw[aM,ai,AE]at this;omega
  obtain ⟨c,h1,h2⟩:=SQ hs hr r (p.t.getLastD 0) (b+p.t.length) hpr Md (by rw[<-bc,Yz];exact Mn rfl);exact ⟨c,.cons ha hl Va.k0 h1,h2⟩
end Wt
namespace Tl
open Sh Fix Tk NR Go.Lib
theorem uF {c:UInt8}(h:Gq.contains c=true):EE c:=by
 unfold Gq at h;simp only[List.contains_cons,List.contains_nil,Bool.or_false,bI,bX]at h;unfold EE;rcases h with rfl|rfl|rfl|rfl|rfl|rfl|rfl|rfl|rfl|rfl<;>decide
theorem JR {l:By}(h:trimS l Gq=[]):Ax l:=fun c hc=>by
 cases hd:Gq.contains c with
 |true=>exact uF hd
 |false=>exact absurd h (R6 hc hd)
theorem fq {p:UInt8->Bool}:∀l:By,(l.dropWhile p).length<=l.length
 |[]=>aB _
 |c::l=>by
  rw[b7];have:=fq (p:=p) l;split
  ·rw[ar];omega
  ·exact aB _
def Gr (T:By):Int:=
 if T.length-(trimLeftS T [43,45]).length<=1/\trimLeftS T [43,45]≠[]/\trimS (trimLeftS T [43,45]) Gq=[]then 1 else if T.contains 46=true then 2 else 0
def IQ (T:By):By:=if hasPrefix T [45]=true\/hasPrefix T [43]=true then T.drop 1 else T
def Nb (T F:By):Bool:=
 if hasPrefix T [45]=true then !(Op.bytesLess (trimRightS ((F++ER).drop 4) [48]) [53]||decide (trimRightS ((F++ER).drop 4) [48]=[53]))else !(Op.bytesLess (trimRightS ((F++ER).drop 4) [48]) [53])
def FL (T W F:By):Int:=
 if W++F=[]then 3 else if trimS W Gq≠[]then 3 else if trimS F Gq≠[]then 3 else if 1073741824<AU W then 2
 else if 1073741824<AU W*10^4+AU ((F++ER).take 4)+(if Nb T F=true then 1 else 0)then 2 else 0
def fr (T:By):Int:=if 40<T.length then 3 else FL T ((IQ T).takeWhile (· !=46)) (((IQ T).dropWhile (· !=46)).drop 1)
def Cw (T:By):Bool:=decide (T≠[])&&T.all Ae&&decide (T.length<=127)&&decide (Gr T≠1)&&(decide (Gr T≠2)||(decide (fr T≠0)&&decide (fr T≠2)))
theorem uG {l:By}(h:(46:UInt8)∈l):l=l.takeWhile (· !=46)++46::(l.dropWhile (· !=46)).drop 1/\∀c∈l.takeWhile (· !=46),c≠46:=by
 induction l with
 |nil=>cases h
 |cons c l ih=>
  by_cases hc:c=46
  ·subst hc;simp
  ·have hb:(c !=46)=true:=by simpa using hc
   have hm:(46:UInt8)∈l:=by
    rcases aw.1 h with e|e
    ·exact absurd e.symm hc
    ·exact e
   obtain ⟨h1,h2⟩:=ih hm;rw[List.takeWhile_cons,b7,aD hb,aD hb];refine ⟨by rw[ag,<-h1],fun x hx=>?_⟩;rcases aw.1 hx with rfl|hx
   ·exact hc
   ·exact h2 x hx
section
variable {w0 w v Da D8 DV:World} {s t T0 FB Cp:ByteArray} {W F:By}
attribute [local irreducible] Ld Sh.St Nw Nn Lt AP
theorem lq (t:ByteArray)(hs:t.size<=1099511627776)(w:World):dI t w fun r w1=>r=Gr (bl t)/\Ext (fun _=>False) w w1:=by
 refine re _ _ _ ?_;unfold kg;have tail:∀v,Ext (fun _=>False) w v->¬((bl t).length-(trimLeftS (bl t) [43,45]).length<=1/\trimLeftS (bl t) [43,45]≠[]/\trimS (trimLeftS (bl t) [43,45]) Gq=[])->
   dH t (⟨#[46]⟩:cI) v fun r8 v9=>Br r8 ((2:Int)=Gr (bl t)/\Ext (fun _=>False) w v9) ((0:Int)=Gr (bl t)/\Ext (fun _=>False) w v9):=fun v e hn=>by
  refine (ft t 46 v).mono ?_;rintro r8 v9 ⟨rfl,rfl⟩;unfold Gr;rw[az hn];exact BD (fun h=>⟨by rw[aD h],e⟩) fun h=>⟨by rw[az (by rw[h];decide)],e⟩
 refine (F5 t w).mono ?_;rintro r w2 ⟨hr,e2⟩;have hle:r.size<=t.size:=by
  rw[<-AE,<-AE,hr];exact fq _
 have pJ:r.size=(trimLeftS (bl t) [43,45]).length:=by rw[<-AE,hr]
 have OY:t.size=(bl t).length:=(AE t).symm;rw[AG (by omega)];refine Br.dec (fun q=>?_) fun q=>tail w2 e2 fun h=>by have:=h.1;omega
 rw[WV];refine BD (fun q2=>?_) fun q2=>tail w2 e2 fun h=>?_
 ·have Bg:bl r≠[]:=by simpa using q2
  refine (IS r (by omega) w2).mono ?_;rintro r6 w3 ⟨h6,e3⟩;rw[WV];refine Br.dec (fun q3=>?_) fun q3=>tail w3 (e2.tr e3) fun h=>q3 ?_
  ·have q3:bl r6=[]:=q3;refine ⟨?_,e2.tr e3⟩;unfold Gr;rw[aD ⟨by omega,by rw[<-hr];exact Bg,by rw[<-hr,<-h6];exact q3⟩]
  ·show bl r6=[];rw[h6,hr];exact h.2.2
 ·have q2:decide (bl r=[])=true:=by simpa using q2
  exact h.2.1 (by rw[<-hr];simpa using q2)
theorem fu (t:ByteArray)(hs:t.size<=1099511627776)(hc:Gr (bl t)=1)(w:World):kZ t w fun r e w1=>Ext (fun _=>False) w w1:=by
 have qY:trimLeftS (bl t) [43,45]≠[]/\trimS (trimLeftS (bl t) [43,45]) Gq=[]:=by
  unfold Gr at hc;split at hc
  ·rename_i h;exact h.2
  ·split at hc<;>simp at hc
 refine yg _ _ _ ?_;unfold rf;refine (F5 t w).mono ?_;rintro r w2 ⟨hr,e2⟩;have hd:=JR qY.2;rw[<-hr]at hd qY;have ht1:1<=t.size:=by
  rw[<-AE];have h1:(bl r).length<=(bl t).length:=by rw[hr];exact fq _
  have:=List.length_pos_iff.2 qY.1;omega
 have hrs:(bl r).length=r.size:=AE r;refine Nw.of ?_;have e3:=(Ext.refl (fun _=>False) w2).alloc (.stringIter r 0);refine ⟨fun c st v=>∃i:Nat,v.heap[w2.heap.size]?=some (.stringIter r i)/\i<=r.size/\c=r.size-i/\(0<=st/\st<=2147483648)/\Ext (fun _=>False) w v,r.size,⟨0,by unfold World.alloc;simp,by omega,rfl,by decide,e2.tr e3⟩,?_⟩;rintro c st v ⟨i,hit,hi,rfl,Qn,hE⟩;unfold Uf;have Qy:w2.heap.size<v.heap.size:=(au.1 hit).1;refine JT hit (fun c hc=>by have:=(hd c hc).2;omega) (by omega) (fun c hc=>?_) fun JU=>?_
 ·have R7:=hd c (aA hc);have h2:=R7.2;have hiD:=(ao.1 hc).1;rw[Em (by omega) (by omega) R7];refine Lt.of ⟨r.size-(i+1),by omega,i+1,F2 (s:=r) (p:=i+1) Qy,by omega,rfl,?_,?_⟩
  ·split<;>omega
  ·exact Ext.Cg hE (EC v w2.heap.size r (i+1)) fun j hj=>by have:=e2.size;have hj:j=_:=hj;omega
 ·exact BD (fun _=>hE) fun _=>⟨by decide,by omega,BD (fun _=>hE) fun _=>hE⟩
theorem P9 {x e:Int}{bn be:Nat}(h:RS w v bn be x e){Q:Int->Prop}(hq:Q e):Dd (some (⟨bn,0,none⟩:Addr)) (some (⟨be,0,none⟩:Addr)) none v fun v6=>Ld v6 (⟨bn,0,none⟩:Addr) (Value.int .i64) fun (x7:Int)=>Ld v6 (⟨be,0,none⟩:Addr) (Value.int .i64) fun (x8:Int)=>
  Q x8/\Ext (fun _=>False) w v6:=by
 refine PG _ _ _ _ ?_;unfold Hy;exact Ld.of h.n rfl (Ld.of h.e rfl ⟨hq,h.ext⟩)
end
end Tl
namespace Tl
open Sh Fix Tk NR Go.Lib
section
variable {w0 w v Da D8 DV:World} {s t T0 FB Cp:ByteArray} {W F:By} {neg:Bool}
attribute [local irreducible] Ld Sh.St Nw Nn Lt AP
theorem fv {x e:Int}(h:RS w v w.heap.size Da.heap.size x e){Q:Int->Prop}(hq:Q 2):OF w Da (fun r e w1=>Q e/\Ext (fun _=>False) w w1) (refused 2) v:=by
 unfold OF;refine RB _ _ 2 _ _ ?_;unfold Hw;refine Nn.of (h.Yk 0 fun v1 h1 _=>Nn.of (h1.xZ 2 fun v2 h2 _=>?_));refine Ld.of h2.n rfl ?_;refine Ld.of h2.e rfl ?_;exact ⟨hq,h2.ext⟩
theorem fw {x:Int}(neg:Bool)(hx:0<=x/\x<=100000000000000000)(h:RS w v w.heap.size Da.heap.size x 0){Q:Int->Prop}(hq:Q (if 1073741824<x then 2 else 0)):HC w Da neg (fun r e w1=>Q e/\Ext (fun _=>False) w w1) () v:=by
 unfold HC;have tail:∀(n:Int) (v1:World),(Dc n=true↔¬1073741824<x)->RS w v1 w.heap.size Da.heap.size n 0->Ld v1 (⟨w.heap.size,0,none⟩:Addr) (Value.int .i64) fun (RG:Int)=>
   Nw v1 (.cells #[.int .i64 RG] 2) fun fx=>
   nx (⟨some ⟨v1.heap.size,0,none⟩,1,1⟩:AA) fx (fun IT=>
    Ld IT (⟨w.heap.size,0,none⟩:Addr) (Value.int .i64) fun (CR:Int)=>
    Sh.St IT (⟨w.heap.size,0,none⟩:Addr) (.int .i64 CR) fun fy=>
    Sh.St fy (⟨Da.heap.size,0,none⟩:Addr) (.int .i64 0) fun fz=>
    Dd (some (⟨w.heap.size,0,none⟩:Addr)) (some (⟨Da.heap.size,0,none⟩:Addr)) none fz fun MY=>
     Ld MY (⟨w.heap.size,0,none⟩:Addr) (Value.int .i64) fun (IA:Int)=>
     Ld MY (⟨Da.heap.size,0,none⟩:Addr) (Value.int .i64) fun (Fy:Int)=>
     Q Fy/\Ext (fun _=>False) w MY) (OF w Da fun r e w1=>Q e/\Ext (fun _=>False) w w1):=by
  intro n v1 VG h1;refine Ld.of h1.n rfl ((Hn.start v1).nw (cs:=[.int .i64 n]) fun v2 H=>?_);have h2:=h1.AB H.ext;refine (GK (l:=[n]) (DQ.of (H.get 0 rfl) rfl fun i hi=>?_) (by simp)).mono (fun w3 h3=>?_) fun v w3 h3=>?_
  ·have:i=0:=by simp at hi;omega
   subst this;rfl
  ·obtain ⟨rfl,ha⟩:=h3;have hn:Dc n=true:=ha 0 (by simp);rw[az (VG.1 hn)]at hq;refine Ld.of h2.n rfl (h2.Yk n fun v4 h4 _=>h4.xZ 0 fun v5 h5 _=>P9 h5 hq)
  ·obtain ⟨rfl,rfl,ha⟩:=h3;have Kq:1073741824<x:=by
    by_cases hh:1073741824<x
    ·exact hh
    ·refine absurd (fun i hi=>?_) ha;have:i=0:=by simp at hi;omega
     subst this;exact VG.2 hh
   rw[aD Kq]at hq;exact fv h2 hq
 refine BD (fun _=>?_) fun _=>?_
 ·refine Ld.of h.n rfl ?_;rw[AG (n:=0-x) (by omega)];exact h.Yk (0-x) fun v1 h1 _=>tail _ v1 ⟨fun hh=>by have:=A2.1 hh;omega,fun hh=>A2.2 (by omega)⟩ h1
 ·exact tail _ v ⟨fun hh=>by have:=A2.1 hh;omega,fun hh=>A2.2 (by omega)⟩ h
theorem uH (hF:Ax F)(hFl:F.length<=40)(hW:AU W<=1073741824)(jx:W++F≠[])(xb:Ax W)(hr:bl Cp=F)(HV:neg=hasPrefix (bl T0) [45])(h:RS w DV w.heap.size Da.heap.size (AU W:Int) 0)(Gx:w.heap.size<DV.heap.size/\Da.heap.size<DV.heap.size):
  Nw DV (.stringIter ((Cp++(⟨#[48,48,48,48,48]⟩:cI)).extract 0 (((4:Int)).toNat)) 0) fun uI=>
   Lp (σ:=Unit) (Le w Da neg Cp DV fun r e w1=>e=FL (bl T0) W F/\Ext (fun _=>False) w w1) () uI:=by
 have hb:bl (Cp++(⟨#[48,48,48,48,48]⟩:cI))=F++ER:=by rw[DJ,hr];rfl
 have Az:Ax (F++ER):=fun c hc=>by
  rcases aS.1 hc with hc|hc
  ·exact hF c hc
  ·have:c=48:=by simpa[ER]using hc
   subst this;unfold EE;decide
 generalize hP:(F++ER).take 4=P;have hp:Ax P:=fun c hc=>Az c (by rw[<-hP]at hc;exact List.mem_of_mem_take hc)
 have Zv:P.length=4:=by
  rw[<-hP,aW,ai];show min 4 (_+5)=4;omega
 have hx:bl ((Cp++(⟨#[48,48,48,48,48]⟩:cI)).extract 0 (((4:Int)).toNat))=P:=by
  rw[A5,hb];exact hP
 have VH:(Cp++(⟨#[48,48,48,48,48]⟩:cI)).size=F.length+5:=by rw[<-AE,hb,ai];rfl
 have mx:IntKind.i64.max=9223372036854775807:=by decide
 generalize hS:(Cp++(⟨#[48,48,48,48,48]⟩:cI)).extract 0 (((4:Int)).toNat)=S at hx;have hS4:S.size=4:=by rw[<-AE,hx,Zv]
 have hPv:AU P<10000:=by
  have:=Ws hp;rw[Zv]at this;exact this
 refine Nw.of ?_;have e0:=(Ext.refl (fun _=>False) DV).alloc (.stringIter S 0);refine ⟨fun c st v=>∃i:Nat,v.heap[DV.heap.size]?=some (.stringIter S i)/\i<=4/\c=4-i/\RS w v w.heap.size Da.heap.size ((AU W*10^i+AU (P.take i):Nat):Int) 0,4,⟨0,by unfold World.alloc;simp,by omega,rfl,by simpa[AU]using h.AB e0⟩,?_⟩;rintro c st v ⟨i,hit,hi,rfl,hR⟩;unfold Le;have Qy:DV.heap.size<v.heap.size:=(au.1 hit).1;refine JT hit (by rw[hx];exact MZ hp) (by omega) (fun c hc=>?_) fun JU=>?_
 ·rw[hx]at hc;have hi4:i<4:=by
   have:=(ao.1 hc).1;omega
  have R7:=hp c (aA hc);have e1:=EC v DV.heap.size S (i+1);have VI:=F2 (s:=S) (p:=i+1) Qy;have R1:=hR.other e1 (by omega) (by omega) (by have:=h.ext.size;omega);have hbd:AU W*10^i+AU (P.take i)<=10000000000000:=by
   have a1:AU W*10^i<=AU W*10^3:=Nat.mul_le_mul_left _ (Nat.pow_le_pow_right (by decide) (by omega));have a2:=@BN P i;omega
  refine Ld.of R1.n rfl ?_;rw[Em (by omega) (by omega) R7];refine Lt.of (R1.Yk _ fun v2 R2 e2=>?_);refine ⟨4-(i+1),by omega,i+1,?_,by omega,rfl,?_⟩
  ·exact LF (p:=(S,i+1)) VI e2 (by show ¬DV.heap.size=w.heap.size;omega)
  ·have ev:(10*((AU W*10^i+AU (P.take i):Nat):Int)+((c.toNat-48:Nat):Int))=((AU W*10^(i+1)+AU (P.take (i+1)):Nat):Int):=by
    rw[En hc,Nat.pow_succ];have:AU W*(10^i*10)=10*(AU W*10^i):=by rw[Nat.mul_comm (10^i),<-Nat.mul_assoc,Nat.mul_comm (AU W),Nat.mul_assoc]
    omega
   rw[ev]at R2;exact R2
 ·have hi4:i=4:=by omega
  subst hi4;rw[bz (by omega)]at hR;rw[VH];refine ⟨by decide,by omega,Lt.of ?_⟩;refine (LH _ (by
   rw[<-AE,A5,hb,aW,aM,ai];show min _ (_+5-_)<=_;omega) v).mono ?_
  rintro r v1 ⟨N4,e1⟩;have R1:=hR.AB e1;have Nc:bl r=trimRightS ((F++ER).drop 4) [48]:=by
   rw[N4,A5,hb];have:List.take (F.length+5-Int.toNat 4) (List.drop (Int.toNat 4) (F++ER))=(F++ER).drop 4:=bz (by
    rw[aM,ai];show _+5-4<=_+5-4;omega)
   rw[this]
  have uJ:FL (bl T0) W F=if 1073741824<(((AU W*10^4+AU P:Nat):Int)+(if Nb (bl T0) F=true then 1 else 0))then 2 else 0:=by
   unfold FL;rw[az jx,az (by rw[Dp xb];simp),az (by rw[Dp hF];simp),az (by omega),hP];by_cases hu:Nb (bl T0) F=true
   ·rw[aD hu,aD hu];by_cases hh:1073741824<AU W*10^4+AU P+1
    ·rw[aD hh,aD (by omega)]
    ·rw[az hh,az (by omega)]
   ·rw[az hu,az hu];by_cases hh:1073741824<AU W*10^4+AU P+0
    ·rw[aD hh,aD (by omega)]
    ·rw[az hh,az (by omega)]
  have b1:Op.bytesLess r.toList (⟨#[53]⟩:cI).toList=Op.bytesLess (trimRightS ((F++ER).drop 4) [48]) [53]:=by rw[ByteArray.toList_eq,ByteArray.toList_eq,<-Nc]
  have b2:(r.toList==(⟨#[53]⟩:cI).toList)=decide (trimRightS ((F++ER).drop 4) [48]=[53]):=by rw[WV,<-Nc]
  have up:∀(v2:World),RS w v2 w.heap.size Da.heap.size ((AU W*10^4+AU P:Nat):Int) 0->Nb (bl T0) F=true->Ld v2 (⟨w.heap.size,0,none⟩:Addr) (Value.int .i64) fun (Lh:Int)=>
    Sh.St v2 (⟨w.heap.size,0,none⟩:Addr) (.int .i64 (wrap .i64 (Lh+1))) fun AA0=>HC w Da neg (fun r e w1=>e=FL (bl T0) W F/\Ext (fun _=>False) w w1) () AA0:=fun v2 R2 hu=>by
   refine Ld.of R2.n rfl ?_;rw[AG (by omega)];refine R2.Yk _ fun v3 R3 _=>?_
   exact fw (Q:=fun e=>e=FL (bl T0) W F) neg (by omega) R3 (by rw[uJ,aD hu])
  have no:Nb (bl T0) F=false->HC w Da neg (fun r e w1=>e=FL (bl T0) W F/\Ext (fun _=>False) w w1) () v1:=fun hu=>by
   exact fw (Q:=fun e=>e=FL (bl T0) W F) neg (by omega) R1 (by rw[uJ,hu,az (show ¬(false=true) by decide),Int.add_zero])
  rw[b1,b2];have hu:Nb (bl T0) F=(if neg=true then !(Op.bytesLess (trimRightS ((F++ER).drop 4) [48]) [53]||decide (trimRightS ((F++ER).drop 4) [48]=[53]))else !(Op.bytesLess (trimRightS ((F++ER).drop 4) [48]) [53])):=by rw[HV];rfl
  cases neg with
  |true=>
   rw[aD rfl]at hu;refine As.intro (Br.t rfl (Lt.of (BD (fun q=>up v1 R1 (hu.trans q)) fun q=>Br.f rfl (no (hu.trans q)))))
  |false=>
   rw[az (by decide)]at hu;refine As.intro (Br.f rfl (Br.t rfl (BD (fun q=>up v1 R1 (hu.trans q)) fun q=>no (hu.trans q))))
theorem uK (xb:Ax W)(hWl:W.length<=40)(hF:Ax F)(hFl:F.length<=40)(jx:W++F≠[])(F4:bl FB=W)(hr:bl Cp=F)(HV:neg=hasPrefix (bl T0) [45])(h:RS w D8 w.heap.size Da.heap.size 0 0)
  (Gx:w.heap.size<D8.heap.size/\Da.heap.size<D8.heap.size):
  Nw D8 (.stringIter FB 0) fun uL=>Lp (σ:=Unit) (Li w Da neg Cp D8 fun r e w1=>e=FL (bl T0) W F/\Ext (fun _=>False) w w1) () uL:=by
 have hs:FB.size=W.length:=by rw[<-AE,F4]
 have LC:Cp.size=F.length:=by rw[<-AE,hr]
 have mx:IntKind.i64.max=9223372036854775807:=by decide
 refine Nw.of ?_;have e0:=(Ext.refl (fun _=>False) D8).alloc (.stringIter FB 0);refine ⟨fun c st v=>∃i:Nat,v.heap[D8.heap.size]?=some (.stringIter FB i)/\i<=W.length/\c=W.length-i/\RS w v w.heap.size Da.heap.size ((AU (W.take i):Nat):Int) 0/\AU (W.take i)<=1073741824,W.length,⟨0,by unfold World.alloc;simp,by omega,rfl,h.AB e0,by simp[AU]⟩,?_⟩;rintro c st v ⟨i,hit,hi,rfl,hR,hle⟩;unfold Li;have Qy:D8.heap.size<v.heap.size:=(au.1 hit).1;refine JT hit (by rw[F4];exact MZ xb) (by omega) (fun c hc=>?_) fun JU=>?_
 ·rw[F4]at hc;have hiW:=(ao.1 hc).1;have R7:=xb c (aA hc);have e1:=EC v D8.heap.size FB (i+1);have VI:=F2 (s:=FB) (p:=i+1) Qy;have R1:=hR.other e1 (by omega) (by omega) (by have:=h.ext.size;omega);have a3:=@BN W (i+1);refine Ld.of R1.n rfl ?_;rw[Em (by omega) (by omega) R7];have ev:(10*((AU (W.take i):Nat):Int)+((c.toNat-48:Nat):Int))=((AU (W.take (i+1)):Nat):Int):=by
   rw[En hc];omega
  rw[ev];refine Lt.of (R1.Yk _ fun v2 R2 e2=>Ld.of R2.n rfl (Br.dec (fun q=>?_) fun q=>?_))
  ·refine R2.Yk 0 fun v3 R3 _=>R3.xZ 2 fun v4 R4 _=>P9 (Q:=fun e=>e=FL (bl T0) W F) R4 ?_
   unfold FL;rw[az jx,az (by rw[Dp xb];simp),az (by rw[Dp hF];simp),aD (by omega)]
  ·exact ⟨W.length-(i+1),by omega,i+1,LF (p:=(FB,i+1)) VI e2 (by show ¬D8.heap.size=w.heap.size;omega),by omega,rfl,R2,by omega⟩
 ·have hiW:i=W.length:=by omega
  subst hiW;rw[aP]at hR hle;have VH:(Cp++(⟨#[48,48,48,48,48]⟩:cI)).size=F.length+5:=by rw[<-AE,DJ,ai,hr];rfl
  rw[VH,LC];have z5:(⟨#[48,48,48,48,48]⟩:cI).size=5:=rfl;rw[z5];exact ⟨by omega,by decide,by omega,uH hF hFl hle jx xb hr HV hR ⟨by omega,by omega⟩⟩
theorem VJ (hs:bl s=W++46::F)(hW:∀c∈W,c≠46)(hl:s.size<=40)(HV:neg=hasPrefix (bl T0) [45])(hR:RS w v w.heap.size Da.heap.size 0 0)(Gx:w.heap.size<v.heap.size/\Da.heap.size<v.heap.size):
  Lj w Da neg (fun r e w1=>e=FL (bl T0) W F/\Ext (fun _=>False) w w1) s v:=by
 unfold Lj;have mx:IntKind.i64.max=9223372036854775807:=by decide
 have qW:s.size=W.length+1+F.length:=by rw[<-AE,hs,ai,ar];omega
 refine (pK hs hW (by omega) v).mono ?_;rintro FB Cp qf v1 ⟨h1,h2,rfl,e1⟩;have l1:FB.size=W.length:=by rw[<-AE,h1]
 have l2:Cp.size=F.length:=by rw[<-AE,h2]
 have R1:=hR.AB e1;have bad:∀(v2:World),RS w v2 w.heap.size Da.heap.size 0 0->FL (bl T0) W F=3->Sh.St v2 (⟨w.heap.size,0,none⟩:Addr) (.int .i64 0) fun ANB=>
   Sh.St ANB (⟨Da.heap.size,0,none⟩:Addr) (.int .i64 3) fun ANC=>
   Dd (some (⟨w.heap.size,0,none⟩:Addr)) (some (⟨Da.heap.size,0,none⟩:Addr)) none ANC fun uM=>
    Ld uM (⟨w.heap.size,0,none⟩:Addr) (Value.int .i64) fun (Gi:Int)=>
    Ld uM (⟨Da.heap.size,0,none⟩:Addr) (Value.int .i64) fun (Gj:Int)=>
    Gj=FL (bl T0) W F/\Ext (fun _=>False) w uM:=fun v2 R2 hq=>
  R2.Yk 0 fun v3 R3 _=>R3.xZ 3 fun v4 R4 _=>P9 (Q:=fun e=>e=FL (bl T0) W F) R4 hq.symm
 refine ⟨by rw[l1,l2];omega,?_⟩;rw[WV];refine Br.dec (fun q=>?_) fun q=>?_
 ·have q:bl (FB++Cp)=[]:=q;rw[DJ,h1,h2]at q;exact bad v1 R1 (by unfold FL;rw[aD q])
 have q:¬bl (FB++Cp)=[]:=q;rw[DJ,h1,h2]at q;refine (QA (by rw[l1];omega) v1).mono ?_;rintro r v2 ⟨rfl,e2⟩;rw[h1];have R2:=R1.AB e2;by_cases d1:trimS W Gq=[]
 ·rw[aI d1];refine Br.f rfl ((QA (by rw[l2];omega) v2).mono ?_);rintro r v3 ⟨rfl,e3⟩;rw[h2];by_cases d2:trimS F Gq=[]
  ·rw[aI d2];have E:=(e1.tr e2).tr e3;have:=E.size;exact Br.f rfl (uK (JR d1) (by omega) (JR d2) (by omega) q h1 h2 HV (R2.AB e3) ⟨by omega,by omega⟩)
  ·rw[aH d2];exact Br.t rfl (bad v3 (R2.AB e3) (by unfold FL;rw[az q,az (by rw[d1];simp),aD d2]))
 ·rw[aH d1];exact Br.t rfl (bad v2 R2 (by unfold FL;rw[az q,aD d1]))
theorem lr (t:ByteArray)(hm:(46:UInt8)∈bl t)(hs:t.size<=1099511627776)(w:World):kL t w fun r e w1=>e=fr (bl t)/\Ext (fun _=>False) w w1:=by
 refine yQ _ _ _ ?_;unfold kN;refine (Hn.start w).nw (cs:=[.int .i64 0]) fun w2 H=>?_
 have l12:w.heap.size<w2.heap.size:=H.lt 0 rfl;refine H.nw (cs:=[.int .i64 0]) fun w3 H=>?_
 have xc:w.heap.size<w3.heap.size:=H.lt 0 rfl;have xd:w2.heap.size<w3.heap.size:=H.lt 1 rfl;have R:RS w w3 w.heap.size w2.heap.size 0 0:=⟨H.get 0 rfl,H.get 1 rfl,by omega,by omega,by omega,H.ext⟩
 have Av:(bl t).length=t.size:=AE t;refine Br.dec (fun q=>?_) fun q=>?_
 ·refine R.Yk 0 fun v3 R3 _=>R3.xZ 3 fun v4 R4 _=>P9 (Q:=fun e=>e=fr (bl t)) R4 ?_
  unfold fr;rw[aD (by omega)]
 have e:fr (bl t)=FL (bl t) ((IQ (bl t)).takeWhile (· !=46)) (((IQ (bl t)).dropWhile (· !=46)).drop 1):=by
  unfold fr;rw[az (by omega)]
 rw[e];have hmu:(46:UInt8)∈IQ (bl t):=by
  unfold IQ;split
  ·rename_i hh;cases ht:bl t with
   |nil=>rw[ht]at hm;cases hm
   |cons c l=>
    rw[ht]at hm hh;rcases aw.1 hm with e|e
    ·subst e;rcases hh with hh|hh<;>exact absurd hh (by simp[hasPrefix,List.isPrefixOf])
    ·exact e
  ·exact hm
 obtain ⟨c1,c2⟩:=uG hmu;generalize (IQ (bl t)).takeWhile (· !=46)=W at c1 c2⊢;generalize ((IQ (bl t)).dropWhile (· !=46)).drop 1=F at c1 c2⊢;have hd:bl (t.extract (((1:Int)).toNat) t.size)=(bl t).drop 1:=by
  rw[A5];show List.take (t.size-1) ((bl t).drop 1)=(bl t).drop 1;exact bz (by rw[aM];omega)
 have ht1:1<=t.size:=by
  have:=List.length_pos_of_mem hm;omega
 have tw:(t.extract (((1:Int)).toNat) t.size).size<=40:=by
  rw[<-AE,hd,aM];omega
 refine (R8 t _ w3).mono ?_;rintro r v1 ⟨rfl,rfl⟩;refine As.intro (BD (fun hn=>?_) fun hn=>?_)
 ·have hn:hasPrefix (bl t) [45]=true:=hn;have hu:IQ (bl t)=(bl t).drop 1:=by unfold IQ;rw[aD (.inl hn)]
  exact ⟨by decide,by omega,VJ (by rw[hd,<-hu];exact c1) c2 tw rfl R ⟨xc,xd⟩⟩
 ·have hn:hasPrefix (bl t) [45]=false:=hn;refine (R8 t _ _).mono ?_;rintro r v1 ⟨rfl,rfl⟩;refine BD (fun hp=>?_) fun hp=>?_
  ·have hp:hasPrefix (bl t) [43]=true:=hp;have hu:IQ (bl t)=(bl t).drop 1:=by unfold IQ;rw[aD (.inr hp)]
   exact ⟨by decide,by omega,VJ (by rw[hd,<-hu];exact c1) c2 tw rfl R ⟨xc,xd⟩⟩
  ·have hp:hasPrefix (bl t) [43]=false:=hp;have hu:IQ (bl t)=bl t:=by unfold IQ;rw[az (by rw[hn,hp];simp)]
   exact VJ (by rw[<-hu];exact c1) c2 (by omega) rfl R ⟨xc,xd⟩
end
end Tl
namespace Tl
open Sh Fix Tk NR Go.Lib
theorem LJ (x:Int):∃c:UInt8,wrap .u8 x=(c.toNat:Int):=by
 have h:wrap .u8 x=x%256:=by
  unfold IntKind.wrap;simp[IntKind.signed,IntKind.bits]
 refine ⟨UInt8.ofNat (x%256).toNat,?_⟩;rw[h,bR];omega
def pL (w:World)(r:TT)(e:Int)(w1:World):Prop:=(e=0->r.1≠5)/\Ext (fun _=>False) w w1
section
variable {w0 w u v:World} {s t:ByteArray}
attribute [local irreducible] Ld Sh.St Nw Nn Lt AP
theorem Ch (e:Int)(w:World):Fk e w fun r e1 w1=>r=(0,0,0,0,⟨#[]⟩)/\e1=e/\Ext (fun _=>False) w w1:=by
 refine AFN _ _ _ ?_;unfold yU;refine (Hn.start w).nw (cs:=[.int .i64 0,.int .i64 0,.int .i64 0,.int .i64 0,.string ⟨#[]⟩]) fun w2 H=>?_
 simp only[ag,ae,add_lit,ah]at H⊢
 iterate 5 (refine H.st 0 rfl (by simp) fun _ H=>?_;simp only[aa,ab]at H)
 iterate 5 refine H.ld 0 rfl rfl ?_
 exact ⟨rfl,by trivial,H.ext⟩
theorem QC (x kind t0z Cf:Int)(t:ByteArray)(w:World):Ki (s,x) kind t0z t Cf w fun r e w1=>((((t.size:Nat):Int)<=Cf/\r=(kind,x,t0z,0,t)/\e=0)\/(¬((t.size:Nat):Int)<=Cf/\e=5))/\Ext (fun _=>False) w w1:=by
 by_cases h:((t.size:Nat):Int)<=Cf
 ·refine (VK x kind t0z Cf h w).mono ?_;rintro r e w1 ⟨h1,h2,h3⟩;exact ⟨.inl ⟨h,h1,h2⟩,h3⟩
 refine yW (s,x) _ _ _ _ _ _ ?_;unfold rN;refine (Hn.start w).nw (cs:=[.string s,.int .i64 x]) fun w2 H=>?_
 refine H.nw (cs:=[.int .i64 0,.int .i64 0,.int .i64 0,.int .i64 0,.string ⟨#[]⟩]) fun w3 H=>?_
 simp only[ag,ae,add_lit,ah]at H⊢;refine Br.dec (fun q=>(Ch 5 w3).mono ?_) fun q=>absurd q (by omega)
 rintro r e w4 ⟨rfl,rfl,he⟩;have H:=H.AB he
 iterate 5 (refine H.st 1 rfl (by simp) fun _ H=>?_;simp only[aa,ab]at H)
 iterate 5 refine H.ld 1 rfl rfl ?_
 exact ⟨.inr ⟨h,rfl⟩,H.ext⟩
theorem Wu {b:Nat}{T rest:By}(Bg:T≠[])(lu:∀c∈T,Ae c=true)(hd:(bl s).drop b=T++rest)(hr:∀c,rest.head?=some c->Ae c=false)(hb:b<=s.size)(hs:s.size<=1099511627776)(w:World):
  RQ (s,(b:Int)) w fun r e w1=>((Cw T=true/\r=(5,(b:Int),((b+T.length:Nat):Int),0,ba T)/\e=0)\/(Cw T=false/\(e=0->r.1≠5)))/\Ext (fun _=>False) w w1:=by
 refine ri (s,(b:Int)) _ _ ?_;unfold kh;refine (Hn.start w).nw (cs:=[.string s,.int .i64 (b:Int)]) fun w2 H=>?_
 refine H.nw (cs:=[.int .i64 0,.int .i64 0,.int .i64 0,.int .i64 0,.string ⟨#[]⟩]) fun w3 H=>?_
 simp only[ag,ae,add_lit,ah]at H⊢
 iterate 3 refine H.ld 0 rfl rfl ?_
 refine (R9 s _ hb hs w3).mono ?_;rintro r w4 ⟨Wv,e4⟩;rw[hd,F6 lu hr]at Wv;subst Wv;have H:=H.AB e4;have hTl:b+T.length<=s.size:=by
  have:=aq List.length hd;rw[aM,ai,AE]at this;omega
 iterate 2 refine H.ld 0 rfl rfl ?_
 have hx:bl (s.extract ((b:Int)).toNat (((b+T.length:Nat):Int)).toNat)=T:=by
  rw[A5,aF,aF,hd,show b+T.length-b=T.length by omega];simp
 refine ⟨by omega,by omega,by omega,by omega,?_⟩;generalize s.extract ((b:Int)).toNat (((b+T.length:Nat):Int)).toNat=x at hx⊢;have hxs:x.size=T.length:=by rw[<-AE,hx]
 have hxe:x=ba T:=Ci (by rw[hx,BB]);have Az:T.all Ae=true:=aJ.2 lu

 have tell:∀(v:World),Hn w v [(w.heap.size,[.string s,.int .i64 (b:Int)],173),(w2.heap.size,[.int .i64 0,.int .i64 0,.int .i64 0,.int .i64 0,.string ⟨#[]⟩],114)]->Gr T≠1->(Gr T=2->fr T≠0/\fr T≠2)->
   Ld v (⟨w.heap.size,0,none⟩:Addr) Value.string fun (PZ:ByteArray)=>Ld v (⟨w.heap.size,1,none⟩:Addr) (Value.int .i64) fun (Ny:Int)=>
   Ki (PZ,Ny) 5 ((b+T.length:Nat):Int) x 127 v fun Eg F0 F7=>
    Sh.St F7 (⟨w2.heap.size,0,none⟩:Addr) (.int .i64 (Eg.1)) fun Eo=>
    Sh.St Eo (⟨w2.heap.size,1,none⟩:Addr) (.int .i64 (Eg.2.1)) fun Ep=>
    Sh.St Ep (⟨w2.heap.size,2,none⟩:Addr) (.int .i64 (Eg.2.2.1)) fun Er=>
    Sh.St Er (⟨w2.heap.size,3,none⟩:Addr) (.int .i64 (Eg.2.2.2.1)) fun Es=>
    Sh.St Es (⟨w2.heap.size,4,none⟩:Addr) (.string Eg.2.2.2.2) fun Aa=>
    Ld Aa (⟨w2.heap.size,0,none⟩:Addr) (Value.int .i64) fun (Cu:Int)=>
    Ld Aa (⟨w2.heap.size,1,none⟩:Addr) (Value.int .i64) fun (EO:Int)=>
    Ld Aa (⟨w2.heap.size,2,none⟩:Addr) (Value.int .i64) fun (CR:Int)=>
    Ld Aa (⟨w2.heap.size,3,none⟩:Addr) (Value.int .i64) fun (Ce:Int)=>
    Ld Aa (⟨w2.heap.size,4,none⟩:Addr) Value.string fun (Dj:ByteArray)=>
    ((Cw T=true/\((Cu,EO,CR,Ce,Dj):TT)=(5,(b:Int),((b+T.length:Nat):Int),0,ba T)/\F0=0)\/(Cw T=false/\(F0=0->Cu≠5)))/\Ext (fun _=>False) w Aa:=by
  intro v H qY RD
  iterate 2 refine H.ld 0 rfl rfl ?_
  refine (QC _ _ _ _ _ v).mono ?_;rintro r e v1 ⟨hq,he⟩;have H:=H.AB he
  iterate 5 (refine H.st 1 rfl (by simp) fun _ H=>?_;simp only[aa,ab]at H)
  iterate 5 refine H.ld 1 rfl rfl ?_
  refine ⟨?_,H.ext⟩;rcases hq with ⟨hl,rfl,rfl⟩|⟨hl,rfl⟩
  ·refine .inl ⟨?_,by rw[hxe],rfl⟩;unfold Cw;rw[aI Bg,Az,aI (show T.length<=127 by omega),aI qY];by_cases h2:Gr T=2
   ·rw[aI (RD h2).1,aI (RD h2).2];simp
   ·rw[aI h2];simp
  ·refine .inr ⟨?_,fun h=>absurd h (by decide)⟩;unfold Cw;rw[aH (show ¬T.length<=127 by omega)];simp
 refine (lq x (by omega) w4).mono ?_;rintro r w5 ⟨rfl,e5⟩;rw[hx];have H:=H.AB e5;have no1:Gr T=1->Cw T=false:=fun h=>by
  unfold Cw;rw[aH (show ¬Gr T≠1 from fun q=>q h)];simp
 refine Br.eq (fun hc=>?_) fun hc=>Br.eq (fun RD=>?_) fun RD=>?_
 ·refine (fu x (by omega) (by rw[hx];exact hc) w5).mono ?_;rintro r57 I2 w6 e6;have H:=H.AB e6;refine Br.ne (fun Bg=>(Ch I2 w6).mono ?_) fun h0=>H.ld 0 rfl rfl ?_
  ·rintro r e w7 ⟨rfl,rfl,e7⟩;have H:=H.AB e7
   iterate 5 (refine H.st 1 rfl (by simp) fun _ H=>?_;simp only[aa,ab]at H)
   iterate 5 refine H.ld 1 rfl rfl ?_
   exact ⟨.inr ⟨no1 hc,fun h=>absurd h Bg⟩,H.ext⟩
  ·iterate 5 (refine H.st 1 rfl (by simp) fun _ H=>?_;simp only[aa,ab]at H)
   iterate 5 refine H.ld 1 rfl rfl ?_
   exact ⟨.inr ⟨no1 hc,fun _=>by decide⟩,H.ext⟩
 ·have hm:(46:UInt8)∈bl x:=by
   rw[hx];unfold Gr at RD;split at RD
   ·cases RD
   ·split at RD
    ·rename_i h;exact aY.1 h
    ·cases RD
  refine (lr x hm (by omega) w5).mono ?_;rintro r84 RW w6 ⟨rfl,e6⟩;rw[hx];have H:=H.AB e6;have no2:fr T=0\/fr T=2->Cw T=false:=fun h=>by
   unfold Cw;rw[aH (show ¬Gr T≠2 from fun q=>q RD)];rcases h with h|h<;>simp[h]
  refine Br.eq (fun h0=>H.ld 0 rfl rfl ?_) fun h0=>Br.eq (fun h2=>(Ch _ w6).mono ?_) fun h2=>?_
  ·iterate 5 (refine H.st 1 rfl (by simp) fun _ H=>?_;simp only[aa,ab]at H)
   iterate 5 refine H.ld 1 rfl rfl ?_
   exact ⟨.inr ⟨no2 (.inl h0),fun _=>by decide⟩,H.ext⟩
  ·rintro r e w7 ⟨rfl,rfl,e7⟩;have H:=H.AB e7
   iterate 5 (refine H.st 1 rfl (by simp) fun _ H=>?_;simp only[aa,ab]at H)
   iterate 5 refine H.ld 1 rfl rfl ?_
   exact ⟨.inr ⟨no2 (.inr h2),fun h=>absurd h h0⟩,H.ext⟩
  ·exact tell w6 H (by omega) fun _=>⟨h0,h2⟩
 ·exact tell w5 H hc fun h=>absurd h RD
theorem gA {b:Nat}{T rest:By}(h:Cw T=true)(hd:(bl s).drop b=T++rest)(hr:∀c,rest.head?=some c->Ae c=false)(hb:b<=s.size)(hs:s.size<=1099511627776)(w:World):
  RQ (s,(b:Int)) w fun r e w1=>r=(5,(b:Int),((b+T.length:Nat):Int),0,ba T)/\e=0/\Ext (fun _=>False) w w1:=by
 have h':=h;unfold Cw at h';simp only[aj,bu]at h';refine (Wu h'.1.1.1.1 (aJ.1 h'.1.1.1.2) hd hr hb hs w).mono ?_;rintro r e w1 ⟨hq|hq,he⟩
 ·exact ⟨hq.2.1,hq.2.2,he⟩
 ·rw[h]at hq;cases hq.1
end
end Tl
namespace Tl
open Sh Fix Tk NR Go.Lib
section
variable {w0 w u v:World} {s t:ByteArray}
attribute [local irreducible] Ld Sh.St Nw Nn Lt AP
theorem GS {x:Int}{m:Nat}{sl:AA}{l:By}{LL:List (Nat×List Value×TypeId)}(hx:∃c:UInt8,x=(c.toNat:Int))(hR:BL u sl l)(hl:l.length+1<=1099511627776)(ho:∀j,sl.own j->m<=j)(hm:m<=u.heap.size)(H:Hn w u LL)(hL:∀p∈LL.map (·.1),p<m)(hw:w.heap.size<=m)
  {K:AA->World->Prop} (k:∀Bh v' l',BL v' Bh l'->l'.length=l.length+1->(∀j,Bh.own j->m<=j)->Hn w v' LL->m<=v'.heap.size->K Bh v'):
  Nw u (.cells #[.int .u8 x] 5) fun Aa=>Rn Tryz.prog (Builtin.append_ #[76,76] 76 #[AA.v sl,AA.v ((⟨some ⟨u.heap.size,0,none⟩,1,1⟩:AA))]) Aa AA.v K:=by
 obtain ⟨c,rfl⟩:=hx;refine Nw.of ?_;have e1:Ext (fun _=>False) u (u.alloc (.cells (Ft [c]).toArray 5)):=(Ext.refl _ _).alloc _;obtain ⟨Bh,v',HA,LK,Nd,I3⟩:=K5 (ty:=76) (b:=c) (hR.AB e1 fun _ _ h=>h) (AO.new u (Ft [c]).toArray 5) hl;refine ⟨Bh,v',HA,k Bh v' (l++[c]) LK (by simp) ?_ ?_ ?_⟩
 ·intro j hj;rcases I3 j hj with h|h
  ·exact ho j h
  ·have:=e1.size;omega
 ·refine (H.AB e1).other Nd fun j hj=>?_
  have hj:=ho j hj;refine ⟨by omega,fun h=>?_⟩;have:=hL j h;omega
 ·have:=e1.size;have:=Nd.size;omega
theorem VL (c:UInt8)(w:World):YA (c.toNat:Int) w fun r w1=>(-1<=r/\r<=15)/\w1=w:=by
 refine y8 _ _ _ ?_;unfold sZ;have hc:=CM c;generalize c.toNat=m at hc;have lf:∀(a k:Int),0<=(m:Int)-a->(m:Int)-a+k<=15->0<=k->wrap .i64 (wrap .i64 (wrap .u8 ((m:Int)-a))+k)=(m:Int)-a+k:=fun a k h1 h2 h3=>by
  rw[G0 (by omega),AG (n:=(m:Int)-a) (by omega),AG (by omega)]
 have l0:∀(a:Int),0<=(m:Int)-a->(m:Int)-a<=15->wrap .i64 (wrap .u8 ((m:Int)-a))=(m:Int)-a:=fun a h1 h2=>by
  rw[G0 (by omega),AG (n:=(m:Int)-a) (by omega)]
 refine Br.dec (fun h1=>Br.dec (fun h2=>⟨?_,rfl⟩) fun h2=>?_) fun h1=>?_
 ·rw[l0 _ (by omega) (by omega)];omega
 all_goals
  repeat' first
   |refine Br.dec (fun _=>?_) fun _=>?_
   |exact ⟨by omega,rfl⟩
   |exact ⟨by rw[lf _ _ (by omega) (by omega) (by omega)];omega,rfl⟩
theorem gB (t:ByteArray)(ht:t.size=2)(w:World):kc t w fun r e w1=>(e=0->r.size=1)/\Ext (fun _=>False) w w1:=by
 refine y9 _ _ _ ?_;unfold se;rw[ht];refine Br.ne (fun q=>absurd (show Int.tmod ((2:Nat):Int) 2=0 by decide) q) fun _=>?_
 obtain ⟨r0,w0,Nc,hR0,uN,ho0⟩:=HW w 0 1 (by omega) (by omega);refine ⟨r0,w0,Nc,?_⟩;refine ⟨fun n st v=>(n=1/\st=(r0,0)/\v=w0)\/(n=0/\∃sl c,st=(sl,2)/\BL v sl [c]/\Ext (fun _=>False) w v),1,.inl ⟨rfl,rfl,rfl⟩,?_⟩;rintro n st v (⟨rfl,rfl,rfl⟩|⟨rfl,sl,c,rfl,hR,hE⟩)
 ·unfold MC;have l2:(bl t).length=2:=by rw[AE,ht]
  obtain ⟨x,y,hxy⟩:∃x y,bl t=[x,y]:=by
   match bl t,l2 with
   |[x,y],_=>exact ⟨x,y,rfl⟩
  have b0:Bf t 0=(x.toNat:Int):=AV (i:=0) (by rw[hxy];rfl);have b1:Bf t 1=(y.toNat:Int):=AV (i:=1) (by rw[hxy];rfl);have i1:wrap .i64 (0+1)=1:=by decide
  have i2:wrap .i64 (0+2)=2:=by decide
  dsimp only;rw[ht,i1,i2,b0,b1];refine Br.t rfl ⟨by decide,by omega,by decide,by omega,(VL x _).mono ?_⟩;rintro r7 v1 ⟨h7,rfl⟩;refine (VL y _).mono ?_;rintro r9 v1 ⟨h9,rfl⟩;refine Br.dec (fun q=>⟨fun h=>absurd h (by decide),uN.drew⟩) fun _=>Br.dec (fun q=>⟨fun h=>absurd h (by decide),uN.drew⟩) fun _=>Nw.of ?_
  obtain ⟨c,hc⟩:=LJ (wi .i64 (wrap .i64 (r7*2^4)) r9);rw[hc];have e1:Ext (fun _=>False) v.drew (v.drew.alloc (.cells (Ft [c]).toArray 5)):=(Ext.refl _ _).alloc _;have LK:BL v.drew r0 (List.replicate 0 0):=hR0.AB (Ext.refl (fun _=>False) v).drew fun _ _ h=>h
  obtain ⟨Bh,v',HA,LK,Nd,I3⟩:=K5 (ty:=76) (b:=c) (LK.AB e1 fun _ _ h=>h) (AO.new v.drew (Ft [c]).toArray 5) (by simp);exact ⟨Bh,v',HA,0,by omega,.inr ⟨rfl,Bh,c,rfl,LK,Ext.Cg (uN.drew.tr e1) Nd fun j hj=>ho0 j hj⟩⟩
 ·unfold MC;dsimp only;rw[ht];refine Br.f rfl ⟨_,_,CH hR,fun _=>?_,hE⟩;rw[<-AE,BB]
  rfl
abbrev HL (w w2:World)(s:ByteArray)(b:Nat):List (Nat×List Value×TypeId):=[(w.heap.size,[.string s,.int .i64 (b:Int)],173),(w2.heap.size,[.int .i64 0,.int .i64 0,.int .i64 0,.int .i64 0,.string ⟨#[]⟩],114)]
theorem uO {b:Nat}(hb:b<s.size)(hs:s.size<=1099511627776)(w:World):rL (s,(b:Int)) w (pL w):=by
 refine AFS (s,(b:Int)) _ _ ?_;unfold yX;refine (Hn.start w).nw (cs:=[.string s,.int .i64 (b:Int)]) fun w2 H=>?_
 refine H.nw (cs:=[.int .i64 0,.int .i64 0,.int .i64 0,.int .i64 0,.string ⟨#[]⟩]) fun w3 H=>?_
 simp only[ag,ae,add_lit,ah]at H⊢;have h23:w2.heap.size<w3.heap.size:=H.lt 1 rfl;have h13:w.heap.size<w3.heap.size:=H.lt 0 rfl;refine H.ld 0 rfl rfl ?_;rw[AG (by omega)];refine ⟨fun n st v=>∃(k:Nat) (hf:Int) (sl:AA) (l:By),st=(sl,hf,(k:Int))/\k<=s.size/\n=s.size-k/\BL v sl l/\l.length<=k/\(∀j,sl.own j->w3.heap.size<=j)/\Hn w v (HL w w2 s b)/\w3.heap.size<=v.heap.size,s.size-(b+1),
  ⟨b+1,-1,⟨none,0,0⟩,[],rfl,by omega,rfl,BL.nil _,by simp,(fun j hj=>by obtain ⟨a,ha,_⟩:=hj;cases ha),H,aB _⟩,?_⟩
 rintro n st v ⟨k,hf,sl,l,rfl,hk,rfl,hR,hl,ho,H,lv⟩;unfold dJ;have hLL:∀p∈(HL w w2 s b).map (·.1),p<w3.heap.size:=fun p hp=>by
  simp only[aC,br,aw,aG,bA]at hp;omega

 have tell:∀(v:World) (t:ByteArray) (t0z:Int),Hn w v (HL w w2 s b)->Ki (s,(b:Int)) 3 t0z t 32767 v fun r e F7=>
    Sh.St F7 (⟨w2.heap.size,0,none⟩:Addr) (.int .i64 (r.1)) fun Eo=>
    Sh.St Eo (⟨w2.heap.size,1,none⟩:Addr) (.int .i64 (r.2.1)) fun Ep=>
    Sh.St Ep (⟨w2.heap.size,2,none⟩:Addr) (.int .i64 (r.2.2.1)) fun Er=>
    Sh.St Er (⟨w2.heap.size,3,none⟩:Addr) (.int .i64 (r.2.2.2.1)) fun Es=>
    Sh.St Es (⟨w2.heap.size,4,none⟩:Addr) (.string r.2.2.2.2) fun Aa=>
    Ld Aa (⟨w2.heap.size,0,none⟩:Addr) (Value.int .i64) fun (Cu:Int)=>
    Ld Aa (⟨w2.heap.size,1,none⟩:Addr) (Value.int .i64) fun (EO:Int)=>
    Ld Aa (⟨w2.heap.size,2,none⟩:Addr) (Value.int .i64) fun (CR:Int)=>
    Ld Aa (⟨w2.heap.size,3,none⟩:Addr) (Value.int .i64) fun (Ce:Int)=>
    Ld Aa (⟨w2.heap.size,4,none⟩:Addr) Value.string fun (Dj:ByteArray)=>pL w (Cu,EO,CR,Ce,Dj) e Aa:=by
  intro v t t0z H;refine (QC _ _ _ _ _ v).mono ?_;rintro r e v1 ⟨hq,he⟩;have H:=H.AB he
  iterate 5 (refine H.st 1 rfl (by simp) fun _ H=>?_;simp only[aa,ab]at H)
  iterate 5 refine H.ld 1 rfl rfl ?_
  refine ⟨fun h=>?_,H.ext⟩;rcases hq with ⟨_,rfl,_⟩|⟨_,rfl⟩
  ·show (3:Int)≠5;decide
  ·exact absurd h (by decide)
 have bad:∀(v:World) (x:Int),x≠0->Hn w v (HL w w2 s b)->Fk x v fun r e F7=>
    Sh.St F7 (⟨w2.heap.size,0,none⟩:Addr) (.int .i64 (r.1)) fun Eo=>
    Sh.St Eo (⟨w2.heap.size,1,none⟩:Addr) (.int .i64 (r.2.1)) fun Ep=>
    Sh.St Ep (⟨w2.heap.size,2,none⟩:Addr) (.int .i64 (r.2.2.1)) fun Er=>
    Sh.St Er (⟨w2.heap.size,3,none⟩:Addr) (.int .i64 (r.2.2.2.1)) fun Es=>
    Sh.St Es (⟨w2.heap.size,4,none⟩:Addr) (.string r.2.2.2.2) fun Aa=>
    Ld Aa (⟨w2.heap.size,0,none⟩:Addr) (Value.int .i64) fun (Cu:Int)=>
    Ld Aa (⟨w2.heap.size,1,none⟩:Addr) (Value.int .i64) fun (EO:Int)=>
    Ld Aa (⟨w2.heap.size,2,none⟩:Addr) (Value.int .i64) fun (CR:Int)=>
    Ld Aa (⟨w2.heap.size,3,none⟩:Addr) (Value.int .i64) fun (Ce:Int)=>
    Ld Aa (⟨w2.heap.size,4,none⟩:Addr) Value.string fun (Dj:ByteArray)=>pL w (Cu,EO,CR,Ce,Dj) e Aa:=by
  intro v x hx H;refine (Ch x v).mono ?_;rintro r e v1 ⟨rfl,rfl,he⟩;have H:=H.AB he
  iterate 5 (refine H.st 1 rfl (by simp) fun _ H=>?_;simp only[aa,ab]at H)
  iterate 5 refine H.ld 1 rfl rfl ?_
  exact ⟨fun h=>absurd h hx,H.ext⟩
 dsimp only;refine H.ld 0 rfl rfl (Br.dec (fun q=>H.ld 0 rfl rfl ⟨by omega,q,?_⟩) fun q=>bad v 4 (by decide) H);have EZ:k<s.size:=by have q:(k:Int)<((s.size:Nat):Int):=q;omega
 have hc:=al (show k<(bl s).length by rw[AE];exact EZ);generalize (bl s)[k]'(by rw[AE];exact EZ)=c at hc;rw[AV hc];have ik:wrap .i64 ((k:Int)+1)=((k+1:Nat):Int):=by rw[AG (by omega)];rfl
 refine Br.eq (fun h62=>Br.dec (fun h0=>?_) fun h0=>?_) fun h62=>(VL c v).mono ?_
 ·refine GS (LJ _) hR (by omega) ho lv H hLL (by omega) fun Bh v' l' LK SA I3 H xe=>?_
  iterate 2 refine H.ld 0 rfl rfl ?_
  exact ⟨_,_,CH LK,tell _ _ _ H⟩
 ·iterate 2 refine H.ld 0 rfl rfl ?_
  exact ⟨_,_,CH hR,tell _ _ _ H⟩
 ·rintro UW v1 ⟨h126,rfl⟩;refine (GU c _).mono ?_;rintro r v2 ⟨rfl,rfl⟩;rw[ik];refine BD (fun hw=>?_) fun hw=>Br.dec (fun h0=>bad _ 3 (by decide) H) fun h0=>Br.dec (fun h1=>?_) fun h1=>?_
  ·exact ⟨s.size-(k+1),by omega,k+1,hf,sl,l,rfl,by omega,rfl,hR,by omega,ho,H,lv⟩
  ·exact ⟨s.size-(k+1),by omega,k+1,UW,sl,l,rfl,by omega,rfl,hR,by omega,ho,H,lv⟩
  ·refine GS (LJ _) hR (by omega) ho lv H hLL (by omega) fun Bh v' l' LK SA I3 H xe=>?_
   exact ⟨s.size-(k+1),by omega,k+1,-1,Bh,l',rfl,by omega,rfl,LK,by omega,I3,H,xe⟩
end
end Tl
namespace Tl
open Sh Fix Tk NR Go.Lib
theorem pM (c:UInt8):∀l:By,-1<=indexByte l c/\indexByte l c<(l.length:Int)
 |[]=>by simp[indexByte]
 |d::l=>by
  have:=pM c l;unfold indexByte;rw[ar];split
  ·omega
  ·split<;>omega
def AA5 (s:ByteArray)(i:Nat)(r:Int)(b:Bool):Prop:=(b=true/\∃k:Nat,r=(k:Int)/\i<k/\k<=s.size)\/(b=false/\r=(i:Int))
section
variable {w0 w w2 u v:World} {s t:ByteArray}
attribute [local irreducible] Ld Sh.St Nw Nn Lt AP
theorem pN {b:Nat}(kind t0z Cf:Int)(hk:kind≠5)(t:ByteArray)(H:Hn w v (HL w w2 s b)):Ki (s,(b:Int)) kind t0z t Cf v fun r e F7=>
    Sh.St F7 (⟨w2.heap.size,0,none⟩:Addr) (.int .i64 (r.1)) fun Eo=>
    Sh.St Eo (⟨w2.heap.size,1,none⟩:Addr) (.int .i64 (r.2.1)) fun Ep=>
    Sh.St Ep (⟨w2.heap.size,2,none⟩:Addr) (.int .i64 (r.2.2.1)) fun Er=>
    Sh.St Er (⟨w2.heap.size,3,none⟩:Addr) (.int .i64 (r.2.2.2.1)) fun Es=>
    Sh.St Es (⟨w2.heap.size,4,none⟩:Addr) (.string r.2.2.2.2) fun Aa=>
    Ld Aa (⟨w2.heap.size,0,none⟩:Addr) (Value.int .i64) fun (Cu:Int)=>
    Ld Aa (⟨w2.heap.size,1,none⟩:Addr) (Value.int .i64) fun (EO:Int)=>
    Ld Aa (⟨w2.heap.size,2,none⟩:Addr) (Value.int .i64) fun (CR:Int)=>
    Ld Aa (⟨w2.heap.size,3,none⟩:Addr) (Value.int .i64) fun (Ce:Int)=>
    Ld Aa (⟨w2.heap.size,4,none⟩:Addr) Value.string fun (Dj:ByteArray)=>pL w (Cu,EO,CR,Ce,Dj) e Aa:=by
 refine (QC _ _ _ _ _ v).mono ?_;rintro r e v1 ⟨hq,he⟩;have H:=H.AB he
 iterate 5 (refine H.st 1 rfl (by simp) fun _ H=>?_;simp only[aa,ab]at H)
 iterate 5 refine H.ld 1 rfl rfl ?_
 refine ⟨fun h=>?_,H.ext⟩;rcases hq with ⟨_,rfl,_⟩|⟨_,rfl⟩
 ·exact hk
 ·exact absurd h (by decide)
theorem gC {b:Nat}(x:Int)(hx:x≠0)(H:Hn w v (HL w w2 s b)):Fk x v fun r e F7=>
    Sh.St F7 (⟨w2.heap.size,0,none⟩:Addr) (.int .i64 (r.1)) fun Eo=>
    Sh.St Eo (⟨w2.heap.size,1,none⟩:Addr) (.int .i64 (r.2.1)) fun Ep=>
    Sh.St Ep (⟨w2.heap.size,2,none⟩:Addr) (.int .i64 (r.2.2.1)) fun Er=>
    Sh.St Er (⟨w2.heap.size,3,none⟩:Addr) (.int .i64 (r.2.2.2.1)) fun Es=>
    Sh.St Es (⟨w2.heap.size,4,none⟩:Addr) (.string r.2.2.2.2) fun Aa=>
    Ld Aa (⟨w2.heap.size,0,none⟩:Addr) (Value.int .i64) fun (Cu:Int)=>
    Ld Aa (⟨w2.heap.size,1,none⟩:Addr) (Value.int .i64) fun (EO:Int)=>
    Ld Aa (⟨w2.heap.size,2,none⟩:Addr) (Value.int .i64) fun (CR:Int)=>
    Ld Aa (⟨w2.heap.size,3,none⟩:Addr) (Value.int .i64) fun (Ce:Int)=>
    Ld Aa (⟨w2.heap.size,4,none⟩:Addr) Value.string fun (Dj:ByteArray)=>pL w (Cu,EO,CR,Ce,Dj) e Aa:=by
 refine (Ch x v).mono ?_;rintro r e v1 ⟨rfl,rfl,he⟩;have H:=H.AB he
 iterate 5 (refine H.st 1 rfl (by simp) fun _ H=>?_;simp only[aa,ab]at H)
 iterate 5 refine H.ld 1 rfl rfl ?_
 exact ⟨fun h=>absurd h hx,H.ext⟩
theorem lz {b:Nat}(hb:b<s.size)(hs:s.size<=1099511627776)(w:World):kW (s,(b:Int)) w (pL w):=by
 refine ya (s,(b:Int)) _ _ ?_;unfold rS;refine (Hn.start w).nw (cs:=[.string s,.int .i64 (b:Int)]) fun w2 H=>?_
 refine H.nw (cs:=[.int .i64 0,.int .i64 0,.int .i64 0,.int .i64 0,.string ⟨#[]⟩]) fun w3 H=>?_
 simp only[ag,ae,add_lit,ah]at H⊢;have h23:w2.heap.size<w3.heap.size:=H.lt 1 rfl;have h13:w.heap.size<w3.heap.size:=H.lt 0 rfl
 iterate 3 refine H.ld 0 rfl rfl ?_
 have ib:wrap .i64 (((b:Nat):Int)+1)=((b+1:Nat):Int):=by rw[AG (by omega)];rfl
 rw[ib];refine (R9 s _ (a:=b+1) (by omega) hs w3).mono ?_;rintro r w4 ⟨Wv,e4⟩;have pJ:=Ww ((bl s).drop (b+1));rw[aM,AE]at pJ;generalize Fs ((bl s).drop (b+1))=R0 at Wv pJ;subst Wv;have z4:=e4.size;have H:=H.AB e4;refine H.ld 0 rfl rfl ?_;rw[ib];refine ⟨fun n st v=>∃(k:Nat) (sl:AA) (l:By),st=(sl,(k:Int))/\k<=b+1+R0/\b+1<=k/\n=b+1+R0-k/\BL v sl l/\l.length<=k/\(∀j,sl.own j->w3.heap.size<=j)/\Hn w v (HL w w2 s b)/\w3.heap.size<=v.heap.size,R0,
  ⟨b+1,⟨none,0,0⟩,[],rfl,by omega,by omega,by omega,BL.nil _,by simp,(fun j hj=>by obtain ⟨a,ha,_⟩:=hj;cases ha),H,z4⟩,?_⟩
 rintro n st v ⟨k,sl,l,rfl,hk,SC,rfl,hR,hl,ho,H,lv⟩;unfold UZ;have hLL:∀p∈(HL w w2 s b).map (·.1),p<w3.heap.size:=fun p hp=>by
  simp only[aC,br,aw,aG,bA]at hp;omega
 dsimp only;refine Br.dec (fun q=>H.ld 0 rfl rfl ⟨by omega,by omega,?_⟩) fun q=>?_
 ·have EZ:k<s.size:=by omega
  have hc:=al (show k<(bl s).length by rw[AE];exact EZ);generalize (bl s)[k]'(by rw[AE];exact EZ)=c at hc;rw[AV hc];have i1:wrap .i64 ((k:Int)+1)=((k+1:Nat):Int):=by rw[AG (by omega)];rfl
  have i2:wrap .i64 ((k:Int)+2)=((k+2:Nat):Int):=by rw[AG (by omega)];rfl
  have i3:wrap .i64 ((k:Int)+3)=((k+3:Nat):Int):=by rw[AG (by omega)];rfl
  have i23:wrap .i64 (((k+2:Nat):Int)+1)=((k+3:Nat):Int):=by rw[AG (by omega)];rfl
  rw[i1,i2,i3,i23];refine Br.eq (fun h35=>Br.dec (fun q2=>gC 3 (by decide) H) fun q2=>H.ld 0 rfl rfl ⟨by omega,by omega,by omega,by omega,?_⟩) fun h35=>?_
  ·refine (gB _ ?_ v).mono ?_
   ·rw[<-AE,A5,aW,aM,AE];omega
   rintro n9 wk v1 ⟨h1,e1⟩;have H:=H.AB e1;have hR:=hR.AB e1 fun _ _ h=>h
   have z1:=e1.size;refine Br.ne (fun h0=>gC 3 (by decide) H) fun h0=>BD (fun h0'=>gC 3 (by decide) H) fun h0'=>?_
   have hz:=h1 h0;refine ⟨by decide,by omega,?_⟩;have hb1:∃c:UInt8,Bf n9 0=(c.toNat:Int):=by
    have hc:=al (show 0<(bl n9).length by rw[AE];omega);exact ⟨_,AV (i:=0) hc⟩
   refine GS hb1 hR (by omega) ho (by omega) H hLL (by omega) fun Bh v' l' LK SA I3 H xe=>?_
   exact ⟨b+1+R0-(k+3),by omega,k+3,Bh,l',rfl,by omega,by omega,rfl,LK,by omega,I3,H,xe⟩
  ·refine GS ⟨c,rfl⟩ hR (by omega) ho lv H hLL (by omega) fun Bh v' l' LK SA I3 H xe=>?_
   exact ⟨b+1+R0-(k+1),by omega,k+1,Bh,l',rfl,by omega,by omega,rfl,LK,by omega,I3,H,xe⟩
 ·iterate 2 refine H.ld 0 rfl rfl ?_
  exact ⟨_,_,CH hR,pN _ _ _ (by decide) _ H⟩
theorem l4 {a:Nat}(ha:a<s.size)(hs:s.size<=1099511627776)(w:World):dT s (a:Int) w fun r w1=>(∃k:Nat,r=(k:Int)/\a<k/\k<=s.size)/\Ext (fun _=>False) w w1:=by
 refine AGm _ _ _ _ ?_;unfold y7;refine Br.dec (fun q=>by omega) fun _=>Br.dec (fun q=>by omega) fun _=>?_
 refine ⟨fun n st v=>∃k:Nat,st=(k:Int)/\a<=k/\k<=s.size/\n=s.size-k/\Ext (fun _=>False) w v,s.size-a,⟨a,rfl,by omega,by omega,rfl,Ext.refl _ _⟩,?_⟩;rintro n st v ⟨k,rfl,hk,EZ,rfl,hE⟩;unfold dz;refine Br.dec (fun q=>⟨by omega,q,?_⟩) fun q=>⟨⟨s.size,rfl,by omega,by omega⟩,hE⟩
 have EZ:k<s.size:=by have q:(k:Int)<((s.size:Nat):Int):=q;omega
 have hc:=al (show k<(bl s).length by rw[AE];exact EZ);generalize (bl s)[k]'(by rw[AE];exact EZ)=c at hc;rw[AV hc];have i1:wrap .i64 ((k:Int)+1)=((k+1:Nat):Int):=by rw[AG (by omega)];rfl
 have i2:wrap .i64 ((k:Int)+2)=((k+2:Nat):Int):=by rw[AG (by omega)];rfl
 rw[i1,i2];refine Br.eq (fun _=>⟨⟨k+1,rfl,by omega,by omega⟩,hE⟩) fun _=>Br.eq (fun _=>(Et s _ (a:=k) (by omega) v).mono ?_) fun _=>?_
 ·rintro r v1 ⟨hr,rfl⟩;refine BD (fun h=>⟨⟨k+2,rfl,by omega,?_⟩,hE⟩) fun _=>⟨⟨k+1,rfl,by omega,by omega⟩,hE⟩
  rw[hr]at h;have hp:[(13:UInt8),10]<+:(bl s).drop k:=cf.1 h;have:=hp.length_le;rw[aM,AE]at this;have h2:[(13:UInt8),10].length=2:=rfl;omega
 ·exact ⟨s.size-(k+1),by omega,k+1,rfl,by omega,by omega,rfl,hE⟩
theorem gD {i:Nat}(x:Int)(hi:i<s.size)(hs:s.size<=1099511627776)(w:World):dG (s,x) (i:Int) w fun r b w1=>AA5 s i r b/\Ext (fun _=>False) w w1:=by
 refine yb (s,x) _ _ _ ?_;unfold rT;refine (Hn.start w).nw (cs:=[.string s,.int .i64 x]) fun w2 H=>?_
 simp only[ae,add_lit,ah]at H⊢;have line:∀(v:World),Hn w v [(w.heap.size,[.string s,.int .i64 x],173)]->dT s (i:Int) v fun r8 uP=>AA5 s i r8 true/\Ext (fun _=>False) w uP:=fun v H=>by
  refine (l4 hi hs v).mono ?_;rintro r v1 ⟨hk,e⟩;exact ⟨.inl ⟨rfl,hk⟩,H.ext.tr e⟩
 refine H.ld 0 rfl rfl ⟨by omega,by omega,?_⟩;refine Br.eq (fun q=>H.ld 0 rfl rfl (line _ H)) fun _=>?_
 refine H.ld 0 rfl rfl ⟨by omega,by omega,?_⟩;exact Br.eq (fun q=>H.ld 0 rfl rfl (line _ H)) fun _=>⟨.inr ⟨rfl,rfl⟩,H.ext⟩
theorem VM {i:Nat}(x:Int)(hi:i<s.size)(hs:s.size<=1099511627776)(w:World):kX (s,x) (i:Int) w fun r t0z w1=>(r.size<=1/\∃k:Nat,t0z=(k:Int)/\i<k/\k<=s.size)/\Ext (fun _=>False) w w1:=by
 refine yc (s,x) _ _ _ ?_;unfold rU;refine (Hn.start w).nw (cs:=[.string s,.int .i64 x]) fun w2 H=>?_
 simp only[ae,add_lit,ah]at H⊢;have i1:wrap .i64 ((i:Int)+1)=((i+1:Nat):Int):=by rw[AG (by omega)];rfl
 have i3:wrap .i64 ((i:Int)+3)=((i+3:Nat):Int):=by rw[AG (by omega)];rfl
 have hc:=al (show i<(bl s).length by rw[AE];exact hi);generalize (bl s)[i]'(by rw[AE];exact hi)=c at hc;refine H.ld 0 rfl rfl ⟨by omega,by omega,?_⟩;rw[AV hc];refine (KG _ c w2).mono ?_;rintro r9 w3 ⟨h9,rfl⟩;have hb9:=pM c (bl (⟨#[110,114,116,98,102]⟩:cI));rw[<-h9]at hb9;have h5:(bl (⟨#[110,114,116,98,102]⟩:cI)).length=5:=rfl;have h55:(⟨#[10,13,9,8,12]⟩:cI).size=5:=rfl;rw[i1];refine Br.dec (fun q=>?_) fun q=>?_
 ·rw[AG (n:=r9+1) (by omega),h55];refine ⟨by omega,by omega,by omega,by omega,Lt.of ⟨⟨?_,i+1,rfl,by omega,by omega⟩,H.ext⟩⟩;rw[<-AE,A5,aW];omega
 ·iterate 2 refine H.ld 0 rfl rfl ?_
  refine (gD x hi hs _).mono ?_;rintro r b w4 ⟨hq,e4⟩;have H:=H.AB e4;rcases hq with ⟨rfl,k,rfl,SC,cL⟩|⟨rfl,rfl⟩
  ·exact Br.t rfl ⟨⟨bD _,k,rfl,SC,cL⟩,H.ext⟩
  have J:∀(n:Int) (j:Nat),j<=3->i+j<=s.size->HI w (i:Int) (fun r t0z w1=>(r.size<=1/\∃k:Nat,t0z=(k:Int)/\i<k/\k<=s.size)/\Ext (fun _=>False) w w1) (n,((i+j:Nat):Int)) w4:=fun n j hj UE=>by
   unfold HI;dsimp only;refine Br.dec (fun q=>Nw.of ?_) fun q=>H.ld 0 rfl rfl ?_
   ·obtain ⟨d,hd⟩:=LJ n;rw[hd];have e1:Ext (fun _=>False) w4 (w4.alloc (.cells (Ft [d]).toArray 5)):=(Ext.refl _ _).alloc _;have R1:BL (w4.alloc (.cells (Ft [d]).toArray 5)) ⟨some ⟨w4.heap.size,0,none⟩,1,1⟩ [d]:=Row.new w4 (Ft [d]).toArray 5 1 1 rfl;exact ⟨_,_,CH R1,⟨by show (1:Nat)<=1;decide,i+j,rfl,by omega,UE⟩,(H.AB e1).ext⟩
   ·rw[i1];refine ⟨by omega,by omega,by omega,by omega,⟨?_,i+1,rfl,by omega,by omega⟩,H.ext⟩;rw[<-AE,A5,aW];omega
  refine Br.f rfl (As.intro ⟨fun m st v=>∃(n:Int) (j:Nat),j<=3/\i+j<=s.size/\m=3-j/\st=(n,((i+j:Nat):Int))/\v=w4,3,⟨0,0,by omega,by omega,rfl,rfl,rfl⟩,?_⟩);rintro m st v ⟨n,j,hj,UE,rfl,rfl,rfl⟩;unfold Pa;have J:=J n j hj UE;dsimp only;rw[i3];refine H.ld 0 rfl rfl (Br.dec (fun q1=>Br.dec (fun q2=>H.ld 0 rfl rfl ⟨by omega,q1,Br.dec (fun _=>H.ld 0 rfl rfl ⟨by omega,q1,Br.dec (fun _=>H.ld 0 rfl rfl ⟨by omega,q1,Lt.of ?_⟩) fun _=>J⟩) fun _=>J⟩) fun _=>J) fun _=>J);have q1:((i+j:Nat):Int)<((s.size:Nat):Int):=q1;have i4:wrap .i64 (((i+j:Nat):Int)+1)=((i+(j+1):Nat):Int):=by rw[AG (by omega)];rfl
  rw[i4];exact ⟨3-(j+1),by omega,_,j+1,by omega,by omega,rfl,rfl,rfl⟩
theorem l5 {b:Nat}(hb:b<s.size)(hs:s.size<=549755813888)(w:World):kY (s,(b:Int)) w (pL w):=by
 refine ye (s,(b:Int)) _ _ ?_;unfold rb;refine (Hn.start w).nw (cs:=[.string s,.int .i64 (b:Int)]) fun w2 H=>?_
 refine H.nw (cs:=[.int .i64 0,.int .i64 0,.int .i64 0,.int .i64 0,.string ⟨#[]⟩]) fun w3 H=>?_
 simp only[ag,ae,add_lit,ah]at H⊢;have h23:w2.heap.size<w3.heap.size:=H.lt 1 rfl;have h13:w.heap.size<w3.heap.size:=H.lt 0 rfl;have hw0:=H.size;refine Nw.of ?_;have e0:Ext (fun _=>False) w3 (w3.alloc (.cells #[.pointer none,AA.v ⟨none,0,0⟩] 78)):=(Ext.refl _ _).alloc _;have KE:=AO.new w3 #[.pointer none,AA.v ⟨none,0,0⟩] 78;generalize w3.alloc (.cells #[.pointer none,AA.v ⟨none,0,0⟩] 78)=w4 at e0 KE⊢;have B0:Bu w3 w4 w3.heap.size none ⟨none,0,0⟩ []:=⟨aB _,.inl rfl,KE,⟨rfl,.inl ⟨rfl,rfl⟩⟩⟩
 have H:=H.AB e0;have z4:=e0.size;refine H.ld 0 rfl rfl ?_;have ib:wrap .i64 (((b:Nat):Int)+1)=((b+1:Nat):Int):=by rw[AG (by omega)];rfl
 rw[ib];refine ⟨fun n st v=>∃(k:Nat) (op:Int) (p:Option Addr) (sl:AA) (l:By),st=(op,(k:Int))/\k<=s.size/\n=s.size-k/\Bu w3 v w3.heap.size p sl l/\l.length<=k/\w3.heap.size<=v.heap.size/\Hn w v (HL w w2 s b),s.size-(b+1),
  ⟨b+1,1,none,⟨none,0,0⟩,[],rfl,by omega,rfl,B0,by simp,z4,H⟩,?_⟩
 rintro n st v ⟨k,op,p,sl,l,rfl,hk,rfl,hB,hl,lv,H⟩;unfold Uc;have KH:∀{u u':World},Hn w u (HL w w2 s b)->Ext (fun j=>w3.heap.size<=j) u u'->Hn w u' (HL w w2 s b):=fun H e=>H.other e fun j hj=>by
  have hj:w3.heap.size<=j:=hj;refine ⟨by omega,?_⟩;simp only[aC,br,aw,aG,bA];omega
 dsimp only;refine H.ld 0 rfl rfl (Br.dec (fun q=>?_) fun q=>gC 4 (by decide) H);have EZ:k<s.size:=by have q:(k:Int)<((s.size:Nat):Int):=q;omega
 have i1:wrap .i64 ((k:Int)+1)=((k+1:Nat):Int):=by rw[AG (by omega)];rfl
 iterate 2 refine H.ld 0 rfl rfl ?_
 refine (gD _ EZ (by omega) v).mono ?_;rintro r bb v1 ⟨hq,e1⟩;have H:=H.AB e1;have hB:=hB.AB e1;have z1:=e1.size;rcases hq with ⟨rfl,k2,rfl,SC,cL⟩|⟨rfl,rfl⟩
 ·refine Br.t rfl ((EL (c:=10) hB (by omega)).mono ?_);rintro r v2 ⟨Tu,N5,hW⟩;exact ⟨s.size-k2,by omega,k2,op,_,Tu,_,rfl,cL,rfl,N5,by rw[ai];show l.length+1<=k2;omega,by have:=hW.ext.size;omega,KH H hW.ext⟩

 have J:∀(op:Int),Lv w w2 w3 (fun st v=>∃n',n'<s.size-k/\∃(k:Nat) (op:Int) (p:Option Addr) (sl:AA) (l:By),st=(op,(k:Int))/\k<=s.size/\n'=s.size-k/\Bu w3 v w3.heap.size p sl l/\l.length<=k/\w3.heap.size<=v.heap.size/\Hn w v (HL w w2 s b)) (pL w) (op,(k:Int)) v1:=fun op=>by
  unfold Lv;dsimp only;rw[i1];refine BD (fun _=>?_) fun _=>H.ld 0 rfl rfl ⟨by omega,by omega,?_⟩
  ·refine ⟨fun u=>Hn w u (HL w w2 s b),H.drew,?_⟩;refine AP.of (fun u hu=>hu.get 0 rfl) rfl (AP.of (fun u hu=>hu.get 0 rfl) rfl ?_);refine (JD (hB.AB (Ext.refl (fun _=>False) v1).drew) (by show w3.heap.size<=v1.heap.size;omega)).mono ?_;rintro r v2 ⟨rfl,LY⟩;have H:=KH H.drew (CZ LY);refine ⟨H,?_⟩;simp only[add_lit,ah];exact pN _ _ _ (by decide) _ H
  ·have hc:=al (show k<(bl s).length by rw[AE];exact EZ);generalize (bl s)[k]'(by rw[AE];exact EZ)=c at hc;rw[AV hc];refine (EL hB (by omega)).mono ?_;rintro r v2 ⟨Tu,N5,hW⟩;exact ⟨s.size-(k+1),by omega,k+1,op,_,Tu,_,rfl,by omega,rfl,N5,by rw[ai];show l.length+1<=k+1;omega,by have:=hW.ext.size;omega,KH H hW.ext⟩
 refine Br.f rfl (As.intro (H.ld 0 rfl rfl ⟨by omega,by omega,?_⟩));refine Br.eq (fun h92=>H.ld 0 rfl rfl ?_) fun _=>Br.eq (fun _=>J _) fun _=>Br.eq (fun _=>J _) fun _=>J _
 rw[i1];refine Br.eq (fun _=>gC 4 (by decide) H) fun Bg=>?_
 have SC:k+1<s.size:=by
  have Bg:((k+1:Nat):Int)≠((s.size:Nat):Int):=Bg;omega
 iterate 2 refine H.ld 0 rfl rfl ?_
 refine (VM _ SC (by omega) v1).mono ?_;rintro r t0z v2 ⟨⟨N4,k2,rfl,cL,hk3⟩,e2⟩;have H:=H.AB e2;have hB:=hB.AB e2;have z2:=e2.size;refine (Fa hB (by omega)).mono ?_;rintro Np sT v3 ⟨Tu,N5,hW⟩;exact ⟨s.size-k2,by omega,k2,op,_,Tu,_,rfl,hk3,rfl,N5,by rw[ai];show l.length+r.data.toList.length<=k2;rw[show r.data.toList.length=r.size from AE r];omega,by have:=hW.ext.size;omega,KH H hW.ext⟩
end
end Tl
namespace Tl
open Sh Fix Tk NR Go.Lib
theorem Eu:∀(l:By) (b:Bool) (c:UInt8),l[Ag l b]?=some c->b=false\/Ag l b≠0->IU c=false/\c≠37
 |[],_,c,h,_=>by simp at h
 |d::r,true,c,h,hb=>by
  have e:Ag (d::r) true=1+Ag r (!(d==13||d==10)):=rfl;rw[e,Nat.add_comm,cr]at h;by_cases hd:(d==13||d==10)=true
  ·rw[hd]at h;exact Eu r false c h (.inl rfl)
  ·have hd:(d==13||d==10)=false:=by simpa using hd
   rw[hd]at h;cases r with
   |nil=>simp at h
   |cons x r=>exact Eu (x::r) true c h (.inr (by show 1+_≠0;omega))
 |d::r,false,c,h,_=>by
  have e:Ag (d::r) false=if d=37 then 1+Ag r true else if IU d=true then 1+Ag r false else 0:=rfl
  rw[e]at h;by_cases h1:d=37
  ·rw[aD h1,Nat.add_comm,cr]at h;cases r with
   |nil=>simp at h
   |cons x r=>exact Eu (x::r) true c h (.inr (by show 1+_≠0;omega))
  ·rw[az h1]at h;by_cases h2:IU d=true
   ·rw[aD h2,Nat.add_comm,cr]at h;exact Eu r false c h (.inl rfl)
   ·rw[az h2]at h;simp only[ct,bw]at h;subst h;exact ⟨by simpa using h2,h1⟩
theorem Ma:∀l:By,(∀c∈l.take (Fs l),Ae c=true)/\∀c,(l.drop (Fs l)).head?=some c->Ae c=false
 |[]=>⟨by simp,by simp⟩
 |d::r=>by
  have e:Fs (d::r)=if Ae d=true then 1+Fs r else 0:=rfl
  obtain ⟨h1,h2⟩:=Ma r;rw[e];by_cases hd:Ae d=true
  ·rw[aD hd,Nat.add_comm,List.take_succ_cons,List.drop_succ_cons];refine ⟨fun c hc=>?_,h2⟩;rcases aw.1 hc with rfl|hc
   ·exact hd
   ·exact h1 c hc
  ·rw[az hd];refine ⟨by simp,fun c hc=>?_⟩;simp only[b9,List.head?_cons,bw]at hc;subst hc;simpa using hd
def Wx (s:ByteArray)(a:Nat)(r:TT)(e:Int):Prop:=e=0->r.1=5->∃(b:Nat) (T rest:By),b=a+Ag ((bl s).drop a) false/\(bl s).drop b=T++rest/\(∀c,rest.head?=some c->Ae c=false)/\Cw T=true/\r=(5,(b:Int),((b+T.length:Nat):Int),0,ba T)
section
variable {w0 w w2 u v:World} {s t:ByteArray} {a b:Nat}
attribute [local irreducible] Ld Sh.St Nw Nn Lt AP
theorem QD {n:Nat}(hb:b+n<=s.size)(hs:s.size<=1099511627776)(w:World):X8 (s,(b:Int)) (n:Int) w fun r e w1=>r=(6,(b:Int),((b+n:Nat):Int),0,s.extract b (b+n))/\e=0/\Ext (fun _=>False) w w1:=by
 refine AFO (s,(b:Int)) _ _ _ ?_;unfold yV;refine (Hn.start w).nw (cs:=[.string s,.int .i64 (b:Int)]) fun w2 H=>?_
 refine H.nw (cs:=[.int .i64 0,.int .i64 0,.int .i64 0,.int .i64 0,.string ⟨#[]⟩]) fun w3 H=>?_
 have H:=H.drew;simp only[ag,ae,add_lit,ah]at H⊢
 iterate 5 refine H.ld 0 rfl rfl ?_
 have e:wrap .i64 ((b:Int)+(n:Int))=((b+n:Nat):Int):=by rw[AG (by omega)];rfl
 rw[e];refine ⟨by omega,by omega,by omega,by omega,?_⟩
 iterate 5 (refine H.st 1 rfl (by simp) fun _ H=>?_;simp only[aa,ab]at H)
 iterate 5 refine H.ld 1 rfl rfl ?_
 exact ⟨by rw[aF,aF],by trivial,H.ext⟩
theorem l6 {c:UInt8}(hc:(bl s)[b]?=some c):s.extract b (b+1)=ba [c]:=Ci (by
 rw[A5,ES hc,show b+1-b=1 by omega,BB]
 rfl)
theorem l7 {c d:UInt8}(hc:(bl s)[b]?=some c)(hd:(bl s)[b+1]?=some d):s.extract b (b+2)=ba [c,d]:=Ci (by
 rw[A5,ES hc,ES hd,show b+2-b=2 by omega,BB]
 rfl)
theorem Mb {c:UInt8}(ha:a<=s.size)(hs:s.size<=1099511627776)(hb:a+Ag ((bl s).drop a) false=b)(hc:(bl s)[b]?=some c)(h:c=91\/c=93\/c=123\/c=125)(w:World):
  Qr s (a:Int) w fun r e w1=>r=(6,(b:Int),((b+1:Nat):Int),0,ba [c])/\e=0/\Ext (fun _=>False) w w1:=by
 have Yh:b<s.size:=by
  have:=(ao.1 hc).1;rwa[AE]at this
 refine Cj ha hs hb hc w fun w2 v H=>?_
 unfold KA;have f:((c==91)||(c==93)||(c==123)||(c==125))=true:=by rcases h with rfl|rfl|rfl|rfl<;>decide
 rw[f];refine Br.t rfl ?_;simp only[add_lit,ah]
 iterate 2 refine H.ld 1 rfl rfl ?_
 refine (QD (n:=1) (by omega) hs v).mono ?_;rintro r e w3 ⟨rfl,rfl,e3⟩;have H:=H.AB e3
 iterate 5 (refine H.st 0 rfl (by simp) fun _ H=>?_;simp only[aa,ab]at H)
 iterate 5 refine H.ld 0 rfl rfl ?_
 exact ⟨by rw[l6 hc],by trivial,H.ext⟩
theorem VN {c:UInt8}(ha:a<=s.size)(hs:s.size<=1099511627776)(hb:a+Ag ((bl s).drop a) false=b)(hc:(bl s)[b]?=some c)(RD:(bl s)[b+1]?=some c)(h:c=60\/c=62)(w:World):
  Qr s (a:Int) w fun r e w1=>r=(6,(b:Int),((b+2:Nat):Int),0,ba [c,c])/\e=0/\Ext (fun _=>False) w w1:=by
 have Yh:b+1<s.size:=by
  have:=(ao.1 RD).1;rwa[AE]at this
 have hd:hasPrefix ((bl s).drop (b+1)) [c]=true:=by
  rw[ES RD];simp[hasPrefix,List.isPrefixOf]
 refine Cj ha hs hb hc w fun w2 v H=>?_
 unfold KA;have f:((c==91)||(c==93)||(c==123)||(c==125))=false:=by rcases h with rfl|rfl<;>decide
 rw[f,hd,AV hc];have fin:∀(v:World),Hn w v [(w.heap.size,[.int .i64 0,.int .i64 0,.int .i64 0,.int .i64 0,.string ⟨#[]⟩],114),(w2.heap.size,[.string s,.int .i64 (b:Int)],173)]->X8 (s,(b:Int)) 2 v fun r e F7=>
    Sh.St F7 (⟨w.heap.size,0,none⟩:Addr) (.int .i64 (r.1)) fun Eo=>
    Sh.St Eo (⟨w.heap.size,1,none⟩:Addr) (.int .i64 (r.2.1)) fun Ep=>
    Sh.St Ep (⟨w.heap.size,2,none⟩:Addr) (.int .i64 (r.2.2.1)) fun Er=>
    Sh.St Er (⟨w.heap.size,3,none⟩:Addr) (.int .i64 (r.2.2.2.1)) fun Es=>
    Sh.St Es (⟨w.heap.size,4,none⟩:Addr) (.string r.2.2.2.2) fun Aa=>
    Ld Aa (⟨w.heap.size,0,none⟩:Addr) (Value.int .i64) fun (Cu:Int)=>
    Ld Aa (⟨w.heap.size,1,none⟩:Addr) (Value.int .i64) fun (EO:Int)=>
    Ld Aa (⟨w.heap.size,2,none⟩:Addr) (Value.int .i64) fun (CR:Int)=>
    Ld Aa (⟨w.heap.size,3,none⟩:Addr) (Value.int .i64) fun (Ce:Int)=>
    Ld Aa (⟨w.heap.size,4,none⟩:Addr) Value.string fun (Dj:ByteArray)=>((Cu,EO,CR,Ce,Dj):TT)=(6,(b:Int),((b+2:Nat):Int),0,ba [c,c])/\e=0/\Ext (fun _=>False) w Aa:=fun v H=>by
  refine (QD (n:=2) (by omega) hs v).mono ?_;rintro r e w3 ⟨rfl,rfl,e3⟩;have H:=H.AB e3
  iterate 5 (refine H.st 0 rfl (by simp) fun _ H=>?_;simp only[aa,ab]at H)
  iterate 5 refine H.ld 0 rfl rfl ?_
  exact ⟨by rw[l7 hc RD],rfl,H.ext⟩
 simp only[add_lit,ah];refine Br.f rfl ?_;rcases h with rfl|rfl
 ·refine Br.t rfl (Br.t rfl ?_)
  iterate 2 refine H.ld 1 rfl rfl ?_
  exact fin v H
 ·refine Br.f rfl (Br.t rfl (Br.t rfl ?_))
  iterate 2 refine H.ld 1 rfl rfl ?_
  exact fin v H
theorem l8 (s:ByteArray)(ha:a<=s.size)(hs:s.size<=549755813888)(w:World):Qr s (a:Int) w fun r e w1=>Wx s a r e/\Ext (fun _=>False) w w1:=by
 have pO:s.size<=1099511627776:=by omega
 generalize hb:a+Ag ((bl s).drop a) false=b;have Md:=GV ha hb;by_cases Yh:b=s.size
 ·subst Yh;refine (Me ha pO hb w).mono ?_;rintro r e w1 ⟨rfl,rfl,e1⟩;exact ⟨fun _ h=>absurd h (by show ¬(0:Int)=5;decide),e1⟩
 have Av:b<s.size:=by omega
 have hc:=al (show b<(bl s).length by rw[AE];exact Av);generalize (bl s)[b]'(by rw[AE];exact Av)=c at hc;have Qn:=Eu ((bl s).drop a) false c (by rw[cF,hb];exact hc) (.inl rfl);by_cases hm:c=91\/c=93\/c=123\/c=125
 ·refine (Mb ha pO hb hc hm w).mono ?_;rintro r e w1 ⟨rfl,rfl,e1⟩;exact ⟨fun _ h=>absurd h (by show ¬(6:Int)=5;decide),e1⟩
 refine Cj ha pO hb hc w fun w2 v H=>?_
 unfold KA;have f:((c==91)||(c==93)||(c==123)||(c==125))=false:=by
  simp only[not_or]at hm;simp[hm.1,hm.2.1,hm.2.2.1,hm.2.2.2]
 rw[f,AV hc]

 have fin:∀(v:World) (r:TT) (e:Int),Hn w v [(w.heap.size,[.int .i64 0,.int .i64 0,.int .i64 0,.int .i64 0,.string ⟨#[]⟩],114),(w2.heap.size,[.string s,.int .i64 (b:Int)],173)]->Wx s a r e->
    Sh.St v (⟨w.heap.size,0,none⟩:Addr) (.int .i64 (r.1)) fun Eo=>
    Sh.St Eo (⟨w.heap.size,1,none⟩:Addr) (.int .i64 (r.2.1)) fun Ep=>
    Sh.St Ep (⟨w.heap.size,2,none⟩:Addr) (.int .i64 (r.2.2.1)) fun Er=>
    Sh.St Er (⟨w.heap.size,3,none⟩:Addr) (.int .i64 (r.2.2.2.1)) fun Es=>
    Sh.St Es (⟨w.heap.size,4,none⟩:Addr) (.string r.2.2.2.2) fun Aa=>
    Ld Aa (⟨w.heap.size,0,none⟩:Addr) (Value.int .i64) fun (Cu:Int)=>
    Ld Aa (⟨w.heap.size,1,none⟩:Addr) (Value.int .i64) fun (EO:Int)=>
    Ld Aa (⟨w.heap.size,2,none⟩:Addr) (Value.int .i64) fun (CR:Int)=>
    Ld Aa (⟨w.heap.size,3,none⟩:Addr) (Value.int .i64) fun (Ce:Int)=>
    Ld Aa (⟨w.heap.size,4,none⟩:Addr) Value.string fun (Dj:ByteArray)=>Wx s a (Cu,EO,CR,Ce,Dj) e/\Ext (fun _=>False) w Aa:=fun v r e H hr=>by
  iterate 5 (refine H.st 0 rfl (by simp) fun _ H=>?_;simp only[aa,ab]at H)
  iterate 5 refine H.ld 0 rfl rfl ?_
  exact ⟨hr,H.ext⟩
 simp only[add_lit,ah];have no:∀{r:TT} {e:Int},(e=0->r.1≠5)->Wx s a r e:=fun h h0 h5=>absurd h5 (h h0)
 have dbl:∀{d:UInt8},hasPrefix ((bl s).drop (b+1)) [d]=true->b+2<=s.size:=fun {d} h=>by
  have hp:[d]<+:(bl s).drop (b+1):=cf.1 h;have:=hp.length_le;rw[aM,AE]at this;have h2:[d].length=1:=rfl;omega
 refine Br.f rfl (Br.eq (fun h60=>BD (fun hd=>?_) fun hd=>?_) fun h60=>Br.eq (fun h62=>BD (fun hd=>?_) fun hd=>?_) fun h62=>Br.eq (fun h47=>?_) fun h47=>Br.eq (fun h40=>?_) fun h40=>Br.eq (fun h41=>?_) fun h41=>?_)
 ·iterate 2 refine H.ld 1 rfl rfl ?_
  refine (QD (n:=2) (dbl hd) pO v).mono ?_;rintro r e w3 ⟨rfl,rfl,e3⟩;exact fin _ _ _ (H.AB e3) (no fun _=>by show (6:Int)≠5;decide)
 ·iterate 2 refine H.ld 1 rfl rfl ?_
  refine (uO Av pO v).mono ?_;rintro r e w3 ⟨hr,e3⟩;exact fin _ _ _ (H.AB e3) (no hr)
 ·iterate 2 refine H.ld 1 rfl rfl ?_
  refine (QD (n:=2) (dbl hd) pO v).mono ?_;rintro r e w3 ⟨rfl,rfl,e3⟩;exact fin _ _ _ (H.AB e3) (no fun _=>by show (6:Int)≠5;decide)
 ·refine (Ch 3 v).mono ?_;rintro r e w3 ⟨rfl,rfl,e3⟩;exact fin _ _ _ (H.AB e3) (no fun h=>absurd h (by decide))
 ·iterate 2 refine H.ld 1 rfl rfl ?_
  refine (lz Av pO v).mono ?_;rintro r e w3 ⟨hr,e3⟩;exact fin _ _ _ (H.AB e3) (no hr)
 ·iterate 2 refine H.ld 1 rfl rfl ?_
  refine (l5 Av hs v).mono ?_;rintro r e w3 ⟨hr,e3⟩;exact fin _ _ _ (H.AB e3) (no hr)
 ·refine (Ch 3 v).mono ?_;rintro r e w3 ⟨rfl,rfl,e3⟩;exact fin _ _ _ (H.AB e3) (no fun h=>absurd h (by decide))
 ·iterate 2 refine H.ld 1 rfl rfl ?_
  have lu:Ae c=true:=by
   have n:∀{d:UInt8},(c.toNat:Int)≠(d.toNat:Int)->c≠d:=fun h e=>h (by rw[e])
   have hdl:jy c=false:=by
    rw[<-ck];unfold jy;rw[aY];intro Bt;simp only[aw,aG,bA]at Bt;simp only[not_or]at hm;rcases Bt with e|e|e|e|e|e|e|e|e|e
    ·exact h40 (by rw[e];rfl)
    ·exact h41 (by rw[e];rfl)
    ·exact h60 (by rw[e];rfl)
    ·exact h62 (by rw[e];rfl)
    ·exact hm.1 e
    ·exact hm.2.1 e
    ·exact hm.2.2.1 e
    ·exact hm.2.2.2 e
    ·exact h47 (by rw[e];rfl)
    ·exact Qn.2 e
   unfold Ae;rw[Qn.1,hdl]
   rfl
  obtain ⟨t1,t2⟩:=Ma ((bl s).drop b);have Bg:((bl s).drop b).take (Fs ((bl s).drop b))≠[]:=by
   rw[ES hc];have:Fs (c::(bl s).drop (b+1))=1+Fs ((bl s).drop (b+1)):=by
    show (if Ae c=true then _ else _)=_;rw[aD lu]
   rw[this,Nat.add_comm,List.take_succ_cons];simp
  refine (Wu Bg t1 (bV _ _).symm t2 Md pO v).mono ?_;rintro r e w3 ⟨hq,e3⟩;refine fin _ _ _ (H.AB e3) fun h0 h5=>?_
  rcases hq with ⟨hw,hr,_⟩|⟨_,hr⟩
  ·exact ⟨b,_,_,hb.symm,(bV _ _).symm,t2,hw,hr⟩
  ·exact absurd h5 (hr h0)
end
end Tl
namespace Wt
open Sh Fix Tk Tl Vl
def Om:By:=[110,117,108,108]
def KJ:By:=[116,114,117,101]
def GD:By:=[102,97,108,115,101]
def Vc:By:=[82]
def AX (l:By):Pt:=⟨l,5,0,ba l⟩
def Ao (l:By):Pt:=⟨l,6,0,ba l⟩
def Kw (T:By)(n:Int):Pt:=⟨T,1,n,⟨#[]⟩⟩
def PA (T:By)(n:Int):Pt:=⟨T,2,n,⟨#[]⟩⟩
def Zb (b:ByteArray):Pt:=⟨Jp (bl b),3,0,b⟩
def Cz (b:ByteArray):Pt:=⟨Bv (bl b),4,0,b⟩
theorem jf {c:UInt8}(h:Ae c=true):IU c=false/\c≠37:=by
 unfold Ae at h;simp only[aj,bO]at h;refine ⟨h.1,fun e=>?_⟩;subst e;exact absurd h.2 (by decide)
theorem Te {l:By}(h:l≠[]):l.getLastD 0∈l:=aA (Xe h)
theorem Qm {p:Pt}(ne:p.t≠[])(hr:∀c∈p.t,Ae c=true)(k0:p.k≠0)
  (hw:∀(s:ByteArray) (b:Nat) (rest:By),b<=s.size->s.size<=1099511627776->(bl s).drop b=p.t++rest->(∀c,rest.head?=some c->Ae c=false)->∀w,RQ (s,(b:Int)) w fun r e w1=>r=p.tok (b:Int) ((b+p.t.length:Nat):Int)/\e=0/\Ext (fun _=>False) w w1):JA p:=by
 obtain ⟨d,tl,IY⟩:∃d tl,p.t=d::tl:=by
  cases IY:p.t with
  |nil=>exact absurd IY ne
  |cons d tl=>exact ⟨d,tl,rfl⟩
 have hd:=hr d (by rw[IY];exact ax ..);refine ⟨ne,by rw[IY];exact (jf hd).1,by rw[IY];exact (jf hd).2,k0,fun s a b rest ha hs hb h PB w=>?_⟩;have PB:=PB (.inl (hr _ (Te ne)));exact TS ha hs hb (at_drop (j:=0) h (by rw[IY];rfl)) hd (fun v=>hw s b rest (GV ha hb) hs h PB v) w
theorem ok_int {n:Int}{T D:By}(h:FZ n T D)(h1:-2147483647<=n)(h2:n<=2147483647):JA (Kw T n):=by
 obtain ⟨c,T',hT⟩:=h.head;exact Qm (p:=Kw T n) (by show T≠[];rw[hT];simp) h.BY (show (1:Int)≠0 by decide) fun s b rest hb hs hd hr w=>V1 h h1 h2 hd hr hb hs w
theorem nr {n:Int}{T W P:By}(h:Bp n T W P)(hn:Dc n=true):JA (PA T n):=by
 refine Qm (p:=PA T n) ?_ h.BY (show (2:Int)≠0 by decide) fun s b rest hb hs hd hr w=>TR h hn hd hr hb hs w
 show T≠[];intro e;have:=aq List.length h.t;rw[e,ai,ai,ar,aU]at this;omega
theorem wV {b:ByteArray}(h:b.size<=32767):JA (Zb b):=by
 refine ⟨by simp[Zb,Jp],by show IU 40=false;decide,by show (40:UInt8)≠37;decide,show (3:Int)≠0 by decide,fun s a c rest ha hs hb hd PB w=>?_⟩;have:=V2 (l:=bl b) ha hs hb hd (by rw[AE];omega) w;rw[KI]at this;exact this
theorem wW {b:ByteArray}(h:Dz b=true):b.size<=127/\0∉bl b:=by
 unfold Dz at h;simp only[aj,bu,bO,List.contains_eq_mem,bM]at h;exact h
theorem Xq {b:ByteArray}(h:Dz b=true):JA (Cz b):=by
 obtain ⟨h1,h0⟩:=wW h;refine ⟨by simp[Cz,Bv],by show IU 47=false;decide,by show (47:UInt8)≠37;decide,show (4:Int)≠0 by decide,fun s a c rest ha hs hb hd PB w=>?_⟩;have hl:Ae ((Bv (bl b)).getLastD 0)=true\/(Bv (bl b)).getLastD 0=47:=by
  have hm:=Te (l:=Bv (bl b)) (by simp[Bv]);rcases aw.1 hm with h|h
  ·exact .inr h
  ·exact .inl (O8 _ _ h)
 have:=TY (l:=bl b) ha hs hb hd (PB hl) (by rw[AE];omega) h0 w;rw[KI]at this;exact this
theorem Xr {T:By}(h:Cw T=true):T≠[]/\(∀c∈T,Ae c=true)/\T.length<=127:=by
 unfold Cw at h;simp only[aj,bu]at h;exact ⟨h.1.1.1.1,aJ.1 h.1.1.1.2,h.1.1.2⟩
theorem FR {T:By}(h:Cw T=true):JA (AX T):=
 Qm (p:=AX T) (Xr h).1 (Xr h).2.1 (show (5:Int)≠0 by decide) fun s b rest hb hs hd hr w=>gA h hd hr hb hs w
theorem ns:JA (AX Om):=FR (by decide+kernel)
theorem nt:JA (AX KJ):=FR (by decide+kernel)
theorem jg:JA (AX GD):=FR (by decide+kernel)
theorem wX:JA (AX Vc):=FR (by decide+kernel)
theorem ok_one {c:UInt8}(h:c=91\/c=93\/c=123\/c=125):JA (Ao [c]):=
 ⟨by simp[Ao],by rcases h with rfl|rfl|rfl|rfl<;>decide,by rcases h with rfl|rfl|rfl|rfl<;>decide,show (6:Int)≠0 by decide,fun s a b rest ha hs hb hd _ w=>Mb ha hs hb (at_drop (j:=0) hd rfl) h w⟩
theorem ok_two {c:UInt8}(h:c=60\/c=62):JA (Ao [c,c]):=
 ⟨by simp[Ao],by rcases h with rfl|rfl<;>decide,by rcases h with rfl|rfl<;>decide,show (6:Int)≠0 by decide,fun s a b rest ha hs hb hd _ w=>VN ha hs hb (at_drop (j:=0) hd rfl) (at_drop (j:=1) hd rfl) h w⟩
theorem nu:JA (Ao [91]):=ok_one (.inl rfl)
theorem jh:JA (Ao [93]):=ok_one (.inr (.inl rfl))
theorem ADK:JA (Ao [60,60]):=ok_two (.inl rfl)
theorem ADL:JA (Ao [62,62]):=ok_two (.inr rfl)
end Wt
namespace Vl
open Sh
theorem Br.t{b:Bool}{A B:Prop}(h:b=true)(h1:A):Br b A B:=by rw[h];exact h1
theorem Br.f{b:Bool}{A B:Prop}(h:b=false)(h1:B):Br b A B:=by rw[h];exact h1
theorem WV (a b:ByteArray):(a.toList==b.toList)=decide (a.data.toList=b.data.toList):=by
 rw[ByteArray.toList_eq,ByteArray.toList_eq];by_cases h:a.data.toList=b.data.toList
 ·rw[aI h];simpa using h
 ·rw[aH h];simpa using h
theorem B1 (o:Ob):AQ.cells AD o=AH o:=rfl
section
variable {w w' w0 w1:World} {o:Ob} {t:Tr}
attribute [local irreducible] Ld Sh.St Nw Nn Lt AP Ab Am Ak
theorem A8 (b:Bool)(e:Int)(w:World){R:World->Prop}{PR:Value->World->Prop}(h1:b=true->R w)(h2:b=false->PR (.iface 160 (.agg #[.int .i64 e])) w):Aq b e w R PR:=by
 refine T94 _ _ _ _ _ ?_;unfold S94;cases b with
 |true=>exact Br.f rfl (h1 rfl)
 |false=>exact Br.t rfl (h2 rfl)
def qO (k:Int):(Bool×Bool×Bool×Bool×Bool)×Bool:=match CN k with
 |some u=>((u.n,u.g,u.s,u.ks,u.kids),true)
 |none=>((false,false,false,false,false),false)
theorem wN (k:Int)(w:World):C95 k w fun r b w1=>(r,b)=qO k/\Ext (fun _=>False) w w1:=by
 refine T95 _ _ _ ?_;unfold S95;refine (Hn.start w).nw fun w2 H=>?_
 simp only[ae,add_lit,ah]at H⊢;by_cases h0:k=0
 ·subst h0;refine Br.t rfl ?_
  iterate 5 (refine H.st 0 rfl (by simp) fun _ H=>?_;simp only[aa,ab]at H)
  iterate 5 refine H.ld 0 rfl rfl ?_
  exact ⟨rfl,H.ext⟩
 refine Br.f (by simpa using h0) (As.intro ?_);have J2:∀b:Bool,b=decide (k=1\/k=2\/k=3)->fA w k (fun r b w1=>(r,b)=qO k/\Ext (fun _=>False) w w1) b w2:=by
  rintro b hb;unfold fA;simp only[add_lit,ah];by_cases h1:k=1\/k=2\/k=3
  ·rw[aI h1]at hb;subst hb;refine Br.t rfl ?_
   iterate 5 (refine H.st 0 rfl (by simp) fun _ H=>?_;simp only[aa,ab]at H)
   iterate 5 refine H.ld 0 rfl rfl ?_
   refine ⟨?_,H.ext⟩;unfold qO CN;rw[az h0,aD h1]
  ·rw[aH h1]at hb;subst hb;refine Br.f rfl (As.intro ?_);have J1:∀b:Bool,b=decide (k=4\/k=5)->ez w k (fun r b w1=>(r,b)=qO k/\Ext (fun _=>False) w w1) b w2:=by
    rintro b hb;unfold ez;simp only[add_lit,ah];by_cases h4:k=4\/k=5
    ·rw[aI h4]at hb;subst hb;refine Br.t rfl ?_
     iterate 5 (refine H.st 0 rfl (by simp) fun _ H=>?_;simp only[aa,ab]at H)
     iterate 5 refine H.ld 0 rfl rfl ?_
     refine ⟨?_,H.ext⟩;unfold qO CN;rw[az h0,az h1,aD h4]
    ·rw[aH h4]at hb;subst hb;refine Br.f rfl ?_;refine Br.eq (fun h6=>?_) fun h6=>Br.eq (fun h7=>?_) fun h7=>Br.eq (fun h8=>?_) fun h8=>Br.eq (fun h9=>?_) fun h9=>?_
     all_goals
      iterate 5 (refine H.st 0 rfl (by simp) fun _ H=>?_;simp only[aa,ab]at H)
      iterate 5 refine H.ld 0 rfl rfl ?_
      refine ⟨?_,H.ext⟩;unfold qO CN;simp[*]
   refine Br.eq (fun h4=>J1 _ ?_) fun h4=>J1 _ ?_
   ·rw[h4];rfl
   ·rw[cg,bX,bY];omega
 refine Br.eq (fun h1=>J2 _ ?_) fun h1=>Br.eq (fun h2=>J2 _ ?_) fun h2=>J2 _ ?_
 ·rw[h1];rfl
 ·rw[h2];rfl
 ·rw[cg,bX,bY];omega
theorem Xh (n a b:Int)(w:World):N1 n a b w fun r w1=>r=decide (a<=n/\n<=b)/\w1=w:=by
 refine yw _ _ _ _ _ ?_;unfold sW;refine Br.dec (fun h=>⟨?_,rfl⟩) fun h=>⟨?_,rfl⟩
 ·rw[cg,bY,bY];exact ⟨fun h2=>⟨h,h2⟩,fun h2=>h2.2⟩
 ·symm
  exact aH fun h2=>h h2.1
theorem wO (n a b:Int)(w:World):tR n a b w fun r w1=>r=decide (a<=n/\n<=b)/\w1=w:=by
 refine AJq _ _ _ _ _ ?_;unfold AAQ;refine Br.dec (fun h=>⟨?_,rfl⟩) fun h=>⟨?_,rfl⟩
 ·rw[cg,bY,bY];exact ⟨fun h2=>⟨h,h2⟩,fun h2=>h2.2⟩
 ·symm
  exact aH fun h2=>h h2.1
theorem VO (h:OX w0 o t)(w:World):C96 o w fun r w1=>r=Bj t/\Ext (fun _=>False) w w1:=by
 obtain ⟨⟨hk,hn,hg,_⟩,_,_⟩:=h.out;refine T96 o _ _ ?_;unfold S96;rw[B1];refine (Hn.start w).nw (cs:=AH o) fun w2 H=>?_
 simp only[ae,add_lit,ah]at H⊢;unfold Bj;rw[<-hk,<-hn,<-hg];refine H.ld 0 rfl rfl (Br.eq (fun h1=>H.ld 0 rfl rfl ?_) fun h1=>Br.eq (fun h2=>H.ld 0 rfl rfl ?_) fun h2=>Br.eq (fun h3=>H.ld 0 rfl rfl ?_) fun h3=>Br.eq (fun h8=>H.ld 0 rfl rfl ?_) fun h8=>?_)
 ·refine (Xh _ _ _ _).mono ?_;rintro r w3 ⟨rfl,rfl⟩;exact ⟨by rw[aD h1],H.ext⟩
 ·refine (Xh _ _ _ _).mono ?_;rintro r w3 ⟨rfl,rfl⟩;exact ⟨by rw[az h1,aD h2],H.ext⟩
 ·refine (Xh _ _ _ _).mono ?_;rintro r w3 ⟨rfl,rfl⟩;exact ⟨by rw[az h1,az h2,aD h3],H.ext⟩
 ·rw[az h1,az h2,az h3,aD h8];refine (Xh _ _ _ _).mono ?_;rintro r w3 ⟨rfl,rfl⟩;refine Br.dec (fun h=>H.ld 0 rfl rfl ?_) fun h=>⟨by rw[aH h];rfl,H.ext⟩
  refine (wO _ _ _ _).mono ?_;rintro r w3 ⟨rfl,rfl⟩;exact ⟨by rw[aI h];rfl,H.ext⟩
 ·exact ⟨by rw[az h1,az h2,az h3,az h8],H.ext⟩
theorem ng (h:OX w0 o t)(w:World):C97 o w fun r w1=>r=Ql t/\Ext (fun _=>False) w w1:=by
 obtain ⟨⟨hk,hn,hg,hs⟩,_,_⟩:=h.out;refine T97 o _ _ ?_;unfold S97;rw[B1];refine (Hn.start w).nw (cs:=AH o) fun w2 H=>?_
 simp only[ae,add_lit,ah]at H⊢;unfold Ql;rw[<-hk,<-hs];have e:∀n:Nat,decide (((o.2.2.2.1.size:Nat):Int)<=(n:Int))=decide (o.2.2.2.1.size<=n):=fun n=>by
  rw[cg,bY,bY];omega
 refine H.ld 0 rfl rfl (Br.eq (fun h1=>H.ld 0 rfl rfl ⟨?_,H.ext⟩) fun h1=>Br.eq (fun h2=>H.ld 0 rfl rfl ⟨?_,H.ext⟩) fun h2=>H.ld 0 rfl rfl ⟨?_,H.ext⟩)
 ·rw[aD h1];exact e 32767
 ·rw[az h1,aD h2];exact e 127
 ·rw[az h1,az h2];exact e 1048576
theorem KG (s:ByteArray)(c:UInt8)(w:World):rV s (c.toNat:Int) w fun r w1=>r=Lib.indexByte s.data.toList c/\w1=w:=
 (Tryz.strings_IndexByte s c.toNat w).mono fun e w' h=>⟨_,h.1,by rw[aF,Nat.toUInt8_eq,UInt8.ofNat_toNat],h.2⟩
theorem BM (l:List UInt8)(c:UInt8):decide (Lib.indexByte l c<0)= !l.contains c:=by
 rw[Lib.contains_iff_indexByte,cg,bY,bO,bM];omega
theorem qP (s:ByteArray)(w:World):C98 s w fun r w1=>r=Dz s/\w1=w:=by
 refine T98 _ _ _ ?_;unfold S98;unfold Dz;refine Br.dec (fun h=>(KG s 0 w).mono ?_) fun h=>⟨?_,rfl⟩
 ·rintro r w1 ⟨rfl,rfl⟩;rw[BM,aI (show s.size<=127 by omega)];exact ⟨rfl,rfl⟩
 ·rw[aH (by omega)]
  rfl
end
end Vl
namespace Vl
open Sh
theorem GP (Km:Bool)(p:Option ByteArray)(k:ByteArray)(ks:List ByteArray)(x:Tr)(xs:List Tr):F3 Km p (k::ks) (x::xs)=(Dz k&&Xg p k&& !(Km&&(k.toList==(⟨#[76,101,110,103,116,104]⟩:cI).toList))&&decide (x.k≠0)&&F3 Km (some k) ks xs):=rfl
theorem Iy {Km:Bool}:∀{ks:List ByteArray} {kids:List Tr} {prev:Option ByteArray},ks.length≠kids.length->F3 Km prev ks kids=false
 |[],[],_,h=>absurd rfl h
 |[],_::_,_,_=>rfl
 |_::_,[],_,_=>rfl
 |k::ks,x::xs,p,h=>by
  rw[GP,Iy (ks:=ks) (kids:=xs) (by simpa using h),bN]
theorem GB {α:Type}{l:List α}{i:Nat}{c:α}(h:l[i]?=some c):l.drop i=c::l.drop (i+1):=by
 obtain ⟨hi,e⟩:=ao.1 h;rw[b5 hi,e]
section
variable {w w' w0 w1:World} {o:Ob} {t:Tr}
attribute [local irreducible] Ld Sh.St Nw Nn Lt AP Ab Am Ak
theorem KV.get{s:AA}{K:List ByteArray}(h:KV w s K){i:Nat}{b:ByteArray}(hi:K[i]?=some b){Q:ByteArray->Prop}(k:Q b):Nn s.p fun a=>Ld w (a.add (((i:Nat):Int).toNat*1)) Value.string Q:=by
 obtain ⟨a,ha,hc⟩:=h.2 i b hi;rw[ha,aF,bU];exact Nn.of (Ld.mk hc k)
theorem NZ.kind{s:AA}{ts:List Tr}(h:NZ w s ts){i:Nat}{t:Tr}(hi:ts[i]?=some t){Q:Int->Prop}(k:Q t.k):Nn s.p fun a=>Ld w (a.add (((i:Nat):Int).toNat*6)) (Value.int .i64) Q:=by
 obtain ⟨d,L,h1,h2⟩:=h;obtain ⟨o,ho,hR⟩:=h2.P6 hi;obtain ⟨a,ha,c0,_⟩:=h1.get ho;rw[ha,aF];have hk:o.1=t.k:=by
  cases d with
  |zero=>exact hR.elim
  |succ d=>exact hR.1.1
 rw[hk]at c0;exact Nn.of (Ld.mk c0 k)
theorem OV.qQ{s:AA}{L:List Ob}(h:OV w s L){i:Nat}{o:Ob}(hi:L[i]?=some o){K:AK->Prop}(k:K o):Nn s.p fun a=>Ab w (a.add (((i:Nat):Int).toNat*6)) 0 AD K:=by
 obtain ⟨a,ha,hw⟩:=h.word hi k;rw[ha,aF];exact Nn.of hw
theorem jV (h:OX w o t):C99 o w fun r w1=>r=Jq t/\Ext (fun _=>False) w w1:=by
 obtain ⟨⟨hk,hn,hg,hs⟩,hK,hO⟩:=h.out;refine T99 o _ _ ?_;unfold S99;rw[B1];refine (Hn.start w).nw (cs:=AH o) fun w2 H=>?_
 simp only[ae,add_lit,ah]at H⊢;refine H.ld 0 rfl rfl (H.ld 0 rfl rfl ?_);have hK:=hK.AB H.ext;have hO:=hO.AB H.ext;have hl:=hK.1.2;have G2:=hK.1.1;rw[G2,hO.len];refine Br.ne (fun q=>⟨(Iy (by omega)).symm,H.ext⟩) fun q=>H.ld 0 rfl rfl ?_
 have hle:t.ks.length=t.kids.length:=by omega
 refine ⟨fun n st v=>∃(i:Nat) (p:Option ByteArray),st=(i:Int)/\i<=t.ks.length/\n=t.ks.length-i/\v=w2/\(i=0->p=none)/\(∀j,i=j+1->p=t.ks[j]?)/\F3 (decide (t.k=9)) p (t.ks.drop i) (t.kids.drop i)=Jq t,t.ks.length,⟨0,none,rfl,by omega,rfl,rfl,fun _=>rfl,fun j hj=>by omega,rfl⟩,?_⟩;rintro n st v ⟨i,p,rfl,hi,rfl,rfl,Va,uR,hr⟩;unfold ow;simp only[add_lit,ah];rw[G2];refine Br.dec (fun q=>⟨by omega,by omega,?_⟩) fun q=>?_
 ·have Fp:i<t.ks.length:=by omega
  have D9:=al Fp;have gF:=al (show i<t.kids.length by omega);generalize t.ks[i]=k at D9;generalize t.kids[i]=x at gF;rw[GB D9,GB gF,GP]at hr;refine hK.get D9 ((qP k v).mono ?_);rintro r w3 ⟨rfl,rfl⟩;have i1:wrap .i64 (((i:Nat):Int)+1)=((i+1:Nat):Int):=by rw[AG (by omega)];rfl
  have im:i≠0->wrap .i64 (((i:Nat):Int)-1)=((i-1:Nat):Int):=fun h=>by rw[AG (by omega)];omega
 
  have fin:Dz k=true->Xg p k=true->Br (o.1==9) (Br (k.toList==(⟨#[76,101,110,103,116,104]⟩:cI).toList) (false=Jq t/\Ext (fun _=>False) w w3) (Ld w3 ⟨w.heap.size,5,none⟩ AA.v fun (HG:AA)=>
        0<=((i:Nat):Int)/\((i:Nat):Int)<(HG.len:Nat)/\Nn HG.p fun a20=>
        Ld w3 (a20.add ((((i:Nat):Int)).toNat*6)) (Value.int .i64) fun (Hm:Int)=>
        Br (Hm==0) (false=Jq t/\Ext (fun _=>False) w w3) (∃n',n'<t.ks.length-i/\∃(NP:Nat) (p:Option ByteArray),wrap .i64 (((i:Nat):Int)+1)=(NP:Int)/\NP<=t.ks.length/\n'=t.ks.length-NP/\w3=w3/\(NP=0->p=none)/\(∀j,NP=j+1->p=t.ks[j]?)/\F3 (decide (t.k=9)) p (t.ks.drop NP) (t.kids.drop NP)=Jq t)))
       (Ld w3 ⟨w.heap.size,5,none⟩ AA.v fun (HG:AA)=>
        0<=((i:Nat):Int)/\((i:Nat):Int)<(HG.len:Nat)/\Nn HG.p fun a20=>
        Ld w3 (a20.add ((((i:Nat):Int)).toNat*6)) (Value.int .i64) fun (Hm:Int)=>
        Br (Hm==0) (false=Jq t/\Ext (fun _=>False) w w3) (∃n',n'<t.ks.length-i/\∃(NP:Nat) (p:Option ByteArray),wrap .i64 (((i:Nat):Int)+1)=(NP:Int)/\NP<=t.ks.length/\n'=t.ks.length-NP/\w3=w3/\(NP=0->p=none)/\(∀j,NP=j+1->p=t.ks[j]?)/\F3 (decide (t.k=9)) p (t.ks.drop NP) (t.kids.drop NP)=Jq t)):=by
   intro SC hp;rw[SC,hp,bo,bo]at hr;have last:(!(decide (t.k=9)&&(k.toList==(⟨#[76,101,110,103,116,104]⟩:cI).toList)))=true->(Ld w3 ⟨w.heap.size,5,none⟩ AA.v fun (HG:AA)=>
        0<=((i:Nat):Int)/\((i:Nat):Int)<(HG.len:Nat)/\Nn HG.p fun a20=>
        Ld w3 (a20.add ((((i:Nat):Int)).toNat*6)) (Value.int .i64) fun (Hm:Int)=>
        Br (Hm==0) (false=Jq t/\Ext (fun _=>False) w w3) (∃n',n'<t.ks.length-i/\∃(NP:Nat) (p:Option ByteArray),wrap .i64 (((i:Nat):Int)+1)=(NP:Int)/\NP<=t.ks.length/\n'=t.ks.length-NP/\w3=w3/\(NP=0->p=none)/\(∀j,NP=j+1->p=t.ks[j]?)/\F3 (decide (t.k=9)) p (t.ks.drop NP) (t.kids.drop NP)=Jq t)):=by
    intro hs;rw[hs,bo]at hr;refine H.ld 0 rfl rfl ⟨by omega,by rw[hO.len];omega,hO.kind gF (Br.eq (fun h0=>⟨?_,H.ext⟩) fun h0=>?_)⟩
    ·rw[<-hr,aH (by omega)];rfl
    ·rw[aI h0,bo]at hr;exact ⟨t.ks.length-(i+1),by omega,i+1,some k,i1,by omega,rfl,rfl,fun h=>by omega,fun j hj=>(show i=j by omega)▸D9.symm,hr⟩
   rw[hk];refine Br.eq (fun h9=>?_) fun h9=>last (by rw[aH h9];rfl)
   cases hL:(k.toList==(⟨#[76,101,110,103,116,104]⟩:cI).toList)with
   |true=>
    refine Br.t rfl ⟨?_,H.ext⟩;rw[<-hr,hL,aI h9]
    rfl
   |false=>exact Br.f rfl (by have:=last (by rw[hL,aI h9];rfl);exact this)
  cases SC:Dz k with
  |false=>
   refine Br.t rfl ⟨?_,H.ext⟩;rw[<-hr,SC]
   rfl
  |true=>
   refine Br.f rfl ?_;cases i with
   |zero=>
    obtain rfl:=Va rfl;exact Br.f rfl (H.ld 0 rfl rfl (fin SC rfl))
   |succ i=>
    obtain rfl:=uR i rfl;have hpi:=al (show i<t.ks.length by omega);generalize t.ks[i]=kp at hpi;rw[hpi]at hr fin;refine Br.dec (fun _=>H.ld 0 rfl rfl ?_) fun q=>absurd (by omega) q
    rw[im (by omega),Nat.add_sub_cancel,G2];refine ⟨by omega,by omega,hK.get hpi ?_⟩;cases hb:Op.bytesLess kp.toList k.toList with
    |false=>
     refine Br.t rfl ⟨?_,H.ext⟩;rw[<-hr,SC];rw[show Xg (some kp) k=false from hb]
     rfl
    |true=>exact Br.f rfl (H.ld 0 rfl rfl (fin SC hb))
 ·have Oh:i=t.ks.length:=by omega
  rw[List.drop_of_length_le (by omega),List.drop_of_length_le (by omega)]at hr;exact ⟨hr,H.ext⟩
def AOj (e:Int):Value:= .iface 160 (.agg #[.int .i64 e])
def Iz (t:Tr)(deep:Int)(w:World)(v:Value)(w1:World):Prop:=Cq deep t=false/\(∃e:Int,e≠0/\v=AOj e)/\Ext (fun _=>False) w w1
theorem jW {deep:Int}(h:A6 deep t=false):Cq deep t=false:=by rw[DK,h];rfl
theorem DU:∀(d:Nat) (o:Ob) (t:Tr) (deep:Int) (w:World),JN w d o t->0<=deep->deep<=25->(∀(x:Ob) (t':Tr) (w1:World),JN w1 (d-1) x t'->t'∈t.kids->deep<=24->xM x (deep+1) w1 (fun w2=>Cq (deep+1) t'=true/\Ext (fun _=>False) w1 w2) (Iz t' (deep+1) w1))->
  xM o deep w (fun w1=>Cq deep t=true/\Ext (fun _=>False) w w1) (Iz t deep w):=by
 intro d o t deep w hT hd0 Tz IH;cases d with
 |zero=>exact hT.elim
 |succ d=>
 rw[Nat.add_sub_cancel]at IH;have hX:OX w o t:=⟨d+1,hT⟩
 obtain ⟨⟨hk,hn,hg,hs⟩,hK,L,hL,hA⟩:=hT;have G2:=hK.1.1;have hol:o.2.2.2.2.2.len=t.kids.length:=by rw[hL.1,hA.len]
 refine T69 o _ _ _ _ ?_;unfold S69;rw[B1];refine (Hn.start w).nw (cs:=AH o) fun w2 H=>?_
 simp only[ae,add_lit,ah]at H⊢;have bad:∀{v:World} {e:Int},e≠0->A6 deep t=false->Ext (fun _=>False) w v->Iz t deep w (.iface 160 (.agg #[.int .i64 e])) v:=fun he hh hv=>⟨jW hh,⟨_,he,rfl⟩,hv⟩
 refine A8 _ _ _ (fun q=>?_) fun q=>bad (by decide) (by unfold A6;rw[q];rfl) H.ext
 have AOk:=bh q;refine H.ld 0 rfl rfl ((wN o.1 w2).mono ?_);rintro r6 r7 w4 ⟨hu,e4⟩;have H:=H.AB e4;rw[hk]at hu;refine H.nw (cs:=[.bool false,.bool false,.bool false,.bool false,.bool false]) fun w5 H=>?_
 simp only[ag,ae,add_lit,ah]at H⊢
 iterate 5 (refine H.st 1 rfl (by simp) fun _ H=>?_;simp only[aa,ab]at H)
 refine As.intro ?_;cases p3:CN t.k with
 |none=>
  unfold qO at hu;rw[p3]at hu;obtain ⟨rfl,rfl⟩:=Prod.mk.inj hu;refine Br.f rfl (A8 _ _ _ (fun q=>by cases q) fun _=>bad (by decide) (by unfold A6;rw[p3,bN]) H.ext)
 |some u=>
 have hh:A6 deep t=(EU deep t u&&Ey t u):=by
  unfold A6;rw[p3,q,bo]
 unfold qO at hu;rw[p3]at hu;obtain ⟨rfl,rfl⟩:=Prod.mk.inj hu

 have J2:∀{v:World},Hn w v [(w.heap.size,AH o,68),(w4.heap.size,[.bool u.n,.bool u.g,.bool u.s,.bool u.ks,.bool u.kids],162)]->EU deep t u=true->WU w deep w4 (fun w1=>Cq deep t=true/\Ext (fun _=>False) w w1) (Iz t deep w) () v:=by
  intro v H jz;rw[jz,bo]at hh;have X:=hX.AB H.ext;unfold WU;simp only[add_lit,ah];refine H.ldT (i:=0) (ts:=AD) (pre:=[]) (post:=[]) (x:=o) rfl rfl ((VO X v).mono ?_);rintro r w6 ⟨rfl,e6⟩;have H:=H.AB e6;refine A8 _ _ _ (fun q1=>?_) fun q1=>bad (by decide) (by rw[hh];unfold Ey;rw[q1];rfl) H.ext
  refine H.ldT (i:=0) (ts:=AD) (pre:=[]) (post:=[]) (x:=o) rfl rfl ((ng (X.AB e6) w6).mono ?_);rintro r w7 ⟨rfl,e7⟩;have H:=H.AB e7;refine A8 _ _ _ (fun q2=>?_) fun q2=>bad (by decide) (by rw[hh];unfold Ey;rw[q1,q2];rfl) H.ext
  refine H.ld 0 rfl rfl ?_;rw[hol];refine A8 _ _ _ (fun q3=>?_) fun q3=>bad (by decide) (by rw[hh];unfold Ey;rw[q1,q2,q3];rfl) H.ext
  have hr:Ey t u=(((t.k !=5)||Dz t.s)&&(!u.ks||Jq t)):=by unfold Ey;rw[q1,q2,q3];rfl
  rw[hr]at hh;have X:=(X.AB e6).AB e7
 
  have J1:∀{v:World},Hn w v [(w.heap.size,AH o,68),(w4.heap.size,[.bool u.n,.bool u.g,.bool u.s,.bool u.ks,.bool u.kids],162)]->A6 deep t=true->ON w deep (fun w1=>Cq deep t=true/\Ext (fun _=>False) w w1) (Iz t deep w) () v:=by
   intro v H Bo;unfold ON;simp only[add_lit,ah];refine H.ld 0 rfl rfl ?_;refine ⟨fun n st v=>∃i:Nat,st=(i:Int)/\i<=t.kids.length/\n=t.kids.length-i/\Ext (fun _=>False) w v/\∀x∈t.kids.take i,Cq (deep+1) x=true,t.kids.length,⟨0,rfl,by omega,rfl,H.ext,fun x hx=>by simp at hx⟩,?_⟩;rintro n st v ⟨i,rfl,hi,rfl,hE,Az⟩;unfold oy;rw[hol];have hlen:t.kids.length<=8191:=by
    have:=bh q3;omega
   refine Br.dec (fun q=>⟨by omega,by omega,?_⟩) fun q=>?_
   ·have gF:=al (show i<t.kids.length by omega);have Bt:t.kids[i]∈t.kids:=bH _;generalize t.kids[i]=x at gF Bt;obtain ⟨ox,Bd,hR⟩:=hA.P6 gF;refine (hL.AB hE).qQ Bd ?_;refine (Hn.start v).nw (cs:=[.int .i64 0,.int .i64 0,.int .i64 0,.string ⟨#[]⟩,AA.v ⟨none,0,0⟩,AA.v ⟨none,0,0⟩]) fun v2 G=>?_
    simp only[ae]at G;refine G.stT (i:=0) (ts:=AD) (pre:=[]) (post:=[]) (x:=ox) (zs:=[.int .i64 0,.int .i64 0,.int .i64 0,.string ⟨#[]⟩,AA.v ⟨none,0,0⟩,AA.v ⟨none,0,0⟩]) rfl rfl rfl fun v3 G=>?_
    simp only[aa,ae,aN]at G;refine G.ldT (i:=0) (ts:=AD) (pre:=[]) (post:=[]) (x:=ox) rfl rfl ?_;rw[AG (n:=deep+1) (by omega)];refine (IH ox x v3 ((hR.AB hE).AB G.ext) Bt AOk).mono ?_ ?_
    ·rintro v4 ⟨hx,e4⟩;refine ⟨t.kids.length-(i+1),by omega,i+1,by rw[AG (by omega)];rfl,by omega,rfl,(hE.tr G.ext).tr e4,fun y hy=>?_⟩;rw[aQ,gF]at hy;rcases aS.1 hy with hy|hy
     ·exact Az y hy
     ·rw[show y=x by simpa using hy];exact hx
    ·rintro y v4 ⟨hx,he,e4⟩;refine ⟨?_,he,(hE.tr G.ext).tr e4⟩;rw[DK,Bo,bo,<-ck,GZ];intro hc;rw[hc x Bt]at hx;cases hx
   ·refine ⟨?_,hE⟩;rw[DK,Bo,bo,GZ];rwa[show i=t.kids.length by omega,aP]at Az
  refine As.intro ?_;have mK:∀{v:World} (b:Bool),Hn w v [(w.heap.size,AH o,68),(w4.heap.size,[.bool u.n,.bool u.g,.bool u.s,.bool u.ks,.bool u.kids],162)]->A6 deep t=b->Aq b 3 v (fun vw=>ON w deep (fun w1=>Cq deep t=true/\Ext (fun _=>False) w w1) (Iz t deep w) () vw) (Iz t deep w):=by
   intro v b H hb;exact A8 _ _ _ (fun q=>J1 H (hb.trans q)) fun q=>bad (by decide) (hb.trans q) H.ext
 
  have ris:∀{v:World},Hn w v [(w.heap.size,AH o,68),(w4.heap.size,[.bool u.n,.bool u.g,.bool u.s,.bool u.ks,.bool u.kids],162)]->A6 deep t=(!u.ks||Jq t)->Ld v ⟨w4.heap.size,3,none⟩ Value.bool fun (US:Bool)=>
        Br (!US) (Aq true 3 v (fun vw=>ON w deep (fun w1=>Cq deep t=true/\Ext (fun _=>False) w w1) (Iz t deep w) () vw) (Iz t deep w)) (Ab v (⟨w.heap.size,0,none⟩:Addr) 0 AD fun (UT:AK)=>
         C99 UT v fun No ADF=>
          Aq No 3 ADF (fun vw=>ON w deep (fun w1=>Cq deep t=true/\Ext (fun _=>False) w w1) (Iz t deep w) () vw) (Iz t deep w)):=by
   intro v H hb;refine H.ld 1 rfl rfl ?_;cases hku:u.ks with
   |false=>
    rw[hku]at hb;exact Br.t rfl (mK true H hb)
   |true=>
    rw[hku]at hb;refine Br.f rfl (H.ldT (i:=0) (ts:=AD) (pre:=[]) (post:=[]) (x:=o) rfl rfl ((jV (hX.AB H.ext)).mono ?_));rintro r v2 ⟨rfl,e2⟩;exact mK _ (H.AB e2) hb
  refine H.ld 0 rfl rfl ?_;rw[hk];refine Br.ne (fun q5=>?_) fun q5=>H.ld 0 rfl rfl ((qP _ w7).mono ?_)
  ·exact ris H (by rw[hh,show (t.k !=5)=true by simpa using q5];rfl)
  ·rintro r w8 ⟨rfl,rfl⟩;rw[hs];have h5:(t.k !=5)=false:=by rw[q5];rfl
   rw[h5,Bool.false_or]at hh;cases hkt:Dz t.s with
   |true=>
    rw[hkt,bo]at hh;exact Br.t rfl (ris H hh)
   |false=>
    rw[hkt]at hh;exact Br.f rfl (mK false H hh)

 have leaf:∀(b:Bool) {v:World},Hn w v [(w.heap.size,AH o,68),(w4.heap.size,[.bool u.n,.bool u.g,.bool u.s,.bool u.ks,.bool u.kids],162)]->EU deep t u=b->Aq b 10 v (fun vw=>WU w deep w4 (fun w1=>Cq deep t=true/\Ext (fun _=>False) w w1) (Iz t deep w) () vw) (Iz t deep w):=by
  intro b v H hb;exact A8 _ _ _ (fun q=>J2 H (hb.trans q)) fun q=>bad (by decide) (by rw[hh,hb.trans q];rfl) H.ext
 clear J2 bad;refine Br.t rfl ?_;have E:EU deep t u=((u.n||(o.2.1==0))&&(u.g||(o.2.2.1==0))&&(u.s||(o.2.2.2.1.toList==(⟨#[]⟩:cI).toList))&&(u.ks||(((o.2.2.2.2.1.len:Nat):Int)==0))&&(u.kids||(((o.2.2.2.2.2.len:Nat):Int)==0))&&((deep==1)||(o.1 !=9))):=by
  rw[hn,hg,hs,hk,G2,hol]
  rfl
 replace H:Hn w _ [(w.heap.size,AH o,68),(w4.heap.size,[.bool u.n,.bool u.g,.bool u.s,.bool u.ks,.bool u.kids],162)]:=H
 clear hn hg hs hk G2 hol hh p3 hX hL hA hK IH
 repeat' first
  |refine leaf _ H ?_
  |refine H.ld 1 rfl rfl ?_
  |refine H.ld 0 rfl rfl ?_
  |refine BD (fun _=>?_) fun _=>?_
 all_goals (rw[E];simp only[*,Bool.or_true,Bool.true_or,Bool.false_or,Bool.or_false,cb,bo,bN,bT])
theorem TZ:∀(d:Nat) (o:Ob) (t:Tr) (deep:Int) (w:World),JN w d o t->0<=deep->deep<=25->xM o deep w (fun w1=>Cq deep t=true/\Ext (fun _=>False) w w1) (Iz t deep w)
 |0,_,_,_,_,h,_,_=>h.elim
 |d+1,o,t,deep,w,h,h0,h1=>DU (d+1) o t deep w h h0 h1 fun x t' w1 hx _ hd=>TZ d x t' (deep+1) w1 hx (by omega) (by omega)
theorem Wy (h:OX w o t):C47 o w (fun r w1=>(Cq 1 t=true/\r=0\/Cq 1 t=false/\r≠0)/\Ext (fun _=>False) w w1) fun _ _=>False:=by
 obtain ⟨d,hT⟩:=h;refine T47 o _ _ _ ?_;unfold S47;rw[B1];refine (Hn.start w).nw (cs:=AH o) fun w2 H=>?_
 simp only[ae]at H;refine lQ _ _ _ ?_;unfold Pv;refine H.nw (cs:=[.int .i64 0]) fun w3 H=>?_
 simp only[ag,ae]at H;refine T68 _ _ _ _ ?_;unfold S68;refine H.ldT (i:=0) (ts:=AD) (pre:=[]) (post:=[]) (x:=o) rfl rfl ((TZ d o t 1 w3 (hT.AB H.ext) (by decide) (by decide)).mono ?_ ?_)
 ·rintro w4 ⟨Bo,e4⟩;have H:=H.AB e4;refine H.st 1 rfl (by simp) fun w5 H=>?_
  simp only[aa,ab]at H;refine lP _ _ _ ?_;unfold Ps;exact H.ld 1 rfl rfl ⟨.inl ⟨Bo,rfl⟩,H.ext⟩
 ·rintro v w4 ⟨Bo,⟨e,he,rfl⟩,e4⟩;have H:=H.AB e4;unfold Rl;refine fE _ _ _ _ ?_;unfold MJ;refine H.nw (cs:=[.int .i64 0]) fun w5 H=>?_
  simp only[ag,ae,add_lit,ah]at H⊢;refine H.st 2 rfl (by simp) fun w6 H=>?_
  simp only[aa,ab]at H;refine H.ld 2 rfl rfl (H.st 1 rfl (by simp) fun w7 H=>?_);simp only[aa,ab]at H;exact H.ld 1 rfl rfl ⟨.inr ⟨Bo,he⟩,H.ext⟩
end
end Vl
namespace Wt
open Sh Fix Tk Tl Vl
mutual
def PT:Tr->List Pt->Prop
 | .mk k n g s ks kids,ps=>(k=0/\ps=[AX Om])\/(k=1/\ps=[AX (if n=0 then GD else KJ)])\/(k=2/\∃T D,FZ n T D/\ps=[Kw T n])\/(k=3/\∃T W P,Bp n T W P/\ps=[PA T n])\/
  (k=4/\ps=[Zb s])\/(k=5/\ps=[Cz s])\/(k=6/\∃q,PL kids q/\ps=Ao [91]::(q++[Ao [93]]))\/(k=7/\∃q,PD ks kids q/\ps=Ao [60,60]::(q++[Ao [62,62]]))\/
  (k=8/\∃T D U E,FZ n T D/\FZ g U E/\ps=[Kw T n,Kw U g,AX Vc])
def PL:List Tr->List Pt->Prop
 |[],q=>q=[]
 |t::r,q=>∃a b,PT t a/\PL r b/\q=a++b
def PD:List ByteArray->List Tr->List Pt->Prop
 |[],[],q=>q=[]
 |k::ks,t::r,q=>∃a b,PT t a/\PD ks r b/\q=Cz k::(a++b)
 |_::_,[],_=>False
 |[],_::_,_=>False
end
theorem PL.snoc:∀{l:List Tr} {t:Tr} {p q:List Pt},PL l p->PT t q->PL (l++[t]) (p++q)
 |[],t,p,q,h,k=>by
  rw[PL]at h;subst h;rw[ae,PL];exact ⟨q,[],k,rfl,by simp⟩
 |x::l,t,p,q,h,k=>by
  rw[PL]at h;obtain ⟨a,b,h1,h2,rfl⟩:=h;rw[ag,PL];exact ⟨a,b++q,h1,h2.snoc k,by simp⟩
theorem PD.snoc:∀{ks:List ByteArray} {l:List Tr} {key:ByteArray} {t:Tr} {p q:List Pt},PD ks l p->PT t q->PD (ks++[key]) (l++[t]) (p++Cz key::q)
 |[],[],key,t,p,q,h,k=>by
  rw[PD]at h;subst h;rw[ae,ae,PD];exact ⟨q,[],k,rfl,by simp⟩
 |x::ks,y::l,key,t,p,q,h,k=>by
  rw[PD]at h;obtain ⟨a,b,h1,h2,rfl⟩:=h;rw[ag,ag,PD];exact ⟨a,b++Cz key::q,h1,h2.snoc k,by simp⟩
 |_::_,[],_,_,_,_,h,_=>by rw[PD]at h;exact h.elim
 |[],_::_,_,_,_,_,h,_=>by rw[PD]at h;exact h.elim
theorem FT {deep:Int}{t:Tr}(h:A6 deep t=true)(hk:t.k=0\/t.k=1\/t.k=2\/t.k=3\/t.k=4\/t.k=5\/t.k=8):(t.k=2->-2147483647<=t.n/\t.n<=2147483647)/\(t.k=3->Dc t.n=true)/\(t.k=4->t.s.size<=32767)/\(t.k=5->t.s.size<=127/\Dz t.s=true)/\(t.k=8->(1<=t.n/\t.n<=8191)/\0<=t.g/\t.g<=65535):=by
 unfold A6 at h;simp only[aj]at h;obtain ⟨_,h⟩:=h;split at h
 ·cases h
 ·rename_i u hu;unfold Ey Bj Ql at h;simp only[aj]at h;obtain ⟨_,⟨⟨⟨hf,hs⟩,_⟩,hn⟩,_⟩:=h;refine ⟨fun e=>?_,fun e=>?_,fun e=>?_,fun e=>?_,fun e=>?_⟩<;>rw[e]at hf hs hn
  ·simpa using hf
  ·unfold Dc;simpa using hf
  ·simpa using hs
  ·exact ⟨by simpa using hs,by simpa using hn⟩
  ·simpa using hf
theorem V3 {deep:Int}{t:Tr}(h:A6 deep t=true):t.k=0\/t.k=1\/t.k=2\/t.k=3\/t.k=4\/t.k=5\/t.k=6\/t.k=7\/t.k=8\/t.k=9:=by
 unfold A6 at h;simp only[aj]at h;obtain ⟨_,h⟩:=h;split at h
 ·cases h
 ·rename_i u hu;unfold CN at hu;split at hu
  ·omega
  ·split at hu
   ·omega
   ·split at hu
    ·omega
    ·split at hu
     ·omega
     ·split at hu
      ·omega
      ·split at hu
       ·omega
       ·split at hu
        ·omega
        ·cases hu
theorem DA {Km:Bool}:∀{ks:List ByteArray} {kids:List Tr} {p:Option ByteArray},F3 Km p ks kids=true->∀k∈ks,Dz k=true
 |[],_,_,_,k,hk=>by cases hk
 |x::ks,[],_,h,_,_=>by cases h
 |x::ks,t::r,p,h,k,hk=>by
  rw[GP]at h;simp only[aj]at h;rcases aw.1 hk with rfl|hk
  ·exact h.1.1.1.1
  ·exact DA h.2 k hk
theorem CB {deep:Int}{t:Tr}(h:A6 deep t=true)(hk:t.k=7):F3 false none t.ks t.kids=true:=by
 unfold A6 at h;simp only[aj]at h;obtain ⟨_,h⟩:=h;rw[hk]at h;have hu:CN 7=some ⟨false,false,false,true,true⟩:=rfl;rw[hu]at h;unfold Ey Jq at h;simp only[aj,bI]at h;rw[hk]at h;have:=h.2.2;simpa using this
mutual
theorem gP {deep:Int}:∀(t:Tr) (ps:List Pt),Cq deep t=true->PT t ps->∀p∈ps,JA p
 | .mk k n g s ks kids,ps,h,hp=>by
  rw[Cq,aj]at h;obtain ⟨h,hL⟩:=h;have hc:=FT h;rw[PT]at hp;rcases hp with ⟨rfl,rfl⟩|⟨rfl,rfl⟩|⟨rfl,T,D,hI,rfl⟩|⟨rfl,T,W,P,hT,rfl⟩|⟨rfl,rfl⟩|⟨rfl,rfl⟩|⟨rfl,q,hq,rfl⟩|⟨rfl,q,hq,rfl⟩|⟨rfl,T,D,U,E,hI,hJ,rfl⟩
  ·exact fun p hm=>by rw[av.1 hm];exact ns
  ·exact fun p hm=>by
    rw[av.1 hm];split
    ·exact jg
    ·exact nt
  ·have hc:=(hc (by simp[Tr.k])).1 rfl;exact fun p hm=>by rw[av.1 hm];exact ok_int hI hc.1 hc.2
  ·have hc:=(hc (by simp[Tr.k])).2.1 rfl;exact fun p hm=>by rw[av.1 hm];exact nr hT hc
  ·have hc:=(hc (by simp[Tr.k])).2.2.1 rfl;exact fun p hm=>by rw[av.1 hm];exact wV hc
  ·have hc:=(hc (by simp[Tr.k])).2.2.2.1 rfl;exact fun p hm=>by rw[av.1 hm];exact Xq hc.2
  ·exact fun p hm=>by
    rcases aw.1 hm with rfl|hm
    ·exact nu
    ·rcases aS.1 hm with hm|hm
     ·exact gZ kids q hL hq p hm
     ·rw[av.1 hm];exact jh
  ·have hr:=DA (CB h rfl);exact fun p hm=>by
    rcases aw.1 hm with rfl|hm
    ·exact ADK
    ·rcases aS.1 hm with hm|hm
     ·exact gd ks kids q hr hL hq p hm
     ·rw[av.1 hm];exact ADL
  ·have hc:=(hc (by simp[Tr.k])).2.2.2.2 rfl;exact fun p hm=>by
    simp only[aw,aG,bA]at hm;have h1:(1<=n/\n<=8191)/\0<=g/\g<=65535:=hc;rcases hm with rfl|rfl|rfl
    ·exact ok_int hI (by omega) (by omega)
    ·exact ok_int hJ (by omega) (by omega)
    ·exact wX
theorem gZ {deep:Int}:∀(l:List Tr) (ps:List Pt),SG deep l=true->PL l ps->∀p∈ps,JA p
 |[],ps,h,hp,p,hm=>by
  rw[PL]at hp;subst hp;cases hm
 |t::r,ps,h,hp,p,hm=>by
  rw[SG,aj]at h;rw[PL]at hp;obtain ⟨a,b,h1,h2,rfl⟩:=hp;rcases aS.1 hm with hm|hm
  ·exact gP t a h.1 h1 p hm
  ·exact gZ r b h.2 h2 p hm
theorem gd {deep:Int}:∀(ks:List ByteArray) (l:List Tr) (ps:List Pt),(∀k∈ks,Dz k=true)->SG deep l=true->PD ks l ps->∀p∈ps,JA p
 |[],[],ps,_,h,hp,p,hm=>by
  rw[PD]at hp;subst hp;cases hm
 |k::ks,t::r,ps,hk,h,hp,p,hm=>by
  rw[SG,aj]at h;rw[PD]at hp;obtain ⟨a,b,h1,h2,rfl⟩:=hp;rcases aw.1 hm with rfl|hm
  ·exact Xq (hk k (ax ..))
  ·rcases aS.1 hm with hm|hm
   ·exact gP t a h.1 h1 p hm
   ·exact gd ks r b (fun x hx=>hk x (ay _ hx)) h.2 h2 p hm
 |_::_,[],_,_,_,hp,_,_=>by rw[PD]at hp;exact hp.elim
 |[],_::_,_,_,_,hp,_,_=>by rw[PD]at hp;exact hp.elim
end
end Wt
namespace Vl
open Sh
def wL (G:Nat->Prop)(w:World):Nat->Ob->Tr->Prop
 |0,_,_=>False
 |d+1,o,t=>(o.1=t.k/\o.2.1=t.n/\o.2.2.1=t.g/\o.2.2.2.1=t.s)/\(KV w o.2.2.2.2.1 t.ks/\∀j,o.2.2.2.2.1.own j->G j)/\∃L:List Ob,(OV w o.2.2.2.2.2 L/\∀j,o.2.2.2.2.2.own j->G j)/\A3 (wL G w d) L t.kids
theorem KV.AF{F:Nat->Prop}{w w':World}{s:AA}{K:List ByteArray}(h:KV w s K)(he:Ext F w w')(hF:∀j,s.own j->¬F j):KV w' s K:=⟨h.1,fun i b hi=>by
 obtain ⟨a,ha,hc⟩:=h.2 i b hi;refine ⟨a,ha,?_⟩;rw[he.cell (Cs hc) (by rw[B9];exact hF _ ⟨a,ha,rfl⟩)];exact hc⟩
theorem wL.AF{G F:Nat->Prop}{w w':World}(he:Ext F w w')(hF:∀j,G j->¬F j):∀{d:Nat} {o:Ob} {t:Tr},wL G w d o t->wL G w' d o t
 |0,_,_,h=>h.elim
 |d+1,o,t,⟨h1,h2,L,h3,h4⟩=>⟨h1,⟨h2.1.AF he fun j hj=>hF j (h2.2 j hj),h2.2⟩,L,⟨⟨h3.1.1,h3.1.2.AF he fun j hj=>hF j (h3.2 j hj)⟩,h3.2⟩,h4.imp fun _ _ h=>wL.AF he hF h⟩
theorem KV.of{w:World}{s:AA}{K:List ByteArray}(h:Bb w s 1 (K.map Value.string))(hl:K.length<=9223372036854775807):KV w s K:=⟨⟨by have:=h.1;rw[aV]at this;omega,hl⟩,fun i b hi=>h.2 i _ (by rw[aR,hi];rfl)⟩
theorem KV.row{w:World}{s:AA}{K:List ByteArray}(h:Row w s 9 1 (K.map Value.string))(hl:K.length<=9223372036854775807):KV w s K:= .of h.view hl
theorem OV.row{w:World}{s:AA}{L:List Ob}(h:Row w s 68 6 (L.flatMap AH)):OV w s L:=⟨by have:=h.1;rw[FE]at this;omega,h.view⟩
section
variable {w w' w0 w1:World} {o:Ob} {t:Tr}
def wM (G:Nat->Prop)(w:World)(o:Ob)(t:Tr):Prop:=∃d,wL G w d o t
theorem wM.AF{G F:Nat->Prop}(h:wM G w o t)(he:Ext F w w')(hF:∀j,G j->¬F j):wM G w' o t:=let ⟨d,h⟩:=h;⟨d,h.AF he hF⟩
theorem wM.AB{G:Nat->Prop}(h:wM G w o t)(he:Ext (fun _=>False) w w'):wM G w' o t:=h.AF he fun _ _ h=>h
end
def LQ (S:Nat->Prop)(w:World):Nat->Ob->Tr->Prop
 |0,_,_=>False
 |d+1,o,t=>(o.1=t.k/\o.2.1=t.n/\o.2.2.1=t.g/\o.2.2.2.1=t.s)/\(KV w o.2.2.2.2.1 t.ks/\(t.ks≠[]->∀j,o.2.2.2.2.1.own j->S j))/\∃L:List Ob,(OV w o.2.2.2.2.2 L/\(L≠[]->∀j,o.2.2.2.2.2.own j->S j))/\A3 (LQ S w d) L t.kids
theorem LQ.t0z{S:Nat->Prop}{w:World}:∀{d:Nat} {o:Ob} {t:Tr},LQ S w d o t->JN w d o t
 |0,_,_,h=>h.elim
 |d+1,o,t,⟨h1,h2,L,h3,h4⟩=>⟨h1,h2.1,L,h3.1,h4.imp fun _ _ h=>h.t0z⟩
theorem LQ.AY{S S':Nat->Prop}{w:World}(hS:∀j,S j->S' j):∀{d:Nat} {o:Ob} {t:Tr},LQ S w d o t->LQ S' w d o t
 |0,_,_,h=>h.elim
 |d+1,o,t,⟨h1,h2,L,h3,h4⟩=>⟨h1,⟨h2.1,fun h j hj=>hS j (h2.2 h j hj)⟩,L,⟨h3.1,fun h j hj=>hS j (h3.2 h j hj)⟩,h4.imp fun _ _ h=>h.AY hS⟩
theorem LQ.mono{S:Nat->Prop}{w:World}:∀{d:Nat} {o:Ob} {t:Tr},LQ S w d o t->LQ S w (d+1) o t
 |0,_,_,h=>h.elim
 |d+1,o,t,⟨h1,h2,L,h3,h4⟩=>⟨h1,h2,L,h3,h4.imp fun _ _ h=>h.mono⟩
theorem LQ.le{S:Nat->Prop}{w:World}{d d':Nat}(h:d<=d'){o:Ob}{t:Tr}(k:LQ S w d o t):LQ S w d' o t:=by
 induction h with
 |refl=>exact k
 |step _ ih=>exact ih.mono
theorem jU {S F:Nat->Prop}{w w':World}{s:AA}{K:List ByteArray}(h:KV w s K)(hS:K≠[]->∀j,s.own j->S j)(he:Ext F w w')(hF:∀j,S j->¬F j):KV w' s K:=by
 by_cases hK:K=[]
 ·subst hK;exact ⟨h.1,fun i b hi=>by simp at hi⟩
 ·exact h.AF he fun j hj=>hF j (hS hK j hj)
theorem SO {S F:Nat->Prop}{w w':World}{s:AA}{L:List Ob}(h:OV w s L)(hS:L≠[]->∀j,s.own j->S j)(he:Ext F w w')(hF:∀j,S j->¬F j):OV w' s L:=by
 by_cases hL:L=[]
 ·subst hL;exact ⟨h.1,h.2.1,fun j v hj=>by simp at hj⟩
 ·exact ⟨h.1,h.2.AF he fun j hj=>hF j (hS hL j hj)⟩
theorem LQ.AF{S F:Nat->Prop}{w w':World}(he:Ext F w w')(hF:∀j,S j->¬F j):∀{d:Nat} {o:Ob} {t:Tr},LQ S w d o t->LQ S w' d o t
 |0,_,_,h=>h.elim
 |d+1,o,t,⟨h1,h2,L,h3,h4⟩=>⟨h1,⟨jU h2.1 h2.2 he hF,h2.2⟩,L,⟨SO h3.1 h3.2 he hF,h3.2⟩,h4.imp fun _ _ h=>LQ.AF he hF h⟩
theorem LQ.of{G:Nat->Prop}{w:World}:∀{d:Nat} {o:Ob} {t:Tr},wL G w d o t->LQ (fun j=>G j/\j<w.heap.size) w d o t
 |0,_,_,h=>h.elim
 |d+1,o,t,⟨h1,h2,L,h3,h4⟩=>by
  refine ⟨h1,⟨h2.1,fun Bg j hj=>⟨h2.2 j hj,?_⟩⟩,L,⟨h3.1,fun Bg j hj=>⟨h3.2 j hj,?_⟩⟩,h4.imp fun _ _ h=>LQ.of h⟩
  ·obtain ⟨b,hb⟩:∃b,t.ks[0]?=some b:=by
    cases hk:t.ks with
    |nil=>exact absurd hk Bg
    |cons x r=>exact ⟨x,rfl⟩
   obtain ⟨a,ha,hc⟩:=h2.1.2 0 b hb;obtain ⟨a',Q5,rfl⟩:=hj;rw[ha]at Q5;cases Q5;have:=Cs hc;rwa[B9]at this
  ·obtain ⟨b,hb⟩:∃b,L[0]?=some b:=by
    cases hk:L with
    |nil=>exact absurd hk Bg
    |cons x r=>exact ⟨x,rfl⟩
   obtain ⟨a,ha,hc,_⟩:=h3.1.get hb;obtain ⟨a',Q5,rfl⟩:=hj;rw[ha]at Q5;cases Q5;have:=Cs hc;rwa[B9]at this
def Ex (S:Nat->Prop)(w:World)(o:Ob)(t:Tr):Prop:=∃d,LQ S w d o t
theorem Ex.of{G:Nat->Prop}{w:World}{o:Ob}{t:Tr}(h:wM G w o t):Ex (fun j=>G j/\j<w.heap.size) w o t:=h.imp fun _ h=>LQ.of h
theorem Ex.t0z{S:Nat->Prop}{w:World}{o:Ob}{t:Tr}(h:Ex S w o t):OX w o t:=h.imp fun _ h=>h.t0z
theorem Ex.AF{S F:Nat->Prop}{w w':World}{o:Ob}{t:Tr}(h:Ex S w o t)(he:Ext F w w')(hF:∀j,S j->¬F j):Ex S w' o t:=h.imp fun _ h=>h.AF he hF
theorem Ex.AY{S S':Nat->Prop}{w:World}{o:Ob}{t:Tr}(h:Ex S w o t)(hS:∀j,S j->S' j):Ex S' w o t:=h.imp fun _ h=>h.AY hS
theorem Ck {α β:Type}{R:α->β->Prop}:∀{l:List α} {m:List β} {a:α} {b:β},A3 R l m->R a b->A3 R (l++[a]) (m++[b])
 |[],[],_,_,_,k=>⟨k,trivial⟩
 |_::_,_::_,_,_,h,k=>⟨h.1,Ck h.2 k⟩
end Vl
namespace Wt
open Sh Fix Tk Tl Vl
def Tx (xs:List ByteArray)(ps:List Pt):Prop:=xs.map bl=ps.map (·.t)
theorem Tx.app{xs ys:List ByteArray}{ps qs:List Pt}(h:Tx xs ps)(k:Tx ys qs):Tx (xs++ys) (ps++qs):=by
 unfold Tx at*;rw[bd,bd,h,k]
theorem Tx.one{x:ByteArray}{p:Pt}(h:bl x=p.t):Tx [x] [p]:=by
 unfold Tx;rw[aC,aC,h]
 rfl
theorem Tx.nil:Tx [] []:=rfl
theorem Tx.len{xs:List ByteArray}{ps:List Pt}(h:Tx xs ps):xs.length=ps.length:=by
 have:=aq List.length h;simpa using this
section
variable {w:World} {o:AK} {t:Tr}
attribute [local irreducible] Ld Sh.St Nw Nn Lt AP
def AOl (w w1:World)(r:AA)(xs:List ByteArray):Prop:=∃b,r=⟨some ⟨b,0,none⟩,xs.length,xs.length⟩/\AO w1 b (xs.map Value.string).toArray 9/\w.heap.size<=b
theorem wP {deep:Int}{t:Tr}(h:A6 deep t=true)(hk:t.k=1):t.n=0\/t.n=1:=by
 unfold A6 at h;simp only[aj]at h;obtain ⟨_,h⟩:=h;split at h
 ·cases h
 ·unfold Ey Bj at h;simp only[aj]at h;have hf:=h.2.1.1.1.1;rw[hk]at hf;simp only[if_true,bu]at hf;omega
theorem QQ {s:ByteArray}(h:Dz s=true):0∉bl s:=by
 unfold Dz at h;simp only[aj]at h;simpa[bl]using h.2
theorem jX (h:OX w o t){deep:Int}(Bo:A6 deep t=true)(h6:t.k≠6)(h7:t.k≠7)(h9:t.k≠9)(hT:Tl.PT w):
  tT o w (fun r w1=>(∃ps xs,PT t ps/\Tx xs ps/\AOl w w1 r xs)/\Ext (fun _=>False) w w1) fun _ _=>False:=by
 refine AMk _ _ _ _ ?_;unfold AAT;obtain ⟨k,n,g,s,ksl,kdl⟩:=o;obtain ⟨tk,tn,tg,ts,ks,kids⟩:=t;obtain ⟨⟨e1,e2,e3,e4⟩,_,_⟩:=h.out;simp only[Tr.k,Tr.n,Tr.g,Tr.s]at e1 e2 e3 e4 h6 h7 h9;subst e1 e2 e3 e4;have hc:=V3 Bo;have hp:=fun q=>FT Bo q
 simp only[Tr.k,Tr.n,Tr.g,Tr.s]at hc hp;refine (Hn.start w).nw (cs:=AH (k,n,g,s,ksl,kdl)) fun w2 H=>?_
 simp only[ae,AH]at H⊢;have hT2:=hT.AB H.ext;simp only[add_lit,ah];refine H.ld 0 rfl rfl ?_;refine Br.eq (fun h0=>?_) fun h0=>?_
 ·refine H.B5 (cs:=[.string ⟨#[110,117,108,108]⟩]) fun w3 H3 _=>?_
  refine ⟨⟨[AX Om],[_],by rw[PT];exact .inl ⟨h0,rfl⟩,Tx.one rfl,⟨_,rfl,H3.get 1 rfl,H3.ge 1 rfl⟩⟩,H3.ext⟩
 refine Br.eq (fun h1=>?_) fun h1=>?_
 ·have hb:n=0\/n=1:=wP Bo h1;refine H.ld 0 rfl rfl ⟨by rcases hb with h|h<;>omega,by rcases hb with h|h<;>(rw[h];decide),if n=0 then ⟨#[102,97,108,115,101]⟩else ⟨#[116,114,117,101]⟩,by rcases hb with h|h<;>(rw[h];rfl),?_⟩;refine H.B5 (cs:=[.string (if n=0 then ⟨#[102,97,108,115,101]⟩else ⟨#[116,114,117,101]⟩)]) fun w3 H3 _=>?_
  exact ⟨⟨[AX (if n=0 then GD else KJ)],[_],by rw[PT];exact .inr (.inl ⟨h1,rfl⟩),Tx.one (by by_cases h:n=0<;>simp only[h,if_true,if_false]<;>rfl),⟨_,rfl,H3.get 1 rfl,H3.ge 1 rfl⟩⟩,H3.ext⟩
 refine Br.eq (fun h2=>?_) fun h2=>?_
 ·have hr:=(hp (by simp[h2])).1 h2;refine H.ld 0 rfl rfl ((jL (by omega) (by omega) hT2).mono ?_ fun _ _ h=>h);rintro x e w3 ⟨hx,e3⟩;rcases hx with ⟨_,_,_,D,hI⟩|⟨_,h⟩
  ·refine (H.AB e3).B5 (cs:=[.string x]) fun w3 H3 _=>⟨⟨[Kw (bl x) n],[x],by rw[PT];exact .inr (.inr (.inl ⟨h2,_,D,hI,rfl⟩)),Tx.one rfl,⟨_,rfl,H3.get 1 rfl,H3.ge 1 rfl⟩⟩,H3.ext⟩
  ·omega
 refine Br.eq (fun h3=>?_) fun h3=>?_
 ·have hr:=(hp (by simp[h3])).2.1 h3;refine H.ld 0 rfl rfl ((vv n w2).mono ?_);rintro x e w3 ⟨hx,e3⟩;rcases hx with ⟨_,_,W,P,hI⟩|⟨_,h⟩
  ·refine (H.AB e3).B5 (cs:=[.string x]) fun w3 H3 _=>⟨⟨[PA (bl x) n],[x],by rw[PT];exact .inr (.inr (.inr (.inl ⟨h3,_,W,P,hI,rfl⟩))),Tx.one rfl,⟨_,rfl,H3.get 1 rfl,H3.ge 1 rfl⟩⟩,H3.ext⟩
  ·rw[hr]at h;cases h
 refine Br.eq (fun h4=>?_) fun h4=>?_
 ·have hr:=(hp (by simp[h4])).2.2.1 h4;refine H.ld 0 rfl rfl ((jO hr w2).mono ?_ fun _ _ h=>h);rintro x e w3 ⟨_,hx,e3⟩;refine (H.AB e3).B5 (cs:=[.string x]) fun w3 H3 _=>⟨⟨[Zb s],[x],by rw[PT];exact .inr (.inr (.inr (.inr (.inl ⟨h4,rfl⟩)))),Tx.one hx,⟨_,rfl,H3.get 1 rfl,H3.ge 1 rfl⟩⟩,H3.ext⟩
 refine Br.eq (fun h5=>?_) fun h5=>?_
 ·obtain ⟨hr,hk⟩:=(hp (by simp[h5])).2.2.2.1 h5;refine H.ld 0 rfl rfl ((VV hr w2).mono ?_ fun _ _ h=>h);rintro x e w3 ⟨hx,e3⟩;rcases hx with ⟨_,_,hx⟩|⟨_,h⟩
  ·refine (H.AB e3).B5 (cs:=[.string x]) fun w3 H3 _=>⟨⟨[Cz s],[x],by rw[PT];exact .inr (.inr (.inr (.inr (.inr (.inl ⟨h5,rfl⟩))))),Tx.one hx,⟨_,rfl,H3.get 1 rfl,H3.ge 1 rfl⟩⟩,H3.ext⟩
  ·exact absurd h (QQ hk)
 refine Br.eq (fun h8=>?_) fun h8=>?_
 ·obtain ⟨hr,hg⟩:=(hp (by simp[h8])).2.2.2.2 h8;refine H.ld 0 rfl rfl ((jL (by omega) (by omega) hT2).mono ?_ fun _ _ h=>h);rintro x e w3 ⟨hx,e3⟩;rcases hx with ⟨_,_,_,D,hI⟩|⟨_,h⟩
  ·refine (H.AB e3).ld 0 rfl rfl ((jL (by omega) (by omega) (hT2.AB e3)).mono ?_ fun _ _ h=>h);rintro y e w4 ⟨hy,e4⟩;rcases hy with ⟨_,_,_,E,hJ⟩|⟨_,h⟩
   ·refine ((H.AB e3).AB e4).B5 (cs:=[.string x,.string y,.string ⟨#[82]⟩]) fun w3 H3 _=>⟨⟨[Kw (bl x) n,Kw (bl y) g,AX Vc],[x,y,⟨#[82]⟩],by rw[PT];exact .inr (.inr (.inr (.inr (.inr (.inr (.inr (.inr ⟨h8,_,D,_,E,hI,hJ,rfl⟩))))))),rfl,⟨_,rfl,H3.get 1 rfl,H3.ge 1 rfl⟩⟩,H3.ext⟩
   ·omega
  ·omega
 omega
end
end Wt
end Go.Proofs.YtmaekpnpnjndoaaGreatDoor

/- Joined texts of the proof; conditions stand in each theorem. -/
import Derived.Test.YtmaekpnpnjndoaaGreatDoorQYQSta1
import Derived.Test.YtmaekpnpnjndoaaGreatDoorQYQSta7
import Derived.Test.YtmaekpnpnjndoaaGreatDoorQYQSta2
import Derived.Test.YtmaekpnpnjndoaaGreatDoorQYQSta4
import Derived.Test.YtmaekpnpnjndoaaGreatDoorQYQSta5
import Derived.Test.YtmaekpnpnjndoaaGreatDoorQYQSta6
import Derived.Test.YtmaekpnpnjndoaaGreatDoorRows
import Derived.WalkKit
import Derived.ProofKit
import Derived.OpenShut
import Derived.Deep.DeepHandedRow
import Derived.Lib.LaidTab
import Derived.Lib.LaidU8
import Derived.LaidMore
import Derived.ChangeSame
set_option linter.unusedVariables false
set_option linter.unusedSimpArgs false
open Go.Proofs.Tryz (prog)
namespace Go.Proofs.YtmaekpnpnjndoaaGreatDoor
set_option maxRecDepth 100000
set_option maxHeartbeats 4000000
namespace Wt
open Sh Fix Tk Tl Vl Go.Lib
theorem W7 {s:ByteArray}{a c:Nat}(h:D3 s a [] c):a=c:=by cases h;rfl
section
variable {w0 w w1 W v:World} {s:ByteArray} {a b c:Nat} {sl:AA} {t:Tr} {ps qs rest:List Pt} {ks:List ByteArray} {kids:List Tr}
attribute [local irreducible] Ld Sh.St Nw Nn AP Ab Ak Am
theorem FH:∀(t:Tr) (deep:Int) (o:Ob) (w:World),Cq deep t=true->1<=deep->OX w o t->eQ o w fun r w1=>(1<=r/\r+deep<=25)/\Ext (fun _=>False) w w1
 | .mk k n g y ks kids,deep,o,w,Bo,hd,h=>by
  have ih:∀t∈kids,∀(deep:Int) (o:Ob) (w:World),Cq deep t=true->1<=deep->OX w o t->eQ o w fun r w1=>(1<=r/\r+deep<=25)/\Ext (fun _=>False) w w1:=fun t ht=>FH t
  obtain ⟨G2,VX,FM⟩:=GQ Bo;have G2:kids.length<=8191:=G2;have FM:∀t∈kids,Cq (deep+1) t=true:=FM;obtain ⟨⟨hk,_⟩,_,VR⟩:=h.out;have VR:NZ w o.2.2.2.2.2 kids:=VR;refine AMj _ _ _ ?_;unfold AAS;rw[B1];refine (Hx.start w (fun _=>False)).nw fun w2 H=>?_
  simp only[ae,add_lit,ah]at H⊢;refine H.ld 0 rfl rfl ?_;have hlen:=VR.len;refine ⟨fun m st u=>∃(i:Nat) (x:Int),i<=kids.length/\st=(x,(i:Int))/\m=kids.length-i/\0<=x/\x+deep<=24/\Ext (fun _=>False) w u,kids.length,⟨0,0,by omega,rfl,by omega,by omega,by omega,H.ext⟩,?_⟩;rintro m st u ⟨i,x,hi,rfl,rfl,hx0,hx,hE⟩;unfold fG;dsimp only;refine Br.dec (fun Av=>?_) fun Fh=>?_
  ·have Av:(i:Int)<((o.2.2.2.2.2.len:Nat):Int):=Av;have Fp:i<kids.length:=by omega
   have D9:kids[i]?=some kids[i]:=al Fp;have hm:=bH Fp;obtain ⟨a,y,ha,Bd,mJ,_⟩:=NZ.at' (VR.AB hE) D9;refine ⟨by omega,by omega,?_⟩;rw[show (i:Int).toNat=i by omega,ha];refine Nn.of (mJ _ ?_);refine (Hx.start u (fun _=>False)).B5 fun u2 H2 e2=>?_
   simp only[ae]at H2;refine Hx.GX H2 0 rfl rfl (.inr (aB _)) fun u3 H3 e3=>Hx.I9 H3 0 rfl ?_
   refine (ih _ hm (deep+1) y u3 (FM _ hm) (by omega) (Bd.AB H3.ext)).mono ?_;rintro r u4 ⟨⟨N4,F4⟩,e4⟩;refine ⟨kids.length-(i+1),by omega,i+1,_,by omega,by rw[IntWalk.i64_in _ (by omega)];rfl,rfl,?_,?_,hE.tr (H3.ext.tr e4)⟩
   ·split<;>omega
   ·split<;>omega
  ·rw[IntWalk.i64_in _ (by omega)];exact ⟨⟨by omega,by omega⟩,hE⟩
termination_by t=>SizeOf.sizeOf t
decreasing_by
 have:=VS (t:= .mk k n g y ks kids) ht;exact this
theorem uY (hb:Ia w b s a sl)(hs:s.size<=549755813888)(Bo:∀k∈kids,Cq 2 k=true)(j1:∀k∈kids,Gt k=false)(h9:∀k∈kids,k.k≠9)(Ew:F3 false none ks kids=true)(hl:ks.length<=8191)(hq:PD ks kids qs)(hr:D3 s a (qs++[AX Zw]) c)(PR:Value->World->Prop):
  tG (some ⟨b,0,none⟩) w (fun r w1=>Ex (fun j=>w.heap.size<=j/\j<w1.heap.size) w1 r (.mk 7 0 0 ⟨#[]⟩ ks kids)/\Ia w1 b s c sl/\Ext (·=b) w w1) PR:=by
 obtain ⟨hlen,pT,uZ,_⟩:=JM Ew;have pU:=DA Ew;have Jb:=MP uZ;have EZ:∀k∈ks,k.size<=maxLen:=fun k hk=>bC (LO (pU k hk)) (by decide)
 refine AHY _ _ _ _ ?_;unfold zo;have Md:=AO.lt hb;refine (Hx.one (F:=(·=b)) hb).B5 fun w2 H e2=>?_
 simp only[ae,ag]at H;have HS:=e2.size;have ho2:=AO.lt (H.get 1 rfl);refine Nw.of ?_;have e3:Ext (fun _=>False) w2 (w2.alloc (.map #[] 0)):=(Ext.refl _ w2).alloc _;have H:=H.AB e3;have hM:HX (w2.alloc (.map #[] 0)) w2.heap.size (Hp [] []):=HX.new w2;have LC:w2.heap.size<(w2.alloc (.map #[] 0)).heap.size:=by simp
 generalize w2.alloc (.map #[] 0)=w3 at H hM LC e3;refine ⟨fun n _ v=>∃(i:Nat) (a:Nat) (Os:List Ob) (q:List Pt),i<=ks.length/\n=ks.length+1-i/\Hx w (·=b) v [(b,#[.string s,.int .i64 (a:Int),AA.v sl],88),(w.heap.size,QS,68)]/\HX v w2.heap.size (Hp (ks.take i) Os)/\Os.length=i/\
   A3 (Ex (fun j=>w.heap.size<=j/\j<v.heap.size/\j≠w.heap.size/\j≠w2.heap.size) v) Os (kids.take i)/\PD (ks.drop i) (kids.drop i) q/\D3 s a (q++[AX Zw]) c/\w2.heap.size<v.heap.size,ks.length+1,
  ⟨0,a,[],qs,by omega,by omega,H,(by rw[bE];exact hM),rfl,trivial,(by rw[b9,b9];exact hq),hr,LC⟩,?_⟩
 clear H hr hq hb hM e3;rintro n st v ⟨i,a,Os,q,hi,rfl,H,hM,ua,hA,hq,hr,uJ⟩;unfold eU;have LP:=H.get 0 rfl;have pY:=H.size;have OY:(ks.take i).length=Os.length:=by rw[aW,ua];omega
 cases D4:ks.drop i with
 |nil=>
  have Oh:i=ks.length:=by
   have:=aq List.length D4;rw[aM,aU]at this;omega
  have Yv:kids.drop i=[]:=List.drop_eq_nil_of_le (by omega);rw[D4,Yv,PD]at hq;subst hq;rw[Oh,hlen,aP]at hA;rw[Oh,aP]at hM OY;have Yw:=hr.le.1;obtain ⟨x,a2,hn,hk,hr⟩:=hr.next
  have hac:=W7 hr;subst hac;refine (FP LP Yw hs hn).mono ?_ fun _ _ h=>h
  rintro r v2 ⟨rfl,e2⟩;have H:=H.AB e2;have hM:=hM.AB e2;have hA:=hA.imp fun x y h=>(h.AF e2 fun j hj h=>h)
  have ub:=e2.size;refine H.B5 fun v3 H e3=>?_
  have hM:=hM.AB e3;have hA:=hA.imp fun x y h=>(h.AF e3 fun j hj h=>h)
  have mM:=e3.size;simp only[ae,ag,add_lit,ah]at H⊢;refine H.BZ 2 rfl (by simp) (.inr (by omega)) fun u1 H f1=>?_
  simp only[af,aa,ab]at H;refine H.BZ 2 rfl (by simp) (.inr (by omega)) fun u2 H f2=>?_
  simp only[af,aa,ab]at H;refine H.BZ 2 rfl (by simp) (.inr (by omega)) fun u3 H f3=>?_
  simp only[af,aa,ab]at H;refine H.BZ 2 rfl (by simp) (.inr (by omega)) fun u4 H f4=>?_
  simp only[af,aa,ab]at H;refine H.BZ 2 rfl (by simp) (.inr (by omega)) fun u5 H f5=>?_
  simp only[af,aa,ab]at H;have f:=((((f1.tr f2).tr f3).tr f4).tr f5).drew;have hM:=hM.AF f fun h=>by omega
  have hA:=hA.imp fun x y h=>(h.AF f fun j hj (h:j=v2.heap.size)=>by omega)
  have uc:=f.size;have H:=H.drew;refine H.ld 2 rfl rfl (Nn.of (H.ld 0 rfl rfl (BI _ _ _ rfl (H.ld 2 rfl rfl (Nn.of ?_)))));simp only[add_lit,ah];refine H.BZ 0 rfl (by simp) (.inl rfl) fun vd H e4=>?_
  simp only[af,aa,ab]at H;have hM:=hM.AF e4 fun h=>by omega
  have hA:=hA.imp fun x y h=>(h.AF e4 fun j hj (h:j=b)=>by omega)
  have Zt:=e4.size;refine As.intro (H.ld 2 rfl rfl (Br.t rfl (H.ld 2 rfl rfl (Br.t (show ((ba Zw).toList==(⟨#[73,68]⟩:cI).toList)=true by decide+kernel) ?_))));have gS:=H.get 0 rfl;have pZ:=H.get 1 rfl;have hwv:=H.size;have Hd:Hx vd (fun j=>j=w.heap.size) vd [(w.heap.size,QS,68)]:=Hx.one pZ;refine Hd.B5 fun y1 Hd g1=>?_
  simp only[ae,ag]at Hd;have hM:=hM.AB g1;have hA:=hA.imp fun x y h=>(h.AF g1 fun j hj h=>h)
  have mL:=g1.size;have Tz:=AO.lt (Hd.get 1 rfl);refine Hx.GX Hd 1 rfl rfl (.inr (aB _)) fun y2 Hd g2=>?_
  simp only[aa,ab]at Hd;have hM:=hM.AF g2 fun h=>by omega
  have hA:=hA.imp fun x y h=>(h.AF g2 fun j hj (h:j=vd.heap.size)=>by omega)
  have fc:=g2.size;obtain ⟨y3,hrn,g3,hI,pG⟩:=hM.range DW;have hA:=hA.imp fun x y h=>(h.AF g3 fun j hj h=>h)
  refine ⟨_,y3,hrn,?_⟩;refine SJ (wd:=vd) (S:=fun j=>w.heap.size<=j/\j<v.heap.size/\j≠w.heap.size/\j≠w2.heap.size) (hM.AB g3) hI uZ EZ OY (VY hA pT) (by omega) (by omega) (by omega) (aB _) (by omega) (Hd.AB g3) hA (fun j hj=>⟨by omega,hj.2.2.1⟩) hl fun r v' hx hE=>?_
  have hsE:=hE.size;refine ⟨hx.AY fun j hj=>?_,hE.AR gS (by omega),H.ext.trans hE (fun _ h=>h) fun j hj h=>by have h:j=w.heap.size:=h;omega⟩;rcases hj with hj|hj
  ·exact ⟨hj.1,by omega⟩
  ·exact ⟨by omega,hj.2⟩
 |cons key kr=>
  have Fp:i<ks.length:=by
   have:=aq List.length D4;rw[aM,ar]at this;omega
  cases Yv:kids.drop i with
  |nil=>
   have:=aq List.length Yv;rw[aM,aU]at this;omega
  |cons k r=>
  rw[D4,Yv,PD]at hq;obtain ⟨qa,qb,j4,SK,rfl⟩:=hq;have Cx:ks[i]?=some key:=by
   have:=aq (fun l=>l[0]?) D4;simpa using this
  have D9:kids[i]?=some k:=by
   have:=aq (fun l=>l[0]?) Yv;simpa using this
  have Zz:=aA D9;have gT:=aA Cx;have Kv:ks.drop (i+1)=kr:=by rw[<-bc,D4];rfl
  have ue:kids.drop (i+1)=r:=by rw[<-bc,Yv];rfl
  have Hr:ks.take (i+1)=ks.take i++[key]:=by rw[aQ,Cx];rfl
  have Yx:kids.take (i+1)=kids.take i++[k]:=by rw[aQ,D9];rfl
  have Tv:key∉(Hp (ks.take i) Os).map (·.1):=by
   rw[GC OY];intro hm;obtain ⟨j,hj⟩:=bP hm;rw[List.getElem?_take]at hj;split at hj
   ·rename_i KX;have h1:=(ao.1 hj)
    have h2:=(ao.1 Cx)
    have:=(List.getElem_inj Jb).1 (h1.2.trans h2.2.symm);omega
   ·cases hj
  rw[ag,aO]at hr;have JU:N8 [AX Zw]:=⟨_,_,rfl,show ¬(5:Int)=1 by decide,fun h=>absurd h.2 (by decide+kernel)⟩
  have uf:=SM SK JU;have Yw:=hr.le.1;obtain ⟨x,a2,hn,hk,hr⟩:=hr.next
  refine (FP LP Yw hs hn).mono ?_ fun _ _ h=>h
  rintro r0 v2 ⟨rfl,e2⟩;have hsv:=pY;have H:=H.AB e2;have hM:=hM.AB e2;have hA:=hA.imp fun x y h=>(h.AF e2 fun j hj h=>h)
  have ub:=e2.size;refine H.B5 fun v3 H e3=>?_
  have hM:=hM.AB e3;have hA:=hA.imp fun x y h=>(h.AF e3 fun j hj h=>h)
  have mM:=e3.size;simp only[ae,ag,add_lit,ah]at H⊢;refine H.BZ 2 rfl (by simp) (.inr (by omega)) fun u1 H f1=>?_
  simp only[af,aa,ab]at H;refine H.BZ 2 rfl (by simp) (.inr (by omega)) fun u2 H f2=>?_
  simp only[af,aa,ab]at H;refine H.BZ 2 rfl (by simp) (.inr (by omega)) fun u3 H f3=>?_
  simp only[af,aa,ab]at H;refine H.BZ 2 rfl (by simp) (.inr (by omega)) fun u4 H f4=>?_
  simp only[af,aa,ab]at H;refine H.BZ 2 rfl (by simp) (.inr (by omega)) fun u5 H f5=>?_
  simp only[af,aa,ab]at H;have f:=((((f1.tr f2).tr f3).tr f4).tr f5).drew;have hM:=hM.AF f fun h=>by omega
  have hA:=hA.imp fun x y h=>(h.AF f fun j hj (h:j=v2.heap.size)=>by omega)
  have uc:=f.size;have H:=H.drew;refine H.ld 2 rfl rfl (Nn.of (H.ld 0 rfl rfl (BI _ _ _ rfl (H.ld 2 rfl rfl (Nn.of ?_)))));simp only[add_lit,ah];refine H.BZ 0 rfl (by simp) (.inl rfl) fun v4 H e4=>?_
  simp only[af,aa,ab]at H;have hM:=hM.AF e4 fun h=>by omega
  have hA:=hA.imp fun x y h=>(h.AF e4 fun j hj (h:j=b)=>by omega)
  have Zt:=e4.size;refine As.intro (H.ld 2 rfl rfl (Br.f rfl ?_));unfold eO;simp only[add_lit,ah]
  iterate 2 refine H.ld 2 rfl rfl ?_
  refine BI _ _ _ rfl (H.ld 2 rfl rfl ?_);have mN:=hM.pQ DW Ib (QT v4) (EZ key gT);rw[JW Tv,Option.getD_none]at mN;refine ⟨Bk,_,v4,mN,?_⟩;refine H.B5 fun v5 H e5=>?_
  have hM:=hM.AB e5;have hA:=hA.imp fun x y h=>(h.AF e5 fun j hj h=>h)
  have Wi:=e5.size;simp only[ae,ag]at H;refine Hx.GX H 3 rfl rfl (.inr (by omega)) fun v6 H e6=>?_
  simp only[aa,ab]at H;have hM:=hM.AF e6 fun h=>by omega
  have hA:=hA.imp fun x y h=>(h.AF e6 fun j hj (h:j=v4.heap.size)=>by omega)
  have Zy:=e6.size;have H:=H.left (L:=[_,_,_]) (M:=[_]);refine H.ld 2 rfl rfl (BI _ _ _ rfl ?_);have hML:(Hp (ks.take i) Os).length=i:=by rw[QU OY,OY,ua]
  have SN:=hM.len (ty:=3) DW (by omega);rw[hML]at SN;refine ⟨(i:Int),v6,SN,H.ld 2 rfl rfl (BI _ _ _ (aI (show (i:Int)<8191 by omega)) ?_)⟩;have Yw:=hr.le.1;have Nc:=hr;obtain ⟨p,m,rfl,uR,ug,hp3,Zv⟩:=Cy j4;rw[ag]at hr;obtain ⟨x7,a7,hn7,hk7,_⟩:=hr.next
  refine (FP (H.get 0 rfl) Yw hs hn7).mono ?_ fun _ _ h=>h
  rintro r7 v7 ⟨rfl,e7⟩;have H:=H.AB e7;have hM:=hM.AB e7;have hA:=hA.imp fun x y h=>(h.AF e7 fun j hj h=>h)
  have xT:=e7.size;refine H.B5 fun v8 H e8=>?_
  have hM:=hM.AB e8;have hA:=hA.imp fun x y h=>(h.AF e8 fun j hj h=>h)
  have xU:=e8.size;simp only[ae,ag]at H;refine H.BZ 3 rfl (by simp) (.inr (by omega)) fun u1 H f1=>?_
  simp only[af,aa,ab]at H;refine H.BZ 3 rfl (by simp) (.inr (by omega)) fun u2 H f2=>?_
  simp only[af,aa,ab]at H;refine H.BZ 3 rfl (by simp) (.inr (by omega)) fun u3 H f3=>?_
  simp only[af,aa,ab]at H;refine H.BZ 3 rfl (by simp) (.inr (by omega)) fun u4 H f4=>?_
  simp only[af,aa,ab]at H;refine H.BZ 3 rfl (by simp) (.inr (by omega)) fun u5 H f5=>?_
  simp only[af,aa,ab]at H;have f:=((((f1.tr f2).tr f3).tr f4).tr f5).drew;have hM:=hM.AF f fun h=>by omega
  have hA:=hA.imp fun x y h=>(h.AF f fun j hj (h:j=v7.heap.size)=>by omega)
  have AU1:=f.size;have H:=H.drew;refine H.ld 3 rfl rfl (Nn.of (H.ld 0 rfl rfl (BI _ _ _ (bne_iff_ne.2 hk7) ?_)))
  iterate 5 refine H.ld 3 rfl rfl ?_
  refine (gR (H.get 0 rfl) (p.tok (x7:Int) (a7:Int)) (VU k (Bo k Zz) (by decide) (by decide) (.inr rfl)) (j1 k Zz) (h9 k Zz) j4 Nc uf).mono ?_ fun _ _ h=>h
  rintro r1 v9 ⟨a9,Bd,hr9,ANR,e9⟩;have H:=H.MN 0 rfl ANR e9 (.inl rfl);simp only[aa,ab]at H;have hM:=hM.AF e9 fun h=>by omega
  have hA:=hA.imp fun x y h=>(h.AF e9 fun j hj (h:j=b)=>by omega)
  have xW:=e9.size;refine H.B5 fun v10 H Fq=>?_
  simp only[ae,ag]at H;have hM:=hM.AB Fq;have hA:=hA.imp fun x y h=>(h.AF Fq fun j hj h=>h)
  have Bd:=Bd.AF Fq fun j hj h=>h
  have uh:=Fq.size;refine Hx.GX H 4 rfl rfl (.inr (by omega)) fun v11 H Ts=>?_
  simp only[aa,ab]at H;have mO:=Ts.drew;have hM:=hM.AF mO fun h=>by omega
  have hA:=hA.imp fun x y h=>(h.AF mO fun j hj (h:j=v9.heap.size)=>by omega)
  have Bd:=Bd.AF mO fun j hj (h:j=v9.heap.size)=>by omega
  have ANS:=mO.size;have H:=H.drew;generalize v11.drew=AU3 at*;refine ⟨fun u=>AO u v9.heap.size (AH r1).toArray 68/\AO u v7.heap.size (j3 (p.tok (x7:Int) (a7:Int))) 114,⟨H.get 4 rfl,H.get 3 rfl⟩,?_⟩;refine Am.AR (ts:=AD) (pre:=[]) (post:=[]) (x:=r1) (fun u h=>by rw[ae,aN];exact h.1) rfl (AP.of (fun _ h=>h.2) rfl ?_);refine (FH k 2 _ _ (Bo k Zz) (by decide) Bd.t0z).mono ?_;rintro dd v12 ⟨⟨_,hdd⟩,Zq⟩;have H:=H.AB Zq;have hM:=hM.AB Zq;have hA:=hA.imp fun x y h=>(h.AF Zq fun j hj h=>h)
  have Bd:=Bd.AF Zq fun j hj h=>h
  have AM2:=Zq.size;refine ⟨⟨H.get 4 rfl,H.get 3 rfl⟩,BI _ _ _ (aI (show dd<24 by omega)) (H.ld 2 rfl rfl (Hx.I9 H 4 rfl ?_))⟩;obtain ⟨v13,ANT,hM,ju⟩:=hM.put DW Ib (EZ key gT) (.agg (AH r1).toArray);rw[show JV (Hp (ks.take i) Os) key (.agg (AH r1).toArray)=Hp (ks.take (i+1)) (Os++[r1])from by
   rw[Hr,Mm OY];rcases GW (Hp (ks.take i) Os) key (.agg (AH r1).toArray)with ⟨h,_⟩|⟨_,h⟩
   ·exact absurd h Tv
   ·exact h]at hM
  refine ⟨v13,ANT,?_⟩;have H:=(H.left (L:=[_,_]) (M:=[_,_,_])).other ju (fun j (hj:j=w2.heap.size)=>by
   simp only[aC,br,aw,aG,bA,not_or];omega) fun j (hj:j=w2.heap.size)=> .inr (by omega)
  have AM3:=ju.size;refine ⟨ks.length-i,by omega,i+1,a9,Os++[r1],qb,by omega,by omega,H,hM,by rw[ai,ua];rfl,?_,by rw[Kv,ue];exact SK,hr9,by omega⟩;rw[Yx];refine Ck (hA.imp fun x y h=>(h.AF ju fun j hj (h:j=w2.heap.size)=>hj.2.2.2 h).AY fun j hj=>⟨hj.1,by omega,hj.2.2.1,hj.2.2.2⟩) ((Bd.AF ju fun j hj (h:j=w2.heap.size)=>by omega).AY fun j hj=>⟨by omega,by omega,by omega,by omega⟩)
end
end Wt
namespace Wt
open Sh Fix Tk Tl Vl Go.Lib
theorem getD_drop (l:By)(m j:Nat):(l.drop m).getD j 0=l.getD (m+j) 0:=by
 rw[aE,aE,cF]
theorem Yy (l:By){m:Nat}(hm:m<=l.length)(j:Nat):Ev l (m+j)=Ev (l.drop m) j:=by
 unfold Ev;rw[getD_drop,getD_drop,bc,aM];rw[show m+(j+3)=m+j+3 by omega,show m+(j+1)=m+j+1 by omega];rw[show decide (m+j+3=l.length)=decide (j+3=l.length-m)from decide_eq_decide.2 (by omega)]
theorem ui {l:By}:hasPrefix l [69,73]=true↔∃r,l=69::73::r:=by
 unfold hasPrefix;constructor
 ·intro h;obtain ⟨r,hr⟩:=cf.1 h;exact ⟨r,hr.symm⟩
 ·rintro ⟨r,rfl⟩;exact cf.2 ⟨r,rfl⟩
theorem mP {data B:By}(h:Dq data=true){j:Nat}(hj:j<data.length):Ev (data++10::69::73::10::B) j=false:=by
 have hd:Ev data j=false:=by
  unfold Dq at h;have:=aJ.1 h j (cw.2 hj);simpa using this
 rw[Bool.eq_false_iff];intro hb;unfold Ev at hb hd;simp only[aj]at hb;obtain ⟨⟨h1,h2⟩,h3⟩:=hb;have g1:∀i,i<data.length->(data++10::69::73::10::B).getD i 0=data.getD i 0:=fun i hi=>by
  rw[aE,aE,bj hi]
 rw[g1 j hj]at h1;rw[List.drop_append_of_le_length (by omega)]at h2;obtain ⟨r,hr⟩:=ui.1 h2;have hlen:(data.drop (j+1)).length=data.length-(j+1):=aM
 match hx:data.drop (j+1),hlen with
 |[],_=>
  rw[hx,ae]at hr;injection hr with e _;exact absurd e (by decide)
 |[c],_=>
  rw[hx]at hr;injection hr with _ hr;injection hr with e _;exact absurd e (by decide)
 |c::d::t,hlen=>
  rw[hx]at hr;injection hr with e1 hr;injection hr with e2 _;rw[h1,hx,e1,e2,ui.2 ⟨t,rfl⟩,bo,bo]at hd;simp only[ar]at hlen;simp only[cD,bM]at hd;obtain ⟨k1,k2⟩:=hd;have hl3:j+3<data.length:=by omega
  rw[g1 (j+3) hl3]at h3;simp only[bI,bu,ai]at h3;rcases h3 with h3|h3
  ·omega
  ·rw[h3]at k2;cases k2
theorem mQ (data B:By):Ev (data++10::69::73::10::B) data.length=true:=by
 unfold Ev;have g:∀i,(data++10::69::73::10::B).getD (data.length+i) 0=(10::69::73::10::B).getD i 0:=fun i=>by
  rw[aE,aE,bG (by omega)];rw[show data.length+i-data.length=i by omega]
 have h0:=g 0;rw[Nat.add_zero]at h0;rw[h0,g 3];have hd:(data++10::69::73::10::B).drop (data.length+1)=69::73::10::B:=by
  rw[<-bc,List.drop_left]
  rfl
 rw[hd,ui.2 ⟨_,rfl⟩];simp only[List.getD_cons_zero,List.getD_cons_succ];rw[show IU 10=true from by decide];simp
section
variable {w0 w w1 W v:World} {s:ByteArray} {a b c:Nat} {sl:AA} {t:Tr} {ps qs rest:List Pt} {ks:List ByteArray} {kids:List Tr}
attribute [local irreducible] Ld Sh.St Nw Nn AP Ab Ak Am
theorem gU (hb:Ia w b s a sl){i:Nat}(hi:i<s.size){ch:UInt8}(hc:(bl s)[i]?=some ch):tH (some ⟨b,0,none⟩) (i:Int) w fun r w1=>r=IU ch/\w1=w:=by
 refine AHZ _ _ _ _ ?_;unfold zp;refine Nn.of (Ld.of hb rfl (Br.dec (fun _=>Nn.of (Ld.of hb rfl ⟨by omega,by omega,?_⟩)) fun q=>absurd (show (i:Int)<((s.size:Nat):Int) by omega) q));rw[AV hc];exact GU ch w
theorem mR {data B:By}(hb:Ia w b s a sl)(hs:s.size<=549755813888)(Bo:∀k∈kids,Cq 2 k=true)(j1:∀k∈kids,Gt k=false)(h9:∀k∈kids,k.k≠9)(Ew:F3 false none ks kids=true)(hl:ks.length<=8191)(hq:PD ks kids qs)(hr:D3 s a (qs++[AX Zw]) c)
  (hd:(bl s).drop c=10::(data++10::69::73::10::B)) (j9:Dq data=true) (PR:Value->World->Prop):
  C83 (some ⟨b,0,none⟩) w (fun r w1=>∃x,bl r.1=Gu/\bl r.2.2=data/\r.2.1=⟨some ⟨x,0,none⟩,1,1⟩/\(∃o,AO w1 x (AH o).toArray 68/\Ex (fun j=>w.heap.size<=j/\j<w1.heap.size/\j≠x) w1 o (.mk 7 0 0 ⟨#[]⟩ ks kids))/\w.heap.size<=x/\x<w1.heap.size/\
   Ia w1 b s (c+data.length+4) sl/\c+data.length+4<=s.size/\(bl s).drop (c+data.length+4)=10::B/\Ext (·=b) w w1) PR:=by
 have hlen:=aq List.length hd;rw[aM,AE]at hlen;simp only[ar,ai]at hlen;have N9:c<s.size:=by omega
 have Tz:(bl s).drop (c+1)=data++10::69::73::10::B:=by rw[<-bc,hd];rfl
 have W8:(bl s)[c]?=some 10:=by
  have:((bl s).drop c)[0]?=some 10:=by rw[hd];rfl
  rw[cF]at this;exact this
 refine T83 _ _ _ _ ?_;unfold S83;have Md:=AO.lt hb;refine (Hx.one (F:=(·=b)) hb).B5 fun w2 H e2=>?_
 simp only[ae,ag,add_lit,ah]at H⊢;have HS:=e2.size;have mL:=AO.lt (H.get 1 rfl);refine (uY (H.get 0 rfl) hs Bo j1 h9 Ew hl hq hr PR).mono ?_ fun _ _ h=>h
 rintro r w4 ⟨Bd,LP,e4⟩;have H:=H.MN 0 rfl LP e4 (.inl rfl);simp only[aa,ab]at H;have Zt:=e4.size;refine H.B5 fun w5 H e5=>?_
 simp only[ae,ag]at H;have Wi:=e5.size;refine Hx.GX H 2 rfl rfl (.inr (by omega)) fun w6 H e6=>?_
 simp only[aa,ab]at H;have e6d:=e6.drew;have Zy:=e6d.size;have H:=H.drew;generalize w6.drew=w7 at*;refine ⟨fun u=>Ia u b s c sl,H.get 0 rfl,Nn.of (AP.of (fun _ h=>h) rfl (Nn.of (AP.of (fun _ h=>h) rfl ?_)))⟩;refine (gU (H.get 0 rfl) N9 W8).mono ?_;rintro r8 w8 ⟨rfl,rfl⟩;refine ⟨H.get 0 rfl,BI _ _ _ (by decide) (Nn.of (H.ld 0 rfl rfl ?_))⟩;have Bd:=((Bd.AF e5 fun _ _ h=>h).AF e6d fun j hj (h:j=w4.heap.size)=>by omega)
 have i1:IntKind.i64.wrap ((c:Int)+1)=((c+1:Nat):Int):=by rw[IntWalk.i64_in _ (by omega)];rfl
 rw[i1];refine ⟨fun n st u=>∃j:Nat,j<=data.length/\st=((c+1+j:Nat):Int)/\n=data.length-j/\u=w8,data.length,⟨0,by omega,rfl,by omega,rfl⟩,?_⟩;rintro n st u ⟨j,hj,rfl,rfl,rfl⟩;unfold oX;rw[i1];refine Nn.of (H.ld 0 rfl rfl (Br.dec (fun _=>Nn.of (H.ld 0 rfl rfl ?_)) fun q=>absurd (show ((c+1+j:Nat):Int)<((s.size:Nat):Int) by omega) q));refine (QL s (i:=c+1+j) (by omega) (by omega) _).mono ?_;rintro q w9 ⟨rfl,rfl⟩;rw[Yy _ (by rw[AE];omega),Tz];rcases cn j data.length with Av|Fh
 ·rw[mP j9 Av];exact Br.f rfl ⟨data.length-(j+1),by omega,j+1,by omega,by rw[IntWalk.i64_in _ (by omega)];rfl,rfl,rfl⟩
 ·have hje:j=data.length:=by omega
  subst hje;rw[mQ];refine Br.t rfl (Nn.of ?_);have i3:IntKind.i64.wrap (((c+1+data.length:Nat):Int)+3)=((c+data.length+4:Nat):Int):=by rw[IntWalk.i64_in _ (by omega)];omega
  rw[i3];simp only[add_lit,ah];refine H.BZ 0 rfl (by simp) (.inl rfl) fun y1 H f1=>?_
  simp only[af,aa,ab]at H;have f1d:=f1.drew;have hf1:=f1d.size;have H:=H.drew;have Bd:=Bd.AF f1d fun j hj (h:j=b)=>by omega
  generalize y1.drew=y2 at*;refine ⟨fun u=>AO u w4.heap.size (AH r).toArray 68/\Ia u b s (c+data.length+4) sl,⟨H.get 2 rfl,H.get 0 rfl⟩,?_⟩;refine Am.AR (ts:=AD) (pre:=[]) (post:=[]) (x:=r) (fun u h=>by rw[ae,aN];exact h.1) rfl (Nn.of (AP.of (fun _ h=>h.2) rfl ?_));refine ⟨by omega,by omega,by omega,by omega,H.B5 fun y3 H f3=>?_⟩;simp only[ae,ag]at H;have hf3:=f3.size;have Bd:=Bd.AF f3 fun _ _ h=>h
  refine ⟨⟨H.get 2 rfl,H.get 0 rfl⟩,?_⟩;refine H.BZ 1 rfl (by simp) (.inr (aB _)) fun z1 H g1=>?_
  simp only[af,aa,ab]at H;refine H.BZ 1 rfl (by simp) (.inr (aB _)) fun z2 H g2=>?_
  simp only[af,aa,ab]at H;refine H.BZ 1 rfl (by simp) (.inr (aB _)) fun z3 H g3=>?_
  simp only[af,aa,ab]at H;have g:=(g1.tr g2).tr g3;have hgs:=g.size;have Bd:=Bd.AF g fun j hj (h:j=w.heap.size)=>by omega
  iterate 3 refine H.ld 1 rfl rfl ?_
  have hx4:=AO.lt (H.get 3 rfl);refine ⟨y2.heap.size,rfl,?_,rfl,⟨r,H.get 3 rfl,Bd.AY fun j hj=>⟨by omega,by omega,by omega⟩⟩,by omega,hx4,H.get 0 rfl,by omega,?_,H.ext⟩
  ·rw[aF,aF,A5,Tz];rw[show c+1+data.length-(c+1)=data.length by omega];exact List.take_left
  ·rw[show c+data.length+4=c+1+(data.length+3) by omega,<-bc,Tz,<-bc,List.drop_left]
   rfl
end
end Wt
namespace Wt
open Sh Fix Tk Tl Vl Go.Lib
def IN (S:Nat->Prop)(w:World)(o:Kp)(q:Bs):Prop:=o.1=q.1/\o.2.2=q.2.2/\∃L,OV w o.2.1 L/\(L≠[]->∀j,o.2.1.own j->S j)/\A3 (Ex S w) L q.2.1
theorem IN.AF{S F:Nat->Prop}{w w':World}{o:Kp}{q:Bs}(h:IN S w o q)(he:Ext F w w')(hF:∀j,S j->¬F j):IN S w' o q:=by
 obtain ⟨h1,h2,L,h3,h4,h5⟩:=h;exact ⟨h1,h2,L,SO h3 h4 he hF,h4,h5.imp fun _ _ h=>h.AF he hF⟩
theorem IN.AY{S S':Nat->Prop}{w:World}{o:Kp}{q:Bs}(h:IN S w o q)(hS:∀j,S j->S' j):IN S' w o q:=by
 obtain ⟨h1,h2,L,h3,h4,h5⟩:=h;exact ⟨h1,h2,L,h3,fun hn j hj=>hS j (h4 hn j hj),h5.imp fun _ _ h=>h.AY hS⟩
theorem IN.t0z{S:Nat->Prop}{w:World}{o:Kp}{q:Bs}(h:IN S w o q):Qx w o q:=by
 obtain ⟨h1,h2,L,h3,h4,h5⟩:=h;obtain ⟨d,h6⟩:=GY h5;exact ⟨h1,⟨d,L,h3,h6.imp fun _ _ h=>h.t0z⟩,h2⟩
def ED (S:Nat->Prop)(w:World)(s:AA)(Q:List Bs):Prop:=∃L:List Kp,s.len=L.length/\Bb w s 3 (L.flatMap CL)/\(L≠[]->∀j,s.own j->S j)/\A3 (IN S w) L Q
theorem VZ {S F:Nat->Prop}{w w':World}{s:AA}{L:List Kp}(h:Bb w s 3 (L.flatMap CL))(hS:L≠[]->∀j,s.own j->S j)(he:Ext F w w')(hF:∀j,S j->¬F j):Bb w' s 3 (L.flatMap CL):=by
 by_cases hL:L=[]
 ·subst hL;exact ⟨h.1,fun j v hj=>by simp at hj⟩
 ·exact h.AF he fun j hj=>hF j (hS hL j hj)
theorem ED.AF{S F:Nat->Prop}{w w':World}{s:AA}{Q:List Bs}(h:ED S w s Q)(he:Ext F w w')(hF:∀j,S j->¬F j):ED S w' s Q:=by
 obtain ⟨L,h1,h2,h3,h4⟩:=h;exact ⟨L,h1,VZ h2 h3 he hF,h3,h4.imp fun _ _ h=>h.AF he hF⟩
theorem ED.AY{S S':Nat->Prop}{w:World}{s:AA}{Q:List Bs}(h:ED S w s Q)(hS:∀j,S j->S' j):ED S' w s Q:=by
 obtain ⟨L,h1,h2,h3,h4⟩:=h;exact ⟨L,h1,h2,fun hn j hj=>hS j (h3 hn j hj),h4.imp fun _ _ h=>h.AY hS⟩
theorem ED.t0z{S:Nat->Prop}{w:World}{s:AA}{Q:List Bs}(h:ED S w s Q):Kr w s Q:=by
 obtain ⟨L,h1,h2,h3,h4⟩:=h;exact ⟨L,h1,h2,h4.imp fun _ _ h=>h.t0z⟩
theorem ABU:El prog 22 33 3 56 (.agg #[.string ⟨#[]⟩,AA.v ⟨none,0,0⟩,.string ⟨#[]⟩]):=⟨by kernel_rfl,by kernel_rfl,by kernel_rfl,by kernel_rfl,rfl⟩
theorem gV (o:Kp):∀v∈CL o,v.oneCell'=true:=by
 intro v hv;simp only[CL,aw,aG,bA]at hv;rcases hv with rfl|rfl|rfl<;>rfl
theorem mS (L:List Kp):(L.flatMap CL).length=L.length*3:=by
 induction L with
 |nil=>rfl
 |cons o L ih=>rw[bB,ai,ih,ar];simp[CL];omega
theorem pc {S:World->Prop}{b:Nat}{s:ByteArray}{sl:AA}{K:AA->Prop}(h:∀w,S w->∃a,Ia w b s a sl)(k:K sl):AP S ((⟨b,0,none⟩:Addr).add 2) AA.v K:=
 ⟨sl,fun w hw=>by
  obtain ⟨a,ha⟩:=h w hw;rw[add_lit,ha.cell]
  rfl,k⟩
section
variable {w0 w w1 W v:World} {s:ByteArray} {a b c:Nat} {sl sa:AA} {t:Tr} {ps qs rest:List Pt} {ks:List ByteArray} {kids:List Tr}
attribute [local irreducible] Ld Sh.St Nw Nn AP Ab Ak Am
theorem gW {T:By}(hb:Ia w b s a sl)(hT:Mi T=false)(hl:sl.len<8191){x a1:Nat}(PR:Value->World->Prop):
  C58 (some ⟨b,0,none⟩) ((AX T).tok (x:Int) (a1:Int)) sa w (fun r w1=>r=(ba T,sa,⟨#[]⟩)/\Ia w1 b s a1 sl/\Ext (·=b) w w1) PR:=by
 unfold Mi at hT;simp only[cD,bM]at hT;obtain ⟨⟨⟨t1,t2⟩,t3⟩,t4⟩:=hT;refine T58 _ ((AX T).tok (x:Int) (a1:Int)) _ _ _ _ ?_;unfold S58;have Md:=AO.lt hb;refine (Hx.one (F:=(·=b)) hb).nw fun w2 H=>?_
 have hg:=H.size;have mL:=AO.lt (H.get 1 rfl);refine H.nw fun w3 H=>Nn.of ?_
 have H:=H.drew;simp only[ae,ag,add_lit,ah]at H⊢;refine H.ld 0 rfl rfl (H.ld 1 rfl rfl (BI _ _ _ (aI (show ((sl.len:Nat):Int)<8191 by omega)) (H.ld 1 rfl rfl (Nn.of ?_))));simp only[add_lit,ah];refine H.st 0 rfl (by simp) (.inl rfl) fun v1 H=>?_
 simp only[af,aa,ab]at H;refine As.intro (H.ld 1 rfl rfl ?_);have e:∀l:By,((AX T).s.toList==(ba l).toList)=decide (T=l):=fun l=>by
  rw[Ku];show decide (bl (ba T)=l)=_;rw[BB]
 rw[show (⟨#[66,73]⟩:cI)=ba [66,73]from rfl,show (⟨#[73,68]⟩:cI)=ba [73,68]from rfl,show (⟨#[69,73]⟩:cI)=ba [69,73]from rfl,show (⟨#[82]⟩:cI)=ba [82]from rfl];refine Br.f ((e _).trans (aH t2)) (Br.f ((e _).trans (aH t3)) (Br.f ((e _).trans (aH t4)) (Br.f ((e _).trans (aH t1)) ?_)));unfold oZ;simp only[add_lit,ah];refine H.ld 1 rfl rfl ?_
 iterate 3 (refine H.st 2 rfl (by simp) (.inr hg) fun _ H=>?_;simp only[af,aa,ab]at H)
 iterate 3 refine H.ld 2 rfl rfl ?_
 exact ⟨rfl,H.get 0 rfl,H.ext⟩
theorem gX {data B:By}{x a1:Nat}(hb:Ia w b s a sl)(hl8:sl.len<8191)(hsa:sa.len=0)(hs:s.size<=549755813888)(Bo:∀k∈kids,Cq 2 k=true)(j1:∀k∈kids,Gt k=false)(h9:∀k∈kids,k.k≠9)(Ew:F3 false none ks kids=true)(hl:ks.length<=8191)(hq:PD ks kids qs)(hr:D3 s a1 (qs++[AX Zw]) c)
  (hd:(bl s).drop c=10::(data++10::69::73::10::B)) (j9:Dq data=true) (PR:Value->World->Prop):
  C58 (some ⟨b,0,none⟩) ((AX Gu).tok (x:Int) (a1:Int)) sa w (fun r w1=>∃x,bl r.1=Gu/\bl r.2.2=data/\r.2.1=⟨some ⟨x,0,none⟩,1,1⟩/\(∃o,AO w1 x (AH o).toArray 68/\Ex (fun j=>w.heap.size<=j/\j<w1.heap.size/\j≠x) w1 o (.mk 7 0 0 ⟨#[]⟩ ks kids))/\w.heap.size<=x/\x<w1.heap.size/\
   Ia w1 b s (c+data.length+4) sl/\c+data.length+4<=s.size/\(bl s).drop (c+data.length+4)=10::B/\Ext (·=b) w w1) PR:=by
 refine T58 _ ((AX Gu).tok (x:Int) (a1:Int)) _ _ _ _ ?_;unfold S58;have Md:=AO.lt hb;refine (Hx.one (F:=(·=b)) hb).nw fun w2 H=>?_
 have hg:=H.size;have mL:=AO.lt (H.get 1 rfl);refine H.nw fun w3 H=>Nn.of ?_
 have H:=H.drew;simp only[ae,ag,add_lit,ah]at H⊢;have fc:=AO.lt (H.get 2 rfl);refine H.ld 0 rfl rfl (H.ld 1 rfl rfl (BI _ _ _ (aI (show ((sl.len:Nat):Int)<8191 by omega)) (H.ld 1 rfl rfl (Nn.of ?_))));simp only[add_lit,ah];refine H.BZ 0 rfl (by simp) (.inl rfl) fun v1 H e1=>?_
 simp only[af,aa,ab]at H;have jt:=e1.size;refine As.intro (H.ld 1 rfl rfl (Br.t (show ((ba Gu).toList==(⟨#[66,73]⟩:cI).toList)=true by decide+kernel) (H.ld 1 rfl rfl (BI _ _ _ (bX.2 (show ((sa.len:Nat):Int)=0 by omega)) ?_))));refine (mR (H.get 0 rfl) hs Bo j1 h9 Ew hl hq hr hd j9 PR).mono ?_ fun _ _ h=>h
 rintro r v2 ⟨y,r1,r2,r3,⟨o,hbo,Bd⟩,hy1,hy2,LP,N9,D4,e2⟩;have H:=H.MN 0 rfl LP e2 (.inl rfl);simp only[aa,ab]at H;have HS:=e2.size;refine H.BZ 2 rfl (by simp) (.inr hg) fun z1 H g1=>?_
 simp only[af,aa,ab]at H;refine H.BZ 2 rfl (by simp) (.inr hg) fun z2 H g2=>?_
 simp only[af,aa,ab]at H;refine H.BZ 2 rfl (by simp) (.inr hg) fun z3 H g3=>?_
 simp only[af,aa,ab]at H;have g:=(g1.tr g2).tr g3;have hgs:=g.size
 iterate 3 refine H.ld 2 rfl rfl ?_
 exact ⟨y,r1,r2,r3,⟨o,g.AR hbo (by omega),(Bd.AF g fun j hj (h:j=w2.heap.size)=>by omega).AY fun j hj=>⟨by omega,by omega,hj.2.2⟩⟩,by omega,by omega,H.get 0 rfl,N9,D4,H.ext⟩
end
end Wt
namespace Wt
open Sh Fix Tk Tl Vl Go.Lib
theorem SP {s:ByteArray}(hs:s.size<=1099511627776){p:Pt}{r:List Pt}{pre rest:By}{a:Nat}(hp:pre=[]\/pre=[10])(hr:∀c,rest.head?=some c->Ae c=false)(Bo:∀x∈p::r,JA x)(ha:a<=s.size)(hd:(bl s).drop a=pre++(AZ 32 ((p::r).map (·.t))++rest)):
  ∃c,D3 s a (p::r) c/\(bl s).drop c=rest:=by
 have Va:=Bo p (ax ..);have hpr:∀q∈r,JA q:=fun q hq=>Bo q (ay _ hq)
 rw[aC,Wz Va.ne _ (by rintro ⟨h|h,_⟩<;>exact absurd h (by decide))]at hd;obtain ⟨d,tl,IY⟩:∃d tl,p.t=d::tl:=by
  cases IY:p.t with
  |nil=>exact absurd IY Va.ne
  |cons d tl=>exact ⟨d,tl,rfl⟩
 have hw:IU d=false:=by simpa[IY]using Va.ws
 have hm:d≠37:=by simpa[IY]using Va.rm
 have key:∃b,a+Ag ((bl s).drop a) false=b/\(bl s).drop b=p.t++(AZ (p.t.getLastD 0) (r.map (·.t))++rest):=by
  rcases hp with rfl|rfl
  ·refine ⟨a,?_,by rw[hd];simp⟩;rw[hd,IY];simp only[ag,ae,aO];rw[Jc hw hm]
   rfl
  ·refine ⟨a+1,?_,by rw[<-bc,hd];simp⟩;rw[hd,IY];simp only[ag,ae,aO];show a+(1+Ag _ false)=a+1;rw[Jc hw hm]
 obtain ⟨b,hb,Yz⟩:=key;have hl:=Va.lex s a b _ ha hs hb Yz fun h=>Oi hpr h hr
 have Md:b+p.t.length<=s.size:=by
  have LY:=GV ha hb;have:=aq List.length Yz;rw[aM,ai,AE]at this;omega
 obtain ⟨c,h1,h2⟩:=SQ hs hr r (p.t.getLastD 0) (b+p.t.length) hpr Md (by rw[<-bc,Yz];exact Mn rfl);exact ⟨c,.cons ha hl Va.k0 h1,h2⟩
def Pos (s:ByteArray)(Q:List Bs)(k i a:Nat):Prop:=
 (i=0/\∃pre B,(pre=[]\/pre=[10])/\(bl s).drop a=pre++B/\a<=s.size/\Ek (Q.drop k) B)\/
 ∃q,Q[k]?=some q/\bl q.1≠Gu/\i<=q.2.1.length/\∃qs c B,PL (q.2.1.drop i) qs/\D3 s a (qs++[AX (bl q.1)]) c/\(bl s).drop c=10::B/\Ek (Q.drop (k+1)) B
inductive Step (s:ByteArray) (Q:List Bs) (k i a:Nat):Prop where
 |done (h1:k=Q.length) (h2:i=0) (h:Dr s a fun r e=>r.1=0/\e=0):Step s Q k i a
 |image (q:Bs) (d:Tr) (qa:List Pt) (x a1 c:Nat) (B:By) (hq:Q[k]?=some q) (hb:bl q.1=Gu) (hi:i=0) (hd:q.2.1=[d]) (hp:PD d.ks d.kids qa) (hn:Dr s a fun r e=>r=(AX Gu).tok (x:Int) (a1:Int)/\e=0) (hr:D3 s a1 (qa++[AX Zw]) c)
   (hc:(bl s).drop c=10::(bl q.2.2++10::69::73::10::B)) (hk:∀a',a'<=s.size->(bl s).drop a'=10::B->Pos s Q (k+1) 0 a'):Step s Q k i a
 |arg (q:Bs) (t:Tr) (ps rest:List Pt) (c:Nat) (hq:Q[k]?=some q) (hb:bl q.1≠Gu) (ht:q.2.1[i]?=some t) (hp:PT t ps) (hr:D3 s a (ps++rest) c) (hn:FQ rest) (hk:∀a',D3 s a' rest c->Pos s Q k (i+1) a'):Step s Q k i a
 |name (q:Bs) (x a1:Nat) (hq:Q[k]?=some q) (hb:bl q.1≠Gu) (hi:i=q.2.1.length) (hn:Dr s a fun r e=>r=(AX (bl q.1)).tok (x:Int) (a1:Int)/\e=0) (hk:Pos s Q (k+1) 0 a1):Step s Q k i a
theorem ABX:JA (AX Gu):=FR (by decide+kernel)
theorem ABY:JA (AX Zw):=FR (by decide+kernel)
theorem gY {s:ByteArray}{Q:List Bs}{k i a:Nat}(hs:s.size<=1099511627776)(hG:∀q∈Q,DH q)(hk:k<=Q.length)(Yw:a<=s.size)(h:Pos s Q k i a):Step s Q k i a:=by
 have inside:∀{i a:Nat} {q:Bs},Q[k]?=some q->bl q.1≠Gu->i<=q.2.1.length->(∃qs c B,PL (q.2.1.drop i) qs/\D3 s a (qs++[AX (bl q.1)]) c/\(bl s).drop c=10::B/\Ek (Q.drop (k+1)) B)->Step s Q k i a:=by
  intro i a q hq hb hi ⟨qs,c,B,hP,hr,hd,hT⟩;have hg:=hG q (aA hq);obtain ⟨Oj,_,_⟩:Oe (bl q.1)/\q.2.1.length<=32/\bl q.2.2=[]:=by
   rcases hg.1 with ⟨h,_⟩|⟨_,h⟩
   ·exact absurd h hb
   ·exact h
  cases D4:q.2.1.drop i with
  |nil=>
   rw[D4,PL]at hP;subst hP;have La:i=q.2.1.length:=by
    have:=aq List.length D4;rw[aM,aU]at this;omega
   obtain ⟨x,a1,hn,_,hr⟩:=hr.next
   have:=W7 hr;subst this;exact .name q x a1 hq hb La hn (.inl ⟨rfl,[10],B,.inr rfl,hd,hr.le.1,hT⟩)
  |cons t r=>
   rw[D4,PL]at hP;obtain ⟨qa,qb,j4,SK,rfl⟩:=hP;have hit:q.2.1[i]?=some t:=by
    have:=aq (fun l=>l[0]?) D4;simpa using this
   have Kv:q.2.1.drop (i+1)=r:=by rw[<-bc,D4];rfl
   have JU:N8 [AX (bl q.1)]:=⟨_,_,rfl,show ¬(5:Int)=1 by decide,fun h=>by
    have h2:(ba (bl q.1)).toList=(⟨#[82]⟩:cI).toList:=h.2;rw[KI,ByteArray.toList_eq,ByteArray.toList_eq]at h2;have h3:=Oj.2.2;unfold Mi at h3;simp only[cD,bM]at h3;exact h3.1.1.1 h2⟩
   rw[aO]at hr;have La:i<q.2.1.length:=(ao.1 hit).1;exact .arg q t qa (qb++[AX (bl q.1)]) c hq hb hit j4 hr (Mo SK JU).1 fun a' hr'=> .inr ⟨q,hq,hb,La,qb,c,B,by rw[Kv];exact SK,hr',hd,hT⟩
 rcases h with ⟨rfl,pre,B,uj,hd,ha,hT⟩|⟨q,hq,hb,hi,h⟩
 ·cases D4:Q.drop k with
  |nil=>
   rw[D4]at hT;have hB:B=[]:=hT;subst hB;have G2:k=Q.length:=by
    have:=aq List.length D4;rw[aM,aU]at this;omega
   have hlen:=aq List.length hd;rw[aM,AE]at hlen;have hsk:a+Ag ((bl s).drop a) false=s.size:=by
    rw[hd];rcases uj with rfl|rfl
    ·simp only[aN,aU]at hlen;show a+0=_;omega
    ·simp only[aN,ar,aU]at hlen;show a+(1+0)=_;omega
   exact .done G2 rfl fun w=>(Me ha hs hsk w).mono fun r e w1 h=>⟨⟨by rw[h.1],h.2.1⟩,h.2.2⟩
  |cons q r=>
   rw[D4]at hT;obtain ⟨A,B',⟨ps,hL,hA⟩,pd,rfl⟩:=hT;have hq:Q[k]?=some q:=by
    have:=aq (fun l=>l[0]?) D4;simpa using this
   have Kv:Q.drop (k+1)=r:=by rw[<-bc,D4];rfl
   have hg:=hG q (aA hq);rcases hL with ⟨hb,qa,hPL,rfl⟩|⟨hb,dd,qa,hqd,hPD,rfl⟩
   ·rw[az hb]at hA;subst hA;obtain ⟨Oj,_,_⟩:Oe (bl q.1)/\q.2.1.length<=32/\bl q.2.2=[]:=by
     rcases hg.1 with ⟨h,_⟩|⟨_,h⟩
     ·exact absurd h hb
     ·exact h
    have uk:∀x∈qa++[AX (bl q.1)],JA x:=fun x hx=>by
     rcases aS.1 hx with hx|hx
     ·exact gZ (deep:=1) q.2.1 qa (GZ.2 fun t ht=>(hg.2 t ht).1) hPL x hx
     ·rw[av.1 hx];exact FR Oj.1
    obtain ⟨p,m,uS⟩:∃p m,qa++[AX (bl q.1)]=p::m:=by
     cases qa with
     |nil=>exact ⟨_,_,rfl⟩
     |cons p m=>exact ⟨_,_,rfl⟩
    have HZ:(bl s).drop a=pre++(AZ 32 ((p::m).map (·.t))++10::B'):=by rw[hd,<-uS];simp
    obtain ⟨c,hr,hc⟩:=SP hs uj (fun c h=>by
     have:c=10:=by simpa using h.symm
     subst this;decide) (uS▸uk) ha HZ
    exact inside hq hb (bD _) ⟨qa,c,B',by rw[b9];exact hPL,uS▸hr,hc,Kv▸pd⟩
   ·rw[aD hb]at hA;subst hA;have ga:=hg.2 dd (by rw[hqd];exact ax ..);obtain ⟨d2,Yz,pS,j9⟩:∃d,q.2.1=[d]/\d.k=7/\Dq (bl q.2.2)=true:=by
     rcases hg.1 with h|h
     ·exact h.2
     ·exact absurd hb h.1
    have hdd:dd=d2:=by rw[hqd]at Yz;injection Yz
    subst hdd;have HY:=ga.1;rw[DK,aj]at HY;have pU:=DA (CB HY.1 pS);have uk:∀x∈AX Gu::(qa++[AX Zw]),JA x:=fun x hx=>by
     rcases aw.1 hx with rfl|hx
     ·exact ABX
     ·rcases aS.1 hx with hx|hx
      ·exact gd (deep:=2) dd.ks dd.kids qa pU HY.2 hPD x hx
      ·rw[av.1 hx];exact ABY
    have HZ:(bl s).drop a=pre++(AZ 32 ((AX Gu::(qa++[AX Zw])).map (·.t))++10::(bl q.2.2++10::69::73::10::B')):=by rw[hd];simp
    obtain ⟨c,hr,hc⟩:=SP hs uj (fun c h=>by
     have:c=10:=by simpa using h.symm
     subst this;decide) uk ha HZ
    obtain ⟨x,a1,hn,_,hr⟩:=hr.next
    exact .image q dd qa x a1 c B' hq hb rfl hqd hPD hn hr hc fun a' Q5 HZ=> .inl ⟨rfl,[10],B',.inr rfl,HZ,Q5,Kv▸pd⟩
 ·exact inside hq hb hi h
end Wt
namespace Wt
open Sh Fix Tk Tl Vl Go.Lib
def j5 (Q:List Bs)(k:Nat):Nat:=((Q.drop k).map fun q=>q.2.1.length+1).sum
theorem gg {Q:List Bs}{k:Nat}{q:Bs}(h:Q[k]?=some q):j5 Q k=q.2.1.length+1+j5 Q (k+1):=by
 unfold j5;rw[Tl.GB h,aC,bK]
theorem Y0 {p:Pt}(h:Y1 p.k p.s=true)(h5:p.k=5):F9 (bl p.s)=true:=by
 unfold Y1 at h;rw[aD h5]at h;rw[show (⟨#[116,114,117,101]⟩:cI)=ba gL from rfl,show (⟨#[102,97,108,115,101]⟩:cI)=ba VQ from rfl,show (⟨#[110,117,108,108]⟩:cI)=ba gM from rfl,Ku,Ku,Ku]at h;exact h
theorem um {s:ByteArray}{Q:List Bs}{k i a:Nat}(h:Pos s Q k i a):a<=s.size:=by
 rcases h with ⟨_,_,_,_,_,h,_⟩|⟨_,_,_,_,_,_,_,_,h,_⟩
 ·exact h
 ·exact h.le.1
theorem Rr {q:Bs}(h:DH q):q.2.1.length<=32:=by
 rcases h.1 with ⟨_,d,hd,_⟩|⟨_,_,hl,_⟩
 ·rw[hd];simp
 ·exact hl
section
variable {w0 w w1 W v:World} {s:ByteArray} {a b c:Nat} {Q:List Bs}
attribute [local irreducible] Ld Sh.St Nw Nn AP Ab Ak Am
structure RI (w:World) (b:Nat) (s:ByteArray) (Q:List Bs) (k i a:Nat) (sa sl:AA) (L:List Ob) (Lo:List Kp) (v:World):Prop where
 hx:Hx w (·=b) v [(b,#[.string s,.int .i64 (a:Int),AA.v sl],88),(w.heap.size,#[.int .i64 0,.int .i64 0],46)]
 ra:Row v sa 68 6 (L.flatMap AH)
 oa:∀j,sa.own j->w.heap.size<j
 rl:Row v sl 33 3 (Lo.flatMap CL)
 ol:∀j,sl.own j->w.heap.size<j
 dis:∀j,sa.own j->¬sl.own j
 la:L.length=i
 ll:Lo.length=k
 xa:∀q,Q[k]?=some q->A3 (Ex (fun j=>w.heap.size<j/\j<v.heap.size/\¬sa.own j/\¬sl.own j) v) L (q.2.1.take i)
 xl:A3 (IN (fun j=>w.heap.size<j/\j<v.heap.size/\¬sa.own j/\¬sl.own j) v) Lo (Q.take k)
theorem mT (hb:Ia w b s 0 ⟨none,0,0⟩)(hs:s.size<=549755813888)(hG:∀q∈Q,DH q)(hT:Ek Q (bl s))(hQ:Q.length<=8191):
  C30 (some ⟨b,0,none⟩) w fun r w1=>r=(0,0)/\∃sl a,Ia w1 b s a sl/\ED (fun j=>w.heap.size<j/\j<w1.heap.size) w1 sl Q/\Ext (·=b) w w1:=by
 refine T30 _ _ _ ?_;unfold S30;have Md:=AO.lt hb;have Jd:∀j,¬(⟨none,0,0⟩:AA).own j:=fun j hj=>by obtain ⟨a,ha,_⟩:=hj;cases ha
 refine (Hx.one (F:=(·=b)) hb).nw fun w2 H=>?_
 simp only[ae,ag]at H;refine ⟨fun n st v=>∃(k i a:Nat) (sl:AA) (L:List Ob) (Lo:List Kp),k<=Q.length/\n=j5 Q k-i/\(∀q,Q[k]?=some q->i<=q.2.1.length)/\a<=s.size/\Pos s Q k i a/\RI w b s Q k i a st sl L Lo v,j5 Q 0,
  ⟨0,0,0,⟨none,0,0⟩,[],[],bD _,rfl,fun _ _=>bD _,bD _,.inl ⟨rfl,[],bl s,.inl rfl,by simp,bD _,by rw[b9];exact hT⟩,
   ⟨H,Row.nil _ _ _,fun j hj=>(Jd j hj).elim,Row.nil _ _ _,fun j hj=>(Jd j hj).elim,fun j hj=>(Jd j hj).elim,rfl,rfl,fun q hq=>(by rw[bE];trivial),(by rw[bE];trivial)⟩⟩,?_⟩
 clear H;rintro n sa v ⟨k,i,a,sl,L,Lo,hkQ,rfl,La,Yw,Y2,R⟩;unfold od;have H:=R.hx;have hsv:=H.size;have hbv:=AO.lt (H.get 0 rfl);have hfv:=AO.lt (H.get 1 rfl);have ANV:sa.len=i:=by have:=R.ra.1;rw[FE,R.la]at this;omega
 have ANW:sl.len=k:=by have:=R.rl.1;rw[mS,R.ll]at this;omega
 rcases gY (by omega) hG hkQ Yw Y2 with ⟨h1,h2,hn⟩|⟨q,d,qa,x,a1,c,B,hq,SK,hi0,hd,hp,hn,hr,hc,hk⟩|⟨q,t,ps,rest,c,hq,SK,ht,hp,hr,uf,hk⟩|⟨q,x,a1,hq,SK,hi,hn,hk⟩
 ·
  refine (FP (H.get 0 rfl) Yw hs hn).mono ?_ fun _ _ h=>h
  rintro r0 v2 ⟨h0,e2⟩;have H:=H.AB e2;have HS:=e2.size;refine H.B5 fun v3 H e3=>?_
  simp only[ae,ag,add_lit,ah]at H⊢;have LC:=e3.size;have fc:=AO.lt (H.get 2 rfl);refine H.BZ 2 rfl (by simp) (.inr (by omega)) fun u1 H f1=>?_
  simp only[af,aa,ab]at H;refine H.BZ 2 rfl (by simp) (.inr (by omega)) fun u2 H f2=>?_
  simp only[af,aa,ab]at H;refine H.BZ 2 rfl (by simp) (.inr (by omega)) fun u3 H f3=>?_
  simp only[af,aa,ab]at H;refine H.BZ 2 rfl (by simp) (.inr (by omega)) fun u4 H f4=>?_
  simp only[af,aa,ab]at H;refine H.BZ 2 rfl (by simp) (.inr (by omega)) fun v4 H f5=>?_
  simp only[af,aa,ab]at H;have f:=(((f1.tr f2).tr f3).tr f4).tr f5;have uc:=f.size;have e4:Ext (fun _=>False) v v4:=Ext.Cg (e2.tr e3) f fun j hj=>by have hj:j=v2.heap.size:=hj;omega
  subst h1;subst h2;refine H.ld 2 rfl rfl (Br.t (bX.2 h0) (Nn.of (H.ld 0 rfl rfl (BI _ _ _ (bX.2 (show ((sa.len:Nat):Int)=0 by omega)) ?_))));refine H.BZ 1 rfl (by simp) (.inr (aB _)) fun z1 H g1=>?_
  simp only[af,aa,ab]at H;refine H.BZ 1 rfl (by simp) (.inr (aB _)) fun z2 H g2=>?_
  simp only[af,aa,ab]at H;refine lH _ _ _ ?_;unfold Po
  iterate 2 refine H.ld 1 rfl rfl ?_
  have g:=g1.tr g2;have hgs:=g.size;have hE:Ext (fun j=>j=w.heap.size) v z2:=e4.trans g (fun _ h=>h.elim) fun _ _ h=>h
  have xl:=R.xl;rw[aP]at xl;refine ⟨rfl,sl,a,H.get 0 rfl,⟨Lo,by rw[ANW,R.ll],(R.rl.AB hE fun j hj (h:j=w.heap.size)=>by have:=R.ol j hj;omega).view,fun _ j hj=>⟨R.ol j hj,by have:=R.rl.own_lt hj;omega⟩,xl.imp fun x y h=>(h.AF hE fun j hj (h:j=w.heap.size)=>by omega).AY fun j hj=>⟨hj.1,by omega⟩⟩,H.ext⟩
 ·
  have hg:=hG q (aA hq);have ga:=hg.2 d (by rw[hd];exact ax ..);obtain ⟨d2,Yz,pS,j9⟩:∃d,q.2.1=[d]/\d.k=7/\Dq (bl q.2.2)=true:=by
   rcases hg.1 with h|h
   ·exact h.2
   ·exact absurd SK h.1
  have hdd:d=d2:=by rw[hd]at Yz;injection Yz
  subst hdd;have HY:=ga.1;rw[DK,aj]at HY;have Ew:=CB HY.1 pS;obtain ⟨G2,_,FM⟩:=GQ ga.1;have AVA:=(JM Ew).1;have hdt:d= .mk 7 0 0 ⟨#[]⟩ d.ks d.kids:=by
   obtain ⟨k',n',g',s',ks',ARC⟩:=d;have pS:k'=7:=pS;subst pS;obtain ⟨t1,t2,t3,_,_⟩:=G3 HY.1 (show CN 7=some ⟨false,false,false,true,true⟩from rfl);rw[t1 rfl,t2 rfl,t3 rfl]
   rfl
  have ABZ:=ga.2.1;rw[mF,cD,F8]at ABZ;have ANX:∀k∈d.kids,Gt k=false:=fun k hk=>by
   have:=List.any_eq_false.1 ABZ.2 k hk;simpa using this
  subst hi0;have hL:L=[]:=aT R.la;subst hL;refine (FP (H.get 0 rfl) Yw hs hn).mono ?_ fun _ _ h=>h
  rintro r0 v2 ⟨rfl,e2⟩;have H:=H.AB e2;have HS:=e2.size;refine H.B5 fun v3 H e3=>?_
  simp only[ae,ag,add_lit,ah]at H⊢;have LC:=e3.size;have fc:=AO.lt (H.get 2 rfl);refine H.BZ 2 rfl (by simp) (.inr (by omega)) fun u1 H f1=>?_
  simp only[af,aa,ab]at H;refine H.BZ 2 rfl (by simp) (.inr (by omega)) fun u2 H f2=>?_
  simp only[af,aa,ab]at H;refine H.BZ 2 rfl (by simp) (.inr (by omega)) fun u3 H f3=>?_
  simp only[af,aa,ab]at H;refine H.BZ 2 rfl (by simp) (.inr (by omega)) fun u4 H f4=>?_
  simp only[af,aa,ab]at H;refine H.BZ 2 rfl (by simp) (.inr (by omega)) fun v4 H f5=>?_
  simp only[af,aa,ab]at H;have f:=(((f1.tr f2).tr f3).tr f4).tr f5;have uc:=f.size;have e4:Ext (fun _=>False) v v4:=Ext.Cg (e2.tr e3) f fun j hj=>by have hj:j=v2.heap.size:=hj;omega
  have pf:∀j,sl.own j->j<v.heap.size:=fun j hj=>R.rl.own_lt hj
  have Y3:∀j,sa.own j->j<v.heap.size:=fun j hj=>R.ra.own_lt hj
  refine H.ld 2 rfl rfl (Br.f rfl (As.intro (H.ld 2 rfl rfl (Br.t rfl (H.ld 2 rfl rfl ((LN _ _).mono ?_))))));rintro r5 v5 ⟨rfl,rfl⟩;unfold Rh;refine Br.t (show (!F9 (bl (ba Gu)))=true by decide+kernel) ?_;simp only[add_lit,ah];have ed:Ext (fun _=>False) v5 v5.drew:=(Ext.refl _ v5).drew;have H:=H.drew;have e4:=e4.tr ed;have ANY:v5.drew.heap.size=v5.heap.size:=rfl;generalize v5.drew=v6 at*;refine ⟨fun u=>(∃a,Ia u b s a sl)/\AO u v2.heap.size (j3 ((AX Gu).tok (x:Int) (a1:Int))) 114,⟨⟨_,H.get 0 rfl⟩,H.get 2 rfl⟩,Nn.of ?_⟩;refine pc (fun _ h=>h.1) ?_
  iterate 5 refine AP.of (fun _ h=>h.2) rfl ?_
  refine (gX (H.get 0 rfl) (by have:=(ao.1 hq).1;omega) ANV hs FM ANX (fun k hk=>VW (FM k hk) (by decide)) Ew (by omega) hp hr hc j9 _).mono ?_ fun _ _ h=>h
  rintro r7 v7 ⟨y,r1,r2,r3,⟨o,hbo,Bd⟩,hy1,hy2,Vb,N9,D4,e7⟩;have H:=H.MN 0 rfl Vb e7 (.inl rfl);simp only[aa,ab]at H;have xT:=e7.size;refine ⟨⟨⟨_,H.get 0 rfl⟩,H.get 2 rfl⟩,H.B5 fun v8 H e8=>?_⟩;simp only[ae,ag]at H;have xU:=e8.size;refine ⟨⟨⟨_,H.get 0 rfl⟩,H.get 2 rfl⟩,?_⟩;have hE8:Ext (fun j=>j=b) v v8:=(e4.trans e7 (fun _ h=>h.elim) fun _ _ h=>h).trans e8 (fun _ h=>h) fun _ _ h=>h.elim
  obtain ⟨s',v9,r9,wk,r93,e9,dQ⟩:=ABU.Hu (ty:=22) (R.rl.AB hE8 fun j hj (h:j=b)=>by have:=R.ol j hj;omega) (H.get 3 rfl) rfl (gV r7) (by omega) (by omega);refine ⟨s',v9,r9,?_⟩;have xW:=e9.size;have H:=(H.left (L:=[_,_]) (M:=[_,_])).other e9 (fun j hj=>by
   have h1:=R.ol j hj;simp only[aC,br,aw,aG,bA,not_or];omega) fun j hj=> .inr (by have:=R.ol j hj;omega)
  refine Nn.of ?_;simp only[add_lit,ah];refine H.BZ 0 rfl (by simp) (.inl rfl) fun v10 H Fq=>?_
  simp only[af,aa,ab]at H;have uh:=Fq.size;have Zx:Ext (fun j=>j=b\/sl.own j) v v10:=(hE8.trans e9 (fun _ h=> .inl h) fun _ _ h=> .inr h).trans Fq (fun _ h=>h) fun _ _ h=> .inl h
  have hE7:Ext (fun j=>j=b\/sl.own j) v7 v10:=(e8.trans e9 (fun _ h=>h.elim) fun _ _ h=> .inr h).trans Fq (fun _ h=>h) fun _ _ h=> .inl h
  have BX:∀j,s'.own j->w.heap.size<j:=fun j hj=>(dQ j hj).elim (R.ol j) fun h=>by omega
  have hmu:=gg hq;have htq:Q.take (k+1)=Q.take k++[q]:=by rw[aQ,hq];rfl
  have pg:r7.1=q.1:=Ci (by rw[r1,SK]);have j6:r7.2.2=q.2.2:=Ci r2;refine ⟨j5 Q (k+1)-0,by omega,k+1,0,_,s',[],Lo++[r7],(ao.1 hq).1,rfl,fun _ _=>bD _,N9,hk _ N9 D4,
   ⟨H,Row.nil _ _ _,fun j hj=>(Jd j hj).elim,?_,BX,fun j hj=>(Jd j hj).elim,rfl,by rw[ai,R.ll];rfl,fun q hq=>(by rw[bE];trivial),?_⟩⟩
  ·rw[bg,bZ];exact wk.AB Fq fun j hj (h:j=b)=>by have:=BX j hj;omega
  ·rw[htq];have k1:A3 (IN (fun j=>w.heap.size<j/\j<v10.heap.size/\¬(⟨none,0,0⟩:AA).own j/\¬s'.own j) v10) Lo (Q.take k):=by
    refine R.xl.imp fun x y h=>(h.AF Zx fun j hj h=>?_).AY fun j hj=>⟨hj.1,by omega,Jd j,fun h=>?_⟩
    ·rcases h with h|h
     ·omega
     ·exact hj.2.2.2 h
    ·rcases dQ j h with h|h
     ·exact hj.2.2.2 h
     ·omega
   have ANa:=hE7.AR hbo (fun h=>by
    rcases h with h|h
    ·omega
    ·have:=pf _ h;omega)
   have k2:OV v10 r7.2.1 [o]:=by
    rw[r3];refine OV.of (L:=[o]) (t:=68) ?_;rw[bZ];exact ANa
   have k3:∀j,r7.2.1.own j->w.heap.size<j/\j<v10.heap.size/\¬(⟨none,0,0⟩:AA).own j/\¬s'.own j:=by
    rw[r3];rintro j ⟨a',Q5,rfl⟩;cases Q5;refine ⟨by show w.heap.size<y;omega,by show y<_;omega,Jd _,fun h=>?_⟩;rcases dQ _ h with h|h
    ·have h:sl.own y:=h;have:=pf _ h;omega
    ·have h:v8.heap.size<=y:=h;omega
   have k4:Ex (fun j=>w.heap.size<j/\j<v10.heap.size/\¬(⟨none,0,0⟩:AA).own j/\¬s'.own j) v10 o d:=by
    rw[hdt];refine (Bd.AF hE7 fun j hj h=>?_).AY fun j hj=>⟨by omega,by omega,Jd j,fun h=>?_⟩
    ·rcases h with h|h
     ·omega
     ·have:=pf _ h;omega
    ·rcases dQ j h with h|h
     ·have:=pf _ h;omega
     ·omega
   exact Ck k1 ⟨pg,j6,[o],k2,fun _=>k3,by rw[hd];exact ⟨k4,trivial⟩⟩
 ·
  have hg:=hG q (aA hq);have hgl:=Rr hg;have hmt:=aA ht;have ANb:=(ao.1 ht).1;obtain ⟨uX,ANc,h9t⟩:=hg.2 t hmt;obtain ⟨p,m,rfl,uR,ug,hp3,Zv⟩:=Cy hp;have Nc:=hr;rw[ag]at hr;obtain ⟨x,a1,hn,j7,_⟩:=hr.next
  refine (FP (H.get 0 rfl) Yw hs hn).mono ?_ fun _ _ h=>h
  rintro r0 v2 ⟨rfl,e2⟩;have H:=H.AB e2;have HS:=e2.size;refine H.B5 fun v3 H e3=>?_
  simp only[ae,ag,add_lit,ah]at H⊢;have LC:=e3.size;have fc:=AO.lt (H.get 2 rfl);refine H.BZ 2 rfl (by simp) (.inr (by omega)) fun u1 H f1=>?_
  simp only[af,aa,ab]at H;refine H.BZ 2 rfl (by simp) (.inr (by omega)) fun u2 H f2=>?_
  simp only[af,aa,ab]at H;refine H.BZ 2 rfl (by simp) (.inr (by omega)) fun u3 H f3=>?_
  simp only[af,aa,ab]at H;refine H.BZ 2 rfl (by simp) (.inr (by omega)) fun u4 H f4=>?_
  simp only[af,aa,ab]at H;refine H.BZ 2 rfl (by simp) (.inr (by omega)) fun v4 H f5=>?_
  simp only[af,aa,ab]at H;have f:=(((f1.tr f2).tr f3).tr f4).tr f5;have uc:=f.size;have e4:Ext (fun _=>False) v v4:=Ext.Cg (e2.tr e3) f fun j hj=>by have hj:j=v2.heap.size:=hj;omega
  have pf:∀j,sl.own j->j<v.heap.size:=fun j hj=>R.rl.own_lt hj
  have Y3:∀j,sa.own j->j<v.heap.size:=fun j hj=>R.ra.own_lt hj
  refine H.ld 2 rfl rfl (Br.f (bf.2 j7) (As.intro (H.ld 2 rfl rfl ?_)));have J:Rh w (some ⟨b,0,none⟩) sa (fun st v=>∃n',n'<j5 Q k-i/\∃(k i a:Nat) (sl:AA) (L:List Ob) (Lo:List Kp),k<=Q.length/\n'=j5 Q k-i/\(∀q,Q[k]?=some q->i<=q.2.1.length)/\a<=s.size/\Pos s Q k i a/\RI w b s Q k i a st sl L Lo v) v2 (fun r w1=>r=(0,0)/\∃sl a,Ia w1 b s a sl/\ED (fun j=>w.heap.size<j/\j<w1.heap.size) w1 sl Q/\Ext (·=b) w w1) false v4:=by
   unfold Rh;refine Br.f rfl ?_;simp only[add_lit,ah]
   iterate 5 refine H.ld 2 rfl rfl ?_
   refine (gR (H.get 0 rfl) (p.tok (x:Int) (a1:Int)) uX ANc h9t hp Nc uf).mono ?_ fun _ _ h=>h
   rintro r7 v7 ⟨a7,Bd,hr7,Vb,e7⟩;have H:=H.MN 0 rfl Vb e7 (.inl rfl);simp only[aa,ab]at H;have xT:=e7.size;refine H.B5 fun v8 H e8=>?_
   simp only[ae,ag]at H;have xU:=e8.size;refine Hx.GX H 3 rfl rfl (.inr (by omega)) fun v9 H e9=>?_
   simp only[aa,ab]at H;have xW:=e9.size;refine H.ld 2 rfl rfl (BI _ _ _ (aI (show ((sa.len:Nat):Int)<32 by omega)) (Hx.I9 H 3 rfl ?_));refine H.B5 fun v10 H Fq=>?_
   simp only[ae,ag]at H;have uh:=Fq.size;have ABb:Ext (fun j=>j=b) v v10:=(e4.trans e7 (fun _ h=>h.elim) fun _ _ h=>h).trans (Ext.Cg e8 e9 (fun j (hj:j=v7.heap.size)=>by omega)|>.tr Fq) (fun _ h=>h) fun _ _ h=>h.elim
   obtain ⟨s',v11,Lx,yd,Eg,Ts,Rj⟩:=fU.Hu (ty:=30) (R.ra.AB ABb fun j hj (h:j=b)=>by have:=R.oa j hj;omega) (H.get 4 rfl) rfl (P4 r7) (by omega) (by omega);refine ⟨s',v11,Lx,?_⟩;have ANS:=Ts.size;have H:=(H.left (L:=[_,_]) (M:=[_,_,_])).other Ts (fun j hj=>by
    have h1:=R.oa j hj;simp only[aC,br,aw,aG,bA,not_or];omega) fun j hj=> .inr (by have:=R.oa j hj;omega)
   have Zx:Ext (fun j=>j=b\/sa.own j) v v11:=ABb.trans Ts (fun _ h=> .inl h) fun _ _ h=> .inr h
   have hE7:Ext (fun j=>j=v7.heap.size\/sa.own j) v7 v11:=((e8.trans e9 (fun _ h=>h.elim) fun _ _ h=> .inl h).trans Fq (fun _ h=>h) fun _ _ h=>h.elim).trans Ts (fun _ h=>h) fun _ _ h=> .inr h
   have BX:∀j,s'.own j->w.heap.size<j:=fun j hj=>(Rj j hj).elim (R.oa j) fun h=>by omega
   have hmu:=gg hq;have k0:Row v11 sl 33 3 (Lo.flatMap CL):=R.rl.AB Zx fun j hj h=>by
    rcases h with h|h
    ·have:=R.ol j hj;omega
    ·exact R.dis j h hj
   have k1:A3 (Ex (fun j=>w.heap.size<j/\j<v11.heap.size/\¬s'.own j/\¬sl.own j) v11) L (q.2.1.take i):=by
    refine (R.xa q hq).imp fun x y h=>(h.AF Zx fun j hj h=>?_).AY fun j hj=>⟨hj.1,by omega,fun h=>?_,hj.2.2.2⟩
    ·rcases h with h|h
     ·omega
     ·exact hj.2.2.1 h
    ·rcases Rj j h with h|h
     ·exact hj.2.2.1 h
     ·omega
   have k2:Ex (fun j=>w.heap.size<j/\j<v11.heap.size/\¬s'.own j/\¬sl.own j) v11 r7 t:=by
    refine (Bd.AF hE7 fun j hj h=>?_).AY fun j hj=>⟨by omega,by omega,fun h=>?_,fun h=>?_⟩
    ·rcases h with h|h
     ·omega
     ·have:=Y3 j h;omega
    ·rcases Rj j h with h|h
     ·have:=Y3 j h;omega
     ·omega
    ·have:=pf j h;omega
   have k3:A3 (IN (fun j=>w.heap.size<j/\j<v11.heap.size/\¬s'.own j/\¬sl.own j) v11) Lo (Q.take k):=by
    refine R.xl.imp fun x y h=>(h.AF Zx fun j hj h=>?_).AY fun j hj=>⟨hj.1,by omega,fun h=>?_,hj.2.2.2⟩
    ·rcases h with h|h
     ·omega
     ·exact hj.2.2.1 h
    ·rcases Rj j h with h|h
     ·exact hj.2.2.1 h
     ·omega
   refine ⟨j5 Q k-(i+1),by omega,k,i+1,a7,sl,L++[r7],Lo,hkQ,rfl,fun q2 j6=>?_,hr7.le.1,hk a7 hr7,
    ⟨H,?_,BX,k0,R.ol,fun j hj h=>?_,by rw[ai,R.la];rfl,R.ll,fun q2 j6=>?_,k3⟩⟩
   ·rw[hq]at j6;cases j6;exact ANb
   ·rw[bg,bZ];exact yd
   ·rcases Rj j hj with h2|h2
    ·exact R.dis j h2 h
    ·have:=pf j h;omega
   ·rw[hq]at j6;cases j6;rw[aQ,ht];exact Ck k1 k2
  refine Br.eq (fun h5=>?_) fun h5=>J
  have h5:p.k=5:=h5;refine H.ld 2 rfl rfl ((LN _ _).mono ?_);rintro r5 v5 ⟨rfl,rfl⟩;rw[show F9 (bl ((p.tok (x:Int) (a1:Int)).2.2.2.2))=true from Y0 ug h5];exact J
 ·
  have hg:=hG q (aA hq);obtain ⟨Oj,_,ANd⟩:Oe (bl q.1)/\q.2.1.length<=32/\bl q.2.2=[]:=by
   rcases hg.1 with ⟨h,_⟩|⟨_,h⟩
   ·exact absurd h SK
   ·exact h
  refine (FP (H.get 0 rfl) Yw hs hn).mono ?_ fun _ _ h=>h
  rintro r0 v2 ⟨rfl,e2⟩;have H:=H.AB e2;have HS:=e2.size;refine H.B5 fun v3 H e3=>?_
  simp only[ae,ag,add_lit,ah]at H⊢;have LC:=e3.size;have fc:=AO.lt (H.get 2 rfl);refine H.BZ 2 rfl (by simp) (.inr (by omega)) fun u1 H f1=>?_
  simp only[af,aa,ab]at H;refine H.BZ 2 rfl (by simp) (.inr (by omega)) fun u2 H f2=>?_
  simp only[af,aa,ab]at H;refine H.BZ 2 rfl (by simp) (.inr (by omega)) fun u3 H f3=>?_
  simp only[af,aa,ab]at H;refine H.BZ 2 rfl (by simp) (.inr (by omega)) fun u4 H f4=>?_
  simp only[af,aa,ab]at H;refine H.BZ 2 rfl (by simp) (.inr (by omega)) fun v4 H f5=>?_
  simp only[af,aa,ab]at H;have f:=(((f1.tr f2).tr f3).tr f4).tr f5;have uc:=f.size;have e4:Ext (fun _=>False) v v4:=Ext.Cg (e2.tr e3) f fun j hj=>by have hj:j=v2.heap.size:=hj;omega
  have pf:∀j,sl.own j->j<v.heap.size:=fun j hj=>R.rl.own_lt hj
  have Y3:∀j,sa.own j->j<v.heap.size:=fun j hj=>R.ra.own_lt hj
  refine H.ld 2 rfl rfl (Br.f rfl (As.intro (H.ld 2 rfl rfl (Br.t rfl (H.ld 2 rfl rfl ((LN _ _).mono ?_))))));rintro r5 v5 ⟨rfl,rfl⟩;unfold Rh;refine Br.t (show (!F9 (bl (ba (bl q.1))))=true by rw[BB,Oj.2.1];rfl) ?_;simp only[add_lit,ah];have ed:Ext (fun _=>False) v5 v5.drew:=(Ext.refl _ v5).drew;have H:=H.drew;have e4:=e4.tr ed;have ANY:v5.drew.heap.size=v5.heap.size:=rfl;generalize v5.drew=v6 at*;refine ⟨fun u=>(∃a,Ia u b s a sl)/\AO u v2.heap.size (j3 ((AX (bl q.1)).tok (x:Int) (a1:Int))) 114,⟨⟨_,H.get 0 rfl⟩,H.get 2 rfl⟩,Nn.of ?_⟩;refine pc (fun _ h=>h.1) ?_
  iterate 5 refine AP.of (fun _ h=>h.2) rfl ?_
  refine (gW (H.get 0 rfl) Oj.2.2 (by have:=(ao.1 hq).1;omega) _).mono ?_ fun _ _ h=>h
  rintro r7 v7 ⟨rfl,Vb,e7⟩;have H:=H.MN 0 rfl Vb e7 (.inl rfl);simp only[aa,ab]at H;have xT:=e7.size;refine ⟨⟨⟨_,H.get 0 rfl⟩,H.get 2 rfl⟩,H.B5 fun v8 H e8=>?_⟩;simp only[ae,ag]at H;have xU:=e8.size;refine ⟨⟨⟨_,H.get 0 rfl⟩,H.get 2 rfl⟩,?_⟩;have hE8:Ext (fun j=>j=b) v v8:=(e4.trans e7 (fun _ h=>h.elim) fun _ _ h=>h).trans e8 (fun _ h=>h) fun _ _ h=>h.elim
  obtain ⟨s',v9,r9,wk,r93,e9,dQ⟩:=ABU.Hu (ty:=22) (R.rl.AB hE8 fun j hj (h:j=b)=>by have:=R.ol j hj;omega) (H.get 3 rfl) rfl (gV (ba (bl q.1),sa,⟨#[]⟩)) (by omega) (by omega);refine ⟨s',v9,r9,?_⟩;have xW:=e9.size;have H:=(H.left (L:=[_,_]) (M:=[_,_])).other e9 (fun j hj=>by
   have h1:=R.ol j hj;simp only[aC,br,aw,aG,bA,not_or];omega) fun j hj=> .inr (by have:=R.ol j hj;omega)
  refine Nn.of ?_;simp only[add_lit,ah];refine H.BZ 0 rfl (by simp) (.inl rfl) fun v10 H Fq=>?_
  simp only[af,aa,ab]at H;have uh:=Fq.size;have Zx:Ext (fun j=>j=b\/sl.own j) v v10:=(hE8.trans e9 (fun _ h=> .inl h) fun _ _ h=> .inr h).trans Fq (fun _ h=>h) fun _ _ h=> .inl h
  have BX:∀j,s'.own j->w.heap.size<j:=fun j hj=>(dQ j hj).elim (R.ol j) fun h=>by omega
  have hmu:=gg hq;have htq:Q.take (k+1)=Q.take k++[q]:=by rw[aQ,hq];rfl
  refine ⟨j5 Q (k+1)-0,by omega,k+1,0,a1,s',[],Lo++[(ba (bl q.1),sa,⟨#[]⟩)],(ao.1 hq).1,rfl,fun _ _=>bD _,?_,hk,
   ⟨H,Row.nil _ _ _,fun j hj=>(Jd j hj).elim,?_,BX,fun j hj=>(Jd j hj).elim,rfl,by rw[ai,R.ll];rfl,fun q hq=>(by rw[bE];trivial),?_⟩⟩
  ·exact um hk
  ·rw[bg,bZ];exact wk.AB Fq fun j hj (h:j=b)=>by have:=BX j hj;omega
  ·rw[htq];have k1:A3 (IN (fun j=>w.heap.size<j/\j<v10.heap.size/\¬(⟨none,0,0⟩:AA).own j/\¬s'.own j) v10) Lo (Q.take k):=by
    refine R.xl.imp fun x y h=>(h.AF Zx fun j hj h=>?_).AY fun j hj=>⟨hj.1,by omega,Jd j,fun h=>?_⟩
    ·rcases h with h|h
     ·omega
     ·exact hj.2.2.2 h
    ·rcases dQ j h with h|h
     ·exact hj.2.2.2 h
     ·omega
   have k2:Row v10 sa 68 6 (L.flatMap AH):=R.ra.AB Zx fun j hj h=>by
    rcases h with h|h
    ·have:=R.oa j hj;omega
    ·exact R.dis j hj h
   have k3:∀j,sa.own j->w.heap.size<j/\j<v10.heap.size/\¬(⟨none,0,0⟩:AA).own j/\¬s'.own j:=fun j hj=>⟨R.oa j hj,by have:=Y3 j hj;omega,Jd j,fun h=>by
    rcases dQ j h with h|h
    ·exact R.dis j hj h
    ·have:=Y3 j hj;omega⟩
   have xa:=R.xa q hq;rw[hi,aP]at xa;have k4:A3 (Ex (fun j=>w.heap.size<j/\j<v10.heap.size/\¬(⟨none,0,0⟩:AA).own j/\¬s'.own j) v10) L q.2.1:=by
    refine xa.imp fun x y h=>(h.AF Zx fun j hj h=>?_).AY fun j hj=>⟨hj.1,by omega,Jd j,fun h=>?_⟩
    ·rcases h with h|h
     ·omega
     ·exact hj.2.2.2 h
    ·rcases dQ j h with h|h
     ·exact hj.2.2.2 h
     ·omega
   exact Ck k1 ⟨KI _,Ci ANd.symm,L,OV.row k2,fun _=>k3,k4⟩
end
end Wt
namespace Wt
open Sh Fix Tk Tl Vl Go.Lib
section
variable {w:World} {s:ByteArray} {Q:List Bs}
attribute [local irreducible] Ld Sh.St Nw Nn AP Ab Ak Am
theorem Rz (hs:s.size<=549755813888)(hG:∀q∈Q,DH q)(hT:Ek Q (bl s))(hQ:Q.length<=8191)(w:World):
  C11 s w fun r f w1=>f=(0,0)/\ED (fun j=>w.heap.size<=j/\j<w1.heap.size) w1 r Q/\Ext (fun _=>False) w w1:=by
 refine T11 _ _ _ ?_;unfold S11;refine (Hx.start w (fun _=>False)).nw fun w2 H=>?_
 have hg:=H.size;have hg0:=AO.lt (H.get 0 rfl);refine H.nw fun w3 H=>?_
 simp only[ae,ag,add_lit,ah]at H⊢;have mL:=AO.lt (H.get 1 rfl);refine (mT (H.get 1 rfl) hs hG hT hQ).mono ?_;rintro r v1 ⟨rfl,sl,a,LP,hO,e1⟩;have H:=H.MN 1 rfl LP e1 (.inr (by omega));simp only[aa,ab]at H;have jt:=e1.size;refine H.B5 fun v2 H e2=>?_
 simp only[ae,ag]at H;have HS:=e2.size;refine H.BZ 2 rfl (by simp) (.inr (by omega)) fun v3 H e3=>?_
 simp only[af,aa,ab]at H;refine H.BZ 2 rfl (by simp) (.inr (by omega)) fun v4 H e4=>?_
 simp only[af,aa,ab]at H;have e34:=e3.tr e4;have Zt:=e34.size;refine H.ld 2 rfl rfl (Br.f rfl (Nn.of ?_));simp only[add_lit,ah];refine H.ld 1 rfl rfl ?_;refine H.BZ 0 rfl (by simp) (.inr (aB _)) fun v5 H e5=>?_
 simp only[af,aa,ab]at H;refine H.BZ 0 rfl (by simp) (.inr (aB _)) fun v6 H e6=>?_
 simp only[af,aa,ab]at H;have e56:=e5.tr e6;have Zy:=e56.size
 iterate 2 refine H.ld 0 rfl rfl ?_
 exact ⟨rfl,(((hO.AF e2 fun _ _ h=>h).AF e34 fun j hj (h:j=v1.heap.size)=>by omega).AF e56 fun j hj (h:j=w.heap.size)=>by omega).AY fun j hj=>⟨by omega,by omega⟩,H.ext⟩
end
end Wt
set_option maxHeartbeats 200000
section
open Sh
def C3 (l1:AA)(a2:Int×Int×Int×Int×Int×Int)(b3:Int×Int×Int×Int×Int×Int):=P1 Value.bool 3 #[AA.v l1,.agg #[.int .i64 (a2.1),.int .i64 (a2.2.1),.int .i64 (a2.2.2.1),.int .i64 (a2.2.2.2.1),.int .i64 (a2.2.2.2.2.1),.int .i64 (a2.2.2.2.2.2)],.agg #[.int .i64 (b3.1),.int .i64 (b3.2.1),.int .i64 (b3.2.2.1),.int .i64 (b3.2.2.2.1),.int .i64 (b3.2.2.2.2.1),.int .i64 (b3.2.2.2.2.2)]]
def qi (I2:Option Addr)(DG:World)(Kc:Int)(R:Q1 Bool)(AR9:Unit)(cV:World):Prop:=C6 I2 ((⟨#[81]⟩:cI),(⟨none,0,0⟩:AA),(⟨#[]⟩:cI)) cV.drew fun AEo cW=>∃cX:World->Prop,cX cW/\Br (AEo==0) (Am cX ⟨DG.heap.size,0,none⟩ 0 A0 fun AEp=>C8 I2 cW fun AEq z206=>cX z206/\C12 AEq AEp z206 fun AEr z208=>Br AEr (wc I2 z208 fun AEs z210=>R (AEs==Kc) z210) (R false z208)) (R false cW)
def qj (z4:World)(I2:Option Addr)(DG:World)(Kc:Int)(UN:Int)(z138:World)(R:Q1 Bool)(ASA:Unit)(z156:World):Prop:=Ld z156 ⟨z4.heap.size,0,none⟩ (Value.int .i64) fun X2=>Ld z156 (.add ⟨z4.heap.size,0,none⟩ 1) (Value.int .i64) fun cY=>Ld z156 (.add ⟨z4.heap.size,0,none⟩ 2) (Value.int .i64) fun kO=>Ld z156 (.add ⟨z4.heap.size,0,none⟩ 3) (Value.int .i64) fun qk=>Ld z156 (.add ⟨z4.heap.size,0,none⟩ 4) (Value.int .i64) fun kP=>Ld z156 (.add ⟨z4.heap.size,0,none⟩ 5) (Value.int .i64) fun kQ=>Nw z156 (.cells #[.int .i64 X2,.int .i64 cY,.int .i64 kO,.int .i64 qk,.int .i64 kP,.int .i64 kQ] 2) fun ql=>C7 (⟨some ⟨z156.heap.size,0,none⟩,6,6⟩:AA) ql fun AEt RM=>C6 I2 ((⟨#[99,109]⟩:cI),AEt,(⟨#[]⟩:cI)) RM fun yS z167=>As (qi I2 DG Kc R) fun (cZ:Q1 Unit)=>Br (UN==0) (Ld z167 ⟨z4.heap.size,0,none⟩ (Value.int .i64) fun AEu=>Ld z167 (.add ⟨z4.heap.size,0,none⟩ 1) (Value.int .i64) fun AEv=>Ld z167 (.add ⟨z4.heap.size,0,none⟩ 2) (Value.int .i64) fun AEw=>Ld z167 (.add ⟨z4.heap.size,0,none⟩ 3) (Value.int .i64) fun qm=>Ld z167 (.add ⟨z4.heap.size,0,none⟩ 4) (Value.int .i64) fun AEx=>Ld z167 (.add ⟨z4.heap.size,0,none⟩ 5) (Value.int .i64) fun AEy=>Ld z167 ⟨z138.heap.size,0,none⟩ (Value.int .i64) fun AEz=>Ld z167 (.add ⟨z138.heap.size,0,none⟩ 1) (Value.int .i64) fun AE0=>Ld z167 (.add ⟨z138.heap.size,0,none⟩ 2) (Value.int .i64) fun qn=>Ld z167 (.add ⟨z138.heap.size,0,none⟩ 3) (Value.int .i64) fun qo=>Ld z167 (.add ⟨z138.heap.size,0,none⟩ 4) (Value.int .i64) fun qp=>Ld z167 (.add ⟨z138.heap.size,0,none⟩ 5) (Value.int .i64) fun qq=>we (AEu,AEv,AEw,qm,AEx,AEy) (AEz,AE0,qn,qo,qp,qq) z167 fun X3 AE1 z226=>Nw z226 (.cells #[.int .i64 0,.int .i64 0,.int .i64 0,.int .i64 0,.int .i64 0,.int .i64 0] 24) fun z227=>St z227 ⟨z226.heap.size,0,none⟩ (.int .i64 (X3.1)) fun z228=>St z228 (.add ⟨z226.heap.size,0,none⟩ 1) (.int .i64 (X3.2.1)) fun z229=>St z229 (.add ⟨z226.heap.size,0,none⟩ 2) (.int .i64 (X3.2.2.1)) fun qt=>St qt (.add ⟨z226.heap.size,0,none⟩ 3) (.int .i64 (X3.2.2.2.1)) fun qu=>St qu (.add ⟨z226.heap.size,0,none⟩ 4) (.int .i64 (X3.2.2.2.2.1)) fun z232=>St z232 (.add ⟨z226.heap.size,0,none⟩ 5) (.int .i64 (X3.2.2.2.2.2)) fun z233=>∃J3:World->Prop,J3 z233.drew/\Br (yS !=AE1) (R false z233.drew) (Br (yS==0) (AP J3 ⟨z226.heap.size,0,none⟩ (Value.int .i64) fun qw=>AP J3 (.add ⟨z226.heap.size,0,none⟩ 1) (Value.int .i64) fun PN=>AP J3 (.add ⟨z226.heap.size,0,none⟩ 2) (Value.int .i64) fun qx=>AP J3 (.add ⟨z226.heap.size,0,none⟩ 3) (Value.int .i64) fun qy=>AP J3 (.add ⟨z226.heap.size,0,none⟩ 4) (Value.int .i64) fun qz=>AP J3 (.add ⟨z226.heap.size,0,none⟩ 5) (Value.int .i64) fun AE2=>C8 I2 z233.drew fun RN UO=>J3 UO/\Br (!((RN.1==qw)&&((RN.2.1==PN)&&((RN.2.2.1==qx)&&((RN.2.2.2.1==qy)&&((RN.2.2.2.2.1==qz)&&((RN.2.2.2.2.2.1==AE2)&&true))))))) (R false UO) (cZ () UO)) (cZ () z233.drew))) (cZ () z167)
def cm (w:World)(z4:World)(I2:Option Addr)(R:Q1 Bool)(X4:Unit)(D5:World):Prop:=C8 I2 D5 fun UP DG=>Nw DG (.cells #[.int .i64 0,.int .i64 0,.int .i64 0,.int .i64 0,.int .i64 0,.int .i64 0,.int .i64 0,.int .i64 0,.int .i64 0,.int .i64 0,AA.v ⟨none,0,0⟩,.int .i64 0,.int .i64 0,.int .i64 0,.int .i64 0,.int .i64 0,.int .i64 0,.int .i64 0,.int .i64 0,.int .i64 0,.int .i64 0,.int .i64 0,.int .i64 0,.int .i64 0,.int .i64 0,.int .i64 0,.int .i64 0,.int .i64 0,.string (⟨#[]⟩:cI),.int .i64 0] 40) fun z105=>Ak ⟨DG.heap.size,0,none⟩ 0 A0 UP z105 fun Dh=>wc I2 Dh fun Kc Kd=>C6 I2 ((⟨#[113]⟩:cI),(⟨none,0,0⟩:AA),(⟨#[]⟩:cI)) Kd fun AE3 Di=>Br (AE3 !=0) (R (Kc==28) Di) (Ld Di ⟨w.heap.size,0,none⟩ (Value.int .i64) fun PO=>Ld Di (.add ⟨w.heap.size,0,none⟩ 1) (Value.int .i64) fun AE4=>Ld Di (.add ⟨w.heap.size,0,none⟩ 2) (Value.int .i64) fun RO=>Ld Di (.add ⟨w.heap.size,0,none⟩ 3) (Value.int .i64) fun rA=>Ld Di (.add ⟨w.heap.size,0,none⟩ 4) (Value.int .i64) fun Ke=>Ld Di (.add ⟨w.heap.size,0,none⟩ 5) (Value.int .i64) fun Nh=>Nw Di (.cells #[.int .i64 PO,.int .i64 AE4,.int .i64 RO,.int .i64 rA,.int .i64 Ke,.int .i64 Nh] 2) fun z119=>C7 (⟨some ⟨Di.heap.size,0,none⟩,6,6⟩:AA) z119 fun AE5 cQ=>C6 I2 ((⟨#[99,109]⟩:cI),AE5,(⟨#[]⟩:cI)) cQ fun UN Cd=>Ld Cd ⟨w.heap.size,0,none⟩ (Value.int .i64) fun Ce=>Ld Cd (.add ⟨w.heap.size,0,none⟩ 1) (Value.int .i64) fun Dj=>Ld Cd (.add ⟨w.heap.size,0,none⟩ 2) (Value.int .i64) fun Nl=>Ld Cd (.add ⟨w.heap.size,0,none⟩ 3) (Value.int .i64) fun IA=>Ld Cd (.add ⟨w.heap.size,0,none⟩ 4) (Value.int .i64) fun Fy=>Ld Cd (.add ⟨w.heap.size,0,none⟩ 5) (Value.int .i64) fun UK=>Ld Cd ⟨DG.heap.size,0,none⟩ (Value.int .i64) fun rB=>Ld Cd (.add ⟨DG.heap.size,0,none⟩ 1) (Value.int .i64) fun RP=>Ld Cd (.add ⟨DG.heap.size,0,none⟩ 2) (Value.int .i64) fun UL=>Ld Cd (.add ⟨DG.heap.size,0,none⟩ 3) (Value.int .i64) fun dA=>Ld Cd (.add ⟨DG.heap.size,0,none⟩ 4) (Value.int .i64) fun PQ=>Ld Cd (.add ⟨DG.heap.size,0,none⟩ 5) (Value.int .i64) fun AE6=>we (Ce,Dj,Nl,IA,Fy,UK) (rB,RP,UL,dA,PQ,AE6) Cd fun X5 rC z138=>Nw z138 (.cells #[.int .i64 0,.int .i64 0,.int .i64 0,.int .i64 0,.int .i64 0,.int .i64 0] 24) fun z139=>St z139 ⟨z138.heap.size,0,none⟩ (.int .i64 (X5.1)) fun UQ=>St UQ (.add ⟨z138.heap.size,0,none⟩ 1) (.int .i64 (X5.2.1)) fun z141=>St z141 (.add ⟨z138.heap.size,0,none⟩ 2) (.int .i64 (X5.2.2.1)) fun UR=>St UR (.add ⟨z138.heap.size,0,none⟩ 3) (.int .i64 (X5.2.2.2.1)) fun z143=>St z143 (.add ⟨z138.heap.size,0,none⟩ 4) (.int .i64 (X5.2.2.2.2.1)) fun rD=>St rD (.add ⟨z138.heap.size,0,none⟩ 5) (.int .i64 (X5.2.2.2.2.2)) fun z145=>As (qj z4 I2 DG Kc UN z138 R) fun (n7:Q1 Unit)=>∃J4:World->Prop,J4 z145.drew/\Br (UN !=rC) (R false z145.drew) (Br (UN==0) (AP J4 ⟨z138.heap.size,0,none⟩ (Value.int .i64) fun AE7=>AP J4 (.add ⟨z138.heap.size,0,none⟩ 1) (Value.int .i64) fun AE8=>AP J4 (.add ⟨z138.heap.size,0,none⟩ 2) (Value.int .i64) fun rE=>AP J4 (.add ⟨z138.heap.size,0,none⟩ 3) (Value.int .i64) fun US=>AP J4 (.add ⟨z138.heap.size,0,none⟩ 4) (Value.int .i64) fun rF=>AP J4 (.add ⟨z138.heap.size,0,none⟩ 5) (Value.int .i64) fun UT=>C8 I2 z145.drew fun No dB=>J4 dB/\Br (!((No.1==AE7)&&((No.2.1==AE8)&&((No.2.2.1==rE)&&((No.2.2.2.1==US)&&((No.2.2.2.2.1==rF)&&((No.2.2.2.2.2.1==UT)&&true))))))) (R false dB) (n7 () dB)) (n7 () z145.drew)))
def kR (l1:AA)(I2:Option Addr)(WA:Option Addr)(WB:AA)(Lm:Q1 Unit)(R:Q1 Bool)(AE9:Q1 Int)(Kf:Int)(PS:World):Prop:=Br (decide (Kf<(l1.len:Int))) (∃J5:World->Prop,J5 PS.drew/\0<=Kf/\Kf<(l1.len:Nat)/\Nn l1.p fun rG=>AP J5 (rG.add ((Kf).toNat*3)) Value.string fun AFA=>AP J5 ((rG.add ((Kf).toNat*3)).add 1) AA.v fun AFB=>AP J5 ((rG.add ((Kf).toNat*3)).add 2) Value.string fun AFC=>0<=Kf/\Kf<(WB.len:Nat)/\Nn WB.p fun rH=>AP J5 (rH.add ((Kf).toNat*3)) Value.string fun rI=>AP J5 ((rH.add ((Kf).toNat*3)).add 1) AA.v fun dC=>AP J5 ((rH.add ((Kf).toNat*3)).add 2) Value.string fun dD=>C6 I2 (AFA,AFB,AFC) PS.drew fun AFD yT=>J5 yT/\C6 WA (rI,dC,dD) yT fun AFE kS=>Br (AFD !=AFE) (R false kS) (C8 I2 kS fun rJ dE=>C8 WA dE fun AFF dF=>C12 rJ AFF dF fun AFG X6=>Br (!AFG) (R false X6) (wc I2 X6 fun AFH AFI=>wc WA AFI fun AFJ kT=>Br (AFH !=AFJ) (R false kT) (AE9 (IntKind.i64.wrap (Kf+1)) kT)))) (Lm () PS)
def S3 (l1:AA)(a2:Int×Int×Int×Int×Int×Int)(b3:Int×Int×Int×Int×Int×Int)(w:World)(R:Q1 Bool)(PR:Q1 Value):Prop:=Nw w (.cells #[.int .i64 (a2.1),.int .i64 (a2.2.1),.int .i64 (a2.2.2.1),.int .i64 (a2.2.2.2.1),.int .i64 (a2.2.2.2.2.1),.int .i64 (a2.2.2.2.2.2)] 24) fun z4=>Nw z4 (.cells #[.int .i64 (b3.1),.int .i64 (b3.2.1),.int .i64 (b3.2.2.1),.int .i64 (b3.2.2.2.1),.int .i64 (b3.2.2.2.2.1),.int .i64 (b3.2.2.2.2.2)] 24) fun z5=>C5 z5 fun r6 z7=>C4 (r6.1,r6.2.1,r6.2.2.1,r6.2.2.2.1,r6.2.2.2.2.1,r6.2.2.2.2.2) z7 fun r8 z9=>Br r8.isNone (R false z9) (Nw z9 (.cells #[.int .i64 5] 2) fun JE=>C7 (⟨some ⟨z9.heap.size,0,none⟩,1,1⟩:AA) JE fun kU Bz=>C6 r8 ((⟨#[119]⟩:cI),kU,(⟨#[]⟩:cI)) Bz fun Np z21=>Br (Np !=0) (R false z21) (C8 r8 z21 fun FB D0=>Br (FB.2.2.2.2.2.2.1 !=5) (R false D0) (Br (decide ((l1.len:Int)>30)) (R true D0) (Ld D0 ⟨w.heap.size,0,none⟩ (Value.int .i64) fun NS=>Ld D0 (.add ⟨w.heap.size,0,none⟩ 1) (Value.int .i64) fun Kg=>Ld D0 (.add ⟨w.heap.size,0,none⟩ 2) (Value.int .i64) fun K7=>Ld D0 (.add ⟨w.heap.size,0,none⟩ 3) (Value.int .i64) fun Kh=>Ld D0 (.add ⟨w.heap.size,0,none⟩ 4) (Value.int .i64) fun Ho=>Ld D0 (.add ⟨w.heap.size,0,none⟩ 5) (Value.int .i64) fun Gy=>C9 (NS,Kg,K7,Kh,Ho,Gy) D0 fun r46 DY=>Br (r46 !=0) (R true DY) (Ld DY ⟨z4.heap.size,0,none⟩ (Value.int .i64) fun ID=>Ld DY (.add ⟨z4.heap.size,0,none⟩ 1) (Value.int .i64) fun NV=>Ld DY (.add ⟨z4.heap.size,0,none⟩ 2) (Value.int .i64) fun Jz=>Ld DY (.add ⟨z4.heap.size,0,none⟩ 3) (Value.int .i64) fun NU=>Ld DY (.add ⟨z4.heap.size,0,none⟩ 4) (Value.int .i64) fun NW=>Ld DY (.add ⟨z4.heap.size,0,none⟩ 5) (Value.int .i64) fun Ll=>C9 (ID,NV,Jz,NU,NW,Ll) DY fun jj JF=>Br (jj !=0) (R true JF) (C5 JF fun wg JG=>C4 (wg.1,wg.2.1,wg.2.2.1,wg.2.2.2.1,wg.2.2.2.2.1,wg.2.2.2.2.2) JG fun I2 z59=>C5 z59 fun Zi OG=>C4 (Zi.1,Zi.2.1,Zi.2.2.1,Zi.2.2.2.1,Zi.2.2.2.2.1,Zi.2.2.2.2.2) OG fun WA K8=>Br I2.isNone (R false K8) (Br WA.isNone (R false K8) (C10 l1 K8 (fun X7 WC Gk=>C11 X7 Gk fun WB r68 WD=>Nw WD (.cells #[.int .i64 0,.int .i64 0] 46) fun z70=>St z70 ⟨WD.heap.size,0,none⟩ (.int .i64 (r68.1)) fun Ln=>St Ln (.add ⟨WD.heap.size,0,none⟩ 1) (.int .i64 (r68.2)) fun z72=>As (cm w z4 I2 R) fun (Lm:Q1 Unit)=>Br (WC==0) (Ld z72 (.add ⟨WD.heap.size,0,none⟩ 1) (Value.int .i64) fun UU=>Br (UU !=0) (R false z72) (Br ((WB.len:Int) !=(l1.len:Int)) (R false z72) (Lp (σ:=Int) (kR l1 I2 WA WB Lm R) 0 z72))) (Lm () z72)) PR))))))))
theorem T3 (l1 a2 b3 w R PR):S3 l1 a2 b3 w R PR->C3 l1 (a2.1,a2.2.1,a2.2.2.1,a2.2.2.2.1,a2.2.2.2.2.1,a2.2.2.2.2.2) (b3.1,b3.2.1,b3.2.2.1,b3.2.2.2.1,b3.2.2.2.2.1,b3.2.2.2.2.2) w R PR:=Jw ob (.q (.q (.s (.q (.c (.q .l) .l)) (.s (.q (.c (.q .l) .l)) (.q (.q (.s (.q (.c (.q .l) .l)) (.q (.q (.join [] [4,5,8] (.q (.c (.s (.q (.c (.q .l) .l)) (.q (.b (.o [(88,oi)] [0,4,5,8,9,12,87] (.q (.s (.c .l .l) (.s (.b (.q (.s (.BY (.held [11] (.take 0 (.take 1 (.take 2 (.take 3 (.take 4 (.take 6 (.take 7 (.take 8 (.take 9 (.take 10 (.BF 5 none (.BF 11 (some [15]) (.take 12 (.take 13 (.take 14 (.take 16 (.BF 15 (some [17]) (.BF 17 (some [18]) (.BF 18 (some [23]) (.take 19 (.take 20 (.take 21 (.take 22 (.take 24 (.BF 23 (some [25]) (.BF 25 (some []) (.take 26 (.take 27 .done)))))))))))))))))))))))))))))) (.c (.q .l) .l)))) .r))))))) .l)) (.q (.q (.s (.q (.c (.q .l) .l)) (.q (.q (.join [] [5,8,15,16,17,18] (.s (.BY (.held [] (.take 0 (.take 1 (.take 2 (.take 3 (.take 4 (.take 5 (.take 6 (.take 7 (.take 10 (.BF 8 none (.take 9 (.take 11 (.take 12 (.take 13 .done)))))))))))))))) (.c (.q .l) .l)) (.q (.join [] [8,15,16] (.q (.c (.q (.s (.BY (.held [] (.take 0 (.take 1 (.take 2 (.take 3 (.take 4 (.take 5 (.take 6 (.take 7 (.take 10 (.BF 8 none (.take 9 (.take 11 (.take 12 (.take 13 .done)))))))))))))))) (.c (.q .l) .l))) .l)) (.s (.BY (.held [1] (.take 0 (.BF 1 (some [2]) (.BF 2 (some [8]) (.take 3 (.take 4 (.take 5 (.take 7 (.BF 6 none (.BF 8 (some [12]) (.take 9 (.take 10 (.take 11 (.take 13 (.BF 12 (some []) (.take 14 (.take 15 (.take 16 .done))))))))))))))))))) .l))))))))))))))))))) [AA.v l1,.agg #[.int .i64 (a2.1),.int .i64 (a2.2.1),.int .i64 (a2.2.2.1),.int .i64 (a2.2.2.2.1),.int .i64 (a2.2.2.2.2.1),.int .i64 (a2.2.2.2.2.2)],.agg #[.int .i64 (b3.1),.int .i64 (b3.2.1),.int .i64 (b3.2.2.1),.int .i64 (b3.2.2.2.1),.int .i64 (b3.2.2.2.2.1),.int .i64 (b3.2.2.2.2.2)]] Tryz.func3
end
set_option maxRecDepth 8000
set_option maxHeartbeats 4000000
namespace Lw
open Sh CV LB FA
def k4 (o:Ob):Int×Int×ByteArray:=(o.1,o.2.1,o.2.2.2.1)
def AL (L M:List Ob):Prop:=L.map k4=M.map k4
theorem AL.len{L M:List Ob}(h:AL L M):L.length=M.length:=by
 have:=aq List.length h;simpa using this
theorem AL.cons{o p:Ob}{L M:List Ob}(h:AL (o::L) (p::M)):k4 o=k4 p/\AL L M:=by
 unfold AL at h;rw[aC,aC]at h;injection h with h1 h2;exact ⟨h1,h2⟩
theorem Py {o p:Ob}(h:k4 o=k4 p):o.1=p.1/\o.2.1=p.2.1/\o.2.2.2.1=p.2.2.2.1:=by
 unfold k4 at h;simp only[Prod.mk.injEq]at h;exact h
theorem MQ {o p:Ob}(h:k4 o=k4 p):num o=num p:=by
 obtain ⟨h1,h2,_⟩:=Py h;unfold num U3;rw[h1,h2]
theorem Pz:∀{L M:List Ob},AL L M->CT L=CT M
 |[],[],_=>rfl
 |o::L,p::M,h=>by
  obtain ⟨h1,h2⟩:=h.cons;unfold CT;rw[MQ h1,Pz h2]
 |[],_::_,h=>by have:=h.len;simp at this
 |_::_,[],h=>by have:=h.len;simp at this
theorem U4 {o p:Ob}(h:k4 o=k4 p):Kn o=Kn p:=by unfold Kn;rw[MQ h]
theorem WY:∀{L M:List Ob},AL L M->Ei L=Ei M
 |[],[],_=>rfl
 |o::L,p::M,h=>by
  obtain ⟨h1,h2⟩:=h.cons;unfold Ei;rw[U4 h1,WY h2]
 |[],_::_,h=>by have:=h.len;simp at this
 |_::_,[],h=>by have:=h.len;simp at this
theorem fL {o p:Ob}(h:k4 o=k4 p)(m:Int):N3 o m=N3 p m:=by unfold N3;rw[MQ h]
theorem U5 {L M:List Ob}(h:AL L M)(s:Int):NY s L=NY s M:=by unfold NY;rw[Pz h]
theorem fM:∀{L M:List Ob},AL L M->L.all (fun k=>k.1==2||k.1==3)=M.all (fun k=>k.1==2||k.1==3)
 |[],[],_=>rfl
 |o::L,p::M,h=>by
  obtain ⟨h1,h2⟩:=h.cons;rw[List.all_cons,List.all_cons,(Py h1).1,fM h2]
 |[],_::_,h=>by have:=h.len;simp at this
 |_::_,[],h=>by have:=h.len;simp at this
theorem lW {K J:List Ob}{o p:Ob}(h:AL K J)(h2:k4 o=k4 p):Ko K o=Ko J p:=by
 unfold Ko;rw[h.len,fM h,WY h,U4 h2]
theorem WZ {L M:List Ob}(h:AL L M)(i:Nat)(d:Ob):k4 (L.getD i d)=k4 (M.getD i d):=by
 induction L generalizing M i with
 |nil=>cases M with
  |nil=>rfl
  |cons _ _=>have:=h.len;simp at this
 |cons o L ih=>cases M with
  |nil=>have:=h.len;simp at this
  |cons p M=>
   obtain ⟨h1,h2⟩:=h.cons;cases i with
   |zero=>exact h1
   |succ i=>exact ih h2 i
theorem Rq:∀{t:By} {L M:List Ob},AL L M->Bj t L=Bj t M
 |[],[],[],_=>rfl
 |[],_::_,_::_,_=>rfl
 |_::_,[],[],_=>rfl
 |b::t,o::L,p::M,h=>by
  obtain ⟨h1,h2⟩:=h.cons;unfold Bj;rw[(Py h1).1,Rq h2]
 |_,[],_::_,h=>by have:=h.len;simp at this
 |_,_::_,[],h=>by have:=h.len;simp at this
theorem lX {nm d:By}{L M:List Ob}(h:AL L M):CK nm L d=CK nm M d:=by
 unfold CK;rw[h.len,Rq h]
theorem lY {nm:By}{L M K J:List Ob}(h:AL L M)(k:AL K J)(p:P):Ba nm L K p=Ba nm M J p:=by
 have h0:k4 (Bk L)=k4 (Bk M):=WZ h 0 _;have h1:k4 (fN L)=k4 (fN M):=WZ h 1 _;unfold Ba;rw[Pz h,U4 h0,fL h0,lW k h1,U5 h,U5 h,U5 h,MQ h0,MQ h1,(Py h0).2.2,fL h0]
theorem tf {m:Mc}{nm d:By}{L M K J:List Ob}(h:AL L M)(k:AL K J):MR m ⟨nm,d,L,K⟩=MR m ⟨nm,d,M,J⟩:=by
 unfold MR;dsimp only;rw[lX h,lY h k]
def xO (t:Vl.Tr):Ob:=(t.k,t.n,t.g,t.s,CU,CU)
def fO:List Vl.Tr->List Vl.Tr
 |[]=>[]
 |t::_=>t.kids
def o8 (m:Mc)(q:Wt.Bs):Int×Mc:=MR m ⟨bl q.1,bl q.2.2,q.2.1.map xO,(fO q.2.1).map xO⟩
theorem fP {w:World}{d:Nat}:∀{L:List Ob} {ts:List Vl.Tr},Vl.A3 (Vl.JN w d) L ts->AL L (ts.map xO)
 |[],[],_=>rfl
 |o::L,t::ts,h=>by
  have h1:=fP h.2;obtain ⟨⟨a,b,c,e⟩,_⟩:=Vl.OX.out ⟨d,h.1⟩;unfold AL at h1⊢;rw[aC,aC,aC,h1]
  congr 1
  unfold k4 xO;rw[a,b,e]
theorem lZ {w:World}{o:Wt.Kp}{q:Wt.Bs}(h:Wt.Qx w o q):∃L K,OV w o.2.1 L/\OV w (Bk L).2.2.2.2.2 K/\AL L (q.2.1.map xO)/\AL K ((fO q.2.1).map xO):=by
 obtain ⟨_,⟨d,L,hL,hA⟩,_⟩:=h;cases hq:q.2.1 with
 |nil=>
  rw[hq]at hA;cases L with
  |nil=>exact ⟨[],[],hL,⟨rfl,rfl,fun j v hj=>by simp at hj⟩,rfl,rfl⟩
  |cons _ _=>exact hA.elim
 |cons t ts=>
  rw[hq]at hA;cases L with
  |nil=>exact hA.elim
  |cons o L=>
   have hx:=hA.1;cases d with
   |zero=>exact hx.elim
   |succ d=>
    obtain ⟨_,_,K,hK,hKA⟩:=hx;exact ⟨o::L,K,hL,hK,fP (d:=d+1) hA,fP hKA⟩
def o9 (q:Wt.Bs):Prop:=q.2.1.length<=8191/\(fO q.2.1).length<=8191
theorem fQ {q:Wt.Bs}(h:Wt.DH q):o9 q:=by
 refine ⟨by have:=Wt.Rr h;omega,?_⟩;cases hq:q.2.1 with
 |nil=>exact bD _
 |cons t ts=>exact (Wt.GQ (h.2 t (by rw[hq];exact ax ..)).1).1
section
variable {w w' w1:World} {sv:AA} {b:Nat} {x:G} {D:List Int} {S:List P}
def DoT (O:Nat->Prop)(w w1:World)(b:Nat)(r:Int)(m:Mc)(q:Wt.Bs):Prop:=∃x D sv S,o8 m q=(r,mc x D S)/\MV w1 b x D sv S/\Ext (·=b) w w1/\∀j,MO x sv S j->O j\/w.heap.size<=j
theorem Rs (hs:AS w)(hm:MV w b x D sv S){o:Wt.Kp}{q:Wt.Bs}(h:Wt.Qx w o q)(hf:o9 q):C6 (some ⟨b,0,none⟩) o w fun r w1=>DoT (MO x sv S) w w1 b r (mc x D S) q:=by
 obtain ⟨L,K,hL,hK,aL,aK⟩:=lZ h;have h1:=aL.len;have h2:=aK.len;rw[aV]at h1 h2;obtain ⟨g1,g2⟩:=hf;refine (AAW (a:=o.1) (s:=o.2.1) (d:=o.2.2) hs hm hL (by omega) hK (by omega)).mono ?_;rintro r w1 ⟨x',D',th,S',e,hm',he,ho⟩;refine ⟨x',D',th,S',?_,hm',he,ho⟩;rw[<-e];unfold o8;rw[<-h.1,<-h.2.2];exact (tf aL aK).symm
end
end Lw
set_option maxRecDepth 100000
namespace Lw
open Sh CV LB FA
def OQ (n:Int):Vl.Tr:= .mk 3 n 0 ⟨#[]⟩ [] []
def Au (n:Int):Ob:=(3,n,0,⟨#[]⟩,CU,CU)
def qB:Wt.Bs:=(⟨#[113]⟩,[],⟨#[]⟩)
def QB:Wt.Bs:=(⟨#[81]⟩,[],⟨#[]⟩)
def cmB (a:Mx):Wt.Bs:=(⟨#[99,109]⟩,(DP a).map OQ,⟨#[]⟩)
def wB:Wt.Bs:=(⟨#[119]⟩,[OQ 5],⟨#[]⟩)
theorem k_q:([113]:By)∈known:=by decide+kernel
theorem k_Q:([81]:By)∈known:=by decide+kernel
theorem AAX:([99,109]:By)∈known:=by decide+kernel
theorem k_w:([119]:By)∈known:=by decide+kernel
theorem c_q:CK [113] [] []=0:=by decide+kernel
theorem c_Q:CK [81] [] []=0:=by decide+kernel
theorem AAY (o1 o2 o3 o4 o5 o6:Ob)(h1:o1.1=3)(h2:o2.1=3)(h3:o3.1=3)(h4:o4.1=3)(h5:o5.1=3)(h6:o6.1=3):CK [99,109] [o1,o2,o3,o4,o5,o6] []=0:=by
 unfold CK;rw[show CW [99,109]=[110,110,110,110,110,110] by decide+kernel];rw[az (by decide),az (by simp)];simp only[Bj,G1,h1,h2,h3,h4,h5,h6];decide
theorem AMo (o:Ob)(h1:o.1=3):CK [119] [o] []=0:=by
 unfold CK;rw[show CW [119]=[110] by decide+kernel];rw[az (by decide),az (by simp)];simp only[Bj,G1,h1];decide
theorem AAZ (n:P)(s:List P):o8 ⟨n,s⟩ qB=if s.length<28 then (0,⟨n,n::s⟩)else (6,⟨n,s⟩):=by
 show MR _ ⟨[113],[],[],[]⟩=_;split
 ·rename_i h;exact pA k_q c_q rfl h
 ·rename_i h;exact fR k_q c_q rfl h
theorem AAa (n p:P)(s:List P):o8 ⟨n,p::s⟩ QB=(0,⟨p,s⟩):=by
 show MR _ ⟨[81],[],[],[]⟩=_;exact pB k_Q c_Q rfl rfl
theorem Dn {n:Int}(h:Fix.Dc n=true):num (Au n)= .ok n:=by
 unfold num U3 Au;dsimp only;rw[az (by decide),aD rfl,aD h]
theorem fS {a:Mx}(h:CV.De a=true):∀n∈DP a,Fix.Dc n=true:=aJ.1 h
theorem tj {a:Mx}(ha:CV.De a=true)(n:P)(s:List P):o8 ⟨n,s⟩ (cmB a)=match DT a (Ej n.1)with
 |some m=>(0,⟨(Rt n.1 m,n.2),s⟩)
 |none=>(2,⟨n,s⟩):=by
 have h:=fS ha;obtain ⟨a1,a2,a3,a4,a5,a6⟩:=a;have hn:CT [Au a1,Au a2,Au a3,Au a4,Au a5,Au a6]= .ok [a1,a2,a3,a4,a5,a6]:=by
  unfold CT;rw[Dn (h a1 (by simp[DP]))];unfold CT;rw[Dn (h a2 (by simp[DP]))];unfold CT;rw[Dn (h a3 (by simp[DP]))];unfold CT;rw[Dn (h a4 (by simp[DP]))];unfold CT;rw[Dn (h a5 (by simp[DP]))];unfold CT;rw[Dn (h a6 (by simp[DP]))]
  rfl
 have hc:CK [99,109] [Au a1,Au a2,Au a3,Au a4,Au a5,Au a6] []=0:=AAY _ _ _ _ _ _ rfl rfl rfl rfl rfl rfl;show MR _ ⟨[99,109],[],[Au a1,Au a2,Au a3,Au a4,Au a5,Au a6],[]⟩=_;have hg:∀p:P,Ba [99,109] [Au a1,Au a2,Au a3,Au a4,Au a5,Au a6] [] p=KC p [a1,a2,a3,a4,a5,a6]:=fun p=>by
  unfold Ba;rw[aD rfl,hn]
  rfl
 cases hm:DT (a1,a2,a3,a4,a5,a6) (Ej n.1)with
 |some m=>exact U6 AAX hc (show ([99,109]:By)≠[113] by decide) (show ([99,109]:By)≠[81] by decide) ((hg n).trans (HP hm))
 |none=>exact fT AAX hc (show ([99,109]:By)≠[113] by decide) (show ([99,109]:By)≠[81] by decide) ((hg n).trans (HR hm))
theorem AAb (n:P)(s:List P):o8 ⟨n,s⟩ wB=(0,⟨(Ye n.1 5,n.2),s⟩):=by
 show MR _ ⟨[119],[],[Au 5],[]⟩=_;have hc:CK [119] [Au 5] []=0:=AMo _ rfl;refine U6 k_w hc (by decide) (by decide) ?_;unfold Ba;rw[az (by decide),aD rfl];have:Kn (Bk [Au 5])= .ok 5:=by
  unfold Kn;show (match num (Au 5)with
   | .error e=>Except.error e
   | .ok n=>if 0<=n then Except.ok n else Except.error 2)=_
  rw[Dn (by decide)]
  rfl
 rw[this]
 rfl
theorem pC {x y:G}{D E:List Int}{S T:List P}(h:mc x D S=mc y E T):er x=er y/\D=E/\S.length=T.length:=by
 unfold mc at h;simp only[Mc.mk.injEq,Prod.mk.injEq]at h;obtain ⟨⟨h1,h2⟩,h3⟩:=h;refine ⟨h1,h2,?_⟩;have:=aq List.length h3;simpa using this
theorem Wa {x y:G}{D E:List Int}(h:er x=er y)(h2:D=E):A4 x y D E=true:=by
 subst h2;rw[<-MS x y CU CU D D];show A4 (er x) (er y) D D=true;rw[h];exact U7 _ _
section
variable {w w' w1:World} {sv:AA} {b g:Nat} {x:G} {D:List Int} {S:List P} {l:List Int} {t:TypeId}
attribute [local irreducible] Ld Sh.St Nw Nn AP Ab Am Ak
theorem tm (l:List Int):∀w:World,Vl.A3 (Vl.JN w 1) (l.map Au) (l.map OQ):=fun w=>by
 induction l with
 |nil=>trivial
 |cons n l ih=>exact ⟨⟨⟨rfl,rfl,rfl,rfl⟩,Vl.KV.nil w,[],⟨rfl,rfl,fun j v h=>by simp at h⟩,trivial⟩,ih⟩
theorem P3 (hb:AO w g (ints l).toArray t)(hl:l.length<=100):C7 ⟨some ⟨g,0,none⟩,l.length,l.length⟩ w fun r w1=>Vl.NZ w1 r (l.map OQ)/\Ext (fun _=>False) w w1:=by
 refine T7 _ _ _ ?_;unfold S7;refine ⟨fun n st u=>∃(i:Nat) (sl:AA),i<=l.length/\st=(sl,(i:Int))/\n=l.length-i/\Ext (fun _=>False) w u/\Row u sl 68 6 (((l.take i).map Au).flatMap AH)/\(∀j,sl.own j->w.heap.size<=j),l.length,
  ⟨0,⟨none,0,0⟩,by omega,rfl,by omega,Ext.refl _ _,Row.nil _ _ _,fun j hj=>(by obtain ⟨a,ha,_⟩:=hj;cases ha)⟩,?_⟩
 rintro n st u ⟨i,sl,hi,rfl,rfl,hE,hR,hO⟩;unfold AAN;have hs:=hE.size;have pD:sl.len=i:=by
  have:=hR.1;rw[FE,aV,aW]at this;omega
 dsimp only;refine Br.dec (fun Av=>?_) fun Fh=>?_
 ·have Av:(i:Int)<((l.length:Nat):Int):=Av;have Fp:i<l.length:=by omega
  refine ⟨by omega,by omega,Nn.of ?_⟩;rw[show (i:Int).toNat*1=i by omega,add_lit,ah];refine Ld.mk (x:=l[i]) ?_ ?_
  ·rw[(hE.AR hb id).cell];have:=Rv Fp;rw[aE,al Fp]at this;simpa using this
  refine (Wt.Wb _ _).mono ?_;rintro r u2 ⟨rfl,e2⟩;refine (Hx.start u2 (fun _=>False)).B5 fun u3 H3 e3=>?_
  simp only[ae]at H3;have Tq:=e2.tr e3;have LC:=Tq.size;obtain ⟨s',u4,r4,oc,r43,e4,cT⟩:=fU.Hu (ty:=30) (ys:=AH (Au l[i])) (hR.AB Tq fun _ _ h=>h) (H3.get 0 rfl) rfl (Vl.P4 (Au l[i])) (by omega) (by omega);refine ⟨s',u4,r4,l.length-(i+1),by omega,i+1,s',by omega,by rw[IntWalk.i64_in _ (by omega)];rfl,rfl,Ext.new (hE.tr Tq) e4 fun j hj=>hO j hj,?_,fun j hj=>(cT j hj).elim (hO j) fun h=>by omega⟩;rw[aQ,al Fp,cE,bd,bg,List.map_singleton,bZ];exact oc
 ·have Fh:¬(i:Int)<((l.length:Nat):Int):=Fh;have hi:i=l.length:=by omega
  subst hi;rw[aP]at hR;exact ⟨⟨1,l.map Au,⟨by have:=hR.1;rw[FE]at this;omega,hR.view⟩,tm l u⟩,hE⟩
theorem fV (a:Mx):o9 (cmB a):=⟨by show ((DP a).map OQ).length<=_;rw[aV];show 6<=_;decide,bD _⟩
theorem AAc:o9 wB:=⟨by decide,by decide⟩
theorem AAd:o9 qB:=⟨by decide,by decide⟩
theorem AAe:o9 QB:=⟨by decide,by decide⟩
theorem Wc (w:World)(a:ByteArray):Wt.Qx w (a,⟨none,0,0⟩,⟨#[]⟩) (a,[],⟨#[]⟩):=⟨rfl,⟨0,[],⟨rfl,rfl,fun j v h=>by simp at h⟩,trivial⟩,rfl⟩
end
end Lw
namespace Lw
open Sh CV LB FA
theorem fW (x:G)(t:AA):Ej (Al x t)=Ej x:=by
 unfold Ej Al;dsimp only
theorem pE (x:G)(m:Mx):Ej (Rt x m)=m:=by
 unfold Ej Rt;dsimp only
theorem U8 (x:G)(D:List Int)(S:List P):mc x D S=⟨(er x,D),(mc x D S).saved⟩:=rfl
theorem fX (x:G)(D:List Int)(S:List P):(mc x D S).now=(er x,D):=rfl
attribute [local irreducible] er Al Rt Ej A4 AQ.cells FA.BQ
abbrev RT (w:World):Bool->World->Prop:=fun r w1=>r=true/\Ext (fun _=>False) w w1
section
variable {w w' w1 u v P5 KD Wd:World} {sv Rw:AA} {b bx g:Nat} {x x1:G} {D D1:List Int} {S S1:List P} {t:AA} {a c m:Mx} {n:P} {r:Int}
attribute [local irreducible] Ld Sh.St Nw Nn AP Ab Am Ak
structure LI (w:World) (bx g:Nat) (x:G) (D:List Int) (S:List P) (t:AA) (n:P) (u:World):Prop where
 tab:AS w
 ex:∃x1 D1 Rw S1,MV u bx x1 D1 Rw S1/\mc x1 D1 S1=⟨n,(er x,D)::(mc x D S).saved⟩
 was:AO u g (AQ.cells LG (Al x t)).toArray 40
 gb:g≠bx
 BQ:FA.IV u t D
 own:∀j,t.own j->j≠bx
 OR:D.length<=100
 ext:Ext (fun _=>False) w u
 lo:w.heap.size<=bx
theorem LI.AB(h:LI w bx g x D S t n u)(he:Ext (fun _=>False) u v):LI w bx g x D S t n v:=by
 obtain ⟨x1,D1,Rw,S1,h1,h2⟩:=h.ex;exact ⟨h.tab,⟨x1,D1,Rw,S1,h1.AB he,h2⟩,he.AR h.was id,h.gb,h.BQ.AB he,h.own,h.OR,h.ext.tr he,h.lo⟩
theorem LI.step(h:LI w bx g x D S t n u){x1:G}{D1:List Int}{Rw:AA}{S1:List P}{n':P}(hm:MV v bx x1 D1 Rw S1)(he:Ext (·=bx) u v)(xP:mc x1 D1 S1=⟨n',(er x,D)::(mc x D S).saved⟩):LI w bx g x D S t n' v:=
 ⟨h.tab,⟨x1,D1,Rw,S1,hm,xP⟩,he.AR h.was h.gb,h.gb,h.BQ.AF he fun j hj=>h.own j hj,h.own,h.OR,h.ext.trans he (fun _ h=>h) fun j hj e=>by have:=h.lo;omega,h.lo⟩
theorem LI.op(h:LI w bx g x D S t n u){o:Wt.Kp}{q:Wt.Bs}(ho:Wt.Qx u o q)(hf:o9 q):C6 (some ⟨bx,0,none⟩) o u fun r w1=>∃x1 D1 Rw S1,o8 ⟨n,(er x,D)::(mc x D S).saved⟩ q=(r,mc x1 D1 S1)/\MV w1 bx x1 D1 Rw S1/\Ext (·=bx) u w1:=by
 obtain ⟨x1,D1,Rw,S1,h1,h2⟩:=h.ex;refine (Rs (h.tab.AB h.ext) h1 ho hf).mono ?_;rintro r w1 ⟨x',D',th,S',e,hm,he,hO⟩;rw[h2]at e;exact ⟨x',D',th,S',e,hm,he⟩
theorem LI.st(h:LI w bx g x D S t n u):C8 (some ⟨bx,0,none⟩) u fun r w1=>Ej r=Ej n.1/\Ext (fun _=>False) u w1:=by
 obtain ⟨x1,D1,Rw,S1,h1,h2⟩:=h.ex;refine (GR h1).mono ?_;rintro r w1 ⟨t',rfl,_,he⟩;refine ⟨?_,he⟩;have:(er x1,D1)=n:=by
  have:=aq Mc.now h2;rw[fX]at this;exact this
 rw[<-this,fW,JO]
theorem U9 (h:LI w bx KD.heap.size x D S t n u):qi (some ⟨bx,0,none⟩) KD (S.length:Int) (RT w) () u:=by
 unfold qi;have h:=h.AB ((Ext.refl _ u).drew);refine (h.op (Wc _ ⟨#[81]⟩) AAe).mono ?_;rintro r u1 ⟨x1,D1,Rw,S1,e,hm,he⟩;rw[show ((⟨#[81]⟩,[],⟨#[]⟩):Wt.Bs)=QB from rfl,AAa]at e;simp only[Prod.mk.injEq]at e;obtain ⟨rfl,e⟩:=e;have xP:mc x1 D1 S1=mc x D S:=by rw[<-e,U8 x D S]
 obtain ⟨q1,q2,q3⟩:=pC xP;have hg:AO u1 KD.heap.size (AQ.cells LG (Al x t)).toArray 40:=he.AR h.was h.gb;have ht:FA.IV u1 t D:=h.BQ.AF he fun j hj=>h.own j hj
 have hE:Ext (fun _=>False) w u1:=h.ext.trans he (fun _ h=>h) fun j hj e=>by have:=h.lo;omega
 refine ⟨fun z=>AO z KD.heap.size (AQ.cells LG (Al x t)).toArray 40,hg,Br.t rfl ?_⟩;refine Am.AR (ts:=LG) (pre:=[]) (post:=[]) (x:=Al x t) (fun z hz=>by rw[aN];exact hz) rfl ?_;refine (GR hm).mono ?_;rintro r2 u2 ⟨t2,rfl,ho2,e2⟩;refine ⟨e2.AR hg id,?_⟩;have LX:FA.IV u2 (FA.BQ (Al x1 t2)) D1:=by rw[FG];exact ho2.iv
 have Kq:FA.IV u2 (FA.BQ (Al x t)) D:=by rw[FG];exact ht.AB e2
 have IM:D1.length<=1000000:=by rw[q2];have:=h.OR;omega
 refine (fY LX Kq IM).mono ?_;rintro r3 u3 ⟨rfl,e3⟩;rw[MS,Wa q1 q2];refine Br.t rfl ?_;have hm3:=hm.AB (e2.tr e3);refine (FH hm3).mono ?_;rintro r4 u4 ⟨rfl,rfl⟩;exact ⟨by rw[q3];simp,(hE.tr e2).tr e3⟩
theorem Rx {q:Option Mx}{p:Mx}{e:Int}(h:(p,e)=VA q):(∃m,q=some m/\p=m/\e=0)\/(q=none/\e=2):=by
 cases q with
 |some m=>
  unfold VA at h;simp only[Prod.mk.injEq]at h;exact .inl ⟨m,rfl,h.1,h.2⟩
 |none=>
  unfold VA at h;simp only[Prod.mk.injEq]at h;exact .inr ⟨rfl,h.2⟩
theorem We {a:Mx}(ha:CV.De a=true){n:P}{s:List P}{r:Int}{m:Mc}(e:o8 ⟨n,s⟩ (cmB a)=(r,m)):(∃p,DT a (Ej n.1)=some p/\r=0/\m=⟨(Rt n.1 p,n.2),s⟩)\/(DT a (Ej n.1)=none/\r=2/\m=⟨n,s⟩):=by
 rw[tj ha]at e;cases hq:DT a (Ej n.1)with
 |some p=>
  rw[hq]at e;simp only[Prod.mk.injEq]at e;exact .inl ⟨p,rfl,e.1.symm,e.2.symm⟩
 |none=>
  rw[hq]at e;simp only[Prod.mk.injEq]at e;exact .inr ⟨rfl,e.1.symm,e.2.symm⟩
end
end Lw
namespace Lw
open Sh CV LB FA
theorem Wf {r:G}{p:Mx}(h:Ej r=p):((r.1==p.1)&&((r.2.1==p.2.1)&&((r.2.2.1==p.2.2.1)&&((r.2.2.2.1==p.2.2.2.1)&&((r.2.2.2.2.1==p.2.2.2.2.1)&&((r.2.2.2.2.2.1==p.2.2.2.2.2)&&true))))))=true:=by
 subst h;unfold Ej;simp
theorem lb (r:G):((r.1,r.2.1,r.2.2.1,r.2.2.2.1,r.2.2.2.2.1,r.2.2.2.2.2.1):Mx)=Ej r:=rfl
theorem xQ {w:World}{g i:Nat}{y:G}{t:TypeId}{α:Type}{V:α->Value}{z:α}{K:α->Prop}(h:AO w g (AQ.cells LG y).toArray t)(hi:(AQ.cells LG y)[i]?=some (V z))(k:K z):Ld w ⟨g,i,none⟩ V K:=Ld.of h (by rw[List.getElem?_toArray];exact hi) k
attribute [local irreducible] er Al Rt Ej A4 AQ.cells FA.BQ
section
variable {w w' w1 u v P5 KD Wd:World} {sv Rw:AA} {b bx g:Nat} {x x1:G} {D D1:List Int} {S S1:List P} {t:AA} {a c m:Mx} {n:P} {r:Int}
attribute [local irreducible] Ld Sh.St Nw Nn AP Ab Am Ak
theorem otx (u:World){r:AA}{a:Mx}(h:Vl.NZ u r ((DP a).map OQ)):Wt.Qx u (⟨#[99,109]⟩,r,⟨#[]⟩) (cmB a):=⟨rfl,h,rfl⟩
theorem fZ (h:LI w bx KD.heap.size x D S t n u)(hc:CV.De c=true)(hB:AO u P5.heap.size (FI c).toArray 24)(h4:P5.heap.size≠bx)(h8:Wd.heap.size≠bx)(hO:r=0->AO u Wd.heap.size (FI (Ej n.1)).toArray 24):
  qj P5 (some ⟨bx,0,none⟩) KD (S.length:Int) r Wd (RT w) () u:=by
 unfold qj;have hbu:=hB.lt;simp only[add_lit,ah]
 iterate 6 refine Ld.of hB rfl ?_
 refine (Hx.start u (fun _=>False)).B5 fun u2 H2 e2=>?_
 simp only[ae]at H2;refine (P3 (l:=DP c) (H2.get 0 rfl) (by show 6<=_;decide)).mono ?_;rintro r1 u3 ⟨fa,e3⟩;have Tq:=e2.tr e3;refine ((h.AB Tq).op (otx u3 fa) (fV c)).mono ?_;rintro r2 u4 ⟨x1,D1,Rw,S1,e,hm,he⟩;have key:∃n',LI w bx KD.heap.size x D S t n' u4/\((∃p,DT c (Ej n.1)=some p/\r2=0/\Ej n'.1=p)\/(DT c (Ej n.1)=none/\r2=2)):=by
  rcases We hc e with ⟨p,h1,h2,h3⟩|⟨h1,h2,h3⟩
  ·exact ⟨_,(h.AB Tq).step hm he h3,.inl ⟨p,h1,h2,pE _ _⟩⟩
  ·exact ⟨_,(h.AB Tq).step hm he h3,.inr ⟨h1,h2⟩⟩
 obtain ⟨n',hL,hr⟩:=key;have hB4:=he.AR (Tq.AR hB id) h4;refine As.intro (Br.eq (fun h0=>?_) fun h0=>U9 hL);have hO4:=he.AR (Tq.AR (hO h0) id) h8
 iterate 6 refine Ld.of hB4 rfl ?_
 iterate 6 refine Ld.of hO4 rfl ?_
 refine (Wg c (Ej n.1) u4).mono ?_;rintro r3 r4 u5 ⟨Yf,e5⟩;refine (Hx.start u5 (fun _=>False)).B5 fun u6 H6 e6=>?_
 simp only[ae,add_lit,ah]at H6⊢
 iterate 6 (refine H6.st 0 rfl (by simp) (.inr (aB _)) fun _ H6=>?_;simp only[af,aa,ab]at H6)
 have H6:=H6.drew;refine ⟨fun z=>AO z u5.heap.size #[.int .i64 r3.1,.int .i64 r3.2.1,.int .i64 r3.2.2.1,.int .i64 r3.2.2.2.1,.int .i64 r3.2.2.2.2.1,.int .i64 r3.2.2.2.2.2] 24,H6.get 0 rfl,?_⟩;have hL6:=hL.AB (e5.tr H6.ext);rcases Rx Yf with ⟨q,q1,rfl,rfl⟩|⟨q1,rfl⟩
 ·rcases hr with ⟨p,p1,rfl,p2⟩|⟨p1,_⟩
  ·rw[p1]at q1;have q1:p=r3:=aZ q1;subst q1;refine Br.f rfl (Br.t rfl ?_)
   iterate 6 refine AP.of (fun _ h=>h) rfl ?_
   refine hL6.st.mono ?_;rintro r7 u7 ⟨hct,e7⟩;refine ⟨e7.AR (H6.get 0 rfl) id,?_⟩;rw[Wf (hct.trans p2)];exact Br.f rfl (U9 (hL6.AB e7))
  ·rw[p1]at q1;cases q1
 ·rcases hr with ⟨p,p1,_,_⟩|⟨_,rfl⟩
  ·rw[p1]at q1;cases q1
  ·exact Br.f rfl (Br.f rfl (U9 hL6))
theorem fb (hs:AS w)(hw:Ext (fun _=>False) w u)(wY:w.heap.size<bx)(hm:MV u bx x D sv S)(ha:CV.De a=true)(hc:CV.De c=true)(hA:AO u w.heap.size (FI a).toArray 24)(hB:AO u P5.heap.size (FI c).toArray 24)(h4:P5.heap.size≠bx):
  cm w P5 (some ⟨bx,0,none⟩) (RT w) () u:=by
 unfold cm;have hbx:=hm.AR.lt;refine (GR hm).mono ?_;rintro r1 u1 ⟨t,rfl,ho,e1⟩;have jt:=e1.size;refine (Hx.start u1 (fun _=>False)).B5 fun u2 H e2=>?_
 simp only[ae]at H;have HS:=e2.size;have fc:=AO.lt (H.get 0 rfl);refine Ak.AR (ts:=LG) (pre:=[]) (zs:=AQ.cells LG Wh) (post:=[]) (by rw[aN,ae];with_unfolding_all exact H.get 0 rfl) rfl (by with_unfolding_all rfl) fun u3 g3 e3=>?_
 rw[aN]at g3;have g3:AO u3 u1.heap.size (AQ.cells LG (Al x t)).toArray 40:=g3;have ju:Ext (fun _=>False) u1 u3:=Ext.new e2 e3 fun j hj=>by have hj:j=u1.heap.size:=hj;omega
 have e03:=e1.tr ju;have LC:=e3.size;have hm3:=hm.AB e03;refine (FH hm3).mono ?_;rintro r4 u4 ⟨rfl,rfl⟩;refine (Rs (hs.AB (hw.tr e03)) hm3 (Wc _ ⟨#[113]⟩) AAd).mono ?_;rintro r5 u5 ⟨x1,D1,Rw,S1,e,xR,xS,_⟩;rw[show ((⟨#[113]⟩,[],⟨#[]⟩):Wt.Bs)=qB from rfl,U8,AAZ]at e;have hlen:(mc x D S).saved.length=S.length:=by unfold mc;simp
 rw[hlen]at e;have hE5:Ext (fun _=>False) w u5:=(hw.tr e03).trans xS (fun _ h=>h) fun j hj e=>by omega
 by_cases h28:S.length<28
 case neg=>
  rw[az h28]at e;simp only[Prod.mk.injEq]at e;obtain ⟨rfl,_⟩:=e;have:=hm.Cf;refine Br.t rfl ⟨?_,hE5⟩;rw[bX];omega
 rw[aD h28]at e;simp only[Prod.mk.injEq]at e;obtain ⟨rfl,e⟩:=e;have hgb:u1.heap.size≠bx:=by omega
 have AAk:=xS.AR g3 hgb;have hL5:LI w bx u1.heap.size x D S t (er x,D) u5:=⟨hs,⟨x1,D1,Rw,S1,xR,e.symm⟩,AAk,hgb,(ho.iv.AB ju).AF xS fun j hj e=>by have:=ho.2 j hj;omega,fun j hj e=>by have:=ho.2 j hj;omega,by have:=hm.OR;omega,hE5,by omega⟩
 have hA5:=xS.AR (e03.AR hA id) (by omega);have hB5:=xS.AR (e03.AR hB id) h4;have Wi:=xS.size;refine Br.f rfl ?_;simp only[add_lit,ah]
 iterate 6 refine Ld.of hA5 rfl ?_
 refine (Hx.start u5 (fun _=>False)).B5 fun u6 H6 e6=>?_
 simp only[ae]at H6;refine (P3 (l:=DP a) (H6.get 0 rfl) (by show 6<=_;decide)).mono ?_;rintro r7 u7 ⟨fa,e7⟩;have lg:=e6.tr e7;have xT:=lg.size;refine ((hL5.AB lg).op (otx u7 fa) (fV a)).mono ?_;rintro r8 u8 ⟨x2,D2,sv2,S2,e8,jv,tp⟩;have xU:=tp.size;have key:∃n',LI w bx u1.heap.size x D S t n' u8/\((∃p,DT a (Ej (er x))=some p/\r8=0/\Ej n'.1=p)\/(DT a (Ej (er x))=none/\r8=2)):=by
  rcases We ha e8 with ⟨p,h1,h2,h3⟩|⟨h1,h2,h3⟩
  ·exact ⟨_,(hL5.AB lg).step jv tp h3,.inl ⟨p,h1,h2,pE _ _⟩⟩
  ·exact ⟨_,(hL5.AB lg).step jv tp h3,.inr ⟨h1,h2⟩⟩
 obtain ⟨n',hL8,hr⟩:=key;have hA8:=tp.AR (lg.AR hA5 id) (by omega);have hB8:=tp.AR (lg.AR hB5 id) h4;have xV:=hL8.was
 iterate 6 refine Ld.of hA8 rfl ?_
 refine xQ xV (at0 _) ?_;refine xQ xV (at1 _) ?_;refine xQ xV (at2 _) ?_;refine xQ xV (at3 _) ?_;refine xQ xV (at4 _) ?_;refine xQ xV (at5 _) ?_;have hct:Ej (Al x t)=Ej (er x):=by rw[fW,JO]
 rw[lb];refine (Wg a (Ej (Al x t)) u8).mono ?_;rintro r9 Ng u9 ⟨Yf,e9⟩;rw[hct]at Yf;have xW:=e9.size;refine (Hx.start u9 (fun _=>False)).B5 fun u10 xX Fq=>?_
 simp only[ae,add_lit,ah]at xX⊢
 iterate 6 (refine xX.st 0 rfl (by simp) (.inr (aB _)) fun _ xX=>?_;simp only[af,aa,ab]at xX)
 rename_i u11;have ed:=e9.tr xX.ext;have edd:=ed.drew;have tq:=hL8.AB edd;have AAm:=edd.AR hB8 id;have h9:u9.heap.size≠bx:=by omega
 refine As.intro ?_;have H11:=xX.drew;refine ⟨fun z=>AO z u9.heap.size #[.int .i64 r9.1,.int .i64 r9.2.1,.int .i64 r9.2.2.1,.int .i64 r9.2.2.2.1,.int .i64 r9.2.2.2.2.1,.int .i64 r9.2.2.2.2.2] 24,H11.get 0 rfl,?_⟩;rcases Rx Yf with ⟨q,q1,rfl,rfl⟩|⟨q1,rfl⟩
 ·rcases hr with ⟨p,p1,rfl,p2⟩|⟨p1,_⟩
  ·rw[p1]at q1;have q1:p=r9:=aZ q1;subst q1;refine Br.f rfl (Br.t rfl ?_)
   iterate 6 refine AP.of (fun _ h=>h) rfl ?_
   refine tq.st.mono ?_;rintro Jx u12 ⟨hct,Zq⟩;refine ⟨Zq.AR (H11.get 0 rfl) id,?_⟩;rw[Wf (hct.trans p2)];exact Br.f rfl (fZ (tq.AB Zq) hc (Zq.AR AAm id) h4 h9 fun _=>by rw[p2];exact Zq.AR (H11.get 0 rfl) id)
  ·rw[p1]at q1;cases q1
 ·rcases hr with ⟨p,p1,_,_⟩|⟨_,rfl⟩
  ·rw[p1]at q1;cases q1
  ·exact Br.f rfl (Br.f rfl (fZ tq hc AAm h4 h9 fun h=>absurd h (by decide)))
end
end Lw
namespace Lw
open Sh CV LB FA
theorem OS {S:World->Prop}{a:Addr}{α:Type}{V:α->Value}{x:α}{K:α->Prop}(h:∀w,S w->w.cell? a=some (V x))(k:K x):AP S a V K:=⟨x,h,k⟩
theorem fe {S:Nat->Prop}{w:World}{s:AA}{Q:List Wt.Bs}(h:Wt.ED S w s Q){i:Nat}{q:Wt.Bs}(hi:Q[i]?=some q):∃a o,s.p=some a/\Wt.IN S w o q/\S a.block/\w.cell? (a.add (i*3))=some (.string o.1)/\w.cell? ((a.add (i*3)).add 1)=some (AA.v o.2.1)/\w.cell? ((a.add (i*3)).add 2)=some (.string o.2.2):=by
 obtain ⟨L,h1,h2,h4,h3⟩:=h;obtain ⟨o,ho,Bd⟩:=h3.P6 hi;have Bg:L≠[]:=fun e=>by rw[e]at ho;simp at ho
 have g:∀j v,j<3->(Wt.CL o)[j]?=some v->∃a,s.p=some a/\w.cell? ((a.add (i*3)).add j)=some v:=fun j v hj hv=>by
  obtain ⟨a,ha,hc⟩:=h2.2 (i*3+j) v (by rw[Wt.OT ho hj];exact hv);exact ⟨a,ha,by rw[Be];exact hc⟩
 obtain ⟨a,ha,c0⟩:=g 0 _ (by omega) rfl;obtain ⟨a1,VB,c1⟩:=g 1 _ (by omega) rfl;obtain ⟨a2,MT,c2⟩:=g 2 _ (by omega) rfl;rw[ha]at VB MT;cases VB;cases MT;exact ⟨a,o,ha,Bd,h4 Bg _ ⟨a,ha,rfl⟩,by rw[Be]at c0;exact c0,c1,c2⟩
def wid (g:G):Int:=g.2.2.2.2.2.2.1
theorem tt (g:G)(t:AA):wid (Al g t)=wid g:=by
 unfold wid Al;dsimp only
theorem tu (g:G):wid (er g)=wid g:=by
 unfold wid er Al;dsimp only
theorem AAn (g:G)(n:Int):wid (Ye g n)=n:=by
 unfold wid Ye;dsimp only
theorem P7:((CV.one.1,CV.one.2.1,CV.one.2.2.1,CV.one.2.2.2.1,CV.one.2.2.2.2.1,CV.one.2.2.2.2.2):Mx)=CV.one:=rfl
attribute [local irreducible] er Al Rt Ye Ej A4 AQ.cells FA.BQ DI
section
variable {w w' w1 u v P5 vr:World} {sv sw:AA} {bx b2 g:Nat} {x y:G} {D E:List Int} {S T:List P} {t l1 WB:AA} {a c m:Mx} {n:P} {r:Int} {Q:List Wt.Bs} {Sm:Nat->Prop}
attribute [local irreducible] Ld Sh.St Nw Nn AP Ab Am Ak
structure L2 (w P5 vr:World) (bx b2:Nat) (a c:Mx) (v:World):Prop where
 ex:∃x D sv S y E sw T,MV v bx x D sv S/\MV v b2 y E sw T/\mc x D S=mc y E T/\(∀j,MO x sv S j->j≠b2)/\∀j,MO y sw T j->j≠bx
 ne:bx≠b2
 lx:w.heap.size<bx
 ly:w.heap.size<b2
 ext:Ext (fun _=>False) w v
 er:Ext (fun j=>j=bx\/j=b2) vr v
 hA:AO v w.heap.size (FI a).toArray 24
 hB:AO v P5.heap.size (FI c).toArray 24
 n4:P5.heap.size≠bx/\P5.heap.size≠b2
theorem ff (hs:AS w)(ha:CV.De a=true)(hc:CV.De c=true)(hl:Wt.Kr w l1 Q)(hr:Wt.ED Sm vr WB Q)(hSm:∀j,Sm j->j≠bx/\j≠b2)(hf:∀q∈Q,o9 q)(hQ:Q.length<=30)(h:L2 w P5 vr bx b2 a c v):
  Lp (σ:=Int) (kR l1 (some ⟨bx,0,none⟩) (some ⟨b2,0,none⟩) WB (cm w P5 (some ⟨bx,0,none⟩) (RT w)) (RT w)) 0 v:=by
 have hlen:=hl.len;have Hq:=hr.t0z.len;refine ⟨fun n st u=>∃i:Nat,i<=Q.length/\st=(i:Int)/\n=Q.length-i/\L2 w P5 vr bx b2 a c u,Q.length,⟨0,by omega,rfl,by omega,h⟩,?_⟩;clear h;rintro n st v ⟨i,hi,rfl,rfl,h⟩;unfold kR;refine Br.dec (fun Av=>?_) fun Fh=>?_
 ·have Av:(i:Int)<((l1.len:Nat):Int):=Av;have Fp:i<Q.length:=by omega
  have Zr:Q[i]?=some Q[i]:=al Fp;have fg:=bH Fp;generalize Q[i]=q at Zr fg;obtain ⟨a1,o1,VB,LX,c0,c1,c2⟩:=hl.at' Zr;obtain ⟨a2,o2,MT,Kq,LY,d0,d1,d2⟩:=fe hr Zr;obtain ⟨fh,pF⟩:=hSm _ LY;have ed:Ext (fun _=>False) v v.drew:=(Ext.refl _ v).drew;have hw:Ext (fun _=>False) w v.drew:=h.ext.tr ed;have F4:Ext (fun j=>j=bx\/j=b2) vr v.drew:=h.er.trans ed (fun _ h=>h) fun _ _ h=>h.elim
  refine ⟨fun z=>Ext (fun _=>False) w z/\Ext (fun j=>j=bx\/j=b2) vr z,⟨hw,F4⟩,by omega,by omega,?_⟩;rw[show (i:Int).toNat=i by omega,VB];have nb:∀k,¬(((a2.add (i*3)).add k).block=bx\/((a2.add (i*3)).add k).block=b2):=fun k=>by rw[B9,B9];omega
  have nb0:¬((a2.add (i*3)).block=bx\/(a2.add (i*3)).block=b2):=by rw[B9];omega
  refine Nn.of (OS (fun z hz=>hz.1.B8 c0) (OS (fun z hz=>hz.1.B8 c1) (OS (fun z hz=>hz.1.B8 c2) ⟨by omega,by omega,?_⟩)));rw[MT];refine Nn.of (OS (fun z hz=>hz.2.cellOf d0 nb0) (OS (fun z hz=>hz.2.cellOf d1 (nb 1)) (OS (fun z hz=>hz.2.cellOf d2 (nb 2)) ?_)));obtain ⟨x,D,sv,S,y,E,sw,T,hx,hy,xP,Bd,hoy⟩:=h.ex;have hbx:=hx.AR.lt;have hby:=hy.AR.lt;have tw:v.drew.heap.size=v.heap.size:=rfl;refine (Rs (hs.AB hw) (hx.AB ed) (LX.AB hw) (hf q fg)).mono ?_;rintro r1 v1 ⟨x',D',th,S',e1,Wj,f1,ho1⟩;have jt:=f1.size;have Bg:=h.ne;have hy1:MV v1 b2 y E sw T:=(hy.AB ed).AF f1 (fun e=>Bg e.symm) fun j hj e=>hoy j hj e
  have tz:Ext (fun _=>False) w v1:=hw.trans f1 (fun _ h=>h) fun j hj e=>by have:=h.lx;omega
  have N4:Ext (fun j=>j=bx\/j=b2) vr v1:=F4.trans f1 (fun _ h=>h) fun j hj e=> .inl e
  refine ⟨⟨tz,N4⟩,?_⟩;refine (Rs (hs.AB tz) hy1 ((Kq.AF N4 fun j hj e=>by have:=hSm j hj;omega).t0z) (hf q fg)).mono ?_;rintro r2 v2 ⟨y',E',sw',T',e2,hy',f2,ho2⟩;have HS:=f2.size;rw[xP,e2]at e1;simp only[Prod.mk.injEq]at e1;obtain ⟨hrr,AAp⟩:=e1;have AAq:MV v2 bx x' D' th S':=Wj.AF f2 Bg fun j hj e=>by
   rcases ho1 j hj with h1|h1
   ·exact Bd j h1 e
   ·omega
  have uA:Ext (fun _=>False) w v2:=tz.trans f2 (fun _ h=>h) fun j hj e=>by have:=h.ly;omega
  have hr3:Ext (fun j=>j=bx\/j=b2) vr v2:=N4.trans f2 (fun _ h=>h) fun j hj e=> .inr e
  obtain ⟨q1,q2,q3⟩:=pC AAp.symm;refine Br.f (by rw[hrr];simp) ?_;refine (GR AAq).mono ?_;rintro r3 v3 ⟨t1,rfl,ht1,f3⟩;refine (GR (hy'.AB f3)).mono ?_;rintro r4 v4 ⟨t2,rfl,ht2,f4⟩;have g1:FA.IV v4 (FA.BQ (Al x' t1)) D':=by rw[FG];exact ht1.iv.AB f4
  have g2:FA.IV v4 (FA.BQ (Al y' t2)) E':=by rw[FG];exact ht2.iv
  have g3:D'.length<=1000000:=by have:=Wj.OR;omega
  refine (fY g1 g2 g3).mono ?_;rintro r5 v5 ⟨rfl,f5⟩;rw[MS,Wa q1 q2];have f25:=(f3.tr f4).tr f5;have Wi:=f25.size;have hx5:=AAq.AB f25;have hy5:=hy'.AB f25;refine Br.f rfl ((FH hx5).mono ?_);rintro r6 v6 ⟨rfl,rfl⟩;refine (FH hy5).mono ?_;rintro r7 v7 ⟨rfl,rfl⟩;refine Br.f (by rw[q3];simp) ⟨Q.length-(i+1),by omega,i+1,by omega,by rw[IntWalk.i64_in _ (by omega)];rfl,rfl,⟨⟨x',D',th,S',y',E',sw',T',hx5,hy5,AAp.symm,fun j hj e=>?_,fun j hj e=>?_⟩,Bg,h.lx,h.ly,uA.tr f25,hr3.trans f25 (fun _ h=>h) fun _ _ h=>h.elim,?_,?_,h.n4⟩⟩
  ·rcases ho1 j hj with h1|h1
   ·exact Bd j h1 e
   ·omega
  ·rcases ho2 j hj with h1|h1
   ·exact hoy j h1 e
   ·omega
  ·exact f25.AR (f2.AR (f1.AR (ed.AR h.hA id) (by have:=h.lx;omega)) (by have:=h.ly;omega)) id
  ·exact f25.AR (f2.AR (f1.AR (ed.AR h.hB id) h.n4.1) h.n4.2) id
 ·obtain ⟨x,D,sv,S,y,E,sw,T,hx,hy,xP,Bd,hoy⟩:=h.ex;exact fb hs h.ext h.lx hx ha hc h.hA h.hB h.n4.1
theorem MU (w:World):C4 CV.one w fun r w1=>∃b,r=some ⟨b,0,none⟩/\w.heap.size<=b/\MV w1 b (DI CV.one) [] CU []/\Ext (fun _=>False) w w1:=by
 refine (AAs CV.one w).mono ?_;rintro r w1 ⟨e,h⟩;rw[aD (by decide)]at h;obtain ⟨b,h1,h2,h3⟩:=h;exact ⟨b,h1,h2,h3,e⟩
theorem Ry (j:Nat):¬MO (DI CV.one) CU [] j:=by
 rintro (⟨a,ha,_⟩|⟨a,ha,_⟩|⟨p,hp,_⟩)
 ·rw[JP]at ha;cases ha
 ·cases ha
 ·cases hp
theorem VC (hl:Wt.Kr w l1 Q)(hs:AS w)(hP:Tl.PT w)(hcn:∀q∈Q,∀t∈q.2.1,Wt.Na t<=4000000)(hz:(Q.map Wt.Zs).sum<=1000000000)(PR:Value->World->Prop):
  C3 l1 a c w (RT w) PR:=by
 have hlen:=hl.len;refine T3 l1 a c _ _ _ ?_;unfold S3;refine (Hx.start w (fun _=>False)).nw fun w2 H=>?_
 have uA:=H.size;have fc:=AO.lt (H.get 0 rfl);refine H.nw fun w3 H=>?_
 simp only[ae,ag,add_lit,ah]at H⊢;have pG:=AO.lt (H.get 1 rfl);refine (fj w3).mono ?_;rintro r4 w4 ⟨rfl,e4⟩;have H:=H.AB e4;have Zt:=e4.size;rw[P7];refine (MU w4).mono ?_;rintro r5 w5 ⟨b0,rfl,KE,hm0,e5⟩;have H:=H.AB e5;have Wi:=e5.size;refine Br.f rfl ?_;refine (Hx.start w5 (fun _=>False)).B5 fun w6 H6 e6=>?_
 simp only[ae]at H6;refine (P3 (l:=[5]) (H6.get 0 rfl) (by decide)).mono ?_;rintro r7 w7 ⟨fa,e7⟩;have lg:=e6.tr e7;have H:=H.AB lg;have AUH:=hm0.AR.lt;refine (Rs (hs.AB H.ext) (hm0.AB lg) (o:=(⟨#[119]⟩,r7,⟨#[]⟩)) (q:=wB) ⟨rfl,fa,rfl⟩ AAc).mono ?_;rintro r8 w8 ⟨x1,D1,Rw,S1,e8,jv,tp,_⟩;rw[U8,AAb]at e8;simp only[Prod.mk.injEq]at e8;obtain ⟨rfl,e8⟩:=e8;have hn8:(Ye (er (DI CV.one)) 5,([]:List Int))=(er x1,D1):=by
  have:=aq Mc.now e8;rw[fX]at this;exact this
 have hw8:wid x1=5:=by
  simp only[Prod.mk.injEq]at hn8;rw[<-tu,<-hn8.1,AAn]
 have H:=H.other tp (fun j (hj:j=b0)=>by
  simp only[aC,br,aw,aG,bA,not_or];omega) fun j (hj:j=b0)=> .inr (by omega)
 refine Br.f rfl ((GR jv).mono ?_);rintro r9 w9 ⟨t9,rfl,_,e9⟩;have H:=H.AB e9;have hw9:(Al x1 t9).2.2.2.2.2.2.1=5:=(tt x1 t9).trans hw8;refine Br.f (by rw[hw9];rfl) (Br.dec (fun _=>⟨rfl,H.ext⟩) fun h30=>?_);have h30:¬((l1.len:Nat):Int)>30:=h30
 iterate 6 refine H.ld 0 rfl rfl ?_
 refine (DU a _).mono ?_;rintro Ng Zu ⟨rfl,Fq⟩;have H:=H.AB Fq;by_cases ha:CV.De a=true
 case neg=>
  rw[az ha];exact Br.t rfl ⟨rfl,H.ext⟩
 rw[aD ha];refine Br.f rfl ?_
 iterate 6 refine H.ld 1 rfl rfl ?_
 refine (DU c _).mono ?_;rintro Lx Gp ⟨rfl,Ts⟩;have H:=H.AB Ts;by_cases hc:CV.De c=true
 case neg=>
  rw[az hc];exact Br.t rfl ⟨rfl,H.ext⟩
 rw[aD hc];refine Br.f rfl ((fj _).mono ?_);rintro Jx Tt ⟨rfl,Zq⟩;have H:=H.AB Zq;rw[P7];have AM2:=H.size;have hga:=AO.lt (H.get 0 rfl);have hgb:=AO.lt (H.get 1 rfl);refine (MU Tt).mono ?_;rintro za w13 ⟨bx,rfl,hbx,hmx,ju⟩;have H:=H.AB ju;have AM3:=ju.size;have AUK:=hmx.AR.lt;refine (fj _).mono ?_;rintro RE w14 ⟨rfl,e14⟩;have H:=H.AB e14;have AUL:=e14.size;rw[P7];refine (MU w14).mono ?_;rintro xC w15 ⟨b2,rfl,LY,hmy,e15⟩;have H:=H.AB e15;have AUM:=e15.size;have AUN:=hmy.AR.lt;refine Br.f rfl (Br.f rfl ?_);refine (Wt.lh (hl.AB H.ext) (hP.AB H.ext) (by omega) hcn hz).mono ?_ fun _ _ h=>h.elim
 rintro H9 e16 w16 ⟨⟨ht1,ht2⟩,f16⟩;have H:=H.AB f16;have AUO:=f16.size;have fin:∀{u:World} {Q':List Wt.Bs} {PV:AA} {f17:Int×Int} {Yg:World},f17=(0,0)->Wt.ED (fun j=>w16.heap.size<=j/\j<Yg.heap.size) Yg PV Q'->Ext (fun _=>False) w16 Yg->(e16=0->Q'=Q/\∀q∈Q,Wt.DH q)->
   Nw Yg (.cells #[.int .i64 0,.int .i64 0] 46) fun DV=>
   Sh.St DV (⟨Yg.heap.size,0,none⟩:Addr) (.int .i64 (f17.1)) fun AM7=>
   Sh.St AM7 (⟨Yg.heap.size,1,none⟩:Addr) (.int .i64 (f17.2)) fun fk=>
   As (cm w w2 (some ⟨bx,0,none⟩) (RT w)) fun (Lm:Unit->World->Prop)=>
    Br (e16==0) (Ld fk (⟨Yg.heap.size,1,none⟩:Addr) (Value.int .i64) fun (UU:Int)=>
     Br (UU !=0) (RT w false fk) (Br (((PV.len:Nat):Int) !=((l1.len:Nat):Int)) (RT w false fk) (Lp (σ:=Int) (kR l1 (some ⟨bx,0,none⟩) (some ⟨b2,0,none⟩) PV Lm (RT w)) 0 fk))) (Lm () fk):=by
  intro u Q' PV f17 Yg hf hO f hE;subst hf;have H:=H.AB f;have AUP:=f.size;refine (Hx.start Yg (fun _=>False)).B5 fun w18 lj e18=>?_
  simp only[ae]at lj;refine lj.st 0 rfl (by simp) (.inr (aB _)) fun w19 lj=>?_
  simp only[af,aa,ab]at lj;refine lj.st 0 rfl (by simp) (.inr (aB _)) fun w20 lj=>?_
  simp only[af,aa,ab]at lj;have e20:=lj.ext;have H:=H.AB e20;have AAu:=H.ext;have AUQ:=e20.size;have kx:MV w20 bx (DI CV.one) [] CU []:=((((hmx.AB e14).AB e15).AB f16).AB f).AB e20;have ky:MV w20 b2 (DI CV.one) [] CU []:=((hmy.AB f16).AB f).AB e20;refine As.intro (Br.eq (fun h0=>?_) fun h0=>?_)
  ·obtain ⟨rfl,OU⟩:=hE h0;have hQl:=hO.t0z.len;refine lj.ld 0 rfl rfl (Br.f rfl (Br.f (by rw[hQl,hlen];simp) ?_));refine ff hs ha hc hl hO (fun j hj=>⟨by omega,by omega⟩) (fun q hq=>fQ (OU q hq)) (by omega) ⟨⟨_,_,_,_,_,_,_,_,kx,ky,rfl,fun j hj=>(Ry j hj).elim,fun j hj=>(Ry j hj).elim⟩,by omega,by omega,by omega,AAu,e20.mono fun _ _ h=>h.elim,H.get 0 rfl,H.get 1 rfl,by omega,by omega⟩
  ·exact fb hs AAu (by omega) kx ha hc (H.get 0 rfl) (H.get 1 rfl) (by omega)
 by_cases he:e16=0
 ·obtain ⟨OU,hT,Gx⟩:=ht1 he;refine (Wt.Rz (by omega) OU hT (by omega) w16).mono ?_;rintro PV f17 Yg ⟨hf,hO,f⟩;exact fin (u:=Yg) hf hO f fun _=>⟨rfl,OU⟩
 ·rw[ht2 he];refine (Wt.Rz (s:=⟨#[]⟩) (Q:=[]) (by decide) (fun q hq=>by cases hq) (show Wt.Ek [] []from rfl) (by decide) w16).mono ?_;rintro PV f17 Yg ⟨hf,hO,f⟩;exact fin (u:=Yg) hf hO f fun h=>absurd h he
end
end Lw
set_option maxRecDepth 512
set_option maxHeartbeats 200000
namespace Sh
def mb (P:Program)(S:List TypeId):Bool:=S.all fun t=>match P.underlying t with
 |some (.slice e)=>S.contains e
 |some (.struct fs)=>fs.toList.all fun f=>S.contains f.type
 |some (.array _ _)=>false
 |some (.pointer _)=>false
 |_=>true
theorem P8 {H:Type}{enc:TypeId×Value->H}{P:Program}{w:World}{spare:Nat->Bool}{held:Bool}{S:List TypeId}(hS:mb P S=true):∀(n:Nat) (t:TypeId) (cs:List Value) (x:DataW H×List MemPlace),t∈S->
  DataW.trod enc P w 0 spare held n t cs=some x->Fb P w n t cs (Rows.uptoBulk x.1)
 |0,t,cs,x,_,h=>by simp[DataW.trod]at h
 |n+1,t,cs,x,htS,h=>by
  have pw:=aJ.1 hS t htS;unfold Fb;split
  ·rename_i k ht;obtain ⟨y,h1,_,h2⟩:=DataW.trod_int ht h;exact ⟨y,h1,h2⟩
  ·rename_i ht;obtain ⟨y,h1,_⟩:=DataW.trod_bool ht h;exact ⟨y,h1⟩
  ·rename_i ht;obtain ⟨y,h1,hx,h2⟩:=DataW.trod_string ht h;refine ⟨y,h1,h2,?_⟩;rw[hx];simp only[Rows.uptoBulk];rw[<-Yd];exact cv _
  ·rename_i e ht;rw[ht]at pw;rcases DataW.trod_slice ht h with ⟨h0,_⟩|⟨a,len,cap,elems,rest,k,hk,N9,hx,_,hl,hc,hel,hi,_⟩
   ·exact ⟨⟨none,0,0⟩,h0,.inl rfl⟩
   ·cases hk;have hb:Rows.uptoBulk x.1=(elems.map fun x=>Rows.uptoBulk x.1).sum+Rows.uptoBulkAll (rest.map (·.1))+1:=by
     rw[hx];simp only[Rows.uptoBulk];rw[SU]
    have lV:=gr elems;refine ⟨⟨some a,len,cap⟩,N9,.inr ⟨a,elems.map fun x=>Rows.uptoBulk x.1,rfl,hl,hc,by rw[aV,hel],by omega,by show len<_;omega,fun i b hb=>?_⟩⟩;rw[aR]at hb;obtain ⟨y,hy,rfl⟩:=aX.1 hb;have La:i<len:=by have:=(ao.1 hy).1;omega
    have h2:=(hi i La).trans hy;obtain ⟨Bq,h3,h4⟩:=bW.1 h2;obtain ⟨_,h5,h6⟩:=World.cells?_some h3;exact ⟨Bq,h5,fun j hj=>by rw[<-Be];exact h6 j hj,P8 hS n e Bq _ (aY.1 pw) h4⟩
  ·rename_i fs ht;rw[ht]at pw;obtain ⟨xs,k,hk,hx,hl,j2,hf⟩:=DataW.trod_struct ht h;cases hk;have hb:Rows.uptoBulk x.1=(xs.map fun x=>Rows.uptoBulk x.1).sum+1:=by
    rw[hx];simp only[Rows.uptoBulk];rw[SU]
   refine ⟨hl,xs.map fun x=>Rows.uptoBulk x.1,by omega,fun i f xm=>?_⟩;have Av:i<fs.size:=(au.1 xm).1;have hlx:i<xs.length:=by rw[j2];exact Av
   have Bt:f∈fs.toList:=aA (i:=i) (by simpa using xm);refine ⟨Rows.uptoBulk (xs[i]).1,by rw[aR,al hlx];rfl,P8 hS n f.type _ _ (aY.1 (aJ.1 pw f Bt)) ((hf i f xm).trans (al hlx))⟩
  ·rename_i a b ht;rw[ht]at pw;cases pw
  ·rename_i a ht;rw[ht]at pw;cases pw
  ·trivial
theorem MW {P:Program}{w:World}{n k b:Nat}{t e:TypeId}{cs:List Value}{α:Type}[Inhabited α]{Q:α->List Value->Nat->Prop}(hu:P.underlying t=some (.slice e))(hk:P.cellsOf e=k)(h:Fb P w (n+1) t cs b)
  (hQ:∀Bq x,Fb P w n e Bq x->∃q,Q q Bq x):∃(s:AA) (L:List α) (bs:List Nat),cs=[AA.v s]/\s.len=L.length/\L.length=bs.length/\bs.sum<=b/\L.length<=maxLen/\∀(i:Nat) (q:α),L[i]?=some q->∃a Bq x,bs[i]?=some x/\s.p=some a/\(∀j,j<k->w.cell? (a.add (i*k+j))=Bq[j]?)/\Q q Bq x:=by
 unfold Fb at h;rw[hu]at h;obtain ⟨s,rfl,h⟩:=h;rcases h with rfl|⟨a,bs,hp,h1,h2,h3,h4,_,h5⟩
 ·exact ⟨_,[],[],rfl,rfl,rfl,bD _,bD _,fun i q hi=>by cases hi⟩
 ·rw[hk]at h5;have h':∀i,∃q:α,∀x,bs[i]?=some x->∃Bq,(∀j,j<k->w.cell? (a.add (i*k+j))=Bq[j]?)/\Q q Bq x:=fun i=>by
   cases hb:bs[i]? with
   |none=>exact ⟨default,fun x hx=>by cases hx⟩
   |some x=>
    obtain ⟨Bq,_,c1,c2⟩:=h5 i x hb;obtain ⟨q,hq⟩:=hQ Bq x c2;exact ⟨q,fun y hy=>by cases hy;exact ⟨Bq,c1,hq⟩⟩
  refine ⟨s,(List.range s.len).map fun i=>Classical.choose (h' i),bs,rfl,by simp,by simp[h3],Nat.le_of_lt h4,by simp;omega,fun i q hi=>?_⟩;rw[aR]at hi;obtain ⟨i',hi1,rfl⟩:=aX.1 hi;obtain ⟨Av,rfl⟩:=ao.1 hi1;simp only[List.length_range]at Av;simp only[List.getElem_range];have Qy:bs[i]?=some (bs[i]'(by omega)):=al (by omega);obtain ⟨Bq,c1,c2⟩:=Classical.choose_spec (h' i) _ Qy;exact ⟨a,Bq,_,Qy,hp,c1,c2⟩
theorem FJ {P:Program}{w:World}{n b:Nat}{t:TypeId}{cs:List Value}{L:List (Nat×TypeId)}(hL:IP P t=some L)(h:Fb P w (n+1) t cs b):cs.length=P.cellsOf t/\∃bs:List Nat,bs.sum<b/\∀(i o:Nat) (u:TypeId),L[i]?=some (o,u)->∃x,bs[i]?=some x/\Fb P w n u ((cs.drop o).take (P.cellsOf u)) x:=by
 unfold Fb at h;unfold IP at hL;split at hL
 ·rename_i fs hu;rw[hu]at h;cases hL;obtain ⟨h1,bs,h2,h3⟩:=h;refine ⟨h1,bs,h2,fun i o u hi=>?_⟩;rw[aR]at hi;obtain ⟨f,g1,g2⟩:=aX.1 hi;cases g2;exact h3 i f (by simpa using g1)
 ·cases hL
theorem HT {α:Type}{f:α->Nat}{L:List α}{bs:List Nat}(hl:L.length=bs.length)(h:∀(i:Nat) a x,L[i]?=some a->bs[i]?=some x->f a<=x):(L.map f).sum<=bs.sum:=by
 induction L generalizing bs with
 |nil=>simp
 |cons a L ih=>
  cases bs with
  |nil=>cases hl
  |cons x bs=>
   have h0:=h 0 a x rfl rfl;have h1:=ih (bs:=bs) (by simpa using hl) fun i a x ha hx=>h (i+1) a x (by simpa using ha) (by simpa using hx)
   simp only[aC,bK];omega
theorem lk {bs:List Nat}{x3 x4 x5 b:Nat}(h:bs.sum<b)(h3:bs[3]?=some x3)(h4:bs[4]?=some x4)(h5:bs[5]?=some x5):x3+x4+x5<b:=by
 match bs,h3,h4,h5 with
 |a0::a1::a2::a3::a4::a5::r,h3,h4,h5=>
  cases h3;cases h4;cases h5;simp only[bK]at h;omega
 |[],h3,_,_=>simp at h3
 |[_],h3,_,_=>simp at h3
 |[_,_],h3,_,_=>simp at h3
 |[_,_,_],h3,_,_=>simp at h3
 |[_,_,_,_],_,h4,_=>simp at h4
 |[_,_,_,_,_],_,_,h5=>simp at h5
theorem Yj {bs:List Nat}{x0 x1 x2 b:Nat}(h:bs.sum<b)(h0:bs[0]?=some x0)(h1:bs[1]?=some x1)(h2:bs[2]?=some x2):x0+x1+x2<b:=by
 match bs,h0,h1,h2 with
 |a0::a1::a2::r,h0,h1,h2=>
  cases h0;cases h1;cases h2;simp only[bK]at h;omega
 |[],h0,_,_=>simp at h0
 |[_],_,h1,_=>simp at h1
 |[_,_],_,_,h2=>simp at h2
end Sh
set_option maxRecDepth 100000
set_option maxHeartbeats 4000000
namespace Lw
open Sh CV LB FA
open Go.ChangeShapes Go.WideShapes Go.ChangeAt Go.RowKit
abbrev xY (ks:List ByteArray):Nat:=(ks.map fun k=>k.size+1).sum
mutual
def Wk:Vl.Tr->Nat
 | .mk _ _ _ s ks kids=>2+s.size+xY ks+VD kids
def VD:List Vl.Tr->Nat
 |[]=>0
 |t::r=>Wk t+VD r
end
theorem Wl:∀l:List Vl.Tr,VD l=(l.map Wk).sum
 |[]=>rfl
 |t::r=>by rw[VD,aC,bK,Wl r]
theorem Wm:∀ks:List ByteArray,ks.length<=xY ks
 |[]=>aB _
 |k::r=>by have:=Wm r;simp only[xY,aC,bK,ar]at*;omega
theorem fm:∀ks:List ByteArray,Wt.VE ks<=30*xY ks
 |[]=>bD _
 |k::r=>by have:=fm r;rw[Wt.VE];simp only[xY,aC,bK]at*;omega
mutual
theorem pH:∀t,Wt.Na t<=2*Wk t
 | .mk _ _ _ s ks kids=>by have:=fo kids;have:=Wm ks;rw[Wt.Na,Wk];omega
theorem fo:∀l,Wt.KF l<=2*VD l
 |[]=>bD _
 |t::r=>by have:=pH t;have:=fo r;rw[Wt.KF,VD];omega
end
mutual
theorem AAv:∀t,Wt.pI t<=30*Wk t
 | .mk _ _ _ s ks kids=>by have:=VF kids;have:=fm ks;rw[Wt.pI,Wk];omega
theorem VF:∀l,Wt.JQ l<=30*VD l
 |[]=>bD _
 |t::r=>by have:=AAv t;have:=VF r;rw[Wt.JQ,VD];omega
end
theorem uB:∀t,2<=Wk t
 | .mk _ _ _ s ks kids=>by rw[Wk];omega
theorem Wn:∀l,2*l.length<=VD l
 |[]=>bD _
 |t::r=>by have:=uB t;have:=Wn r;rw[VD,ar];omega
theorem Wo {t:Vl.Tr}:∀{l:List Vl.Tr},t∈l->Wk t<=VD l
 |a::r,h=>by
  rw[VD];rcases aw.1 h with rfl|h
  ·omega
  ·have:=Wo h;omega
abbrev OT2:Type:=Vl.Ob×Vl.Tr
theorem Wp {w:World}{n b:Nat}{cs:List Value}(hQ:∀Bq x,Fb prog w n 68 Bq x->∃q:OT2,Bq=Vl.AH q.1/\Vl.JN w n q.1 q.2/\Wk q.2<=x)
  (h:Fb prog w (n+1) 30 cs b):∃(s:AA) (L:List OT2),cs=[AA.v s]/\Vl.OV w s (L.map (·.1))/\Vl.A3 (Vl.JN w n) (L.map (·.1)) (L.map (·.2))/\VD (L.map (·.2))<=b:=by
 have:Inhabited OT2:=⟨(Vl.Bk,.mk 0 0 0 ⟨#[]⟩ [] [])⟩
 obtain ⟨s,L,bs,h1,h2,h3,h4,h5,h6⟩:=MW (Q:=fun (q:OT2) cs x=>cs=Vl.AH q.1/\Vl.JN w n q.1 q.2/\Wk q.2<=x) Tryz.underlying30 (show prog.cellsOf 68=6 by kernel_rfl) h hQ;refine ⟨s,L,h1,⟨by rw[aV,h2],Bb.make (fun _=>rfl) (by decide) (by rw[aV,h2]) fun i x hi=>?_⟩,.of (by simp) fun i o t ho ht=>?_,?_⟩
 ·rw[aR]at hi;obtain ⟨q,hq,rfl⟩:=aX.1 hi;obtain ⟨a,Bq,x,_,ha,hc,rfl,_⟩:=h6 i q hq;exact ⟨a,ha,hc⟩
 ·rw[aR]at ho ht;obtain ⟨q,hq,rfl⟩:=aX.1 ho;rw[hq]at ht;cases ht;obtain ⟨a,Bq,x,_,ha,hc,_,hx,_⟩:=h6 i q hq;exact hx
 ·rw[Wl,List.map_map];refine bC (HT h3 fun i q x hq hx=>?_) h4;obtain ⟨a,Bq,y,hy,ha,hc,_,_,hb⟩:=h6 i q hq;rw[hx]at hy;cases hy;exact hb
theorem fp {w:World}:∀(n:Nat) (cs:List Value) (b:Nat),Fb prog w n 68 cs b->∃q:OT2,cs=Vl.AH q.1/\Vl.JN w n q.1 q.2/\Wk q.2<=b
 |0,cs,b,h=>h.elim
 |1,cs,b,h=>by
  obtain ⟨_,bs,_,hf⟩:=FJ Vl.OW h;obtain ⟨x,_,hx⟩:=hf 0 0 3 rfl;exact hx.elim
 |n+2,cs,b,h=>by
  obtain ⟨hl,bs,Yh,hf⟩:=FJ Vl.OW h;rw[show prog.cellsOf 68=6 by kernel_rfl]at hl;obtain ⟨c0,c1,c2,c3,c4,c5,rfl⟩:∃c0 c1 c2 c3 c4 c5,cs=[c0,c1,c2,c3,c4,c5]:=by
   match cs,hl with
   |[c0,c1,c2,c3,c4,c5],_=>exact ⟨c0,c1,c2,c3,c4,c5,rfl⟩
  obtain ⟨y0,_,f0⟩:=hf 0 0 3 rfl;obtain ⟨y1,_,f1⟩:=hf 1 1 2 rfl;obtain ⟨y2,_,f2⟩:=hf 2 2 3 rfl;obtain ⟨y3,z3,f3⟩:=hf 3 3 9 rfl;obtain ⟨y4,z4,f4⟩:=hf 4 4 66 rfl;obtain ⟨y5,z5,f5⟩:=hf 5 5 30 rfl;rw[show prog.cellsOf 3=1 by kernel_rfl]at f0 f2;rw[show prog.cellsOf 2=1 by kernel_rfl]at f1;rw[show prog.cellsOf 9=1 by kernel_rfl]at f3;rw[show prog.cellsOf 66=1 by kernel_rfl]at f4;rw[show prog.cellsOf 30=1 by kernel_rfl]at f5;obtain ⟨x0,e0,_⟩:=LD Tryz.underlying3 f0.up;obtain ⟨x1,e1,_⟩:=LD Tryz.underlying2 f1.up;obtain ⟨x2,e2,_⟩:=LD Tryz.underlying3 f2.up;obtain ⟨x3,e3,_,l3⟩:=FK Tryz.underlying9 f3;obtain ⟨x4,K,b4,e4,g4,k4,t4,m4,q4⟩:=MW (Q:=fun (b:ByteArray) cs x=>cs=[.string b]/\b.size<x) Tryz.underlying66 (show prog.cellsOf 9=1 by kernel_rfl) f4 fun Bq x h=>by
   obtain ⟨s,h1,_,h2⟩:=FK Tryz.underlying9 h;exact ⟨s,h1,h2⟩
  obtain ⟨x5,L,e5,Yi,hA,h5⟩:=Wp (fun Bq x h=>fp n Bq x h) f5;have hs:=lk Yh z3 z4 z5;have hK:xY K<=y4:=bC (HT k4 fun i q x hq hx=>by
   obtain ⟨a,Bq,y,hy,ha,hc,_,hb⟩:=q4 i q hq;rw[hx]at hy;cases hy;exact hb) t4
  obtain rfl:c0= .int .i64 x0:=by simpa using e0
  obtain rfl:c1= .int .i64 x1:=by simpa using e1
  obtain rfl:c2= .int .i64 x2:=by simpa using e2
  obtain rfl:c3= .string x3:=by simpa using e3
  obtain rfl:c4=AA.v x4:=by simpa using e4
  obtain rfl:c5=AA.v x5:=by simpa using e5
  refine ⟨((x0,x1,x2,x3,x4,x5),.mk x0 x1 x2 x3 K (L.map (·.2))),rfl,Vl.JN.mono ⟨⟨rfl,rfl,rfl,rfl⟩,⟨⟨g4,bC m4 (by decide)⟩,fun i b hi=>?_⟩,L.map (·.1),Yi,hA⟩,?_⟩
  ·obtain ⟨a,Bq,x,_,ha,hc,rfl,_⟩:=q4 i b hi;have:=hc 0 (by omega);exact ⟨a,ha,by simpa using this⟩
  ·show Wk (.mk x0 x1 x2 x3 K (L.map (·.2)))<=b;rw[Wk];omega
theorem MX:IP prog 33=some [(0,9),(1,30),(2,9)]:=by kernel_rfl
abbrev OP2:Type:=Wt.Kp×Wt.Bs
def jw (q:Wt.Bs):Nat:=q.1.size+VD q.2.1+q.2.2.size+3
theorem uC {w:World}:∀(n:Nat) (cs:List Value) (b:Nat),Fb prog w n 33 cs b->∃q:OP2,cs=Wt.CL q.1/\Wt.Qx w q.1 q.2/\jw q.2<=b
 |0,cs,b,h=>h.elim
 |1,cs,b,h=>by
  obtain ⟨_,bs,_,hf⟩:=FJ MX h;obtain ⟨x,_,hx⟩:=hf 0 0 9 rfl;exact hx.elim
 |n+2,cs,b,h=>by
  obtain ⟨hl,bs,Yh,hf⟩:=FJ MX h;rw[show prog.cellsOf 33=3 by kernel_rfl]at hl;obtain ⟨c0,c1,c2,rfl⟩:∃c0 c1 c2,cs=[c0,c1,c2]:=by
   match cs,hl with
   |[c0,c1,c2],_=>exact ⟨c0,c1,c2,rfl⟩
  obtain ⟨y0,z0,f0⟩:=hf 0 0 9 rfl;obtain ⟨y1,z1,f1⟩:=hf 1 1 30 rfl;obtain ⟨y2,z2,f2⟩:=hf 2 2 9 rfl;rw[show prog.cellsOf 9=1 by kernel_rfl]at f0 f2;rw[show prog.cellsOf 30=1 by kernel_rfl]at f1;obtain ⟨x0,e0,_,l0⟩:=FK Tryz.underlying9 f0;obtain ⟨x2,e2,_,l2⟩:=FK Tryz.underlying9 f2;obtain ⟨x1,L,e1,Yi,hA,h1⟩:=Wp (fun Bq x h=>fp n Bq x h) f1;have hs:=Yj Yh z0 z1 z2;obtain rfl:c0= .string x0:=by simpa using e0
  obtain rfl:c1=AA.v x1:=by simpa using e1
  obtain rfl:c2= .string x2:=by simpa using e2
  refine ⟨((x0,x1,x2),(x0,L.map (·.2),x2)),rfl,⟨rfl,⟨n,L.map (·.1),Yi,hA⟩,rfl⟩,?_⟩;unfold jw;dsimp only;omega
theorem R5:prog.underlying 22=some (.slice 33):=by kernel_rfl
theorem uD (q:Wt.Bs):Wt.Zs q<=40*jw q:=by
 have h1:=VF q.2.1;have h2:=Wn q.2.1;unfold Wt.Zs jw;omega
theorem ln {H:Type}{enc:TypeId×Value->H}{W:World}{spare:Nat->Bool}{held:Bool}{v:Value}{d:DataW H}{ps:List MemPlace}{rr:Reach}{b0:Nat}
  (h0:Value.okWide prog W rr b0 22 v) (h:DataW.Trod enc prog W 0 spare held 22 v d ps) (hb:Rows.uptoBulk d<=1048576):
  ∃(s:AA) (Q:List Wt.Bs),v=AA.v s/\Wt.Kr W s Q/\(∀q∈Q,∀t∈q.2.1,Wt.Na t<=4000000)/\(Q.map Wt.Zs).sum<=1000000000:=by
 obtain ⟨n,hn⟩:=h;have hB:=P8 (S:=[22,33,9,30,68,3,2,66]) (by kernel_rfl) n 22 _ _ (ax ..) hn;obtain ⟨a,len,cap,rfl⟩:=Go.WideShapes.okWide_slice R5 h0;have hB:Fb prog W n 22 [.slice a len cap] (Rows.uptoBulk d):=hB;cases n with
 |zero=>exact hB.elim
 |succ n=>
 have:Inhabited OP2:=⟨((⟨#[]⟩,Vl.CU,⟨#[]⟩),(⟨#[]⟩,[],⟨#[]⟩))⟩
 obtain ⟨s,L,bs,h1,h2,h3,h4,h5,h6⟩:=MW (Q:=fun (q:OP2) cs x=>cs=Wt.CL q.1/\Wt.Qx W q.1 q.2/\jw q.2<=x) R5 (show prog.cellsOf 33=3 by kernel_rfl) hB fun Bq x h=>uC n Bq x h
 have lp:((L.map (·.2)).map jw).sum<=1048576:=by
  rw[List.map_map];refine bC (HT h3 fun i q x hq hx=>?_) (bC h4 hb);obtain ⟨a,Bq,y,hy,ha,hc,_,_,hb⟩:=h6 i q hq;rw[hx]at hy;cases hy;exact hb
 refine ⟨s,L.map (·.2),by simpa using h1,⟨L.map (·.1),by rw[aV,h2],Bb.make (fun _=>rfl) (by decide) (by rw[aV,h2]) fun i x hi=>?_,.of (by simp) fun i o t ho ht=>?_⟩,fun q hq t ht=>?_,?_⟩
 ·rw[aR]at hi;obtain ⟨q,hq,rfl⟩:=aX.1 hi;obtain ⟨a,Bq,x,_,ha,hc,rfl,_⟩:=h6 i q hq;exact ⟨a,ha,hc⟩
 ·rw[aR]at ho ht;obtain ⟨q,hq,rfl⟩:=aX.1 ho;rw[hq]at ht;cases ht;obtain ⟨a,Bq,x,_,ha,hc,_,hx,_⟩:=h6 i q hq;exact hx
 ·obtain ⟨i,hi⟩:=bP hq;have:=HU (bs:=(L.map (·.2)).map jw) (i:=i) (x:=jw q) (by rw[aR,hi];rfl);have h8:=Wo ht;have h9:=pH t;have h10:jw q=q.1.size+VD q.2.1+q.2.2.size+3:=rfl;omega
 ·generalize L.map (·.2)=Q at lp⊢;refine bC (m:=40*(Q.map jw).sum) ?_ (by omega);clear lp
  induction Q with
  |nil=>exact bD _
  |cons q Q ih=>
   have:=uD q;simp only[aC,bK];omega
theorem AAx:(Rows.laid_internal_strconv_uint64pow10:DataW Unit)=Lib.tabData .u64 Lib.pow10Tab:=by kernel_rfl
theorem AAy:(Rows.laid_strings_asciiSpace:DataW Unit)=Lib.tabData .u8 Lib.asciiSpaceTab:=by kernel_rfl
theorem Wq {W:World}(h:laidMetH prog Rows.topStatesUptoRow.laid W):Tl.PT W/\AS W:=by
 rw[MakeChecks.laidMetH_plain _ _ _ (by kernel_rfl)]at h;refine ⟨?_,?_⟩
 ·obtain ⟨g,t,cs,fuel,p,hg,hty,uE,hd⟩:=Lib.laidMet.reads h (show ("internal/strconv.uint64pow10",(Rows.laid_internal_strconv_uint64pow10:DataW Unit))∈_ from .tail _ (.tail _ (.head _)));rw[AAx]at hd;obtain rfl:=aZ ((show prog.globalNamed "internal/strconv.uint64pow10"=some 3 by kernel_rfl).symm.trans hg);obtain rfl:=aZ ((show (prog.globals[3]?).map (·.type)=some 275 by kernel_rfl).symm.trans hty);unfold Tl.PT Lib.TabIs;rw[uE,<-Lib.cells_of_tab (show prog.underlying 275=some (.array 20 255) by kernel_rfl) (show prog.underlying 255=some (.int .u64) by kernel_rfl) (by kernel_rfl) (by kernel_rfl) hd]
 ·obtain ⟨g,t,cs,fuel,p,hg,hty,uE,hd⟩:=Lib.laidMet.reads h (show ("strings.asciiSpace",(Rows.laid_strings_asciiSpace:DataW Unit))∈_ from .tail _ (.tail _ (.tail _ (.tail _ (.tail _ (.head _))))));rw[AAy]at hd;obtain rfl:=aZ ((show prog.globalNamed "strings.asciiSpace"=some 0 by kernel_rfl).symm.trans hg);obtain rfl:=aZ ((show (prog.globals[0]?).map (·.type)=some 153 by kernel_rfl).symm.trans hty);unfold AS Lib.TabIs;rw[uE,<-Lib.cells_of_tab (show prog.underlying 153=some (.array 256 5) by kernel_rfl) (show prog.underlying 5=some (.int .u8) by kernel_rfl) (by kernel_rfl) (by kernel_rfl) hd]
end Lw
end Go.Proofs.YtmaekpnpnjndoaaGreatDoor

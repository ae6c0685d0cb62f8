/- Joined texts of the proof; conditions stand in each theorem. -/
import Derived.Test.YtdmmgclkphaaaaaGreatDoorQYQFil1
import Derived.Test.YtdmmgclkphaaaaaGreatDoorQYQFil5
import Derived.Test.YtdmmgclkphaaaaaGreatDoorQYQFil4
import Derived.Test.YtdmmgclkphaaaaaGreatDoorQYQFil3
import Derived.Laws.CopyRow
import Derived.Laws.IdiomCopy
import Derived.Laws.IdiomMaps
set_option linter.unusedVariables false
set_option linter.unusedSimpArgs false
open Go.Proofs.Tryz (prog)
namespace Go.Proofs.YtdmmgclkphaaaaaGreatDoor
set_option maxRecDepth 4000
set_option maxHeartbeats 2000000
namespace A8
open Sh DS
def yZ (e:Int):Value:= .iface 175 (.agg #[.int .i64 e])
def Uf (rb:Nat)(o:AA)(most:Nat):Array Value:=#[.pointer (SH rb),AA.v o,.int .i64 (most:Int)]
structure FS (w:World) (fb rb:Nat) (o:AA) (s:ByteArray) (out:List UInt8) (p most:Nat):Prop where
 AS:AO w fb (Uf rb o most) 180
 rd:RB w rb s p
 row:BQ w o out
 ne:fb≠rb
 nf:¬o.own fb
 nr:¬o.own rb
 len:out.length<=most
 Nu:most<=1048576
def XF (fb rb:Nat)(o:AA):Nat->Prop:=fun j=>j=fb\/j=rb\/o.own j
structure Mv (fb rb:Nat) (w w1:World) (o o1:AA):Prop where
 ext:Ext (XF fb rb o) w w1
 own:∀j,o1.own j->o.own j\/w.heap.size<=j
section
variable {w w1 w2:World} {fb rb:Nat} {o o1 o2:AA} {s:ByteArray} {out:List UInt8} {p most:Nat}
theorem Mv.refl:Mv fb rb w w o o:=⟨Ext.refl _ _,fun j h=> .inl h⟩
theorem Mv.of(h:Ext (XF fb rb o) w w1):Mv fb rb w w1 o o:=⟨h,fun j h=> .inl h⟩
theorem Mv.rd(h:Ext (·=rb) w w1):Mv fb rb w w1 o o:= .of (h.mono fun i _ e=> .inr (.inl e))
theorem Mv.no(h:Ext (fun _=>False) w w1):Mv fb rb w w1 o o:= .of (h.mono fun i _ e=>e.elim)
theorem Mv.tr(h:Mv fb rb w w1 o o1)(k:Mv fb rb w1 w2 o1 o2):Mv fb rb w w2 o o2:=by
 refine ⟨h.ext.trans k.ext (fun _ h=>h) fun i hi e=>?_,fun j hj=>?_⟩
 ·rcases e with e|e|e
  ·exact .inl e
  ·exact .inr (.inl e)
  ·rcases h.own i e with e|e
   ·exact .inr (.inr e)
   ·omega
 ·have:=h.ext.size;rcases k.own j hj with e|e
  ·exact h.own j e
  ·exact .inr (by omega)
theorem FS.AB(h:FS w fb rb o s out p most)(he:Ext (fun _=>False) w w1):FS w1 fb rb o s out p most:=
 ⟨he.AS h.AS (fun h=>h),h.rd.AB he (fun h=>h),h.row.AB he (fun _ _ h=>h),h.ne,h.nf,h.nr,h.len,h.Nu⟩
theorem FS.read{q:Nat}(h:FS w fb rb o s out p most)(he:Ext (·=rb) w w1)(hr:RB w1 rb s q):FS w1 fb rb o s out q most:=
 ⟨he.AS h.AS h.ne,hr,h.row.AB he (fun j hj e=>h.nr (by have e:j=rb:=e;rw[<-e];exact hj)),h.ne,h.nf,h.nr,h.len,h.Nu⟩
structure Sep (lo hi fb rb:Nat) (o:AA) (w:World):Prop where
 f:fb<lo\/hi<=fb
 r:rb<lo\/hi<=rb
 o:∀j,o.own j->j<lo\/hi<=j
 h:hi<=w.heap.size
theorem Sep.mv{lo hi:Nat}(h:Sep lo hi fb rb o w)(m:Mv fb rb w w1 o o1):Sep lo hi fb rb o1 w1:=by
 have:=m.ext.size;have:=h.h;refine ⟨h.f,h.r,fun j hj=>?_,by omega⟩;rcases m.own j hj with e|e
 ·exact h.o j e
 ·omega
theorem TB.mv{lo hi tb:Nat}{lens:List Int}(h:TB w lo hi tb lens)(k:Sep lo hi fb rb o w)(m:Ext (XF fb rb o) w w1):TB w1 lo hi tb lens:=
 h.AB m fun j h1 h2 e=>by
  have:=k.f;have:=k.r;rcases e with e|e|e
  ·omega
  ·omega
  ·have:=k.o j e;omega
attribute [local irreducible] Ld St Nw Nn Lt AP
theorem BK (b:Bool)(e:Int)(w:World):IQ b e w (fun w1=>b=true/\w1=w) fun v w1=>v=yZ e/\b=false/\w1=w:=by
 refine ASM _ _ _ _ _ ?_;unfold AKd;cases b
 ·exact Br.t rfl ⟨rfl,rfl,rfl⟩
 ·exact Br.f rfl ⟨rfl,rfl⟩
theorem Jb (x e:Int)(w:World):WZ x e w (fun r w1=>e=0/\r=x/\w1=w) fun v w1=>v=yZ e/\e≠0/\w1=w:=by
 refine ASN _ _ _ _ _ ?_;unfold AKe;exact (BK (e==0) e w).mono (fun w1 h=>⟨by simpa using h.1,rfl,h.2⟩) fun v w1 h=>⟨h.1,by simpa using h.2.1,h.2.2⟩
theorem ya (x:ByteArray)(e:Int)(w:World):AEY x e w (fun r w1=>e=0/\r=x/\w1=w) fun v w1=>v=yZ e/\e≠0/\w1=w:=by
 refine ASQ _ _ _ _ _ ?_;unfold AKh;exact (BK (e==0) e w).mono (fun w1 h=>⟨by simpa using h.1,rfl,h.2⟩) fun v w1 h=>⟨h.1,by simpa using h.2.1,h.2.2⟩
theorem LO (x:Option Addr)(e:Int)(w:World):ZX x e w (fun r w1=>e=0/\r=x/\w1=w) fun v w1=>v=yZ e/\e≠0/\w1=w:=by
 refine ASY _ _ _ _ _ ?_;unfold AKp;exact (BK (e==0) e w).mono (fun w1 h=>⟨by simpa using h.1,rfl,h.2⟩) fun v w1 h=>⟨h.1,by simpa using h.2.1,h.2.2⟩
theorem Eo {n:Nat}(hn:n<=24)(h:FS w fb rb o s out p most)(hs:s.size<=1000000):LH (some (⟨fb,0,none⟩:Addr)) (n:Int) w (fun v w1=>∃q,num s p n= .ok (v,q)/\FS w1 fb rb o s out q most/\Ext (·=rb) w w1) fun v w1=>num s p n= .error 4/\v=yZ 4/\Ext (·=rb) w w1:=by
 refine ASO _ _ _ _ _ ?_;unfold AKf;refine Nn.of (Ld.of h.AS (x:=SH rb) rfl ((rN h.rd hs hn).mono ?_));rintro v e w1 ⟨he,q,yY,hr⟩;refine (Jb v e w1).mono ?_ ?_
 ·rintro r _ ⟨rfl,rfl,rfl⟩;rcases yY with ⟨h1,_⟩|⟨_,h2⟩
  ·exact ⟨q,h1,h.read he (hr rfl),he⟩
  ·cases h2
 ·rintro v _ ⟨rfl,h2,rfl⟩;rcases yY with ⟨_,h3⟩|⟨h1,rfl⟩
  ·exact absurd h3 h2
  ·exact ⟨h1,rfl,he⟩
theorem Ze {n:Nat}(hn:n<=2000000)(h:FS w fb rb o s out p most):qL (some (⟨fb,0,none⟩:Addr)) (n:Int) w (fun w1=>out.length+n<=most/\w1=w.drew) fun v w1=>v=yZ 5/\¬out.length+n<=most/\w1=w.drew:=by
 refine ASP _ _ _ _ _ ?_;unfold AKg;have hb:=h.AS.drew;have hl:=h.row.len;have h1:=h.len;have h2:=h.Nu;refine Nn.of ?_;simp only[add_lit,aj];refine Ld.of hb (o:=1) (x:=o) rfl (Nn.of ?_);simp only[add_lit,aj];refine Ld.of hb (o:=2) (x:=(most:Int)) rfl ?_;rw[hl,AE (by omega)];refine (BK _ 5 _).mono ?_ ?_
 ·rintro w1 ⟨h3,rfl⟩;have h3:=bf h3;exact ⟨by omega,rfl⟩
 ·rintro v w1 ⟨rfl,h3,rfl⟩;have h3:=cA h3;exact ⟨rfl,by omega,rfl⟩
def OkR (fb rb:Nat)(w:World)(o:AA)(s:ByteArray)(most:Nat)(r:Except Int (List UInt8×Nat))(w1:World):Prop:=∃o1 Eb q,r= .ok (Eb,q)/\FS w1 fb rb o1 s Eb q most/\Mv fb rb w w1 o o1
def yb {α:Type}(fb rb:Nat)(w:World)(o:AA)(r:Except Int α)(v:Value)(w1:World):Prop:=∃e,r= .error e/\v=yZ e/\Ext (XF fb rb o) w w1
theorem Mv.er(h:Mv fb rb w w1 o o1)(k:Ext (XF fb rb o1) w1 w2):Ext (XF fb rb o) w w2:=(h.tr (.of k)).ext
theorem FS.put{Eb:List UInt8}(h:FS w fb rb o s out p most)(hl:Eb.length<=most){o1:AA}(he:Ext o.own w w1)(hr:BQ w1 o1 Eb)(hn:∀j,o1.own j->o.own j\/w.heap.size<=j){K:World->Prop}(k:∀w2,FS w2 fb rb o1 s Eb p most->Mv fb rb w w2 o o1->K w2):St w1 ⟨fb,1,none⟩ (AA.v o1) K:=by
 have hb:=he.AS h.AS h.nf;have hfb:=h.AS.lt;have hrb:=h.rd.lt;refine (Hx.one (F:=(·=fb)) hb).st 0 rfl (by show 1<3;omega) (.inl rfl) fun w2 H=>k w2 ?_ ?_
 ·have nf:¬o1.own fb:=fun e=>by
   rcases hn fb e with e|e
   ·exact h.nf e
   ·omega
  have nr:¬o1.own rb:=fun e=>by
   rcases hn rb e with e|e
   ·exact h.nr e
   ·omega
  exact ⟨H.get 0 rfl,(h.rd.AB he h.nr).AB H.ext (fun e=>h.ne e.symm),hr.AB H.ext (fun j hj e=>nf (by have e:j=fb:=e;rw[<-e];exact hj)),h.ne,nf,nr,hl,h.Nu⟩
 ·exact ⟨he.trans H.ext (fun i e=> .inr (.inr e)) fun i hi e=> .inl e,hn⟩
theorem rR (h:FS w fb rb o s out p most)(hs:s.size<=1000000):AEZ (some (⟨fb,0,none⟩:Addr)) w (OkR fb rb w o s most (stored s p out most)) (yb fb rb w o (stored s p out most)):=by
 refine ASR _ _ _ _ ?_;unfold AKi stored;refine Nn.of (Ld.of h.AS (x:=SH rb) rfl ?_);obtain ⟨hp,AJ,hw,rQ⟩:=h.rd;refine (wI rQ hp hs).mono ?_;rintro w1 ⟨h1,e1⟩;have H1:=h.read e1 ⟨by omega,0,.inl rfl,h1⟩;have m1:Mv fb rb w w1 o o:= .rd e1;refine (Eo (n:=16) (by omega) H1 hs).mono ?_ ?_;rotate_left
 ·rintro v w2 ⟨hn,rfl,e2⟩;rw[hn];exact ⟨4,rfl,rfl,m1.er (Mv.rd e2).ext⟩
 rintro n w2 ⟨q,hn,H2,e2⟩;rw[hn];have m2:=m1.tr (.rd e2);obtain ⟨n0,n1,rfl,n3⟩:=BU hn;have h65:(2:Int)^16=65536:=by decide
 dsimp only;refine (Eo (n:=16) (by omega) H2 hs).mono ?_ ?_;rotate_left
 ·rintro v w3 ⟨hm,rfl,e3⟩;rw[hm];exact ⟨4,rfl,rfl,m2.er (Mv.rd e3).ext⟩
 rintro m w3 ⟨q3,hm,H3,e3⟩;rw[hm];have m3:=m2.tr (.rd e3);obtain ⟨k0,k1,rfl,k3⟩:=BU hm;dsimp only;rw[AE (n:=65535-n) (by omega)];refine (BK _ 3 _).mono ?_ ?_;rotate_left
 ·rintro v _ ⟨rfl,h4,rfl⟩;have h4:m≠65535-n:=by simpa using h4
  rw[ak h4];exact ⟨3,rfl,rfl,m3.ext⟩
 rintro w3 ⟨h4,rfl⟩;have h4:m=65535-n:=by simpa using h4
 rw[ah (fun hh=>hh h4)];obtain ⟨z,rfl⟩:=aR n0;simp only[aa];refine (Ze (n:=z) (by omega) H3).mono ?_ ?_;rotate_left
 ·rintro v _ ⟨rfl,h5,rfl⟩;rw[ak h5];exact ⟨5,rfl,rfl,m3.ext.drew⟩
 rintro _ ⟨h5,rfl⟩;rw[ah (fun hh=>hh h5)];have H4:=H3.AB (Ext.refl _ _).drew;have H5:=H4.AB (Ext.refl _ _).drew;have m5:Mv fb rb w w3.drew.drew o o:=(m3.tr (.no (Ext.refl _ _).drew)).tr (.no (Ext.refl _ _).drew);refine ⟨fun w'=>AO w' fb (Uf rb o most) 180,H5.AS,Nn.of ?_⟩;simp only[add_lit,aj];refine AP.of (fun w' h=>h) (o:=1) (x:=o) rfl (Nn.of (AP.of (fun w' h=>h) (o:=0) (x:=SH rb) rfl ?_));obtain ⟨hp5,AW8,hw5,AW9⟩:=H5.rd;refine (AIK AW9 hp5 hs (z:Int)).mono ?_;rintro v e w6 ⟨rfl,rfl,h6,e6⟩;have HX:¬((z:Int)<0\/((p+7)/8*8+16+16)%8≠0):=by omega
 refine ⟨e6.AS H5.AS h.ne,?_⟩;refine (ya _ _ _).mono ?_ ?_;rotate_left
 ·rintro v _ ⟨rfl,h7,rfl⟩;by_cases He:((s.size-((p+7)/8*8+16+16)/8:Nat):Int)<(z:Int)
  ·rw[Pg HX He];rw[ak (by omega)];exact ⟨4,rfl,rfl,(m5.tr (.rd e6)).ext⟩
  ·rw[Th HX He]at h7;exact absurd rfl h7
 rintro r _ ⟨h7,rfl,rfl⟩;by_cases He:((s.size-((p+7)/8*8+16+16)/8:Nat):Int)<(z:Int)
 ·rw[Pg HX He]at h7;exact absurd h7 (by show ¬(4:Int)=0;decide)
 rw[Th HX He]at h6⊢;rw[ah (by omega)];simp only[aa]at h6⊢;have H6:=H5.read e6 ⟨by omega,AW8,hw5,h6⟩;have A1:(s.extract (((p+7)/8*8+16+16)/8) (((p+7)/8*8+16+16)/8+z)).size=z:=by rw[cr];omega
 have JA:=h.Nu;obtain ⟨o1,w7,Ag,AV,D8,Ar⟩:=fS (ty:=108) H6.row (s.extract (((p+7)/8*8+16+16)/8) (((p+7)/8*8+16+16)/8+z)) (by rw[A1];omega);refine ⟨H6.AS,o1,w7,Ag,Nn.of ?_⟩;simp only[add_lit,aj];refine H6.put (by rw[ae,<-Ah,A1];omega) D8 AV Ar fun w8 H8 m8=>?_
 exact ⟨o1,_,_,rfl,H8,(m5.tr (.rd e6)).tr m8⟩
end
end A8
namespace A8
open Sh DS
theorem AP.mk{α:Type}{S:World->Prop}{V:α->Value}{K:α->Prop}{x:α}{a:Addr}(h:∀w,S w->w.cell? a=some (V x))(k:K x):AP S a V K:=⟨x,h,k⟩
theorem getD_some {l:List UInt8}{i:Nat}(h:i<l.length):l[i]?=some (l.getD i 0):=by
 rw[af,ad h]
 rfl
theorem Zf {k:Nat}(hk:k<=29):BB k<=24/\B3 k<=24:=by
 constructor
 ·unfold BB;split<;>omega
 ·unfold B3;omega
theorem ALp {k:Nat}(hk:k<=28):BB k<=6:=by unfold BB;split<;>omega
theorem rS {k:Nat}(hk:k<=30):1<=AZ k/\1<=Cy k:=by
 constructor
 ·induction k with
  |zero=>exact av _
  |succ k ih=>exact cd (ih (by omega)) (Nat.le_add_right _ _)
 ·induction k with
  |zero=>show 1<=3;omega
  |succ k ih=>exact cd (ih (by omega)) (Nat.le_add_right _ _)
attribute [local irreducible] Ld St Nw Nn Lt AP
section
variable {w:World} {fb rb:Nat} {o:AA} {s:ByteArray} {out:List UInt8} {p most:Nat}
theorem rT {sg:Nat}{far:List Int}{lo hi tb:Nat}(gk:256<sg)(Af7:sg<=100000)(h:FS w fb rb o s out p most)(hs:s.size<=1000000)(ht:TB w lo hi tb far)(hk:NV far)(hS:Sep lo hi fb rb o w):
  AEc (some (⟨fb,0,none⟩:Addr)) (sg:Int) (some (⟨tb,0,none⟩:Addr)) w (OkR fb rb w o s most (copied s far most sg out p)) (yb fb rb w o (copied s far most sg out p)):=by
 refine ASW _ _ _ _ _ _ ?_;unfold AKn copied;refine (BK _ 13 _).mono ?_ ?_;rotate_left
 ·rintro v _ ⟨rfl,h1,rfl⟩;have h1:=cA h1;rw[ak (by omega)];exact ⟨13,rfl,rfl,Ext.refl _ _⟩
 rintro w ⟨h1,rfl⟩;have h1:=bf h1;rw[ah (by omega)];obtain ⟨k,rfl⟩:∃k,sg=257+k:=⟨sg-257,by omega⟩
 have ALq:k<=28:=by omega
 rw[AE (by omega),show ((257+k:Nat):Int)-257=(k:Int) by omega,show 257+k-257=k by omega];refine (rE k ALq w).mono ?_;rintro r w1 ⟨rfl,e1⟩;obtain ⟨b1,b2,b3,b4,b5⟩:=O4 (k:=k) (by omega);have H1:=h.AB e1;have m1:Mv fb rb w w1 o o:= .no e1;refine (Eo (n:=BB k) (Zf (by omega)).1 H1 hs).mono ?_ ?_;rotate_left
 ·rintro v w2 ⟨hn,rfl,e2⟩;rw[hn];exact ⟨4,rfl,rfl,m1.er (Mv.rd e2).ext⟩
 rintro x w2 ⟨q,hn,H2,e2⟩;rw[hn];have m2:=m1.tr (.rd e2);obtain ⟨x0,x1,x2,x3⟩:=BU hn;dsimp only;have Af8:(2:Int)^BB k<=2^6:=Bz (ALp ALq);have h06:(2:Int)^6=64:=by decide
 have h24:(2:Int)^24=16777216:=by decide
 refine (AE6 _ x w2).mono ?_;rintro r e w3 ⟨hr,e3⟩;have H3:=H2.AB e3;have m3:=m2.tr (.no e3);have ALr:gT ((257+k:Nat):Int) x=((Ab k:Int)+x,0):=by
  unfold gT;rw[ah (by omega),show (((257+k:Nat):Int)-257).toNat=k by omega,ah (by omega)]
 rw[ALr]at hr;obtain ⟨rfl,rfl⟩:=Prod.mk.inj hr;refine (Jb _ 0 w3).mono ?_ ?_;rotate_left
 ·rintro v _ ⟨_,h2,_⟩;exact absurd rfl h2
 rintro r w3 ⟨_,rfl,rfl⟩;refine Nn.of (Ld.of H3.AS (o:=0) (x:=SH rb) rfl ?_);refine (Ue (ht.mv hS m3.ext) hk H3.rd hs hS.r).mono ?_;rintro r e w4 ⟨e4,q4,hT,hr4⟩;have m4:=m3.tr (.rd e4);refine (Jb _ e w4).mono ?_ ?_;rotate_left
 ·rintro v _ ⟨rfl,h2,rfl⟩;rcases hT with ⟨g,_,_,h3⟩|⟨h3,_⟩
  ·exact absurd h3 h2
  ·rw[h3];exact ⟨e,rfl,rfl,m4.ext⟩
 rintro r w4 ⟨rfl,rfl,rfl⟩;obtain ⟨d,hd,rfl,_⟩:∃g:Nat,sym far s q= .ok (g,q4)/\r=(g:Int)/\(0:Int)=0:=by
  rcases hT with hT|⟨_,h3⟩
  ·exact hT
  ·exact absurd rfl h3
 rw[hd];have H4:=H3.read e4 (hr4 rfl);obtain ⟨d1,d2,d3⟩:=Hk hd;have hlen:=hk.len;dsimp only;refine (BK _ 13 _).mono ?_ ?_;rotate_left
 ·rintro v _ ⟨rfl,h2,rfl⟩;have h2:=cA h2;rw[ak (by omega)];exact ⟨13,rfl,rfl,m4.ext⟩
 rintro w4 ⟨h2,rfl⟩;have h2:=bf h2;rw[ah (by omega)];refine (rF d (by omega) w4).mono ?_;rintro r w5 ⟨rfl,e5⟩;have H5:=H4.AB e5;have m5:=m4.tr (.no e5);obtain ⟨c1,c2,c3,c4,c5⟩:=O4 (k:=d) (by omega);have cp:=(rS (k:=d) (by omega)).1;refine (Eo (n:=B3 d) (Zf (by omega)).2 H5 hs).mono ?_ ?_;rotate_left
 ·rintro v w6 ⟨hn,rfl,e6⟩;rw[hn];exact ⟨4,rfl,rfl,m5.er (Mv.rd e6).ext⟩
 rintro y w6 ⟨q6,hn6,H6,e6⟩;rw[hn6];have m6:=m5.tr (.rd e6);obtain ⟨y0,y1,y2,y3⟩:=BU hn6;dsimp only;have Af9:(2:Int)^B3 d<=2^24:=Bz (Zf (k:=d) (by omega)).2;refine (ALf _ y w6).mono ?_;rintro r e w7 ⟨hr,e7⟩;have H7:=H6.AB e7;have m7:=m6.tr (.no e7);have AXA:yQ (d:Int) y=((AZ d:Int)+y,0):=by
  unfold yQ;rw[ah (by omega),aa,ah (by omega)]
 rw[AXA]at hr;obtain ⟨rfl,rfl⟩:=Prod.mk.inj hr;refine (Jb _ 0 w7).mono ?_ ?_;rotate_left
 ·rintro v _ ⟨_,h3,_⟩;exact absurd rfl h3
 rintro r w7 ⟨_,rfl,rfl⟩;obtain ⟨x,rfl⟩:=aR x0;obtain ⟨y,rfl⟩:=aR y0;simp only[aa];refine Nn.of ?_;simp only[add_lit,aj];refine Ld.of H7.AS (o:=1) (x:=o) rfl ?_;rw[H7.row.len];refine (BK _ 14 _).mono ?_ ?_;rotate_left
 ·rintro v _ ⟨rfl,h3,rfl⟩;have h3:=cA h3;rw[ak (by omega)];exact ⟨14,rfl,rfl,m7.ext⟩
 rintro w7 ⟨h3,rfl⟩;have h3:=bf h3;rw[ah (by omega),show (Ab k:Int)+(x:Int)=((Ab k+x:Nat):Int) by omega];refine (Ze (n:=Ab k+x) (by omega) H7).mono ?_ ?_;rotate_left
 ·rintro v _ ⟨rfl,h5,rfl⟩;rw[ak (by omega)];exact ⟨5,rfl,rfl,m7.ext.drew⟩
 rintro _ ⟨h5,rfl⟩;rw[ah (by omega)];have H8:=H7.AB (Ext.refl _ _).drew;have m8:Mv fb rb w w7.drew o o:=m7.tr (.no (Ext.refl _ _).drew);refine ⟨fun n st w9=>∃(j:Nat) (o9:AA),st=(j:Int)/\j<=Ab k+x/\n=Ab k+x-j/\FS w9 fb rb o9 s (copy out (AZ d+y) j) q6 most/\Mv fb rb w w9 o o9,Ab k+x,⟨0,o,rfl,by omega,rfl,H8,m8⟩,?_⟩;rintro n st w9 ⟨j,o9,rfl,hj,rfl,H9,m9⟩;unfold qO;refine Br.dec (fun q=>?_) fun q=>?_
 ·have IS:=Kv out (AZ d+y) j;have JA:=h.Nu;have hl9:=H9.len;refine ⟨fun w'=>Ext (fun _=>False) w9 w',(Ext.refl _ _).drew,Nn.of ?_⟩;simp only[add_lit,aj];have hB:∀w',Ext (fun _=>False) w9 w'->AO w' fb (Uf rb o9 most) 180:=fun w' e=>e.AS H9.AS fun h=>h
  refine AP.of hB (o:=1) (x:=o9) rfl (Nn.of ?_);simp only[add_lit,aj];refine AP.of hB (o:=1) (x:=o9) rfl (Nn.of ?_);simp only[add_lit,aj];refine AP.of hB (o:=1) (x:=o9) rfl ?_;rw[H9.row.len,IS,AE (by omega),show ((out.length+j:Nat):Int)-((AZ d:Int)+(y:Int))=((out.length+j-(AZ d+y):Nat):Int) by omega];have Am:out.length+j-(AZ d+y)<(copy out (AZ d+y) j).length:=by omega
  obtain ⟨g,hg,hc⟩:=H9.row.get (getD_some Am);rw[hg];refine ⟨by omega,by omega,Nn.of ?_⟩;simp only[add_lit,aa,aH,aj];refine AP.mk (x:=(((copy out (AZ d+y) j).getD (out.length+j-(AZ d+y)) 0).toNat:Int)) (fun w' e=>e.Bn hc) (Nw.of ⟨(Ext.refl _ _).drew.alloc _,?_⟩);have Mz:=H9.AB ((Ext.refl _ w9).drew.alloc (.cells #[.int .u8 (((copy out (AZ d+y) j).getD (out.length+j-(AZ d+y)) 0).toNat:Int)] 5));obtain ⟨o1,PU,Ag,AV,D8,Ar⟩:=Ou (ty:=108) (b:=(copy out (AZ d+y) j).getD (out.length+j-(AZ d+y)) 0) Mz.row (AO.new w9.drew _ _) (by omega);refine ⟨o1,PU,Ag,Nn.of ?_⟩;simp only[add_lit,aj];refine Mz.put (by rw[ae,IS];simp;omega) D8 AV Ar fun Ef H12 m12=>?_
  refine ⟨Ab k+x-(j+1),by omega,j+1,o1,by rw[AE (by omega)];rfl,by omega,rfl,?_,(m9.tr (.no ((Ext.refl _ w9).drew.alloc _))).tr m12⟩;have e:copy out (AZ d+y) (j+1)=copy out (AZ d+y) j++[(copy out (AZ d+y) j).getD (out.length+j-(AZ d+y)) 0]:=by
   show copy out (AZ d+y) j++[(copy out (AZ d+y) j).getD ((copy out (AZ d+y) j).length-(AZ d+y)) 0]=_;rw[IS]
  rw[e];exact H12
 ·have:j=Ab k+x:=by omega
  subst this;exact ⟨o9,_,_,rfl,H9,m9⟩
theorem gl {near far:List Int}{lo hi tn lo2 SE tf:Nat}(h:FS w fb rb o s out p most)(hs:s.size<=1000000)(hn:TB w lo hi tn near)(hkn:NV near)(hS:Sep lo hi fb rb o w)(hf:TB w lo2 SE tf far)(hkf:NV far)(jO:Sep lo2 SE fb rb o w):
  xy (some (⟨fb,0,none⟩:Addr)) (some (⟨tn,0,none⟩:Addr)) (some (⟨tf,0,none⟩:Addr)) w (OkR fb rb w o s most (Ad s near far most (8*s.size+1) out p)) (yb fb rb w o (Ad s near far most (8*s.size+1) out p)):=by
 refine ASX _ _ _ _ _ _ ?_;unfold AKo;have vG:=hkn.len;generalize hR:Ad s near far most (8*s.size+1) out p=R0;refine ⟨fun n st w1=>∃o1 Eb q,FS w1 fb rb o1 s Eb q most/\Mv fb rb w w1 o o1/\8*s.size<q+n/\Ad s near far most n Eb q=R0,8*s.size+1,⟨o,out,p,h,.refl,by omega,hR⟩,?_⟩;rintro n st w1 ⟨o1,Eb,q,H1,m1,hfu,AW⟩;unfold qP;have hq:=H1.rd.1;obtain ⟨n,rfl⟩:∃n',n=n'+1:=⟨n-1,by omega⟩
 unfold Ad at AW;refine Nn.of (Ld.of H1.AS (o:=0) (x:=SH rb) rfl ?_);refine (Ue (hn.mv hS m1.ext) hkn H1.rd hs hS.r).mono ?_;rintro r e w2 ⟨e2,q2,hT,kC⟩;have m2:=m1.tr (.rd e2);refine (Jb _ e w2).mono ?_ ?_;rotate_left
 ·rintro v _ ⟨rfl,h2,rfl⟩;rcases hT with ⟨g,_,_,h3⟩|⟨h3,_⟩
  ·exact absurd h3 h2
  ·rw[h3]at AW;exact ⟨e,AW.symm,rfl,m2.ext⟩
 rintro r w2 ⟨rfl,rfl,rfl⟩;obtain ⟨g,hg,rfl,_⟩:∃g:Nat,sym near s q= .ok (g,q2)/\r=(g:Int)/\(0:Int)=0:=by
  rcases hT with hT|⟨_,h3⟩
  ·exact hT
  ·exact absurd rfl h3
 have H2:=H1.read e2 (kC rfl);obtain ⟨g1,g2,g3⟩:=Hk hg;rw[hg]at AW;dsimp only at AW;have JA:=h.Nu;have jJ:=H2.len;refine Br.dec (fun q3=>?_) fun q3=>Br.eq (fun q4=>?_) fun q4=>?_
 ·rw[ah (by omega),ah (by omega)]at AW;refine (Ze (n:=1) (by omega) H2).mono ?_ ?_;rotate_left
  ·rintro v _ ⟨rfl,h5,rfl⟩;rw[ak (by omega)]at AW;exact ⟨5,AW.symm,rfl,m2.ext.drew⟩
  rintro _ ⟨h5,rfl⟩;rw[ah (by omega)]at AW;have H3:=H2.AB (Ext.refl _ _).drew;refine Nn.of ?_;simp only[add_lit,aj];refine Ld.of H3.AS (o:=1) (x:=o1) rfl (Nw.of ?_);have hb:IntKind.u8.wrap (g:Int)=((UInt8.ofNat g).toNat:Int):=by
   rw[Hu (by omega),cG,bA (by omega)]
  rw[hb];have H4:=H3.AB ((Ext.refl _ w2.drew).alloc (.cells #[.int .u8 ((UInt8.ofNat g).toNat:Int)] 5));obtain ⟨o5,w5,Ag,AV,D8,Ar⟩:=Ou (ty:=108) (b:=UInt8.ofNat g) H4.row (AO.new w2.drew _ _) (by omega);refine ⟨o5,w5,Ag,Nn.of ?_⟩;simp only[add_lit,aj];refine H4.put (by rw[ae];simp;omega) D8 AV Ar fun w6 H6 m6=>?_
  exact ⟨n,by omega,o5,_,q2,H6,(m2.tr (.no ((Ext.refl _ w2).drew.alloc _))).tr m6,by omega,AW⟩
 ·rw[ak (by omega)]at AW;exact ⟨o1,_,_,AW.symm,H2,m2⟩
 ·rw[ah (by omega),ak (by omega)]at AW;refine (rT (by omega) (by omega) H2 hs (hf.mv jO m2.ext) hkf (jO.mv m2)).mono ?_ ?_
  ·rintro w3 ⟨o3,AXB,q3,hc,H3,m3⟩;rw[hc]at AW;dsimp only at AW;obtain ⟨c1,c2,c3⟩:=Jc hc;exact ⟨n,by omega,o3,AXB,q3,H3,m2.tr m3,by omega,AW⟩
  ·rintro v w3 ⟨e,hc,rfl,hx⟩;rw[hc]at AW;exact ⟨e,AW.symm,rfl,m2.er hx⟩
end
end A8
namespace A8
open Sh DS
theorem rU {x y:Nat}(hx:x<2^63)(hy:y<2^63):CY .u64 (x:Int) (y:Int)=((x&&&y:Nat):Int):=by
 unfold CY;rw[Bm,Bm];have h1:(BitVec.ofNat IntKind.u64.bits x&&&BitVec.ofNat IntKind.u64.bits y).toNat=x&&&y:=by
  rw[BitVec.toNat_and,BitVec.toNat_ofNat,BitVec.toNat_ofNat,bA (by simp[IntKind.bits];omega),bA (by simp[IntKind.bits];omega)]
 rw[h1];have h2:x&&&y<2^63:=Nat.and_lt_two_pow x hy;exact KW (by omega)
theorem rV {x:Nat}(hx:x<4294967296):CY .u64 (x:Int) 4294967295=(x:Int):=by
 have:=rU (x:=x) (y:=4294967295) (by omega) (by omega);rw[show (4294967295:Int)=((4294967295:Nat):Int) by rfl,this,show (4294967295:Nat)=2^32-1 by decide,dj,bA (by omega)]
theorem Ug {x:Nat}(hx:x<4294967296):Int.fdiv (x:Int) (2^32)=0:=by
 rw[fdiv_pow,show (2:Int)^32=4294967296 by decide];omega
attribute [local irreducible] Ld St Nw Nn Lt AP
section
variable {w:World}
theorem yc {c:Nat}(hc:c<=1000000)(w:World):AEa 1 (c:Int) w fun hi lo w1=>hi=0/\lo=(c:Int)/\w1=w:=by
 refine ASS _ _ _ _ ?_;unfold AKj;have h1:CY .u64 (1:Int) 4294967295=1:=rV (x:=1) (by omega);have h2:Int.fdiv (1:Int) (2^32)=0:=Ug (x:=1) (by omega);refine Lt.of (Lt.of (Lt.of (Lt.of ?_)));rw[h1,h2,rV (x:=c) (by omega),Ug (x:=c) (by omega)];simp only[Int.one_mul,Int.zero_mul,Int.mul_zero];rw[KW (n:=(c:Int)) (by omega),Ug (x:=c) (by omega)];have e0:IntKind.u64.wrap 0=0:=KW (by omega);simp only[e0,Int.add_zero];have h3:CY .u64 (0:Int) 4294967295=0:=rV (x:=0) (by omega);have h4:Int.fdiv (0:Int) (2^32)=0:=Ug (x:=0) (by omega);simp only[h3,h4,e0,Int.add_zero];simp
theorem AFG {c:Nat}(hc:c<=1000000)(w:World):AEb 1 (c:Int) w fun hi lo w1=>hi=0/\lo=(c:Int)/\w1=w:=by
 refine AST _ _ _ _ ?_;unfold AKk;exact yc hc w
theorem Wz:prog.underlying 196=some (.slice 3):=by kernel_rfl
theorem rW:(prog.info? 3).map (·.size)=some 1:=by kernel_rfl
def HB (c k:Nat)(x:Int):List Int:=List.replicate k x++List.replicate (c-k) 0
theorem W3 {c k:Nat}(hk:k<=c)(x:Int):(HB c k x).length=c:=by unfold HB;simp;omega
theorem rX {c k n:Nat}(h:k+n<=c)(x:Int):(ints (HB c k x)).take k++ints (List.replicate n x)++(ints (HB c k x)).drop (k+n)=ints (HB c (k+n) x):=by
 unfold ints HB;rw[bh,bK (by simp),List.drop_append];simp only[List.map_replicate,bh,aI,List.drop_replicate];rw[show k-(k+n)=0 by omega,show k+n-k=n by omega,List.replicate_zero,ag,List.replicate_append_replicate,show c-k-n=c-(k+n) by omega]
theorem Zg {w:World}{g:Nat}{cur:Array Value}{t:TypeId}(h:AO w g cur t)(cs:Array Value):AO (w.setRow g cs) g cs t/\Ext (·=g) w (w.setRow g cs):=
 ⟨setRow_heap w g cur cs t _ h,⟨rfl,rfl,rfl,by simp[World.setRow],fun k _ hk=>setRow_other w g k _ (fun e=>hk e)⟩⟩
theorem XA {w:World}{g c k n sLen sCap:Nat}{x:Int}{a:Addr}(hB:AO w g (ints (HB c k x)).toArray 3)(hn:n=Nat.min sLen (c-k))(hk:k<=c)(TY:∀j v,(ints (List.replicate n x))[j]?=some v->w.cell? (a.add j)=some v):
  ∃w',BW prog (Builtin.copy_ #[196,196] 3 #[AA.v ⟨some ⟨g,k,none⟩,c-k,c-k⟩,AA.v ⟨some a,sLen,sCap⟩]) w (.int .i64 (n:Int)) w'/\AO w' g (ints (HB c (k+n) x)).toArray 3/\Ext (·=g) w w':=by
 have hnc:n<=c-k:=by rw[hn];exact Nat.min_le_right _ _
 have hl:(ints (List.replicate n x)).length=n:=by rw[Ap,aI]
 have h:=run_copy_row (P:=prog) w 196 196 3 3 g k (c-k) (c-k) a sLen sCap (ints (HB c k x)).toArray 3 (ints (List.replicate n x)) Wz rW hB (by rw[hl,hn]) TY (by rw[hl,aZ,Ap,W3 hk];omega) (Fk _);rw[hl]at h;have e:((ints (HB c k x)).toArray.toList.take k++ints (List.replicate n x)++(ints (HB c k x)).toArray.toList.drop (k+n))=ints (HB c (k+n) x):=rX (by omega) x;rw[e]at h;obtain ⟨b1,b2⟩:=Zg hB (ints (HB c (k+n) x)).toArray;exact ⟨_,h,b1,b2⟩
theorem LP {g c:Nat}{x:Int}(hg:AO w g #[.int .i64 x] 3)(hc:1<=c)(yX:c<=1000):
  jx (⟨some ⟨g,0,none⟩,1,1⟩:AA) (c:Int) w (fun r w1=>IV w1 r (List.replicate c x)/\Ext (fun _=>False) w w1/\∀j,r.own j->w.heap.size<=j/\j<w1.heap.size) fun _ _=>False:=by
 refine ASU _ _ _ _ _ ?_;unfold AKl;refine Br.f (by simp) ?_;rw[show IntKind.u64.wrap (((⟨some ⟨g,0,none⟩,1,1⟩:AA).len:Nat):Int)=1 from KW (n:=1) (by omega),KW (n:=(c:Int)) (by omega)];refine (AFG (by omega) w).mono ?_;rintro hi lo w1 ⟨rfl,rfl,rfl⟩;refine Br.f (by decide) (Br.f (by simp;omega) ?_);rw[AE (n:=(c:Int)) (by omega)];obtain ⟨w2,Ag,oD⟩:=YO.make (zs:=[.int .i64 0]) rfl w1 c (by omega) (by omega);refine ⟨_,w2,Ag,?_⟩;have e2:Ext (fun _=>False) w1 w2:=by rw[oD];exact (Ext.refl _ _).alloc _
 have hB:AO w2 w1.heap.size (ints (HB c 0 x)).toArray 3:=by
  have e:HB c 0 x=List.replicate c 0:=by unfold HB;simp
  rw[oD,G9,e];exact AO.new _ _ _
 have TY:=e2.AS hg (fun h=>h);obtain ⟨w3,ALs,hB3,e3⟩:=XA (n:=1) (sLen:=1) (sCap:=1) (a:=⟨g,0,none⟩) hB ((bo (a:=1) (b:=c-0) (by omega)).symm) (by omega) fun j v hj=>by
  have h0:j=0:=by
   have:=(ao.1 hj).1;rw[Ap,aI]at this;omega
  subst h0;have hv:Value.int .i64 x=v:=by simpa[ints]using hj
  rw[add_lit,TY.cell,<-hv]
  rfl
 refine ⟨_,w3,ALs,?_⟩;have new:∀{a b:World},Ext (fun _=>False) w1 a->Ext (·=w1.heap.size) a b->Ext (fun _=>False) w1 b:=fun a b=>a.trans b (fun _ h=>h) fun i hi e=>by have e:i=w1.heap.size:=e;omega
 refine ⟨fun n st w4=>∃k:Nat,st=(k:Int)/\1<=k/\k<=c/\n=c-k/\AO w4 w1.heap.size (ints (HB c k x)).toArray 3/\Ext (fun _=>False) w1 w4,c-1,⟨1,rfl,by omega,by omega,rfl,hB3,new e2 e3⟩,?_⟩;rintro n st w4 ⟨k,rfl,TX,hk,rfl,vn,e4⟩;unfold qM;refine Br.dec (fun q=>?_) fun q=>?_
 ·have q:k<c:=by have q:(k:Int)<(c:Int):=q;omega
  have yd:AA.cut (⟨some ⟨w1.heap.size,0,none⟩,c,c⟩:AA) 1 k c c=⟨some ⟨w1.heap.size,k,none⟩,c-k,c-k⟩:=by
   unfold AA.cut;rw[ah (by omega)];simp only[cI,add_lit,aj,aH]
  have AFH:AA.cut (⟨some ⟨w1.heap.size,0,none⟩,c,c⟩:AA) 1 0 k c=⟨some ⟨w1.heap.size,0,none⟩,k,c⟩:=by
   unfold AA.cut;rw[ah (by omega)];simp only[cI,add_lit,aj,cg,bM]
  obtain ⟨w5,ALt,hB5,e5⟩:=XA (n:=Nat.min k (c-k)) (sLen:=k) (sCap:=c) (a:=⟨w1.heap.size,0,none⟩) vn.drew rfl hk fun j v hj=>by
   have V7:=(ao.1 hj).1;rw[Ap,aI]at V7;have hjk:j<k:=eh V7 (Nat.min_le_left _ _);have hv:Value.int .i64 x=v:=by
    have:=EY (l:=List.replicate (Nat.min k (c-k)) x) (i:=j) (by rw[aI];exact V7);rw[this]at hj;rw[af,cB,ak V7]at hj;exact aY hj
   rw[add_lit,vn.drew.cell,aj,bV,EY (by rw[W3 hk];omega),<-hv];unfold HB;rw[af,aG (by rw[aI];omega),cB,ak hjk]
   rfl
  have AgC:1<=Nat.min k (c-k):=Nat.le_min.2 ⟨TX,by omega⟩;have AbM:Nat.min k (c-k)<=c-k:=Nat.min_le_right _ _;show 0<=(k:Int)/\(k:Int)<=((c:Nat):Int)/\0<=(k:Int)/\(k:Int)<=((c:Nat):Int)/\_;simp only[aa];rw[yd,AFH];generalize Nat.min k (c-k)=z at*;refine ⟨by omega,by omega,by omega,by omega,_,w5,ALt,c-(k+z),by omega,k+z,by rw[AE (by omega)];rfl,by omega,by omega,rfl,hB5,new e4.drew e5⟩
 ·have q:¬k<c:=by have q:¬(k:Int)<(c:Int):=q;omega
  have hkc:k=c:=by omega
  subst hkc;have e:HB k k x=List.replicate k x:=by unfold HB;simp
  rw[e]at vn;refine ⟨IV.AS vn (by simp),e4,fun j hj=>?_⟩;obtain ⟨a,ha,rfl⟩:=hj;cases ha;exact ⟨av _,vn.lt⟩
def Zh:Nat->List Int
 |0=>[]
 |k+1=>Zh k++(if k=0 then List.replicate 144 8 else if k=1 then List.replicate 112 9 else if k=2 then List.replicate 24 7 else List.replicate 8 8)
theorem XB:∀k,k<=4->(Zh k).length<=k*144
 |0,_=>av _
 |k+1,h=>by
  have ih:=XB k (by omega);have e:Zh (k+1)=Zh k++(if k=0 then List.replicate 144 8 else if k=1 then List.replicate 112 9 else if k=2 then List.replicate 24 7 else List.replicate 8 8):=rfl;rw[e,ae];split
  ·simp;omega
  ·split
   ·simp;omega
   ·split
    ·simp;omega
    ·simp;omega
theorem gm (w:World):xk w (fun a b w1=>IV w1 a Js/\IV w1 b MW/\Ext (fun _=>False) w w1) fun _ _=>False:=by
 refine ASV _ _ _ ?_;unfold AKm;refine ⟨fun n st w1=>∃(k:Nat) (o:AA),st=(o,(k:Int))/\k<=4/\n=4-k/\Row w1 o 3 1 (ints (Zh k))/\(∀j,o.own j->w.heap.size<=j)/\Ext (fun _=>False) w w1,4,⟨0,⟨none,0,0⟩,rfl,by omega,rfl,Row.nil _ _ _,fun j hj=>(by obtain ⟨a,ha,_⟩:=hj;cases ha),Ext.refl _ _⟩,?_⟩;rintro n st w1 ⟨k,o,rfl,hk,rfl,AV,Ar,he⟩;unfold qN;dsimp only;have hlen:=XB k hk;have hrl:=AV.1;rw[Ap]at hrl;refine Br.dec (fun q=>?_) fun q=>?_
 ·have ALu:∃m l:Nat,(#[.int .i64 144,.int .i64 8,.int .i64 112,.int .i64 9,.int .i64 24,.int .i64 7,.int .i64 8,.int .i64 8]:Array Value).extract ((k:Int).toNat*2) ((k:Int).toNat*2+2)=#[.int .i64 (m:Int),.int .i64 (l:Int)]/\1<=m/\m<=144/\Zh (k+1)=Zh k++List.replicate m (l:Int):=by
   have hc:k=0\/k=1\/k=2\/k=3:=by omega
   rcases hc with rfl|rfl|rfl|rfl
   ·exact ⟨144,8,rfl,by omega,by omega,rfl⟩
   ·exact ⟨112,9,rfl,by omega,by omega,rfl⟩
   ·exact ⟨24,7,rfl,by omega,by omega,rfl⟩
   ·exact ⟨8,8,rfl,by omega,by omega,rfl⟩
  obtain ⟨m,l,hex,hm1,hm2,AXC⟩:=ALu;refine ⟨by omega,by omega,((m:Int),(l:Int)),hex,?_⟩;refine (Hn.start w1).nw fun w2 H=>?_
  simp only[ag]at H
  iterate 2 (refine H.st 0 rfl (by simp) fun _ H=>?_;simp only[ag,ar,ai,aq,aj]at H)
  iterate 1 refine H.ld 0 rfl rfl ?_
  refine H.nw fun w5 H=>?_
  simp only[ar,ag]at H
  iterate 1 refine H.ld 0 rfl rfl ?_
  refine (LP (H.get 1 rfl) hm1 (by omega)).mono ?_ fun _ _ h=>h.elim
  rintro r w6 ⟨hv,e6,o6⟩;have E6:=H.ext.tr e6;obtain ⟨o7,w7,Ag,XC,hl7,e7,AXD⟩:=YO.app (ty:=196) (AV.AB E6 fun _ _ h=>h) hv.2 (Fk _) (by rw[hv.1,aI];omega) (by rw[hv.1,aI];omega);refine ⟨o7,w7,Ag,4-(k+1),by omega,k+1,o7,by rw[AE (by omega)];rfl,by omega,rfl,?_,fun j hj=>?_,(he.tr E6).trans e7 (fun _ h=>h) fun i hi h=>by have:=Ar i h;omega⟩
  ·rw[AXC,EZ];exact XC
  ·have:=E6.size;have:=he.size;rcases AXD j hj with h|h
   ·exact Ar j h
   ·omega
 ·have:k=4:=by omega
  subst this;refine (Hn.start w1).nw fun w2 H=>?_
  simp only[ag]at H;refine (LP (c:=32) (H.get 0 rfl) (by omega) (by omega)).mono ?_ fun _ _ h=>h.elim
  rintro r w3 ⟨hv,e3,o3⟩;have hr:IV w1 o Js:=IV.row AV;exact ⟨(hr.AB H.ext).AB e3,hv,he.tr (H.ext.tr e3)⟩
end
end A8
namespace A8
open Sh DS
def Mh (n:Int):(Int×Int)×Bool:=if n=16 then ((3,2),true)else if n=17 then ((3,3),true)else if n=18 then ((11,7),true)else ((0,0),false)
def Laid (N:Nat)(w:World):Prop:=(2<N/\3<N)/\N<=w.heap.size/\(∀i:Nat,i<19->w.cell? ⟨2,i,none⟩=some (.int .i64 ((order.getD i 0:Nat):Int)))/\
 ∃(bm:Nat) (ob:Obj),bm<N/\w.heap[bm]?=some ob/\w.cell? ⟨3,0,none⟩=some (.map (some bm))/\
  ∀w':World,w'.heap[bm]?=some ob->∀n:Int,0<=n->n<19->BW prog (Instr.lookup 271 (.map (some bm)) (.int .i64 n) true) w' (.tuple #[.agg #[.int .i64 (Mh n).1.1,.int .i64 (Mh n).1.2],.bool (Mh n).2]) w'
theorem Laid.AB{F:Nat->Prop}{N:Nat}{w w':World}(h:Laid N w)(he:Ext F w w')(hF:∀j,F j->N<=j):Laid N w':=by
 obtain ⟨h1,h2,h3,bm,ob,h4,h5,h6,h7⟩:=h;have hz:=he.size;refine ⟨h1,by omega,fun i hi=>?_,bm,ob,h4,?_,?_,h7⟩
 ·rw[he.cell (by show 2<w.heap.size;omega) (fun e=>by have:=hF _ e;have:N<=2:=this;omega)];exact h3 i hi
 ·rw[he.block bm (by omega) (fun e=>by have:=hF _ e;omega)];exact h5
 ·rw[he.cell (by show 3<w.heap.size;omega) (fun e=>by have:=hF _ e;have:N<=3:=this;omega)];exact h6
structure Low (N fb rb:Nat) (o:AA):Prop where
 f:N<=fb
 r:N<=rb
 o:∀j,o.own j->N<=j
section
variable {w w1:World} {fb rb N:Nat} {o o1:AA} {s:ByteArray} {out:List UInt8} {p most:Nat}
theorem Low.mv(h:Low N fb rb o)(m:Mv fb rb w w1 o o1)(hw:N<=w.heap.size):Low N fb rb o1:=⟨h.f,h.r,fun j hj=>by
 rcases m.own j hj with e|e
 ·exact h.o j e
 ·omega⟩
theorem Laid.mv(h:Laid N w)(k:Low N fb rb o)(m:Ext (XF fb rb o) w w1):Laid N w1:=h.AB m fun j e=>by
 rcases e with rfl|rfl|e
 ·exact k.f
 ·exact k.r
 ·exact k.o j e
theorem kF (w:World)(c:Nat)(hc:c<=1000000):∃w',BW prog (Instr.makeSlice 196 (.int .i64 0) (.int .i64 (c:Int))) w (AA.v ⟨some ⟨w.heap.size,0,none⟩,0,c⟩) w'/\Ext (fun _=>False) w w'/\Row w' ⟨some ⟨w.heap.size,0,none⟩,0,c⟩ 3 1 []:=by
 obtain ⟨i,hi,h1,h8,hz⟩:=YO.info;have hr:=run_make (P:=prog) w 196 3 i (.int .i64 0) Wz hi hz .i64 .i64 0 c (by omega) (by omega) (by rw[h8];omega) (by omega);simp only[aa]at hr;refine ⟨_,hr,(Ext.refl _ _).alloc _,by simp,.inr ⟨_,_,rfl,AO.new _ _ _,by simp,?_,by simp⟩⟩;rw[h1];exact size_madeCells _ _
theorem rY {g:Nat}(h:g<16):Mh (g:Int)=((0,0),false):=by
 unfold Mh;rw[ah (by omega),ah (by omega),ah (by omega)]
theorem XD {g:Nat}(h:¬g<16)(h2:g<19):Mh (g:Int)=((((ED g:Nat):Int),((Hd g:Nat):Int)),true):=by
 have:g=16\/g=17\/g=18:=by omega
 rcases this with rfl|rfl|rfl<;>rfl
attribute [local irreducible] Ld St Nw Nn Lt AP
theorem kG {lens:List Int}{lo hi tb many:Nat}(h:FS w fb rb o s out p most)(hs:s.size<=1000000)(ht:TB w lo hi tb lens)(hk:NV lens)(h19:lens.length=19)(hS:Sep lo hi fb rb o w)(hL:Laid N w)(hN:Low N fb rb o)(hm:many<=1000):
  AEe (some (⟨fb,0,none⟩:Addr)) (some (⟨tb,0,none⟩:Addr)) (many:Int) w
   (fun r w1=>∃l q,CC lens s many (many+1) [] p= .ok (l,q)/\IV w1 r l/\r.len<=r.cap/\(∀j,r.own j->w.heap.size<=j)/\FS w1 fb rb o s out q most/\Ext (·=rb) w w1) (yb fb rb w o (CC lens s many (many+1) [] p)):=by
 refine ASa _ _ _ _ _ _ ?_;unfold AKr;have hfb:=h.AS.lt;have hrb:=h.rd.lt;obtain ⟨w1,Ag,e1,oM⟩:=kF w many (by omega);refine ⟨_,w1,Ag,?_⟩;generalize hR:CC lens s many (many+1) [] p=R0;have VQ:∀{a b:World},Ext (fun _=>False) a b->Ext (·=rb) a b:=fun h=>h.mono fun _ _ e=>e.elim
 refine ⟨fun n st w2=>∃(l:List Int) (q:Nat),Row w2 st 3 1 (ints l)/\(∀j,st.own j->w.heap.size<=j)/\FS w2 fb rb o s out q most/\Ext (·=rb) w w2/\l.length<=many/\many<l.length+n/\CC lens s many n l q=R0,many+1,⟨[],p,oM,fun j hj=>(by obtain ⟨a,ha,rfl⟩:=hj;cases ha;exact av _),h.AB e1,VQ e1,bz _,by simp,hR⟩,?_⟩;rintro n st w2 ⟨l,q,AV,Ar,H2,e2,hlm,hfu,AW⟩;unfold qQ;have Ga:st.len=l.length:=by have:=AV.1;rw[Ap]at this;omega
 have fG:=e2.size;rw[Ga];obtain ⟨n,rfl⟩:∃n',n=n'+1:=⟨n-1,by omega⟩
 unfold CC at AW;refine Br.dec (fun q1=>?_) fun q1=>?_
 ·rw[ah (by omega)]at AW;refine Nn.of (Ld.of H2.AS (o:=0) (x:=SH rb) rfl ?_);have m2:Mv fb rb w w2 o o:= .rd e2;refine (Ue (ht.mv hS m2.ext) hk H2.rd hs hS.r).mono ?_;rintro r e w3 ⟨e3,q3,hT,kH⟩;have E3:Ext (·=rb) w w3:=e2.tr e3;refine (Jb _ e w3).mono ?_ ?_;rotate_left
  ·rintro v _ ⟨rfl,h2,rfl⟩;rcases hT with ⟨g,_,_,h3⟩|⟨h3,_⟩
   ·exact absurd h3 h2
   ·rw[h3]at AW;exact ⟨e,AW.symm,rfl,(Mv.rd E3).ext⟩
  rintro r w3 ⟨rfl,rfl,rfl⟩;obtain ⟨g,hg,rfl,_⟩:∃g:Nat,sym lens s q= .ok (g,q3)/\r=(g:Int)/\(0:Int)=0:=by
   rcases hT with hT|⟨_,h3⟩
   ·exact hT
   ·exact absurd rfl h3
  have H3:=H2.read e3 (kH rfl);have XE:=AV.AB e3 fun j hj e=>by have:=Ar j hj;have e:j=rb:=e;omega
  obtain ⟨g1,g2,g3⟩:=Hk hg;rw[h19]at g3;rw[hg]at AW;dsimp only at AW;have hL3:=hL.AB E3 fun j e=>by have e:j=rb:=e;rw[e];exact hN.r
  obtain ⟨n1,n2,n3,bm,ob,n4,n5,n6,n7⟩:=hL3;refine Ld.mk n6 ⟨(Mh g).1,(Mh g).2,w3,n7 w3 n5 g (by omega) (by omega),?_⟩;refine (Hn.start w3).nw fun w4 H=>?_
  simp only[ag]at H;have AgE:=H.lt 0 rfl
  iterate 2 (refine H.st 0 rfl (by simp) fun _ H=>?_;simp only[ag,ar,ai,aq,aj]at H)
  have AbN:∀j,st.own j->j<w3.heap.size:=fun j hj=>XE.own_lt hj
  by_cases q4:g<16
  ·rw[rY q4];rw[ak q4]at AW;refine Br.t rfl ?_;refine H.nw fun w7 H=>?_
   simp only[ar,ag]at H;obtain ⟨o8,w8,ALv,XG,hl8,e8,ALm⟩:=YO.Ip (ty:=196) (ys:=[.int .i64 (g:Int)]) (XE.AB H.ext fun _ _ h=>h) (H.get 1 rfl) rfl (by intro v hv;rw[az.1 hv];rfl) (by omega) (by omega);refine ⟨o8,w8,ALv,n,by omega,l++[(g:Int)],q3,?_,fun j hj=>?_,?_,?_,?_,?_,AW⟩
   ·rw[EZ];exact XG
   ·have:=H.size;have:=E3.size;rcases ALm j hj with e|e
    ·exact Ar j e
    ·omega
   ·have H7:=H3.AB H.ext;exact ⟨e8.AS H7.AS fun e=>by have:=Ar _ e;omega,H7.rd.AB e8 fun e=>by have:=Ar _ e;omega,H7.row.AB e8 fun j hj e=>by have:=Ar j e;have:=h.row.own_lt hj;omega,H7.ne,H7.nf,H7.nr,H7.len,H7.Nu⟩
   ·exact (E3.tr (VQ H.ext)).trans e8 (fun _ h=>h) fun i hi e=>by have:=Ar i e;omega
   ·rw[ae];simp;omega
   ·rw[ae];simp;omega
  ·rw[XD q4 g3];rw[ah q4]at AW;have hB:Hd g<=7/\2<=Hd g:=by unfold Hd;split;omega;split<;>omega
   have hLb:ED g<=11/\3<=ED g:=by unfold ED;split<;>omega
   rw[XD q4 g3]at H;refine Br.f rfl (Br.eq (fun q5=>?_) fun q5=>?_)
   ·have:g=16:=by omega
    subst this;refine (BK _ 3 _).mono ?_ ?_;rotate_left
    ·rintro v w7 ⟨rfl,h5,rfl⟩;have h5:=cA h5;rw[ak ⟨rfl,by omega⟩]at AW;exact ⟨3,AW.symm,rfl,(Mv.rd (E3.tr (VQ H.ext))).ext⟩
    rintro w7 ⟨h5,rfl⟩;have h5:=bf h5;rw[ah (by omega)]at AW;rw[AE (n:=((l.length:Nat):Int)-1) (by omega)];have hvl:=IV.row (XE.AB H.ext fun _ _ h=>h);obtain ⟨a,ha,hc⟩:=hvl.get (i:=l.length-1) (by omega);rw[ha];refine ⟨by omega,by omega,Nn.of ?_⟩;rw[show (((l.length:Nat):Int)-1).toNat=l.length-1 by omega];refine Ld.mk hc ?_;refine ⟨fun w'=>AO w' w3.heap.size #[.int .i64 (ED 16:Nat),.int .i64 (Hd 16:Nat)] 269,(H.get 0 rfl).drew,AP.of (fun w' h=>h) (o:=0) (x:=((ED 16:Nat):Int)) rfl ?_⟩;simp only[add_lit,aj];refine AP.of (fun w' h=>h) (o:=1) (x:=((Hd 16:Nat):Int)) rfl ?_;have H:=H.drew;have H7:=H3.AB H.ext;have XC:=XE.AB H.ext fun _ _ h=>h
    refine (Eo (n:=Hd 16) (by omega) H7 hs).mono ?_ ?_;rotate_left
    ·rintro v w8 ⟨hn,rfl,e8⟩;rw[hn]at AW;exact ⟨4,AW.symm,rfl,(Mv.rd ((E3.tr (VQ H.ext)).tr e8)).ext⟩
    rintro x w8 ⟨q8,hn,H8,e8⟩;rw[hn]at AW;dsimp only at AW;obtain ⟨x0,x1,x2,x3⟩:=BU hn;have hp7:(2:Int)^Hd 16<=2^7:=Bz (by omega);have h27:(2:Int)^7=128:=by decide
    obtain ⟨x,rfl⟩:=aR x0;simp only[aa]at AW;have E8:=(E3.tr (VQ H.ext)).tr e8;have XG:=XC.AB e8 fun j hj e=>by have:=Ar j hj;have e:j=rb:=e;omega
    have AXE:=H3.rd.lt;refine ⟨e8.AS (H.get 0 rfl) (fun e=>by have e:w3.heap.size=rb:=e;omega),?_⟩;rw[AE (n:=((ED 16:Nat):Int)+(x:Int)) (by omega),AE (by omega)];refine (BK _ 3 _).mono ?_ ?_;rotate_left
    ·rintro v w8 ⟨rfl,h6,rfl⟩;have h6:=cA h6;rw[ak (by omega)]at AW;exact ⟨3,AW.symm,rfl,(Mv.rd E8).ext⟩
    rintro w8 ⟨h6,rfl⟩;have h6:=bf h6;rw[ah (by omega),ak trivial]at AW;refine (Hn.start w8).nw fun w9 H9=>?_
    simp only[ag]at H9;rw[show ((ED 16:Nat):Int)+(x:Int)=((ED 16+x:Nat):Int) by omega];refine (LP (H9.get 0 rfl) (c:=ED 16+x) (by omega) (by omega)).mono ?_ fun _ _ h=>h.elim
    rintro r IY ⟨hv,JO,o10⟩;have e9:=H9.ext.tr JO;obtain ⟨o11,PU,Zi,Zj,AXF,NQ,rZ⟩:=YO.app (ty:=196) (XG.AB e9 fun _ _ h=>h) hv.2 (Fk _) (by rw[hv.1,aI];omega) (by rw[hv.1,aI];omega);refine ⟨o11,PU,Zi,n,by omega,_,q8,?_,fun j hj=>?_,?_,?_,?_,?_,AW⟩
    ·rw[EZ];exact Zj
    ·have:=e9.size;have:=E8.size;rcases rZ j hj with e|e
     ·exact Ar j e
     ·omega
    ·have Mz:=H8.AB e9;exact ⟨NQ.AS Mz.AS fun e=>by have:=Ar _ e;omega,Mz.rd.AB NQ fun e=>by have:=Ar _ e;omega,Mz.row.AB NQ fun j hj e=>by have:=Ar j e;have:=h.row.own_lt hj;omega,Mz.ne,Mz.nf,Mz.nr,Mz.len,Mz.Nu⟩
    ·exact (E8.tr (VQ e9)).trans NQ (fun _ h=>h) fun i hi e=>by have:=Ar i e;omega
    ·rw[ae,aI];omega
    ·rw[ae,aI];omega
   ·rw[ah (by omega)]at AW;have h16:¬g=16:=by omega
    refine ⟨fun w'=>AO w' w3.heap.size #[.int .i64 (ED g:Nat),.int .i64 (Hd g:Nat)] 269,(H.get 0 rfl).drew,AP.of (fun w' h=>h) (o:=0) (x:=((ED g:Nat):Int)) rfl ?_⟩;simp only[add_lit,aj];refine AP.of (fun w' h=>h) (o:=1) (x:=((Hd g:Nat):Int)) rfl ?_;have H:=H.drew;have H7:=H3.AB H.ext;have XC:=XE.AB H.ext fun _ _ h=>h
    refine (Eo (n:=Hd g) (by omega) H7 hs).mono ?_ ?_;rotate_left
    ·rintro v w8 ⟨hn,rfl,e8⟩;rw[hn]at AW;exact ⟨4,AW.symm,rfl,(Mv.rd ((E3.tr (VQ H.ext)).tr e8)).ext⟩
    rintro x w8 ⟨q8,hn,H8,e8⟩;rw[hn]at AW;dsimp only at AW;obtain ⟨x0,x1,x2,x3⟩:=BU hn;have hp7:(2:Int)^Hd g<=2^7:=Bz (by omega);have h27:(2:Int)^7=128:=by decide
    obtain ⟨x,rfl⟩:=aR x0;simp only[aa]at AW;have E8:=(E3.tr (VQ H.ext)).tr e8;have XG:=XC.AB e8 fun j hj e=>by have:=Ar j hj;have e:j=rb:=e;omega
    have AXE:=H3.rd.lt;refine ⟨e8.AS (H.get 0 rfl) (fun e=>by have e:w3.heap.size=rb:=e;omega),?_⟩;rw[AE (n:=((ED g:Nat):Int)+(x:Int)) (by omega),AE (by omega)];refine (BK _ 3 _).mono ?_ ?_;rotate_left
    ·rintro v w8 ⟨rfl,h6,rfl⟩;have h6:=cA h6;rw[ak (by omega)]at AW;exact ⟨3,AW.symm,rfl,(Mv.rd E8).ext⟩
    rintro w8 ⟨h6,rfl⟩;have h6:=bf h6;rw[ah (by omega),ah h16]at AW;refine (Hn.start w8).nw fun w9 H9=>?_
    simp only[ag]at H9;rw[show ((ED g:Nat):Int)+(x:Int)=((ED g+x:Nat):Int) by omega];refine (LP (H9.get 0 rfl) (c:=ED g+x) (by omega) (by omega)).mono ?_ fun _ _ h=>h.elim
    rintro r IY ⟨hv,JO,o10⟩;have e9:=H9.ext.tr JO;obtain ⟨o11,PU,Zi,Zj,AXF,NQ,rZ⟩:=YO.app (ty:=196) (XG.AB e9 fun _ _ h=>h) hv.2 (Fk _) (by rw[hv.1,aI];omega) (by rw[hv.1,aI];omega);refine ⟨o11,PU,Zi,n,by omega,_,q8,?_,fun j hj=>?_,?_,?_,?_,?_,AW⟩
    ·rw[EZ];exact Zj
    ·have:=e9.size;have:=E8.size;rcases rZ j hj with e|e
     ·exact Ar j e
     ·omega
    ·have Mz:=H8.AB e9;exact ⟨NQ.AS Mz.AS fun e=>by have:=Ar _ e;omega,Mz.rd.AB NQ fun e=>by have:=Ar _ e;omega,Mz.row.AB NQ fun j hj e=>by have:=Ar j e;have:=h.row.own_lt hj;omega,Mz.ne,Mz.nf,Mz.nr,Mz.len,Mz.Nu⟩
    ·exact (E8.tr (VQ e9)).trans NQ (fun _ h=>h) fun i hi e=>by have:=Ar i e;omega
    ·rw[ae,aI];omega
    ·rw[ae,aI];omega
 ·rw[ak (by omega)]at AW;exact ⟨l,q,AW.symm,IV.row AV,O5 AV,Ar,H2,e2⟩
end
end A8
namespace A8
open Sh DS
theorem Dd:DE Js=0:=by decide+kernel
theorem Fa:DE MW=0:=by decide+kernel
theorem QY {s:ByteArray}{lens l2:List Int}{many q:Nat}:∀(k:Nat) (l:List Int) (p:Nat),(∀x∈l,0<=x)->CC lens s many k l p= .ok (l2,q)->∀x∈l2,0<=x
 |0,_,_,_,h=>by cases h
 |k+1,l,p,hl,h=>by
  unfold CC at h;split at h
  ·cases h;exact hl
  ·split at h
   ·cases h
   ·split at h
    ·exact QY k _ _ (fun x hx=>by
      rcases aQ.1 hx with hx|hx
      ·exact hl x hx
      ·rw[az.1 hx];omega) h
    ·split at h
     ·cases h
     ·split at h
      ·cases h
      ·split at h
       ·cases h
       ·refine QY k _ _ (fun x hx=>?_) h;rcases aQ.1 hx with hx|hx
        ·exact hl x hx
        ·rw[List.eq_of_mem_replicate hx];split
         ·by_cases hz:l.length-1<l.length
          ·exact getD_in (P:=fun x=>0<=x) hl hz
          ·rw[af,bF (by omega)];exact bH _
         ·exact bH _
theorem IV.take{w:World}{s:AA}{l:List Int}(h:IV w s l){n:Nat}(hn:n<=l.length):IV w (s.cut 1 0 n s.cap) (l.take n):=by
 refine ⟨?_,?_,fun j v hj=>?_⟩
 ·show n-0=_;rw[au];omega
 ·rw[Ap,au];show _=(n-0)*1;omega
 ·have V7:j<(l.take n).length:=by
   have:=(ao.1 hj).1;rw[Ap]at this;exact this
  rw[au]at V7;obtain ⟨a,ha,hc⟩:=h.2.2 j v (by
   rw[<-hj];unfold ints;rw[aE,aE,List.getElem?_take_of_lt (by omega)])
  refine ⟨a,?_,hc⟩;show (if s.cap=0 then s.p else s.p.map (·.add (0*1)))=_;split
  ·exact ha
  ·rw[ha,cg];show some (a.add 0)=_;have e:a.add 0=a:=by unfold Addr.add;split<;>(try split)<;>simp_all
   rw[e]
section
variable {w:World} {fb rb N:Nat} {o:AA} {s:ByteArray} {out:List UInt8} {p most:Nat}
theorem FS.sep{w0 w1:World}{lo hi:Nat}(h:FS w0 fb rb o s out p most)(nJ:w0.heap.size<=lo)(hhi:hi<=w1.heap.size):Sep lo hi fb rb o w1:=
 ⟨.inl (eh h.AS.lt nJ),.inl (eh h.rd.lt nJ),fun j hj=> .inl (eh (h.row.own_lt hj) nJ),hhi⟩
theorem TB.no{w w1:World}{lo hi b:Nat}{lens:List Int}(h:TB w lo hi b lens)(he:Ext (fun _=>False) w w1):TB w1 lo hi b lens:=h.AB he fun _ _ _ h=>h
attribute [local irreducible] Ld St Nw Nn Lt AP
theorem ye (h:FS w fb rb o s out p most)(hs:s.size<=1000000):AEd (some (⟨fb,0,none⟩:Addr)) w (OkR fb rb w o s most (Ad s Js MW most (8*s.size+1) out p)) (yb fb rb w o (Ad s Js MW most (8*s.size+1) out p)):=by
 refine ASZ _ _ _ _ ?_;unfold AKq;refine (gm w).mono ?_ fun _ _ h=>h.elim
 rintro a b w1 ⟨ha,hb,e1⟩;refine (F2 ha).mono ?_;rintro r e w2 ⟨rfl,e2,_,h2⟩;obtain ⟨t1,rfl,ht1⟩:=h2 Dd;rw[Dd];refine (LO _ 0 w2).mono ?_ fun v w h=>absurd rfl h.2.1
 rintro r w2 ⟨_,rfl,rfl⟩;refine (F2 (hb.AB e2)).mono ?_;rintro r e w3 ⟨rfl,e3,_,h3⟩;obtain ⟨t2,rfl,vB⟩:=h3 Fa;rw[Fa];refine (LO _ 0 w3).mono ?_ fun v w h=>absurd rfl h.2.1
 rintro r w3 ⟨_,rfl,rfl⟩;have E:=(e1.tr e2).tr e3;have z1:=e1.size;have z2:=e2.size;have z3:=e3.size;refine (gl (h.AB E) hs (ht1.no e3) (A5 Dd) (h.sep (by omega) (by omega)) vB (A5 Fa) (h.sep (by omega) (by omega))).mono ?_ ?_
 ·rintro w4 ⟨o1,Eb,q,h1,h2,h3⟩;exact ⟨o1,Eb,q,h1,h2,(Mv.no E).tr h3⟩
 ·rintro v w4 ⟨e,h1,h2,h3⟩;exact ⟨e,h1,h2,(Mv.no E).er h3⟩
def ra (s:ByteArray)(most:Nat)(out:List UInt8)(p:Nat):Except Int (List UInt8×Nat):=match dyn s p with
 | .error e=> .error e
 | .ok (a,b,q)=>Ad s a b most (8*s.size+1) out q
theorem re:∀i,i<19->order.getD i 0<19:=by decide
theorem kJ (h:FS w fb rb o s out p most)(hs:s.size<=1000000)(hL:Laid N w)(hN:Low N fb rb o):AEf (some (⟨fb,0,none⟩:Addr)) w (OkR fb rb w o s most (ra s most out p)) (yb fb rb w o (ra s most out p)):=by
 refine ASc _ _ _ _ ?_;unfold AKt;have h32:(2:Int)^5=32:=by decide
 have h16:(2:Int)^4=16:=by decide
 generalize hR:ra s most out p=R0;unfold ra dyn at hR;have VQ:∀{a b:World},Ext (fun _=>False) a b->Ext (·=rb) a b:=fun h=>h.mono fun _ _ e=>e.elim
 refine (Eo (n:=5) (by omega) h hs).mono ?_ ?_;rotate_left
 ·rintro v w1 ⟨hn,rfl,e1⟩;rw[hn]at hR;exact ⟨4,hR.symm,rfl,(Mv.rd e1).ext⟩
 rintro hl w1 ⟨p1,YP,H1,e1⟩;rw[YP]at hR;dsimp only at hR;obtain ⟨a0,a1,a2,a3⟩:=BU YP;rw[AE (n:=hl+257) (by omega)];refine (BK _ 3 _).mono ?_ ?_;rotate_left
 ·rintro v w1 ⟨rfl,h3,rfl⟩;have h3:=cA h3;rw[ak (by omega)]at hR;exact ⟨3,hR.symm,rfl,(Mv.rd e1).ext⟩
 rintro w1 ⟨h3,rfl⟩;have h3:=bf h3;rw[ah (by omega)]at hR;refine (Eo (n:=5) (by omega) H1 hs).mono ?_ ?_;rotate_left
 ·rintro v w2 ⟨hn,rfl,e2⟩;rw[hn]at hR;exact ⟨4,hR.symm,rfl,(Mv.rd (e1.tr e2)).ext⟩
 rintro hd w2 ⟨p2,Tk,H2,e2⟩;rw[Tk]at hR;dsimp only at hR;obtain ⟨b0,b1,b2,b3⟩:=BU Tk;rw[AE (n:=hd+1) (by omega)];refine (BK _ 3 _).mono ?_ ?_;rotate_left
 ·rintro v w2 ⟨rfl,h4,rfl⟩;have h4:=cA h4;rw[ak (by omega)]at hR;exact ⟨3,hR.symm,rfl,(Mv.rd (e1.tr e2)).ext⟩
 rintro w2 ⟨h4,rfl⟩;have h4:=bf h4;rw[ah (by omega)]at hR;have E2:=e1.tr e2;obtain ⟨hl,rfl⟩:=aR a0;obtain ⟨hd,rfl⟩:=aR b0;have AgI:=H2.AS.lt;have AFD:=H2.rd.lt;refine (Hn.start w2).nw fun w3 H=>?_
 simp only[ag]at H;have H:Hn w2 w3 [(w2.heap.size,ints (List.replicate 19 0),213)]:=H;refine (Eo (n:=4) (by omega) (H2.AB H.ext) hs).mono ?_ ?_;rotate_left
 ·rintro v w4 ⟨hn,rfl,e4⟩;rw[hn]at hR;exact ⟨4,hR.symm,rfl,(Mv.rd ((E2.tr (VQ H.ext)).tr e4)).ext⟩
 rintro hc w4 ⟨p4,hn4,H4,e4⟩;rw[hn4]at hR;dsimp only at hR;obtain ⟨c0,c1,c2,c3⟩:=BU hn4;obtain ⟨hc,rfl⟩:=aR c0;have E4:=(E2.tr (VQ H.ext)).tr e4;rw[AE (n:=(hc:Int)+4) (by omega),show ((hc:Int)+4).toNat=hc+4 by omega];have yd:AA.cut (⟨some (⟨2,0,none⟩:Addr),19,19⟩:AA) 1 0 (hc+4) 19=⟨some ⟨2,0,none⟩,hc+4,19⟩:=by
  unfold AA.cut;rw[ah (by omega)];simp only[cI,add_lit,aj,cg,bM]
 have AFH:AA.cut (⟨some (⟨w2.heap.size,0,none⟩:Addr),19,19⟩:AA) 1 0 19 19=⟨some ⟨w2.heap.size,0,none⟩,19,19⟩:=by
  unfold AA.cut;rw[ah (by omega)];simp only[cI,add_lit,aj,cg,bM]
 rw[yd];refine ⟨by omega,by omega,Lt.of ?_⟩;have vn:AO w4 w2.heap.size (ints (List.replicate 19 0)).toArray 213:=e4.AS (H.get 0 rfl) fun e=>by have e:w2.heap.size=rb:=e;omega
 generalize ALw:CR s (order.take (hc+4)) (List.replicate 19 0) p4=R19;simp only[aa]at hR;rw[ALw]at hR;refine ⟨fun n st w5=>∃(i:Nat) (l:List Int) (q:Nat),st=(i:Int)/\i<=hc+4/\n=hc+4-i/\l.length=19/\AO w5 w2.heap.size (ints l).toArray 213/\FS w5 fb rb o s out q most/\Ext (·=rb) w w5/\CR s ((order.take (hc+4)).drop i) l q=R19,hc+4,⟨0,_,p4,rfl,by omega,rfl,by simp,vn,H4,E4,ALw⟩,?_⟩;rintro n st w5 ⟨i,l,q,rfl,hi,rfl,AFI,hB5,H5,E5,AW⟩;unfold qR;rw[AE (n:=(hc:Int)+4) (by omega),show ((hc:Int)+4).toNat=hc+4 by omega,yd];have hL5:=hL.AB E5 fun j e=>by have e:j=rb:=e;rw[e];exact hN.r
 refine Br.dec (fun q1=>?_) fun q1=>?_
 ·have q1:i<hc+4:=by have q1:(i:Int)<((hc+4:Nat):Int):=q1;omega
  refine ⟨by omega,by show (i:Int)<((hc+4:Nat):Int);omega,Nn.of ?_⟩;simp only[add_lit,aa,aH,aj];refine Ld.mk (hL5.2.2.1 i (by omega)) ?_;have Vx:=re i (by omega);have J6:(order.take (hc+4)).drop i=order.getD i 0::(order.take (hc+4)).drop (i+1):=by
   have hlen:(order.take (hc+4)).length=hc+4:=by rw[au];show min (hc+4) 19=_;omega
   rw[aS (by omega)]
   congr 1
   rw[List.getElem_take,af,ad (by show i<19;omega)]
   rfl
  rw[J6]at AW;unfold CR at AW;refine (Eo (n:=3) (by omega) H5 hs).mono ?_ ?_;rotate_left
  ·rintro v w6 ⟨hn,rfl,e6⟩;rw[hn]at AW;rw[<-AW]at hR;exact ⟨4,hR.symm,rfl,(Mv.rd (E5.tr e6)).ext⟩
  rintro x w6 ⟨q6,hn6,H6,e6⟩;rw[hn6]at AW;dsimp only at AW;refine ⟨by omega,by omega,?_⟩;have hB6:=e6.AS hB5 fun e=>by have e:w2.heap.size=rb:=e;omega
  refine (Hx.one (F:=(·=w2.heap.size)) hB6).st 0 rfl (by rw[aZ,Ap];omega) (.inl rfl) fun w7 H7=>?_
  have hB7:AO w7 w2.heap.size (ints (l.set (order.getD i 0) x)).toArray 213:=by
   have:=H7.get 0 rfl;rw[<-ints_set];simpa using this
  have hz:=E2.size;refine ⟨hc+4-(i+1),by omega,i+1,l.set (order.getD i 0) x,q6,by rw[AE (by omega)];rfl,by omega,rfl,by rw[br];exact AFI,hB7,?_,?_,AW⟩
  ·have oS:fb≠w2.heap.size:=by omega
   exact ⟨H7.ext.AS H6.AS fun e=>oS e,H6.rd.AB H7.ext fun e=>by have e:rb=w2.heap.size:=e;omega,H6.row.AB H7.ext fun j hj e=>by have:=H2.row.own_lt hj;have e:j=w2.heap.size:=e;omega,H6.ne,H6.nf,H6.nr,H6.len,H6.Nu⟩
  ·exact (E5.tr e6).trans H7.ext (fun _ h=>h) fun j hj e=>by have e:j=w2.heap.size:=e;omega
 ·have q1:¬i<hc+4:=by have q1:¬(i:Int)<((hc+4:Nat):Int):=q1;omega
  have hi4:i=hc+4:=by omega
  subst hi4;have hd0:(order.take (hc+4)).drop (hc+4)=[]:=List.drop_eq_nil_of_le (by rw[au];omega);rw[hd0]at AW;have AW:Except.ok (l,q)=R19:=AW;rw[<-AW]at hR;dsimp only at hR;rw[AFH];have fG:=E2.size;have hz5:=E5.size;refine (F2 (IV.AS hB5 AFI.symm)).mono ?_;rintro r e w6 ⟨rfl,e6,_,h6⟩;have H6:=H5.AB e6;have E6:=E5.tr (VQ e6);refine (LO _ _ w6).mono ?_ ?_;rotate_left
  ·rintro v w6 ⟨rfl,h7,rfl⟩;rw[ak h7]at hR;exact ⟨_,hR.symm,rfl,(Mv.rd E6).ext⟩
  rintro r w6 ⟨h7,rfl,rfl⟩;rw[ah (fun hh=>hh h7)]at hR;obtain ⟨tb,rfl,ht⟩:=h6 h7;have hL6:=hL5.AB e6 fun j e=>e.elim
  rw[AE (n:=(hl:Int)+257) (by omega),AE (n:=(hd:Int)+1) (by omega),AE (n:=(hl:Int)+257+((hd:Int)+1)) (by omega),show (hl:Int)+257+((hd:Int)+1)=((hl+257+(hd+1):Nat):Int) by omega];have hz6:=e6.size;refine (kG H6 hs ht (A5 h7) AFI (H5.sep (av _) (av _)) hL6 hN (by omega)).mono ?_ ?_;rotate_left
  ·rintro v w7 ⟨e,h8,rfl,e7⟩;rw[h8]at hR;exact ⟨e,hR.symm,rfl,(Mv.rd E6).er e7⟩
  rintro r w7 ⟨l2,q2,hlf,hv2,ALx,ABN,H7,e7⟩;rw[hlf]at hR;dsimp only at hR;obtain ⟨f1,f2,f3⟩:=LQ _ _ _ H6.rd.1 (bz _) hlf;have hnn:=QY _ _ _ (fun x hx=>by cases hx) hlf;have E7:=E6.tr e7;have hln:=hv2.1;obtain ⟨a,ha,Y3⟩:=hv2.get (i:=256) (by omega);rw[ha];refine ⟨by omega,by omega,Nn.of (Ld.mk Y3 ?_)⟩;have h256:0<=l2.getD 256 0:=getD_in (P:=fun x=>0<=x) hnn (by omega);refine (BK _ 13 _).mono ?_ ?_;rotate_left
  ·rintro v w7 ⟨rfl,h8,rfl⟩;have h8:=cA h8;rw[ak (by omega)]at hR;exact ⟨13,hR.symm,rfl,(Mv.rd E7).ext⟩
  rintro w7 ⟨h8,rfl⟩;have h8:=bf h8;rw[ah (by omega)]at hR;rw[show (hl:Int)+257=((hl+257:Nat):Int) by omega,aa];refine ⟨by omega,by omega,by omega,by omega,?_⟩;have hvt:=(hv2.take (n:=hl+257) (by omega)).AB ((Ext.refl _ _).drew);have H7:=H7.AB (Ext.refl _ _).drew;have E7:Ext (·=rb) w w7.drew:=E7.drew;refine (F2 hvt).mono ?_;rintro r2 e w8 ⟨rfl,e8,_,h9⟩;refine (LO _ _ w8).mono ?_ ?_;rotate_left
  ·rintro v w8 ⟨rfl,h10,rfl⟩;rw[ak h10]at hR;exact ⟨_,hR.symm,rfl,(Mv.rd (E7.tr (VQ e8))).ext⟩
  rintro r2 w8 ⟨h10,rfl,rfl⟩;rw[ah (fun hh=>hh h10)]at hR;obtain ⟨t1,rfl,ht1⟩:=h9 h10;have hvd:=((hv2.AB (Ext.refl _ _).drew).AB e8).drop ALx (d:=hl+257) (by omega);refine (F2 hvd.1).mono ?_;rintro r3 e w9 ⟨rfl,e9,_,h11⟩;refine (LO _ _ w9).mono ?_ ?_;rotate_left
  ·rintro v w9 ⟨rfl,h12,rfl⟩;rw[ak h12]at hR;exact ⟨_,hR.symm,rfl,(Mv.rd ((E7.tr (VQ e8)).tr (VQ e9))).ext⟩
  rintro r3 w9 ⟨h12,rfl,rfl⟩;rw[ah (fun hh=>hh h12)]at hR;obtain ⟨t2,rfl,vB⟩:=h11 h12;have z8:=e8.size;have z9:=e9.size;have H9:=(H7.AB e8).AB e9;have hcd:=gl H9 hs (ht1.no e9) (A5 h10) (H7.sep (av _) (by omega)) vB (A5 h12) (H7.sep (by omega) (av _));dsimp only at hR;rw[hR]at hcd;have E9:=(E7.tr (VQ e8)).tr (VQ e9);refine hcd.mono ?_ ?_
  ·rintro IY ⟨o1,Eb,q10,g1,g2,g3⟩;exact ⟨o1,Eb,q10,g1,g2,(Mv.rd E9).tr g3⟩
  ·rintro v IY ⟨e,g1,g2,g3⟩;exact ⟨e,g1,g2,(Mv.rd E9).er g3⟩
end
end A8
namespace A8
open Sh DS
def XH (s:ByteArray)(most:Nat)(out:List UInt8)(p:Nat):Except Int (Int×List UInt8×Nat):=match num s p 1 with
 | .error e=> .error e
 | .ok (last,p1)=>match num s p1 2 with
  | .error e=> .error e
  | .ok (kind,p2)=>match block s most kind out p2 with
   | .error e=> .error e
   | .ok (o,q)=> .ok (last,o,q)
theorem yf {s:ByteArray}{most p q:Nat}{out o:List UInt8}{last:Int}(hm:out.length<=most)(h:XH s most out p= .ok (last,o,q)):p<q/\q<=8*s.size/\o.length<=most:=by
 unfold XH at h;split at h
 ·cases h
 ·rename_i l p1 h1;obtain ⟨a1,a2,a3,a4⟩:=BU h1;split at h
  ·cases h
  ·rename_i k p2 h2;obtain ⟨b1,b2,b3,b4⟩:=BU h2;split at h
   ·cases h
   ·rename_i o2 q2 h3;cases h;obtain ⟨c1,c2,c3⟩:=QZ b4 hm h3;exact ⟨by omega,c2,c3⟩
theorem rf (s:ByteArray)(most k:Nat)(out:List UInt8)(p:Nat):Qa s most (k+1) out p=match XH s most out p with
  | .error e=> .error e
  | .ok (last,o,q)=>if last=1 then .ok (o,(q+7)/8)else Qa s most k o q:=by
 conv=>lhs;unfold Qa
 unfold XH;cases num s p 1 with
 |error e=>rfl
 |ok x=>
  obtain ⟨last,p1⟩:=x;dsimp only;cases num s p1 2 with
  |error e=>rfl
  |ok y=>
   obtain ⟨kind,p2⟩:=y;dsimp only;cases block s most kind out p2 with
   |error e=>rfl
   |ok z=>rfl
attribute [local irreducible] Ld St Nw Nn Lt AP
section
variable {w:World} {fb rb N:Nat} {o:AA} {s:ByteArray} {out:List UInt8} {p most:Nat}
theorem yg (h:FS w fb rb o s out p most)(hs:s.size<=1000000)(hL:Laid N w)(hN:Low N fb rb o):AEg (some (⟨fb,0,none⟩:Addr)) w
  (fun b w1=>∃last o1 Eb q,XH s most out p= .ok (last,Eb,q)/\b=(last==1)/\FS w1 fb rb o1 s Eb q most/\Mv fb rb w w1 o o1) (yb fb rb w o (XH s most out p)):=by
 refine ASd _ _ _ _ ?_;unfold AKu;generalize hR:XH s most out p=R0;unfold XH at hR;refine (Eo (n:=1) (by omega) h hs).mono ?_ ?_;rotate_left
 ·rintro v w1 ⟨hn,rfl,e1⟩;rw[hn]at hR;exact ⟨4,hR.symm,rfl,(Mv.rd e1).ext⟩
 rintro last w1 ⟨p1,YP,H1,e1⟩;rw[YP]at hR;dsimp only at hR;refine (Eo (n:=2) (by omega) H1 hs).mono ?_ ?_;rotate_left
 ·rintro v w2 ⟨hn,rfl,e2⟩;rw[hn]at hR;exact ⟨4,hR.symm,rfl,(Mv.rd (e1.tr e2)).ext⟩
 rintro kind w2 ⟨p2,Tk,H2,e2⟩;rw[Tk]at hR;dsimp only at hR;obtain ⟨a0,a1,a2,a3⟩:=BU Tk;have h4:(2:Int)^2=4:=by decide
 have E2:=e1.tr e2;have m2:Mv fb rb w w2 o o:= .rd E2;have hL2:=hL.mv hN m2.ext;have ok:∀{r:Except Int (List UInt8×Nat)} {w3:World},block s most kind out p2=r->OkR fb rb w2 o s most r w3->∃l o1 Eb q,R0= .ok (l,Eb,q)/\(last==1)=(l==1)/\FS w3 fb rb o1 s Eb q most/\Mv fb rb w w3 o o1:=fun hb ⟨o1,Eb,q,g1,g2,g3⟩=>by
  rw[hb,g1]at hR;exact ⟨last,o1,Eb,q,hR.symm,rfl,g2,m2.tr g3⟩
 have er:∀{r:Except Int (List UInt8×Nat)} {v:Value} {w3:World},block s most kind out p2=r->yb fb rb w2 o r v w3->yb fb rb w o R0 v w3:=fun hb ⟨e,g1,g2,g3⟩=>by
  rw[hb,g1]at hR;exact ⟨e,hR.symm,g2,m2.er g3⟩
 refine Br.eq (fun q0=>?_) fun q0=>Br.eq (fun q1=>?_) fun q1=>Br.eq (fun q2=>?_) fun q2=>?_
 ·have hb:block s most kind out p2=stored s p2 out most:=by unfold block;rw[ah (by omega),ak q0]
  exact (rR H2 hs).mono (fun w3 g=>ok hb g) fun v w3 g=>er hb g
 ·have hb:block s most kind out p2=Ad s Js MW most (8*s.size+1) out p2:=by unfold block;rw[ah (by omega),ah q0,ah (by omega)]
  exact (ye H2 hs).mono (fun w3 g=>ok hb g) fun v w3 g=>er hb g
 ·have hb:block s most kind out p2=ra s most out p2:=by unfold block;rw[ah (by omega),ah q0,ak q2];rfl
  exact (kJ H2 hs hL2 hN).mono (fun w3 g=>ok hb g) fun v w3 g=>er hb g
 ·have hb:block s most kind out p2= .error 3:=by unfold block;rw[ak (by omega)]
  refine (BK false 3 w2).mono (fun w3 g=>absurd g.1 (by decide)) ?_;rintro v w3 ⟨rfl,_,rfl⟩;exact er hb ⟨3,rfl,rfl,Ext.refl _ _⟩
theorem ALy {w0 w:World}{b1 b2 b3:Nat}{t1 t2 t3:TypeId}{v1 v2 v3:Value}(H:Hn w0 w [(b1,[v1],t1),(b2,[v2],t2),(b3,[v3],t3)])(e:Int):
  LG (⟨b1,0,none⟩:Addr) (⟨b2,0,none⟩:Addr) (⟨b3,0,none⟩:Addr) (some (yZ e)) w fun w1=>Hn w0 w1 [(b1,[.string ⟨#[]⟩],t1),(b2,[.int .i64 0],t2),(b3,[.int .i64 e],t3)]:=by
 refine jz _ _ _ _ _ _ ?_;unfold Mq;refine H.nw fun w2 H=>?_
 simp only[ar,ag]at H
 iterate 1 (refine H.st 3 rfl (by simp) fun _ H=>?_;simp only[ag,ar,ai,aq,aj]at H)
 have A2:∀b v t i,i<3->([(b1,[v1],t1),(b2,[v2],t2),(b3,[v3],t3),(w.heap.size,[.int .i64 e],175)]:List (Nat×List Value×TypeId))[i]?=some (b,v,t)->b≠w.heap.size:=fun b v t i hi hg e=>by
  have hn:=H.h.nodup;have:=Sc hn (i:=i) (j:=3) (x:=w.heap.size) (by
   rw[Ja,aE,hg,cI,e]) rfl
  omega
 have n1:=A2 b1 _ _ 0 (by omega) rfl;have n2:=A2 b2 _ _ 1 (by omega) rfl;refine ⟨fun w'=>AO w' w.heap.size #[.int .i64 e] 175,(H.get 3 rfl).drew,AP.of (fun w' h=>h) (o:=0) (x:=e) rfl ?_⟩;have H:=H.drew;refine H.EV 0 rfl (by simp) fun w5 H Vf=>?_
 simp only[ai,aq]at H;refine ⟨H.get 3 rfl,?_⟩;refine H.EV 1 rfl (by simp) fun w6 H SI=>?_
 simp only[ai,aq]at H;refine ⟨H.get 3 rfl,?_⟩
 iterate 1 (refine H.st 2 rfl (by simp) fun _ H=>?_;simp only[ag,ar,ai,aq,aj]at H)
 exact H.left (L:=[_,_,_]) (M:=[_])
theorem ALz (hs:s.size<=1000000)(hL:Laid N w)(m:Int):AEh s m w fun d n e w1=>(d,n,e)=Dw s m/\Ext (fun _=>False) w w1:=by
 refine ASf _ _ _ _ ?_;unfold AEi;have hLL:=hL;obtain ⟨hN2,hNw,_⟩:=hL;refine (Hn.start w).nw fun w2 H=>H.nw fun w3 H=>H.nw fun w4 H=>?_
 simp only[ar,ag]at H;have bad:∀{w5:World} {v1 v2 v3:Value} {e:Int},Hn w w5 [(w.heap.size,[v1],9),(w2.heap.size,[v2],3),(w3.heap.size,[v3],28)]->(⟨#[]⟩,0,e)=Dw s m->gO w w2 w3 (fun d n e w1=>(d,n,e)=Dw s m/\Ext (fun _=>False) w w1) (yZ e) w5:=fun {w5 v1 v2 v3 e} H hn=>by
  unfold gO;refine (ALy H e).mono fun w6 H=>?_
  refine H.ld 0 rfl rfl (H.ld 1 rfl rfl (H.ld 2 rfl rfl ⟨hn,H.ext⟩))
 refine (BK _ 1 _).mono ?_ ?_;rotate_left
 ·rintro v w4 ⟨rfl,h1,rfl⟩;have h1:=cA h1;refine bad H ?_;unfold Dw;rw[ak (by omega)]
 rintro w4 ⟨h1,rfl⟩;have h1:=bf h1;have z1:=H.size;have z4:w.heap.size<w4.heap.size/\w2.heap.size<w4.heap.size/\w3.heap.size<w4.heap.size:=⟨H.lt 0 rfl,H.lt 1 rfl,H.lt 2 rfl⟩
 refine (ACh w4 s).mono ?_;rintro r w5 ⟨rfl,hr5,e5⟩;have H:=H.AB e5;have zz:w.heap.size<w5.heap.size/\w2.heap.size<w5.heap.size/\w3.heap.size<w5.heap.size:=⟨H.lt 0 rfl,H.lt 1 rfl,H.lt 2 rfl⟩
 have zrb:=AO.lt hr5;have ge1:=H.ge 1 rfl;have ge2:=H.ge 2 rfl;have hw5:=H.size;refine H.Ro fun w6 H6 e6=>?_
 simp only[ar,ag]at H6;have z6:=H6.lt 3 rfl;have rh:(if 1048576<m then (1048576:Int)else m)=(((min m 1048576).toNat:Nat):Int):=by
  split<;>omega
 have hmb:(min m 1048576).toNat<=1048576:=by omega
 have BF:Dw s m=match Qa s (min m 1048576).toNat (8*s.size+1) [] 0 with
   | .error e=>(⟨#[]⟩,0,e)
   | .ok (o,n)=>(⟨o.toArray⟩,(n:Int),0):=by
  unfold Dw;rw[ah (by omega)];cases Qa s (min m 1048576).toNat (8*s.size+1) [] 0<;>rfl
 generalize (min m 1048576).toNat=mm at*;have yh:∀j,¬(⟨none,0,0⟩:AA).own j:=fun j hj=>by obtain ⟨a,ha,_⟩:=hj;cases ha
 have F6:FS w6 w5.heap.size w4.heap.size ⟨none,0,0⟩ s [] 0 mm:=by
  refine ⟨?_,⟨bz _,0,.inl rfl,e6.AS hr5 fun h=>h⟩,BQ.nil _,by omega,yh _,yh _,bz _,hmb⟩;have:=H6.get 3 rfl;rw[rh]at this;exact this
 have HH:=H6.left (L:=[_,_,_]) (M:=[_]);have hL6:Laid N w6:=by
  refine Laid.AB (w:=w) (F:=fun _=>False) ?_ H6.ext fun j h=>h.elim
  exact hLL
 have hN6:Low N w5.heap.size w4.heap.size ⟨none,0,0⟩:=⟨by omega,by omega,fun j hj=>absurd hj (yh j)⟩
 generalize hRR:Qa s mm (8*s.size+1) [] 0=R0 at BF;refine ⟨fun n st w7=>∃Eb o1 q,FS w7 w5.heap.size w4.heap.size o1 s Eb q mm/\Mv w5.heap.size w4.heap.size w6 w7 ⟨none,0,0⟩ o1/\8*s.size<q+n/\Qa s mm n Eb q=R0,8*s.size+1,⟨[],⟨none,0,0⟩,0,F6,.refl,by omega,hRR⟩,?_⟩;rintro n st w7 ⟨Eb,o1,q,F7,m7,hfu,AW⟩;unfold qS;have hq7:=F7.rd.1;obtain ⟨n,rfl⟩:∃n',n=n'+1:=⟨n-1,by omega⟩
 rw[rf]at AW;have hXF:∀{w8:World} {o8:AA},Mv w5.heap.size w4.heap.size w6 w8 ⟨none,0,0⟩ o8->Hn w w8 [(w.heap.size,[.string ⟨#[]⟩],9),(w2.heap.size,[.int .i64 0],3),(w3.heap.size,[.int .i64 0],28)]:=fun {w8 o8} mv=>HH.other mv.ext fun j hj=>by
  rcases hj with e|e|e
  ·refine ⟨by omega,?_⟩;simp only[bw,cK,aN,bQ,dZ];omega
  ·refine ⟨by omega,?_⟩;simp only[bw,cK,aN,bQ,dZ];omega
  ·exact absurd e (yh j)
 have AgR:=H6.size;refine (yg F7 hs (hL6.mv hN6 m7.ext) (hN6.mv m7 (by omega))).mono ?_ ?_;rotate_left
 ·rintro v w8 ⟨e,hb,rfl,hx⟩;rw[hb]at AW;refine bad (hXF (m7.tr (.of hx))) ?_;rw[BF,<-AW]
 rintro b w8 ⟨last,o2,AL0,q2,hb,rfl,F8,m8⟩;rw[hb]at AW;dsimp only at AW;obtain ⟨c1,c2,c3⟩:=yf F7.len hb;have M8:=m7.tr m8;by_cases ri:last=1
 ·subst ri;rw[ak rfl]at AW;refine Br.f rfl ?_;have H:=(hXF M8).drew;have F8:=F8.AB (Ext.refl _ _).drew;obtain ⟨hp8,AgS,hw8,AL1⟩:=F8.rd;have wD:(⟨AL0.toArray⟩,(((q2+7)/8:Nat):Int),0)=Dw s m:=by rw[BF,<-AW]
  have IT:=HP F8.row;refine ⟨fun w'=>AO w' w5.heap.size (Uf w4.heap.size o2 mm) 180,F8.AS,Nn.of ?_⟩;simp only[add_lit,aj];refine AP.of (fun w' h=>h) (o:=1) (x:=o2) rfl (Nn.of (AP.of (fun w' h=>h) (o:=0) (x:=SH w4.heap.size) rfl ⟨⟨_,_,IT,F8.AS,?_⟩,?_⟩))
  ·refine (jU AL1 hp8 hs).mono ?_;rintro x w9 ⟨rfl,rfl⟩;refine ⟨F8.AS,?_⟩
   iterate 1 (refine H.st 0 rfl (by simp) fun _ H=>?_;simp only[ag,ar,ai,aq,aj]at H)
   iterate 1 (refine H.st 1 rfl (by simp) fun _ H=>?_;simp only[ag,ar,ai,aq,aj]at H)
   iterate 1 (refine H.st 2 rfl (by simp) fun _ H=>?_;simp only[ag,ar,ai,aq,aj]at H)
   refine Wa _ _ _ _ _ ?_;unfold LJ
   iterate 1 refine H.ld 0 rfl rfl ?_
   iterate 1 refine H.ld 1 rfl rfl ?_
   iterate 1 refine H.ld 2 rfl rfl ?_
   exact ⟨wD,H.ext⟩
  ·refine (jU AL1 hp8 hs).mono ?_;rintro x w9 ⟨rfl,rfl⟩;refine ⟨F8.AS,_,_,IT,F8.AS,?_⟩
   iterate 1 (refine H.st 0 rfl (by simp) fun _ H=>?_;simp only[ag,ar,ai,aq,aj]at H)
   iterate 1 (refine H.st 1 rfl (by simp) fun _ H=>?_;simp only[ag,ar,ai,aq,aj]at H)
   iterate 1 (refine H.st 2 rfl (by simp) fun _ H=>?_;simp only[ag,ar,ai,aq,aj]at H)
   refine Wa _ _ _ _ _ ?_;unfold LJ
   iterate 1 refine H.ld 0 rfl rfl ?_
   iterate 1 refine H.ld 1 rfl rfl ?_
   iterate 1 refine H.ld 2 rfl rfl ?_
   exact ⟨wD,H.ext⟩
 ·rw[ah ri]at AW;refine Br.t (by simp[ri]) ?_;exact ⟨n,by omega,AL0,o2,q2,F8,M8,by omega,AW⟩
end
end A8
namespace A8
open Sh DS
attribute [local irreducible] Ld St Nw Nn Lt AP
section
variable {w:World} {o:AA} {s:ByteArray} {out:List UInt8} {p most:Nat}
end
end A8
namespace A8
open Sh DS
attribute [local irreducible] Ld St Nw Nn Lt AP
section
variable {w:World} {o:AA} {s:ByteArray} {out:List UInt8} {p most:Nat}
end
end A8
namespace A8
open Sh DS
attribute [local irreducible] Ld St Nw Nn Lt AP
section
variable {w:World} {o:AA} {s:ByteArray} {out:List UInt8} {p most:Nat}
end
end A8
end Go.Proofs.YtdmmgclkphaaaaaGreatDoor

namespace Go.Proofs.YtdmmgclkphaaaaaGreatDoor
set_option maxRecDepth 100000
set_option maxHeartbeats 2000000
namespace A8
open Sh DS
attribute [local irreducible] Ld St Nw Nn Lt AP
section
variable {w:World} {N:Nat}
theorem Laid.no{N:Nat}{w w':World}(h:Laid N w)(he:Ext (fun _=>False) w w'):Laid N w':=h.AB he fun _ e=>e.elim
end
end A8
set_option maxRecDepth 4000
set_option maxHeartbeats 1000000
namespace A8
open Sh DS
def IK (r t:ByteArray):Prop:=∃m:List UInt8,t.data.toList=r.data.toList++m
theorem IK.refl(t:ByteArray):IK t t:=⟨[],by simp⟩
theorem IK.size{r t:ByteArray}(h:IK r t):r.size<=t.size:=by
 obtain ⟨m,h⟩:=h;rw[Ah,Ah,h,ae];omega
theorem rn (s:ByteArray)(j:Nat):OI s j=((s.data.toList.getD j 0).toNat:Int):=by rw[<-fQ,DX]
theorem IK.OI{r t:ByteArray}(h:IK r t){j:Nat}(hj:j<r.size):OI r j=OI t j:=by
 obtain ⟨m,h⟩:=h;rw[Ah]at hj;rw[rn,rn,h,af,af,aG hj]
theorem IK.bt{r t:ByteArray}(h:IK r t){p:Nat}(hp:p<8*r.size):bt r 1 p=bt t 1 p:=by
 unfold DS.bt;rw[h.OI (by omega)]
theorem IK.tk{r t:ByteArray}(h:IK r t)(p:Nat):∀n,p+n<=8*r.size->tk r 1 p n=tk t 1 p n
 |0,_=>rfl
 |n+1,hn=>by
  have ih:=h.tk p n (by omega);have hb:=h.bt (p:=p+n) (by omega);show (if (1:Int)=1 then DS.tk r 1 p n+DS.bt r 1 (p+n)*2^n else _)=(if (1:Int)=1 then DS.tk t 1 p n+DS.bt t 1 (p+n)*2^n else _);rw[ak rfl,ak rfl,ih,hb]
theorem IK.extract{r t:ByteArray}(h:IK r t){a b:Nat}(hb:b<=r.size):(r.extract a b).data.toList=(t.extract a b).data.toList:=by
 obtain ⟨m,h⟩:=h;rw[Ah]at hb;rw[Ao,Ao,h];by_cases ha:a<=r.data.toList.length
 ·rw[List.drop_append_of_le_length ha,List.take_append_of_le_length (by rw[aJ];omega)]
 ·rw[show b-a=0 by omega,List.take_zero,List.take_zero]
structure Rel {α:Type} (B p:Nat) (R T:Except Int (α×Nat)):Prop where
 t:∀x q,T= .ok (x,q)->p<=q/\((q<=B/\R= .ok (x,q))\/(B<q/\R= .error 4))
 r:∀x q,R= .ok (x,q)->T= .ok (x,q)/\q<=B
def Good {α:Type}(t:ByteArray)(p:Nat)(A:ByteArray->Except Int (α×Nat)):Prop:=∀r,IK r t->p<=8*r.size->Rel (8*r.size) p (A r) (A t)
def Ca {α β:Type}(a:Except Int (α×Nat))(f:α->Nat->Except Int (β×Nat)):Except Int (β×Nat):=match a with
 | .error e=> .error e
 | .ok (x,q)=>f x q
theorem Good.Ca{α β:Type}{t:ByteArray}{p:Nat}{A:ByteArray->Except Int (α×Nat)}{f:ByteArray->α->Nat->Except Int (β×Nat)}(h:Good t p A)(k:∀x q,(∃r,A r= .ok (x,q))->p<=q->Good t q (fun r=>f r x q)):Good t p (fun r=>A8.Ca (A r) (f r)):=by
 intro r hr hp;show Rel (8*r.size) p (A8.Ca (A r) (f r)) (A8.Ca (A t) (f t));have hA:=h r hr hp;have hz:=hr.size;constructor
 ·intro y q' hy;cases hT:A t with
  |error e=>rw[hT]at hy;cases hy
  |ok z=>
   obtain ⟨x,q⟩:=z;rw[hT]at hy;have hy:f t x q= .ok (y,q'):=hy;obtain ⟨h1,h2⟩:=hA.t x q hT;have hqt:q<=8*t.size:=by
    rcases ((h t (IK.refl t) (by omega)).t x q hT).2 with e|e
    ·exact e.1
    ·rw[e.2]at hT;cases hT
   have AAB:=((k x q ⟨t,hT⟩ h1) t (IK.refl t) hqt).t y q' hy;rcases h2 with ⟨e1,e2⟩|⟨e1,e2⟩
   ·obtain ⟨g1,g2⟩:=((k x q ⟨t,hT⟩ h1) r hr e1).t y q' hy;refine ⟨by omega,?_⟩;show (_/\A8.Ca (A r) (f r)=_)\/(_/\A8.Ca (A r) (f r)=_);rw[e2];exact g2
   ·refine ⟨by omega,.inr ⟨by omega,?_⟩⟩;show A8.Ca (A r) (f r)=_;rw[e2]
    rfl
 ·intro y q' hy;cases hR:A r with
  |error e=>rw[hR]at hy;cases hy
  |ok z=>
   obtain ⟨x,q⟩:=z;rw[hR]at hy;have hy:f r x q= .ok (y,q'):=hy;obtain ⟨h1,h2⟩:=hA.r x q hR;obtain ⟨h3,_⟩:=hA.t x q h1;have:=((k x q ⟨r,hR⟩ h3) r hr h2).r y q' hy;refine ⟨?_,this.2⟩;show A8.Ca (A t) (f t)=_;rw[h1];exact this.1
theorem Good.ok{α:Type}(t:ByteArray)(p:Nat)(x:α):Good t p (fun _=> .ok (x,p)):=fun r hr hp=>⟨fun y q h=>by cases h;exact ⟨av _,.inl ⟨hp,rfl⟩⟩,fun y q h=>by cases h;exact ⟨rfl,hp⟩⟩
theorem Good.er{α:Type}(t:ByteArray)(p:Nat)(e:Int):Good (α:=α) t p (fun _=> .error e):=fun r hr hp=>⟨fun y q h=>(by cases h),fun y q h=>(by cases h)⟩
theorem Good.ite{α:Type}{t:ByteArray}{p:Nat}{c:Prop}[Decidable c]{A B:ByteArray->Except Int (α×Nat)}(h1:c->Good t p A)(h2:¬c->Good t p B):Good t p (fun r=>if c then A r else B r):=by
 by_cases h:c
 ·simpa only[ak h]using h1 h
 ·simpa only[ah h]using h2 h
theorem Good.eq{α:Type}{t:ByteArray}{p:Nat}{A B:ByteArray->Except Int (α×Nat)}(h:Good t p A)(e:∀r,p<=8*r.size->B r=A r):Good t p B:=fun r hr hp=>by
 have:=h r hr hp;rw[<-e r hp,<-e t (by have:=hr.size;omega)]at this;exact this
theorem IA (t:ByteArray)(p n:Nat):Good t p (fun r=>num r p n):=fun r hr hp=>by
 show Rel (8*r.size) p (num r p n) (num t p n);have hz:=hr.size;constructor
 ·intro v q h;obtain ⟨rfl,rfl,h3⟩:=I1 h;refine ⟨by omega,?_⟩;unfold num;by_cases hb:p+n<=8*r.size
  ·exact .inl ⟨hb,by rw[ak hb,hr.tk p n hb]⟩
  ·exact .inr ⟨by omega,by rw[ah hb]⟩
 ·intro v q h;obtain ⟨rfl,rfl,h3⟩:=I1 h;refine ⟨?_,h3⟩;unfold num;rw[ak (by omega),hr.tk p n h3]
theorem ABO (t:ByteArray)(lens:List Int):∀(k n:Nat) (c f:Int) (p:Nat),Good t p (fun r=>VH lens r k n c f p)
 |0,n,c,f,p=>Good.er t p 13
 |k+1,n,c,f,p=>by
  have h:Good t p (fun r=>Ca (num r p 1) fun v q=>if 2*c+v-2*f<(Ft lens n:Int)then .ok ((idxs lens n).getD (2*c+v-2*f).toNat 0,q)else VH lens r k (n+1) (2*c+v) (2*f+(Ft lens n:Int)) q):=
   (IA t p 1).Ca fun v q _ _=>Good.ite (fun _=>Good.ok t q _) fun _=>ABO t lens k (n+1) _ _ q
  refine h.eq fun r hp=>?_
  conv=>lhs;unfold VH
  by_cases hb:8*r.size<=p
  ·rw[ak hb];have e:num r p 1= .error 4:=by unfold num;rw[ah (by omega)]
   rw[e]
   rfl
  ·rw[ah hb];have DD:tk r 1 p 1=bt r 1 p:=by
    show (if (1:Int)=1 then tk r 1 p 0+bt r 1 (p+0)*2^0 else _)=_;rw[ak rfl,bY];show (0:Int)+bt r 1 p*1=_;omega
   have e:num r p 1= .ok (bt r 1 p,p+1):=by unfold num;rw[ak (by omega),DD]
   rw[e]
   rfl
theorem rp (t:ByteArray)(lens:List Int)(p:Nat):Good t p (fun r=>sym lens r p):=ABO t lens _ _ _ _ p
theorem XI (t:ByteArray):∀(os:List Nat) (l:List Int) (p:Nat),Good t p (fun r=>CR r os l p)
 |[],l,p=>Good.ok t p l
 |o::os,l,p=>by
  have h:Good t p (fun r=>Ca (num r p 3) fun v q=>CR r os (l.set o v) q):=(IA t p 3).Ca fun v q _ _=>XI t os _ q
  refine h.eq fun r _=>?_
  conv=>lhs;unfold CR
  cases num r p 3<;>rfl
theorem Uj (t:ByteArray)(lens:List Int)(many:Nat):∀(k:Nat) (l:List Int) (p:Nat),Good t p (fun r=>CC lens r many k l p)
 |0,l,p=>Good.er t p 0
 |k+1,l,p=>by
  have h:Good t p (fun r=>if many<=l.length then .ok (l,p)else Ca (sym lens r p) fun sg p1=>if sg<16 then CC lens r many k (l++[(sg:Int)]) p1 else if sg=16/\l.length=0 then .error 3 else
    Ca (num r p1 (Hd sg)) fun v p2=>if many<l.length+(ED sg+v.toNat)then .error 3 else CC lens r many k (l++List.replicate (ED sg+v.toNat) (if sg=16 then l.getD (l.length-1) 0 else 0)) p2):=
   Good.ite (fun _=>Good.ok t p _) fun _=>(rp t lens p).Ca fun sg p1 _ _=>Good.ite (fun _=>Uj t lens many k _ _) fun _=>Good.ite (fun _=>Good.er t _ _) fun _=>
    (IA t p1 _).Ca fun v p2 _ _=>Good.ite (fun _=>Good.er t _ _) fun _=>Uj t lens many k _ _
  refine h.eq fun r _=>?_
  conv=>lhs;unfold CC
  split
  ·rfl
  ·cases sym lens r p with
   |error e=>rfl
   |ok z=>
    obtain ⟨sg,p1⟩:=z;dsimp only[Ca];split
    ·rfl
    ·split
     ·rfl
     ·cases num r p1 (Hd sg)<;>rfl
theorem rq (t:ByteArray)(p:Nat)(out:List UInt8)(most:Nat):Good t p (fun r=>stored r p out most):=by
 have h:Good t ((p+7)/8*8) (fun r=>Ca (num r ((p+7)/8*8) 16) fun n p1=>Ca (num r p1 16) fun m p2=>if m≠65535-n then .error 3 else if ¬out.length+n.toNat<=most then .error 5 else if ¬p2/8+n.toNat<=r.size then .error 4 else .ok (out++(r.extract (p2/8) (p2/8+n.toNat)).data.toList,p2+8*n.toNat)):=by
  refine (IA t _ 16).Ca fun n p1 h1 _=>(IA t p1 16).Ca fun m p2 h2 _=>Good.ite (fun _=>Good.er t _ _) fun _=>Good.ite (fun _=>Good.er t _ _) fun _=>?_
  obtain ⟨r1,h1⟩:=h1;obtain ⟨r2,h2⟩:=h2;obtain ⟨_,rfl,_⟩:=I1 h1;obtain ⟨_,rfl,_⟩:=I1 h2;intro r hr hp;have hz:=hr.size;constructor
  ·intro x q hx;dsimp only at hx⊢;split at hx
   ·cases hx
   ·rename_i A1;cases hx;refine ⟨by omega,?_⟩;by_cases hb:((p+7)/8*8+16+16)/8+n.toNat<=r.size
    ·exact .inl ⟨by omega,by rw[ah (fun hh=>hh hb),hr.extract hb]⟩
    ·exact .inr ⟨by omega,by rw[ak hb]⟩
  ·intro x q hx;dsimp only at hx⊢;split at hx
   ·cases hx
   ·rename_i A1;cases hx;have hb:((p+7)/8*8+16+16)/8+n.toNat<=r.size:=Classical.not_not.1 A1;exact ⟨by rw[ah (by omega),hr.extract hb],by omega⟩
 have h':Good t ((p+7)/8*8) (fun r=>stored r p out most):=h.eq fun r _=>by
  conv=>lhs;unfold stored
  cases num r ((p+7)/8*8) 16 with
  |error e=>rfl
  |ok z=>
   obtain ⟨n,p1⟩:=z;dsimp only[Ca];cases num r p1 16<;>rfl
 intro r hr hp;have:=h' r hr (by omega);exact ⟨fun x q hx=>⟨by have:=(this.t x q hx).1;omega,(this.t x q hx).2⟩,this.r⟩
def yi (s:ByteArray)(p:Nat):Except Int ((List Int×List Int)×Nat):=match dyn s p with
 | .error e=> .error e
 | .ok (a,b,q)=> .ok ((a,b),q)
theorem AL2 (t:ByteArray)(p:Nat):Good t p (fun r=>yi r p):=by
 have h:Good t p (fun r=>Ca (num r p 5) fun hl p1=>if 29<hl then .error 3 else Ca (num r p1 5) fun hd p2=>if 29<hd then .error 3 else Ca (num r p2 4) fun hc p3=>Ca (CR r (order.take (hc.toNat+4)) (List.replicate 19 0) p3) fun gn p4=>
   if DE gn≠0 then .error (DE gn)else Ca (CC gn r (hl.toNat+257+(hd.toNat+1)) (hl.toNat+257+(hd.toNat+1)+1) [] p4) fun l p5=>if l.getD 256 0=0 then .error 13 else if DE (l.take (hl.toNat+257))≠0 then .error (DE (l.take (hl.toNat+257)))
    else if DE (l.drop (hl.toNat+257))≠0 then .error (DE (l.drop (hl.toNat+257)))else .ok ((l.take (hl.toNat+257),l.drop (hl.toNat+257)),p5)):=
  (IA t p 5).Ca fun hl p1 _ _=>Good.ite (fun _=>Good.er t _ _) fun _=>(IA t p1 5).Ca fun hd p2 _ _=>Good.ite (fun _=>Good.er t _ _) fun _=>(IA t p2 4).Ca fun hc p3 _ _=>(XI t _ _ p3).Ca fun gn p4 _ _=>
   Good.ite (fun _=>Good.er t _ _) fun _=>(Uj t _ _ _ _ p4).Ca fun l p5 _ _=>Good.ite (fun _=>Good.er t _ _) fun _=>Good.ite (fun _=>Good.er t _ _) fun _=>Good.ite (fun _=>Good.er t _ _) fun _=>Good.ok t _ _
 refine h.eq fun r _=>?_
 unfold yi dyn;cases num r p 5 with
 |error e=>rfl
 |ok z=>
  obtain ⟨hl,p1⟩:=z;dsimp only[Ca];by_cases c1:29<hl
  ·rw[ak c1,ak c1]
  ·rw[ah c1,ah c1];cases num r p1 5 with
   |error e=>rfl
   |ok z=>
    obtain ⟨hd,p2⟩:=z;dsimp only;by_cases c2:29<hd
    ·rw[ak c2,ak c2]
    ·rw[ah c2,ah c2];cases num r p2 4 with
     |error e=>rfl
     |ok z=>
      obtain ⟨hc,p3⟩:=z;dsimp only;cases CR r (order.take (hc.toNat+4)) (List.replicate 19 0) p3 with
      |error e=>rfl
      |ok z=>
       obtain ⟨gn,p4⟩:=z;dsimp only;by_cases c3:DE gn≠0
       ·rw[ak c3,ak c3]
       ·rw[ah c3,ah c3];cases CC gn r (hl.toNat+257+(hd.toNat+1)) (hl.toNat+257+(hd.toNat+1)+1) [] p4 with
        |error e=>rfl
        |ok z=>
         obtain ⟨l,p5⟩:=z;dsimp only;by_cases c4:l.getD 256 0=0
         ·rw[ak c4,ak c4]
         ·rw[ah c4,ah c4];by_cases c5:DE (l.take (hl.toNat+257))≠0
          ·rw[ak c5,ak c5]
          ·rw[ah c5,ah c5];by_cases c6:DE (l.drop (hl.toNat+257))≠0
           ·rw[ak c6,ak c6]
           ·rw[ah c6,ah c6]
theorem ru (t:ByteArray)(far:List Int)(most sg:Nat)(out:List UInt8)(p:Nat):Good t p (fun r=>copied r far most sg out p):=by
 have h:Good t p (fun r=>if 285<sg then .error 13 else Ca (num r p (BB (sg-257))) fun v p1=>Ca (sym far r p1) fun d p2=>if 29<d then .error 13 else Ca (num r p2 (B3 d)) fun x p3=>if out.length<AZ d+x.toNat then .error 14 else if most<out.length+(Ab (sg-257)+v.toNat)then .error 5
   else .ok (copy out (AZ d+x.toNat) (Ab (sg-257)+v.toNat),p3)):=
  Good.ite (fun _=>Good.er t _ _) fun _=>(IA t p _).Ca fun v p1 _ _=>(rp t far p1).Ca fun d p2 _ _=>Good.ite (fun _=>Good.er t _ _) fun _=>(IA t p2 _).Ca fun x p3 _ _=>Good.ite (fun _=>Good.er t _ _) fun _=>Good.ite (fun _=>Good.er t _ _) fun _=>Good.ok t _ _
 refine h.eq fun r _=>?_
 unfold copied;by_cases c1:285<sg
 ·rw[ak c1,ak c1]
 ·rw[ah c1,ah c1];cases num r p (BB (sg-257))with
  |error e=>rfl
  |ok z=>
   obtain ⟨v,p1⟩:=z;dsimp only[Ca];cases sym far r p1 with
   |error e=>rfl
   |ok z=>
    obtain ⟨d,p2⟩:=z;dsimp only;by_cases c2:29<d
    ·rw[ak c2,ak c2]
    ·rw[ah c2,ah c2];cases num r p2 (B3 d)<;>rfl
theorem PB (t:ByteArray)(near far:List Int)(most:Nat):∀(n:Nat) (K:ByteArray->Nat) (out:List UInt8) (p:Nat),8*t.size<p+n->(∀r,8*r.size<p+K r)->Good t p (fun r=>Ad r near far most (K r) out p)
 |0,K,out,p,h,_=>fun r hr hp=>by have:=hr.size;omega
 |n+1,K,out,p,h,hK=>by
  have g:Good t p (fun r=>Ca (sym near r p) fun sg p1=>if sg=256 then .ok (out,p1)else if 256<sg then Ca (copied r far most sg out p1) fun o q=>Ad r near far most (K r-1) o q else if most<=out.length then .error 5 else Ad r near far most (K r-1) (out++[UInt8.ofNat sg]) p1):=by
   refine (rp t near p).Ca fun sg p1 hx _=>Good.ite (fun _=>Good.ok t _ _) fun _=>Good.ite (fun _=>?_) fun _=>Good.ite (fun _=>Good.er t _ _) fun _=>?_
   ·obtain ⟨r0,hx⟩:=hx;have h1:=(Hk hx).1;refine (ru t far most sg out p1).Ca fun o q hq _=>?_
    obtain ⟨r1,hq⟩:=hq;have h2:=(Jc hq).1;exact PB t near far most n (fun r=>K r-1) o q (by omega) fun r=>by have:=hK r;omega
   ·obtain ⟨r0,hx⟩:=hx;have h1:=(Hk hx).1;exact PB t near far most n (fun r=>K r-1) _ p1 (by omega) fun r=>by have:=hK r;omega
  refine g.eq fun r hp=>?_
  obtain ⟨m,hm⟩:∃m,K r=m+1:=⟨K r-1,by have:=hK r;omega⟩
  rw[hm,cz]
  conv=>lhs;unfold Ad
  cases sym near r p with
  |error e=>rfl
  |ok z=>
   obtain ⟨sg,p1⟩:=z;dsimp only[Ca];by_cases c1:sg=256
   ·rw[ak c1,ak c1]
   ·rw[ah c1,ah c1];by_cases c2:256<sg
    ·rw[ak c2,ak c2];cases copied r far most sg out p1<;>rfl
    ·rw[ah c2,ah c2]
theorem yj (t:ByteArray)(most:Nat)(kind:Int)(out:List UInt8)(p:Nat):Good t p (fun r=>block r most kind out p):=by
 have g:Good t p (fun r=>if kind=3 then .error 3 else if kind=0 then stored r p out most else if kind=2 then Ca (yi r p) fun ab q=>Ad r ab.1 ab.2 most (8*r.size+1) out q else Ad r Js MW most (8*r.size+1) out p):=
  Good.ite (fun _=>Good.er t _ _) fun _=>Good.ite (fun _=>rq t p out most) fun _=>Good.ite (fun _=>(AL2 t p).Ca fun ab q _ _=>PB t _ _ most (8*t.size+1) (fun r=>8*r.size+1) out q (by omega) fun r=>by omega) fun _=>PB t _ _ most (8*t.size+1) (fun r=>8*r.size+1) out p (by omega) fun r=>by omega
 refine g.eq fun r _=>?_
 unfold block yi;by_cases c1:kind=3
 ·rw[ak c1,ak c1]
 ·rw[ah c1,ah c1];by_cases c2:kind=0
  ·rw[ak c2,ak c2]
  ·rw[ah c2,ah c2];by_cases c3:kind=2
   ·rw[ak c3,ak c3];cases dyn r p<;>rfl
   ·rw[ah c3,ah c3]
def FZ (s:ByteArray)(most:Nat):Nat->List UInt8->Nat->Except Int (List UInt8×Nat)
 |0,_,_=> .error 0
 |k+1,out,p=>Ca (num s p 1) fun last p1=>Ca (num s p1 2) fun kind p2=>Ca (block s most kind out p2) fun o q=>if last=1 then .ok (o,q)else FZ s most k o q
theorem rv (s:ByteArray)(most:Nat):∀(k:Nat) (out:List UInt8) (p:Nat),Qa s most k out p=match FZ s most k out p with
  | .error e=> .error e
  | .ok (o,q)=> .ok (o,(q+7)/8)
 |0,_,_=>rfl
 |k+1,out,p=>by
  conv=>lhs;unfold Qa
  conv=>rhs;unfold FZ
  cases num s p 1 with
  |error e=>rfl
  |ok z=>
   obtain ⟨last,p1⟩:=z;dsimp only[Ca];cases num s p1 2 with
   |error e=>rfl
   |ok z=>
    obtain ⟨kind,p2⟩:=z;dsimp only;cases block s most kind out p2 with
    |error e=>rfl
    |ok z=>
     obtain ⟨o,q⟩:=z;dsimp only;by_cases c:last=1
     ·rw[ak c,ak c]
     ·rw[ah c,ah c];exact rv s most k o q
theorem ry (t:ByteArray)(most:Nat):∀(n:Nat) (K:ByteArray->Nat) (out:List UInt8) (p:Nat),8*t.size<p+n->(∀r,8*r.size<p+K r)->Good t p (fun r=>FZ r most (K r) out p)
 |0,K,out,p,h,_=>fun r hr hp=>by have:=hr.size;omega
 |n+1,K,out,p,h,hK=>by
  have g:Good t p (fun r=>Ca (num r p 1) fun last p1=>Ca (num r p1 2) fun kind p2=>Ca (block r most kind out p2) fun o q=>if last=1 then .ok (o,q)else FZ r most (K r-1) o q):=by
   refine (IA t p 1).Ca fun last p1 h1 _=>(IA t p1 2).Ca fun kind p2 h2 _=>(yj t most kind out p2).Ca fun o q _ hq=>Good.ite (fun _=>Good.ok t _ _) fun _=>?_
   obtain ⟨r1,h1⟩:=h1;obtain ⟨r2,h2⟩:=h2;obtain ⟨_,rfl,_⟩:=I1 h1;obtain ⟨_,rfl,_⟩:=I1 h2;exact ry t most n (fun r=>K r-1) o q (by omega) fun r=>by have:=hK r;omega
  refine g.eq fun r hp=>?_
  obtain ⟨m,hm⟩:∃m,K r=m+1:=⟨K r-1,by have:=hK r;omega⟩
  rw[hm,cz]
  rfl
end A8
namespace A8
open Sh DS
section
variable {s:ByteArray} {m m':Nat} (hm:m<=m')
theorem rz {p:Nat}{out:List UInt8}{r:List UInt8×Nat}(hm:m<=m')(h:stored s p out m= .ok r):stored s p out m'= .ok r:=by
 unfold stored at h⊢;cases h1:num s ((p+7)/8*8) 16 with
 |error e=>rw[h1]at h;cases h
 |ok z=>
  obtain ⟨n,p1⟩:=z;rw[h1]at h;dsimp only at h⊢;cases h2:num s p1 16 with
  |error e=>rw[h2]at h;cases h
  |ok z=>
   obtain ⟨k,p2⟩:=z;rw[h2]at h;dsimp only at h⊢;by_cases c1:k≠65535-n
   ·rw[ak c1]at h;cases h
   ·rw[ah c1]at h⊢;by_cases c2:¬out.length+n.toNat<=m
    ·rw[ak c2]at h;cases h
    ·rw[ah c2]at h;rw[ah (by omega)];exact h
theorem sA {far:List Int}{sg p:Nat}{out:List UInt8}{r:List UInt8×Nat}(hm:m<=m')(h:copied s far m sg out p= .ok r):copied s far m' sg out p= .ok r:=by
 unfold copied at h⊢;by_cases c1:285<sg
 ·rw[ak c1]at h;cases h
 ·rw[ah c1]at h⊢;cases h1:num s p (BB (sg-257))with
  |error e=>rw[h1]at h;cases h
  |ok z=>
   obtain ⟨v,p1⟩:=z;rw[h1]at h;dsimp only at h⊢;cases h2:sym far s p1 with
   |error e=>rw[h2]at h;cases h
   |ok z=>
    obtain ⟨d,p2⟩:=z;rw[h2]at h;dsimp only at h⊢;by_cases c2:29<d
    ·rw[ak c2]at h;cases h
    ·rw[ah c2]at h⊢;cases h3:num s p2 (B3 d)with
     |error e=>rw[h3]at h;cases h
     |ok z=>
      obtain ⟨x,p3⟩:=z;rw[h3]at h;dsimp only at h⊢;by_cases c3:out.length<AZ d+x.toNat
      ·rw[ak c3]at h;cases h
      ·rw[ah c3]at h⊢;by_cases c4:m<out.length+(Ab (sg-257)+v.toNat)
       ·rw[ak c4]at h;cases h
       ·rw[ah c4]at h;rw[ah (by omega)];exact h
theorem PC {near far:List Int}{r:List UInt8×Nat}(hm:m<=m'):∀(k:Nat) (out:List UInt8) (p:Nat),Ad s near far m k out p= .ok r->Ad s near far m' k out p= .ok r
 |0,_,_,h=>by cases h
 |k+1,out,p,h=>by
  unfold Ad at h⊢;cases h1:sym near s p with
  |error e=>rw[h1]at h;cases h
  |ok z=>
   obtain ⟨sg,p1⟩:=z;rw[h1]at h;dsimp only at h⊢;by_cases c1:sg=256
   ·rw[ak c1]at h⊢;exact h
   ·rw[ah c1]at h⊢;by_cases c2:256<sg
    ·rw[ak c2]at h⊢;cases h2:copied s far m sg out p1 with
     |error e=>rw[h2]at h;cases h
     |ok z=>
      obtain ⟨o,q⟩:=z;rw[h2]at h;rw[sA hm h2];exact PC hm k _ _ h
    ·rw[ah c2]at h⊢;by_cases c3:m<=out.length
     ·rw[ak c3]at h;cases h
     ·rw[ah c3]at h;rw[ah (by omega)];exact PC hm k _ _ h
theorem yk {kind:Int}{p:Nat}{out:List UInt8}{r:List UInt8×Nat}(hm:m<=m')(h:block s m kind out p= .ok r):block s m' kind out p= .ok r:=by
 unfold block at h⊢;by_cases c1:kind=3
 ·rw[ak c1]at h;cases h
 ·rw[ah c1]at h⊢;by_cases c2:kind=0
  ·rw[ak c2]at h⊢;exact rz hm h
  ·rw[ah c2]at h⊢;by_cases c3:kind=2
   ·rw[ak c3]at h⊢;cases h1:dyn s p with
    |error e=>rw[h1]at h;cases h
    |ok z=>
     obtain ⟨a,b,q⟩:=z;rw[h1]at h;exact PC hm _ _ _ h
   ·rw[ah c3]at h⊢;exact PC hm _ _ _ h
theorem ABP {r:List UInt8×Nat}(hm:m<=m'):∀(k:Nat) (out:List UInt8) (p:Nat),FZ s m k out p= .ok r->FZ s m' k out p= .ok r
 |0,_,_,h=>by cases h
 |k+1,out,p,h=>by
  unfold FZ at h⊢;cases h1:num s p 1 with
  |error e=>rw[h1]at h;cases h
  |ok z=>
   obtain ⟨last,p1⟩:=z;rw[h1]at h;dsimp only[Ca]at h⊢;cases h2:num s p1 2 with
   |error e=>rw[h2]at h;cases h
   |ok z=>
    obtain ⟨kind,p2⟩:=z;rw[h2]at h;dsimp only at h⊢;cases h3:block s m kind out p2 with
    |error e=>rw[h3]at h;cases h
    |ok z=>
     obtain ⟨o,q⟩:=z;rw[h3]at h;rw[yk hm h3];dsimp only at h⊢;by_cases c:last=1
     ·rw[ak c]at h⊢;exact h
     ·rw[ah c]at h⊢;exact ABP hm k _ _ h
theorem Fl {p n:Nat}{e:Int}(h:num s p n= .error e):e=4:=by
 unfold num at h;split at h
 ·cases h
 ·cases h;rfl
theorem sD {lens:List Int}{e:Int}:∀(k n:Nat) (c f:Int) (p:Nat),VH lens s k n c f p= .error e->e=4\/e=13
 |0,n,c,f,p,h=>by cases h;exact .inr rfl
 |k+1,n,c,f,p,h=>by
  unfold VH at h;split at h
  ·cases h;exact .inl rfl
  ·split at h
   ·cases h
   ·exact sD k _ _ _ _ h
theorem Zk {lens:List Int}{e:Int}{p:Nat}(h:sym lens s p= .error e):e≠0:=by
 have:=sD _ _ _ _ _ h;omega
theorem kM {e:Int}{p:Nat}{out:List UInt8}(h:stored s p out m= .error e):e≠0:=by
 unfold stored at h;cases h1:num s ((p+7)/8*8) 16 with
 |error x=>rw[h1]at h;cases h;have:=Fl h1;omega
 |ok z=>
  obtain ⟨n,p1⟩:=z;rw[h1]at h;dsimp only at h;cases h2:num s p1 16 with
  |error x=>rw[h2]at h;cases h;have:=Fl h2;omega
  |ok z=>
   obtain ⟨k,p2⟩:=z;rw[h2]at h;dsimp only at h;split at h
   ·cases h;decide
   ·split at h
    ·cases h;decide
    ·split at h
     ·cases h;decide
     ·cases h
theorem kN {far:List Int}{sg p:Nat}{out:List UInt8}{e:Int}(h:copied s far m sg out p= .error e):e≠0:=by
 unfold copied at h;split at h
 ·cases h;decide
 ·cases h1:num s p (BB (sg-257))with
  |error x=>rw[h1]at h;cases h;have:=Fl h1;omega
  |ok z=>
   obtain ⟨v,p1⟩:=z;rw[h1]at h;dsimp only at h;cases h2:sym far s p1 with
   |error x=>rw[h2]at h;cases h;exact Zk h2
   |ok z=>
    obtain ⟨d,p2⟩:=z;rw[h2]at h;dsimp only at h;split at h
    ·cases h;decide
    ·cases h3:num s p2 (B3 d)with
     |error x=>rw[h3]at h;cases h;have:=Fl h3;omega
     |ok z=>
      obtain ⟨x,p3⟩:=z;rw[h3]at h;dsimp only at h;split at h
      ·cases h;decide
      ·split at h
       ·cases h;decide
       ·cases h
theorem LS {near far:List Int}{e:Int}:∀(k:Nat) (out:List UInt8) (p:Nat),p<=8*s.size->8*s.size<p+k->Ad s near far m k out p= .error e->e≠0
 |0,_,_,hp,hk,h=>by omega
 |k+1,out,p,hp,hk,h=>by
  unfold Ad at h;cases h1:sym near s p with
  |error x=>rw[h1]at h;cases h;exact Zk h1
  |ok z=>
   obtain ⟨sg,p1⟩:=z;rw[h1]at h;dsimp only at h;obtain ⟨g1,g2,_⟩:=Hk h1;split at h
   ·cases h
   ·split at h
    ·cases h2:copied s far m sg out p1 with
     |error x=>rw[h2]at h;cases h;exact kN h2
     |ok z=>
      obtain ⟨o,q⟩:=z;rw[h2]at h;obtain ⟨c1,c2,_⟩:=Jc h2;exact LS k o q c2 (by omega) h
    ·split at h
     ·cases h;decide
     ·exact LS k _ p1 g2 (by omega) h
theorem Sf {e:Int}:∀(os:List Nat) (l:List Int) (p:Nat),CR s os l p= .error e->e≠0
 |[],l,p,h=>by cases h
 |o::os,l,p,h=>by
  unfold CR at h;cases h1:num s p 3 with
  |error x=>rw[h1]at h;cases h;have:=Fl h1;omega
  |ok z=>rw[h1]at h;exact Sf os _ _ h
theorem Qb {lens:List Int}{many:Nat}{e:Int}:∀(k:Nat) (l:List Int) (p:Nat),many<l.length+k->l.length<=many->CC lens s many k l p= .error e->e≠0
 |0,l,p,hk,hl,h=>by omega
 |k+1,l,p,hk,hl,h=>by
  unfold CC at h;split at h
  ·cases h
  ·cases h1:sym lens s p with
   |error x=>rw[h1]at h;cases h;exact Zk h1
   |ok z=>
    obtain ⟨sg,p1⟩:=z;rw[h1]at h;dsimp only at h;split at h
    ·exact Qb k _ _ (by rw[ae];simp;omega) (by rw[ae];simp;omega) h
    ·split at h
     ·cases h;decide
     ·cases h2:num s p1 (Hd sg)with
      |error x=>rw[h2]at h;cases h;have:=Fl h2;omega
      |ok z=>
       obtain ⟨v,p2⟩:=z;rw[h2]at h;dsimp only at h;have hL:3<=ED sg:=by unfold ED;split<;>omega
       split at h
       ·cases h;decide
       ·exact Qb k _ _ (by rw[ae,aI];omega) (by rw[ae,aI];omega) h
theorem AFJ {p:Nat}{e:Int}(h:dyn s p= .error e):e≠0:=by
 unfold dyn at h;cases h1:num s p 5 with
 |error x=>rw[h1]at h;cases h;have:=Fl h1;omega
 |ok z=>
  obtain ⟨hl,p1⟩:=z;rw[h1]at h;dsimp only at h;split at h
  ·cases h;decide
  ·cases h2:num s p1 5 with
   |error x=>rw[h2]at h;cases h;have:=Fl h2;omega
   |ok z=>
    obtain ⟨hd,p2⟩:=z;rw[h2]at h;dsimp only at h;split at h
    ·cases h;decide
    ·cases h3:num s p2 4 with
     |error x=>rw[h3]at h;cases h;have:=Fl h3;omega
     |ok z=>
      obtain ⟨hc,p3⟩:=z;rw[h3]at h;dsimp only at h;cases h4:CR s (order.take (hc.toNat+4)) (List.replicate 19 0) p3 with
      |error x=>rw[h4]at h;cases h;exact Sf _ _ _ h4
      |ok z=>
       obtain ⟨gn,p4⟩:=z;rw[h4]at h;dsimp only at h;split at h
       ·rename_i hc;cases h;exact hc
       ·cases h5:CC gn s (hl.toNat+257+(hd.toNat+1)) (hl.toNat+257+(hd.toNat+1)+1) [] p4 with
        |error x=>rw[h5]at h;cases h;exact Qb _ _ _ (by simp) (bz _) h5
        |ok z=>
         obtain ⟨l,p5⟩:=z;rw[h5]at h;dsimp only at h;split at h
         ·cases h;decide
         ·split at h
          ·rename_i hc;cases h;exact hc
          ·split at h
           ·rename_i hc;cases h;exact hc
           ·cases h
theorem sE {kind:Int}{p:Nat}{out:List UInt8}{e:Int}(hp:p<=8*s.size)(h:block s m kind out p= .error e):e≠0:=by
 unfold block at h;split at h
 ·cases h;decide
 ·split at h
  ·exact kM h
  ·split at h
   ·cases h1:dyn s p with
    |error x=>rw[h1]at h;cases h;exact AFJ h1
    |ok z=>
     obtain ⟨a,b,q⟩:=z;rw[h1]at h;exact LS _ _ _ (rl hp h1).2 (by omega) h
   ·exact LS _ _ _ hp (by omega) h
theorem sF {e:Int}:∀(k:Nat) (out:List UInt8) (p:Nat),out.length<=m->p<=8*s.size->8*s.size<p+k->FZ s m k out p= .error e->e≠0
 |0,_,_,_,hp,hk,h=>by omega
 |k+1,out,p,ho,hp,hk,h=>by
  unfold FZ at h;cases h1:num s p 1 with
  |error x=>rw[h1]at h;cases h;have:=Fl h1;omega
  |ok z=>
   obtain ⟨last,p1⟩:=z;rw[h1]at h;dsimp only[Ca]at h;obtain ⟨_,_,rfl,a3⟩:=BU h1;cases h2:num s (p+1) 2 with
   |error x=>rw[h2]at h;cases h;have:=Fl h2;omega
   |ok z=>
    obtain ⟨kind,p2⟩:=z;rw[h2]at h;dsimp only at h;obtain ⟨_,_,rfl,b3⟩:=BU h2;cases h3:block s m kind out (p+1+2)with
    |error x=>rw[h3]at h;cases h;exact sE b3 h3
    |ok z=>
     obtain ⟨o,q⟩:=z;rw[h3]at h;dsimp only at h;obtain ⟨c1,c2,c3⟩:=QZ b3 ho h3;split at h
     ·cases h
     ·exact sF k o q c3 c2 (by omega) h
theorem sG {o:List UInt8}{q:Nat}:∀(k:Nat) (out:List UInt8) (p:Nat),out.length<=m->p<=8*s.size->FZ s m k out p= .ok (o,q)->p<q/\q<=8*s.size/\o.length<=m
 |0,_,_,_,_,h=>by cases h
 |k+1,out,p,ho,hp,h=>by
  unfold FZ at h;cases h1:num s p 1 with
  |error x=>rw[h1]at h;cases h
  |ok z=>
   obtain ⟨last,p1⟩:=z;rw[h1]at h;dsimp only[Ca]at h;obtain ⟨_,_,rfl,a3⟩:=BU h1;cases h2:num s (p+1) 2 with
   |error x=>rw[h2]at h;cases h
   |ok z=>
    obtain ⟨kind,p2⟩:=z;rw[h2]at h;dsimp only at h;obtain ⟨_,_,rfl,b3⟩:=BU h2;cases h3:block s m kind out (p+1+2)with
    |error x=>rw[h3]at h;cases h
    |ok z=>
     obtain ⟨o2,q2⟩:=z;rw[h3]at h;dsimp only at h;obtain ⟨c1,c2,c3⟩:=QZ b3 ho h3;split at h
     ·cases h;exact ⟨by omega,c2,c3⟩
     ·obtain ⟨d1,d2,d3⟩:=sG k o2 q2 c3 c2 h;exact ⟨by omega,d2,d3⟩
end
theorem KL {s:ByteArray}{most:Int}(h:0<=most):Dw s most=match FZ s (min most 1048576).toNat (8*s.size+1) [] 0 with
  | .error e=>(⟨#[]⟩,0,e)
  | .ok (o,q)=>(⟨o.toArray⟩,(((q+7)/8:Nat):Int),0):=by
 unfold Dw;rw[ah (by omega),rv];cases FZ s (min most 1048576).toNat (8*s.size+1) [] 0<;>rfl
theorem AOT {s:ByteArray}{most:Int}{d:ByteArray}{n e:Int}(h:(d,n,e)=Dw s most)(he:e≠0):d=⟨#[]⟩/\n=0:=by
 by_cases hm:most<0
 ·unfold Dw at h;rw[ak hm]at h;cases h;exact ⟨rfl,rfl⟩
 ·rw[KL (by omega)]at h;cases hq:FZ s (min most 1048576).toNat (8*s.size+1) [] 0 with
  |error x=>rw[hq]at h;cases h;exact ⟨rfl,rfl⟩
  |ok z=>rw[hq]at h;cases h;exact absurd rfl he
theorem KX {s:ByteArray}{most:Int}{d:ByteArray}{n:Int}(h:(d,n,0)=Dw s most):∃u:Nat,n=(u:Int)/\1<=u/\u<=s.size/\(d.size:Int)<=most/\
  (∀(more:ByteArray) (b:Int),0<=b->Dw (s.extract 0 u++more) (most+b)=(d,n,0))/\Dw (s.extract 0 (u-1)) most=(⟨#[]⟩,0,4):=by
 by_cases hm:most<0
 ·unfold Dw at h;rw[ak hm]at h;cases h
 have hm0:0<=most:=by omega
 rw[KL hm0]at h;cases hq:FZ s (min most 1048576).toNat (8*s.size+1) [] 0 with
 |error x=>
  rw[hq]at h;cases h;exact absurd rfl (sF _ _ _ (bz _) (bz _) (by omega) hq)
 |ok z=>
  obtain ⟨o,q⟩:=z;rw[hq]at h;obtain ⟨h1,h2⟩:=Prod.mk.inj h;obtain ⟨h2,_⟩:=Prod.mk.inj h2;obtain ⟨a1,a2,a3⟩:=sG _ _ _ (bz _) (bz _) hq;have pre:∀u,u<=s.size->IK (s.extract 0 u) s/\(s.extract 0 u).size=u:=fun u hu=>by
   refine ⟨⟨s.data.toList.drop u,?_⟩,by rw[cr];omega⟩;rw[Ao,cV,bM,aW]
  have K:∀r:ByteArray,8*r.size<0+(8*r.size+1):=fun r=>by omega
  have hG:=ry s (min most 1048576).toNat (8*s.size+1) (fun r=>8*r.size+1) [] 0 (by omega) K;have hu:(q+7)/8<=s.size:=by omega
  refine ⟨(q+7)/8,h2,by omega,hu,?_,fun more b hb=>?_,?_⟩
  ·rw[h1];show ((o.toArray.size:Nat):Int)<=most;rw[aZ];omega
  ·obtain ⟨p1,p2⟩:=pre _ hu;have hR:FZ (s.extract 0 ((q+7)/8)) (min most 1048576).toNat (8*(s.extract 0 ((q+7)/8)).size+1) [] 0= .ok (o,q):=by
    rcases ((hG _ p1 (bz _)).t o q hq).2 with e|e
    ·exact e.2
    ·omega
   have p3:IK (s.extract 0 ((q+7)/8)) (s.extract 0 ((q+7)/8)++more):=⟨more.data.toList,by rw[ByteArray.data_append,cR]⟩
   have hG2:=ry (s.extract 0 ((q+7)/8)++more) (min most 1048576).toNat (8*(s.extract 0 ((q+7)/8)++more).size+1) (fun r=>8*r.size+1) [] 0 (by omega) K;have hT:=((hG2 _ p3 (bz _)).r o q hR).1;have hT2:=ABP (m':=(min (most+b) 1048576).toNat) (by omega) _ _ _ hT;rw[KL (by omega),hT2,h1,h2]
  ·obtain ⟨p1,p2⟩:=pre ((q+7)/8-1) (by omega);rw[KL hm0];rcases ((hG _ p1 (bz _)).t o q hq).2 with e|e
   ·omega
   ·have e2:=e.2;dsimp only at e2;rw[e2]
attribute [local irreducible] Ld St Nw Nn Lt AP
end A8
set_option maxRecDepth 512
set_option maxHeartbeats 200000
namespace DS
open Sh
def pl (AJ:Int)(used:Nat):Nat:=if AJ=1 then used else 7-used
def grow (st:List UInt8×Nat):List UInt8:=if st.2=0 then st.1++[0]else st.1
def BX (l:List UInt8):Nat:=(l.getD (l.length-1) 0).toNat
def DZ (l:List UInt8)(v:Nat):List UInt8:=l.set (l.length-1) (UInt8.ofNat (BX l+v))
def EW (AJ:Int)(st:List UInt8×Nat)(b:Nat):List UInt8×Nat:=(DZ (grow st) (b*2^pl AJ st.2),(st.2+1)%8)
structure Ei (AJ:Int) (st:List UInt8×Nat):Prop where
 lt:st.2<8
 ne:st.2≠0->st.1≠[]
 low:st.2≠0->AJ=1->BX st.1<2^st.2
 high:st.2≠0->AJ≠1->∃k,BX st.1=k*2^(8-st.2)
theorem Ei.zero(AJ:Int)(l:List UInt8):Ei AJ (l,0):=⟨by omega,fun h=>absurd rfl h,fun h=>absurd rfl h,fun h=>absurd rfl h⟩
theorem Ks {AJ:Int}{st:List UInt8×Nat}(h:Ei AJ st):grow st≠[]:=by
 unfold grow;split
 ·simp
 ·rename_i h0;exact h.ne h0
theorem Ve (l:List UInt8):BX l<256:=UInt8.toNat_lt _
theorem Pp (l:List UInt8):BX (l++[0])=0:=by simp[BX]
theorem Po {st:List UInt8×Nat}(h:Ei 1 st):BX (grow st)<2^st.2:=by
 unfold grow;split
 ·rename_i h0;rw[Pp,h0];decide
 ·rename_i h0;exact h.low h0 rfl
theorem MQ {AJ:Int}{st:List UInt8×Nat}(h:Ei AJ st)(hw:AJ≠1):∃k,BX (grow st)=k*2^(8-st.2):=by
 unfold grow;split
 ·exact ⟨0,by rw[Pp];simp⟩
 ·rename_i h0;exact h.high h0 hw
theorem MP {AJ:Int}{st:List UInt8×Nat}(h:Ei AJ st){b:Nat}(hb:b<=1):
  BX (grow st)+b*2^pl AJ st.2<256/\BX (grow st)|||b*2^pl AJ st.2=BX (grow st)+b*2^pl AJ st.2/\b*2^pl AJ st.2<256:=by
 have Am:=h.lt;have h1:b*2^pl AJ st.2<=1*2^pl AJ st.2:=cL _ hb;by_cases hw:AJ=1
 ·subst hw;have hx:=Po h;have hp:pl 1 st.2=st.2:=by simp[pl]
  rw[hp]at h1⊢;have h8:2^(st.2+1)<=2^8:=cq (by decide) (by omega);rw[dm]at h8;exact ⟨by omega,Ii hx,by omega⟩
 ·obtain ⟨k,hk⟩:=MQ h hw;have hp:pl AJ st.2=7-st.2:=by simp[pl,hw]
  have h256:=Ve (grow st);rw[hp]at h1⊢;have e8:8-st.2=7-st.2+1:=by omega
  have h8:2^(8-st.2)=2*2^(7-st.2):=by rw[e8,dm];omega
  have AIY:256=2^(8-st.2)*2^st.2:=by rw[<-Nat.pow_add,show 8-st.2+st.2=8 by omega]
  have ME:k<2^st.2:=by
   rw[hk,AIY,cW (2^(8-st.2))]at h256;exact Nat.lt_of_mul_lt_mul_right h256
  have wQ:(k+1)*2^(8-st.2)<=256:=by
   rw[AIY,cW (2^(8-st.2))];exact cL _ ME
  rw[bN]at wQ;have HX:0<2^(7-st.2):=cY (by decide);refine ⟨by omega,?_,by omega⟩;rw[hk,Nat.or_comm,Ii (by rw[h8];omega),Nat.add_comm]
theorem Jz {l:List UInt8}{v:Nat}(hl:l≠[])(hv:BX l+v<256):BX (DZ l v)=BX l+v:=by
 have:0<l.length:=ch.2 hl;unfold BX DZ at*;rw[br];simp only[af,da (show l.length-1<l.length by omega),cN];simp only[cG];exact bA hv
theorem Ei.one{AJ:Int}{st:List UInt8×Nat}(h:Ei AJ st){b:Nat}(hb:b<=1):Ei AJ (EW AJ st b):=by
 have hn:=Ks h;obtain ⟨h1,_,_⟩:=MP h hb;have hl:=Jz hn h1;have Am:=h.lt;have hle:b*2^pl AJ st.2<=1*2^pl AJ st.2:=cL _ hb;refine ⟨cX _ (by decide),fun _=>?_,fun hu hw=>?_,fun hu hw=>?_⟩
 ·intro e;have:(DZ (grow st) (b*2^pl AJ st.2)).length=0:=by
   show (EW AJ st b).1.length=0;rw[e];rfl
  unfold DZ at this;rw[br]at this;exact hn (aw this)
 ·show BX (DZ (grow st) (b*2^pl AJ st.2))<2^((st.2+1)%8);have hu':(st.2+1)%8≠0:=hu;subst hw;rw[hl,show (st.2+1)%8=st.2+1 by omega,dm];have hx:=Po h;rw[show pl 1 st.2=st.2 by simp[pl]]at hle⊢;omega
 ·show ∃k,BX (DZ (grow st) (b*2^pl AJ st.2))=k*2^(8-(st.2+1)%8);have hu':(st.2+1)%8≠0:=hu;obtain ⟨k,hk⟩:=MQ h hw;rw[hl,hk,show (st.2+1)%8=st.2+1 by omega,show pl AJ st.2=7-st.2 by simp[pl,hw],show 8-(st.2+1)=7-st.2 by omega,show 8-st.2=7-st.2+1 by omega,dm];exact ⟨k*2+b,by rw[bN,Nat.mul_assoc,cW 2]⟩
def Gi (AJ:Int)(v n i:Nat):Nat:=if AJ=1 then v/2^i%2 else v/2^(n-1-i)%2
theorem Tj (AJ:Int)(v n i:Nat):Gi AJ v n i<=1:=by unfold Gi;split<;>omega
def HZ (AJ:Int)(v n:Nat)(st:List UInt8×Nat):Nat->List UInt8×Nat
 |0=>st
 |i+1=>EW AJ (HZ AJ v n st i) (Gi AJ v n i)
theorem Ei.put{AJ:Int}{st:List UInt8×Nat}(h:Ei AJ st)(v n:Nat):∀i,Ei AJ (HZ AJ v n st i)
 |0=>h
 |i+1=>(h.put v n i).one (Tj _ _ _ _)
theorem Ph (st:List UInt8×Nat):(grow st).length<=st.1.length+1:=by unfold grow;split<;>simp
theorem Pn (AJ:Int)(st:List UInt8×Nat)(b:Nat):(EW AJ st b).1.length=(grow st).length:=by unfold EW DZ;simp
theorem Pj (AJ:Int)(v n:Nat)(st:List UInt8×Nat):∀i,(HZ AJ v n st i).1.length<=st.1.length+i
 |0=>av _
 |i+1=>by
  have:=Pj AJ v n st i;have h2:=Ph (HZ AJ v n st i);show (EW AJ _ _).1.length<=_;rw[Pn];omega
def Jr (AJ:Int)(st:List UInt8×Nat)(v n w':Int):Int×(List UInt8×Nat)×Int:=
 if n<0\/24<n\/v<0\/2^n.toNat<=v\/(AJ≠0/\AJ≠w')then (1,st,AJ)
 else (0,HZ w' v.toNat n.toNat st n.toNat,if 0<n then w' else AJ)
theorem Vg {AJ:Int}{st:List UInt8×Nat}{v n w':Int}(h:n<0\/24<n\/v<0\/2^n.toNat<=v\/(AJ≠0/\AJ≠w')):Jr AJ st v n w'=(1,st,AJ):=ak h
theorem Kt {AJ:Int}{st:List UInt8×Nat}{v n w':Int}(h:¬(n<0\/24<n\/v<0\/2^n.toNat<=v\/(AJ≠0/\AJ≠w'))):
  Jr AJ st v n w'=(0,HZ w' v.toNat n.toNat st n.toNat,if 0<n then w' else AJ):=ah h
structure FY (AJ:Int) (st:List UInt8×Nat):Prop where
 ok:Ei AJ st
 none:AJ=0->st.2=0
theorem FY.to{AJ:Int}{st:List UInt8×Nat}(h:FY AJ st){w':Int}(hn:¬(AJ≠0/\AJ≠w')):Ei w' st:=by
 by_cases hw:AJ=0
 ·obtain ⟨l,u⟩:=st;have:u=0:=h.none hw;subst this;exact Ei.zero _ _
 ·have:AJ=w':=by
   by_cases e:AJ=w'
   ·exact e
   ·exact absurd ⟨hw,e⟩ hn
  exact this▸h.ok
theorem FY.zero(l:List UInt8):FY 0 (l,0):=⟨Ei.zero _ _,fun _=>rfl⟩
theorem FY.put{AJ:Int}{st:List UInt8×Nat}(h:FY AJ st)(v n:Int){w':Int}(hw:w'≠0):FY (Jr AJ st v n w').2.2 (Jr AJ st v n w').2.1:=by
 by_cases hc:n<0\/24<n\/v<0\/2^n.toNat<=v\/(AJ≠0/\AJ≠w')
 ·rw[Vg hc];exact h
 ·rw[Kt hc];dsimp only;split
  ·exact ⟨(h.to (by omega)).put _ _ _,fun e=>absurd e hw⟩
  ·have:n.toNat=0:=by omega
   rw[this];exact h
theorem Pk (v i:Nat)(hv:v<16777216):CY .i64 (Int.fdiv (v:Int) (2^i)) 1=((v/2^i%2:Nat):Int):=by
 have h:=@NS (v:Int) i (by omega);rw[fdiv_pow,VZ h.1 (by omega)];simp
end DS
namespace DS
open Sh
def nb (l:List UInt8)(j:Nat):Nat:=(l.getD j 0).toNat
theorem Vh (l:List UInt8):BX l=nb l (l.length-1):=rfl
def Ku (AJ:Int)(x k:Nat):Nat:=if AJ=1 then x/2^k%2 else x/2^(7-k)%2
theorem ACs (l:List UInt8)(j:Nat):OI ⟨l.toArray⟩ j=(nb l j:Int):=by
 unfold OI nb;simp[bO,af]
theorem Tn (l:List UInt8)(AJ:Int)(q:Nat):bt ⟨l.toArray⟩ AJ q=(Ku AJ (nb l (q/8)) (q%8):Int):=by
 unfold bt Ku;rw[ACs];split<;>simp
def pos (st:List UInt8×Nat):Nat:=if st.2=0 then 8*st.1.length else 8*(st.1.length-1)+st.2
theorem Vi {AJ:Int}{st:List UInt8×Nat}(h:Ei AJ st):pos st=8*((grow st).length-1)+st.2:=by
 unfold pos grow;split
 ·rename_i h0;simp[h0]
 ·rfl
theorem fT {AJ:Int}{st:List UInt8×Nat}(h:Ei AJ st)(b:Nat):pos (EW AJ st b)=pos st+1:=by
 have Am:=h.lt;have hg:=ch.2 (Ks h);rw[Vi h];unfold pos;rw[Pn];show (if (st.2+1)%8=0 then _ else _+(st.2+1)%8)=_;split<;>omega
theorem Yh {x b i k:Nat}(hk:k<i):(x+b*2^i)/2^k%2=x/2^k%2:=by
 obtain ⟨d,rfl⟩:∃d,i=k+(d+1):=⟨i-k-1,by omega⟩
 have e:b*2^(k+(d+1))=2^k*(2*(b*2^d)):=by
  rw[Nat.pow_add,dm,Nat.mul_left_comm,cW (2^d) 2,Nat.mul_left_comm b]
 rw[e,Nat.add_mul_div_left _ _ (cY (by decide))];omega
theorem nG {AJ:Int}{st:List UInt8×Nat}(h:Ei AJ st){b:Nat}(hb:b<=1):Ku AJ (BX (grow st)+b*2^pl AJ st.2) st.2=b/\
  ∀k,k<st.2->Ku AJ (BX (grow st)+b*2^pl AJ st.2) k=Ku AJ (BX (grow st)) k:=by
 have Am:=h.lt;by_cases hw:AJ=1
 ·subst hw;have hx:=Po h;simp only[Ku,pl,if_true];refine ⟨?_,fun k hk=>Yh hk⟩;rw[Nat.add_mul_div_right _ _ (cY (by decide)),Nat.div_eq_of_lt hx];omega
 ·obtain ⟨m,hm⟩:=MQ h hw;simp only[Ku,pl,hw,dz];have e:2^(8-st.2)=2^(7-st.2)*2:=by rw[<-dm];congr 1;omega
  have hs:BX (grow st)+b*2^(7-st.2)=2^(7-st.2)*(2*m+b):=by
   rw[hm,e,Nat.mul_add,cW b,<-Nat.mul_assoc,cW m,Nat.mul_assoc];rw[cW 2 m]
  have hs0:BX (grow st)=2^(7-st.2)*(2*m):=by
   rw[hm,e,cW m,Nat.mul_assoc]
  refine ⟨?_,fun k hk=>?_⟩
  ·rw[hs,Nat.mul_div_cancel_left _ (cY (by decide))];omega
  ·have ek:2^(7-k)=2^(7-st.2)*(2*2^(st.2-k-1)):=by
    rw[<-Nat.pow_succ',<-Nat.pow_add]
    congr 1
    omega
   rw[hs,hs0,ek,Nat.mul_div_mul_left _ _ (cY (by decide)),Nat.mul_div_mul_left _ _ (cY (by decide)),<-aV,<-aV]
   congr 2
   omega
def Bf (AJ:Int)(p:Nat)(l T:List UInt8):Prop:=(∀j,j<p/8->T.getD j 0=l.getD j 0)/\∀k,k<p%8->Ku AJ (nb T (p/8)) k=Ku AJ (nb l (p/8)) k
theorem Bf.refl(AJ:Int)(p:Nat)(l:List UInt8):Bf AJ p l l:=⟨fun _ _=>rfl,fun _ _=>rfl⟩
theorem Bf.one{AJ:Int}{st:List UInt8×Nat}(h:Ei AJ st){b:Nat}(hb:b<=1){T:List UInt8}(ha:Bf AJ (pos st+1) (EW AJ st b).1 T):
  Bf AJ (pos st) st.1 T/\Ku AJ (nb T (pos st/8)) (pos st%8)=b:=by
 have Am:=h.lt;have hgn:=Ks h;have hg:=ch.2 hgn;obtain ⟨h1,_,_⟩:=MP h hb;obtain ⟨b1,b2⟩:=nG h hb;have hp:=Vi h;have e1:pos st/8=(grow st).length-1:=by omega
 have e2:pos st%8=st.2:=by omega
 have Cw:nb (EW AJ st b).1 ((grow st).length-1)=BX (grow st)+b*2^pl AJ st.2:=by
  have:=Jz hgn h1;rw[Vh]at this;unfold DZ at this;rw[br]at this;exact this
 have hold:∀j,j<(grow st).length-1->(EW AJ st b).1.getD j 0=st.1.getD j 0:=fun j hj=>by
  show (List.set _ _ _).getD j 0=_;rw[af,List.getElem?_set_ne (by omega)];unfold grow at hj⊢;split
  ·rename_i h0;rw[ak h0]at hj;rw[aG (by simp at hj;exact hj),af]
  ·rw[af]
 have hT:∀k,k<=st.2->Ku AJ (nb T ((grow st).length-1)) k=Ku AJ (BX (grow st)+b*2^pl AJ st.2) k:=fun k hk=>by
  by_cases h8:st.2+1=8
  ·have:=ha.1 ((grow st).length-1) (by omega);have:nb T ((grow st).length-1)=nb (EW AJ st b).1 ((grow st).length-1):=by unfold nb;rw[this]
   rw[this,Cw]
  ·have:=ha.2 k (by omega);rw[show (pos st+1)/8=(grow st).length-1 by omega,Cw]at this;exact this
 refine ⟨⟨fun j hj=>?_,fun k hk=>?_⟩,?_⟩
 ·rw[ha.1 j (by omega)];exact hold j (by omega)
 ·rw[e1];rw[e2]at hk;rw[hT k (by omega),b2 k hk,Vh];unfold grow;rw[ah (by omega)]
 ·rw[e1,e2,hT _ (av _),b1]
theorem To {AJ:Int}{st:List UInt8×Nat}(h:Ei AJ st)(v n:Nat):∀i,pos (HZ AJ v n st i)=pos st+i
 |0=>rfl
 |i+1=>by
  show pos (EW AJ _ _)=_;rw[fT (h.put v n i),To h v n i,cC]
theorem Bf.put{AJ:Int}{st:List UInt8×Nat}(h:Ei AJ st)(v n:Nat){T:List UInt8}:∀i,Bf AJ (pos st+i) (HZ AJ v n st i).1 T->
  Bf AJ (pos st) st.1 T/\∀j,j<i->Ku AJ (nb T ((pos st+j)/8)) ((pos st+j)%8)=Gi AJ v n j
 |0,ha=>⟨ha,fun j hj=>by omega⟩
 |i+1,ha=>by
  have BA:=h.put v n i;have hp:=To h v n i;rw[<-cC,<-hp]at ha;obtain ⟨h1,h2⟩:=Bf.one BA (Tj AJ v n i) ha;rw[hp]at h1 h2;obtain ⟨h3,h4⟩:=Bf.put h v n i h1;refine ⟨h3,fun j hj=>?_⟩;by_cases OJ:j=i
  ·subst OJ;exact h2
  ·exact h4 j (by omega)
theorem wN {T:List UInt8}{AJ:Int}{p v n:Nat}(hv:v<2^n)(hb:∀j,j<n->Ku AJ (nb T ((p+j)/8)) ((p+j)%8)=Gi AJ v n j):tk ⟨T.toArray⟩ AJ p n=(v:Int):=by
 by_cases hw:AJ=1
 ·subst hw;have key:∀i,i<=n->tk ⟨T.toArray⟩ 1 p i=((v%2^i:Nat):Int):=by
   intro i
   induction i with
   |zero=>intro _;simp[tk,Nat.mod_one]
   |succ i ih=>
    intro hi;have h1:=hb i (by omega);simp only[tk,if_true];rw[ih (by omega),Tn,h1,Nat.mod_pow_succ];simp[Gi,Int.mul_comm]
  rw[key n (av _),bA hv]
 ·have key:∀i,i<=n->tk ⟨T.toArray⟩ AJ p i=((v/2^(n-i):Nat):Int):=by
   intro i
   induction i with
   |zero=>intro _;simp[tk,Nat.div_eq_of_lt hv]
   |succ i ih=>
    intro hi;have h1:=hb i (by omega);simp only[tk,hw,dz];rw[ih (by omega),Tn,h1];simp only[Gi,hw,dz];rw[show n-i=n-1-i+1 by omega,show n-(i+1)=n-1-i by omega,dm,<-aV];generalize v/2^(n-1-i)=y;omega
  rw[key n (av _)];simp
structure Ask where
 d:Int
 n:Int
 v:Int
 s:ByteArray
def Yi (q:Ask):Nat:=q.n.natAbs%25
def AIV (q:Ask):Nat:=q.v.natAbs%2^Yi q
def nE (st:List UInt8×Nat)(t:ByteArray):List UInt8×Nat:=(st.1++t.data.toList,0)
def Tl (AJ:Int)(st:List UInt8×Nat):Int:=if st.2=0 then AJ else 0
def al (f:Nat->Ask)(i:Nat):Prop:=(0<i/\(f i).d≠(f (i-1)).d)\/1<(f i).d\/(f i).d<0
open Classical in
noncomputable def AIW (f:Nat->Ask) (i:Nat) (W:Int×(List UInt8×Nat)):Int×(List UInt8×Nat):=if al f i then (0,(W.2.1,0))else W
def AIX (q:Ask)(W:Int×(List UInt8×Nat)):Int×(List UInt8×Nat):=
 if q.d=0 then (if 0<((Yi q:Nat):Int)then 1 else W.1,HZ 1 (AIV q) (Yi q) W.2 (Yi q))
 else if q.d=1 then (if 0<((Yi q:Nat):Int)then 2 else W.1,HZ 2 (AIV q) (Yi q) W.2 (Yi q))
 else if q.d=3 then (Tl W.1 W.2,nE W.2 q.s)
 else W
noncomputable def Wr (f:Nat->Ask):Nat->Int×(List UInt8×Nat)
 |0=>(0,([],0))
 |i+1=>AIX (f i) (AIW f i (Wr f i))
end DS
set_option maxRecDepth 4000
set_option maxHeartbeats 1000000
namespace A8
open Sh DS
abbrev WS:=List UInt8×Nat
def lw (st:WS)(v n:Nat):WS:=HZ 1 v n st n
def hw (st:WS)(c n:Nat):Nat->WS
 |0=>st
 |i+1=>EW 1 (hw st c n i) (c/2^(n-1-i)%2)
def cw (lens:List Int)(st:WS)(g:Nat):WS:=hw st (Ea lens g).toNat (lens.getD g 0).toNat (lens.getD g 0).toNat
section
variable {st:WS} {T:List UInt8}
theorem Zl (x:Nat):x%2<=1:=by omega
theorem SN (h:Ei 1 st)(c n:Nat):∀i,Ei 1 (hw st c n i)
 |0=>h
 |i+1=>(SN h c n i).one (Zl _)
theorem Tu (h:Ei 1 st)(c n:Nat):∀i,pos (hw st c n i)=pos st+i
 |0=>rfl
 |i+1=>by
  show pos (EW 1 _ _)=_;rw[fT (SN h c n i),Tu h c n i,cC]
theorem Zm (st:WS)(c n:Nat):∀i,(hw st c n i).1.length<=st.1.length+i
 |0=>av _
 |i+1=>by
  have:=Zm st c n i;have h2:=Ph (hw st c n i);show (EW 1 _ _).1.length<=_;rw[Pn];omega
theorem gw (h:Ei 1 st)(c n:Nat):∀i,Bf 1 (pos st+i) (hw st c n i).1 T->Bf 1 (pos st) st.1 T/\∀j,j<i->bt ⟨T.toArray⟩ 1 (pos st+j)=((c/2^(n-1-j)%2:Nat):Int)
 |0,ha=>⟨ha,fun j hj=>by omega⟩
 |i+1,ha=>by
  have BA:=SN h c n i;have hp:=Tu h c n i;rw[<-cC,<-hp]at ha;obtain ⟨h1,h2⟩:=Bf.one BA (Zl _) ha;rw[hp]at h1 h2;obtain ⟨h3,h4⟩:=gw h c n i h1;refine ⟨h3,fun j hj=>?_⟩;by_cases OJ:j=i
  ·subst OJ;rw[Tn,h2]
  ·exact h4 j (by omega)
theorem Il (h:Ei 1 st)(v n:Nat):Ei 1 (lw st v n):=h.put v n n
theorem Dc (h:Ei 1 st)(v n:Nat):pos (lw st v n)=pos st+n:=To h v n n
theorem JB (st:WS)(v n:Nat):(lw st v n).1.length<=st.1.length+n:=Pj 1 v n st n
theorem Db (h:Ei 1 st){v n:Nat}(hv:v<2^n)(ha:Bf 1 (pos (lw st v n)) (lw st v n).1 T):Bf 1 (pos st) st.1 T/\(pos st+n<=8*T.length->num ⟨T.toArray⟩ (pos st) n= .ok ((v:Int),pos st+n)):=by
 rw[Dc h]at ha;obtain ⟨h1,h2⟩:=Bf.put h v n n ha;refine ⟨h1,fun hT=>?_⟩;unfold num;rw[ak (by show pos st+n<=8*T.toArray.size;simpa using hT),wN hv h2]
end
theorem ABQ {lens:List Int}:∀n,n+1<=15->kS lens lens.length (n+1)=(fs (cn lens) (n+1)+cn lens (n+1))*2^(15-(n+1))
 |0,_=>by
  have e:cn lens 1=(Ft lens 1:Int):=rfl;show (0:Int)+(Cg lens 1 lens.length:Int)*2^(15-1)=(0+cn lens 1)*_;rw[e,Int.zero_add,Int.zero_add]
  rfl
 |n+1,h=>by
  have ih:=ABQ (lens:=lens) n (by omega);have e:cn lens (n+1+1)=(Ft lens (n+1+1):Int):=rfl;have e1:kS lens lens.length (n+1+1)=kS lens lens.length (n+1)+(Ft lens (n+1+1):Int)*2^(15-(n+1+1)):=rfl;have e2:fs (cn lens) (n+1+1)=2*(fs (cn lens) (n+1)+cn lens (n+1)):=rfl;have e3:(2:Int)^(15-(n+1))=2*2^(15-(n+1+1)):=by rw[show 15-(n+1)=15-(n+1+1)+1 by omega,two_pow_succ]
  rw[e1,ih,e,e2,e3];generalize fs (cn lens) (n+1)+cn lens (n+1)=a;rw[Int.add_mul,Int.mul_left_comm,Int.mul_assoc]
theorem gz {lens:List Int}(i:Nat):∀l d,kS lens i l<=kS lens i (l+d)
 |l,0=>bH _
 |l,d+1=>by
  have h1:=gz (lens:=lens) i l d;have h2:kS lens i (l+(d+1))=kS lens i (l+d)+(Cg lens (l+d+1) i:Int)*2^(15-(l+d+1)):=rfl;have h3:(0:Int)<=(Cg lens (l+d+1) i:Int)*2^(15-(l+d+1)):=Int.mul_nonneg (by omega) (dO (two_pow_pos _));omega
theorem hZ {lens:List Int}(hk:NV lens):∀i,kr lens i<=BG lens i*16384/\0<=BG lens i
 |0=>⟨by show (0:Int)<=0*16384;decide,bH _⟩
 |i+1=>by
  obtain ⟨h1,h2⟩:=hZ hk i;have hn:=hk.nn i;have u:BG lens (i+1)=if lens.getD i 0≠0 then BG lens i+1 else BG lens i:=rfl
  have k:kr lens (i+1)=if 0<lens.getD i 0 then kr lens i+2^(15-(lens.getD i 0).toNat)else kr lens i:=rfl
  by_cases h0:lens.getD i 0=0
  ·rw[ah (by omega)]at k;rw[ah (fun hh=>hh h0)]at u;rw[k,u];exact ⟨h1,h2⟩
  ·rw[ak (by omega)]at k;rw[ak h0]at u;have hp:=Bz (show 15-(lens.getD i 0).toNat<=14 by omega);have h14:(2:Int)^14=16384:=by decide
   rw[k,u];omega
theorem AL4 {lens:List Int}(h:DE lens=0):kr lens lens.length<=32768:=by
 have hk:=A5 h;rw[Kw hk]at h;obtain ⟨h1,h2⟩:=hZ hk lens.length;split at h
 ·rename_i hc;rcases hc with hc|hc|⟨hc,_⟩<;>omega
 ·cases h
theorem kO {lens:List Int}(h:DE lens=0){n:Nat}(h1:1<=n)(h15:n<=15):fs (cn lens) n+cn lens n<=2^n:=by
 have hk:=A5 h;obtain ⟨m,rfl⟩:∃m,n=m+1:=⟨n-1,by omega⟩
 have a:=ABQ (lens:=lens) m h15;have b:=gz (lens:=lens) lens.length (m+1) (15-(m+1));rw[show m+1+(15-(m+1))=15 by omega,rJ hk,a]at b;have c:=AL4 h;have hp:=two_pow_pos (15-(m+1));have e:(32768:Int)=2^(m+1)*2^(15-(m+1)):=by rw[<-Int.pow_add,show m+1+(15-(m+1))=15 by omega];decide
 exact Int.le_of_mul_le_mul_right (by omega) hp
theorem ABR {lens:List Int}(hk:NV lens)(n:Nat):0<=fs (cn lens) n:=(gZ (fun n=>Ws hk.len n) n).1
theorem ABS {lens:List Int}(hk:NV lens){m:Nat}(h1:1<=m):∀d,(fs (cn lens) m+cn lens m)*2^(d+1)<=fs (cn lens) (m+(d+1))
 |0=>by
  obtain ⟨x,rfl⟩:∃x,m=x+1:=⟨m-1,by omega⟩
  show _<=2*(fs (cn lens) (x+1)+cn lens (x+1));rw[Int.mul_comm];exact bH _
 |d+1=>by
  have ih:=ABS hk h1 d;have hc:=(Ws hk.len (m+(d+1))).1;have e:fs (cn lens) (m+(d+1+1))=2*(fs (cn lens) (m+(d+1))+cn lens (m+(d+1))):=by
   obtain ⟨x,rfl⟩:∃x,m=x+1:=⟨m-1,by omega⟩
   rw[show x+1+(d+1+1)=(x+d+1)+2 by omega,show x+1+(d+1)=x+d+1+1 by omega]
   rfl
  rw[e,two_pow_succ,Int.mul_left_comm];omega
theorem iA {lens:List Int}(h:DE lens=0){g n:Nat}(hg:g<lens.length)(hn:lens.getD g 0=(n:Int))(h0:0<n):1<=n/\n<=15/\n<=Ae lens/\
  ∃c:Nat,(Ea lens g).toNat=c/\(c:Int)=Ea lens g/\(c:Int)=fs (cn lens) n+(Cg lens n g:Int)/\c<2^n:=by
 have hk:=A5 h;have hnn:=hk.nn g;have h15:n<=15:=by omega
 have hl:=M0 (lens:=lens) lens.length g hg;have hf:=ABR hk n;have hx:=Ud hn hg;have Du:=kO h h0 h15;have hc:Ea lens g=fs (cn lens) n+(Cg lens n g:Int):=by
  unfold Ea;rw[ak (by omega),hn,aa]
 have kB:cn lens n=(Ft lens n:Int):=by unfold cn;rw[ah (by omega)]
 refine ⟨h0,h15,by unfold Ae;omega,(Ea lens g).toNat,rfl,by omega,by omega,?_⟩;have e:((2^n:Nat):Int)=2^n:=by simp
 omega
theorem sH {lens:List Int}(h:DE lens=0){s:ByteArray}{p g n c:Nat}(hg:g<lens.length)(hn:lens.getD g 0=(n:Int))(h0:0<n)(hc:(Ea lens g).toNat=c)
  (hb:∀j,j<n->bt s 1 (p+j)=((c/2^(n-1-j)%2:Nat):Int)) (hs:p+n<=8*s.size):sym lens s p= .ok (g,p+n):=by
 have hk:=A5 h;obtain ⟨_,h15,hll,c',me,_,hcv,Am⟩:=iA h hg hn h0;rw[hc]at me;subst me;have hx:=Ud hn hg;have key:∀d m:Nat,m+d=n->1<=m->∀f:Int,fs (cn lens) m=2*f->VH lens s (Ae lens+1-m) m ((c/2^(d+1):Nat):Int) f (p+(m-1))= .ok (g,p+n):=fun d=>by
  induction d with
  |zero=>
   intro m hm h1 f hf;obtain rfl:m=n:=by omega
   obtain ⟨k,ME⟩:∃k,Ae lens+1-m=k+1:=⟨Ae lens-m,by omega⟩
   rw[ME];unfold VH;have hbm:=hb (m-1) (by omega);rw[show m-1-(m-1)=0 by omega,Nat.pow_zero,Nat.div_one]at hbm;rw[ah (by omega),hbm,show 0+1=1 by rfl,Nat.pow_one];have e:2*((c/2:Nat):Int)+((c%2:Nat):Int)-2*f=(Cg lens m g:Int):=by omega
   rw[e,ak (by omega),aa,hx.1,show p+(m-1)+1=p+m by omega]
  |succ d ih=>
   intro m hm h1 f hf;obtain ⟨k,ME⟩:∃k,Ae lens+1-m=k+1:=⟨Ae lens-m,by omega⟩
   have kB:cn lens m=(Ft lens m:Int):=by unfold cn;rw[ah (by omega)]
   have hbm:=hb (m-1) (by omega);rw[show n-1-(m-1)=d+1 by omega]at hbm;have MD:=ABS hk h1 d;rw[show m+(d+1)=n by omega]at MD;have WN:=ABR hk m;have hv:2*((c/2^(d+1+1):Nat):Int)+((c/2^(d+1)%2:Nat):Int)=((c/2^(d+1):Nat):Int):=by
    have:c/2^(d+1+1)=c/2^(d+1)/2:=by rw[dm 2 (d+1),<-aV]
    rw[this];omega
   have hle:fs (cn lens) m+cn lens m<=((c/2^(d+1):Nat):Int):=by
    obtain ⟨z,hz⟩:=aR (show 0<=fs (cn lens) m+cn lens m by rw[kB];omega);rw[hz]at MD⊢;have e2:((2^(d+1):Nat):Int)=2^(d+1):=by simp
    have:z*2^(d+1)<=c:=by
     have h3:((z*2^(d+1):Nat):Int)=(z:Int)*2^(d+1):=by simp
     omega
    have:=(Nat.le_div_iff_mul_le (cY (by decide))).2 this;omega
   rw[ME];unfold VH;rw[ah (by omega),hbm,hv,ah (by rw[kB]at hle;omega)];have:=ih (m+1) (by omega) (by omega) (2*f+(Ft lens m:Int)) (by
    obtain ⟨x,rfl⟩:∃x,m=x+1:=⟨m-1,by omega⟩
    show 2*(fs (cn lens) (x+1)+cn lens (x+1))=_;rw[hf,kB])
   rw[show Ae lens+1-(m+1)=k by omega,show p+(m+1-1)=p+(m-1)+1 by omega]at this;exact this
 have:=key (n-1) 1 (by omega) (av _) 0 rfl;rw[show n-1+1=n by omega,Nat.div_eq_of_lt Am,cl,bY,cz]at this;exact this
section
variable {st:WS} {T:List UInt8} {lens:List Int}
theorem wV (h:DE lens=0)(BA:Ei 1 st){g n:Nat}(hg:g<lens.length)(hn:lens.getD g 0=(n:Int))(h0:0<n)(ha:Bf 1 (pos (cw lens st g)) (cw lens st g).1 T):
  pos (cw lens st g)=pos st+n/\Bf 1 (pos st) st.1 T/\(pos st+n<=8*T.length->sym lens ⟨T.toArray⟩ (pos st)= .ok (g,pos st+n)):=by
 have e:cw lens st g=hw st (Ea lens g).toNat n n:=by unfold cw;rw[hn,aa]
 rw[e]at ha⊢;rw[Tu BA]at ha⊢;obtain ⟨h1,h2⟩:=gw BA _ _ _ ha;exact ⟨rfl,h1,fun hT=>sH h hg hn h0 rfl h2 (by show _<=8*T.toArray.size;simpa using hT)⟩
theorem SK (BA:Ei 1 st)(g:Nat):Ei 1 (cw lens st g):=SN BA _ _ _
theorem Hl (hk:NV lens)(g:Nat):(cw lens st g).1.length<=st.1.length+15:=by
 have:=Zm st (Ea lens g).toNat (lens.getD g 0).toNat (lens.getD g 0).toNat;have h2:=hk.nn g;unfold cw;omega
end
theorem AAW:∀k,3<=Cy k
 |0=>av _
 |k+1=>cd (AAW k) (Nat.le_add_right _ _)
theorem QA:Js.length=288:=by decide+kernel
theorem Vu:MW.length=32:=by decide+kernel
theorem Kx:∀g,g<288->7<=Js.getD g 0/\Js.getD g 0<=9:=by decide+kernel
theorem nU:∀g,g<32->MW.getD g 0=5:=by decide+kernel
end A8
namespace A8
open Sh DS
theorem nK {lens:List Int}(hc:DE lens=0){st:WS}{T:List UInt8}(BA:Ei 1 st){g:Nat}(hg:g<lens.length)(h0:0<lens.getD g 0)(ha:Bf 1 (pos (cw lens st g)) (cw lens st g).1 T):
  ∃n,1<=n/\pos (cw lens st g)=pos st+n/\Bf 1 (pos st) st.1 T/\(pos st+n<=8*T.length->sym lens ⟨T.toArray⟩ (pos st)= .ok (g,pos st+n)):=by
 obtain ⟨n,hn⟩:=aR (show 0<=lens.getD g 0 by omega);obtain ⟨a,b,c⟩:=wV hc BA hg hn (by omega) ha;exact ⟨n,by omega,a,b,c⟩
structure Rp (H:List UInt8->Prop) (near far:List Int) (p0:Nat) (st:WS) (out:List UInt8):Prop where
 ok:Ei 1 st
 dec:∀T:List UInt8,Bf 1 (pos st) st.1 T->pos st<=8*T.length->H T/\∃i,i<=pos st/\
  ∀most k,(out.length<=most->Ad ⟨T.toArray⟩ near far most (k+i) [] p0=Ad ⟨T.toArray⟩ near far most k out (pos st))/\(most<out.length->Ad ⟨T.toArray⟩ near far most (k+i) [] p0= .error 5)
section
variable {H:List UInt8->Prop} {near far:List Int} {p0:Nat} {st:WS} {out:List UInt8}
theorem Rp.zero(ok:Ei 1 st)(h:∀T:List UInt8,Bf 1 (pos st) st.1 T->pos st<=8*T.length->H T)(hp:p0=pos st):Rp H near far p0 st []:=
 ⟨ok,fun T ha hT=>⟨h T ha hT,0,by omega,fun most k=>⟨fun _=>by rw[hp];rfl,fun h=>by cases h⟩⟩⟩
theorem Rp.lit(h:Rp H near far p0 st out)(hc:DE near=0){b:UInt8}(hg:b.toNat<near.length)(hb0:0<near.getD b.toNat 0):Rp H near far p0 (cw near st b.toNat) (out++[b]):=by
 have hb:=b.toNat_lt;refine ⟨SK h.ok _,fun T ha hT=>?_⟩;obtain ⟨n,n1,a1,a2,a3⟩:=nK hc h.ok hg hb0 ha;rw[a1]at hT⊢;obtain ⟨c1,i,c3,c4⟩:=h.dec T a2 (by omega);refine ⟨c1,i+1,by omega,fun most k=>?_⟩;obtain ⟨d1,d2⟩:=c4 most (k+1);have e1:k+1+i=k+(i+1):=by omega
 rw[e1]at d1 d2;have step:Ad ⟨T.toArray⟩ near far most (k+1) out (pos st)=if most<=out.length then .error 5 else Ad ⟨T.toArray⟩ near far most k (out++[b]) (pos st+n):=by
  conv=>lhs;unfold Ad
  rw[a3 hT];dsimp only;rw[ah (by omega),ah (by omega),UInt8.ofNat_toNat]
 have hl:(out++[b]).length=out.length+1:=by simp
 rw[hl];refine ⟨fun hm=>?_,fun hm=>?_⟩
 ·rw[d1 (by omega),step,ah (by omega)]
 ·by_cases hm2:most<out.length
  ·exact d2 hm2
  ·rw[d1 (by omega),step,ak (by omega)]
theorem Rp.cpy(h:Rp H near far p0 st out)(hc:DE near=0)(hf:DE far=0){k x d y:Nat}(hk:k<=28)(hx:x<2^BB k)(hd:d<=29)(hy:y<2^B3 d)(hlen:AZ d+y<=out.length)
  (hg:257+k<near.length) (nL:0<near.getD (257+k) 0) (nM:d<far.length) (hd0:0<far.getD d 0):
  Rp H near far p0 (lw (cw far (lw (cw near st (257+k)) x (BB k)) d) y (B3 d)) (copy out (AZ d+y) (Ab k+x)):=by
 have jX:=SK (lens:=near) h.ok (257+k);have ok2:=Il jX x (BB k);have ok3:=SK (lens:=far) ok2 d;refine ⟨Il ok3 _ _,fun T ha hT=>?_⟩;obtain ⟨y1,y2⟩:=Db ok3 hy ha;rw[Dc ok3]at hT⊢;obtain ⟨m,m1,f1,f2,f3⟩:=nK hf ok2 nM hd0 y1;rw[f1]at hT y2⊢;obtain ⟨x1,x2⟩:=Db jX hx f2;rw[Dc jX]at hT y2 f3⊢;obtain ⟨n,n1,a1,a2,a3⟩:=nK hc h.ok hg nL x1;rw[a1]at hT y2 f3 x2⊢;obtain ⟨c1,i,c3,c4⟩:=h.dec T a2 (by omega);refine ⟨c1,i+1,by omega,fun most z=>?_⟩;obtain ⟨d1,d2⟩:=c4 most (z+1);have e1:z+1+i=z+(i+1):=by omega
 rw[e1]at d1 d2;have step:Ad ⟨T.toArray⟩ near far most (z+1) out (pos st)=if most<out.length+(Ab k+x)then .error 5 else Ad ⟨T.toArray⟩ near far most z (copy out (AZ d+y) (Ab k+x)) (pos st+n+BB k+m+B3 d):=by
  conv=>lhs;unfold Ad
  rw[a3 (by omega)];dsimp only;rw[ah (by omega),ak (by omega)];unfold copied;rw[ah (by omega),show 257+k-257=k by omega,x2 (by omega)];dsimp only;rw[f3 (by omega)];dsimp only;rw[ah (by omega),y2 (by omega)];dsimp only;rw[aa,aa,ah (by omega)];by_cases hc:most<out.length+(Ab k+x)
  ·rw[ak hc,ak hc]
  ·rw[ah hc,ah hc]
 rw[Kv];have h3:3<=Ab k:=by
  unfold Ab;split
  ·omega
  ·exact AAW k
 refine ⟨fun hm=>?_,fun hm=>?_⟩
 ·rw[d1 (by omega),step,ah (by omega)]
 ·by_cases hm2:most<out.length
  ·exact d2 hm2
  ·rw[d1 (by omega),step,ak (by omega)]
def F9 (T out:List UInt8):Prop:=∀most:Nat,(out.length<=most->∃q,FZ ⟨T.toArray⟩ most (8*(⟨T.toArray⟩:ey).size+1) [] 0= .ok (out,q)/\(q+7)/8=T.length)/\
 (most<out.length->FZ ⟨T.toArray⟩ most (8*(⟨T.toArray⟩:ey).size+1) [] 0= .error 5)
theorem wW {st:WS}(ok:Ei 1 st)(h:st.2=0\/st.1≠[]):pos st<=8*st.1.length/\8*st.1.length<pos st+8:=by
 unfold pos;split
 ·omega
 ·rename_i h2;have h3:=ok.lt;have h4:st.1.length≠0:=fun e=>h.elim h2 fun hh=>hh (aw e)
  omega
theorem Rp.fin{T:List UInt8}{kind:Int}(h:Rp H near far p0 st out)(hc:DE near=0)(hg:256<near.length)(nL:0<near.getD 256 0)(hT:T=(cw near st 256).1)
  (hH:∀T:List UInt8,H T->num ⟨T.toArray⟩ 0 1= .ok (1,1)/\num ⟨T.toArray⟩ 1 2= .ok (kind,3)/\∀most,block ⟨T.toArray⟩ most kind [] 3=Ad ⟨T.toArray⟩ near far most (8*(⟨T.toArray⟩:ey).size+1) [] p0):F9 T out:=by
 have jX:=SK (lens:=near) h.ok 256;have A1:(⟨T.toArray⟩:ey).size=T.length:=by show T.toArray.size=_;simp
 have A2:(cw near st 256).2=0\/(cw near st 256).1≠[]:=by
  by_cases h2:(cw near st 256).2=0
  ·exact .inl h2
  ·refine .inr fun e=>(Ks jX) ?_
   unfold grow;rw[ah h2];exact e
 have HX:=wW jX A2;rw[<-hT]at HX;have ha:Bf 1 (pos (cw near st 256)) (cw near st 256).1 T:=by rw[hT];exact Bf.refl _ _ _
 obtain ⟨n,n1,a1,a2,a3⟩:=nK hc h.ok hg nL ha;rw[a1]at HX;obtain ⟨hHT,i,c3,c4⟩:=h.dec T a2 (by omega);obtain ⟨c1,c2,wX⟩:=hH T hHT;intro most;obtain ⟨d1,d2⟩:=c4 most (8*T.length+1-i-1+1);rw[show 8*T.length+1-i-1+1+i=8*T.length+1 by omega]at d1 d2;have AS:FZ ⟨T.toArray⟩ most (8*(⟨T.toArray⟩:ey).size+1) [] 0=match Ad ⟨T.toArray⟩ near far most (8*T.length+1) [] p0 with
   | .error e=> .error e
   | .ok (o,q)=> .ok (o,q):=by
  rw[A1];unfold FZ;rw[c1];dsimp only[Ca];rw[c2];dsimp only;rw[wX,A1];cases Ad ⟨T.toArray⟩ near far most (8*T.length+1) [] p0 with
  |error e=>rfl
  |ok z=>
   obtain ⟨o,q⟩:=z;dsimp only;rw[ak rfl]
 refine ⟨fun hm=>⟨pos st+n,?_,by omega⟩,fun hm=>?_⟩
 ·rw[AS,d1 hm]
  conv=>lhs;unfold Ad
  rw[a3 (by omega)]
  rfl
 ·rw[AS,d2 hm]
end
def VG (v:Nat):Nat->Nat
 |0=>0
 |m+1=>if Cy (m+1)<=v then m+1 else VG v m
def kL (v:Nat):Nat:=if v=258 then 28 else VG v 27
def kDt (v:Nat):Nat->Nat
 |0=>0
 |m+1=>if AZ (m+1)<=v then m+1 else kDt v m
def kD (v:Nat):Nat:=kDt v 29
theorem Vj (v:Nat)(hv:1<=v):∀m,kDt v m<=m/\AZ (kDt v m)<=v/\(v<AZ (m+1)->v<AZ (kDt v m+1))
 |0=>⟨av _,hv,fun h=>h⟩
 |m+1=>by
  obtain ⟨a,b,c⟩:=Vj v hv m;unfold kDt;by_cases h:AZ (m+1)<=v
  ·rw[ak h];exact ⟨av _,h,fun h=>h⟩
  ·rw[ah h];exact ⟨by omega,b,fun _=>c (by omega)⟩
theorem Pq (v:Nat)(hv:3<=v):∀m,VG v m<=m/\Cy (VG v m)<=v/\(v<Cy (m+1)->v<Cy (VG v m+1))
 |0=>⟨av _,hv,fun h=>h⟩
 |m+1=>by
  obtain ⟨a,b,c⟩:=Pq v hv m;unfold VG;by_cases h:Cy (m+1)<=v
  ·rw[ak h];exact ⟨av _,h,fun h=>h⟩
  ·rw[ah h];exact ⟨by omega,b,fun _=>c (by omega)⟩
theorem wY:AZ 30=32769:=by decide+kernel
theorem fU:Cy 28=259:=by decide+kernel
theorem Ha {v:Nat}(h1:1<=v)(h2:v<=32768):kD v<=29/\AZ (kD v)<=v/\v<AZ (kD v)+2^B3 (kD v):=by
 obtain ⟨a,b,c⟩:=Vj v h1 29;exact ⟨a,b,c (by rw[wY];omega)⟩
theorem Hb {v:Nat}(h1:3<=v)(h2:v<=258):kL v<=28/\Ab (kL v)<=v/\v<Ab (kL v)+2^BB (kL v)/\(kL v=28↔v=258):=by
 unfold kL;by_cases h:v=258
 ·rw[ak h];subst h;decide
 ·rw[ah h];obtain ⟨a,b,c⟩:=Pq v h1 27;have e1:Ab (VG v 27)=Cy (VG v 27):=by unfold Ab;rw[ah (by omega)]
  have e2:BB (VG v 27)=VG v 27/4-1:=by unfold BB;rw[ah (by omega)]
  rw[e1,e2];exact ⟨by omega,b,c (by rw[fU];omega),fun hh=>by omega,fun hh=>absurd hh h⟩
theorem KF:∀(k d:Nat),AZ k+d<=AZ (k+d)
 |k,0=>av _
 |k,d+1=>by
  have:=KF k d;have h:0<2^((k+d)/2-1):=cY (by decide);show AZ k+(d+1)<=AZ (k+d)+2^((k+d)/2-1);omega
theorem KG:∀(k d:Nat),Cy k+d<=Cy (k+d)
 |k,0=>av _
 |k,d+1=>by
  have:=KG k d;have h:0<2^((k+d)/4-1):=cY (by decide);show Cy k+(d+1)<=Cy (k+d)+2^((k+d)/4-1);omega
theorem AIg {v k:Nat}(h1:1<=v)(h2:v<=32768)(hk:AZ k<=v)(YD:v<AZ (k+1)):k=kD v:=by
 obtain ⟨a,b,c⟩:=Ha h1 h2;have c:v<AZ (kD v+1):=c;rcases Nat.lt_trichotomy k (kD v)with h|h|h
 ·have:=KF (k+1) (kD v-(k+1));rw[show k+1+(kD v-(k+1))=kD v by omega]at this;omega
 ·exact h
 ·have:=KF (kD v+1) (k-(kD v+1));rw[show kD v+1+(k-(kD v+1))=k by omega]at this;omega
theorem AIh {v k:Nat}(h1:3<=v)(h2:v<258)(hk:Cy k<=v)(YD:v<Cy (k+1)):k=kL v:=by
 obtain ⟨a,b,c⟩:=Pq v h1 27;have c:=c (by rw[fU];omega);unfold kL;rw[ah (by omega)];rcases Nat.lt_trichotomy k (VG v 27)with h|h|h
 ·have:=KG (k+1) (VG v 27-(k+1));rw[show k+1+(VG v 27-(k+1))=VG v 27 by omega]at this;omega
 ·exact h
 ·have:=KG (VG v 27+1) (k-(VG v 27+1));rw[show VG v 27+1+(k-(VG v 27+1))=k by omega]at this;omega
structure JR where
 b:UInt8
 n:Nat
 f:Nat
def JR.ok(p:JR):Prop:=(p.n=0/\p.f=0)\/(p.b=0/\3<=p.n/\p.n<=258/\1<=p.f/\p.f<=32768)
def Pr (out:List UInt8)(p:JR):List UInt8:=if p.n=0 then out++[p.b]else copy out p.f p.n
def Fit:List JR->List UInt8->Prop
 |[],_=>True
 |p::r,out=>p.ok/\p.f<=out.length/\Fit r (Pr out p)
def wP (near far:List Int)(st:WS)(p:JR):WS:=if p.n=0 then cw near st p.b.toNat else
 lw (cw far (lw (cw near st (257+kL p.n)) (p.n-Ab (kL p.n)) (BB (kL p.n))) (kD p.f)) (p.f-AZ (kD p.f)) (B3 (kD p.f))
def Has (near far:List Int)(p:JR):Prop:=if p.n=0 then p.b.toNat<near.length/\0<near.getD p.b.toNat 0 else
 (257+kL p.n<near.length/\0<near.getD (257+kL p.n) 0)/\kD p.f<far.length/\0<far.getD (kD p.f) 0
theorem Rp.part{H:List UInt8->Prop}{near far:List Int}{p0:Nat}{st:WS}{out:List UInt8}(h:Rp H near far p0 st out)(hc:DE near=0)(hf:DE far=0){p:JR}(hp:p.ok)(hl:p.f<=out.length)(hh:Has near far p):
  Rp H near far p0 (wP near far st p) (Pr out p):=by
 unfold wP Pr Has at*;by_cases hn:p.n=0
 ·rw[ak hn]at hh⊢;rw[ak hn];exact h.lit hc hh.1 hh.2
 ·rw[ah hn]at hh⊢;rw[ah hn];rcases hp with hp|⟨_,h3,h4,h5,h6⟩
  ·exact absurd hp.1 hn
  obtain ⟨a1,a2,a3,_⟩:=Hb h3 h4;obtain ⟨b1,b2,b3⟩:=Ha h5 h6;have e1:Ab (kL p.n)+(p.n-Ab (kL p.n))=p.n:=by omega
  have e2:AZ (kD p.f)+(p.f-AZ (kD p.f))=p.f:=by omega
  have:=h.cpy hc hf (k:=kL p.n) (x:=p.n-Ab (kL p.n)) (d:=kD p.f) (y:=p.f-AZ (kD p.f)) a1 (by omega) b1 (by omega) (by omega) hh.1.1 hh.1.2 hh.2.1 hh.2.2;rw[e1,e2]at this;exact this
end A8
namespace A8
open Sh DS
def B0 (s:List UInt8)(a b n:Nat):Nat->Nat
 |0=>n
 |k+1=>if s.getD (a+n) 0=s.getD (b+n) 0 then B0 s a b (n+1) k else n
theorem GA (s:List UInt8)(a b:Nat):∀(k n:Nat),n<=B0 s a b n k/\B0 s a b n k<=n+k/\(∀j,n<=j->j<B0 s a b n k->s.getD (a+j) 0=s.getD (b+j) 0)/\(B0 s a b n k=n+k\/s.getD (a+B0 s a b n k) 0≠s.getD (b+B0 s a b n k) 0)
 |0,n=>⟨av _,av _,fun j h1 h2=>by have:j<n:=h2;omega,.inl rfl⟩
 |k+1,n=>by
  unfold B0;by_cases h:s.getD (a+n) 0=s.getD (b+n) 0
  ·rw[ak h];obtain ⟨c1,c2,c3,c4⟩:=GA s a b k (n+1);refine ⟨by omega,by omega,fun j h1 h2=>?_,c4.elim (fun c=> .inl (by omega)) .inr⟩;rcases bX n j with h3|h3
   ·exact c3 j (by omega) h2
   ·have:j=n:=by omega
    subst this;exact h
  ·rw[ah h];exact ⟨av _,by omega,fun j h1 h2=>by omega,.inr h⟩
theorem Vk (s:List UInt8)(a b n k:Nat):B0 s a b n (k+1)=if s.getD (a+n) 0=s.getD (b+n) 0 then B0 s a b (n+1) k else n:=rfl
def CB (s:List UInt8)(p:Nat):Nat:=min 258 (s.length-p)
def Ej (s:List UInt8)(p f:Nat):Nat:=B0 s (p-f) p 0 (CB s p)
def Cl (s:List UInt8)(p:Nat):Nat->Nat×Nat
 |0=>(0,0)
 |F+1=>if (Cl s p F).1<Ej s p (F+1)then (Ej s p (F+1),F+1)else Cl s p F
def Bc (p:Nat):Nat:=min p 32768
theorem fV (s:List UInt8)(p f:Nat):Ej s p f<=CB s p:=by
 have:=(GA s (p-f) p (CB s p) 0).2.1;unfold Ej;omega
theorem Ps (s:List UInt8)(p:Nat):∀F,(Cl s p F).1<=CB s p
 |0=>bz _
 |F+1=>by
  unfold Cl;split
  ·exact fV s p _
  ·exact Ps s p F
theorem fW {s:List UInt8}{p F:Nat}(h:(Cl s p F).1=CB s p):∀d,Cl s p (F+d)=Cl s p F
 |0=>rfl
 |d+1=>by
  have:=fV s p (F+d+1);show (if (Cl s p (F+d)).1<Ej s p (F+d+1)then (Ej s p (F+d+1),F+d+1)else Cl s p (F+d))=_;rw[fW h d,ah (by omega)]
theorem nN {s:List UInt8}{p:Nat}:∀F,(Cl s p F).1=0\/(1<=(Cl s p F).2/\(Cl s p F).2<=F/\(Cl s p F).1=Ej s p (Cl s p F).2)
 |0=> .inl rfl
 |F+1=>by
  unfold Cl;split
  ·exact .inr ⟨by simp,by simp,rfl⟩
  ·rcases nN F with h|⟨h1,h2,h3⟩
   ·exact .inl h
   ·exact .inr ⟨h1,by omega,h3⟩
def Kg (x:Nat×Nat):Nat×Nat:=if x.1<3 then (0,0)else x
theorem wZ {s:List UInt8}{p F:Nat}(h:Ej s p (F+1)<3):Kg (Cl s p (F+1))=Kg (Cl s p F):=by
 conv=>lhs;unfold Cl
 split
 ·rename_i Am;unfold Kg;rw[ak (by show Ej s p (F+1)<3;exact h),ak (by omega)]
 ·rfl
theorem nO {s:List UInt8}{p F:Nat}(h:3<=Ej s p (F+1)):Kg (Cl s p (F+1))=if (Kg (Cl s p F)).1<Ej s p (F+1)then (Ej s p (F+1),F+1)else Kg (Cl s p F):=by
 conv=>lhs;unfold Cl
 by_cases Am:(Cl s p F).1<Ej s p (F+1)
 ·rw[ak Am];unfold Kg;rw[ah (by show ¬Ej s p (F+1)<3;omega)];split
  ·rw[ak (by show 0<Ej s p (F+1);omega)]
  ·first|rw[ak Am]|rfl
 ·rw[ah Am];unfold Kg;rw[ah (by omega),ah Am]
theorem AIi {s:List UInt8}{p f:Nat}(h3:p+3<=s.length)(hf:f<=p):3<=Ej s p f↔((s.drop (p-f)).take 3=(s.drop p).take 3):=by
 have hm:3<=CB s p:=by unfold CB;omega
 obtain ⟨_,c2,c3,c4⟩:=GA s (p-f) p (CB s p) 0;have tk:∀q,q+3<=s.length->(s.drop q).take 3=[s.getD q 0,s.getD (q+1) 0,s.getD (q+2) 0]:=fun q hq=>by
  have g:∀j,j<s.length->s.getD j 0=s[j]! :=fun j hj=>by simp[af,hj]
  rw[aS (by omega),aS (by omega),aS (by omega)];simp only[af,ad (show q<s.length by omega),ad (show q+1<s.length by omega),ad (show q+2<s.length by omega),cN]
  rfl
 rw[tk p h3,tk (p-f) (by omega)];constructor
 ·intro h;have h:3<=B0 s (p-f) p 0 (CB s p):=h;have e0:=c3 0 (by omega) (by omega);have e1:=c3 1 (by omega) (by omega);have e2:=c3 2 (by omega) (by omega);rw[bY,bY]at e0;rw[e0,e1,e2]
 ·intro h;simp only[List.cons.injEq,and_true]at h;obtain ⟨e0,e1,e2⟩:=h;show 3<=B0 s (p-f) p 0 (CB s p);rcases c4 with c4|c4
  ·omega
  ·rcases bX (B0 s (p-f) p 0 (CB s p)) 3 with h|h
   ·have hh:B0 s (p-f) p 0 (CB s p)=0\/B0 s (p-f) p 0 (CB s p)=1\/B0 s (p-f) p 0 (CB s p)=2:=by omega
    rcases hh with hh|hh|hh<;>rw[hh]at c4
    ·exact absurd e0 c4
    ·exact absurd e1 c4
    ·exact absurd e2 c4
   ·exact h
def Be (s:List UInt8):Nat->Nat->List JR
 |0,_=>[]
 |k+1,p=>if s.length<=p then []else if (Cl s p (Bc p)).1<3 then ⟨s.getD p 0,0,0⟩::Be s k (p+1)
  else ⟨0,(Cl s p (Bc p)).1,(Cl s p (Bc p)).2⟩::Be s k (p+(Cl s p (Bc p)).1)
theorem Vm {s:List UInt8}{p f:Nat}(lQ:1<=f)(hf:f<=p):∀n,n<=Ej s p f->p+n<=s.length->copy (s.take p) f n=s.take (p+n)
 |0,_,_=>rfl
 |n+1,h,hl=>by
  show copy (s.take p) f n++[(copy (s.take p) f n).getD ((copy (s.take p) f n).length-f) 0]=_;rw[Vm lQ hf n (by omega) (by omega)];have h1:(s.take (p+n)).length=p+n:=by rw[au];omega
  rw[h1];have h2:(s.take (p+n)).getD (p+n-f) 0=s.getD (p+n-f) 0:=by
   rw[af,aU,ak (by omega),af]
  have h3:s.getD (p+n-f) 0=s.getD (p+n) 0:=by
   have:=(GA s (p-f) p (CB s p) 0).2.2.1 n (by omega) (by unfold Ej at h;omega);rw[show p-f+n=p+n-f by omega]at this;exact this
  rw[h2,h3,<-cC,aO,ad (by omega),af,ad (by omega)]
  rfl
theorem MT (s:List UInt8):∀(k p:Nat),s.length<=p+k->p<=s.length->Fit (Be s k p) (s.take p)/\(Be s k p).foldl Pr (s.take p)=s
 |0,p,h1,h2=>⟨trivial,aX (by omega)⟩
 |k+1,p,h1,h2=>by
  unfold Be;by_cases c1:s.length<=p
  ·rw[ak c1];exact ⟨trivial,aX c1⟩
  ·rw[ah c1];by_cases c2:(Cl s p (Bc p)).1<3
   ·rw[ak c2];have e:Pr (s.take p) ⟨s.getD p 0,0,0⟩=s.take (p+1):=by
     show s.take p++[s.getD p 0]=_;rw[aO,ad (by omega),af,ad (by omega)]
     rfl
    obtain ⟨a,b⟩:=MT s k (p+1) (by omega) (by omega);refine ⟨⟨.inl ⟨rfl,rfl⟩,bz _,by rw[e];exact a⟩,?_⟩;rw[b9,e];exact b
   ·rw[ah c2];obtain ⟨z1,z2,z3⟩:1<=(Cl s p (Bc p)).2/\(Cl s p (Bc p)).2<=Bc p/\(Cl s p (Bc p)).1=Ej s p (Cl s p (Bc p)).2:=by
     rcases nN (s:=s) (p:=p) (Bc p)with h|h
     ·omega
     ·exact h
    have z4:=Ps s p (Bc p);generalize Cl s p (Bc p)=x at c2 z1 z2 z3 z4;unfold Bc at z2;unfold CB at z4;have e:Pr (s.take p) ⟨0,x.1,x.2⟩=s.take (p+x.1):=by
     unfold Pr;rw[ah (by show ¬x.1=0;omega)];exact Vm z1 (by omega) x.1 (by omega) (by omega)
    obtain ⟨a,b⟩:=MT s k (p+x.1) (by omega) (by omega);refine ⟨⟨.inr ⟨rfl,by show 3<=x.1;omega,by show x.1<=258;omega,z1,by show x.2<=32768;omega⟩,?_,by rw[e];exact a⟩,?_⟩
    ·show x.2<=(s.take p).length;rw[au];omega
    ·rw[b9,e];exact b
def Cs (s:List UInt8):List JR:=Be s s.length 0
theorem Yn (s:List UInt8):Fit (Cs s) []/\(Cs s).foldl Pr []=s:=MT s s.length 0 (by omega) (by omega)
theorem Im (s:List UInt8):∀(k d p:Nat),s.length<=p+k->Be s (k+d) p=Be s k p
 |0,0,p,h=>rfl
 |0,d+1,p,h=>by
  show Be s (0+d+1) p=[];unfold Be;rw[ak (by omega)]
 |k+1,d,p,h=>by
  rw[show k+1+d=k+d+1 by omega];unfold Be;split
  ·rfl
  ·rename_i c1;split
   ·rw[Im s k d (p+1) (by omega)]
   ·rename_i c2;rw[Im s k d (p+(Cl s p (Bc p)).1) (by omega)]
theorem KH (s:List UInt8):∀(k p:Nat),(Be s k p).length<=k
 |0,p=>av _
 |k+1,p=>by
  unfold Be;split
  ·simp
  ·split
   ·rw[aA];exact Nat.succ_le_succ (KH s k _)
   ·rw[aA];exact Nat.succ_le_succ (KH s k _)
end A8
namespace A8
open Sh DS
def FC (l:List Int)(AB:Nat):Nat->Nat
 |0=>0
 |n+1=>if AB<n+1/\l.getD n 0=0 then FC l AB n else n+1
theorem EB (l:List Int)(AB:Nat):∀n,FC l AB n<=n/\(AB<=n->AB<=FC l AB n)/\∀j,FC l AB n<=j->j<n->l.getD j 0=0
 |0=>⟨av _,fun h=>h,fun j h1 h2=>by omega⟩
 |n+1=>by
  obtain ⟨a,b,c⟩:=EB l AB n;unfold FC;by_cases h:AB<n+1/\l.getD n 0=0
  ·rw[ak h];refine ⟨by omega,fun _=>b (by omega),fun j h1 h2=>?_⟩;by_cases hj:j=n
   ·subst hj;exact h.2
   ·exact c j h1 (by omega)
  ·rw[ah h];exact ⟨av _,fun h=>h,fun j h1 h2=>by omega⟩
def Trail (l:List Int)(m:Nat):Prop:=∀j,m<=j->l.getD j 0=0
section
variable {l:List Int} {m:Nat}
theorem Trail.cut(l:List Int)(AB:Nat):Trail l (FC l AB l.length):=fun j hj=>by
 by_cases h:j<l.length
 ·exact (EB l AB l.length).2.2 j hj h
 ·rw[af,bF (by omega)];rfl
theorem Pt {j:Nat}(h:j<m):(l.take m).getD j 0=l.getD j 0:=by
 rw[af,aU,ak h,af]
theorem Trail.take(h:Trail l m)(j:Nat):(l.take m).getD j 0=l.getD j 0:=by
 by_cases hj:j<m
 ·exact Pt hj
 ·rw[h j (by omega),af,aU,ah hj]
  rfl
theorem fX (h:Trail l m):∀i,kr (l.take m) i=kr l i
 |0=>rfl
 |i+1=>by
  unfold kr;rw[h.take,fX h i]
theorem KJ (h:Trail l m):∀i,BO (l.take m) i=BO l i
 |0=>rfl
 |i+1=>by
  unfold BO;rw[h.take,KJ h i]
theorem Pv (h:Trail l m):∀i,BG (l.take m) i=BG l i
 |0=>rfl
 |i+1=>by
  unfold BG;rw[h.take,Pv h i]
theorem fY (h:Trail l m):∀d,kr l (m+d)=kr l m
 |0=>rfl
 |d+1=>by
  show kr l (m+d+1)=_;unfold kr;rw[h (m+d) (by omega),ah (by omega),fY h d];cases m<;>rfl
theorem Vn (l:List Int):∀i,0<=BO l i
 |0=>bH _
 |i+1=>by
  have:=Vn l i;unfold BO;split
  ·omega
  ·exact this
theorem KK (h:Trail l m):∀d,BO l (m+d)=BO l m
 |0=>rfl
 |d+1=>by
  have:=Vn l (m+d);show BO l (m+d+1)=_;unfold BO;rw[h (m+d) (by omega),ah (by omega),KK h d];cases m<;>rfl
theorem Pw (h:Trail l m):∀d,BG l (m+d)=BG l m
 |0=>rfl
 |d+1=>by
  show BG l (m+d+1)=_;unfold BG;rw[h (m+d) (by omega),ah (by omega),Pw h d];cases m<;>rfl
theorem Vo (h:Trail l m)(n:Nat):∀i,Gl (l.take m) n i=Gl l n i
 |0=>rfl
 |i+1=>by rw[EC,EC,h.take,Vo h n i]
theorem Vp (h:Trail l m){n:Nat}(hn:0<n):∀d,Gl l n (m+d)=Gl l n m
 |0=>rfl
 |d+1=>by rw[<-cC,EC,h (m+d) (by omega),ah (by omega),Vp h hn d]
variable (h:Trail l m) (hm:m<=l.length)
include h hm
theorem SL {n:Nat}(hn:0<n):idxs (l.take m) n=idxs l n:=by
 unfold idxs;rw[Vo h,au,bo hm,<-Vp h hn (l.length-m),show m+(l.length-m)=l.length by omega]
theorem Tq:Ae (l.take m)=Ae l:=by
 unfold Ae;rw[KJ h,au,bo hm,<-KK h (l.length-m),show m+(l.length-m)=l.length by omega]
theorem Vq (s:ByteArray):∀(k n:Nat) (c f:Int) (p:Nat),0<n->VH (l.take m) s k n c f p=VH l s k n c f p
 |0,n,c,f,p,_=>rfl
 |k+1,n,c,f,p,hn=>by
  have hc:Ft (l.take m) n=Ft l n:=by
   show (idxs (l.take m) n).length=(idxs l n).length;rw[SL h hm hn]
  unfold VH;rw[hc,SL h hm hn,Vq s k (n+1) _ _ _ (by omega)]
theorem Vr (s:ByteArray)(p:Nat):sym (l.take m) s p=sym l s p:=by
 unfold sym;rw[Tq h hm,Vq h hm s _ _ _ _ _ (by decide)]
theorem Vs (hc:DE l=0):DE (l.take m)=0:=by
 have hk:=A5 hc;have hr:=Kw hk;rw[hc]at hr;have YD:NV (l.take m):=⟨by rw[au];have:=hk.len;omega,fun i=>by rw[h.take];exact hk.nn i⟩
 rw[Kw YD,fX h,Pv h,KJ h,au,bo hm];have e:m+(l.length-m)=l.length:=by omega
 have e1:=fY h (l.length-m);have e2:=Pw h (l.length-m);have e3:=KK h (l.length-m);rw[e]at e1 e2 e3;rw[<-e1,<-e2,<-e3];split at hr
 ·rename_i hh;rw[ak hh]
 ·cases hr
end
theorem Ts {s:ByteArray}{far nP:List Int}(hf:∀p,sym nP s p=sym far s p)(most sg:Nat)(out:List UInt8)(p:Nat):copied s nP most sg out p=copied s far most sg out p:=by
 unfold copied;split
 ·rfl
 ·cases num s p (BB (sg-257))with
  |error e=>rfl
  |ok z=>dsimp only;rw[hf]
theorem Io {s:ByteArray}{near AAX far nP:List Int}(hn:∀p,sym AAX s p=sym near s p)(hf:∀p,sym nP s p=sym far s p)(most:Nat):∀(k:Nat) (out:List UInt8) (p:Nat),Ad s AAX nP most k out p=Ad s near far most k out p
 |0,_,_=>rfl
 |k+1,out,p=>by
  unfold Ad;rw[hn];cases sym near s p with
  |error e=>rfl
  |ok z=>
   obtain ⟨sg,p1⟩:=z;dsimp only;rw[Ts hf,Io hn hf most k (out++[UInt8.ofNat sg]) p1];split
   ·rfl
   ·split
    ·cases copied s far most sg out p1 with
     |error e=>rfl
     |ok z=>exact Io hn hf most k _ _
    ·rfl
abbrev Mk:Type:=Nat×Nat×Nat
def runK (l:List Int)(i:Nat)(n:Nat):Nat->Nat
 |0=>n
 |k+1=>if l.getD (i+n) 0=l.getD i 0 then runK l i (n+1) k else n
theorem Gm (l:List Int)(i:Nat):∀(k n:Nat),n<=runK l i n k/\runK l i n k<=n+k/\∀j,n<=j->j<runK l i n k->l.getD (i+j) 0=l.getD i 0
 |0,n=>⟨av _,av _,fun j h1 h2=>by have:j<n:=h2;omega⟩
 |k+1,n=>by
  unfold runK;by_cases h:l.getD (i+n) 0=l.getD i 0
  ·rw[ak h];obtain ⟨a,b,c⟩:=Gm l i k (n+1);refine ⟨by omega,by omega,fun j h1 h2=>?_⟩;by_cases hj:j=n
   ·subst hj;exact h
   ·exact c j (by omega) h2
  ·rw[ah h];exact ⟨av _,by omega,fun j h1 h2=>by omega⟩
def CF (l:List Int)(i:Nat):List Mk×Nat:=
 let n:=runK l i 1 (l.length-(i+1))
 if l.getD i 0=0/\11<=n then ([(18,min n 138-11,7)],min n 138)
 else if l.getD i 0=0/\3<=n then ([(17,n-3,3)],n)
 else if 4<=n then ([((l.getD i 0).toNat,0,0),(16,min n 7-4,2)],min n 7)
 else ([((l.getD i 0).toNat,0,0)],1)
def CQ (l:List Int):Nat->Nat->List Mk
 |0,_=>[]
 |k+1,i=>if l.length<=i then []else (CF l i).1++CQ l k (i+(CF l i).2)
def Hc (acc:List Int)(m:Mk):List Int:=if m.1<16 then acc++[(m.1:Int)]else acc++List.replicate (ED m.1+m.2.1) (if m.1=16 then acc.getD (acc.length-1) 0 else 0)
def Mk.ok(m:Mk):Prop:=m.1<19/\m.2.1<2^m.2.2/\m.2.2=(if m.1<16 then 0 else Hd m.1)
def Vt (many:Nat):List Mk->List Int->Prop
 |[],acc=>acc.length=many
 |m::r,acc=>m.ok/\(m.1=16->acc≠[])/\(Hc acc m).length<=many/\Vt many r (Hc acc m)
theorem nQ (acc:List Int)(m:Mk):acc.length<(Hc acc m).length:=by
 unfold Hc;split
 ·rw[ae];simp
 ·rw[ae,aI];unfold ED;split<;>omega
theorem Px {l:List Int}{i n:Nat}{x:Int}(hl:i+n<=l.length)(h:∀j,j<n->l.getD (i+j) 0=x):l.take i++List.replicate n x=l.take (i+n):=by
 apply db;intro j;by_cases h1:j<i
 ·rw[aG (by rw[au];omega),aU,ak h1,aU,ak (by omega)]
 ·rw[aF (by rw[au];omega),au,bo (by omega),cB,aU];by_cases h2:j<i+n
  ·rw[ak (by omega),ak h2];have:=h (j-i) (by omega);rw[show i+(j-i)=j by omega,af,ad (by omega)]at this;rw[ad (by omega),<-this]
   rfl
  ·rw[ah (by omega),ah h2]
theorem take_one {l:List Int}{i:Nat}(hl:i<l.length):l.take i++[l.getD i 0]=l.take (i+1):=by
 rw[aO,ad hl,af,ad hl]
 rfl
theorem Gn {l:List Int}(hl:∀i,0<=l.getD i 0/\l.getD i 0<=15):∀(k i:Nat),l.length<=i+k->i<=l.length->Vt l.length (CQ l k i) (l.take i)/\(CQ l k i).foldl Hc (l.take i)=l
 |0,i,h1,h2=>⟨by show (l.take i).length=_;rw[au];omega,aX (by omega)⟩
 |k+1,i,h1,h2=>by
  unfold CQ;by_cases c1:l.length<=i
  ·rw[ak c1];exact ⟨by show (l.take i).length=_;rw[au];omega,aX c1⟩
  rw[ah c1];obtain ⟨r1,r2,r3⟩:=Gm l i (l.length-(i+1)) 1;have hx:=hl i;have tl:∀n,i+n<=l.length->(l.take (i+n)).length=i+n:=fun n hn=>by rw[au];omega
  unfold CF;generalize runK l i 1 (l.length-(i+1))=n at r1 r2 r3;have all:∀j,j<n->l.getD (i+j) 0=l.getD i 0:=fun j hj=>by
   cases j with
   |zero=>rfl
   |succ j=>exact r3 (j+1) (by omega) hj
  have SM:Hc (l.take i) ((l.getD i 0).toNat,0,0)=l.take (i+1):=by
   unfold Hc;rw[ak (by show (l.getD i 0).toNat<16;omega),Int.toNat_of_nonneg hx.1];exact take_one (by omega)
  dsimp only;by_cases d1:l.getD i 0=0/\11<=n
  ·rw[ak d1];have e:Hc (l.take i) (18,min n 138-11,7)=l.take (i+min n 138):=by
    unfold Hc;dsimp only;rw[ah (by decide)];have:ED 18+(min n 138-11)=min n 138:=by show 11+_=_;omega
    rw[this,ah (by decide)];exact Px (by omega) fun j hj=>(all j (by omega)).trans d1.1
   obtain ⟨a,b⟩:=Gn hl k (i+min n 138) (by omega) (by omega);rw[ar,ag,b9,e];refine ⟨⟨⟨by show 18<19;decide,by show min n 138-11<128;omega,rfl⟩,fun h=>absurd (show 18=16 from h) (by decide),by rw[e,tl _ (by omega)];omega,by rw[e];exact a⟩,b⟩
  rw[ah d1];by_cases d2:l.getD i 0=0/\3<=n
  ·rw[ak d2];have e:Hc (l.take i) (17,n-3,3)=l.take (i+n):=by
    unfold Hc;dsimp only;rw[ah (by decide)];have:ED 17+(n-3)=n:=by show 3+_=_;omega
    rw[this,ah (by decide)];exact Px (by omega) fun j hj=>(all j hj).trans d2.1
   obtain ⟨a,b⟩:=Gn hl k (i+n) (by omega) (by omega);rw[ar,ag,b9,e];refine ⟨⟨⟨by show 17<19;decide,by show n-3<8;omega,rfl⟩,fun h=>absurd (show 17=16 from h) (by decide),by rw[e,tl _ (by omega)];omega,by rw[e];exact a⟩,b⟩
  rw[ah d2];have jX:Mk.ok ((l.getD i 0).toNat,0,0):=⟨by show (l.getD i 0).toNat<19;omega,by show 0<1;decide,by show 0=if (l.getD i 0).toNat<16 then 0 else _;rw[ak (by omega)]⟩
  have AIj:(l.getD i 0).toNat=16->(l.take i)≠[]:=fun h=>by omega
  by_cases d3:4<=n
  ·rw[ak d3];have e:Hc (l.take (i+1)) (16,min n 7-4,2)=l.take (i+min n 7):=by
    unfold Hc;dsimp only;rw[ah (by decide)];have h3:ED 16+(min n 7-4)=min n 7-1:=by show 3+_=_;omega
    have h4:(l.take (i+1)).getD ((l.take (i+1)).length-1) 0=l.getD i 0:=by
     rw[tl 1 (by omega),cz];exact Pt (by omega)
    rw[h3,ak rfl,h4,Px (by omega) fun j hj=>by rw[show i+1+j=i+(j+1) by omega];exact all (j+1) (by omega)]
    congr 1
    omega
   obtain ⟨a,b⟩:=Gn hl k (i+min n 7) (by omega) (by omega);rw[ar,ar,ag];refine ⟨⟨jX,AIj,by rw[SM,tl 1 (by omega)];omega,?_⟩,?_⟩
   ·rw[SM];refine ⟨⟨by show 16<19;decide,by show min n 7-4<4;omega,rfl⟩,fun _ hh=>?_,by rw[e,tl _ (by omega)];omega,by rw[e];exact a⟩;have:=tl 1 (by omega);rw[hh]at this;simp at this
   ·rw[b9,b9,SM,e];exact b
  ·rw[ah d3];obtain ⟨a,b⟩:=Gn hl k (i+1) (by omega) (by omega);rw[ar,ag];refine ⟨⟨jX,AIj,by rw[SM,tl 1 (by omega)];omega,by rw[SM];exact a⟩,?_⟩;rw[b9,SM];exact b
def EE (l:List Int):List Mk:=CQ l l.length 0
theorem Py {l:List Int}(hl:∀i,0<=l.getD i 0/\l.getD i 0<=15):Vt l.length (EE l) []/\(EE l).foldl Hc []=l:=Gn hl l.length 0 (by omega) (by omega)
def wM (lens:List Int)(st:WS)(m:Mk):WS:=lw (cw lens st m.1) m.2.1 m.2.2
structure Tt (H:List UInt8->Prop) (lens:List Int) (many p0:Nat) (st:WS) (acc:List Int):Prop where
 ok:Ei 1 st
 ge:p0<=pos st
 dec:∀T:List UInt8,Bf 1 (pos st) st.1 T->pos st<=8*T.length->H T/\∃i,i<=pos st/\i<=acc.length/\∀k,CC lens ⟨T.toArray⟩ many (k+i) [] p0=CC lens ⟨T.toArray⟩ many k acc (pos st)
theorem Tt.mark{H:List UInt8->Prop}{lens:List Int}{many p0:Nat}{st:WS}{acc:List Int}(h:Tt H lens many p0 st acc)(hc:DE lens=0){m:Mk}(hm:m.ok)(h16:m.1=16->acc≠[])(hl:(Hc acc m).length<=many)(hg:m.1<lens.length)(nL:0<lens.getD m.1 0):
  Tt H lens many p0 (wM lens st m) (Hc acc m):=by
 have Ada:=nQ acc m;have jX:=SK (lens:=lens) h.ok m.1;obtain ⟨k1,k2,k3⟩:=hm;have HX:pos st<=pos (wM lens st m):=by
  unfold wM cw;rw[Dc (SN h.ok _ _ _),Tu h.ok];omega
 refine ⟨Il jX _ _,cd h.ge HX,fun T ha hT=>?_⟩;unfold wM at ha hT⊢;obtain ⟨x1,x2⟩:=Db jX k2 ha;rw[Dc jX]at hT⊢;obtain ⟨n,n1,a1,a2,a3⟩:=nK hc h.ok hg nL x1;rw[a1]at hT x2⊢;obtain ⟨c1,i,c2,c3,c4⟩:=h.dec T a2 (by omega);refine ⟨c1,i+1,by omega,by omega,fun k=>?_⟩;have:=c4 (k+1);rw[show k+1+i=k+(i+1) by omega]at this;rw[this]
 conv=>lhs;unfold CC
 rw[ah (by omega),a3 (by omega)];dsimp only;unfold Hc at hl⊢;by_cases hs:m.1<16
 ·rw[ak hs]at k3 hl⊢;rw[ak hs,k3,bY]
 ·rw[ah hs]at k3 hl⊢;rw[ah hs,ah (fun hh=>h16 hh.1 (aw hh.2)),<-k3,x2 (by omega)];dsimp only;rw[aa];rw[ae,aI]at hl;rw[ah (by omega)]
theorem Tt.all{H:List UInt8->Prop}{lens:List Int}{many p0:Nat}(hc:DE lens=0):∀(M:List Mk) {st:WS} {acc:List Int},Tt H lens many p0 st acc->Vt many M acc->(∀m∈M,m.1<lens.length/\0<lens.getD m.1 0)->
  Tt H lens many p0 (M.foldl (wM lens) st) (M.foldl Hc acc)/\(M.foldl Hc acc).length=many
 |[],st,acc,h,hf,_=>⟨h,hf⟩
 |m::M,st,acc,h,⟨f1,f2,f3,f4⟩,hm=>by
  have:=hm m (aT ..);exact Tt.all hc M (h.mark hc f1 f2 f3 this.1 this.2) f4 fun x hx=>hm x (aC _ hx)
theorem nR:∀i,i<19->i∈order:=by decide
theorem fZ:∀o∈order,o<19:=by decide
def MU (lens:List Int)(l:List Int)(o:Nat):List Int:=l.set o (lens.getD o 0)
theorem Pz (lens:List Int):∀(os:List Nat) (l:List Int) (i:Nat),(∀o∈os,o<l.length)->(os.foldl (MU lens) l).length=l.length/\(os.foldl (MU lens) l).getD i 0=if i∈os then lens.getD i 0 else l.getD i 0
 |[],l,i,_=>⟨rfl,rfl⟩
 |o::os,l,i,h=>by
  have hl:(MU lens l o).length=l.length:=by unfold MU;rw[br]
  obtain ⟨a,b⟩:=Pz lens os (MU lens l o) i (fun x hx=>by rw[hl];exact h x (aC _ hx));refine ⟨by rw[b9,a,hl],?_⟩;rw[b9,b];by_cases h1:i∈os
  ·rw[ak h1,ak (aC _ h1)]
  ·rw[ah h1];have ho:=h o (aT ..);unfold MU;by_cases h2:i=o
   ·subst h2;rw[ak (aT ..),af,da ho]
    rfl
   ·rw[ah (fun hh=>(aN.1 hh).elim h2 h1),af,List.getElem?_set_ne (fun e=>h2 e.symm),af]
def DM (lens:List Int):List Int:=order.map fun o=>lens.getD o 0
theorem nS {lens:List Int}{n:Nat}(hl:lens.length=19)(hn:Trail (DM lens) n):(order.take n).foldl (MU lens) (List.replicate 19 0)=lens:=by
 have Am:∀o∈order.take n,o<(List.replicate 19 (0:Int)).length:=fun o ho=>by rw[aI];exact fZ o (cE ho)
 have hlen:=(Pz lens (order.take n) (List.replicate 19 0) 0 Am).1;rw[aI]at hlen;apply List.ext_getElem
 ·rw[hlen,hl]
 ·intro i h1 h2;have hg:=(Pz lens (order.take n) (List.replicate 19 0) i Am).2;have e1:((order.take n).foldl (MU lens) (List.replicate 19 0)).getD i 0=((order.take n).foldl (MU lens) (List.replicate 19 0))[i]:=by rw[af,ad h1];rfl
  have e2:lens.getD i 0=lens[i]:=by rw[af,ad h2];rfl
  rw[<-e1,<-e2,hg];split
  ·rfl
  ·rename_i Kf;obtain ⟨j,hj⟩:=cZ (nR i (by omega));have hjn:n<=j:=by
    rcases bX j n with h|h
    ·exact absurd (aB (by rw[aU,ak h];exact hj)) Kf
    ·exact h
   have hz:=hn j hjn;unfold DM at hz;rw[af,aE,hj]at hz;have hz:lens.getD i 0=0:=hz;rw[hz,af,cB];split<;>rfl
def wO (lens:List Int)(st:WS)(o:Nat):WS:=lw st (lens.getD o 0).toNat 3
theorem fc {lens:List Int}(h7:∀i,0<=lens.getD i 0/\lens.getD i 0<=7):∀(os:List Nat) {st:WS} {T:List UInt8} {l:List Int},Ei 1 st->Ei 1 (os.foldl (wO lens) st)/\pos (os.foldl (wO lens) st)=pos st+3*os.length/\
  (Bf 1 (pos (os.foldl (wO lens) st)) (os.foldl (wO lens) st).1 T->Bf 1 (pos st) st.1 T/\(pos st+3*os.length<=8*T.length->CR ⟨T.toArray⟩ os l (pos st)= .ok (os.foldl (MU lens) l,pos st+3*os.length)))
 |[],st,T,l,h=>⟨h,rfl,fun ha=>⟨ha,fun _=>rfl⟩⟩
 |o::os,st,T,l,h=>by
  have h1:Ei 1 (wO lens st o):=Il h _ _;obtain ⟨a,b,c⟩:=fc h7 os (T:=T) (l:=MU lens l o) h1;have hp:pos (wO lens st o)=pos st+3:=Dc h _ _;rw[b9,b9];refine ⟨a,by rw[b,hp,aA];omega,fun ha=>?_⟩;obtain ⟨d,e⟩:=c ha;have hv:(lens.getD o 0).toNat<2^3:=by have:=h7 o;omega
  obtain ⟨f,g⟩:=Db h hv d;refine ⟨f,fun hT=>?_⟩;rw[aA]at hT⊢;unfold CR;rw[g (by omega)];dsimp only;have Ti:l.set o ((lens.getD o 0).toNat:Int)=MU lens l o:=by unfold MU;rw[Int.toNat_of_nonneg (h7 o).1]
  rw[Ti];have:=e (by rw[hp];omega);rw[hp]at this;rw[this]
  congr 2
  omega
end A8
set_option maxRecDepth 512
set_option maxHeartbeats 200000
namespace Pm
inductive Tr where
 |leaf (sign:Nat) (wt:Int)
 |node (a b:Tr)
instance:Inhabited Tr:=⟨.leaf 0 0⟩
def Tr.w:Tr->Int
 | .leaf _ w=>w
 | .node a b=>a.w+b.w
def Tr.Ft(i:Nat):Tr->Nat
 | .leaf s _=>if s=i then 1 else 0
 | .node a b=>a.Ft i+b.Ft i
def Tr.VU:Tr->Nat
 | .leaf s _=>s
 | .node _ _=>0
def HE:List Tr->List Tr
 |a::b::r=> .node a b::HE r
 |_=>[]
abbrev Up (l:List Tr):Prop:=l.Pairwise fun a b=>a.w<=b.w
def le (a b:Tr):Bool:=decide (a.w<=b.w)
def mg (l m:List Tr):List Tr:=List.merge l m le
def cs (i:Nat):List Tr->Nat
 |[]=>0
 |t::r=>t.Ft i+cs i r
def ws:List Tr->Int
 |[]=>0
 |t::r=>t.w+ws r
theorem Uo (i:Nat):∀l m,cs i (l++m)=cs i l+cs i m
 |[],m=>by simp[cs]
 |t::r,m=>by
  have:=Uo i r m;simp only[ar,cs];omega
theorem sf:∀l m,ws (l++m)=ws l+ws m
 |[],m=>by simp[ws]
 |t::r,m=>by
  have:=sf r m;simp only[ar,ws];omega
theorem yu {i:Nat}{l m:List Tr}(h:l.Perm m):cs i l=cs i m:=by
 induction h with
 |nil=>rfl
 |cons x _ ih=>simp only[cs];omega
 |swap x y l=>simp only[cs];omega
 |trans _ _ h1 h2=>omega
theorem yv {l m:List Tr}(h:l.Perm m):ws l=ws m:=by
 induction h with
 |nil=>rfl
 |cons x _ ih=>simp only[ws];omega
 |swap x y l=>simp only[ws];omega
 |trans _ _ h1 h2=>omega
theorem N0 (l:List Tr):mg [] l=l:=by unfold mg;simp[List.merge]
theorem LY (l:List Tr):mg l []=l:=by unfold mg;cases l<;>simp[List.merge]
theorem AFW {a b:Tr}{l m:List Tr}(h:a.w<=b.w):mg (a::l) (b::m)=a::mg l (b::m):=by
 unfold mg;exact List.cons_merge_cons_pos _ _ _ (by simpa[le]using h)
theorem AFX {a b:Tr}{l m:List Tr}(h:¬a.w<=b.w):mg (a::l) (b::m)=b::mg (a::l) m:=by
 unfold mg;exact List.cons_merge_cons_neg _ _ _ (by simpa[le]using h)
theorem LZ (l m:List Tr):(mg l m).Perm (l++m):=List.merge_perm_append _
theorem ABa {l m:List Tr}(h:Up l)(k:Up m):Up (mg l m):=by
 have:=List.pairwise_merge (le:=le) (fun a b c h1 h2=>by simp only[le,bP]at*;omega) (fun a b=>by simp only[le,ck,bP];omega) l m
  (h.imp fun h=>by simpa[le]using h) (k.imp fun h=>by simpa[le]using h)
 exact this.imp fun h=>by simpa[le]using h
theorem si (l m:List Tr):(mg l m).length=l.length+m.length:=by rw[(LZ l m).length_eq,ae]
theorem Zo:∀(n:Nat) (l m:List Tr),n<=l.length+m.length->∃A K,A+K=n/\A<=l.length/\K<=m.length/\((mg l m).take n).Perm (l.take A++m.take K)/\((mg l m).drop n).Perm (l.drop A++m.drop K)
 |0,l,m,_=>⟨0,0,rfl,bz _,bz _,by simp,by simpa using LZ l m⟩
 |n+1,[],m,h=>⟨0,n+1,by omega,av _,by simpa using h,by rw[N0];simp,by rw[N0];simp⟩
 |n+1,a::l,[],h=>⟨n+1,0,by omega,by simpa using h,av _,by rw[LY];simp,by rw[LY];simp⟩
 |n+1,a::l,b::m,h=>by
  simp only[aA]at h;by_cases mB:a.w<=b.w
  ·obtain ⟨A,K,h1,h2,h3,h4,h5⟩:=Zo n l (b::m) (by simp only[aA];omega);rw[AFW mB];exact ⟨A+1,K,by omega,by simp only[aA];omega,h3,by simpa using h4,by simpa using h5⟩
  ·obtain ⟨A,K,h1,h2,h3,h4,h5⟩:=Zo n (a::l) m (by simp only[aA];omega);rw[AFX mB];refine ⟨A,K+1,by omega,h2,by simp only[aA];omega,?_,by simpa using h5⟩;simp only[List.take_succ_cons];exact (List.Perm.cons b h4).trans List.perm_middle.symm
theorem Jg:∀l:List Tr,(HE l).length=l.length/2
 |[]=>rfl
 |[_]=>by simp[HE]
 |a::b::r=>by
  have:=Jg r;simp only[HE,aA,this];omega
theorem JD:∀(K:Nat) (l:List Tr),HE (l.take (2*K))=(HE l).take K
 |0,l=>by simp[HE]
 |K+1,[]=>by simp[HE]
 |K+1,[a]=>by
  rw[show 2*(K+1)=2*K+1+1 by omega];simp[HE]
 |K+1,a::b::r=>by
  rw[show 2*(K+1)=2*K+1+1 by omega];simp only[List.take_succ_cons,HE];rw[JD K r]
theorem Uq:∀(K:Nat) (l:List Tr) (p:Tr),(HE l)[K]?=some p->∃x y,l[2*K]?=some x/\l[2*K+1]?=some y/\p= .node x y
 |K,[],p,h=>by simp[HE]at h
 |K,[a],p,h=>by simp[HE]at h
 |0,a::b::r,p,h=>⟨a,b,rfl,rfl,by simpa[HE]using h.symm⟩
 |K+1,a::b::r,p,h=>by
  obtain ⟨x,y,h1,h2,h3⟩:=Uq K r p (by simpa[HE]using h);refine ⟨x,y,?_,?_,h3⟩
  ·rw[show 2*(K+1)=2*K+1+1 by omega];simpa using h1
  ·rw[show 2*(K+1)+1=2*K+1+1+1 by omega];simpa using h2
theorem sj (i:Nat):∀l:List Tr,l.length%2=0->cs i (HE l)=cs i l
 |[],_=>rfl
 |[_],h=>by simp at h
 |a::b::r,h=>by
  have:=sj i r (by simp only[aA]at h;omega);simp only[HE,cs,Tr.Ft];omega
theorem sq:∀l:List Tr,(∀t∈l,0<=t.w)->ws (HE l)<=ws l
 |[],_=>bH _
 |[a],h=>by
  have:=h a (by simp);simp only[HE,ws];omega
 |a::b::r,h=>by
  have:=sq r fun t ht=>h t (by simp[ht])
  simp only[HE,ws,Tr.w];omega
theorem PD:∀(l:List Tr) (t:Tr),t∈HE l->∃a∈l,∃b∈l,t= .node a b
 |[],t,h=>by simp[HE]at h
 |[_],t,h=>by simp[HE]at h
 |a::b::r,t,h=>by
  simp only[HE,aN]at h;rcases h with rfl|h
  ·exact ⟨a,by simp,b,by simp,rfl⟩
  ·obtain ⟨x,hx,y,hy,e⟩:=PD r t h;exact ⟨x,by simp[hx],y,by simp[hy],e⟩
theorem Ur:∀l:List Tr,Up l->Up (HE l)
 |[],_=>List.Pairwise.nil
 |[_],_=>List.Pairwise.nil
 |a::b::r,h=>by
  obtain ⟨h1,h2⟩:=bn.1 h;obtain ⟨h3,h4⟩:=bn.1 h2;refine bn.2 ⟨fun t ht=>?_,Ur r h4⟩;obtain ⟨x,hx,y,hy,rfl⟩:=PD r t ht;have:=h1 x (by simp[hx]);have:=h3 y hy;simp only[Tr.w];omega
def rows (S:List Tr):Nat->List Tr
 |0=>S
 |k+1=>mg S (HE (rows S k))
theorem XP (S:List Tr)(k:Nat):(rows S (k+1)).length=S.length+(rows S k).length/2:=by
 show (mg S (HE (rows S k))).length=_;rw[si,Jg]
theorem Ut {S:List Tr}(h:Up S):∀k,Up (rows S k)
 |0=>h
 |k+1=>ABa h (Ur _ (Ut h k))
theorem Sn {S:List Tr}:∀(k m:Nat),S.length<=2^m->k<=m->2*S.length<=(rows S k).length+2^(m-k)
 |0,m,h,_=>by show 2*S.length<=S.length+2^(m-0);rw[bM];omega
 |k+1,m,h,hk=>by
  have ih:=Sn k m h (by omega);have e:2^(m-k)=2*2^(m-(k+1)):=by
   rw[show m-k=(m-(k+1))+1 by omega,dm];omega
  rw[XP];omega
structure Lv (S:List Tr):Prop where
 leaf:∀t∈S,∃s w,t= .leaf s w/\0<w
 up:Up S
 one:(S.map Tr.VU).Nodup
theorem HF {S:List Tr}(h:Lv S):∀k,∀t∈rows S k,0<t.w
 |0,t,ht=>by
  obtain ⟨s,w,rfl,h0⟩:=h.leaf t ht;exact h0
 |k+1,t,ht=>by
  rcases aQ.1 ((LZ _ _).mem_iff.1 ht)with h1|h1
  ·obtain ⟨s,w,rfl,h0⟩:=h.leaf t h1;exact h0
  ·obtain ⟨a,ha,b,hb,rfl⟩:=PD _ _ h1;have:=HF h k a ha;have:=HF h k b hb;simp only[Tr.w];omega
theorem iI {S:List Tr}(h:Lv S):∀k,ws (rows S k)<=(k+1:Nat)*ws S
 |0=>by show ws S<=_;simp
 |k+1=>by
  have ih:=iI h k;show ws (mg S (HE (rows S k)))<=_;rw[yv (LZ _ _),sf];have:=sq (rows S k) fun t ht=>dO (HF h k t ht)
  have e:((k+1+1:Nat):Int)*ws S=((k+1:Nat):Int)*ws S+ws S:=by
   rw[dJ (k+1) 1,Int.add_mul];simp
  omega
theorem sr:∀{l:List Tr},(∀t∈l,0<=t.w)->∀t∈l,t.w<=ws l
 |[],_,t,h=>by cases h
 |a::r,h,t,ht=>by
  have h0:0<=ws r:=by
   clear ht;have:∀r:List Tr,(∀t∈r,0<=t.w)->0<=ws r:=fun r=>by
    induction r with
    |nil=>intro _;exact bH _
    |cons x r ih=>
     intro h;have:=ih fun t ht=>h t (by simp[ht])
     have:=h x (by simp);simp only[ws];omega
   exact this r fun t ht=>h t (by simp[ht])
  have ha:=h a (by simp);simp only[ws];rcases aN.1 ht with rfl|ht
  ·omega
  ·have:=sr (fun t ht=>h t (by simp[ht])) t ht;omega
def Ec (f:Nat->Nat):Nat->Nat
 |0=>0
 |n+1=>Ec f n+f n
theorem Sp (m:Nat):∀n,m<=n->Ec (fun r=>2^(15-if r<m then 1 else 0)) n+m*16384=n*32768
 |0,h=>by
  have:m=0:=by omega
  subst this
  rfl
 |n+1,h=>by
  simp only[Ec];by_cases hm:m=n+1
  ·have:∀k,k<=n+1->Ec (fun r=>2^(15-if r<m then 1 else 0)) k=k*16384:=fun k=>by
    induction k with
    |zero=>intro _;simp[Ec]
    |succ k ih=>
     intro hk;simp only[Ec];rw[ih (by omega),ak (by omega)];omega
   rw[this n (by omega),ak (by omega)];omega
  ·have:=Sp m n (by omega);rw[ah (by omega)];omega
theorem XQ {f g:Nat->Nat}{A:Nat}:∀n,A<=n->(∀r,r<n->2*f r=g r+if r<A then 0 else 32768)->2*Ec f n+A*32768=Ec g n+n*32768
 |0,h,_=>by
  have:A=0:=by omega
  subst this
  rfl
 |n+1,h,hf=>by
  have hn:=hf n (by omega);by_cases hA:A=n+1
  ·have:∀k,k<=n+1->2*Ec f k=Ec g k:=fun k=>by
    induction k with
    |zero=>intro _;rfl
    |succ k ih=>
     intro hk;have h1:=hf k (by omega);rw[ak (by omega)]at h1;have:=ih (by omega);simp only[Ec];omega
   have:=this (n+1) (by omega);omega
  ·have ih:=XQ n (by omega) fun r hr=>hf r (by omega)
   rw[ah (by omega)]at hn;simp only[Ec];omega
theorem XR {f:Nat->Nat}:∀{n r:Nat},(∀r,r<n->1<=f r)->r<n->f r+(n-1)<=Ec f n
 |0,r,_,h=>by omega
 |n+1,r,hf,h=>by
  have h2:n<=Ec f n:=by
   clear h
   induction n with
   |zero=>exact bz _
   |succ n ih=>
    have:=ih fun r hr=>hf r (by omega)
    have:=hf n (by omega);simp only[Ec];omega
  simp only[Ec];by_cases e:r=n
  ·subst e;omega
  ·have:=XR (n:=n) (r:=r) (fun r hr=>hf r (by omega)) (by omega);have:=hf n (by omega);omega
def sg (S:List Tr)(r:Nat):Nat:=(S.getD r default).VU
theorem Lv.at{S:List Tr}(h:Lv S){r:Nat}(hr:r<S.length):∃w,S[r]= .leaf (sg S r) w/\0<w:=by
 obtain ⟨s,w,e,h0⟩:=h.leaf S[r] (bZ hr);refine ⟨w,?_,h0⟩;unfold sg;rw[af,ad hr];simp only[cN];rw[e]
 rfl
theorem Lv.inj{S:List Tr}(h:Lv S){r q:Nat}(hr:r<S.length)(hq:q<S.length)(e:sg S r=sg S q):r=q:=by
 have h1:(S.map Tr.VU)[r]'(by simpa using hr)=sg S r:=by
  unfold sg;rw[af,ad hr];simp
 have h2:(S.map Tr.VU)[q]'(by simpa using hq)=sg S q:=by
  unfold sg;rw[af,ad hq];simp
 exact (List.getElem_inj h.one).1 (h1.trans (e.trans h2.symm))
theorem Lv.Jh{S:List Tr}(h:Lv S)(i:Nat):∀A,A<=S.length->(∀r,r<S.length->sg S r=i->cs i (S.take A)=if r<A then 1 else 0)/\((∀r,r<S.length->sg S r≠i)->cs i (S.take A)=0)
 |0,_=>⟨fun r _ _=>by simp[cs],fun _=>by simp[cs]⟩
 |A+1,hA=>by
  obtain ⟨h1,h2⟩:=h.Jh i A (by omega);obtain ⟨w,e,_⟩:=h.at (r:=A) (by omega);have ht:S.take (A+1)=S.take A++[S[A]]:=by rw[aO,ad (by omega)];rfl
  have hc:cs i (S.take (A+1))=cs i (S.take A)+if sg S A=i then 1 else 0:=by
   rw[ht,Uo,e];simp[cs,Tr.Ft]
  refine ⟨fun r hr hs=>?_,fun hn=>?_⟩
  ·rw[hc,h1 r hr hs];by_cases e2:r=A
   ·subst e2;rw[ak hs,ah (by omega),ak (by omega)]
   ·rw[ah (c:=sg S A=i) (fun hh=>e2 (h.inj hr (by omega) (hs.trans hh.symm)))];split<;>split<;>omega
  ·rw[hc,h2 hn,ah (hn A (by omega))]
theorem AFY {l:List Tr}(h:Up l){m:Nat}{x y:Tr}(hx:x∈l.take m)(hy:y∈l.drop m):x.w<=y.w:=by
 have:=h;rw[<-aW m l]at this;exact (bT.1 this).2.2 x hx y hy
theorem ss {S:List Tr}(h:Lv S):∀k,k<=14->∀m,m<=(rows S k).length->∃(A:Nat) (D:Nat->Nat),A<=S.length/\(m=0->A=0)/\(∀r,r<S.length->D r<=k+1/\(0<D r↔r<A))/\
  (∀t∈S.take A,t∈(rows S k).take m)/\(∀r,r<S.length->cs (sg S r) ((rows S k).take m)=D r)/\(∀i,(∀r,r<S.length->sg S r≠i)->cs i ((rows S k).take m)=0)/\
  Ec (fun r=>2^(15-D r)) S.length+m*16384=S.length*32768
 |0,_,m,hm=>by
  have hm:m<=S.length:=hm;refine ⟨m,fun r=>if r<m then 1 else 0,hm,fun h=>h,fun r _=>?_,fun t h=>h,fun r hr=>(h.Jh _ m hm).1 r hr rfl,fun i hi=>(h.Jh i m hm).2 hi,Sp m _ hm⟩;dsimp only;split<;>omega
 |k+1,hk,m,hm=>by
  have hup:=Ut h.up k;have hlen:(HE (rows S k)).length=(rows S k).length/2:=Jg _;obtain ⟨A,K,hAK,hA,hK,ht,hd⟩:=Zo m S (HE (rows S k)) (by rw[<-si];exact hm);obtain ⟨A',D',b1,b2,b3,b4,b5,b6,b7⟩:=ss h k (by omega) (2*K) (by omega);have hle:A'<=A:=by
   rcases bX A A' with Am|MD
   ·exfalso;have hK0:K≠0:=fun e=>by have:=b2 (by omega);omega
    obtain ⟨p,hp⟩:∃p,(HE (rows S k))[K-1]?=some p:=⟨_,ad (by omega)⟩
    obtain ⟨x,y,hx,hy,rfl⟩:=Uq _ _ _ hp;have hAS:A<S.length:=by omega
    have m1:S[A]∈(rows S k).take (2*K):=b4 _ (by
     rw[List.mem_take_iff_getElem];exact ⟨A,by omega,rfl⟩)
    have l1:(S[A]).w<=y.w:=by
     obtain ⟨i,hi⟩:=bU.1 m1;rw[aU]at hi;split at hi
     ·rename_i SE;by_cases e:i=2*(K-1)+1
      ·subst e;rw[hy]at hi;cases hi;exact bH _
      ·obtain ⟨li,e1⟩:=ao.1 hi;obtain ⟨ly,e2⟩:=ao.1 hy;have:=List.pairwise_iff_getElem.1 hup i (2*(K-1)+1) li ly (by omega);rw[e1,e2]at this;exact this
     ·cases hi
    have l2:(Tr.node x y).w<=(S[A]).w:=by
     refine AFY (ABa h.up (Ur _ hup)) (m:=m) (ht.mem_iff.2 (di _ ?_)) (hd.mem_iff.2 (cF _ ?_))
     ·obtain ⟨lp,ep⟩:=ao.1 hp;rw[List.mem_take_iff_getElem];exact ⟨K-1,by omega,ep⟩
     ·rw[List.mem_drop_iff_getElem];exact ⟨0,by omega,by simp⟩
    have l3:=HF h k x (aB hx);simp only[Tr.w]at l2;omega
   ·exact MD
  have Oj:∀i,cs i ((rows S (k+1)).take m)=cs i (S.take A)+cs i ((rows S k).take (2*K)):=fun i=>by
   show cs i ((mg S (HE (rows S k))).take m)=_;rw[yu ht,Uo,<-JD,sj i _ (by rw[au];omega)]
  refine ⟨A,fun r=>(if r<A then 1 else 0)+D' r,hA,fun e=>by omega,fun r hr=>?_,fun t htt=>ht.mem_iff.2 (cF _ htt),fun r hr=>?_,fun i hi=>?_,?_⟩
  ·obtain ⟨c1,c2⟩:=b3 r hr;dsimp only;split<;>omega
  ·rw[Oj,(h.Jh _ A hA).1 r hr rfl,b5 r hr]
  ·rw[Oj,(h.Jh i A hA).2 hi,b6 i hi]
  ·have:=XQ (f:=fun r=>2^(15-((if r<A then 1 else 0)+D' r))) (g:=fun r=>2^(15-D' r)) (A:=A) S.length hA fun r hr=>by
    obtain ⟨c1,c2⟩:=b3 r hr;split
    ·rw[show 15-D' r=(15-(1+D' r))+1 by omega,dm];omega
    ·have:D' r=0:=by omega
     rw[this]
   show Ec (fun r=>2^(15-((if r<A then 1 else 0)+D' r))) S.length+m*16384=_;omega
theorem yw {S:List Tr}(h:Lv S){k:Nat}(hk:k<=14)(h2:2<=S.length)(hm:2*S.length-2<=(rows S k).length):∃D:Nat->Nat,(∀r,r<S.length->1<=D r/\D r<=k+1)/\(∀r,r<S.length->cs (sg S r) ((rows S k).take (2*S.length-2))=D r)/\
  (∀i,(∀r,r<S.length->sg S r≠i)->cs i ((rows S k).take (2*S.length-2))=0)/\Ec (fun r=>2^(15-D r)) S.length=32768:=by
 obtain ⟨A,D,b1,b2,b3,b4,b5,b6,b7⟩:=ss h k hk _ hm;have e:Ec (fun r=>2^(15-D r)) S.length=32768:=by omega
 refine ⟨D,fun r hr=>⟨?_,(b3 r hr).1⟩,b5,b6,e⟩;rcases Nat.eq_zero_or_pos (D r)with h0|h0
 ·exfalso;have:=XR (f:=fun r=>2^(15-D r)) (n:=S.length) (r:=r) (fun r _=>cY (by decide)) hr;rw[h0]at this;omega
 ·exact h0
end Pm
end Go.Proofs.YtdmmgclkphaaaaaGreatDoor

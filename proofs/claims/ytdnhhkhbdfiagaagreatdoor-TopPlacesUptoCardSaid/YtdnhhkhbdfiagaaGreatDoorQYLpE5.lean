/- Joined texts of the proof; conditions stand in each theorem. -/
import Derived.Test.YtdnhhkhbdfiagaaGreatDoorQYLpE1
import Derived.Test.YtdnhhkhbdfiagaaGreatDoorQYLpE4
import Derived.Lib.ItoaLen
import Derived.Lib.LaidTab
import Derived.Test.YtdnhhkhbdfiagaaGreatDoorQYLpE2
import Derived.Lib.IndexAny
set_option linter.unusedVariables false
set_option linter.unusedSimpArgs false
open Go.IntKind (wrap)
open Go.Proofs.Tryz (prog)
namespace Go.Proofs.YtdnhhkhbdfiagaaGreatDoor
set_option maxRecDepth 4000
set_option maxHeartbeats 2000000
namespace Ov
open Sh
structure Bu (w0 w:World) (b:Nat) (p:Option Addr) (sl:AA) (l:List UInt8):Prop where
 lo:w0.heap.size<=b
 ptr:p=none\/p=some ⟨b,0,none⟩
 AR:AN w b #[.pointer p,AA.v sl] 63
 row:w.ownsRow w0.heap.size 5 1 (AA.v sl) l.length (Lib.byteCells l)
structure Wr (w0 w w':World):Prop where
 ext:Ext (fun j=>w0.heap.size<=j) w w'
 AB:∀j cs t,t≠63->t≠5->AN w j cs t->AN w' j cs t
 oU:∀(j:Nat) (o:Obj),(∀cs t z,o≠ .cells cs t z)->w.heap[j]?=some o->w'.heap[j]?=some o
theorem Wr.refl(w0 w:World):Wr w0 w w:=⟨Ext.refl _ _,fun _ _ _ _ _ h=>h,fun _ _ _ h=>h⟩
theorem Wr.tr{w0 a b c:World}(h:Wr w0 a b)(k:Wr w0 b c):Wr w0 a c:=⟨h.ext.tr k.ext,fun j cs t h1 h2 hb=>k.AB j cs t h1 h2 (h.AB j cs t h1 h2 hb),fun j o h1 h2=>k.oU j o h1 (h.oU j o h1 h2)⟩
theorem Wr.of{w0 a b:World}(h:Ext (fun _=>False) a b):Wr w0 a b:=⟨h.mono fun _ _ e=>e.elim,fun j cs t _ _ hb=>h.AR hb id,fun j o _ ho=>(h.block j (aj.1 ho).1 id).trans ho⟩
theorem Bu.AB{w0 w w':World}{b:Nat}{p:Option Addr}{sl:AA}{l:List UInt8}(h:Bu w0 w b p sl l)(he:Ext (fun _=>False) w w'):Bu w0 w' b p sl l:=
 ⟨h.lo,h.ptr,he.AR h.AR id,h.row.kept (row:=none) ⟨he.os,he.tape,he.output,he.size,fun k hk _=>he.block k hk id⟩ (by
  cases ho:(AA.v sl).ownBlock with
  |none=>exact .inl rfl
  |some g=>exact .inr (by simp))⟩
theorem Z6 {w0 w:World}{b:Nat}{p:Option Addr}{sl:AA}{l:List UInt8}(h:Bu w0 w b p sl l):C40 (some ⟨b,0,none⟩) w fun w'=>Bu w0 w' b (some ⟨b,0,none⟩) sl l/\Wr w0 w w':=by
 have c0:w.cell? ⟨b,0,none⟩=some (.pointer p):=h.AR.cell 0;rcases h.ptr with rfl|rfl
 ·refine (Ti b w c0 (by have:=h.AR;unfold AN at this;simp[World.shape?,this]) (h.AR.frozen 0)).mono ?_;rintro e w' ⟨rfl,rfl⟩;refine ⟨rfl,⟨h.lo,.inr rfl,h.AR.set 0 _,h.row.kept (row:=some b) ⟨rfl,rfl,rfl,by simp[World.setCell],fun k _ hk=>Go.RowKit.Below.heap_setCell _ _ _ _ (fun e=>hk (by simp[e]))⟩ (.inr (Lib.ownBlock_ne h.row h.AR (by decide)))⟩,⟨(Ext.refl _ w).set (.inl h.lo) _,fun j cs t h1 h2 hb=>hb.zq fun e=>?_,fun j o h1 ho=>?_⟩⟩
  ·subst e;exact h1 (Z7 hb h.AR)
  ·have BI:j≠b:=fun e=>by
    subst e;have hb:=h.AR;unfold AN at hb;rw[hb]at ho;exact h1 _ _ _ (aQ ho).symm
   exact (((Ext.refl (·=b) w).set (b:=b) (o:=0) (.inl rfl) _).block j (aj.1 ho).1 BI).trans ho
 ·refine (Xn b w c0).mono ?_;rintro e w' ⟨rfl,rfl⟩;exact ⟨rfl,h,Wr.refl _ _⟩
theorem Z8 (a b:List UInt8):Lib.byteCells (a++b)=Lib.byteCells a++Lib.byteCells b:=by simp[Lib.byteCells]
theorem Bu.put{w0 w1 w2:World}{b:Nat}{p:Option Addr}{sl:AA}{l m:List UInt8}{v':Value}(h:Bu w0 w1 b p sl l)(Ev:w2.ownsRow w0.heap.size 5 1 v' m.length (Lib.byteCells m))(hg:w1.grownBy w2 (AA.v sl).ownBlock):
  ∃Bq,v'=AA.v Bq/\V3 w2 ⟨b,1,none⟩/\Bu w0 (w2.setCell ⟨b,1,none⟩ v') b p Bq m/\Wr w0 w1 (w2.setCell ⟨b,1,none⟩ v'):=by
 obtain ⟨Bq,rfl⟩:∃Bq,v'=AA.v Bq:=by
  rcases Ev.2 with ⟨rfl,_⟩|⟨g,cap,cur,rfl,_⟩
  ·exact ⟨⟨none,0,0⟩,rfl⟩
  ·exact ⟨⟨some ⟨g,0,none⟩,_,cap⟩,rfl⟩
 have G7:AN w2 b #[.pointer p,AA.v sl] 63:=by
  have:=h.AR;unfold AN at this⊢;rw[hg.block b h.AR.lt fun e=>Lib.ownBlock_ne h.row h.AR (by decide) e.symm];exact this
 refine ⟨Bq,rfl,G7.can (Nat.lt_succ_self 1),⟨h.lo,h.ptr,G7.set 1 _,Ev.kept (row:=some b) ⟨rfl,rfl,rfl,by simp[World.setCell],fun k _ hk=>Go.RowKit.Below.heap_setCell _ _ _ _ (fun e=>hk (by simp[e]))⟩ (.inr (Lib.ownBlock_ne Ev G7 (by decide)))⟩,?_,fun j cs t h1 h2 hb=>?_,fun j o h1 ho=>?_⟩
 ·have e:Ext (fun j=>w0.heap.size<=j) w1 w2:=⟨hg.os,hg.tape,hg.output,hg.size,fun k hk hn=>hg.block k hk fun e=>hn (h.row.lt k e.symm).1⟩
  exact e.set (.inl h.lo) _
 ·have Qo:AN w2 j cs t:=by
   have:=hb;unfold AN at this⊢;rw[hg.block j hb.lt fun e=>Lib.ownBlock_ne h.row hb h2 e.symm];exact this
  refine Qo.zq fun e=>?_
  subst e;exact h1 (Z7 Qo G7)
 ·have Au:=(aj.1 ho).1;have h2:w2.heap[j]?=some o:=(hg.block j Au fun e=>by
   rcases h.row.2 with ⟨hv,_⟩|⟨g,cap,cur,hv,_,hc,_⟩
   ·rw[hv]at e;cases e
   ·rw[hv]at e;have e:some j=some g:=e;cases e;rw[hc]at ho;exact h1 _ _ _ (aQ ho).symm).trans ho
  have BI:j≠b:=fun e=>by
   subst e;unfold AN at G7;rw[G7]at h2;exact h1 _ _ _ (aQ h2).symm
  exact (((Ext.refl (·=b) w2).set (b:=b) (o:=1) (.inl rfl) _).block j (aj.1 h2).1 BI).trans h2
attribute [local irreducible] Ld Nw Nn Lt AU
theorem EA {w0 w:World}{b:Nat}{p:Option Addr}{sl:AA}{l:List UInt8}{s:ByteArray}(h:Bu w0 w b p sl l)(hs:l.length+s.size<=1099511627776):O0 (some ⟨b,0,none⟩) s w fun _ _ w'=>∃Bq,Bu w0 w' b (some ⟨b,0,none⟩) Bq (l++s.data.toList)/\Wr w0 w w':=by
 refine T19 _ _ _ _ ?_;unfold S19;refine (Z6 h).mono ?_;rintro w1 ⟨h1,k1⟩;refine Nn.of (Ld.of (x:=sl) h1.AR rfl ?_);obtain ⟨i0,hi,je,zr,hz2⟩:=info_parts Tryz.Be.infoByte;have Au:=h1.AR.lt;have zt:=h1.lo;obtain ⟨v',w2,Dg,Ev,Z9,_⟩:=Lib.run_append_own_string (P:=prog) w1 w0.heap.size 61 9 61 5 i0 Cm HC hi je zr hz2 (AA.v sl) l.length (Lib.byteCells l) h1.row s (by unfold maxLen;omega) (by omega) (by omega);have CF:w2.ownsRow w0.heap.size 5 1 v' (l++s.data.toList).length (Lib.byteCells (l++s.data.toList)):=by
  rw[Z8,ae,aJ];exact Ev
 obtain ⟨Bq,rfl,hc,hB,hW⟩:=h1.put CF Z9;exact ⟨Bq,w2,Dg,Nn.of ⟨hc,Bq,hB,k1.tr hW⟩⟩
theorem EH {w0 w:World}{b:Nat}{p:Option Addr}{sl:AA}{l:List UInt8}{c:UInt8}(h:Bu w0 w b p sl l)(hs:l.length+1<=1099511627776):Jz (some ⟨b,0,none⟩) (c.toNat:Int) w fun _ w'=>∃Bq,Bu w0 w' b (some ⟨b,0,none⟩) Bq (l++[c])/\Wr w0 w w':=by
 refine T42 _ _ _ _ ?_;unfold S42;refine (Z6 h).mono ?_;rintro w1 ⟨h1,k1⟩;refine Nn.of (Ld.of (x:=sl) h1.AR rfl (Nw.of ?_));obtain ⟨i0,hi,je,zr,hz2⟩:=info_parts Tryz.Be.infoByte;have Au:=h1.AR.lt;have zt:=h1.lo;have e1:Ext (fun _=>False) w1 (w1.alloc (.cells #[.int .u8 (c.toNat:Int)] 5)):=(Ext.refl _ _).alloc _;have h2:=h1.AB e1;have z1:=e1.size;have hnb:=AN.new w1 #[.int .u8 (c.toNat:Int)] 5;obtain ⟨v',w2,Dg,Ev,Z9,_⟩:=run_append_own (P:=prog) (w1.alloc (.cells #[.int .u8 (c.toNat:Int)] 5)) w0.heap.size 61 61 5 i0 (.int .u8 0) 1 1 Cm hi je zr hz2 rfl (by decide) (AA.v sl) l.length (Lib.byteCells l) h2.row ⟨w1.heap.size,0,none⟩ 1 1 [.int .u8 (c.toNat:Int)] rfl (fun j u hj=>by
  match j,hj with
  |0,hj=>rw[show ((⟨w1.heap.size,0,none⟩:Addr).add 0)=⟨w1.heap.size,0,none⟩from rfl,hnb.cell];exact hj) (fun u hu=>by rw[ao.1 hu];rfl) (by unfold maxLen;omega) (by omega) (by omega)
 have CF:w2.ownsRow w0.heap.size 5 1 v' (l++[c]).length (Lib.byteCells (l++[c])):=by
  rw[Z8,ae];exact Ev
 obtain ⟨Bq,rfl,hc,hB,hW⟩:=h2.put CF Z9;exact ⟨Bq,w2,Dg,Nn.of ⟨hc,Bq,hB,(k1.tr (Wr.of e1)).tr hW⟩⟩
theorem JF {w0 w:World}{b:Nat}{p:Option Addr}{sl:AA}{l:List UInt8}(h:Bu w0 w b p sl l)(h0:w0.heap.size<=w.heap.size):oS (some ⟨b,0,none⟩) w fun r w'=>r=⟨l.toArray⟩/\Go.RowKit.Below w0.heap.size w w':=by
 have hI:Lib.IsBuilder 63 5 w0.heap.size b (Lib.byteCells l) w:=by
  have hx:Lib.BuilderAt 63 5 w0.heap.size b (.pointer p) (Lib.byteCells l) w:=⟨h.lo,AA.v sl,h.AR,by rw[Lib.byteCells_length];exact h.row,Lib.ownBlock_ne h.row h.AR (by decide)⟩
  rcases h.ptr with rfl|rfl
  ·exact .inl hx
  ·exact .inr hx
 cases l with
 |nil=>
  refine (Tryz.Builder_String_empty w0.heap.size b w hI h0).mono ?_;rintro e w' ⟨rfl,hb⟩;exact ⟨_,rfl,rfl,hb⟩
 |cons x r=>
  refine (Tryz.Builder_String w0.heap.size b (x::r) w hI (by simp)).mono ?_;rintro e w' ⟨rfl,hb⟩;exact ⟨_,rfl,rfl,hb⟩
theorem Cl {w0 w w':World}(h:Go.RowKit.Below w0.heap.size w w'):Ext (fun j=>w0.heap.size<=j) w w':=⟨h.os,h.tape,h.output,h.size,fun k hk hn=>h.block k (by omega)⟩
end Ov
set_option maxRecDepth 8000
set_option maxHeartbeats 4000000
namespace Tl
open Sh Fix Tk Ov Go.Lib
theorem nh (u:Nat):Aq (decDigits u)/\AS (decDigits u)=u/\1<=(decDigits u).length:=by
 induction u using Nat.strongRecOn with
 |_ u ih=>
  have one:∀d,d<10->BF (UInt8.ofNat (48+d)):=fun d hd=>by unfold BF;rw[bM];omega
  have val:∀d,d<10->AS [UInt8.ofNat (48+d)]=d:=fun d hd=>by
   show ((UInt8.ofNat (48+d)).toNat-48)*10^0+0=d;rw[bM];omega
  rw[decDigits];split
  ·rename_i h;exact ⟨fun c hc=>by rw[ao.1 hc];exact one u h,val u h,az _⟩
  ·rename_i h;obtain ⟨h1,h2,h3⟩:=ih (u/10) (by omega);refine ⟨fun c hc=>?_,?_,by simp⟩
   ·rcases aK.1 hc with hc|hc
    ·exact h1 c hc
    ·rw[ao.1 hc];exact one _ (Nat.mod_lt _ (by decide))
   ·rw[Is,h2,val _ (Nat.mod_lt _ (by decide))];show u/10*10+u%10=u;omega
structure Bg (n:Int) (t:By) (D:By):Prop where
 d:Aq D
 d1:1<=D.length
 d21:D.length<=21
 dv:AS D=n.natAbs
 t:t=(if n<0 then [45]else [])++D
theorem xU {n:Int}(h0:-9223372036854775808<=n)(h1:n<=9223372036854775807):∃D,Bg n (itoa n) D:=by
 have hl:=itoa_length_le n h0 h1;obtain ⟨a1,a2,a3⟩:=nh n.natAbs;refine ⟨decDigits n.natAbs,a1,a3,?_,a2,?_⟩
 ·unfold itoa at hl;split at hl
  ·simp only[au]at hl;omega
  ·rw[show n.toNat=n.natAbs by omega]at hl;omega
 ·unfold itoa;split
  ·rfl
  ·rw[show n.toNat=n.natAbs by omega];rfl
def hx (n:Nat):UInt8:=if n<10 then UInt8.ofNat (48+n)else UInt8.ofNat (55+n)
def MK (c:UInt8):By:=[hx (c.toNat/16),hx (c.toNat%16)]
def ZJ (l:By):By:=l.flatMap MK
def Iw (c:UInt8):By:=[UInt8.ofNat (48+c.toNat/64%8),UInt8.ofNat (48+c.toNat/8%8),UInt8.ofNat (48+c.toNat/1%8)]
def A0 (c:UInt8):By:=if c=40\/c=41\/c=92 then [92,c]else if c.toNat<32\/126<c.toNat then 92::Iw c else [c]
def BC (c:UInt8):By:=if 32<c.toNat/\c.toNat<=126/\c≠35/\jv c=false then [c]else 35::MK c
def IS (l:By):By:=40::(l.flatMap A0++[41])
def Ci (l:By):By:=47::l.flatMap BC
def Af:UInt8->List By->By
 |_,[]=>[]
 |last,p::r=>if p=[]then Af last r else (if (AW last=true\/last=47)/\AW (p.headD 0)=true then [32]else [])++p++Af (p.getLastD 0) r
theorem Ba {f:UInt8->By}{k:Nat}(hf:∀c,(f c).length<=k):∀l:By,(l.flatMap f).length<=k*l.length
 |[]=>by simp
 |c::l=>by
  have h1:=Ba hf l;have h2:=hf c;rw[bh,ae,au,Nat.mul_add];omega
theorem Mz (c:UInt8):(A0 c).length<=4:=by
 unfold A0 Iw;split
 ·simp
 ·split<;>simp
theorem M0 (c:UInt8):(BC c).length<=3:=by
 unfold BC MK;split<;>simp
theorem Hi {l:By}{i:Nat}{c:UInt8}(h:l[i]?=some c):l.take (i+1)=l.take i++[c]:=by
 rw[bC,h]
 rfl
theorem ig {F:Nat->Prop}{a w:World}(h:Ext F a w)(os:Array Obj):Ext F a (Go.Sort.grow w os):=
 ⟨h.os,h.tape,h.output,by have:=h.size;simp[Go.Sort.grow];omega,fun j hj hn=>by
  rw[<-h.block j hj hn];have:=h.size;show (w.heap++os)[j]?=w.heap[j]?;rw[Array.getElem?_append_left (by omega)]⟩
theorem ij {P:Program}{n:String}{g:Nat}{k:IntKind}{zs:List Int}{w w':World}(hg:P.globalNamed n=some g)(h:Lib.TabIs P w n k zs)(he:Ext (fun _=>False) w w'):Lib.TabIs P w' n k zs:=by
 unfold Lib.TabIs World.var? at h⊢;rw[hg]at h⊢;simp only[Option.bind_some]at h⊢;have Au:g<w.heap.size:=by
  rcases b9 g w.heap.size with h'|h'
  ·exact h'
  ·rw[bG h']at h;cases h
 rw[he.block g Au id];exact h
def PT (w:World):Prop:=Lib.TabIs prog w "internal/strconv.uint64pow10" .u64 Lib.pow10Tab
theorem PT.AB{w w':World}(h:PT w)(he:Ext (fun _=>False) w w'):PT w':=ij (g:=1) (by kernel_rfl) h he
theorem il {x y:Nat}(hx:x<2^8)(hy:y<2^8):YM .u8 (x:Int) (y:Int)=((x&&&y:Nat):Int):=by
 unfold YM;rw[Bit.Nd,Bit.Nd];have h1:(BitVec.ofNat IntKind.u8.bits x&&&BitVec.ofNat IntKind.u8.bits y).toNat=x&&&y:=by
  rw[BitVec.toNat_and,BitVec.toNat_ofNat,BitVec.toNat_ofNat,Nat.mod_eq_of_lt (by simp[IntKind.bits];omega),Nat.mod_eq_of_lt (by simp[IntKind.bits];omega)]
 rw[h1];have h2:x&&&y<2^8:=Nat.and_lt_two_pow x hy;exact G0 (by omega)
abbrev QM:ByteArray:=⟨#[48,49,50,51,52,53,54,55,56,57,65,66,67,68,69,70]⟩
theorem iq (n:Nat)(h:n<16):BX QM (n:Int)=((hx n).toNat:Int):=by
 have:∀m:Fin 16,BX QM ((m.val:Nat):Int)=((hx m.val).toNat:Int):=by decide
 exact this ⟨n,h⟩
theorem ADy (c:UInt8):Int.fdiv (c.toNat:Int) (2^4)=((c.toNat/16:Nat):Int):=by
 rw[Int.fdiv_eq_ediv_of_nonneg _ (by decide)];show (c.toNat:Int)/16=_;omega
theorem ADz (c:UInt8):YM .u8 (c.toNat:Int) 15=((c.toNat%16:Nat):Int):=by
 have:=il (x:=c.toNat) (y:=15) c.toNat_lt (by decide);rw[show ((15:Nat):Int)=15 from rfl]at this;rw[this]
 congr 1
 exact Nat.and_two_pow_sub_one_eq_mod c.toNat 4
theorem CU (c:UInt8):c.toNat<256:=c.toNat_lt
section
variable {w w' w1:World} {s t:ByteArray}
attribute [local irreducible] Ld Sh.St Nw Nn Lt AU
theorem Qu {n:Int}(h0:-9223372036854775808<=n)(h1:n<=9223372036854775807)(hT:PT w):qY n w (fun r e w1=>((e=0/\-2147483647<=n/\n<=2147483647/\∃D,Bg n (bl r) D)\/(e=2/\(n< -2147483647\/n>2147483647)))/\Ext (fun _=>False) w w1) fun _ _=>False:=by
 refine T22 _ _ _ _ ?_;unfold S22;refine Br.dec (fun h=>⟨.inr ⟨rfl,.inl h⟩,Ext.refl _ _⟩) fun h=>Br.dec (fun h2=>⟨.inr ⟨rfl,.inr h2⟩,Ext.refl _ _⟩) fun h2=>?_
 refine (Tryz.strconv_FormatInt_10 n h0 h1 w hT).mono fun e w' hh=> .inl ⟨_,hh.1,.inl ⟨rfl,by omega,by omega,?_⟩,?_⟩
 ·rw[Bp];exact xU h0 h1
 ·obtain ⟨k,os,rfl⟩:=hh.2;exact ig ((Ext.refl _ w).drewN k) os
theorem AD0 (hs:s.size<=1000000)(w:World):Uk s w fun r w1=>bl r=ZJ (bl s)/\Ext (fun _=>False) w w1:=by
 refine AIC _ _ _ ?_;unfold AA2;have Xh:=AE s;rw[show (wrap .i64 (2*((s.size:Nat):Int)))=((2*s.size:Nat):Int) by rw[AH (by omega)];omega];obtain ⟨r0,w0,N5,hR0,vt,ho0⟩:=HY w 0 (2*s.size) (by omega) (by omega);refine ⟨r0,w0,N5,?_⟩;refine ⟨fun n st v=>∃(i:Nat) (sl:AA),st=(sl,(i:Int))/\i<=s.size/\n=s.size-i/\Bd v sl (ZJ ((bl s).take i))/\(∀j,sl.own j->w.heap.size<=j)/\Ext (fun _=>False) w v,s.size,⟨0,r0,rfl,by omega,rfl,hR0,ho0,vt⟩,?_⟩;rintro n st v ⟨i,sl,rfl,hi,rfl,hR,ho,hE⟩;unfold eT;refine Br.dec (fun q=>?_) fun q=>?_
 ·have hc:=Tk.byte_at (t:=bl s) (i:=i) (by omega);generalize (bl s).getD i 0=c at hc;have Au:=CU c;rw[AX hc,ADy,ADz,iq _ (by omega),iq _ (by omega)];refine ⟨by omega,by omega,by omega,?_,by omega,by omega,by omega,?_,Nw.of ?_⟩
  ·have:QM.size=16:=rfl;show ((c.toNat/16:Nat):Int)<(QM.size:Nat);omega
  ·have:QM.size=16:=rfl;show ((c.toNat%16:Nat):Int)<(QM.size:Nat);omega
  have hl:=Ba (f:=MK) (k:=2) (fun c=>by simp[MK]) ((bl s).take i);have pB:(ZJ ((bl s).take i)).length<=2*((bl s).take i).length:=hl;rw[aC]at pB;have e1:Ext (fun _=>False) v.drew (v.drew.alloc (.cells (Fq (MK c)).toArray 5)):=(Ext.refl _ _).alloc _;have R1:Bd (v.drew.alloc (.cells (Fq (MK c)).toArray 5)) ⟨some ⟨v.drew.heap.size,0,none⟩,2,2⟩ (MK c):=Row.new v.drew (Fq (MK c)).toArray 5 1 2 rfl;have KA:Bd v.drew sl (ZJ ((bl s).take i)):=hR.AB (Ext.refl (fun _=>False) v).drew fun _ _ h=>h
  have hR1:=KA.AB e1 fun _ _ h=>h
  obtain ⟨Bq,v',Dg,KA,KB,N6⟩:=V5 (ty:=61) hR1 R1 (by
   have:(MK c).length=2:=rfl;omega)
  refine ⟨Bq,v',Dg,s.size-(i+1),by omega,i+1,Bq,by rw[AH (by omega)];rfl,by omega,rfl,?_,?_,?_⟩
  ·rw[Hi hc];unfold ZJ at KA⊢;rw[bd];simpa using KA
  ·intro j hj;rcases N6 j hj with h|h
   ·exact ho j h
   ·have:=hE.size;have:=e1.size;simp only[U2]at this;omega
  ·exact Ext.Bw (hE.drew.tr e1) KB fun j hj=>ho j hj
 ·have SE:i=(bl s).length:=by omega
  refine ⟨_,_,CP hR,?_,hE⟩;rw[Bp,SE,bf]
end
end Tl
namespace Tl
open Sh Fix Tk Ov Go.Lib
theorem xV (c:Nat)(k:Int)(m:Nat)(hk:k=(m:Int))(hm:1<=m)(hc:c<256):wrap .u8 (48+Int.tmod (wrap .u8 (Int.tdiv (c:Int) k)) 8)=((UInt8.ofNat (48+c/m%8)).toNat:Int):=by
 subst hk;have h1:Int.tdiv (c:Int) (m:Int)=((c/m:Nat):Int):=by rw[Int.tdiv_eq_ediv_of_nonneg (by omega)];rfl
 have h2:c/m<=c:=Nat.div_le_self _ _;rw[h1];generalize c/m=d at h2⊢;rw[G0 (n:=((d:Nat):Int)) (by omega),Int.tmod_eq_emod_of_nonneg (by omega),bM,G0 (by omega)];omega
section
variable {w0 w:World} {b:Nat} {p:Option Addr} {sl:AA} {l:By} {s:ByteArray}
attribute [local irreducible] Ld Sh.St Nw Nn Lt AU
theorem ir {w:World}{n:Nat}(hb:AN w b #[.pointer none,AA.v ⟨none,0,0⟩] 63)(h1:w0.heap.size<=b)(h2:w0.heap.size<=w.heap.size)(hn:n<=5000000):
  uv (some ⟨b,0,none⟩) (n:Int) w (fun w'=>∃sl,Bu w0 w' b (some ⟨b,0,none⟩) sl []/\Ext (fun j=>w0.heap.size<=j) w w') fun _ _=>False:=by
 refine (Tryz.Builder_Grow_fresh w0.heap.size b n w h1 hb h2 (by omega)).mono ?_;rintro e w' ⟨he,hB,hw⟩;refine .inl ⟨he,?_⟩;obtain ⟨zt,v,wi,Ev,BI⟩:=hB;obtain ⟨Bq,rfl⟩:∃Bq,v=AA.v Bq:=by
  rcases Ev.2 with ⟨rfl,_⟩|⟨g,cap,cur,rfl,_⟩
  ·exact ⟨⟨none,0,0⟩,rfl⟩
  ·exact ⟨⟨some ⟨g,0,none⟩,_,cap⟩,rfl⟩
 exact ⟨Bq,⟨zt,.inr rfl,wi,Ev⟩,Cl hw⟩
theorem AD1 {d c:UInt8}(h:Bu w0 w b p sl l)(hs:l.length+4<=1099511627776){R:World->Prop}(k:∀Bq w',Bu w0 w' b (some ⟨b,0,none⟩) Bq (l++[d,c])->Wr w0 w w'->R w'):
  Jz (some ⟨b,0,none⟩) (d.toNat:Int) w fun r3 vw4=>Jz (some ⟨b,0,none⟩) (c.toNat:Int) vw4 fun r5 vw6=>R vw6:=by
 refine (EH h (by omega)).mono ?_;rintro r w1 ⟨zE,h1,k1⟩;refine (EH h1 (by simp;omega)).mono ?_;rintro r w2 ⟨Qw,h2,k2⟩;rw[aD]at h2;exact k _ _ h2 (k1.tr k2)
theorem xW {i:Nat}(hi:i<3)(c:UInt8):∃x:Int,(#[.int .u8 64,.int .u8 8,.int .u8 1]:Array Value)[((i:Nat):Int).toNat*1]?=some (.int .u8 x)/\x≠0/\wrap .u8 (48+Int.tmod (wrap .u8 (Int.tdiv (c.toNat:Int) x)) 8)=(((Iw c).getD i 0).toNat:Int):=by
 have hc:=CU c
 match i,hi with
 |0,_=>exact ⟨64,rfl,by decide,xV _ _ 64 rfl (by decide) hc⟩
 |1,_=>exact ⟨8,rfl,by decide,xV _ _ 8 rfl (by decide) hc⟩
 |2,_=>exact ⟨1,rfl,by decide,xV _ _ 1 rfl (by decide) hc⟩
theorem iu {i:Nat}(hi:i<3)(c:UInt8):(Iw c).take (i+1)=(Iw c).take i++[(Iw c).getD i 0]:=by
 match i,hi with
 |0,_=>rfl
 |1,_=>rfl
 |2,_=>rfl
theorem ZK {c:UInt8}{i:Nat}(hi:i<3)(h:Bu w0 w b p sl (l++92::(Iw c).take i))(hs:l.length+4<=1099511627776){R:Int->World->Prop}(k:∀Bq w',Bu w0 w' b (some ⟨b,0,none⟩) Bq (l++92::(Iw c).take (i+1))->Wr w0 w w'->R ((i+1:Nat):Int) w'):
  0<=((i:Nat):Int)/\((i:Nat):Int)<(3:Nat)/\∃Ew:Int,(#[.int .u8 64,.int .u8 8,.int .u8 1]:Array Value)[((i:Nat):Int).toNat*1]?=some (.int .u8 Ew)/\Ew≠0/\Jz (some ⟨b,0,none⟩) (wrap .u8 (48+(Int.tmod (wrap .u8 (Int.tdiv (c.toNat:Int) Ew)) 8))) w fun V8 xX=>R (wrap .i64 (((i:Nat):Int)+1)) xX:=by
 obtain ⟨x,h1,h2,h3⟩:=xW hi c;refine ⟨by omega,by omega,x,h1,h2,?_⟩;rw[h3];refine (EH h (by rw[ae,au,aC];omega)).mono ?_;rintro r w2 ⟨Qw,hB,hW⟩;rw[AH (by omega)];refine k Qw w2 ?_ hW;rw[iu hi];simpa using hB
theorem xY (c:UInt8)(h:Bu w0 w b (some ⟨b,0,none⟩) sl l)(hs:l.length+4<=1099511627776):uu (some ⟨b,0,none⟩) (c.toNat:Int) w fun w'=>∃Bq,Bu w0 w' b (some ⟨b,0,none⟩) Bq (l++A0 c)/\Wr w0 w w':=by
 refine AIZ _ _ _ _ ?_;unfold ABS;have e:∀d:UInt8,(c.toNat:Int)=(d.toNat:Int)->c=d:=fun d h=>bX.1 (by omega)
 have two:c=40\/c=41\/c=92->Jz (some ⟨b,0,none⟩) ((92:UInt8).toNat:Int) w fun r3 vw4=>Jz (some ⟨b,0,none⟩) (c.toNat:Int) vw4 fun r5 vw6=>∃Bq,Bu w0 vw6 b (some ⟨b,0,none⟩) Bq (l++A0 c)/\Wr w0 w vw6:=fun hc=>
  AD1 h hs fun Bq w' hB hW=>⟨Bq,by unfold A0;rw[aG hc];exact hB,hW⟩
 refine Br.eq (fun q=>two (.inl (e 40 q))) fun q1=>Br.eq (fun q=>two (.inr (.inl (e 41 q)))) fun q2=>Br.eq (fun q=>two (.inr (.inr (e 92 q)))) fun q3=>?_
 have hn:¬(c=40\/c=41\/c=92):=by
  rintro (h|h|h)
  ·exact q1 (by rw[h];rfl)
  ·exact q2 (by rw[h];rfl)
  ·exact q3 (by rw[h];rfl)
 have lit:A0 c=[92]++Iw c->Jz (some ⟨b,0,none⟩) ((92:UInt8).toNat:Int) w fun oe ANr=>∀(B:(Int->World->Prop)->Int->World->Prop),(∀(I:Int->World->Prop) (i:Int) (v:World),(i<3->0<=i/\i<(3:Nat)/\∃Ew:Int,(#[.int .u8 64,.int .u8 8,.int .u8 1]:Array Value)[i.toNat*1]?=some (.int .u8 Ew)/\Ew≠0/\Jz (some ⟨b,0,none⟩) (wrap .u8 (48+(Int.tmod (wrap .u8 (Int.tdiv (c.toNat:Int) Ew)) 8))) v fun V8 xX=>I (wrap .i64 (i+1)) xX)->(¬i<3->∃Bq,Bu w0 v b (some ⟨b,0,none⟩) Bq (l++A0 c)/\Wr w0 w v)->B I i v)->Lp (σ:=Int) B 0 ANr:=by
  intro he;refine (EH h (by omega)).mono ?_;rintro r w1 ⟨zE,h1,k1⟩;intro B hBd;refine ⟨fun n st v=>∃(i:Nat) (sl:AA),st=(i:Int)/\i<=3/\n=3-i/\Bu w0 v b (some ⟨b,0,none⟩) sl (l++92::(Iw c).take i)/\Wr w0 w v,3,⟨0,zE,rfl,by omega,rfl,h1,k1⟩,?_⟩;rintro n st v ⟨i,sl,rfl,hi,rfl,hB,hW⟩;refine hBd _ _ _ (fun q=>?_) fun q=>?_
  ·exact ZK (R:=fun st w'=>∃n',n'<3-i/\∃(i:Nat) (sl:AA),st=(i:Int)/\i<=3/\n'=3-i/\Bu w0 w' b (some ⟨b,0,none⟩) sl (l++92::(Iw c).take i)/\Wr w0 w w') (by omega) hB hs fun Bq w' wz wT=>⟨3-(i+1),by omega,i+1,Bq,rfl,by omega,rfl,wz,hW.tr wT⟩
  ·have:i=3:=by omega
   subst this;exact ⟨sl,by rw[he];exact hB,hW⟩
 refine Br.dec (fun q=>?_) fun q4=>Br.dec (fun q=>?_) fun q5=>?_
 ·refine (lit (by unfold A0;rw[aA hn,aG (.inl (by omega))];rfl)).mono ?_;intro r w' hh;exact hh _ fun I i v h1 h2=>Br.dec h1 h2
 ·refine (lit (by unfold A0;rw[aA hn,aG (.inr (by omega))];rfl)).mono ?_;intro r w' hh;exact hh _ fun I i v h1 h2=>Br.dec h1 h2
 ·refine (EH h (by omega)).mono ?_;rintro r w1 ⟨zE,h1,k1⟩;refine ⟨zE,?_,k1⟩;unfold A0;rw[aA hn,aA (by omega)];exact h1
theorem xZ (c:UInt8)(h:Bu w0 w b (some ⟨b,0,none⟩) sl l)(hs:l.length+4<=1099511627776):ur (some ⟨b,0,none⟩) (c.toNat:Int) w fun w'=>∃Bq,Bu w0 w' b (some ⟨b,0,none⟩) Bq (l++BC c)/\Wr w0 w w':=by
 refine AIX _ _ _ _ ?_;unfold ABR;have mx:IntKind.i64.max=9223372036854775807:=by decide
 have tail:∀v:World,Bu w0 v b (some ⟨b,0,none⟩) sl l->Wr w0 w v->BC c=35::MK c->Nw v (.cells #[.int .u8 (c.toNat:Int)] 5) fun ANs=>
      Rn prog (convert 61 9 (AA.v ((⟨some ⟨v.heap.size,0,none⟩,1,1⟩:AA)))) ANs Value.string fun (FI:ByteArray) ANt=>
      Uk FI ANt fun TV ANu=>
       ((((⟨#[35]⟩:cN)).size+(TV).size:Nat):Int)<=IntKind.i64.max/\O0 (some ⟨b,0,none⟩) ((⟨#[35]⟩:cN)++TV) ANu fun D2 ZW AD2=>
        ∃Bq,Bu w0 AD2 b (some ⟨b,0,none⟩) Bq (l++BC c)/\Wr w0 w AD2:=by
  intro v hB hW he;refine Nw.of ?_;have e1:Ext (fun _=>False) v (v.alloc (.cells (Fq [c]).toArray 5)):=(Ext.refl _ _).alloc _;have R1:Bd (v.alloc (.cells (Fq [c]).toArray 5)) ⟨some ⟨v.heap.size,0,none⟩,1,1⟩ [c]:=Row.new v (Fq [c]).toArray 5 1 1 rfl;refine ⟨_,_,CP R1,?_⟩;refine (AD0 (s:=⟨[c].toArray⟩) (by show 1<=_;omega) _).mono ?_;rintro r v2 ⟨hr,e2⟩;have Kz:bl r=MK c:=by rw[hr];simp[ZJ,bl]
  have hrs:r.size=2:=by rw[<-AE,Kz];rfl
  have z:(⟨#[35]⟩:cN).size=1:=rfl;refine ⟨by omega,(EA (hB.AB (e1.tr e2)) (by simp only[ByteArray.size_append];omega)).mono ?_⟩;rintro D2 ZW v3 ⟨sl3,zF,jq⟩;refine ⟨sl3,?_,(hW.tr (Wr.of (e1.tr e2))).tr jq⟩;rw[he];have:((⟨#[35]⟩:cN)++r).data.toList=35::MK c:=by
   show bl _=_;rw[BM,Kz]
   rfl
  rw[this]at zF;exact zF
 have hw:=Wr.refl w0 w;refine Br.dec (fun q1=>Br.dec (fun q2=>Br.ne (fun q3=>?_) fun q3=>?_) fun q2=>?_) fun q1=>?_
 ·refine (XK c w).mono ?_;rintro r v ⟨rfl,rfl⟩;have h35:c≠35:=fun e=>q3 (by rw[e];rfl)
  cases hd:jv c with
  |false=>
   refine Br.t rfl ((EH h (by omega)).mono ?_);rintro r w1 ⟨zE,h1,k1⟩;refine ⟨zE,?_,k1⟩;unfold BC;rw[aG ⟨by omega,by omega,h35,hd⟩];exact h1
  |true=>exact Br.f rfl (tail _ h hw (by unfold BC;rw[aA (fun hh=>by rw[hd]at hh;cases hh.2.2.2)]))
 ·exact tail _ h hw (by unfold BC;rw[aA (fun hh=>hh.2.2.1 (bX.1 (by have:((35:UInt8).toNat:Int)=35:=rfl;omega)))])
 ·exact tail _ h hw (by unfold BC;rw[aA (fun hh=>by omega)])
 ·exact tail _ h hw (by unfold BC;rw[aA (fun hh=>by omega)])
theorem Sw {op en:ByteArray}(ho:op.size<=10)(he:en.size<=10)(hs:s.size<=1000000)(w:World):YQ op s en (.func (.func 165) #[] #[]) w (fun r w1=>bl r=bl op++((bl s).flatMap A0++bl en)/\Ext (fun _=>False) w w1) fun _ _=>False:=by
 refine YR _ _ _ _ _ _ ?_;unfold Ns;have Xh:=AE s;have hbo:=AE op;have hbe:=AE en;refine Nw.of (Lt.of ?_);have e0:Ext (fun _=>False) w (w.alloc (.cells #[.pointer none,AA.v ⟨none,0,0⟩] 63)):=(Ext.refl _ _).alloc _;have Gv:=AN.new w #[.pointer none,AA.v ⟨none,0,0⟩] 63;generalize w.alloc (.cells #[.pointer none,AA.v ⟨none,0,0⟩] 63)=w1 at e0 Gv⊢;have z1:=e0.size;rw[AH (n:=((op.size:Nat):Int)+((s.size:Nat):Int)) (by omega),show wrap .i64 (((op.size:Nat):Int)+((s.size:Nat):Int)+((en.size:Nat):Int))=((op.size+s.size+en.size:Nat):Int) by rw[AH (by omega)];omega];refine (ir (w0:=w) (n:=op.size+s.size+en.size) Gv (az _) z1 (by omega)).mono ?_ fun _ _ h=>h
 rintro w2 ⟨sl,hB,xa⟩;refine (EA hB (by simp;omega)).mono ?_;rintro r8 r9 w3 ⟨sl3,zF,jq⟩;refine ⟨fun n st v=>∃(i:Nat) (sl:AA),st=(i:Int)/\i<=s.size/\n=s.size-i/\Bu w v w.heap.size (some ⟨w.heap.size,0,none⟩) sl (bl op++((bl s).take i).flatMap A0)/\Ext (fun j=>w.heap.size<=j) w1 v,s.size,⟨0,sl3,rfl,by omega,rfl,by simpa using zF,xa.tr jq.ext⟩,?_⟩;rintro n st v ⟨i,sl,rfl,hi,rfl,hB,hE⟩;unfold J6;have hl:=Ba Mz ((bl s).take i);rw[aC]at hl;have zt:(bl op++((bl s).take i).flatMap A0).length<=5000000:=by rw[ae];omega
 refine Br.dec (fun q=>?_) fun q=>?_
 ·have hc:=Tk.byte_at (t:=bl s) (i:=i) (by omega);generalize (bl s).getD i 0=c at hc;rw[AX hc];refine ⟨by omega,by omega,(xY c hB (by omega)).mono ?_⟩;rintro v2 ⟨Qw,NB,hW⟩;refine ⟨s.size-(i+1),by omega,i+1,Qw,by rw[AH (by omega)];rfl,by omega,rfl,?_,hE.tr hW.ext⟩;rw[Hi hc,bd,<-aD];simpa using NB
 ·have SE:i=(bl s).length:=by omega
  rw[SE,bf]at hB;have hl:=Ba Mz (bl s);refine (EA hB (by rw[ae];omega)).mono ?_;rintro Q7 D0 v2 ⟨Qw,NB,hW⟩;refine (JF NB (by have:=hE.size;have:=hW.ext.size;omega)).mono ?_;rintro r v3 ⟨rfl,hb⟩;refine ⟨?_,Ext.Bw e0 (((hE.tr hW.ext)).tr (Cl hb)) fun _ h=>h⟩;rw[Bp];simp
theorem Sx {op en:ByteArray}(ho:op.size<=10)(he:en.size<=10)(hs:s.size<=1000000)(w:World):YQ op s en (.func (.func 131) #[] #[]) w (fun r w1=>bl r=bl op++((bl s).flatMap BC++bl en)/\Ext (fun _=>False) w w1) fun _ _=>False:=by
 refine YS _ _ _ _ _ _ ?_;unfold Nt;have Xh:=AE s;have hbo:=AE op;have hbe:=AE en;refine Nw.of (Lt.of ?_);have e0:Ext (fun _=>False) w (w.alloc (.cells #[.pointer none,AA.v ⟨none,0,0⟩] 63)):=(Ext.refl _ _).alloc _;have Gv:=AN.new w #[.pointer none,AA.v ⟨none,0,0⟩] 63;generalize w.alloc (.cells #[.pointer none,AA.v ⟨none,0,0⟩] 63)=w1 at e0 Gv⊢;have z1:=e0.size;rw[AH (n:=((op.size:Nat):Int)+((s.size:Nat):Int)) (by omega),show wrap .i64 (((op.size:Nat):Int)+((s.size:Nat):Int)+((en.size:Nat):Int))=((op.size+s.size+en.size:Nat):Int) by rw[AH (by omega)];omega];refine (ir (w0:=w) (n:=op.size+s.size+en.size) Gv (az _) z1 (by omega)).mono ?_ fun _ _ h=>h
 rintro w2 ⟨sl,hB,xa⟩;refine (EA hB (by simp;omega)).mono ?_;rintro r8 r9 w3 ⟨sl3,zF,jq⟩;refine ⟨fun n st v=>∃(i:Nat) (sl:AA),st=(i:Int)/\i<=s.size/\n=s.size-i/\Bu w v w.heap.size (some ⟨w.heap.size,0,none⟩) sl (bl op++((bl s).take i).flatMap BC)/\Ext (fun j=>w.heap.size<=j) w1 v,s.size,⟨0,sl3,rfl,by omega,rfl,by simpa using zF,xa.tr jq.ext⟩,?_⟩;rintro n st v ⟨i,sl,rfl,hi,rfl,hB,hE⟩;unfold J7;have hl:=Ba M0 ((bl s).take i);rw[aC]at hl;have zt:(bl op++((bl s).take i).flatMap BC).length<=5000000:=by rw[ae];omega
 refine Br.dec (fun q=>?_) fun q=>?_
 ·have hc:=Tk.byte_at (t:=bl s) (i:=i) (by omega);generalize (bl s).getD i 0=c at hc;rw[AX hc];refine ⟨by omega,by omega,(xZ c hB (by omega)).mono ?_⟩;rintro v2 ⟨Qw,NB,hW⟩;refine ⟨s.size-(i+1),by omega,i+1,Qw,by rw[AH (by omega)];rfl,by omega,rfl,?_,hE.tr hW.ext⟩;rw[Hi hc,bd,<-aD];simpa using NB
 ·have SE:i=(bl s).length:=by omega
  rw[SE,bf]at hB;have hl:=Ba M0 (bl s);refine (EA hB (by rw[ae];omega)).mono ?_;rintro Q7 D0 v2 ⟨Qw,NB,hW⟩;refine (JF NB (by have:=hE.size;have:=hW.ext.size;omega)).mono ?_;rintro r v3 ⟨rfl,hb⟩;refine ⟨?_,Ext.Bw e0 (((hE.tr hW.ext)).tr (Cl hb)) fun _ h=>h⟩;rw[Bp];simp
theorem iv (hs:s.size<=32767)(w:World):uw s w (fun r e w1=>e=0/\bl r=IS (bl s)/\Ext (fun _=>False) w w1) fun _ _=>False:=by
 refine AIa _ _ _ _ ?_;unfold ABT;refine Br.dec (fun q=>by omega) fun _=>(Sw (by decide) (by decide) (by omega) w).mono ?_ fun _ _ h=>h
 rintro r w1 ⟨hr,he⟩;exact ⟨rfl,hr,he⟩
theorem iw (hs:s.size<=127)(w:World):C84 s w (fun r e w1=>((e=0/\0∉bl s/\bl r=Ci (bl s))\/(e=3/\0∈bl s))/\Ext (fun _=>False) w w1) fun _ _=>False:=by
 refine T84 _ _ _ _ ?_;unfold S84;refine Br.dec (fun q=>by omega) fun _=>(KC s 0 w).mono ?_
 rintro r w1 ⟨rfl,rfl⟩;rw[BT];cases hz:(bl s).contains 0 with
 |true=>exact Br.t rfl ⟨.inr ⟨rfl,aW.1 hz⟩,Ext.refl _ _⟩
 |false=>
  refine Br.f rfl ((Sx (by decide) (by decide) (by omega) _).mono ?_ fun _ _ h=>h);rintro r w2 ⟨hr,he⟩;refine ⟨.inl ⟨rfl,fun hm=>?_,?_⟩,he⟩
  ·rw[aW.2 hm]at hz;cases hz
  ·rw[hr];show 47::(_++[])=_;rw[aX]
   rfl
end
end Tl
namespace Tl
open Sh Fix Tk Ov Go.Lib
theorem On {l:By}(h:l≠[]):l[0]?=some (l.headD 0):=by
 cases l with
 |nil=>exact absurd rfl h
 |cons c r=>rfl
theorem LA {l:By}(h:l≠[]):l[l.length-1]?=some (l.getLastD 0):=by
 rw[List.getLastD_eq_getLast?,<-List.getLast?_eq_getElem?,List.getLast?_eq_some_getLast h]
 rfl
theorem Hj {α:Type}{l:List α}{i:Nat}{c:α}(h:l[i]?=some c):l.drop i=c::l.drop (i+1):=by
 obtain ⟨hi,e⟩:=al.1 h;rw[cm hi,e]
theorem join_nil (last:UInt8)(r:List By):Af last ([]::r)=Af last r:=by simp[Af]
theorem join_cons (last:UInt8){p:By}(h:p≠[])(r:List By):Af last (p::r)=(if (AW last=true\/last=47)/\AW (p.headD 0)=true then [32]else [])++p++Af (p.getLastD 0) r:=by simp[Af,h]
theorem Kn {last:UInt8}{p:By}(h:p≠[])(r:List By)(h1:AW last=true\/last=47)(h2:AW (p.headD 0)=true):Af last (p::r)=32::(p++Af (p.getLastD 0) r):=by
 rw[join_cons last h,aG ⟨h1,h2⟩]
 rfl
theorem Km {last:UInt8}{p:By}(h:p≠[])(r:List By)(h1:¬((AW last=true\/last=47)/\AW (p.headD 0)=true)):Af last (p::r)=p++Af (p.getLastD 0) r:=by
 rw[join_cons last h,aA h1]
 rfl
section
variable {w0 w:World} {b:Nat} {p:Option Addr} {sl:AA} {l:By} {s:ByteArray}
attribute [local irreducible] Ld Sh.St Nw Nn Lt AU
theorem ni {L:List ByteArray}(hV:B9 w sl 1 (L.map Value.string))(hL:L.length<=1099511627776)(hz:(L.map fun x=>x.size+1).sum<=1099511627776):C20 sl w fun r w1=>bl r=Af 32 (L.map bl)/\Ext (fun _=>False) w w1:=by
 refine T20 _ _ _ ?_;unfold S20;have hlen:sl.len=L.length:=by have:=hV.1;rw[bc]at this;omega
 have ic:∀{i:Nat} {x:ByteArray},L[i]?=some x->∃a,sl.p=some a/\w.cell? (a.add i)=some (.string x):=fun {i x} h=>hV.2 i _ (by rw[aH,h];rfl)
 refine Nw.of ?_;have e0:Ext (fun _=>False) w (w.alloc (.cells #[.pointer none,AA.v ⟨none,0,0⟩] 63)):=(Ext.refl _ _).alloc _;have Gv:=AN.new w #[.pointer none,AA.v ⟨none,0,0⟩] 63;generalize w.alloc (.cells #[.pointer none,AA.v ⟨none,0,0⟩] 63)=w1 at e0 Gv⊢;have B0:Bu w w1 w.heap.size none ⟨none,0,0⟩ []:=⟨az _,.inl rfl,Gv,⟨rfl,.inl ⟨rfl,rfl⟩⟩⟩
 refine ⟨fun n st v=>∃(i:Nat) (last:UInt8) (acc:By) (p:Option Addr) (sb:AA),st=((last.toNat:Int),(i:Int))/\i<=L.length/\n=L.length-i/\Bu w v w.heap.size p sb acc/\acc++Af last ((L.drop i).map bl)=Af 32 (L.map bl)/\acc.length+((L.drop i).map fun x=>x.size+1).sum<=1099511627776/\Ext (fun j=>w.heap.size<=j) w1 v,L.length,
  ⟨0,32,[],none,_,rfl,by omega,rfl,B0,rfl,by simpa using hz,Ext.refl _ _⟩,?_⟩
 rintro n st v ⟨i,last,acc,p,sb,rfl,hi,rfl,hB,hJ,AUP,hE⟩;unfold ot;have z1:=e0.size;have z2:=hE.size;rw[hlen];refine Br.dec (fun q=>?_) fun q=>?_
 ·have WV:i<L.length:=by have:((i:Nat):Int)<(L.length:Nat):=q;omega
  have hx:L[i]?=some L[i]:=ah WV;generalize L[i]=x at hx;have AMF:((L.drop i).map fun x=>x.size+1).sum=x.size+1+((L.drop (i+1)).map fun x=>x.size+1).sum:=by rw[Hj hx,aB,b6]
  obtain ⟨a,ha,hc⟩:=ic hx;have hc:v.cell? (a.add i)=some (.string x):=hE.cellOf (e0.cellOf hc (fun h=>h)) (by have:=Ww hc;show ¬w.heap.size<=_;omega);refine ⟨by omega,by show ((i:Nat):Int)<(L.length:Nat);omega,?_⟩;rw[ha];refine Nn.of (Ld.mk (x:=x) (by show v.cell? (a.add (((i:Nat):Int).toNat*1))=_;rw[ay,ch];exact hc) ?_);rw[Hj hx,aB]at hJ;have hbx:=AE x;have i64:wrap .i64 (((i:Nat):Int)+1)=((i+1:Nat):Int):=by rw[AH (by omega)];rfl
  rw[TM];refine Br.dec (fun q0=>?_) fun q0=>?_
  ·have q0:bl x=[]:=q0;rw[q0,join_nil]at hJ;exact ⟨L.length-(i+1),by omega,i+1,last,acc,p,sb,by rw[<-i64],by omega,rfl,hB,hJ,(by omega),hE⟩
  have q0:bl x≠[]:=q0;have Ho:1<=x.size:=by
   rw[<-hbx];exact cg.2 q0
  have h0:=On q0;have hl:=LA q0;rw[hbx]at hl;have b0:BX x 0=(((bl x).headD 0).toNat:Int):=AX (i:=0) h0;have bl':BX x ((x.size-1:Nat):Int)=(((bl x).getLastD 0).toNat:Int):=AX hl;rw[join_cons last q0]at hJ
 
  have J:∀(u:World) (p':Option Addr) (sb':AA) (ZL:By),Bu w u w.heap.size p' sb' ZL->ZL=acc++(if (AW last=true\/last=47)/\AW ((bl x).headD 0)=true then [32]else [])->Ext (fun j=>w.heap.size<=j) w1 u->
    WH w ((last.toNat:Int),(i:Int)) (fun st v=>∃n',n'<L.length-i/\∃(i:Nat) (last:UInt8) (acc:By) (p:Option Addr) (sb:AA),st=((last.toNat:Int),(i:Int))/\i<=L.length/\n'=L.length-i/\Bu w v w.heap.size p sb acc/\acc++Af last ((L.drop i).map bl)=Af 32 (L.map bl)/\acc.length+((L.drop i).map fun x=>x.size+1).sum<=1099511627776/\Ext (fun j=>w.heap.size<=j) w1 v) x () u:=by
   intro u p' sb' ZL wz pr hE';unfold WH;have VH:ZL.length<=acc.length+1:=by
    rw[pr,ae];split<;>simp
   refine (EA wz (by omega)).mono ?_;rintro D0 V8 u2 ⟨sb2,NB,xa⟩;rw[show wrap .i64 (((x.size:Nat):Int)-1)=((x.size-1:Nat):Int) by rw[AH (by omega)];omega];refine ⟨by omega,by omega,L.length-(i+1),by omega,i+1,(bl x).getLastD 0,_,_,_,?_,by omega,rfl,NB,?_,?_,hE'.tr xa.ext⟩
   ·rw[bl',<-i64]
   ·rw[<-hJ,pr];simp
   ·have:(ZL++x.data.toList).length=ZL.length+x.size:=by rw[ae];rfl
    omega
  have ix:∀u,Bu w u w.heap.size p sb acc->Ext (fun j=>w.heap.size<=j) w1 u->¬((AW last=true\/last=47)/\AW ((bl x).headD 0)=true)->_:=fun u h1 h2 h3=>J u p sb acc h1 (by rw[aA h3,aX]) h2
  have sp:∀u,Bu w u w.heap.size p sb acc->Ext (fun j=>w.heap.size<=j) w1 u->((AW last=true\/last=47)/\AW ((bl x).headD 0)=true)->Jz (some (⟨w.heap.size,0,none⟩:Addr)) ((32:UInt8).toNat:Int) u fun Tq ANv=>WH w ((last.toNat:Int),(i:Int)) (fun st v=>∃n',n'<L.length-i/\∃(i:Nat) (last:UInt8) (acc:By) (p:Option Addr) (sb:AA),st=((last.toNat:Int),(i:Int))/\i<=L.length/\n'=L.length-i/\Bu w v w.heap.size p sb acc/\acc++Af last ((L.drop i).map bl)=Af 32 (L.map bl)/\acc.length+((L.drop i).map fun x=>x.size+1).sum<=1099511627776/\Ext (fun j=>w.heap.size<=j) w1 v) x () ANv:=fun u h1 h2 h3=>by
   refine (EH h1 (by omega)).mono ?_;rintro r u2 ⟨sb2,NB,xa⟩;exact J u2 _ _ _ NB (by rw[aG h3]) (h2.tr xa.ext)
  refine As.intro ((XL last v).mono ?_);rintro r u ⟨rfl,rfl⟩;cases hr:AW last with
  |true=>
   refine Br.t rfl ⟨by decide,by omega,?_⟩;rw[b0];refine (XL _ _).mono ?_;rintro r u ⟨rfl,rfl⟩;cases Kz:AW ((bl x).headD 0)with
   |true=>exact Br.t rfl (sp _ hB hE ⟨.inl hr,Kz⟩)
   |false=>exact Br.f rfl (ix _ hB hE (by rw[Kz];rintro ⟨_,h⟩;cases h))
  |false=>
   refine Br.f rfl (Br.eq (fun h47=>⟨by decide,by omega,?_⟩) fun h47=>?_)
   ·rw[b0];refine (XL _ _).mono ?_;rintro r u ⟨rfl,rfl⟩;have h47:last=47:=bX.1 (by have:((47:UInt8).toNat:Int)=47:=rfl;have:((last.toNat:Nat):Int)=47:=h47;omega);cases Kz:AW ((bl x).headD 0)with
    |true=>exact Br.t rfl (sp _ hB hE ⟨.inr h47,Kz⟩)
    |false=>exact Br.f rfl (ix _ hB hE (by rw[Kz];rintro ⟨_,h⟩;cases h))
   ·exact ix _ hB hE (by
     rw[hr];rintro ⟨h|h,_⟩
     ·cases h
     ·exact h47 (by rw[h];rfl))
 ·have SE:i=L.length:=by have:¬((i:Nat):Int)<(L.length:Nat):=q;omega
  subst SE;rw[List.drop_length,bj]at hJ;refine (JF hB (by omega)).mono ?_;rintro r v3 ⟨rfl,hb⟩;refine ⟨?_,Ext.Bw e0 (hE.tr (Cl hb)) fun _ h=>h⟩;rw[Bp,<-hJ];simp[Af]
theorem Vn {L:List ByteArray}{B:Nat}(hz:∀x∈L,x.size<=B):(L.map fun x=>x.size+1).sum<=L.length*(B+1):=by
 induction L with
 |nil=>simp
 |cons x L ih=>
  have h1:=hz x (aw ..);have h2:=ih fun y hy=>hz y (av _ hy)
  rw[aB,b6,au,bT,Nat.one_mul];omega
theorem Z2 {L:List ByteArray}(hV:B9 w sl 1 (L.map Value.string))(hL:L.length<=4000000)(hz:∀x∈L,x.size<=200000):C20 sl w fun r w1=>bl r=Af 32 (L.map bl)/\Ext (fun _=>False) w w1:=
 ni hV (by omega) (by have:=Vn hz;omega)
end
end Tl
namespace Tl
open Sh Fix Tk Ov Go.Lib
theorem nj {a b i:Nat}(ha:a*2^i<9223372036854775808)(hb:b<2^i)(h2:a*2^i+b<9223372036854775808):yS .i64 (((a*2^i:Nat)):Int) (b:Int)=((a*2^i+b:Nat):Int):=by
 unfold yS;have e:(BitVec.ofInt IntKind.i64.bits (((a*2^i:Nat)):Int)|||BitVec.ofInt IntKind.i64.bits (b:Int)).toNat=a*2^i+b:=by
  rw[BitVec.toNat_or];have AD4:IntKind.i64.bits=64:=rfl;have t:∀n:Nat,n<9223372036854775808->(BitVec.ofInt IntKind.i64.bits (n:Int)).toNat=n:=fun n hn=>by
   rw[BitVec.toNat_ofInt,AD4];omega
  rw[t _ ha,t b (by omega)];have h3:=Nat.shiftLeft_add_eq_or_of_lt hb a;rw[Nat.shiftLeft_eq]at h3;exact h3.symm
 rw[e];exact AH (by omega)
theorem nk (c:UInt8):wrap .u8 (yS .i64 (wrap .i64 (((c.toNat/16:Nat):Int)*2^4)) ((c.toNat%16:Nat):Int))=(c.toNat:Int):=by
 have hc:=CU c;have e:((c.toNat/16:Nat):Int)*2^4=((c.toNat/16*2^4:Nat):Int):=by
  show ((c.toNat/16:Nat):Int)*16=((c.toNat/16*16:Nat):Int);omega
 rw[e,AH (by omega),nj (by omega) (by omega) (by omega),G0 (by omega)];show ((c.toNat/16*16+c.toNat%16:Nat):Int)=_;omega
theorem xb {n:Nat}(h:n<16):(hx n).toNat=if n<10 then 48+n else 55+n:=by
 unfold hx;split
 ·rw[bM];omega
 ·rw[bM];omega
theorem iy {n:Nat}(h:n<16):AW (hx n)=true/\D9 (hx n)=false/\hx n≠62:=by
 have:∀m:Fin 16,AW (hx m.val)=true/\D9 (hx m.val)=false/\hx m.val≠62:=by decide
 exact this ⟨n,h⟩
theorem OZ {f:UInt8->By}(l rest:By)(k:Nat):(l.flatMap f++rest).drop ((l.take k).flatMap f).length=(l.drop k).flatMap f++rest:=by
 have h:l.flatMap f=(l.take k).flatMap f++(l.drop k).flatMap f:=by rw[<-bd,aT]
 rw[h,aD];exact MQ rfl
theorem at_drop {l:By}{i j:Nat}{t:By}(h:l.drop i=t){c:UInt8}(hc:t[j]?=some c):l[i+j]?=some c:=by
 rw[<-h,bI]at hc;exact hc
section
variable {w0 w:World} {s t:ByteArray}
attribute [local irreducible] Ld Sh.St Nw Nn Lt AU
theorem VF (x kind t0z NR:Int)(h:((t.size:Nat):Int)<=NR)(w:World):Kd (s,x) kind t0z t NR w fun r e w1=>r=(kind,x,t0z,0,t)/\e=0/\Ext (fun _=>False) w w1:=by
 refine AAh (s,x) _ _ _ _ _ _ ?_;unfold sy;refine (Hn.start w).nw (cs:=[.string s,.int .i64 x]) fun w2 H=>?_
 refine H.nw (cs:=[.int .i64 0,.int .i64 0,.int .i64 0,.int .i64 0,.string ⟨#[]⟩]) fun w3 H=>?_
 simp only[ag,ad,add_lit,ak]at H⊢;refine Br.dec (fun q=>by omega) fun _=>?_
 refine H.ld 0 rfl rfl ?_
 iterate 5 (refine H.st 1 rfl (by simp) fun _ H=>?_;simp only[aa,ab]at H)
 iterate 5 refine H.ld 1 rfl rfl ?_
 exact ⟨rfl,by trivial,H.ext⟩
theorem pt {n:Nat}(h:n<16)(w:World):YD ((hx n).toNat:Int) w fun r w1=>r=(n:Int)/\w1=w:=by
 refine AA0 _ _ _ ?_;unfold uV;have hv:=xb h;generalize (hx n).toNat=m at hv;have u8:∀z:Int,0<=z->z<256->wrap .u8 z=z:=fun z h1 h2=>G0 (by omega)
 by_cases h10:n<10
 ·rw[aG h10]at hv;refine Br.dec (fun _=>Br.dec (fun _=>⟨?_,rfl⟩) fun q=>absurd q (by omega)) fun q=>absurd q (by omega)
  rw[u8 _ (by omega) (by omega),AH (by omega)];omega
 ·rw[aA h10]at hv;refine Br.dec (fun _=>Br.dec (fun q=>absurd q (by omega)) fun _=>Br.dec (fun _=>Br.dec (fun _=>⟨?_,rfl⟩) fun q=>absurd q (by omega)) fun q=>absurd q (by omega)) fun q=>absurd q (by omega)
  rw[u8 _ (by omega) (by omega),AH (n:=(m:Int)-65) (by omega),AH (by omega)];omega
theorem nn (c:UInt8)(ht:bl t=MK c)(w:World):lU t w fun r e w1=>bl r=[c]/\e=0/\Ext (fun _=>False) w w1:=by
 refine AA1 _ _ _ ?_;unfold uW;have hc:=CU c;have hts:t.size=2:=by rw[<-AE,ht];rfl
 rw[hts];refine Br.ne (fun q=>absurd (show Int.tmod ((2:Nat):Int) 2=0 by decide) q) fun _=>?_
 obtain ⟨r0,w0,N5,hR0,vt,ho0⟩:=HY w 0 1 (by omega) (by omega);refine ⟨r0,w0,N5,?_⟩;refine ⟨fun n st v=>(n=1/\st=(r0,0)/\v=w0)\/(n=0/\∃sl,st=(sl,2)/\Bd v sl [c]/\Ext (fun _=>False) w v),1,.inl ⟨rfl,rfl,rfl⟩,?_⟩;rintro n st v (⟨rfl,rfl,rfl⟩|⟨rfl,sl,rfl,hR,hE⟩)
 ·unfold Lx;have b0:BX t 0=((hx (c.toNat/16)).toNat:Int):=AX (i:=0) (by rw[ht];rfl);have b1:BX t 1=((hx (c.toNat%16)).toNat:Int):=AX (i:=1) (by rw[ht];rfl);have i1:wrap .i64 (0+1)=1:=by decide
  have i2:wrap .i64 (0+2)=2:=by decide
  dsimp only;rw[hts,i1,i2,b0,b1];refine Br.t rfl ⟨by decide,by omega,by decide,by omega,(pt (by omega) _).mono ?_⟩;rintro r v1 ⟨rfl,rfl⟩;refine (pt (by omega) _).mono ?_;rintro r v1 ⟨rfl,rfl⟩;refine Br.dec (fun q=>absurd q (by omega)) fun _=>Br.dec (fun q=>absurd q (by omega)) fun _=>Nw.of ?_
  rw[nk];have e1:Ext (fun _=>False) v.drew (v.drew.alloc (.cells (Fq [c]).toArray 5)):=(Ext.refl _ _).alloc _;have KA:Bd v.drew r0 (List.replicate 0 0):=hR0.AB (Ext.refl (fun _=>False) v).drew fun _ _ h=>h
  obtain ⟨Bq,v',Dg,KA,KB,N6⟩:=Kr (ty:=61) (b:=c) (KA.AB e1 fun _ _ h=>h) (AN.new v.drew (Fq [c]).toArray 5) (by simp);exact ⟨Bq,v',Dg,0,by omega,.inr ⟨rfl,Bq,rfl,KA,Ext.Bw (vt.drew.tr e1) KB fun j hj=>ho0 j hj⟩⟩
 ·unfold Lx;dsimp only;rw[hts];refine Br.f rfl ⟨_,_,CP hR,?_,rfl,hE⟩;exact Bp _
end
end Tl
namespace Tl
open Sh Fix Tk Ov Go.Lib
theorem jA (c:UInt8):∀x∈BC c,AW x=true:=by
 intro x NQ;have Au:=CU c;unfold BC at NQ;split at NQ
 ·rename_i h;rw[ao.1 NQ];unfold AW;have:D9 c=false:=by
   rw[<-cb];intro hw;unfold D9 at hw;rw[aW]at hw;simp only[ar,aF,bp]at hw;have h1:=h.1;rcases hw with rfl|rfl|rfl|rfl|rfl|rfl<;>exact absurd h1 (by decide)
  rw[this,h.2.2.2]
  rfl
 ·rcases ar.1 NQ with rfl|NQ
  ·rfl
  ·simp only[MK,ar,aF,bp]at NQ;rcases NQ with rfl|rfl
   ·exact (iy (by omega)).1
   ·exact (iy (by omega)).1
theorem Jg (l:By):∀x∈l.flatMap BC,AW x=true:=fun x hx=>by
 obtain ⟨c,_,h⟩:=List.mem_flatMap.1 hx;exact jA c x h
theorem Bg.A7{n:Int}{t D:By}(h:Bg n t D):∀c∈t,AW c=true:=by
 intro c hc;rw[h.t]at hc;rcases aK.1 hc with hc|hc
 ·split at hc
  ·rw[ao.1 hc];rfl
  ·cases hc
 ·exact QO (h.d c hc)
theorem Bg.len{n:Int}{t D:By}(h:Bg n t D):t.length=(if n<0 then 1 else 0)+D.length:=by
 rw[h.t,ae];split<;>rfl
theorem Bg.trim{n:Int}{t D:By}(h:Bg n t D):trimLeftS t [43,45]=D:=by
 have d1:=h.d1;have hd:trimLeftS D [43,45]=D:=by
  cases D with
  |nil=>simp at d1
  |cons c0 D'=>
   have Zj:=h.d c0 (aw ..);unfold trimLeftS;rw[bZ,aA];have:([43,45]:By).contains c0=false:=by
    rw[<-cb,aW];intro hm;simp only[ar,aF,bp]at hm;rcases hm with rfl|rfl
    ·exact absurd Zj.1 (by decide)
    ·exact absurd Zj.1 (by decide)
   rw[this];decide
 rw[h.t];split
 ·show trimLeftS (45::D) [43,45]=_;unfold trimLeftS at hd⊢;rw[bZ,aG (by decide)];exact hd
 ·exact hd
section
variable {w0 w:World} {s t:ByteArray}
attribute [local irreducible] Ld Sh.St Nw Nn Lt AU
theorem np {b:Nat}{l rest:By}(hd:(bl s).drop b=Ci l++rest)(hr:∀c,rest.head?=some c->AW c=false)(hb:b<=s.size)(hs:s.size<=1099511627776)(hl:l.length<=127)(h0:0∉l)(w:World):
  lQ (s,(b:Int)) w fun r e w1=>r=(4,(b:Int),((b+(Ci l).length:Nat):Int),0,ba l)/\e=0/\Ext (fun _=>False) w w1:=by
 refine AAm (s,(b:Int)) _ _ ?_;unfold tD;have Xh:=AE s;have hba:(ba l).size=l.length:=by rw[<-AE,Bp]
 have hF:(Ci l).length=(l.flatMap BC).length+1:=by unfold Ci;rw[au]
 have DN:b+(Ci l).length<=s.size:=by
  have:=aq List.length hd;rw[aE,ae,AE]at this;omega
 have NC:(bl s).drop (b+1)=l.flatMap BC++rest:=by
  rw[<-bH,hd]
  rfl
 refine (Hn.start w).nw (cs:=[.string s,.int .i64 (b:Int)]) fun w2 H=>?_
 refine H.nw (cs:=[.int .i64 0,.int .i64 0,.int .i64 0,.int .i64 0,.string ⟨#[]⟩]) fun w3 H=>?_
 simp only[ag,ad,add_lit,ak]at H⊢;have h23:w2.heap.size<w3.heap.size:=H.lt 1 rfl;have h13:w.heap.size<w3.heap.size:=H.lt 0 rfl
 iterate 3 refine H.ld 0 rfl rfl ?_
 have ib:wrap .i64 (((b:Nat):Int)+1)=((b+1:Nat):Int):=by rw[AH (by omega)];rfl
 rw[ib];refine (Ry s _ (a:=b+1) (by omega) hs w3).mono ?_;rintro r w4 ⟨Qg,e4⟩;rw[NC,F4 (Jg l) hr]at Qg;subst Qg;have z4:=e4.size;have H:=H.AB e4;refine H.ld 0 rfl rfl ?_;rw[ib];refine ⟨fun n st v=>∃(k:Nat) (sl:AA),st=(sl,((b+1+((l.take k).flatMap BC).length:Nat):Int))/\k<=l.length/\n=l.length-k/\Bd v sl (l.take k)/\(∀j,sl.own j->w3.heap.size<=j)/\Hn w v [(w.heap.size,[.string s,.int .i64 (b:Int)],225),(w2.heap.size,[.int .i64 0,.int .i64 0,.int .i64 0,.int .i64 0,.string ⟨#[]⟩],148)]/\w3.heap.size<=v.heap.size,l.length,
  ⟨0,⟨none,0,0⟩,rfl,by omega,rfl,Bd.nil _,(fun j hj=>by obtain ⟨a,ha,_⟩:=hj;cases ha),H,z4⟩,?_⟩
 rintro n st v ⟨k,sl,rfl,hk,rfl,hR,ho,H,mP⟩;unfold Ub;by_cases LD:k<l.length
 ·have hc:=ah LD;generalize l[k]=c at hc;have Au:=CU c;have Zg:=OZ (f:=BC) l rest k;rw[EN hc,bh]at Zg;have Fi:(l.take (k+1)).flatMap BC=(l.take k).flatMap BC++BC c:=by rw[Hi hc,bd];simp
  have hle:((l.take (k+1)).flatMap BC).length<=(l.flatMap BC).length:=by
   have:l.flatMap BC=(l.take (k+1)).flatMap BC++(l.drop (k+1)).flatMap BC:=by rw[<-bd,aT]
   rw[this,ae];omega
  have jB:=hle;rw[Fi,ae]at jB;have MU:(bl s).drop (b+1+((l.take k).flatMap BC).length)=BC c++((l.drop (k+1)).flatMap BC++rest):=by
   rw[<-bH,NC,Zg,aD]
 
  have more:∀(u:World),Ext (fun _=>False) v u->∀(st2:Int),st2=((b+1+((l.take (k+1)).flatMap BC).length:Nat):Int)->Nw u (.cells #[.int .u8 (c.toNat:Int)] 5) fun Ab=>
       Rn prog (Builtin.append_ #[61,61] 61 #[AA.v sl,AA.v ((⟨some ⟨u.heap.size,0,none⟩,1,1⟩:AA))]) Ab AA.v fun (Cf:AA) IQ=>
       ∃m,m<l.length-k/\∃(k:Nat) (sl:AA),(Cf,st2)=(sl,((b+1+((l.take k).flatMap BC).length:Nat):Int))/\k<=l.length/\m=l.length-k/\Bd IQ sl (l.take k)/\(∀j,sl.own j->w3.heap.size<=j)/\Hn w IQ [(w.heap.size,[.string s,.int .i64 (b:Int)],225),(w2.heap.size,[.int .i64 0,.int .i64 0,.int .i64 0,.int .i64 0,.string ⟨#[]⟩],148)]/\w3.heap.size<=IQ.heap.size:=by
   rintro u eu st2 rfl;have hR:=hR.AB eu fun _ _ h=>h
   have H:=H.AB eu;have zu:=eu.size;refine Nw.of ?_;have e1:Ext (fun _=>False) u (u.alloc (.cells (Fq [c]).toArray 5)):=(Ext.refl _ _).alloc _;obtain ⟨Bq,v',Dg,KA,KB,N6⟩:=Kr (ty:=61) (b:=c) (hR.AB e1 fun _ _ h=>h) (AN.new u (Fq [c]).toArray 5) (by rw[aC];omega);refine ⟨Bq,v',Dg,l.length-(k+1),by omega,k+1,Bq,rfl,by omega,rfl,by rw[Hi hc];exact KA,?_,?_,?_⟩
   ·intro j hj;rcases N6 j hj with h|h
    ·exact ho j h
    ·have:=e1.size;omega
   ·refine (H.AB e1).other KB fun j hj=>?_
    have hj:=ho j hj;refine ⟨by omega,?_⟩;simp only[aB,bj,ar,aF,bp];omega
   ·have:=e1.size;have:=KB.size;omega
  generalize hA:((l.take k).flatMap BC).length=A at*;have ib2:wrap .i64 (((b+1+A:Nat):Int)+1)=((b+1+A+1:Nat):Int):=by rw[AH (by omega)];rfl
  refine Br.dec (fun _=>?_) fun q=>absurd (show ((b+1+A:Nat):Int)<((b+1+(l.flatMap BC).length:Nat):Int) by
   have:1<=(BC c).length:=by unfold BC;split<;>simp
   omega) q
  refine H.ld 0 rfl rfl ?_;by_cases hp:32<c.toNat/\c.toNat<=126/\c≠35/\jv c=false
  ·have hE:BC c=[c]:=by unfold BC;rw[aG hp]
   rw[hE]at MU Fi jB;have ANy:A+1<=(l.flatMap BC).length:=jB;have Na:(bl s)[b+1+A]?=some c:=at_drop (j:=0) MU rfl;refine ⟨by omega,by show ((b+1+A:Nat):Int)<_;omega,?_⟩;rw[AX Na];refine Br.eq (fun q=>absurd (bX.1 (by have:((35:UInt8).toNat:Int)=35:=rfl;omega)) hp.2.2.1) fun _=>?_
   rw[ib2];refine more v (Ext.refl _ _) _ ?_;rw[Fi,ae,hA]
   rfl
  ·have hE:BC c=35::MK c:=by unfold BC;rw[aA hp]
   rw[hE]at MU Fi jB;have ANy:A+3<=(l.flatMap BC).length:=jB;have Na:(bl s)[b+1+A]?=some 35:=at_drop (j:=0) MU rfl;refine ⟨by omega,by show ((b+1+A:Nat):Int)<_;omega,?_⟩;rw[AX Na];have i2:wrap .i64 (((b+1+A:Nat):Int)+2)=((b+1+A+2:Nat):Int):=by rw[AH (by omega)];rfl
   have i3:wrap .i64 (((b+1+A:Nat):Int)+3)=((b+1+A+3:Nat):Int):=by rw[AH (by omega)];rfl
   have i23:wrap .i64 (((b+1+A+2:Nat):Int)+1)=((b+1+A+3:Nat):Int):=by rw[AH (by omega)];rfl
   rw[ib2,i2,i3,i23];refine Br.t rfl (Br.dec (fun q=>absurd q (by omega)) fun _=>H.ld 0 rfl rfl ⟨by omega,by omega,by omega,by omega,?_⟩);refine (nn c ?_ v).mono ?_
   ·rw[A9,ay,ay,show b+1+A+1=(b+1+A)+1 from rfl,<-bH,MU];show (MK c++_).take _=_;rw[show b+1+A+3-(b+1+A+1)=(MK c).length by simp[MK]];simp
   rintro r e v1 ⟨hrc,rfl,e1⟩;have ANz:r=⟨#[c]⟩:=Jd hrc;have Zj:c≠0:=fun e=>h0 (by rw[<-e];exact ax hc)
   subst ANz;refine Br.ne (fun q=>absurd rfl q) fun _=>?_
   rw[TM];refine Br.dec (fun q=>by
    have q:[c]=[0]:=q;exact absurd (List.head_eq_of_cons_eq q) Zj) fun _=>?_
   have:BX (⟨#[c]⟩:cN) 0=(c.toNat:Int):=AX (i:=0) rfl;rw[this];refine ⟨by decide,by show (0:Int)<((1:Nat):Int);decide,?_⟩;refine more v1 e1 _ ?_;rw[Fi,ae,hA]
   rfl
 ·have LD:k=l.length:=by omega
  subst LD;rw[bf]at hR⊢;refine Br.dec (fun q=>absurd q (by omega)) fun _=>?_
  iterate 2 refine H.ld 0 rfl rfl ?_
  refine ⟨_,_,CP hR,?_⟩;refine (VF _ _ _ _ (show (((ba l).size:Nat):Int)<=127 by omega) v).mono ?_;rintro r e v1 ⟨rfl,rfl,he⟩;have H:=H.AB he
  iterate 5 (refine H.st 1 rfl (by simp) fun _ H=>?_;simp only[aa,ab]at H)
  iterate 5 refine H.ld 1 rfl rfl ?_
  refine ⟨?_,by trivial,H.ext⟩;have:b+1+(l.flatMap BC).length=b+(Ci l).length:=by omega
  rw[this]
end
end Tl
namespace Tl
open Sh Fix Tk Ov Go.Lib
section
variable {w0 w:World} {s t:ByteArray}
attribute [local irreducible] Ld Sh.St Nw Nn Lt AU
theorem ZM {n:Int}{D:By}(h:Bg n (bl t) D)(w:World):dj t w fun r w1=>r=1/\Ext (fun _=>False) w w1:=by
 refine tK _ _ _ ?_;unfold lV;have hl:=h.len;have d1:=h.d1;have d21:=h.d21;rw[AE]at hl;refine (F3 t w).mono ?_;rintro r w2 ⟨hr,e2⟩;rw[h.trim]at hr;have pF:r.size=D.length:=by rw[<-AE,hr]
 rw[hl,pF];refine Br.dec (fun _=>?_) fun q=>absurd (by rw[AH]<;>split<;>omega) q
 rw[TM];have BI:decide (r.data.toList=(⟨#[]⟩:cN).data.toList)=false:=aR fun q=>by
  have q:bl r=[]:=q;rw[hr]at q;rw[q]at d1;simp at d1
 rw[BI];refine Br.t rfl ((IP r (by omega) w2).mono ?_);rintro r6 w3 ⟨h6,e3⟩;rw[TM];have he6:decide (r6.data.toList=(⟨#[]⟩:cN).data.toList)=true:=aL (by
  show bl r6=[];rw[h6,hr,Dr h.d])
 rw[he6];exact Br.t rfl ⟨rfl,e2.tr e3⟩
theorem nq {n:Int}{D:By}(h:Bg n (bl t) D)(h1:-2147483647<=n)(h2:n<=2147483647)(w:World):lT t w fun r e w1=>r=n/\e=0/\Ext (fun _=>False) w w1:=by
 refine AAr _ _ _ ?_;unfold tL;have hl:=h.len;have d1:=h.d1;have d21:=h.d21;have hv:=h.dv;rw[AE]at hl;refine (F3 t w).mono ?_;rintro r w2 ⟨hr,e2⟩;rw[h.trim]at hr;have pF:r.size=D.length:=by rw[<-AE,hr]
 refine Nw.of ?_;have e3:=(Ext.refl (fun _=>False) w2).alloc (.stringIter r 0);refine ⟨fun c st v=>∃i:Nat,v.heap[w2.heap.size]?=some (.stringIter r i)/\i<=D.length/\c=D.length-i/\st=((AS (D.take i):Nat):Int)/\Ext (fun _=>False) w v,D.length,⟨0,by unfold World.alloc;simp,by omega,rfl,by simp[AS],e2.tr e3⟩,?_⟩;rintro c st v ⟨i,hit,hi,rfl,rfl,hE⟩;unfold Ue;have WX:w2.heap.size<v.heap.size:=(aj.1 hit).1;refine Jc hit (by rw[hr];exact ML h.d) (by omega) (fun c hc=>?_) fun Pm=>?_
 ·rw[hr]at hc;have hiD:=(al.1 hc).1;have NA:=h.d c (ax hc);have a2:=@BU D i;have a3:=@BU D (i+1);rw[Ea (by omega) (by omega) NA];have ev:(10*((AS (D.take i):Nat):Int)+((c.toNat-48:Nat):Int))=((AS (D.take (i+1)):Nat):Int):=by
   rw[Eb hc];omega
  rw[ev];refine Lt.of ⟨D.length-(i+1),by omega,i+1,JZ (s:=r) (p:=i+1) WX,by omega,rfl,?_,?_⟩
  ·rw[aA (by omega)]
  ·exact Ext.Bw hE (GU v w2.heap.size r (i+1)) fun j hj=>by have:=e2.size;have hj:j=_:=hj;omega
 ·have hiD:i=D.length:=by omega
  subst hiD;rw[bf,hv];refine Br.dec (fun q=>absurd q (by omega)) fun _=>⟨by decide,by split at hl<;>omega,?_⟩
  by_cases hn:n<0
  ·have h0:(bl t)[0]?=some 45:=by rw[h.t,aG hn];rfl
   have Gv:BX t 0=((45:UInt8).toNat:Int):=AX (i:=0) h0;rw[Gv];refine Br.t rfl ⟨?_,rfl,hE⟩;rw[AH (by omega)];omega
  ·obtain ⟨c0,D',hD⟩:∃c0 D',D=c0::D':=by
    cases D with
    |nil=>simp at d1
    |cons c0 D'=>exact ⟨c0,D',rfl⟩
   have h0:(bl t)[0]?=some c0:=by rw[h.t,aA hn,hD];rfl
   have Gv:BX t 0=(c0.toNat:Int):=AX (i:=0) h0;have pn:=h.d c0 (by rw[hD];exact aw ..);have NC:=pn.1;rw[Gv];refine Br.eq (fun q=>absurd q (by omega)) fun _=>⟨by omega,rfl,hE⟩
theorem Vo {n:Int}{D T rest:By}{b:Nat}(h:Bg n T D)(h1:-2147483647<=n)(h2:n<=2147483647)(hd:(bl s).drop b=T++rest)(hr:∀c,rest.head?=some c->AW c=false)(hb:b<=s.size)(hs:s.size<=1099511627776)(w:World):
  RV (s,(b:Int)) w fun r e w1=>r=(1,(b:Int),((b+T.length:Nat):Int),n,⟨#[]⟩)/\e=0/\Ext (fun _=>False) w w1:=by
 refine tS (s,(b:Int)) _ _ ?_;unfold lW;refine (Hn.start w).nw (cs:=[.string s,.int .i64 (b:Int)]) fun w2 H=>?_
 refine H.nw (cs:=[.int .i64 0,.int .i64 0,.int .i64 0,.int .i64 0,.string ⟨#[]⟩]) fun w3 H=>?_
 simp only[ag,ad,add_lit,ak]at H⊢
 iterate 3 refine H.ld 0 rfl rfl ?_
 refine (Ry s _ hb hs w3).mono ?_;rintro r w4 ⟨Qg,e4⟩;rw[hd,F4 h.A7 hr]at Qg;subst Qg;have H:=H.AB e4;have hTl:b+T.length<=s.size:=by
  have:=aq List.length hd;rw[aE,ae,AE]at this;omega
 iterate 2 refine H.ld 0 rfl rfl ?_
 have hx:bl (s.extract ((b:Int)).toNat (((b+T.length:Nat):Int)).toNat)=T:=by
  rw[A9,ay,ay,hd,show b+T.length-b=T.length by omega];simp
 refine ⟨by omega,by omega,by omega,by omega,?_⟩;rw[<-hx]at h;refine (ZM h w4).mono ?_;rintro r w5 ⟨rfl,e5⟩;have H:=H.AB e5;refine Br.t rfl ((nq h h1 h2 w5).mono ?_);rintro r e w6 ⟨rfl,rfl,e6⟩;have H:=H.AB e6;refine Br.f rfl (H.ld 0 rfl rfl ?_)
 iterate 5 (refine H.st 1 rfl (by simp) fun _ H=>?_;simp only[aa,ab]at H)
 iterate 5 refine H.ld 1 rfl rfl ?_
 exact ⟨rfl,by trivial,H.ext⟩
def Bv:By:=[111,98,106]
end
end Tl
namespace Tl
open Sh Fix Tk Ov Go.Lib
theorem Sy {c d:UInt8}(h:(c.toNat:Int)=(d.toNat:Int)):c=d:=bX.1 (by omega)
theorem jC {d:UInt8}(h:d.toNat<98):([110,114,116,98,102]:By).contains d=false:=by
 rw[<-cb,aW];intro hm;simp only[ar,aF,bp]at hm;rcases hm with rfl|rfl|rfl|rfl|rfl<;>exact absurd h (by decide)
def ov (c:UInt8):Nat->Nat
 |0=>0
 |1=>c.toNat/64
 |2=>c.toNat/8
 |_=>c.toNat
theorem XM (c:UInt8){j:Nat}(h:j<3):∃d:UInt8,(Iw c)[j]?=some d/\48<=d.toNat/\d.toNat<=55/\ov c (j+1)=8*ov c j+(d.toNat-48):=by
 have hc:=CU c;have v:∀x,x<8->(UInt8.ofNat (48+x)).toNat=48+x:=fun x hx=>by rw[bM];omega
 match j,h with
 |0,_=>
  refine ⟨_,rfl,?_⟩;rw[v _ (by omega)];simp only[ov];omega
 |1,_=>
  refine ⟨_,rfl,?_⟩;rw[v _ (by omega)];simp only[ov];omega
 |2,_=>
  refine ⟨_,rfl,?_⟩;rw[v _ (by omega)];simp only[ov];omega
theorem AD5 (c:UInt8)(j:Nat):ov c j<256:=by
 have hc:=CU c
 match j with
 |0=>simp[ov]
 |1=>simp only[ov];omega
 |2=>simp only[ov];omega
 |j+3=>simp only[ov];omega
section
variable {w0 w:World} {s t:ByteArray}
attribute [local irreducible] Ld Sh.St Nw Nn Lt AU
theorem Sz {i:Nat}{c:UInt8}(x:Int)(hc:(bl s)[i]?=some c)(h13:c≠13)(h10:c≠10)(w:World):dh (s,x) (i:Int) w fun r b w1=>r=(i:Int)/\b=false/\Ext (fun _=>False) w w1:=by
 refine AAn (s,x) _ _ _ ?_;unfold tE;have hi:=(al.1 hc).1;rw[AE]at hi;refine (Hn.start w).nw (cs:=[.string s,.int .i64 x]) fun w2 H=>?_
 simp only[ad,add_lit,ak]at H⊢;refine H.ld 0 rfl rfl ⟨by omega,by omega,?_⟩;rw[AX hc];refine Br.eq (fun q=>absurd (Sy (d:=13) q) h13) fun _=>?_
 refine H.ld 0 rfl rfl ⟨by omega,by omega,?_⟩;rw[AX hc];exact Br.eq (fun q=>absurd (Sy (d:=10) q) h10) fun _=>⟨by trivial,by trivial,H.ext⟩
theorem ZN {i:Nat}{c:UInt8}{more tl:By}(x:Int)(hE:A0 c=92::tl)(hd:(bl s).drop (i+1)=tl++more)(hi:i+1<=s.size)(hs:s.size<=1099511627776)(w:World):
  lR (s,x) ((i+1:Nat):Int) w fun r t0z w1=>r=⟨#[c]⟩/\t0z=((i+(A0 c).length:Nat):Int)/\Ext (fun _=>False) w w1:=by
 refine AAo (s,x) _ _ _ ?_;unfold tF;have LF:=CU c;have Xh:=AE s;have hlen:i+1+tl.length+more.length=s.size:=by
  have:=aq List.length hd;rw[aE,ae,AE]at this;omega
 have Oz:(∃_:c=40\/c=41\/c=92,tl=[c])\/tl=Iw c:=by
  unfold A0 at hE;split at hE
  ·rename_i h;exact .inl ⟨h,by injection hE with _ h;exact h.symm⟩
  ·rename_i hn;split at hE
   ·exact .inr (by injection hE with _ h;exact h.symm)
   ·injection hE with h;exact absurd (.inr (.inr h)) hn
 refine (Hn.start w).nw (cs:=[.string s,.int .i64 x]) fun w2 H=>?_
 simp only[ad,add_lit,ak]at H⊢;have i1:wrap .i64 (((i+1:Nat):Int)+1)=((i+2:Nat):Int):=by rw[AH (by omega)];rfl
 have i3:wrap .i64 (((i+1:Nat):Int)+3)=((i+4:Nat):Int):=by rw[AH (by omega)];rfl
 rw[hE];rcases Oz with ⟨h3,rfl⟩|rfl
 ·have Na:(bl s)[i+1]?=some c:=at_drop (j:=0) hd rfl;have hlen:i+1+1+more.length=s.size:=hlen;have Au:c.toNat<98:=by rcases h3 with rfl|rfl|rfl<;>decide
  have hoc:¬(48<=c.toNat/\c.toNat<=55):=by rcases h3 with rfl|rfl|rfl<;>decide
  refine H.ld 0 rfl rfl ⟨by omega,by omega,?_⟩;rw[AX Na];refine (KC _ c w2).mono ?_;rintro r w3 ⟨rfl,rfl⟩;rw[BT,show bl (⟨#[110,114,116,98,102]⟩:cN)=[110,114,116,98,102]from rfl,jC Au];refine Br.f rfl ?_
  iterate 2 refine H.ld 0 rfl rfl ?_
  refine (Sz x Na (by rcases h3 with rfl|rfl|rfl<;>decide) (by rcases h3 with rfl|rfl|rfl<;>decide) _).mono ?_;rintro r b w4 ⟨rfl,rfl,e4⟩;have H:=H.AB e4;have J:HK w ((i+1:Nat):Int) (fun r t0z w1=>r=⟨#[c]⟩/\t0z=((i+[92,c].length:Nat):Int)/\Ext (fun _=>False) w w1) (0,((i+1:Nat):Int)) w4:=by
   unfold HK;refine Br.dec (fun q=>absurd q (by show ¬((i+1:Nat):Int)>_;omega)) fun _=>H.ld 0 rfl rfl ?_
   rw[i1];refine ⟨by omega,by omega,by omega,by omega,?_,rfl,H.ext⟩;rw[<-Ss (s.extract _ _),A9,ay,ay,hd,show i+2-(i+1)=1 by omega]
   rfl
  refine Br.f rfl (As.intro ⟨fun n st v=>st=(0,((i+1:Nat):Int))/\v=w4,0,⟨rfl,rfl⟩,?_⟩);rintro n st v ⟨rfl,rfl⟩;unfold PS;refine H.ld 0 rfl rfl (Br.dec (fun _=>?_) fun q=>J);rw[i3];refine Br.dec (fun _=>H.ld 0 rfl rfl ?_) fun q=>J
  dsimp only;have AD6:=AX Na;rw[AX Na];refine ⟨by omega,by omega,Br.dec (fun q1=>H.ld 0 rfl rfl ?_) fun q=>J⟩;exact ⟨by omega,by omega,Br.dec (fun q2=>absurd ⟨by omega,by omega⟩ hoc) fun q=>J⟩
 ·have hlen:i+1+3+more.length=s.size:=hlen;obtain ⟨d0,g0,l0,u0,_⟩:=XM c (j:=0) (by decide);have Na:(bl s)[i+1]?=some d0:=at_drop (j:=0) hd (by rw[aI (by show 0<3;decide)];exact g0);refine H.ld 0 rfl rfl ⟨by omega,by omega,?_⟩;rw[AX Na];refine (KC _ d0 w2).mono ?_;rintro r w3 ⟨rfl,rfl⟩;rw[BT,show bl (⟨#[110,114,116,98,102]⟩:cN)=[110,114,116,98,102]from rfl,jC (by omega)];refine Br.f rfl ?_
  iterate 2 refine H.ld 0 rfl rfl ?_
  refine (Sz x Na (fun e=>by subst e;exact absurd l0 (by decide)) (fun e=>by subst e;exact absurd l0 (by decide)) _).mono ?_;rintro r b w4 ⟨rfl,rfl,e4⟩;have H:=H.AB e4;refine Br.f rfl (As.intro ⟨fun n st v=>∃j,j<=3/\n=3-j/\st=(((ov c j:Nat):Int),((i+1+j:Nat):Int))/\v=w4,3,⟨0,by omega,rfl,rfl,rfl⟩,?_⟩);rintro n st v ⟨j,hj,rfl,rfl,rfl⟩;unfold PS;dsimp only;rw[i3];have J:j=3->HK w ((i+1:Nat):Int) (fun r t0z w1=>r=⟨#[c]⟩/\t0z=((i+(92::Iw c).length:Nat):Int)/\Ext (fun _=>False) w w1) (((ov c j:Nat):Int),((i+1+j:Nat):Int)) v:=by
   rintro rfl;unfold HK;refine Br.dec (fun _=>Nw.of ?_) fun q=>absurd (show ((i+1+3:Nat):Int)>((i+1:Nat):Int) by omega) q
   have e1:Ext (fun _=>False) v (v.alloc (.cells (Fq [c]).toArray 5)):=(Ext.refl _ _).alloc _;have R1:Bd (v.alloc (.cells (Fq [c]).toArray 5)) ⟨some ⟨v.heap.size,0,none⟩,1,1⟩ [c]:=Row.new v (Fq [c]).toArray 5 1 1 rfl;have hov:wrap .u8 ((ov c 3:Nat):Int)=(c.toNat:Int):=G0 (n:=((c.toNat:Nat):Int)) (by omega);dsimp only;rw[hov];exact ⟨_,_,CP R1,rfl,rfl,(H.AB e1).ext⟩
  refine H.ld 0 rfl rfl (Br.dec (fun q1=>?_) fun q=>J (by omega));refine Br.dec (fun q2=>H.ld 0 rfl rfl ?_) fun q=>J (by omega)
  have hj3:j<3:=by omega
  obtain ⟨d,g,ld,ud,hv⟩:=XM c hj3;have AD7:(bl s)[i+1+j]?=some d:=at_drop (j:=j) hd (by rw[aI (by show j<3;omega)];exact g);have hov:=AD5 c j;have AD6:=AX AD7;rw[AX AD7];refine ⟨by omega,by omega,Br.dec (fun _=>H.ld 0 rfl rfl ⟨by omega,by omega,Br.dec (fun _=>H.ld 0 rfl rfl ⟨by omega,by omega,Lt.of ?_⟩) fun q=>absurd (by omega) q⟩) fun q=>absurd (by omega) q⟩;refine ⟨3-(j+1),by omega,j+1,by omega,rfl,?_,rfl⟩;rw[hv,AD6,G0 (by omega),AH (n:=8*((ov c j:Nat):Int)) (by omega),AH (n:=((d.toNat:Nat):Int)-48) (by omega),AH (by omega),AH (by omega)]
  congr 1
  omega
end
end Tl
namespace Tl
open Sh Fix Tk Ov Go.Lib
theorem Oa (c:UInt8):(A0 c=[c]/\c≠92/\c≠40/\c≠41/\c≠13/\c≠10)\/∃tl,A0 c=92::tl:=by
 unfold A0;split
 ·exact .inr ⟨_,rfl⟩
 ·rename_i h;split
  ·exact .inr ⟨_,rfl⟩
  ·rename_i h2;refine .inl ⟨rfl,fun e=>h (.inr (.inr e)),fun e=>h (.inl e),fun e=>h (.inr (.inl e)),fun e=>?_,fun e=>?_⟩
   ·subst e;exact h2 (.inl (by decide))
   ·subst e;exact h2 (.inl (by decide))
section
variable {w0 w:World} {s t:ByteArray}
attribute [local irreducible] Ld Sh.St Nw Nn Lt AU
theorem QN {b:Nat}{l rest:By}(hd:(bl s).drop b=IS l++rest)(hb:b<=s.size)(hs:s.size<=1099511627776)(hl:l.length<=32767)(w:World):
  lS (s,(b:Int)) w fun r e w1=>r=(3,(b:Int),((b+(IS l).length:Nat):Int),0,ba l)/\e=0/\Ext (fun _=>False) w w1:=by
 refine AAp (s,(b:Int)) _ _ ?_;unfold tJ;have Xh:=AE s;have hba:(ba l).size=l.length:=by rw[<-AE,Bp]
 have hF:(IS l).length=(l.flatMap A0).length+2:=by unfold IS;rw[au,ae];rfl
 have DN:b+(IS l).length<=s.size:=by
  have:=aq List.length hd;rw[aE,ae,AE]at this;omega
 have NC:(bl s).drop (b+1)=l.flatMap A0++41::rest:=by
  rw[<-bH,hd];show (l.flatMap A0++[41])++rest=_;simp
 refine (Hn.start w).nw (cs:=[.string s,.int .i64 (b:Int)]) fun w2 H=>?_
 refine H.nw (cs:=[.int .i64 0,.int .i64 0,.int .i64 0,.int .i64 0,.string ⟨#[]⟩]) fun w3 H=>?_
 simp only[ag,ad,add_lit,ak]at H⊢;have h23:w2.heap.size<w3.heap.size:=H.lt 1 rfl;have h13:w.heap.size<w3.heap.size:=H.lt 0 rfl;have hw0:=H.size;refine Nw.of ?_;have e0:Ext (fun _=>False) w3 (w3.alloc (.cells #[.pointer none,AA.v ⟨none,0,0⟩] 63)):=(Ext.refl _ _).alloc _;have Gv:=AN.new w3 #[.pointer none,AA.v ⟨none,0,0⟩] 63;generalize w3.alloc (.cells #[.pointer none,AA.v ⟨none,0,0⟩] 63)=w4 at e0 Gv⊢;have B0:Bu w3 w4 w3.heap.size none ⟨none,0,0⟩ []:=⟨az _,.inl rfl,Gv,⟨rfl,.inl ⟨rfl,rfl⟩⟩⟩
 have H:=H.AB e0;have z4:=e0.size;refine H.ld 0 rfl rfl ?_;have ib:wrap .i64 (((b:Nat):Int)+1)=((b+1:Nat):Int):=by rw[AH (by omega)];rfl
 rw[ib];refine ⟨fun n st v=>∃(k:Nat) (p:Option Addr) (sl:AA),st=(1,((b+1+((l.take k).flatMap A0).length:Nat):Int))/\k<=l.length/\n=l.length-k/\Bu w3 v w3.heap.size p sl (l.take k)/\w3.heap.size<=v.heap.size/\
   Hn w v [(w.heap.size,[.string s,.int .i64 (b:Int)],225),(w2.heap.size,[.int .i64 0,.int .i64 0,.int .i64 0,.int .i64 0,.string ⟨#[]⟩],148)],l.length,
  ⟨0,none,⟨none,0,0⟩,rfl,by omega,rfl,B0,z4,H⟩,?_⟩
 rintro n st v ⟨k,p,sl,rfl,hk,rfl,hB,mP,H⟩;unfold Uc;have KD:∀{u u':World},Hn w u [(w.heap.size,[.string s,.int .i64 (b:Int)],225),(w2.heap.size,[.int .i64 0,.int .i64 0,.int .i64 0,.int .i64 0,.string ⟨#[]⟩],148)]->Ext (fun j=>w3.heap.size<=j) u u'->
   Hn w u' [(w.heap.size,[.string s,.int .i64 (b:Int)],225),(w2.heap.size,[.int .i64 0,.int .i64 0,.int .i64 0,.int .i64 0,.string ⟨#[]⟩],148)]:=fun H e=>H.other e fun j hj=>by
  have hj:w3.heap.size<=j:=hj;refine ⟨by omega,?_⟩;simp only[aB,bj,ar,aF,bp];omega
 by_cases LD:k<l.length
 ·have hc:=ah LD;generalize l[k]=c at hc;have Au:=CU c;have Zg:=OZ (f:=A0) l (41::rest) k;rw[EN hc,bh]at Zg;have Fi:(l.take (k+1)).flatMap A0=(l.take k).flatMap A0++A0 c:=by rw[Hi hc,bd];simp
  have hle:((l.take (k+1)).flatMap A0).length<=(l.flatMap A0).length:=by
   have:l.flatMap A0=(l.take (k+1)).flatMap A0++(l.drop (k+1)).flatMap A0:=by rw[<-bd,aT]
   rw[this,ae];omega
  rw[Fi,ae]at hle;have MU:(bl s).drop (b+1+((l.take k).flatMap A0).length)=A0 c++((l.drop (k+1)).flatMap A0++41::rest):=by
   rw[<-bH,NC,Zg,aD]
  generalize hA:((l.take k).flatMap A0).length=A at*;have Oz:((l.take (k+1)).flatMap A0).length=A+(A0 c).length:=by rw[Fi,ae,hA]
  have BI:1<=(A0 c).length:=by
   rcases Oa c with ⟨h,_⟩|⟨tl,h⟩<;>rw[h]<;>simp
  refine H.ld 0 rfl rfl (Br.dec (fun _=>?_) fun q=>absurd (show ((b+1+A:Nat):Int)<((s.size:Nat):Int) by omega) q)
  iterate 2 refine H.ld 0 rfl rfl ?_
  have Sp:∀{u:World} {p':Option Addr} {Bq:AA},Bu w3 u w3.heap.size p' Bq (l.take k++[c])->w3.heap.size<=u.heap.size->Hn w u [(w.heap.size,[.string s,.int .i64 (b:Int)],225),(w2.heap.size,[.int .i64 0,.int .i64 0,.int .i64 0,.int .i64 0,.string ⟨#[]⟩],148)]->∀t0z:Int,t0z=((b+1+A+(A0 c).length:Nat):Int)->
    ∃n',n'<l.length-k/\∃(k:Nat) (p:Option Addr) (sl:AA),((1:Int),t0z)=(1,((b+1+((l.take k).flatMap A0).length:Nat):Int))/\k<=l.length/\n'=l.length-k/\Bu w3 u w3.heap.size p sl (l.take k)/\w3.heap.size<=u.heap.size/\
   Hn w u [(w.heap.size,[.string s,.int .i64 (b:Int)],225),(w2.heap.size,[.int .i64 0,.int .i64 0,.int .i64 0,.int .i64 0,.string ⟨#[]⟩],148)]:=by
   rintro u p' Bq h1 h2 h3 t0z rfl;refine ⟨l.length-(k+1),by omega,k+1,p',Bq,?_,by omega,rfl,by rw[Hi hc];exact h1,h2,h3⟩;rw[Oz,Nat.add_assoc]
  rcases Oa c with ⟨hE,n92,n40,n41,n13,n10⟩|⟨tl,hE⟩
  ·have Na:(bl s)[b+1+A]?=some c:=at_drop (j:=0) MU (by rw[hE];rfl);refine (Sz _ Na n13 n10 v).mono ?_;rintro r bb v1 ⟨rfl,rfl,e1⟩;have H:=H.AB e1;have hB:=hB.AB e1;have z1:=e1.size;refine Br.f rfl (As.intro (H.ld 0 rfl rfl ⟨by omega,by show ((b+1+A:Nat):Int)<_;omega,?_⟩));dsimp only;rw[AX Na];refine Br.eq (fun q=>absurd (Sy (d:=92) q) n92) fun _=>Br.eq (fun q=>absurd (Sy (d:=40) q) n40) fun _=>Br.eq (fun q=>absurd (Sy (d:=41) q) n41) fun _=>?_
   unfold Lu;refine Br.f rfl (H.ld 0 rfl rfl ⟨by omega,by show ((b+1+A:Nat):Int)<_;omega,?_⟩);dsimp only;rw[AX Na];refine (EH hB (by rw[aC];omega)).mono ?_;rintro r v2 ⟨Qw,NB,hW⟩;refine Sp NB (by have:=hW.ext.size;omega) (KD H hW.ext) _ ?_;rw[hE,AH (by omega)]
   rfl
  ·have Na:(bl s)[b+1+A]?=some 92:=at_drop (j:=0) MU (by rw[hE];rfl);have gL:(bl s).drop (b+1+A+1)=tl++((l.drop (k+1)).flatMap A0++41::rest):=by
    rw[<-bH,MU,hE]
    rfl
   refine (Sz _ Na (by decide) (by decide) v).mono ?_;rintro r bb v1 ⟨rfl,rfl,e1⟩;have H:=H.AB e1;have hB:=hB.AB e1;have z1:=e1.size;refine Br.f rfl (As.intro (H.ld 0 rfl rfl ⟨by omega,by show ((b+1+A:Nat):Int)<_;omega,?_⟩));dsimp only;rw[AX Na,show wrap .i64 (((b+1+A:Nat):Int)+1)=((b+1+A+1:Nat):Int) by rw[AH (by omega)];rfl];refine Br.t rfl (H.ld 0 rfl rfl (Br.eq (fun q=>absurd q (by omega)) fun _=>?_))
   iterate 2 refine H.ld 0 rfl rfl ?_
   refine (ZN _ hE gL (by omega) hs v1).mono ?_;rintro r t0z v2 ⟨rfl,rfl,e2⟩;have H:=H.AB e2;have hB:=hB.AB e2;have z2:=e2.size;refine (EA hB (by rw[aC];show _+1<=_;omega)).mono ?_;rintro r r' v3 ⟨Qw,NB,hW⟩;exact Sp NB (by have:=hW.ext.size;omega) (KD H hW.ext) _ rfl
 ·have LD:k=l.length:=by omega
  subst LD;rw[bf]at hB⊢;have Na:(bl s)[b+1+(l.flatMap A0).length]?=some 41:=by
   refine at_drop (j:=(l.flatMap A0).length) NC ?_;rw[aM (az _),Nat.sub_self]
   rfl
  refine H.ld 0 rfl rfl (Br.dec (fun _=>?_) fun q=>absurd (show ((b+1+(l.flatMap A0).length:Nat):Int)<((s.size:Nat):Int) by omega) q)
  iterate 2 refine H.ld 0 rfl rfl ?_
  refine (Sz _ Na (by decide) (by decide) v).mono ?_;rintro r bb v1 ⟨rfl,rfl,e1⟩;have H:=H.AB e1;have hB:=hB.AB e1;have z1:=e1.size;refine Br.f rfl (As.intro (H.ld 0 rfl rfl ⟨by omega,by show ((b+1+(l.flatMap A0).length:Nat):Int)<_;omega,?_⟩));dsimp only;rw[AX Na];refine Br.f rfl (Br.f rfl (Br.t rfl ?_));unfold Lu;refine Br.t (show (wrap .i64 (1-1)==0)=true by decide) ⟨fun u=>Hn w u [(w.heap.size,[.string s,.int .i64 (b:Int)],225),(w2.heap.size,[.int .i64 0,.int .i64 0,.int .i64 0,.int .i64 0,.string ⟨#[]⟩],148)],H.drew,?_⟩;refine AU.of (fun u hu=>hu.get 0 rfl) rfl (AU.of (fun u hu=>hu.get 0 rfl) rfl ?_);refine (JF (hB.AB (Ext.refl (fun _=>False) v1).drew) (by show w3.heap.size<=v1.heap.size;omega)).mono ?_;rintro r v2 ⟨rfl,G7⟩;have H:=KD H.drew (Cl G7);refine ⟨H,?_⟩;refine (VF _ _ _ _ (show (((ba l).size:Nat):Int)<=32767 by omega) v2).mono ?_;rintro r e v3 ⟨rfl,rfl,he⟩;have H:=H.AB he;simp only[add_lit,ak]
  iterate 5 (refine H.st 1 rfl (by simp) fun _ H=>?_;simp only[aa,ab]at H)
  iterate 5 refine H.ld 1 rfl rfl ?_
  refine ⟨?_,by trivial,H.ext⟩;have:wrap .i64 (((b+1+(l.flatMap A0).length:Nat):Int)+1)=((b+(IS l).length:Nat):Int):=by rw[AH (by omega)];omega
  rw[this]
end
end Tl
namespace Tl
open Sh Fix Tk Ov Go.Lib
section
variable {w0 w:World} {s t:ByteArray} {a:Nat}
attribute [local irreducible] Ld Sh.St Nw Nn Lt AU
theorem GX {b:Nat}(ha:a<=s.size)(hb:a+AP ((bl s).drop a) false=b):b<=s.size:=by
 have:=Iu ((bl s).drop a) false;rw[aE,AE]at this;omega
theorem TA {b:Nat}{l rest:By}(ha:a<=s.size)(hs:s.size<=1099511627776)(hb:a+AP ((bl s).drop a) false=b)(hd:(bl s).drop b=Ci l++rest)(hr:∀c,rest.head?=some c->AW c=false)(hl:l.length<=127)(h0:0∉l)(w:World):
  FW s (a:Int) w fun r e w1=>r=(4,(b:Int),((b+(Ci l).length:Nat):Int),0,ba l)/\e=0/\Ext (fun _=>False) w w1:=by
 have hc:(bl s)[b]?=some 47:=at_drop (j:=0) hd rfl;refine Cp ha hs hb hc w fun w2 v H=>?_
 unfold Fz;rw[AX hc];refine Br.f rfl (Br.f rfl (Br.f rfl (Br.t rfl ?_)));simp only[add_lit,ak]
 iterate 2 refine H.ld 1 rfl rfl ?_
 refine (np hd hr (GX ha hb) hs hl h0 v).mono ?_;rintro r e w3 ⟨rfl,rfl,e3⟩;have H:=H.AB e3
 iterate 5 (refine H.st 0 rfl (by simp) fun _ H=>?_;simp only[aa,ab]at H)
 iterate 5 refine H.ld 0 rfl rfl ?_
 exact ⟨rfl,by trivial,H.ext⟩
theorem Vp {b:Nat}{l rest:By}(ha:a<=s.size)(hs:s.size<=1099511627776)(hb:a+AP ((bl s).drop a) false=b)(hd:(bl s).drop b=IS l++rest)(hl:l.length<=32767)(w:World):
  FW s (a:Int) w fun r e w1=>r=(3,(b:Int),((b+(IS l).length:Nat):Int),0,ba l)/\e=0/\Ext (fun _=>False) w w1:=by
 have hc:(bl s)[b]?=some 40:=at_drop (j:=0) hd rfl;refine Cp ha hs hb hc w fun w2 v H=>?_
 unfold Fz;rw[AX hc];refine Br.f rfl (Br.f rfl (Br.f rfl (Br.f rfl (Br.t rfl ?_))));simp only[add_lit,ak]
 iterate 2 refine H.ld 1 rfl rfl ?_
 refine (QN hd (GX ha hb) hs hl v).mono ?_;rintro r e w3 ⟨rfl,rfl,e3⟩;have H:=H.AB e3
 iterate 5 (refine H.st 0 rfl (by simp) fun _ H=>?_;simp only[aa,ab]at H)
 iterate 5 refine H.ld 0 rfl rfl ?_
 exact ⟨rfl,by trivial,H.ext⟩
theorem Bg.head{n:Int}{T D:By}(h:Bg n T D):∃c T',T=c::T':=by
 have h1:=h.len;have h2:=h.d1;cases T with
 |nil=>rw[aV]at h1;split at h1<;>omega
 |cons c T'=>exact ⟨c,T',rfl⟩
theorem Jj {c:UInt8}{r:By}(h:D9 c=false)(h2:c≠37):AP (c::r) false=0:=by
 show (if c=37 then _ else if D9 c=true then _ else 0)=0;rw[aA h2,h]
 rfl
theorem nr {c:UInt8}{r:By}(h:AW c=true):AP (32::c::r) false=1:=by
 show (if (32:UInt8)=37 then _ else if D9 32=true then 1+AP (c::r) false else 0)=1;rw[aA (by decide),aG (by decide),ia h]
end
end Tl
set_option maxRecDepth 4000
set_option maxHeartbeats 2000000
namespace Vl
open Sh
abbrev Ob:=Int×Int×Int×ByteArray×AA×AA
abbrev Tg:AA:=⟨none,0,0⟩
def AF (o:Ob):List Value:=[.int .i64 o.1,.int .i64 o.2.1,.int .i64 o.2.2.1,.string o.2.2.2.1,AA.v o.2.2.2.2.1,AA.v o.2.2.2.2.2]
def Kl:Ob:=(0,0,0,⟨#[]⟩,Tg,Tg)
theorem Kg:El prog 24 26 6 88 (.agg (AF Kl).toArray):=⟨by kernel_rfl,by kernel_rfl,by kernel_rfl,by kernel_rfl,rfl⟩
theorem MF (o:Ob):∀v∈AF o,v.oneCell'=true:=by
 intro v hv;simp only[AF,ar,aF,bp]at hv;rcases hv with rfl|rfl|rfl|rfl|rfl|rfl<;>rfl
theorem XO (L:List Ob):∀v∈L.flatMap AF,v.oneCell'=true:=by
 intro v hv;obtain ⟨o,_,h⟩:=List.mem_flatMap.1 hv;exact MF o v h
theorem DY (L:List Ob):(L.flatMap AF).length=L.length*6:=by
 induction L with
 |nil=>rfl
 |cons o L ih=>rw[bh,ae,ih,au];simp[AF];omega
theorem nt {L:List Ob}{i j:Nat}{o:Ob}(hi:L[i]?=some o)(hj:j<6):(L.flatMap AF)[i*6+j]?=(AF o)[j]?:=by
 induction L generalizing i with
 |nil=>cases hi
 |cons p L ih=>
  rw[bh];cases i with
  |zero=>
   cases hi;rw[cE,ak,aI (by simp[AF];omega)]
  |succ i=>
   rw[aM (by simp[AF];omega),<-ih (by simpa using hi)]
   congr 1
   simp only[AF,au,aV];omega
def OV (w:World)(s:AA)(L:List Ob):Prop:=s.len=L.length/\B9 w s 6 (L.flatMap AF)
abbrev AN0 (g n:Nat):AA:=⟨some ⟨g,0,none⟩,n,n⟩
theorem OV.of{w:World}{g:Nat}{L:List Ob}{t:TypeId}(h:AN w g (L.flatMap AF).toArray t):OV w (AN0 g L.length) L:=⟨rfl,B9.of h (DY L)⟩
theorem OV.AB{w w':World}{s:AA}{L:List Ob}(h:OV w s L)(he:Ext (fun _=>False) w w'):OV w' s L:=⟨h.1,h.2.AB he⟩
theorem OV.get{w:World}{s:AA}{L:List Ob}(h:OV w s L){i:Nat}{o:Ob}(hi:L[i]?=some o):∃a,s.p=some a/\w.cell? (a.add (i*6))=some (.int .i64 o.1)/\w.cell? ((a.add (i*6)).add 1)=some (.int .i64 o.2.1)/\w.cell? ((a.add (i*6)).add 2)=some (.int .i64 o.2.2.1)/\
  w.cell? ((a.add (i*6)).add 3)=some (.string o.2.2.2.1)/\w.cell? ((a.add (i*6)).add 4)=some (AA.v o.2.2.2.2.1)/\w.cell? ((a.add (i*6)).add 5)=some (AA.v o.2.2.2.2.2):=by
 have g:∀j v,j<6->(AF o)[j]?=some v->∃a,s.p=some a/\w.cell? ((a.add (i*6)).add j)=some v:=fun j v hj hv=>by
  obtain ⟨a,ha,hc⟩:=h.2.2 (i*6+j) v (by rw[nt hi hj];exact hv);exact ⟨a,ha,by rw[CQ];exact hc⟩
 obtain ⟨a,ha,c0⟩:=g 0 _ (by omega) rfl;obtain ⟨a1,oV,c1⟩:=g 1 _ (by omega) rfl;obtain ⟨a2,oW,c2⟩:=g 2 _ (by omega) rfl;obtain ⟨a3,oX,c3⟩:=g 3 _ (by omega) rfl;obtain ⟨a4,ha4,c4⟩:=g 4 _ (by omega) rfl;obtain ⟨a5,ha5,c5⟩:=g 5 _ (by omega) rfl;rw[ha]at oV oW oX ha4 ha5;cases oV;cases oW;cases oX;cases ha4;cases ha5;exact ⟨a,ha,by rw[CQ]at c0;exact c0,c1,c2,c3,c4,c5⟩
theorem Nf:IM prog 26=some [(0,3),(1,2),(2,3),(3,9),(4,23),(5,24)]:=by kernel_rfl
theorem Ae.any{w:World}{a:Addr}:∀(ts:List Da) (i:Nat) (x:Aj ts) (K:Aj ts->Prop),(∀j v,(Aj.cells ts x)[j]?=some v->w.cell? (a.add (i+j))=some v)->K x->Ae w a i ts K
 |[],_,_,_,_,k=>k
 |[t],i,x,K,h,k=>Ld.mk (x:=x) (h 0 (t.v x) rfl) k
 |t::u::r,i,x,K,h,k=>Ld.mk (x:=x.1) (h 0 (t.v x.1) rfl) (Ae.any (u::r) (i+1) x.2 (fun y=>K (x.1,y)) (fun j v hj=>by
   have:=h (j+1) v hj;rw[show i+1+j=i+(j+1) by omega];exact this) k)
theorem OV.word{w:World}{s:AA}{L:List Ob}(h:OV w s L){i:Nat}{o:Ob}(hi:L[i]?=some o){K:AG->Prop}(k:K o):∃a,s.p=some a/\Ae w (a.add (i*6)) 0 AD K:=by
 obtain ⟨a,ha,c0,c1,c2,c3,c4,c5⟩:=h.get hi;refine ⟨a,ha,Ae.any AD 0 o K (fun j v hj=>?_) k⟩;rw[ak]
 match j,hj with
 |0,hj=>obtain rfl:=aQ hj;rw[show (a.add (i*6)).add 0=a.add (i*6) by rw[CQ];rfl];exact c0
 |1,hj=>obtain rfl:=aQ hj;exact c1
 |2,hj=>obtain rfl:=aQ hj;exact c2
 |3,hj=>obtain rfl:=aQ hj;exact c3
 |4,hj=>obtain rfl:=aQ hj;exact c4
 |5,hj=>obtain rfl:=aQ hj;exact c5
 |n+6,hj=>simp[Aj.cells]at hj
end Vl
namespace Vl
open Sh
inductive Tr where
 |mk (k n g:Int) (s:ByteArray) (ks:List ByteArray) (kids:List Tr)
def Tr.k:Tr->Int| .mk k _ _ _ _ _=>k
def Tr.n:Tr->Int| .mk _ n _ _ _ _=>n
def Tr.g:Tr->Int| .mk _ _ g _ _ _=>g
def Tr.s:Tr->ByteArray| .mk _ _ _ s _ _=>s
def Tr.ks:Tr->List ByteArray| .mk _ _ _ _ ks _=>ks
def Tr.kids:Tr->List Tr| .mk _ _ _ _ _ kids=>kids
theorem Tr.ext{a b:Tr}(h1:a.k=b.k)(h2:a.n=b.n)(h3:a.g=b.g)(h4:a.s=b.s)(h5:a.ks=b.ks)(h6:a.kids=b.kids):a=b:=by
 cases a;cases b;simp only[Tr.k,Tr.n,Tr.g,Tr.s,Tr.ks,Tr.kids]at*;subst h1 h2 h3 h4 h5 h6
 rfl
def Ar {α β:Type}(R:α->β->Prop):List α->List β->Prop
 |[],[]=>True
 |a::l,b::m=>R a b/\Ar R l m
 |_,_=>False
theorem Ar.len{α β:Type}{R:α->β->Prop}:∀{l:List α} {m:List β},Ar R l m->l.length=m.length
 |[],[],_=>rfl
 |_::_,_::_,h=>by rw[au,au,h.2.len]
theorem Ar.imp{α β:Type}{R Q:α->β->Prop}(h:∀a b,R a b->Q a b):∀{l:List α} {m:List β},Ar R l m->Ar Q l m
 |[],[],_=>trivial
 |_::_,_::_,k=>⟨h _ _ k.1,k.2.imp h⟩
theorem Ar.get{α β:Type}{R:α->β->Prop}:∀{l:List α} {m:List β},Ar R l m->∀{i:Nat} {a:α},l[i]?=some a->∃b,m[i]?=some b/\R a b
 |[],[],_,i,a,h=>by simp at h
 |_::_,b::_,k,0,a,h=>by
  simp only[bL,aS]at h;subst h;exact ⟨b,rfl,k.1⟩
 |_::_,_::_,k,i+1,a,h=>by
  simp only[bK]at h⊢;exact k.2.get h
theorem Ar.jD{α β:Type}{R:α->β->Prop}:∀{l:List α} {m:List β},Ar R l m->∀{i:Nat} {b:β},m[i]?=some b->∃a,l[i]?=some a/\R a b
 |[],[],_,i,a,h=>by simp at h
 |a::_,_::_,k,0,b,h=>by
  simp only[bL,aS]at h;subst h;exact ⟨a,rfl,k.1⟩
 |_::_,_::_,k,i+1,b,h=>by
  simp only[bK]at h⊢;exact k.2.jD h
theorem Ar.of{α β:Type}{R:α->β->Prop}:∀{l:List α} {m:List β},l.length=m.length->(∀(i:Nat) a b,l[i]?=some a->m[i]?=some b->R a b)->Ar R l m
 |[],[],_,_=>trivial
 |a::l,b::m,h,k=>⟨k 0 a b rfl rfl,.of (by simpa using h) fun i a' b' h1 h2=>k (i+1) a' b' (by simpa using h1) (by simpa using h2)⟩
theorem Ar.app{α β:Type}{R:α->β->Prop}:∀{l:List α} {m:List β} {l':List α} {m':List β},Ar R l m->Ar R l' m'->Ar R (l++l') (m++m')
 |[],[],_,_,_,h=>h
 |_::_,_::_,_,_,k,h=>⟨k.1,k.2.app h⟩
theorem Ar.take{α β:Type}{R:α->β->Prop}:∀{l:List α} {m:List β} (n:Nat),Ar R l m->Ar R (l.take n) (m.take n)
 |_,_,0,_=>by simp[Ar]
 |[],[],_+1,_=>by simp[Ar]
 |_::_,_::_,n+1,k=>⟨k.1,k.2.take n⟩
theorem Ar.drop{α β:Type}{R:α->β->Prop}:∀{l:List α} {m:List β} (n:Nat),Ar R l m->Ar R (l.drop n) (m.drop n)
 |_,_,0,k=>by simpa using k
 |[],[],_+1,_=>by simp[Ar]
 |_::_,_::_,n+1,k=>k.2.drop n
def KV (w:World)(s:AA)(K:List ByteArray):Prop:=(s.len=K.length/\K.length<=9223372036854775807)/\∀(i:Nat) (b:ByteArray),K[i]?=some b->∃a,s.p=some a/\w.cell? (a.add i)=some (.string b)
theorem KV.AB{w w':World}{s:AA}{K:List ByteArray}(h:KV w s K)(he:Ext (fun _=>False) w w'):KV w' s K:=⟨h.1,fun i b hi=>by
 obtain ⟨a,ha,hc⟩:=h.2 i b hi;exact ⟨a,ha,he.GM hc⟩⟩
theorem KV.nil(w:World):KV w Tg []:=⟨⟨rfl,by simp⟩,fun i b h=>by simp at h⟩
def FH (w:World):Nat->Ob->Tr->Prop
 |0,_,_=>False
 |d+1,o,t=>(o.1=t.k/\o.2.1=t.n/\o.2.2.1=t.g/\o.2.2.2.1=t.s)/\KV w o.2.2.2.2.1 t.ks/\∃L:List Ob,OV w o.2.2.2.2.2 L/\Ar (FH w d) L t.kids
theorem FH.AB{w w':World}(he:Ext (fun _=>False) w w'):∀{d:Nat} {o:Ob} {t:Tr},FH w d o t->FH w' d o t
 |0,_,_,h=>h.elim
 |d+1,o,t,⟨h1,h2,L,h3,h4⟩=>⟨h1,h2.AB he,L,h3.AB he,h4.imp fun _ _ h=>FH.AB he h⟩
theorem FH.mono{w:World}:∀{d:Nat} {o:Ob} {t:Tr},FH w d o t->FH w (d+1) o t
 |0,_,_,h=>h.elim
 |d+1,o,t,⟨h1,h2,L,h3,h4⟩=>⟨h1,h2,L,h3,h4.imp fun _ _ h=>FH.mono h⟩
theorem FH.le{w:World}{d d':Nat}(h:d<=d'){o:Ob}{t:Tr}(k:FH w d o t):FH w d' o t:=by
 induction h with
 |refl=>exact k
 |step _ ih=>exact ih.mono
def ns (w:World)(s:AA)(ts:List Tr):Prop:=∃d L,OV w s L/\Ar (FH w d) L ts
def OX (w:World)(o:Ob)(t:Tr):Prop:=∃d,FH w d o t
theorem OX.AB{w w':World}{o:Ob}{t:Tr}(h:OX w o t)(he:Ext (fun _=>False) w w'):OX w' o t:=let ⟨d,h⟩:=h;⟨d,h.AB he⟩
theorem ns.AB{w w':World}{s:AA}{ts:List Tr}(h:ns w s ts)(he:Ext (fun _=>False) w w'):ns w' s ts:=by
 obtain ⟨d,L,h1,h2⟩:=h;exact ⟨d,L,h1.AB he,h2.imp fun _ _ h=>h.AB he⟩
theorem ns.len{w:World}{s:AA}{ts:List Tr}(h:ns w s ts):s.len=ts.length:=by
 obtain ⟨d,L,h1,h2⟩:=h;rw[h1.1,h2.len]
theorem OX.of{w:World}{o:Ob}{t:Tr}(h1:o.1=t.k)(h2:o.2.1=t.n)(h3:o.2.2.1=t.g)(h4:o.2.2.2.1=t.s)(h5:KV w o.2.2.2.2.1 t.ks)(h6:ns w o.2.2.2.2.2 t.kids):OX w o t:=by
 obtain ⟨d,L,k1,k2⟩:=h6;exact ⟨d+1,⟨h1,h2,h3,h4⟩,h5,L,k1,k2⟩
theorem OX.out{w:World}{o:Ob}{t:Tr}(h:OX w o t):(o.1=t.k/\o.2.1=t.n/\o.2.2.1=t.g/\o.2.2.2.1=t.s)/\KV w o.2.2.2.2.1 t.ks/\ns w o.2.2.2.2.2 t.kids:=by
 obtain ⟨d,h⟩:=h;cases d with
 |zero=>exact h.elim
 |succ d=>exact ⟨h.1,h.2.1,d,h.2.2⟩
structure Us where
 n:Bool
 g:Bool
 s:Bool
 ks:Bool
 kids:Bool
def CV (k:Int):Option Us:=
 if k=0 then some ⟨false,false,false,false,false⟩else if k=1\/k=2\/k=3 then some ⟨true,false,false,false,false⟩else if k=4\/k=5 then some ⟨false,false,true,false,false⟩
 else if k=6 then some ⟨false,false,false,false,true⟩else if k=7 then some ⟨false,false,false,true,true⟩else if k=8 then some ⟨true,true,false,false,false⟩else if k=9 then some ⟨false,false,true,true,true⟩else none
def Dz (s:ByteArray):Bool:=decide (s.size<=127)&& !s.data.toList.contains 0
def TB:Option ByteArray->ByteArray->Bool
 |some p,k=>Op.bytesLess p.toList k.toList
 |none,_=>true
def Df (HW:Bool):Option ByteArray->List ByteArray->List Tr->Bool
 |_,[],[]=>true
 |prev,k::ks,x::xs=>Dz k&&TB prev k&& !(HW&&(k.toList==(⟨#[76,101,110,103,116,104]⟩:cN).toList))&&decide (x.k≠0)&&Df HW (some k) ks xs
 |_,_,_=>false
def Hk (t:Tr):Bool:=Df (decide (t.k=9)) none t.ks t.kids
def TC (t:Tr):Bool:=
 if t.k=1 then decide (0<=t.n/\t.n<=1)else if t.k=2 then decide (-2147483647<=t.n/\t.n<=2147483647)else if t.k=3 then decide (-1073741824<=t.n/\t.n<=1073741824)
 else if t.k=8 then decide (1<=t.n/\t.n<=8191)&&decide (0<=t.g/\t.g<=65535)else true
def QP (t:Tr):Bool:=if t.k=4 then decide (t.s.size<=32767)else if t.k=5 then decide (t.s.size<=127)else decide (t.s.size<=1048576)
def Ck (deep:Int)(t:Tr)(u:Us):Bool:=(u.n||(t.n==0))&&(u.g||(t.g==0))&&(u.s||(t.s.toList==(⟨#[]⟩:cN).toList))&&(u.ks||(((t.ks.length:Nat):Int)==0))&&(u.kids||(((t.kids.length:Nat):Int)==0))&&((deep==1)||(t.k !=9))
def Ch (t:Tr)(u:Us):Bool:=TC t&&QP t&&decide (((t.kids.length:Nat):Int)<=8191)&&((t.k !=5)||Dz t.s)&&(!u.ks||Hk t)
def A3 (deep:Int)(t:Tr):Bool:=decide (deep<=24)&&(match CV t.k with
 |none=>false
 |some u=>Ck deep t u&&Ch t u)
mutual
def CL (deep:Int):Tr->Bool
 | .mk k n g s ks kids=>A3 deep (.mk k n g s ks kids)&&Ta (deep+1) kids
def Ta (deep:Int):List Tr->Bool
 |[]=>true
 |t::r=>CL deep t&&Ta deep r
end
theorem Dt (deep:Int)(t:Tr):CL deep t=(A3 deep t&&Ta (deep+1) t.kids):=by
 cases t;rw[CL]
 rfl
theorem IY {deep:Int}:∀{l:List Tr},Ta deep l=true↔∀t∈l,CL deep t=true
 |[]=>by simp[Ta]
 |t::r=>by
  rw[Ta,ai,IY];simp
end Vl
set_option maxRecDepth 8000
set_option maxHeartbeats 4000000
namespace Wt
open Sh Fix Tk Tl
structure Pt where
 t:By
 k:Int
 n:Int
 s:ByteArray
def Pt.tok(p:Pt)(x b:Int):TT:=(p.k,x,b,p.n,p.s)
structure I3 (p:Pt):Prop where
 ne:p.t≠[]
 ws:D9 (p.t.headD 0)=false
 rm:p.t.headD 0≠37
 k0:p.k≠0
 lex:∀(s:ByteArray) (a b:Nat) (rest:By),a<=s.size->s.size<=1099511627776->a+AP ((bl s).drop a) false=b->(bl s).drop b=p.t++rest->((AW (p.t.getLastD 0)=true\/p.t.getLastD 0=47)->∀c,rest.head?=some c->AW c=false)->
  ∀w,FW s (a:Int) w fun r e w1=>r=p.tok (b:Int) ((b+p.t.length:Nat):Int)/\e=0/\Ext (fun _=>False) w w1
inductive Cj (s:ByteArray):Nat->List Pt->Nat->Prop where
 |nil {a:Nat} (ha:a<=s.size):Cj s a [] a
 |cons {a x b c:Nat} {p:Pt} {ps:List Pt} (ha:a<=s.size) (h:∀w,FW s (a:Int) w fun r e w1=>r=p.tok (x:Int) (b:Int)/\e=0/\Ext (fun _=>False) w w1) (k0:p.k≠0) (k:Cj s b ps c):Cj s a (p::ps) c
theorem Cj.le{s:ByteArray}{a c:Nat}{ps:List Pt}(h:Cj s a ps c):a<=s.size/\c<=s.size:=by
 induction h with
 |nil ha=>exact ⟨ha,ha⟩
 |cons ha _ _ _ ih=>exact ⟨ha,ih.2⟩
theorem Cj.app{s:ByteArray}{a b c:Nat}{ps qs:List Pt}(h:Cj s a ps b)(k:Cj s b qs c):Cj s a (ps++qs) c:=by
 induction h with
 |nil ha=>exact k
 |cons ha h k0 _ ih=>exact .cons ha h k0 (ih k)
theorem Cj.split{s:ByteArray}:∀{ps qs:List Pt} {a c:Nat},Cj s a (ps++qs) c->∃b,Cj s a ps b/\Cj s b qs c
 |[],qs,a,c,h=>⟨a,.nil h.le.1,h⟩
 |p::ps,qs,a,c,.cons ha h k0 k=>by
  obtain ⟨b,h1,h2⟩:=Cj.split k;exact ⟨b,.cons ha h k0 h1,h2⟩
theorem OB {last:UInt8}{r:List Pt}{rest:By}(hp:∀p∈r,I3 p)(hl:AW last=true\/last=47)(hr:∀c,rest.head?=some c->AW c=false):∀c,(Af last (r.map (·.t))++rest).head?=some c->AW c=false:=by
 intro c hc;cases r with
 |nil=>exact hr c hc
 |cons q r=>
  have hq:=(hp q (aw ..)).ne;rw[aB,join_cons last hq]at hc;by_cases h2:AW (q.t.headD 0)=true
  ·rw[aG ⟨hl,h2⟩]at hc;simp only[ag,ad,List.head?_cons,aS]at hc;subst hc;decide
  ·rw[aA fun h=>h2 h.2]at hc;cases hqt:q.t with
   |nil=>exact absurd hqt hq
   |cons d tl=>
    rw[hqt]at hc h2;simp only[ad,ag,aD,List.head?_cons,aS]at hc;subst hc;simpa using h2
theorem SA {s:ByteArray}(hs:s.size<=1099511627776){rest:By}(hr:∀c,rest.head?=some c->AW c=false):∀(ps:List Pt) (last:UInt8) (a:Nat),(∀p∈ps,I3 p)->a<=s.size->(bl s).drop a=Af last (ps.map (·.t))++rest->
  ∃c,Cj s a ps c/\(bl s).drop c=rest
 |[],last,a,_,ha,hd=>⟨a,.nil ha,hd⟩
 |p::r,last,a,hp,ha,hd=>by
  have VP:=hp p (aw ..);have hpr:∀q∈r,I3 q:=fun q hq=>hp q (av _ hq)
  rw[aB,join_cons last VP.ne]at hd;obtain ⟨d,tl,K8⟩:∃d tl,p.t=d::tl:=by
   cases K8:p.t with
   |nil=>exact absurd K8 VP.ne
   |cons d tl=>exact ⟨d,tl,rfl⟩
  have hw:D9 d=false:=by simpa[K8]using VP.ws
  have hm:d≠37:=by simpa[K8]using VP.rm
  have key:∃b,a+AP ((bl s).drop a) false=b/\(bl s).drop b=p.t++(Af (p.t.getLastD 0) (r.map (·.t))++rest):=by
   by_cases h:(AW last=true\/last=47)/\AW (p.t.headD 0)=true
   ·rw[aG h]at hd;have h2:AW d=true:=by simpa[K8]using h.2
    refine ⟨a+1,?_,?_⟩
    ·rw[hd,K8];simp only[ag,ad,aD];rw[nr h2]
    ·rw[<-bH,hd];simp
   ·rw[aA h]at hd;refine ⟨a,?_,?_⟩
    ·rw[hd,K8];simp only[ag,ad,aD];rw[Jj hw hm]
     rfl
    ·rw[hd];simp
  obtain ⟨b,hb,jx⟩:=key;have hl:=VP.lex s a b _ ha hs hb jx fun h=>OB hpr h hr
  have NG:b+p.t.length<=s.size:=by
   have G7:=GX ha hb;have:=aq List.length jx;rw[aE,ae,AE]at this;omega
  obtain ⟨c,h1,h2⟩:=SA hs hr r (p.t.getLastD 0) (b+p.t.length) hpr NG (by rw[<-bH,jx];exact MQ rfl);exact ⟨c,.cons ha hl VP.k0 h1,h2⟩
end Wt
namespace Tl
open Sh Fix Tk Ov Go.Lib
theorem vj {c:UInt8}(h:Gn.contains c=true):BF c:=by
 unfold Gn at h;simp only[List.contains_cons,List.contains_nil,Bool.or_false,bA,bU]at h;unfold BF;rcases h with rfl|rfl|rfl|rfl|rfl|rfl|rfl|rfl|rfl|rfl<;>decide
theorem Jb {l:By}(h:trimS l Gn=[]):Aq l:=fun c hc=>by
 cases hd:Gn.contains c with
 |true=>exact vj hd
 |false=>exact absurd h (Rw hc hd)
theorem fY {p:UInt8->Bool}:∀l:By,(l.dropWhile p).length<=l.length
 |[]=>az _
 |c::l=>by
  rw[bZ];have:=fY (p:=p) l;split
  ·rw[au];omega
  ·exact az _
def Gp (T:By):Int:=
 if T.length-(trimLeftS T [43,45]).length<=1/\trimLeftS T [43,45]≠[]/\trimS (trimLeftS T [43,45]) Gn=[]then 1 else if T.contains 46=true then 2 else 0
def IN (T:By):By:=if hasPrefix T [45]=true\/hasPrefix T [43]=true then T.drop 1 else T
def yj (T F:By):Bool:=
 if hasPrefix T [45]=true then !(Op.bytesLess (trimRightS ((F++EM).drop 4) [48]) [53]||decide (trimRightS ((F++EM).drop 4) [48]=[53]))else !(Op.bytesLess (trimRightS ((F++EM).drop 4) [48]) [53])
def E9 (T W F:By):Int:=
 if W++F=[]then 3 else if trimS W Gn≠[]then 3 else if trimS F Gn≠[]then 3 else if 1073741824<AS W then 2
 else if 1073741824<AS W*10^4+AS ((F++EM).take 4)+(if yj T F=true then 1 else 0)then 2 else 0
def fZ (T:By):Int:=if 40<T.length then 3 else E9 T ((IN T).takeWhile (· !=46)) (((IN T).dropWhile (· !=46)).drop 1)
def DM (T:By):Bool:=decide (T≠[])&&T.all AW&&decide (T.length<=127)&&decide (Gp T≠1)&&(decide (Gp T≠2)||(decide (fZ T≠0)&&decide (fZ T≠2)))
theorem vk {l:By}(h:(46:UInt8)∈l):l=l.takeWhile (· !=46)++46::(l.dropWhile (· !=46)).drop 1/\∀c∈l.takeWhile (· !=46),c≠46:=by
 induction l with
 |nil=>cases h
 |cons c l ih=>
  by_cases hc:c=46
  ·subst hc;simp
  ·have hb:(c !=46)=true:=by simpa using hc
   have hm:(46:UInt8)∈l:=by
    rcases ar.1 h with e|e
    ·exact absurd e.symm hc
    ·exact e
   obtain ⟨h1,h2⟩:=ih hm;rw[List.takeWhile_cons,bZ,aG hb,aG hb];refine ⟨by rw[ag,<-h1],fun x hx=>?_⟩;rcases ar.1 hx with rfl|hx
   ·exact hc
   ·exact h2 x hx
section
variable {w0 w v Dc D5 D6:World} {s t T0 EW DK:ByteArray} {W F:By}
attribute [local irreducible] Ld Sh.St Nw Nn Lt AU
theorem mM (t:ByteArray)(hs:t.size<=1099511627776)(w:World):dj t w fun r w1=>r=Gp (bl t)/\Ext (fun _=>False) w w1:=by
 refine tK _ _ _ ?_;unfold lV;have tail:∀v,Ext (fun _=>False) w v->¬((bl t).length-(trimLeftS (bl t) [43,45]).length<=1/\trimLeftS (bl t) [43,45]≠[]/\trimS (trimLeftS (bl t) [43,45]) Gn=[])->
   di t (⟨#[46]⟩:cN) v fun r8 v9=>Br r8 ((2:Int)=Gp (bl t)/\Ext (fun _=>False) w v9) ((0:Int)=Gp (bl t)/\Ext (fun _=>False) w v9):=fun v e hn=>by
  refine (fa t 46 v).mono ?_;rintro r8 v9 ⟨rfl,rfl⟩;unfold Gp;rw[aA hn];exact Bj (fun h=>⟨by rw[aG h],e⟩) fun h=>⟨by rw[aA (by rw[h];decide)],e⟩
 refine (F3 t w).mono ?_;rintro r w2 ⟨hr,e2⟩;have hle:r.size<=t.size:=by
  rw[<-AE,<-AE,hr];exact fY _
 have pF:r.size=(trimLeftS (bl t) [43,45]).length:=by rw[<-AE,hr]
 have Oz:t.size=(bl t).length:=(AE t).symm;rw[AH (by omega)];refine Br.dec (fun q=>?_) fun q=>tail w2 e2 fun h=>by have:=h.1;omega
 rw[TM];refine Bj (fun q2=>?_) fun q2=>tail w2 e2 fun h=>?_
 ·have BI:bl r≠[]:=by simpa using q2
  refine (IP r (by omega) w2).mono ?_;rintro r6 w3 ⟨h6,e3⟩;rw[TM];refine Br.dec (fun q3=>?_) fun q3=>tail w3 (e2.tr e3) fun h=>q3 ?_
  ·have q3:bl r6=[]:=q3;refine ⟨?_,e2.tr e3⟩;unfold Gp;rw[aG ⟨by omega,by rw[<-hr];exact BI,by rw[<-hr,<-h6];exact q3⟩]
  ·show bl r6=[];rw[h6,hr];exact h.2.2
 ·have q2:decide (bl r=[])=true:=by simpa using q2
  exact h.2.1 (by rw[<-hr];simpa using q2)
theorem fc (t:ByteArray)(hs:t.size<=1099511627776)(hc:Gp (bl t)=1)(w:World):lT t w fun r e w1=>Ext (fun _=>False) w w1:=by
 have hc1:trimLeftS (bl t) [43,45]≠[]/\trimS (trimLeftS (bl t) [43,45]) Gn=[]:=by
  unfold Gp at hc;split at hc
  ·rename_i h;exact h.2
  ·split at hc<;>simp at hc
 refine AAr _ _ _ ?_;unfold tL;refine (F3 t w).mono ?_;rintro r w2 ⟨hr,e2⟩;have hd:=Jb hc1.2;rw[<-hr]at hd hc1;have ht1:1<=t.size:=by
  rw[<-AE];have h1:(bl r).length<=(bl t).length:=by rw[hr];exact fY _
  have:=cg.2 hc1.1;omega
 have hrs:(bl r).length=r.size:=AE r;refine Nw.of ?_;have e3:=(Ext.refl (fun _=>False) w2).alloc (.stringIter r 0);refine ⟨fun c st v=>∃i:Nat,v.heap[w2.heap.size]?=some (.stringIter r i)/\i<=r.size/\c=r.size-i/\(0<=st/\st<=2147483648)/\Ext (fun _=>False) w v,r.size,⟨0,by unfold World.alloc;simp,by omega,rfl,by decide,e2.tr e3⟩,?_⟩;rintro c st v ⟨i,hit,hi,rfl,NF,hE⟩;unfold Ue;have WX:w2.heap.size<v.heap.size:=(aj.1 hit).1;refine Jc hit (fun c hc=>by have:=(hd c hc).2;omega) (by omega) (fun c hc=>?_) fun Pm=>?_
 ·have NA:=hd c (ax hc);have h2:=NA.2;have hiD:=(al.1 hc).1;rw[Ea (by omega) (by omega) NA];refine Lt.of ⟨r.size-(i+1),by omega,i+1,JZ (s:=r) (p:=i+1) WX,by omega,rfl,?_,?_⟩
  ·split<;>omega
  ·exact Ext.Bw hE (GU v w2.heap.size r (i+1)) fun j hj=>by have:=e2.size;have hj:j=_:=hj;omega
 ·exact Bj (fun _=>hE) fun _=>⟨by decide,by omega,Bj (fun _=>hE) fun _=>hE⟩
theorem Pn {x e:Int}{bn be:Nat}(h:RS w v bn be x e){Q:Int->Prop}(hq:Q e):Dl (some (⟨bn,0,none⟩:Addr)) (some (⟨be,0,none⟩:Addr)) none v fun v6=>Ld v6 (⟨bn,0,none⟩:Addr) (Value.int .i64) fun (x7:Int)=>Ld v6 (⟨be,0,none⟩:Addr) (Value.int .i64) fun (x8:Int)=>
  Q x8/\Ext (fun _=>False) w v6:=by
 refine RJ _ _ _ _ ?_;unfold IG;exact Ld.of h.n rfl (Ld.of h.e rfl ⟨hq,h.ext⟩)
end
end Tl
namespace Tl
open Sh Fix Tk Ov Go.Lib
section
variable {w0 w v Dc D5 D6:World} {s t T0 EW DK:ByteArray} {W F:By} {neg:Bool}
attribute [local irreducible] Ld Sh.St Nw Nn Lt AU
theorem fe {x e:Int}(h:RS w v w.heap.size Dc.heap.size x e){Q:Int->Prop}(hq:Q 2):Nr w Dc (fun r e w1=>Q e/\Ext (fun _=>False) w w1) (refused 2) v:=by
 unfold Nr;refine X8 _ _ 2 _ _ ?_;unfold JW;refine Nn.of (h.Yj 0 fun v1 h1 _=>Nn.of (h1.yk 2 fun v2 h2 _=>?_));refine Ld.of h2.n rfl ?_;refine Ld.of h2.e rfl ?_;exact ⟨hq,h2.ext⟩
theorem ff {x:Int}(neg:Bool)(hx:0<=x/\x<=100000000000000000)(h:RS w v w.heap.size Dc.heap.size x 0){Q:Int->Prop}(hq:Q (if 1073741824<x then 2 else 0)):HI w Dc neg (fun r e w1=>Q e/\Ext (fun _=>False) w w1) () v:=by
 unfold HI;have tail:∀(n:Int) (v1:World),(JJ n=true↔¬1073741824<x)->RS w v1 w.heap.size Dc.heap.size n 0->Ld v1 (⟨w.heap.size,0,none⟩:Addr) (Value.int .i64) fun (UG:Int)=>
   Nw v1 (.cells #[.int .i64 UG] 2) fun fg=>
   Xq (⟨some ⟨v1.heap.size,0,none⟩,1,1⟩:AA) fg (fun IQ=>
    Ld IQ (⟨w.heap.size,0,none⟩:Addr) (Value.int .i64) fun (DR:Int)=>
    Sh.St IQ (⟨w.heap.size,0,none⟩:Addr) (.int .i64 DR) fun fh=>
    Sh.St fh (⟨Dc.heap.size,0,none⟩:Addr) (.int .i64 0) fun fj=>
    Dl (some (⟨w.heap.size,0,none⟩:Addr)) (some (⟨Dc.heap.size,0,none⟩:Addr)) none fj fun MJ=>
     Ld MJ (⟨w.heap.size,0,none⟩:Addr) (Value.int .i64) fun (KY:Int)=>
     Ld MJ (⟨Dc.heap.size,0,none⟩:Addr) (Value.int .i64) fun (KZ:Int)=>
     Q KZ/\Ext (fun _=>False) w MJ) (Nr w Dc fun r e w1=>Q e/\Ext (fun _=>False) w w1):=by
  intro n v1 VB h1;refine Ld.of h1.n rfl ((Hn.start v1).nw (cs:=[.int .i64 n]) fun v2 H=>?_);have h2:=h1.AB H.ext;refine (Nk (l:=[n]) (Q5.of (H.get 0 rfl) rfl fun i hi=>?_) (by simp)).mono (fun w3 h3=>?_) fun v w3 h3=>?_
  ·have:i=0:=by simp at hi;omega
   subst this;rfl
  ·obtain ⟨rfl,ha⟩:=h3;have hn:JJ n=true:=ha 0 (by simp);rw[aA (VB.1 hn)]at hq;refine Ld.of h2.n rfl (h2.Yj n fun v4 h4 _=>h4.yk 0 fun v5 h5 _=>Pn h5 hq)
  ·obtain ⟨rfl,rfl,ha⟩:=h3;have MK:1073741824<x:=by
    by_cases hh:1073741824<x
    ·exact hh
    ·refine absurd (fun i hi=>?_) ha;have:i=0:=by simp at hi;omega
     subst this;exact VB.2 hh
   rw[aG MK]at hq;exact fe h2 hq
 refine Bj (fun _=>?_) fun _=>?_
 ·refine Ld.of h.n rfl ?_;rw[AH (n:=0-x) (by omega)];exact h.Yj (0-x) fun v1 h1 _=>tail _ v1 ⟨fun hh=>by have:=B4.1 hh;omega,fun hh=>B4.2 (by omega)⟩ h1
 ·exact tail _ v ⟨fun hh=>by have:=B4.1 hh;omega,fun hh=>B4.2 (by omega)⟩ h
theorem vm (hF:Aq F)(hFl:F.length<=40)(hW:AS W<=1073741824)(jq:W++F≠[])(ym:Aq W)(hr:bl DK=F)(F1:neg=hasPrefix (bl T0) [45])(h:RS w D6 w.heap.size Dc.heap.size (AS W:Int) 0)(DN:w.heap.size<D6.heap.size/\Dc.heap.size<D6.heap.size):
  Nw D6 (.stringIter ((DK++(⟨#[48,48,48,48,48]⟩:cN)).extract 0 (((4:Int)).toNat)) 0) fun vn=>
   Lp (σ:=Unit) (Li w Dc neg DK D6 fun r e w1=>e=E9 (bl T0) W F/\Ext (fun _=>False) w w1) () vn:=by
 have hb:bl (DK++(⟨#[48,48,48,48,48]⟩:cN))=F++EM:=by rw[BM,hr];rfl
 have Bl:Aq (F++EM):=fun c hc=>by
  rcases aK.1 hc with hc|hc
  ·exact hF c hc
  ·have:c=48:=by simpa[EM]using hc
   subst this;unfold BF;decide
 generalize hP:(F++EM).take 4=P;have hp:Aq P:=fun c hc=>Bl c (by rw[<-hP]at hc;exact List.mem_of_mem_take hc)
 have jr:P.length=4:=by
  rw[<-hP,aC,ae];show min 4 (_+5)=4;omega
 have hx:bl ((DK++(⟨#[48,48,48,48,48]⟩:cN)).extract 0 (((4:Int)).toNat))=P:=by
  rw[A9,hb];exact hP
 have E8:(DK++(⟨#[48,48,48,48,48]⟩:cN)).size=F.length+5:=by rw[<-AE,hb,ae];rfl
 have mx:IntKind.i64.max=9223372036854775807:=by decide
 generalize hS:(DK++(⟨#[48,48,48,48,48]⟩:cN)).extract 0 (((4:Int)).toNat)=S at hx;have hS4:S.size=4:=by rw[<-AE,hx,jr]
 have hPv:AS P<10000:=by
  have:=WY hp;rw[jr]at this;exact this
 refine Nw.of ?_;have e0:=(Ext.refl (fun _=>False) D6).alloc (.stringIter S 0);refine ⟨fun c st v=>∃i:Nat,v.heap[D6.heap.size]?=some (.stringIter S i)/\i<=4/\c=4-i/\RS w v w.heap.size Dc.heap.size ((AS W*10^i+AS (P.take i):Nat):Int) 0,4,⟨0,by unfold World.alloc;simp,by omega,rfl,by simpa[AS]using h.AB e0⟩,?_⟩;rintro c st v ⟨i,hit,hi,rfl,hR⟩;unfold Li;have WX:D6.heap.size<v.heap.size:=(aj.1 hit).1;refine Jc hit (by rw[hx];exact ML hp) (by omega) (fun c hc=>?_) fun Pm=>?_
 ·rw[hx]at hc;have hi4:i<4:=by
   have:=(al.1 hc).1;omega
  have NA:=hp c (ax hc);have e1:=GU v D6.heap.size S (i+1);have VC:=JZ (s:=S) (p:=i+1) WX;have R1:=hR.other e1 (by omega) (by omega) (by have:=h.ext.size;omega);have hbd:AS W*10^i+AS (P.take i)<=10000000000000:=by
   have a1:AS W*10^i<=AS W*10^3:=Nat.mul_le_mul_left _ (Nat.pow_le_pow_right (by decide) (by omega));have a2:=@BU P i;omega
  refine Ld.of R1.n rfl ?_;rw[Ea (by omega) (by omega) NA];refine Lt.of (R1.Yj _ fun v2 R2 e2=>?_);refine ⟨4-(i+1),by omega,i+1,?_,by omega,rfl,?_⟩
  ·exact Kx (p:=(S,i+1)) VC e2 (by show ¬D6.heap.size=w.heap.size;omega)
  ·have ev:(10*((AS W*10^i+AS (P.take i):Nat):Int)+((c.toNat-48:Nat):Int))=((AS W*10^(i+1)+AS (P.take (i+1)):Nat):Int):=by
    rw[Eb hc,Nat.pow_succ];have:AS W*(10^i*10)=10*(AS W*10^i):=by rw[Nat.mul_comm (10^i),<-Nat.mul_assoc,Nat.mul_comm (AS W),Nat.mul_assoc]
    omega
   rw[ev]at R2;exact R2
 ·have hi4:i=4:=by omega
  subst hi4;rw[aU (by omega)]at hR;rw[E8];refine ⟨by decide,by omega,Lt.of ?_⟩;refine (Ky _ (by
   rw[<-AE,A9,hb,aC,aE,ae];show min _ (_+5-_)<=_;omega) v).mono ?_
  rintro r v1 ⟨VD,e1⟩;have R1:=hR.AB e1;have N5:bl r=trimRightS ((F++EM).drop 4) [48]:=by
   rw[VD,A9,hb];have:List.take (F.length+5-Int.toNat 4) (List.drop (Int.toNat 4) (F++EM))=(F++EM).drop 4:=aU (by
    rw[aE,ae];show _+5-4<=_+5-4;omega)
   rw[this]
  have TO:E9 (bl T0) W F=if 1073741824<(((AS W*10^4+AS P:Nat):Int)+(if yj (bl T0) F=true then 1 else 0))then 2 else 0:=by
   unfold E9;rw[aA jq,aA (by rw[Dr ym];simp),aA (by rw[Dr hF];simp),aA (by omega),hP];by_cases hu:yj (bl T0) F=true
   ·rw[aG hu,aG hu];by_cases hh:1073741824<AS W*10^4+AS P+1
    ·rw[aG hh,aG (by omega)]
    ·rw[aA hh,aA (by omega)]
   ·rw[aA hu,aA hu];by_cases hh:1073741824<AS W*10^4+AS P+0
    ·rw[aG hh,aG (by omega)]
    ·rw[aA hh,aA (by omega)]
  have b1:Op.bytesLess r.toList (⟨#[53]⟩:cN).toList=Op.bytesLess (trimRightS ((F++EM).drop 4) [48]) [53]:=by rw[ByteArray.toList_eq,ByteArray.toList_eq,<-N5]
  have b2:(r.toList==(⟨#[53]⟩:cN).toList)=decide (trimRightS ((F++EM).drop 4) [48]=[53]):=by rw[TM,<-N5]
  have up:∀(v2:World),RS w v2 w.heap.size Dc.heap.size ((AS W*10^4+AS P:Nat):Int) 0->yj (bl T0) F=true->Ld v2 (⟨w.heap.size,0,none⟩:Addr) (Value.int .i64) fun (JT:Int)=>
    Sh.St v2 (⟨w.heap.size,0,none⟩:Addr) (.int .i64 (wrap .i64 (JT+1))) fun ACp=>HI w Dc neg (fun r e w1=>e=E9 (bl T0) W F/\Ext (fun _=>False) w w1) () ACp:=fun v2 R2 hu=>by
   refine Ld.of R2.n rfl ?_;rw[AH (by omega)];refine R2.Yj _ fun v3 R3 _=>?_
   exact ff (Q:=fun e=>e=E9 (bl T0) W F) neg (by omega) R3 (by rw[TO,aG hu])
  have no:yj (bl T0) F=false->HI w Dc neg (fun r e w1=>e=E9 (bl T0) W F/\Ext (fun _=>False) w w1) () v1:=fun hu=>by
   exact ff (Q:=fun e=>e=E9 (bl T0) W F) neg (by omega) R1 (by rw[TO,hu,aA (show ¬(false=true) by decide),Int.add_zero])
  rw[b1,b2];have hu:yj (bl T0) F=(if neg=true then !(Op.bytesLess (trimRightS ((F++EM).drop 4) [48]) [53]||decide (trimRightS ((F++EM).drop 4) [48]=[53]))else !(Op.bytesLess (trimRightS ((F++EM).drop 4) [48]) [53])):=by rw[F1];rfl
  cases neg with
  |true=>
   rw[aG rfl]at hu;refine As.intro (Br.t rfl (Lt.of (Bj (fun q=>up v1 R1 (hu.trans q)) fun q=>Br.f rfl (no (hu.trans q)))))
  |false=>
   rw[aA (by decide)]at hu;refine As.intro (Br.f rfl (Br.t rfl (Bj (fun q=>up v1 R1 (hu.trans q)) fun q=>no (hu.trans q))))
theorem vp (ym:Aq W)(hWl:W.length<=40)(hF:Aq F)(hFl:F.length<=40)(jq:W++F≠[])(Kz:bl EW=W)(hr:bl DK=F)(F1:neg=hasPrefix (bl T0) [45])(h:RS w D5 w.heap.size Dc.heap.size 0 0)
  (DN:w.heap.size<D5.heap.size/\Dc.heap.size<D5.heap.size):
  Nw D5 (.stringIter EW 0) fun vq=>Lp (σ:=Unit) (Lk w Dc neg DK D5 fun r e w1=>e=E9 (bl T0) W F/\Ext (fun _=>False) w w1) () vq:=by
 have hs:EW.size=W.length:=by rw[<-AE,Kz]
 have jt:DK.size=F.length:=by rw[<-AE,hr]
 have mx:IntKind.i64.max=9223372036854775807:=by decide
 refine Nw.of ?_;have e0:=(Ext.refl (fun _=>False) D5).alloc (.stringIter EW 0);refine ⟨fun c st v=>∃i:Nat,v.heap[D5.heap.size]?=some (.stringIter EW i)/\i<=W.length/\c=W.length-i/\RS w v w.heap.size Dc.heap.size ((AS (W.take i):Nat):Int) 0/\AS (W.take i)<=1073741824,W.length,⟨0,by unfold World.alloc;simp,by omega,rfl,h.AB e0,by simp[AS]⟩,?_⟩;rintro c st v ⟨i,hit,hi,rfl,hR,hle⟩;unfold Lk;have WX:D5.heap.size<v.heap.size:=(aj.1 hit).1;refine Jc hit (by rw[Kz];exact ML ym) (by omega) (fun c hc=>?_) fun Pm=>?_
 ·rw[Kz]at hc;have hiW:=(al.1 hc).1;have NA:=ym c (ax hc);have e1:=GU v D5.heap.size EW (i+1);have VC:=JZ (s:=EW) (p:=i+1) WX;have R1:=hR.other e1 (by omega) (by omega) (by have:=h.ext.size;omega);have a3:=@BU W (i+1);refine Ld.of R1.n rfl ?_;rw[Ea (by omega) (by omega) NA];have ev:(10*((AS (W.take i):Nat):Int)+((c.toNat-48:Nat):Int))=((AS (W.take (i+1)):Nat):Int):=by
   rw[Eb hc];omega
  rw[ev];refine Lt.of (R1.Yj _ fun v2 R2 e2=>Ld.of R2.n rfl (Br.dec (fun q=>?_) fun q=>?_))
  ·refine R2.Yj 0 fun v3 R3 _=>R3.yk 2 fun v4 R4 _=>Pn (Q:=fun e=>e=E9 (bl T0) W F) R4 ?_
   unfold E9;rw[aA jq,aA (by rw[Dr ym];simp),aA (by rw[Dr hF];simp),aG (by omega)]
  ·exact ⟨W.length-(i+1),by omega,i+1,Kx (p:=(EW,i+1)) VC e2 (by show ¬D5.heap.size=w.heap.size;omega),by omega,rfl,R2,by omega⟩
 ·have hiW:i=W.length:=by omega
  subst hiW;rw[bf]at hR hle;have E8:(DK++(⟨#[48,48,48,48,48]⟩:cN)).size=F.length+5:=by rw[<-AE,BM,ae,hr];rfl
  rw[E8,jt];have z5:(⟨#[48,48,48,48,48]⟩:cN).size=5:=rfl;rw[z5];exact ⟨by omega,by decide,by omega,vm hF hFl hle jq ym hr F1 hR ⟨by omega,by omega⟩⟩
theorem VE (hs:bl s=W++46::F)(hW:∀c∈W,c≠46)(hl:s.size<=40)(F1:neg=hasPrefix (bl T0) [45])(hR:RS w v w.heap.size Dc.heap.size 0 0)(DN:w.heap.size<v.heap.size/\Dc.heap.size<v.heap.size):
  Ll w Dc neg (fun r e w1=>e=E9 (bl T0) W F/\Ext (fun _=>False) w w1) s v:=by
 unfold Ll;have mx:IntKind.i64.max=9223372036854775807:=by decide
 have JI:s.size=W.length+1+F.length:=by rw[<-AE,hs,ae,au];omega
 refine (pG hs hW (by omega) v).mono ?_;rintro EW DK ky v1 ⟨h1,h2,rfl,e1⟩;have l1:EW.size=W.length:=by rw[<-AE,h1]
 have l2:DK.size=F.length:=by rw[<-AE,h2]
 have R1:=hR.AB e1;have bad:∀(v2:World),RS w v2 w.heap.size Dc.heap.size 0 0->E9 (bl T0) W F=3->Sh.St v2 (⟨w.heap.size,0,none⟩:Addr) (.int .i64 0) fun AMJ=>
   Sh.St AMJ (⟨Dc.heap.size,0,none⟩:Addr) (.int .i64 3) fun AMK=>
   Dl (some (⟨w.heap.size,0,none⟩:Addr)) (some (⟨Dc.heap.size,0,none⟩:Addr)) none AMK fun vr=>
    Ld vr (⟨w.heap.size,0,none⟩:Addr) (Value.int .i64) fun (TU:Int)=>
    Ld vr (⟨Dc.heap.size,0,none⟩:Addr) (Value.int .i64) fun (QY:Int)=>
    QY=E9 (bl T0) W F/\Ext (fun _=>False) w vr:=fun v2 R2 hq=>
  R2.Yj 0 fun v3 R3 _=>R3.yk 3 fun v4 R4 _=>Pn (Q:=fun e=>e=E9 (bl T0) W F) R4 hq.symm
 refine ⟨by rw[l1,l2];omega,?_⟩;rw[TM];refine Br.dec (fun q=>?_) fun q=>?_
 ·have q:bl (EW++DK)=[]:=q;rw[BM,h1,h2]at q;exact bad v1 R1 (by unfold E9;rw[aG q])
 have q:¬bl (EW++DK)=[]:=q;rw[BM,h1,h2]at q;refine (Po (by rw[l1];omega) v1).mono ?_;rintro r v2 ⟨rfl,e2⟩;rw[h1];have R2:=R1.AB e2;by_cases d1:trimS W Gn=[]
 ·rw[aL d1];refine Br.f rfl ((Po (by rw[l2];omega) v2).mono ?_);rintro r v3 ⟨rfl,e3⟩;rw[h2];by_cases d2:trimS F Gn=[]
  ·rw[aL d2];have E:=(e1.tr e2).tr e3;have:=E.size;exact Br.f rfl (vp (Jb d1) (by omega) (Jb d2) (by omega) q h1 h2 F1 (R2.AB e3) ⟨by omega,by omega⟩)
  ·rw[aR d2];exact Br.t rfl (bad v3 (R2.AB e3) (by unfold E9;rw[aA q,aA (by rw[d1];simp),aG d2]))
 ·rw[aR d1];exact Br.t rfl (bad v2 R2 (by unfold E9;rw[aA q,aG d1]))
theorem mN (t:ByteArray)(hm:(46:UInt8)∈bl t)(hs:t.size<=1099511627776)(w:World):lD t w fun r e w1=>e=fZ (bl t)/\Ext (fun _=>False) w w1:=by
 refine AAW _ _ _ ?_;unfold lF;refine (Hn.start w).nw (cs:=[.int .i64 0]) fun w2 H=>?_
 have l12:w.heap.size<w2.heap.size:=H.lt 0 rfl;refine H.nw (cs:=[.int .i64 0]) fun w3 H=>?_
 have yn:w.heap.size<w3.heap.size:=H.lt 0 rfl;have pH:w2.heap.size<w3.heap.size:=H.lt 1 rfl;have R:RS w w3 w.heap.size w2.heap.size 0 0:=⟨H.get 0 rfl,H.get 1 rfl,by omega,by omega,by omega,H.ext⟩
 have Au:(bl t).length=t.size:=AE t;refine Br.dec (fun q=>?_) fun q=>?_
 ·refine R.Yj 0 fun v3 R3 _=>R3.yk 3 fun v4 R4 _=>Pn (Q:=fun e=>e=fZ (bl t)) R4 ?_
  unfold fZ;rw[aG (by omega)]
 have e:fZ (bl t)=E9 (bl t) ((IN (bl t)).takeWhile (· !=46)) (((IN (bl t)).dropWhile (· !=46)).drop 1):=by
  unfold fZ;rw[aA (by omega)]
 rw[e];have hmu:(46:UInt8)∈IN (bl t):=by
  unfold IN;split
  ·rename_i hh;cases ht:bl t with
   |nil=>rw[ht]at hm;cases hm
   |cons c l=>
    rw[ht]at hm hh;rcases ar.1 hm with e|e
    ·subst e;rcases hh with hh|hh<;>exact absurd hh (by simp[hasPrefix,List.isPrefixOf])
    ·exact e
  ·exact hm
 obtain ⟨c1,c2⟩:=vk hmu;generalize (IN (bl t)).takeWhile (· !=46)=W at c1 c2⊢;generalize ((IN (bl t)).dropWhile (· !=46)).drop 1=F at c1 c2⊢;have hd:bl (t.extract (((1:Int)).toNat) t.size)=(bl t).drop 1:=by
  rw[A9];show List.take (t.size-1) ((bl t).drop 1)=(bl t).drop 1;exact aU (by rw[aE];omega)
 have ht1:1<=t.size:=by
  have:=List.length_pos_of_mem hm;omega
 have ju:(t.extract (((1:Int)).toNat) t.size).size<=40:=by
  rw[<-AE,hd,aE];omega
 refine (Rx t _ w3).mono ?_;rintro r v1 ⟨rfl,rfl⟩;refine As.intro (Bj (fun hn=>?_) fun hn=>?_)
 ·have hn:hasPrefix (bl t) [45]=true:=hn;have hu:IN (bl t)=(bl t).drop 1:=by unfold IN;rw[aG (.inl hn)]
  exact ⟨by decide,by omega,VE (by rw[hd,<-hu];exact c1) c2 ju rfl R ⟨yn,pH⟩⟩
 ·have hn:hasPrefix (bl t) [45]=false:=hn;refine (Rx t _ _).mono ?_;rintro r v1 ⟨rfl,rfl⟩;refine Bj (fun hp=>?_) fun hp=>?_
  ·have hp:hasPrefix (bl t) [43]=true:=hp;have hu:IN (bl t)=(bl t).drop 1:=by unfold IN;rw[aG (.inr hp)]
   exact ⟨by decide,by omega,VE (by rw[hd,<-hu];exact c1) c2 ju rfl R ⟨yn,pH⟩⟩
  ·have hp:hasPrefix (bl t) [43]=false:=hp;have hu:IN (bl t)=bl t:=by unfold IN;rw[aA (by rw[hn,hp];simp)]
   exact VE (by rw[<-hu];exact c1) c2 (by omega) rfl R ⟨yn,pH⟩
end
end Tl
namespace Tl
open Sh Fix Tk Ov Go.Lib
theorem K5 (x:Int):∃c:UInt8,wrap .u8 x=(c.toNat:Int):=by
 have h:wrap .u8 x=x%256:=by
  unfold IntKind.wrap;simp[IntKind.signed,IntKind.bits]
 refine ⟨UInt8.ofNat (x%256).toNat,?_⟩;rw[h,bM];omega
def pI (w:World)(r:TT)(e:Int)(w1:World):Prop:=(e=0->r.1≠5/\r.1≠1)/\Ext (fun _=>False) w w1
section
variable {w0 w u v:World} {s t:ByteArray}
attribute [local irreducible] Ld Sh.St Nw Nn Lt AU
theorem Co (e:Int)(w:World):Fb e w fun r e1 w1=>r=(0,0,0,0,⟨#[]⟩)/\e1=e/\Ext (fun _=>False) w w1:=by
 refine AG3 _ _ _ ?_;unfold AAf;refine (Hn.start w).nw (cs:=[.int .i64 0,.int .i64 0,.int .i64 0,.int .i64 0,.string ⟨#[]⟩]) fun w2 H=>?_
 simp only[ag,ad,add_lit,ak]at H⊢
 iterate 5 (refine H.st 0 rfl (by simp) fun _ H=>?_;simp only[aa,ab]at H)
 iterate 5 refine H.ld 0 rfl rfl ?_
 exact ⟨rfl,by trivial,H.ext⟩
theorem Pp (x kind t0z NR:Int)(t:ByteArray)(w:World):Kd (s,x) kind t0z t NR w fun r e w1=>((((t.size:Nat):Int)<=NR/\r=(kind,x,t0z,0,t)/\e=0)\/(¬((t.size:Nat):Int)<=NR/\e=5))/\Ext (fun _=>False) w w1:=by
 by_cases h:((t.size:Nat):Int)<=NR
 ·refine (VF x kind t0z NR h w).mono ?_;rintro r e w1 ⟨h1,h2,h3⟩;exact ⟨.inl ⟨h,h1,h2⟩,h3⟩
 refine AAh (s,x) _ _ _ _ _ _ ?_;unfold sy;refine (Hn.start w).nw (cs:=[.string s,.int .i64 x]) fun w2 H=>?_
 refine H.nw (cs:=[.int .i64 0,.int .i64 0,.int .i64 0,.int .i64 0,.string ⟨#[]⟩]) fun w3 H=>?_
 simp only[ag,ad,add_lit,ak]at H⊢;refine Br.dec (fun q=>(Co 5 w3).mono ?_) fun q=>absurd q (by omega)
 rintro r e w4 ⟨rfl,rfl,he⟩;have H:=H.AB he
 iterate 5 (refine H.st 1 rfl (by simp) fun _ H=>?_;simp only[aa,ab]at H)
 iterate 5 refine H.ld 1 rfl rfl ?_
 exact ⟨.inr ⟨h,rfl⟩,H.ext⟩
theorem WZ {b:Nat}{T rest:By}(BI:T≠[])(fk:∀c∈T,AW c=true)(hd:(bl s).drop b=T++rest)(hr:∀c,rest.head?=some c->AW c=false)(hb:b<=s.size)(hs:s.size<=1099511627776)(w:World):
  RV (s,(b:Int)) w fun r e w1=>((DM T=true/\r=(5,(b:Int),((b+T.length:Nat):Int),0,ba T)/\e=0)\/(DM T=false/\(e=0->r.1≠5/\(r.1=1->∃n,r=(1,(b:Int),((b+T.length:Nat):Int),n,⟨#[]⟩)))))/\Ext (fun _=>False) w w1:=by
 refine tS (s,(b:Int)) _ _ ?_;unfold lW;refine (Hn.start w).nw (cs:=[.string s,.int .i64 (b:Int)]) fun w2 H=>?_
 refine H.nw (cs:=[.int .i64 0,.int .i64 0,.int .i64 0,.int .i64 0,.string ⟨#[]⟩]) fun w3 H=>?_
 simp only[ag,ad,add_lit,ak]at H⊢
 iterate 3 refine H.ld 0 rfl rfl ?_
 refine (Ry s _ hb hs w3).mono ?_;rintro r w4 ⟨Qg,e4⟩;rw[hd,F4 fk hr]at Qg;subst Qg;have H:=H.AB e4;have hTl:b+T.length<=s.size:=by
  have:=aq List.length hd;rw[aE,ae,AE]at this;omega
 iterate 2 refine H.ld 0 rfl rfl ?_
 have hx:bl (s.extract ((b:Int)).toNat (((b+T.length:Nat):Int)).toNat)=T:=by
  rw[A9,ay,ay,hd,show b+T.length-b=T.length by omega];simp
 refine ⟨by omega,by omega,by omega,by omega,?_⟩;generalize s.extract ((b:Int)).toNat (((b+T.length:Nat):Int)).toNat=x at hx⊢;have hxs:x.size=T.length:=by rw[<-AE,hx]
 have mO:x=ba T:=Jd (by rw[hx,Bp]);have Bl:T.all AW=true:=aO.2 fk

 have tell:∀(v:World),Hn w v [(w.heap.size,[.string s,.int .i64 (b:Int)],225),(w2.heap.size,[.int .i64 0,.int .i64 0,.int .i64 0,.int .i64 0,.string ⟨#[]⟩],148)]->Gp T≠1->(Gp T=2->fZ T≠0/\fZ T≠2)->
   Ld v (⟨w.heap.size,0,none⟩:Addr) Value.string fun (PH:ByteArray)=>Ld v (⟨w.heap.size,1,none⟩:Addr) (Value.int .i64) fun (PC:Int)=>
   Kd (PH,PC) 5 ((b+T.length:Nat):Int) x 127 v fun Fw RW F5=>
    Sh.St F5 (⟨w2.heap.size,0,none⟩:Addr) (.int .i64 (Fw.1)) fun Ec=>
    Sh.St Ec (⟨w2.heap.size,1,none⟩:Addr) (.int .i64 (Fw.2.1)) fun Ed=>
    Sh.St Ed (⟨w2.heap.size,2,none⟩:Addr) (.int .i64 (Fw.2.2.1)) fun Ee=>
    Sh.St Ee (⟨w2.heap.size,3,none⟩:Addr) (.int .i64 (Fw.2.2.2.1)) fun Ef=>
    Sh.St Ef (⟨w2.heap.size,4,none⟩:Addr) (.string Fw.2.2.2.2) fun Ab=>
    Ld Ab (⟨w2.heap.size,0,none⟩:Addr) (Value.int .i64) fun (Cf:Int)=>
    Ld Ab (⟨w2.heap.size,1,none⟩:Addr) (Value.int .i64) fun (EY:Int)=>
    Ld Ab (⟨w2.heap.size,2,none⟩:Addr) (Value.int .i64) fun (DR:Int)=>
    Ld Ab (⟨w2.heap.size,3,none⟩:Addr) (Value.int .i64) fun (D3:Int)=>
    Ld Ab (⟨w2.heap.size,4,none⟩:Addr) Value.string fun (EX:ByteArray)=>
    ((DM T=true/\((Cf,EY,DR,D3,EX):TT)=(5,(b:Int),((b+T.length:Nat):Int),0,ba T)/\RW=0)\/(DM T=false/\(RW=0->Cf≠5/\(Cf=1->∃n,((Cf,EY,DR,D3,EX):TT)=(1,(b:Int),((b+T.length:Nat):Int),n,⟨#[]⟩)))))/\Ext (fun _=>False) w Ab:=by
  intro v H hc1 Rz
  iterate 2 refine H.ld 0 rfl rfl ?_
  refine (Pp _ _ _ _ _ v).mono ?_;rintro r e v1 ⟨hq,he⟩;have H:=H.AB he
  iterate 5 (refine H.st 1 rfl (by simp) fun _ H=>?_;simp only[aa,ab]at H)
  iterate 5 refine H.ld 1 rfl rfl ?_
  refine ⟨?_,H.ext⟩;rcases hq with ⟨hl,rfl,rfl⟩|⟨hl,rfl⟩
  ·refine .inl ⟨?_,by rw[mO],rfl⟩;unfold DM;rw[aL BI,Bl,aL (show T.length<=127 by omega),aL hc1];by_cases h2:Gp T=2
   ·rw[aL (Rz h2).1,aL (Rz h2).2];simp
   ·rw[aL h2];simp
  ·refine .inr ⟨?_,fun h=>absurd h (by decide)⟩;unfold DM;rw[aR (show ¬T.length<=127 by omega)];simp
 refine (mM x (by omega) w4).mono ?_;rintro r w5 ⟨rfl,e5⟩;rw[hx];have H:=H.AB e5;have no1:Gp T=1->DM T=false:=fun h=>by
  unfold DM;rw[aR (show ¬Gp T≠1 from fun q=>q h)];simp
 refine Br.eq (fun hc=>?_) fun hc=>Br.eq (fun Rz=>?_) fun Rz=>?_
 ·refine (fc x (by omega) (by rw[hx];exact hc) w5).mono ?_;rintro eC r58 w6 e6;have H:=H.AB e6;refine Br.ne (fun BI=>(Co r58 w6).mono ?_) fun h0=>H.ld 0 rfl rfl ?_
  ·rintro r e w7 ⟨rfl,rfl,e7⟩;have H:=H.AB e7
   iterate 5 (refine H.st 1 rfl (by simp) fun _ H=>?_;simp only[aa,ab]at H)
   iterate 5 refine H.ld 1 rfl rfl ?_
   exact ⟨.inr ⟨no1 hc,fun h=>absurd h BI⟩,H.ext⟩
  ·iterate 5 (refine H.st 1 rfl (by simp) fun _ H=>?_;simp only[aa,ab]at H)
   iterate 5 refine H.ld 1 rfl rfl ?_
   exact ⟨.inr ⟨no1 hc,fun _=>⟨by decide,fun _=>⟨_,rfl⟩⟩⟩,H.ext⟩
 ·have hm:(46:UInt8)∈bl x:=by
   rw[hx];unfold Gp at Rz;split at Rz
   ·cases Rz
   ·split at Rz
    ·rename_i h;exact aW.1 h
    ·cases Rz
  refine (mN x hm (by omega) w5).mono ?_;rintro r84 Ug w6 ⟨rfl,e6⟩;rw[hx];have H:=H.AB e6;have no2:fZ T=0\/fZ T=2->DM T=false:=fun h=>by
   unfold DM;rw[aR (show ¬Gp T≠2 from fun q=>q Rz)];rcases h with h|h<;>simp[h]
  refine Br.eq (fun h0=>H.ld 0 rfl rfl ?_) fun h0=>Br.eq (fun h2=>(Co _ w6).mono ?_) fun h2=>?_
  ·iterate 5 (refine H.st 1 rfl (by simp) fun _ H=>?_;simp only[aa,ab]at H)
   iterate 5 refine H.ld 1 rfl rfl ?_
   exact ⟨.inr ⟨no2 (.inl h0),fun _=>⟨by decide,fun h=>absurd h (by decide)⟩⟩,H.ext⟩
  ·rintro r e w7 ⟨rfl,rfl,e7⟩;have H:=H.AB e7
   iterate 5 (refine H.st 1 rfl (by simp) fun _ H=>?_;simp only[aa,ab]at H)
   iterate 5 refine H.ld 1 rfl rfl ?_
   exact ⟨.inr ⟨no2 (.inr h2),fun h=>absurd h h0⟩,H.ext⟩
  ·exact tell w6 H (by omega) fun _=>⟨h0,h2⟩
 ·exact tell w5 H hc fun h=>absurd h Rz
theorem fm {b:Nat}{T rest:By}(h:DM T=true)(hd:(bl s).drop b=T++rest)(hr:∀c,rest.head?=some c->AW c=false)(hb:b<=s.size)(hs:s.size<=1099511627776)(w:World):
  RV (s,(b:Int)) w fun r e w1=>r=(5,(b:Int),((b+T.length:Nat):Int),0,ba T)/\e=0/\Ext (fun _=>False) w w1:=by
 have h':=h;unfold DM at h';simp only[ai,bq]at h';refine (WZ h'.1.1.1.1 (aO.1 h'.1.1.1.2) hd hr hb hs w).mono ?_;rintro r e w1 ⟨hq|hq,he⟩
 ·exact ⟨hq.2.1,hq.2.2,he⟩
 ·rw[h]at hq;cases hq.1
end
end Tl
namespace Tl
open Sh Fix Tk Ov Go.Lib
section
variable {w0 w u v:World} {s t:ByteArray}
attribute [local irreducible] Ld Sh.St Nw Nn Lt AU
theorem GW {x:Int}{m:Nat}{sl:AA}{l:By}{LL:List (Nat×List Value×TypeId)}(hx:∃c:UInt8,x=(c.toNat:Int))(hR:Bd u sl l)(hl:l.length+1<=1099511627776)(ho:∀j,sl.own j->m<=j)(hm:m<=u.heap.size)(H:Hn w u LL)(hL:∀p∈LL.map (·.1),p<m)(hw:w.heap.size<=m)
  {K:AA->World->Prop} (k:∀Bq v' l',Bd v' Bq l'->l'.length=l.length+1->(∀j,Bq.own j->m<=j)->Hn w v' LL->m<=v'.heap.size->K Bq v'):
  Nw u (.cells #[.int .u8 x] 5) fun Ab=>Rn prog (Builtin.append_ #[61,61] 61 #[AA.v sl,AA.v ((⟨some ⟨u.heap.size,0,none⟩,1,1⟩:AA))]) Ab AA.v K:=by
 obtain ⟨c,rfl⟩:=hx;refine Nw.of ?_;have e1:Ext (fun _=>False) u (u.alloc (.cells (Fq [c]).toArray 5)):=(Ext.refl _ _).alloc _;obtain ⟨Bq,v',Dg,KA,KB,N6⟩:=Kr (ty:=61) (b:=c) (hR.AB e1 fun _ _ h=>h) (AN.new u (Fq [c]).toArray 5) hl;refine ⟨Bq,v',Dg,k Bq v' (l++[c]) KA (by simp) ?_ ?_ ?_⟩
 ·intro j hj;rcases N6 j hj with h|h
  ·exact ho j h
  ·have:=e1.size;omega
 ·refine (H.AB e1).other KB fun j hj=>?_
  have hj:=ho j hj;refine ⟨by omega,fun h=>?_⟩;have:=hL j h;omega
 ·have:=e1.size;have:=KB.size;omega
theorem VG (c:UInt8)(w:World):YD (c.toNat:Int) w fun r w1=>(-1<=r/\r<=15)/\w1=w:=by
 refine AA0 _ _ _ ?_;unfold uV;have hc:=CU c;generalize c.toNat=m at hc;have lf:∀(a k:Int),0<=(m:Int)-a->(m:Int)-a+k<=15->0<=k->wrap .i64 (wrap .i64 (wrap .u8 ((m:Int)-a))+k)=(m:Int)-a+k:=fun a k h1 h2 h3=>by
  rw[G0 (by omega),AH (n:=(m:Int)-a) (by omega),AH (by omega)]
 have l0:∀(a:Int),0<=(m:Int)-a->(m:Int)-a<=15->wrap .i64 (wrap .u8 ((m:Int)-a))=(m:Int)-a:=fun a h1 h2=>by
  rw[G0 (by omega),AH (n:=(m:Int)-a) (by omega)]
 refine Br.dec (fun h1=>Br.dec (fun h2=>⟨?_,rfl⟩) fun h2=>?_) fun h1=>?_
 ·rw[l0 _ (by omega) (by omega)];omega
 all_goals
  repeat' first
   |refine Br.dec (fun _=>?_) fun _=>?_
   |exact ⟨by omega,rfl⟩
   |exact ⟨by rw[lf _ _ (by omega) (by omega) (by omega)];omega,rfl⟩
theorem fo (t:ByteArray)(ht:t.size=2)(w:World):lU t w fun r e w1=>(e=0->r.size=1)/\Ext (fun _=>False) w w1:=by
 refine AA1 _ _ _ ?_;unfold uW;rw[ht];refine Br.ne (fun q=>absurd (show Int.tmod ((2:Nat):Int) 2=0 by decide) q) fun _=>?_
 obtain ⟨r0,w0,N5,hR0,vt,ho0⟩:=HY w 0 1 (by omega) (by omega);refine ⟨r0,w0,N5,?_⟩;refine ⟨fun n st v=>(n=1/\st=(r0,0)/\v=w0)\/(n=0/\∃sl c,st=(sl,2)/\Bd v sl [c]/\Ext (fun _=>False) w v),1,.inl ⟨rfl,rfl,rfl⟩,?_⟩;rintro n st v (⟨rfl,rfl,rfl⟩|⟨rfl,sl,c,rfl,hR,hE⟩)
 ·unfold Lx;have l2:(bl t).length=2:=by rw[AE,ht]
  obtain ⟨x,y,hxy⟩:∃x y,bl t=[x,y]:=by
   match bl t,l2 with
   |[x,y],_=>exact ⟨x,y,rfl⟩
  have b0:BX t 0=(x.toNat:Int):=AX (i:=0) (by rw[hxy];rfl);have b1:BX t 1=(y.toNat:Int):=AX (i:=1) (by rw[hxy];rfl);have i1:wrap .i64 (0+1)=1:=by decide
  have i2:wrap .i64 (0+2)=2:=by decide
  dsimp only;rw[ht,i1,i2,b0,b1];refine Br.t rfl ⟨by decide,by omega,by decide,by omega,(VG x _).mono ?_⟩;rintro r7 v1 ⟨h7,rfl⟩;refine (VG y _).mono ?_;rintro r9 v1 ⟨h9,rfl⟩;refine Br.dec (fun q=>⟨fun h=>absurd h (by decide),vt.drew⟩) fun _=>Br.dec (fun q=>⟨fun h=>absurd h (by decide),vt.drew⟩) fun _=>Nw.of ?_
  obtain ⟨c,hc⟩:=K5 (yS .i64 (wrap .i64 (r7*2^4)) r9);rw[hc];have e1:Ext (fun _=>False) v.drew (v.drew.alloc (.cells (Fq [c]).toArray 5)):=(Ext.refl _ _).alloc _;have KA:Bd v.drew r0 (List.replicate 0 0):=hR0.AB (Ext.refl (fun _=>False) v).drew fun _ _ h=>h
  obtain ⟨Bq,v',Dg,KA,KB,N6⟩:=Kr (ty:=61) (b:=c) (KA.AB e1 fun _ _ h=>h) (AN.new v.drew (Fq [c]).toArray 5) (by simp);exact ⟨Bq,v',Dg,0,by omega,.inr ⟨rfl,Bq,c,rfl,KA,Ext.Bw (vt.drew.tr e1) KB fun j hj=>ho0 j hj⟩⟩
 ·unfold Lx;dsimp only;rw[ht];refine Br.f rfl ⟨_,_,CP hR,fun _=>?_,hE⟩;rw[<-AE,Bp]
  rfl
abbrev HL (w w2:World)(s:ByteArray)(b:Nat):List (Nat×List Value×TypeId):=[(w.heap.size,[.string s,.int .i64 (b:Int)],225),(w2.heap.size,[.int .i64 0,.int .i64 0,.int .i64 0,.int .i64 0,.string ⟨#[]⟩],148)]
theorem vu {b:Nat}(hb:b<s.size)(hs:s.size<=1099511627776)(w:World):sw (s,(b:Int)) w (pI w):=by
 refine AG6 (s,(b:Int)) _ _ ?_;unfold AAi;refine (Hn.start w).nw (cs:=[.string s,.int .i64 (b:Int)]) fun w2 H=>?_
 refine H.nw (cs:=[.int .i64 0,.int .i64 0,.int .i64 0,.int .i64 0,.string ⟨#[]⟩]) fun w3 H=>?_
 simp only[ag,ad,add_lit,ak]at H⊢;have h23:w2.heap.size<w3.heap.size:=H.lt 1 rfl;have h13:w.heap.size<w3.heap.size:=H.lt 0 rfl;refine H.ld 0 rfl rfl ?_;rw[AH (by omega)];refine ⟨fun n st v=>∃(k:Nat) (hf:Int) (sl:AA) (l:By),st=(sl,hf,(k:Int))/\k<=s.size/\n=s.size-k/\Bd v sl l/\l.length<=k/\(∀j,sl.own j->w3.heap.size<=j)/\Hn w v (HL w w2 s b)/\w3.heap.size<=v.heap.size,s.size-(b+1),
  ⟨b+1,-1,⟨none,0,0⟩,[],rfl,by omega,rfl,Bd.nil _,by simp,(fun j hj=>by obtain ⟨a,ha,_⟩:=hj;cases ha),H,az _⟩,?_⟩
 rintro n st v ⟨k,hf,sl,l,rfl,hk,rfl,hR,hl,ho,H,mP⟩;unfold dm;have hLL:∀p∈(HL w w2 s b).map (·.1),p<w3.heap.size:=fun p hp=>by
  simp only[aB,bj,ar,aF,bp]at hp;omega

 have tell:∀(v:World) (t:ByteArray) (t0z:Int),Hn w v (HL w w2 s b)->Kd (s,(b:Int)) 3 t0z t 32767 v fun r e F5=>
    Sh.St F5 (⟨w2.heap.size,0,none⟩:Addr) (.int .i64 (r.1)) fun Ec=>
    Sh.St Ec (⟨w2.heap.size,1,none⟩:Addr) (.int .i64 (r.2.1)) fun Ed=>
    Sh.St Ed (⟨w2.heap.size,2,none⟩:Addr) (.int .i64 (r.2.2.1)) fun Ee=>
    Sh.St Ee (⟨w2.heap.size,3,none⟩:Addr) (.int .i64 (r.2.2.2.1)) fun Ef=>
    Sh.St Ef (⟨w2.heap.size,4,none⟩:Addr) (.string r.2.2.2.2) fun Ab=>
    Ld Ab (⟨w2.heap.size,0,none⟩:Addr) (Value.int .i64) fun (Cf:Int)=>
    Ld Ab (⟨w2.heap.size,1,none⟩:Addr) (Value.int .i64) fun (EY:Int)=>
    Ld Ab (⟨w2.heap.size,2,none⟩:Addr) (Value.int .i64) fun (DR:Int)=>
    Ld Ab (⟨w2.heap.size,3,none⟩:Addr) (Value.int .i64) fun (D3:Int)=>
    Ld Ab (⟨w2.heap.size,4,none⟩:Addr) Value.string fun (EX:ByteArray)=>pI w (Cf,EY,DR,D3,EX) e Ab:=by
  intro v t t0z H;refine (Pp _ _ _ _ _ v).mono ?_;rintro r e v1 ⟨hq,he⟩;have H:=H.AB he
  iterate 5 (refine H.st 1 rfl (by simp) fun _ H=>?_;simp only[aa,ab]at H)
  iterate 5 refine H.ld 1 rfl rfl ?_
  refine ⟨fun h=>?_,H.ext⟩;rcases hq with ⟨_,rfl,_⟩|⟨_,rfl⟩
  ·exact ⟨show (3:Int)≠5 by decide,show (3:Int)≠1 by decide⟩
  ·exact absurd h (by decide)
 have bad:∀(v:World) (x:Int),x≠0->Hn w v (HL w w2 s b)->Fb x v fun r e F5=>
    Sh.St F5 (⟨w2.heap.size,0,none⟩:Addr) (.int .i64 (r.1)) fun Ec=>
    Sh.St Ec (⟨w2.heap.size,1,none⟩:Addr) (.int .i64 (r.2.1)) fun Ed=>
    Sh.St Ed (⟨w2.heap.size,2,none⟩:Addr) (.int .i64 (r.2.2.1)) fun Ee=>
    Sh.St Ee (⟨w2.heap.size,3,none⟩:Addr) (.int .i64 (r.2.2.2.1)) fun Ef=>
    Sh.St Ef (⟨w2.heap.size,4,none⟩:Addr) (.string r.2.2.2.2) fun Ab=>
    Ld Ab (⟨w2.heap.size,0,none⟩:Addr) (Value.int .i64) fun (Cf:Int)=>
    Ld Ab (⟨w2.heap.size,1,none⟩:Addr) (Value.int .i64) fun (EY:Int)=>
    Ld Ab (⟨w2.heap.size,2,none⟩:Addr) (Value.int .i64) fun (DR:Int)=>
    Ld Ab (⟨w2.heap.size,3,none⟩:Addr) (Value.int .i64) fun (D3:Int)=>
    Ld Ab (⟨w2.heap.size,4,none⟩:Addr) Value.string fun (EX:ByteArray)=>pI w (Cf,EY,DR,D3,EX) e Ab:=by
  intro v x hx H;refine (Co x v).mono ?_;rintro r e v1 ⟨rfl,rfl,he⟩;have H:=H.AB he
  iterate 5 (refine H.st 1 rfl (by simp) fun _ H=>?_;simp only[aa,ab]at H)
  iterate 5 refine H.ld 1 rfl rfl ?_
  exact ⟨fun h=>absurd h hx,H.ext⟩
 dsimp only;refine H.ld 0 rfl rfl (Br.dec (fun q=>H.ld 0 rfl rfl ⟨by omega,q,?_⟩) fun q=>bad v 4 (by decide) H);have Cy:k<s.size:=by have q:(k:Int)<((s.size:Nat):Int):=q;omega
 have hc:=ah (show k<(bl s).length by rw[AE];exact Cy);generalize (bl s)[k]'(by rw[AE];exact Cy)=c at hc;rw[AX hc];have ik:wrap .i64 ((k:Int)+1)=((k+1:Nat):Int):=by rw[AH (by omega)];rfl
 refine Br.eq (fun h62=>Br.dec (fun h0=>?_) fun h0=>?_) fun h62=>(VG c v).mono ?_
 ·refine GW (K5 _) hR (by omega) ho mP H hLL (by omega) fun Bq v' l' KA VH N6 H yo=>?_
  iterate 2 refine H.ld 0 rfl rfl ?_
  exact ⟨_,_,CP KA,tell _ _ _ H⟩
 ·iterate 2 refine H.ld 0 rfl rfl ?_
  exact ⟨_,_,CP hR,tell _ _ _ H⟩
 ·rintro Tv v1 ⟨h126,rfl⟩;refine (K6 c _).mono ?_;rintro r v2 ⟨rfl,rfl⟩;rw[ik];refine Bj (fun hw=>?_) fun hw=>Br.dec (fun h0=>bad _ 3 (by decide) H) fun h0=>Br.dec (fun h1=>?_) fun h1=>?_
  ·exact ⟨s.size-(k+1),by omega,k+1,hf,sl,l,rfl,by omega,rfl,hR,by omega,ho,H,mP⟩
  ·exact ⟨s.size-(k+1),by omega,k+1,Tv,sl,l,rfl,by omega,rfl,hR,by omega,ho,H,mP⟩
  ·refine GW (K5 _) hR (by omega) ho mP H hLL (by omega) fun Bq v' l' KA VH N6 H yo=>?_
   exact ⟨s.size-(k+1),by omega,k+1,-1,Bq,l',rfl,by omega,rfl,KA,by omega,N6,H,yo⟩
end
end Tl
namespace Tl
open Sh Fix Tk Ov Go.Lib
theorem pJ (c:UInt8):∀l:By,-1<=indexByte l c/\indexByte l c<(l.length:Int)
 |[]=>by simp[indexByte]
 |d::l=>by
  have:=pJ c l;unfold indexByte;rw[au];split
  ·omega
  ·split<;>omega
def ACu (s:ByteArray)(i:Nat)(r:Int)(b:Bool):Prop:=(b=true/\∃k:Nat,r=(k:Int)/\i<k/\k<=s.size)\/(b=false/\r=(i:Int))
section
variable {w0 w w2 u v:World} {s t:ByteArray}
attribute [local irreducible] Ld Sh.St Nw Nn Lt AU
theorem pK {b:Nat}(kind t0z NR:Int)(hk:kind≠5/\kind≠1)(t:ByteArray)(H:Hn w v (HL w w2 s b)):Kd (s,(b:Int)) kind t0z t NR v fun r e F5=>
    Sh.St F5 (⟨w2.heap.size,0,none⟩:Addr) (.int .i64 (r.1)) fun Ec=>
    Sh.St Ec (⟨w2.heap.size,1,none⟩:Addr) (.int .i64 (r.2.1)) fun Ed=>
    Sh.St Ed (⟨w2.heap.size,2,none⟩:Addr) (.int .i64 (r.2.2.1)) fun Ee=>
    Sh.St Ee (⟨w2.heap.size,3,none⟩:Addr) (.int .i64 (r.2.2.2.1)) fun Ef=>
    Sh.St Ef (⟨w2.heap.size,4,none⟩:Addr) (.string r.2.2.2.2) fun Ab=>
    Ld Ab (⟨w2.heap.size,0,none⟩:Addr) (Value.int .i64) fun (Cf:Int)=>
    Ld Ab (⟨w2.heap.size,1,none⟩:Addr) (Value.int .i64) fun (EY:Int)=>
    Ld Ab (⟨w2.heap.size,2,none⟩:Addr) (Value.int .i64) fun (DR:Int)=>
    Ld Ab (⟨w2.heap.size,3,none⟩:Addr) (Value.int .i64) fun (D3:Int)=>
    Ld Ab (⟨w2.heap.size,4,none⟩:Addr) Value.string fun (EX:ByteArray)=>pI w (Cf,EY,DR,D3,EX) e Ab:=by
 refine (Pp _ _ _ _ _ v).mono ?_;rintro r e v1 ⟨hq,he⟩;have H:=H.AB he
 iterate 5 (refine H.st 1 rfl (by simp) fun _ H=>?_;simp only[aa,ab]at H)
 iterate 5 refine H.ld 1 rfl rfl ?_
 refine ⟨fun h=>?_,H.ext⟩;rcases hq with ⟨_,rfl,_⟩|⟨_,rfl⟩
 ·exact hk
 ·exact absurd h (by decide)
theorem fp {b:Nat}(x:Int)(hx:x≠0)(H:Hn w v (HL w w2 s b)):Fb x v fun r e F5=>
    Sh.St F5 (⟨w2.heap.size,0,none⟩:Addr) (.int .i64 (r.1)) fun Ec=>
    Sh.St Ec (⟨w2.heap.size,1,none⟩:Addr) (.int .i64 (r.2.1)) fun Ed=>
    Sh.St Ed (⟨w2.heap.size,2,none⟩:Addr) (.int .i64 (r.2.2.1)) fun Ee=>
    Sh.St Ee (⟨w2.heap.size,3,none⟩:Addr) (.int .i64 (r.2.2.2.1)) fun Ef=>
    Sh.St Ef (⟨w2.heap.size,4,none⟩:Addr) (.string r.2.2.2.2) fun Ab=>
    Ld Ab (⟨w2.heap.size,0,none⟩:Addr) (Value.int .i64) fun (Cf:Int)=>
    Ld Ab (⟨w2.heap.size,1,none⟩:Addr) (Value.int .i64) fun (EY:Int)=>
    Ld Ab (⟨w2.heap.size,2,none⟩:Addr) (Value.int .i64) fun (DR:Int)=>
    Ld Ab (⟨w2.heap.size,3,none⟩:Addr) (Value.int .i64) fun (D3:Int)=>
    Ld Ab (⟨w2.heap.size,4,none⟩:Addr) Value.string fun (EX:ByteArray)=>pI w (Cf,EY,DR,D3,EX) e Ab:=by
 refine (Co x v).mono ?_;rintro r e v1 ⟨rfl,rfl,he⟩;have H:=H.AB he
 iterate 5 (refine H.st 1 rfl (by simp) fun _ H=>?_;simp only[aa,ab]at H)
 iterate 5 refine H.ld 1 rfl rfl ?_
 exact ⟨fun h=>absurd h hx,H.ext⟩
theorem mQ {b:Nat}(hb:b<s.size)(hs:s.size<=1099511627776)(w:World):lQ (s,(b:Int)) w (pI w):=by
 refine AAm (s,(b:Int)) _ _ ?_;unfold tD;refine (Hn.start w).nw (cs:=[.string s,.int .i64 (b:Int)]) fun w2 H=>?_
 refine H.nw (cs:=[.int .i64 0,.int .i64 0,.int .i64 0,.int .i64 0,.string ⟨#[]⟩]) fun w3 H=>?_
 simp only[ag,ad,add_lit,ak]at H⊢;have h23:w2.heap.size<w3.heap.size:=H.lt 1 rfl;have h13:w.heap.size<w3.heap.size:=H.lt 0 rfl
 iterate 3 refine H.ld 0 rfl rfl ?_
 have ib:wrap .i64 (((b:Nat):Int)+1)=((b+1:Nat):Int):=by rw[AH (by omega)];rfl
 rw[ib];refine (Ry s _ (a:=b+1) (by omega) hs w3).mono ?_;rintro r w4 ⟨Qg,e4⟩;have pF:=Wa ((bl s).drop (b+1));rw[aE,AE]at pF;generalize Fh ((bl s).drop (b+1))=R0 at Qg pF;subst Qg;have z4:=e4.size;have H:=H.AB e4;refine H.ld 0 rfl rfl ?_;rw[ib];refine ⟨fun n st v=>∃(k:Nat) (sl:AA) (l:By),st=(sl,(k:Int))/\k<=b+1+R0/\b+1<=k/\n=b+1+R0-k/\Bd v sl l/\l.length<=k/\(∀j,sl.own j->w3.heap.size<=j)/\Hn w v (HL w w2 s b)/\w3.heap.size<=v.heap.size,R0,
  ⟨b+1,⟨none,0,0⟩,[],rfl,by omega,by omega,by omega,Bd.nil _,by simp,(fun j hj=>by obtain ⟨a,ha,_⟩:=hj;cases ha),H,z4⟩,?_⟩
 rintro n st v ⟨k,sl,l,rfl,hk,NS,rfl,hR,hl,ho,H,mP⟩;unfold Ub;have hLL:∀p∈(HL w w2 s b).map (·.1),p<w3.heap.size:=fun p hp=>by
  simp only[aB,bj,ar,aF,bp]at hp;omega
 dsimp only;refine Br.dec (fun q=>H.ld 0 rfl rfl ⟨by omega,by omega,?_⟩) fun q=>?_
 ·have Cy:k<s.size:=by omega
  have hc:=ah (show k<(bl s).length by rw[AE];exact Cy);generalize (bl s)[k]'(by rw[AE];exact Cy)=c at hc;rw[AX hc];have i1:wrap .i64 ((k:Int)+1)=((k+1:Nat):Int):=by rw[AH (by omega)];rfl
  have i2:wrap .i64 ((k:Int)+2)=((k+2:Nat):Int):=by rw[AH (by omega)];rfl
  have i3:wrap .i64 ((k:Int)+3)=((k+3:Nat):Int):=by rw[AH (by omega)];rfl
  have i23:wrap .i64 (((k+2:Nat):Int)+1)=((k+3:Nat):Int):=by rw[AH (by omega)];rfl
  rw[i1,i2,i3,i23];refine Br.eq (fun h35=>Br.dec (fun q2=>fp 3 (by decide) H) fun q2=>H.ld 0 rfl rfl ⟨by omega,by omega,by omega,by omega,?_⟩) fun h35=>?_
  ·refine (fo _ ?_ v).mono ?_
   ·rw[<-AE,A9,aC,aE,AE];omega
   rintro oo r92 v1 ⟨h1,e1⟩;have H:=H.AB e1;have hR:=hR.AB e1 fun _ _ h=>h
   have z1:=e1.size;refine Br.ne (fun h0=>fp 3 (by decide) H) fun h0=>Bj (fun h0'=>fp 3 (by decide) H) fun h0'=>?_
   have hz:=h1 h0;refine ⟨by decide,by omega,?_⟩;have Te:∃c:UInt8,BX oo 0=(c.toNat:Int):=by
    have hc:=ah (show 0<(bl oo).length by rw[AE];omega);exact ⟨_,AX (i:=0) hc⟩
   refine GW Te hR (by omega) ho (by omega) H hLL (by omega) fun Bq v' l' KA VH N6 H yo=>?_
   exact ⟨b+1+R0-(k+3),by omega,k+3,Bq,l',rfl,by omega,by omega,rfl,KA,by omega,N6,H,yo⟩
  ·refine GW ⟨c,rfl⟩ hR (by omega) ho mP H hLL (by omega) fun Bq v' l' KA VH N6 H yo=>?_
   exact ⟨b+1+R0-(k+1),by omega,k+1,Bq,l',rfl,by omega,by omega,rfl,KA,by omega,N6,H,yo⟩
 ·iterate 2 refine H.ld 0 rfl rfl ?_
  exact ⟨_,_,CP hR,pK _ _ _ (by decide) _ H⟩
theorem mR {a:Nat}(ha:a<s.size)(hs:s.size<=1099511627776)(w:World):dw s (a:Int) w fun r w1=>(∃k:Nat,r=(k:Int)/\a<k/\k<=s.size)/\Ext (fun _=>False) w w1:=by
 refine AIB _ _ _ _ ?_;unfold AAz;refine Br.dec (fun q=>by omega) fun _=>Br.dec (fun q=>by omega) fun _=>?_
 refine ⟨fun n st v=>∃k:Nat,st=(k:Int)/\a<=k/\k<=s.size/\n=s.size-k/\Ext (fun _=>False) w v,s.size-a,⟨a,rfl,by omega,by omega,rfl,Ext.refl _ _⟩,?_⟩;rintro n st v ⟨k,rfl,hk,Cy,rfl,hE⟩;unfold eS;refine Br.dec (fun q=>⟨by omega,q,?_⟩) fun q=>⟨⟨s.size,rfl,by omega,by omega⟩,hE⟩
 have Cy:k<s.size:=by have q:(k:Int)<((s.size:Nat):Int):=q;omega
 have hc:=ah (show k<(bl s).length by rw[AE];exact Cy);generalize (bl s)[k]'(by rw[AE];exact Cy)=c at hc;rw[AX hc];have i1:wrap .i64 ((k:Int)+1)=((k+1:Nat):Int):=by rw[AH (by omega)];rfl
 have i2:wrap .i64 ((k:Int)+2)=((k+2:Nat):Int):=by rw[AH (by omega)];rfl
 rw[i1,i2];refine Br.eq (fun _=>⟨⟨k+1,rfl,by omega,by omega⟩,hE⟩) fun _=>Br.eq (fun _=>(F6 s _ (a:=k) (by omega) v).mono ?_) fun _=>?_
 ·rintro r v1 ⟨hr,rfl⟩;refine Bj (fun h=>⟨⟨k+2,rfl,by omega,?_⟩,hE⟩) fun _=>⟨⟨k+1,rfl,by omega,by omega⟩,hE⟩
  rw[hr]at h;have hp:[(13:UInt8),10]<+:(bl s).drop k:=List.isPrefixOf_iff_prefix.1 h;have:=hp.length_le;rw[aE,AE]at this;have h2:[(13:UInt8),10].length=2:=rfl;omega
 ·exact ⟨s.size-(k+1),by omega,k+1,rfl,by omega,by omega,rfl,hE⟩
theorem fq {i:Nat}(x:Int)(hi:i<s.size)(hs:s.size<=1099511627776)(w:World):dh (s,x) (i:Int) w fun r b w1=>ACu s i r b/\Ext (fun _=>False) w w1:=by
 refine AAn (s,x) _ _ _ ?_;unfold tE;refine (Hn.start w).nw (cs:=[.string s,.int .i64 x]) fun w2 H=>?_
 simp only[ad,add_lit,ak]at H⊢;have line:∀(v:World),Hn w v [(w.heap.size,[.string s,.int .i64 x],225)]->dw s (i:Int) v fun r8 vw9=>ACu s i r8 true/\Ext (fun _=>False) w vw9:=fun v H=>by
  refine (mR hi hs v).mono ?_;rintro r v1 ⟨hk,e⟩;exact ⟨.inl ⟨rfl,hk⟩,H.ext.tr e⟩
 refine H.ld 0 rfl rfl ⟨by omega,by omega,?_⟩;refine Br.eq (fun q=>H.ld 0 rfl rfl (line _ H)) fun _=>?_
 refine H.ld 0 rfl rfl ⟨by omega,by omega,?_⟩;exact Br.eq (fun q=>H.ld 0 rfl rfl (line _ H)) fun _=>⟨.inr ⟨rfl,rfl⟩,H.ext⟩
theorem VI {i:Nat}(x:Int)(hi:i<s.size)(hs:s.size<=1099511627776)(w:World):lR (s,x) (i:Int) w fun r t0z w1=>(r.size<=1/\∃k:Nat,t0z=(k:Int)/\i<k/\k<=s.size)/\Ext (fun _=>False) w w1:=by
 refine AAo (s,x) _ _ _ ?_;unfold tF;refine (Hn.start w).nw (cs:=[.string s,.int .i64 x]) fun w2 H=>?_
 simp only[ad,add_lit,ak]at H⊢;have i1:wrap .i64 ((i:Int)+1)=((i+1:Nat):Int):=by rw[AH (by omega)];rfl
 have i3:wrap .i64 ((i:Int)+3)=((i+3:Nat):Int):=by rw[AH (by omega)];rfl
 have hc:=ah (show i<(bl s).length by rw[AE];exact hi);generalize (bl s)[i]'(by rw[AE];exact hi)=c at hc;refine H.ld 0 rfl rfl ⟨by omega,by omega,?_⟩;rw[AX hc];refine (KC _ c w2).mono ?_;rintro r9 w3 ⟨h9,rfl⟩;have hb9:=pJ c (bl (⟨#[110,114,116,98,102]⟩:cN));rw[<-h9]at hb9;have h5:(bl (⟨#[110,114,116,98,102]⟩:cN)).length=5:=rfl;have h55:(⟨#[10,13,9,8,12]⟩:cN).size=5:=rfl;rw[i1];refine Br.dec (fun q=>?_) fun q=>?_
 ·rw[AH (n:=r9+1) (by omega),h55];refine ⟨by omega,by omega,by omega,by omega,Lt.of ⟨⟨?_,i+1,rfl,by omega,by omega⟩,H.ext⟩⟩;rw[<-AE,A9,aC];omega
 ·iterate 2 refine H.ld 0 rfl rfl ?_
  refine (fq x hi hs _).mono ?_;rintro r b w4 ⟨hq,e4⟩;have H:=H.AB e4;rcases hq with ⟨rfl,k,rfl,NS,Xe⟩|⟨rfl,rfl⟩
  ·exact Br.t rfl ⟨⟨bJ _,k,rfl,NS,Xe⟩,H.ext⟩
  have J:∀(n:Int) (j:Nat),j<=3->i+j<=s.size->HK w (i:Int) (fun r t0z w1=>(r.size<=1/\∃k:Nat,t0z=(k:Int)/\i<k/\k<=s.size)/\Ext (fun _=>False) w w1) (n,((i+j:Nat):Int)) w4:=fun n j hj Tj=>by
   unfold HK;dsimp only;refine Br.dec (fun q=>Nw.of ?_) fun q=>H.ld 0 rfl rfl ?_
   ·obtain ⟨d,hd⟩:=K5 n;rw[hd];have e1:Ext (fun _=>False) w4 (w4.alloc (.cells (Fq [d]).toArray 5)):=(Ext.refl _ _).alloc _;have R1:Bd (w4.alloc (.cells (Fq [d]).toArray 5)) ⟨some ⟨w4.heap.size,0,none⟩,1,1⟩ [d]:=Row.new w4 (Fq [d]).toArray 5 1 1 rfl;exact ⟨_,_,CP R1,⟨by show (1:Nat)<=1;decide,i+j,rfl,by omega,Tj⟩,(H.AB e1).ext⟩
   ·rw[i1];refine ⟨by omega,by omega,by omega,by omega,⟨?_,i+1,rfl,by omega,by omega⟩,H.ext⟩;rw[<-AE,A9,aC];omega
  refine Br.f rfl (As.intro ⟨fun m st v=>∃(n:Int) (j:Nat),j<=3/\i+j<=s.size/\m=3-j/\st=(n,((i+j:Nat):Int))/\v=w4,3,⟨0,0,by omega,by omega,rfl,rfl,rfl⟩,?_⟩);rintro m st v ⟨n,j,hj,Tj,rfl,rfl,rfl⟩;unfold PS;have J:=J n j hj Tj;dsimp only;rw[i3];refine H.ld 0 rfl rfl (Br.dec (fun q1=>Br.dec (fun q2=>H.ld 0 rfl rfl ⟨by omega,q1,Br.dec (fun _=>H.ld 0 rfl rfl ⟨by omega,q1,Br.dec (fun _=>H.ld 0 rfl rfl ⟨by omega,q1,Lt.of ?_⟩) fun _=>J⟩) fun _=>J⟩) fun _=>J) fun _=>J);have q1:((i+j:Nat):Int)<((s.size:Nat):Int):=q1;have i4:wrap .i64 (((i+j:Nat):Int)+1)=((i+(j+1):Nat):Int):=by rw[AH (by omega)];rfl
  rw[i4];exact ⟨3-(j+1),by omega,_,j+1,by omega,by omega,rfl,rfl,rfl⟩
theorem mS {b:Nat}(hb:b<s.size)(hs:s.size<=549755813888)(w:World):lS (s,(b:Int)) w (pI w):=by
 refine AAp (s,(b:Int)) _ _ ?_;unfold tJ;refine (Hn.start w).nw (cs:=[.string s,.int .i64 (b:Int)]) fun w2 H=>?_
 refine H.nw (cs:=[.int .i64 0,.int .i64 0,.int .i64 0,.int .i64 0,.string ⟨#[]⟩]) fun w3 H=>?_
 simp only[ag,ad,add_lit,ak]at H⊢;have h23:w2.heap.size<w3.heap.size:=H.lt 1 rfl;have h13:w.heap.size<w3.heap.size:=H.lt 0 rfl;have hw0:=H.size;refine Nw.of ?_;have e0:Ext (fun _=>False) w3 (w3.alloc (.cells #[.pointer none,AA.v ⟨none,0,0⟩] 63)):=(Ext.refl _ _).alloc _;have Gv:=AN.new w3 #[.pointer none,AA.v ⟨none,0,0⟩] 63;generalize w3.alloc (.cells #[.pointer none,AA.v ⟨none,0,0⟩] 63)=w4 at e0 Gv⊢;have B0:Bu w3 w4 w3.heap.size none ⟨none,0,0⟩ []:=⟨az _,.inl rfl,Gv,⟨rfl,.inl ⟨rfl,rfl⟩⟩⟩
 have H:=H.AB e0;have z4:=e0.size;refine H.ld 0 rfl rfl ?_;have ib:wrap .i64 (((b:Nat):Int)+1)=((b+1:Nat):Int):=by rw[AH (by omega)];rfl
 rw[ib];refine ⟨fun n st v=>∃(k:Nat) (op:Int) (p:Option Addr) (sl:AA) (l:By),st=(op,(k:Int))/\k<=s.size/\n=s.size-k/\Bu w3 v w3.heap.size p sl l/\l.length<=k/\w3.heap.size<=v.heap.size/\Hn w v (HL w w2 s b),s.size-(b+1),
  ⟨b+1,1,none,⟨none,0,0⟩,[],rfl,by omega,rfl,B0,by simp,z4,H⟩,?_⟩
 rintro n st v ⟨k,op,p,sl,l,rfl,hk,rfl,hB,hl,mP,H⟩;unfold Uc;have KD:∀{u u':World},Hn w u (HL w w2 s b)->Ext (fun j=>w3.heap.size<=j) u u'->Hn w u' (HL w w2 s b):=fun H e=>H.other e fun j hj=>by
  have hj:w3.heap.size<=j:=hj;refine ⟨by omega,?_⟩;simp only[aB,bj,ar,aF,bp];omega
 dsimp only;refine H.ld 0 rfl rfl (Br.dec (fun q=>?_) fun q=>fp 4 (by decide) H);have Cy:k<s.size:=by have q:(k:Int)<((s.size:Nat):Int):=q;omega
 have i1:wrap .i64 ((k:Int)+1)=((k+1:Nat):Int):=by rw[AH (by omega)];rfl
 iterate 2 refine H.ld 0 rfl rfl ?_
 refine (fq _ Cy (by omega) v).mono ?_;rintro r bb v1 ⟨hq,e1⟩;have H:=H.AB e1;have hB:=hB.AB e1;have z1:=e1.size;rcases hq with ⟨rfl,k2,rfl,NS,Xe⟩|⟨rfl,rfl⟩
 ·refine Br.t rfl ((EH (c:=10) hB (by omega)).mono ?_);rintro r v2 ⟨Qw,NB,hW⟩;exact ⟨s.size-k2,by omega,k2,op,_,Qw,_,rfl,Xe,rfl,NB,by rw[ae];show l.length+1<=k2;omega,by have:=hW.ext.size;omega,KD H hW.ext⟩

 have J:∀(op:Int),Lu w w2 w3 (fun st v=>∃n',n'<s.size-k/\∃(k:Nat) (op:Int) (p:Option Addr) (sl:AA) (l:By),st=(op,(k:Int))/\k<=s.size/\n'=s.size-k/\Bu w3 v w3.heap.size p sl l/\l.length<=k/\w3.heap.size<=v.heap.size/\Hn w v (HL w w2 s b)) (pI w) (op,(k:Int)) v1:=fun op=>by
  unfold Lu;dsimp only;rw[i1];refine Bj (fun _=>?_) fun _=>H.ld 0 rfl rfl ⟨by omega,by omega,?_⟩
  ·refine ⟨fun u=>Hn w u (HL w w2 s b),H.drew,?_⟩;refine AU.of (fun u hu=>hu.get 0 rfl) rfl (AU.of (fun u hu=>hu.get 0 rfl) rfl ?_);refine (JF (hB.AB (Ext.refl (fun _=>False) v1).drew) (by show w3.heap.size<=v1.heap.size;omega)).mono ?_;rintro r v2 ⟨rfl,G7⟩;have H:=KD H.drew (Cl G7);refine ⟨H,?_⟩;simp only[add_lit,ak];exact pK _ _ _ (by decide) _ H
  ·have hc:=ah (show k<(bl s).length by rw[AE];exact Cy);generalize (bl s)[k]'(by rw[AE];exact Cy)=c at hc;rw[AX hc];refine (EH hB (by omega)).mono ?_;rintro r v2 ⟨Qw,NB,hW⟩;exact ⟨s.size-(k+1),by omega,k+1,op,_,Qw,_,rfl,by omega,rfl,NB,by rw[ae];show l.length+1<=k+1;omega,by have:=hW.ext.size;omega,KD H hW.ext⟩
 refine Br.f rfl (As.intro (H.ld 0 rfl rfl ⟨by omega,by omega,?_⟩));refine Br.eq (fun h92=>H.ld 0 rfl rfl ?_) fun _=>Br.eq (fun _=>J _) fun _=>Br.eq (fun _=>J _) fun _=>J _
 rw[i1];refine Br.eq (fun _=>fp 4 (by decide) H) fun BI=>?_
 have NS:k+1<s.size:=by
  have BI:((k+1:Nat):Int)≠((s.size:Nat):Int):=BI;omega
 iterate 2 refine H.ld 0 rfl rfl ?_
 refine (VI _ NS (by omega) v1).mono ?_;rintro r t0z v2 ⟨⟨VD,k2,rfl,Xe,hk3⟩,e2⟩;have H:=H.AB e2;have hB:=hB.AB e2;have z2:=e2.size;refine (EA hB (by omega)).mono ?_;rintro D0 V8 v3 ⟨Qw,NB,hW⟩;exact ⟨s.size-k2,by omega,k2,op,_,Qw,_,rfl,hk3,rfl,NB,by rw[ae];show l.length+r.data.toList.length<=k2;rw[show r.data.toList.length=r.size from AE r];omega,by have:=hW.ext.size;omega,KD H hW.ext⟩
end
end Tl
namespace Tl
open Sh Fix Tk Ov Go.Lib
theorem Eg:∀(l:By) (b:Bool) (c:UInt8),l[AP l b]?=some c->b=false\/AP l b≠0->D9 c=false/\c≠37
 |[],_,c,h,_=>by simp at h
 |d::r,true,c,h,hb=>by
  have e:AP (d::r) true=1+AP r (!(d==13||d==10)):=rfl;rw[e,Nat.add_comm,bK]at h;by_cases hd:(d==13||d==10)=true
  ·rw[hd]at h;exact Eg r false c h (.inl rfl)
  ·have hd:(d==13||d==10)=false:=by simpa using hd
   rw[hd]at h;cases r with
   |nil=>simp at h
   |cons x r=>exact Eg (x::r) true c h (.inr (by show 1+_≠0;omega))
 |d::r,false,c,h,_=>by
  have e:AP (d::r) false=if d=37 then 1+AP r true else if D9 d=true then 1+AP r false else 0:=rfl
  rw[e]at h;by_cases h1:d=37
  ·rw[aG h1,Nat.add_comm,bK]at h;cases r with
   |nil=>simp at h
   |cons x r=>exact Eg (x::r) true c h (.inr (by show 1+_≠0;omega))
  ·rw[aA h1]at h;by_cases h2:D9 d=true
   ·rw[aG h2,Nat.add_comm,bK]at h;exact Eg r false c h (.inl rfl)
   ·rw[aA h2]at h;simp only[bL,aS]at h;subst h;exact ⟨by simpa using h2,h1⟩
theorem MM:∀l:By,(∀c∈l.take (Fh l),AW c=true)/\∀c,(l.drop (Fh l)).head?=some c->AW c=false
 |[]=>⟨by simp,by simp⟩
 |d::r=>by
  have e:Fh (d::r)=if AW d=true then 1+Fh r else 0:=rfl
  obtain ⟨h1,h2⟩:=MM r;rw[e];by_cases hd:AW d=true
  ·rw[aG hd,Nat.add_comm,List.take_succ_cons,cG];refine ⟨fun c hc=>?_,h2⟩;rcases ar.1 hc with rfl|hc
   ·exact hd
   ·exact h1 c hc
  ·rw[aA hd];refine ⟨by simp,fun c hc=>?_⟩;simp only[List.drop_zero,List.head?_cons,aS]at hc;subst hc;simpa using hd
def pL (s:ByteArray)(a:Nat)(r:TT)(e:Int):Prop:=e=0->r.1=5->∃(b:Nat) (T rest:By),b=a+AP ((bl s).drop a) false/\(bl s).drop b=T++rest/\(∀c,rest.head?=some c->AW c=false)/\DM T=true/\r=(5,(b:Int),((b+T.length:Nat):Int),0,ba T)
def pM (s:ByteArray)(a:Nat)(r:TT)(e:Int):Prop:=e=0->r.1=1->∃(b:Nat) (T rest:By) (n:Int),b=a+AP ((bl s).drop a) false/\(bl s).drop b=T++rest/\(∀c,rest.head?=some c->AW c=false)/\T≠[]/\(∀c∈T,AW c=true)/\r=(1,(b:Int),((b+T.length:Nat):Int),n,⟨#[]⟩)
def Fp (s:ByteArray)(a:Nat)(r:TT)(e:Int):Prop:=pL s a r e/\pM s a r e
section
variable {w0 w w2 u v:World} {s t:ByteArray} {a b:Nat}
attribute [local irreducible] Ld Sh.St Nw Nn Lt AU
theorem Pq {n:Nat}(hb:b+n<=s.size)(hs:s.size<=1099511627776)(w:World):YC (s,(b:Int)) (n:Int) w fun r e w1=>r=(6,(b:Int),((b+n:Nat):Int),0,s.extract b (b+n))/\e=0/\Ext (fun _=>False) w w1:=by
 refine AG4 (s,(b:Int)) _ _ _ ?_;unfold AAg;refine (Hn.start w).nw (cs:=[.string s,.int .i64 (b:Int)]) fun w2 H=>?_
 refine H.nw (cs:=[.int .i64 0,.int .i64 0,.int .i64 0,.int .i64 0,.string ⟨#[]⟩]) fun w3 H=>?_
 have H:=H.drew;simp only[ag,ad,add_lit,ak]at H⊢
 iterate 5 refine H.ld 0 rfl rfl ?_
 have e:wrap .i64 ((b:Int)+(n:Int))=((b+n:Nat):Int):=by rw[AH (by omega)];rfl
 rw[e];refine ⟨by omega,by omega,by omega,by omega,?_⟩
 iterate 5 (refine H.st 1 rfl (by simp) fun _ H=>?_;simp only[aa,ab]at H)
 iterate 5 refine H.ld 1 rfl rfl ?_
 exact ⟨by rw[ay,ay],by trivial,H.ext⟩
theorem mT {c:UInt8}(hc:(bl s)[b]?=some c):s.extract b (b+1)=ba [c]:=Jd (by
 rw[A9,EN hc,show b+1-b=1 by omega,Bp]
 rfl)
theorem mU {c d:UInt8}(hc:(bl s)[b]?=some c)(hd:(bl s)[b+1]?=some d):s.extract b (b+2)=ba [c,d]:=Jd (by
 rw[A9,EN hc,EN hd,show b+2-b=2 by omega,Bp]
 rfl)
theorem MN {c:UInt8}(ha:a<=s.size)(hs:s.size<=1099511627776)(hb:a+AP ((bl s).drop a) false=b)(hc:(bl s)[b]?=some c)(h:c=91\/c=93\/c=123\/c=125)(w:World):
  FW s (a:Int) w fun r e w1=>r=(6,(b:Int),((b+1:Nat):Int),0,ba [c])/\e=0/\Ext (fun _=>False) w w1:=by
 have Xh:b<s.size:=by
  have:=(al.1 hc).1;rwa[AE]at this
 refine Cp ha hs hb hc w fun w2 v H=>?_
 unfold Fz;have f:((c==91)||(c==93)||(c==123)||(c==125))=true:=by rcases h with rfl|rfl|rfl|rfl<;>decide
 rw[f];refine Br.t rfl ?_;simp only[add_lit,ak]
 iterate 2 refine H.ld 1 rfl rfl ?_
 refine (Pq (n:=1) (by omega) hs v).mono ?_;rintro r e w3 ⟨rfl,rfl,e3⟩;have H:=H.AB e3
 iterate 5 (refine H.st 0 rfl (by simp) fun _ H=>?_;simp only[aa,ab]at H)
 iterate 5 refine H.ld 0 rfl rfl ?_
 exact ⟨by rw[mT hc],by trivial,H.ext⟩
theorem VJ {c:UInt8}(ha:a<=s.size)(hs:s.size<=1099511627776)(hb:a+AP ((bl s).drop a) false=b)(hc:(bl s)[b]?=some c)(Rz:(bl s)[b+1]?=some c)(h:c=60\/c=62)(w:World):
  FW s (a:Int) w fun r e w1=>r=(6,(b:Int),((b+2:Nat):Int),0,ba [c,c])/\e=0/\Ext (fun _=>False) w w1:=by
 have Xh:b+1<s.size:=by
  have:=(al.1 Rz).1;rwa[AE]at this
 have hd:hasPrefix ((bl s).drop (b+1)) [c]=true:=by
  rw[EN Rz];simp[hasPrefix,List.isPrefixOf]
 refine Cp ha hs hb hc w fun w2 v H=>?_
 unfold Fz;have f:((c==91)||(c==93)||(c==123)||(c==125))=false:=by rcases h with rfl|rfl<;>decide
 rw[f,hd,AX hc];have fin:∀(v:World),Hn w v [(w.heap.size,[.int .i64 0,.int .i64 0,.int .i64 0,.int .i64 0,.string ⟨#[]⟩],148),(w2.heap.size,[.string s,.int .i64 (b:Int)],225)]->YC (s,(b:Int)) 2 v fun r e F5=>
    Sh.St F5 (⟨w.heap.size,0,none⟩:Addr) (.int .i64 (r.1)) fun Ec=>
    Sh.St Ec (⟨w.heap.size,1,none⟩:Addr) (.int .i64 (r.2.1)) fun Ed=>
    Sh.St Ed (⟨w.heap.size,2,none⟩:Addr) (.int .i64 (r.2.2.1)) fun Ee=>
    Sh.St Ee (⟨w.heap.size,3,none⟩:Addr) (.int .i64 (r.2.2.2.1)) fun Ef=>
    Sh.St Ef (⟨w.heap.size,4,none⟩:Addr) (.string r.2.2.2.2) fun Ab=>
    Ld Ab (⟨w.heap.size,0,none⟩:Addr) (Value.int .i64) fun (Cf:Int)=>
    Ld Ab (⟨w.heap.size,1,none⟩:Addr) (Value.int .i64) fun (EY:Int)=>
    Ld Ab (⟨w.heap.size,2,none⟩:Addr) (Value.int .i64) fun (DR:Int)=>
    Ld Ab (⟨w.heap.size,3,none⟩:Addr) (Value.int .i64) fun (D3:Int)=>
    Ld Ab (⟨w.heap.size,4,none⟩:Addr) Value.string fun (EX:ByteArray)=>((Cf,EY,DR,D3,EX):TT)=(6,(b:Int),((b+2:Nat):Int),0,ba [c,c])/\e=0/\Ext (fun _=>False) w Ab:=fun v H=>by
  refine (Pq (n:=2) (by omega) hs v).mono ?_;rintro r e w3 ⟨rfl,rfl,e3⟩;have H:=H.AB e3
  iterate 5 (refine H.st 0 rfl (by simp) fun _ H=>?_;simp only[aa,ab]at H)
  iterate 5 refine H.ld 0 rfl rfl ?_
  exact ⟨by rw[mU hc Rz],rfl,H.ext⟩
 simp only[add_lit,ak];refine Br.f rfl ?_;rcases h with rfl|rfl
 ·refine Br.t rfl (Br.t rfl ?_)
  iterate 2 refine H.ld 1 rfl rfl ?_
  exact fin v H
 ·refine Br.f rfl (Br.t rfl (Br.t rfl ?_))
  iterate 2 refine H.ld 1 rfl rfl ?_
  exact fin v H
theorem kC (s:ByteArray)(ha:a<=s.size)(hs:s.size<=549755813888)(w:World):FW s (a:Int) w fun r e w1=>Fp s a r e/\Ext (fun _=>False) w w1:=by
 have U8:s.size<=1099511627776:=by omega
 generalize hb:a+AP ((bl s).drop a) false=b;have NG:=GX ha hb;by_cases Xh:b=s.size
 ·subst Xh;refine (VK ha U8 hb w).mono ?_;rintro r e w1 ⟨rfl,rfl,e1⟩;exact ⟨⟨fun _ h=>absurd h (by show ¬(0:Int)=5;decide),fun _ h=>absurd h (by show ¬(0:Int)=1;decide)⟩,e1⟩
 have Au:b<s.size:=by omega
 have hc:=ah (show b<(bl s).length by rw[AE];exact Au);generalize (bl s)[b]'(by rw[AE];exact Au)=c at hc;have NF:=Eg ((bl s).drop a) false c (by rw[bI,hb];exact hc) (.inl rfl);by_cases hm:c=91\/c=93\/c=123\/c=125
 ·refine (MN ha U8 hb hc hm w).mono ?_;rintro r e w1 ⟨rfl,rfl,e1⟩;exact ⟨⟨fun _ h=>absurd h (by show ¬(6:Int)=5;decide),fun _ h=>absurd h (by show ¬(6:Int)=1;decide)⟩,e1⟩
 refine Cp ha U8 hb hc w fun w2 v H=>?_
 unfold Fz;have f:((c==91)||(c==93)||(c==123)||(c==125))=false:=by
  simp only[not_or]at hm;simp[hm.1,hm.2.1,hm.2.2.1,hm.2.2.2]
 rw[f,AX hc]

 have fin:∀(v:World) (r:TT) (e:Int),Hn w v [(w.heap.size,[.int .i64 0,.int .i64 0,.int .i64 0,.int .i64 0,.string ⟨#[]⟩],148),(w2.heap.size,[.string s,.int .i64 (b:Int)],225)]->Fp s a r e->
    Sh.St v (⟨w.heap.size,0,none⟩:Addr) (.int .i64 (r.1)) fun Ec=>
    Sh.St Ec (⟨w.heap.size,1,none⟩:Addr) (.int .i64 (r.2.1)) fun Ed=>
    Sh.St Ed (⟨w.heap.size,2,none⟩:Addr) (.int .i64 (r.2.2.1)) fun Ee=>
    Sh.St Ee (⟨w.heap.size,3,none⟩:Addr) (.int .i64 (r.2.2.2.1)) fun Ef=>
    Sh.St Ef (⟨w.heap.size,4,none⟩:Addr) (.string r.2.2.2.2) fun Ab=>
    Ld Ab (⟨w.heap.size,0,none⟩:Addr) (Value.int .i64) fun (Cf:Int)=>
    Ld Ab (⟨w.heap.size,1,none⟩:Addr) (Value.int .i64) fun (EY:Int)=>
    Ld Ab (⟨w.heap.size,2,none⟩:Addr) (Value.int .i64) fun (DR:Int)=>
    Ld Ab (⟨w.heap.size,3,none⟩:Addr) (Value.int .i64) fun (D3:Int)=>
    Ld Ab (⟨w.heap.size,4,none⟩:Addr) Value.string fun (EX:ByteArray)=>Fp s a (Cf,EY,DR,D3,EX) e/\Ext (fun _=>False) w Ab:=fun v r e H hr=>by
  iterate 5 (refine H.st 0 rfl (by simp) fun _ H=>?_;simp only[aa,ab]at H)
  iterate 5 refine H.ld 0 rfl rfl ?_
  exact ⟨hr,H.ext⟩
 simp only[add_lit,ak];have no:∀{r:TT} {e:Int},(e=0->r.1≠5/\r.1≠1)->Fp s a r e:=fun h=>⟨fun h0 h5=>absurd h5 (h h0).1,fun h0 h5=>absurd h5 (h h0).2⟩
 have dbl:∀{d:UInt8},hasPrefix ((bl s).drop (b+1)) [d]=true->b+2<=s.size:=fun {d} h=>by
  have hp:[d]<+:(bl s).drop (b+1):=List.isPrefixOf_iff_prefix.1 h;have:=hp.length_le;rw[aE,AE]at this;have h2:[d].length=1:=rfl;omega
 refine Br.f rfl (Br.eq (fun h60=>Bj (fun hd=>?_) fun hd=>?_) fun h60=>Br.eq (fun h62=>Bj (fun hd=>?_) fun hd=>?_) fun h62=>Br.eq (fun h47=>?_) fun h47=>Br.eq (fun h40=>?_) fun h40=>Br.eq (fun h41=>?_) fun h41=>?_)
 ·iterate 2 refine H.ld 1 rfl rfl ?_
  refine (Pq (n:=2) (dbl hd) U8 v).mono ?_;rintro r e w3 ⟨rfl,rfl,e3⟩;exact fin _ _ _ (H.AB e3) (no fun _=>⟨by show (6:Int)≠5;decide,by show (6:Int)≠1;decide⟩)
 ·iterate 2 refine H.ld 1 rfl rfl ?_
  refine (vu Au U8 v).mono ?_;rintro r e w3 ⟨hr,e3⟩;exact fin _ _ _ (H.AB e3) (no hr)
 ·iterate 2 refine H.ld 1 rfl rfl ?_
  refine (Pq (n:=2) (dbl hd) U8 v).mono ?_;rintro r e w3 ⟨rfl,rfl,e3⟩;exact fin _ _ _ (H.AB e3) (no fun _=>⟨by show (6:Int)≠5;decide,by show (6:Int)≠1;decide⟩)
 ·refine (Co 3 v).mono ?_;rintro r e w3 ⟨rfl,rfl,e3⟩;exact fin _ _ _ (H.AB e3) (no fun h=>absurd h (by decide))
 ·iterate 2 refine H.ld 1 rfl rfl ?_
  refine (mQ Au U8 v).mono ?_;rintro r e w3 ⟨hr,e3⟩;exact fin _ _ _ (H.AB e3) (no hr)
 ·iterate 2 refine H.ld 1 rfl rfl ?_
  refine (mS Au hs v).mono ?_;rintro r e w3 ⟨hr,e3⟩;exact fin _ _ _ (H.AB e3) (no hr)
 ·refine (Co 3 v).mono ?_;rintro r e w3 ⟨rfl,rfl,e3⟩;exact fin _ _ _ (H.AB e3) (no fun h=>absurd h (by decide))
 ·iterate 2 refine H.ld 1 rfl rfl ?_
  have fk:AW c=true:=by
   have n:∀{d:UInt8},(c.toNat:Int)≠(d.toNat:Int)->c≠d:=fun h e=>h (by rw[e])
   have hdl:jv c=false:=by
    rw[<-cb];unfold jv;rw[aW];intro CB;simp only[ar,aF,bp]at CB;simp only[not_or]at hm;rcases CB with e|e|e|e|e|e|e|e|e|e
    ·exact h40 (by rw[e];rfl)
    ·exact h41 (by rw[e];rfl)
    ·exact h60 (by rw[e];rfl)
    ·exact h62 (by rw[e];rfl)
    ·exact hm.1 e
    ·exact hm.2.1 e
    ·exact hm.2.2.1 e
    ·exact hm.2.2.2 e
    ·exact h47 (by rw[e];rfl)
    ·exact NF.2 e
   unfold AW;rw[NF.1,hdl]
   rfl
  obtain ⟨t1,t2⟩:=MM ((bl s).drop b);have BI:((bl s).drop b).take (Fh ((bl s).drop b))≠[]:=by
   rw[EN hc];have:Fh (c::(bl s).drop (b+1))=1+Fh ((bl s).drop (b+1)):=by
    show (if AW c=true then _ else _)=_;rw[aG fk]
   rw[this,Nat.add_comm,List.take_succ_cons];simp
  refine (WZ BI t1 (aT _ _).symm t2 NG U8 v).mono ?_;rintro r e w3 ⟨hq,e3⟩;refine fin _ _ _ (H.AB e3) ⟨fun h0 h5=>?_,fun h0 h1=>?_⟩
  ·rcases hq with ⟨hw,hr,_⟩|⟨_,hr⟩
   ·exact ⟨b,_,_,hb.symm,(aT _ _).symm,t2,hw,hr⟩
   ·exact absurd h5 (hr h0).1
  ·rcases hq with ⟨hw,hr,_⟩|⟨_,hr⟩
   ·rw[hr]at h1;exact absurd h1 (show ¬(5:Int)=1 by decide)
   ·obtain ⟨n,hn⟩:=(hr h0).2 h1;exact ⟨b,_,_,n,hb.symm,(aT _ _).symm,t2,BI,t1,hn⟩
end
end Tl
namespace Wt
open Sh Fix Tk Tl Vl
def OH:By:=[110,117,108,108]
def KE:By:=[116,114,117,101]
def GD:By:=[102,97,108,115,101]
def VR:By:=[82]
def AY (l:By):Pt:=⟨l,5,0,ba l⟩
def Ap (l:By):Pt:=⟨l,6,0,ba l⟩
def Ax (T:By)(n:Int):Pt:=⟨T,1,n,⟨#[]⟩⟩
def Oe (T:By)(n:Int):Pt:=⟨T,2,n,⟨#[]⟩⟩
def R8 (b:ByteArray):Pt:=⟨IS (bl b),3,0,b⟩
def Ds (b:ByteArray):Pt:=⟨Ci (bl b),4,0,b⟩
theorem Px {c:UInt8}(h:AW c=true):D9 c=false/\c≠37:=by
 unfold AW at h;simp only[ai,bz]at h;refine ⟨h.1,fun e=>?_⟩;subst e;exact absurd h.2 (by decide)
theorem MR {l:By}(h:l≠[]):l.getLastD 0∈l:=ax (LA h)
theorem QT {p:Pt}(ne:p.t≠[])(hr:∀c∈p.t,AW c=true)(k0:p.k≠0)
  (hw:∀(s:ByteArray) (b:Nat) (rest:By),b<=s.size->s.size<=1099511627776->(bl s).drop b=p.t++rest->(∀c,rest.head?=some c->AW c=false)->∀w,RV (s,(b:Int)) w fun r e w1=>r=p.tok (b:Int) ((b+p.t.length:Nat):Int)/\e=0/\Ext (fun _=>False) w w1):I3 p:=by
 obtain ⟨d,tl,K8⟩:∃d tl,p.t=d::tl:=by
  cases K8:p.t with
  |nil=>exact absurd K8 ne
  |cons d tl=>exact ⟨d,tl,rfl⟩
 have hd:=hr d (by rw[K8];exact aw ..);refine ⟨ne,by rw[K8];exact (Px hd).1,by rw[K8];exact (Px hd).2,k0,fun s a b rest ha hs hb h Of w=>?_⟩;have Of:=Of (.inl (hr _ (MR ne)));exact Sv ha hs hb (at_drop (j:=0) h (by rw[K8];rfl)) hd (fun v=>hw s b rest (GX ha hb) hs h Of v) w
theorem ok_int {n:Int}{T D:By}(h:Bg n T D)(h1:-2147483647<=n)(h2:n<=2147483647):I3 (Ax T n):=by
 obtain ⟨c,T',hT⟩:=h.head;exact QT (p:=Ax T n) (by show T≠[];rw[hT];simp) h.A7 (show (1:Int)≠0 by decide) fun s b rest hb hs hd hr w=>Vo h h1 h2 hd hr hb hs w
theorem oH {n:Int}{T W P:By}(h:Bz n T W P)(hn:JJ n=true):I3 (Oe T n):=by
 refine QT (p:=Oe T n) ?_ h.A7 (show (2:Int)≠0 by decide) fun s b rest hb hs hd hr w=>Su h hn hd hr hb hs w
 show T≠[];intro e;have:=aq List.length h.t;rw[e,ae,ae,au,aV]at this;omega
theorem xx {b:ByteArray}(h:b.size<=32767):I3 (R8 b):=by
 refine ⟨by simp[R8,IS],by show D9 40=false;decide,by show (40:UInt8)≠37;decide,show (3:Int)≠0 by decide,fun s a c rest ha hs hb hd Of w=>?_⟩;have:=Vp (l:=bl b) ha hs hb hd (by rw[AE];omega) w;rw[Ss]at this;exact this
theorem xy {b:ByteArray}(h:Dz b=true):b.size<=127/\0∉bl b:=by
 unfold Dz at h;simp only[ai,bq,bz,List.contains_eq_mem,cr]at h;exact h
theorem Xb {b:ByteArray}(h:Dz b=true):I3 (Ds b):=by
 obtain ⟨h1,h0⟩:=xy h;refine ⟨by simp[Ds,Ci],by show D9 47=false;decide,by show (47:UInt8)≠37;decide,show (4:Int)≠0 by decide,fun s a c rest ha hs hb hd Of w=>?_⟩;have hl:AW ((Ci (bl b)).getLastD 0)=true\/(Ci (bl b)).getLastD 0=47:=by
  have hm:=MR (l:=Ci (bl b)) (by simp[Ci]);rcases ar.1 hm with h|h
  ·exact .inr h
  ·exact .inl (Jg _ _ h)
 have:=TA (l:=bl b) ha hs hb hd (Of hl) (by rw[AE];omega) h0 w;rw[Ss]at this;exact this
theorem Py {T:By}(h:DM T=true):T≠[]/\(∀c∈T,AW c=true)/\T.length<=127:=by
 unfold DM at h;simp only[ai,bq]at h;exact ⟨h.1.1.1.1,aO.1 h.1.1.1.2,h.1.1.2⟩
theorem GY {T:By}(h:DM T=true):I3 (AY T):=
 QT (p:=AY T) (Py h).1 (Py h).2.1 (show (5:Int)≠0 by decide) fun s b rest hb hs hd hr w=>fm h hd hr hb hs w
theorem oI:I3 (AY OH):=GY (by decide+kernel)
theorem oJ:I3 (AY KE):=GY (by decide+kernel)
theorem jb:I3 (AY GD):=GY (by decide+kernel)
theorem yA:I3 (AY VR):=GY (by decide+kernel)
theorem ok_one {c:UInt8}(h:c=91\/c=93\/c=123\/c=125):I3 (Ap [c]):=
 ⟨by simp[Ap],by rcases h with rfl|rfl|rfl|rfl<;>decide,by rcases h with rfl|rfl|rfl|rfl<;>decide,show (6:Int)≠0 by decide,fun s a b rest ha hs hb hd _ w=>MN ha hs hb (at_drop (j:=0) hd rfl) h w⟩
theorem ok_two {c:UInt8}(h:c=60\/c=62):I3 (Ap [c,c]):=
 ⟨by simp[Ap],by rcases h with rfl|rfl<;>decide,by rcases h with rfl|rfl<;>decide,show (6:Int)≠0 by decide,fun s a b rest ha hs hb hd _ w=>VJ ha hs hb (at_drop (j:=0) hd rfl) (at_drop (j:=1) hd rfl) h w⟩
theorem oK:I3 (Ap [91]):=ok_one (.inl rfl)
theorem jc:I3 (Ap [93]):=ok_one (.inr (.inl rfl))
theorem AEM:I3 (Ap [60,60]):=ok_two (.inl rfl)
theorem AEN:I3 (Ap [62,62]):=ok_two (.inr rfl)
end Wt
namespace Vl
open Sh
theorem Br.t{b:Bool}{A B:Prop}(h:b=true)(h1:A):Br b A B:=by rw[h];exact h1
theorem Br.f{b:Bool}{A B:Prop}(h:b=false)(h1:B):Br b A B:=by rw[h];exact h1
theorem TM (a b:ByteArray):(a.toList==b.toList)=decide (a.data.toList=b.data.toList):=by
 rw[ByteArray.toList_eq,ByteArray.toList_eq];by_cases h:a.data.toList=b.data.toList
 ·rw[aL h];simpa using h
 ·rw[aR h];simpa using h
theorem Al (o:Ob):Aj.cells AD o=AF o:=rfl
section
variable {w w' w0 w1:World} {o:Ob} {t:Tr}
attribute [local irreducible] Ld Sh.St Nw Nn Lt AU Ae BW Am
theorem Hl (b:Bool)(e:Int)(w:World){R:World->Prop}{PR:Value->World->Prop}(h1:b=true->R w)(h2:b=false->PR (.iface 154 (.agg #[.int .i64 e])) w):AO b e w R PR:=by
 refine AJd _ _ _ _ _ ?_;unfold ACG;cases b with
 |true=>exact Br.f rfl (h1 rfl)
 |false=>exact Br.t rfl (h2 rfl)
def pw (k:Int):(Bool×Bool×Bool×Bool×Bool)×Bool:=match CV k with
 |some u=>((u.n,u.g,u.s,u.ks,u.kids),true)
 |none=>((false,false,false,false,false),false)
theorem xc (k:Int)(w:World):vM k w fun r b w1=>(r,b)=pw k/\Ext (fun _=>False) w w1:=by
 refine AJe _ _ _ ?_;unfold ACI;refine (Hn.start w).nw fun w2 H=>?_
 simp only[ad,add_lit,ak]at H⊢;by_cases h0:k=0
 ·subst h0;refine Br.t rfl ?_
  iterate 5 (refine H.st 0 rfl (by simp) fun _ H=>?_;simp only[aa,ab]at H)
  iterate 5 refine H.ld 0 rfl rfl ?_
  exact ⟨rfl,H.ext⟩
 refine Br.f (by simpa using h0) (As.intro ?_);have J2:∀b:Bool,b=decide (k=1\/k=2\/k=3)->Uz w k (fun r b w1=>(r,b)=pw k/\Ext (fun _=>False) w w1) b w2:=by
  rintro b hb;unfold Uz;simp only[add_lit,ak];by_cases h1:k=1\/k=2\/k=3
  ·rw[aL h1]at hb;subst hb;refine Br.t rfl ?_
   iterate 5 (refine H.st 0 rfl (by simp) fun _ H=>?_;simp only[aa,ab]at H)
   iterate 5 refine H.ld 0 rfl rfl ?_
   refine ⟨?_,H.ext⟩;unfold pw CV;rw[aA h0,aG h1]
  ·rw[aR h1]at hb;subst hb;refine Br.f rfl (As.intro ?_);have J1:∀b:Bool,b=decide (k=4\/k=5)->Uy w k (fun r b w1=>(r,b)=pw k/\Ext (fun _=>False) w w1) b w2:=by
    rintro b hb;unfold Uy;simp only[add_lit,ak];by_cases h4:k=4\/k=5
    ·rw[aL h4]at hb;subst hb;refine Br.t rfl ?_
     iterate 5 (refine H.st 0 rfl (by simp) fun _ H=>?_;simp only[aa,ab]at H)
     iterate 5 refine H.ld 0 rfl rfl ?_
     refine ⟨?_,H.ext⟩;unfold pw CV;rw[aA h0,aA h1,aG h4]
    ·rw[aR h4]at hb;subst hb;refine Br.f rfl ?_;refine Br.eq (fun h6=>?_) fun h6=>Br.eq (fun h7=>?_) fun h7=>Br.eq (fun h8=>?_) fun h8=>Br.eq (fun h9=>?_) fun h9=>?_
     all_goals
      iterate 5 (refine H.st 0 rfl (by simp) fun _ H=>?_;simp only[aa,ab]at H)
      iterate 5 refine H.ld 0 rfl rfl ?_
      refine ⟨?_,H.ext⟩;unfold pw CV;simp[*]
   refine Br.eq (fun h4=>J1 _ ?_) fun h4=>J1 _ ?_
   ·rw[h4];rfl
   ·rw[cl,bU,bV];omega
 refine Br.eq (fun h1=>J2 _ ?_) fun h1=>Br.eq (fun h2=>J2 _ ?_) fun h2=>J2 _ ?_
 ·rw[h1];rfl
 ·rw[h2];rfl
 ·rw[cl,bU,bV];omega
theorem XP (n a b:Int)(w:World):YU n a b w fun r w1=>r=decide (a<=n/\n<=b)/\w1=w:=by
 refine AJf _ _ _ _ _ ?_;unfold ACJ;refine Br.dec (fun h=>⟨?_,rfl⟩) fun h=>⟨?_,rfl⟩
 ·rw[cl,bV,bV];exact ⟨fun h2=>⟨h,h2⟩,fun h2=>h2.2⟩
 ·symm
  exact aR fun h2=>h h2.1
theorem xd (n a b:Int)(w:World):vN n a b w fun r w1=>r=decide (a<=n/\n<=b)/\w1=w:=by
 refine AJg _ _ _ _ _ ?_;unfold ACK;refine Br.dec (fun h=>⟨?_,rfl⟩) fun h=>⟨?_,rfl⟩
 ·rw[cl,bV,bV];exact ⟨fun h2=>⟨h,h2⟩,fun h2=>h2.2⟩
 ·symm
  exact aR fun h2=>h h2.1
theorem xe (h:OX w0 o t)(w:World):vO o w fun r w1=>r=TC t/\Ext (fun _=>False) w w1:=by
 obtain ⟨⟨hk,hn,hg,_⟩,_,_⟩:=h.out;refine AJh o _ _ ?_;unfold ACL;rw[Al];refine (Hn.start w).nw (cs:=AF o) fun w2 H=>?_
 simp only[ad,add_lit,ak]at H⊢;unfold TC;rw[<-hk,<-hn,<-hg];refine H.ld 0 rfl rfl (Br.eq (fun h1=>H.ld 0 rfl rfl ?_) fun h1=>Br.eq (fun h2=>H.ld 0 rfl rfl ?_) fun h2=>Br.eq (fun h3=>H.ld 0 rfl rfl ?_) fun h3=>Br.eq (fun h8=>H.ld 0 rfl rfl ?_) fun h8=>?_)
 ·refine (XP _ _ _ _).mono ?_;rintro r w3 ⟨rfl,rfl⟩;exact ⟨by rw[aG h1],H.ext⟩
 ·refine (XP _ _ _ _).mono ?_;rintro r w3 ⟨rfl,rfl⟩;exact ⟨by rw[aA h1,aG h2],H.ext⟩
 ·refine (XP _ _ _ _).mono ?_;rintro r w3 ⟨rfl,rfl⟩;exact ⟨by rw[aA h1,aA h2,aG h3],H.ext⟩
 ·rw[aA h1,aA h2,aA h3,aG h8];refine (XP _ _ _ _).mono ?_;rintro r w3 ⟨rfl,rfl⟩;refine Br.dec (fun h=>H.ld 0 rfl rfl ?_) fun h=>⟨by rw[aR h];rfl,H.ext⟩
  refine (xd _ _ _ _).mono ?_;rintro r w3 ⟨rfl,rfl⟩;exact ⟨by rw[aL h];rfl,H.ext⟩
 ·exact ⟨by rw[aA h1,aA h2,aA h3,aA h8],H.ext⟩
theorem nu (h:OX w0 o t)(w:World):vP o w fun r w1=>r=QP t/\Ext (fun _=>False) w w1:=by
 obtain ⟨⟨hk,hn,hg,hs⟩,_,_⟩:=h.out;refine AJi o _ _ ?_;unfold ACN;rw[Al];refine (Hn.start w).nw (cs:=AF o) fun w2 H=>?_
 simp only[ad,add_lit,ak]at H⊢;unfold QP;rw[<-hk,<-hs];have e:∀n:Nat,decide (((o.2.2.2.1.size:Nat):Int)<=(n:Int))=decide (o.2.2.2.1.size<=n):=fun n=>by
  rw[cl,bV,bV];omega
 refine H.ld 0 rfl rfl (Br.eq (fun h1=>H.ld 0 rfl rfl ⟨?_,H.ext⟩) fun h1=>Br.eq (fun h2=>H.ld 0 rfl rfl ⟨?_,H.ext⟩) fun h2=>H.ld 0 rfl rfl ⟨?_,H.ext⟩)
 ·rw[aG h1];exact e 32767
 ·rw[aA h1,aG h2];exact e 127
 ·rw[aA h1,aA h2];exact e 1048576
theorem KC (s:ByteArray)(c:UInt8)(w:World):tG s (c.toNat:Int) w fun r w1=>r=Lib.indexByte s.data.toList c/\w1=w:=
 (Tryz.strings_IndexByte s c.toNat w).mono fun e w' h=>⟨_,h.1,by rw[ay,Nat.toUInt8_eq,UInt8.ofNat_toNat],h.2⟩
theorem BT (l:List UInt8)(c:UInt8):decide (Lib.indexByte l c<0)= !l.contains c:=by
 rw[Lib.contains_iff_indexByte,cl,bV,bz,cr];omega
theorem px (s:ByteArray)(w:World):l4 s w fun r w1=>r=Dz s/\w1=w:=by
 refine AJj _ _ _ ?_;unfold ACO;unfold Dz;refine Br.dec (fun h=>(KC s 0 w).mono ?_) fun h=>⟨?_,rfl⟩
 ·rintro r w1 ⟨rfl,rfl⟩;rw[BT,aL (show s.size<=127 by omega)];exact ⟨rfl,rfl⟩
 ·rw[aR (by omega)]
  rfl
end
end Vl
namespace Vl
open Sh
theorem EZ (HW:Bool)(p:Option ByteArray)(k:ByteArray)(ks:List ByteArray)(x:Tr)(xs:List Tr):Df HW p (k::ks) (x::xs)=(Dz k&&TB p k&& !(HW&&(k.toList==(⟨#[76,101,110,103,116,104]⟩:cN).toList))&&decide (x.k≠0)&&Df HW (some k) ks xs):=rfl
theorem Eo {HW:Bool}:∀{ks:List ByteArray} {kids:List Tr} {prev:Option ByteArray},ks.length≠kids.length->Df HW prev ks kids=false
 |[],[],_,h=>absurd rfl h
 |[],_::_,_,_=>rfl
 |_::_,[],_,_=>rfl
 |k::ks,x::xs,p,h=>by
  rw[EZ,Eo (ks:=ks) (kids:=xs) (by simpa using h),Bool.and_false]
theorem Hj {α:Type}{l:List α}{i:Nat}{c:α}(h:l[i]?=some c):l.drop i=c::l.drop (i+1):=by
 obtain ⟨hi,e⟩:=al.1 h;rw[cm hi,e]
section
variable {w w' w0 w1:World} {o:Ob} {t:Tr}
attribute [local irreducible] Ld Sh.St Nw Nn Lt AU Ae BW Am
theorem KV.get{s:AA}{K:List ByteArray}(h:KV w s K){i:Nat}{b:ByteArray}(hi:K[i]?=some b){Q:ByteArray->Prop}(k:Q b):Nn s.p fun a=>Ld w (a.add (((i:Nat):Int).toNat*1)) Value.string Q:=by
 obtain ⟨a,ha,hc⟩:=h.2 i b hi;rw[ha,ay,ch];exact Nn.of (Ld.mk hc k)
theorem ns.kind{s:AA}{ts:List Tr}(h:ns w s ts){i:Nat}{t:Tr}(hi:ts[i]?=some t){Q:Int->Prop}(k:Q t.k):Nn s.p fun a=>Ld w (a.add (((i:Nat):Int).toNat*6)) (Value.int .i64) Q:=by
 obtain ⟨d,L,h1,h2⟩:=h;obtain ⟨o,ho,hR⟩:=h2.jD hi;obtain ⟨a,ha,c0,_⟩:=h1.get ho;rw[ha,ay];have hk:o.1=t.k:=by
  cases d with
  |zero=>exact hR.elim
  |succ d=>exact hR.1.1
 rw[hk]at c0;exact Nn.of (Ld.mk c0 k)
theorem OV.jG{s:AA}{L:List Ob}(h:OV w s L){i:Nat}{o:Ob}(hi:L[i]?=some o){K:AG->Prop}(k:K o):Nn s.p fun a=>Ae w (a.add (((i:Nat):Int).toNat*6)) 0 AD K:=by
 obtain ⟨a,ha,hw⟩:=h.word hi k;rw[ha,ay];exact Nn.of hw
theorem Mv (h:OX w o t):fD o w fun r w1=>r=Hk t/\Ext (fun _=>False) w w1:=by
 obtain ⟨⟨hk,hn,hg,hs⟩,hK,hO⟩:=h.out;refine AJk o _ _ ?_;unfold ACP;rw[Al];refine (Hn.start w).nw (cs:=AF o) fun w2 H=>?_
 simp only[ad,add_lit,ak]at H⊢;refine H.ld 0 rfl rfl (H.ld 0 rfl rfl ?_);have hK:=hK.AB H.ext;have hO:=hO.AB H.ext;have hl:=hK.1.2;have LD:=hK.1.1;rw[LD,hO.len];refine Br.ne (fun q=>⟨(Eo (by omega)).symm,H.ext⟩) fun q=>H.ld 0 rfl rfl ?_
 have hle:t.ks.length=t.kids.length:=by omega
 refine ⟨fun n st v=>∃(i:Nat) (p:Option ByteArray),st=(i:Int)/\i<=t.ks.length/\n=t.ks.length-i/\v=w2/\(i=0->p=none)/\(∀j,i=j+1->p=t.ks[j]?)/\Df (decide (t.k=9)) p (t.ks.drop i) (t.kids.drop i)=Hk t,t.ks.length,⟨0,none,rfl,by omega,rfl,rfl,fun _=>rfl,fun j hj=>by omega,rfl⟩,?_⟩;rintro n st v ⟨i,p,rfl,hi,rfl,rfl,VP,mV,hr⟩;unfold fE;simp only[add_lit,ak];rw[LD];refine Br.dec (fun q=>⟨by omega,by omega,?_⟩) fun q=>?_
 ·have oY:i<t.ks.length:=by omega
  have DP:=ah oY;have Qh:=ah (show i<t.kids.length by omega);generalize t.ks[i]=k at DP;generalize t.kids[i]=x at Qh;rw[Hj DP,Hj Qh,EZ]at hr;refine hK.get DP ((px k v).mono ?_);rintro r w3 ⟨rfl,rfl⟩;have i1:wrap .i64 (((i:Nat):Int)+1)=((i+1:Nat):Int):=by rw[AH (by omega)];rfl
  have im:i≠0->wrap .i64 (((i:Nat):Int)-1)=((i-1:Nat):Int):=fun h=>by rw[AH (by omega)];omega
 
  have fin:Dz k=true->TB p k=true->Br (o.1==9) (Br (k.toList==(⟨#[76,101,110,103,116,104]⟩:cN).toList) (false=Hk t/\Ext (fun _=>False) w w3) (Ld w3 ⟨w.heap.size,5,none⟩ AA.v fun (FJ:AA)=>
        0<=((i:Nat):Int)/\((i:Nat):Int)<(FJ.len:Nat)/\Nn FJ.p fun a20=>
        Ld w3 (a20.add ((((i:Nat):Int)).toNat*6)) (Value.int .i64) fun (Kt:Int)=>
        Br (Kt==0) (false=Hk t/\Ext (fun _=>False) w w3) (∃n',n'<t.ks.length-i/\∃(M1:Nat) (p:Option ByteArray),wrap .i64 (((i:Nat):Int)+1)=(M1:Int)/\M1<=t.ks.length/\n'=t.ks.length-M1/\w3=w3/\(M1=0->p=none)/\(∀j,M1=j+1->p=t.ks[j]?)/\Df (decide (t.k=9)) p (t.ks.drop M1) (t.kids.drop M1)=Hk t)))
       (Ld w3 ⟨w.heap.size,5,none⟩ AA.v fun (FJ:AA)=>
        0<=((i:Nat):Int)/\((i:Nat):Int)<(FJ.len:Nat)/\Nn FJ.p fun a20=>
        Ld w3 (a20.add ((((i:Nat):Int)).toNat*6)) (Value.int .i64) fun (Kt:Int)=>
        Br (Kt==0) (false=Hk t/\Ext (fun _=>False) w w3) (∃n',n'<t.ks.length-i/\∃(M1:Nat) (p:Option ByteArray),wrap .i64 (((i:Nat):Int)+1)=(M1:Int)/\M1<=t.ks.length/\n'=t.ks.length-M1/\w3=w3/\(M1=0->p=none)/\(∀j,M1=j+1->p=t.ks[j]?)/\Df (decide (t.k=9)) p (t.ks.drop M1) (t.kids.drop M1)=Hk t)):=by
   intro NS hp;rw[NS,hp,bW,bW]at hr;have last:(!(decide (t.k=9)&&(k.toList==(⟨#[76,101,110,103,116,104]⟩:cN).toList)))=true->(Ld w3 ⟨w.heap.size,5,none⟩ AA.v fun (FJ:AA)=>
        0<=((i:Nat):Int)/\((i:Nat):Int)<(FJ.len:Nat)/\Nn FJ.p fun a20=>
        Ld w3 (a20.add ((((i:Nat):Int)).toNat*6)) (Value.int .i64) fun (Kt:Int)=>
        Br (Kt==0) (false=Hk t/\Ext (fun _=>False) w w3) (∃n',n'<t.ks.length-i/\∃(M1:Nat) (p:Option ByteArray),wrap .i64 (((i:Nat):Int)+1)=(M1:Int)/\M1<=t.ks.length/\n'=t.ks.length-M1/\w3=w3/\(M1=0->p=none)/\(∀j,M1=j+1->p=t.ks[j]?)/\Df (decide (t.k=9)) p (t.ks.drop M1) (t.kids.drop M1)=Hk t)):=by
    intro hs;rw[hs,bW]at hr;refine H.ld 0 rfl rfl ⟨by omega,by rw[hO.len];omega,hO.kind Qh (Br.eq (fun h0=>⟨?_,H.ext⟩) fun h0=>?_)⟩
    ·rw[<-hr,aR (by omega)];rfl
    ·rw[aL h0,bW]at hr;exact ⟨t.ks.length-(i+1),by omega,i+1,some k,i1,by omega,rfl,rfl,fun h=>by omega,fun j hj=>(show i=j by omega)▸DP.symm,hr⟩
   rw[hk];refine Br.eq (fun h9=>?_) fun h9=>last (by rw[aR h9];rfl)
   cases hL:(k.toList==(⟨#[76,101,110,103,116,104]⟩:cN).toList)with
   |true=>
    refine Br.t rfl ⟨?_,H.ext⟩;rw[<-hr,hL,aL h9]
    rfl
   |false=>exact Br.f rfl (by have:=last (by rw[hL,aL h9];rfl);exact this)
  cases NS:Dz k with
  |false=>
   refine Br.t rfl ⟨?_,H.ext⟩;rw[<-hr,NS]
   rfl
  |true=>
   refine Br.f rfl ?_;cases i with
   |zero=>
    obtain rfl:=VP rfl;exact Br.f rfl (H.ld 0 rfl rfl (fin NS rfl))
   |succ i=>
    obtain rfl:=mV i rfl;have hpi:=ah (show i<t.ks.length by omega);generalize t.ks[i]=kp at hpi;rw[hpi]at hr fin;refine Br.dec (fun _=>H.ld 0 rfl rfl ?_) fun q=>absurd (by omega) q
    rw[im (by omega),Nat.add_sub_cancel,LD];refine ⟨by omega,by omega,hK.get hpi ?_⟩;cases hb:Op.bytesLess kp.toList k.toList with
    |false=>
     refine Br.t rfl ⟨?_,H.ext⟩;rw[<-hr,NS];rw[show TB (some kp) k=false from hb]
     rfl
    |true=>exact Br.f rfl (H.ld 0 rfl rfl (fin NS hb))
 ·have SE:i=t.ks.length:=by omega
  rw[bY (by omega),bY (by omega)]at hr;exact ⟨hr,H.ext⟩
def AN2 (e:Int):Value:= .iface 154 (.agg #[.int .i64 e])
def Ix (t:Tr)(deep:Int)(w:World)(v:Value)(w1:World):Prop:=CL deep t=false/\(∃e:Int,e≠0/\v=AN2 e)/\Ext (fun _=>False) w w1
theorem jH {deep:Int}(h:A3 deep t=false):CL deep t=false:=by rw[Dt,h];rfl
theorem nv:∀(d:Nat) (o:Ob) (t:Tr) (deep:Int) (w:World),FH w d o t->0<=deep->deep<=25->(∀(x:Ob) (t':Tr) (w1:World),FH w1 (d-1) x t'->t'∈t.kids->deep<=24->ye x (deep+1) w1 (fun w2=>CL (deep+1) t'=true/\Ext (fun _=>False) w1 w2) (Ix t' (deep+1) w1))->
  ye o deep w (fun w1=>CL deep t=true/\Ext (fun _=>False) w w1) (Ix t deep w):=by
 intro d o t deep w hT pn NC IH;cases d with
 |zero=>exact hT.elim
 |succ d=>
 rw[Nat.add_sub_cancel]at IH;have hX:OX w o t:=⟨d+1,hT⟩
 obtain ⟨⟨hk,hn,hg,hs⟩,hK,L,hL,hA⟩:=hT;have LD:=hK.1.1;have xf:o.2.2.2.2.2.len=t.kids.length:=by rw[hL.1,hA.len]
 refine T68 o _ _ _ _ ?_;unfold S68;rw[Al];refine (Hn.start w).nw (cs:=AF o) fun w2 H=>?_
 simp only[ad,add_lit,ak]at H⊢;have bad:∀{v:World} {e:Int},e≠0->A3 deep t=false->Ext (fun _=>False) w v->Ix t deep w (.iface 154 (.agg #[.int .i64 e])) v:=fun he hh hv=>⟨jH hh,⟨_,he,rfl⟩,hv⟩
 refine Hl _ _ _ (fun q=>?_) fun q=>bad (by decide) (by unfold A3;rw[q];rfl) H.ext
 have AN3:=cd q;refine H.ld 0 rfl rfl ((xc o.1 w2).mono ?_);rintro r6 r7 w4 ⟨hu,e4⟩;have H:=H.AB e4;rw[hk]at hu;refine H.nw (cs:=[.bool false,.bool false,.bool false,.bool false,.bool false]) fun w5 H=>?_
 simp only[ag,ad,add_lit,ak]at H⊢
 iterate 5 (refine H.st 1 rfl (by simp) fun _ H=>?_;simp only[aa,ab]at H)
 refine As.intro ?_;cases Xm:CV t.k with
 |none=>
  unfold pw at hu;rw[Xm]at hu;obtain ⟨rfl,rfl⟩:=Prod.mk.inj hu;refine Br.f rfl (Hl _ _ _ (fun q=>by cases q) fun _=>bad (by decide) (by unfold A3;rw[Xm,Bool.and_false]) H.ext)
 |some u=>
 have hh:A3 deep t=(Ck deep t u&&Ch t u):=by
  unfold A3;rw[Xm,q,bW]
 unfold pw at hu;rw[Xm]at hu;obtain ⟨rfl,rfl⟩:=Prod.mk.inj hu

 have J2:∀{v:World},Hn w v [(w.heap.size,AF o,26),(w4.heap.size,[.bool u.n,.bool u.g,.bool u.s,.bool u.ks,.bool u.kids],156)]->Ck deep t u=true->WM w deep w4 (fun w1=>CL deep t=true/\Ext (fun _=>False) w w1) (Ix t deep w) () v:=by
  intro v H Pv;rw[Pv,bW]at hh;have X:=hX.AB H.ext;unfold WM;simp only[add_lit,ak];refine H.LH (i:=0) (ts:=AD) (pre:=[]) (post:=[]) (x:=o) rfl rfl ((xe X v).mono ?_);rintro r w6 ⟨rfl,e6⟩;have H:=H.AB e6;refine Hl _ _ _ (fun q1=>?_) fun q1=>bad (by decide) (by rw[hh];unfold Ch;rw[q1];rfl) H.ext
  refine H.LH (i:=0) (ts:=AD) (pre:=[]) (post:=[]) (x:=o) rfl rfl ((nu (X.AB e6) w6).mono ?_);rintro r w7 ⟨rfl,e7⟩;have H:=H.AB e7;refine Hl _ _ _ (fun q2=>?_) fun q2=>bad (by decide) (by rw[hh];unfold Ch;rw[q1,q2];rfl) H.ext
  refine H.ld 0 rfl rfl ?_;rw[xf];refine Hl _ _ _ (fun q3=>?_) fun q3=>bad (by decide) (by rw[hh];unfold Ch;rw[q1,q2,q3];rfl) H.ext
  have hr:Ch t u=(((t.k !=5)||Dz t.s)&&(!u.ks||Hk t)):=by unfold Ch;rw[q1,q2,q3];rfl
  rw[hr]at hh;have X:=(X.AB e6).AB e7
 
  have J1:∀{v:World},Hn w v [(w.heap.size,AF o,26),(w4.heap.size,[.bool u.n,.bool u.g,.bool u.s,.bool u.ks,.bool u.kids],156)]->A3 deep t=true->Nv w deep (fun w1=>CL deep t=true/\Ext (fun _=>False) w w1) (Ix t deep w) () v:=by
   intro v H BS;unfold Nv;simp only[add_lit,ak];refine H.ld 0 rfl rfl ?_;refine ⟨fun n st v=>∃i:Nat,st=(i:Int)/\i<=t.kids.length/\n=t.kids.length-i/\Ext (fun _=>False) w v/\∀x∈t.kids.take i,CL (deep+1) x=true,t.kids.length,⟨0,rfl,by omega,rfl,H.ext,fun x hx=>by simp at hx⟩,?_⟩;rintro n st v ⟨i,rfl,hi,rfl,hE,Bl⟩;unfold o5;rw[xf];have hlen:t.kids.length<=8191:=by
    have:=cd q3;omega
   refine Br.dec (fun q=>⟨by omega,by omega,?_⟩) fun q=>?_
   ·have Qh:=ah (show i<t.kids.length by omega);have CB:t.kids[i]∈t.kids:=cJ _;generalize t.kids[i]=x at Qh CB;obtain ⟨ox,CO,hR⟩:=hA.jD Qh;refine (hL.AB hE).jG CO ?_;refine (Hn.start v).nw (cs:=[.int .i64 0,.int .i64 0,.int .i64 0,.string ⟨#[]⟩,AA.v ⟨none,0,0⟩,AA.v ⟨none,0,0⟩]) fun v2 G=>?_
    simp only[ad]at G;refine G.stT (i:=0) (ts:=AD) (pre:=[]) (post:=[]) (x:=ox) (zs:=[.int .i64 0,.int .i64 0,.int .i64 0,.string ⟨#[]⟩,AA.v ⟨none,0,0⟩,AA.v ⟨none,0,0⟩]) rfl rfl rfl fun v3 G=>?_
    simp only[aa,ad,aX]at G;refine G.LH (i:=0) (ts:=AD) (pre:=[]) (post:=[]) (x:=ox) rfl rfl ?_;rw[AH (n:=deep+1) (by omega)];refine (IH ox x v3 ((hR.AB hE).AB G.ext) CB AN3).mono ?_ ?_
    ·rintro v4 ⟨hx,e4⟩;refine ⟨t.kids.length-(i+1),by omega,i+1,by rw[AH (by omega)];rfl,by omega,rfl,(hE.tr G.ext).tr e4,fun y hy=>?_⟩;rw[bC,Qh]at hy;rcases aK.1 hy with hy|hy
     ·exact Bl y hy
     ·rw[show y=x by simpa using hy];exact hx
    ·rintro y v4 ⟨hx,he,e4⟩;refine ⟨?_,he,(hE.tr G.ext).tr e4⟩;rw[Dt,BS,bW,<-cb,IY];intro hc;rw[hc x CB]at hx;cases hx
   ·refine ⟨?_,hE⟩;rw[Dt,BS,bW,IY];rwa[show i=t.kids.length by omega,bf]at Bl
  refine As.intro ?_;have mK:∀{v:World} (b:Bool),Hn w v [(w.heap.size,AF o,26),(w4.heap.size,[.bool u.n,.bool u.g,.bool u.s,.bool u.ks,.bool u.kids],156)]->A3 deep t=b->AO b 3 v (fun vw=>Nv w deep (fun w1=>CL deep t=true/\Ext (fun _=>False) w w1) (Ix t deep w) () vw) (Ix t deep w):=by
   intro v b H hb;exact Hl _ _ _ (fun q=>J1 H (hb.trans q)) fun q=>bad (by decide) (hb.trans q) H.ext
 
  have ris:∀{v:World},Hn w v [(w.heap.size,AF o,26),(w4.heap.size,[.bool u.n,.bool u.g,.bool u.s,.bool u.ks,.bool u.kids],156)]->A3 deep t=(!u.ks||Hk t)->Ld v ⟨w4.heap.size,3,none⟩ Value.bool fun (eJ:Bool)=>
        Br (!eJ) (AO true 3 v (fun vw=>Nv w deep (fun w1=>CL deep t=true/\Ext (fun _=>False) w w1) (Ix t deep w) () vw) (Ix t deep w)) (Ae v (⟨w.heap.size,0,none⟩:Addr) 0 AD fun (eK:AG)=>
         fD eK v fun vV AD8=>
          AO vV 3 AD8 (fun vw=>Nv w deep (fun w1=>CL deep t=true/\Ext (fun _=>False) w w1) (Ix t deep w) () vw) (Ix t deep w)):=by
   intro v H hb;refine H.ld 1 rfl rfl ?_;cases hku:u.ks with
   |false=>
    rw[hku]at hb;exact Br.t rfl (mK true H hb)
   |true=>
    rw[hku]at hb;refine Br.f rfl (H.LH (i:=0) (ts:=AD) (pre:=[]) (post:=[]) (x:=o) rfl rfl ((Mv (hX.AB H.ext)).mono ?_));rintro r v2 ⟨rfl,e2⟩;exact mK _ (H.AB e2) hb
  refine H.ld 0 rfl rfl ?_;rw[hk];refine Br.ne (fun q5=>?_) fun q5=>H.ld 0 rfl rfl ((px _ w7).mono ?_)
  ·exact ris H (by rw[hh,show (t.k !=5)=true by simpa using q5];rfl)
  ·rintro r w8 ⟨rfl,rfl⟩;rw[hs];have h5:(t.k !=5)=false:=by rw[q5];rfl
   rw[h5,cM]at hh;cases hkt:Dz t.s with
   |true=>
    rw[hkt,bW]at hh;exact Br.t rfl (ris H hh)
   |false=>
    rw[hkt]at hh;exact Br.f rfl (mK false H hh)

 have leaf:∀(b:Bool) {v:World},Hn w v [(w.heap.size,AF o,26),(w4.heap.size,[.bool u.n,.bool u.g,.bool u.s,.bool u.ks,.bool u.kids],156)]->Ck deep t u=b->AO b 10 v (fun vw=>WM w deep w4 (fun w1=>CL deep t=true/\Ext (fun _=>False) w w1) (Ix t deep w) () vw) (Ix t deep w):=by
  intro b v H hb;exact Hl _ _ _ (fun q=>J2 H (hb.trans q)) fun q=>bad (by decide) (by rw[hh,hb.trans q];rfl) H.ext
 clear J2 bad;refine Br.t rfl ?_;have E:Ck deep t u=((u.n||(o.2.1==0))&&(u.g||(o.2.2.1==0))&&(u.s||(o.2.2.2.1.toList==(⟨#[]⟩:cN).toList))&&(u.ks||(((o.2.2.2.2.1.len:Nat):Int)==0))&&(u.kids||(((o.2.2.2.2.2.len:Nat):Int)==0))&&((deep==1)||(o.1 !=9))):=by
  rw[hn,hg,hs,hk,LD,xf]
  rfl
 replace H:Hn w _ [(w.heap.size,AF o,26),(w4.heap.size,[.bool u.n,.bool u.g,.bool u.s,.bool u.ks,.bool u.kids],156)]:=H
 clear hn hg hs hk LD xf hh Xm hX hL hA hK IH
 repeat' first
  |refine leaf _ H ?_
  |refine H.ld 1 rfl rfl ?_
  |refine H.ld 0 rfl rfl ?_
  |refine Bj (fun _=>?_) fun _=>?_
 all_goals (rw[E];simp only[*,Bool.or_true,Bool.true_or,cM,Bool.or_false,Bool.and_true,bW,Bool.and_false,Bool.false_and])
theorem TE:∀(d:Nat) (o:Ob) (t:Tr) (deep:Int) (w:World),FH w d o t->0<=deep->deep<=25->ye o deep w (fun w1=>CL deep t=true/\Ext (fun _=>False) w w1) (Ix t deep w)
 |0,_,_,_,_,h,_,_=>h.elim
 |d+1,o,t,deep,w,h,h0,h1=>nv (d+1) o t deep w h h0 h1 fun x t' w1 hx _ hd=>TE d x t' (deep+1) w1 hx (by omega) (by omega)
theorem Ko (h:OX w o t):yN o w (fun r w1=>(CL 1 t=true/\r=0\/CL 1 t=false/\r≠0)/\Ext (fun _=>False) w w1) fun _ _=>False:=by
 obtain ⟨d,hT⟩:=h;refine T39 o _ _ _ ?_;unfold S39;rw[Al];refine (Hn.start w).nw (cs:=AF o) fun w2 H=>?_
 simp only[ad]at H;refine l6 _ _ _ ?_;unfold Pe;refine H.nw (cs:=[.int .i64 0]) fun w3 H=>?_
 simp only[ag,ad]at H;refine T67 _ _ _ _ ?_;unfold S67;refine H.LH (i:=0) (ts:=AD) (pre:=[]) (post:=[]) (x:=o) rfl rfl ((TE d o t 1 w3 (hT.AB H.ext) (by decide) (by decide)).mono ?_ ?_)
 ·rintro w4 ⟨BS,e4⟩;have H:=H.AB e4;refine H.st 1 rfl (by simp) fun w5 H=>?_
  simp only[aa,ab]at H;refine fI _ _ _ ?_;unfold MD;exact H.ld 1 rfl rfl ⟨.inl ⟨BS,rfl⟩,H.ext⟩
 ·rintro v w4 ⟨BS,⟨e,he,rfl⟩,e4⟩;have H:=H.AB e4;unfold Rj;refine YW _ _ _ _ ?_;unfold JY;refine H.nw (cs:=[.int .i64 0]) fun w5 H=>?_
  simp only[ag,ad,add_lit,ak]at H⊢;refine H.st 2 rfl (by simp) fun w6 H=>?_
  simp only[aa,ab]at H;refine H.ld 2 rfl rfl (H.st 1 rfl (by simp) fun w7 H=>?_);simp only[aa,ab]at H;exact H.ld 1 rfl rfl ⟨.inr ⟨BS,he⟩,H.ext⟩
end
end Vl
end Go.Proofs.YtdnhhkhbdfiagaaGreatDoor

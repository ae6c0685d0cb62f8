/- Joined texts of the proof; conditions stand in each theorem. -/
import Derived.Test.YtmaekpnpnjndoaaGreatDoorQYQSta1
import Derived.IntWalk
import Derived.Below
import Derived.Laws.AppendOwn
import Derived.Laws.OwnMore
import Derived.Laws.BytesString
import Derived.Laws.BytesArg
import Derived.Lib.Fields
import Derived.Laws.MakeOwn
import Derived.Test.YtmaekpnpnjndoaaGreatDoorChecked
import Derived.OpenShut
import Derived.ChangeArms
import Derived.WideShapes
set_option linter.unusedVariables false
set_option linter.unusedSimpArgs false
open Go.IntKind (wrap)
open Go.Proofs.Tryz (prog)
namespace Go.Proofs.YtmaekpnpnjndoaaGreatDoor
namespace Sh
@[simp] theorem ADo (A B : Prop) : Br true A B = A := rfl
@[simp] theorem AAV (A B : Prop) : Br false A B = B := rfl
theorem BD {b:Bool}{A B:Prop}(h1:b=true->A)(h2:b=false->B):Br b A B:=by cases b;exact h2 rfl;exact h1 rfl
theorem As.intro{σ:Type}{body:σ->World->Prop}{front:(σ->World->Prop)->Prop}(h:front body):As body front:=⟨body,fun _ _ h=>h,h⟩
theorem Lp.mk{σ:Type}{B:(σ->World->Prop)->σ->World->Prop}{s0:σ}{w0:World}(I:σ->World->Prop)(μ:σ->World->Nat)(h0:I s0 w0)
  (h:∀s w,I s w->B (fun s' w'=>I s' w'/\μ s' w'<μ s w) s w) (hm:∀(X Y:σ->World->Prop) s w,(∀s w,X s w->Y s w)->B X s w->B Y s w):Lp B s0 w0:=
 ⟨fun n s w=>I s w/\μ s w=n,_,⟨h0,rfl⟩,fun n s w ⟨hI,hn⟩=>hm _ _ s w (fun s' w' ⟨h1,h2⟩=>⟨μ s' w',hn▸h2,h1,rfl⟩) (h s w hI)⟩
@[simp] theorem add_lit (b o n : Nat) : (⟨b,o,none⟩ : Addr).add n = ⟨b,o + n,none⟩ := by
 unfold Addr.add;split
 ·rename_i h;subst h;rfl
 ·rfl
def AO (w:World)(b:Nat)(cs:Array Value)(t:TypeId):Prop:=w.heap[b]?=some (.cells cs t (0,0))
theorem AO.cell{w:World}{b:Nat}{cs:Array Value}{t:TypeId}(h:AO w b cs t)(o:Nat):w.cell? ⟨b,o,none⟩=cs[o]?:=by
 unfold AO at h;simp[World.cell?,h]
theorem AO.frozen{w:World}{b:Nat}{cs:Array Value}{t:TypeId}(h:AO w b cs t)(o:Nat):w.frozen? ⟨b,o,none⟩=false:=by
 unfold AO at h;simp[World.frozen?,h]
theorem AO.can{w:World}{b:Nat}{cs:Array Value}{t:TypeId}(h:AO w b cs t){o:Nat}(ho:o<cs.size):Q6 w ⟨b,o,none⟩:=
 ⟨⟨cs[o],by rw[h.cell,bQ ho]⟩,h.frozen o⟩
theorem AO.lt{w:World}{b:Nat}{cs:Array Value}{t:TypeId}(h:AO w b cs t):b<w.heap.size:=(au.1 h).1
theorem AO.set{w:World}{b:Nat}{cs:Array Value}{t:TypeId}(h:AO w b cs t)(o:Nat)(v:Value):AO (w.setCell ⟨b,o,none⟩ v) b (cs.setIfInBounds o v) t:=by
 unfold AO at h⊢;simp[World.setCell,Array.getElem?_modify,h]
theorem AO.yD{w:World}{b c:Nat}{cs:Array Value}{t:TypeId}(h:AO w b cs t){o:Nat}{v:Value}(Bg:b≠c):AO (w.setCell ⟨c,o,none⟩ v) b cs t:=by
 unfold AO at h⊢;simp only[World.setCell,Array.getElem?_modify];rw[az (fun e=>Bg e.symm)];exact h
theorem AO.alloc{w:World}{b:Nat}{cs:Array Value}{t:TypeId}(h:AO w b cs t)(o:Obj):AO (w.alloc o) b cs t:=by
 have:=h.lt;unfold AO at h⊢;rw[Go.RowKit.Below.heap_alloc w o b this];exact h
theorem AO.new(w:World)(cs:Array Value)(t:TypeId):AO (w.alloc (.cells cs t)) w.heap.size cs t:=by
 unfold AO;show (w.heap.push _)[w.heap.size]?=_;simp
@[simp] theorem oz (w : World) (o : Obj) : (w.alloc o).heap.size = w.heap.size + 1 := by show (w.heap.push o).size = _; rw [Array.size_push]
@[simp] theorem xN (w : World) (a : Addr) (v : Value) : (w.setCell a v).heap.size = w.heap.size := by simp [World.setCell]
@[simp] theorem U2 (w : World) : w.drew.heap.size = w.heap.size := rfl
@[simp] theorem o7 (w : World) (n : Nat) : (w.drewN n).heap.size = w.heap.size := rfl
structure Ext (F:Nat->Prop) (w w':World):Prop where
 os:w'.os=w.os
 tape:w'.tape=w.tape
 output:w'.output=w.output
 size:w.heap.size<=w'.heap.size
 block:∀k,k<w.heap.size->¬F k->w'.heap[k]?=w.heap[k]?
theorem Ext.refl(F:Nat->Prop)(w:World):Ext F w w:=⟨rfl,rfl,rfl,aB _,fun _ _ _=>rfl⟩
theorem Ext.trans{F G H:Nat->Prop}{a b c:World}(h:Ext F a b)(k:Ext G b c)(hF:∀i,F i->H i)(hG:∀i,i<a.heap.size->G i->H i):Ext H a c:=
 ⟨k.os.trans h.os,k.tape.trans h.tape,k.output.trans h.output,bC h.size k.size,fun i hi hn=>
  (k.block i (Nat.lt_of_lt_of_le hi h.size) fun g=>hn (hG i hi g)).trans (h.block i hi fun f=>hn (hF i f))⟩
theorem Ext.tr{F:Nat->Prop}{a b c:World}(h:Ext F a b)(k:Ext F b c):Ext F a c:=h.trans k (fun _ h=>h) (fun _ _ h=>h)
theorem Ext.mono{F G:Nat->Prop}{a b:World}(h:Ext F a b)(hF:∀i,i<a.heap.size->F i->G i):Ext G a b:=
 ⟨h.os,h.tape,h.output,h.size,fun i hi hn=>h.block i hi fun f=>hn (hF i hi f)⟩
theorem Ext.drew{F:Nat->Prop}{a w:World}(h:Ext F a w):Ext F a w.drew:=⟨h.os,h.tape,h.output,h.size,h.block⟩
theorem Ext.drewN{F:Nat->Prop}{a w:World}(h:Ext F a w)(n:Nat):Ext F a (w.drewN n):=⟨h.os,h.tape,h.output,h.size,h.block⟩
theorem Ext.alloc{F:Nat->Prop}{a w:World}(h:Ext F a w)(o:Obj):Ext F a (w.alloc o):=
 ⟨h.os,h.tape,h.output,by have:=h.size;simp;omega,fun i hi hn=>by
  rw[Go.RowKit.Below.heap_alloc w o i (by have:=h.size;omega)];exact h.block i hi hn⟩
theorem Ext.set{F:Nat->Prop}{a w:World}(h:Ext F a w){b o:Nat}(hb:F b\/a.heap.size<=b)(v:Value):Ext F a (w.setCell ⟨b,o,none⟩ v):=
 ⟨h.os,h.tape,h.output,by simpa using h.size,fun i hi hn=>by
  rw[Go.RowKit.Below.heap_setCell _ _ _ _ (fun e=>by
   simp only at e;subst e;rcases hb with hb|hb
   ·exact hn hb
   ·omega)]
  exact h.block i hi hn⟩
theorem Ext.AR{F:Nat->Prop}{a w:World}(h:Ext F a w){b:Nat}{cs:Array Value}{t:TypeId}(hb:AO a b cs t)(hn:¬F b):AO w b cs t:=by
 unfold AO at hb⊢;rw[h.block b (au.1 hb).1 hn];exact hb
theorem Ext.below{w w':World}(h:Ext (fun _=>False) w w'):Go.RowKit.Below w.heap.size w w':=
 ⟨h.os,h.tape,h.output,h.size,fun k hk=>h.block k hk id⟩
theorem Ext.grown{F:Nat->Prop}{a w w':World}{row:Option Nat}(h:Ext F a w)(g:w.grownBy w' row)(hr:∀k,row=some k->F k\/a.heap.size<=k):Ext F a w':=
 ⟨g.os.trans h.os,g.tape.trans h.tape,g.output.trans h.output,bC h.size g.size,fun i hi hn=>by
  rw[g.block i (by have:=h.size;omega) (fun e=>by
   rcases hr i e.symm with h1|h1
   ·exact hn h1
   ·omega)]
  exact h.block i hi hn⟩
theorem Ext.cell{F:Nat->Prop}{a w:World}(h:Ext F a w){p:Addr}(hp:p.block<a.heap.size)(hn:¬F p.block):w.cell? p=a.cell? p:=World.cell?_of_block (w:=a) (h.block p.block hp hn)
theorem Cs {w:World}{a:Addr}{v:Value}(h:w.cell? a=some v):a.block<w.heap.size:=by
 unfold World.cell? at h;rcases cn a.block w.heap.size with h'|h'
 ·exact h'
 ·rw[bJ h']at h;cases h
theorem Ext.B8{a w:World}(h:Ext (fun _=>False) a w){p:Addr}{v:Value}(hc:a.cell? p=some v):w.cell? p=some v:=by
 rw[h.cell (Cs hc) id];exact hc
structure Hx (w0:World) (F:Nat->Prop) (w:World) (L:List (Nat×Array Value×TypeId)):Prop where
 AR:∀p∈L,AO w p.1 p.2.1 p.2.2
 nodup:(L.map (·.1)).Nodup
 ext:Ext F w0 w
section
variable {w0 w:World} {F:Nat->Prop} {L:List (Nat×Array Value×TypeId)} {b o:Nat} {cs:Array Value} {t:TypeId}
theorem Hx.get(h:Hx w0 F w L)(i:Nat)(hi:L[i]?=some (b,cs,t)):AO w b cs t:=h.AR (b,cs,t) (aA hi)
theorem Nn.of{a:Addr}{K:Addr->Prop}(h:K a):Nn (some a) K:=⟨a,rfl,h⟩
theorem Ld.mk{α:Type}{V:α->Value}{K:α->Prop}{x:α}{a:Addr}(h:w.cell? a=some (V x))(k:K x):Ld w a V K:=⟨x,h,k⟩
theorem Nw.of{o':Obj}{K:World->Prop}(h:K (w.alloc o')):Nw w o' K:=h
theorem Lt.of{α:Type}{e:α}{K:α->Prop}(h:K e):Lt e K:=h
theorem Ld.of{α:Type}{V:α->Value}{K:α->Prop}{x:α}(h:AO w b cs t)(hx:cs[o]?=some (V x))(hk:K x):Ld w ⟨b,o,none⟩ V K:=⟨x,by rw[h.cell];exact hx,hk⟩
theorem Hx.ld{α:Type}{V:α->Value}{K:α->Prop}{x:α}(h:Hx w0 F w L)(i:Nat)(hi:L[i]?=some (b,cs,t))(hx:cs[o]?=some (V x))(hk:K x):Ld w ⟨b,o,none⟩ V K:=
 Ld.of (h.get i hi) hx hk
theorem AP.of{α:Type}{S:World->Prop}{V:α->Value}{K:α->Prop}{x:α}(h:∀w,S w->AO w b cs t)(hx:cs[o]?=some (V x))(hk:K x):AP S ⟨b,o,none⟩ V K:=
 ⟨x,fun w hw=>by rw[(h w hw).cell];exact hx,hk⟩
theorem Yc {l:List Nat}(h:l.Nodup){i j x:Nat}(hi:l[i]?=some x)(hj:l[j]?=some x):i=j:=by
 obtain ⟨h1,e1⟩:=ao.1 hi;obtain ⟨h2,e2⟩:=ao.1 hj;exact (List.getElem_inj h).1 (e1.trans e2.symm)
theorem Ro {v:Array Value×TypeId}{i:Nat}{c:Array Value×TypeId}(hi:L[i]?=some (b,c)):(L.set i (b,v)).map (·.1)=L.map (·.1):=by
 rw[List.map_set];refine List.ext_getElem? fun j=>?_
 rw[List.getElem?_set];split
 ·rename_i e;subst e;have:(L.map (·.1))[i]?=some b:=by simp[hi]
  rw[this];simp;exact (ao.1 hi).1
 ·rfl
theorem Hx.MN(h:Hx w0 F w L)(i:Nat)(hi:L[i]?=some (b,cs,t)){w2:World}{Bq:Array Value}(hb:AO w2 b Bq t)(he:Ext (·=b) w w2)(hF:F b\/w0.heap.size<=b):Hx w0 F w2 (L.set i (b,Bq,t)):=by
 refine ⟨fun p hp=>?_,by rw[Ro hi];exact h.nodup,h.ext.trans he (fun _ h=>h) fun k hk e=>?_⟩
 ·obtain ⟨j,hj⟩:=bP hp;rw[List.getElem?_set]at hj;split at hj
  ·split at hj
   ·cases hj;exact hb
   ·cases hj
  ·rename_i Bg;refine he.AR (h.AR p (aA hj)) fun e=>Bg ?_
   exact Yc h.nodup (x:=b) (by simp[hi]) (by simp[hj,e])
 ·subst e;rcases hF with hF|hF
  ·exact hF
  ·omega
theorem Hx.st{v:Value}{K:World->Prop}(h:Hx w0 F w L)(i:Nat)(hi:L[i]?=some (b,cs,t))(ho:o<cs.size)(hF:F b\/w0.heap.size<=b)
  (k:∀w2,Hx w0 F w2 (L.set i (b,cs.setIfInBounds o v,t))->K w2):St w ⟨b,o,none⟩ v K:=
 ⟨(h.get i hi).can ho,k _ (h.MN i hi ((h.get i hi).set o v) ((Ext.refl (·=b) w).set (.inl rfl) v) hF)⟩
theorem Hx.AB(h:Hx w0 F w L){w2:World}(he:Ext (fun _=>False) w w2):Hx w0 F w2 L:=
 ⟨fun p hp=>he.AR (h.AR p hp) id,h.nodup,h.ext.trans he (fun _ h=>h) (fun _ _ h=>h.elim)⟩
theorem Hx.drew(h:Hx w0 F w L):Hx w0 F w.drew L:=h.AB (Ext.refl _ w).drew
theorem Hx.push(h:Hx w0 F w L)(hb:AO w b cs t)(Bg:b∉L.map (·.1)):Hx w0 F w (L++[(b,cs,t)]):=
 ⟨fun p hp=>(aS.1 hp).elim (h.AR p) fun e=>by rw[av.1 e];exact hb,
  by rw[bd];exact cC.2 ⟨h.nodup,by simp,fun a ha c hc e=>Bg (by simp at hc;rw[<-hc,<-e];exact ha)⟩,h.ext⟩
theorem Hx.fresh(h:Hx w0 F w L):w.heap.size∉L.map (·.1):=fun hm=>by
 obtain ⟨p,hp,e⟩:=cl.1 hm;have:=(h.AR p hp).lt;omega
theorem Hx.nw{K:World->Prop}(h:Hx w0 F w L)(k:∀w2,Hx w0 F w2 (L++[(w.heap.size,cs,t)])->K w2):Nw w (.cells cs t) K:=
 k _ ((h.AB ((Ext.refl _ w).alloc _)).push (AO.new w cs t) h.fresh)
theorem Hx.B5{K:World->Prop}(h:Hx w0 F w L)(k:∀w2,Hx w0 F w2 (L++[(w.heap.size,cs,t)])->Ext (fun _=>False) w w2->K w2):Nw w (.cells cs t) K:=
 k _ ((h.AB ((Ext.refl _ w).alloc _)).push (AO.new w cs t) h.fresh) ((Ext.refl _ w).alloc _)
theorem Hx.BZ{v:Value}{K:World->Prop}(h:Hx w0 F w L)(i:Nat)(hi:L[i]?=some (b,cs,t))(ho:o<cs.size)(hF:F b\/w0.heap.size<=b)
  (k:∀w2,Hx w0 F w2 (L.set i (b,cs.setIfInBounds o v,t))->Ext (·=b) w w2->K w2):St w ⟨b,o,none⟩ v K:=
 ⟨(h.get i hi).can ho,k _ (h.MN i hi ((h.get i hi).set o v) ((Ext.refl (·=b) w).set (.inl rfl) v) hF) ((Ext.refl (·=b) w).set (.inl rfl) v)⟩
theorem Hx.only(h:Hx w0 F w L)(i:Nat)(hi:L[i]?=some (b,cs,t)):Hx w0 F w [(b,cs,t)]:=
 ⟨fun p hp=>by rw[av.1 hp];exact h.get i hi,by simp,h.ext⟩
theorem Hx.left{M:List (Nat×Array Value×TypeId)}(h:Hx w0 F w (L++M)):Hx w0 F w L:=
 ⟨fun p hp=>h.AR p (List.mem_append_left _ hp),by have:=h.nodup;rw[bd]at this;exact (cC.1 this).1,h.ext⟩
theorem Hx.other{G:Nat->Prop}{w2:World}(h:Hx w0 F w L)(he:Ext G w w2)(hL:∀j,G j->j∉L.map (·.1))(hF:∀j,G j->F j\/w0.heap.size<=j):Hx w0 F w2 L:=
 ⟨fun p hp=>he.AR (h.AR p hp) fun hg=>hL _ hg (b6 hp),h.nodup,h.ext.trans he (fun _ h=>h) fun k hk hg=>(hF k hg).elim id fun h2=>by omega⟩
theorem Hx.size(h:Hx w0 F w L):w0.heap.size<=w.heap.size:=h.ext.size
theorem Hx.start(w:World)(F:Nat->Prop):Hx w F w []:=⟨fun _ h=>(aG h).elim,List.nodup_nil,Ext.refl _ _⟩
theorem Hx.one(h:AO w b cs t):Hx w F w [(b,cs,t)]:=⟨fun p hp=>by rw[av.1 hp];exact h,by simp,Ext.refl _ _⟩
theorem Hx.here(h:Hx w0 F w L)(G:Nat->Prop):Hx w G w L:=⟨h.AR,h.nodup,Ext.refl _ _⟩
end
def arr (L:List (Nat×List Value×TypeId)):List (Nat×Array Value×TypeId):=L.map fun p=>(p.1,p.2.1.toArray,p.2.2)
structure Hn (w0 w:World) (L:List (Nat×List Value×TypeId)):Prop where
 h:Hx w0 (fun _=>False) w (arr L)
 new:∀p∈L,w0.heap.size<=p.1
section
variable {w0 w:World} {L:List (Nat×List Value×TypeId)} {b o:Nat} {cs:List Value} {t:TypeId}
theorem Px {i:Nat}(hi:L[i]?=some (b,cs,t)):(arr L)[i]?=some (b,cs.toArray,t):=by
 unfold arr;rw[aR,hi]
 rfl
theorem lT:(arr L).map (·.1)=L.map (·.1):=by
 unfold arr;rw[List.map_map]
 rfl
theorem Hn.start(w:World):Hn w w []:=⟨Hx.start w _,fun _ h=>(aG h).elim⟩
theorem Hn.ext(h:Hn w0 w L):Ext (fun _=>False) w0 w:=h.h.ext
theorem Hn.size(h:Hn w0 w L):w0.heap.size<=w.heap.size:=h.h.ext.size
theorem Hn.get(h:Hn w0 w L)(i:Nat)(hi:L[i]?=some (b,cs,t)):AO w b cs.toArray t:=h.h.get i (Px hi)
theorem Hn.lt(h:Hn w0 w L)(i:Nat)(hi:L[i]?=some (b,cs,t)):b<w.heap.size:=(h.get i hi).lt
theorem Hn.ge(h:Hn w0 w L)(i:Nat)(hi:L[i]?=some (b,cs,t)):w0.heap.size<=b:=h.new _ (aA hi)
theorem Hn.tW(h:Hn w0 w L){j:Nat}(hj:j∈L.map (·.1)):j<w.heap.size:=by
 obtain ⟨p,hp,e⟩:=cl.1 hj;obtain ⟨i,hi⟩:=bP hp;have:=h.lt i (b:=p.1) (cs:=p.2.1) (t:=p.2.2) hi;omega
theorem Hn.ld{α:Type}{V:α->Value}{K:α->Prop}{x:α}(h:Hn w0 w L)(i:Nat)(hi:L[i]?=some (b,cs,t))(hx:cs[o]?=some (V x))(hk:K x):Ld w ⟨b,o,none⟩ V K:=
 h.h.ld i (Px hi) (by simpa using hx) hk
theorem Hn.set(h:Hn w0 w L){w2:World}{Bq:List Value}(i:Nat)(hi:L[i]?=some (b,cs,t))(h2:Hx w0 (fun _=>False) w2 ((arr L).set i (b,Bq.toArray,t))):Hn w0 w2 (L.set i (b,Bq,t)):=
 ⟨by unfold arr at h2⊢;rw[List.map_set];exact h2,fun p hp=>by
  rcases List.mem_or_eq_of_mem_set hp with hp|rfl
  ·exact h.new p hp
  ·exact h.ge i hi⟩
theorem Hn.BZ{v:Value}{K:World->Prop}(h:Hn w0 w L)(i:Nat)(hi:L[i]?=some (b,cs,t))(ho:o<cs.length)
  (k:∀w2,Hn w0 w2 (L.set i (b,cs.set o v,t))->Ext (·=b) w w2->K w2):St w ⟨b,o,none⟩ v K:=
 h.h.BZ i (Px hi) (by simpa using ho) (.inr (h.ge i hi)) fun w2 h2 he=>k w2 (h.set i hi (by simpa using h2)) he
theorem Hn.st{v:Value}{K:World->Prop}(h:Hn w0 w L)(i:Nat)(hi:L[i]?=some (b,cs,t))(ho:o<cs.length)
  (k:∀w2,Hn w0 w2 (L.set i (b,cs.set o v,t))->K w2):St w ⟨b,o,none⟩ v K:=h.BZ i hi ho fun w2 h2 _=>k w2 h2
theorem Hn.AB(h:Hn w0 w L){w2:World}(he:Ext (fun _=>False) w w2):Hn w0 w2 L:=⟨h.h.AB he,h.new⟩
theorem Hn.drew(h:Hn w0 w L):Hn w0 w.drew L:=⟨h.h.drew,h.new⟩
theorem Hn.B5{K:World->Prop}(h:Hn w0 w L)(k:∀w2,Hn w0 w2 (L++[(w.heap.size,cs,t)])->Ext (fun _=>False) w w2->K w2):Nw w (.cells cs.toArray t) K:=
 h.h.B5 fun w2 h2 he=>k w2 ⟨by unfold arr at h2⊢;rw[bd];exact h2,fun p hp=>(aS.1 hp).elim (h.new p) fun hp=>by rw[av.1 hp];exact h.size⟩ he
theorem Hn.nw{K:World->Prop}(h:Hn w0 w L)(k:∀w2,Hn w0 w2 (L++[(w.heap.size,cs,t)])->K w2):Nw w (.cells cs.toArray t) K:=h.B5 fun w2 h2 _=>k w2 h2
theorem Hn.other{G:Nat->Prop}{w2:World}(h:Hn w0 w L)(he:Ext G w w2)(hG:∀j,G j->w0.heap.size<=j/\j∉L.map (·.1)):Hn w0 w2 L:=
 ⟨h.h.other he (fun j hj=>by rw[lT];exact (hG j hj).2) fun j hj=> .inr (hG j hj).1,h.new⟩
end
theorem AG {n:Int}(h:-9223372036854775808<=n/\n<=9223372036854775807):wrap .i64 n=n:=IntWalk.i64_in n h
theorem G0 {n:Int}(h:0<=n/\n<=255):wrap .u8 n=n:=IntWalk.u8_in n h
theorem PC {a b:Int}(h:0<=a):Int.tdiv a b=a/b:=cx h
theorem PE {a b:Int}(h:0<=a):Int.tmod a b=a%b:=cz h
theorem Br.dec{p:Prop}[Decidable p]{A B:Prop}(h1:p->A)(h2:¬p->B):Br (decide p) A B:=by
 by_cases h:p
 ·rw[aI h];exact h1 h
 ·rw[aH h];exact h2 h
theorem Br.eq{α:Type}[BEq α][LawfulBEq α]{a b:α}{A B:Prop}(h1:a=b->A)(h2:a≠b->B):Br (a==b) A B:=
 BD (fun h=>h1 (by simpa using h)) fun h=>h2 (by simpa using h)
theorem Br.ne{α:Type}[BEq α][LawfulBEq α]{a b:α}{A B:Prop}(h1:a≠b->A)(h2:a=b->B):Br (a !=b) A B:=
 BD (fun h=>h1 (by simpa using h)) fun h=>h2 (by simpa using h)
theorem Yd (s:ByteArray):s.size=s.data.toList.length:=bL.symm
theorem tX {s t:ByteArray}(h:s.data.toList=t.data.toList):s=t:=by
 cases s;cases t;simp only[ByteArray.mk.injEq];exact Array.toList_inj.1 h
@[simp] theorem AA.AQS (a b : AA) : AA.v a = AA.v b ↔ a = b := by
 cases a;cases b;simp[AA.v]
end Sh
namespace Bit
open Sh
def byt (s:ByteArray)(i:Nat):Int:=((s.data.getD i 0).toNat:Int)
def bt (s:ByteArray)(qV:Int)(p:Nat):Int:=if qV=1 then byt s (p/8)/2^(p%8)%2 else byt s (p/8)/2^(7-p%8)%2
def tk (s:ByteArray)(qV:Int)(p:Nat):Nat->Int
 |0=>0
 |i+1=>if qV=1 then tk s qV p i+bt s qV (p+i)*2^i else 2*tk s qV p i+bt s qV (p+i)
theorem OE (n x:Nat):BitVec.ofInt n (x:Int)=BitVec.ofNat n x:=by
 apply BitVec.eq_of_toNat_eq;simp
end Bit
namespace LB
open Sh Go.Lib
abbrev By:=List UInt8
def rows:List (By×By×List By):=[
 ([],[98,32,66,32,98,42,32,66,42,32,66,84,32,69,84,32,69,77,67,32,66,88,32,69,88,32,102,32,70,32,102,42,32,104,32,110,32,113,32,81,32,115,32,83,32,84,42,32,87,32,87,42],[[98],[66],[98,42],[66,42],[66,84],[69,84],[69,77,67],[66,88],[69,88],[102],[70],[102,42],[104],[110],[113],[81],[115],[83],[84,42],[87],[87,42]]),
 ([110],[103,32,71,32,105,32,106,32,74,32,77,32,119,32,84,99,32,84,76,32,84,114,32,84,115,32,84,119,32,84,122],[[103],[71],[105],[106],[74],[77],[119],[84,99],[84,76],[84,114],[84,115],[84,119],[84,122]]),
 ([110,110],[100,48,32,108,32,109,32,84,100,32,84,68],[[100,48],[108],[109],[84,100],[84,68]]),
 ([110,110,110],[114,103,32,82,71],[[114,103],[82,71]]),
 ([110,110,110,110],[107,32,75,32,114,101,32,118,32,121],[[107],[75],[114,101],[118],[121]]),
 ([110,110,110,110,110,110],[99,32,99,109,32,100,49,32,84,109],[[99],[99,109],[100,49],[84,109]]),
 ([78],[66,77,67,32,99,115,32,67,83,32,68,111,32,103,115,32,77,80,32,114,105,32,115,104],[[66,77,67],[99,115],[67,83],[68,111],[103,115],[77,80],[114,105],[115,104]]),
 ([78,110],[84,102],[[84,102]]),
 ([78,42],[66,68,67,32,68,80],[[66,68,67],[68,80]]),
 ([115],[84,106,32,39],[[84,106],[39]]),
 ([110,110,115],[34],[[34]]),
 ([97],[84,74],[[84,74]]),
 ([97,110],[100],[[100]]),
 ([100],[66,73],[[66,73]])]
def ET (name:By):List (By×By×List By)->By
 |[]=>[63]
 |r::rs=>if name∈r.2.2 then r.1 else ET name rs
def CW (name:By):By:=ET name rows
def QK (s:By):Option (List By):=if s.all (fun b=>decide (b.toNat<128))then some (Lib.fields s)else none
theorem mD:(rows.all fun r=>decide (QK r.2.1=some r.2.2))=true:=by decide+kernel
end LB
namespace Sh
def Row (w:World)(s:AA)(e:TypeId)(k:Nat)(xs:List Value):Prop:=
 xs.length=s.len*k/\(s=⟨none,0,0⟩\/∃g cur,s.p=some ⟨g,0,none⟩/\AO w g cur e/\s.len<=s.cap/\cur.size=s.cap*k/\cur.toList.take (s.len*k)=xs)
def AA.own(s:AA)(j:Nat):Prop:=∃a,s.p=some a/\a.block=j
theorem Row.nil(w:World)(e:TypeId)(k:Nat):Row w ⟨none,0,0⟩ e k []:=⟨by simp,.inl rfl⟩
theorem Row.own_lt{w:World}{s:AA}{e:TypeId}{k:Nat}{xs:List Value}(h:Row w s e k xs){j:Nat}(hj:s.own j):j<w.heap.size:=by
 obtain ⟨a,ha,rfl⟩:=hj;rcases h.2 with rfl|⟨g,cur,hp,hb,_⟩
 ·cases ha
 ·rw[hp]at ha;cases ha;exact hb.lt
theorem Row.AB{F:Nat->Prop}{w w':World}{s:AA}{e:TypeId}{k:Nat}{xs:List Value}(h:Row w s e k xs)(he:Ext F w w')(hn:∀j,s.own j->¬F j):Row w' s e k xs:=by
 refine ⟨h.1,?_⟩;rcases h.2 with h2|⟨g,cur,hp,hb,r⟩
 ·exact .inl h2
 ·exact .inr ⟨g,cur,hp,he.AR hb (hn g ⟨_,hp,rfl⟩),r⟩
theorem Row.new(w:World)(cs:Array Value)(e:TypeId)(k n:Nat)(h:cs.size=n*k):Row (w.alloc (.cells cs e)) ⟨some ⟨w.heap.size,0,none⟩,n,n⟩ e k cs.toList:=
 ⟨by simpa using h,.inr ⟨_,cs,rfl,AO.new w cs e,aB _,h,bz (by simp[h])⟩⟩
theorem Row.cell{w:World}{s:AA}{e:TypeId}{k:Nat}{xs:List Value}(h:Row w s e k xs){j:Nat}{v:Value}(hj:xs[j]?=some v):∃g,s.p=some ⟨g,0,none⟩/\w.cell? ⟨g,j,none⟩=some v:=by
 rcases h.2 with h2|⟨g,cur,hp,hb,_,_,ht⟩
 ·have h1:=h.1;rw[h2]at h1;have:xs=[]:=aT (by simpa using h1);rw[this]at hj;cases hj
 ·refine ⟨g,hp,?_⟩;rw[hb.cell];rw[<-ht,List.getElem?_take]at hj;split at hj
  ·simpa using hj
  ·cases hj
section
variable {P:Program} {w:World} {s:AA} {t u ty e:TypeId} {i:TypeInfo} {z:Value} {xs news:List Value} {x:Value} {m:Nat}
theorem LW (ht:P.underlying t=some (.slice e))(hu:(∃e',P.underlying u=some (.slice e'))\/P.underlying u=some .string)(hi:P.info? e=some i)(hz:i.zero=some z)(xz:z.cells.size=i.size)
  (hlen:Builtin.lenOf x=pure m) (Fv:∀w':World,w'.heap=w.heap->(Builtin.firstCells i.size m x).run P w'= .ok news.toArray w') (hl:news.length=m*i.size)
  (h1:∀v∈news,v.oneCell'=true) (own:Row w s e i.size xs) (hb:(s.len+m)*i.bytes<=140737488355328) (h63:s.len+m<=9223372036854775807):
  ∃s' w',BA P (Builtin.append_ #[t,u] ty #[AA.v s,x]) w (AA.v s') w'/\Row w' s' e i.size (xs++news)/\s'.len=s.len+m/\Ext s.own w w'/\∀j,s'.own j->s.own j\/w.heap.size<=j:=by
 have LX:=own.1;have Hq:(xs++news).length=(s.len+m)*i.size:=by rw[ai,LX,hl,cu]

 have grown:∀(c:Nat),Row (w.drew.alloc (.cells (xs.toArray++news.toArray++Builtin.zeroCells z.cells (grownCap w (s.len+m) c e-(s.len+m))) e))
   ⟨some ⟨w.heap.size,0,none⟩,s.len+m,grownCap w (s.len+m) c e⟩ e i.size (xs++news):=by
  intro c;have Fh:=grownCap_ge w (s.len+m) c e;refine ⟨Hq,.inr ⟨_,_,rfl,AO.new w.drew _ e,Fh,?_,?_⟩⟩
  ·simp only[Array.size_append,cB,size_zeroCells,xz,LX,hl,<-cu]
   congr 1
   omega
  ·simp only[Array.toList_append];rw[<-Hq];exact List.take_left
 have Z1:∀c,c<s.len+m->Builtin.nextslicecap (s.len+m) c*i.bytes<=281474976710656:=fun c hc=>growslice_fits hc hb
 have yA:¬(((s.len+m:Nat):Int)>IntKind.i64.max):=by
  have:IntKind.i64.max=9223372036854775807:=by decide
  omega
 have hd:w.drew.heap=w.heap:=rfl;rcases own.2 with rfl|⟨g,cur,hp,hg,hle,Gx,Hr⟩
 ·
  have hx:xs=[]:=aT (by simpa using LX);subst hx;by_cases hm:m=0
  ·subst hm;have hn:news=[]:=aT (by simpa using hl);subst hn;refine ⟨⟨none,0,0⟩,w,?_,Row.nil w e i.size,rfl,Ext.refl _ _,fun j hj=> .inl hj⟩;have hc:=Fv w rfl;rcases hu with ⟨e',hu⟩|hu<;>
    simp[BA,AA.v,Builtin.append_,run_underlying ht,run_underlying hu,sizeOf,typeInfo,hi,hlen,hc]
  ·refine ⟨_,_,?_,grown 0,rfl,((Ext.refl _ w).drew).alloc _,fun j hj=>?_⟩
   ·have hc:=Fv w.drew hd;have hn:¬(0+m<=0):=by omega
    have hf:=Z1 0 (by simp;omega);simp only[ah]at hf yA;have BO:¬(281474976710656<Builtin.nextslicecap m 0*i.bytes):=by omega
    have h6:¬(9223372036854775807<(m:Int)):=by simp only[ah]at h63;omega
    rcases hu with ⟨e',hu⟩|hu<;>
     simp[BA,AA.v,Builtin.append_,run_underlying ht,run_underlying hu,sizeOf,typeInfo,zeroValue,hi,hz,hlen,hm,h6,BO,Question.forced,run_firstCells_none,hc,newRow,grownCap]
   ·obtain ⟨a,ha,rfl⟩:=hj;cases ha;exact .inr (aB _)
 ·obtain ⟨p,len,cap⟩:=s;simp only at hp hle Gx Hr LX Hq hb h63 yA Z1 grown;subst hp;by_cases OD:len+m<=cap
  ·
   have G9:len*i.size+news.length<=cur.size:=by rw[hl,Gx,<-cu];exact Nat.mul_le_mul_right _ OD
   have Qn:=run_storeCells_at P g (len*i.size) e news 0 cur w hg (by simpa using G9) h1;simp only[Nat.add_zero]at Qn;have hc:=Fv w rfl;refine ⟨⟨some ⟨g,0,none⟩,len+m,cap⟩,w.setRow g (cur.toList.take (len*i.size)++news++cur.toList.drop (len*i.size+news.length)).toArray,?_,⟨Hq,.inr ⟨g,(cur.toList.take (len*i.size)++news++cur.toList.drop (len*i.size+news.length)).toArray,rfl,setRow_heap w g cur _ e _ hg,OD,?_,?_⟩⟩,rfl,⟨rfl,rfl,rfl,by simp[World.setRow],fun k _ hk=>setRow_other w g k _ (fun e=>hk ⟨_,rfl,e.symm⟩)⟩,fun j hj=> .inl hj⟩
   ·rcases hu with ⟨e',hu⟩|hu<;>
     simp[BA,AA.v,Builtin.append_,run_underlying ht,run_underlying hu,sizeOf,typeInfo,hi,hlen,OD,hc,Qn]
   ·simp only[cB,ai,aW,aM,bL];omega
   ·rw[Hr];show List.take ((len+m)*i.size) _=_;rw[<-Hq];exact List.take_left
  ·
   refine ⟨_,_,?_,grown cap,rfl,((Ext.refl _ w).drew).alloc _,fun j hj=>?_⟩
   ·have hc:=Fv w.drew hd;have hf:=Z1 cap (by omega);have BO:¬(281474976710656<Builtin.nextslicecap (len+m) cap*i.bytes):=by omega
    have h6:¬(9223372036854775807<((len:Int)+(m:Int))):=by omega
    have holds:∀j v,xs[j]?=some v->w.drew.cell? ((⟨g,0,none⟩:Addr).add j)=some v:=fun j v hj=>by
     obtain ⟨g',Z2,h⟩:=own.cell hj;cases Z2;simpa using h
    have hfo:=run_firstCells_some (P:=P) w.drew i.size len ⟨g,0,none⟩ len cap xs LX holds;rcases hu with ⟨e',hu⟩|hu<;>
     simp[BA,AA.v,Builtin.append_,run_underlying ht,run_underlying hu,sizeOf,typeInfo,zeroValue,hi,hz,hlen,OD,h6,BO,Question.forced,hfo,hc,newRow,grownCap]<;>
     (congr 2;apply Array.ext';simp[aO])
   ·obtain ⟨a,ha,rfl⟩:=hj;cases ha;exact .inr (aB _)
end
end Sh
namespace Sh
structure El (P:Program) (t e:TypeId) (k B:Nat) (z:Value):Prop where
 und:P.underlying t=some (.slice e)
 size:(P.info? e).map (·.size)=some k
 bytes:(P.info? e).map (·.bytes)=some B
 zero:(P.info? e).bind (·.zero)=some z
 cells:z.cells.size=k
def Bb (w:World)(s:AA)(k:Nat)(ys:List Value):Prop:=ys.length=s.len*k/\∀j v,ys[j]?=some v->∃a,s.p=some a/\w.cell? (a.add j)=some v
theorem Bb.AB{w w':World}{s:AA}{k:Nat}{ys:List Value}(h:Bb w s k ys)(he:Ext (fun _=>False) w w'):Bb w' s k ys:=
 ⟨h.1,fun j v hj=>by obtain ⟨a,ha,hc⟩:=h.2 j v hj;exact ⟨a,ha,he.B8 hc⟩⟩
theorem B9 (a:Addr)(n:Nat):(a.add n).block=a.block:=by unfold Addr.add;split<;>(try split)<;>rfl
theorem Bb.AF{F:Nat->Prop}{w w':World}{s:AA}{k:Nat}{ys:List Value}(h:Bb w s k ys)(he:Ext F w w')(hF:∀j,s.own j->¬F j):Bb w' s k ys:=
 ⟨h.1,fun j v hj=>by
  obtain ⟨a,ha,hc⟩:=h.2 j v hj;refine ⟨a,ha,?_⟩;rw[he.cell (Cs hc) (by rw[B9];exact hF _ ⟨a,ha,rfl⟩)];exact hc⟩
theorem Row.view{w:World}{s:AA}{e:TypeId}{k:Nat}{xs:List Value}(h:Row w s e k xs):Bb w s k xs:=
 ⟨h.1,fun j v hj=>by
  obtain ⟨g,hg,hc⟩:=h.cell hj;exact ⟨_,hg,by rw[add_lit,ah];exact hc⟩⟩
theorem Bb.of{w:World}{b n k:Nat}{cs:List Value}{t:TypeId}(hb:AO w b cs.toArray t)(hn:cs.length=n*k):Bb w ⟨some ⟨b,0,none⟩,n,n⟩ k cs:=
 ⟨hn,fun j v hj=>⟨_,rfl,by rw[add_lit,hb.cell,ah];simpa using hj⟩⟩
section
variable {P:Program} {t e:TypeId} {k B:Nat} {z:Value} {w:World} {s s2:AA} {ty:TypeId} {xs ys:List Value}
theorem El.info(h:El P t e k B z):∃i,P.info? e=some i/\i.size=k/\i.bytes=B/\i.zero=some z:=by
 cases hi:P.info? e with
 |none=>have:=h.size;rw[hi]at this;cases this
 |some i=>
  have h1:=h.size;have h2:=h.bytes;have h3:=h.zero;rw[hi]at h1 h2 h3;exact ⟨i,rfl,by simpa using h1,by simpa using h2,by simpa using h3⟩
theorem El.app(h:El P t e k B z)(own:Row w s e k xs)(h2:Bb w s2 k ys)(h1:∀v∈ys,v.oneCell'=true)(hb:(s.len+s2.len)*B<=140737488355328)(h63:s.len+s2.len<=9223372036854775807):
  ∃s' w',BA P (Builtin.append_ #[t,t] ty #[AA.v s,AA.v s2]) w (AA.v s') w'/\Row w' s' e k (xs++ys)/\s'.len=s.len+s2.len/\Ext s.own w w'/\∀j,s'.own j->s.own j\/w.heap.size<=j:=by
 obtain ⟨i,hi,rfl,rfl,hz⟩:=h.info;refine LW (P:=P) (w:=w) (s:=s) (t:=t) (u:=t) (ty:=ty) (e:=e) (i:=i) (z:=z) (xs:=xs) (news:=ys) (x:=AA.v s2) (m:=s2.len) h.und (.inl ⟨_,h.und⟩) hi hz h.cells rfl (fun w' yE=>?_) h2.1 h1 own hb h63;obtain ⟨p,len,cap⟩:=s2;cases p with
 |none=>
  have hy:ys=[]:=by
   cases ys with
   |nil=>rfl
   |cons y r=>
    obtain ⟨a,ha,_⟩:=h2.2 0 y rfl;cases ha
  subst hy;have hl:=h2.1;simp only[aU]at hl;exact run_firstCells_none (P:=P) (w:=w') _ _ _ _
 |some a=>
  refine run_firstCells_some w' i.size len a len cap ys h2.1 fun j v hj=>?_
  obtain ⟨a',ha,hc⟩:=h2.2 j v hj;cases ha;unfold World.cell? at hc⊢;rw[yE];exact hc
theorem El.Hu(h:El P t e k B z){g:Nat}(own:Row w s e k xs)(hg:AO w g ys.toArray e)(hl:ys.length=k)(h1:∀v∈ys,v.oneCell'=true)(hb:(s.len+1)*B<=140737488355328)(h63:s.len+1<=9223372036854775807):
  ∃s' w',BA P (Builtin.append_ #[t,t] ty #[AA.v s,AA.v ⟨some ⟨g,0,none⟩,1,1⟩]) w (AA.v s') w'/\Row w' s' e k (xs++ys)/\s'.len=s.len+1/\Ext s.own w w'/\∀j,s'.own j->s.own j\/w.heap.size<=j:=
 h.app (s2:=⟨some ⟨g,0,none⟩,1,1⟩) own (Bb.of hg (by omega)) h1 hb h63
end
def StL (b:Nat):Nat->List Value->World->(World->Prop)->Prop
 |_,[],w,K=>K w
 |o,v::vs,w,K=>St w ⟨b,o,none⟩ v fun w'=>StL b (o+1) vs w' K
theorem Z7 {pre post:List Value}{c v:Value}:(pre++c::post).set pre.length v=pre++v::post:=by
 rw[List.set_append_right _ _ (aB _),Nat.sub_self]
 rfl
theorem Hn.wa{w0:World}{L:List (Nat×List Value×TypeId)}{b:Nat}{t:TypeId}{i:Nat}{K:World->Prop}:∀(vs zs pre post:List Value) (o:Nat) (w:World),Hn w0 w L->L[i]?=some (b,pre++(zs++post),t)->pre.length=o->zs.length=vs.length->
  (∀w2,Hn w0 w2 (L.set i (b,pre++(vs++post),t))->K w2)->StL b o vs w K
 |[],zs,pre,post,o,w,h,hi,ho,hz,k=>by
  have:zs=[]:=aT hz;subst this;have e:L.set i (b,pre++([]++post),t)=L:=by
   apply List.ext_getElem?;intro j;rw[List.getElem?_set];split
   ·rename_i Tf;subst Tf;rw[aD (ao.1 hi).1,hi]
   ·rfl
  exact k w (by rw[e];exact h)
 |v::vs,[],pre,post,o,w,h,hi,ho,hz,k=>by cases hz
 |v::vs,z::zs,pre,post,o,w,h,hi,ho,hz,k=>by
  refine h.st i hi (by rw[<-ho];simp) fun w2 h2=>?_
  have e:(pre++(z::zs++post)).set o v=(pre++[v])++(zs++post):=by
   rw[<-ho,ag,Z7];simp
  rw[e]at h2;have Av:i<L.length:=(ao.1 hi).1;refine Hn.wa vs zs (pre++[v]) post (o+1) w2 h2 (by rw[List.getElem?_set_self Av]) (by simp[ho]) (by simpa using hz) fun w3 h3=>k w3 ?_
  rw[List.set_set]at h3;simpa using h3
end Sh
namespace Sh
section
variable {P:Program} {N:Nat} {ok may:Nat->Bool}
theorem GH (hF:Ac P ok){g:Nat}(hg:My P ok g=true)(args:Array Value)(w:World):(callFunc g args).run P w= .ok (.enter g args) w:=by
 unfold My at hg;split at hg
 ·rename_i fn Bo Ze;obtain ⟨hb,hn⟩:=hF g fn Bo Ze;have vI:fn.body.isNone=false:=by cases hx:fn.body<;>simp_all
  have hn':(fn.name== "runtime.NumGoroutine")=false:=by simpa using hn
  simp only[callFunc,Sem.run_bind,run_program,Result.andThen_ok,Ze,hn',vI,bq,if_false,Sem.run_pure]
 ·cases hg
theorem M0 {F:Fx}(hF:Ac P F.ok){ops:Array Oper}{Q:Exit->Act->World->Prop}{m:List Oper}:∀(l:List Oper) (E:Env) (w:World) (K:Env->World->Prop) (a:Act),
  FV P F false ops l E w K->Fits N E a->CC N l->(∀E' a' w',K E' w'->Fits N E' a'->frame l a a'->wpList P ops Q m a' w')->
  (∀v a' w',F.pk v w'->Fits N [] a'->frame l a a'->Q (.panic (AW v)) a' w')->wpList P ops Q (l++m) a w
 |[],E,w,K,a,h,hf,_,hQ,_=>hQ E a w h hf (frame.refl _ _)
 |o::r,E,w,K,a,h,hf,hd,hQ,hP=>by
  have HZ:CC N r:=fun p hp=>hd p (ay _ hp)
  have ho:=hd o ax;rw[ag];unfold wpList;rcases BS h hf with ⟨hw,E',BO,hy⟩|⟨hw,E',BO,hn⟩
  ·rw[aD hw];refine .inl ?_;split at hy
   ·rename_i hb;simp only[aj]at hb;unfold Oper.wp;rw[Af BO hb.1];refine Dv (CO hF hy) (fun v w' hk=>?_) fun v w' hp=>hP v a w' hp hf.some (frame.refl _ _)
    exact M0 hF r _ w' K _ hk (BO.put ho) HZ (fun Gv a' BG h1 h2 h3=>hQ _ _ _ h1 h2 (AJ h3)) fun v a' BG h1 h2 h3=>hP v a' BG h1 h2 (AJ h3)
   ·exact hy.elim
  ·rw[az (by rw[hw];simp)];exact M0 hF r _ w K _ hn (BO.put ho) HZ (fun Gv a' BG h1 h2 h3=>hQ _ _ _ h1 h2 (AJ h3)) fun v a' BG h1 h2 h3=>hP v a' BG h1 h2 (AJ h3)
theorem Vm {E:Env}{a:Act}(hf:Fits N E a){c:Call}{f:Operand}{g:Nat}{first captured:Array Value}{t:TypeId}(hc:Qa c.callee=some f)(hv:hZ (E.Ai f)=some (g,first,captured))
  (hh:(E.has f&&c.args.toList.all E.has)=true):(resolve a.eval c t:Sem Deferred)=pure {target:= .fn (.func g) captured,args:=first++c.args.map E.Ai}:=by
 simp only[aj]at hh;have h1:a.eval f= .func (.func g) first captured:=by
  rw[hf.Ai hh.1];unfold hZ at hv;split at hv
  ·rename_i g' fi ca e;cases hv;exact e
  ·cases hv
 have h2:c.args.map a.eval=c.args.map E.Ai:=by
  apply Array.ext';rw[Array.toList_map,Array.toList_map];refine List.map_congr_left fun x hx=>hf.Ai (aJ.1 hh.2 x hx)
 have h3:c.callee= .value f:=by
  unfold Qa at hc;split at hc
  ·rename_i f' e;cases hc;exact e
  ·cases hc
 unfold resolve;simp only[h3,h1,h2,Deferred.ofValue]
theorem ZG {AB:List Nat}{c:Code}{b:Bool}(h:(Cl AB c&&b)=true):Cl AB c=true/\b=true:=by simpa[aj]using h
def RR {tys:List Ty}(R:Sg tys->World->Prop)(PR:Value->World->Prop)(e:Ending)(w':World):Prop:=
 (∃s:Sg tys,e= .returned (Bw.Dt (Sg.Ds tys s))/\R s w')\/∃v,e= .panicked (AW v)/\PR v w'
theorem ml (hF:Ac P ok)(hm:P.follows .mixedOrders=true){PR:Value->World->Prop}{fn:Func}{tys:List Ty}{R:Sg tys->World->Prop}:∀(c:Code) (pl:Ee) (E:Env) (w:World) (a:Act),
  vH P ok may PR fn tys R pl c E w->Fits fn.ntmps E a->a.defers=[]->Ad fn.ntmps c=true->c.wp P (bodyPostD P fn (RR R PR)) a w:=by
 intro c
 induction c with
 |seq c d iH iI=>
  clear iH;intro pl E w a h hf Jb hs;simp only[Ad,aj]at hs;cases pl with
  |pre p r=>
   refine wp_seq (wp_mono (GI (F:=⟨ok,may,PR⟩) hF hm c p E w _ a h hf hs.1) fun e a' w' hq=>?_);rcases hq with ⟨E',h1,h2,h3⟩|⟨v,rfl,h1,h2,h3⟩
   ·have Ky:a'.defers=[]:=by rw[h3.2];exact Jb
    cases e<;>try exact h1.elim
    ·exact iI r E' w' a' h1 h2 Ky hs.2
    ·show Leaves P fn a'.tmps _ a'.defers .returning w';rw[Ky];obtain ⟨v,g1,g2⟩:=FX h2 h1;exact ⟨v,g1,.inl g2⟩
   ·have Ky:a'.defers=[]:=by rw[h3.2];exact Jb
    show Leaves P fn a'.tmps _ a'.defers (.panicking (AW v)) w';rw[Ky];exact .inr ⟨v,rfl,h1⟩
  |here AB p=>
   cases c<;>try exact (show False from h).elim
   rename_i id ops dr;cases dr with
   |true=>exact (show False from h).elim
   |false=>
   have hd:=EH hs.1
   replace h:FV P ⟨ok,may,PR⟩ false ops ops.toList.dropLast E w fun E w=>match ops.toList.getLast? with
    |some o=>iA E o fun g args=>match Cl AB d&&My P ok g with
     |true=>CA P ⟨ok,may,fun v w=>Df P g args (some v) w fun w'=>Jg P fn tys R (Env.AB E AB) w'⟩ p d E w fun e E w=>match e with
      | .normal=>Df P g args none w fun w'=>Jg P fn tys R E w'
      | .ret=>Df P g args none w fun w'=>Jg P fn tys R E w'
      |_=>False
     |false=>False
    |none=>False:=h
   refine wp_seq (wp_region_list ?_);have ANu:∀o∈ops.toList.dropLast,o∈ops.toList:=fun o ho=>(List.dropLast_sublist _).subset ho
   cases hl:ops.toList.getLast? with
   |none=>
    rw[hl]at h;have mn:ops.toList=[]:=List.getLast?_eq_none_iff.1 hl;rw[mn]at h;exact (show False from h).elim
   |some o=>
   rw[hl]at h;have xp:ops.toList=ops.toList.dropLast++[o]:=by
    have Bg:ops.toList≠[]:=fun e=>by rw[e]at hl;cases hl
    have h1:=List.dropLast_concat_getLast Bg;rw[List.getLast?_eq_some_getLast Bg]at hl;cases hl;exact h1.symm
   rw[xp];have hom:o∈ops.toList:=by rw[xp];simp
   refine M0 (N:=fn.ntmps) (F:=⟨ok,may,PR⟩) hF _ _ _ _ _ h hf (fun x hx=>hd x (ANu x hx)) (fun E' a' w' h1 h2 h3=>?_) fun v a' w' h1 h2 h3=>?_
   ·dsimp only at h1;unfold iA at h1;split at h1
    ·rename_i cc R7 ga Sc;split at h1
     ·rename_i f hcf;split at h1
      ·rename_i g first captured hfv hh
       split at h1
       ·rename_i pT;obtain ⟨hk,hg⟩:=ZG pT;have UB:o.op= .defer cc:=by
         unfold hY at R7;split at R7
         ·rename_i c' e;cases R7;exact e
         ·cases R7
        unfold wpList;rw[aD (by simp[Region.wanted,ga])];refine .inl ?_;have HA:(execOp a'.eval o).run P w'= .ok (.defer {target:= .fn (.func g) captured,args:=first++cc.args.map E'.Ai}) w':=by
         unfold execOp;simp only[UB,Vm h2 hcf hfv hh,pure_bind,Sem.run_pure]
        unfold Oper.wp;rw[HA,Oper.upon_defer];have Ky:a'.defers=[]:=by rw[h3.2];exact Jb
        rw[Sc];have hf3:Fits fn.ntmps E' ({a' with defers:={target:= .fn (.func g) captured,args:=first++cc.args.map E'.Ai}::a'.defers}.put none undef):=⟨h2.size,h2.get⟩
        unfold wpList;refine wp_mono (GI (F:=⟨ok,may,fun v w=>Df P g _ (some v) w fun w'=>Jg P fn tys R (Env.AB E' AB) w'⟩) hF hm d p _ w' _ _ h1 hf3 hs.2) fun e JB BG hq=>?_
        have hinv:(invoke (.fn (.func g) captured) (first++cc.args.map E'.Ai)).run P BG= .ok (.enter g ((first++cc.args.map E'.Ai)++captured)) BG:=GH hF hg _ _;rcases hq with ⟨Gv,g1,g2,g3⟩|⟨v,rfl,g1,g2,g3⟩
        ·have tw:JB.defers=[{target:= .fn (.func g) captured,args:=first++cc.args.map E'.Ai}]:=by rw[g3.2,put_defers];simp only[Ky]
         have key:(Df P g ((first++cc.args.map E'.Ai)++captured) none BG fun w'=>Jg P fn tys R Gv w')->Leaves P fn JB.tmps (RR R PR) JB.defers .returning BG:=fun h=>by
          rw[tw];refine leaves_cons (by simp) hinv (CallsD.mono h fun e u' w3 hr=>?_);obtain ⟨rfl,rfl,hr⟩:=hr;obtain ⟨v,k1,k2⟩:=FX g2 hr;exact ⟨v,k1,.inl k2⟩
         cases e<;>try exact g1.elim
         ·exact key g1
         ·exact key g1
        ·have tw:JB.defers=[{target:= .fn (.func g) captured,args:=first++cc.args.map E'.Ai}]:=by rw[g3.2,put_defers];simp only[Ky]
         show Leaves P fn JB.tmps (RR R PR) JB.defers (.panicking (AW v)) BG;rw[tw];refine leaves_cons (by simp) hinv (CallsD.mono g1 fun e u' w3 hr=>?_);obtain ⟨rfl,rfl,hr⟩:=hr;have G9:Fits fn.ntmps (Env.AB E' AB) JB:=by
          refine M1.fits (CE h2 AB fun t ht=>?_) g2.size;rw[g3.1 t (Ez hk t ht)]
          rfl
         obtain ⟨v,k1,k2⟩:=FX G9 hr;exact ⟨v,k1,.inl k2⟩
       ·exact h1.elim
      ·exact h1.elim
     ·exact h1.elim
    ·exact h1.elim
   ·have Ky:a'.defers=[]:=by rw[h3.2];exact Jb
    show Leaves P fn a'.tmps _ a'.defers (.panicking (AW v)) w';rw[Ky];exact .inr ⟨v,rfl,h1⟩
 |_=>
  intro pl E w a h hf Jb hs;cases pl<;>exact (show False from h).elim
theorem Vn {PR:Value->World->Prop}(hF:Ac P ok)(hm:P.follows .mixedOrders=true){f:FuncId}{fn:Func}{pl:Ee}{args:List Value}{w:World}{tys:List Ty}{R:Sg tys->World->Prop}
  (hf:P.funcs[f]?=some fn) (hN:(match fn.body with
   |some c=>Ad fn.ntmps c
   |none=>false)=true) (ha:Nat.ble args.length fn.ntmps=true)
  (h:Nk P ok may PR pl fn args w tys R):Calls P f args.toArray w fun e w'=>(∃s:Sg tys,e= .returned (Bw.Dt (Sg.Ds tys s))/\R s w')\/∃v,e= .panicked (AW v)/\PR v w':=by
 unfold Nk at h;split at h
 ·exact h.elim
 ·rename_i c hc;rw[hc]at hN;exact calls_of_wp_defers hf hc (ml hF hm c pl _ w _ h (Sd (bp ha)) rfl hN)
theorem Cc (hF:Ac P ok)(hm:P.follows .mixedOrders=true){f:FuncId}{fn:Func}{pl:Ee}{args:List Value}{w:World}{tys:List Ty}{R:Sg tys->World->Prop}
  (hf:P.funcs[f]?=some fn) (hN:(match fn.body with
   |some c=>Ad fn.ntmps c
   |none=>false)=true) (ha:Nat.ble args.length fn.ntmps=true)
  (h:Nk P ok may (fun _ _=>False) pl fn args w tys R):Calls P f args.toArray w fun e w'=>∃s:Sg tys,e= .returned (Bw.Dt (Sg.Ds tys s))/\R s w':=
 (Vn hF hm hf hN ha h).mono fun e w' he=>he.elim id fun ⟨_,_,h⟩=>h.elim
theorem Se {o:Oper}{a:Act}{next:Act->World->Prop}{Q:Exit->Act->World->Prop}{K:Value->World->Prop}{r:Result Next}(h:Ms P (fun _ _=>False) K r)
  (hk:∀v w',K v w'->next (a.put o.dst v) w'):o.upon P a next Q r:=Dv h hk fun _ _ h=>h.elim
theorem Vo (hF:Ac P ok){ops:Array Oper}{Q:Exit->Act->List Frame->World->Prop}{cs:List Frame}:∀(l:List Oper) (k:Nat) (E:Env) (w:World) (K:Env->World->Prop) (a:Act),
  (∀j,l[j]?=ops[k+j]?)->FV P ⟨ok,may,fun _ _=>False⟩ false ops l E w K->Fits N E a->CC N l->(∀E' a' w',K E' w'->Fits N E' a'->frame l a a'->Q .normal a' cs w')->
  wpOpsS P ops Q (List.range' k l.length) a cs w
 |[],k,E,w,K,a,_,h,hf,_,hQ=>hQ E a w h hf (frame.refl _ _)
 |o::r,k,E,w,K,a,hl,h,hf,hd,hQ=>by
  have HZ:CC N r:=fun p hp=>hd p (ay _ hp)
  have ho:=hd o ax;have h0:ops[k]?=some o:=by simpa using (hl 0).symm
  have SA:∀j,r[j]?=ops[k+1+j]?:=fun j=>by have:=hl (j+1);simpa[Nat.add_assoc,Nat.add_comm 1 j]using this
  simp only[ar,List.range'_succ,wpOpsS,h0];rcases BS h hf with ⟨hw,E',BO,hy⟩|⟨hw,E',BO,hn⟩
  ·rw[aD hw];split at hy
   ·rename_i hb;simp only[aj]at hb;rw[Af BO hb.1];have iJ:=CO (F:=⟨ok,may,fun _ _=>False⟩) hF hy;have uZ:=fun (Q':Exit->Act->World->Prop)=>Se (o:=o) (a:=a) (Q:=Q') (next:=fun a' w'=>wpOpsS P ops Q (List.range' (k+1) r.length) a' cs w') iJ fun v w' hk=>
     Vo hF r (k+1) _ w' K _ SA hk (BO.put ho) HZ fun Gv a' BG h1 h2 h3=>hQ _ _ _ h1 h2 (AJ h3)
    split
    ·rename_i w' hr;rw[hr]at iJ;exact iJ.elim
    ·exact uZ _
   ·exact hy.elim
  ·rw[az (by rw[hw];simp)];exact Vo hF r (k+1) _ w K _ SA hn (BO.put ho) HZ fun Gv a' BG h1 h2 h3=>hQ _ _ _ h1 h2 (AJ h3)
theorem Vp {o:Oper}(h:Jh o.op=true)(ρ:Operand->Value)(w:World):(execOp ρ o).run P w= .ok .recover w:=by
 obtain ⟨dst,op,type,pos,after,guard⟩:=o;simp only at h;unfold Jh at h;split at h
 ·rename_i c;split at h
  ·rename_i hc;simp only[execOp,resolve,hc,pure_bind,invoke]
   rfl
  ·cases h
 ·cases h
theorem BU (hF:Ac P ok)(hm:P.follows .mixedOrders=true){f:FuncId}{fn:Func}{pl:Ah}{args:List Value}{u:Option Value}{w:World}{R:World->Prop}
  (hf:P.funcs[f]?=some fn) (hN:(match fn.body with
   |some c=>Ad fn.ntmps c
   |none=>false)=true) (ha:Nat.ble args.length fn.ntmps=true)
  (h:KY P ok may pl fn args u w R):Df P f args.toArray u w R:=by
 unfold KY at h;split at h
 case h_2=>exact h.elim
 rename_i id ops d hc;rw[hc]at hN;simp only[Ad,aj]at hN;split at h
 case h_2=>exact h.elim
 rename_i o r mo;split at h
 case h_2=>exact h.elim
 rename_i ANw ga Yf;have hd:CC fn.ntmps (o::r):=by rw[<-mo];exact EH (id:=id) (d:=false) hN.1
 refine callsD_of_wpS hf hc fun c₀ cs hu=>?_
 have G9:=Sd (n:=fn.ntmps) (args:=args) (bp ha);refine wpS_seq (wpS_region ?_);have Gx:ops.size=r.length+1:=by rw[<-bL,mo];rfl
 have h0:ops[0]?=some o:=by rw[<-Array.getElem?_toList,mo];rfl
 have hl:∀j,r[j]?=ops[0+1+j]?:=fun j=>by rw[<-Array.getElem?_toList,mo,show 0+1+j=j+1 by omega];rfl
 rw[Gx,List.range_eq_range',List.range'_succ];simp only[wpOpsS,h0];rw[aD (by simp[Region.wanted,ga]),Vp ANw];dsimp only;have mZ:∀v:Value,Fits fn.ntmps ((SY 0 args).put o.dst v) ({tmps:=args.toArray++Array.replicate (fn.ntmps-args.toArray.size) undef,defers:=[]:Act}.put o.dst v):=fun v=>G9.put (hd o ax)
 have key:∀(Bq:List Frame) (u':FrameMode),Bq={c₀ with mode:=u'}::cs->u'=Gb u->
   wpOpsS P ops (Exit.thenS (d.wpS P (bodyPostS P fn c₀ cs fun e u' w'=>e= .returned (.tuple #[])/\u'=Gb u/\R w')) (bodyPostS P fn c₀ cs fun e u' w'=>e= .returned (.tuple #[])/\u'=Gb u/\R w')) (List.range' (0+1) r.length) ({tmps:=args.toArray++Array.replicate (fn.ntmps-args.toArray.size) undef,defers:=[]:Act}.put o.dst (ABk u)) Bq w:=fun Bq u' N9 hu'=>by
  refine Vo (N:=fn.ntmps) (may:=may) hF r _ _ _ _ _ hl h (mZ _) (fun x hx=>hd x (ay _ hx)) fun E' a' w' h1 h2 h3=>?_
  have Jb:a'.defers=[]:=by rw[h3.2,put_defers]
  refine wpS_of_wp (wp_mono (GI (F:=⟨ok,may,fun _ _=>False⟩) hF hm d pl E' w' _ a' h1 h2 hN.2) fun e JB BG hq=>?_);rcases hq with ⟨Gv,g1,g2,g3⟩|⟨v,rfl,g1,_⟩
  ·have Ky:JB.defers=[]:=by rw[g3.2];exact Jb
   have hr:(results fn JB.tmps).run P BG= .ok (.tuple #[]) BG:=by
    obtain ⟨v,k1,s,k2,_⟩:=FX (tys:=[]) (R:=fun _ _=>True) g2 (by unfold Jg;rw[Yf];exact True.intro);cases k2;exact k1
   cases e<;>try exact g1.elim
   ·exact ⟨Ky,u',N9,_,hr,rfl,hu',g1⟩
   ·exact ⟨Ky,u',N9,_,hr,rfl,hu',g1⟩
  ·exact g1.elim
 cases u with
 |none=>
  have hrc:recoverD (c₀::cs)=none:=by simp only[recoverD,hu,Vf]
  rw[hrc];refine key _ .returning ?_ rfl;have:c₀.mode= .returning:=hu;rw[<-this]
 |some v=>
  have hrc:recoverD (c₀::cs)=some (v,{c₀ with mode:= .panicking [{v,recovered:=true}]}::cs):=by simp only[recoverD,hu,Vf,AW]
  rw[hrc];exact key _ _ rfl rfl
end
end Sh
section
open Sh
abbrev A0:List DR:=[.int .i64,.int .i64,.int .i64,.int .i64,.int .i64,.int .i64,.int .i64,.int .i64,.int .i64,.int .i64,.Ct,.int .i64,.int .i64,.int .i64,.int .i64,.int .i64,.int .i64,.int .i64,.int .i64,.int .i64,.int .i64,.int .i64,.int .i64,.int .i64,.int .i64,.int .i64,.int .i64,.int .i64,.str,.int .i64]
abbrev EA:Type:=Int×Int×Int×Int×Int×Int×Int×Int×Int×Int×AA×Int×Int×Int×Int×Int×Int×Int×Int×Int×Int×Int×Int×Int×Int×Int×Int×Int×ByteArray×Int
def FF (g:Nat):Bool:=Nat.ble 3 g&&Nat.ble g 251&& !Nat.beq g 71&& !Nat.beq g 122&& !Nat.beq g 144&& !Nat.beq g 214&& !Nat.beq g 222&& !Nat.beq g 223&& !Nat.beq g 224&& !Nat.beq g 225&& !Nat.beq g 226&& !Nat.beq g 227&& !Nat.beq g 228&& !Nat.beq g 229&& !Nat.beq g 230&& !Nat.beq g 231&& !Nat.beq g 232&& !Nat.beq g 233&& !Nat.beq g 234&& !Nat.beq g 235&& !Nat.beq g 236&& !Nat.beq g 237&& !Nat.beq g 238&& !Nat.beq g 239&& !Nat.beq g 240&& !Nat.beq g 241&& !Nat.beq g 242&& !Nat.beq g 243&& !Nat.beq g 244&& !Nat.beq g 245&& !Nat.beq g 246&& !Nat.beq g 247&& !Nat.beq g 248&& !Nat.beq g 249&& !Nat.beq g 250
def Fu (g:Nat):Bool:=Nat.beq g 3||Nat.beq g 10||Nat.beq g 19||Nat.beq g 21||Nat.beq g 25||Nat.beq g 28||Nat.beq g 33||Nat.beq g 34||Nat.beq g 35||Nat.beq g 40||Nat.beq g 41||Nat.beq g 42||Nat.beq g 43||Nat.beq g 44||Nat.beq g 45||Nat.beq g 47||Nat.beq g 52||Nat.beq g 53||Nat.beq g 55||Nat.beq g 56||Nat.beq g 58||Nat.beq g 59||Nat.beq g 63||Nat.beq g 64||Nat.beq g 68||Nat.beq g 69||Nat.beq g 75||Nat.beq g 79||Nat.beq g 82||Nat.beq g 83||Nat.beq g 86||Nat.beq g 87||Nat.beq g 94||Nat.beq g 102||Nat.beq g 104||Nat.beq g 105||Nat.beq g 106||Nat.beq g 115||Nat.beq g 124||Nat.beq g 126||Nat.beq g 140||Nat.beq g 141||Nat.beq g 145||Nat.beq g 165||Nat.beq g 166||Nat.beq g 167||Nat.beq g 195
theorem yG:((List.range 252).all fun g=> !FF g||(match prog.funcs[g]? with
 |some fn=>fn.body.isSome&& !(fn.name== "runtime.NumGoroutine")
 |none=>true))=true:=by kernel_rfl
theorem okF:Ac prog FF:=by
 intro g fn hg Ze;have Av:g<252:=by
  simp only[FF,aj]at hg;have:=bp hg.1.1.1.1.1.1.1.1.1.1.1.1.1.1.1.1.1.1.1.1.1.1.1.1.1.1.1.1.1.1.1.1.1.2;omega
 have h:=aJ.1 yG g (cw.2 Av);simp only[hg,Bool.not_true,Bool.false_or,Ze,aj]at h;exact ⟨h.1,by simpa using h.2⟩
theorem De:prog.follows .mixedOrders=true:=by kernel_rfl
abbrev Q0:Type:=World->Prop
abbrev Q1 (α:Type):Type:=α->World->Prop
abbrev Q2 (α β:Type):Type:=α->β->World->Prop
abbrev Q3 (α β γ:Type):Type:=α->β->γ->World->Prop
abbrev Q4 (α β γ δ:Type):Type:=α->β->γ->δ->World->Prop
abbrev vi:Int->Value:=fun x=> .int .i64 x
abbrev vR (r:Value):Value:=r
abbrev vA (L:List DR)(r:AQ L):Value:= .agg (AQ.cells L r).toArray
abbrev ti:DR:= .int .i64
abbrev oi:Ty:= .one (.int .i64)
abbrev os:Ty:= .one .str
abbrev ob:Ty:= .one .bool
abbrev ol:Ty:= .one .Ct
abbrev op:Ty:= .one .ptr
section
variable {α β γ δ:Type} {a:α->Value} {b:β->Value} {c:γ->Value} {d:δ->Value} {f:Nat} {l:Array Value} {w:World}
abbrev K0 (f:Nat)(l:Array Value)(w:World)(R:World->Prop):Prop:=Calls prog f l w fun e w'=>e= .returned (.tuple #[])/\R w'
abbrev K1 (a:α->Value)(f:Nat)(l:Array Value)(w:World)(R:α->World->Prop):Prop:=Calls prog f l w fun e w'=>∃r0:α,e= .returned (a r0)/\R r0 w'
abbrev K2 (a:α->Value)(b:β->Value)(f:Nat)(l:Array Value)(w:World)(R:α->β->World->Prop):Prop:=Calls prog f l w fun e w'=>∃r0:α,∃r1:β,e= .returned (.tuple #[a r0,b r1])/\R r0 r1 w'
abbrev K3 (a:α->Value)(b:β->Value)(c:γ->Value)(f:Nat)(l:Array Value)(w:World)(R:α->β->γ->World->Prop):Prop:=Calls prog f l w fun e w'=>∃r0:α,∃r1:β,∃r2:γ,e= .returned (.tuple #[a r0,b r1,c r2])/\R r0 r1 r2 w'
abbrev K4 (a:α->Value)(b:β->Value)(c:γ->Value)(d:δ->Value)(f:Nat)(l:Array Value)(w:World)(R:α->β->γ->δ->World->Prop):Prop:=Calls prog f l w fun e w'=>∃r0:α,∃r1:β,∃r2:γ,∃r3:δ,e= .returned (.tuple #[a r0,b r1,c r2,d r3])/\R r0 r1 r2 r3 w'
abbrev P0 (f:Nat)(l:Array Value)(w:World)(R:World->Prop)(PR:Value->World->Prop):Prop:=Calls prog f l w fun e w'=>(e= .returned (.tuple #[])/\R w')\/∃v,e= .panicked (AW v)/\PR v w'
abbrev P1 (a:α->Value)(f:Nat)(l:Array Value)(w:World)(R:α->World->Prop)(PR:Value->World->Prop):Prop:=Calls prog f l w fun e w'=>(∃r0:α,e= .returned (a r0)/\R r0 w')\/∃v,e= .panicked (AW v)/\PR v w'
abbrev P2 (a:α->Value)(b:β->Value)(f:Nat)(l:Array Value)(w:World)(R:α->β->World->Prop)(PR:Value->World->Prop):Prop:=Calls prog f l w fun e w'=>(∃r0:α,∃r1:β,e= .returned (.tuple #[a r0,b r1])/\R r0 r1 w')\/∃v,e= .panicked (AW v)/\PR v w'
variable {PR wb:Value->World->Prop}
theorem K0.mono{R R':World->Prop}(h:K0 f l w R)(hr:∀w',R w'->R' w'):K0 f l w R':=Calls.mono h fun _ _ ⟨he,hR⟩=>⟨he,hr _ hR⟩
theorem K1.mono{R R':α->World->Prop}(h:K1 a f l w R)(hr:∀r0 w',R r0 w'->R' r0 w'):K1 a f l w R':=Calls.mono h fun _ _ ⟨r0,he,hR⟩=>⟨r0,he,hr _ _ hR⟩
theorem K2.mono{R R':α->β->World->Prop}(h:K2 a b f l w R)(hr:∀r0 r1 w',R r0 r1 w'->R' r0 r1 w'):K2 a b f l w R':=Calls.mono h fun _ _ ⟨r0,r1,he,hR⟩=>⟨r0,r1,he,hr _ _ _ hR⟩
theorem K3.mono{R R':α->β->γ->World->Prop}(h:K3 a b c f l w R)(hr:∀r0 r1 r2 w',R r0 r1 r2 w'->R' r0 r1 r2 w'):K3 a b c f l w R':=Calls.mono h fun _ _ ⟨r0,r1,r2,he,hR⟩=>⟨r0,r1,r2,he,hr _ _ _ _ hR⟩
theorem K4.mono{R R':α->β->γ->δ->World->Prop}(h:K4 a b c d f l w R)(hr:∀r0 r1 r2 r3 w',R r0 r1 r2 r3 w'->R' r0 r1 r2 r3 w'):K4 a b c d f l w R':=Calls.mono h fun _ _ ⟨r0,r1,r2,r3,he,hR⟩=>⟨r0,r1,r2,r3,he,hr _ _ _ _ _ hR⟩
theorem P0.mono{R R':World->Prop}(h:P0 f l w R PR)(hr:∀w',R w'->R' w')(hp:∀v w',PR v w'->wb v w'):P0 f l w R' wb:=Calls.mono h fun _ _ he=>he.elim (fun ⟨he,hR⟩=> .inl ⟨he,hr _ hR⟩) fun ⟨v,he,hP⟩=> .inr ⟨v,he,hp _ _ hP⟩
theorem P1.mono{R R':α->World->Prop}(h:P1 a f l w R PR)(hr:∀r0 w',R r0 w'->R' r0 w')(hp:∀v w',PR v w'->wb v w'):P1 a f l w R' wb:=Calls.mono h fun _ _ he=>he.elim (fun ⟨r0,he,hR⟩=> .inl ⟨r0,he,hr _ _ hR⟩) fun ⟨v,he,hP⟩=> .inr ⟨v,he,hp _ _ hP⟩
theorem P2.mono{R R':α->β->World->Prop}(h:P2 a b f l w R PR)(hr:∀r0 r1 w',R r0 r1 w'->R' r0 r1 w')(hp:∀v w',PR v w'->wb v w'):P2 a b f l w R' wb:=Calls.mono h fun _ _ he=>he.elim (fun ⟨r0,r1,he,hR⟩=> .inl ⟨r0,r1,he,hr _ _ _ hR⟩) fun ⟨v,he,hP⟩=> .inr ⟨v,he,hp _ _ hP⟩
def sd (fn:Func)(args:List Value):Bool:=(match fn.body with
 |some c=>Ad fn.ntmps c
 |none=>false)&&Nat.ble args.length fn.ntmps
theorem Tg {fn:Func}{args:List Value}(h:sd fn args=true):(match fn.body with
 |some c=>Ad fn.ntmps c
 |none=>false)=true/\Nat.ble args.length fn.ntmps=true:=by
 unfold sd at h;rw[aj]at h;exact h
theorem pe {α β:Type}{a a':α}{b b':β}(h:(a,b)=(a',b')):a=a'/\b=b':=by
 cases h;exact ⟨rfl,rfl⟩
variable {fn:Func} {S:Prop}
theorem mk0 (pl:Ah)(args:List Value){R:World->Prop}(hf:prog.funcs[f]?=some fn)(e:(cM prog ⟨FF,Fu,fun _ _=>False⟩ pl fn args w [] (fun _ w=>R w),sd fn args)=(S,true):=by kernel_rfl)(h:S):K0 f args.toArray w R:=
 (Fw okF De hf (Tg (pe e).2).1 (Tg (pe e).2).2 ((pe e).1.mpr h)).mono fun _ _ ⟨_,he,hR⟩=>⟨he,hR⟩
theorem B2 (t:Ty)(pl:Ah)(args:List Value){R:t.T->World->Prop}(hf:prog.funcs[f]?=some fn)(e:(cM prog ⟨FF,Fu,fun _ _=>False⟩ pl fn args w [t] (fun s w=>R s w),sd fn args)=(S,true):=by kernel_rfl)(h:S):K1 t.v f args.toArray w R:=
 (Fw okF De hf (Tg (pe e).2).1 (Tg (pe e).2).2 ((pe e).1.mpr h)).mono fun _ _ ⟨s,he,hR⟩=>⟨s,he,hR⟩
theorem PH (t u:Ty)(pl:Ah)(args:List Value){R:t.T->u.T->World->Prop}(hf:prog.funcs[f]?=some fn)(e:(cM prog ⟨FF,Fu,fun _ _=>False⟩ pl fn args w [t,u] (fun s w=>R s.1 s.2 w),sd fn args)=(S,true):=by kernel_rfl)(h:S):K2 t.v u.v f args.toArray w R:=
 (Fw okF De hf (Tg (pe e).2).1 (Tg (pe e).2).2 ((pe e).1.mpr h)).mono fun _ _ ⟨s,he,hR⟩=>⟨s.1,s.2,he,hR⟩
theorem mk3 (t u v:Ty)(pl:Ah)(args:List Value){R:t.T->u.T->v.T->World->Prop}(hf:prog.funcs[f]?=some fn)(e:(cM prog ⟨FF,Fu,fun _ _=>False⟩ pl fn args w [t,u,v] (fun s w=>R s.1 s.2.1 s.2.2 w),sd fn args)=(S,true):=by kernel_rfl)(h:S):K3 t.v u.v v.v f args.toArray w R:=
 (Fw okF De hf (Tg (pe e).2).1 (Tg (pe e).2).2 ((pe e).1.mpr h)).mono fun _ _ ⟨s,he,hR⟩=>⟨s.1,s.2.1,s.2.2,he,hR⟩
theorem mk4 (t u v x:Ty)(pl:Ah)(args:List Value){R:t.T->u.T->v.T->x.T->World->Prop}(hf:prog.funcs[f]?=some fn)(e:(cM prog ⟨FF,Fu,fun _ _=>False⟩ pl fn args w [t,u,v,x] (fun s w=>R s.1 s.2.1 s.2.2.1 s.2.2.2 w),sd fn args)=(S,true):=by kernel_rfl)(h:S):K4 t.v u.v v.v x.v f args.toArray w R:=
 (Fw okF De hf (Tg (pe e).2).1 (Tg (pe e).2).2 ((pe e).1.mpr h)).mono fun _ _ ⟨s,he,hR⟩=>⟨s.1,s.2.1,s.2.2.1,s.2.2.2,he,hR⟩
theorem Zf (pl:Ah)(args:List Value){R:World->Prop}(hf:prog.funcs[f]?=some fn)(e:(cM prog ⟨FF,Fu,PR⟩ pl fn args w [] (fun _ w=>R w),sd fn args)=(S,true):=by kernel_rfl)(h:S):P0 f args.toArray w R PR:=
 (GM okF De hf (Tg (pe e).2).1 (Tg (pe e).2).2 ((pe e).1.mpr h)).mono fun _ _ he=>he.elim (fun ⟨_,he,hR⟩=> .inl ⟨he,hR⟩) .inr
theorem Jw (t:Ty)(pl:Ah)(args:List Value){R:t.T->World->Prop}(hf:prog.funcs[f]?=some fn)(e:(cM prog ⟨FF,Fu,PR⟩ pl fn args w [t] (fun s w=>R s w),sd fn args)=(S,true):=by kernel_rfl)(h:S):P1 t.v f args.toArray w R PR:=
 (GM okF De hf (Tg (pe e).2).1 (Tg (pe e).2).2 ((pe e).1.mpr h)).mono fun _ _ he=>he.elim (fun ⟨s,he,hR⟩=> .inl ⟨s,he,hR⟩) .inr
theorem yH (t u:Ty)(pl:Ah)(args:List Value){R:t.T->u.T->World->Prop}(hf:prog.funcs[f]?=some fn)(e:(cM prog ⟨FF,Fu,PR⟩ pl fn args w [t,u] (fun s w=>R s.1 s.2 w),sd fn args)=(S,true):=by kernel_rfl)(h:S):P2 t.v u.v f args.toArray w R PR:=
 (GM okF De hf (Tg (pe e).2).1 (Tg (pe e).2).2 ((pe e).1.mpr h)).mono fun _ _ he=>he.elim (fun ⟨s,he,hR⟩=> .inl ⟨s.1,s.2,he,hR⟩) .inr
end
end
set_option maxRecDepth 100000
section
open Sh
def kE (n1:Int):=K1 Value.bool 118 #[.int .i64 n1]
def kH (s1:ByteArray)(Hz:ByteArray):=K1 Value.string 155 #[.string s1,.string Hz]
def Xu (n1:Int)(Aw:Int):=K1 Value.string 168 #[.int .i64 n1,.int .i64 Aw]
def kI (n1:Int):=K1 Value.string 146 #[.int .i64 n1]
def Dd (n1:Option Addr)(Ec:Option Addr)(u:Option Value)(w:World)(R:Q0):Prop:=Df prog 85 #[.pointer n1,.pointer Ec] u w R
theorem Dd.mono{n1:Option Addr}{Ec:Option Addr}{u:Option Value}{w:World}{R R':World->Prop}(h:Dd n1 Ec u w R)(hr:∀w',R w'->R' w'):Dd n1 Ec u w R':=
 CallsD.mono h fun _ _ _ ⟨h1,h2,h3⟩=>⟨h1,h2,hr _ h3⟩
def nx (l1:AA):=P0 86 #[AA.v l1]
def kJ (s1:ByteArray)(cN:ByteArray):=K1 Value.bool 127 #[.string s1,.string cN]
def yI (s1:ByteArray)(PI:ByteArray):=K1 vi 200 #[.string s1,.string PI]
def yJ (s1:ByteArray)(Fi:ByteArray):=K3 Value.string Value.string Value.bool 177 #[.string s1,.string Fi]
def qZ (s1:ByteArray)(Fi:ByteArray):=K3 Value.string Value.string Value.bool 153 #[.string s1,.string Fi]
def qc (s1:ByteArray)(Hz:ByteArray):=K1 Value.string 151 #[.string s1,.string Hz]
def kK (s1:ByteArray):=K1 Value.bool 154 #[.string s1]
def kL (s1:ByteArray):=K2 vi vi 136 #[.string s1]
def qe (n1:Int):=K2 Value.string vi 125 #[.int .i64 n1]
def C87 (n1:Int):=P1 vi 87 #[.int .i64 n1]
def C88 (n1:Int)(EM:Int):=K1 vi 88 #[.int .i64 n1,.int .i64 EM]
def C60 (l1:AA):=K2 vi vi 60 #[AA.v l1]
def yF (n1:Int)(w:World)(R:Q1 Bool):Prop:=Br (decide (n1>=(-1073741824))) (R (decide (n1<=1073741824)) w) (R false w)
theorem AET (n1 w R):yF n1 w R->kE n1 w R:=B2 ob (.q (.q .l)) [.int .i64 n1] Tryz.func118
def cO (Aw:Int)(R:Q1 ByteArray)(I5:Q1 (Int×ByteArray))(s3:Int×ByteArray)(z4:World):Prop:=Br (decide (s3.1>0)) (Nw z4 (.cells #[.int .u8 (wrap .u8 (wrap .i64 (48+(Int.tmod s3.1 10))))] 5) fun z6=>Rn prog (convert 76 9 (AA.v ⟨some ⟨z4.heap.size,0,none⟩,1,1⟩)) z6 Value.string fun x7 z8=>(((x7).size+(s3.2).size:Nat):Int)<=IntKind.i64.max/\I5 (wrap .i64 (Int.tdiv s3.1 10),x7++s3.2) z8) (Br (decide ((((s3.2).size:Nat):Int)<Aw)) (Nw z4 (.cells #[.int .u8 (wrap .u8 (wrap .i64 (48+(Int.tmod s3.1 10))))] 5) fun z9=>Rn prog (convert 76 9 (AA.v ⟨some ⟨z4.heap.size,0,none⟩,1,1⟩)) z9 Value.string fun EB Dg=>(((EB).size+(s3.2).size:Nat):Int)<=IntKind.i64.max/\I5 (wrap .i64 (Int.tdiv s3.1 10),EB++s3.2) Dg) (R s3.2 z4))
def yK (n1:Int)(Aw:Int)(w:World)(R:Q1 ByteArray):Prop:=Lp (σ:=Int×ByteArray) (cO Aw R) (n1,(⟨#[]⟩:cI)) w
theorem AEc (n1 Aw w R):yK n1 Aw w R->Xu n1 Aw w R:=B2 os (.q (.q (.s (.b (.o [(0,oi),(5,os)] [1] (.s (.q (.c .l .l)) (.b (.q .r))))) (.q .l)))) [.int .i64 n1,.int .i64 Aw] Tryz.func168
def yL (n1:Int)(w:World)(R:Q1 ByteArray):Prop:=kE n1 w fun r4 z5=>Br (!r4) (R (⟨#[]⟩:cI) z5) (Br (decide (n1<0)) (Xu (wrap .i64 (Int.tdiv (wrap .i64 (0-n1)) 10000)) 1 z5 fun r6 z7=>Xu (Int.tmod (wrap .i64 (0-n1)) 10000) 4 z7 fun r8 z9=>kH r8 (⟨#[48]⟩:cI) z9 fun Ng Dg=>Br (Ng.toList==(⟨#[]⟩:cI).toList) (((((⟨#[45]⟩:cI)).size+(r6).size:Nat):Int)<=IntKind.i64.max/\((((⟨#[45]⟩:cI)++r6).size+((⟨#[46]⟩:cI)).size:Nat):Int)<=IntKind.i64.max/\(((((⟨#[45]⟩:cI)++r6)++(⟨#[46]⟩:cI)).size+((⟨#[48]⟩:cI)).size:Nat):Int)<=IntKind.i64.max/\R ((((⟨#[45]⟩:cI)++r6)++(⟨#[46]⟩:cI))++(⟨#[48]⟩:cI)) Dg) (((((⟨#[45]⟩:cI)).size+(r6).size:Nat):Int)<=IntKind.i64.max/\((((⟨#[45]⟩:cI)++r6).size+((⟨#[46]⟩:cI)).size:Nat):Int)<=IntKind.i64.max/\(((((⟨#[45]⟩:cI)++r6)++(⟨#[46]⟩:cI)).size+(Ng).size:Nat):Int)<=IntKind.i64.max/\R ((((⟨#[45]⟩:cI)++r6)++(⟨#[46]⟩:cI))++Ng) Dg)) (Xu (wrap .i64 (Int.tdiv n1 10000)) 1 z5 fun Jx DF=>Xu (Int.tmod n1 10000) 4 DF fun RE EN=>kH RE (⟨#[48]⟩:cI) EN fun H9 JE=>Br (H9.toList==(⟨#[]⟩:cI).toList) ((((⟨#[]⟩:cI).size+(Jx).size:Nat):Int)<=IntKind.i64.max/\((((⟨#[]⟩:cI)++Jx).size+((⟨#[46]⟩:cI)).size:Nat):Int)<=IntKind.i64.max/\(((((⟨#[]⟩:cI)++Jx)++(⟨#[46]⟩:cI)).size+((⟨#[48]⟩:cI)).size:Nat):Int)<=IntKind.i64.max/\R ((((⟨#[]⟩:cI)++Jx)++(⟨#[46]⟩:cI))++(⟨#[48]⟩:cI)) JE) ((((⟨#[]⟩:cI).size+(Jx).size:Nat):Int)<=IntKind.i64.max/\((((⟨#[]⟩:cI)++Jx).size+((⟨#[46]⟩:cI)).size:Nat):Int)<=IntKind.i64.max/\(((((⟨#[]⟩:cI)++Jx)++(⟨#[46]⟩:cI)).size+(H9).size:Nat):Int)<=IntKind.i64.max/\R ((((⟨#[]⟩:cI)++Jx)++(⟨#[46]⟩:cI))++H9) JE)))
theorem AEd (n1 w R):yL n1 w R->kI n1 w R:=B2 os (.q (.s (.q (.c (.q .l) .l)) (.q (.s (.q (.c .r .l)) (.q (.q (.s (.q (.c .r .l)) (.q .l)))))))) [.int .i64 n1] Tryz.func146
def Hy (n1:Option Addr)(Ec:Option Addr)(w:World)(R:Q0):Prop:=R w
def cP:Ah:=(.b (.q (.c .r (.q (.c (.q .r) (.q .r))))))
theorem PG (n1:Option Addr)(Ec:Option Addr)(w:World)(R:Q0)(h:Hy n1 Ec w R):Dd n1 Ec none w R:=by
 have e:KY prog FF Fu cP Tryz.f85 [.pointer n1,.pointer Ec] none w R=Hy n1 Ec w R:=by kernel_rfl
 exact BU okF De Tryz.func85 (by kernel_rfl) (by kernel_rfl) (e.mpr h)
def Hw (n1:Option Addr)(Ec:Option Addr)(u3:Int)(w:World)(R:Q0):Prop:=Nn n1 fun a4=>St w a4 (.int .i64 0) fun z5=>Nn Ec fun a6=>St z5 a6 (.int .i64 u3) fun z7=>R z7
def Xv:Ah:=(.b (.q (.c .r (.q (.c (.q .r) (.q .r))))))
theorem RB (n1:Option Addr)(Ec:Option Addr)(u3:Int)(w:World)(R:Q0)(h:Hw n1 Ec u3 w R):Dd n1 Ec (some (.iface 184 (.int .i64 u3))) w R:=by
 have e:KY prog FF Fu Xv Tryz.f85 [.pointer n1,.pointer Ec] (some (.iface 184 (.int .i64 u3))) w R=Hw n1 Ec u3 w R:=by kernel_rfl
 exact BU okF De Tryz.func85 (by kernel_rfl) (by kernel_rfl) (e.mpr h)
def ny (l1:AA)(R:Q0)(PR:Q1 Value)(I4:Q1 Int)(s2:Int)(z3:World):Prop:=Br (decide (s2<(l1.len:Int))) (0<=s2/\s2<(l1.len:Nat)/\Nn l1.p fun a5=>Ld z3 (a5.add ((s2).toNat*1)) (Value.int .i64) fun x6=>kE x6 z3 fun r7 z8=>Br (!r7) (PR (.iface 184 (.int .i64 2)) z8) (I4 (wrap .i64 (s2+1)) z8)) (R z3)
def S86 (l1:AA)(w:World)(R:Q0)(PR:Q1 Value):Prop:=Lp (σ:=Int) (ny l1 R PR) 0 w
theorem T86 (l1 w R PR):S86 l1 w R PR->nx l1 w R PR:=Zf (.q (.b (.o [(6,oi)] [4,5] (.q (.s (.c .l .l) (.s (.b (.q (.q (.c .r .l)))) .r)))))) [AA.v l1] Tryz.func86
def yM (s1:ByteArray)(Fi:ByteArray)(w:World)(R:Q3 ByteArray ByteArray Bool):Prop:=yI s1 Fi w fun r3 z4=>Br (decide (r3>=0)) (0<=r3/\r3<=(s1.size:Int)/\0<=(wrap .i64 (r3+(Fi.size:Int)))/\(wrap .i64 (r3+(Fi.size:Int)))<=(s1.size:Int)/\R (s1.extract 0 ((r3).toNat)) (s1.extract ((wrap .i64 (r3+(Fi.size:Int))).toNat) ((s1).size)) true z4.drew) (R s1 (⟨#[]⟩:cI) false z4)
theorem AEe (s1 Fi w R):yM s1 Fi w R->yJ s1 Fi w R:=mk3 os os ob (.q (.s (.q (.q (.c (.s (.BY .still) .l) .l))) (.q .l))) [.string s1,.string Fi] Tryz.func177
def yN (s1:ByteArray)(Fi:ByteArray)(w:World)(R:Q3 ByteArray ByteArray Bool):Prop:=yJ s1 Fi w fun r3 r4 r5 z6=>R r3 r4 r5 z6
theorem AEf (s1 Fi w R):yN s1 Fi w R->qZ s1 Fi w R:=mk3 os os ob (.q (.q .l)) [.string s1,.string Fi] Tryz.func153
def yO (s1:ByteArray)(w:World)(R:Q1 Bool):Prop:=qc s1 (⟨#[48,49,50,51,52,53,54,55,56,57]⟩:cI) w fun r2 z3=>R (r2.toList==(⟨#[]⟩:cI).toList) z3
theorem AEg (s1 w R):yO s1 w R->kK s1 w R:=B2 ob (.q (.q .l)) [.string s1] Tryz.func154
def OF (w:World)(z2:World)(R:Q2 Int Int)(x5:Value)(z4:World):Prop:=Dd (some ⟨w.heap.size,0,none⟩) (some ⟨z2.heap.size,0,none⟩) (some x5) z4 fun z6=>Ld z6 ⟨w.heap.size,0,none⟩ (Value.int .i64) fun x7=>Ld z6 ⟨z2.heap.size,0,none⟩ (Value.int .i64) fun x8=>R x7 x8 z6
def HC (w:World)(z2:World)(H9:Bool)(R:Q2 Int Int)(RF:Unit)(Ed:World):Prop:=Br H9 (Ld Ed ⟨w.heap.size,0,none⟩ (Value.int .i64) fun Nh=>St Ed ⟨w.heap.size,0,none⟩ (.int .i64 (wrap .i64 (0-Nh))) fun z119=>Ld z119 ⟨w.heap.size,0,none⟩ (Value.int .i64) fun RG=>Nw z119 (.cells #[.int .i64 RG] 2) fun cQ=>nx (⟨some ⟨z119.heap.size,0,none⟩,1,1⟩:AA) cQ (fun Lc=>Ld Lc ⟨w.heap.size,0,none⟩ (Value.int .i64) fun CR=>St Lc ⟨w.heap.size,0,none⟩ (.int .i64 CR) fun z124=>St z124 ⟨z2.heap.size,0,none⟩ (.int .i64 0) fun KZ=>Dd (some ⟨w.heap.size,0,none⟩) (some ⟨z2.heap.size,0,none⟩) none KZ fun UJ=>Ld UJ ⟨w.heap.size,0,none⟩ (Value.int .i64) fun IA=>Ld UJ ⟨z2.heap.size,0,none⟩ (Value.int .i64) fun Fy=>R IA Fy UJ) (OF w z2 R)) (Ld Ed ⟨w.heap.size,0,none⟩ (Value.int .i64) fun UK=>Nw Ed (.cells #[.int .i64 UK] 2) fun z130=>nx (⟨some ⟨Ed.heap.size,0,none⟩,1,1⟩:AA) z130 (fun z131=>Ld z131 ⟨w.heap.size,0,none⟩ (Value.int .i64) fun UL=>St z131 ⟨w.heap.size,0,none⟩ (.int .i64 UL) fun IB=>St IB ⟨z2.heap.size,0,none⟩ (.int .i64 0) fun Ka=>Dd (some ⟨w.heap.size,0,none⟩) (some ⟨z2.heap.size,0,none⟩) none Ka fun CG=>Ld CG ⟨w.heap.size,0,none⟩ (Value.int .i64) fun RH=>Ld CG ⟨z2.heap.size,0,none⟩ (Value.int .i64) fun UM=>R RH UM CG) (OF w z2 R))
def Le (w:World)(z2:World)(H9:Bool)(Cp:ByteArray)(z70:World)(R:Q2 Int Int)(I97:Q1 Unit)(s95:Unit)(Xw:World):Prop:=Nx Xw ⟨z70.heap.size,0,none⟩ (fun (i98:Int) (AEh:Int) (IC:World)=>Ld IC ⟨w.heap.size,0,none⟩ (Value.int .i64) fun Xx=>Lt (wrap .i64 ((wrap .i64 (10*Xx))+(wrap .i64 (wrap .i32 (AEh-48))))) fun (PJ:Int)=>St IC ⟨w.heap.size,0,none⟩ (.int .i64 PJ) fun Fj=>I97 () Fj) (0<=(4:Int)/\(4:Int)<=(((Cp++(⟨#[48,48,48,48,48]⟩:cI)).size:Nat):Int)/\Lt ((Cp++(⟨#[48,48,48,48,48]⟩:cI)).extract (((4:Int)).toNat) ((Cp++(⟨#[48,48,48,48,48]⟩:cI)).size)) fun (Lf:ByteArray)=>kH Lf (⟨#[48]⟩:cI) Xw fun kM Dh=>As (HC w z2 H9 R) fun (Lg:Q1 Unit)=>Br H9 (Lt (!((Op.bytesLess kM.toList (⟨#[53]⟩:cI).toList)||(kM.toList==(⟨#[53]⟩:cI).toList))) fun (Kb:Bool)=>Br Kb (Ld Dh ⟨w.heap.size,0,none⟩ (Value.int .i64) fun Lh=>St Dh ⟨w.heap.size,0,none⟩ (.int .i64 (wrap .i64 (Lh+1))) fun z141=>Lg () z141) (Br (!H9) (Br (!(Op.bytesLess kM.toList (⟨#[53]⟩:cI).toList)) (Ld Dh ⟨w.heap.size,0,none⟩ (Value.int .i64) fun RJ=>St Dh ⟨w.heap.size,0,none⟩ (.int .i64 (wrap .i64 (RJ+1))) fun z143=>Lg () z143) (Lg () Dh)) (Lg () Dh))) (Br (!H9) (Br (!(Op.bytesLess kM.toList (⟨#[53]⟩:cI).toList)) (Ld Dh ⟨w.heap.size,0,none⟩ (Value.int .i64) fun Xy=>St Dh ⟨w.heap.size,0,none⟩ (.int .i64 (wrap .i64 (Xy+1))) fun z145=>Lg () z145) (Lg () Dh)) (Lg () Dh)))
def Li (w:World)(z2:World)(H9:Bool)(Cp:ByteArray)(z49:World)(R:Q2 Int Int)(I71:Q1 Unit)(ji:Unit)(z70:World):Prop:=Nx z70 ⟨z49.heap.size,0,none⟩ (fun (i72:Int) (AEi:Int) (Gg:World)=>Ld Gg ⟨w.heap.size,0,none⟩ (Value.int .i64) fun Zg=>Lt (wrap .i64 ((wrap .i64 (10*Zg))+(wrap .i64 (wrap .i32 (AEi-48))))) fun (Ni:Int)=>St Gg ⟨w.heap.size,0,none⟩ (.int .i64 Ni) fun Xz=>Ld Xz ⟨w.heap.size,0,none⟩ (Value.int .i64) fun x78=>Br (decide (x78>1073741824)) (St Xz ⟨w.heap.size,0,none⟩ (.int .i64 0) fun Cb=>St Cb ⟨z2.heap.size,0,none⟩ (.int .i64 2) fun z80=>Dd (some ⟨w.heap.size,0,none⟩) (some ⟨z2.heap.size,0,none⟩) none z80 fun Th=>Ld Th ⟨w.heap.size,0,none⟩ (Value.int .i64) fun Ti=>Ld Th ⟨z2.heap.size,0,none⟩ (Value.int .i64) fun RL=>R Ti RL Th) (I71 () Xz)) ((((Cp).size+((⟨#[48,48,48,48,48]⟩:cI)).size:Nat):Int)<=IntKind.i64.max/\0<=(4:Int)/\(4:Int)<=(((Cp++(⟨#[48,48,48,48,48]⟩:cI)).size:Nat):Int)/\Nw z70 (.stringIter ((Cp++(⟨#[48,48,48,48,48]⟩:cI)).extract 0 (((4:Int)).toNat)) 0) fun Tj=>Lp (σ:=Unit) (Le w z2 H9 Cp z70 R) () Tj)
def Lj (w:World)(z2:World)(H9:Bool)(R:Q2 Int Int)(s20:ByteArray)(z21:World):Prop:=qZ s20 (⟨#[46]⟩:cI) z21 fun FB Cp qf Jy=>(((FB).size+(Cp).size:Nat):Int)<=IntKind.i64.max/\Br ((FB++Cp).toList==(⟨#[]⟩:cI).toList) (St Jy ⟨w.heap.size,0,none⟩ (.int .i64 0) fun Lk=>St Lk ⟨z2.heap.size,0,none⟩ (.int .i64 3) fun z37=>Dd (some ⟨w.heap.size,0,none⟩) (some ⟨z2.heap.size,0,none⟩) none z37 fun PK=>Ld PK ⟨w.heap.size,0,none⟩ (Value.int .i64) fun PM=>Ld PK ⟨z2.heap.size,0,none⟩ (Value.int .i64) fun NS=>R PM NS PK) (kK FB Jy fun r41 Gh=>Br (!r41) (St Gh ⟨w.heap.size,0,none⟩ (.int .i64 0) fun V9=>St V9 ⟨z2.heap.size,0,none⟩ (.int .i64 3) fun I0=>Dd (some ⟨w.heap.size,0,none⟩) (some ⟨z2.heap.size,0,none⟩) none I0 fun Qo=>Ld Qo ⟨w.heap.size,0,none⟩ (Value.int .i64) fun Gi=>Ld Qo ⟨z2.heap.size,0,none⟩ (Value.int .i64) fun Gj=>R Gi Gj Qo) (kK Cp Gh fun r48 z49=>Br (!r48) (St z49 ⟨w.heap.size,0,none⟩ (.int .i64 0) fun HE=>St HE ⟨z2.heap.size,0,none⟩ (.int .i64 3) fun z51=>Dd (some ⟨w.heap.size,0,none⟩) (some ⟨z2.heap.size,0,none⟩) none z51 fun cR=>Ld cR ⟨w.heap.size,0,none⟩ (Value.int .i64) fun Ll=>Ld cR ⟨z2.heap.size,0,none⟩ (Value.int .i64) fun X0=>R Ll X0 cR) (Nw z49 (.stringIter FB 0) fun X1=>Lp (σ:=Unit) (Li w z2 H9 Cp z49 R) () X1)))
def kN (s1:ByteArray)(w:World)(R:Q2 Int Int):Prop:=Nw w (.cells #[.int .i64 0] 2) fun z2=>Nw z2 (.cells #[.int .i64 0] 28) fun z3=>Br (decide ((s1.size:Int)>40)) (St z3 ⟨w.heap.size,0,none⟩ (.int .i64 0) fun Dg=>St Dg ⟨z2.heap.size,0,none⟩ (.int .i64 3) fun z12=>Dd (some ⟨w.heap.size,0,none⟩) (some ⟨z2.heap.size,0,none⟩) none z12 fun DF=>Ld DF ⟨w.heap.size,0,none⟩ (Value.int .i64) fun Nj=>Ld DF ⟨z2.heap.size,0,none⟩ (Value.int .i64) fun NT=>R Nj NT DF) (kJ s1 (⟨#[45]⟩:cI) z3 fun H9 JE=>As (Lj w z2 H9 R) fun (cS:Q1 ByteArray)=>Br H9 (0<=(1:Int)/\(1:Int)<=(s1.size:Int)/\cS (s1.extract (((1:Int)).toNat) ((s1).size)) JE) (kJ s1 (⟨#[43]⟩:cI) JE fun qg z148=>Br qg (0<=(1:Int)/\(1:Int)<=(s1.size:Int)/\cS (s1.extract (((1:Int)).toNat) ((s1).size)) z148) (cS s1 z148)))
def yP:Ee:=(.pre (.BY .seq) (.here [2,3] (.seq (.q (.cond (.q .leaf) .leaf)) (.q (.join [(0,(.one .str))] [2,3,4] (.q (.cond (.BY .seq) .leaf)) (.q (.seq (.q (.cond (.q .leaf) .leaf)) (.seq (.q (.block (.loop [] [2,3,4,6,46] (.q (.seq (.cond .leaf .leaf) (.block (.q (.q (.q (.cond (.q .leaf) .leaf)))))))))) (.q (.seq (.q (.block (.loop [] [2,3,4,6,62] (.q (.seq (.cond .leaf .leaf) (.block (.q (.BY .seq)))))))) (.q (.join [] [2,3,4] (.q (.cond (.BY .seq) .leaf)) (.seq (.q (.cond (.BY .seq) .leaf)) (.q (.q .leaf)))))))))))))))
theorem yQ (s1:ByteArray)(w:World)(R:Q2 Int Int)(h:kN s1 w R):kL s1 w R:=by
 have e:Nk prog FF Fu (fun _ _=>False) yP Tryz.f136 [.string s1] w [(.one (.int .i64)),(.one (.int .i64))] (fun s w=>R s.1 s.2 w)=kN s1 w R:=by kernel_rfl
 exact (Cc okF De Tryz.func136 (by kernel_rfl) (by kernel_rfl) (e.mpr h)).mono fun _ _ ⟨s,he,hR⟩=>⟨s.1,s.2,he,hR⟩
def yR (n1:Int)(w:World)(R:Q2 ByteArray Int):Prop:=Br (decide (n1<(-1073741824))) (R (⟨#[]⟩:cI) 2 w) (Br (decide (n1>1073741824)) (R (⟨#[]⟩:cI) 2 w) (kI n1 w fun r2 z3=>R r2 0 z3))
theorem AEl (n1 w R):yR n1 w R->qe n1 w R:=PH os oi (.q (.s (.q (.c (.q .l) .l)) (.q .l))) [.int .i64 n1] Tryz.func125
def S87 (n1:Int)(w:World)(R:Q1 Int)(PR:Q1 Value):Prop:=Nw w (.cells #[.int .i64 n1] 2) fun z2=>nx (⟨some ⟨w.heap.size,0,none⟩,1,1⟩:AA) z2 (fun z3=>R n1 z3) PR
theorem T87 (n1 w R PR):S87 n1 w R PR->C87 n1 w R PR:=Jw oi (.q (.q (.q .l))) [.int .i64 n1] Tryz.func87
def S88 (n1:Int)(EM:Int)(w:World)(R:Q1 Int):Prop:=EM≠0/\EM≠0/\Br (decide ((Int.tmod n1 EM)<0)) (Lt (decide ((wrap .i64 ((Int.tmod n1 EM)+EM))>=(wrap .i64 (EM-(wrap .i64 ((Int.tmod n1 EM)+EM)))))) fun (x3:Bool)=>Br x3 (R (wrap .i64 ((wrap .i64 ((wrap .i64 (Int.tdiv n1 EM))-1))+1)) w.drew) (R (wrap .i64 ((wrap .i64 (Int.tdiv n1 EM))-1)) w.drew)) (Br (decide ((Int.tmod n1 EM)>=(wrap .i64 (EM-(Int.tmod n1 EM))))) (R (wrap .i64 ((wrap .i64 (Int.tdiv n1 EM))+1)) w.drew) (R (wrap .i64 (Int.tdiv n1 EM)) w.drew))
theorem T88 (n1 EM w R):S88 n1 EM w R->C88 n1 EM w R:=B2 oi (.q (.s (.BY .still) (.s (.q (.c .r .l)) (.s (.q (.c .r .l)) (.q .l))))) [.int .i64 n1,.int .i64 EM] Tryz.func88
def kG (w:World)(z2:World)(R:Q2 Int Int)(x5:Value)(z4:World):Prop:=Dd (some ⟨w.heap.size,0,none⟩) (some ⟨z2.heap.size,0,none⟩) (some x5) z4 fun z6=>Ld z6 ⟨w.heap.size,0,none⟩ (Value.int .i64) fun x7=>Ld z6 ⟨z2.heap.size,0,none⟩ (Value.int .i64) fun x8=>R x7 x8 z6
def nz (w:World)(l1:AA)(z2:World)(R:Q2 Int Int)(I35:Q1 Int)(Zh:Int)(FC:World):Prop:=Br (decide (Zh<(l1.len:Int))) (Ld FC.drew ⟨w.heap.size,0,none⟩ (Value.int .i64) fun Hl=>0<=Zh/\Zh<(l1.len:Nat)/\Nn l1.p fun a37=>Ld FC.drew (a37.add ((Zh).toNat*1)) (Value.int .i64) fun I1=>0<=(wrap .i64 (Zh+1))/\(wrap .i64 (Zh+1))<(l1.len:Nat)/\Nn l1.p fun qh=>Ld FC.drew (qh.add ((wrap .i64 (Zh+1)).toNat*1)) (Value.int .i64) fun NS=>St FC.drew ⟨w.heap.size,0,none⟩ (.int .i64 (wrap .i64 (Hl+(wrap .i64 (I1*NS))))) fun Qp=>I35 (wrap .i64 (Zh+2)) Qp) (Ld FC ⟨w.heap.size,0,none⟩ (Value.int .i64) fun K7=>C88 K7 10000 FC fun r43 I0=>C87 r43 I0 (fun cT z46=>St z46 ⟨w.heap.size,0,none⟩ (.int .i64 cT) fun DY=>St DY ⟨z2.heap.size,0,none⟩ (.int .i64 0) fun cU=>Dd (some ⟨w.heap.size,0,none⟩) (some ⟨z2.heap.size,0,none⟩) none cU fun z49=>Ld z49 ⟨w.heap.size,0,none⟩ (Value.int .i64) fun Jz=>Ld z49 ⟨z2.heap.size,0,none⟩ (Value.int .i64) fun NU=>R Jz NU z49) (kG w z2 R))
def S60 (l1:AA)(w:World)(R:Q2 Int Int):Prop:=Nw w (.cells #[.int .i64 0] 2) fun z2=>Nw z2 (.cells #[.int .i64 0] 28) fun z3=>Br ((Int.tmod (l1.len:Int) 2) !=0) (St z3 ⟨w.heap.size,0,none⟩ (.int .i64 0) fun DF=>St DF ⟨z2.heap.size,0,none⟩ (.int .i64 1) fun AM=>Dd (some ⟨w.heap.size,0,none⟩) (some ⟨z2.heap.size,0,none⟩) none AM fun EN=>Ld EN ⟨w.heap.size,0,none⟩ (Value.int .i64) fun GL=>Ld EN ⟨z2.heap.size,0,none⟩ (Value.int .i64) fun Jv=>R GL Jv EN) (Br (decide ((l1.len:Int)>8)) (St z3 ⟨w.heap.size,0,none⟩ (.int .i64 0) fun DO=>St DO ⟨z2.heap.size,0,none⟩ (.int .i64 1) fun Bz=>Dd (some ⟨w.heap.size,0,none⟩) (some ⟨z2.heap.size,0,none⟩) none Bz fun z20=>Ld z20 ⟨w.heap.size,0,none⟩ (Value.int .i64) fun Hm=>Ld z20 ⟨z2.heap.size,0,none⟩ (Value.int .i64) fun J0=>R Hm J0 z20) (nx l1 z3 (fun D0=>Lp (σ:=Int) (nz w l1 z2 R) 0 D0) (kG w z2 R)))
def AEn:Ee:=(.pre (.BY .seq) (.here [2,3] (.seq (.q (.cond (.q .leaf) .leaf)) (.q (.seq (.q (.block (.loop [(4,(.one (.int .i64)))] [0,2,3] (.seq (.q (.cond .leaf .leaf)) (.seq (.block (.BY (.tail 12))) (.BY .seq)))))) (.q .leaf))))))
theorem T60 (l1:AA)(w:World)(R:Q2 Int Int)(h:S60 l1 w R):C60 l1 w R:=by
 have e:Nk prog FF Fu (fun _ _=>False) AEn Tryz.f60 [AA.v l1] w [(.one (.int .i64)),(.one (.int .i64))] (fun s w=>R s.1 s.2 w)=S60 l1 w R:=by kernel_rfl
 exact (Cc okF De Tryz.func60 (by kernel_rfl) (by kernel_rfl) (e.mpr h)).mono fun _ _ ⟨s,he,hR⟩=>⟨s.1,s.2,he,hR⟩
end
set_option maxRecDepth 512
namespace Fix
open Sh
def Dc (n:Int):Bool:=decide (-1073741824<=n/\n<=1073741824)
theorem A2 {n:Int}:Dc n=true↔-1073741824<=n/\n<=1073741824:=by simp[Dc]
theorem Lb {n:Int}:Dc n=false↔¬(-1073741824<=n/\n<=1073741824):=by
 unfold Dc;exact bM
def Q9 (n:Int):Int:=(n+5000)/10000
def Hv (l:List Int):Nat->Int
 |0=>0
 |k+1=>Hv l k+l.getD (2*k) 0*l.getD (2*k+1) 0
def Z8 (l:List Int):Prop:=∀i,i<l.length->Dc (l.getD i 0)=true
def Ca (l:List Int):Option Int:=if (l.all Dc)=true/\Dc (Q9 (Hv l (l.length/2)))=true then some (Q9 (Hv l (l.length/2)))else none
def UI (l:List Int):Int×Int:=if l.length%2≠0\/8<l.length then (0,1)else match Ca l with
 |some n=>(n,0)
 |none=>(0,2)
theorem K6 (l:List Int):(l.all Dc)=true↔Z8 l:=by
 rw[aJ];constructor
 ·intro h i hi;rw[aE,al hi];exact h _ (bH hi)
 ·intro h x hx;obtain ⟨i,hi,rfl⟩:=cq.1 hx;have:=h i hi;rw[aE,al hi]at this;exact this
theorem Z9 {a b:Int}(ha:-1073741824<=a/\a<=1073741824)(hb:-1073741824<=b/\b<=1073741824):-1152921504606846976<=a*b/\a*b<=1152921504606846976:=by
 have h:(a*b).natAbs=a.natAbs*b.natAbs:=Int.natAbs_mul a b;have h2:a.natAbs*b.natAbs<=1073741824*1073741824:=Nat.mul_le_mul (by omega) (by omega);omega
theorem V7 {l:List Int}:∀(k:Nat),2*k<=l.length->(∀i,i<2*k->Dc (l.getD i 0)=true)->-(1152921504606846976*(k:Int))<=Hv l k/\Hv l k<=1152921504606846976*(k:Int)
 |0,_,_=>by simp[Hv]
 |k+1,hk,h=>by
  have ih:=V7 k (by omega) fun i hi=>h i (by omega)
  have h1:=A2.1 (h (2*k) (by omega));have h2:=A2.1 (h (2*k+1) (by omega));have h3:=Z9 h1 h2;simp only[Hv];generalize l.getD (2*k) 0*l.getD (2*k+1) 0=p at h3⊢;omega
def DQ (w:World)(s:AA)(l:List Int):Prop:=s.len=l.length/\∀i,i<l.length->∃a,s.p=some a/\w.cell? (a.add i)=some (.int .i64 (l.getD i 0))
theorem DQ.AB{w w':World}{s:AA}{l:List Int}(h:DQ w s l)(he:Ext (fun _=>False) w w'):DQ w' s l:=
 ⟨h.1,fun i hi=>by obtain ⟨a,ha,hc⟩:=h.2 i hi;exact ⟨a,ha,he.B8 hc⟩⟩
theorem DQ.AF{F:Nat->Prop}{w w':World}{s:AA}{l:List Int}(h:DQ w s l)(he:Ext F w w')(hF:∀a,s.p=some a->¬F a.block):DQ w' s l:=
 ⟨h.1,fun i hi=>by
  obtain ⟨a,ha,hc⟩:=h.2 i hi;refine ⟨a,ha,?_⟩;have hb:(a.add i).block=a.block:=by unfold Addr.add;split<;>(try split)<;>rfl
  rw[he.cell (by rw[hb];rw[<-hb];exact Cs hc) (by rw[hb];exact hF a ha)];exact hc⟩
theorem DQ.of{w:World}{b n:Nat}{cs:Array Value}{t:TypeId}{l:List Int}(hb:AO w b cs t)(hn:n=l.length)(hc:∀i,i<l.length->cs[i]?=some (.int .i64 (l.getD i 0))):DQ w ⟨some ⟨b,0,none⟩,n,n⟩ l:=
 ⟨hn,fun i hi=>⟨_,rfl,by rw[add_lit,hb.cell,ah];exact hc i hi⟩⟩
theorem RA (n:Int)(w:World):kE n w fun r w1=>r=Dc n/\w1=w:=by
 refine AET _ _ _ ?_;unfold yF;refine Br.dec (fun h=>⟨?_,rfl⟩) fun h=>⟨?_,rfl⟩
 ·unfold Dc;exact decide_eq_decide.2 (by omega)
 ·exact (Lb.2 (by omega)).symm
def refused (e:Int):Value:= .iface 184 (.int .i64 e)
theorem GK {s:AA}{l:List Int}{w:World}(h:DQ w s l)(hl:l.length<=1099511627776):nx s w (fun w1=>w1=w/\Z8 l) fun v w1=>v=refused 2/\w1=w/\¬Z8 l:=by
 refine T86 _ _ _ _ ?_;unfold S86;have hn:=h.1;refine ⟨fun n st w1=>∃i:Nat,st=(i:Int)/\i<=l.length/\n=l.length-i/\w1=w/\∀j,j<i->Dc (l.getD j 0)=true,l.length,⟨0,rfl,by omega,rfl,rfl,fun j hj=>by omega⟩,?_⟩;rintro n st w1 ⟨i,rfl,hi,rfl,rfl,Az⟩;unfold ny;rw[hn];refine Br.dec (fun e=>?_) fun e=>⟨rfl,fun j hj=>Az j (by omega)⟩
 obtain ⟨a,ha,hc⟩:=h.2 i (by omega);rw[ha];refine ⟨by omega,by omega,Nn.of ⟨l.getD i 0,by rw[aF,bU];exact hc,(RA _ _).mono ?_⟩⟩;rintro r _ ⟨rfl,rfl⟩;cases hw:Dc (l.getD i 0)with
 |true=>
  refine BD (fun h=>by cases h) fun _=>⟨l.length-(i+1),by omega,i+1,by rw[AG (by omega)];rfl,by omega,rfl,rfl,fun j hj=>?_⟩
  by_cases KX:j=i
  ·rw[KX];exact hw
  ·exact Az j (by omega)
 |false=>exact BD (fun _=>⟨rfl,rfl,fun h=>by have:=h i (by omega);rw[hw]at this;cases this⟩) fun h=>by cases h
theorem an (n:Int)(w:World):C87 n w (fun r w1=>r=n/\Dc n=true/\Ext (fun _=>False) w w1) fun v w1=>v=refused 2/\Dc n=false/\Ext (fun _=>False) w w1:=by
 refine T87 _ _ _ _ ?_;unfold S87;refine (Hx.start w (fun _=>False)).nw fun w2 H=>?_
 refine (GK (l:=[n]) (DQ.of (H.get 0 rfl) rfl fun i hi=>?_) (by simp)).mono (fun w3 h=>?_) fun v w3 h=>?_
 ·have:i=0:=by simp at hi;omega
  subst this;rfl
 ·obtain ⟨rfl,ha⟩:=h;exact ⟨rfl,ha 0 (by simp),H.ext⟩
 ·obtain ⟨rfl,rfl,ha⟩:=h;refine ⟨rfl,?_,H.ext⟩;cases hw:Dc n with
  |false=>rfl
  |true=>
   refine absurd (fun i hi=>?_) ha;have:i=0:=by simp at hi;omega
   subst this;exact hw
theorem td (n:Int):10000*Int.tdiv n 10000+Int.tmod n 10000=n/\-10000<Int.tmod n 10000/\Int.tmod n 10000<10000/\(0<=n->0<=Int.tmod n 10000)/\(n<=0->Int.tmod n 10000<=0):=by
 rcases Int.le_total 0 n with h|h
 ·rw[PC h,PE h];omega
 ·obtain ⟨m,rfl⟩:∃m,n=-m:=⟨-n,by omega⟩
  rw[Int.neg_tdiv,Int.neg_tmod,PC (by omega),PE (by omega)];omega
theorem kF {n:Int}(hn:-5000000000000000000<=n/\n<=5000000000000000000):(if Int.tmod n 10000<0 then (if Int.tmod n 10000+10000>=10000-(Int.tmod n 10000+10000)then Int.tdiv n 10000-1+1 else Int.tdiv n 10000-1)else if Int.tmod n 10000>=10000-Int.tmod n 10000 then Int.tdiv n 10000+1 else Int.tdiv n 10000)=Q9 n:=by
 unfold Q9;have:=td n;split
 ·split<;>omega
 ·split<;>omega
theorem qX {n:Int}(hn:-5000000000000000000<=n/\n<=5000000000000000000)(w:World):C88 n 10000 w fun r w1=>r=Q9 n/\Ext (fun _=>False) w w1:=by
 refine T88 _ _ _ _ ?_;unfold S88;have he:Ext (fun _=>False) w w.drew:=(Ext.refl _ w).drew;have e:=kF hn;have:=td n;refine ⟨by omega,by omega,Br.dec (fun h=>?_) fun h=>?_⟩
 ·rw[aD h]at e;rw[AG (n:=Int.tmod n 10000+10000) (by omega),AG (n:=10000-(Int.tmod n 10000+10000)) (by omega),AG (n:=Int.tdiv n 10000) (by omega),AG (n:=Int.tdiv n 10000-1) (by omega),AG (n:=Int.tdiv n 10000-1+1) (by omega)];refine Lt.of (Br.dec (fun h2=>⟨?_,he⟩) fun h2=>⟨?_,he⟩)
  ·rw[aD h2]at e;exact e
  ·rw[az h2]at e;exact e
 ·rw[az h]at e;rw[AG (n:=10000-Int.tmod n 10000) (by omega),AG (n:=Int.tdiv n 10000) (by omega),AG (n:=Int.tdiv n 10000+1) (by omega)];refine Br.dec (fun h2=>⟨?_,he⟩) fun h2=>⟨?_,he⟩
  ·rw[aD h2]at e;exact e
  ·rw[az h2]at e;exact e
theorem cJ {l:List Int}(ha:Z8 l)(hn:Dc (Q9 (Hv l (l.length/2)))=true):Ca l=some (Q9 (Hv l (l.length/2))):=aD ⟨(K6 l).2 ha,hn⟩
theorem V8 {l:List Int}(h:¬Z8 l\/Dc (Q9 (Hv l (l.length/2)))=false):Ca l=none:=az fun h2=>by
 rcases h with h|h
 ·exact h ((K6 l).1 h2.1)
 ·rw[h2.2]at h;cases h
section
variable {w w0:World} {s:AA} {l:List Int}
theorem Ju (h:DQ w s l)(hl:l.length<=1099511627776):C60 s w fun r e w1=>(r,e)=UI l/\Ext (fun _=>False) w w1:=by
 refine T60 _ _ _ ?_;unfold S60;have hn:=h.1;have hp:∀a,s.p=some a->l=[]\/a.block<w.heap.size:=fun a ha=>by
  rcases Nat.eq_zero_or_pos l.length with h0|h0
  ·exact .inl (aT h0)
  ·obtain ⟨b,hb,hc⟩:=h.2 0 h0;rw[ha]at hb;cases hb;have:=Cs hc;refine .inr ?_;have hb:(a.add 0).block=a.block:=by unfold Addr.add;simp
   rw[hb]at this;exact this
 refine (Hx.start w (fun _=>False)).nw fun w2 H=>?_
 have hs:=H.size;have Av:=(H.get 0 rfl).lt;refine H.nw fun w3 H=>?_

 have PF:∀(cs1 cs2:Int) (w4:World),Hx w (fun _=>False) w4 [(w.heap.size,#[.int .i64 cs1],2),(w2.heap.size,#[.int .i64 cs2],28)]->(UI l=(0,2))->
   kG w w2 (fun r e w1=>(r,e)=UI l/\Ext (fun _=>False) w w1) (refused 2) w4:=fun cs1 cs2 w4 H hd=>by
  unfold kG;refine RB _ _ 2 _ _ ?_;unfold Hw;refine Nn.of (H.st 0 rfl (by simp) (.inr (aB _)) fun w5 H=>Nn.of (H.st 1 rfl (by simp) (.inr hs) fun w6 H=>H.ld 0 rfl rfl (H.ld 1 rfl rfl ⟨hd.symm,H.ext⟩)))
 have done:∀(r e:Int) (w4:World),Hx w (fun _=>False) w4 [(w.heap.size,#[.int .i64 r],2),(w2.heap.size,#[.int .i64 e],28)]->UI l=(r,e)->
   Dd (some (⟨w.heap.size,0,none⟩:Addr)) (some (⟨w2.heap.size,0,none⟩:Addr)) none w4 fun cK=>
    Ld cK (⟨w.heap.size,0,none⟩:Addr) (Value.int .i64) fun (GL:Int)=>
    Ld cK (⟨w2.heap.size,0,none⟩:Addr) (Value.int .i64) fun (Jv:Int)=>
    (GL,Jv)=UI l/\Ext (fun _=>False) w cK:=fun r e w4 H hd=>by
  refine PG _ _ _ _ ?_;unfold Hy;exact H.ld 0 rfl rfl (H.ld 1 rfl rfl ⟨hd.symm,H.ext⟩)
 rw[hn];have AEY:Int.tmod ((l.length:Nat):Int) 2=((l.length%2:Nat):Int):=by rw[PE (by omega)];rfl
 rw[AEY];refine Br.ne (fun e=>?_) fun e=>Br.dec (fun e2=>?_) fun e2=>?_
 ·exact H.st 0 rfl (by simp) (.inr (aB _)) fun w4 H=>H.st 1 rfl (by simp) (.inr hs) fun w5 H=>done 0 1 _ H (aD (.inl (by omega)))
 ·exact H.st 0 rfl (by simp) (.inr (aB _)) fun w4 H=>H.st 1 rfl (by simp) (.inr hs) fun w5 H=>done 0 1 _ H (aD (.inr (by omega)))
 have hdF:UI l=match Ca l with
  |some n=>(n,0)
  |none=>(0,2):=az (by omega)
 refine (GK (h.AB H.ext) hl).mono (fun w4 h4=>?_) fun v w4 h4=>?_
 case refine_2=>
  obtain ⟨rfl,rfl,ha⟩:=h4;exact PF _ _ _ H (by rw[hdF,V8 (.inl ha)])
 obtain ⟨rfl,ha⟩:=h4;refine ⟨fun n st w5=>∃k:Nat,st=((2*k:Nat):Int)/\2*k<=l.length/\n=l.length-2*k/\Hx w (fun _=>False) w5 [(w.heap.size,#[.int .i64 (Hv l k)],2),(w2.heap.size,#[.int .i64 0],28)],l.length,⟨0,rfl,by omega,rfl,H⟩,?_⟩;rintro n st w5 ⟨k,rfl,hk,rfl,H⟩;unfold nz;rw[hn];have hbd:=V7 k hk fun i hi=>ha i (by omega)
 refine Br.dec (fun e3=>?_) fun e3=>?_
 ·have HD:=H.drew;have RC:=h.AB HD.ext;obtain ⟨a,haa,qY⟩:=RC.2 (2*k) (by omega);obtain ⟨b,hbb,RD⟩:=RC.2 (2*k+1) (by omega);rw[haa]at hbb;cases hbb;rw[haa,AG (n:=((2*k:Nat):Int)+1) (by omega)];have h1:=A2.1 (ha (2*k) (by omega));have h2:=A2.1 (ha (2*k+1) (by omega));have h3:=Z9 h1 h2;have e1:(((2*k:Nat):Int)+1).toNat=2*k+1:=by omega
  refine HD.ld 0 rfl rfl ⟨by omega,by omega,Nn.of ⟨l.getD (2*k) 0,by rw[aF,bU];exact qY,by omega,by omega,Nn.of ⟨l.getD (2*k+1) 0,by rw[e1,bU];exact RD,?_⟩⟩⟩;dsimp only;rw[AG (n:=l.getD (2*k) 0*l.getD (2*k+1) 0) (by omega),AG (n:=Hv l k+l.getD (2*k) 0*l.getD (2*k+1) 0) (by omega)];exact HD.st 0 rfl (by simp) (.inr (aB _)) fun w6 H=>⟨l.length-2*(k+1),by omega,k+1,by rw[AG (by omega)];omega,by omega,rfl,H⟩
 ·have cL:l.length/2=k:=by omega
  have AEa:-5000000000000000000<=Hv l k/\Hv l k<=5000000000000000000:=by omega
  refine H.ld 0 rfl rfl ((qX AEa _).mono ?_);rintro r w6 ⟨rfl,he⟩;have H:=H.AB he;refine (an _ _).mono (fun r w7 h7=>?_) fun v w7 h7=>?_
  ·obtain ⟨rfl,hw,he⟩:=h7;have H:=H.AB he;exact H.st 0 rfl (by simp) (.inr (aB _)) fun w8 H=>H.st 1 rfl (by simp) (.inr hs) fun w9 H=>done _ 0 _ H (by rw[hdF,cJ ha (by rw[cL];exact hw),cL])
  ·obtain ⟨rfl,hw,he⟩:=h7;exact PF _ _ _ (H.AB he) (by rw[hdF,V8 (.inr (by rw[cL];exact hw))])
end
end Fix
set_option maxRecDepth 100000
section
open Sh
def C23 (m1:Option Addr):=K1 (α:=Option Addr×Option Addr×Option Addr×Option Addr×Option Addr×Option Addr) (vA [.ptr,.ptr,.ptr,.ptr,.ptr,.ptr]) 23 #[.pointer m1]
def yk (n1:Int):=K1 Value.bool 24 #[.int .i64 n1]
def C9 (m1:Int×Int×Int×Int×Int×Int):=K1 vi 9 #[.agg #[.int .i64 (m1.1),.int .i64 (m1.2.1),.int .i64 (m1.2.2.1),.int .i64 (m1.2.2.2.1),.int .i64 (m1.2.2.2.2.1),.int .i64 (m1.2.2.2.2.2)]]
def wo (x1:Value)(YM:Option Addr):=P0 33 #[x1,.pointer YM]
def RZ (c1:Addr)(c2:Addr)(u:Option Value)(w:World)(R:Q0):Prop:=Df prog 32 #[.pointer (some c1),.pointer (some c2)] u w R
theorem RZ.mono{c1:Addr}{c2:Addr}{u:Option Value}{w:World}{R R':World->Prop}(h:RZ c1 c2 u w R)(hr:∀w',R w'->R' w'):RZ c1 c2 u w R':=
 CallsD.mono h fun _ _ _ ⟨h1,h2,h3⟩=>⟨h1,h2,hr _ h3⟩
def wq (Ra:Int):=P0 34 #[.int .i64 Ra]
def oB (l1:AA):=P1 vi 35 #[AA.v l1]
def we (a1:Int×Int×Int×Int×Int×Int)(b2:Int×Int×Int×Int×Int×Int):=K2 (α:=Int×Int×Int×Int×Int×Int) (vA [ti,ti,ti,ti,ti,ti]) vi 14 #[.agg #[.int .i64 (a1.1),.int .i64 (a1.2.1),.int .i64 (a1.2.2.1),.int .i64 (a1.2.2.2.1),.int .i64 (a1.2.2.2.2.1),.int .i64 (a1.2.2.2.2.2)],.agg #[.int .i64 (b2.1),.int .i64 (b2.2.1),.int .i64 (b2.2.2.1),.int .i64 (b2.2.2.2.1),.int .i64 (b2.2.2.2.2.1),.int .i64 (b2.2.2.2.2.2)]]
def C5:=K1 (α:=Int×Int×Int×Int×Int×Int) (vA [ti,ti,ti,ti,ti,ti]) 5 #[]
def S23 (m1:Option Addr)(w:World)(R:Q1 (Option Addr×Option Addr×Option Addr×Option Addr×Option Addr×Option Addr)):Prop:=Nw w (.cells #[.pointer none,.pointer none,.pointer none,.pointer none,.pointer none,.pointer none] 71) fun z2=>Nn m1 fun a3=>Nn m1 fun a4=>Nn m1 fun a5=>Nn m1 fun a6=>Nn m1 fun a7=>Nn m1 fun a8=>St z2.drew ⟨w.heap.size,0,none⟩ (.pointer (some a3)) fun z9=>St z9 (.add ⟨w.heap.size,0,none⟩ 1) (.pointer (some (a4.add 1))) fun Ar=>St Ar (.add ⟨w.heap.size,0,none⟩ 2) (.pointer (some (a5.add 2))) fun Dg=>St Dg (.add ⟨w.heap.size,0,none⟩ 3) (.pointer (some (a6.add 3))) fun z12=>St z12 (.add ⟨w.heap.size,0,none⟩ 4) (.pointer (some (a7.add 4))) fun DF=>St DF (.add ⟨w.heap.size,0,none⟩ 5) (.pointer (some (a8.add 5))) fun AM=>Ld AM ⟨w.heap.size,0,none⟩ Value.pointer fun NT=>Ld AM (.add ⟨w.heap.size,0,none⟩ 1) Value.pointer fun GL=>Ld AM (.add ⟨w.heap.size,0,none⟩ 2) Value.pointer fun Jv=>Ld AM (.add ⟨w.heap.size,0,none⟩ 3) Value.pointer fun PU=>Ld AM (.add ⟨w.heap.size,0,none⟩ 4) Value.pointer fun HG=>Ld AM (.add ⟨w.heap.size,0,none⟩ 5) Value.pointer fun Gn=>R (NT,GL,Jv,PU,HG,Gn) AM
theorem T23 (m1 w R):S23 m1 w R->C23 m1 w R:=B2 (.agg [.ptr,.ptr,.ptr,.ptr,.ptr,.ptr]) (.q (.s (.BY (.tail 18)) .l)) [.pointer m1] Tryz.func23
def S24 (n1:Int)(w:World)(R:Q1 Bool):Prop:=Br (decide (n1<(-1073741824))) (R true w) (R (decide (n1>1073741824)) w)
theorem T24 (n1 w R):S24 n1 w R->yk n1 w R:=B2 ob (.q (.q .l)) [.int .i64 n1] Tryz.func24
def ym (r3:Option Addr×Option Addr×Option Addr×Option Addr×Option Addr×Option Addr)(R:Q1 Int)(I7:Q1 Int)(s5:Int)(z6:World):Prop:=Br (decide (s5<6)) (0<=s5/\s5<(6:Nat)/\∃x8:Option Addr,(#[.pointer r3.1,.pointer r3.2.1,.pointer r3.2.2.1,.pointer r3.2.2.2.1,.pointer r3.2.2.2.2.1,.pointer r3.2.2.2.2.2]:Array Value)[(s5).toNat*1]?=some (.pointer x8)/\Nn x8 fun a9=>Ld z6 a9 (Value.int .i64) fun EB=>yk EB z6 fun Lx z12=>Br Lx (R 2 z12) (I7 (wrap .i64 (s5+1)) z12)) (R 0 z6)
def S9 (m1:Int×Int×Int×Int×Int×Int)(w:World)(R:Q1 Int):Prop:=Nw w (.cells #[.int .i64 (m1.1),.int .i64 (m1.2.1),.int .i64 (m1.2.2.1),.int .i64 (m1.2.2.2.1),.int .i64 (m1.2.2.2.2.1),.int .i64 (m1.2.2.2.2.2)] 24) fun z2=>C23 (some ⟨w.heap.size,0,none⟩) z2 fun r3 z4=>Lp (σ:=Int) (ym r3 R) 0 z4
theorem T9 (m1 w R):S9 m1 w R->C9 (m1.1,m1.2.1,m1.2.2.1,m1.2.2.2.1,m1.2.2.2.2.1,m1.2.2.2.2.2) w R:=B2 oi (.q (.s (.q (.b (.o [(6,oi)] [5] (.q (.s (.c .l .l) (.s (.b (.q (.q (.c (.q .l) .l)))) .r)))))) (.q .l))) [.agg #[.int .i64 (m1.1),.int .i64 (m1.2.1),.int .i64 (m1.2.2.1),.int .i64 (m1.2.2.2.1),.int .i64 (m1.2.2.2.2.1),.int .i64 (m1.2.2.2.2.2)]] Tryz.func9
def WL (YM:Option Addr)(w:World)(R:Q0)(PR:Q1 Value):Prop:=R w
theorem kq (YM w R PR):WL YM w R PR->wo Value.nilIface YM w R PR:=Zf (.q (.b (.q (.c .r (.q (.c (.q .r) (.q .r))))))) [Value.nilIface,.pointer YM] Tryz.func33
def Rb (x2:Int)(du:Option Addr)(w:World)(R:Q0)(PR:Q1 Value):Prop:=Nw w (.cells #[.int .i64 0] 120) fun z4=>St z4 ⟨w.heap.size,0,none⟩ (.int .i64 x2) fun z5=>Ld z5 ⟨w.heap.size,0,none⟩ (Value.int .i64) fun x6=>Nn du fun a7=>St z5 a7 (.int .i64 x6) fun z8=>R z8
theorem dw (x2 du w R PR):Rb x2 du w R PR->wo (.iface 120 (.agg #[.int .i64 x2])) du w R PR:=Zf (.q (.b (.q (.c .r (.q (.c (.q .r) (.q .r))))))) [.iface 120 (.agg #[.int .i64 x2]),.pointer du] Tryz.func33
def Pg (c1:Addr)(c2:Addr)(w:World)(R:Q0):Prop:=wo Value.nilIface (some c1) w (fun z3=>Ld z3 c1 (Value.int .i64) fun x4=>Br (x4 !=0) (St z3 c2 (.int .i64 0) fun z5=>St z5 (c2.add 1) (.int .i64 0) fun z6=>St z6 (c2.add 2) (.int .i64 0) fun z7=>St z7 (c2.add 3) (.int .i64 0) fun z8=>St z8 (c2.add 4) (.int .i64 0) fun z9=>St z9 (c2.add 5) (.int .i64 0) fun Ar=>R Ar) (R z3)) (fun _ _=>False)
def dx:Ah:=(.q (.c .r .l))
theorem kt (c1:Addr)(c2:Addr)(w:World)(R:Q0)(h:Pg c1 c2 w R):RZ c1 c2 none w R:=by
 have e:KY prog FF Fu dx Tryz.f32 [.pointer (some c1),.pointer (some c2)] none w R=Pg c1 c2 w R:=by kernel_rfl
 exact BU okF De Tryz.func32 (by kernel_rfl) (by kernel_rfl) (e.mpr h)
def Ly (c1:Addr)(c2:Addr)(u3:Int)(w:World)(R:Q0):Prop:=wo (.iface 120 (.agg #[.int .i64 u3])) (some c1) w (fun z4=>Ld z4 c1 (Value.int .i64) fun x5=>Br (x5 !=0) (St z4 c2 (.int .i64 0) fun z6=>St z6 (c2.add 1) (.int .i64 0) fun z7=>St z7 (c2.add 2) (.int .i64 0) fun z8=>St z8 (c2.add 3) (.int .i64 0) fun z9=>St z9 (c2.add 4) (.int .i64 0) fun Ar=>St Ar (c2.add 5) (.int .i64 0) fun Dg=>R Dg) (R z4)) (fun _ _=>False)
def YN:Ah:=(.q (.c .r .l))
theorem dy (c1:Addr)(c2:Addr)(u3:Int)(w:World)(R:Q0)(h:Ly c1 c2 u3 w R):RZ c1 c2 (some (.iface 120 (.agg #[.int .i64 u3]))) w R:=by
 have e:KY prog FF Fu YN Tryz.f32 [.pointer (some c1),.pointer (some c2)] (some (.iface 120 (.agg #[.int .i64 u3]))) w R=Ly c1 c2 u3 w R:=by kernel_rfl
 exact BU okF De Tryz.func32 (by kernel_rfl) (by kernel_rfl) (e.mpr h)
def S34 (Ra:Int)(w:World)(R:Q0)(PR:Q1 Value):Prop:=Br (Ra !=0) (PR (.iface 120 (.agg #[.int .i64 Ra])) w) (R w)
theorem T34 (Ra w R PR):S34 Ra w R PR->wq Ra w R PR:=Zf (.q (.c .r .l)) [.int .i64 Ra] Tryz.func34
def S35 (l1:AA)(w:World)(R:Q1 Int)(PR:Q1 Value):Prop:=C60 l1 w fun r2 r3 z4=>wq r3 z4 (fun z5=>yk r2 z5 fun r6 z7=>Br r6 (wq 2 z7 (fun z8=>R r2 z8) PR) (R r2 z7)) PR
theorem T35 (l1 w R PR):S35 l1 w R PR->oB l1 w R PR:=Jw oi (.q (.q (.q (.s (.q (.c .r .l)) (.q .l))))) [AA.v l1] Tryz.func35
def Kk (z4:World)(z5:World)(R:Q2 (Int×Int×Int×Int×Int×Int) Int)(x8:Value)(z7:World):Prop:=RZ ⟨z5.heap.size,0,none⟩ ⟨z4.heap.size,0,none⟩ (some x8) z7 fun z9=>Ld z9 ⟨z4.heap.size,0,none⟩ (Value.int .i64) fun EB=>Ld z9 (.add ⟨z4.heap.size,0,none⟩ 1) (Value.int .i64) fun Ef=>Ld z9 (.add ⟨z4.heap.size,0,none⟩ 2) (Value.int .i64) fun GN=>Ld z9 (.add ⟨z4.heap.size,0,none⟩ 3) (Value.int .i64) fun JK=>Ld z9 (.add ⟨z4.heap.size,0,none⟩ 4) (Value.int .i64) fun Nj=>Ld z9 (.add ⟨z4.heap.size,0,none⟩ 5) (Value.int .i64) fun NT=>Ld z9 ⟨z5.heap.size,0,none⟩ (Value.int .i64) fun GL=>R (EB,Ef,GN,JK,Nj,NT) GL z9
def S14 (a1:Int×Int×Int×Int×Int×Int)(b2:Int×Int×Int×Int×Int×Int)(w:World)(R:Q2 (Int×Int×Int×Int×Int×Int) Int):Prop:=Nw w (.cells #[.int .i64 (a1.1),.int .i64 (a1.2.1),.int .i64 (a1.2.2.1),.int .i64 (a1.2.2.2.1),.int .i64 (a1.2.2.2.2.1),.int .i64 (a1.2.2.2.2.2)] 24) fun z3=>Nw z3 (.cells #[.int .i64 (b2.1),.int .i64 (b2.2.1),.int .i64 (b2.2.2.1),.int .i64 (b2.2.2.2.1),.int .i64 (b2.2.2.2.2.1),.int .i64 (b2.2.2.2.2.2)] 24) fun z4=>Nw z4 (.cells #[.int .i64 0,.int .i64 0,.int .i64 0,.int .i64 0,.int .i64 0,.int .i64 0] 24) fun z5=>Nw z5 (.cells #[.int .i64 0] 28) fun z6=>Ld z6 ⟨w.heap.size,0,none⟩ (Value.int .i64) fun Jv=>Ld z6 (.add ⟨w.heap.size,0,none⟩ 1) (Value.int .i64) fun PU=>Ld z6 (.add ⟨w.heap.size,0,none⟩ 2) (Value.int .i64) fun HG=>Ld z6 (.add ⟨w.heap.size,0,none⟩ 3) (Value.int .i64) fun Gn=>Ld z6 (.add ⟨w.heap.size,0,none⟩ 4) (Value.int .i64) fun Hm=>Ld z6 (.add ⟨w.heap.size,0,none⟩ 5) (Value.int .i64) fun J0=>C9 (Jv,PU,HG,Gn,Hm,J0) z6 fun Cp z24=>wq Cp z24 (fun Jy=>Ld Jy ⟨z3.heap.size,0,none⟩ (Value.int .i64) fun PW=>Ld Jy (.add ⟨z3.heap.size,0,none⟩ 1) (Value.int .i64) fun Tm=>Ld Jy (.add ⟨z3.heap.size,0,none⟩ 2) (Value.int .i64) fun K9=>Ld Jy (.add ⟨z3.heap.size,0,none⟩ 3) (Value.int .i64) fun Fz=>Ld Jy (.add ⟨z3.heap.size,0,none⟩ 4) (Value.int .i64) fun Qu=>Ld Jy (.add ⟨z3.heap.size,0,none⟩ 5) (Value.int .i64) fun Pd=>C9 (PW,Tm,K9,Fz,Qu,Pd) Jy fun EY Fl=>wq EY Fl (fun FC=>∃Ap:World->Prop,Ap FC.drew/\AP Ap ⟨w.heap.size,0,none⟩ (Value.int .i64) fun Hl=>AP Ap ⟨z3.heap.size,0,none⟩ (Value.int .i64) fun J8=>AP Ap (.add ⟨w.heap.size,0,none⟩ 1) (Value.int .i64) fun I1=>AP Ap (.add ⟨z3.heap.size,0,none⟩ 2) (Value.int .i64) fun PM=>AP Ap ⟨w.heap.size,0,none⟩ (Value.int .i64) fun NS=>AP Ap (.add ⟨z3.heap.size,0,none⟩ 1) (Value.int .i64) fun Kg=>AP Ap (.add ⟨w.heap.size,0,none⟩ 1) (Value.int .i64) fun K7=>AP Ap (.add ⟨z3.heap.size,0,none⟩ 3) (Value.int .i64) fun Kh=>AP Ap (.add ⟨w.heap.size,0,none⟩ 2) (Value.int .i64) fun Ho=>AP Ap ⟨z3.heap.size,0,none⟩ (Value.int .i64) fun Gy=>AP Ap (.add ⟨w.heap.size,0,none⟩ 3) (Value.int .i64) fun Gi=>AP Ap (.add ⟨z3.heap.size,0,none⟩ 2) (Value.int .i64) fun Gj=>AP Ap (.add ⟨w.heap.size,0,none⟩ 2) (Value.int .i64) fun ID=>AP Ap (.add ⟨z3.heap.size,0,none⟩ 1) (Value.int .i64) fun NV=>AP Ap (.add ⟨w.heap.size,0,none⟩ 3) (Value.int .i64) fun Jz=>AP Ap (.add ⟨z3.heap.size,0,none⟩ 3) (Value.int .i64) fun NU=>AP Ap (.add ⟨w.heap.size,0,none⟩ 4) (Value.int .i64) fun NW=>AP Ap ⟨z3.heap.size,0,none⟩ (Value.int .i64) fun Ll=>AP Ap (.add ⟨w.heap.size,0,none⟩ 5) (Value.int .i64) fun X0=>AP Ap (.add ⟨z3.heap.size,0,none⟩ 2) (Value.int .i64) fun Un=>AP Ap (.add ⟨z3.heap.size,0,none⟩ 4) (Value.int .i64) fun Nz=>AP Ap (.add ⟨w.heap.size,0,none⟩ 4) (Value.int .i64) fun Qw=>AP Ap (.add ⟨z3.heap.size,0,none⟩ 1) (Value.int .i64) fun N0=>AP Ap (.add ⟨w.heap.size,0,none⟩ 5) (Value.int .i64) fun Um=>AP Ap (.add ⟨z3.heap.size,0,none⟩ 3) (Value.int .i64) fun OI=>AP Ap (.add ⟨z3.heap.size,0,none⟩ 5) (Value.int .i64) fun Pf=>∃D7:World->World->Prop,∃LA:World->Prop,LA FC.drew/\∃yn:AA->World->Prop,(∀(Rc:AA) (Gk:World) (Nu:World),D7 Gk Nu->yn Rc Gk->yn Rc Nu)/\∃G68:Int->World->Prop,(∀(WI:Int) (z70:World) (Ln:World),D7 z70 Ln->G68 WI z70->G68 WI Ln)/\∃yo:AA->World->Prop,(∀(Ug:AA) (Gg:World) (z75:World),D7 Gg z75->yo Ug Gg->yo Ug z75)/\∃G76:Int->World->Prop,(∀(ku:Int) (D6:World) (Cb:World),D7 D6 Cb->G76 ku D6->G76 ku Cb)/\∃yp:AA->World->Prop,(∀(Zm:AA) (RU:World) (Ua:World),D7 RU Ua->yp Zm RU->yp Zm Ua)/\∃G84:Int->World->Prop,(∀(Qt:Int) (Uh:World) (z87:World),D7 Uh z87->G84 Qt Uh->G84 Qt z87)/\∃yq:AA->World->Prop,(∀(WG:AA) (Uj:World) (z91:World),D7 Uj z91->yq WG Uj->yq WG z91)/\∃G92:Int->World->Prop,(∀(Zk:Int) (Tj:World) (wh:World),D7 Tj wh->G92 Zk Tj->G92 Zk wh)/\∃yr:AA->World->Prop,(∀(oA:AA) (dL:World) (Zl:World),D7 dL Zl->yr oA dL->yr oA Zl)/\∃kv:Int->World->Prop,(∀(Xx:Int) (D5:World) (Fj:World),D7 D5 Fj->kv Xx D5->kv Xx Fj)/\∃kz:AA->World->Prop,(∀(Kj:AA) (Dh:World) (z107:World),D7 Dh z107->kz Kj Dh->kz Kj z107)/\((∀(Kd:World),Ap Kd->LA Kd->Nw Kd (.cells #[.int .i64 Hl,.int .i64 J8,.int .i64 I1,.int .i64 PM] 2) fun z109=>Ap z109/\LA z109/\D7 Kd z109/\∃IK:AA,(AA.v ⟨some ⟨Kd.heap.size,0,none⟩,4,4⟩:Value)=AA.v IK/\yn IK z109)/\(∀(DS:World),Ap DS->LA DS->∀(Ny:AA),yn Ny DS->oB Ny DS (fun Eg Gm=>Ap Gm/\LA Gm/\D7 DS Gm/\∃RO:Int,(.int .i64 Eg:Value)= .int .i64 RO/\G68 RO Gm) (Kk z4 z5 R))/\(∀(z116:World),Ap z116->LA z116->Nw z116 (.cells #[.int .i64 NS,.int .i64 Kg,.int .i64 K7,.int .i64 Kh] 2) fun z117=>Ap z117/\LA z117/\D7 z116 z117/\∃Nh:AA,(AA.v ⟨some ⟨z116.heap.size,0,none⟩,4,4⟩:Value)=AA.v Nh/\yo Nh z117)/\(∀(z119:World),Ap z119->LA z119->∀(RG:AA),yo RG z119->oB RG z119 (fun Ub Lc=>Ap Lc/\LA Lc/\D7 z119 Lc/\∃CR:Int,(.int .i64 Ub:Value)= .int .i64 CR/\G76 CR Lc) (Kk z4 z5 R))/\(∀(z124:World),Ap z124->LA z124->Nw z124 (.cells #[.int .i64 Ho,.int .i64 Gy,.int .i64 Gi,.int .i64 Gj] 2) fun KZ=>Ap KZ/\LA KZ/\D7 z124 KZ/\∃Nl:AA,(AA.v ⟨some ⟨z124.heap.size,0,none⟩,4,4⟩:Value)=AA.v Nl/\yp Nl KZ)/\(∀(z127:World),Ap z127->LA z127->∀(Fy:AA),yp Fy z127->oB Fy z127 (fun rh z130=>Ap z130/\LA z130/\D7 z127 z130/\∃RP:Int,(.int .i64 rh:Value)= .int .i64 RP/\G84 RP z130) (Kk z4 z5 R))/\(∀(Fm:World),Ap Fm->LA Fm->Nw Fm (.cells #[.int .i64 ID,.int .i64 NV,.int .i64 Jz,.int .i64 NU] 2) fun IB=>Ap IB/\LA IB/\D7 Fm IB/\∃PQ:AA,(AA.v ⟨some ⟨Fm.heap.size,0,none⟩,4,4⟩:Value)=AA.v PQ/\yq PQ IB)/\(∀(CG:World),Ap CG->LA CG->∀(RH:AA),yq RH CG->oB RH CG (fun rC z138=>Ap z138/\LA z138/\D7 CG z138/\∃Kb:Int,(.int .i64 rC:Value)= .int .i64 Kb/\G92 Kb z138) (Kk z4 z5 R))/\(∀(UQ:World),Ap UQ->LA UQ->Nw UQ (.cells #[.int .i64 NW,.int .i64 Ll,.int .i64 X0,.int .i64 Un,.int .i64 Nz,.int .i64 10000] 2) fun z141=>Ap z141/\LA z141/\D7 UQ z141/\∃RJ:AA,(AA.v ⟨some ⟨UQ.heap.size,0,none⟩,6,6⟩:Value)=AA.v RJ/\yr RJ z141)/\(∀(z143:World),Ap z143->LA z143->∀(Xy:AA),yr Xy z143->oB Xy z143 (fun AGZ z146=>Ap z146/\LA z146/\D7 z143 z146/\∃yu:Int,(.int .i64 AGZ:Value)= .int .i64 yu/\kv yu z146) (Kk z4 z5 R))/\(∀(z148:World),Ap z148->LA z148->Nw z148 (.cells #[.int .i64 Qw,.int .i64 N0,.int .i64 Um,.int .i64 OI,.int .i64 Pf,.int .i64 10000] 2) fun YB=>Ap YB/\LA YB/\D7 z148 YB/\∃ke:AA,(AA.v ⟨some ⟨z148.heap.size,0,none⟩,6,6⟩:Value)=AA.v ke/\kz ke YB)/\True)/\(∀(Gl:World),Ap Gl->LA Gl->∀(rX:AA),yn rX Gl->∀(kf:Int),G68 kf Gl->∀(dO:AA),yo dO Gl->∀(ka:Int),G76 ka Gl->∀(rQ:AA),yp rQ Gl->∀(X2:Int),G84 X2 Gl->∀(cY:AA),yq cY Gl->∀(kO:Int),G92 kO Gl->∀(qk:AA),yr qk Gl->∀(kP:Int),kv kP Gl->∀(kQ:AA),kz kQ Gl->oB kQ Gl (fun AGa z164=>St z164 ⟨z4.heap.size,0,none⟩ (.int .i64 kf) fun RM=>St RM (.add ⟨z4.heap.size,0,none⟩ 1) (.int .i64 ka) fun rY=>St rY (.add ⟨z4.heap.size,0,none⟩ 2) (.int .i64 X2) fun z167=>St z167 (.add ⟨z4.heap.size,0,none⟩ 3) (.int .i64 kO) fun z168=>St z168 (.add ⟨z4.heap.size,0,none⟩ 4) (.int .i64 kP) fun AGb=>St AGb (.add ⟨z4.heap.size,0,none⟩ 5) (.int .i64 AGa) fun AGc=>St AGc ⟨z5.heap.size,0,none⟩ (.int .i64 0) fun z171=>RZ ⟨z5.heap.size,0,none⟩ ⟨z4.heap.size,0,none⟩ none z171 fun Lz=>Ld Lz ⟨z4.heap.size,0,none⟩ (Value.int .i64) fun dX=>Ld Lz (.add ⟨z4.heap.size,0,none⟩ 1) (Value.int .i64) fun AGd=>Ld Lz (.add ⟨z4.heap.size,0,none⟩ 2) (Value.int .i64) fun Uo=>Ld Lz (.add ⟨z4.heap.size,0,none⟩ 3) (Value.int .i64) fun AGe=>Ld Lz (.add ⟨z4.heap.size,0,none⟩ 4) (Value.int .i64) fun Fo=>Ld Lz (.add ⟨z4.heap.size,0,none⟩ 5) (Value.int .i64) fun AGf=>Ld Lz ⟨z5.heap.size,0,none⟩ (Value.int .i64) fun AGg=>R (dX,AGd,Uo,AGe,Fo,AGf) AGg Lz) (Kk z4 z5 R))) (Kk z4 z5 R)) (Kk z4 z5 R)
def AGh:Ee:=(.pre (.BY .seq) (.here [4,5] (.q (.q (.seq (.BY (.held [63] (.take 0 (.take 1 (.take 2 (.take 3 (.take 4 (.take 5 (.take 6 (.take 7 (.take 10 (.take 11 (.take 12 (.take 13 (.take 14 (.take 15 (.take 16 (.take 17 (.take 20 (.take 21 (.take 22 (.take 23 (.take 24 (.take 25 (.take 26 (.take 27 (.take 30 (.take 31 (.take 32 (.take 33 (.take 34 (.take 35 (.take 36 (.take 37 (.take 40 (.take 41 (.take 42 (.take 43 (.take 44 (.take 45 (.take 46 (.take 47 (.take 48 (.take 49 (.take 52 (.take 53 (.take 54 (.take 55 (.take 56 (.take 57 (.take 58 (.take 59 (.take 60 (.take 61 (.mono [8,9,18,19,28,29,38,39,50,51,62] (.BF 63 (some [64]) (.BF 64 (some [65]) (.BF 65 (some [66]) (.BF 66 (some []) .done))))))))))))))))))))))))))))))))))))))))))))))))))))))))))) .leaf)))))
theorem T14 (a1:Int×Int×Int×Int×Int×Int)(b2:Int×Int×Int×Int×Int×Int)(w:World)(R:Q2 (Int×Int×Int×Int×Int×Int) Int)(h:S14 a1 b2 w R):we (a1.1,a1.2.1,a1.2.2.1,a1.2.2.2.1,a1.2.2.2.2.1,a1.2.2.2.2.2) (b2.1,b2.2.1,b2.2.2.1,b2.2.2.2.1,b2.2.2.2.2.1,b2.2.2.2.2.2) w R:=by
 have e:Nk prog FF Fu (fun _ _=>False) AGh Tryz.f14 [.agg #[.int .i64 (a1.1),.int .i64 (a1.2.1),.int .i64 (a1.2.2.1),.int .i64 (a1.2.2.2.1),.int .i64 (a1.2.2.2.2.1),.int .i64 (a1.2.2.2.2.2)],.agg #[.int .i64 (b2.1),.int .i64 (b2.2.1),.int .i64 (b2.2.2.1),.int .i64 (b2.2.2.2.1),.int .i64 (b2.2.2.2.2.1),.int .i64 (b2.2.2.2.2.2)]] w [(.agg [(.int .i64),(.int .i64),(.int .i64),(.int .i64),(.int .i64),(.int .i64)]),(.one (.int .i64))] (fun s w=>R s.1 s.2 w)=S14 a1 b2 w R:=by kernel_rfl
 exact (Cc okF De Tryz.func14 (by kernel_rfl) (by kernel_rfl) (e.mpr h)).mono fun _ _ ⟨s,he,hR⟩=>⟨s.1,s.2,he,hR⟩
def S5 (w:World)(R:Q1 (Int×Int×Int×Int×Int×Int)):Prop:=Nw w (.cells #[.int .i64 0,.int .i64 0,.int .i64 0,.int .i64 0,.int .i64 0,.int .i64 0] 24) fun z1=>St z1 ⟨w.heap.size,0,none⟩ (.int .i64 10000) fun z2=>St z2 (.add ⟨w.heap.size,0,none⟩ 1) (.int .i64 0) fun z3=>St z3 (.add ⟨w.heap.size,0,none⟩ 2) (.int .i64 0) fun z4=>St z4 (.add ⟨w.heap.size,0,none⟩ 3) (.int .i64 10000) fun z5=>St z5 (.add ⟨w.heap.size,0,none⟩ 4) (.int .i64 0) fun z6=>St z6 (.add ⟨w.heap.size,0,none⟩ 5) (.int .i64 0) fun z7=>Ld z7 ⟨w.heap.size,0,none⟩ (Value.int .i64) fun x8=>Ld z7 (.add ⟨w.heap.size,0,none⟩ 1) (Value.int .i64) fun x9=>Ld z7 (.add ⟨w.heap.size,0,none⟩ 2) (Value.int .i64) fun EB=>Ld z7 (.add ⟨w.heap.size,0,none⟩ 3) (Value.int .i64) fun Ef=>Ld z7 (.add ⟨w.heap.size,0,none⟩ 4) (Value.int .i64) fun GN=>Ld z7 (.add ⟨w.heap.size,0,none⟩ 5) (Value.int .i64) fun JK=>R (x8,x9,EB,Ef,GN,JK) z7
theorem T5 (w R):S5 w R->C5 w R:=B2 (.agg [(.int .i64),(.int .i64),(.int .i64),(.int .i64),(.int .i64),(.int .i64)]) (.q (.q .l)) [] Tryz.func5
end
set_option maxRecDepth 4000
namespace CV
open Sh Fix
abbrev Mx:=Int×Int×Int×Int×Int×Int
def DP (m:Mx):List Int:=[m.1,m.2.1,m.2.2.1,m.2.2.2.1,m.2.2.2.2.1,m.2.2.2.2.2]
def De (m:Mx):Bool:=(DP m).all Dc
def FI (m:Mx):List Value:=[.int .i64 m.1,.int .i64 m.2.1,.int .i64 m.2.2.1,.int .i64 m.2.2.2.1,.int .i64 m.2.2.2.2.1,.int .i64 m.2.2.2.2.2]
def DT (a b:Mx):Option Mx:=if De a=true/\De b=true then
  (Ca [a.1,b.1,a.2.1,b.2.2.1]).bind fun p=>(Ca [a.1,b.2.1,a.2.1,b.2.2.2.1]).bind fun q=>(Ca [a.2.2.1,b.1,a.2.2.2.1,b.2.2.1]).bind fun r=>(Ca [a.2.2.1,b.2.1,a.2.2.2.1,b.2.2.2.1]).bind fun s=>
  (Ca [a.2.2.2.2.1,b.1,a.2.2.2.2.2,b.2.2.1,b.2.2.2.2.1,10000]).bind fun t=>(Ca [a.2.2.2.2.1,b.2.1,a.2.2.2.2.2,b.2.2.2.1,b.2.2.2.2.2,10000]).bind fun u=>some (p,q,r,s,t,u)
 else none
def VA:Option Mx->Mx×Int
 |some m=>(m,0)
 |none=>((0,0,0,0,0,0),2)
theorem l9 {w:World}{b:Nat}{t:TypeId}{x0 x1 x2 x3:Int}(h:AO w b #[.int .i64 x0,.int .i64 x1,.int .i64 x2,.int .i64 x3] t):DQ w ⟨some ⟨b,0,none⟩,4,4⟩ [x0,x1,x2,x3]:=
 DQ.of h rfl fun i hi=>by
  have:i=0\/i=1\/i=2\/i=3:=by simp at hi;omega
  rcases this with rfl|rfl|rfl|rfl<;>rfl
theorem AA8 {w:World}{b:Nat}{t:TypeId}{x0 x1 x2 x3 x4 x5:Int}(h:AO w b #[.int .i64 x0,.int .i64 x1,.int .i64 x2,.int .i64 x3,.int .i64 x4,.int .i64 x5] t):DQ w ⟨some ⟨b,0,none⟩,6,6⟩ [x0,x1,x2,x3,x4,x5]:=
 DQ.of h rfl fun i hi=>by
  have:i=0\/i=1\/i=2\/i=3\/i=4\/i=5:=by simp at hi;omega
  rcases this with rfl|rfl|rfl|rfl|rfl|rfl<;>rfl
theorem mA {l:List Int}{n:Int}(h:Ca l=some n):Dc n=true:=by
 unfold Ca at h;split at h
 ·rename_i h2;cases h;exact h2.2
 ·cases h
theorem pP (n:Int)(w:World):yk n w fun r w1=>r=(!Dc n)/\w1=w:=by
 refine T24 _ _ _ ?_;unfold S24;refine Br.dec (fun h=>⟨?_,rfl⟩) fun h=>⟨?_,rfl⟩
 ·rw[Lb.2 (by omega)];rfl
 ·by_cases h2:n>1073741824
  ·rw[Lb.2 (by omega),aI h2];rfl
  ·rw[A2.2 (by omega),aH h2];rfl
def xf (e:Int):Value:= .iface 120 (.agg #[.int .i64 e])
theorem QE (e:Int)(w:World):wq e w (fun w1=>e=0/\w1=w) fun v w1=>v=xf e/\e≠0/\w1=w:=by
 refine T34 _ _ _ _ ?_;unfold S34;exact Br.ne (fun h=>⟨rfl,h,rfl⟩) fun h=>⟨h,rfl⟩
theorem Ju {s:AA}{l:List Int}{w:World}(h:DQ w s l)(hl:l.length=4\/l.length=6):oB s w (fun r w1=>Ca l=some r/\Ext (fun _=>False) w w1) fun v w1=>v=xf 2/\Ca l=none/\Ext (fun _=>False) w w1:=by
 refine T35 _ _ _ _ ?_;unfold S35;refine (Fix.Ju h (by omega)).mono ?_;rintro r e w1 ⟨h1,he⟩;have hd:UI l=match Ca l with
  |some n=>(n,0)
  |none=>(0,2):=az (by omega)
 rw[hd]at h1;cases hp:Ca l with
 |none=>
  rw[hp]at h1;cases h1;refine (QE _ _).mono (fun w2 h=>absurd h.1 (by omega)) fun v w2 h=>⟨h.1,rfl,?_⟩
  obtain ⟨_,_,rfl⟩:=h;exact he
 |some n=>
  rw[hp]at h1;cases h1;refine (QE _ _).mono (fun w2 h=>?_) fun v w2 h=>absurd rfl h.2.1
  obtain ⟨_,rfl⟩:=h;refine (pP _ _).mono ?_;rintro b _ ⟨rfl,rfl⟩;rw[mA hp];exact ⟨rfl,he⟩
theorem QF {w0 w:World}{L:List (Nat×List Value×TypeId)}{b:Nat}(h:Hn w0 w L):C23 (some (⟨b,0,none⟩:Addr)) w fun r w1=>r=(some (⟨b,0,none⟩:Addr),some (⟨b,1,none⟩:Addr),some (⟨b,2,none⟩:Addr),some (⟨b,3,none⟩:Addr),some (⟨b,4,none⟩:Addr),some (⟨b,5,none⟩:Addr))/\Ext (fun _=>False) w w1:=by
 refine T23 _ _ _ ?_;unfold S23;refine (Hn.start w).nw fun w2 H=>?_
 have H:=H.drew;simp only[add_lit];refine Nn.of (Nn.of (Nn.of (Nn.of (Nn.of (Nn.of ?_)))));simp only[add_lit,ah];refine H.st 0 rfl (by simp) fun _ H=>?_
 refine H.st 0 rfl (by simp) fun _ H=>?_
 refine H.st 0 rfl (by simp) fun _ H=>?_
 refine H.st 0 rfl (by simp) fun _ H=>?_
 refine H.st 0 rfl (by simp) fun _ H=>?_
 refine H.st 0 rfl (by simp) fun _ H=>?_
 refine H.ld 0 rfl rfl ?_;refine H.ld 0 rfl rfl ?_;refine H.ld 0 rfl rfl ?_;refine H.ld 0 rfl rfl ?_;refine H.ld 0 rfl rfl ?_;refine H.ld 0 rfl rfl ?_;exact ⟨rfl,H.ext⟩
theorem DU (m:Mx)(w:World):C9 m w fun r w1=>r=(if De m=true then 0 else 2)/\Ext (fun _=>False) w w1:=by
 refine T9 _ _ _ ?_;unfold S9;refine (Hn.start w).nw fun w2 H=>(QF H).mono ?_
 rintro r w3 ⟨rfl,he⟩;have H:=H.AB he;refine ⟨fun n st w4=>∃i:Nat,st=(i:Int)/\i<=6/\n=6-i/\w4=w3/\∀j,j<i->Dc ((DP m).getD j 0)=true,6,⟨0,rfl,by omega,rfl,rfl,fun j hj=>by omega⟩,?_⟩;rintro n st w4 ⟨i,rfl,hi,rfl,rfl,Az⟩;unfold ym;refine Br.dec (fun e=>⟨by omega,by omega,?_⟩) fun e=>⟨?_,H.ext⟩
 ·have fin:∀x:Int,(DP m).getD i 0=x->yk x w4 fun Lx AA9=>Br Lx ((2:Int)=(if De m=true then 0 else 2)/\Ext (fun _=>False) w AA9) (∃n',n'<6-i/\∃i':Nat,wrap .i64 ((i:Int)+1)=(i':Int)/\i'<=6/\n'=6-i'/\AA9=w4/\∀j,j<i'->Dc ((DP m).getD j 0)=true):=fun x hx=>by
   refine (pP _ _).mono ?_;rintro r _ ⟨rfl,rfl⟩;cases hw:Dc x with
   |true=>
    refine ⟨6-(i+1),by omega,i+1,by rw[AG (by omega)];rfl,by omega,rfl,rfl,fun j hj=>?_⟩;by_cases KX:j=i
    ·rw[KX,hx];exact hw
    ·exact Az j (by omega)
   |false=>
    refine ⟨?_,H.ext⟩;rw[az];intro hm;have:=(K6 _).1 hm i (by show i<6;omega);rw[hx,hw]at this;cases this
  have hc:i=0\/i=1\/i=2\/i=3\/i=4\/i=5:=by omega
  rcases hc with rfl|rfl|rfl|rfl|rfl|rfl<;>exact ⟨_,rfl,Nn.of (H.ld 0 rfl rfl (fin _ (by rfl)))⟩
 ·rw[aD];exact (K6 _).2 fun j hj=>Az j (by have:j<6:=hj;omega)
theorem QG (a:Option Addr)(w:World):wo Value.nilIface a w (fun w1=>w1=w) fun _ _=>False:=by
 refine kq _ _ _ _ ?_;unfold WL
 rfl
theorem gE {w0 w:World}{L:List (Nat×List Value×TypeId)}{b o:Nat}{cs:List Value}{t:TypeId}(H:Hn w0 w L)(e:Int)(i:Nat)(hi:L[i]?=some (b,cs,t))(ho:o<cs.length):
  wo (xf e) (some ⟨b,o,none⟩) w (fun w1=>Hn w0 w1 (L.set i (b,cs.set o (.int .i64 e),t))) fun _ _=>False:=by
 refine dw _ _ _ _ _ ?_;unfold Rb;have xg:(L++[(w.heap.size,[.int .i64 0],120)])[i]?=some (b,cs,t):=by
  rw[bj (ao.1 hi).1];exact hi
 have hl:(L++[(w.heap.size,[.int .i64 0],120)])[L.length]?=some (w.heap.size,[.int .i64 0],120):=by simp
 refine H.B5 fun w2 H2 he2=>?_
 refine H2.BZ L.length hl (by simp) fun w3 H3 he3=>?_
 have hlen:L.length<(L++[(w.heap.size,[Value.int .i64 0],120)]).length:=by simp
 refine H3.ld L.length (by rw[List.getElem?_set_self hlen]) rfl (Nn.of ?_);have H4:=H.AB he2;have H5:=H4.other he3 (fun j hj=>⟨by rw[hj];exact H.size,fun hm=>by
  have:=H.tW hm;omega⟩)
 exact H5.st i hi ho fun w4 H6=>H6
section
variable {w0 w:World}
theorem uQ (a b p:Mx)(e:Int){L:List (Nat×List Value×TypeId)}{b1 b2:Nat}{t1 t2:TypeId}{R:World->Prop}
  (H:Hn w0 w L) (i j:Nat) (hi:L[i]?=some (b2,FI p,t2)) (hj:L[j]?=some (b1,[.int .i64 e],t1)) (he:e=0)
  (k:R w):RZ (⟨b1,0,none⟩:Addr) (⟨b2,0,none⟩:Addr) none w R:=by
 refine kt _ _ _ _ ?_;unfold Pg;refine (QG _ _).mono (fun w1 h=>?_) fun _ _ h=>h.elim
 subst h;refine H.ld j hj rfl ?_;exact Br.ne (fun h=>absurd he h) fun _=>k
theorem Wg (a b:Mx)(w:World):we a b w fun r e w1=>(r,e)=VA (DT a b)/\Ext (fun _=>False) w w1:=by
 refine T14 _ _ _ _ ?_;unfold S14;refine (Hn.start w).nw fun w3 H=>H.nw fun w4 H=>H.nw fun w5 H=>H.nw fun w6 H=>?_
 have PF:∀(p:Mx) (c:Int) (v:Value) (w7:World),Hn w w7 [(w.heap.size,FI a,24),(w3.heap.size,FI b,24),(w4.heap.size,FI p,24),(w5.heap.size,[.int .i64 c],28)]->v=xf 2->DT a b=none->
   Kk w4 w5 (fun r e w1=>(r,e)=VA (DT a b)/\Ext (fun _=>False) w w1) v w7:=fun p c v w7 H hv hm=>by
  subst hv;unfold Kk;refine dy _ _ 2 _ _ ?_;unfold Ly;refine (gE H 2 3 rfl (by simp)).mono (fun w8 H=>?_) fun _ _ h=>h.elim
  refine H.ld 3 rfl rfl (Br.ne (fun _=>?_) fun h=>by cases h);refine H.st 2 rfl (by simp[FI]) fun _ H=>H.st 2 rfl (by simp[FI]) fun _ H=>H.st 2 rfl (by simp[FI]) fun _ H=>H.st 2 rfl (by simp[FI]) fun _ H=>H.st 2 rfl (by simp[FI]) fun _ H=>H.st 2 rfl (by simp[FI]) fun _ H=>?_
  refine H.ld 2 rfl rfl (H.ld 2 rfl rfl (H.ld 2 rfl rfl (H.ld 2 rfl rfl (H.ld 2 rfl rfl (H.ld 2 rfl rfl (H.ld 3 rfl rfl ⟨?_,H.ext⟩))))));rw[hm]
  rfl
 have no:∀{w7:World} {v:Value},Ext (fun _=>False) w6 w7->v=xf 2->DT a b=none->Kk w4 w5 (fun r e w1=>(r,e)=VA (DT a b)/\Ext (fun _=>False) w w1) v w7:=fun he hv hm=>PF (0,0,0,0,0,0) 0 _ _ (H.AB he) hv hm
 repeat (first|refine H.ld 0 rfl rfl ?_|refine H.ld 1 rfl rfl ?_|refine H.ld 2 rfl rfl ?_|refine H.ld 3 rfl rfl ?_|refine H.ld 4 rfl rfl ?_|refine H.ld 5 rfl rfl ?_)
 refine (DU a _).mono ?_;rintro r w7 ⟨rfl,he⟩;have e7:=he;have H:=H.AB he;refine (QE _ _).mono (fun w8 h8=>?_) fun v w8 h8=>?_
 case refine_2=>
  obtain ⟨hv,Bg,rfl⟩:=h8;have hka:¬De a=true:=fun h=>Bg (aD h)
  rw[az hka]at hv;exact no e7 hv (az fun h=>hka h.1)
 obtain ⟨hz,rfl⟩:=h8;have hka:De a=true:=by
  refine Decidable.byContradiction fun h=>?_
  rw[az h]at hz;cases hz
 repeat (first|refine H.ld 0 rfl rfl ?_|refine H.ld 1 rfl rfl ?_|refine H.ld 2 rfl rfl ?_|refine H.ld 3 rfl rfl ?_|refine H.ld 4 rfl rfl ?_|refine H.ld 5 rfl rfl ?_)
 refine (DU b _).mono ?_;rintro r w9 ⟨rfl,he⟩;have e9:=e7.tr he;have H:=H.AB he;refine (QE _ _).mono (fun Zu h8=>?_) fun v Zu h8=>?_
 case refine_2=>
  obtain ⟨hv,Bg,rfl⟩:=h8;have hkb:¬De b=true:=fun h=>Bg (aD h)
  rw[az hkb]at hv;exact no e9 hv (az fun h=>hkb h.2)
 obtain ⟨hz,rfl⟩:=h8;have hkb:De b=true:=by
  refine Decidable.byContradiction fun h=>?_
  rw[az h]at hz;cases hz
 have HD:=H.drew;have eD:=e9.drew;have hmul:DT a b=(Ca [a.1,b.1,a.2.1,b.2.2.1]).bind fun p=>(Ca [a.1,b.2.1,a.2.1,b.2.2.2.1]).bind fun q=>(Ca [a.2.2.1,b.1,a.2.2.2.1,b.2.2.1]).bind fun r=>(Ca [a.2.2.1,b.2.1,a.2.2.2.1,b.2.2.2.1]).bind fun s=>
  (Ca [a.2.2.2.2.1,b.1,a.2.2.2.2.2,b.2.2.1,b.2.2.2.2.1,10000]).bind fun t=>(Ca [a.2.2.2.2.1,b.2.1,a.2.2.2.2.2,b.2.2.2.1,b.2.2.2.2.2,10000]).bind fun u=>some (p,q,r,s,t,u):=aD ⟨hka,hkb⟩
 have OZ:∀{α β:Type} (x:Option α),(x.bind fun _=>(none:Option β))=none:=fun x=>by cases x<;>rfl
 have xh:∀{Gp Tt:World} {v:Value},Ext (fun _=>False) Zu.drew Gp->Ext (fun _=>False) Gp Tt->v=xf 2->DT a b=none->Kk w4 w5 (fun r e w1=>(r,e)=VA (DT a b)/\Ext (fun _=>False) w w1) v Tt:=fun h1 h2 hv hm=>no ((eD.tr h1).tr h2) hv hm
 have hS0:∀Gp,Ext (fun _=>False) Zu.drew Gp->AO Gp w.heap.size (FI a).toArray 24:=fun Gp h=>(HD.AB h).get 0 rfl
 have hS1:∀Gp,Ext (fun _=>False) Zu.drew Gp->AO Gp w3.heap.size (FI b).toArray 24:=fun Gp h=>(HD.AB h).get 1 rfl
 refine ⟨fun Gp=>Ext (fun _=>False) Zu.drew Gp,Ext.refl _ _,?_⟩
 repeat (first|refine AP.of hS0 rfl ?_|refine AP.of hS1 rfl ?_)
 have eN:∀(Gp:World) (o:Obj),Ext (fun _=>False) Gp (Gp.alloc o):=fun Gp o=>(Ext.refl _ _).alloc o
 refine ⟨fun a b=>Ext (fun _=>False) a b,fun _=>True,trivial,
  fun x w'=>DQ w' x [a.1,b.1,a.2.1,b.2.2.1],fun x _ _ h h2=>h2.AB h,fun x _=>Ca [a.1,b.1,a.2.1,b.2.2.1]=some x,fun _ _ _ _ h=>h,
  fun x w'=>DQ w' x [a.1,b.2.1,a.2.1,b.2.2.2.1],fun x _ _ h h2=>h2.AB h,fun x _=>Ca [a.1,b.2.1,a.2.1,b.2.2.2.1]=some x,fun _ _ _ _ h=>h,
  fun x w'=>DQ w' x [a.2.2.1,b.1,a.2.2.2.1,b.2.2.1],fun x _ _ h h2=>h2.AB h,fun x _=>Ca [a.2.2.1,b.1,a.2.2.2.1,b.2.2.1]=some x,fun _ _ _ _ h=>h,
  fun x w'=>DQ w' x [a.2.2.1,b.2.1,a.2.2.2.1,b.2.2.2.1],fun x _ _ h h2=>h2.AB h,fun x _=>Ca [a.2.2.1,b.2.1,a.2.2.2.1,b.2.2.2.1]=some x,fun _ _ _ _ h=>h,
  fun x w'=>DQ w' x [a.2.2.2.2.1,b.1,a.2.2.2.2.2,b.2.2.1,b.2.2.2.2.1,10000],fun x _ _ h h2=>h2.AB h,fun x _=>Ca [a.2.2.2.2.1,b.1,a.2.2.2.2.2,b.2.2.1,b.2.2.2.2.1,10000]=some x,fun _ _ _ _ h=>h,
  fun x w'=>DQ w' x [a.2.2.2.2.1,b.2.1,a.2.2.2.2.2,b.2.2.2.1,b.2.2.2.2.2,10000],fun x _ _ h h2=>h2.AB h,⟨?n1,?c1,?n2,?c2,?n3,?c3,?n4,?c4,?n5,?c5,?n6,trivial⟩,?fin⟩
 case n1=>exact fun Gp h _=>⟨h.tr (eN _ _),trivial,eN _ _,_,rfl,l9 (AO.new _ _ _)⟩
 case n2=>exact fun Gp h _=>⟨h.tr (eN _ _),trivial,eN _ _,_,rfl,l9 (AO.new _ _ _)⟩
 case n3=>exact fun Gp h _=>⟨h.tr (eN _ _),trivial,eN _ _,_,rfl,l9 (AO.new _ _ _)⟩
 case n4=>exact fun Gp h _=>⟨h.tr (eN _ _),trivial,eN _ _,_,rfl,l9 (AO.new _ _ _)⟩
 case n5=>exact fun Gp h _=>⟨h.tr (eN _ _),trivial,eN _ _,_,rfl,AA8 (AO.new _ _ _)⟩
 case n6=>exact fun Gp h _=>⟨h.tr (eN _ _),trivial,eN _ _,_,rfl,AA8 (AO.new _ _ _)⟩
 case c1=>exact fun Gp h _ x hx=>(Ju hx (.inl rfl)).mono (fun r Tt h2=>⟨h.tr h2.2,trivial,h2.2,r,rfl,h2.1⟩) fun v Tt h2=>xh h h2.2.2 h2.1 (by rw[hmul,h2.2.1];rfl)
 case c2=>exact fun Gp h _ x hx=>(Ju hx (.inl rfl)).mono (fun r Tt h2=>⟨h.tr h2.2,trivial,h2.2,r,rfl,h2.1⟩) fun v Tt h2=>xh h h2.2.2 h2.1 (by rw[hmul,h2.2.1];simp[OZ])
 case c3=>exact fun Gp h _ x hx=>(Ju hx (.inl rfl)).mono (fun r Tt h2=>⟨h.tr h2.2,trivial,h2.2,r,rfl,h2.1⟩) fun v Tt h2=>xh h h2.2.2 h2.1 (by rw[hmul,h2.2.1];simp[OZ])
 case c4=>exact fun Gp h _ x hx=>(Ju hx (.inl rfl)).mono (fun r Tt h2=>⟨h.tr h2.2,trivial,h2.2,r,rfl,h2.1⟩) fun v Tt h2=>xh h h2.2.2 h2.1 (by rw[hmul,h2.2.1];simp[OZ])
 case c5=>exact fun Gp h _ x hx=>(Ju hx (.inr rfl)).mono (fun r Tt h2=>⟨h.tr h2.2,trivial,h2.2,r,rfl,h2.1⟩) fun v Tt h2=>xh h h2.2.2 h2.1 (by rw[hmul,h2.2.1];simp[OZ])
 case fin=>
  intro Gp h _ _ _ x1 h1 _ _ x2 h2 _ _ x3 h3 _ _ x4 h4 _ _ x5 h5 _ hx6;refine (Ju hx6 (.inr rfl)).mono (fun x6 Tt h12=>?_) fun v Tt h12=>xh h h12.2.2 h12.1 (by rw[hmul,h12.2.1];simp[OZ])
  have H:=HD.AB (h.tr h12.2);refine H.st 2 rfl (by simp) fun _ H=>H.st 2 rfl (by simp) fun _ H=>H.st 2 rfl (by simp) fun _ H=>H.st 2 rfl (by simp) fun _ H=>H.st 2 rfl (by simp) fun _ H=>H.st 2 rfl (by simp) fun _ H=>H.st 3 rfl (by simp) fun w14 H=>?_
  refine uQ a b (x1,x2,x3,x4,x5,x6) 0 H 2 3 rfl rfl rfl ?_;refine H.ld 2 rfl rfl (H.ld 2 rfl rfl (H.ld 2 rfl rfl (H.ld 2 rfl rfl (H.ld 2 rfl rfl (H.ld 2 rfl rfl (H.ld 3 rfl rfl ⟨?_,H.ext⟩))))));rw[hmul,h1,h2,h3,h4,h5,h12.1]
  rfl
end
end CV
set_option maxHeartbeats 1000000
namespace CV
open Sh Fix
attribute [local irreducible] Ld St Nw Nn Lt AP
theorem OZ {α β:Type}(x:Option α):(x.bind fun _=>(none:Option β))=none:=by cases x<;>rfl
def one:Mx:=(10000,0,0,10000,0,0)
theorem fj (w:World):C5 w fun r w1=>r=one/\Ext (fun _=>False) w w1:=by
 refine T5 _ _ ?_;unfold S5;refine (Hn.start w).nw fun w3 H=>?_
 repeat (first|refine Lt.of ?_|refine Nn.of ?_|refine H.ld 0 rfl rfl ?_|refine H.ld 1 rfl rfl ?_|refine H.ld 2 rfl rfl ?_|refine H.ld 3 rfl rfl ?_|refine H.ld 4 rfl rfl ?_|refine H.ld 5 rfl rfl ?_|(refine H.st 0 rfl (by simp) fun _ H=>?_;simp only[ae,ag,aa,ab,ah]at H)|(refine H.st 1 rfl (by simp) fun _ H=>?_;simp only[ae,ag,aa,ab,ah]at H)|(refine H.st 2 rfl (by simp) fun _ H=>?_;simp only[ae,ag,aa,ab,ah]at H)|(refine H.st 3 rfl (by simp) fun _ H=>?_;simp only[ae,ag,aa,ab,ah]at H)|(refine H.st 4 rfl (by simp) fun _ H=>?_;simp only[ae,ag,aa,ab,ah]at H)|(refine H.st 5 rfl (by simp) fun _ H=>?_;simp only[ae,ag,aa,ab,ah]at H))
 exact ⟨rfl,H.ext⟩
def AND (b:Int×Int×Int×Int):List Value:=[.int .i64 b.1,.int .i64 b.2.1,.int .i64 b.2.2.1,.int .i64 b.2.2.2]
@[simp] theorem ABB (b : Int × Int × Int × Int) : (AND b).length = 4 := rfl
@[simp] theorem ABC (m : Mx) : (FI m).length = 6 := rfl
end CV
namespace CV
open Sh Fix
attribute [local irreducible] Ld St Nw Nn Lt AP
end CV
set_option maxRecDepth 512
set_option maxHeartbeats 200000
namespace Sh
def On (P:Program)(w:World):Nat->TypeId->List Value->Prop
 |0,_,_=>False
 |n+1,t,cs=>match P.underlying t with
  |some (.int k)=>∃x,cs=[.int k x]/\(Lit.int k x).wf=true
  |some .bool=>∃b,cs=[.bool b]
  |some .string=>∃s:ByteArray,cs=[.string s]/\s.size<=maxLen
  |some (.slice e)=>∃s:AA,cs=[AA.v s]/\(s=⟨none,0,0⟩\/∃a,s.p=some a/\s.len<=s.cap/\s.cap<=maxLen/\
    ∀i,i<s.len->∃Bq,Bq.length=P.cellsOf e/\(∀j,j<P.cellsOf e->w.cell? (a.add (i*P.cellsOf e+j))=Bq[j]?)/\On P w n e Bq)
  |some (.struct fs)=>cs.length=P.cellsOf t/\∀(i:Nat) (f:Field),fs[i]?=some f->On P w n f.type ((cs.drop f.offset).take (P.cellsOf f.type))
  |some (.array m e)=>cs.length=P.cellsOf t/\∀i,i<m->On P w n e ((cs.drop (i*P.cellsOf e)).take (P.cellsOf e))
  |some (.pointer e)=>∃p:Option Addr,cs=[.pointer p]/\∀a,p=some a->∃Bq,Bq.length=P.cellsOf e/\(∀j,j<P.cellsOf e->w.cell? (a.add j)=Bq[j]?)/\On P w n e Bq
  |_=>True
theorem Be (a:Addr)(i j:Nat):(a.add i).add j=a.add (i+j):=by
 unfold Addr.add;split
 ·rename_i h;subst h;simp
 ·split
  ·rename_i h;subst h;simp_all
  ·split
   ·omega
   ·simp[Nat.add_assoc]
theorem Mp {H:Type}{enc:TypeId×Value->H}{P:Program}{w:World}{spare:Nat->Bool}{held:Bool}:∀(n:Nat) (t:TypeId) (cs:List Value) (x:DataW H×List MemPlace),
  DataW.trod enc P w 0 spare held n t cs=some x->On P w n t cs
 |0,t,cs,x,h=>by simp[DataW.trod]at h
 |n+1,t,cs,x,h=>by
  unfold On;split
  ·rename_i k ht;obtain ⟨y,h1,_,h2⟩:=DataW.trod_int ht h;exact ⟨y,h1,h2⟩
  ·rename_i ht;obtain ⟨y,h1,_⟩:=DataW.trod_bool ht h;exact ⟨y,h1⟩
  ·rename_i ht;obtain ⟨y,h1,_,h2⟩:=DataW.trod_string ht h;exact ⟨y,h1,h2⟩
  ·rename_i e ht;rcases DataW.trod_slice ht h with ⟨h0,_⟩|⟨a,len,cap,elems,rest,m,hm,N9,_,_,hl,hc,hel,hi,_⟩
   ·exact ⟨⟨none,0,0⟩,h0,.inl rfl⟩
   ·cases hm;refine ⟨⟨some a,len,cap⟩,N9,.inr ⟨a,rfl,hl,hc,fun i La=>?_⟩⟩;have hg:elems[i]?=some (elems[i]'(by rw[hel];exact La)):=al _;have h2:=(hi i La).trans hg;obtain ⟨Bq,h3,h4⟩:=bW.1 h2;obtain ⟨_,h5,h6⟩:=World.cells?_some h3;exact ⟨Bq,h5,fun j hj=>by rw[<-Be];exact h6 j hj,Mp n e Bq _ h4⟩
  ·rename_i fs ht;obtain ⟨xs,m,hm,_,hl,j2,hf⟩:=DataW.trod_struct ht h;cases hm;refine ⟨hl,fun i f xm=>?_⟩;have Av:i<fs.size:=(au.1 xm).1;exact Mp n f.type _ _ ((hf i f xm).trans (al (by rw[j2];exact Av)))
  ·rename_i m e ht;obtain ⟨xs,m',hm,_,hl,j2,hf⟩:=DataW.trod_array ht h;cases hm;exact ⟨hl,fun i hi=>Mp n e _ _ ((hf i hi).trans (al (by rw[j2];exact hi)))⟩
  ·rename_i e ht;rcases DataW.trod_pointer ht h with ⟨h0,_⟩|⟨a,Bq,y,m,hm,N9,_,hc,hy⟩
   ·exact ⟨none,h0,fun a ha=>by cases ha⟩
   ·cases hm;refine ⟨some a,N9,fun a' ha=>?_⟩;cases ha;obtain ⟨_,h5,h6⟩:=World.cells?_some hc;exact ⟨Bq,h5,h6,Mp n e Bq y hy⟩
  ·trivial
theorem gp {H:Type}{enc:TypeId×Value->H}{P:Program}{w:World}{spare:Nat->Bool}{held:Bool}{t:TypeId}{v:Value}{d:DataW H}{ps:List MemPlace}
  (h:DataW.Trod enc P w 0 spare held t v d ps):∃n,On P w n t v.cells.toList:=by
 obtain ⟨n,hn⟩:=h;exact ⟨n,Mp n t _ _ hn⟩
def IP (P:Program)(t:TypeId):Option (List (Nat×TypeId)):=match P.underlying t with
 |some (.struct fs)=>some (fs.toList.map fun f=>(f.offset,f.type))
 |_=>none
section
variable {P:Program} {w:World} {n:Nat} {t:TypeId} {cs:List Value}
theorem LD {k:IntKind}(hu:P.underlying t=some (.int k))(h:On P w n t cs):∃x,cs=[.int k x]/\(Lit.int k x).wf=true:=by
 cases n with
 |zero=>exact h.elim
 |succ n=>unfold On at h;rw[hu]at h;exact h
end
theorem XC {w:World}{a:Addr}{v:Value}(h:w.cell? a=some v):a.block<w.heap.size:=by
 unfold World.cell? at h;rcases cn a.block w.heap.size with h'|h'
 ·exact h'
 ·rw[bJ h']at h;cases h
theorem Ext.cellOf{F:Nat->Prop}{a w:World}(h:Ext F a w){p:Addr}{v:Value}(hc:a.cell? p=some v)(hn:¬F p.block):w.cell? p=some v:=by
 rw[h.cell (XC hc) hn];exact hc
def Ve:TypeDesc->Bool
 | .int _| .bool| .string| .slice _| .pointer _=>true
 |_=>false
def Mq (P:Program):Nat->TypeId->Nat->Option TypeId
 |0,_,_=>none
 |k+1,t,i=>match P.underlying t with
  |some (.struct fs)=>match fs.toList.find? (fun f=>Nat.ble f.offset i&&Nat.blt i (f.offset+P.cellsOf f.type))with
   |some f=>Mq P k f.type (i-f.offset)
   |none=>none
  |some (.array m e)=>match Nat.blt (i/P.cellsOf e) m&&Nat.blt (i%P.cellsOf e) (P.cellsOf e)with
   |true=>Mq P k e (i%P.cellsOf e)
   |false=>none
  |some d=>match Ve d,i with
   |true,0=>some t
   |_,_=>none
  |none=>none
theorem G5 {α:Type}(l:List α){o s j:Nat}(hj:j<s):(((l.drop o).take s).drop j).take 1=(l.drop (o+j)).take 1:=by
 rw[List.drop_take,List.take_take,bc,Nat.min_eq_left (by omega)]
theorem mY {P:Program}{w:World}{n:Nat}{t:TypeId}{cs:List Value}{d:TypeDesc}(hu:P.underlying t=some d)(hd:Ve d=true)(h:On P w n t cs):(cs.drop 0).take 1=cs:=by
 cases n with
 |zero=>exact h.elim
 |succ n=>
  unfold On at h;rw[hu]at h;cases d<;>simp only[Ve,bq]at hd
  all_goals
   obtain ⟨x,h1⟩:=h
   first
    |(subst h1;rfl)
    |(rw[h1.1];rfl)
theorem Mr {P:Program}{w:World}:∀(k n:Nat) (t:TypeId) (cs:List Value) (i:Nat) (u:TypeId),On P w n t cs->Mq P k t i=some u->∃m,On P w m u ((cs.drop i).take 1)
 |0,_,_,_,_,_,_,h=>by cases h
 |k+1,0,t,cs,i,u,h0,h=>h0.elim
 |k+1,n+1,t,cs,i,u,h0,h=>by
  unfold Mq at h;have h1:=h0;unfold On at h1;split at h
  ·rename_i fs hu;rw[hu]at h1;split at h
   ·rename_i f hf;obtain ⟨hp,asx,bs,mZ,_⟩:=List.find?_eq_some_iff_append.1 hf;simp only[aj]at hp;have h2:=bp hp.1;have h3:i<f.offset+P.cellsOf f.type:=bp hp.2;have ANm:fs[asx.length]?=some f:=by
     have:fs.toList[asx.length]?=some f:=by rw[mZ];simp
     simpa using this
    obtain ⟨m,hm⟩:=Mr k n f.type _ (i-f.offset) u (h1.2 _ f ANm) h;rw[G5 _ (by omega),show f.offset+(i-f.offset)=i by omega]at hm;exact ⟨m,hm⟩
   ·cases h
  ·rename_i m e hu;rw[hu]at h1;split at h
   ·rename_i hb;simp only[aj]at hb;have h2:i/P.cellsOf e<m:=bp hb.1;have h3:i%P.cellsOf e<P.cellsOf e:=bp hb.2;obtain ⟨m',hm⟩:=Mr k n e _ (i%P.cellsOf e) u (h1.2 _ h2) h;rw[G5 _ h3,Nat.div_add_mod' i (P.cellsOf e)]at hm;exact ⟨m',hm⟩
   ·cases h
  ·rename_i d _ _ hu;split at h
   ·rename_i hd;cases h;exact ⟨n+1,by rw[mY hu hd h0];exact h0⟩
   ·cases h
  ·cases h
theorem take_one {α:Type}{l:List α}{i:Nat}{c:α}(h:l[i]?=some c):(l.drop i).take 1=[c]:=by
 rw[ao]at h;obtain ⟨hi,rfl⟩:=h;rw[b5 hi]
 rfl
theorem ma {P:Program}{w:World}{n:Nat}{t:TypeId}{cs:List Value}(ha:DL (P.underlying t)=true)(h:On P w n t cs):cs.length=P.cellsOf t:=by
 cases n with
 |zero=>exact h.elim
 |succ n=>
  unfold On at h;unfold DL at ha;split at ha
  ·rename_i fs hu;rw[hu]at h;exact h.1
  ·rename_i m e hu;rw[hu]at h;exact h.1
  ·cases ha
section
variable {P:Program} {w:World} {n k i:Nat} {t u:TypeId} {cs:List Value} {c:Value}
theorem BR {q:IntKind}(hl:Mq P k t i=some u)(hu:P.underlying u=some (.int q))(h:On P w n t cs)(hc:cs[i]?=some c):∃x,c= .int q x/\(Lit.int q x).wf=true:=by
 obtain ⟨m,hm⟩:=Mr k n t cs i u h hl;obtain ⟨x,h1,h2⟩:=LD hu hm;refine ⟨x,?_,h2⟩;rw[take_one hc]at h1;simpa using h1
end
theorem KK {H:Type}{enc:TypeId×Value->H}{P:Program}{W:World}{spare:Nat->Bool}{held:Bool}{t:TypeId}{v:Value}{d:DataW H}{ps:List MemPlace}{rr:Reach}{b0:Nat}
  (ha:DL (P.underlying t)=true) (h0:Value.okWide P W rr b0 t v) (h:DataW.Trod enc P W 0 spare held t v d ps):∃cs:List Value,v= .agg cs.toArray/\cs.length=P.cellsOf t/\∃n,On P W n t cs:=by
 obtain ⟨n,hn⟩:=gp h;have hv:∃cs:Array Value,v= .agg cs:=by
  unfold DL at ha;split at ha
  ·rename_i fs hu;simp only[Value.okWide,hu]at h0;obtain ⟨cs,h1,_⟩:=h0;exact ⟨cs,h1⟩
  ·rename_i m e hu;simp only[Value.okWide,hu]at h0;obtain ⟨cs,h1,_⟩:=h0;exact ⟨cs,h1⟩
  ·cases ha
 obtain ⟨cs,rfl⟩:=hv;exact ⟨cs.toList,by simp,ma ha hn,n,hn⟩
end Sh
set_option maxRecDepth 100000
section
open Sh
def N1 (n1:Int)(Aw:Int)(Dl:Int):=K1 Value.bool 120 #[.int .i64 n1,.int .i64 Aw,.int .i64 Dl]
def C91 (o1:Int×Int×Int×ByteArray×AA×AA):=K2 vi Value.bool 91 #[.agg #[.int .i64 (o1.1),.int .i64 (o1.2.1),.int .i64 (o1.2.2.1),.string o1.2.2.2.1,AA.v o1.2.2.2.2.1,AA.v o1.2.2.2.2.2]]
def C22 (HJ:Int):=K1 (α:=Int×Int×Int×ByteArray×AA×AA) (vA [ti,ti,ti,.str,.Ct,.Ct]) 22 #[.int .i64 HJ]
def sV (n1:Int):=K1 (α:=Int×Int×Int×ByteArray×AA×AA) (vA [ti,ti,ti,.str,.Ct,.Ct]) 160 #[.int .i64 n1]
def sW (n1:Int)(Aw:Int)(Dl:Int)(w:World)(R:Q1 Bool):Prop:=Br (decide (Aw<=n1)) (R (decide (n1<=Dl)) w) (R false w)
theorem yw (n1 Aw Dl w R):sW n1 Aw Dl w R->N1 n1 Aw Dl w R:=B2 ob (.q (.q .l)) [.int .i64 n1,.int .i64 Aw,.int .i64 Dl] Tryz.func120
def S91 (o1:Int×Int×Int×ByteArray×AA×AA)(w:World)(R:Q2 Int Bool):Prop:=Nw w (.cells #[.int .i64 (o1.1),.int .i64 (o1.2.1),.int .i64 (o1.2.2.1),.string o1.2.2.2.1,AA.v o1.2.2.2.2.1,AA.v o1.2.2.2.2.2] 68) fun z2=>Ld z2 (.add ⟨w.heap.size,0,none⟩ 1) (Value.int .i64) fun x3=>Ld z2 ⟨w.heap.size,0,none⟩ (Value.int .i64) fun x7=>Br (x7==2) (N1 x3 (-107374) 107374 z2 fun r8 z9=>Br (!r8) (R 0 false z9) (N1 (wrap .i64 (x3*10000)) (-1073741824) 1073741824 z9 fun Ng Dg=>Br (!Ng) (R 0 false Dg) (R (wrap .i64 (x3*10000)) true Dg))) (Br (x7==3) (N1 x3 (-1073741824) 1073741824 z2 fun Jx DF=>Br (!Jx) (R 0 false DF) (R x3 true DF)) (R 0 false z2))
theorem T91 (o1 w R):S91 o1 w R->C91 (o1.1,o1.2.1,o1.2.2.1,o1.2.2.2.1,o1.2.2.2.2.1,o1.2.2.2.2.2) w R:=PH oi ob (.q (.q (.s (.q (.b (.q (.c (.s (.q (.c (.q .l) .l)) .r) (.q (.c .l (.q .l))))))) (.s (.q (.c (.q .l) .l)) (.q .l))))) [.agg #[.int .i64 (o1.1),.int .i64 (o1.2.1),.int .i64 (o1.2.2.1),.string o1.2.2.2.1,AA.v o1.2.2.2.2.1,AA.v o1.2.2.2.2.2]] Tryz.func91
def S22 (HJ:Int)(w:World)(R:Q1 (Int×Int×Int×ByteArray×AA×AA)):Prop:=Nw w (.cells #[.int .i64 0,.int .i64 0,.int .i64 0,.string (⟨#[]⟩:cI),AA.v ⟨none,0,0⟩,AA.v ⟨none,0,0⟩] 68) fun z2=>St z2 ⟨w.heap.size,0,none⟩ (.int .i64 3) fun z3=>St z3 (.add ⟨w.heap.size,0,none⟩ 1) (.int .i64 HJ) fun z4=>St z4 (.add ⟨w.heap.size,0,none⟩ 2) (.int .i64 0) fun z5=>St z5 (.add ⟨w.heap.size,0,none⟩ 3) (.string (⟨#[]⟩:cI)) fun z6=>St z6 (.add ⟨w.heap.size,0,none⟩ 4) (AA.v ⟨none,0,0⟩) fun z7=>St z7 (.add ⟨w.heap.size,0,none⟩ 5) (AA.v ⟨none,0,0⟩) fun z8=>Ld z8 ⟨w.heap.size,0,none⟩ (Value.int .i64) fun x9=>Ld z8 (.add ⟨w.heap.size,0,none⟩ 1) (Value.int .i64) fun EB=>Ld z8 (.add ⟨w.heap.size,0,none⟩ 2) (Value.int .i64) fun Ef=>Ld z8 (.add ⟨w.heap.size,0,none⟩ 3) Value.string fun GN=>Ld z8 (.add ⟨w.heap.size,0,none⟩ 4) AA.v fun JK=>Ld z8 (.add ⟨w.heap.size,0,none⟩ 5) AA.v fun Nj=>R (x9,EB,Ef,GN,JK,Nj) z8
theorem T22 (HJ w R):S22 HJ w R->C22 HJ w R:=B2 (.agg [(.int .i64),(.int .i64),(.int .i64),.str,.Ct,.Ct]) (.q (.q .l)) [.int .i64 HJ] Tryz.func22
def yx (n1:Int)(w:World)(R:Q1 (Int×Int×Int×ByteArray×AA×AA)):Prop:=Nw w (.cells #[.int .i64 0,.int .i64 0,.int .i64 0,.string (⟨#[]⟩:cI),AA.v ⟨none,0,0⟩,AA.v ⟨none,0,0⟩] 68) fun z2=>St z2 ⟨w.heap.size,0,none⟩ (.int .i64 2) fun z3=>St z3 (.add ⟨w.heap.size,0,none⟩ 1) (.int .i64 n1) fun z4=>St z4 (.add ⟨w.heap.size,0,none⟩ 2) (.int .i64 0) fun z5=>St z5 (.add ⟨w.heap.size,0,none⟩ 3) (.string (⟨#[]⟩:cI)) fun z6=>St z6 (.add ⟨w.heap.size,0,none⟩ 4) (AA.v ⟨none,0,0⟩) fun z7=>St z7 (.add ⟨w.heap.size,0,none⟩ 5) (AA.v ⟨none,0,0⟩) fun z8=>Ld z8 ⟨w.heap.size,0,none⟩ (Value.int .i64) fun x9=>Ld z8 (.add ⟨w.heap.size,0,none⟩ 1) (Value.int .i64) fun EB=>Ld z8 (.add ⟨w.heap.size,0,none⟩ 2) (Value.int .i64) fun Ef=>Ld z8 (.add ⟨w.heap.size,0,none⟩ 3) Value.string fun GN=>Ld z8 (.add ⟨w.heap.size,0,none⟩ 4) AA.v fun JK=>Ld z8 (.add ⟨w.heap.size,0,none⟩ 5) AA.v fun Nj=>R (x9,EB,Ef,GN,JK,Nj) z8
theorem AGj (n1 w R):yx n1 w R->sV n1 w R:=B2 (.agg [(.int .i64),(.int .i64),(.int .i64),.str,.Ct,.Ct]) (.q (.q .l)) [.int .i64 n1] Tryz.func160
end
set_option maxRecDepth 4000
set_option maxHeartbeats 1000000
namespace CV
open Sh Fix
abbrev Ob:=Int×Int×Int×ByteArray×AA×AA
abbrev CU:AA:=⟨none,0,0⟩
def AH (o:Ob):List Value:=[.int .i64 o.1,.int .i64 o.2.1,.int .i64 o.2.2.1,.string o.2.2.2.1,AA.v o.2.2.2.2.1,AA.v o.2.2.2.2.2]
def Bk:Ob:=(0,0,0,⟨#[]⟩,CU,CU)
theorem fU:El prog 30 68 6 88 (.agg (AH Bk).toArray):=⟨by kernel_rfl,by kernel_rfl,by kernel_rfl,by kernel_rfl,rfl⟩
theorem FE (L:List Ob):(L.flatMap AH).length=L.length*6:=by
 induction L with
 |nil=>rfl
 |cons o L ih=>rw[bB,ai,ih,ar];simp[AH];omega
theorem QJ {L:List Ob}{i j:Nat}{o:Ob}(hi:L[i]?=some o)(hj:j<6):(L.flatMap AH)[i*6+j]?=(AH o)[j]?:=by
 induction L generalizing i with
 |nil=>cases hi
 |cons p L ih=>
  rw[bB];cases i with
  |zero=>
   cases hi;rw[Nat.zero_mul,ah,bj (by simp[AH];omega)]
  |succ i=>
   rw[bG (by simp[AH];omega),<-ih (by simpa using hi)]
   congr 1
   simp only[AH,ar,aU];omega
def OV (w:World)(s:AA)(L:List Ob):Prop:=s.len=L.length/\Bb w s 6 (L.flatMap AH)
abbrev uT (g n:Nat):AA:=⟨some ⟨g,0,none⟩,n,n⟩
theorem OV.of{w:World}{g:Nat}{L:List Ob}{t:TypeId}(h:AO w g (L.flatMap AH).toArray t):OV w (uT g L.length) L:=⟨rfl,Bb.of h (FE L)⟩
theorem OV.AB{w w':World}{s:AA}{L:List Ob}(h:OV w s L)(he:Ext (fun _=>False) w w'):OV w' s L:=⟨h.1,h.2.AB he⟩
theorem OV.get{w:World}{s:AA}{L:List Ob}(h:OV w s L){i:Nat}{o:Ob}(hi:L[i]?=some o):∃a,s.p=some a/\w.cell? (a.add (i*6))=some (.int .i64 o.1)/\w.cell? ((a.add (i*6)).add 1)=some (.int .i64 o.2.1)/\w.cell? ((a.add (i*6)).add 2)=some (.int .i64 o.2.2.1)/\
  w.cell? ((a.add (i*6)).add 3)=some (.string o.2.2.2.1)/\w.cell? ((a.add (i*6)).add 4)=some (AA.v o.2.2.2.2.1)/\w.cell? ((a.add (i*6)).add 5)=some (AA.v o.2.2.2.2.2):=by
 have g:∀j v,j<6->(AH o)[j]?=some v->∃a,s.p=some a/\w.cell? ((a.add (i*6)).add j)=some v:=fun j v hj hv=>by
  obtain ⟨a,ha,hc⟩:=h.2.2 (i*6+j) v (by rw[QJ hi hj];exact hv);exact ⟨a,ha,by rw[Be];exact hc⟩
 obtain ⟨a,ha,c0⟩:=g 0 _ (by omega) rfl;obtain ⟨a1,VB,c1⟩:=g 1 _ (by omega) rfl;obtain ⟨a2,MT,c2⟩:=g 2 _ (by omega) rfl;obtain ⟨a3,ha3,c3⟩:=g 3 _ (by omega) rfl;obtain ⟨a4,ha4,c4⟩:=g 4 _ (by omega) rfl;obtain ⟨a5,ha5,c5⟩:=g 5 _ (by omega) rfl;rw[ha]at VB MT ha3 ha4 ha5;cases VB;cases MT;cases ha3;cases ha4;cases ha5;exact ⟨a,ha,by rw[Be]at c0;exact c0,c1,c2,c3,c4,c5⟩
def U3 (o:Ob):Option Int:=if o.1=2 then (if-107374<=o.2.1/\o.2.1<=107374 then some (o.2.1*10000)else none)else if o.1=3 then (if Dc o.2.1=true then some o.2.1 else none)else none
def ANI:Option Int->Int×Bool
 |some n=>(n,true)
 |none=>(0,false)
attribute [local irreducible] Ld St Nw Nn Lt AP
theorem JX (n a b:Int)(w:World):N1 n a b w fun r w1=>r=decide (a<=n/\n<=b)/\w1=w:=by
 refine yw _ _ _ _ _ ?_;unfold sW;refine Br.dec (fun h=>⟨decide_eq_decide.2 (by omega),rfl⟩) fun h=>⟨(aH (by omega)).symm,rfl⟩
theorem gG (o:Ob)(w:World):C91 o w fun r b w1=>(r,b)=ANI (U3 o)/\Ext (fun _=>False) w w1:=by
 refine T91 _ _ _ ?_;unfold S91;refine (Hn.start w).nw fun w2 H=>?_
 repeat (first|refine H.ld 0 rfl rfl ?_|refine H.ld 1 rfl rfl ?_|refine H.ld 2 rfl rfl ?_|refine H.ld 3 rfl rfl ?_|refine H.ld 4 rfl rfl ?_|refine H.ld 5 rfl rfl ?_)
 unfold U3;refine Br.eq (fun h=>(JX _ _ _ _).mono ?_) fun h=>Br.eq (fun h2=>(JX _ _ _ _).mono ?_) fun h2=>?_
 ·rintro r _ ⟨rfl,rfl⟩;rw[aD h];by_cases hb:-107374<=o.2.1/\o.2.1<=107374
  ·rw[aD hb,aI hb];refine BD (fun h=>by cases h) fun _=>(JX _ _ _ _).mono ?_
   rintro r _ ⟨rfl,rfl⟩;rw[AG (by omega),aI (by omega)];exact BD (fun h=>by cases h) fun _=>⟨rfl,H.ext⟩
  ·rw[az hb,aH hb];exact BD (fun _=>⟨rfl,H.ext⟩) fun h=>by cases h
 ·rintro r _ ⟨rfl,rfl⟩;rw[az h,aD h2];show Br (!Dc o.2.1) _ _;cases Dc o.2.1 with
  |true=>exact BD (fun h=>by cases h) fun _=>⟨rfl,H.ext⟩
  |false=>exact BD (fun _=>⟨rfl,H.ext⟩) fun h=>by cases h
 ·rw[az h,az h2];exact ⟨rfl,H.ext⟩
def leaf (o:Ob):Prop:=o.2.2.2.2.1=CU/\o.2.2.2.2.2=CU
end CV
set_option maxRecDepth 512
set_option maxHeartbeats 200000
section
open Sh
abbrev AD:List DR:=[.int .i64,.int .i64,.int .i64,.str,.Ct,.Ct]
abbrev AK:Type:=Int×Int×Int×ByteArray×AA×AA
end
set_option maxRecDepth 100000
section
open Sh
def rV (s1:ByteArray)(c2:Int):=K1 vi 74 #[.string s1,.int .u8 c2]
def n8 (c1:Int):=K1 Value.bool 72 #[.int .u8 c1]
def sX (c1:Int):=K1 Value.bool 114 #[.int .u8 c1]
def yj (s1:ByteArray)(AN:Int):=K1 vi 81 #[.string s1,.int .i64 AN]
def dt (s1:ByteArray)(MA:ByteArray)(MB:Int):=K1 Value.bool 108 #[.string s1,.string MA,.int .i64 MB]
def C73 (c1:Int):=K1 Value.bool 73 #[.int .u8 c1]
def wj (c1:Int):=K1 Value.bool 50 #[.int .u8 c1]
def dT (s1:ByteArray)(AN:Int):=K1 vi 149 #[.string s1,.int .i64 AN]
def YA (c1:Int):=K1 vi 129 #[.int .u8 c1]
def kc (s1:ByteArray):=K2 Value.string vi 131 #[.string s1]
def sY (s1:ByteArray):=K1 Value.string 77 #[.string s1]
def S72 (c1:Int)(w:World)(R:Q1 Bool):Prop:=rV (⟨#[0,9,10,12,13,32]⟩:cI) c1 w fun r2 z3=>R (decide (r2>=0)) z3
theorem T72 (c1 w R):S72 c1 w R->n8 c1 w R:=B2 ob (.q (.q .l)) [.int .u8 c1] Tryz.func72
def yy (c1:Int)(w:World)(R:Q1 Bool):Prop:=Br (c1==13) (R true w) (R (c1==10) w)
theorem AGk (c1 w R):yy c1 w R->sX c1 w R:=B2 ob (.q (.q .l)) [.int .u8 c1] Tryz.func114
def oC (s1:ByteArray)(R:Q1 Int)(I5:Q1 (Int×Bool))(s3:Int×Bool)(z4:World):Prop:=Br (decide (s3.1<(s1.size:Int))) (0<=s3.1/\s3.1<((s1).size:Nat)/\Br s3.2 (sX (Bf s1 s3.1) z4 fun r6 z7=>I5 (wrap .i64 (s3.1+1),!r6) z7) (Br ((Bf s1 s3.1)==37) (I5 (wrap .i64 (s3.1+1),true) z4) (n8 (Bf s1 s3.1) z4 fun r8 z9=>Br (!r8) (R s3.1 z9) (I5 (wrap .i64 (s3.1+1),s3.2) z9)))) (R (s1.size:Int) z4)
def S81 (s1:ByteArray)(AN:Int)(w:World)(R:Q1 Int):Prop:=Br (decide (AN<0)) (R AN w) (Br (decide (AN>(s1.size:Int))) (R AN w) (Lp (σ:=Int×Bool) (oC s1 R) (AN,false) w))
theorem T81 (s1 AN w R):S81 s1 AN w R->yj s1 AN w R:=B2 oi (.q (.s (.q (.c (.q .l) .l)) (.s (.q (.b (.o [(1,oi),(5,ob)] [0] (.s (.q (.c .l .l)) (.s (.b (.q (.b (.q (.c .r (.q (.c .r (.q (.c (.q .l) .l))))))))) .r))))) (.q .l)))) [.string s1,.int .i64 AN] Tryz.func81
def yz (s1:ByteArray)(MA:ByteArray)(MB:Int)(w:World)(R:Q1 Bool):Prop:=Br (decide (MB>=0)) (Br (decide (MB<=(s1.size:Int))) (0<=MB/\MB<=(s1.size:Int)/\kJ (s1.extract ((MB).toNat) ((s1).size)) MA w fun r4 z5=>R r4 z5) (R false w)) (R false w)
theorem AGl (s1 MA MB w R):yz s1 MA MB w R->dt s1 MA MB w R:=B2 ob (.q (.q .l)) [.string s1,.string MA,.int .i64 MB] Tryz.func108
def S73 (c1:Int)(w:World)(R:Q1 Bool):Prop:=rV (⟨#[40,41,60,62,91,93,123,125,47,37]⟩:cI) c1 w fun r2 z3=>R (decide (r2>=0)) z3
theorem T73 (c1 w R):S73 c1 w R->C73 c1 w R:=B2 ob (.q (.q .l)) [.int .u8 c1] Tryz.func73
def S50 (c1:Int)(w:World)(R:Q1 Bool):Prop:=n8 c1 w fun r2 z3=>Br (!r2) (C73 c1 z3 fun r4 z5=>R (!r4) z5) (R false z3)
theorem T50 (c1 w R):S50 c1 w R->wj c1 w R:=B2 ob (.q (.q .l)) [.int .u8 c1] Tryz.func50
def dz (s1:ByteArray)(R:Q1 Int)(I5:Q1 Int)(s3:Int)(z4:World):Prop:=Br (decide (s3<(s1.size:Int))) (0<=s3/\s3<((s1).size:Nat)/\Br ((Bf s1 s3)==10) (R (wrap .i64 (s3+1)) z4) (Br ((Bf s1 s3)==13) (dt s1 (⟨#[13,10]⟩:cI) s3 z4 fun r6 z7=>Br r6 (R (wrap .i64 (s3+2)) z7) (R (wrap .i64 (s3+1)) z7)) (I5 (wrap .i64 (s3+1)) z4))) (R (s1.size:Int) z4)
def y7 (s1:ByteArray)(AN:Int)(w:World)(R:Q1 Int):Prop:=Br (decide (AN<0)) (R AN w) (Br (decide (AN>(s1.size:Int))) (R AN w) (Lp (σ:=Int) (dz s1 R) AN w))
theorem AGm (s1 AN w R):y7 s1 AN w R->dT s1 AN w R:=B2 oi (.q (.s (.q (.c (.q .l) .l)) (.s (.b (.o [(1,oi)] [0] (.s (.q (.c .l .l)) (.s (.b (.q (.b (.q (.c (.q .l) (.q (.c (.s (.q (.c (.q .l) .l)) (.q .l)) .l))))))) .r)))) (.q .l)))) [.string s1,.int .i64 AN] Tryz.func149
def sZ (c1:Int)(w:World)(R:Q1 Int):Prop:=Br (decide (c1>=48)) (Br (decide (c1<=57)) (R (wrap .i64 (wrap .u8 (c1-48))) w) (Br (decide (c1>=65)) (Br (decide (c1<=70)) (R (wrap .i64 ((wrap .i64 (wrap .u8 (c1-65)))+10)) w) (Br (decide (c1>=97)) (Br (decide (c1<=102)) (R (wrap .i64 ((wrap .i64 (wrap .u8 (c1-97)))+10)) w) (R (-1) w)) (R (-1) w))) (Br (decide (c1>=97)) (Br (decide (c1<=102)) (R (wrap .i64 ((wrap .i64 (wrap .u8 (c1-97)))+10)) w) (R (-1) w)) (R (-1) w)))) (Br (decide (c1>=65)) (Br (decide (c1<=70)) (R (wrap .i64 ((wrap .i64 (wrap .u8 (c1-65)))+10)) w) (Br (decide (c1>=97)) (Br (decide (c1<=102)) (R (wrap .i64 ((wrap .i64 (wrap .u8 (c1-97)))+10)) w) (R (-1) w)) (R (-1) w))) (Br (decide (c1>=97)) (Br (decide (c1<=102)) (R (wrap .i64 ((wrap .i64 (wrap .u8 (c1-97)))+10)) w) (R (-1) w)) (R (-1) w)))
theorem y8 (c1 w R):sZ c1 w R->YA c1 w R:=B2 oi (.q (.s (.b (.q (.c (.q .l) (.q (.c (.q .l) (.q (.c (.q .l) .l))))))) (.q .l))) [.int .u8 c1] Tryz.func129
def MC (s1:ByteArray)(R:Q2 ByteArray Int)(I6:Q1 (AA×Int))(s4:AA×Int)(z5:World):Prop:=Br (decide (s4.2<(s1.size:Int))) (0<=s4.2/\s4.2<((s1).size:Nat)/\0<=(wrap .i64 (s4.2+1))/\(wrap .i64 (s4.2+1))<((s1).size:Nat)/\YA (Bf s1 s4.2) z5.drew fun r7 z8=>YA (Bf s1 (wrap .i64 (s4.2+1))) z8 fun r9 Ar=>Br (decide (r7<0)) (R (⟨#[]⟩:cI) 3 Ar) (Br (decide (r9<0)) (R (⟨#[]⟩:cI) 3 Ar) (Nw Ar (.cells #[.int .u8 (wrap .u8 (wi .i64 (wrap .i64 (r7*2^4)) r9))] 5) fun Dg=>Rn prog (Builtin.append_ #[76,76] 76 #[AA.v s4.1,AA.v ⟨some ⟨Ar.heap.size,0,none⟩,1,1⟩]) Dg AA.v fun GN DF=>I6 (GN,wrap .i64 (s4.2+2)) DF))) (Rn prog (convert 76 9 (AA.v s4.1)) z5 Value.string fun Nj EN=>R Nj 0 EN)
def se (s1:ByteArray)(w:World)(R:Q2 ByteArray Int):Prop:=Br ((Int.tmod (s1.size:Int) 2) !=0) (R (⟨#[]⟩:cI) 3 w) (Rn prog (Instr.makeSlice 76 (.int .i64 0) (.int .i64 (wrap .i64 (Int.tdiv (s1.size:Int) 2)))) w AA.v fun x2 z3=>Lp (σ:=AA×Int) (MC s1 R) (x2,0) z3)
theorem y9 (s1 w R):se s1 w R->kc s1 w R:=PH os oi (.q (.s (.q (.c (.q .l) .l)) (.q (.s (.q (.b (.o [(4,ol),(5,oi)] [0] (.s (.q (.c .l .l)) (.s (.b (.s (.BY (.held [3] (.take 0 (.take 1 (.take 2 (.take 4 (.take 5 (.take 6 (.take 7 (.BF 3 (some [8]) (.BF 8 (some []) (.take 9 (.take 10 .done))))))))))))) (.s (.q (.c (.q .l) .l)) .r))) .r))))) (.q .l))))) [.string s1] Tryz.func131
def oD (s1:ByteArray)(R:Q1 ByteArray)(I6:Q1 (AA×Int))(s4:AA×Int)(z5:World):Prop:=Br (decide (s4.2<(s1.size:Int))) (0<=s4.2/\s4.2<((s1).size:Nat)/\0<=(Int.fdiv (Bf s1 s4.2) (2^4))/\(Int.fdiv (Bf s1 s4.2) (2^4))<(((⟨#[48,49,50,51,52,53,54,55,56,57,65,66,67,68,69,70]⟩:cI)).size:Nat)/\0<=s4.2/\s4.2<((s1).size:Nat)/\0<=(YO .u8 (Bf s1 s4.2) 15)/\(YO .u8 (Bf s1 s4.2) 15)<(((⟨#[48,49,50,51,52,53,54,55,56,57,65,66,67,68,69,70]⟩:cI)).size:Nat)/\Nw z5.drew (.cells #[.int .u8 (Bf (⟨#[48,49,50,51,52,53,54,55,56,57,65,66,67,68,69,70]⟩:cI) (Int.fdiv (Bf s1 s4.2) (2^4))),.int .u8 (Bf (⟨#[48,49,50,51,52,53,54,55,56,57,65,66,67,68,69,70]⟩:cI) (YO .u8 (Bf s1 s4.2) 15))] 5) fun z7=>Rn prog (Builtin.append_ #[76,76] 76 #[AA.v s4.1,AA.v ⟨some ⟨z5.drew.heap.size,0,none⟩,2,2⟩]) z7 AA.v fun x8 z9=>I6 (x8,wrap .i64 (s4.2+1)) z9) (Rn prog (convert 76 9 (AA.v s4.1)) z5 Value.string fun EB Dg=>R EB Dg)
def S77 (s1:ByteArray)(w:World)(R:Q1 ByteArray):Prop:=Rn prog (Instr.makeSlice 76 (.int .i64 0) (.int .i64 (wrap .i64 (2*(s1.size:Int))))) w AA.v fun x2 z3=>Lp (σ:=AA×Int) (oD s1 R) (x2,0) z3
theorem T77 (s1 w R):S77 s1 w R->sY s1 w R:=B2 os (.q (.q (.s (.q (.b (.o [(3,ol),(11,oi)] [0,10] (.q (.s (.c .l .l) (.s (.b (.q (.BY (.held [11] (.take 0 (.take 1 (.take 2 (.take 3 (.take 4 (.take 5 (.take 6 (.take 7 (.take 8 (.take 9 (.take 10 (.BF 11 (some [12]) (.BF 12 (some []) (.take 13 .done)))))))))))))))))) .r)))))) (.q .l)))) [.string s1] Tryz.func77
end
section
open Sh
def C49 (a0:Option Addr):=K0 49 #[.pointer a0]
def Jr (b1:Option Addr)(c2:Int):=K1 vR 51 #[.pointer b1,.int .u8 c2]
def UF (b1:Option Addr)(s2:ByteArray):=K2 vi vR 26 #[.pointer b1,.string s2]
def wZ (a0:Option Addr):=K1 Value.string 29 #[.pointer a0]
def S51 (b1:Option Addr)(c2:Int)(w:World)(R:Q1 Value):Prop:=C49 b1 w fun z3=>Nn b1 fun a4=>Ld z3 (a4.add 1) AA.v fun x5=>Nw z3 (.cells #[.int .u8 c2] 5) fun z6=>Rn prog (Builtin.append_ #[76,76] 76 #[AA.v x5,AA.v ⟨some ⟨z3.heap.size,0,none⟩,1,1⟩]) z6 AA.v fun x7 z8=>Nn b1 fun a9=>St z8 (a9.add 1) (AA.v x7) fun Ar=>R Value.nilIface Ar
theorem T51 (b1 c2 w R):S51 b1 c2 w R->Jr b1 c2 w R:=B2 (.one .raw) (.q (.q (.q (.q .l)))) [.pointer b1,.int .u8 c2] Tryz.func51
def S26 (b1:Option Addr)(s2:ByteArray)(w:World)(R:Q2 Int Value):Prop:=C49 b1 w fun z3=>Nn b1 fun a4=>Ld z3 (a4.add 1) AA.v fun x5=>Rn prog (Builtin.append_ #[76,9] 76 #[AA.v x5,.string s2]) z3 AA.v fun x6 z7=>Nn b1 fun a8=>St z7 (a8.add 1) (AA.v x6) fun z9=>R (s2.size:Int) Value.nilIface z9
theorem T26 (b1 s2 w R):S26 b1 s2 w R->UF b1 s2 w R:=PH oi (.one .raw) (.q (.q (.q (.q .l)))) [.pointer b1,.string s2] Tryz.func26
end
end Go.Proofs.YtmaekpnpnjndoaaGreatDoor

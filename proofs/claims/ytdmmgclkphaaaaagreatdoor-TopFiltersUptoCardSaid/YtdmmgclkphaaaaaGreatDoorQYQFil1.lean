/- Joined texts of the proof; conditions stand in each theorem. -/
import Derived.Test.YtdmmgclkphaaaaaGreatDoorProg
import Derived.WalkKit
import Derived.Deep.Quiet
import Derived.StillTail
import Derived.OrdersHeld
import Derived.KernelRfl
import Derived.Recover
import Derived.Laws.Panics
import Derived.Deep.LoopGhost
set_option linter.unusedVariables false
set_option linter.unusedSimpArgs false
namespace Go.Proofs.YtdmmgclkphaaaaaGreatDoor
abbrev aa := @Int.toNat_natCast
abbrev ad.{u} := @List.getElem?_eq_getElem.{u}
abbrev ae.{u} := @List.length_append.{u}
abbrev af.{u} := @List.getD_eq_getElem?_getD.{u}
abbrev ag.{u} := @List.nil_append.{u}
abbrev ah.{u} := @if_neg.{u}
abbrev ai.{u} := @List.set_cons_zero.{u}
abbrev aj := @Nat.zero_add
abbrev ak.{u} := @if_pos.{u}
abbrev ao.{u} := @List.getElem?_eq_some_iff.{u}
abbrev aq.{u} := @List.set_cons_succ.{u}
abbrev ar.{u} := @List.cons_append.{u}
abbrev au.{u} := @List.length_take.{u}
abbrev av := @Nat.le_refl
abbrev aw.{u} := @List.eq_nil_of_length_eq_zero.{u}
abbrev ax.{u} := @List.append_assoc.{u}
abbrev ay := @Bool.and_eq_true
abbrev az.{u} := @List.mem_singleton.{u}
abbrev aA.{u} := @List.length_cons.{u}
abbrev aB.{u} := @List.mem_of_getElem?.{u}
abbrev aC.{u} := @List.mem_cons_of_mem.{u}
abbrev aD := @decide_eq_true
abbrev aE.{u,v} := @List.getElem?_map.{u,v}
abbrev aF.{u} := @List.getElem?_append_right.{u}
abbrev aG.{u} := @List.getElem?_append_left.{u}
abbrev aH := @Nat.mul_one
abbrev aI.{u} := @List.length_replicate.{u}
abbrev aJ.{u} := @List.length_drop.{u}
abbrev aK.{u} := @Array.length_toList.{u}
abbrev aL.{u} := @Array.getElem?_eq_some_iff.{u}
abbrev aM.{u} := @List.append_nil.{u}
abbrev aN.{u} := @List.mem_cons.{u}
abbrev aO.{u} := @List.take_add_one.{u}
abbrev aP := @decide_eq_false
abbrev aQ.{u} := @List.mem_append.{u}
abbrev aR := @Int.eq_ofNat_of_zero_le
abbrev aS.{u} := @List.drop_eq_getElem_cons.{u}
abbrev aT.{u} := @List.mem_cons_self.{u}
abbrev aU.{u} := @List.getElem?_take.{u}
abbrev aV := @Nat.div_div_eq_div_mul
abbrev aW.{u} := @List.take_append_drop.{u}
abbrev aX.{u} := @List.take_of_length_le.{u}
abbrev aY.{u} := @Option.some.inj.{u}
abbrev aZ.{u} := @List.size_toArray.{u}
abbrev bf := @of_decide_eq_true
abbrev bg.{u,v} := @Option.map_eq_some_iff.{u,v}
abbrev bh.{u,v} := @List.map_append.{u,v}
abbrev bj.{u} := @List.take_length.{u}
abbrev bn.{u} := @List.pairwise_cons.{u}
abbrev bo := @Nat.min_eq_left
abbrev bp.{u,v} := @List.length_map.{u,v}
abbrev bq.{u} := @List.length_nil.{u}
abbrev br.{u} := @List.length_set.{u}
abbrev bw.{u,v} := @List.map_cons.{u,v}
abbrev bx.{u} := @List.all_eq_true.{u}
abbrev bz := @Nat.zero_le
abbrev bA := @Nat.mod_eq_of_lt
abbrev bC.{u,v} := @List.flatMap_cons.{u,v}
abbrev bD := @Bool.false_eq_true
abbrev bE.{u} := @Option.some.injEq.{u}
abbrev bF.{u} := @List.getElem?_eq_none.{u}
abbrev bG := @Nat.le_of_ble_eq_true
abbrev bH := @Int.le_refl
abbrev bI.{u,v} := @congrArg.{u,v}
abbrev bJ.{u,v} := @List.flatMap_append.{u,v}
abbrev bK.{u} := @List.take_left'.{u}
abbrev bL.{u} := @List.getElem?_cons_zero.{u}
abbrev bM := @Nat.sub_zero
abbrev bN := @Nat.add_mul
abbrev bO.{u} := @Array.getD_eq_getD_getElem?.{u}
abbrev bP := @decide_eq_true_eq
abbrev bQ.{u} := @List.not_mem_nil.{u}
abbrev bR.{u} := @List.drop_of_length_le.{u}
abbrev bS.{u} := @List.mem_of_mem_drop.{u}
abbrev bT.{u} := @List.pairwise_append.{u}
abbrev bU.{u} := @List.mem_iff_getElem?.{u}
abbrev bV.{u} := @List.getElem?_toArray.{u}
abbrev bW.{u} := @List.getElem?_drop.{u}
abbrev bX := @Nat.lt_or_ge
abbrev bY := @Nat.add_zero
abbrev bZ.{u} := @List.getElem_mem.{u}
abbrev b9.{u,v} := @List.foldl_cons.{u,v}
abbrev cd := @Nat.le_trans
abbrev cg := @Nat.zero_mul
abbrev ch.{u} := @List.length_pos_iff.{u}
abbrev cj.{u} := @Array.getElem?_eq_getElem.{u}
abbrev ck := @Bool.or_eq_true
abbrev cl := @Nat.sub_self
abbrev cq := @Nat.pow_le_pow_right
abbrev cr := @ByteArray.size_extract
abbrev ct.{u} := @List.flatten_cons.{u}
abbrev cu.{u} := @List.mem_iff_getElem.{u}
abbrev cz := @Nat.add_sub_cancel
abbrev cA := @of_decide_eq_false
abbrev cB.{u} := @List.getElem?_replicate.{u}
abbrev cC := @Nat.add_assoc
abbrev cD.{u} := @List.getElem?_set.{u}
abbrev cE.{u} := @List.mem_of_mem_take.{u}
abbrev cF.{u} := @List.mem_append_left.{u}
abbrev cG := @UInt8.toNat_ofNat'
abbrev cH := @decide_eq_true_iff
abbrev cI.{u,v} := @Option.map_some.{u,v}
abbrev cJ.{u,v} := @List.mem_map.{u,v}
abbrev cK.{u,v} := @List.map_nil.{u,v}
abbrev cL := @Nat.mul_le_mul_right
abbrev cM := @Bool.true_and
abbrev cN.{u} := @Option.getD_some.{u}
abbrev cP.{u} := @Array.getElem?_eq_none.{u}
abbrev cQ.{u} := @List.replicate_succ.{u}
abbrev cR.{u} := @Array.toList_append.{u}
abbrev cS := @Nat.eq_of_beq_eq_true
abbrev cT.{u} := @List.length_singleton.{u}
abbrev cV.{u} := @List.drop_zero.{u}
abbrev cW := @Nat.mul_comm
abbrev cX := @Nat.mod_lt
abbrev cY := @Nat.pow_pos
abbrev cZ.{u} := @List.getElem?_of_mem.{u}
abbrev c8.{u,v} := @Option.bind_eq_some_iff.{u,v}
abbrev c9.{u} := @List.flatten_nil.{u}
abbrev da.{u} := @List.getElem?_set_self.{u}
abbrev db.{u} := @List.ext_getElem?.{u}
abbrev dc := @List.getElem?_range
abbrev de.{u,v} := @List.mem_map_of_mem.{u,v}
abbrev dg.{u} := @List.mem_or_eq_of_mem_set.{u}
abbrev dh.{u} := @List.set_append_right.{u}
abbrev di.{u} := @List.mem_append_right.{u}
abbrev dj := @Nat.and_two_pow_sub_one_eq_mod
abbrev dk := @UInt8.toNat_ofNat_of_lt'
abbrev dm := @Nat.pow_succ
abbrev dq.{u} := @List.getElem?_cons_succ.{u}
abbrev du.{u,v} := @List.foldl_append.{u,v}
abbrev dw.{u} := @List.find?_append.{u}
abbrev dx := @Nat.add_sub_cancel_left
abbrev dy.{u} := @List.drop_left'.{u}
abbrev dz.{u} := @if_false.{u}
abbrev dA := @Int.natCast_ediv
abbrev dB.{u,v} := @Array.toList_map.{u,v}
abbrev dC.{u} := @List.any_eq_true.{u}
abbrev dD := @Int.fdiv_eq_ediv_of_nonneg
abbrev dE.{u} := @List.setIfInBounds_toArray.{u}
abbrev dF := @List.mem_range
abbrev dG.{u} := @Array.getElem?_toList.{u}
abbrev dH.{u} := @Array.mem_of_getElem?.{u}
abbrev dI.{u} := @List.set_eq_take_append_cons_drop.{u}
abbrev dJ := @Int.natCast_add
abbrev dK.{u} := @List.mem_filter.{u}
abbrev dL := @Bool.eq_iff_iff
abbrev dM.{u,v} := @List.map_set.{u,v}
abbrev dN.{u} := @Array.size_append.{u}
abbrev dO := @Int.le_of_lt
abbrev dP.{u} := @List.nodup_append.{u}
abbrev dQ := @List.length_range
abbrev dR := @Bool.not_eq_true'
abbrev dS := @Bool.false_or
abbrev dW.{u} := @List.drop_succ_cons.{u}
abbrev dZ := @or_false
abbrev ee.{u} := @List.pairwise_singleton.{u}
abbrev ef.{u} := @List.take_take.{u}
abbrev eg.{u,v} := @List.zip_cons_cons.{u,v}
abbrev eh := @Nat.lt_of_lt_of_le
abbrev ei.{u,v,w} := @List.map_map.{u,v,w}
abbrev ej := @List.range_succ
abbrev en := @Nat.div_le_self
abbrev eo.{u,v} := @List.zip_append.{u,v}
abbrev eu := @Nat.one_mul
abbrev ey := ByteArray
namespace Sh
structure AA where
 p:Option Addr
 len:Nat
 cap:Nat
def AA.v(s:AA):Value:= .slice s.p s.len s.cap
inductive FR where
 |int (k:IntKind)|bool|str|ptr|addr|Fu|map|raw
def FR.T:FR->Type
 | .int _=>Int| .bool=>Bool| .str=>ByteArray| .ptr=>Option Addr| .addr=>Addr| .Fu=>AA| .map=>Option Nat| .raw=>Value
def FR.v:(t:FR)->t.T->Value
 | .int k,x=> .int k x| .bool,x=> .bool x| .str,x=> .string x| .ptr,x=> .pointer x| .addr,x=> .pointer (some x)| .Fu,x=>AA.v x| .map,x=> .map x| .raw,x=>x
def FR.get?:(t:FR)->Value->Option t.T
 | .int k,.int k' n=>if k'=k then some n else none
 | .bool,.bool b=>some b
 | .str,.string s=>some s
 | .ptr,.pointer p=>some p
 | .addr,.pointer (some p)=>some p
 | .Fu,.slice p l c=>some ⟨p,l,c⟩
 | .map,.map m=>some m
 | .raw,x=>some x
 |_,_=>none
def Al:List FR->Type
 |[]=>Unit
 |[t]=>t.T
 |t::u::r=>t.T×Al (u::r)
def Al.cells:(ts:List FR)->Al ts->List Value
 |[],_=>[]
 |[t],x=>[t.v x]
 |t::u::r,x=>t.v x.1::Al.cells (u::r) x.2
def Al.get?:(ts:List FR)->List Value->Option (Al ts)
 |[],[]=>some ()
 |[t],[x]=>t.get? x
 |t::u::r,x::xs=>(t.get? x).bind fun a=>(Al.get? (u::r) xs).bind fun b=>some (a,b)
 |_,_=>none
inductive Ty where
 |one (t:FR)
 |agg (ts:List FR)
def Ty.T:Ty->Type
 | .one t=>t.T
 | .agg ts=>Al ts
def Ty.v:(t:Ty)->t.T->Value
 | .one t,x=>t.v x
 | .agg ts,x=> .agg (Al.cells ts x).toArray
def Ty.get?:(t:Ty)->Value->Option t.T
 | .one t,x=>t.get? x
 | .agg ts,.agg cs=>Al.get? ts cs.toList
 |_,_=>none
def Sg:List Ty->Type
 |[]=>Unit
 |[t]=>t.T
 |t::u::r=>t.T×Sg (u::r)
def Sg.GQ:(ts:List Ty)->Sg ts->List Value
 |[],_=>[]
 |[t],x=>[t.v x]
 |t::u::r,x=>t.v x.1::Sg.GQ (u::r) x.2
def Sg.get?:(ts:List Ty)->List Value->Option (Sg ts)
 |[],[]=>some ()
 |[t],[x]=>t.get? x
 |t::u::r,x::xs=>(t.get? x).bind fun a=>(Sg.get? (u::r) xs).bind fun b=>some (a,b)
 |_,_=>none
def vC:TypeDesc->FR
 | .int k=> .int k| .bool=> .bool| .string=> .str| .pointer _=> .ptr| .slice _=> .Fu| .map _ _=> .map|_=> .raw
def D9:Option TypeDesc->Bool
 |some (.struct _)|some (.array _ _)=>true
 |_=>false
def U0 (P:Program):Nat->TypeId->List FR
 |0,_=>[]
 |n+1,t=>match P.underlying t with
  |some (.struct fs)=>fs.toList.flatMap fun f=>U0 P n f.type
  |some (.array len e)=>(List.replicate len (U0 P n e)).flatten
  |some d=>[vC d]
  |none=>[]
def NB (P:Program)(t:TypeId):Ty:=match D9 (P.underlying t)with
 |true=>if P.cellsOf t<=40 then .agg (U0 P 8 t)else .one .raw
 |false=>match P.underlying t with
  |some d=> .one (vC d)
  |none=> .one .raw
abbrev Env:=List (Nat×Value)
def Env.get?:Env->Nat->Option Value
 |[],_=>none
 |(t,v)::E,n=>match Nat.beq t n with
  |true=>some v
  |false=>Env.get? E n
def Env.A3(E:Env):Operand->Value
 | .tmp t=>match E.get? t with
  |some v=>v
  |none=>undef
 | .const v=>v
 | .global g=> .pointer (some ⟨g,0,none⟩)
 | .func f=> .func (.func f) #[] #[]
def Env.has(E:Env):Operand->Bool
 | .tmp t=>(E.get? t).isSome
 |_=>true
def Env.put(E:Env)(d:Option Tmp)(v:Value):Env:=match d with
 |some t=>(t,v)::E
 |none=>E
def Env.GQ(E:Env):List Nat->Option (List Value)
 |[]=>some []
 |t::r=>match E.get? t,Env.GQ E r with
  |some v,some vs=>some (v::vs)
  |_,_=>none
def Env.zip:List Nat->List Value->Env
 |t::r,v::vs=>(t,v)::Env.zip r vs
 |_,_=>[]
def Env.AB(E:Env):List Nat->Env
 |[]=>[]
 |t::r=>match E.get? t with
  |some v=>(t,v)::Env.AB E r
  |none=>Env.AB E r
def Br (b:Bool)(A B:Prop):Prop:=match b with
 |true=>A
 |false=>B
def Kl (w:World)(a:Addr):Prop:=(∃o,w.cell? a=some o)/\w.frozen? a=false
def Nn (p:Option Addr)(K:Addr->Prop):Prop:=∃a,p=some a/\K a
def Ld {α:Type}(w:World)(a:Addr)(V:α->Value)(K:α->Prop):Prop:=∃x,w.cell? a=some (V x)/\K x
def AP {α:Type}(S:World->Prop)(a:Addr)(V:α->Value)(K:α->Prop):Prop:=∃x,(∀w,S w->w.cell? a=some (V x))/\K x
def St (w:World)(a:Addr)(v:Value)(K:World->Prop):Prop:=Kl w a/\K (w.setCell a v)
def Nw (w:World)(o:Obj)(K:World->Prop):Prop:=K (w.alloc o)
def itW (w:World)(b:Nat)(s:ByteArray)(pos:Nat):World:={w with heap:=w.heap.setIfInBounds b (.stringIter s pos)}
def Nx (w:World)(a:Addr)(T:Int->Int->World->Prop)(N:Prop):Prop:=
 ∃(s:ByteArray) (pos:Nat),a.off=0/\w.heap[a.block]?=some (.stringIter s pos)/\Br (decide (pos<s.size)) (T (pos:Int) ((Utf8.decode s pos).1:Int) (itW w a.block s (pos+(Utf8.decode s pos).2))) N
def Lt {α:Type}(e:α)(K:α->Prop):Prop:=K e
structure Fx where
 ok:Nat->Bool
 may:Nat->Bool
 pk:Value->World->Prop
def Aj (v:Value):List PanicEntry:=[{v,recovered:=false}]
def Qw (P:Program)(pk:Value->World->Prop)(K:Value->World->Prop):Result Next->Prop
 | .ok (.value v) w'=>K v w'
 | .ok .skip w'=>K undef w'
 | .ok (.enter f args) w'=>Calls P f args w' fun e B7=>(∃v,e= .returned v/\K v B7)\/∃v,e= .panicked (Aj v)/\pk v B7
 | .halt (.panic v) w'=>pk v w'
 |_=>False
def Out (P:Program)(K:Value->World->Prop):Result Next->Prop
 | .ok (.value v) w'=>K v w'
 | .ok .skip w'=>K undef w'
 | .ok (.enter f args) w'=>Calls P f args w' fun e B7=>∃v,e= .returned v/\K v B7
 |_=>False
def BW (P:Program)(s:Sem Value)(w:World)(v:Value)(w':World):Prop:=s.run P w= .ok v w'
def sK (P:Program)(s:Sem Unit)(w:World)(w':World):Prop:=s.run P w= .ok () w'
def exT (t:Ty)(K:Value->Prop):Prop:=∃x:t.T,K (t.v x)
def Rn {α:Type}(P:Program)(s:Sem Value)(w:World)(V:α->Value)(K:α->World->Prop):Prop:=∃x w',BW P s w (V x) w'/\K x w'
def Ru (P:Program)(s:Sem Unit)(w:World)(K:World->Prop):Prop:=∃w',sK P s w w'/\K w'
def Qx (P:Program)(q:Bool)(t:TypeId)(s:Sem Value)(w:World)(K:Value->World->Prop):Prop:=match q with
 |false=>Rn P s w (NB P t).v fun x w'=>K ((NB P t).v x) w'
 |true=>False
def AMl (P:Program)(s:Sem Unit)(w:World)(K:Value->World->Prop):Prop:=Ru P s w fun w'=>K undef w'
def ldL (w:World)(a:Addr):Nat->List FR->(List Value->Prop)->Prop
 |_,[],K=>K []
 |i,t::ts,K=>Ld w (a.add i) t.v fun x=>ldL w a (i+1) ts fun l=>K (t.v x::l)
def Af (w:World)(a:Addr):Nat->(ts:List FR)->(Al ts->Prop)->Prop
 |_,[],K=>K ()
 |i,[t],K=>Ld w (a.add i) t.v fun x=>K x
 |i,t::u::r,K=>Ld w (a.add i) t.v fun x=>Af w a (i+1) (u::r) fun y=>K (x,y)
def B1 (S:World->Prop)(a:Addr):Nat->(ts:List FR)->(Al ts->Prop)->Prop
 |_,[],K=>K ()
 |i,[t],K=>AP S (a.add i) t.v fun x=>K x
 |i,t::u::r,K=>AP S (a.add i) t.v fun x=>B1 S a (i+1) (u::r) fun y=>K (x,y)
def A6 (a:Addr):Nat->(ts:List FR)->Al ts->World->(World->Prop)->Prop
 |_,[],_,w,K=>K w
 |i,[t],x,w,K=>St w (a.add i) (t.v x) K
 |i,t::u::r,x,w,K=>St w (a.add i) (t.v x.1) fun w'=>A6 a (i+1) (u::r) x.2 w' K
def MS (P:Program)(t:TypeId):Option Nat:=(P.info? t).map (·.size)
def ldV (P:Program)(t:TypeId)(x:Value)(w:World)(K:Value->Prop):Prop:=match x with
 | .pointer (some a)=>match P.underlying t,MS P t with
  |some d,some n=>match D9 (some d)with
   |false=>Ld w a (vC d).v fun x=>K ((vC d).v x)
   |true=>match NB P t with
    | .agg ts=>match Nat.beq ts.length n with
     |true=>ldL w a 0 ts fun l=>K (.agg l.toArray)
     |false=>False
    | .one _=>∃x:Array Value,BW P (loadVar t a) w (.agg x) w/\K (.agg x)
  |_,_=>False
 |_=>False
def GR:Value->Bool
 | .agg _| .tuple _=>false
 |_=>true
def stL (a:Addr):Nat->List Value->World->(World->Prop)->Prop
 |_,[],w,K=>K w
 |i,v::r,w,K=>Br (GR v) (St w (a.add i) v fun w'=>stL a (i+1) r w' K) False
def stV (P:Program)(t:TypeId)(x y:Value)(w:World)(K:World->Prop):Prop:=match x with
 | .pointer (some a)=>match P.underlying t,MS P t with
  |some d,some n=>match D9 (some d)with
   |false=>match Nat.beq n 1 with
    |true=>Br (GR y) (St w a y K) False
    |false=>False
   |true=>match y with
    | .agg cs=>match Nat.beq cs.size n with
     |true=>stL a 0 cs.toList w K
     |false=>False
    |_=>Ru P (storeVar t a y) w K
  |_,_=>False
 |_=>False
def isC:Operand->Bool
 | .const _=>true
 |_=>false
def CY (k:IntKind)(x y:Int):Int:=k.wrap ((BitVec.ofInt k.bits x&&&BitVec.ofInt k.bits y).toNat:Int)
def Kk (k:IntKind)(x y:Int):Int:=k.wrap ((BitVec.ofInt k.bits x|||BitVec.ofInt k.bits y).toNat:Int)
def Cp (s:ByteArray)(i:Int):Int:=((s.data.getD i.toNat 0).toNat:Int)
def AA.cut(s:AA)(size l h m:Nat):AA:=⟨if m=l then s.p else s.p.map (·.add (l*size)),h-l,m-l⟩
def SC (P:Program):Nat->Array Value->Array Value->List Field->Option Bool
 |0,_,_,_=>none
 |n+1,xs,ys,fs=>match fs with
  |[]=>some true
  |f::r=>if f.name= "_"then none else match P.underlying f.type with
   |some (.struct fs')=>match P.stoodInHeld f.type with
    |false=>(SC P n (xs.extract f.offset (f.offset+P.cellsOf f.type)) (ys.extract f.offset (f.offset+P.cellsOf f.type)) fs'.toList).bind fun p=>(SC P n xs ys r).map fun q=>p&&q
    |true=>none
   |some d=>match d,xs[f.offset]?,ys[f.offset]? with
    | .int _,some (.int k a),some (.int k' b)=>if k=k' then (SC P n xs ys r).map fun q=>(a==b)&&q else none
    | .bool,some (.bool a),some (.bool b)=>(SC P n xs ys r).map fun q=>(a==b)&&q
    | .string,some (.string a),some (.string b)=>(SC P n xs ys r).map fun q=>(a.toList==b.toList)&&q
    |_,_,_=>none
   |none=>none
def ia (P:Program)(t:TypeId)(xs ys:Array Value):Option Bool:=match P.underlying t with
 |some (.struct fs)=>match P.stoodInHeld t,P.eqGuardType P.depth t with
  |false,false=>SC P 60 xs ys fs.toList
  |_,_=>none
 |_=>none
def AFt (P:Program)(op:BinOp)(t:TypeId)(cy:Bool)(x y:Value)(K:Value->Prop)(B9 other:Prop):Prop:=
 match op with
 | .quo=>match cy,x,y with
  |false,.int k a,.int k' b=>if k=k' then (b≠0/\K (.int k (k.wrap (a.tdiv b))))else False
  |_,_,_=>B9
 | .rem=>match cy,x,y with
  |false,.int k a,.int k' b=>if k=k' then (b≠0/\K (.int k (a.tmod b)))else False
  |_,_,_=>B9
 | .shl=>match cy,x,y with
  |false,.int k a,.int _ b=>0<=b/\K (.int k (k.wrap (a*2^min b.toNat k.bits)))
  |_,_,_=>B9
 | .shr=>match cy,x,y with
  |false,.int k a,.int _ b=>0<=b/\K (.int k (a.fdiv (2^min b.toNat k.bits)))
  |_,_,_=>B9
 | .add=>match x,y with
  | .string a,.string b=>((a.size+b.size:Nat):Int)<=IntKind.i64.max/\K (.string (a++b))
  |_,_=>B9
 | .eql=>match x,y with
  | .int _ _,.int _ _=>B9
  | .string _,.string _=>B9
  | .bool _,.bool _=>B9
  | .pointer p,.pointer q=>match cy,q,P.underlying t with
   |true,none,some (.pointer _)=>K (.bool p.isNone)
   |_,_,_=>other
  | .slice p _ _,.slice q _ _=>match cy,q,P.underlying t with
   |true,none,some (.slice _)=>K (.bool p.isNone)
   |_,_,_=>other
  | .map p,.map q=>match cy,q,P.underlying t with
   |true,none,some (.map _ _)=>K (.bool p.isNone)
   |_,_,_=>other
  | .iface _ _,.nilIface=>match cy,P.underlying t with
   |true,some (.interface _)=>K (.bool false)
   |_,_=>other
  | .nilIface,.nilIface=>match cy,P.underlying t with
   |true,some (.interface _)=>K (.bool true)
   |_,_=>other
  | .func _ _ _,.nilFunc=>match cy,P.underlying t with
   |true,some (.func _ _ _)=>K (.bool false)
   |_,_=>other
  | .nilFunc,.nilFunc=>match cy,P.underlying t with
   |true,some (.func _ _ _)=>K (.bool true)
   |_,_=>other
  | .agg xs,.agg ys=>match ia P t xs ys with
   |some b=>K (.bool b)
   |none=>other
  |_,_=>other
 | .neq=>match x,y with
  | .int _ _,.int _ _=>B9
  | .string _,.string _=>B9
  | .bool _,.bool _=>B9
  | .pointer p,.pointer q=>match cy,q,P.underlying t with
   |true,none,some (.pointer _)=>K (.bool (!p.isNone))
   |_,_,_=>other
  | .slice p _ _,.slice q _ _=>match cy,q,P.underlying t with
   |true,none,some (.slice _)=>K (.bool (!p.isNone))
   |_,_,_=>other
  | .map p,.map q=>match cy,q,P.underlying t with
   |true,none,some (.map _ _)=>K (.bool (!p.isNone))
   |_,_,_=>other
  | .iface _ _,.nilIface=>match cy,P.underlying t with
   |true,some (.interface _)=>K (.bool true)
   |_,_=>other
  | .nilIface,.nilIface=>match cy,P.underlying t with
   |true,some (.interface _)=>K (.bool false)
   |_,_=>other
  | .func _ _ _,.nilFunc=>match cy,P.underlying t with
   |true,some (.func _ _ _)=>K (.bool true)
   |_,_=>other
  | .nilFunc,.nilFunc=>match cy,P.underlying t with
   |true,some (.func _ _ _)=>K (.bool false)
   |_,_=>other
  | .agg xs,.agg ys=>match ia P t xs ys with
   |some b=>K (.bool (!b))
   |none=>other
  |_,_=>other
 |_=>B9
def AFu (P:Program)(t:TypeId)(cy:Bool)(x y:Value)(K:Value->Prop)(B9:Prop):Prop:=
 match x,y with
 | .string s,.int _ i=>match P.underlying t with
  |some .string=>0<=i/\i<s.size/\K (.int .u8 (Cp s i))
  |_=>B9
 | .agg cs,.int _ i=>match cy,P.underlying t with
  |false,some (.array len e)=>match P.underlying e,MS P e with
   |some d,some n=>match D9 (some d)with
    |false=>0<=i/\i<len/\∃x:(vC d).T,cs[i.toNat*n]?=some ((vC d).v x)/\K ((vC d).v x)
    |true=>match NB P e with
     | .agg ts=>0<=i/\i<len/\∃x:Al ts,cs.extract (i.toNat*n) (i.toNat*n+n)=(Al.cells ts x).toArray/\K (.agg (Al.cells ts x).toArray)
     | .one _=>B9
   |_,_=>B9
  |_,_=>B9
 |_,_=>B9
def AFv (P:Program)(t:TypeId)(cy:Bool)(x y:Value)(K:Value->Prop)(B9:Prop):Prop:=
 match x,y with
 | .slice p len _,.int _ i=>match P.underlying t with
  |some (.slice e)=>match MS P e with
   |some n=>0<=i/\i<len/\Nn p fun a=>K (.pointer (some (a.add (i.toNat*n))))
   |none=>B9
  |_=>B9
 | .pointer (some a),.int _ i=>match cy,P.underlying t with
  |false,some (.array len e)=>match MS P e with
   |some n=>0<=i/\i<len/\K (.pointer (some (a.add (i.toNat*n))))
   |none=>B9
  |_,_=>B9
 |_,_=>B9
def Ca (top:Nat)(x:Option Value)(other:Nat)(K:Nat->Prop)(B9:Prop):Prop:=match x with
 |none=>K other
 |some (.int _ i)=>0<=i/\i<=top/\K i.toNat
 |_=>B9
def slV (P:Program)(t:TypeId)(x:Value)(lo hi mx:Option Value)(K:Value->Prop)(B9:Prop):Prop:=
 match x with
 | .string s=>match P.underlying t,mx with
  |some .string,none=>Ca s.size hi s.size (fun h=>Ca h lo 0 (fun l=>K (.string (s.extract l h))) B9) B9
  |_,_=>B9
 | .slice p len cap=>match P.underlying t with
  |some (.slice e)=>match MS P e with
   |some n=>match mx,hi with
    |some _,none=>B9
    |mx,hi=>Ca cap mx cap (fun m=>Ca m hi len (fun h=>Ca h lo 0 (fun l=>K (AA.v (AA.cut ⟨p,len,cap⟩ n l h m))) B9) B9) B9
   |none=>B9
  |_=>B9
 | .pointer (some a)=>match P.underlying t,mx with
  |some (.array c e),none=>match MS P e with
   |some n=>Ca c hi c (fun h=>Ca h lo 0 (fun l=>K (AA.v (AA.cut ⟨some a,c,c⟩ n l h c))) B9) B9
   |none=>B9
  |_,_=>B9
 |_=>B9
def Wi (P:Program)(g:Nat)(args:Array Value)(w:World)(v:Value)(w':World):Prop:=(callFunc g args).run P w= .ok (.value v) w'
def De (P:Program)(F:Fx)(g:Nat)(args:Array Value)(w:World)(K:Value->World->Prop):Prop:=
 match F.ok g with
 |false=>match P.funcs[g]? with
  |none=>False
  |some fn=>Xe (fn.resultTypes.toList.map (NB P)) fun l=>∃w',Wi P g args w (GP l) w'/\K (GP l) w'
 |true=>match P.funcs[g]? with
  |none=>False
  |some fn=>match F.may g with
   |false=>Calls P g args w fun e w'=>Xe (fn.resultTypes.toList.map (NB P)) fun l=>e= .returned (GP l)/\K (GP l) w'
   |true=>Calls P g args w fun e w'=>(Xe (fn.resultTypes.toList.map (NB P)) fun l=>e= .returned (GP l)/\K (GP l) w')\/∃v,e= .panicked (Aj v)/\F.pk v w'
where
 Xe:List Ty->(List Value->Prop)->Prop
  |[],K=>K []
  |t::ts,K=>∃x:t.T,Xe ts fun l=>K (t.v x::l)
 GP:List Value->Value
  |[v]=>v
  |l=> .tuple l.toArray
def sameKind:Value->Value->Bool
 | .int _ _,.int _ _=>true
 | .string _,.string _=>true
 | .bool _,.bool _=>true
 |_,_=>false
def fdV (P:Program)(t:TypeId)(x:Value)(f:Nat)(K:Value->Prop)(dn:Prop):Prop:=match x with
 | .pointer (some a)=>match P.underlying t with
  |some (.struct fs)=>match fs[f]? with
   |some f=>match MS P f.type with
    |some n=>match Nat.beq n 0 with
     |false=>K (.pointer (some (a.add f.offset)))
     |true=>dn
    |none=>dn
   |none=>dn
  |_=>dn
 |_=>dn
def tP (pk:Value->World->Prop)(x:Value)(w:World):Prop:=match x with
 | .iface t y=>pk (.iface t y) w
 |_=>False
def Qy:TypeDesc->Bool
 | .interface _=>true
 |_=>false
def tQ (P:Program)(u:TypeId)(x:Value):Option Value:=match x with
 | .iface t v=>match P.underlying u with
  |some d=>match Qy d,Nat.beq t u with
   |false,true=>some v
   |_,_=>none
  |none=>none
 |_=>none
def Ep:List Value->Bool
 |[]=>true
 | .int _ _::r=>Ep r
 |_=>false
def Z3 (P:Program)(F:Fx)(q:Bool)(E:Env)(o:Oper)(w:World)(K:Value->World->Prop):Prop:=
 let dp:Prop:=Out P K ((execOp E.A3 o).run P w)
 let dn:Prop:=match q with
  |true=>False
  |false=>Out P K ((execOp E.A3 o).run P w)
 match o.op with
 | .move _| .assign _| .pick .. | .unOp .. | .extract .. | .field .. | .build ..=>dp
 | .load t x=>ldV P t (E.A3 x) w fun v=>K v w
 | .store t x y=>match q with
  |true=>False
  |false=>stV P t (E.A3 x) (E.A3 y) w fun w'=>K undef w'
 | .nilCheck x=>match E.A3 x with
  | .pointer p=>Nn p fun a=>K (.pointer (some a)) w
  |_=>dn
 | .fieldAddr t x f=>fdV P t (E.A3 x) f (fun v=>K v w) dn
 | .binOp op t x y _=>AFt P op t (isC y) (E.A3 x) (E.A3 y) (fun v=>K v w) (match sameKind (E.A3 x) (E.A3 y)with
   |true=>dp
   |false=>dn)
   (Qx P q o.type (do eqGuard op t x y (E.A3 x) (E.A3 y);binOp op t (E.A3 x) (E.A3 y)) w K)
 | .index t x i=>AFu P t (isC i) (E.A3 x) (E.A3 i) (fun v=>K v w) dp
 | .indexAddr t x i=>AFv P t (isC i) (E.A3 x) (E.A3 i) (fun v=>K v w) dp
 | .slice t x lo hi mx=>slV P t (E.A3 x) (lo.map E.A3) (hi.map E.A3) (mx.map E.A3) (fun v=>K v w) dp
 | .call c=>match c.callee with
  | .value f=>match q,E.A3 f with
   |false,.func (.func g) first captured=>De P F g ((first++(c.args.map E.A3))++captured) w K
   |_,_=>dn
  | .builtin .append=>Qx P q o.type (Builtin.append_ c.argTypes o.type (c.args.map E.A3)) w K
  | .builtin .copy=>Qx P q o.type (Builtin.copy_ c.argTypes o.type (c.args.map E.A3)) w K
  | .builtin .clear=>Qx P q o.type (Builtin.clear_ c.argTypes o.type (c.args.map E.A3)) w K
  | .builtin .delete=>Qx P q o.type (Builtin.delete_ c.argTypes o.type (c.args.map E.A3)) w K
  | .builtin .len=>match c.args[0]?.map E.A3 with
   |some (.string _)=>dp
   |some (.slice _ _ _)=>dp
   |some (.map _)=>Qx P q o.type (Builtin.len_ c.argTypes o.type (c.args.map E.A3)) w K
   |_=>dn
  | .builtin .cap=>match c.args[0]?.map E.A3 with
   |some (.slice _ _ _)=>dp
   |_=>dn
  | .builtin .min=>match Ep (c.args.map E.A3).toList with
   |true=>dp
   |false=>dn
  | .builtin .max=>match Ep (c.args.map E.A3).toList with
   |true=>dp
   |false=>dn
  |_=>dn
 | .convert src dst x=>match E.A3 x with
  | .int _ _=>match P.underlying dst with
   |some (.int _)=>dp
   |_=>dn
  |x'=>Qx P q o.type (convert src dst x') w K
 | .panic x=>match q with
  |false=>tP F.pk (E.A3 x) w
  |true=>False
 | .makeSlice t l c=>Qx P q o.type (Instr.makeSlice t (E.A3 l) (E.A3 c)) w K
 | .lookup t x i ok=>match ok with
  |false=>Qx P q o.type (Instr.lookup t (E.A3 x) (E.A3 i) false) w K
  |true=>match q,P.underlying t with
   |false,some (.map _ e)=>exT (NB P e) fun v=>∃b:Bool,∃w',BW P (Instr.lookup t (E.A3 x) (E.A3 i) true) w (.tuple #[v,.bool b]) w'/\K (.tuple #[v,.bool b]) w'
   |_,_=>dn
 | .range t x=>match q,E.A3 x,P.underlying t with
  |false,.string s,some .string=>Nw w (.stringIter s 0) fun w'=>K (.pointer (some ⟨w.heap.size,0,none⟩)) w'
  |_,_,_=>dn
 | .next it str=>match q,str,E.A3 it with
  |false,true,.pointer (some a)=>Nx w a (fun i c w'=>K (.tuple #[.bool true,.int .i64 i,.int .i32 c]) w') (K (.tuple #[.bool false]) w)
  |_,_,_=>dn
 | .mapUpdate t m k x=>match q with
  |true=>False
  |false=>AMl P (Instr.mapUpdate t (E.A3 m) (E.A3 k) (E.A3 x)) w K
 | .typeAssert x t u ok=>match ok with
  |false=>Qx P q u (Instr.typeAssert (E.A3 x) t u false) w K
  |true=>match q with
   |true=>False
   |false=>match tQ P u (E.A3 x)with
    |some v=>K (.tuple #[v,.bool true]) w
    |none=>exT (NB P u) fun v=>∃b:Bool,∃w',BW P (Instr.typeAssert (E.A3 x) t u true) w (.tuple #[v,.bool b]) w'/\K (.tuple #[v,.bool b]) w'
 |_=>dn
def wT (ops:Array Oper)(E:Env)(o:Oper)(yes no:Env->Prop):Prop:=match o.guard with
 |none=>yes E
 |some (j,want)=>match (ops[j]?).bind (·.dst)with
  |some s=>match E.get? s with
   |some (.bool b)=>match want with
    |true=>Br b (yes ((s,.bool true)::E)) (no ((s,.bool false)::E))
    |false=>Br b (no ((s,.bool true)::E)) (yes ((s,.bool false)::E))
   |some (.tuple _)=>no E
   |_=>False
  |none=>False
def ABp:Op->Bool
 | .select ..=>false
 |_=>true
def hasAll (E:Env)(op:Op):Bool:=ABp op&&op.operands.toList.all E.has
def F4 (P:Program):Op->Bool
 | .move _| .assign _| .pick .. | .load .. | .nilCheck _| .unOp .. | .fieldAddr .. | .field .. | .index .. | .indexAddr .. | .slice .. | .extract .. | .binOp .. | .build ..=>true
 | .convert src dst _=>match P.underlying src,P.underlying dst with
  |some (.int _),some (.int _)=>true
  |_,_=>false
 | .call c=>match c.callee with
  | .builtin .len| .builtin .cap| .builtin .min| .builtin .max=>true
  |_=>false
 |_=>false
def JH (P:Program)(F:Fx)(q:Bool)(ops:Array Oper):List Oper->Env->World->(Env->World->Prop)->Prop
 |[],E,w,K=>K E w
 |o::r,E,w,K=>wT ops E o
   (fun E=>match hasAll E o.op&&(!q||F4 P o.op)with
    |true=>Z3 P F q E o w fun v w'=>JH P F q ops r (E.put o.dst v) w' K
    |false=>False)
   (fun E=>JH P F q ops r (E.put o.dst undef) w K)
def ABq (P:Program)(t:TypeId):List Ty:=match P.underlying t with
 |some (.tuple ts)=>ts.toList.map (NB P)
 |_=>[NB P t]
def Dy (P:Program)(ok:Nat->Bool)(ts:List Ty)(f:Value)(args:Array Value)(w:World)(K:Sg ts->World->Prop)(pk:Value->World->Prop):Prop:=
 ∃g first captured,f= .func (.func g) first captured/\(ok g&&(P.funcs[g]?).isSome)=true/\Calls P g ((first++args)++captured) w fun e w'=>(∃s:Sg ts,e= .returned (De.GP (Sg.GQ ts s))/\K s w')\/∃v,e= .panicked (Aj v)/\pk v w'
def Tx (v:Value)(K:Fn->Array Value->Array Value->Prop):Prop:=∃f a c,v= .func f a c/\K f a c
def tR (ρ:Operand->Value):List (Nat×Operand)->(List (Nat×Value)->Prop)->Prop
 |[],K=>K []
 |p::r,K=>Tx (ρ p.2) fun f a c=>tR ρ r fun l=>K ((p.1,.func f a c)::l)
def opD (P:Program)(F:Fx)(E:Env)(o:Oper)(w:World)(K:Value->World->Prop):Prop:=match o.op with
 | .build t parts=>tR E.A3 parts.toList fun l=>Out P K ((do pure (Next.value (<-Instr.build t l.toArray)):Sem Next).run P w)
 | .call c=>match c.callee with
  | .value (.tmp t)=>Dy P F.ok (ABq P o.type) (E.A3 (.tmp t)) (c.args.map E.A3) w (fun s w'=>K (De.GP (Sg.GQ (ABq P o.type) s)) w') F.pk
  |_=>Z3 P F false E o w K
 |_=>Z3 P F false E o w K
def tS (P:Program)(F:Fx)(ops:Array Oper):List Oper->Env->World->(Env->World->Prop)->Prop
 |[],E,w,K=>K E w
 |o::r,E,w,K=>wT ops E o
   (fun E=>match hasAll E o.op with
    |true=>opD P F E o w fun v w'=>tS P F ops r (E.put o.dst v) w' K
    |false=>False)
   (fun E=>tS P F ops r (E.put o.dst undef) w K)
def AFw (S:World->Prop)(a:Addr):Nat->List FR->(List Value->Prop)->Prop
 |_,[],K=>K []
 |i,t::ts,K=>AP S (a.add i) t.v fun x=>AFw S a (i+1) ts fun l=>K (t.v x::l)
def ldQ (P:Program)(S:World->Prop)(t:TypeId)(x:Value)(K:Value->Prop):Prop:=match x with
 | .pointer (some a)=>match P.underlying t,MS P t with
  |some d,some n=>match D9 (some d)with
   |false=>AP S a (vC d).v fun x=>K ((vC d).v x)
   |true=>match NB P t with
    | .agg ts=>match Nat.beq ts.length n with
     |true=>AFw S a 0 ts fun l=>K (.agg l.toArray)
     |false=>False
    | .one _=>∃x:Array Value,(∀w,S w->BW P (loadVar t a) w (.agg x) w)/\K (.agg x)
  |_,_=>False
 |_=>False
def opQ (P:Program)(F:Fx)(S:World->Prop)(E:Env)(o:Oper)(w:World)(K:Value->Prop):Prop:=match o.op with
 | .load t x=>ldQ P S t (E.A3 x) K
 |_=>Z3 P F true E o w fun v _=>K v
inductive Od where
 |done
 |take (i:Nat) (r:Od)
 |Aq (i:Nat) (fl:Option (List Nat)) (r:Od)
 |Gx (i:Nat) (fl:Option (List Nat)) (r more:Od)
 |mono (js:List Nat) (r:Od)
def MR:Op->Bool
 | .load ..=>true
 |_=>false
def tW (ops:Array Oper)(i:Nat):Bool:=match ops[i]? with
 |some o=>MR o.op
 |none=>false
def Od.Lc(ops:Array Oper):Od->Bool
 | .done=>false
 | .take i r=>tW ops i||r.Lc ops
 | .Aq _ (some _) _=>false
 | .Aq _ none r=>r.Lc ops
 | .Gx _ (some _) _ m=>m.Lc ops
 | .Gx _ none r m=>r.Lc ops||m.Lc ops
 | .mono _ r=>r.Lc ops
def Od.depth:Od->Nat
 | .done=>0
 | .take _ r=>r.depth+1
 | .Aq _ _ r=>r.depth+1
 | .Gx _ _ r m=>max (r.depth+1) m.depth
 | .mono js r=>r.depth+js.length
def N2 (e:List Edge)(m:Array Bool):Array Bool:=e.foldl (fun m e=>match Region.binds .any e with
 |true=>m.setIfInBounds e.on true
 |false=>m) m
def kf (ops:Array Oper):Nat->Array Bool->Array Bool
 |0,m=>m
 |k+1,m=>kf ops k (match m.getD k false,ops[k]? with
  |true,some o=>N2 o.after.toList m
  |_,_=>m)
def wS (ops:Array Oper)(j i:Nat):Bool:=match ops[j]? with
 |some o=>(kf ops j (N2 o.after.toList (Array.replicate ops.size false))).getD i false
 |none=>false
def phT (lo:Bool)(w:World)(k:(World->Prop)->Prop):Prop:=match lo with
 |true=>∃S:World->Prop,S w/\k S
 |false=>k fun _=>True
def zN (P:Program)(F:Fx)(ops:Array Oper)(J:List Nat)(S:World->Prop)(i:Nat)(fl:Option (List Nat))(lo:Bool)(E:Env)(w:World)(o:Oper)
  (k:(World->Prop)->Env->World->Prop):Prop:=match fl,J.contains i with
 |none,false=>wT ops E o
  (fun E=>match hasAll E o.op with
   |true=>Z3 P F false E o w fun v w'=>S w'/\k S (E.put o.dst v) w'
   |false=>False)
  (fun E=>k S (E.put o.dst undef) w)
 |some _,true=>wT ops E o
  (fun E=>match hasAll E o.op with
   |true=>Z3 P F false E o w fun v w'=>phT lo w' fun S=>k S (E.put o.dst v) w'
   |false=>False)
  (fun E=>phT lo w fun S=>k S (E.put o.dst undef) w)
 |_,_=>False
structure DJ where
 j:Nat
 dst:Nat
 ty:Ty
 G:ty.T->World->Prop
def tZ (P:Program)(o:Oper):Ty:=match o.op with
 | .indexAddr ..=> .one .addr
 | .fieldAddr ..=> .one .addr
 |_=>NB P o.type
def ib (P:Program)(ops:Array Oper)(le:World->World->Prop):List Nat->List DJ->(List DJ->Prop)->Prop
 |[],acc,k=>k acc
 |j::js,acc,k=>match ops[j]? with
  |some o=>match o.dst with
   |some d=>∃G:(tZ P o).T->World->Prop,(∀x w w',le w w'->G x w->G x w')/\ib P ops le js (acc++[⟨j,d,tZ P o,G⟩]) k
   |none=>False
  |none=>False
def Le (op:Op)(d:Nat):Bool:=op.operands.toList.any fun x=>match x with
 | .tmp t=>Nat.beq t d
 |_=>false
def Ss (o:Oper):List DJ->Env->World->(Env->Prop)->Prop
 |[],E,_,k=>k E
 |e::r,E,w,k=>match Le o.op e.dst with
  |true=>∀x:e.ty.T,e.G x w->Ss o r (E.put (some e.dst) (e.ty.v x)) w k
  |false=>Ss o r E w k
def Lf:List DJ->Env->World->(Env->Prop)->Prop
 |[],E,_,k=>k E
 |e::r,E,w,k=>∀x:e.ty.T,e.G x w->Lf r (E.put (some e.dst) (e.ty.v x)) w k
def ic (P:Program)(F:Fx)(ops:Array Oper)(S:World->Prop)(le:World->World->Prop)(B:World->Prop)(E:Env)(all:List DJ):List DJ->Prop
 |[]=>True
 |e::r=>(match ops[e.j]? with
  |some o=>∀w,S w->B w->Ss o all E w fun E'=>match hasAll E' o.op with
   |true=>Z3 P F false E' o w fun v w'=>S w'/\B w'/\le w w'/\∃x:e.ty.T,v=e.ty.v x/\e.G x w'
   |false=>False
  |none=>False)/\ic P F ops S le B E all r
def DK (listed:Array Bool):List Nat->Array Bool
 |[]=>listed
 |j::js=>DK (listed.setIfInBounds j true) js
def IC (ops:Array Oper)(j:Nat):Nat:=match (ops[j]?).bind (·.dst)with
 |some d=>d
 |none=>0
def ie (x:Nat):List Nat->Bool
 |[]=>true
 |y::r=> !Nat.beq x y&&ie x r
def distinct:List Nat->Bool
 |[]=>true
 |x::r=>ie x r&&distinct r
def U3 (ops:Array Oper)(listed:Array Bool)(js:List Nat)(E:Env):Bool:=
 distinct js&&distinct (js.map (IC ops))&&
 (js.all fun j=>match ops[j]? with
  |some o=>o.guard.isNone&&o.dst.isSome&& !(listed.getD j true)&& !(E.get? (IC ops j)).isSome&&
   (o.after.toList.all fun e=> !Region.binds .any e||listed.getD e.on false||(js.contains e.on&&Nat.blt e.on j))&&
   (js.all fun j'=> !Le o.op (IC ops j')||o.after.toList.any fun e=>Region.binds .any e&&Nat.beq e.on j')
  |none=>false)&&
 ((List.range ops.size).all fun k=>listed.getD k true||js.contains k||js.all fun j=>wS ops k j)
def JI (ops:Array Oper):Od->List Nat->List Nat->Array Bool->Bool
 | .done,pre,_,listed=>pre.isEmpty&&(Region.ready .any ops listed).isEmpty
 | .take i r,pre,J,listed=>match ops[i]? with
  |none=>false
  |some o=>pre.isEmpty&&(Region.free .any ops listed i&&(Region.ready .any ops listed).contains i)&&(!MR o.op||J.all fun j=>wS ops j i)&&JI ops r [] J (listed.setIfInBounds i true)
 | .Aq i fl r,pre,J,listed=>Region.ready .any ops listed==pre++[i]&&JI ops r [] (fl.getD J) (listed.setIfInBounds i true)
 | .Gx i fl r more,pre,J,listed=>JI ops r [] (fl.getD J) (listed.setIfInBounds i true)&&JI ops more (pre++[i]) J listed
 | .mono js r,pre,J,listed=>pre.isEmpty&&(js.all fun j=> !J.contains j)&&JI ops r [] J (DK listed js)
def hasB (m i:Nat):Bool:=Nat.beq (Nat.land (Nat.shiftRight m i) 1) 1
def U4 (m i:Nat):Nat:=Nat.lor m (Nat.shiftLeft 1 i)
def Su:List Edge->Nat->Nat
 |[],m=>m
 |e::r,m=>match Region.binds .any e with
  |true=>Su r (U4 m e.on)
  |false=>Su r m
def Xf (ops:Array Oper):Nat->Nat->Nat
 |0,m=>m
 |k+1,m=>match hasB m k,ops[k]? with
  |true,some o=>Xf ops k (Su o.after.toList m)
  |_,_=>Xf ops k m
def AFx (ops:Array Oper)(j:Nat):Nat:=match ops[j]? with
 |some o=>Xf ops j (Su o.after.toList 0)
 |none=>0
def Jj (m:Nat):List Edge->Bool
 |[]=>true
 |e::r=>match Region.binds .any e with
  |true=>hasB m e.on&&Jj m r
  |false=>Jj m r
def JJ (m k:Nat)(o:Oper):Bool:= !hasB m k&&Jj m o.after.toList
def Hq (m:Nat):List Oper->Nat->List Nat
 |[],_=>[]
 |o::r,k=>match JJ m k o with
  |true=>k::Hq m r (k+1)
  |false=>Hq m r (k+1)
def Qz (ops:Array Oper)(m i:Nat)(oi:Oper):List Oper->Nat->Bool
 |[],_=>true
 |o::r,j=>(Nat.beq j i||hasB m j||(o.after.toList.any fun e=>Nat.beq e.on i&&Region.binds .any e)||oi.apart ops o)&&Qz ops m i oi r (j+1)
def kg:List Nat->List Nat->Bool
 |[],[]=>true
 |x::r,y::q=>Nat.beq x y&&kg r q
 |_,_=>false
def ig (m:Nat):List Nat->Nat
 |[]=>m
 |j::js=>ig (U4 m j) js
def ID (ops:Array Oper):Od->List Nat->List Nat->Nat->Bool
 | .done,pre,_,m=>pre.isEmpty&&(Hq m ops.toList 0).isEmpty
 | .take i r,pre,J,m=>match ops[i]? with
  |none=>false
  |some o=>pre.isEmpty&&JJ m i o&&Qz ops m i o ops.toList 0&&(!MR o.op||J.all fun j=>hasB (AFx ops j) i)&&ID ops r [] J (U4 m i)
 | .Aq i fl r,pre,J,m=>kg (Hq m ops.toList 0) (pre++[i])&&ID ops r [] (fl.getD J) (U4 m i)
 | .Gx i fl r more,pre,J,m=>Nat.blt i ops.size&&ID ops r [] (fl.getD J) (U4 m i)&&ID ops more (pre++[i]) J m
 | .mono js r,pre,J,m=>pre.isEmpty&&(js.all fun j=> !J.contains j&&Nat.blt j ops.size)&&ID ops r [] J (ig m js)
def Da (P:Program)(F:Fx)(ops:Array Oper):Od->List Nat->(World->Prop)->Array Bool->Env->World->(Env->World->Prop)->Prop
 | .done,_,_,_,E,w,K=>K E w
 | .take i r,J,S,listed,E,w,K=>match ops[i]? with
  |none=>False
  |some o=>wT ops E o
    (fun E=>match hasAll E o.op&&F4 P o.op with
     |true=>opQ P F S E o w fun v=>Da P F ops r J S (listed.setIfInBounds i true) (E.put o.dst v) w K
     |false=>False)
    (fun E=>Da P F ops r J S (listed.setIfInBounds i true) (E.put o.dst undef) w K)
 | .Aq i fl r,J,S,listed,E,w,K=>match ops[i]? with
  |none=>False
  |some o=>zN P F ops J S i fl (r.Lc ops) E w o fun S E w=>Da P F ops r (fl.getD J) S (listed.setIfInBounds i true) E w K
 | .Gx i fl r more,J,S,listed,E,w,K=>match ops[i]? with
  |none=>False
  |some o=>zN P F ops J S i fl (r.Lc ops) E w o (fun S E w=>Da P F ops r (fl.getD J) S (listed.setIfInBounds i true) E w K)/\Da P F ops more J S listed E w K
 | .mono js r,J,S,listed,E,w,K=>match U3 ops listed js E with
  |true=>∃(le:World->World->Prop) (B:World->Prop),B w/\ib P ops le js [] fun Gs=>
    ic P F ops S le B E Gs Gs/\∀w,S w->B w->Lf Gs E w fun E=>Da P F ops r J S (DK listed js) E w K
  |false=>False
inductive Xg where
 |seq|still|tail (n:Nat)|held (J:List Nat) (o:Od)|dyn|tailD (n:Nat)
def AFy (P:Program)(F:Fx)(m:Xg)(ops:Array Oper)(d:Bool)(E:Env)(w:World)(K:Env->World->Prop):Prop:=
 match d,m with
 |false,.seq=>JH P F false ops ops.toList E w K
 |true,.still=>match Region.lexB .any ops with
  |true=>JH P F true ops ops.toList E w.drew K
  |false=>False
 |true,.tail n=>match Region.lexTailB .any ops n with
  |true=>JH P F true ops (ops.toList.take n) E w.drew fun E w=>JH P F false ops (ops.toList.drop n) E w K
  |false=>False
 |true,.held J o=>match Region.noSelect ops&&Nat.ble o.depth ops.size&&ID ops o [] J 0 with
  |true=>phT (o.Lc ops) w.drew fun S=>Da P F ops o J S (Array.replicate ops.size false) E w.drew K
  |false=>False
 |false,.dyn=>tS P F ops ops.toList E w K
 |true,.tailD n=>match Region.lexTailB .any ops n with
  |true=>JH P F true ops (ops.toList.take n) E w.drew fun E w=>tS P F ops (ops.toList.drop n) E w K
  |false=>False
 |_,_=>False
inductive A7 where
 |Bq (m:Xg)
 |leaf
 |seq (a b:A7)
 |join (live:List (Nat×Ty)) (AB:List Nat) (a b:A7)
 |cond (a b:A7)
 |block (a:A7)
 |loop (live:List (Nat×Ty)) (AB:List Nat) (a:A7)
abbrev A7.q(a:A7):A7:= .seq (.Bq .seq) a
abbrev A7.l:A7:= .leaf
abbrev A7.r:A7:= .Bq .seq
abbrev A7.s(a b:A7):A7:= .seq a b
abbrev A7.c(a b:A7):A7:= .cond a b
abbrev A7.b(a:A7):A7:= .block a
abbrev A7.o(live:List (Nat×Ty))(AB:List Nat)(a:A7):A7:= .loop live AB a
def wr (t:Nat):Code->Bool
 | .region _ ops _=>ops.toList.any fun o=>match o.dst with
  |some d=>Nat.beq d t
  |none=>false
 | .seq a b=>wr t a||wr t b
 | .cond _ a b=>wr t a||wr t b
 | .block _ a=>wr t a
 | .loop a=>wr t a
 | .skip| .exit _| .ret| .label _=>false
 |_=>true
def EK (AB:List Nat)(c:Code):Bool:=AB.all fun t=> !wr t c
def CP {σ:Type}(body:σ->World->Prop)(front:(σ->World->Prop)->Prop):Prop:=
 ∃J:σ->World->Prop,(∀s w,J s w->body s w)/\front J
def Lp {σ:Type}(B:(σ->World->Prop)->σ->World->Prop)(s0:σ)(w0:World):Prop:=
 ∃(I:Nat->σ->World->Prop) (n0:Nat),I n0 s0 w0/\∀n s w,I n s w->B (fun s' w'=>∃n',n'<n/\I n' s' w') s w
def GI (live:List (Nat×Ty))(E:Env)(K:Sg (live.map (·.2))->Prop):Prop:=
 match Env.GQ E (live.map (·.1))with
 |some vs=>match Sg.get? (live.map (·.2)) vs with
  |some s=>K s
  |none=>False
 |none=>False
def GJ (live:List (Nat×Ty))(s:Sg (live.map (·.2))):Env:=Env.zip (live.map (·.1)) (Sg.GQ (live.map (·.2)) s)
def Cx (P:Program)(F:Fx):A7->Code->Env->World->(Exit->Env->World->Prop)->Prop
 | .Bq m,.region _ ops d,E,w,K=>AFy P F m ops d E w fun E w=>K .normal E w
 | .leaf,.skip,E,w,K=>K .normal E w
 | .leaf,.label _,E,w,K=>K .normal E w
 | .leaf,.exit id,E,w,K=>K (.exit id) E w
 | .leaf,.ret,E,w,K=>K .ret E w
 | .seq p q,.seq c d,E,w,K=>Cx P F p c E w fun e E w=>match e with
  | .normal=>Cx P F q d E w K
  |e=>K e E w
 | .join live AB p q,.seq c d,E,w,K=>match EK AB c with
  |true=>CP (fun s w=>Cx P F q d (GJ live s++Env.AB E AB) w K) fun J=>Cx P F p c E w fun e E w=>match e with
   | .normal=>GI live E fun s=>J s w
   |e=>K e E w
  |false=>False
 | .cond p q,.cond x c d,E,w,K=>match E.A3 x with
  | .bool b=>Br b (Cx P F p c E w K) (Cx P F q d E w K)
  |_=>False
 | .block p,.block id c,E,w,K=>Cx P F p c E w fun e E w=>match e with
  | .exit i=>match Nat.beq i id with
   |true=>K .normal E w
   |false=>K (.exit i) E w
  |e=>K e E w
 | .loop live AB p,.loop c,E,w,K=>match EK AB c with
  |true=>GI live E fun s0=>Lp (fun R s w=>Cx P F p c (GJ live s++Env.AB E AB) w fun e E w=>match e with
   | .normal=>GI live E fun s=>R s w
   |e=>K e E w) s0 w
  |false=>False
 |_,_,_,_,_=>False
def Dv (P:Program):List ResultVar->Env->World->(List Value->Prop)->Prop
 |[],_,_,K=>K []
 | .tmp t::r,E,w,K=>match E.get? t with
  |some v=>Dv P r E w fun l=>K (v::l)
  |none=>False
 | .cell t ty::r,E,w,K=>match E.get? t with
  |some x=>ldV P ty x w fun v=>Dv P r E w fun l=>K (v::l)
  |none=>False
def Xh:Nat->List Value->Env
 |_,[]=>[]
 |i,v::r=>(i,v)::Xh (i+1) r
def lR (P:Program)(F:Fx)(pl:A7)(fn:Func)(args:List Value)(w:World)(tys:List Ty)(R:Sg tys->World->Prop):Prop:=
 match fn.body with
 |none=>False
 |some c=>Cx P F pl c (Xh 0 args) w fun e E w=>match e with
  | .normal=>Dv P fn.results.toList E w fun vs=>match Sg.get? tys vs with
   |some s=>R s w
   |none=>False
  | .ret=>Dv P fn.results.toList E w fun vs=>match Sg.get? tys vs with
   |some s=>R s w
   |none=>False
  |_=>False
def Z4:Option Value->FrameMode
 |none=> .returning
 |some v=> .panicking (Aj v)
def Jk:Option Value->FrameMode
 |none=> .returning
 |some v=> .panicking [{v,recovered:=true}]
def Gw (P:Program)(g:Nat)(args:Array Value)(u:Option Value)(w:World)(R:World->Prop):Prop:=
 CallsD P g args (Z4 u) w fun e u' w'=>e= .returned (.tuple #[])/\u'=Jk u/\R w'
inductive Hw where
 |pre (p:A7) (r:Hw)
 |here (AB:List Nat) (p:A7)
def NC (P:Program)(fn:Func)(tys:List Ty)(R:Sg tys->World->Prop)(E:Env)(w:World):Prop:=
 Dv P fn.results.toList E w fun vs=>match Sg.get? tys vs with
  |some s=>R s w
  |none=>False
def td:Op->Option Call
 | .defer c=>some c
 |_=>none
def U5:Callee->Option Operand
 | .value f=>some f
 |_=>none
def te:Value->Option (Nat×Array Value×Array Value)
 | .func (.func g) first captured=>some (g,first,captured)
 |_=>none
def tj (E:Env)(o:Oper)(K:Nat->Array Value->Prop):Prop:=match td o.op,o.guard,o.dst with
 |some c,none,none=>match U5 c.callee with
  |some f=>match te (E.A3 f),E.has f&&c.args.toList.all E.has with
   |some (g,first,captured),true=>K g ((first++(c.args.map E.A3))++captured)
   |_,_=>False
  |none=>False
 |_,_,_=>False
def Q5 (P:Program)(ok:Nat->Bool)(g:Nat):Bool:=match ok g,P.funcs[g]? with
 |true,some _=>true
 |_,_=>false
def AFz (P:Program)(ok may:Nat->Bool)(PR:Value->World->Prop)(fn:Func)(tys:List Ty)(R:Sg tys->World->Prop):Hw->Code->Env->World->Prop
 | .pre p r,.seq c d,E,w=>Cx P ⟨ok,may,PR⟩ p c E w fun e E w=>match e with
  | .normal=>AFz P ok may PR fn tys R r d E w
  | .ret=>NC P fn tys R E w
  |_=>False
 | .here AB p,.seq (.region _ ops false) d,E,w=>JH P ⟨ok,may,PR⟩ false ops ops.toList.dropLast E w fun E w=>match ops.toList.getLast? with
  |some o=>tj E o fun g args=>match EK AB d&&Q5 P ok g with
   |true=>Cx P ⟨ok,may,fun v w=>Gw P g args (some v) w fun w'=>NC P fn tys R (Env.AB E AB) w'⟩ p d E w fun e E w=>match e with
    | .normal=>Gw P g args none w fun w'=>NC P fn tys R E w'
    | .ret=>Gw P g args none w fun w'=>NC P fn tys R E w'
    |_=>False
   |false=>False
  |none=>False
 |_,_,_,_=>False
def UP (P:Program)(ok may:Nat->Bool)(PR:Value->World->Prop)(pl:Hw)(fn:Func)(args:List Value)(w:World)(tys:List Ty)(R:Sg tys->World->Prop):Prop:=
 match fn.body with
 |none=>False
 |some c=>AFz P ok may PR fn tys R pl c (Xh 0 args) w
def ND:Op->Bool
 | .call c=>match c.callee with
  | .builtin .recover=>true
  |_=>false
 |_=>false
def AMn:Option Value->Value
 |none=> .nilIface
 |some v=>v
def WQ (P:Program)(ok may:Nat->Bool)(pl:A7)(fn:Func)(args:List Value)(u:Option Value)(w:World)(R:World->Prop):Prop:=
 match fn.body with
 |some (.seq (.region _ ops false) d)=>match ops.toList with
  |o::r=>match ND o.op,o.guard,fn.results.toList with
   |true,none,[]=>JH P ⟨ok,may,fun _ _=>False⟩ false ops r ((Xh 0 args).put o.dst (AMn u)) w fun E w=>Cx P ⟨ok,may,fun _ _=>False⟩ pl d E w fun e _ w=>match e with
    | .normal=>R w
    | .ret=>R w
    |_=>False
   |_,_,_=>False
  |[]=>False
 |_=>False
end Sh
namespace Sh
theorem FR.NH:∀(t:FR) (v:Value) (x:t.T),t.get? v=some x->t.v x=v
 | .int k,v,x,h=>by
  cases v<;>simp only[FR.get?]at h<;>try (cases h;done)
  rename_i k' n;by_cases e:k'=k
  ·rw[ak e]at h;cases h;subst e;rfl
  ·rw[ah e]at h;cases h
 | .bool,v,x,h=>by cases v<;>simp only[FR.get?]at h<;>cases h<;>rfl
 | .str,v,x,h=>by cases v<;>simp only[FR.get?]at h<;>cases h<;>rfl
 | .ptr,v,x,h=>by cases v<;>simp only[FR.get?]at h<;>cases h<;>rfl
 | .addr,v,x,h=>by
  cases v with
  |pointer p=>
   cases p with
   |none=>cases h
   |some a=>cases h;rfl
  |_=>cases h
 | .Fu,v,x,h=>by cases v<;>simp only[FR.get?]at h<;>cases h<;>rfl
 | .map,v,x,h=>by cases v<;>simp only[FR.get?]at h<;>cases h<;>rfl
 | .raw,v,x,h=>by simp only[FR.get?]at h;cases h;rfl
theorem Al.eK(ts:List FR):∀(vs:List Value) (x:Al ts),Al.get? ts vs=some x->Al.cells ts x=vs:=by
 induction ts with
 |nil=>intro vs x h;cases vs with
  |nil=>rfl
  |cons _ _=>cases h
 |cons t ts ih=>cases ts with
  |nil=>intro vs x h;cases vs with
   |nil=>cases h
   |cons v vs=>cases vs with
    |nil=>exact bI (fun y=>[y]) (FR.NH _ _ _ h)
    |cons _ _=>cases h
  |cons u r=>intro vs x h;cases vs with
   |nil=>cases h
   |cons v vs=>
    obtain ⟨a,ha,h1⟩:=c8.1 h;obtain ⟨b,hb,h2⟩:=c8.1 h1;rw[<-aY h2];show t.v a::Al.cells (u::r) b=v::vs;rw[FR.NH _ _ _ ha,ih _ _ hb]
theorem Ty.NH(t:Ty)(v:Value)(x:t.T)(h:t.get? v=some x):t.v x=v:=by
 cases t with
 |one t=>exact FR.NH _ _ _ h
 |agg ts=>
  cases v with
  |agg cs=>
   show Value.agg (Al.cells ts x).toArray=_;rw[Al.eK _ _ _ h]
  |_=>exact nomatch (show (none:Option (Al ts))=some x from h)
theorem Sg.TF(ts:List Ty):∀(vs:List Value) (x:Sg ts),Sg.get? ts vs=some x->Sg.GQ ts x=vs:=by
 induction ts with
 |nil=>intro vs x h;cases vs with
  |nil=>rfl
  |cons _ _=>cases h
 |cons t ts ih=>cases ts with
  |nil=>intro vs x h;cases vs with
   |nil=>cases h
   |cons v vs=>cases vs with
    |nil=>exact bI (fun y=>[y]) (Ty.NH _ _ _ h)
    |cons _ _=>cases h
  |cons u r=>intro vs x h;cases vs with
   |nil=>cases h
   |cons v vs=>
    obtain ⟨a,ha,h1⟩:=c8.1 h;obtain ⟨b,hb,h2⟩:=c8.1 h1;rw[<-aY h2];show t.v a::Sg.GQ (u::r) b=v::vs;rw[Ty.NH _ _ _ ha,ih _ _ hb]
theorem Lj {b:Bool}{A B:Prop}(h:Br b A B):(b=true/\A)\/(b=false/\B):=by
 cases b
 ·exact .inr ⟨rfl,h⟩
 ·exact .inl ⟨rfl,h⟩
theorem beq_eq {a b:Nat}(h:Nat.beq a b=true):a=b:=by simpa using h
structure Fits (N:Nat) (E:Env) (a:Act):Prop where
 size:a.tmps.size=N
 get:∀t v,E.get? t=some v->t<N/\a.tmps.getD t undef=v
theorem GM {α:Type}(xs:Array α)(i:Nat)(v d:α)(h:i<xs.size):(xs.setIfInBounds i v).getD i d=v:=by
 simp[Array.getD,h]
theorem FM {α:Type}(xs:Array α){i j:Nat}(v d:α)(h:i≠j):(xs.setIfInBounds i v).getD j d=xs.getD j d:=by
 simp only[bO,Array.getElem?_setIfInBounds];rw[ah h]
theorem Fits.cons{N:Nat}{E:Env}{a:Act}{d:Nat}{v:Value}(h:Fits N E a)(hd:d<N)(hv:a.tmps.getD d undef=v):Fits N ((d,v)::E) a:=by
 refine ⟨h.size,fun t u hu=>?_⟩;simp only[Env.get?]at hu;split at hu
 ·rename_i hb;cases hu;rw[<-beq_eq hb];exact ⟨hd,hv⟩
 ·exact h.get t u hu
theorem Fits.put{N:Nat}{E:Env}{a:Act}{d:Option Tmp}{v:Value}(h:Fits N E a)(hd:∀t,d=some t->t<N):Fits N (E.put d v) (a.put d v):=by
 cases d with
 |none=>exact h
 |some t=>
  refine ⟨by simp[Act.put,h.size],fun u x hx=>?_⟩;simp only[Env.put,Env.get?]at hx;split at hx
  ·rename_i hb;cases hx;have:=beq_eq hb;subst this;exact ⟨hd _ rfl,GM _ _ _ _ (by rw[h.size];exact hd _ rfl)⟩
  ·rename_i hb;have A2:t≠u:=fun e=>by subst e;simp at hb
   exact ⟨(h.get u x hx).1,by simp only[Act.put];rw[FM _ _ _ A2];exact (h.get u x hx).2⟩
theorem put_defers {a:Act}{d:Option Tmp}{v:Value}:(a.put d v).defers=a.defers:=by
 cases d<;>rfl
theorem HK {a:Act}{d:Option Tmp}{v:Value}{t:Nat}(h:d≠some t):(a.put d v).tmps.getD t undef=a.tmps.getD t undef:=by
 cases d with
 |none=>rfl
 |some u=>simp only[Act.put];rw[FM _ _ _ (fun e=>h (by rw[e]))]
theorem Fits.A3{N:Nat}{E:Env}{a:Act}(h:Fits N E a){x:Operand}(hx:E.has x=true):a.eval x=E.A3 x:=by
 cases x with
 |tmp t=>
  simp only[Env.has,Option.isSome_iff_exists]at hx;obtain ⟨v,hv⟩:=hx;simp only[Act.eval,Env.A3,hv];exact (h.get t v hv).2
 |_=>rfl
theorem BH {N:Nat}{E:Env}{a:Act}(h:Fits N E a){o:Oper}(hx:hasAll E o.op=true):execOp a.eval o=execOp E.A3 o:=by
 simp only[hasAll,ay,bx]at hx;refine execOp_congr o (fun cs b e=>?_) fun x hm=>h.A3 (hx.2 x (by simpa using hm))
 rw[e]at hx;simp[ABp]at hx
section
variable {P:Program} {F:Fx} {E:Env} {w:World} {K:Value->World->Prop}
theorem EL {s:Sem Value}{v:Value}{w':World}(h:s.run P w= .ok v w')(hk:K v w'):Out P K ((do pure (Next.value (<-s)):Sem Next).run P w):=by
 simp only[Sem.run_bind,h,Result.andThen_ok,Sem.run_pure,Out];exact hk
theorem Xk {s:Sem Unit}{w':World}(h:s.run P w= .ok () w')(hk:K undef w'):Out P K ((do s;pure Next.skip:Sem Next).run P w):=by
 simp only[Sem.run_bind,h,Result.andThen_ok,Sem.run_pure,Out];exact hk
theorem DL {t:TypeId}{d:TypeDesc}(h:P.underlying t=some d):(isAgg t).run P w= .ok (D9 (some d)) w:=by
 simp only[isAgg,Sem.run_bind,run_underlying h,Result.andThen_ok];cases d<;>rfl
theorem k5 {t:TypeId}{n:Nat}(h:MS P t=some n):∃i,P.info? t=some i/\i.size=n:=by
 simpa[MS]using h
theorem BE {t:TypeId}{n:Nat}(h:MS P t=some n):(sizeOf t).run P w= .ok n w:=by
 obtain ⟨i,hi,rfl⟩:=k5 h;simp[sizeOf,run_typeInfo w hi]
theorem N7 {a:Addr}{v:Value}(h:w.cell? a=some v):(load a).run P w= .ok v w:=by
 simp[load,Sem.run,h]
theorem iw {a:Addr}{K:List Value->Prop}:∀(ts:List FR) (i:Nat),ldL w a i ts K->∃l:List Value,l.length=ts.length/\(∀j v,l[j]?=some v->w.cell? (a.add (i+j))=some v)/\K l
 |[],_,h=>⟨[],rfl,by simp,h⟩
 |t::ts,i,h=>by
  obtain ⟨x,hx,hr⟩:=h;obtain ⟨l,h1,h2,h3⟩:=iw ts (i+1) hr;refine ⟨t.v x::l,by simp[h1],fun j v hj=>?_,h3⟩;cases j with
  |zero=>simp at hj;subst hj;simpa using hx
  |succ j=>have:=h2 j v (by simpa using hj);rw[show i+(j+1)=i+1+j by omega];exact this
theorem U6 {t:TypeId}{x:Value}{K:Value->Prop}(h:ldV P t x w K):∃v,(Instr.loadAt t x).run P w= .ok v w/\K v:=by
 unfold ldV at h;split at h
 ·rename_i a;have e:∀v,(loadVar t a).run P w= .ok v w->(Instr.loadAt t (.pointer (some a))).run P w= .ok v w:=fun v hv=>by
   simp only[Instr.loadAt,Instr.sureAddr,Sem.run_bind,Sem.run_pure,Result.andThen_ok];exact hv
  split at h
  ·rename_i d n hd hn;have ha:=DL (P:=P) (w:=w) hd;split at h
   ·rename_i hf;obtain ⟨x,hx,hk⟩:=h;refine ⟨_,e _ ?_,hk⟩;simp only[loadVar,Sem.run_bind,ha,hf,Result.andThen_ok,bD,dz,N7 hx]
   ·rename_i ht;split at h
    ·rename_i ts _;split at h
     ·rename_i hlen;obtain ⟨l,h1,h2,h3⟩:=iw ts 0 h;refine ⟨_,e _ ?_,h3⟩;have hl:l.length=n:=by rw[h1];exact beq_eq hlen
      have:=run_loadCells_list (P:=P) w a l (fun j v hj=>by simpa using h2 j v hj);simp only[loadVar,Sem.run_bind,ha,ht,Result.andThen_ok,if_true,BE hn,<-hl,this,Sem.run_pure]
     ·exact h.elim
    ·obtain ⟨x,hx,hk⟩:=h;exact ⟨.agg x,e _ hx,hk⟩
  ·exact h.elim
 ·exact h.elim
theorem Lo {a:Addr}{v:Value}(h:Kl w a)(hv:GR v=true):(store a v).run P w= .ok () (w.setCell a v):=by
 obtain ⟨⟨o,ho⟩,hf⟩:=h;cases v<;>simp[GR]at hv<;>simp[store,Sem.run,ho,hf]
theorem ix {a:Addr}{K:World->Prop}:∀(vs:List Value) (i:Nat) (w:World),stL a i vs w K->∃w',(storeCells a vs i).run P w= .ok () w'/\K w'
 |[],_,w,h=>⟨w,by simp[storeCells],h⟩
 |v::r,i,w,h=>by
  rcases Lj h with ⟨hv,hc,hr⟩|⟨_,hn⟩
  ·obtain ⟨w',h1,h2⟩:=ix r (i+1) _ hr;exact ⟨w',by simp only[storeCells,Sem.run_bind,Lo hc hv,Result.andThen_ok];exact h1,h2⟩
  ·exact hn.elim
theorem zR {t:TypeId}{x y:Value}{K:World->Prop}(h:stV P t x y w K):∃w',(Instr.storeAt t x y).run P w= .ok () w'/\K w':=by
 unfold stV at h;split at h
 ·rename_i a;have e:∀w',(storeVar t a y).run P w= .ok () w'->(Instr.storeAt t (.pointer (some a)) y).run P w= .ok () w':=fun v hv=>by
   simp only[Instr.storeAt,Instr.sureAddr,Sem.run_bind,Sem.run_pure,Result.andThen_ok];exact hv
  split at h
  ·rename_i d n hd hn;split at h
   ·split at h
    ·rename_i YP;rcases Lj h with ⟨hv,hc,hk⟩|⟨_,hf⟩
     ·refine ⟨_,e _ ?_,hk⟩;have h1:y.cells=#[y]:=by cases y<;>simp[GR]at hv<;>rfl
      have h2:n=1:=beq_eq YP;subst h2;have hs:(store (a.add 0) y).run P w= .ok () (w.setCell a y):=by simpa[Addr.add]using Lo (P:=P) hc hv
      simp only[storeVar,Sem.run_bind,BE hn,Result.andThen_ok,h1];simp[storeCells,hs]
     ·exact hf.elim
    ·exact h.elim
   ·split at h
    ·rename_i cs;split at h
     ·rename_i hlen;obtain ⟨w',h1,h2⟩:=ix (P:=P) _ _ _ h;refine ⟨w',e _ ?_,h2⟩;have hl:cs.size=n:=beq_eq hlen;simp only[storeVar,Sem.run_bind,BE hn,Result.andThen_ok,Value.cells,hl];simpa using h1
     ·exact h.elim
    ·obtain ⟨w',h1,h2⟩:=h;exact ⟨w',e _ h1,h2⟩
  ·exact h.elim
 ·exact h.elim
theorem DB {t:TypeId}{s:Sem Value}(h:Qx P false t s w K):Out P K ((do pure (Next.value (<-s)):Sem Next).run P w):=by
 obtain ⟨x,w',hr,hk⟩:=h;exact EL hr hk
theorem tv {s:Sem Unit}(h:AMl P s w K):Out P K ((do s;pure Next.skip:Sem Next).run P w):=by
 obtain ⟨w',hr,hk⟩:=h;exact Xk hr hk
end
end Sh
namespace Sh
def Pu {α:Type}(s:Sem α):Prop:=∀(P:Program) (w:World) (x:α) (w':World),s.run P w= .ok x w'->w'=w/\∀w2,s.run P w2= .ok x w2
theorem Pu.pure{α:Type}(a:α):Pu (Pure.pure a:Sem α):=by
 intro P w x w' h;simp only[Sem.run_pure,Result.ok.injEq]at h;obtain ⟨rfl,rfl⟩:=h;exact ⟨rfl,fun _=>rfl⟩
theorem Pu.never{α:Type}{s:Sem α}(h:∀P w,∃x w',s.run P w= .halt x w'):Pu s:=by
 intro P w x w' hr;obtain ⟨y,B7,hy⟩:=h P w;rw[hy]at hr;cases hr
theorem Pu.stuck{α:Type}(t:String):Pu (Go.stuck t:Sem α):=Pu.never fun _ w=>⟨_,w,rfl⟩
theorem Pu.unsupported{α:Type}(t:Unsupported):Pu (Go.unsupported t:Sem α):=Pu.never fun _ w=>⟨_,w,rfl⟩
theorem Pu.bounds{α:Type}(k:IntKind)(x y:Int)(c:BoundsCode):Pu (boundsPanic k x y c:Sem α):=Pu.never fun P w=>by
 obtain ⟨s,w',h⟩:=run_boundsPanic (P:=P) (w:=w) (α:=α) k x y c;exact ⟨_,w',h⟩
theorem Pu.bind{α β:Type}{s:Sem α}{f:α->Sem β}(h:Pu s)(hf:∀a,Pu (f a)):Pu (s>>=f):=by
 intro P w x w' hr;simp only[Sem.run_bind]at hr;cases e:s.run P w with
 |halt y B7=>rw[e]at hr;simp[Result.andThen]at hr
 |ok a B7=>
  rw[e]at hr;simp only[Result.andThen_ok]at hr;obtain ⟨rfl,h1⟩:=h P w a B7 e;obtain ⟨rfl,h2⟩:=hf a P B7 x w' hr;exact ⟨rfl,fun w2=>by simp only[Sem.run_bind,h1 w2,Result.andThen_ok,h2 w2]⟩
theorem Pu.program:Pu Go.program:=by
 intro P w x w' h;simp only[run_program,Result.ok.injEq]at h;obtain ⟨rfl,rfl⟩:=h;exact ⟨rfl,fun _=>rfl⟩
theorem Pu.error{α:Type}(m:String):Pu (runtimePanic (.error m):Sem α):=Pu.never fun _ w=>⟨_,w,rfl⟩
theorem Pu.typeInfo(t:TypeId):Pu (Go.typeInfo t):=Pu.bind Pu.program fun _=>by
 split
 ·exact Pu.pure _
 ·exact Pu.stuck _
theorem Pu.underlying(t:TypeId):Pu (Go.underlying t):=Pu.bind Pu.program fun _=>by
 split
 ·exact Pu.pure _
 ·exact Pu.stuck _
theorem Pu.zeroValue(t:TypeId):Pu (Go.zeroValue t):=by
 unfold Go.zeroValue;refine Pu.bind (Pu.typeInfo t) fun i=>?_
 split
 ·exact Pu.pure _
 ·first|exact Pu.stuck _|exact Pu.unsupported _
theorem Pu.sizeOf(t:TypeId):Pu (Go.sizeOf t):=Pu.bind (Pu.typeInfo t) fun _=>Pu.pure _
theorem Pu.isAgg(t:TypeId):Pu (Go.isAgg t):=Pu.bind (Pu.underlying t) fun d=>by split<;>exact Pu.pure _
theorem Pu.part(t:TypeId)(cs:Array Value)(o:Nat):Pu (Go.part t cs o):=Pu.bind (Pu.isAgg t) fun b=>by
 split
 ·exact Pu.bind (Pu.sizeOf t) fun _=>Pu.pure _
 ·split
  ·exact Pu.pure _
  ·exact Pu.stuck _
theorem Pu.asIntOf(v:Value):Pu (Go.asIntOf v):=by
 unfold Go.asIntOf;split
 ·exact Pu.pure _
 ·exact Pu.unsupported _
 ·exact Pu.stuck _
theorem Pu.ite{α:Type}{c:Prop}[Decidable c]{s t:Sem α}(h:Pu s)(k:Pu t):Pu (if c then s else t):=by
 split
 ·exact h
 ·exact k
section
variable {P:Program} {F:Fx} {E:Env} {w:World} {K:Value->World->Prop}
theorem uA {s:Sem Value}(hs:Pu s)(h:Out P K ((do pure (Next.value (<-s)):Sem Next).run P w)):
  ∃v,(∀w2,(do pure (Next.value (<-s)):Sem Next).run P w2= .ok (.value v) w2)/\K v w:=by
 simp only[Sem.run_bind]at h⊢;cases e:s.run P w with
 |halt y B7=>rw[e]at h;exact h.elim
 |ok v B7=>
  rw[e]at h;obtain ⟨rfl,h1⟩:=hs P w v B7 e;exact ⟨v,fun w2=>by rw[h1 w2];rfl,h⟩
theorem km {s:Sem Next}(h:∃v,(∀w2,s.run P w2= .ok (.value v) w2)/\K v w):Out P K (s.run P w):=by
 obtain ⟨v,h1,h2⟩:=h;rw[h1 w];exact h2
theorem ko (op:BinOp)(t:TypeId)(x y:Operand)(k k':IntKind)(a b:Int):Pu (do eqGuard op t x y (.int k a) (.int k' b);binOp op t (.int k a) (.int k' b)):=by
 refine Pu.bind ?_ fun _=>?_
 ·cases op<;>exact Pu.pure _
 ·cases op<;>simp only[binOp]<;>(try (refine Pu.ite (Pu.stuck _) ?_))<;>
   first
   |exact Pu.pure _
   |exact Pu.stuck _
   |(simp only[Op.intArith];exact Pu.pure _)
   |(simp only[Op.intDiv];exact Pu.ite (Pu.error _) (Pu.pure _))
   |(simp only[Op.intBits];exact Pu.pure _)
   |(simp only[Op.intCmp];first|exact Pu.pure _|exact Pu.stuck _)
   |(simp only[Op.shift];exact Pu.ite (Pu.error _) (Pu.pure _))
theorem kt (op:BinOp)(t:TypeId)(x y:Operand)(a b:ByteArray):Pu (do eqGuard op t x y (.string a) (.string b);binOp op t (.string a) (.string b)):=by
 refine Pu.bind ?_ fun _=>?_
 ·cases op<;>exact Pu.pure _
 ·cases op<;>simp only[binOp,Op.stringOp]<;>first|exact Pu.pure _|exact Pu.stuck _|exact Pu.ite (Pu.unsupported _) (Pu.pure _)
theorem Q9 (n:Nat)(t:TypeId)(a b:Bool):Pu (Op.equalIn (n+1) t (.bool a) (.bool b)):=by
 simp only[Op.equalIn];refine Pu.bind (Pu.underlying t) fun d=>?_
 cases d<;>first|exact Pu.pure _|exact Pu.stuck _
theorem U7 (t:TypeId)(a b:Bool):Pu (Op.equal t (.bool a) (.bool b)):=Q9 9999 t a b
theorem eI (op:BinOp)(t:TypeId)(x y:Operand)(a b:Bool):Pu (do eqGuard op t x y (.bool a) (.bool b);binOp op t (.bool a) (.bool b)):=by
 refine Pu.bind ?_ fun _=>?_
 ·cases op<;>exact Pu.pure _
 ·cases op<;>simp only[binOp]<;>first|exact Pu.stuck _|exact Pu.bind (U7 t a b) fun _=>Pu.pure _
theorem AF3 {op:BinOp}{t:TypeId}{x y:Operand}{a b:Value}(h:sameKind a b=true):Pu (do eqGuard op t x y a b;binOp op t a b):=by
 cases a<;>cases b<;>simp only[sameKind,bD]at h
 ·exact eI _ _ _ _ _ _
 ·exact ko _ _ _ _ _ _ _ _
 ·exact kt _ _ _ _ _ _
theorem tp (op:UnOp)(x:Value):Pu (Op.unary op x):=by
 unfold Op.unary;split<;>first|exact Pu.pure _|exact Pu.stuck _|exact Pu.unsupported _|skip
theorem Z8 (t:Value)(i:Nat):Pu (Instr.extract t i):=by
 unfold Instr.extract;split
 ·split
  ·exact Pu.pure _
  ·exact Pu.stuck _
 ·exact Pu.stuck _
theorem tq (t:TypeId)(x:Value)(f:Nat):Pu (Instr.field t x f):=by
 unfold Instr.field;refine Pu.bind (Pu.underlying t) fun d=>?_
 split
 ·split
  ·refine Pu.bind ?_ fun _=>Pu.part _ _ _
   unfold asAgg;split
   ·exact Pu.pure _
   ·exact Pu.stuck _
  ·exact Pu.stuck _
 ·exact Pu.stuck _
theorem Pu.AMq{α β:Type}{f:α->Sem β}(hf:∀a,Pu (f a)):∀l:List α,Pu (l.mapM f)
 |[]=>by rw[List.mapM_nil];exact Pu.pure _
 |a::l=>by rw[List.mapM_cons];exact Pu.bind (hf a) fun _=>Pu.bind (Pu.AMq hf l) fun _=>Pu.pure _
theorem Pu.mapA{α β:Type}{f:α->Sem β}(hf:∀a,Pu (f a))(l:Array α):Pu (l.mapM f):=by
 rw[Array.mapM_eq_mapM_toList];exact Pu.bind (Pu.AMq hf _) fun _=>Pu.pure _
theorem tt (t:TypeId)(parts:Array (Nat×Value)):Pu (Instr.build t parts):=by
 unfold Instr.build;refine Pu.bind (Pu.zeroValue t) fun z=>Pu.bind (Pu.underlying t) fun d=>?_
 split
 ·refine Pu.bind (Pu.mapA (fun f=>Pu.bind (Pu.sizeOf _) fun _=>Pu.pure _) _) fun places=>?_
  split
  ·exact Pu.pure _
  ·exact Pu.stuck _
 ·refine Pu.bind (Pu.sizeOf _) fun n=>?_
  split
  ·exact Pu.pure _
  ·exact Pu.stuck _
 ·exact Pu.stuck _
theorem tu (t:TypeId)(x i:Value):Pu (Instr.index t x i):=by
 unfold Instr.index;refine Pu.bind (Pu.asIntOf i) fun ki=>?_
 obtain ⟨k,n⟩:=ki;refine Pu.bind (Pu.underlying t) fun d=>?_
 split
 ·exact Pu.ite (Pu.bind (Pu.sizeOf _) fun _=>Pu.part _ _ _) (Pu.bounds _ _ _ _)
 ·split
  ·exact Pu.pure _
  ·exact Pu.bounds _ _ _ _
 ·exact Pu.stuck _
theorem ik (x:Value):Pu (Instr.sureAddr x):=by
 unfold Instr.sureAddr;split
 ·exact Pu.pure _
 ·exact Pu.stuck _
theorem Z7 (t:TypeId)(x i:Value):Pu (Instr.indexAt t x i):=by
 unfold Instr.indexAt;refine Pu.bind (Pu.asIntOf i) fun ki=>?_
 obtain ⟨k,n⟩:=ki;refine Pu.bind (Pu.underlying t) fun d=>?_
 have tail:∀(base:Option Addr) (len:Nat) (elem:TypeId),Pu (do
   let AYD:=len<=1&&(match<-Go.underlying t with| .array ..=>true|_=>false)
   match base with
   |some a=>
    if 0<=n/\n<len then pure (Value.pointer (some (a.add (n.toNat*(<-Go.sizeOf elem)))))
    else if AYD then Go.unsupported (.noEntry "op/indexAddr.an index out of range at an array of length 0 or 1 (ledger 616)")
    else boundsPanic k n len .index
   |none=>boundsPanic k n 0 .index):=by
  intro base len elem;refine Pu.bind (Pu.underlying t) fun d2=>?_
  cases base with
  |none=>exact Pu.bounds _ _ _ _
  |some a=>
   refine Pu.ite (Pu.bind (Pu.sizeOf _) fun _=>Pu.pure _) ?_;exact Pu.ite (Pu.unsupported _) (Pu.bounds _ _ _ _)
 dsimp only;split
 ·exact Pu.bind (ik _) fun _=>Pu.bind (Pu.pure _) fun bl=>tail bl.1 bl.2.1 bl.2.2
 ·exact Pu.bind (Pu.pure _) fun bl=>tail bl.1 bl.2.1 bl.2.2
 ·exact Pu.bind (Pu.stuck _) fun bl=>tail bl.1 bl.2.1 bl.2.2
theorem JL (x:Value)(y:Nat)(c:BoundsCode):Pu (Instr.sliceBound x y c):=by
 unfold Instr.sliceBound;refine Pu.bind (Pu.asIntOf x) fun ki=>?_
 obtain ⟨k,n⟩:=ki;exact Pu.ite (Pu.pure _) (Pu.bounds _ _ _ _)
theorem Jl (s:Bool)(l c:Nat)(lo hi mx:Option Value):Pu (Instr.sliceBounds s l c lo hi mx):=by
 unfold Instr.sliceBounds;have t3:∀(m h l:Nat),Pu (Pure.pure (l,h,m):Sem (Nat×Nat×Nat)):=fun _ _ _=>Pu.pure _
 have t2:∀(m h:Nat),Pu (do
   let l<-match lo with
    |some v=>Instr.sliceBound v h (if mx.isSome then .slice3C else .sliceB)
    |none=>pure 0
   pure (l,h,m)):=by
  intro m h;cases lo with
  |none=>exact Pu.bind (Pu.pure _) fun _=>t3 _ _ _
  |some v=>exact Pu.bind (JL _ _ _) fun _=>t3 _ _ _
 cases mx with
 |none=>cases hi with
  |none=>exact Pu.bind (Pu.pure _) fun m=>Pu.bind (Pu.pure _) fun h=>t2 m h
  |some v=>exact Pu.bind (Pu.pure _) fun m=>Pu.bind (JL _ _ _) fun h=>t2 m h
 |some u=>cases hi with
  |none=>exact Pu.bind (JL _ _ _) fun m=>Pu.bind (Pu.stuck _) fun h=>t2 m h
  |some v=>exact Pu.bind (JL _ _ _) fun m=>Pu.bind (JL _ _ _) fun h=>t2 m h
theorem Pu.asAddr(v:Value):Pu (Go.asAddr v):=by
 unfold Go.asAddr;split
 ·exact Pu.pure _
 ·exact Pu.never fun P w=>⟨_,w,rfl⟩
 ·exact Pu.stuck _
theorem uB (t:TypeId)(x:Value)(lo hi mx:Option Value):Pu (Instr.slice t x lo hi mx):=by
 unfold Instr.slice;refine Pu.bind (Pu.underlying t) fun d=>?_
 split
 ·split
  ·exact Pu.stuck _
  ·exact Pu.bind (Jl _ _ _ _ _ _) fun _=>Pu.pure _
 ·exact Pu.bind (Jl _ _ _ _ _ _) fun _=>Pu.bind (Pu.sizeOf _) fun _=>Pu.pure _
 ·refine Pu.bind (Pu.asAddr _) fun a=>Pu.bind (Pu.underlying _) fun d2=>?_
  split
  ·exact Pu.bind (Jl _ _ _ _ _ _) fun _=>Pu.bind (Pu.sizeOf _) fun _=>Pu.pure _
  ·exact Pu.stuck _
 ·exact Pu.stuck _
theorem Z6 (t:TypeId)(x:Value)(lo hi mx:Option Value):Pu (Instr.sliceAt t x lo hi mx):=by
 unfold Instr.sliceAt;refine Pu.bind (Pu.underlying t) fun d=>?_
 split
 ·exact Pu.bind (ik _) fun a=>Pu.bind (Jl _ _ _ _ _ _) fun _=>Pu.bind (Pu.sizeOf _) fun _=>Pu.pure _
 ·exact uB _ _ _ _ _
end
end Sh
namespace Sh
section
variable {P:Program} {F:Fx} {E:Env} {w:World} {K:Value->World->Prop}
theorem kj (ts:Array TypeId)(t:TypeId)(args:Array Value)(s:ByteArray)(h:args[0]?=some (.string s)):Pu (Builtin.len_ ts t args):=by
 unfold Builtin.len_;cases h1:ts[0]? with
 |none=>exact Pu.stuck _
 |some t0=>
  simp only[h];refine Pu.bind (Pu.underlying _) fun d=>?_
  cases d<;>first|exact Pu.pure _|exact Pu.stuck _|(refine Pu.bind (Pu.underlying _) fun d2=>?_;cases d2<;>first|exact Pu.pure _|exact Pu.stuck _)
theorem kk (ts:Array TypeId)(t:TypeId)(args:Array Value)(p:Option Addr)(l c:Nat)(h:args[0]?=some (.slice p l c)):Pu (Builtin.len_ ts t args):=by
 unfold Builtin.len_;cases h1:ts[0]? with
 |none=>exact Pu.stuck _
 |some t0=>
  simp only[h];refine Pu.bind (Pu.underlying _) fun d=>?_
  cases d<;>first|exact Pu.pure _|exact Pu.stuck _|(refine Pu.bind (Pu.underlying _) fun d2=>?_;cases d2<;>first|exact Pu.pure _|exact Pu.stuck _)
theorem kl (ts:Array TypeId)(t:TypeId)(args:Array Value)(p:Option Addr)(l c:Nat)(h:args[0]?=some (.slice p l c)):Pu (Builtin.cap_ ts t args):=by
 unfold Builtin.cap_;cases h1:ts[0]? with
 |none=>exact Pu.stuck _
 |some t0=>
  simp only[h];refine Pu.bind (Pu.underlying _) fun d=>?_
  cases d<;>first|exact Pu.pure _|exact Pu.stuck _|(refine Pu.bind (Pu.underlying _) fun d2=>?_;cases d2<;>first|exact Pu.pure _|exact Pu.stuck _)
theorem GL {v:Value}{r:List Value}(h:Ep (v::r)=true):(∃k n,v= .int k n)/\Ep r=true:=by
 cases v<;>simp only[Ep,bD]at h;exact ⟨⟨_,_,rfl⟩,h⟩
theorem RA:∀(r:List Value) (k:IntKind) (n:Int),Ep r=true->Pu (r.foldlM Builtin.min2 (.int k n))
 |[],_,_,_=>Pu.pure _
 |v::r,k,n,h=>by
  obtain ⟨⟨k',n',rfl⟩,h2⟩:=GL h;simp only[List.foldlM_cons,Builtin.min2,pure_bind];exact RA r _ _ h2
theorem RC:∀(r:List Value) (k:IntKind) (n:Int),Ep r=true->Pu (r.foldlM Builtin.max2 (.int k n))
 |[],_,_,_=>Pu.pure _
 |v::r,k,n,h=>by
  obtain ⟨⟨k',n',rfl⟩,h2⟩:=GL h;simp only[List.foldlM_cons,Builtin.max2,pure_bind];exact RC r _ _ h2
theorem AF1 (ts:Array TypeId)(t:TypeId)(args:Array Value)(h:Ep args.toList=true):Pu (Builtin.min_ ts t args):=by
 unfold Builtin.min_;generalize args.toList=l at h;cases l with
 |nil=>exact Pu.stuck _
 |cons v r=>
  obtain ⟨⟨k,n,rfl⟩,h2⟩:=GL h;exact RA r k n h2
theorem AF2 (ts:Array TypeId)(t:TypeId)(args:Array Value)(h:Ep args.toList=true):Pu (Builtin.max_ ts t args):=by
 unfold Builtin.max_;generalize args.toList=l at h;cases l with
 |nil=>exact Pu.stuck _
 |cons v r=>
  obtain ⟨⟨k,n,rfl⟩,h2⟩:=GL h;exact RC r k n h2
def Qv (P:Program)(s:Sem Next)(w:World)(K:Value->World->Prop):Prop:=∃v,(∀w2,s.run P w2= .ok (.value v) w2)/\K v w
theorem ij {v:Value}(h:Out P K ((Pure.pure (Next.value v):Sem Next).run P w)):Qv P (Pure.pure (Next.value v)) w K:=⟨v,fun _=>rfl,h⟩
theorem Lh {s:Sem Value}(hs:Pu s)(h:Out P K ((do pure (Next.value (<-s)):Sem Next).run P w)):Qv P (do pure (Next.value (<-s))) w K:=uA hs h
theorem Fp {s:Sem Value}{v:Value}(hs:∀w2,s.run P w2= .ok v w2)(h:K v w):Qv P (do pure (Next.value (<-s))) w K:=
 ⟨v,fun w2=>by simp only[Sem.run_bind,hs w2,Result.andThen_ok,Sem.run_pure],h⟩
theorem Xn {src dst:TypeId}{k k':IntKind}{n:Int}(h:P.underlying dst=some (.int k'))(w:World):
  (convert src dst (.int k n)).run P w=(do let _<-underlying src;pure (Value.int k' (k'.wrap n)):Sem Value).run P w:=by
 unfold convert;simp only[Sem.run_bind];cases (underlying src).run P w with
 |halt=>rfl
 |ok d w'=>
  simp only[Result.andThen_ok,run_underlying h,Conv.intToInt]
theorem Z5 {src dst:TypeId}{k k':IntKind}{n:Int}(hu:P.underlying dst=some (.int k'))
  (h:Out P K ((do pure (Next.value (<-convert src dst (.int k n))):Sem Next).run P w)):Qv P (do pure (Next.value (<-convert src dst (.int k n)))) w K:=by
 have e:∀w,(do pure (Next.value (<-convert src dst (.int k n))):Sem Next).run P w=(do pure (Next.value (<-(do let _<-underlying src;pure (Value.int k' (k'.wrap n)):Sem Value))):Sem Next).run P w:=fun w=>by
  simp only[Sem.run_bind,Xn hu]
 rw[e]at h;obtain ⟨v,h1,h2⟩:=uA (Pu.bind (Pu.underlying src) fun _=>Pu.pure _) h;exact ⟨v,fun w2=>by rw[e];exact h1 w2,h2⟩
section
variable {G:Prop}
theorem N3 {t e:TypeId}(hu:P.underlying t=some (.pointer e))(p:Option Addr)(w:World):(Op.equal t (.pointer p) (.pointer none)).run P w= .ok p.isNone w:=by
 show (Op.equalIn (9999+1) t (.pointer p) (.pointer none)).run P w=_;generalize 9999=n;simp only[Op.equalIn,Sem.run_bind,run_underlying hu,Result.andThen_ok];cases p<;>rfl
theorem N4 {t e:TypeId}(hu:P.underlying t=some (.slice e))(p:Option Addr)(l c l' c':Nat)(w:World):(Op.equal t (.slice p l c) (.slice none l' c')).run P w= .ok p.isNone w:=by
 show (Op.equalIn (9999+1) t (.slice p l c) (.slice none l' c')).run P w=_;generalize 9999=n;simp only[Op.equalIn,Sem.run_bind,run_underlying hu,Result.andThen_ok];cases p<;>rfl
theorem J8 {t:TypeId}{ms:Array (String×TypeId)}(hu:P.underlying t=some (.interface ms))(u:TypeId)(v:Value)(w:World):(Op.equal t (.iface u v) .nilIface).run P w= .ok false w:=by
 show (Op.equalIn (9999+1) t (.iface u v) .nilIface).run P w=_;generalize 9999=n;simp only[Op.equalIn,Sem.run_bind,run_underlying hu,Result.andThen_ok]
 rfl
theorem N5 {t:TypeId}{ms:Array (String×TypeId)}(hu:P.underlying t=some (.interface ms))(w:World):(Op.equal t .nilIface .nilIface).run P w= .ok true w:=by
 show (Op.equalIn (9999+1) t .nilIface .nilIface).run P w=_;generalize 9999=n;simp only[Op.equalIn,Sem.run_bind,run_underlying hu,Result.andThen_ok]
 rfl
theorem Li {t:TypeId}{a b c}(hu:P.underlying t=some (.func a b c))(f:Fn)(x y:Array Value)(w:World):(Op.equal t (.func f x y) .nilFunc).run P w= .ok false w:=by
 show (Op.equalIn (9999+1) t (.func f x y) .nilFunc).run P w=_;generalize 9999=n;simp only[Op.equalIn,Sem.run_bind,run_underlying hu,Result.andThen_ok]
 rfl
theorem IE {t:TypeId}{a b c}(hu:P.underlying t=some (.func a b c))(w:World):(Op.equal t .nilFunc .nilFunc).run P w= .ok true w:=by
 show (Op.equalIn (9999+1) t .nilFunc .nilFunc).run P w=_;generalize 9999=n;simp only[Op.equalIn,Sem.run_bind,run_underlying hu,Result.andThen_ok]
 rfl
theorem Xo {y:Operand}(h:isC y=true):∃v,y= .const v:=by
 cases y<;>first|exact ⟨_,rfl⟩|cases h
theorem N6 {t a b:TypeId}(hu:P.underlying t=some (.map a b))(p:Option Nat)(w:World):(Op.equal t (.map p) (.map none)).run P w= .ok p.isNone w:=by
 show (Op.equalIn (9999+1) t (.map p) (.map none)).run P w=_;generalize 9999=n;simp only[Op.equalIn,Sem.run_bind,run_underlying hu,Result.andThen_ok];cases p<;>rfl
theorem Xp {t:TypeId}{d:TypeDesc}(h:P.underlying t=some d)(w:World):(sizeOf t).run P w= .ok (P.cellsOf t) w:=by
 unfold Program.underlying at h;split at h<;>rename_i hi
 ·exact run_sizeOf w hi
 ·exact run_sizeOf w hi
 ·cases h
theorem IF {t:TypeId}{fs:Array Field}(hu:P.underlying t=some (.struct fs))(cs:Array Value)(off:Nat)(w:World):(part t cs off).run P w= .ok (.agg (cs.extract off (off+P.cellsOf t))) w:=by
 simp only[part,Sem.run_bind,DL hu,Result.andThen_ok,D9,if_true,Xp hu,Sem.run_pure]
theorem RD:∀(n d:Nat) (xs ys:Array Value) (fs:List Field) (b:Bool),n<=d->SC P n xs ys fs=some b->∀w,(Op.eqFields (d+1) xs ys fs).run P w= .ok b w
 |0,_,_,_,_,_,_,h,w=>by cases h
 |n+1,d,xs,ys,[],b,_,h,w=>by simp only[SC,bE]at h;subst h;rfl
 |n+1,d,xs,ys,f::r,b,Og,h,w=>by
  have step:∀(x y:Value) (c:Bool) (q:Bool),(∀w,(part f.type xs f.offset).run P w= .ok x w)->(∀w,(part f.type ys f.offset).run P w= .ok y w)->f.name≠ "_"->
    (∀w,(Op.equalIn (d+1) f.type x y).run P w= .ok c w)->SC P n xs ys r=some q->(Op.eqFields (d+1) xs ys (f::r)).run P w= .ok (c&&q) w:=by
   intro x y c q hx hy hn he hq;have ih:=RD n d xs ys r q (by omega) hq w;simp only[Op.eqFields,ak hn,Sem.run_bind,hx,hy,he,Result.andThen_ok];cases c
   ·simp
   ·simpa using ih
  have hp:D9 (P.underlying f.type)=false->(∃d,P.underlying f.type=some d)->∀(cs:Array Value) (v:Value),cs[f.offset]?=some v->∀w,(part f.type cs f.offset).run P w= .ok v w:=fun ha hd cs v hv w=>by
   obtain ⟨d,hd⟩:=hd;rw[hd]at ha;simp only[part,Sem.run_bind,DL hd,ha,Result.andThen_ok,bD,dz,hv,Sem.run_pure]
  simp only[SC]at h;split at h
  ·cases h
  ·rename_i hn;split at h
   ·rename_i fs' hu;split at h
    ·rename_i IT;obtain ⟨p,Kq,h2⟩:=c8.1 h;obtain ⟨q,hq,rfl⟩:=bg.1 h2;refine step _ _ p q (IF hu xs _) (IF hu ys _) hn (fun w=>?_) hq;have hf:P.fieldsOf f.type=fs':=by simp only[Program.fieldsOf,hu]
     rw[run_equalIn_struct w d f.type _ _ (by rw[hf];exact hu) IT,hf];cases n with
     |zero=>cases Kq
     |succ n=>
      obtain ⟨d',rfl⟩:∃d',d=d'+1:=⟨d-1,by omega⟩
      exact RD (n+1) d' _ _ _ _ (by omega) Kq w
    ·cases h
   ·rename_i dd hns hu;split at h
    ·rename_i k0 k a k' b' hx hy;split at h
     ·rename_i e;subst e;obtain ⟨q,hq,rfl⟩:=bg.1 h;exact step _ _ _ q (hp (by rw[hu];rfl) ⟨_,hu⟩ _ _ hx) (hp (by rw[hu];rfl) ⟨_,hu⟩ _ _ hy) hn (fun w=>run_equalIn_int w _ _ _ _ _ _ hu) hq
     ·cases h
    ·rename_i a b' hx hy;obtain ⟨q,hq,rfl⟩:=bg.1 h;exact step _ _ _ q (hp (by rw[hu];rfl) ⟨_,hu⟩ _ _ hx) (hp (by rw[hu];rfl) ⟨_,hu⟩ _ _ hy) hn (fun w=>run_equalIn_bool' w _ _ _ _ hu) hq
    ·rename_i a b' hx hy;obtain ⟨q,hq,rfl⟩:=bg.1 h;exact step _ _ _ q (hp (by rw[hu];rfl) ⟨_,hu⟩ _ _ hx) (hp (by rw[hu];rfl) ⟨_,hu⟩ _ _ hy) hn (fun w=>run_equalIn_string w _ _ _ _ hu) hq
    ·cases h
   ·cases h
theorem Sy {t:TypeId}{xs ys:Array Value}{b:Bool}(h:ia P t xs ys=some b):P.eqGuardType P.depth t=false/\∀w,(Op.equalIn 10000 t (.agg xs) (.agg ys)).run P w= .ok b w:=by
 unfold ia at h;split at h
 ·rename_i fs hu;split at h
  ·rename_i h1 h2;refine ⟨h2,fun w=>?_⟩;have hf:P.fieldsOf t=fs:=by simp only[Program.fieldsOf,hu]
   show (Op.equalIn (9999+1) t (.agg xs) (.agg ys)).run P w=_;rw[run_equalIn_struct w 9999 t xs ys (by rw[hf];exact hu) h1,hf];exact RD 60 9998 _ _ _ _ (by decide) h w
  ·cases h
 ·cases h
theorem Sv {op:BinOp}{t:TypeId}{x y:Operand}{a b:Value}{D O:Prop}(h:AFt P op t (isC y) a b (fun v=>K v w) D O)(hD:D->G)(hO:O->G)
  (hq:Qv P (do pure (Next.value (<-(do eqGuard op t x y a b;binOp op t a b)))) w K->G):G:=by
 have qv:∀v,(∀w2,(do eqGuard op t x y a b;binOp op t a b:Sem Value).run P w2= .ok v w2)->K v w->G:=fun v h1 h2=>hq (Fp h1 h2)
 unfold AFt at h;split at h
 ·split at h
  ·split at h
   ·rename_i e;subst e;exact qv _ (fun w2=>by simp[eqGuard,binOp,Op.intDiv,h.1]) h.2
   ·exact h.elim
  ·exact hD h
 ·split at h
  ·split at h
   ·rename_i e;subst e;exact qv _ (fun w2=>by simp[eqGuard,binOp,Op.intDiv,h.1]) h.2
   ·exact h.elim
  ·exact hD h
 ·split at h
  ·refine qv _ (fun w2=>?_) h.2;have:=h.1;simp[eqGuard,binOp,Op.shift,Int.not_lt.2 this]
  ·exact hD h
 ·split at h
  ·refine qv _ (fun w2=>?_) h.2;have:=h.1;simp[eqGuard,binOp,Op.shift,Int.not_lt.2 this]
  ·exact hD h
 ·split at h
  ·refine qv _ (fun w2=>?_) h.2;have:=h.1;have h2:¬(((_:ByteArray).size+(_:ByteArray).size:Nat):Int)>IntKind.i64.max:=Int.not_lt.2 this;simp only[eqGuard,binOp,Op.stringOp,Sem.run_bind];show (Sem.run P (if _ then _ else _) w2)=_;rw[ah h2]
   rfl
  ·exact hD h
 ·split at h
  ·exact hD h
  ·exact hD h
  ·exact hD h
  ·split at h
   ·rename_i hu;exact qv _ (fun w2=>by simp only[eqGuard,binOp,Sem.run_bind,Sem.run_pure];simp[N3 hu]) h
   ·exact hO h
  ·split at h
   ·rename_i hu;exact qv _ (fun w2=>by simp only[eqGuard,binOp,Sem.run_bind,Sem.run_pure];simp[N4 hu]) h
   ·exact hO h
  ·split at h
   ·rename_i hu;exact qv _ (fun w2=>by simp only[eqGuard,binOp,Sem.run_bind,Sem.run_pure];simp[N6 hu]) h
   ·exact hO h
  ·split at h
   ·rename_i hc hu;exact qv _ (fun w2=>by simp only[eqGuard,binOp,Sem.run_bind,Sem.run_pure];simp[J8 hu]) h
   ·exact hO h
  ·split at h
   ·rename_i hc hu;obtain ⟨c,rfl⟩:=Xo hc;exact qv _ (fun w2=>by simp only[eqGuard,binOp,Sem.run_bind,Sem.run_pure];simp[N5 hu]) h
   ·exact hO h
  ·split at h
   ·rename_i hc hu;exact qv _ (fun w2=>by simp only[eqGuard,binOp,Sem.run_bind,Sem.run_pure];simp[Li hu]) h
   ·exact hO h
  ·split at h
   ·rename_i hc hu;exact qv _ (fun w2=>by simp only[eqGuard,binOp,Sem.run_bind,Sem.run_pure];simp[IE hu]) h
   ·exact hO h
  ·split at h
   ·rename_i b hb;obtain ⟨h1,h2⟩:=Sy hb;exact qv _ (fun w2=>by simp only[Sem.run_bind,run_eqGuard_agg w2 _ _ _ _ _ _ h1,Result.andThen_ok,run_eql_struct,h2]) h
   ·exact hO h
  ·exact hO h
 ·split at h
  ·exact hD h
  ·exact hD h
  ·exact hD h
  ·split at h
   ·rename_i hu;exact qv _ (fun w2=>by simp only[eqGuard,binOp,Sem.run_bind,Sem.run_pure];simp[N3 hu]) h
   ·exact hO h
  ·split at h
   ·rename_i hu;exact qv _ (fun w2=>by simp only[eqGuard,binOp,Sem.run_bind,Sem.run_pure];simp[N4 hu]) h
   ·exact hO h
  ·split at h
   ·rename_i hu;exact qv _ (fun w2=>by simp only[eqGuard,binOp,Sem.run_bind,Sem.run_pure];simp[N6 hu]) h
   ·exact hO h
  ·split at h
   ·rename_i hc hu;exact qv _ (fun w2=>by simp only[eqGuard,binOp,Sem.run_bind,Sem.run_pure];simp[J8 hu]) h
   ·exact hO h
  ·split at h
   ·rename_i hc hu;obtain ⟨c,rfl⟩:=Xo hc;exact qv _ (fun w2=>by simp only[eqGuard,binOp,Sem.run_bind,Sem.run_pure];simp[N5 hu]) h
   ·exact hO h
  ·split at h
   ·rename_i hc hu;exact qv _ (fun w2=>by simp only[eqGuard,binOp,Sem.run_bind,Sem.run_pure];simp[Li hu]) h
   ·exact hO h
  ·split at h
   ·rename_i hc hu;exact qv _ (fun w2=>by simp only[eqGuard,binOp,Sem.run_bind,Sem.run_pure];simp[IE hu]) h
   ·exact hO h
  ·split at h
   ·rename_i b hb;obtain ⟨h1,h2⟩:=Sy hb;exact qv _ (fun w2=>by simp only[Sem.run_bind,run_eqGuard_agg w2 _ _ _ _ _ _ h1,Result.andThen_ok,run_neq_struct,h2]) h
   ·exact hO h
  ·exact hO h
 ·exact hD h
theorem Xj {t:TypeId}{x:Value}{f:Nat}{D:Prop}(h:fdV P t x f (fun v=>K v w) D)(hD:D->G)
  (hq:Qv P (do pure (Next.value (<-Instr.fieldAt t x f))) w K->G):G:=by
 unfold fdV at h;split at h
 ·split at h
  ·rename_i fs hu;split at h
   ·rename_i fd hf;split at h
    ·rename_i n hn;split at h
     ·rename_i hb;have A2:n≠0:=fun e=>by subst e;simp at hb
      refine hq (Fp (fun w2=>?_) h);simp only[Instr.fieldAt,Sem.run_bind,run_underlying hu,Result.andThen_ok,hf,Instr.sureAddr,Sem.run_pure,fieldPlace,BE hn,ah A2]
     ·exact hD h
    ·exact hD h
   ·exact hD h
  ·exact hD h
 ·exact hD h
theorem Sx {t:TypeId}{c:Bool}{x y:Value}{D:Prop}(h:AFu P t c x y (fun v=>K v w) D)(hD:D->G)
  (hq:Qv P (do pure (Next.value (<-Instr.index t x y))) w K->G):G:=by
 unfold AFu at h;split at h
 ·rename_i s k i;split at h
  ·rename_i hu;obtain ⟨h1,h2,hk⟩:=h;refine hq (Fp (fun w2=>?_) hk);have Am:i.toNat<s.size:=by omega
   have Zz:i.toNat<s.data.size:=Am;have hg:s[i.toNat]?=some (s.data.getD i.toNat 0):=by
    rw[getElem?_pos s i.toNat Am];simp only[Array.getD,Zz,dif_pos]
    rfl
   simp only[Instr.index,asIntOf,Sem.run_bind,Sem.run_pure,Result.andThen_ok,run_underlying hu,ak h1,hg,Cp]
  ·exact hD h
 ·rename_i cs k i;split at h
  ·rename_i len e hu;split at h
   ·rename_i d n hd hn;split at h
    ·rename_i hag;obtain ⟨h1,h2,v,hv,hk⟩:=h;refine hq (Fp (fun w2=>?_) hk);simp only[Instr.index,asIntOf,Sem.run_bind,Sem.run_pure,Result.andThen_ok,run_underlying hu,ak (And.intro h1 h2),BE hn,part,DL hd,hag,bD,dz,hv]
    ·rename_i hag;split at h
     ·obtain ⟨h1,h2,v,hv,hk⟩:=h;refine hq (Fp (fun w2=>?_) hk);simp only[Instr.index,asIntOf,Sem.run_bind,Sem.run_pure,Result.andThen_ok,run_underlying hu,ak (And.intro h1 h2),BE hn,part,DL hd,hag,if_true,hv]
     ·exact hD h
   ·exact hD h
  ·exact hD h
 ·exact hD h
theorem Sw {t:TypeId}{c:Bool}{x y:Value}{D:Prop}(h:AFv P t c x y (fun v=>K v w) D)(hD:D->G)
  (hq:Qv P (do pure (Next.value (<-Instr.indexAt t x y))) w K->G):G:=by
 unfold AFv at h;split at h
 ·rename_i p len cap k i;split at h
  ·rename_i e hu;split at h
   ·rename_i n hn;obtain ⟨h1,h2,a,rfl,hk⟩:=h;refine hq (Fp (fun w2=>?_) hk);simp only[Instr.indexAt,asIntOf,Sem.run_bind,Sem.run_pure,Result.andThen_ok,run_underlying hu,ak (And.intro h1 h2),BE hn]
   ·exact hD h
  ·exact hD h
 ·rename_i a k i;split at h
  ·rename_i len e hu;split at h
   ·rename_i n hn;obtain ⟨h1,h2,hk⟩:=h;refine hq (Fp (fun w2=>?_) hk);simp only[Instr.indexAt,Instr.sureAddr,asIntOf,Sem.run_bind,Sem.run_pure,Result.andThen_ok,run_underlying hu,ak (And.intro h1 h2),BE hn]
   ·exact hD h
  ·exact hD h
 ·exact hD h
theorem CN {top:Nat}{x:Option Value}{other:Nat}{K':Nat->Prop}{D:Prop}(h:Ca top x other K' D)(hD:D->G)
  (hn:x=none->K' other->G) (hs:∀k i,x=some (.int k i)->0<=i->i<=top->K' i.toNat->G):G:=by
 unfold Ca at h;split at h
 ·exact hn rfl h
 ·exact hs _ _ rfl h.1 h.2.1 h.2.2
 ·exact hD h
theorem A4 {k:IntKind}{i:Int}{y:Nat}{c:BoundsCode}{w:World}(h1:0<=i)(h2:i<=y):(Instr.sliceBound (.int k i) y c).run P w= .ok i.toNat w:=by
 simp only[Instr.sliceBound,asIntOf,Sem.run_bind,Sem.run_pure,Result.andThen_ok,ak (And.intro h1 h2)]
theorem Xi {t:TypeId}{x:Value}{lo hi mx:Option Value}{D:Prop}(h:slV P t x lo hi mx (fun v=>K v w) D)(hD:D->G)
  (hq:Qv P (do pure (Next.value (<-Instr.sliceAt t x lo hi mx))) w K->G):G:=by
 unfold slV at h;split at h
 ·rename_i s;split at h
  ·rename_i hu;refine CN h hD (fun e1 ha=>CN ha hD (fun e2 hb=>?_) fun k i e2 g1 g2 hb=>?_) fun k' i' e1 g3 g4 ha=>CN ha hD (fun e2 hb=>?_) fun k i e2 g1 g2 hb=>?_
   all_goals
    subst e1 e2;refine hq (Fp (fun w2=>?_) hb);simp only[Instr.sliceAt,Instr.slice,Instr.sliceBounds,Sem.run_bind,run_underlying hu,Result.andThen_ok,Option.isSome_none,bD,dz,Sem.run_pure]
    first|done|rw[A4 g3 g4,Result.andThen_ok,A4 g1 g2];rfl|rw[A4 g3 g4];rfl|rw[A4 g1 g2];rfl
  ·exact hD h
 ·rename_i p len cap;split at h
  ·rename_i e hu;split at h
   ·rename_i n hn;split at h
    ·exact hD h
    ·rename_i mx hi Kf;refine CN h hD (fun e0 hz=>?_) fun k0 i0 e0 g5 g6 hz=>?_
     ·refine CN hz hD (fun e1 ha=>CN ha hD (fun e2 hb=>?_) fun k i e2 g1 g2 hb=>?_) fun k' i' e1 g3 g4 ha=>CN ha hD (fun e2 hb=>?_) fun k i e2 g1 g2 hb=>?_
      all_goals
       subst e0 e1 e2;refine hq (Fp (fun w2=>?_) hb);simp only[Instr.sliceAt,Instr.slice,Instr.sliceBounds,Sem.run_bind,run_underlying hu,Result.andThen_ok,Option.isSome_none,bD,dz,Sem.run_pure]
       first|(rw[BE hn];rfl)|(rw[A4 g3 g4,Result.andThen_ok,A4 g1 g2,Result.andThen_ok,Result.andThen_ok,BE hn];rfl)|(rw[A4 g3 g4,Result.andThen_ok,Result.andThen_ok,BE hn];rfl)|(rw[A4 g1 g2,Result.andThen_ok,Result.andThen_ok,BE hn];rfl)
     ·refine CN hz hD (fun e1 _=>?_) fun k' i' e1 g3 g4 ha=>CN ha hD (fun e2 hb=>?_) fun k i e2 g1 g2 hb=>?_
      ·subst e0 e1;exact (Kf _ rfl rfl).elim
      all_goals
       subst e0 e1 e2;refine hq (Fp (fun w2=>?_) hb);simp only[Instr.sliceAt,Instr.slice,Instr.sliceBounds,Sem.run_bind,run_underlying hu,Result.andThen_ok,Option.isSome_some,if_true,Sem.run_pure]
       first|(rw[A4 g5 g6,Result.andThen_ok,A4 g3 g4,Result.andThen_ok,A4 g1 g2,Result.andThen_ok,Result.andThen_ok,BE hn];rfl)|(rw[A4 g5 g6,Result.andThen_ok,A4 g3 g4,Result.andThen_ok,Result.andThen_ok,BE hn];rfl)
   ·exact hD h
  ·exact hD h
 ·rename_i a;split at h
  ·rename_i c e hu;split at h
   ·rename_i n hn;refine CN h hD (fun e1 ha=>CN ha hD (fun e2 hb=>?_) fun k i e2 g1 g2 hb=>?_) fun k' i' e1 g3 g4 ha=>CN ha hD (fun e2 hb=>?_) fun k i e2 g1 g2 hb=>?_
    all_goals
     subst e1 e2;refine hq (Fp (fun w2=>?_) hb);simp only[Instr.sliceAt,Instr.sureAddr,Instr.sliceBounds,Sem.run_bind,run_underlying hu,Result.andThen_ok,Option.isSome_none,bD,dz,Sem.run_pure,AA.v,AA.cut,cI]
     first|(rw[BE hn];simp only[Result.andThen_ok];split<;>rfl)|(rw[A4 g3 g4,Result.andThen_ok,A4 g1 g2,Result.andThen_ok,Result.andThen_ok,BE hn];simp only[Result.andThen_ok];split<;>rfl)|(rw[A4 g3 g4,Result.andThen_ok,Result.andThen_ok,BE hn];simp only[Result.andThen_ok];split<;>rfl)|(rw[A4 g1 g2,Result.andThen_ok,Result.andThen_ok,BE hn];simp only[Result.andThen_ok];split<;>rfl)
   ·exact hD h
  ·exact hD h
 ·exact hD h
end
end
end Sh
namespace Sh
section
variable {P:Program} {F:Fx} {E:Env} {w:World} {K:Value->World->Prop}
def Av (P:Program)(F:Nat->Bool):Prop:=∀g fn,F g=true->P.funcs[g]?=some fn->fn.body.isSome=true/\fn.name≠ "runtime.NumGoroutine"
theorem Kb {tys:List Ty}:∀{K':List Value->Prop},De.Xe tys K'->∃l,K' l:=by
 induction tys with
 |nil=>intro K' h;exact ⟨[],h⟩
 |cons t ts ih=>intro K' h;obtain ⟨x,hx⟩:=h;obtain ⟨l,hl⟩:=ih hx;exact ⟨_,hl⟩
theorem Out.Hr{pk:Value->World->Prop}{r:Result Next}(h:Out P K r):Qw P pk K r:=by
 cases r with
 |halt x w=>exact h.elim
 |ok n w=>
  cases n<;>try exact h.elim
  case value v=>exact h
  case skip=>exact h
  case enter f args=>exact Calls.mono h fun e w' he=> .inl he
theorem kh (hF:Av P F.ok){g:Nat}{args:Array Value}(h:De P F g args w K):Qw P F.pk K ((callFunc g args).run P w):=by
 unfold De at h;split at h
 ·split at h
  ·exact h.elim
  ·obtain ⟨l,w',h1,h2⟩:=Kb h;unfold Wi at h1;rw[h1];exact h2
 ·rename_i hg;split at h
  ·exact h.elim
  ·rename_i fn WN;obtain ⟨hb,hn⟩:=hF g fn hg WN;have IZ:fn.body.isNone=false:=by cases hx:fn.body<;>simp_all
   have hn':(fn.name== "runtime.NumGoroutine")=false:=by simpa using hn
   simp only[callFunc,Sem.run_bind,run_program,Result.andThen_ok,WN,hn',IZ,bD,dz,Sem.run_pure,Qw];split at h
   ·refine h.mono fun e w' he=>?_
    obtain ⟨l,h1,h2⟩:=Kb he;exact .inl ⟨_,h1,h2⟩
   ·refine h.mono fun e w' he=>?_
    rcases he with he|he
    ·obtain ⟨l,h1,h2⟩:=Kb he;exact .inl ⟨_,h1,h2⟩
    ·exact .inr he
theorem zO {c a b:Value}(h:Out P K ((do pure (Next.value (if<-asBool c then a else b)):Sem Next).run P w)):Qv P (do pure (Next.value (if<-asBool c then a else b))) w K:=by
 cases c with
 |bool t=>exact ⟨_,fun _=>rfl,h⟩
 |_=>exact h.elim
theorem Lg {c:Call}{b:Builtin}{t:TypeId}{s:Sem Value}(hc:c.callee= .builtin b)
  (hb:∀consts,builtin b c.argTypes t consts (c.args.map E.A3)=(do pure (Next.value (<-s)))) (hs:Pu s)
  (h:Out P K ((do let d<-resolve E.A3 c t;invoke d.target d.args:Sem Next).run P w)):Qv P (do let d<-resolve E.A3 c t;invoke d.target d.args) w K:=by
 have e:(do let d<-resolve E.A3 c t;invoke d.target d.args:Sem Next)=(do pure (Next.value (<-s))):=by
  simp only[resolve,hc,pure_bind,invoke,hb]
 rw[e]at h⊢;exact Lh hs h
theorem AF0 {xs:Array Operand}{v:Value}(h:xs[0]?.map E.A3=some v):(xs.map E.A3)[0]?=some v:=by simpa using h
theorem AMo {c:Call}{t:TypeId}{D:Prop}(hD:D->Qv P (do let d<-resolve E.A3 c t;invoke d.target d.args) w K)
  (h:match c.callee with
   | .builtin .len=>(match c.args[0]?.map E.A3 with
    |some (.string _)=>Out P K ((do let d<-resolve E.A3 c t;invoke d.target d.args:Sem Next).run P w)
    |some (.slice _ _ _)=>Out P K ((do let d<-resolve E.A3 c t;invoke d.target d.args:Sem Next).run P w)
    |_=>D)
   | .builtin .cap=>(match c.args[0]?.map E.A3 with
    |some (.slice _ _ _)=>Out P K ((do let d<-resolve E.A3 c t;invoke d.target d.args:Sem Next).run P w)
    |_=>D)
   | .builtin .min=>(match Ep (c.args.map E.A3).toList with
    |true=>Out P K ((do let d<-resolve E.A3 c t;invoke d.target d.args:Sem Next).run P w)
    |false=>D)
   | .builtin .max=>(match Ep (c.args.map E.A3).toList with
    |true=>Out P K ((do let d<-resolve E.A3 c t;invoke d.target d.args:Sem Next).run P w)
    |false=>D)
   |_=>D):Qv P (do let d<-resolve E.A3 c t;invoke d.target d.args) w K:=by
 split at h
 ·rename_i hc;split at h
  ·rename_i ha;exact Lg hc (fun _=>rfl) (kj _ _ _ _ (AF0 ha)) h
  ·rename_i ha;exact Lg hc (fun _=>rfl) (kk _ _ _ _ _ _ (AF0 ha)) h
  ·exact hD h
 ·rename_i hc;split at h
  ·rename_i ha;exact Lg hc (fun _=>rfl) (kl _ _ _ _ _ _ (AF0 ha)) h
  ·exact hD h
 ·rename_i hc;split at h
  ·rename_i ha;exact Lg hc (fun _=>rfl) (AF1 _ _ _ ha) h
  ·exact hD h
 ·rename_i hc;split at h
  ·rename_i ha;exact Lg hc (fun _=>rfl) (AF2 _ _ _ ha) h
  ·exact hD h
 ·exact hD h
theorem zQ {v:Value}{w':World}(h:K v w'):Out P K (.ok (.value v) w'):=h
attribute [local irreducible] Out
theorem tm {o:Oper}(hs:F4 P o.op=true)(hl:∀t x,o.op≠ .load t x)(h:Z3 P F true E o w K):Qv P (execOp E.A3 o) w K:=by
 obtain ⟨dst,op,type,pos,after,guard⟩:=o;simp only[Z3]at h;simp only at hs hl;cases op<;>simp only[F4,bD]at hs<;>simp only at h
 case move x=>exact ij h
 case assign x=>exact ij h
 case pick c a b=>exact zO h
 case load t x=>exact (hl t x rfl).elim
 case nilCheck x=>
  split at h
  ·rename_i p hx;obtain ⟨a,rfl,hk⟩:=h;exact ⟨_,fun _=>by simp only[execOp,hx];rfl,hk⟩
  ·exact h.elim
 case binOp op t x y yt=>
  refine Sv h (fun hd=>?_) (fun ho=>ho.elim) id;split at hd
  ·rename_i hk;exact Lh (AF3 hk) hd
  ·exact hd.elim
 case unOp op t x=>exact Lh (tp _ _) h
 case convert src dst x=>
  split at h
  ·rename_i k n hx;split at h
   ·rename_i k' hu;simp only[execOp,hx]at h⊢;exact Z5 hu h
   ·exact h.elim
  ·exact h.elim
 case slice t x lo hi mx=>exact Xi h (fun hd=>Lh (Z6 _ _ _ _ _) hd) id
 case fieldAddr t x f=>exact Xj h (fun hd=>hd.elim) id
 case field t x f=>exact Lh (tq _ _ _) h
 case build t ps=>exact Lh (tt _ _) h
 case indexAddr t x i=>exact Sw h (fun hd=>Lh (Z7 _ _ _) hd) id
 case index t x i=>exact Sx h (fun hd=>Lh (tu _ _ _) hd) id
 case extract t i=>exact Lh (Z8 _ _) h
 case call c=>
  refine AMo (D:=False) (fun h=>h.elim) ?_;split at h<;>first
   |exact h.elim
   |(rename_i hc;simp only[hc];exact h)
   |(split at h<;>exact h.elim)
   |(rename_i hc;simp only[hc];split at h<;>first|exact h.elim|(rename_i ha;simp only[ha];exact h))
theorem Q6 {s:Sem Next}(h:Qv P s w K):Out P K (s.run P w):=km h
theorem Ee {c:Call}{b:Builtin}{t:TypeId}{s:Sem Value}(hc:c.callee= .builtin b)
  (hb:∀consts,builtin b c.argTypes t consts (c.args.map E.A3)=(do pure (Next.value (<-s))))
  (h:Out P K ((do pure (Next.value (<-s)):Sem Next).run P w)):Out P K ((do let d<-resolve E.A3 c t;invoke d.target d.args:Sem Next).run P w):=by
 have e:(do let d<-resolve E.A3 c t;invoke d.target d.args:Sem Next)=(do pure (Next.value (<-s))):=by
  simp only[resolve,hc,pure_bind,invoke,hb]
 rw[e];exact h
theorem Z9 {u:TypeId}{x v:Value}(h:tQ P u x=some v):∃t,x= .iface t v/\∃d,P.underlying u=some d/\Qy d=false/\t=u:=by
 unfold tQ at h;split at h
 ·rename_i t y;split at h
  ·rename_i d hd;split at h
   ·rename_i h1 h2;cases h;exact ⟨t,rfl,d,hd,h1,cS h2⟩
   ·cases h
  ·cases h
 ·cases h
theorem AF4 {a:Addr}{ty:TypeId}(h:Nx w a (fun i c w'=>K (.tuple #[.bool true,.int .i64 i,.int .i32 c]) w') (K (.tuple #[.bool false]) w)):∃v w',(Instr.next (.pointer (some a)) true ty).run P w= .ok v w'/\K v w':=by
 obtain ⟨s,pos,ho,hb,hc⟩:=h;obtain ⟨b,o,sp⟩:=a;simp only at ho hb hc;subst ho;by_cases hp:pos<s.size
 ·rw[aD hp]at hc;refine ⟨_,_,?_,hc⟩;simp[Instr.next,getObj,setObj,Sem.run,hb,hp,goInt,itW]
 ·rw[aP hp]at hc;refine ⟨_,_,?_,hc⟩;simp[Instr.next,getObj,Sem.run,hb,hp]
theorem FK (hF:Av P F.ok){o:Oper}(h:Z3 P F false E o w K):Qw P F.pk K ((execOp E.A3 o).run P w):=by
 obtain ⟨dst,op,type,pos,after,guard⟩:=o;simp only[Z3]at h;cases op<;>simp only at h<;>try exact Out.Hr h
 case load t x=>
  obtain ⟨v,h1,h2⟩:=U6 h;exact Out.Hr (EL h1 h2)
 case store t x y=>
  obtain ⟨w',h1,h2⟩:=zR h;exact Out.Hr (Xk h1 h2)
 case nilCheck x=>
  split at h
  ·rename_i p hx;obtain ⟨a,rfl,hk⟩:=h;simp only[execOp,hx];exact Out.Hr (zQ hk)
  ·exact Out.Hr h
 case binOp op t x y yt=>
  refine Out.Hr (Sv h (fun hd=>?_) (fun ho=>DB ho) (fun h=>Q6 h));split at hd<;>exact hd
 case convert src dst x=>
  split at h
  ·split at h<;>exact Out.Hr h
  ·exact Out.Hr (DB h)
 case makeSlice t l c=>exact Out.Hr (DB h)
 case slice t x lo hi mx=>exact Out.Hr (Xi h id (fun h=>Q6 h))
 case fieldAddr t x f=>exact Out.Hr (Xj h id (fun h=>Q6 h))
 case indexAddr t x i=>exact Out.Hr (Sw h id (fun h=>Q6 h))
 case index t x i=>exact Out.Hr (Sx h id (fun h=>Q6 h))
 case lookup t x i ok=>
  split at h
  ·exact Out.Hr (DB h)
  ·split at h
   ·obtain ⟨x,b,w',hr,hk⟩:=h;exact Out.Hr (EL hr hk)
   ·exact Out.Hr h
 case panic x=>
  unfold tP at h;split at h
  ·rename_i t y hx;simp only[execOp,hx];exact h
  ·exact h.elim
 case range t x=>
  split at h
  ·rename_i s hq hx hu;refine Out.Hr (EL (w':=w.alloc (.stringIter s 0)) ?_ h);rw[hx];simp[Instr.range,run_underlying hu]
  ·exact Out.Hr h
 case next it str=>
  split at h
  ·rename_i a hq hx;obtain ⟨v,w',h1,h2⟩:=AF4 (P:=P) (ty:=type) h;refine Out.Hr (EL (w':=w') ?_ h2);rw[hx];exact h1
  ·exact Out.Hr h
 case mapUpdate t m k x=>exact Out.Hr (tv h)
 case typeAssert x t u ok=>
  split at h
  ·exact Out.Hr (DB h)
  ·split at h
   ·rename_i v hv;refine Out.Hr (EL (w':=w) ?_ h);obtain ⟨y,hx,d,hu,hi,hy⟩:=Z9 hv;rw[hx];simp only[Instr.typeAssert,Sem.run_bind,run_underlying hu,Result.andThen_ok];subst hy;clear h hv hF;cases d<;>simp_all [Qy]
   ·obtain ⟨x,b,w',hr,hk⟩:=h;exact Out.Hr (EL hr hk)
 case call c=>
  split at h
  ·rename_i f hc;split at h
   ·rename_i g first captured _ hf
    have e:(do let d<-resolve E.A3 c type;invoke d.target d.args:Sem Next)=callFunc g ((first++(c.args.map E.A3))++captured):=by
     simp only[resolve,hc,hf,Deferred.ofValue,pure_bind,invoke]
    show Qw P F.pk K ((do let d<-resolve E.A3 c type;invoke d.target d.args:Sem Next).run P w);rw[e];exact kh hF h
   ·exact Out.Hr h
  ·rename_i hc;exact Out.Hr (Ee hc (fun _=>rfl) (DB h))
  ·rename_i hc;exact Out.Hr (Ee hc (fun _=>rfl) (DB h))
  ·rename_i hc;exact Out.Hr (Ee hc (fun _=>rfl) (DB h))
  ·rename_i hc;exact Out.Hr (Ee hc (fun _=>rfl) (DB h))
  ·rename_i hc;split at h
   ·exact Out.Hr h
   ·exact Out.Hr h
   ·exact Out.Hr (Ee hc (fun _=>rfl) (DB h))
   ·exact Out.Hr h
  ·split at h<;>exact Out.Hr h
  ·split at h<;>exact Out.Hr h
  ·split at h<;>exact Out.Hr h
  ·exact Out.Hr h
end
end Sh
namespace Sh
section
variable {P:Program} {F:Fx} {N:Nat}
theorem Fo {o:Oper}{a:Act}{next:Act->World->Prop}{Q:Exit->Act->World->Prop}{pk:Value->World->Prop}{K:Value->World->Prop}{r:Result Next}(h:Qw P pk K r)
  (hk:∀v w',K v w'->next (a.put o.dst v) w') (hp:∀v w',pk v w'->Q (.panic (Aj v)) a w'):o.upon P a next Q r:=by
 cases r with
 |halt x w=>
  cases x<;>try exact h.elim
  case panic v=>exact hp _ _ h
 |ok n w=>
  cases n<;>try exact h.elim
  case value v=>exact hk _ _ h
  case skip=>exact hk _ _ h
  case enter f args=>
   refine Calls.mono h fun e w' he=>?_
   rcases he with ⟨v,rfl,hv⟩|⟨v,rfl,hv⟩
   ·exact hk _ _ hv
   ·exact hp _ _ hv
theorem fits_bool {E:Env}{a:Act}(h:Fits N E a){s:Nat}{b:Bool}(hs:E.get? s=some (.bool b)):a.tmps[s]?=some (.bool b)/\s<N:=by
 obtain ⟨Am,hg⟩:=h.get s _ hs;have:s<a.tmps.size:=by rw[h.size];exact Am
 refine ⟨?_,Am⟩;rw[cj this];simpa[Array.getD,this]using hg
theorem DC {ops:Array Oper}{E:Env}{o:Oper}{yes no:Env->Prop}{a:Act}(h:wT ops E o yes no)(hf:Fits N E a):
  (Region.wanted o (yielded ops a.tmps)=true/\∃E',Fits N E' a/\yes E')\/(Region.wanted o (yielded ops a.tmps)=false/\∃E',Fits N E' a/\no E'):=by
 unfold wT at h;split at h
 ·rename_i hg;exact .inl ⟨by simp[Region.wanted,hg],E,hf,h⟩
 ·rename_i j want hg;split at h
  ·rename_i s hs;split at h
   ·rename_i b hb;obtain ⟨h1,h2⟩:=fits_bool hf hb;have hy:yielded ops a.tmps j=some b:=by simp[yielded,hs,h1]
    have hv:a.tmps.getD s undef= .bool b:=(hf.get s _ hb).2;split at h<;>rcases Lj h with ⟨rfl,h⟩|⟨rfl,h⟩
    ·exact .inl ⟨by simp[Region.wanted,hg,hy],_,hf.cons h2 hv,h⟩
    ·exact .inr ⟨by simp[Region.wanted,hg,hy],_,hf.cons h2 hv,h⟩
    ·exact .inr ⟨by simp[Region.wanted,hg,hy],_,hf.cons h2 hv,h⟩
    ·exact .inl ⟨by simp[Region.wanted,hg,hy],_,hf.cons h2 hv,h⟩
   ·rename_i vs hb;obtain ⟨Am,hv⟩:=hf.get s _ hb;have Zz:s<a.tmps.size:=by rw[hf.size];exact Am
    have h1:a.tmps[s]?=some (.tuple vs):=by
     rw[cj Zz];simpa[Array.getD,Zz]using hv
    have hy:yielded ops a.tmps j=none:=by simp[yielded,hs,h1]
    exact .inr ⟨by simp[Region.wanted,hg,hy],E,hf,h⟩
   ·exact h.elim
  ·exact h.elim
def D4 (N:Nat)(l:List Oper):Prop:=∀o∈l,∀d,o.dst=some d->d<N
def frame (l:List Oper)(a a':Act):Prop:=(∀t,(∀o∈l,o.dst≠some t)->a'.tmps.getD t undef=a.tmps.getD t undef)/\a'.defers=a.defers
theorem frame.refl(l:List Oper)(a:Act):frame l a a:=⟨fun _ _=>rfl,rfl⟩
theorem frame.put{l:List Oper}{a0 a:Act}{o:Oper}{v:Value}(h:frame l a0 a)(ho:o∈l):frame l a0 (a.put o.dst v):=
 ⟨fun t ht=>by rw[HK (ht o ho)];exact h.1 t ht,by rw[put_defers];exact h.2⟩
theorem frame.Xq{l:List Oper}{a0 a:Act}{o:Oper}{v:Value}(h:frame l a0 (a.put o.dst v))(ho:o∈l):frame l a0 a:=
 ⟨fun t ht=>by rw[<-h.1 t ht,HK (ht o ho)],by rw[<-h.2,put_defers]⟩
theorem frame.sub{l m:List Oper}{a b:Act}(h:frame l a b)(hs:∀o∈l,o∈m):frame m a b:=⟨fun t ht=>h.1 t fun o ho=>ht o (hs o ho),h.2⟩
theorem frame.trans{l:List Oper}{a b c:Act}(h:frame l a b)(k:frame l b c):frame l a c:=⟨fun t ht=>by rw[k.1 t ht];exact h.1 t ht,by rw[k.2];exact h.2⟩
theorem frame.cons{o:Oper}{l:List Oper}{a a':Act}(h:frame l a a'):frame (o::l) a a':=h.sub fun _ h=>aC _ h
theorem AU {o:Oper}{l:List Oper}{a a':Act}{v:Value}(h:frame l (a.put o.dst v) a'):frame (o::l) a a':=
 ⟨fun t ht=>by rw[h.1 t fun p hp=>ht p (aC _ hp)];exact HK (ht o aT),by rw[h.2,put_defers]⟩
theorem Fits.some{N:Nat}{E:Env}{a:Act}(h:Fits N E a):Fits N [] a:=⟨h.size,fun t v hv=>by cases hv⟩
theorem Fits.Xq{N:Nat}{a:Act}{d:Option Tmp}{v:Value}(h:Fits N [] (a.put d v)):Fits N [] a:=⟨by have:=h.size;cases d<;>simpa[Act.put]using this,fun t v hv=>by cases hv⟩
theorem Jm (hF:Av P F.ok){ops:Array Oper}{Q:Exit->Act->World->Prop}:∀(l:List Oper) (E:Env) (w:World) (K:Env->World->Prop) (a:Act),
  JH P F false ops l E w K->Fits N E a->D4 N l->(∀E' a' w',K E' w'->Fits N E' a'->frame l a a'->Q .normal a' w')->
  (∀v a' w',F.pk v w'->Fits N [] a'->frame l a a'->Q (.panic (Aj v)) a' w')->wpList P ops Q l a w
 |[],E,w,K,a,h,hf,_,hQ,_=>hQ E a w h hf (frame.refl _ _)
 |o::r,E,w,K,a,h,hf,hd,hQ,hP=>by
  have Rc:D4 N r:=fun p hp=>hd p (aC _ hp)
  have ho:=hd o aT;unfold wpList;rcases DC h hf with ⟨hw,E',Cr,hy⟩|⟨hw,E',Cr,hn⟩
  ·rw[ak hw];refine .inl ?_;split at hy
   ·rename_i hb;simp only[ay]at hb;unfold Oper.wp;rw[BH Cr hb.1];refine Fo (FK hF hy) (fun v w' hk=>?_) fun v w' hp=>hP v a w' hp hf.some (frame.refl _ _)
    exact Jm hF r _ w' K _ hk (Cr.put ho) Rc (fun MJ a' B7 h1 h2 h3=>hQ _ _ _ h1 h2 (AU h3)) fun v a' B7 h1 h2 h3=>hP v a' B7 h1 h2 (AU h3)
   ·exact hy.elim
  ·rw[ah (by rw[hw];simp)];exact Jm hF r _ w K _ hn (Cr.put ho) Rc (fun MJ a' B7 h1 h2 h3=>hQ _ _ _ h1 h2 (AU h3)) fun v a' B7 h1 h2 h3=>hP v a' B7 h1 h2 (AU h3)
theorem RE {ρ:Operand->Value}:∀{l:List (Nat×Operand)} {K:List (Nat×Value)->Prop},tR ρ l K->K (l.map fun p=>(p.1,ρ p.2))
 |[],K,h=>h
 |p::r,K,h=>by
  obtain ⟨f,a,c,e,h⟩:=h;have h:=RE h;rw[<-e]at h;exact h
theorem zU (hF:Av P F.ok){E:Env}{w:World}{K:Value->World->Prop}{o:Oper}(h:opD P F E o w K):Qw P F.pk K ((execOp E.A3 o).run P w):=by
 unfold opD at h;split at h
 ·rename_i t parts Ym;have h:=RE h;obtain ⟨dst,op,type,pos,after,guard⟩:=o;simp only at Ym;subst Ym;have e:(parts.toList.map fun p=>(p.1,E.A3 p.2)).toArray=parts.map fun (i,x)=>(i,E.A3 x):=by
   rw[<-dB,Array.toArray_toList]
  rw[e]at h;exact Out.Hr h
 ·rename_i c Ym;split at h
  ·rename_i t hc;obtain ⟨g,first,captured,hf,hg,h⟩:=h;simp only[ay]at hg;obtain ⟨hg,AMr⟩:=hg;obtain ⟨dst,op,type,pos,after,guard⟩:=o;simp only at Ym h;subst Ym;have e:(do let d<-resolve E.A3 c type;invoke d.target d.args:Sem Next)=callFunc g ((first++(c.args.map E.A3))++captured):=by
    simp only[resolve,hc,hf,Deferred.ofValue,pure_bind,invoke]
   show Qw P F.pk K ((do let d<-resolve E.A3 c type;invoke d.target d.args:Sem Next).run P w);rw[e];obtain ⟨fn,WN⟩:=Option.isSome_iff_exists.1 AMr;obtain ⟨hb,hn⟩:=hF g fn hg WN;have IZ:fn.body.isNone=false:=by cases hx:fn.body<;>simp_all
   have hn':(fn.name== "runtime.NumGoroutine")=false:=by simpa using hn
   simp only[callFunc,Sem.run_bind,run_program,Result.andThen_ok,WN,hn',IZ,bD,dz,Sem.run_pure,Qw];refine h.mono fun e w' he=>?_
   rcases he with ⟨s,h1,h2⟩|he
   ·exact .inl ⟨_,h1,h2⟩
   ·exact .inr he
  ·exact FK hF h
 ·exact FK hF h
theorem Jn (hF:Av P F.ok){ops:Array Oper}{Q:Exit->Act->World->Prop}:∀(l:List Oper) (E:Env) (w:World) (K:Env->World->Prop) (a:Act),
  tS P F ops l E w K->Fits N E a->D4 N l->(∀E' a' w',K E' w'->Fits N E' a'->frame l a a'->Q .normal a' w')->
  (∀v a' w',F.pk v w'->Fits N [] a'->frame l a a'->Q (.panic (Aj v)) a' w')->wpList P ops Q l a w
 |[],E,w,K,a,h,hf,_,hQ,_=>hQ E a w h hf (frame.refl _ _)
 |o::r,E,w,K,a,h,hf,hd,hQ,hP=>by
  have Rc:D4 N r:=fun p hp=>hd p (aC _ hp)
  have ho:=hd o aT;unfold wpList;rcases DC h hf with ⟨hw,E',Cr,hy⟩|⟨hw,E',Cr,hn⟩
  ·rw[ak hw];refine .inl ?_;split at hy
   ·rename_i hb;unfold Oper.wp;rw[BH Cr hb];refine Fo (zU hF hy) (fun v w' hk=>?_) fun v w' hp=>hP v a w' hp hf.some (frame.refl _ _)
    exact Jn hF r _ w' K _ hk (Cr.put ho) Rc (fun MJ a' B7 h1 h2 h3=>hQ _ _ _ h1 h2 (AU h3)) fun v a' B7 h1 h2 h3=>hP v a' B7 h1 h2 (AU h3)
   ·exact hy.elim
  ·rw[ah (by rw[hw];simp)];exact Jn hF r _ w K _ hn (Cr.put ho) Rc (fun MJ a' B7 h1 h2 h3=>hQ _ _ _ h1 h2 (AU h3)) fun v a' B7 h1 h2 h3=>hP v a' B7 h1 h2 (AU h3)
theorem ku {E:Env}{w:World}{K:Value->World->Prop}{o:Oper}(hs:F4 P o.op=true)(h:Z3 P F true E o w K):∃v,(execOp E.A3 o).run P w= .ok (.value v) w/\K v w:=by
 by_cases hl:∃t x,o.op= .load t x
 ·obtain ⟨t,x,hl⟩:=hl;obtain ⟨dst,op,type,pos,after,guard⟩:=o;simp only at hl;subst hl
  replace h:ldV P t (E.A3 x) w fun v=>K v w:=h
  obtain ⟨v,h1,h2⟩:=U6 h;exact ⟨v,by simp only[execOp,Sem.run_bind,h1,Result.andThen_ok,Sem.run_pure],h2⟩
 ·obtain ⟨v,h1,h2⟩:=tm hs (fun t x e=>hl ⟨t,x,e⟩) h;exact ⟨v,h1 w,h2⟩
theorem EM {ops:Array Oper}{Q:Act->Prop}:∀(l:List Oper) (E:Env) (w:World) (K:Env->World->Prop) (a:Act),
  JH P F true ops l E w K->Fits N E a->D4 N l->(∀E' a',K E' w->Fits N E' a'->frame l a a'->Q a')->wpStill P ops w Q l a
 |[],E,w,K,a,h,hf,_,hQ=>hQ E a h hf (frame.refl _ _)
 |o::r,E,w,K,a,h,hf,hd,hQ=>by
  have Rc:D4 N r:=fun p hp=>hd p (aC _ hp)
  have ho:=hd o aT;unfold wpStill;rcases DC h hf with ⟨hw,E',Cr,hy⟩|⟨hw,E',Cr,hn⟩
  ·rw[ak hw];split at hy
   ·rename_i hb;simp only[ay,Bool.not_true,dS]at hb;obtain ⟨v,h1,h2⟩:=ku hb.2 hy;unfold Oper.still;rw[BH Cr hb.1,h1];exact ⟨rfl,EM r _ w K _ h2 (Cr.put ho) Rc fun MJ a' h1 h2 h3=>hQ _ _ h1 h2 (AU h3)⟩
   ·exact hy.elim
  ·rw[ah (by rw[hw];simp)];exact EM r _ w K _ hn (Cr.put ho) Rc fun MJ a' h1 h2 h3=>hQ _ _ h1 h2 (AU h3)
theorem Xr {S:World->Prop}{a:Addr}{K:List Value->Prop}:∀(ts:List FR) (i:Nat),AFw S a i ts K->
  ∃l:List Value,l.length=ts.length/\(∀w,S w->∀j v,l[j]?=some v->w.cell? (a.add (i+j))=some v)/\K l
 |[],_,h=>⟨[],rfl,by simp,h⟩
 |t::ts,i,h=>by
  obtain ⟨x,hx,hr⟩:=h;obtain ⟨l,h1,h2,h3⟩:=Xr ts (i+1) hr;refine ⟨t.v x::l,by simp[h1],fun w hw j v hj=>?_,h3⟩;cases j with
  |zero=>simp at hj;subst hj;simpa using hx w hw
  |succ j=>have:=h2 w hw j v (by simpa using hj);rw[show i+(j+1)=i+1+j by omega];exact this
theorem uC {S:World->Prop}{E:Env}{w:World}{K:Value->Prop}{o:Oper}(hs:F4 P o.op=true)(h:opQ P F S E o w K):
  ∃v,(∀w2,S w2->(execOp E.A3 o).run P w2= .ok (.value v) w2)/\K v:=by
 by_cases hl:∃t x,o.op= .load t x
 ·obtain ⟨t,x,hl⟩:=hl;obtain ⟨dst,op,type,pos,after,guard⟩:=o;simp only at hl;subst hl
  replace h:ldQ P S t (E.A3 x) K:=h
  unfold ldQ at h;split at h
  ·rename_i a hx;have e:∀v w2,(loadVar t a).run P w2= .ok v w2->(execOp E.A3 {dst:=dst,op:= .load t x,type:=type,pos:=pos,after:=after,guard:=guard}).run P w2= .ok (.value v) w2:=fun v w2 hv=>by
    simp only[execOp,hx,Instr.loadAt,Instr.sureAddr,Sem.run_bind,Sem.run_pure,Result.andThen_ok,hv]
   split at h
   ·rename_i d n hd hn;split at h
    ·rename_i hg;obtain ⟨v,h1,h2⟩:=h;refine ⟨_,fun w2 hw=>e _ _ ?_,h2⟩;simp only[loadVar,Sem.run_bind,DL hd,hg,Result.andThen_ok,bD,dz,N7 (h1 w2 hw)]
    ·rename_i hg;split at h
     ·rename_i ts _;split at h
      ·rename_i hlen;obtain ⟨l,h1,h2,h3⟩:=Xr ts 0 h;refine ⟨_,fun w2 hw=>e _ _ ?_,h3⟩;have hl:l.length=n:=by rw[h1];exact beq_eq hlen
       have:=run_loadCells_list (P:=P) w2 a l (fun j v hj=>by simpa using h2 w2 hw j v hj);simp only[loadVar,Sem.run_bind,DL hd,hg,Result.andThen_ok,if_true,BE hn,<-hl,this,Sem.run_pure]
      ·exact h.elim
     ·obtain ⟨v,h1,h2⟩:=h;exact ⟨.agg v,fun w2 hw=>e _ _ (h1 w2 hw),h2⟩
   ·exact h.elim
  ·exact h.elim
 ·have h':Z3 P F true E o w fun v _=>K v:=by
   unfold opQ at h;split at h
   ·rename_i t x hx;exact (hl ⟨t,x,hx⟩).elim
   ·exact h
  obtain ⟨v,h1,h2⟩:=tm hs (fun t x e=>hl ⟨t,x,e⟩) h';exact ⟨v,fun w2 _=>h1 w2,h2⟩
def Er (ops:Array Oper)(L:Array Bool):Prop:=∀j o,ops[j]?=some o->L.getD j false=true->∀e∈o.after,Region.binds .any e=true->L.getD e.on false=true
theorem Er.start(ops:Array Oper)(n:Nat):Er ops (Array.replicate n false):=fun j o _ h=>by
 simp only[bO,Array.getElem?_replicate]at h;split at h<;>simp at h
theorem Er.set{ops:Array Oper}{L:Array Bool}{j:Nat}(h:Er ops L)(hj:j∈Region.ready .any ops L):Er ops (L.setIfInBounds j true):=fun k o ho hk e he hb=>by
 by_cases hkj:j=k
 ·subst hkj;obtain ⟨_,o',vb,BF⟩:=mem_ready.1 hj;rw[ho]at vb;cases vb;exact getD_set_true (BF e he hb)
 ·rw[getD_set_ne false hkj]at hk;exact getD_set_true (h k o ho hk e he hb)
theorem Kc {L:Array Bool}:∀(es:List Edge) (m:Array Bool),(∀e∈es,Region.binds .any e=true->L.getD e.on false=true)->(∀k,m.getD k false=true->L.getD k false=true)->
  ∀k,(N2 es m).getD k false=true->L.getD k false=true
 |[],_,_,h,k,hk=>h k hk
 |e::es,m,he,h,k,hk=>by
  unfold N2 at hk;rw[b9]at hk;refine Kc es _ (fun e' h'=>he e' (aC _ h')) (fun i hi=>?_) k hk;split at hi
  ·rename_i hb;by_cases hei:e.on=i
   ·subst hei;exact he e aT hb
   ·rw[getD_set_ne false hei]at hi;exact h i hi
  ·exact h i hi
theorem TA {ops:Array Oper}{L:Array Bool}(hL:Er ops L):∀(n:Nat) (m:Array Bool),(∀k,m.getD k false=true->L.getD k false=true)->∀k,(kf ops n m).getD k false=true->L.getD k false=true
 |0,_,h,k,hk=>h k hk
 |n+1,m,h,k,hk=>by
  unfold kf at hk;refine TA hL n _ (fun i hi=>?_) k hk;split at hi
  ·rename_i o hm ho;exact Kc _ _ (fun e he hb=>hL n o ho (h n hm) e (by simpa using he) hb) h i hi
  ·exact h i hi
theorem Xs {ops:Array Oper}{L:Array Bool}(hL:Er ops L){i j:Nat}(ha:wS ops j i=true)(hj:j∈Region.ready .any ops L)(hi:i∈Region.ready .any ops L):False:=by
 obtain ⟨_,o,ho,BF⟩:=mem_ready.1 hj;unfold wS at ha;rw[ho]at ha;have h1:=TA hL j _ (Kc o.after.toList _ (fun e he hb=>BF e (by simpa using he) hb) (fun k hk=>by
  simp only[bO,Array.getElem?_replicate]at hk;split at hk<;>simp at hk)) i ha
 have h0:=(mem_ready.1 hi).1;rcases bX i L.size with h'|h'
 ·simp[h']at h0 h1;rw[h0]at h1;cases h1
 ·simp[cP h']at h1
section
variable {ops:Array Oper} {Q:Exit->Act->World->Prop} {S:World->Prop} {J:List Nat}
def Dq (P:Program)(ops:Array Oper)(Q:Exit->Act->World->Prop)(J:List Nat)(S:World->Prop):Nat->Array Bool->Act->World->Prop
 |0,listed,a,w=>Region.ready .any ops listed=[]/\Q .normal a w
 |fuel+1,listed,a,w=>(Region.ready .any ops listed=[]->Q .normal a w)/\∀i∈Region.ready .any ops listed,
  if J.contains i=true then wpOp P ops Q i (fun a' w'=>wpAny P .any ops Q fuel (listed.setIfInBounds i true) a' w') a w
  else wpOp P ops Q i (fun a' w'=>S w'/\Dq P ops Q J S fuel (listed.setIfInBounds i true) a' w') a w
theorem Fq:∀(fuel:Nat) (listed:Array Bool) (a:Act) (w:World),Dq P ops Q J S fuel listed a w->wpAny P .any ops Q fuel listed a w
 |0,_,_,_,h=>h
 |fuel+1,_,_,_,h=>⟨h.1,fun i hi=>by
  have:=h.2 i hi;split at this
  ·exact this
  ·exact wpOp_mono (fun a' w' h'=>Fq fuel _ a' w' h'.2) this⟩
def Jo (P:Program)(ops:Array Oper)(J:List Nat)(S:World->Prop)(i:Nat)(oi:Oper)(v:Value)(a:Act):Prop:=
 Yields P ops oi v a\/(YieldsIf P ops S oi v a/\∀j∈J,wS ops j i=true)
theorem Jo.yieldsIf{i:Nat}{oi:Oper}{v:Value}{a:Act}(h:Jo P ops J S i oi v a):YieldsIf P ops S oi v a:=h.elim (fun h=>h.yieldsIf) (fun h=>h.1)
theorem U8 {i:Nat}{oi:Oper}{v:Value}(hi:ops[i]?=some oi)(Lk:∀(j:Nat) (o:Oper) cs b,ops[j]?=some o->o.op≠ .select cs b)
  (hQ:∀c a w,Q (.panic c) (a.put oi.dst v) w->Q (.panic c) a w):
  ∀(fuel:Nat) (listed:Array Bool) (a:Act) (w:World),
   (∀j oj,ops[j]?=some oj->j≠i->listed.getD j true=false->(∀e∈oj.after,Region.binds .any e=true->e.on≠i)->oi.apart ops oj=true)->
   Er ops listed->i∈Region.ready .any ops listed->Jo P ops J S i oi v a->S w->
   Dq P ops Q J S fuel (listed.setIfInBounds i true) (a.put oi.dst v) w->Dq P ops Q J S (fuel+1) listed a w:=by
 intro fuel;have self:∀(fuel:Nat) (listed:Array Bool) (a:Act) (w:World),Jo P ops J S i oi v a->S w->Dq P ops Q J S fuel (listed.setIfInBounds i true) (a.put oi.dst v) w->
   (if J.contains i=true then wpOp P ops Q i (fun a' w'=>wpAny P .any ops Q fuel (listed.setIfInBounds i true) a' w') a w
    else wpOp P ops Q i (fun a' w'=>S w'/\Dq P ops Q J S fuel (listed.setIfInBounds i true) a' w') a w):=fun fuel listed a w hy hS H=>by
  split
  ·exact hy.yieldsIf.wpOp hi hS (Fq _ _ _ _ H)
  ·exact hy.yieldsIf.wpOp hi hS ⟨hS,H⟩
 induction fuel with
 |zero=>
  intro listed a w _ _ hr hy hS H;refine ⟨fun h=>(by rw[h]at hr;cases hr),fun j hj=>?_⟩;by_cases OJ:j=i
  ·subst OJ;exact self 0 listed a w hy hS H
  ·have:=ready_mono hj OJ;rw[H.1]at this;cases this
 |succ fuel ih=>
  intro listed a w il IS hr hy hS H;refine ⟨fun h=>(by rw[h]at hr;cases hr),fun j hj=>?_⟩;by_cases OJ:j=i
  ·subst OJ;exact self _ listed a w hy hS H
  ·have h1:=H.2 j (ready_mono hj OJ);obtain ⟨AMs,oj,zV,BF⟩:=mem_ready.1 hj;have ADD:∀e∈oj.after,Region.binds .any e=true->e.on≠i:=fun e he hb heq=>by
    have h1:=BF e he hb;have h0:=(mem_ready.1 hr).1;rw[heq]at h1;rcases bX i listed.size with h'|h'
    ·simp[h']at h0 h1;rw[h0]at h1;cases h1
    ·simp[cP h']at h1
   have uD:∀k ok,ops[k]?=some ok->k≠i->(listed.setIfInBounds j true).getD k true=false->
     (∀e∈ok.after,Region.binds .any e=true->e.on≠i)->oi.apart ops ok=true:=fun k ok hk J0 vU Kf=>by
    refine il k ok hk J0 ?_ Kf;by_cases hjk:j=k
    ·subst hjk;exact AMs
    ·rw[getD_set_ne true hjk]at vU;exact vU
   have mC:=il j oj zV OJ AMs ADD;split at h1
   ·rename_i hJ;rw[ak hJ];rcases hy with hy|⟨_,hy⟩
    ·have h2:=wpOp_put zV mC (fun cs b=>Lk i oi cs b hi) (fun cs b=>Lk j oj cs b zV) hQ hy h1;refine wpOp_mono (fun a' w' h3=>wpAny_first hi Lk hQ fuel _ a' w' uD (ready_mono hr (Ne.symm OJ)) h3.1 ?_) h2;rw[Array.setIfInBounds_comm _ _ OJ];exact h3.2
    ·exact (Xs IS (hy j (by simpa using hJ)) hj hr).elim
   ·rename_i hJ;rw[ah hJ];have step:wpOp P ops Q j (fun a' w'=>Jo P ops J S i oi v a'/\S w'/\Dq P ops Q J S fuel ((listed.setIfInBounds i true).setIfInBounds j true) (a'.put oi.dst v) w') a w:=by
     rcases hy with hy|⟨hy,hyJ⟩
     ·exact wpOp_mono (fun a' w' h3=>⟨.inl h3.1,h3.2⟩) (wpOp_put zV mC (fun cs b=>Lk i oi cs b hi) (fun cs b=>Lk j oj cs b zV) hQ hy h1)
     ·exact wpOp_mono (fun a' w' h3=>⟨.inr ⟨h3.1,hyJ⟩,h3.2⟩) (wpOp_putIf zV mC (fun cs b=>Lk i oi cs b hi) (fun cs b=>Lk j oj cs b zV) hQ hy h1)
    refine wpOp_mono (fun a' w' h3=>⟨h3.2.1,ih (listed.setIfInBounds j true) a' w' uD (IS.set hj) (ready_mono hr (Ne.symm OJ)) h3.1 h3.2.1 ?_⟩) step;rw[Array.setIfInBounds_comm _ _ OJ];exact h3.2.2
end
theorem kv {S:World->Prop}{E:Env}{w:World}{K:Value->Prop}{o:Oper}(hs:F4 P o.op=true)(hl:MR o.op=false)(h:opQ P F S E o w K):
  ∃v,(∀w2,(execOp E.A3 o).run P w2= .ok (.value v) w2)/\K v:=by
 have hl':∀t x,o.op≠ .load t x:=fun t x e=>by rw[e]at hl;cases hl
 have h':Z3 P F true E o w fun v _=>K v:=by
  unfold opQ at h;split at h
  ·rename_i t x hx;exact (hl' t x hx).elim
  ·exact h
 obtain ⟨v,h1,h2⟩:=tm hs hl' h';exact ⟨v,h1,h2⟩
theorem iq (hF:Av P F.ok){ops:Array Oper}{Q:Exit->Act->World->Prop}{J:List Nat}{S:World->Prop}{i:Nat}{fl:Option (List Nat)}{lo:Bool}{E:Env}{w:World}{o:Oper}{a:Act}
  {fuel:Nat} {listed:Array Bool} {k:(World->Prop)->Env->World->Prop} (ho:ops[i]?=some o) (hS:S w) (hf:Fits N E a) (hd:∀t,o.dst=some t->t<N)
  (hp:∀v w',F.pk v w'->Q (.panic (Aj v)) a w') (h:zN P F ops J S i fl lo E w o k) (hk:∀S E' v w',k S E' w'->S w'->Fits N E' (a.put o.dst v)->Dq P ops Q (fl.getD J) S fuel (listed.setIfInBounds i true) (a.put o.dst v) w'):
  if J.contains i=true then wpOp P ops Q i (fun a' w'=>wpAny P .any ops Q fuel (listed.setIfInBounds i true) a' w') a w
  else wpOp P ops Q i (fun a' w'=>S w'/\Dq P ops Q J S fuel (listed.setIfInBounds i true) a' w') a w:=by
 have ph:∀(E':Env) (v:Value) (w':World),phT lo w' (fun S=>k S E' w')->Fits N E' (a.put o.dst v)->wpAny P .any ops Q fuel (listed.setIfInBounds i true) (a.put o.dst v) w':=fun E' v w' h hf=>by
  unfold phT at h;split at h
  ·obtain ⟨S',h1,h2⟩:=h;exact Fq _ _ _ _ (hk _ _ _ _ h2 h1 hf)
  ·exact Fq _ _ _ _ (hk _ _ _ _ h trivial hf)
 unfold zN at h;split at h
 ·rename_i hJ;rw[ah (by rw[hJ];simp)];unfold wpOp;simp only[ho];rcases DC h hf with ⟨hw,E',Cr,hy⟩|⟨hw,E',Cr,hn⟩
  ·rw[ak hw];split at hy
   ·rename_i BF;refine .inl ?_;unfold Oper.wp;rw[BH Cr BF];exact Fo (FK hF hy) (fun v w' hv=>⟨hv.1,hk _ _ _ _ hv.2 hv.1 (Cr.put hd)⟩) hp
   ·exact hy.elim
  ·rw[ah (by rw[hw];simp)];exact ⟨hS,hk _ _ _ _ hn hS (Cr.put hd)⟩
 ·rename_i J' hJ;rw[ak hJ];unfold wpOp;simp only[ho];rcases DC h hf with ⟨hw,E',Cr,hy⟩|⟨hw,E',Cr,hn⟩
  ·rw[ak hw];split at hy
   ·rename_i BF;refine .inl ?_;unfold Oper.wp;rw[BH Cr BF];exact Fo (FK hF hy) (fun v w' hv=>ph _ _ _ hv (Cr.put hd)) hp
   ·exact hy.elim
  ·rw[ah (by rw[hw];simp)];exact ph _ _ _ hn (Cr.put hd)
 ·exact h.elim
theorem RF {x:Nat}:∀{l:List Nat},ie x l=true->x∉l
 |[],_,h=>by cases h
 |y::r,h,hm=>by
  simp only[ie,ay,dR]at h;rcases aN.1 hm with rfl|hm
  ·simp at h
  ·exact RF h.2 hm
theorem GX:∀{l:List Nat},distinct l=true->l.Nodup
 |[],_=>List.nodup_nil
 |x::r,h=>by
  simp only[distinct,ay]at h;exact List.nodup_cons.2 ⟨RF h.1,GX h.2⟩
theorem N8:∀(js:List Nat) (l:Array Bool),(DK l js).size=l.size
 |[],_=>rfl
 |j::js,l=>by rw[DK,N8 js];simp
theorem N9 (k:Nat):∀(js:List Nat) (l:Array Bool),(∀j∈js,j<l.size)->((DK l js).getD k false=true↔l.getD k false=true\/k∈js)
 |[],l,_=>by simp[DK]
 |j::js,l,h=>by
  rw[DK,N9 k js _ (fun i hi=>by simpa using h i (aC _ hi))];have hj:=h j aT;by_cases hkj:j=k
  ·subst hkj;simp[Array.getD,hj]
  ·rw[getD_set_ne false hkj];simp only[aN];constructor
   ·rintro (h|h)
    ·exact .inl h
    ·exact .inr (.inr h)
   ·rintro (h|h|h)
    ·exact .inl h
    ·exact absurd h.symm hkj
    ·exact .inr h
section
variable {ops:Array Oper}
def ir (N:Nat)(Gs:List DJ)(listed:Array Bool)(a:Act)(w:World):Prop:=
 ∀e∈Gs,listed.getD e.j false=true->e.dst<N/\∃x:e.ty.T,e.G x w/\a.tmps.getD e.dst undef=e.ty.v x
theorem Kd {o:Oper}{listed:Array Bool}{a:Act}{w:World}{k:Env->Prop}:∀(l:List DJ) (E:Env),Ss o l E w k->Fits N E a->ir N l listed a w->(∀e∈l,Le o.op e.dst=true->listed.getD e.j false=true)->
  ∃E',Fits N E' a/\k E'
 |[],E,h,hf,_,_=>⟨E,hf,h⟩
 |e::r,E,h,hf,hg,hu=>by
  have IJ:ir N r listed a w:=fun e he=>hg e (aC _ he)
  have hu':∀e∈r,Le o.op e.dst=true->listed.getD e.j false=true:=fun e he=>hu e (aC _ he)
  unfold Ss at h;split at h
  ·rename_i hb;obtain ⟨Am,x,hx,hv⟩:=hg e aT (hu e aT hb);exact Kd r _ (h x hx) (hf.cons Am hv) IJ hu'
  ·exact Kd r E h hf IJ hu'
theorem Ll {listed:Array Bool}{a:Act}{w:World}{k:Env->Prop}:∀(l:List DJ) (E:Env),Lf l E w k->Fits N E a->ir N l listed a w->(∀e∈l,listed.getD e.j false=true)->∃E',Fits N E' a/\k E'
 |[],E,h,hf,_,_=>⟨E,hf,h⟩
 |e::r,E,h,hf,hg,hu=>by
  obtain ⟨Am,x,hx,hv⟩:=hg e aT (hu e aT);exact Ll r _ (h x hx) (hf.cons Am hv) (fun e he=>hg e (aC _ he)) (fun e he=>hu e (aC _ he))
def AF5 (ops:Array Oper)(le:World->World->Prop)(Gs:List DJ):Prop:=∀e∈Gs,(∃o,ops[e.j]?=some o/\o.dst=some e.dst)/\∀x w w',le w w'->e.G x w->e.G x w'
theorem RG {le:World->World->Prop}{k:List DJ->Prop}:∀(js:List Nat) (acc:List DJ),ib P ops le js acc k->AF5 ops le acc->∃Gs,AF5 ops le Gs/\Gs.map (·.j)=acc.map (·.j)++js/\k Gs
 |[],acc,h,hg=>⟨acc,hg,by simp,h⟩
 |j::js,acc,h,hg=>by
  unfold ib at h;split at h
  ·rename_i o ho;split at h
   ·rename_i d hd;obtain ⟨G,hG,h⟩:=h;obtain ⟨Gs,h1,h2,h3⟩:=RG js _ h (fun e he=>by
     rcases aQ.1 he with he|he
     ·exact hg e he
     ·rw[az.1 he];exact ⟨⟨o,ho,hd⟩,hG⟩)
    exact ⟨Gs,h1,by rw[h2];simp,h3⟩
   ·exact h.elim
  ·exact h.elim
theorem RH {S:World->Prop}{le:World->World->Prop}{B:World->Prop}{E:Env}{all:List DJ}:∀(l:List DJ),ic P F ops S le B E all l->∀e∈l,∃o,ops[e.j]?=some o/\∀w,S w->B w->Ss o all E w fun E'=>match hasAll E' o.op with
   |true=>Z3 P F false E' o w fun v w'=>S w'/\B w'/\le w w'/\∃x:e.ty.T,v=e.ty.v x/\e.G x w'
   |false=>False
 |[],_,e,he=>by cases he
 |e::r,h,e',he=>by
  obtain ⟨h1,h2⟩:=h;rcases aN.1 he with rfl|he
  ·split at h1
   ·rename_i o ho;exact ⟨o,ho,h1⟩
   ·exact h1.elim
  ·exact RH r h2 e' he
theorem exists_least (p:Nat->Prop):∀(n:Nat),(∃m,m<n/\p m)->∃m,p m/\∀k,k<m->¬p k
 |0,⟨m,h,_⟩=>by omega
 |n+1,h=>by
  by_cases h':∃m,m<n/\p m
  ·exact exists_least p n h'
  ·obtain ⟨m,hm,hp⟩:=h;refine ⟨m,hp,fun k hk YD=>h' ⟨k,by omega,YD⟩⟩
theorem OA {listed:Array Bool}{js:List Nat}{E:Env}(h:U3 ops listed js E=true):js.Nodup/\(js.map (IC ops)).Nodup/\
  (∀j∈js,∃o,ops[j]?=some o/\o.guard=none/\listed.getD j true=false/\E.get? (IC ops j)=none/\
   (∀e∈o.after,Region.binds .any e=true->listed.getD e.on false=true\/(e.on∈js/\e.on<j))/\
   (∀j'∈js,Le o.op (IC ops j')=true->∃e∈o.after,Region.binds .any e=true/\e.on=j'))/\
  (∀k,k<ops.size->listed.getD k true=false->k∉js->∀j∈js,wS ops k j=true):=by
 unfold U3 at h;simp only[ay]at h;obtain ⟨⟨⟨h1,h2⟩,h3⟩,h4⟩:=h;refine ⟨GX h1,GX h2,fun j hj=>?_,fun k hk hl hn j hj=>?_⟩
 ·have:=bx.1 h3 j hj;split at this
  ·rename_i o ho;simp only[ay,dR,Option.isNone_iff_eq_none]at this;obtain ⟨⟨⟨⟨⟨g1,g2⟩,g3⟩,g4⟩,g5⟩,g6⟩:=this;refine ⟨o,ho,g1,g3,by simpa using g4,fun e he hb=>?_,fun j' lO hu=>?_⟩
   ·have:=bx.1 g5 e (by simpa using he);simp only[ck,dR,ay]at this;rcases this with (h|h)|h
    ·rw[hb]at h;cases h
    ·exact .inl h
    ·exact .inr ⟨by simpa using h.1,bG h.2⟩
   ·have:=bx.1 g6 j' lO;simp only[ck,dR]at this;rcases this with h|h
    ·rw[hu]at h;cases h
    ·obtain ⟨e,he,h⟩:=dC.1 h;simp only[ay]at h;exact ⟨e,by simpa using he,h.1,beq_eq h.2⟩
  ·cases this
 ·have:=bx.1 h4 k (dF.2 hk);simp only[ck]at this;rcases this with (h|h)|h
  ·rw[hl]at h;cases h
  ·exact absurd (by simpa using h) hn
  ·exact bx.1 h j hj
end
def HQ (P:Program)(F:Fx)(N:Nat)(ops:Array Oper)(a0:Act)(G:Act->World->Prop)(e:Exit)(a':Act)(w':World):Prop:=
 (e= .normal/\G a' w')\/∃v,e= .panic (Aj v)/\F.pk v w'/\Fits N [] a'/\frame ops.toList a0 a'
theorem HQ.Xq{ops:Array Oper}{a0:Act}{G:Act->World->Prop}{c:List PanicEntry}{a:Act}{o:Oper}{v:Value}{w:World}(h:HQ P F N ops a0 G (.panic c) (a.put o.dst v) w)(ho:o∈ops.toList):HQ P F N ops a0 G (.panic c) a w:=by
 rcases h with ⟨h,_⟩|⟨u,h1,h2,h3,h4⟩
 ·cases h
 ·exact .inr ⟨u,h1,h2,h3.Xq,h4.Xq ho⟩
theorem uE (hF:Av P F.ok){ops:Array Oper}{G:Act->World->Prop}{a0:Act}{J:List Nat}{S:World->Prop}{Bt:Array Bool}{js:List Nat}{E:Env}{le:World->World->Prop}{B:World->Prop}{Gs:List DJ}{n:Nat}
  (hd:D4 N ops.toList) (hJ:∀j∈js,J.contains j=false) (BA:U3 ops Bt js E=true) (hGs:AF5 ops le Gs) (nH:Gs.map (·.j)=js) (hI:ic P F ops S le B E Gs Gs)
  (He:∀a w fuel,n<=fuel->S w->B w->Er ops (DK Bt js)->frame ops.toList a0 a->(∀k:Env->Prop,Lf Gs E w k->∃E',Fits N E' a/\k E')->Dq P ops (HQ P F N ops a0 G) J S fuel (DK Bt js) a w):
  ∀(m:Nat) (listed:Array Bool) (a:Act) (w:World) (fuel:Nat),(js.filter fun j=> !listed.getD j false).length=m->n+m<=fuel->listed.size=Bt.size->(∀k,listed.getD k false=true->Bt.getD k false=true\/k∈js)->
   (∀k,Bt.getD k false=true->listed.getD k false=true)->Er ops listed->S w->B w->Fits N E a->frame ops.toList a0 a->ir N Gs listed a w->Dq P ops (HQ P F N ops a0 G) J S fuel listed a w:=by
 obtain ⟨Og,hdn,Ym,tz⟩:=OA BA;have Am:∀j∈js,j<Bt.size:=fun j hj=>by
  obtain ⟨o,_,_,h,_⟩:=Ym j hj;rcases bX j Bt.size with h'|h'
  ·exact h'
  ·simp[cP h']at h
 intro m
 induction m with
 |zero=>
  intro listed a w fuel hm hfu A1 Uk Xt IS hS hB hf ML hg;have BF:∀j∈js,listed.getD j false=true:=fun j hj=>by
   have h0:=aw hm;cases hx:listed.getD j false with
   |true=>rfl
   |false=>
    have:j∈js.filter fun j=> !listed.getD j false:=dK.2 ⟨hj,by rw[hx];rfl⟩
    rw[h0]at this;cases this
  have heq:listed=DK Bt js:=by
   refine Array.ext (by rw[N8,A1]) fun k h1 h2=>?_
   have e1:listed.getD k false=listed[k]:=by simp[Array.getD,h1]
   have e2:(DK Bt js).getD k false=(DK Bt js)[k]:=by simp[Array.getD,h2]
   rw[<-e1,<-e2,dL,N9 k js Bt Am];exact ⟨Uk k,fun h=>h.elim (Xt k) (BF k)⟩
  have MD:∀e∈Gs,listed.getD e.j false=true:=fun e he=>BF e.j (by rw[<-nH];exact de he)
  have key:∀k:Env->Prop,Lf Gs E w k->∃E',Fits N E' a/\k E':=fun k hk=>Ll Gs E hk hf hg MD
  subst heq;exact He a w fuel (by omega) hS hB IS ML key
 |succ m ih=>
  intro listed a w fuel hm hfu A1 Uk Xt IS hS hB hf ML hg;obtain ⟨fuel,rfl⟩:∃n,fuel=n+1:=⟨fuel-1,by omega⟩
 
  have vU:∃j,j<Bt.size/\(j∈js/\listed.getD j false=false):=by
   have:(js.filter fun j=> !listed.getD j false)≠[]:=fun h=>by rw[h]at hm;cases hm
   obtain ⟨j,hj⟩:=List.exists_mem_of_ne_nil _ this;obtain ⟨h1,h2⟩:=dK.1 hj;exact ⟨j,Am j h1,h1,by simpa using h2⟩
  obtain ⟨j0,⟨hj0,vv⟩,AF6⟩:=exists_least _ _ vU;have CL:∀k,k<Bt.size->listed.getD k false=false->listed.getD k true=false:=fun k hk h=>by
   have:k<listed.size:=by omega
   simpa[Array.getD,this]using h
  have va:j0∈Region.ready .any ops listed:=by
   obtain ⟨o,ho,_,_,_,haf,_⟩:=Ym j0 hj0;refine mem_ready.2 ⟨CL j0 (Am j0 hj0) vv,o,ho,fun e he hb=>?_⟩;rcases haf e he hb with h|⟨h1,h2⟩
   ·exact Xt _ h
   ·cases hx:listed.getD e.on false with
    |true=>rfl
    |false=>exact absurd ⟨h1,hx⟩ (AF6 e.on h2)
  refine ⟨fun h=>(by rw[h]at va;cases va),fun i hi=>?_⟩;obtain ⟨FP,oi,hoi,BF⟩:=mem_ready.1 hi;have MG:i∈js:=by
   refine Decidable.byContradiction fun hn=>?_
   have Zz:i<ops.size:=(aL.1 hoi).1;have AYF:Bt.getD i true=false:=by
    have h1:listed.getD i false=false:=by
     cases hx:listed.getD i false with
     |false=>rfl
     |true=>
      have:i<listed.size:=by
       rcases bX i listed.size with h'|h'
       ·exact h'
       ·simp[cP h']at FP
      simp[Array.getD,this]at FP hx;rw[FP]at hx;cases hx
    cases hx:Bt.getD i false with
    |true=>rw[Xt i hx]at h1;cases h1
    |false=>
     have:i<Bt.size:=by
      rcases bX i listed.size with h'|h'
      ·omega
      ·simp[cP h']at FP
     simpa[Array.getD,this]using hx
   exact Xs IS (tz i Zz AYF hn j0 hj0) hi va
  rw[ah (by rw[hJ i MG];simp)];obtain ⟨e,he,hej⟩:∃e∈Gs,e.j=i:=by
   have:i∈Gs.map (·.j):=by rw[nH];exact MG
   obtain ⟨e,he,h⟩:=cJ.1 this;exact ⟨e,he,h⟩
  obtain ⟨o,ho,hgd,_,hEn,_,hus⟩:=Ym i MG;rw[hoi]at ho;cases ho;obtain ⟨o',vb,AYH⟩:=RH Gs hI e he;rw[hej,hoi]at vb;cases vb;obtain ⟨⟨o'',AMt,Xl⟩,_⟩:=hGs e he;rw[hej,hoi]at AMt;cases AMt;have ABs:IC ops i=e.dst:=by unfold IC;rw[hoi];simp[Xl]
  have hom:oi∈ops.toList:=by
   have:=dH hoi;simpa using this
  have hdN:e.dst<N:=hd oi hom e.dst Xl;obtain ⟨E',Cr,hk⟩:=Kd Gs E (AYH w hS hB) hf hg fun e' KB hu=>by
   have lO:e'.j∈js:=by rw[<-nH];exact de KB
   obtain ⟨⟨o3,y6,hd3⟩,_⟩:=hGs e' KB;have:IC ops e'.j=e'.dst:=by unfold IC;rw[y6];simp[hd3]
   obtain ⟨ed,hed,hb,hon⟩:=hus e'.j lO (by rw[this];exact hu);rw[<-hon];exact BF ed hed hb
  split at hk
  ·rename_i hha;unfold wpOp;simp only[hoi];rw[ak (by simp[Region.wanted,hgd])];refine .inl ?_;unfold Oper.wp;rw[BH Cr hha];refine Fo (FK hF hk) (fun v w' hv=>?_) fun v w' hp=> .inr ⟨v,rfl,hp,hf.some,ML⟩
   obtain ⟨zW,YS,hle,x,rfl,hx⟩:=hv;refine ⟨zW,ih (listed.setIfInBounds i true) (a.put oi.dst (e.ty.v x)) w' fuel ?_ (by omega) (by simpa using A1) (fun k hk=>?_) (fun k hk=>?_) (IS.set hi) zW YS ?_ (ML.put hom) ?_⟩
   ·have AMu:i<listed.size:=by have:=Am i MG;omega
    have hgi:listed.getD i false=false:=by simpa[Array.getD,AMu]using FP
    have hpe:∀j,(!(listed.setIfInBounds i true).getD j false)=((!listed.getD j false)&&(j !=i)):=fun j=>by
     by_cases OJ:i=j
     ·subst OJ;rw[GM _ _ _ _ AMu];simp
     ·rw[getD_set_ne false OJ];have:(j !=i)=true:=by simp;omega
      rw[this,Bool.and_true]
    have AYJ:(js.filter fun j=> !(listed.setIfInBounds i true).getD j false)=(js.filter fun j=> !listed.getD j false).erase i:=by
     rw[List.Nodup.erase_eq_filter (List.Pairwise.filter _ Og),List.filter_filter];refine List.filter_congr fun j _=>?_
     rw[hpe,Bool.and_comm]
    rw[AYJ,List.length_erase_of_mem (dK.2 ⟨MG,by rw[hgi];rfl⟩),hm]
    rfl
   ·by_cases J0:i=k
    ·subst J0;exact .inr MG
    ·rw[getD_set_ne false J0]at hk;exact Uk k hk
   ·exact getD_set_true (Xt k hk)
   ·refine ⟨by have:=hf.size;rw[Xl];simpa[Act.put]using this,fun t u ht=>?_⟩;obtain ⟨h1,h2⟩:=hf.get t u ht;have A2:oi.dst≠some t:=fun h=>by
     rw[Xl]at h;cases h;rw[ABs]at hEn;rw[hEn]at ht;cases ht
    exact ⟨h1,by rw[HK A2];exact h2⟩
   ·intro e' KB hl';by_cases hee:e'.j=i
    ·have AMv:e'=e:=by
      have AYL:(Gs.map (·.j)).Nodup:=by rw[nH];exact Og
      obtain ⟨n1,YP,g1⟩:=cu.1 KB;obtain ⟨n2,Tk,g2⟩:=cu.1 he;have:n1=n2:=(List.getElem_inj (h₀:=by simpa using YP) (h₁:=by simpa using Tk) AYL).1 (by simp[g1,g2,hee,hej]);subst this;exact g1.symm.trans g2
     subst AMv;refine ⟨hdN,x,hx,?_⟩;rw[Xl];exact GM _ _ _ _ (by rw[hf.size];exact hdN)
    ·rw[getD_set_ne false (fun h=>hee h.symm)]at hl';obtain ⟨h1,y,hy,hv⟩:=hg e' KB hl';refine ⟨h1,y,(hGs e' KB).2 _ _ _ hle hy,?_⟩;have A2:oi.dst≠some e'.dst:=fun h=>by
      rw[Xl]at h;have h:=aY h;obtain ⟨⟨o3,y6,hd3⟩,_⟩:=hGs e' KB;have h3:IC ops e'.j=e'.dst:=by unfold IC;rw[y6];simp[hd3]
      have lO:e'.j∈js:=by rw[<-nH];exact de KB
      obtain ⟨n1,YP,g1⟩:=cu.1 lO;obtain ⟨n2,Tk,g2⟩:=cu.1 MG;have:n1=n2:=(List.getElem_inj (h₀:=by simpa using YP) (h₁:=by simpa using Tk) hdn).1 (by
       simp only[List.getElem_map,g1,g2];rw[h3,ABs];exact h.symm)
      subst this;exact hee (g1.symm.trans g2)
     rw[HK A2];exact hv
  ·exact hk.elim
theorem NF (m i:Nat):hasB m i=m.testBit i:=by
 unfold hasB;have e:Nat.land (Nat.shiftRight m i) 1=(m>>>i)%2:=Nat.and_one_is_mod _;rw[e,Nat.testBit_eq_decide_div_mod_eq,Nat.shiftRight_eq_div_pow];by_cases h:m/2^i%2=1
 ·rw[h,aD rfl]
  rfl
 ·rw[aP h];cases hb:Nat.beq (m/2^i%2) 1 with
  |false=>rfl
  |true=>exact absurd (beq_eq hb) h
theorem Xu (m i k:Nat):hasB (U4 m i) k=(hasB m k||decide (i=k)):=by
 rw[NF,NF];have e:U4 m i=m|||1<<<i:=rfl
 rw[e,Nat.testBit_or,Nat.one_shiftLeft,Nat.testBit_two_pow]
theorem NG (k:Nat):hasB 0 k=false:=by rw[NF];exact Nat.zero_testBit k
theorem TC {l:Array Bool}{k:Nat}(h:k<l.size):l.getD k true=l.getD k false:=by
 rw[bO,bO,cj h]
 rfl
theorem TD {l:Array Bool}{i k:Nat}(h:i<l.size):(l.setIfInBounds i true).getD k false=(l.getD k false||decide (i=k)):=by
 by_cases e:i=k
 ·subst e;rw[aD rfl,Bool.or_true];exact GM _ _ _ _ h
 ·rw[aP e,Bool.or_false];exact FM _ _ _ e
structure Bits (l:Array Bool) (m n:Nat):Prop where
 size:l.size=n
 get:∀k,l.getD k false=hasB m k
theorem Bits.set{l:Array Bool}{m n i:Nat}(h:Bits l m n)(hi:i<n):Bits (l.setIfInBounds i true) (U4 m i) n:=
 ⟨by simpa using h.size,fun k=>by rw[TD (by rw[h.size];exact hi),Xu,h.get]⟩
theorem Bits.AMw{n:Nat}:∀{js:List Nat} {l:Array Bool} {m:Nat},Bits l m n->(∀j∈js,j<n)->Bits (DK l js) (ig m js) n
 |[],_,_,h,_=>h
 |j::js,l,m,h,hj=>show Bits (DK (l.setIfInBounds j true) js) (ig (U4 m j) js) n from Bits.AMw (h.set (hj j aT)) fun x hx=>hj x (aC _ hx)
theorem RI {l:Array Bool}{m n:Nat}(h:Bits l m n):∀es:List Edge,Jj m es=es.all fun e=> !Region.binds .any e||l.getD e.on false
 |[]=>rfl
 |e::r=>by
  rw[List.all_cons,<-RI h r,h.get];show (match Region.binds .any e with
   |true=>hasB m e.on&&Jj m r
   |false=>Jj m r)=_
  cases Region.binds .any e<;>rfl
theorem OC {ops:Array Oper}{l:Array Bool}{m:Nat}(h:Bits l m ops.size){k:Nat}{o:Oper}(ho:ops[k]?=some o):JJ m k o=(!l.getD k true&&((ops[k]?).map (·.after.all fun e=> !Region.binds .any e||l.getD e.on false)).getD false):=by
 have hk:k<l.size:=by rw[h.size];exact (aL.1 ho).1
 rw[TC hk,h.get,ho];unfold JJ;rw[RI h];simp
theorem RJ {ops:Array Oper}{l:Array Bool}{m:Nat}(h:Bits l m ops.size):Hq m ops.toList 0=Region.ready .any ops l:=by
 unfold Region.ready;have key:∀(r:List Oper) (k:Nat),ops.toList.drop k=r->Hq m r k=((List.range' k r.length).filter fun i=> !l.getD i true&&((ops[i]?).map (·.after.all fun e=> !Region.binds .any e||l.getD e.on false)).getD false):=by
  intro r
  induction r with
  |nil=>intro k _;rfl
  |cons o r ih=>
   intro k hk;have ho:ops[k]?=some o:=by
    have:(ops.toList.drop k)[0]?=some o:=by rw[hk];rfl
    rw[bW,bY]at this;simpa using this
   have hr:ops.toList.drop (k+1)=r:=by
    rw[<-List.drop_drop,hk]
    rfl
   rw[aA,List.range'_succ,List.filter_cons,<-OC h ho];unfold Hq;cases JJ m k o with
   |true=>rw[ak rfl,ih _ hr]
   |false=>rw[ah (by decide),ih _ hr]
 rw[key ops.toList 0 rfl,List.range_eq_range',aK]
theorem kx {ops:Array Oper}{l:Array Bool}{m i:Nat}{oi:Oper}(h:Bits l m ops.size)(hi:ops[i]?=some oi)(hf:Qz ops m i oi ops.toList 0=true):Region.free .any ops l i=true:=by
 have key:∀(r:List Oper) (k:Nat),Qz ops m i oi r k=true->∀(j:Nat) (o:Oper),r[j]?=some o->(Nat.beq (k+j) i||hasB m (k+j)||(o.after.toList.any fun e=>Nat.beq e.on i&&Region.binds .any e)||oi.apart ops o)=true:=by
  intro r
  induction r with
  |nil=>intro k _ j o hj;simp at hj
  |cons x r ih=>
   intro k hk j o hj;unfold Qz at hk;rw[ay]at hk;cases j with
   |zero=>
    have:x=o:=by simpa using hj
    subst this;exact hk.1
   |succ j=>
    have:=ih (k+1) hk.2 j o (by simpa using hj);rw[show k+(j+1)=k+1+j by omega];exact this
 simp only[Region.free,hi,bx,dF];intro j hj;have zV:ops[j]?=some ops[j]:=cj hj;have h1:=key _ _ hf j ops[j] (by simp[hj]);rw[aj]at h1;rw[zV];simp only[ck]at h1⊢;rcases h1 with ((h1|h1)|h1)|h1
 ·have:j=i:=by simpa using h1
  exact .inl (.inl (by simpa using this))
 ·rw[TC (by rw[h.size];exact hj),h.get];exact .inl (.inr h1)
 ·refine .inr (.inl ?_);rw[<-Array.any_toList];obtain ⟨e,he,hb⟩:=dC.1 h1;refine dC.2 ⟨e,he,?_⟩;simp only[ay]at hb⊢;exact ⟨hb.2,by simpa using hb.1⟩
 ·exact .inr (.inr h1)
theorem Lm {n:Nat}:∀(es:List Edge) (l:Array Bool) (m:Nat),l.size=n->(∀k,k<n->l.getD k false=hasB m k)->(N2 es l).size=n/\∀k,k<n->(N2 es l).getD k false=hasB (Su es m) k
 |[],l,m,hs,h=>⟨hs,h⟩
 |e::r,l,m,hs,h=>by
  have hm:N2 (e::r) l=N2 r (match Region.binds .any e with|true=>l.setIfInBounds e.on true|false=>l):=rfl;rw[hm];unfold Su;cases Region.binds .any e with
  |false=>exact Lm r l m hs h
  |true=>
   refine Lm r _ _ (by simpa using hs) fun k hk=>?_
   rw[Xu];by_cases ho:e.on<n
   ·rw[TD (by rw[hs];exact ho),h k hk]
   ·rw[aP (by omega),Bool.or_false,<-h k hk];exact FM _ _ _ (by omega)
theorem RL {ops:Array Oper}:∀(k:Nat) (l:Array Bool) (m:Nat),k<=ops.size->l.size=ops.size->(∀k,k<ops.size->l.getD k false=hasB m k)->∀i,i<ops.size->(kf ops k l).getD i false=hasB (Xf ops k m) i
 |0,l,m,_,_,h,i,hi=>h i hi
 |k+1,l,m,hk,hs,h,i,hi=>by
  unfold kf Xf;rw[h k (by omega)];cases hb:hasB m k with
  |false=>exact RL k l m (by omega) hs h i hi
  |true=>
   rw[cj (show k<ops.size by omega)];obtain ⟨h1,h2⟩:=Lm (ops[k]).after.toList l m hs h;exact RL k _ _ (by omega) h1 h2 i hi
theorem zX {ops:Array Oper}{j i:Nat}(hi:i<ops.size)(h:hasB (AFx ops j) i=true):wS ops j i=true:=by
 unfold AFx at h;unfold wS;split at h
 ·rename_i o ho;have hj:=(aL.1 ho).1;obtain ⟨h1,h2⟩:=Lm (n:=ops.size) o.after.toList (Array.replicate ops.size false) 0 (by simp) fun k hk=>by
   rw[NG,bO,Array.getElem?_replicate,ak hk]
   rfl
  rw[RL j _ _ (by omega) h1 h2 i hi];exact h
 ·rw[NG]at h;cases h
theorem iu:∀{l k:List Nat},kg l k=true->l=k
 |[],[],_=>rfl
 |[],_::_,h=>by simp[kg]at h
 |_::_,[],h=>by simp[kg]at h
 |x::r,y::q,h=>by
  unfold kg at h;rw[ay]at h;rw[beq_eq h.1,iu h.2]
theorem HL {ops:Array Oper}:∀{x:Od} {pre J:List Nat} {m:Nat} {l:Array Bool},ID ops x pre J m=true->Bits l m ops.size->JI ops x pre J l=true
 | .done,pre,J,m,l,h,hb=>by
  unfold ID at h;unfold JI;rw[<-RJ hb];exact h
 | .take i r,pre,J,m,l,h,hb=>by
  unfold ID at h;unfold JI;split at h
  ·cases h
  ·rename_i o ho;have hi:=(aL.1 ho).1;simp only[ay]at h⊢;obtain ⟨⟨⟨⟨h1,h2⟩,h3⟩,h4⟩,h5⟩:=h;refine ⟨⟨⟨h1,kx hb ho h3,?_⟩,?_⟩,HL h5 (hb.set hi)⟩
   ·rw[OC hb ho]at h2;rw[List.contains_iff_mem];exact dK.2 ⟨dF.2 hi,h2⟩
   ·rw[ck]at h4⊢;rcases h4 with h4|h4
    ·exact .inl h4
    ·exact .inr (bx.2 fun j hj=>zX hi (bx.1 h4 j hj))
 | .Aq i fl r,pre,J,m,l,h,hb=>by
  unfold ID at h;unfold JI;rw[ay]at h⊢;have h1:=iu h.1;rw[RJ hb]at h1;have hi:i<ops.size:=by
   have:i∈Region.ready .any ops l:=by rw[h1];simp
   exact dF.1 (dK.1 this).1
  exact ⟨by rw[h1];simp,HL h.2 (hb.set hi)⟩
 | .Gx i fl r more,pre,J,m,l,h,hb=>by
  unfold ID at h;unfold JI;simp only[ay]at h⊢;have hi:i<ops.size:=by
   have:=bG h.1.1;omega
  exact ⟨HL h.1.2 (hb.set hi),HL h.2 hb⟩
 | .mono js r,pre,J,m,l,h,hb=>by
  unfold ID at h;unfold JI;simp only[ay]at h⊢;refine ⟨⟨h.1.1,bx.2 fun j hj=>?_⟩,HL h.2 (hb.AMw fun j hj=>?_)⟩
  ·have:=bx.1 h.1.2 j hj;rw[ay]at this;exact this.1
  ·have:=bx.1 h.1.2 j hj;rw[ay]at this;have:=bG this.2;omega
theorem Bits.start(n:Nat):Bits (Array.replicate n false) 0 n:=⟨by simp,fun k=>by
 rw[NG,bO];by_cases h:k<n
 ·simp[h]
 ·simp[h]⟩
theorem FV (hF:Av P F.ok){ops:Array Oper}{G:Act->World->Prop}(Lk:Region.noSelect ops=true)(hd:D4 N ops.toList){K:Env->World->Prop}{a0:Act}
  (hG:∀E' a' w',K E' w'->Fits N E' a'->frame ops.toList a0 a'->G a' w'):
  ∀(x:Od) (pre:List Nat) (J:List Nat) (S:World->Prop) (listed:Array Bool) (E:Env) (w:World) (a:Act) (fuel:Nat),JI ops x pre J listed=true->x.depth<=fuel->S w->Er ops listed->
  Da P F ops x J S listed E w K->Fits N E a->frame ops.toList a0 a->
  (pre=[]->Dq P ops (HQ P F N ops a0 G) J S fuel listed a w)/\
  (pre≠[]->∀f,fuel=f+1->Region.ready .any ops listed≠[]/\∀i∈Region.ready .any ops listed,i∉pre->
   if J.contains i=true then wpOp P ops (HQ P F N ops a0 G) i (fun a' w'=>wpAny P .any ops (HQ P F N ops a0 G) f (listed.setIfInBounds i true) a' w') a w
   else wpOp P ops (HQ P F N ops a0 G) i (fun a' w'=>S w'/\Dq P ops (HQ P F N ops a0 G) J S f (listed.setIfInBounds i true) a' w') a w)
 | .done,pre,J,S,listed,E,w,a,fuel,he,_,hS,IS,h,hf,ML=>by
  unfold Da at h;unfold JI at he;simp only[ay,List.isEmpty_iff]at he;refine ⟨fun _=>?_,fun hp=>absurd he.1 hp⟩;cases fuel with
  |zero=>exact ⟨he.2,.inl ⟨rfl,hG _ _ _ h hf ML⟩⟩
  |succ f=>exact ⟨fun _=> .inl ⟨rfl,hG _ _ _ h hf ML⟩,by rw[he.2];simp⟩
 | .take i r,pre,J,S,listed,E,w,a,fuel,PH,uF,hS,IS,h,hf,ML=>by
  unfold Da at h;unfold JI at PH;obtain ⟨fuel,rfl⟩:∃n,fuel=n+1:=⟨fuel-1,by simp only[Od.depth]at uF;omega⟩
  have uG:r.depth<=fuel:=by simp only[Od.depth]at uF;omega
  split at h
  ·exact h.elim
  rename_i o ho;have DV:o∈ops.toList:=by
   have:=dH ho;simpa using this
  have hdo:=hd o DV;have Ke:∀(v:Value),frame ops.toList a0 (a.put o.dst v):=fun v=>ML.put DV
  rw[ho]at PH;dsimp only at PH;simp only[ay,List.isEmpty_iff]at PH;obtain ⟨⟨⟨hp,il,rQ⟩,hJ⟩,PH⟩:=PH;refine ⟨fun _=>?_,fun Kq=>absurd hp Kq⟩;have AMy:i∈Region.ready .any ops listed:=by simpa using rQ
  have go:∀(E':Env) (v:Value),Jo P ops J S i o v a->Fits N E' a->Da P F ops r J S (listed.setIfInBounds i true) (E'.put o.dst v) w K->
    Dq P ops (HQ P F N ops a0 G) J S (fuel+1) listed a w:=fun E' v hy Cr hr=>
   U8 ho (Region.noSelect_spec Lk) (fun c a w h=>h.Xq DV) fuel listed a w (Region.free_spec ho il) IS AMy hy hS
    ((FV hF Lk hd hG r [] J S _ _ w _ fuel PH uG hS (IS.set AMy) hr (Cr.put hdo) (Ke v)).1 rfl)
  rcases DC h hf with ⟨hw,E',Cr,hy⟩|⟨hw,E',Cr,hn⟩
  ·split at hy
   ·rename_i BF;simp only[ay]at BF;cases hl:MR o.op with
    |false=>
     obtain ⟨v,h1,h2⟩:=kv BF.2 hl hy;exact go E' v (.inl (.inl ⟨hw,fun w2=>by rw[BH Cr BF.1];exact h1 w2⟩)) Cr h2
    |true=>
     obtain ⟨v,h1,h2⟩:=uC BF.2 hy;refine go E' v (.inr ⟨.inl ⟨hw,fun w2 oD=>by rw[BH Cr BF.1];exact h1 w2 oD⟩,fun j hj=>?_⟩) Cr h2;rw[hl]at hJ;simp only[Bool.not_true,dS,bx]at hJ;exact hJ j hj
   ·exact hy.elim
  ·exact go E' undef (.inl (.inr ⟨hw,rfl⟩)) Cr hn
 | .Aq i fl r,pre,J,S,listed,E,w,a,fuel,PH,uF,hS,IS,h,hf,ML=>by
  unfold Da at h;unfold JI at PH;obtain ⟨fuel,rfl⟩:∃n,fuel=n+1:=⟨fuel-1,by simp only[Od.depth]at uF;omega⟩
  have uG:r.depth<=fuel:=by simp only[Od.depth]at uF;omega
  split at h
  ·exact h.elim
  rename_i o ho;have DV:o∈ops.toList:=by
   have:=dH ho;simpa using this
  have hdo:=hd o DV;have Ke:∀(v:Value),frame ops.toList a0 (a.put o.dst v):=fun v=>ML.put DV
  simp only[ay]at PH;obtain ⟨rQ,PH⟩:=PH;have uH:∀v w',F.pk v w'->HQ P F N ops a0 G (.panic (Aj v)) a w':=fun v w' hv=> .inr ⟨v,rfl,hv,hf.some,ML⟩
  have rQ:Region.ready .any ops listed=pre++[i]:=by simpa using rQ
  have Uk:i∈Region.ready .any ops listed:=by rw[rQ];simp
  have hbr:=iq (Q:=HQ P F N ops a0 G) (fuel:=fuel) (listed:=listed) hF ho hS hf hdo uH h fun S E' v w' hk zW Cr=>
   (FV hF Lk hd hG r [] (fl.getD J) S _ E' w' _ fuel PH uG zW (IS.set Uk) hk Cr (Ke v)).1 rfl
  have A2:Region.ready .any ops listed≠[]:=fun h0=>by rw[h0]at Uk;cases Uk
  refine ⟨fun hp=>⟨fun h0=>absurd h0 A2,fun j hj=>?_⟩,fun hp f hff=>⟨A2,fun j hj hjp=>?_⟩⟩
  ·rw[rQ,hp]at hj;have:j=i:=by simpa using hj
   subst this;exact hbr
  ·cases hff;rw[rQ]at hj;have:j=i:=by
    rcases aQ.1 hj with h|h
    ·exact absurd h hjp
    ·simpa using h
   subst this;exact hbr
 | .Gx i fl r more,pre,J,S,listed,E,w,a,fuel,PH,uF,hS,IS,h,hf,ML=>by
  unfold Da at h;unfold JI at PH;obtain ⟨fuel,rfl⟩:∃n,fuel=n+1:=⟨fuel-1,by simp only[Od.depth]at uF;omega⟩
  have uG:r.depth<=fuel:=by simp only[Od.depth]at uF;omega
  split at h
  ·exact h.elim
  rename_i o ho;have DV:o∈ops.toList:=by
   have:=dH ho;simpa using this
  have hdo:=hd o DV;have Ke:∀(v:Value),frame ops.toList a0 (a.put o.dst v):=fun v=>ML.put DV
  obtain ⟨h,hm⟩:=h;simp only[ay]at PH;have uH:∀v w',F.pk v w'->HQ P F N ops a0 G (.panic (Aj v)) a w':=fun v w' hv=> .inr ⟨v,rfl,hv,hf.some,ML⟩
  have hbr:=fun Uk:i∈Region.ready .any ops listed=>iq (Q:=HQ P F N ops a0 G) (fuel:=fuel) (listed:=listed) hF ho hS hf hdo uH h fun S E' v w' hk zW Cr=>
    (FV hF Lk hd hG r [] (fl.getD J) S _ E' w' _ fuel PH.1 uG zW (IS.set Uk) hk Cr (Ke v)).1 rfl
  have hmo:=(FV hF Lk hd hG more (pre++[i]) J S listed E w a (fuel+1) PH.2 (by simp only[Od.depth]at uF;omega) hS IS hm hf ML).2 (by simp) fuel rfl;refine ⟨fun hp=>⟨fun h0=>absurd h0 hmo.1,fun j hj=>?_⟩,fun _ f hff=>⟨hmo.1,fun j hj hjp=>?_⟩⟩
  ·by_cases OJ:j=i
   ·subst OJ;exact hbr hj
   ·exact hmo.2 j hj (by simp[hp,OJ])
  ·cases hff;by_cases OJ:j=i
   ·subst OJ;exact hbr hj
   ·exact hmo.2 j hj (by simp[hjp,OJ])
 | .mono js r,pre,J,S,listed,E,w,a,fuel,PH,uF,hS,IS,h,hf,ML=>by
  unfold Da at h;unfold JI at PH;split at h
  case h_2=>exact h.elim
  rename_i BA;simp only[ay,List.isEmpty_iff]at PH;obtain ⟨⟨hp,hJ⟩,PH⟩:=PH;refine ⟨fun _=>?_,fun Kq=>absurd hp Kq⟩;obtain ⟨le,B,hB,h⟩:=h;obtain ⟨Gs,hGs,nH,hI,He⟩:=RG js [] h (fun e he=>by cases he);simp only[cK,ag]at nH;have Ym:=(OA BA).2.2.1;have vG:∀j∈js,listed.getD j false=false:=fun j hj=>by
   obtain ⟨o,_,_,h,_⟩:=Ym j hj;cases hx:listed.getD j false with
   |false=>rfl
   |true=>
    have:j<listed.size:=by
     rcases bX j listed.size with h'|h'
     ·exact h'
     ·simp[cP h']at h
    simp[Array.getD,this]at h hx;rw[h]at hx;cases hx
  have hlen:(js.filter fun j=> !listed.getD j false).length=js.length:=by
   rw[List.filter_eq_self.2 fun j hj=>by rw[vG j hj];rfl]
  refine uE hF (n:=r.depth) hd (fun j hj=>by simpa using bx.1 hJ j hj) BA hGs nH hI (fun a' w' AM0 hn zW YS AYN Ke key=>?_) js.length listed a w fuel hlen (by simpa[Od.depth]using uF) rfl (fun k hk=> .inl hk) (fun k hk=>hk) IS hS hB hf ML
   fun e he hl=>by
    have:e.j∈js:=by rw[<-nH];exact de he
    rw[vG e.j this]at hl;cases hl
  obtain ⟨E',Cr,hk⟩:=key _ (He w' zW YS);exact (FV hF Lk hd hG r [] J S _ E' w' a' AM0 PH hn zW AYN hk Cr Ke).1 rfl
theorem zY (hF:Av P F.ok)(hm:P.follows .mixedOrders=true){m:Xg}{id:Nat}{ops:Array Oper}{d:Bool}{E:Env}{w:World}{K:Env->World->Prop}{a:Act}
  (h:AFy P F m ops d E w K) (hf:Fits N E a) (hd:D4 N ops.toList):
  (Code.region id ops d).wp P (HQ P F N ops a fun a' w'=>∃E',K E' w'/\Fits N E' a'/\frame ops.toList a a') a w:=by
 unfold AFy at h;split at h
 ·exact wp_region_list (Jm hF _ _ _ _ _ h hf hd (fun E' a' w' h1 h2 h3=> .inl ⟨rfl,E',h1,h2,h3⟩) fun v a' w' h1 h2 h3=> .inr ⟨v,rfl,h1,h2,h3⟩)
 ·split at h
  ·rename_i hB;exact wp_region_still hm hB (EM _ _ w.drew _ _ h hf hd fun E' a' h1 h2 h3=> .inl ⟨rfl,E',h1,h2,h3⟩)
  ·exact h.elim
 ·rename_i n;split at h
  ·rename_i hB;obtain ⟨l⟩:=ops;have s1:∀o∈l.take n,o∈l:=fun o ho=>cE ho
   have s2:∀o∈l.drop n,o∈l:=fun o ho=>bS ho
   refine wp_region_still_tail (l:=l) n hm hB (EM _ _ w.drew _ _ h hf (fun o ho=>hd o (s1 o ho)) fun E' a' h1 h2 h3=>?_);exact Jm hF _ _ _ _ _ h1 h2 (fun o ho=>hd o (s2 o ho)) (fun MJ MK B7 g1 g2 g3=> .inl ⟨rfl,MJ,g1,g2,(h3.sub s1).trans (g3.sub s2)⟩) fun v MK B7 g1 g2 g3=> .inr ⟨v,rfl,g1,g2,(h3.sub s1).trans (g3.sub s2)⟩
  ·exact h.elim
 ·rename_i J o;split at h
  ·rename_i hB;simp only[ay]at hB;have key:∀S:World->Prop,S w.drew->Da P F ops o J S (Array.replicate ops.size false) E w.drew K->
     (Code.region id ops true).wp P (HQ P F N ops a fun a' w'=>∃E',K E' w'/\Fits N E' a'/\frame ops.toList a a') a w:=fun S hS h=>
    wp_region_any hm (Fq _ _ _ _ ((FV hF hB.1.1 hd (G:=fun a' w'=>∃E',K E' w'/\Fits N E' a'/\frame ops.toList a a') (fun E' a' w' h1 h2 h3=>⟨E',h1,h2,h3⟩) o [] J S _ E w.drew a ops.size (HL hB.2 (Bits.start _))
     (bG hB.1.2) hS (Er.start _ _) h hf (frame.refl _ _)).1 rfl))
   unfold phT at h;split at h
   ·obtain ⟨S,hS,h⟩:=h;exact key S hS h
   ·exact key _ trivial h
  ·exact h.elim
 ·exact wp_region_list (Jn hF _ _ _ _ _ h hf hd (fun E' a' w' h1 h2 h3=> .inl ⟨rfl,E',h1,h2,h3⟩) fun v a' w' h1 h2 h3=> .inr ⟨v,rfl,h1,h2,h3⟩)
 ·rename_i n;split at h
  ·rename_i hB;obtain ⟨l⟩:=ops;have s1:∀o∈l.take n,o∈l:=fun o ho=>cE ho
   have s2:∀o∈l.drop n,o∈l:=fun o ho=>bS ho
   refine wp_region_still_tail (l:=l) n hm hB (EM _ _ w.drew _ _ h hf (fun o ho=>hd o (s1 o ho)) fun E' a' h1 h2 h3=>?_);exact Jn hF _ _ _ _ _ h1 h2 (fun o ho=>hd o (s2 o ho)) (fun MJ MK B7 g1 g2 g3=> .inl ⟨rfl,MJ,g1,g2,(h3.sub s1).trans (g3.sub s2)⟩) fun v MK B7 g1 g2 g3=> .inr ⟨v,rfl,g1,g2,(h3.sub s1).trans (g3.sub s2)⟩
  ·exact h.elim
 ·exact h.elim
def As (N:Nat):Code->Bool
 | .region _ ops _=>ops.toList.all fun o=>match o.dst with
  |some d=>Nat.blt d N
  |none=>true
 | .seq a b=>As N a&&As N b
 | .cond _ a b=>As N a&&As N b
 | .block _ a=>As N a
 | .loop a=>As N a
 |_=>true
theorem GK {ops:Array Oper}{id:Nat}{d:Bool}(h:As N (.region id ops d)=true):D4 N ops.toList:=fun o ho t ht=>by
 simp only[As,bx]at h;have:=h o ho;rw[ht]at this;have h2:t+1<=N:=by simpa[Nat.blt]using this
 exact h2
theorem TE {ops:Array Oper}{id:Nat}{d:Bool}{t:Nat}(h:wr t (.region id ops d)=false):∀o∈ops.toList,o.dst≠some t:=fun o ho e=>by
 simp only[wr,List.any_eq_false]at h;have:=h o ho;rw[e]at this;simp at this
def Q8 (N:Nat)(E:Env)(a:Act):Prop:=∀p∈E,p.1<N/\a.tmps.getD p.1 undef=p.2
theorem uI {E:Env}{t:Nat}{v:Value}(h:E.get? t=some v):(t,v)∈E:=by
 induction E with
 |nil=>cases h
 |cons p E ih=>
  obtain ⟨u,x⟩:=p;simp only[Env.get?]at h;split at h
  ·rename_i hb;cases h;rw[beq_eq hb];exact aT
  ·exact aC _ (ih h)
theorem Q8.fits{E:Env}{a:Act}(h:Q8 N E a)(hs:a.tmps.size=N):Fits N E a:=⟨hs,fun t v hv=>h (t,v) (uI hv)⟩
theorem Xv {E:Env}{a:Act}(hf:Fits N E a):∀(ts:List Nat) (vs:List Value),Env.GQ E ts=some vs->Q8 N (Env.zip ts vs) a
 |[],vs,_,p,hp=>by cases vs<;>cases hp
 |t::ts,vs,h,p,hp=>by
  simp only[Env.GQ]at h;split at h
  ·rename_i v vs' hv hvs;cases h;rcases aN.1 hp with rfl|hp
   ·exact hf.get _ _ hv
   ·exact Xv hf ts vs' hvs p hp
  ·cases h
theorem DP {E:Env}{a a':Act}(hf:Fits N E a):∀(ks:List Nat),(∀t∈ks,a'.tmps.getD t undef=a.tmps.getD t undef)->Q8 N (Env.AB E ks) a'
 |[],_,p,hp=>by cases hp
 |t::ks,h,p,hp=>by
  have ih:=DP hf ks fun u hu=>h u (aC _ hu)
  simp only[Env.AB]at hp;split at hp
  ·rename_i v hv;rcases aN.1 hp with rfl|hp
   ·obtain ⟨h1,h2⟩:=hf.get _ _ hv;exact ⟨h1,by rw[h t aT];exact h2⟩
   ·exact ih p hp
  ·exact ih p hp
theorem HJ {AB:List Nat}{c:Code}(h:EK AB c=true):∀t∈AB,wr t c=false:=fun t ht=>by
 simpa using bx.1 h t ht
theorem EN {live:List (Nat×Ty)}{E:Env}{K:Sg (live.map (·.2))->Prop}(h:GI live E K):
  ∃s,K s/\∀a,Fits N E a->Q8 N (GJ live s) a:=by
 unfold GI at h;split at h
 ·rename_i vs hvs;split at h
  ·rename_i s hs;refine ⟨s,h,fun a hf=>?_⟩;unfold GJ;rw[Sg.TF _ _ _ hs];exact Xv hf _ _ hvs
  ·exact h.elim
 ·exact h.elim
theorem DQ {A B:Env}{a:Act}(hA:Q8 N A a)(hB:Q8 N B a)(hs:a.tmps.size=N):Fits N (A++B) a:=
 Q8.fits (fun p hp=>(aQ.1 hp).elim (hA p) (hB p)) hs
def BV (c:Code)(a0 a':Act):Prop:=(∀t,wr t c=false->a'.tmps.getD t undef=a0.tmps.getD t undef)/\a'.defers=a0.defers
theorem BV.refl(c:Code)(a:Act):BV c a a:=⟨fun _ _=>rfl,rfl⟩
theorem BV.sub{c d:Code}{a b:Act}(h:BV c a b)(hs:∀t,wr t d=false->wr t c=false):BV d a b:=⟨fun t ht=>h.1 t (hs t ht),h.2⟩
theorem BV.trans{c:Code}{a b e:Act}(h:BV c a b)(k:BV c b e):BV c a e:=⟨fun t ht=>by rw[k.1 t ht];exact h.1 t ht,by rw[k.2];exact h.2⟩
def kz (N:Nat)(F:Fx)(c:Code)(K:Exit->Env->World->Prop)(a0:Act)(e:Exit)(a':Act)(w':World):Prop:=
 (∃E',K e E' w'/\Fits N E' a'/\BV c a0 a')\/∃v,e= .panic (Aj v)/\F.pk v w'/\Fits N [] a'/\BV c a0 a'
theorem Ln {E:Env}{a:Act}(hf:Fits N E a){x:Operand}{b:Bool}(h:E.A3 x= .bool b):a.eval x= .bool b:=by
 rw[<-h];refine hf.A3 ?_;cases x with
 |tmp t=>
  simp only[Env.has];cases hg:E.get? t with
  |none=>simp[Env.A3,hg,undef]at h
  |some v=>rfl
 |_=>rfl
theorem Ih (hF:Av P F.ok)(hm:P.follows .mixedOrders=true):∀(c:Code) (pl:A7) (E:Env) (w:World) (K:Exit->Env->World->Prop) (a:Act),
  Cx P F pl c E w K->Fits N E a->As N c=true->c.wp P (kz N F c K a) a w:=by
 intro c
 induction c with
 |region id ops d=>
  intro pl E w K a h hf hs;cases pl<;>try exact (show False from h).elim
  rename_i m;have zK:∀{a':Act},frame ops.toList a a'->BV (.region id ops d) a a':=fun h=>⟨fun t ht=>h.1 t (TE ht),h.2⟩
  refine wp_mono (zY hF hm h hf (GK hs)) fun e a' w' hq=>?_
  rcases hq with ⟨he,E',h1,h2,h3⟩|⟨v,he,h1,h2,h3⟩
  ·exact .inl ⟨E',by subst he;exact h1,h2,zK h3⟩
  ·exact .inr ⟨v,he,h1,h2,zK h3⟩
 |skip=>
  intro pl E w K a h hf hs;cases pl<;>try exact (show False from h).elim
  exact wp_skip (.inl ⟨E,h,hf,BV.refl _ _⟩)
 |label l=>
  intro pl E w K a h hf hs;cases pl<;>try exact (show False from h).elim
  exact wp_label (.inl ⟨E,h,hf,BV.refl _ _⟩)
 |exit id=>
  intro pl E w K a h hf hs;cases pl<;>try exact (show False from h).elim
  exact wp_exit (.inl ⟨E,h,hf,BV.refl _ _⟩)
 |ret=>
  intro pl E w K a h hf hs;cases pl<;>try exact (show False from h).elim
  exact wp_ret (.inl ⟨E,h,hf,BV.refl _ _⟩)
 |seq c d tw tx=>
  intro pl E w K a h hf hs;simp only[As,ay]at hs;have uJ:∀t,wr t (.seq c d)=false->wr t c=false/\wr t d=false:=fun t ht=>by simpa[wr]using ht
  have sc:∀{a b:Act},BV c a b->BV (.seq c d) a b:=fun h=>h.sub fun t ht=>(uJ t ht).1
  have sd:∀{a b:Act},BV d a b->BV (.seq c d) a b:=fun h=>h.sub fun t ht=>(uJ t ht).2
  have post:∀{a':Act} {e:Exit} {MK:Act} {B7:World},BV c a a'->kz N F d K a' e MK B7->kz N F (.seq c d) K a e MK B7:=fun h3 hq=>by
   rcases hq with ⟨MJ,g1,g2,g3⟩|⟨v,g0,g1,g2,g3⟩
   ·exact .inl ⟨MJ,g1,g2,(sc h3).trans (sd g3)⟩
   ·exact .inr ⟨v,g0,g1,g2,(sc h3).trans (sd g3)⟩
  cases pl<;>try exact (show False from h).elim
  ·rename_i p q;refine wp_seq (wp_mono (tw p E w _ a h hf hs.1) fun e a' w' hq=>?_);rcases hq with ⟨E',h1,h2,h3⟩|⟨v,rfl,h1,h2,h3⟩
   ·cases e<;>try exact .inl ⟨E',h1,h2,sc h3⟩
    exact wp_mono (tx q E' w' K a' h1 h2 hs.2) fun e MK B7 hq=>post h3 hq
   ·exact .inr ⟨v,rfl,h1,h2,sc h3⟩
  ·rename_i live AB p q
   replace h:match EK AB c with
    |true=>CP (fun s w=>Cx P F q d (GJ live s++Env.AB E AB) w K) fun J=>Cx P F p c E w fun e E w=>match e with
     | .normal=>GI live E fun s=>J s w
     |e=>K e E w
    |false=>False:=h
   split at h
   ·rename_i hk;obtain ⟨J,hb,ML⟩:=h;refine wp_seq (wp_mono (tw p E w _ a ML hf hs.1) fun e a' w' hq=>?_);rcases hq with ⟨E',h1,h2,h3⟩|⟨v,rfl,h1,h2,h3⟩
    ·cases e<;>try exact .inl ⟨E',h1,h2,sc h3⟩
     obtain ⟨s,hJ,IT⟩:=EN (N:=N) h1;have Du:Fits N (GJ live s++Env.AB E AB) a':=DQ (IT a' h2) (DP hf AB fun t ht=>h3.1 t (HJ hk t ht)) h2.size;exact wp_mono (tx q _ w' K a' (hb s w' hJ) Du hs.2) fun e MK B7 hq=>post h3 hq
    ·exact .inr ⟨v,rfl,h1,h2,sc h3⟩
   ·exact h.elim
 |cond x c d tw tx=>
  intro pl E w K a h hf hs;simp only[As,ay]at hs;have uJ:∀t,wr t (.cond x c d)=false->wr t c=false/\wr t d=false:=fun t ht=>by simpa[wr]using ht
  have sc:∀{a b:Act},BV c a b->BV (.cond x c d) a b:=fun h=>h.sub fun t ht=>(uJ t ht).1
  have sd:∀{a b:Act},BV d a b->BV (.cond x c d) a b:=fun h=>h.sub fun t ht=>(uJ t ht).2
  cases pl<;>try exact (show False from h).elim
  rename_i p q
  replace h:match E.A3 x with
   | .bool b=>Br b (Cx P F p c E w K) (Cx P F q d E w K)
   |_=>False:=h
  split at h
  ·rename_i b hb;rcases Lj h with ⟨rfl,h⟩|⟨rfl,h⟩
   ·refine wp_cond_true (Ln hf hb) (wp_mono (tw p E w K a h hf hs.1) fun e a' w' hq=>?_);rcases hq with ⟨E',h1,h2,h3⟩|⟨v,h0,h1,h2,h3⟩
    ·exact .inl ⟨E',h1,h2,sc h3⟩
    ·exact .inr ⟨v,h0,h1,h2,sc h3⟩
   ·refine wp_cond_false (Ln hf hb) (wp_mono (tx q E w K a h hf hs.2) fun e a' w' hq=>?_);rcases hq with ⟨E',h1,h2,h3⟩|⟨v,h0,h1,h2,h3⟩
    ·exact .inl ⟨E',h1,h2,sd h3⟩
    ·exact .inr ⟨v,h0,h1,h2,sd h3⟩
  ·exact h.elim
 |block id c ih=>
  intro pl E w K a h hf hs;have sc:∀{a b:Act},BV c a b->BV (.block id c) a b:=fun h=>h.sub fun t ht=>by simpa[wr]using ht
  cases pl<;>try exact (show False from h).elim
  rename_i p;refine wp_block (wp_mono (ih p E w _ a h hf hs) fun e a' w' hq=>?_);rcases hq with ⟨E',h1,h2,h3⟩|⟨v,rfl,h1,h2,h3⟩
  ·cases e with
   |exit i=>
    replace h1:match Nat.beq i id with
     |true=>K .normal E' w'
     |false=>K (.exit i) E' w':=h1
    show if i=id then _ else _
    cases hb:Nat.beq i id with
    |true=>rw[hb]at h1;rw[ak (beq_eq hb)];exact .inl ⟨E',h1,h2,sc h3⟩
    |false=>rw[hb]at h1;rw[ah (fun e=>by subst e;simp at hb)];exact .inl ⟨E',h1,h2,sc h3⟩
   |_=>exact .inl ⟨E',h1,h2,sc h3⟩
  ·exact .inr ⟨v,rfl,h1,h2,sc h3⟩
 |loop c ih=>
  intro pl E w K a h hf hs;have sc:∀{a b:Act},BV c a b->BV (.loop c) a b:=fun h=>h.sub fun t ht=>by simpa[wr]using ht
  cases pl<;>try exact (show False from h).elim
  rename_i live AB p
  replace h:match EK AB c with
   |true=>GI live E fun s0=>Lp (fun R s w=>Cx P F p c (GJ live s++Env.AB E AB) w fun e E w=>match e with
    | .normal=>GI live E fun s=>R s w
    |e=>K e E w) s0 w
   |false=>False:=h
  split at h
  ·rename_i hk;obtain ⟨s0,⟨I,n0,h0,eJ⟩,AF8⟩:=EN (N:=N) h;refine wp_loop_ghost (fun n a' w'=>∃s,I n s w'/\Fits N (GJ live s++Env.AB E AB) a'/\BV c a a') n0
    ⟨s0,h0,DQ (AF8 a hf) (DP hf AB fun _ _=>rfl) hf.size,BV.refl _ _⟩ ?_
   rintro n a' w' ⟨s,hI,Du,ML⟩;refine wp_mono (ih p _ w' _ a' (eJ n s w' hI) Du hs) fun e MK B7 hq=>?_
   rcases hq with ⟨MJ,g1,g2,g3⟩|⟨v,rfl,g1,g2,g3⟩
   ·have Ke:=ML.trans g3;cases e<;>try exact .inl ⟨MJ,g1,g2,sc Ke⟩
    obtain ⟨s',⟨n',Am,hI'⟩,IT⟩:=EN (N:=N) g1;exact ⟨n',Am,s',hI',DQ (IT MK g2) (DP hf AB fun t ht=>Ke.1 t (HJ hk t ht)) g2.size,Ke⟩
   ·exact .inr ⟨v,rfl,g1,g2,sc (ML.trans g3)⟩
  ·exact h.elim
 |_=>
  intro pl E w K a h hf hs;cases pl<;>exact (show False from h).elim
theorem mapM_cells {f:ResultVar->Sem Value}{w:World}:∀(l:List ResultVar) (vs:List Value),(∀(i:Nat) (r:ResultVar) (v:Value),l[i]?=some r->vs[i]?=some v->(f r).run P w= .ok v w)->l.length=vs.length->
  (l.mapM f).run P w= .ok vs w
 |[],[],_,_=>rfl
 |[],_::_,_,h=>by cases h
 |_::_,[],_,h=>by cases h
 |r::l,v::vs,h,hl=>by
  have h0:=h 0 r v rfl rfl;have ih:=mapM_cells l vs (fun i r v h1 h2=>h (i+1) r v (by simpa using h1) (by simpa using h2)) (by simpa using hl);simp only[List.mapM_cons,Sem.run_bind,h0,Result.andThen_ok,ih,Sem.run_pure]
def zZ (a:Act)(r:ResultVar):Sem Value:=match r with
 | .tmp t=>pure (a.tmps.getD t undef)
 | .cell t ty=>do loadVar ty (<-asAddr (a.tmps.getD t undef))
theorem RM {E:Env}{w:World}{a:Act}(hf:Fits N E a):∀(l:List ResultVar) (K:List Value->Prop),Dv P l E w K->
  ∃vs:List Value,l.length=vs.length/\(∀(i:Nat) (r:ResultVar) (v:Value),l[i]?=some r->vs[i]?=some v->(zZ a r).run P w= .ok v w)/\K vs
 |[],K,h=>⟨[],rfl,by simp,h⟩
 | .tmp t::l,K,h=>by
  simp only[Dv]at h;split at h
  ·rename_i v hv;obtain ⟨vs,h1,h2,h3⟩:=RM hf l _ h;refine ⟨v::vs,by simp[h1],fun i r u hi hu=>?_,h3⟩;cases i with
   |zero=>
    simp only[bL,bE]at hi hu;subst hi hu;simp only[zZ,Sem.run_pure,(hf.get t v hv).2]
   |succ i=>exact h2 i r u (by simpa using hi) (by simpa using hu)
  ·exact h.elim
 | .cell t ty::l,K,h=>by
  simp only[Dv]at h;split at h
  ·rename_i x hx;obtain ⟨v,g1,g2⟩:=U6 h;obtain ⟨vs,h1,h2,h3⟩:=RM hf l _ g2;refine ⟨v::vs,by simp[h1],fun i r u hi hu=>?_,h3⟩;cases i with
   |zero=>
    simp only[bL,bE]at hi hu;subst hi hu;have hxa:∃b,x= .pointer (some b):=by
     unfold ldV at h;split at h
     ·exact ⟨_,rfl⟩
     ·exact h.elim
    obtain ⟨b,rfl⟩:=hxa;simp only[Instr.loadAt,Instr.sureAddr,Sem.run_bind,Sem.run_pure,Result.andThen_ok]at g1;simp only[zZ,(hf.get t _ hx).2,asAddr,Sem.run_bind,Sem.run_pure,Result.andThen_ok,g1]
   |succ i=>exact h2 i r u (by simpa using hi) (by simpa using hu)
  ·exact h.elim
theorem TG {a:Act}:∀(l:List Value) (i:Nat),(∀j v,l[j]?=some v->i+j<N/\a.tmps.getD (i+j) undef=v)->Q8 N (Xh i l) a
 |[],_,_,p,hp=>by cases hp
 |v::l,i,h,p,hp=>by
  rcases aN.1 hp with rfl|hp
  ·exact h 0 v rfl
  ·exact TG l (i+1) (fun j u hj=>by have:=h (j+1) u (by simpa using hj);rw[show i+1+j=i+(j+1) by omega];exact this) p hp
theorem za (vs:List Value):(if h:vs.toArray.size=1 then vs.toArray[0]else Value.tuple vs.toArray)=De.GP vs:=by
 match vs with
 |[]=>rfl
 |[v]=>rfl
 |_::_::_=>simp[De.GP]
theorem VX {n:Nat}{args:List Value}(hle:args.length<=n):Fits n (Xh 0 args) {tmps:=args.toArray++Array.replicate (n-args.toArray.size) undef,defers:=[]}:=by
 refine Q8.fits (TG args 0 fun j v hj=>?_) (by simp;omega);have Am:j<args.length:=(ao.1 hj).1;refine ⟨by omega,?_⟩;have hv:args[j]=v:=(ao.1 hj).2;simp[Array.getD,Am,hv];intro h';omega
theorem HY {fn:Func}{E':Env}{a':Act}{w':World}{tys:List Ty}{R:Sg tys->World->Prop}(Du:Fits N E' a')(h:NC P fn tys R E' w'):
  ∃v,(results fn a'.tmps).run P w'= .ok v w'/\∃s:Sg tys,Ending.returned v= .returned (De.GP (Sg.GQ tys s))/\R s w':=by
 obtain ⟨vs,g1,g2,g3⟩:=RM Du _ _ h;split at g3
 ·rename_i s hs;refine ⟨De.GP vs,?_,s,by rw[Sg.TF _ _ _ hs],g3⟩;have e:results fn a'.tmps=(do
    let vs<-fn.results.mapM (zZ a')
    pure (if h:vs.size=1 then vs[0]else .tuple vs)):=rfl
  rw[e,Array.mapM_eq_mapM_toList];have:=mapM_cells (P:=P) (w:=w') fn.results.toList vs g2 g1;simp only[Sem.run_bind,Sem.run_map,this,Result.andThen_ok,Sem.run_pure,za]
 ·exact g3.elim
theorem JW {ok may:Nat->Bool}{pk:Value->World->Prop}(hF:Av P ok)(hm:P.follows .mixedOrders=true){f:FuncId}{fn:Func}{pl:A7}{args:List Value}{w:World}{tys:List Ty}{R:Sg tys->World->Prop}
  (hf:P.funcs[f]?=some fn) (hN:(match fn.body with
   |some c=>As fn.ntmps c
   |none=>false)=true) (ha:Nat.ble args.length fn.ntmps=true)
  (h:lR P ⟨ok,may,pk⟩ pl fn args w tys R):Calls P f args.toArray w fun e w'=>(∃s:Sg tys,e= .returned (De.GP (Sg.GQ tys s))/\R s w')\/∃v,e= .panicked (Aj v)/\pk v w':=by
 unfold lR at h;split at h
 ·exact h.elim
 ·rename_i c hc;rw[hc]at hN;refine calls_of_wp hf hc ?_;refine wp_mono (Ih (F:=⟨ok,may,pk⟩) hF hm c pl _ w _ _ h (VX (bG ha)) hN) fun e a' w' hq=>?_
  rcases hq with ⟨E',h1,h2,h3⟩|⟨v,rfl,h1,h2,h3⟩
  ·have fin:NC P fn tys R E' w'->a'.defers=[]/\∃v,(results fn a'.tmps).run P w'= .ok v w'/\((∃s:Sg tys,Ending.returned v= .returned (De.GP (Sg.GQ tys s))/\R s w')\/∃u,Ending.returned v= .panicked (Aj u)/\pk u w'):=fun h=>by
    obtain ⟨v,g1,g2⟩:=HY h2 h;exact ⟨h3.2,v,g1,.inl g2⟩
   cases e with
   |normal=>exact fin h1
   |ret=>exact fin h1
   |_=>exact h1.elim
  ·exact ⟨h3.2,.inr ⟨v,rfl,h1⟩⟩
theorem Gk {ok may:Nat->Bool}(hF:Av P ok)(hm:P.follows .mixedOrders=true){f:FuncId}{fn:Func}{pl:A7}{args:List Value}{w:World}{tys:List Ty}{R:Sg tys->World->Prop}
  (hf:P.funcs[f]?=some fn) (hN:(match fn.body with
   |some c=>As fn.ntmps c
   |none=>false)=true) (ha:Nat.ble args.length fn.ntmps=true)
  (h:lR P ⟨ok,may,fun _ _=>False⟩ pl fn args w tys R):Calls P f args.toArray w fun e w'=>∃s:Sg tys,e= .returned (De.GP (Sg.GQ tys s))/\R s w':=
 (JW hF hm hf hN ha h).mono fun e w' he=>he.elim id fun ⟨_,_,h⟩=>h.elim
end
end Sh
end Go.Proofs.YtdmmgclkphaaaaaGreatDoor

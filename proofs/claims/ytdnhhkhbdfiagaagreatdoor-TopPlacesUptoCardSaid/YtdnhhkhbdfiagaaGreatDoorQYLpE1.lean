/- Joined texts of the proof; conditions stand in each theorem. -/
import Derived.Test.YtdnhhkhbdfiagaaGreatDoorProg
import Derived.WalkKit
import Derived.Deep.Quiet
import Derived.StillTail
import Derived.OrdersHeld
import Derived.KernelRfl
import Derived.Recover
import Derived.Laws.Panics
import Derived.Deep.LoopGhost
set_option linter.unusedVariables false
set_option linter.unusedSimpArgs false
namespace Go.Proofs.YtdnhhkhbdfiagaaGreatDoor
abbrev aa.{u} := @List.set_cons_zero.{u}
abbrev ab.{u} := @List.set_cons_succ.{u}
abbrev ad.{u} := @List.nil_append.{u}
abbrev ae.{u} := @List.length_append.{u}
abbrev af.{u} := @List.setIfInBounds_toArray.{u}
abbrev ag.{u} := @List.cons_append.{u}
abbrev ah.{u} := @List.getElem?_eq_getElem.{u}
abbrev ai := @Bool.and_eq_true
abbrev aj.{u} := @Array.getElem?_eq_some_iff.{u}
abbrev ak := @Nat.zero_add
abbrev al.{u} := @List.getElem?_eq_some_iff.{u}
abbrev ao.{u} := @List.mem_singleton.{u}
abbrev aq.{u,v} := @congrArg.{u,v}
abbrev ar.{u} := @List.mem_cons.{u}
abbrev au.{u} := @List.length_cons.{u}
abbrev av.{u} := @List.mem_cons_of_mem.{u}
abbrev aw.{u} := @List.mem_cons_self.{u}
abbrev ax.{u} := @List.mem_of_getElem?.{u}
abbrev ay := @Int.toNat_natCast
abbrev az := @Nat.le_refl
abbrev aA.{u} := @if_neg.{u}
abbrev aB.{u,v} := @List.map_cons.{u,v}
abbrev aC.{u} := @List.length_take.{u}
abbrev aD.{u} := @List.append_assoc.{u}
abbrev aE.{u} := @List.length_drop.{u}
abbrev aF.{u} := @List.not_mem_nil.{u}
abbrev aG.{u} := @if_pos.{u}
abbrev aH.{u,v} := @List.getElem?_map.{u,v}
abbrev aI.{u} := @List.getElem?_append_left.{u}
abbrev aJ.{u} := @Array.length_toList.{u}
abbrev aK.{u} := @List.mem_append.{u}
abbrev aL := @decide_eq_true
abbrev aM.{u} := @List.getElem?_append_right.{u}
abbrev aN.{u,v} := @Option.map_eq_some_iff.{u,v}
abbrev aO.{u} := @List.all_eq_true.{u}
abbrev aP.{u,v} := @List.map_append.{u,v}
abbrev aQ.{u} := @Option.some.inj.{u}
abbrev aR := @decide_eq_false
abbrev aS.{u} := @Option.some.injEq.{u}
abbrev aT.{u} := @List.take_append_drop.{u}
abbrev aU.{u} := @List.take_of_length_le.{u}
abbrev aV.{u} := @List.length_nil.{u}
abbrev aW.{u} := @List.contains_iff_mem.{u}
abbrev aX.{u} := @List.append_nil.{u}
abbrev aY.{u} := @List.eq_nil_of_length_eq_zero.{u}
abbrev aZ.{u} := @List.getElem?_of_mem.{u}
abbrev bc.{u,v} := @List.length_map.{u,v}
abbrev bd.{u,v} := @List.flatMap_append.{u,v}
abbrev bf.{u} := @List.take_length.{u}
abbrev bg.{u} := @List.size_toArray.{u}
abbrev bh.{u,v} := @List.flatMap_cons.{u,v}
abbrev bj.{u,v} := @List.map_nil.{u,v}
abbrev bo.{u} := @List.length_singleton.{u}
abbrev bp := @or_false
abbrev bq := @decide_eq_true_eq
abbrev br.{u} := @Array.getD_eq_getD_getElem?.{u}
abbrev bu := @Bool.false_eq_true
abbrev bw.{u} := @beq_eq_false_iff_ne.{u}
abbrev bx.{u,v} := @List.mem_map.{u,v}
abbrev bz := @Bool.not_eq_true'
abbrev bA := @Bool.or_eq_true
abbrev bB := @Nat.le_trans
abbrev bC.{u} := @List.take_add_one.{u}
abbrev bD := @Nat.le_of_ble_eq_true
abbrev bE.{u,v} := @List.mem_map_of_mem.{u,v}
abbrev bF.{u} := @Array.getElem?_eq_getElem.{u}
abbrev bG.{u} := @Array.getElem?_eq_none.{u}
abbrev bH.{u} := @List.drop_drop.{u}
abbrev bI.{u} := @List.getElem?_drop.{u}
abbrev bJ := @Nat.zero_le
abbrev bK.{u} := @List.getElem?_cons_succ.{u}
abbrev bL.{u} := @List.getElem?_cons_zero.{u}
abbrev bM := @UInt8.toNat_ofNat'
abbrev bN.{u} := @List.getElem?_set.{u}
abbrev bO.{u} := @List.nodup_append.{u}
abbrev bP.{u} := @Array.getElem?_setIfInBounds_self_of_lt.{u}
abbrev bQ.{u,v} := @Option.bind_eq_some_iff.{u,v}
abbrev bR.{u} := @Array.getElem?_setIfInBounds_ne.{u}
abbrev bS.{u} := @List.getElem?_take.{u}
abbrev bT := @Nat.add_mul
abbrev bU.{u} := @beq_iff_eq.{u}
abbrev bV := @decide_eq_true_iff
abbrev bW := @Bool.true_and
abbrev bX := @UInt8.toNat_inj
abbrev bY.{u} := @List.drop_of_length_le.{u}
abbrev bZ.{u} := @List.dropWhile_cons.{u}
abbrev b5 := @Nat.eq_of_beq_eq_true
abbrev b6.{u} := @List.sum_cons.{u}
abbrev b7.{u} := @List.drop_eq_getElem?_toList_append.{u}
abbrev b9 := @Nat.lt_or_ge
abbrev cb := @Bool.not_eq_true
abbrev cd := @of_decide_eq_true
abbrev cf.{u} := @List.ext_getElem?.{u}
abbrev cg.{u} := @List.length_pos_iff.{u}
abbrev ch := @Nat.mul_one
abbrev cj.{u} := @List.take_left'.{u}
abbrev cl := @Bool.eq_iff_iff
abbrev cm.{u} := @List.drop_eq_getElem_cons.{u}
abbrev cp.{u} := @List.cons.inj.{u}
abbrev cq.{u} := @List.flatten_cons.{u}
abbrev cr := @decide_eq_false_iff_not
abbrev ct := @Nat.sub_zero
abbrev cu.{u,v} := @List.flatMap_singleton.{u,v}
abbrev cw := @Nat.le_of_not_lt
abbrev cx.{u} := @List.getD_eq_getElem?_getD.{u}
abbrev cz.{u,v} := @List.map_singleton.{u,v}
abbrev cA.{u} := @Array.getElem?_toList.{u}
abbrev cB.{u} := @Array.mem_of_getElem?.{u}
abbrev cC.{u} := @List.mem_filter.{u}
abbrev cD := @Nat.mul_le_mul_right
abbrev cE := @Nat.zero_mul
abbrev cF.{u} := @List.mem_of_mem_drop.{u}
abbrev cG.{u} := @List.drop_succ_cons.{u}
abbrev cH.{u,v} := @Array.toList_map.{u,v}
abbrev cI.{u} := @List.nodup_nil.{u}
abbrev cJ.{u} := @List.getElem_mem.{u}
abbrev cK.{u,v,w} := @List.map_map.{u,v,w}
abbrev cL.{u} := @List.find?_eq_none.{u}
abbrev cM := @Bool.false_or
abbrev cN := ByteArray
namespace Sh
structure AA where
 p:Option Addr
 len:Nat
 cap:Nat
def AA.v(s:AA):Value:= .slice s.p s.len s.cap
inductive Da where
 |int (k:IntKind)|bool|str|ptr|addr|BJ|map|raw
def Da.T:Da->Type
 | .int _=>Int| .bool=>Bool| .str=>ByteArray| .ptr=>Option Addr| .addr=>Addr| .BJ=>AA| .map=>Option Nat| .raw=>Value
def Da.v:(t:Da)->t.T->Value
 | .int k,x=> .int k x| .bool,x=> .bool x| .str,x=> .string x| .ptr,x=> .pointer x| .addr,x=> .pointer (some x)| .BJ,x=>AA.v x| .map,x=> .map x| .raw,x=>x
def Da.get?:(t:Da)->Value->Option t.T
 | .int k,.int k' n=>if k'=k then some n else none
 | .bool,.bool b=>some b
 | .str,.string s=>some s
 | .ptr,.pointer p=>some p
 | .addr,.pointer (some p)=>some p
 | .BJ,.slice p l c=>some ⟨p,l,c⟩
 | .map,.map m=>some m
 | .raw,x=>some x
 |_,_=>none
def Aj:List Da->Type
 |[]=>Unit
 |[t]=>t.T
 |t::u::r=>t.T×Aj (u::r)
def Aj.cells:(ts:List Da)->Aj ts->List Value
 |[],_=>[]
 |[t],x=>[t.v x]
 |t::u::r,x=>t.v x.1::Aj.cells (u::r) x.2
def Aj.get?:(ts:List Da)->List Value->Option (Aj ts)
 |[],[]=>some ()
 |[t],[x]=>t.get? x
 |t::u::r,x::xs=>(t.get? x).bind fun a=>(Aj.get? (u::r) xs).bind fun b=>some (a,b)
 |_,_=>none
inductive Ty where
 |one (t:Da)
 |agg (ts:List Da)
def Ty.T:Ty->Type
 | .one t=>t.T
 | .agg ts=>Aj ts
def Ty.v:(t:Ty)->t.T->Value
 | .one t,x=>t.v x
 | .agg ts,x=> .agg (Aj.cells ts x).toArray
def Ty.get?:(t:Ty)->Value->Option t.T
 | .one t,x=>t.get? x
 | .agg ts,.agg cs=>Aj.get? ts cs.toList
 |_,_=>none
def Sg:List Ty->Type
 |[]=>Unit
 |[t]=>t.T
 |t::u::r=>t.T×Sg (u::r)
def Sg.DV:(ts:List Ty)->Sg ts->List Value
 |[],_=>[]
 |[t],x=>[t.v x]
 |t::u::r,x=>t.v x.1::Sg.DV (u::r) x.2
def Sg.get?:(ts:List Ty)->List Value->Option (Sg ts)
 |[],[]=>some ()
 |[t],[x]=>t.get? x
 |t::u::r,x::xs=>(t.get? x).bind fun a=>(Sg.get? (u::r) xs).bind fun b=>some (a,b)
 |_,_=>none
def mz:TypeDesc->Da
 | .int k=> .int k| .bool=> .bool| .string=> .str| .pointer _=> .ptr| .slice _=> .BJ| .map _ _=> .map|_=> .raw
def DH:Option TypeDesc->Bool
 |some (.struct _)|some (.array _ _)=>true
 |_=>false
def P6 (P:Program):Nat->TypeId->List Da
 |0,_=>[]
 |n+1,t=>match P.underlying t with
  |some (.struct fs)=>fs.toList.flatMap fun f=>P6 P n f.type
  |some (.array len e)=>(List.replicate len (P6 P n e)).flatten
  |some d=>[mz d]
  |none=>[]
def IZ (P:Program)(t:TypeId):Ty:=match DH (P.underlying t)with
 |true=>if P.cellsOf t<=40 then .agg (P6 P 8 t)else .one .raw
 |false=>match P.underlying t with
  |some d=> .one (mz d)
  |none=> .one .raw
abbrev Env:=List (Nat×Value)
def Env.get?:Env->Nat->Option Value
 |[],_=>none
 |(t,v)::E,n=>match Nat.beq t n with
  |true=>some v
  |false=>Env.get? E n
def Env.Ag(E:Env):Operand->Value
 | .tmp t=>match E.get? t with
  |some v=>v
  |none=>undef
 | .const v=>v
 | .global g=> .pointer (some ⟨g,0,none⟩)
 | .func f=> .func (.func f) #[] #[]
def Env.has(E:Env):Operand->Bool
 | .tmp t=>(E.get? t).isSome
 |_=>true
def Env.put(E:Env)(d:Option Tmp)(v:Value):Env:=match d with
 |some t=>(t,v)::E
 |none=>E
def Env.DV(E:Env):List Nat->Option (List Value)
 |[]=>some []
 |t::r=>match E.get? t,Env.DV E r with
  |some v,some vs=>some (v::vs)
  |_,_=>none
def Env.zip:List Nat->List Value->Env
 |t::r,v::vs=>(t,v)::Env.zip r vs
 |_,_=>[]
def Env.AB(E:Env):List Nat->Env
 |[]=>[]
 |t::r=>match E.get? t with
  |some v=>(t,v)::Env.AB E r
  |none=>Env.AB E r
def Br (b:Bool)(A B:Prop):Prop:=match b with
 |true=>A
 |false=>B
def V3 (w:World)(a:Addr):Prop:=(∃o,w.cell? a=some o)/\w.frozen? a=false
def Nn (p:Option Addr)(K:Addr->Prop):Prop:=∃a,p=some a/\K a
def Ld {α:Type}(w:World)(a:Addr)(V:α->Value)(K:α->Prop):Prop:=∃x,w.cell? a=some (V x)/\K x
def AU {α:Type}(S:World->Prop)(a:Addr)(V:α->Value)(K:α->Prop):Prop:=∃x,(∀w,S w->w.cell? a=some (V x))/\K x
def St (w:World)(a:Addr)(v:Value)(K:World->Prop):Prop:=V3 w a/\K (w.setCell a v)
def Nw (w:World)(o:Obj)(K:World->Prop):Prop:=K (w.alloc o)
def o7 (w:World)(b:Nat)(s:ByteArray)(pos:Nat):World:={w with heap:=w.heap.setIfInBounds b (.stringIter s pos)}
def Nx (w:World)(a:Addr)(T:Int->Int->World->Prop)(N:Prop):Prop:=
 ∃(s:ByteArray) (pos:Nat),a.off=0/\w.heap[a.block]?=some (.stringIter s pos)/\Br (decide (pos<s.size)) (T (pos:Int) ((Utf8.decode s pos).1:Int) (o7 w a.block s (pos+(Utf8.decode s pos).2))) N
def Lt {α:Type}(e:α)(K:α->Prop):Prop:=K e
structure Fx where
 ok:Nat->Bool
 may:Nat->Bool
 pk:Value->World->Prop
def AV (v:Value):List PanicEntry:=[{v,recovered:=false}]
def MY (P:Program)(pk:Value->World->Prop)(K:Value->World->Prop):Result Next->Prop
 | .ok (.value v) w'=>K v w'
 | .ok .skip w'=>K undef w'
 | .ok (.enter f args) w'=>Calls P f args w' fun e BB=>(∃v,e= .returned v/\K v BB)\/∃v,e= .panicked (AV v)/\pk v BB
 | .halt (.panic v) w'=>pk v w'
 |_=>False
def Out (P:Program)(K:Value->World->Prop):Result Next->Prop
 | .ok (.value v) w'=>K v w'
 | .ok .skip w'=>K undef w'
 | .ok (.enter f args) w'=>Calls P f args w' fun e BB=>∃v,e= .returned v/\K v BB
 |_=>False
def Ai (P:Program)(s:Sem Value)(w:World)(v:Value)(w':World):Prop:=s.run P w= .ok v w'
def VL (P:Program)(s:Sem Unit)(w:World)(w':World):Prop:=s.run P w= .ok () w'
def exT (t:Ty)(K:Value->Prop):Prop:=∃x:t.T,K (t.v x)
def Rn {α:Type}(P:Program)(s:Sem Value)(w:World)(V:α->Value)(K:α->World->Prop):Prop:=∃x w',Ai P s w (V x) w'/\K x w'
def Ru (P:Program)(s:Sem Unit)(w:World)(K:World->Prop):Prop:=∃w',VL P s w w'/\K w'
def MZ (P:Program)(q:Bool)(t:TypeId)(s:Sem Value)(w:World)(K:Value->World->Prop):Prop:=match q with
 |false=>Rn P s w (IZ P t).v fun x w'=>K ((IZ P t).v x) w'
 |true=>False
def ADJ (P:Program)(s:Sem Unit)(w:World)(K:Value->World->Prop):Prop:=Ru P s w fun w'=>K undef w'
def ldL (w:World)(a:Addr):Nat->List Da->(List Value->Prop)->Prop
 |_,[],K=>K []
 |i,t::ts,K=>Ld w (a.add i) t.v fun x=>ldL w a (i+1) ts fun l=>K (t.v x::l)
def Ae (w:World)(a:Addr):Nat->(ts:List Da)->(Aj ts->Prop)->Prop
 |_,[],K=>K ()
 |i,[t],K=>Ld w (a.add i) t.v fun x=>K x
 |i,t::u::r,K=>Ld w (a.add i) t.v fun x=>Ae w a (i+1) (u::r) fun y=>K (x,y)
def BW (S:World->Prop)(a:Addr):Nat->(ts:List Da)->(Aj ts->Prop)->Prop
 |_,[],K=>K ()
 |i,[t],K=>AU S (a.add i) t.v fun x=>K x
 |i,t::u::r,K=>AU S (a.add i) t.v fun x=>BW S a (i+1) (u::r) fun y=>K (x,y)
def Am (a:Addr):Nat->(ts:List Da)->Aj ts->World->(World->Prop)->Prop
 |_,[],_,w,K=>K w
 |i,[t],x,w,K=>St w (a.add i) (t.v x) K
 |i,t::u::r,x,w,K=>St w (a.add i) (t.v x.1) fun w'=>Am a (i+1) (u::r) x.2 w' K
def Kh (P:Program)(t:TypeId):Option Nat:=(P.info? t).map (·.size)
def yz (P:Program)(t:TypeId)(x:Value)(w:World)(K:Value->Prop):Prop:=match x with
 | .pointer (some a)=>match P.underlying t,Kh P t with
  |some d,some n=>match DH (some d)with
   |false=>Ld w a (mz d).v fun x=>K ((mz d).v x)
   |true=>match IZ P t with
    | .agg ts=>match Nat.beq ts.length n with
     |true=>ldL w a 0 ts fun l=>K (.agg l.toArray)
     |false=>False
    | .one _=>∃x:Array Value,Ai P (loadVar t a) w (.agg x) w/\K (.agg x)
  |_,_=>False
 |_=>False
def gk:Value->Bool
 | .agg _| .tuple _=>false
 |_=>true
def yJ (a:Addr):Nat->List Value->World->(World->Prop)->Prop
 |_,[],w,K=>K w
 |i,v::r,w,K=>Br (gk v) (St w (a.add i) v fun w'=>yJ a (i+1) r w' K) False
def stV (P:Program)(t:TypeId)(x y:Value)(w:World)(K:World->Prop):Prop:=match x with
 | .pointer (some a)=>match P.underlying t,Kh P t with
  |some d,some n=>match DH (some d)with
   |false=>match Nat.beq n 1 with
    |true=>Br (gk y) (St w a y K) False
    |false=>False
   |true=>match y with
    | .agg cs=>match Nat.beq cs.size n with
     |true=>yJ a 0 cs.toList w K
     |false=>False
    |_=>Ru P (storeVar t a y) w K
  |_,_=>False
 |_=>False
def isC:Operand->Bool
 | .const _=>true
 |_=>false
def YM (k:IntKind)(x y:Int):Int:=k.wrap ((BitVec.ofInt k.bits x&&&BitVec.ofInt k.bits y).toNat:Int)
def yS (k:IntKind)(x y:Int):Int:=k.wrap ((BitVec.ofInt k.bits x|||BitVec.ofInt k.bits y).toNat:Int)
def BX (s:ByteArray)(i:Int):Int:=((s.data.getD i.toNat 0).toNat:Int)
def AA.cut(s:AA)(size l h m:Nat):AA:=⟨if m=l then s.p else s.p.map (·.add (l*size)),h-l,m-l⟩
def NX (P:Program):Nat->Array Value->Array Value->List Field->Option Bool
 |0,_,_,_=>none
 |n+1,xs,ys,fs=>match fs with
  |[]=>some true
  |f::r=>if f.name= "_"then none else match P.underlying f.type with
   |some (.struct fs')=>match P.stoodInHeld f.type with
    |false=>(NX P n (xs.extract f.offset (f.offset+P.cellsOf f.type)) (ys.extract f.offset (f.offset+P.cellsOf f.type)) fs'.toList).bind fun p=>(NX P n xs ys r).map fun q=>p&&q
    |true=>none
   |some d=>match d,xs[f.offset]?,ys[f.offset]? with
    | .int _,some (.int k a),some (.int k' b)=>if k=k' then (NX P n xs ys r).map fun q=>(a==b)&&q else none
    | .bool,some (.bool a),some (.bool b)=>(NX P n xs ys r).map fun q=>(a==b)&&q
    | .string,some (.string a),some (.string b)=>(NX P n xs ys r).map fun q=>(a.toList==b.toList)&&q
    |_,_,_=>none
   |none=>none
def Wx (P:Program)(t:TypeId)(xs ys:Array Value):Option Bool:=match P.underlying t with
 |some (.struct fs)=>match P.stoodInHeld t,P.eqGuardType P.depth t with
  |false,false=>NX P 60 xs ys fs.toList
  |_,_=>none
 |_=>none
def wU (P:Program)(op:BinOp)(t:TypeId)(cy:Bool)(x y:Value)(K:Value->Prop)(BO other:Prop):Prop:=
 match op with
 | .quo=>match cy,x,y with
  |false,.int k a,.int k' b=>if k=k' then (b≠0/\K (.int k (k.wrap (a.tdiv b))))else False
  |_,_,_=>BO
 | .rem=>match cy,x,y with
  |false,.int k a,.int k' b=>if k=k' then (b≠0/\K (.int k (a.tmod b)))else False
  |_,_,_=>BO
 | .shl=>match cy,x,y with
  |false,.int k a,.int _ b=>0<=b/\K (.int k (k.wrap (a*2^min b.toNat k.bits)))
  |_,_,_=>BO
 | .shr=>match cy,x,y with
  |false,.int k a,.int _ b=>0<=b/\K (.int k (a.fdiv (2^min b.toNat k.bits)))
  |_,_,_=>BO
 | .add=>match x,y with
  | .string a,.string b=>((a.size+b.size:Nat):Int)<=IntKind.i64.max/\K (.string (a++b))
  |_,_=>BO
 | .eql=>match x,y with
  | .int _ _,.int _ _=>BO
  | .string _,.string _=>BO
  | .bool _,.bool _=>BO
  | .pointer p,.pointer q=>match cy,q,P.underlying t with
   |true,none,some (.pointer _)=>K (.bool p.isNone)
   |_,_,_=>other
  | .slice p _ _,.slice q _ _=>match cy,q,P.underlying t with
   |true,none,some (.slice _)=>K (.bool p.isNone)
   |_,_,_=>other
  | .map p,.map q=>match cy,q,P.underlying t with
   |true,none,some (.map _ _)=>K (.bool p.isNone)
   |_,_,_=>other
  | .iface _ _,.nilIface=>match cy,P.underlying t with
   |true,some (.interface _)=>K (.bool false)
   |_,_=>other
  | .nilIface,.nilIface=>match cy,P.underlying t with
   |true,some (.interface _)=>K (.bool true)
   |_,_=>other
  | .func _ _ _,.nilFunc=>match cy,P.underlying t with
   |true,some (.func _ _ _)=>K (.bool false)
   |_,_=>other
  | .nilFunc,.nilFunc=>match cy,P.underlying t with
   |true,some (.func _ _ _)=>K (.bool true)
   |_,_=>other
  | .agg xs,.agg ys=>match Wx P t xs ys with
   |some b=>K (.bool b)
   |none=>other
  |_,_=>other
 | .neq=>match x,y with
  | .int _ _,.int _ _=>BO
  | .string _,.string _=>BO
  | .bool _,.bool _=>BO
  | .pointer p,.pointer q=>match cy,q,P.underlying t with
   |true,none,some (.pointer _)=>K (.bool (!p.isNone))
   |_,_,_=>other
  | .slice p _ _,.slice q _ _=>match cy,q,P.underlying t with
   |true,none,some (.slice _)=>K (.bool (!p.isNone))
   |_,_,_=>other
  | .map p,.map q=>match cy,q,P.underlying t with
   |true,none,some (.map _ _)=>K (.bool (!p.isNone))
   |_,_,_=>other
  | .iface _ _,.nilIface=>match cy,P.underlying t with
   |true,some (.interface _)=>K (.bool true)
   |_,_=>other
  | .nilIface,.nilIface=>match cy,P.underlying t with
   |true,some (.interface _)=>K (.bool false)
   |_,_=>other
  | .func _ _ _,.nilFunc=>match cy,P.underlying t with
   |true,some (.func _ _ _)=>K (.bool true)
   |_,_=>other
  | .nilFunc,.nilFunc=>match cy,P.underlying t with
   |true,some (.func _ _ _)=>K (.bool false)
   |_,_=>other
  | .agg xs,.agg ys=>match Wx P t xs ys with
   |some b=>K (.bool (!b))
   |none=>other
  |_,_=>other
 |_=>BO
def wV (P:Program)(t:TypeId)(cy:Bool)(x y:Value)(K:Value->Prop)(BO:Prop):Prop:=
 match x,y with
 | .string s,.int _ i=>match P.underlying t with
  |some .string=>0<=i/\i<s.size/\K (.int .u8 (BX s i))
  |_=>BO
 | .agg cs,.int _ i=>match cy,P.underlying t with
  |false,some (.array len e)=>match P.underlying e,Kh P e with
   |some d,some n=>match DH (some d)with
    |false=>0<=i/\i<len/\∃x:(mz d).T,cs[i.toNat*n]?=some ((mz d).v x)/\K ((mz d).v x)
    |true=>match IZ P e with
     | .agg ts=>0<=i/\i<len/\∃x:Aj ts,cs.extract (i.toNat*n) (i.toNat*n+n)=(Aj.cells ts x).toArray/\K (.agg (Aj.cells ts x).toArray)
     | .one _=>BO
   |_,_=>BO
  |_,_=>BO
 |_,_=>BO
def wW (P:Program)(t:TypeId)(cy:Bool)(x y:Value)(K:Value->Prop)(BO:Prop):Prop:=
 match x,y with
 | .slice p len _,.int _ i=>match P.underlying t with
  |some (.slice e)=>match Kh P e with
   |some n=>0<=i/\i<len/\Nn p fun a=>K (.pointer (some (a.add (i.toNat*n))))
   |none=>BO
  |_=>BO
 | .pointer (some a),.int _ i=>match cy,P.underlying t with
  |false,some (.array len e)=>match Kh P e with
   |some n=>0<=i/\i<len/\K (.pointer (some (a.add (i.toNat*n))))
   |none=>BO
  |_,_=>BO
 |_,_=>BO
def nA (top:Nat)(x:Option Value)(other:Nat)(K:Nat->Prop)(BO:Prop):Prop:=match x with
 |none=>K other
 |some (.int _ i)=>0<=i/\i<=top/\K i.toNat
 |_=>BO
def slV (P:Program)(t:TypeId)(x:Value)(lo hi mx:Option Value)(K:Value->Prop)(BO:Prop):Prop:=
 match x with
 | .string s=>match P.underlying t,mx with
  |some .string,none=>nA s.size hi s.size (fun h=>nA h lo 0 (fun l=>K (.string (s.extract l h))) BO) BO
  |_,_=>BO
 | .slice p len cap=>match P.underlying t with
  |some (.slice e)=>match Kh P e with
   |some n=>match mx,hi with
    |some _,none=>BO
    |mx,hi=>nA cap mx cap (fun m=>nA m hi len (fun h=>nA h lo 0 (fun l=>K (AA.v (AA.cut ⟨p,len,cap⟩ n l h m))) BO) BO) BO
   |none=>BO
  |_=>BO
 | .pointer (some a)=>match P.underlying t,mx with
  |some (.array c e),none=>match Kh P e with
   |some n=>nA c hi c (fun h=>nA h lo 0 (fun l=>K (AA.v (AA.cut ⟨some a,c,c⟩ n l h c))) BO) BO
   |none=>BO
  |_,_=>BO
 |_=>BO
def Rk (P:Program)(g:Nat)(args:Array Value)(w:World)(v:Value)(w':World):Prop:=(callFunc g args).run P w= .ok (.value v) w'
def Bs (P:Program)(F:Fx)(g:Nat)(args:Array Value)(w:World)(K:Value->World->Prop):Prop:=
 match F.ok g with
 |false=>match P.funcs[g]? with
  |none=>False
  |some fn=>SK (fn.resultTypes.toList.map (IZ P)) fun l=>∃w',Rk P g args w (DW l) w'/\K (DW l) w'
 |true=>match P.funcs[g]? with
  |none=>False
  |some fn=>match F.may g with
   |false=>Calls P g args w fun e w'=>SK (fn.resultTypes.toList.map (IZ P)) fun l=>e= .returned (DW l)/\K (DW l) w'
   |true=>Calls P g args w fun e w'=>(SK (fn.resultTypes.toList.map (IZ P)) fun l=>e= .returned (DW l)/\K (DW l) w')\/∃v,e= .panicked (AV v)/\F.pk v w'
where
 SK:List Ty->(List Value->Prop)->Prop
  |[],K=>K []
  |t::ts,K=>∃x:t.T,SK ts fun l=>K (t.v x::l)
 DW:List Value->Value
  |[v]=>v
  |l=> .tuple l.toArray
def sameKind:Value->Value->Bool
 | .int _ _,.int _ _=>true
 | .string _,.string _=>true
 | .bool _,.bool _=>true
 |_,_=>false
def fdV (P:Program)(t:TypeId)(x:Value)(f:Nat)(K:Value->Prop)(dn:Prop):Prop:=match x with
 | .pointer (some a)=>match P.underlying t with
  |some (.struct fs)=>match fs[f]? with
   |some f=>match Kh P f.type with
    |some n=>match Nat.beq n 0 with
     |false=>K (.pointer (some (a.add f.offset)))
     |true=>dn
    |none=>dn
   |none=>dn
  |_=>dn
 |_=>dn
def gl (pk:Value->World->Prop)(x:Value)(w:World):Prop:=match x with
 | .iface t y=>pk (.iface t y) w
 |_=>False
def Ma:TypeDesc->Bool
 | .interface _=>true
 |_=>false
def gm (P:Program)(u:TypeId)(x:Value):Option Value:=match x with
 | .iface t v=>match P.underlying u with
  |some d=>match Ma d,Nat.beq t u with
   |false,true=>some v
   |_,_=>none
  |none=>none
 |_=>none
def DI:List Value->Bool
 |[]=>true
 | .int _ _::r=>DI r
 |_=>false
def SL (P:Program)(F:Fx)(q:Bool)(E:Env)(o:Oper)(w:World)(K:Value->World->Prop):Prop:=
 let dp:Prop:=Out P K ((execOp E.Ag o).run P w)
 let dn:Prop:=match q with
  |true=>False
  |false=>Out P K ((execOp E.Ag o).run P w)
 match o.op with
 | .move _| .assign _| .pick .. | .unOp .. | .extract .. | .field .. | .build ..=>dp
 | .load t x=>yz P t (E.Ag x) w fun v=>K v w
 | .store t x y=>match q with
  |true=>False
  |false=>stV P t (E.Ag x) (E.Ag y) w fun w'=>K undef w'
 | .nilCheck x=>match E.Ag x with
  | .pointer p=>Nn p fun a=>K (.pointer (some a)) w
  |_=>dn
 | .fieldAddr t x f=>fdV P t (E.Ag x) f (fun v=>K v w) dn
 | .binOp op t x y _=>wU P op t (isC y) (E.Ag x) (E.Ag y) (fun v=>K v w) (match sameKind (E.Ag x) (E.Ag y)with
   |true=>dp
   |false=>dn)
   (MZ P q o.type (do eqGuard op t x y (E.Ag x) (E.Ag y);binOp op t (E.Ag x) (E.Ag y)) w K)
 | .index t x i=>wV P t (isC i) (E.Ag x) (E.Ag i) (fun v=>K v w) dp
 | .indexAddr t x i=>wW P t (isC i) (E.Ag x) (E.Ag i) (fun v=>K v w) dp
 | .slice t x lo hi mx=>slV P t (E.Ag x) (lo.map E.Ag) (hi.map E.Ag) (mx.map E.Ag) (fun v=>K v w) dp
 | .call c=>match c.callee with
  | .value f=>match q,E.Ag f with
   |false,.func (.func g) first captured=>Bs P F g ((first++(c.args.map E.Ag))++captured) w K
   |_,_=>dn
  | .builtin .append=>MZ P q o.type (Builtin.append_ c.argTypes o.type (c.args.map E.Ag)) w K
  | .builtin .copy=>MZ P q o.type (Builtin.copy_ c.argTypes o.type (c.args.map E.Ag)) w K
  | .builtin .clear=>MZ P q o.type (Builtin.clear_ c.argTypes o.type (c.args.map E.Ag)) w K
  | .builtin .delete=>MZ P q o.type (Builtin.delete_ c.argTypes o.type (c.args.map E.Ag)) w K
  | .builtin .len=>match c.args[0]?.map E.Ag with
   |some (.string _)=>dp
   |some (.slice _ _ _)=>dp
   |some (.map _)=>MZ P q o.type (Builtin.len_ c.argTypes o.type (c.args.map E.Ag)) w K
   |_=>dn
  | .builtin .cap=>match c.args[0]?.map E.Ag with
   |some (.slice _ _ _)=>dp
   |_=>dn
  | .builtin .min=>match DI (c.args.map E.Ag).toList with
   |true=>dp
   |false=>dn
  | .builtin .max=>match DI (c.args.map E.Ag).toList with
   |true=>dp
   |false=>dn
  |_=>dn
 | .convert src dst x=>match E.Ag x with
  | .int _ _=>match P.underlying dst with
   |some (.int _)=>dp
   |_=>dn
  |x'=>MZ P q o.type (convert src dst x') w K
 | .panic x=>match q with
  |false=>gl F.pk (E.Ag x) w
  |true=>False
 | .makeSlice t l c=>MZ P q o.type (Instr.makeSlice t (E.Ag l) (E.Ag c)) w K
 | .lookup t x i ok=>match ok with
  |false=>MZ P q o.type (Instr.lookup t (E.Ag x) (E.Ag i) false) w K
  |true=>match q,P.underlying t with
   |false,some (.map _ e)=>exT (IZ P e) fun v=>∃b:Bool,∃w',Ai P (Instr.lookup t (E.Ag x) (E.Ag i) true) w (.tuple #[v,.bool b]) w'/\K (.tuple #[v,.bool b]) w'
   |_,_=>dn
 | .range t x=>match q,E.Ag x,P.underlying t with
  |false,.string s,some .string=>Nw w (.stringIter s 0) fun w'=>K (.pointer (some ⟨w.heap.size,0,none⟩)) w'
  |false,.map m,some (.map _ _)=>∃(a:Addr) (w':World),Ai P (Instr.range t (.map m)) w (.pointer (some a)) w'/\K (.pointer (some a)) w'
  |_,_,_=>dn
 | .next it str=>match q,str,E.Ag it with
  |false,true,.pointer (some a)=>Nx w a (fun i c w'=>K (.tuple #[.bool true,.int .i64 i,.int .i32 c]) w') (K (.tuple #[.bool false]) w)
  |false,false,.pointer (some a)=>(∃w',Ai P (Instr.next (.pointer (some a)) false o.type) w (.tuple #[.bool false]) w'/\K (.tuple #[.bool false]) w')\/∃k e:Value,∃w',Ai P (Instr.next (.pointer (some a)) false o.type) w (.tuple #[.bool true,k,e]) w'/\K (.tuple #[.bool true,k,e]) w'
  |_,_,_=>dn
 | .mapUpdate t m k x=>match q with
  |true=>False
  |false=>ADJ P (Instr.mapUpdate t (E.Ag m) (E.Ag k) (E.Ag x)) w K
 | .typeAssert x t u ok=>match ok with
  |false=>MZ P q u (Instr.typeAssert (E.Ag x) t u false) w K
  |true=>match q with
   |true=>False
   |false=>match gm P u (E.Ag x)with
    |some v=>K (.tuple #[v,.bool true]) w
    |none=>exT (IZ P u) fun v=>∃b:Bool,∃w',Ai P (Instr.typeAssert (E.Ag x) t u true) w (.tuple #[v,.bool b]) w'/\K (.tuple #[v,.bool b]) w'
 |_=>dn
def j2 (ops:Array Oper)(E:Env)(o:Oper)(yes no:Env->Prop):Prop:=match o.guard with
 |none=>yes E
 |some (j,want)=>match (ops[j]?).bind (·.dst)with
  |some s=>match E.get? s with
   |some (.bool b)=>match want with
    |true=>Br b (yes ((s,.bool true)::E)) (no ((s,.bool false)::E))
    |false=>Br b (no ((s,.bool true)::E)) (yes ((s,.bool false)::E))
   |some (.tuple _)=>no E
   |_=>False
  |none=>False
def pZ:Op->Bool
 | .select ..=>false
 |_=>true
def hasAll (E:Env)(op:Op):Bool:=pZ op&&op.operands.toList.all E.has
def FB (P:Program):Op->Bool
 | .move _| .assign _| .pick .. | .load .. | .nilCheck _| .unOp .. | .fieldAddr .. | .field .. | .index .. | .indexAddr .. | .slice .. | .extract .. | .binOp .. | .build ..=>true
 | .convert src dst _=>match P.underlying src,P.underlying dst with
  |some (.int _),some (.int _)=>true
  |_,_=>false
 | .call c=>match c.callee with
  | .builtin .len| .builtin .cap| .builtin .min| .builtin .max=>true
  |_=>false
 |_=>false
def FC (P:Program)(F:Fx)(q:Bool)(ops:Array Oper):List Oper->Env->World->(Env->World->Prop)->Prop
 |[],E,w,K=>K E w
 |o::r,E,w,K=>j2 ops E o
   (fun E=>match hasAll E o.op&&(!q||FB P o.op)with
    |true=>SL P F q E o w fun v w'=>FC P F q ops r (E.put o.dst v) w' K
    |false=>False)
   (fun E=>FC P F q ops r (E.put o.dst undef) w K)
def Wy (P:Program)(t:TypeId):List Ty:=match P.underlying t with
 |some (.tuple ts)=>ts.toList.map (IZ P)
 |_=>[IZ P t]
def Dy (P:Program)(ok:Nat->Bool)(ts:List Ty)(f:Value)(args:Array Value)(w:World)(K:Sg ts->World->Prop)(pk:Value->World->Prop):Prop:=
 ∃g first captured,f= .func (.func g) first captured/\(ok g&&(P.funcs[g]?).isSome)=true/\Calls P g ((first++args)++captured) w fun e w'=>(∃s:Sg ts,e= .returned (Bs.DW (Sg.DV ts s))/\K s w')\/∃v,e= .panicked (AV v)/\pk v w'
def ANF (v:Value)(K:Fn->Array Value->Array Value->Prop):Prop:=∃f a c,v= .func f a c/\K f a c
def gq (ρ:Operand->Value):List (Nat×Operand)->(List (Nat×Value)->Prop)->Prop
 |[],K=>K []
 |p::r,K=>ANF (ρ p.2) fun f a c=>gq ρ r fun l=>K ((p.1,.func f a c)::l)
def ADL (ops:Array Oper)(d:Option Nat)(i:Nat):Option TypeId:=ops.toList.findSome? fun o=>match o.op,d with
 | .extract (.tmp t) j,some d=>match Nat.beq t d&&Nat.beq j i with
  |true=>some o.type
  |false=>none
 |_,_=>none
def ADM (P:Program)(ops:Array Oper)(o:Oper)(i:Nat):Ty:=match ADL ops o.dst i with
 |some t=>IZ P t
 |none=> .one .raw
def ADN:TypeDesc->Bool
 | .func ..=>true
 |_=>false
def wX (P:Program)(t:TypeId):Bool:=match P.underlying t with
 |some (.struct fs)=>fs.toList.all fun f=>match P.underlying f.type with
  |some d=>ADN d
  |none=>false
 |_=>false
def y9 (P:Program)(F:Fx)(ops:Array Oper)(E:Env)(o:Oper)(w:World)(K:Value->World->Prop):Prop:=match o.op with
 | .entry it=>match E.Ag it with
  | .pointer (some a)=>exT (ADM P ops o 0) fun k=>exT (ADM P ops o 1) fun e=>∃w',Ai P (Instr.entry (.pointer (some a))) w (.tuple #[k,e]) w'/\K (.tuple #[k,e]) w'
  |_=>SL P F false E o w K
 | .build t parts=>match wX P t with
  |true=>gq E.Ag parts.toList fun l=>Out P K ((do pure (Next.value (<-Instr.build t l.toArray)):Sem Next).run P w)
  |false=>SL P F false E o w K
 | .call c=>match c.callee with
  | .value (.tmp t)=>Dy P F.ok (Wy P o.type) (E.Ag (.tmp t)) (c.args.map E.Ag) w (fun s w'=>K (Bs.DW (Sg.DV (Wy P o.type) s)) w') F.pk
  |_=>SL P F false E o w K
 |_=>SL P F false E o w K
def gr (P:Program)(F:Fx)(ops:Array Oper):List Oper->Env->World->(Env->World->Prop)->Prop
 |[],E,w,K=>K E w
 |o::r,E,w,K=>j2 ops E o
   (fun E=>match hasAll E o.op with
    |true=>y9 P F ops E o w fun v w'=>gr P F ops r (E.put o.dst v) w' K
    |false=>False)
   (fun E=>gr P F ops r (E.put o.dst undef) w K)
def wY (S:World->Prop)(a:Addr):Nat->List Da->(List Value->Prop)->Prop
 |_,[],K=>K []
 |i,t::ts,K=>AU S (a.add i) t.v fun x=>wY S a (i+1) ts fun l=>K (t.v x::l)
def ldQ (P:Program)(S:World->Prop)(t:TypeId)(x:Value)(K:Value->Prop):Prop:=match x with
 | .pointer (some a)=>match P.underlying t,Kh P t with
  |some d,some n=>match DH (some d)with
   |false=>AU S a (mz d).v fun x=>K ((mz d).v x)
   |true=>match IZ P t with
    | .agg ts=>match Nat.beq ts.length n with
     |true=>wY S a 0 ts fun l=>K (.agg l.toArray)
     |false=>False
    | .one _=>∃x:Array Value,(∀w,S w->Ai P (loadVar t a) w (.agg x) w)/\K (.agg x)
  |_,_=>False
 |_=>False
def opQ (P:Program)(F:Fx)(S:World->Prop)(E:Env)(o:Oper)(w:World)(K:Value->Prop):Prop:=match o.op with
 | .load t x=>ldQ P S t (E.Ag x) K
 |_=>SL P F true E o w fun v _=>K v
inductive Od where
 |done
 |take (i:Nat) (r:Od)
 |A4 (i:Nat) (fl:Option (List Nat)) (r:Od)
 |FV (i:Nat) (fl:Option (List Nat)) (r more:Od)
 |mono (js:List Nat) (r:Od)
def Mb:Op->Bool
 | .load ..=>true
 |_=>false
def gw (ops:Array Oper)(i:Nat):Bool:=match ops[i]? with
 |some o=>Mb o.op
 |none=>false
def Od.Ia(ops:Array Oper):Od->Bool
 | .done=>false
 | .take i r=>gw ops i||r.Ia ops
 | .A4 _ (some _) _=>false
 | .A4 _ none r=>r.Ia ops
 | .FV _ (some _) _ m=>m.Ia ops
 | .FV _ none r m=>r.Ia ops||m.Ia ops
 | .mono _ r=>r.Ia ops
def Od.depth:Od->Nat
 | .done=>0
 | .take _ r=>r.depth+1
 | .A4 _ _ r=>r.depth+1
 | .FV _ _ r m=>max (r.depth+1) m.depth
 | .mono js r=>r.depth+js.length
def KF (e:List Edge)(m:Array Bool):Array Bool:=e.foldl (fun m e=>match Region.binds .any e with
 |true=>m.setIfInBounds e.on true
 |false=>m) m
def Yu (ops:Array Oper):Nat->Array Bool->Array Bool
 |0,m=>m
 |k+1,m=>Yu ops k (match m.getD k false,ops[k]? with
  |true,some o=>KF o.after.toList m
  |_,_=>m)
def pc (ops:Array Oper)(j i:Nat):Bool:=match ops[j]? with
 |some o=>(Yu ops j (KF o.after.toList (Array.replicate ops.size false))).getD i false
 |none=>false
def zA (lo:Bool)(w:World)(k:(World->Prop)->Prop):Prop:=match lo with
 |true=>∃S:World->Prop,S w/\k S
 |false=>k fun _=>True
def nB (P:Program)(F:Fx)(ops:Array Oper)(J:List Nat)(S:World->Prop)(i:Nat)(fl:Option (List Nat))(lo:Bool)(E:Env)(w:World)(o:Oper)
  (k:(World->Prop)->Env->World->Prop):Prop:=match fl,J.contains i with
 |none,false=>j2 ops E o
  (fun E=>match hasAll E o.op with
   |true=>SL P F false E o w fun v w'=>S w'/\k S (E.put o.dst v) w'
   |false=>False)
  (fun E=>k S (E.put o.dst undef) w)
 |some _,true=>j2 ops E o
  (fun E=>match hasAll E o.op with
   |true=>SL P F false E o w fun v w'=>zA lo w' fun S=>k S (E.put o.dst v) w'
   |false=>False)
  (fun E=>zA lo w fun S=>k S (E.put o.dst undef) w)
 |_,_=>False
structure CC where
 j:Nat
 dst:Nat
 ty:Ty
 G:ty.T->World->Prop
def gz (P:Program)(o:Oper):Ty:=match o.op with
 | .indexAddr ..=> .one .addr
 | .fieldAddr ..=> .one .addr
 |_=>IZ P o.type
def Wz (P:Program)(ops:Array Oper)(le:World->World->Prop):List Nat->List CC->(List CC->Prop)->Prop
 |[],acc,k=>k acc
 |j::js,acc,k=>match ops[j]? with
  |some o=>match o.dst with
   |some d=>∃G:(gz P o).T->World->Prop,(∀x w w',le w w'->G x w->G x w')/\Wz P ops le js (acc++[⟨j,d,gz P o,G⟩]) k
   |none=>False
  |none=>False
def Ib (op:Op)(d:Nat):Bool:=op.operands.toList.any fun x=>match x with
 | .tmp t=>Nat.beq t d
 |_=>false
def OI (o:Oper):List CC->Env->World->(Env->Prop)->Prop
 |[],E,_,k=>k E
 |e::r,E,w,k=>match Ib o.op e.dst with
  |true=>∀x:e.ty.T,e.G x w->OI o r (E.put (some e.dst) (e.ty.v x)) w k
  |false=>OI o r E w k
def Ic:List CC->Env->World->(Env->Prop)->Prop
 |[],E,_,k=>k E
 |e::r,E,w,k=>∀x:e.ty.T,e.G x w->Ic r (E.put (some e.dst) (e.ty.v x)) w k
def W0 (P:Program)(F:Fx)(ops:Array Oper)(S:World->Prop)(le:World->World->Prop)(B:World->Prop)(E:Env)(all:List CC):List CC->Prop
 |[]=>True
 |e::r=>(match ops[e.j]? with
  |some o=>∀w,S w->B w->OI o all E w fun E'=>match hasAll E' o.op with
   |true=>SL P F false E' o w fun v w'=>S w'/\B w'/\le w w'/\∃x:e.ty.T,v=e.ty.v x/\e.G x w'
   |false=>False
  |none=>False)/\W0 P F ops S le B E all r
def CE (listed:Array Bool):List Nat->Array Bool
 |[]=>listed
 |j::js=>CE (listed.setIfInBounds j true) js
def FN (ops:Array Oper)(j:Nat):Nat:=match (ops[j]?).bind (·.dst)with
 |some d=>d
 |none=>0
def W3 (x:Nat):List Nat->Bool
 |[]=>true
 |y::r=> !Nat.beq x y&&W3 x r
def distinct:List Nat->Bool
 |[]=>true
 |x::r=>W3 x r&&distinct r
def P7 (ops:Array Oper)(listed:Array Bool)(js:List Nat)(E:Env):Bool:=
 distinct js&&distinct (js.map (FN ops))&&
 (js.all fun j=>match ops[j]? with
  |some o=>o.guard.isNone&&o.dst.isSome&& !(listed.getD j true)&& !(E.get? (FN ops j)).isSome&&
   (o.after.toList.all fun e=> !Region.binds .any e||listed.getD e.on false||(js.contains e.on&&Nat.blt e.on j))&&
   (js.all fun j'=> !Ib o.op (FN ops j')||o.after.toList.any fun e=>Region.binds .any e&&Nat.beq e.on j')
  |none=>false)&&
 ((List.range ops.size).all fun k=>listed.getD k true||js.contains k||js.all fun j=>pc ops k j)
def GF (ops:Array Oper):Od->List Nat->List Nat->Array Bool->Bool
 | .done,pre,_,listed=>pre.isEmpty&&(Region.ready .any ops listed).isEmpty
 | .take i r,pre,J,listed=>match ops[i]? with
  |none=>false
  |some o=>pre.isEmpty&&(Region.free .any ops listed i&&(Region.ready .any ops listed).contains i)&&(!Mb o.op||J.all fun j=>pc ops j i)&&GF ops r [] J (listed.setIfInBounds i true)
 | .A4 i fl r,pre,J,listed=>Region.ready .any ops listed==pre++[i]&&GF ops r [] (fl.getD J) (listed.setIfInBounds i true)
 | .FV i fl r more,pre,J,listed=>GF ops r [] (fl.getD J) (listed.setIfInBounds i true)&&GF ops more (pre++[i]) J listed
 | .mono js r,pre,J,listed=>pre.isEmpty&&(js.all fun j=> !J.contains j)&&GF ops r [] J (CE listed js)
def hasB (m i:Nat):Bool:=Nat.beq (Nat.land (Nat.shiftRight m i) 1) 1
def P8 (m i:Nat):Nat:=Nat.lor m (Nat.shiftLeft 1 i)
def OJ:List Edge->Nat->Nat
 |[],m=>m
 |e::r,m=>match Region.binds .any e with
  |true=>OJ r (P8 m e.on)
  |false=>OJ r m
def SM (ops:Array Oper):Nat->Nat->Nat
 |0,m=>m
 |k+1,m=>match hasB m k,ops[k]? with
  |true,some o=>SM ops k (OJ o.after.toList m)
  |_,_=>SM ops k m
def wZ (ops:Array Oper)(j:Nat):Nat:=match ops[j]? with
 |some o=>SM ops j (OJ o.after.toList 0)
 |none=>0
def GZ (m:Nat):List Edge->Bool
 |[]=>true
 |e::r=>match Region.binds .any e with
  |true=>hasB m e.on&&GZ m r
  |false=>GZ m r
def GG (m k:Nat)(o:Oper):Bool:= !hasB m k&&GZ m o.after.toList
def FD (m:Nat):List Oper->Nat->List Nat
 |[],_=>[]
 |o::r,k=>match GG m k o with
  |true=>k::FD m r (k+1)
  |false=>FD m r (k+1)
def Mc (ops:Array Oper)(m i:Nat)(oi:Oper):List Oper->Nat->Bool
 |[],_=>true
 |o::r,j=>(Nat.beq j i||hasB m j||(o.after.toList.any fun e=>Nat.beq e.on i&&Region.binds .any e)||oi.apart ops o)&&Mc ops m i oi r (j+1)
def Yv:List Nat->List Nat->Bool
 |[],[]=>true
 |x::r,y::q=>Nat.beq x y&&Yv r q
 |_,_=>false
def W4 (m:Nat):List Nat->Nat
 |[]=>m
 |j::js=>W4 (P8 m j) js
def FO (ops:Array Oper):Od->List Nat->List Nat->Nat->Bool
 | .done,pre,_,m=>pre.isEmpty&&(FD m ops.toList 0).isEmpty
 | .take i r,pre,J,m=>match ops[i]? with
  |none=>false
  |some o=>pre.isEmpty&&GG m i o&&Mc ops m i o ops.toList 0&&(!Mb o.op||J.all fun j=>hasB (wZ ops j) i)&&FO ops r [] J (P8 m i)
 | .A4 i fl r,pre,J,m=>Yv (FD m ops.toList 0) (pre++[i])&&FO ops r [] (fl.getD J) (P8 m i)
 | .FV i fl r more,pre,J,m=>Nat.blt i ops.size&&FO ops r [] (fl.getD J) (P8 m i)&&FO ops more (pre++[i]) J m
 | .mono js r,pre,J,m=>pre.isEmpty&&(js.all fun j=> !J.contains j&&Nat.blt j ops.size)&&FO ops r [] J (W4 m js)
def Du (P:Program)(F:Fx)(ops:Array Oper):Od->List Nat->(World->Prop)->Array Bool->Env->World->(Env->World->Prop)->Prop
 | .done,_,_,_,E,w,K=>K E w
 | .take i r,J,S,listed,E,w,K=>match ops[i]? with
  |none=>False
  |some o=>j2 ops E o
    (fun E=>match hasAll E o.op&&FB P o.op with
     |true=>opQ P F S E o w fun v=>Du P F ops r J S (listed.setIfInBounds i true) (E.put o.dst v) w K
     |false=>False)
    (fun E=>Du P F ops r J S (listed.setIfInBounds i true) (E.put o.dst undef) w K)
 | .A4 i fl r,J,S,listed,E,w,K=>match ops[i]? with
  |none=>False
  |some o=>nB P F ops J S i fl (r.Ia ops) E w o fun S E w=>Du P F ops r (fl.getD J) S (listed.setIfInBounds i true) E w K
 | .FV i fl r more,J,S,listed,E,w,K=>match ops[i]? with
  |none=>False
  |some o=>nB P F ops J S i fl (r.Ia ops) E w o (fun S E w=>Du P F ops r (fl.getD J) S (listed.setIfInBounds i true) E w K)/\Du P F ops more J S listed E w K
 | .mono js r,J,S,listed,E,w,K=>match P7 ops listed js E with
  |true=>∃(le:World->World->Prop) (B:World->Prop),B w/\Wz P ops le js [] fun Gs=>
    W0 P F ops S le B E Gs Gs/\∀w,S w->B w->Ic Gs E w fun E=>Du P F ops r J S (CE listed js) E w K
  |false=>False
inductive SN where
 |seq|still|tail (n:Nat)|held (J:List Nat) (o:Od)|dyn|tailD (n:Nat)
def wa (P:Program)(F:Fx)(m:SN)(ops:Array Oper)(d:Bool)(E:Env)(w:World)(K:Env->World->Prop):Prop:=
 match d,m with
 |false,.seq=>FC P F false ops ops.toList E w K
 |true,.still=>match Region.lexB .any ops with
  |true=>FC P F true ops ops.toList E w.drew K
  |false=>False
 |true,.tail n=>match Region.lexTailB .any ops n with
  |true=>FC P F true ops (ops.toList.take n) E w.drew fun E w=>FC P F false ops (ops.toList.drop n) E w K
  |false=>False
 |true,.held J o=>match Region.noSelect ops&&Nat.ble o.depth ops.size&&FO ops o [] J 0 with
  |true=>zA (o.Ia ops) w.drew fun S=>Du P F ops o J S (Array.replicate ops.size false) E w.drew K
  |false=>False
 |false,.dyn=>gr P F ops ops.toList E w K
 |true,.tailD n=>match Region.lexTailB .any ops n with
  |true=>FC P F true ops (ops.toList.take n) E w.drew fun E w=>gr P F ops (ops.toList.drop n) E w K
  |false=>False
 |_,_=>False
inductive Aa where
 |A7 (m:SN)
 |leaf
 |seq (a b:Aa)
 |join (live:List (Nat×Ty)) (AB:List Nat) (a b:Aa)
 |cond (a b:Aa)
 |block (a:Aa)
 |loop (live:List (Nat×Ty)) (AB:List Nat) (a:Aa)
abbrev Aa.q(a:Aa):Aa:= .seq (.A7 .seq) a
abbrev Aa.l:Aa:= .leaf
abbrev Aa.r:Aa:= .A7 .seq
abbrev Aa.s(a b:Aa):Aa:= .seq a b
abbrev Aa.c(a b:Aa):Aa:= .cond a b
abbrev Aa.b(a:Aa):Aa:= .block a
abbrev Aa.o(live:List (Nat×Ty))(AB:List Nat)(a:Aa):Aa:= .loop live AB a
def wr (t:Nat):Code->Bool
 | .region _ ops _=>ops.toList.any fun o=>match o.dst with
  |some d=>Nat.beq d t
  |none=>false
 | .seq a b=>wr t a||wr t b
 | .cond _ a b=>wr t a||wr t b
 | .block _ a=>wr t a
 | .loop a=>wr t a
 | .skip| .exit _| .ret| .label _=>false
 |_=>true
def Cq (AB:List Nat)(c:Code):Bool:=AB.all fun t=> !wr t c
def As {σ:Type}(body:σ->World->Prop)(front:(σ->World->Prop)->Prop):Prop:=
 ∃J:σ->World->Prop,(∀s w,J s w->body s w)/\front J
def Lp {σ:Type}(B:(σ->World->Prop)->σ->World->Prop)(s0:σ)(w0:World):Prop:=
 ∃(I:Nat->σ->World->Prop) (n0:Nat),I n0 s0 w0/\∀n s w,I n s w->B (fun s' w'=>∃n',n'<n/\I n' s' w') s w
def EC (live:List (Nat×Ty))(E:Env)(K:Sg (live.map (·.2))->Prop):Prop:=
 match Env.DV E (live.map (·.1))with
 |some vs=>match Sg.get? (live.map (·.2)) vs with
  |some s=>K s
  |none=>False
 |none=>False
def ED (live:List (Nat×Ty))(s:Sg (live.map (·.2))):Env:=Env.zip (live.map (·.1)) (Sg.DV (live.map (·.2)) s)
def BZ (P:Program)(F:Fx):Aa->Code->Env->World->(Exit->Env->World->Prop)->Prop
 | .A7 m,.region _ ops d,E,w,K=>wa P F m ops d E w fun E w=>K .normal E w
 | .leaf,.skip,E,w,K=>K .normal E w
 | .leaf,.label _,E,w,K=>K .normal E w
 | .leaf,.exit id,E,w,K=>K (.exit id) E w
 | .leaf,.ret,E,w,K=>K .ret E w
 | .seq p q,.seq c d,E,w,K=>BZ P F p c E w fun e E w=>match e with
  | .normal=>BZ P F q d E w K
  |e=>K e E w
 | .join live AB p q,.seq c d,E,w,K=>match Cq AB c with
  |true=>As (fun s w=>BZ P F q d (ED live s++Env.AB E AB) w K) fun J=>BZ P F p c E w fun e E w=>match e with
   | .normal=>EC live E fun s=>J s w
   |e=>K e E w
  |false=>False
 | .cond p q,.cond x c d,E,w,K=>match E.Ag x with
  | .bool b=>Br b (BZ P F p c E w K) (BZ P F q d E w K)
  |_=>False
 | .block p,.block id c,E,w,K=>BZ P F p c E w fun e E w=>match e with
  | .exit i=>match Nat.beq i id with
   |true=>K .normal E w
   |false=>K (.exit i) E w
  |e=>K e E w
 | .loop live AB p,.loop c,E,w,K=>match Cq AB c with
  |true=>EC live E fun s0=>Lp (fun R s w=>BZ P F p c (ED live s++Env.AB E AB) w fun e E w=>match e with
   | .normal=>EC live E fun s=>R s w
   |e=>K e E w) s0 w
  |false=>False
 |_,_,_,_,_=>False
def NY (P:Program):List ResultVar->Env->World->(List Value->Prop)->Prop
 |[],_,_,K=>K []
 | .tmp t::r,E,w,K=>match E.get? t with
  |some v=>NY P r E w fun l=>K (v::l)
  |none=>False
 | .cell t ty::r,E,w,K=>match E.get? t with
  |some x=>yz P ty x w fun v=>NY P r E w fun l=>K (v::l)
  |none=>False
def P9:Nat->List Value->Env
 |_,[]=>[]
 |i,v::r=>(i,v)::P9 (i+1) r
def cR (P:Program)(F:Fx)(pl:Aa)(fn:Func)(args:List Value)(w:World)(tys:List Ty)(R:Sg tys->World->Prop):Prop:=
 match fn.body with
 |none=>False
 |some c=>BZ P F pl c (P9 0 args) w fun e E w=>match e with
  | .normal=>NY P fn.results.toList E w fun vs=>match Sg.get? tys vs with
   |some s=>R s w
   |none=>False
  | .ret=>NY P fn.results.toList E w fun vs=>match Sg.get? tys vs with
   |some s=>R s w
   |none=>False
  |_=>False
def VU:Option Value->FrameMode
 |none=> .returning
 |some v=> .panicking (AV v)
def Ga:Option Value->FrameMode
 |none=> .returning
 |some v=> .panicking [{v,recovered:=true}]
def Cw (P:Program)(g:Nat)(args:Array Value)(u:Option Value)(w:World)(R:World->Prop):Prop:=
 CallsD P g args (VU u) w fun e u' w'=>e= .returned (.tuple #[])/\u'=Ga u/\R w'
inductive CR where
 |pre (p:Aa) (r:CR)
 |here (AB:List Nat) (p:Aa)
def FE (P:Program)(fn:Func)(tys:List Ty)(R:Sg tys->World->Prop)(E:Env)(w:World):Prop:=
 NY P fn.results.toList E w fun vs=>match Sg.get? tys vs with
  |some s=>R s w
  |none=>False
def QA:Op->Option Call
 | .defer c=>some c
 |_=>none
def QB:Callee->Option Operand
 | .value f=>some f
 |_=>none
def hU:Value->Option (Nat×Array Value×Array Value)
 | .func (.func g) first captured=>some (g,first,captured)
 |_=>none
def hY (E:Env)(o:Oper)(K:Nat->Array Value->Prop):Prop:=match QA o.op,o.guard,o.dst with
 |some c,none,none=>match QB c.callee with
  |some f=>match hU (E.Ag f),E.has f&&c.args.toList.all E.has with
   |some (g,first,captured),true=>K g ((first++(c.args.map E.Ag))++captured)
   |_,_=>False
  |none=>False
 |_,_,_=>False
def Md (P:Program)(ok:Nat->Bool)(g:Nat):Bool:=match ok g,P.funcs[g]? with
 |true,some _=>true
 |_,_=>false
def wc (P:Program)(ok may:Nat->Bool)(PR:Value->World->Prop)(fn:Func)(tys:List Ty)(R:Sg tys->World->Prop):CR->Code->Env->World->Prop
 | .pre p r,.seq c d,E,w=>BZ P ⟨ok,may,PR⟩ p c E w fun e E w=>match e with
  | .normal=>wc P ok may PR fn tys R r d E w
  | .ret=>FE P fn tys R E w
  |_=>False
 | .here AB p,.seq (.region _ ops false) d,E,w=>FC P ⟨ok,may,PR⟩ false ops ops.toList.dropLast E w fun E w=>match ops.toList.getLast? with
  |some o=>hY E o fun g args=>match Cq AB d&&Md P ok g with
   |true=>BZ P ⟨ok,may,fun v w=>Cw P g args (some v) w fun w'=>FE P fn tys R (Env.AB E AB) w'⟩ p d E w fun e E w=>match e with
    | .normal=>Cw P g args none w fun w'=>FE P fn tys R E w'
    | .ret=>Cw P g args none w fun w'=>FE P fn tys R E w'
    |_=>False
   |false=>False
  |none=>False
 |_,_,_,_=>False
def La (P:Program)(ok may:Nat->Bool)(PR:Value->World->Prop)(pl:CR)(fn:Func)(args:List Value)(w:World)(tys:List Ty)(R:Sg tys->World->Prop):Prop:=
 match fn.body with
 |none=>False
 |some c=>wc P ok may PR fn tys R pl c (P9 0 args) w
def Jo:Op->Bool
 | .call c=>match c.callee with
  | .builtin .recover=>true
  |_=>false
 |_=>false
def ADP:Option Value->Value
 |none=> .nilIface
 |some v=>v
def H7 (P:Program)(ok may:Nat->Bool)(pl:Aa)(fn:Func)(args:List Value)(u:Option Value)(w:World)(R:World->Prop):Prop:=
 match fn.body with
 |some (.seq (.region _ ops false) d)=>match ops.toList with
  |o::r=>match Jo o.op,o.guard,fn.results.toList with
   |true,none,[]=>FC P ⟨ok,may,fun _ _=>False⟩ false ops r ((P9 0 args).put o.dst (ADP u)) w fun E w=>BZ P ⟨ok,may,fun _ _=>False⟩ pl d E w fun e _ w=>match e with
    | .normal=>R w
    | .ret=>R w
    |_=>False
   |_,_,_=>False
  |[]=>False
 |_=>False
end Sh
namespace Sh
theorem Da.Js:∀(t:Da) (v:Value) (x:t.T),t.get? v=some x->t.v x=v
 | .int k,v,x,h=>by
  cases v<;>simp only[Da.get?]at h<;>try (cases h;done)
  rename_i k' n;by_cases e:k'=k
  ·rw[aG e]at h;cases h;subst e;rfl
  ·rw[aA e]at h;cases h
 | .bool,v,x,h=>by cases v<;>simp only[Da.get?]at h<;>cases h<;>rfl
 | .str,v,x,h=>by cases v<;>simp only[Da.get?]at h<;>cases h<;>rfl
 | .ptr,v,x,h=>by cases v<;>simp only[Da.get?]at h<;>cases h<;>rfl
 | .addr,v,x,h=>by
  cases v with
  |pointer p=>
   cases p with
   |none=>cases h
   |some a=>cases h;rfl
  |_=>cases h
 | .BJ,v,x,h=>by cases v<;>simp only[Da.get?]at h<;>cases h<;>rfl
 | .map,v,x,h=>by cases v<;>simp only[Da.get?]at h<;>cases h<;>rfl
 | .raw,v,x,h=>by simp only[Da.get?]at h;cases h;rfl
theorem Aj.Vg(ts:List Da):∀(vs:List Value) (x:Aj ts),Aj.get? ts vs=some x->Aj.cells ts x=vs:=by
 induction ts with
 |nil=>intro vs x h;cases vs with
  |nil=>rfl
  |cons _ _=>cases h
 |cons t ts ih=>cases ts with
  |nil=>intro vs x h;cases vs with
   |nil=>cases h
   |cons v vs=>cases vs with
    |nil=>exact aq (fun y=>[y]) (Da.Js _ _ _ h)
    |cons _ _=>cases h
  |cons u r=>intro vs x h;cases vs with
   |nil=>cases h
   |cons v vs=>
    obtain ⟨a,ha,h1⟩:=bQ.1 h;obtain ⟨b,hb,h2⟩:=bQ.1 h1;rw[<-aQ h2];show t.v a::Aj.cells (u::r) b=v::vs;rw[Da.Js _ _ _ ha,ih _ _ hb]
theorem Ty.Js(t:Ty)(v:Value)(x:t.T)(h:t.get? v=some x):t.v x=v:=by
 cases t with
 |one t=>exact Da.Js _ _ _ h
 |agg ts=>
  cases v with
  |agg cs=>
   show Value.agg (Aj.cells ts x).toArray=_;rw[Aj.Vg _ _ _ h]
  |_=>exact nomatch (show (none:Option (Aj ts))=some x from h)
theorem Sg.OU(ts:List Ty):∀(vs:List Value) (x:Sg ts),Sg.get? ts vs=some x->Sg.DV ts x=vs:=by
 induction ts with
 |nil=>intro vs x h;cases vs with
  |nil=>rfl
  |cons _ _=>cases h
 |cons t ts ih=>cases ts with
  |nil=>intro vs x h;cases vs with
   |nil=>cases h
   |cons v vs=>cases vs with
    |nil=>exact aq (fun y=>[y]) (Ty.Js _ _ _ h)
    |cons _ _=>cases h
  |cons u r=>intro vs x h;cases vs with
   |nil=>cases h
   |cons v vs=>
    obtain ⟨a,ha,h1⟩:=bQ.1 h;obtain ⟨b,hb,h2⟩:=bQ.1 h1;rw[<-aQ h2];show t.v a::Sg.DV (u::r) b=v::vs;rw[Ty.Js _ _ _ ha,ih _ _ hb]
theorem Ij {b:Bool}{A B:Prop}(h:Br b A B):(b=true/\A)\/(b=false/\B):=by
 cases b
 ·exact .inr ⟨rfl,h⟩
 ·exact .inl ⟨rfl,h⟩
theorem beq_eq {a b:Nat}(h:Nat.beq a b=true):a=b:=by simpa using h
structure Fits (N:Nat) (E:Env) (a:Act):Prop where
 size:a.tmps.size=N
 get:∀t v,E.get? t=some v->t<N/\a.tmps.getD t undef=v
theorem EF {α:Type}(xs:Array α)(i:Nat)(v d:α)(h:i<xs.size):(xs.setIfInBounds i v).getD i d=v:=by
 simp[Array.getD,h]
theorem DX {α:Type}(xs:Array α){i j:Nat}(v d:α)(h:i≠j):(xs.setIfInBounds i v).getD j d=xs.getD j d:=by
 simp only[br,Array.getElem?_setIfInBounds];rw[aA h]
theorem Fits.cons{N:Nat}{E:Env}{a:Act}{d:Nat}{v:Value}(h:Fits N E a)(hd:d<N)(hv:a.tmps.getD d undef=v):Fits N ((d,v)::E) a:=by
 refine ⟨h.size,fun t u hu=>?_⟩;simp only[Env.get?]at hu;split at hu
 ·rename_i hb;cases hu;rw[<-beq_eq hb];exact ⟨hd,hv⟩
 ·exact h.get t u hu
theorem Fits.put{N:Nat}{E:Env}{a:Act}{d:Option Tmp}{v:Value}(h:Fits N E a)(hd:∀t,d=some t->t<N):Fits N (E.put d v) (a.put d v):=by
 cases d with
 |none=>exact h
 |some t=>
  refine ⟨by simp[Act.put,h.size],fun u x hx=>?_⟩;simp only[Env.put,Env.get?]at hx;split at hx
  ·rename_i hb;cases hx;have:=beq_eq hb;subst this;exact ⟨hd _ rfl,EF _ _ _ _ (by rw[h.size];exact hd _ rfl)⟩
  ·rename_i hb;have BI:t≠u:=fun e=>by subst e;simp at hb
   exact ⟨(h.get u x hx).1,by simp only[Act.put];rw[DX _ _ _ BI];exact (h.get u x hx).2⟩
theorem put_defers {a:Act}{d:Option Tmp}{v:Value}:(a.put d v).defers=a.defers:=by
 cases d<;>rfl
theorem Ek {a:Act}{d:Option Tmp}{v:Value}{t:Nat}(h:d≠some t):(a.put d v).tmps.getD t undef=a.tmps.getD t undef:=by
 cases d with
 |none=>rfl
 |some u=>simp only[Act.put];rw[DX _ _ _ (fun e=>h (by rw[e]))]
theorem Fits.Ag{N:Nat}{E:Env}{a:Act}(h:Fits N E a){x:Operand}(hx:E.has x=true):a.eval x=E.Ag x:=by
 cases x with
 |tmp t=>
  simp only[Env.has,Option.isSome_iff_exists]at hx;obtain ⟨v,hv⟩:=hx;simp only[Act.eval,Env.Ag,hv];exact (h.get t v hv).2
 |_=>rfl
theorem Ah {N:Nat}{E:Env}{a:Act}(h:Fits N E a){o:Oper}(hx:hasAll E o.op=true):execOp a.eval o=execOp E.Ag o:=by
 simp only[hasAll,ai,aO]at hx;refine execOp_congr o (fun cs b e=>?_) fun x hm=>h.Ag (hx.2 x (by simpa using hm))
 rw[e]at hx;simp[pZ]at hx
section
variable {P:Program} {F:Fx} {E:Env} {w:World} {K:Value->World->Prop}
theorem BP {s:Sem Value}{v:Value}{w':World}(h:s.run P w= .ok v w')(hk:K v w'):Out P K ((do pure (Next.value (<-s)):Sem Next).run P w):=by
 simp only[Sem.run_bind,h,Result.andThen_ok,Sem.run_pure,Out];exact hk
theorem SQ {s:Sem Unit}{w':World}(h:s.run P w= .ok () w')(hk:K undef w'):Out P K ((do s;pure Next.skip:Sem Next).run P w):=by
 simp only[Sem.run_bind,h,Result.andThen_ok,Sem.run_pure,Out];exact hk
theorem Cr {t:TypeId}{d:TypeDesc}(h:P.underlying t=some d):(isAgg t).run P w= .ok (DH (some d)) w:=by
 simp only[isAgg,Sem.run_bind,run_underlying h,Result.andThen_ok];cases d<;>rfl
theorem ZA {t:TypeId}{n:Nat}(h:Kh P t=some n):∃i,P.info? t=some i/\i.size=n:=by
 simpa[Kh]using h
theorem An {t:TypeId}{n:Nat}(h:Kh P t=some n):(sizeOf t).run P w= .ok n w:=by
 obtain ⟨i,hi,rfl⟩:=ZA h;simp[sizeOf,run_typeInfo w hi]
theorem KL {a:Addr}{v:Value}(h:w.cell? a=some v):(load a).run P w= .ok v w:=by
 simp[load,Sem.run,h]
theorem XD {a:Addr}{K:List Value->Prop}:∀(ts:List Da) (i:Nat),ldL w a i ts K->∃l:List Value,l.length=ts.length/\(∀j v,l[j]?=some v->w.cell? (a.add (i+j))=some v)/\K l
 |[],_,h=>⟨[],rfl,by simp,h⟩
 |t::ts,i,h=>by
  obtain ⟨x,hx,hr⟩:=h;obtain ⟨l,h1,h2,h3⟩:=XD ts (i+1) hr;refine ⟨t.v x::l,by simp[h1],fun j v hj=>?_,h3⟩;cases j with
  |zero=>simp at hj;subst hj;simpa using hx
  |succ j=>have:=h2 j v (by simpa using hj);rw[show i+(j+1)=i+1+j by omega];exact this
theorem QE {t:TypeId}{x:Value}{K:Value->Prop}(h:yz P t x w K):∃v,(Instr.loadAt t x).run P w= .ok v w/\K v:=by
 unfold yz at h;split at h
 ·rename_i a;have e:∀v,(loadVar t a).run P w= .ok v w->(Instr.loadAt t (.pointer (some a))).run P w= .ok v w:=fun v hv=>by
   simp only[Instr.loadAt,Instr.sureAddr,Sem.run_bind,Sem.run_pure,Result.andThen_ok];exact hv
  split at h
  ·rename_i d n hd hn;have ha:=Cr (P:=P) (w:=w) hd;split at h
   ·rename_i hf;obtain ⟨x,hx,hk⟩:=h;refine ⟨_,e _ ?_,hk⟩;simp only[loadVar,Sem.run_bind,ha,hf,Result.andThen_ok,bu,if_false,KL hx]
   ·rename_i ht;split at h
    ·rename_i ts _;split at h
     ·rename_i hlen;obtain ⟨l,h1,h2,h3⟩:=XD ts 0 h;refine ⟨_,e _ ?_,h3⟩;have hl:l.length=n:=by rw[h1];exact beq_eq hlen
      have:=run_loadCells_list (P:=P) w a l (fun j v hj=>by simpa using h2 j v hj);simp only[loadVar,Sem.run_bind,ha,ht,Result.andThen_ok,if_true,An hn,<-hl,this,Sem.run_pure]
     ·exact h.elim
    ·obtain ⟨x,hx,hk⟩:=h;exact ⟨.agg x,e _ hx,hk⟩
  ·exact h.elim
 ·exact h.elim
theorem Ip {a:Addr}{v:Value}(h:V3 w a)(hv:gk v=true):(store a v).run P w= .ok () (w.setCell a v):=by
 obtain ⟨⟨o,ho⟩,hf⟩:=h;cases v<;>simp[gk]at hv<;>simp[store,Sem.run,ho,hf]
theorem XE {a:Addr}{K:World->Prop}:∀(vs:List Value) (i:Nat) (w:World),yJ a i vs w K->∃w',(storeCells a vs i).run P w= .ok () w'/\K w'
 |[],_,w,h=>⟨w,by simp[storeCells],h⟩
 |v::r,i,w,h=>by
  rcases Ij h with ⟨hv,hc,hr⟩|⟨_,hn⟩
  ·obtain ⟨w',h1,h2⟩:=XE r (i+1) _ hr;exact ⟨w',by simp only[storeCells,Sem.run_bind,Ip hc hv,Result.andThen_ok];exact h1,h2⟩
  ·exact hn.elim
theorem nE {t:TypeId}{x y:Value}{K:World->Prop}(h:stV P t x y w K):∃w',(Instr.storeAt t x y).run P w= .ok () w'/\K w':=by
 unfold stV at h;split at h
 ·rename_i a;have e:∀w',(storeVar t a y).run P w= .ok () w'->(Instr.storeAt t (.pointer (some a)) y).run P w= .ok () w':=fun v hv=>by
   simp only[Instr.storeAt,Instr.sureAddr,Sem.run_bind,Sem.run_pure,Result.andThen_ok];exact hv
  split at h
  ·rename_i d n hd hn;split at h
   ·split at h
    ·rename_i Tf;rcases Ij h with ⟨hv,hc,hk⟩|⟨_,hf⟩
     ·refine ⟨_,e _ ?_,hk⟩;have h1:y.cells=#[y]:=by cases y<;>simp[gk]at hv<;>rfl
      have h2:n=1:=beq_eq Tf;subst h2;have hs:(store (a.add 0) y).run P w= .ok () (w.setCell a y):=by simpa[Addr.add]using Ip (P:=P) hc hv
      simp only[storeVar,Sem.run_bind,An hn,Result.andThen_ok,h1];simp[storeCells,hs]
     ·exact hf.elim
    ·exact h.elim
   ·split at h
    ·rename_i cs;split at h
     ·rename_i hlen;obtain ⟨w',h1,h2⟩:=XE (P:=P) _ _ _ h;refine ⟨w',e _ ?_,h2⟩;have hl:cs.size=n:=beq_eq hlen;simp only[storeVar,Sem.run_bind,An hn,Result.andThen_ok,Value.cells,hl];simpa using h1
     ·exact h.elim
    ·obtain ⟨w',h1,h2⟩:=h;exact ⟨w',e _ h1,h2⟩
  ·exact h.elim
 ·exact h.elim
theorem B6 {t:TypeId}{s:Sem Value}(h:MZ P false t s w K):Out P K ((do pure (Next.value (<-s)):Sem Next).run P w):=by
 obtain ⟨x,w',hr,hk⟩:=h;exact BP hr hk
theorem iK {s:Sem Unit}(h:ADJ P s w K):Out P K ((do s;pure Next.skip:Sem Next).run P w):=by
 obtain ⟨w',hr,hk⟩:=h;exact SQ hr hk
end
end Sh
namespace Sh
def Pu {α:Type}(s:Sem α):Prop:=∀(P:Program) (w:World) (x:α) (w':World),s.run P w= .ok x w'->w'=w/\∀w2,s.run P w2= .ok x w2
theorem Pu.pure{α:Type}(a:α):Pu (Pure.pure a:Sem α):=by
 intro P w x w' h;simp only[Sem.run_pure,Result.ok.injEq]at h;obtain ⟨rfl,rfl⟩:=h;exact ⟨rfl,fun _=>rfl⟩
theorem Pu.never{α:Type}{s:Sem α}(h:∀P w,∃x w',s.run P w= .halt x w'):Pu s:=by
 intro P w x w' hr;obtain ⟨y,BB,hy⟩:=h P w;rw[hy]at hr;cases hr
theorem Pu.stuck{α:Type}(t:String):Pu (Go.stuck t:Sem α):=Pu.never fun _ w=>⟨_,w,rfl⟩
theorem Pu.unsupported{α:Type}(t:Unsupported):Pu (Go.unsupported t:Sem α):=Pu.never fun _ w=>⟨_,w,rfl⟩
theorem Pu.bounds{α:Type}(k:IntKind)(x y:Int)(c:BoundsCode):Pu (boundsPanic k x y c:Sem α):=Pu.never fun P w=>by
 obtain ⟨s,w',h⟩:=run_boundsPanic (P:=P) (w:=w) (α:=α) k x y c;exact ⟨_,w',h⟩
theorem Pu.bind{α β:Type}{s:Sem α}{f:α->Sem β}(h:Pu s)(hf:∀a,Pu (f a)):Pu (s>>=f):=by
 intro P w x w' hr;simp only[Sem.run_bind]at hr;cases e:s.run P w with
 |halt y BB=>rw[e]at hr;simp[Result.andThen]at hr
 |ok a BB=>
  rw[e]at hr;simp only[Result.andThen_ok]at hr;obtain ⟨rfl,h1⟩:=h P w a BB e;obtain ⟨rfl,h2⟩:=hf a P BB x w' hr;exact ⟨rfl,fun w2=>by simp only[Sem.run_bind,h1 w2,Result.andThen_ok,h2 w2]⟩
theorem Pu.program:Pu Go.program:=by
 intro P w x w' h;simp only[run_program,Result.ok.injEq]at h;obtain ⟨rfl,rfl⟩:=h;exact ⟨rfl,fun _=>rfl⟩
theorem Pu.error{α:Type}(m:String):Pu (runtimePanic (.error m):Sem α):=Pu.never fun _ w=>⟨_,w,rfl⟩
theorem Pu.typeInfo(t:TypeId):Pu (Go.typeInfo t):=Pu.bind Pu.program fun _=>by
 split
 ·exact Pu.pure _
 ·exact Pu.stuck _
theorem Pu.underlying(t:TypeId):Pu (Go.underlying t):=Pu.bind Pu.program fun _=>by
 split
 ·exact Pu.pure _
 ·exact Pu.stuck _
theorem Pu.zeroValue(t:TypeId):Pu (Go.zeroValue t):=by
 unfold Go.zeroValue;refine Pu.bind (Pu.typeInfo t) fun i=>?_
 split
 ·exact Pu.pure _
 ·first|exact Pu.stuck _|exact Pu.unsupported _
theorem Pu.sizeOf(t:TypeId):Pu (Go.sizeOf t):=Pu.bind (Pu.typeInfo t) fun _=>Pu.pure _
theorem Pu.isAgg(t:TypeId):Pu (Go.isAgg t):=Pu.bind (Pu.underlying t) fun d=>by split<;>exact Pu.pure _
theorem Pu.part(t:TypeId)(cs:Array Value)(o:Nat):Pu (Go.part t cs o):=Pu.bind (Pu.isAgg t) fun b=>by
 split
 ·exact Pu.bind (Pu.sizeOf t) fun _=>Pu.pure _
 ·split
  ·exact Pu.pure _
  ·exact Pu.stuck _
theorem Pu.asIntOf(v:Value):Pu (Go.asIntOf v):=by
 unfold Go.asIntOf;split
 ·exact Pu.pure _
 ·exact Pu.unsupported _
 ·exact Pu.stuck _
theorem Pu.ite{α:Type}{c:Prop}[Decidable c]{s t:Sem α}(h:Pu s)(k:Pu t):Pu (if c then s else t):=by
 split
 ·exact h
 ·exact k
section
variable {P:Program} {F:Fx} {E:Env} {w:World} {K:Value->World->Prop}
theorem iM {s:Sem Value}(hs:Pu s)(h:Out P K ((do pure (Next.value (<-s)):Sem Next).run P w)):
  ∃v,(∀w2,(do pure (Next.value (<-s)):Sem Next).run P w2= .ok (.value v) w2)/\K v w:=by
 simp only[Sem.run_bind]at h⊢;cases e:s.run P w with
 |halt y BB=>rw[e]at h;exact h.elim
 |ok v BB=>
  rw[e]at h;obtain ⟨rfl,h1⟩:=hs P w v BB e;exact ⟨v,fun w2=>by rw[h1 w2];rfl,h⟩
theorem Y2 {s:Sem Next}(h:∃v,(∀w2,s.run P w2= .ok (.value v) w2)/\K v w):Out P K (s.run P w):=by
 obtain ⟨v,h1,h2⟩:=h;rw[h1 w];exact h2
theorem Y4 (op:BinOp)(t:TypeId)(x y:Operand)(k k':IntKind)(a b:Int):Pu (do eqGuard op t x y (.int k a) (.int k' b);binOp op t (.int k a) (.int k' b)):=by
 refine Pu.bind ?_ fun _=>?_
 ·cases op<;>exact Pu.pure _
 ·cases op<;>simp only[binOp]<;>(try (refine Pu.ite (Pu.stuck _) ?_))<;>
   first
   |exact Pu.pure _
   |exact Pu.stuck _
   |(simp only[Op.intArith];exact Pu.pure _)
   |(simp only[Op.intDiv];exact Pu.ite (Pu.error _) (Pu.pure _))
   |(simp only[Op.intBits];exact Pu.pure _)
   |(simp only[Op.intCmp];first|exact Pu.pure _|exact Pu.stuck _)
   |(simp only[Op.shift];exact Pu.ite (Pu.error _) (Pu.pure _))
theorem Y5 (op:BinOp)(t:TypeId)(x y:Operand)(a b:ByteArray):Pu (do eqGuard op t x y (.string a) (.string b);binOp op t (.string a) (.string b)):=by
 refine Pu.bind ?_ fun _=>?_
 ·cases op<;>exact Pu.pure _
 ·cases op<;>simp only[binOp,Op.stringOp]<;>first|exact Pu.pure _|exact Pu.stuck _|exact Pu.ite (Pu.unsupported _) (Pu.pure _)
theorem Mg (n:Nat)(t:TypeId)(a b:Bool):Pu (Op.equalIn (n+1) t (.bool a) (.bool b)):=by
 simp only[Op.equalIn];refine Pu.bind (Pu.underlying t) fun d=>?_
 cases d<;>first|exact Pu.pure _|exact Pu.stuck _
theorem QF (t:TypeId)(a b:Bool):Pu (Op.equal t (.bool a) (.bool b)):=Mg 9999 t a b
theorem Ve (op:BinOp)(t:TypeId)(x y:Operand)(a b:Bool):Pu (do eqGuard op t x y (.bool a) (.bool b);binOp op t (.bool a) (.bool b)):=by
 refine Pu.bind ?_ fun _=>?_
 ·cases op<;>exact Pu.pure _
 ·cases op<;>simp only[binOp]<;>first|exact Pu.stuck _|exact Pu.bind (QF t a b) fun _=>Pu.pure _
theorem wo {op:BinOp}{t:TypeId}{x y:Operand}{a b:Value}(h:sameKind a b=true):Pu (do eqGuard op t x y a b;binOp op t a b):=by
 cases a<;>cases b<;>simp only[sameKind,bu]at h
 ·exact Ve _ _ _ _ _ _
 ·exact Y4 _ _ _ _ _ _ _ _
 ·exact Y5 _ _ _ _ _ _
theorem iG (op:UnOp)(x:Value):Pu (Op.unary op x):=by
 unfold Op.unary;split<;>first|exact Pu.pure _|exact Pu.stuck _|exact Pu.unsupported _|skip
theorem VY (t:Value)(i:Nat):Pu (Instr.extract t i):=by
 unfold Instr.extract;split
 ·split
  ·exact Pu.pure _
  ·exact Pu.stuck _
 ·exact Pu.stuck _
theorem iH (t:TypeId)(x:Value)(f:Nat):Pu (Instr.field t x f):=by
 unfold Instr.field;refine Pu.bind (Pu.underlying t) fun d=>?_
 split
 ·split
  ·refine Pu.bind ?_ fun _=>Pu.part _ _ _
   unfold asAgg;split
   ·exact Pu.pure _
   ·exact Pu.stuck _
  ·exact Pu.stuck _
 ·exact Pu.stuck _
theorem Pu.ADV{α β:Type}{f:α->Sem β}(hf:∀a,Pu (f a)):∀l:List α,Pu (l.mapM f)
 |[]=>by rw[List.mapM_nil];exact Pu.pure _
 |a::l=>by rw[List.mapM_cons];exact Pu.bind (hf a) fun _=>Pu.bind (Pu.ADV hf l) fun _=>Pu.pure _
theorem Pu.mapA{α β:Type}{f:α->Sem β}(hf:∀a,Pu (f a))(l:Array α):Pu (l.mapM f):=by
 rw[Array.mapM_eq_mapM_toList];exact Pu.bind (Pu.ADV hf _) fun _=>Pu.pure _
theorem iI (t:TypeId)(parts:Array (Nat×Value)):Pu (Instr.build t parts):=by
 unfold Instr.build;refine Pu.bind (Pu.zeroValue t) fun z=>Pu.bind (Pu.underlying t) fun d=>?_
 split
 ·refine Pu.bind (Pu.mapA (fun f=>Pu.bind (Pu.sizeOf _) fun _=>Pu.pure _) _) fun places=>?_
  split
  ·exact Pu.pure _
  ·exact Pu.stuck _
 ·refine Pu.bind (Pu.sizeOf _) fun n=>?_
  split
  ·exact Pu.pure _
  ·exact Pu.stuck _
 ·exact Pu.stuck _
theorem iJ (t:TypeId)(x i:Value):Pu (Instr.index t x i):=by
 unfold Instr.index;refine Pu.bind (Pu.asIntOf i) fun ki=>?_
 obtain ⟨k,n⟩:=ki;refine Pu.bind (Pu.underlying t) fun d=>?_
 split
 ·exact Pu.ite (Pu.bind (Pu.sizeOf _) fun _=>Pu.part _ _ _) (Pu.bounds _ _ _ _)
 ·split
  ·exact Pu.pure _
  ·exact Pu.bounds _ _ _ _
 ·exact Pu.stuck _
theorem W6 (x:Value):Pu (Instr.sureAddr x):=by
 unfold Instr.sureAddr;split
 ·exact Pu.pure _
 ·exact Pu.stuck _
theorem VX (t:TypeId)(x i:Value):Pu (Instr.indexAt t x i):=by
 unfold Instr.indexAt;refine Pu.bind (Pu.asIntOf i) fun ki=>?_
 obtain ⟨k,n⟩:=ki;refine Pu.bind (Pu.underlying t) fun d=>?_
 have tail:∀(base:Option Addr) (len:Nat) (elem:TypeId),Pu (do
   let ANM:=len<=1&&(match<-Go.underlying t with| .array ..=>true|_=>false)
   match base with
   |some a=>
    if 0<=n/\n<len then pure (Value.pointer (some (a.add (n.toNat*(<-Go.sizeOf elem)))))
    else if ANM then Go.unsupported (.noEntry "op/indexAddr.an index out of range at an array of length 0 or 1 (ledger 616)")
    else boundsPanic k n len .index
   |none=>boundsPanic k n 0 .index):=by
  intro base len elem;refine Pu.bind (Pu.underlying t) fun d2=>?_
  cases base with
  |none=>exact Pu.bounds _ _ _ _
  |some a=>
   refine Pu.ite (Pu.bind (Pu.sizeOf _) fun _=>Pu.pure _) ?_;exact Pu.ite (Pu.unsupported _) (Pu.bounds _ _ _ _)
 dsimp only;split
 ·exact Pu.bind (W6 _) fun _=>Pu.bind (Pu.pure _) fun bl=>tail bl.1 bl.2.1 bl.2.2
 ·exact Pu.bind (Pu.pure _) fun bl=>tail bl.1 bl.2.1 bl.2.2
 ·exact Pu.bind (Pu.stuck _) fun bl=>tail bl.1 bl.2.1 bl.2.2
theorem GJ (x:Value)(y:Nat)(c:BoundsCode):Pu (Instr.sliceBound x y c):=by
 unfold Instr.sliceBound;refine Pu.bind (Pu.asIntOf x) fun ki=>?_
 obtain ⟨k,n⟩:=ki;exact Pu.ite (Pu.pure _) (Pu.bounds _ _ _ _)
theorem Gb (s:Bool)(l c:Nat)(lo hi mx:Option Value):Pu (Instr.sliceBounds s l c lo hi mx):=by
 unfold Instr.sliceBounds;have t3:∀(m h l:Nat),Pu (Pure.pure (l,h,m):Sem (Nat×Nat×Nat)):=fun _ _ _=>Pu.pure _
 have t2:∀(m h:Nat),Pu (do
   let l<-match lo with
    |some v=>Instr.sliceBound v h (if mx.isSome then .slice3C else .sliceB)
    |none=>pure 0
   pure (l,h,m)):=by
  intro m h;cases lo with
  |none=>exact Pu.bind (Pu.pure _) fun _=>t3 _ _ _
  |some v=>exact Pu.bind (GJ _ _ _) fun _=>t3 _ _ _
 cases mx with
 |none=>cases hi with
  |none=>exact Pu.bind (Pu.pure _) fun m=>Pu.bind (Pu.pure _) fun h=>t2 m h
  |some v=>exact Pu.bind (Pu.pure _) fun m=>Pu.bind (GJ _ _ _) fun h=>t2 m h
 |some u=>cases hi with
  |none=>exact Pu.bind (GJ _ _ _) fun m=>Pu.bind (Pu.stuck _) fun h=>t2 m h
  |some v=>exact Pu.bind (GJ _ _ _) fun m=>Pu.bind (GJ _ _ _) fun h=>t2 m h
theorem Pu.asAddr(v:Value):Pu (Go.asAddr v):=by
 unfold Go.asAddr;split
 ·exact Pu.pure _
 ·exact Pu.never fun P w=>⟨_,w,rfl⟩
 ·exact Pu.stuck _
theorem iN (t:TypeId)(x:Value)(lo hi mx:Option Value):Pu (Instr.slice t x lo hi mx):=by
 unfold Instr.slice;refine Pu.bind (Pu.underlying t) fun d=>?_
 split
 ·split
  ·exact Pu.stuck _
  ·exact Pu.bind (Gb _ _ _ _ _ _) fun _=>Pu.pure _
 ·exact Pu.bind (Gb _ _ _ _ _ _) fun _=>Pu.bind (Pu.sizeOf _) fun _=>Pu.pure _
 ·refine Pu.bind (Pu.asAddr _) fun a=>Pu.bind (Pu.underlying _) fun d2=>?_
  split
  ·exact Pu.bind (Gb _ _ _ _ _ _) fun _=>Pu.bind (Pu.sizeOf _) fun _=>Pu.pure _
  ·exact Pu.stuck _
 ·exact Pu.stuck _
theorem VW (t:TypeId)(x:Value)(lo hi mx:Option Value):Pu (Instr.sliceAt t x lo hi mx):=by
 unfold Instr.sliceAt;refine Pu.bind (Pu.underlying t) fun d=>?_
 split
 ·exact Pu.bind (W6 _) fun a=>Pu.bind (Gb _ _ _ _ _ _) fun _=>Pu.bind (Pu.sizeOf _) fun _=>Pu.pure _
 ·exact iN _ _ _ _ _
end
end Sh
namespace Sh
section
variable {P:Program} {F:Fx} {E:Env} {w:World} {K:Value->World->Prop}
theorem Yz (ts:Array TypeId)(t:TypeId)(args:Array Value)(s:ByteArray)(h:args[0]?=some (.string s)):Pu (Builtin.len_ ts t args):=by
 unfold Builtin.len_;cases h1:ts[0]? with
 |none=>exact Pu.stuck _
 |some t0=>
  simp only[h];refine Pu.bind (Pu.underlying _) fun d=>?_
  cases d<;>first|exact Pu.pure _|exact Pu.stuck _|(refine Pu.bind (Pu.underlying _) fun d2=>?_;cases d2<;>first|exact Pu.pure _|exact Pu.stuck _)
theorem Y0 (ts:Array TypeId)(t:TypeId)(args:Array Value)(p:Option Addr)(l c:Nat)(h:args[0]?=some (.slice p l c)):Pu (Builtin.len_ ts t args):=by
 unfold Builtin.len_;cases h1:ts[0]? with
 |none=>exact Pu.stuck _
 |some t0=>
  simp only[h];refine Pu.bind (Pu.underlying _) fun d=>?_
  cases d<;>first|exact Pu.pure _|exact Pu.stuck _|(refine Pu.bind (Pu.underlying _) fun d2=>?_;cases d2<;>first|exact Pu.pure _|exact Pu.stuck _)
theorem Y1 (ts:Array TypeId)(t:TypeId)(args:Array Value)(p:Option Addr)(l c:Nat)(h:args[0]?=some (.slice p l c)):Pu (Builtin.cap_ ts t args):=by
 unfold Builtin.cap_;cases h1:ts[0]? with
 |none=>exact Pu.stuck _
 |some t0=>
  simp only[h];refine Pu.bind (Pu.underlying _) fun d=>?_
  cases d<;>first|exact Pu.pure _|exact Pu.stuck _|(refine Pu.bind (Pu.underlying _) fun d2=>?_;cases d2<;>first|exact Pu.pure _|exact Pu.stuck _)
theorem EE {v:Value}{r:List Value}(h:DI (v::r)=true):(∃k n,v= .int k n)/\DI r=true:=by
 cases v<;>simp only[DI,bu]at h;exact ⟨⟨_,_,rfl⟩,h⟩
theorem Mh:∀(r:List Value) (k:IntKind) (n:Int),DI r=true->Pu (r.foldlM Builtin.min2 (.int k n))
 |[],_,_,_=>Pu.pure _
 |v::r,k,n,h=>by
  obtain ⟨⟨k',n',rfl⟩,h2⟩:=EE h;simp only[List.foldlM_cons,Builtin.min2,pure_bind];exact Mh r _ _ h2
theorem Mi:∀(r:List Value) (k:IntKind) (n:Int),DI r=true->Pu (r.foldlM Builtin.max2 (.int k n))
 |[],_,_,_=>Pu.pure _
 |v::r,k,n,h=>by
  obtain ⟨⟨k',n',rfl⟩,h2⟩:=EE h;simp only[List.foldlM_cons,Builtin.max2,pure_bind];exact Mi r _ _ h2
theorem wk (ts:Array TypeId)(t:TypeId)(args:Array Value)(h:DI args.toList=true):Pu (Builtin.min_ ts t args):=by
 unfold Builtin.min_;generalize args.toList=l at h;cases l with
 |nil=>exact Pu.stuck _
 |cons v r=>
  obtain ⟨⟨k,n,rfl⟩,h2⟩:=EE h;exact Mh r k n h2
theorem wm (ts:Array TypeId)(t:TypeId)(args:Array Value)(h:DI args.toList=true):Pu (Builtin.max_ ts t args):=by
 unfold Builtin.max_;generalize args.toList=l at h;cases l with
 |nil=>exact Pu.stuck _
 |cons v r=>
  obtain ⟨⟨k,n,rfl⟩,h2⟩:=EE h;exact Mi r k n h2
def Qv (P:Program)(s:Sem Next)(w:World)(K:Value->World->Prop):Prop:=∃v,(∀w2,s.run P w2= .ok (.value v) w2)/\K v w
theorem W5 {v:Value}(h:Out P K ((Pure.pure (Next.value v):Sem Next).run P w)):Qv P (Pure.pure (Next.value v)) w K:=⟨v,fun _=>rfl,h⟩
theorem Ih {s:Sem Value}(hs:Pu s)(h:Out P K ((do pure (Next.value (<-s)):Sem Next).run P w)):Qv P (do pure (Next.value (<-s))) w K:=iM hs h
theorem Dw {s:Sem Value}{v:Value}(hs:∀w2,s.run P w2= .ok v w2)(h:K v w):Qv P (do pure (Next.value (<-s))) w K:=
 ⟨v,fun w2=>by simp only[Sem.run_bind,hs w2,Result.andThen_ok,Sem.run_pure],h⟩
theorem SS {src dst:TypeId}{k k':IntKind}{n:Int}(h:P.underlying dst=some (.int k'))(w:World):
  (convert src dst (.int k n)).run P w=(do let _<-underlying src;pure (Value.int k' (k'.wrap n)):Sem Value).run P w:=by
 unfold convert;simp only[Sem.run_bind];cases (underlying src).run P w with
 |halt=>rfl
 |ok d w'=>
  simp only[Result.andThen_ok,run_underlying h,Conv.intToInt]
theorem VV {src dst:TypeId}{k k':IntKind}{n:Int}(hu:P.underlying dst=some (.int k'))
  (h:Out P K ((do pure (Next.value (<-convert src dst (.int k n))):Sem Next).run P w)):Qv P (do pure (Next.value (<-convert src dst (.int k n)))) w K:=by
 have e:∀w,(do pure (Next.value (<-convert src dst (.int k n))):Sem Next).run P w=(do pure (Next.value (<-(do let _<-underlying src;pure (Value.int k' (k'.wrap n)):Sem Value))):Sem Next).run P w:=fun w=>by
  simp only[Sem.run_bind,SS hu]
 rw[e]at h;obtain ⟨v,h1,h2⟩:=iM (Pu.bind (Pu.underlying src) fun _=>Pu.pure _) h;exact ⟨v,fun w2=>by rw[e];exact h1 w2,h2⟩
section
variable {G:Prop}
theorem KH {t e:TypeId}(hu:P.underlying t=some (.pointer e))(p:Option Addr)(w:World):(Op.equal t (.pointer p) (.pointer none)).run P w= .ok p.isNone w:=by
 show (Op.equalIn (9999+1) t (.pointer p) (.pointer none)).run P w=_;generalize 9999=n;simp only[Op.equalIn,Sem.run_bind,run_underlying hu,Result.andThen_ok];cases p<;>rfl
theorem KI {t e:TypeId}(hu:P.underlying t=some (.slice e))(p:Option Addr)(l c l' c':Nat)(w:World):(Op.equal t (.slice p l c) (.slice none l' c')).run P w= .ok p.isNone w:=by
 show (Op.equalIn (9999+1) t (.slice p l c) (.slice none l' c')).run P w=_;generalize 9999=n;simp only[Op.equalIn,Sem.run_bind,run_underlying hu,Result.andThen_ok];cases p<;>rfl
theorem G3 {t:TypeId}{ms:Array (String×TypeId)}(hu:P.underlying t=some (.interface ms))(u:TypeId)(v:Value)(w:World):(Op.equal t (.iface u v) .nilIface).run P w= .ok false w:=by
 show (Op.equalIn (9999+1) t (.iface u v) .nilIface).run P w=_;generalize 9999=n;simp only[Op.equalIn,Sem.run_bind,run_underlying hu,Result.andThen_ok]
 rfl
theorem KJ {t:TypeId}{ms:Array (String×TypeId)}(hu:P.underlying t=some (.interface ms))(w:World):(Op.equal t .nilIface .nilIface).run P w= .ok true w:=by
 show (Op.equalIn (9999+1) t .nilIface .nilIface).run P w=_;generalize 9999=n;simp only[Op.equalIn,Sem.run_bind,run_underlying hu,Result.andThen_ok]
 rfl
theorem Ii {t:TypeId}{a b c}(hu:P.underlying t=some (.func a b c))(f:Fn)(x y:Array Value)(w:World):(Op.equal t (.func f x y) .nilFunc).run P w= .ok false w:=by
 show (Op.equalIn (9999+1) t (.func f x y) .nilFunc).run P w=_;generalize 9999=n;simp only[Op.equalIn,Sem.run_bind,run_underlying hu,Result.andThen_ok]
 rfl
theorem FP {t:TypeId}{a b c}(hu:P.underlying t=some (.func a b c))(w:World):(Op.equal t .nilFunc .nilFunc).run P w= .ok true w:=by
 show (Op.equalIn (9999+1) t .nilFunc .nilFunc).run P w=_;generalize 9999=n;simp only[Op.equalIn,Sem.run_bind,run_underlying hu,Result.andThen_ok]
 rfl
theorem SU {y:Operand}(h:isC y=true):∃v,y= .const v:=by
 cases y<;>first|exact ⟨_,rfl⟩|cases h
theorem KK {t a b:TypeId}(hu:P.underlying t=some (.map a b))(p:Option Nat)(w:World):(Op.equal t (.map p) (.map none)).run P w= .ok p.isNone w:=by
 show (Op.equalIn (9999+1) t (.map p) (.map none)).run P w=_;generalize 9999=n;simp only[Op.equalIn,Sem.run_bind,run_underlying hu,Result.andThen_ok];cases p<;>rfl
theorem SV {t:TypeId}{d:TypeDesc}(h:P.underlying t=some d)(w:World):(sizeOf t).run P w= .ok (P.cellsOf t) w:=by
 unfold Program.underlying at h;split at h<;>rename_i hi
 ·exact run_sizeOf w hi
 ·exact run_sizeOf w hi
 ·cases h
theorem FQ {t:TypeId}{fs:Array Field}(hu:P.underlying t=some (.struct fs))(cs:Array Value)(off:Nat)(w:World):(part t cs off).run P w= .ok (.agg (cs.extract off (off+P.cellsOf t))) w:=by
 simp only[part,Sem.run_bind,Cr hu,Result.andThen_ok,DH,if_true,SV hu,Sem.run_pure]
theorem Mj:∀(n d:Nat) (xs ys:Array Value) (fs:List Field) (b:Bool),n<=d->NX P n xs ys fs=some b->∀w,(Op.eqFields (d+1) xs ys fs).run P w= .ok b w
 |0,_,_,_,_,_,_,h,w=>by cases h
 |n+1,d,xs,ys,[],b,_,h,w=>by simp only[NX,aS]at h;subst h;rfl
 |n+1,d,xs,ys,f::r,b,GC,h,w=>by
  have step:∀(x y:Value) (c:Bool) (q:Bool),(∀w,(part f.type xs f.offset).run P w= .ok x w)->(∀w,(part f.type ys f.offset).run P w= .ok y w)->f.name≠ "_"->
    (∀w,(Op.equalIn (d+1) f.type x y).run P w= .ok c w)->NX P n xs ys r=some q->(Op.eqFields (d+1) xs ys (f::r)).run P w= .ok (c&&q) w:=by
   intro x y c q hx hy hn he hq;have ih:=Mj n d xs ys r q (by omega) hq w;simp only[Op.eqFields,aG hn,Sem.run_bind,hx,hy,he,Result.andThen_ok];cases c
   ·simp
   ·simpa using ih
  have hp:DH (P.underlying f.type)=false->(∃d,P.underlying f.type=some d)->∀(cs:Array Value) (v:Value),cs[f.offset]?=some v->∀w,(part f.type cs f.offset).run P w= .ok v w:=fun ha hd cs v hv w=>by
   obtain ⟨d,hd⟩:=hd;rw[hd]at ha;simp only[part,Sem.run_bind,Cr hd,ha,Result.andThen_ok,bu,if_false,hv,Sem.run_pure]
  simp only[NX]at h;split at h
  ·cases h
  ·rename_i hn;split at h
   ·rename_i fs' hu;split at h
    ·rename_i NF;obtain ⟨p,gQ,h2⟩:=bQ.1 h;obtain ⟨q,hq,rfl⟩:=aN.1 h2;refine step _ _ p q (FQ hu xs _) (FQ hu ys _) hn (fun w=>?_) hq;have hf:P.fieldsOf f.type=fs':=by simp only[Program.fieldsOf,hu]
     rw[run_equalIn_struct w d f.type _ _ (by rw[hf];exact hu) NF,hf];cases n with
     |zero=>cases gQ
     |succ n=>
      obtain ⟨d',rfl⟩:∃d',d=d'+1:=⟨d-1,by omega⟩
      exact Mj (n+1) d' _ _ _ _ (by omega) gQ w
    ·cases h
   ·rename_i dd hns hu;split at h
    ·rename_i k0 k a k' b' hx hy;split at h
     ·rename_i e;subst e;obtain ⟨q,hq,rfl⟩:=aN.1 h;exact step _ _ _ q (hp (by rw[hu];rfl) ⟨_,hu⟩ _ _ hx) (hp (by rw[hu];rfl) ⟨_,hu⟩ _ _ hy) hn (fun w=>run_equalIn_int w _ _ _ _ _ _ hu) hq
     ·cases h
    ·rename_i a b' hx hy;obtain ⟨q,hq,rfl⟩:=aN.1 h;exact step _ _ _ q (hp (by rw[hu];rfl) ⟨_,hu⟩ _ _ hx) (hp (by rw[hu];rfl) ⟨_,hu⟩ _ _ hy) hn (fun w=>run_equalIn_bool' w _ _ _ _ hu) hq
    ·rename_i a b' hx hy;obtain ⟨q,hq,rfl⟩:=aN.1 h;exact step _ _ _ q (hp (by rw[hu];rfl) ⟨_,hu⟩ _ _ hx) (hp (by rw[hu];rfl) ⟨_,hu⟩ _ _ hy) hn (fun w=>run_equalIn_string w _ _ _ _ hu) hq
    ·cases h
   ·cases h
theorem OO {t:TypeId}{xs ys:Array Value}{b:Bool}(h:Wx P t xs ys=some b):P.eqGuardType P.depth t=false/\∀w,(Op.equalIn 10000 t (.agg xs) (.agg ys)).run P w= .ok b w:=by
 unfold Wx at h;split at h
 ·rename_i fs hu;split at h
  ·rename_i h1 h2;refine ⟨h2,fun w=>?_⟩;have hf:P.fieldsOf t=fs:=by simp only[Program.fieldsOf,hu]
   show (Op.equalIn (9999+1) t (.agg xs) (.agg ys)).run P w=_;rw[run_equalIn_struct w 9999 t xs ys (by rw[hf];exact hu) h1,hf];exact Mj 60 9998 _ _ _ _ (by decide) h w
  ·cases h
 ·cases h
theorem OL {op:BinOp}{t:TypeId}{x y:Operand}{a b:Value}{D O:Prop}(h:wU P op t (isC y) a b (fun v=>K v w) D O)(hD:D->G)(hO:O->G)
  (hq:Qv P (do pure (Next.value (<-(do eqGuard op t x y a b;binOp op t a b)))) w K->G):G:=by
 have qv:∀v,(∀w2,(do eqGuard op t x y a b;binOp op t a b:Sem Value).run P w2= .ok v w2)->K v w->G:=fun v h1 h2=>hq (Dw h1 h2)
 unfold wU at h;split at h
 ·split at h
  ·split at h
   ·rename_i e;subst e;exact qv _ (fun w2=>by simp[eqGuard,binOp,Op.intDiv,h.1]) h.2
   ·exact h.elim
  ·exact hD h
 ·split at h
  ·split at h
   ·rename_i e;subst e;exact qv _ (fun w2=>by simp[eqGuard,binOp,Op.intDiv,h.1]) h.2
   ·exact h.elim
  ·exact hD h
 ·split at h
  ·refine qv _ (fun w2=>?_) h.2;have:=h.1;simp[eqGuard,binOp,Op.shift,Int.not_lt.2 this]
  ·exact hD h
 ·split at h
  ·refine qv _ (fun w2=>?_) h.2;have:=h.1;simp[eqGuard,binOp,Op.shift,Int.not_lt.2 this]
  ·exact hD h
 ·split at h
  ·refine qv _ (fun w2=>?_) h.2;have:=h.1;have h2:¬(((_:ByteArray).size+(_:ByteArray).size:Nat):Int)>IntKind.i64.max:=Int.not_lt.2 this;simp only[eqGuard,binOp,Op.stringOp,Sem.run_bind];show (Sem.run P (if _ then _ else _) w2)=_;rw[aA h2]
   rfl
  ·exact hD h
 ·split at h
  ·exact hD h
  ·exact hD h
  ·exact hD h
  ·split at h
   ·rename_i hu;exact qv _ (fun w2=>by simp only[eqGuard,binOp,Sem.run_bind,Sem.run_pure];simp[KH hu]) h
   ·exact hO h
  ·split at h
   ·rename_i hu;exact qv _ (fun w2=>by simp only[eqGuard,binOp,Sem.run_bind,Sem.run_pure];simp[KI hu]) h
   ·exact hO h
  ·split at h
   ·rename_i hu;exact qv _ (fun w2=>by simp only[eqGuard,binOp,Sem.run_bind,Sem.run_pure];simp[KK hu]) h
   ·exact hO h
  ·split at h
   ·rename_i hc hu;exact qv _ (fun w2=>by simp only[eqGuard,binOp,Sem.run_bind,Sem.run_pure];simp[G3 hu]) h
   ·exact hO h
  ·split at h
   ·rename_i hc hu;obtain ⟨c,rfl⟩:=SU hc;exact qv _ (fun w2=>by simp only[eqGuard,binOp,Sem.run_bind,Sem.run_pure];simp[KJ hu]) h
   ·exact hO h
  ·split at h
   ·rename_i hc hu;exact qv _ (fun w2=>by simp only[eqGuard,binOp,Sem.run_bind,Sem.run_pure];simp[Ii hu]) h
   ·exact hO h
  ·split at h
   ·rename_i hc hu;exact qv _ (fun w2=>by simp only[eqGuard,binOp,Sem.run_bind,Sem.run_pure];simp[FP hu]) h
   ·exact hO h
  ·split at h
   ·rename_i b hb;obtain ⟨h1,h2⟩:=OO hb;exact qv _ (fun w2=>by simp only[Sem.run_bind,run_eqGuard_agg w2 _ _ _ _ _ _ h1,Result.andThen_ok,run_eql_struct,h2]) h
   ·exact hO h
  ·exact hO h
 ·split at h
  ·exact hD h
  ·exact hD h
  ·exact hD h
  ·split at h
   ·rename_i hu;exact qv _ (fun w2=>by simp only[eqGuard,binOp,Sem.run_bind,Sem.run_pure];simp[KH hu]) h
   ·exact hO h
  ·split at h
   ·rename_i hu;exact qv _ (fun w2=>by simp only[eqGuard,binOp,Sem.run_bind,Sem.run_pure];simp[KI hu]) h
   ·exact hO h
  ·split at h
   ·rename_i hu;exact qv _ (fun w2=>by simp only[eqGuard,binOp,Sem.run_bind,Sem.run_pure];simp[KK hu]) h
   ·exact hO h
  ·split at h
   ·rename_i hc hu;exact qv _ (fun w2=>by simp only[eqGuard,binOp,Sem.run_bind,Sem.run_pure];simp[G3 hu]) h
   ·exact hO h
  ·split at h
   ·rename_i hc hu;obtain ⟨c,rfl⟩:=SU hc;exact qv _ (fun w2=>by simp only[eqGuard,binOp,Sem.run_bind,Sem.run_pure];simp[KJ hu]) h
   ·exact hO h
  ·split at h
   ·rename_i hc hu;exact qv _ (fun w2=>by simp only[eqGuard,binOp,Sem.run_bind,Sem.run_pure];simp[Ii hu]) h
   ·exact hO h
  ·split at h
   ·rename_i hc hu;exact qv _ (fun w2=>by simp only[eqGuard,binOp,Sem.run_bind,Sem.run_pure];simp[FP hu]) h
   ·exact hO h
  ·split at h
   ·rename_i b hb;obtain ⟨h1,h2⟩:=OO hb;exact qv _ (fun w2=>by simp only[Sem.run_bind,run_eqGuard_agg w2 _ _ _ _ _ _ h1,Result.andThen_ok,run_neq_struct,h2]) h
   ·exact hO h
  ·exact hO h
 ·exact hD h
theorem SP {t:TypeId}{x:Value}{f:Nat}{D:Prop}(h:fdV P t x f (fun v=>K v w) D)(hD:D->G)
  (hq:Qv P (do pure (Next.value (<-Instr.fieldAt t x f))) w K->G):G:=by
 unfold fdV at h;split at h
 ·split at h
  ·rename_i fs hu;split at h
   ·rename_i fd hf;split at h
    ·rename_i n hn;split at h
     ·rename_i hb;have BI:n≠0:=fun e=>by subst e;simp at hb
      refine hq (Dw (fun w2=>?_) h);simp only[Instr.fieldAt,Sem.run_bind,run_underlying hu,Result.andThen_ok,hf,Instr.sureAddr,Sem.run_pure,fieldPlace,An hn,aA BI]
     ·exact hD h
    ·exact hD h
   ·exact hD h
  ·exact hD h
 ·exact hD h
theorem ON {t:TypeId}{c:Bool}{x y:Value}{D:Prop}(h:wV P t c x y (fun v=>K v w) D)(hD:D->G)
  (hq:Qv P (do pure (Next.value (<-Instr.index t x y))) w K->G):G:=by
 unfold wV at h;split at h
 ·rename_i s k i;split at h
  ·rename_i hu;obtain ⟨h1,h2,hk⟩:=h;refine hq (Dw (fun w2=>?_) hk);have Au:i.toNat<s.size:=by omega
   have Y6:i.toNat<s.data.size:=Au;have hg:s[i.toNat]?=some (s.data.getD i.toNat 0):=by
    rw[getElem?_pos s i.toNat Au];simp only[Array.getD,Y6,dif_pos]
    rfl
   simp only[Instr.index,asIntOf,Sem.run_bind,Sem.run_pure,Result.andThen_ok,run_underlying hu,aG h1,hg,BX]
  ·exact hD h
 ·rename_i cs k i;split at h
  ·rename_i len e hu;split at h
   ·rename_i d n hd hn;split at h
    ·rename_i hag;obtain ⟨h1,h2,v,hv,hk⟩:=h;refine hq (Dw (fun w2=>?_) hk);simp only[Instr.index,asIntOf,Sem.run_bind,Sem.run_pure,Result.andThen_ok,run_underlying hu,aG (And.intro h1 h2),An hn,part,Cr hd,hag,bu,if_false,hv]
    ·rename_i hag;split at h
     ·obtain ⟨h1,h2,v,hv,hk⟩:=h;refine hq (Dw (fun w2=>?_) hk);simp only[Instr.index,asIntOf,Sem.run_bind,Sem.run_pure,Result.andThen_ok,run_underlying hu,aG (And.intro h1 h2),An hn,part,Cr hd,hag,if_true,hv]
     ·exact hD h
   ·exact hD h
  ·exact hD h
 ·exact hD h
theorem OM {t:TypeId}{c:Bool}{x y:Value}{D:Prop}(h:wW P t c x y (fun v=>K v w) D)(hD:D->G)
  (hq:Qv P (do pure (Next.value (<-Instr.indexAt t x y))) w K->G):G:=by
 unfold wW at h;split at h
 ·rename_i p len cap k i;split at h
  ·rename_i e hu;split at h
   ·rename_i n hn;obtain ⟨h1,h2,a,rfl,hk⟩:=h;refine hq (Dw (fun w2=>?_) hk);simp only[Instr.indexAt,asIntOf,Sem.run_bind,Sem.run_pure,Result.andThen_ok,run_underlying hu,aG (And.intro h1 h2),An hn]
   ·exact hD h
  ·exact hD h
 ·rename_i a k i;split at h
  ·rename_i len e hu;split at h
   ·rename_i n hn;obtain ⟨h1,h2,hk⟩:=h;refine hq (Dw (fun w2=>?_) hk);simp only[Instr.indexAt,Instr.sureAddr,asIntOf,Sem.run_bind,Sem.run_pure,Result.andThen_ok,run_underlying hu,aG (And.intro h1 h2),An hn]
   ·exact hD h
  ·exact hD h
 ·exact hD h
theorem Bc {top:Nat}{x:Option Value}{other:Nat}{K':Nat->Prop}{D:Prop}(h:nA top x other K' D)(hD:D->G)
  (hn:x=none->K' other->G) (hs:∀k i,x=some (.int k i)->0<=i->i<=top->K' i.toNat->G):G:=by
 unfold nA at h;split at h
 ·exact hn rfl h
 ·exact hs _ _ rfl h.1 h.2.1 h.2.2
 ·exact hD h
theorem Ak {k:IntKind}{i:Int}{y:Nat}{c:BoundsCode}{w:World}(h1:0<=i)(h2:i<=y):(Instr.sliceBound (.int k i) y c).run P w= .ok i.toNat w:=by
 simp only[Instr.sliceBound,asIntOf,Sem.run_bind,Sem.run_pure,Result.andThen_ok,aG (And.intro h1 h2)]
theorem SO {t:TypeId}{x:Value}{lo hi mx:Option Value}{D:Prop}(h:slV P t x lo hi mx (fun v=>K v w) D)(hD:D->G)
  (hq:Qv P (do pure (Next.value (<-Instr.sliceAt t x lo hi mx))) w K->G):G:=by
 unfold slV at h;split at h
 ·rename_i s;split at h
  ·rename_i hu;refine Bc h hD (fun e1 ha=>Bc ha hD (fun e2 hb=>?_) fun k i e2 g1 g2 hb=>?_) fun k' i' e1 g3 g4 ha=>Bc ha hD (fun e2 hb=>?_) fun k i e2 g1 g2 hb=>?_
   all_goals
    subst e1 e2;refine hq (Dw (fun w2=>?_) hb);simp only[Instr.sliceAt,Instr.slice,Instr.sliceBounds,Sem.run_bind,run_underlying hu,Result.andThen_ok,Option.isSome_none,bu,if_false,Sem.run_pure]
    first|done|rw[Ak g3 g4,Result.andThen_ok,Ak g1 g2];rfl|rw[Ak g3 g4];rfl|rw[Ak g1 g2];rfl
  ·exact hD h
 ·rename_i p len cap;split at h
  ·rename_i e hu;split at h
   ·rename_i n hn;split at h
    ·exact hD h
    ·rename_i mx hi Vx;refine Bc h hD (fun e0 hz=>?_) fun k0 i0 e0 g5 g6 hz=>?_
     ·refine Bc hz hD (fun e1 ha=>Bc ha hD (fun e2 hb=>?_) fun k i e2 g1 g2 hb=>?_) fun k' i' e1 g3 g4 ha=>Bc ha hD (fun e2 hb=>?_) fun k i e2 g1 g2 hb=>?_
      all_goals
       subst e0 e1 e2;refine hq (Dw (fun w2=>?_) hb);simp only[Instr.sliceAt,Instr.slice,Instr.sliceBounds,Sem.run_bind,run_underlying hu,Result.andThen_ok,Option.isSome_none,bu,if_false,Sem.run_pure]
       first|(rw[An hn];rfl)|(rw[Ak g3 g4,Result.andThen_ok,Ak g1 g2,Result.andThen_ok,Result.andThen_ok,An hn];rfl)|(rw[Ak g3 g4,Result.andThen_ok,Result.andThen_ok,An hn];rfl)|(rw[Ak g1 g2,Result.andThen_ok,Result.andThen_ok,An hn];rfl)
     ·refine Bc hz hD (fun e1 _=>?_) fun k' i' e1 g3 g4 ha=>Bc ha hD (fun e2 hb=>?_) fun k i e2 g1 g2 hb=>?_
      ·subst e0 e1;exact (Vx _ rfl rfl).elim
      all_goals
       subst e0 e1 e2;refine hq (Dw (fun w2=>?_) hb);simp only[Instr.sliceAt,Instr.slice,Instr.sliceBounds,Sem.run_bind,run_underlying hu,Result.andThen_ok,Option.isSome_some,if_true,Sem.run_pure]
       first|(rw[Ak g5 g6,Result.andThen_ok,Ak g3 g4,Result.andThen_ok,Ak g1 g2,Result.andThen_ok,Result.andThen_ok,An hn];rfl)|(rw[Ak g5 g6,Result.andThen_ok,Ak g3 g4,Result.andThen_ok,Result.andThen_ok,An hn];rfl)
   ·exact hD h
  ·exact hD h
 ·rename_i a;split at h
  ·rename_i c e hu;split at h
   ·rename_i n hn;refine Bc h hD (fun e1 ha=>Bc ha hD (fun e2 hb=>?_) fun k i e2 g1 g2 hb=>?_) fun k' i' e1 g3 g4 ha=>Bc ha hD (fun e2 hb=>?_) fun k i e2 g1 g2 hb=>?_
    all_goals
     subst e1 e2;refine hq (Dw (fun w2=>?_) hb);simp only[Instr.sliceAt,Instr.sureAddr,Instr.sliceBounds,Sem.run_bind,run_underlying hu,Result.andThen_ok,Option.isSome_none,bu,if_false,Sem.run_pure,AA.v,AA.cut,Option.map_some]
     first|(rw[An hn];simp only[Result.andThen_ok];split<;>rfl)|(rw[Ak g3 g4,Result.andThen_ok,Ak g1 g2,Result.andThen_ok,Result.andThen_ok,An hn];simp only[Result.andThen_ok];split<;>rfl)|(rw[Ak g3 g4,Result.andThen_ok,Result.andThen_ok,An hn];simp only[Result.andThen_ok];split<;>rfl)|(rw[Ak g1 g2,Result.andThen_ok,Result.andThen_ok,An hn];simp only[Result.andThen_ok];split<;>rfl)
   ·exact hD h
  ·exact hD h
 ·exact hD h
end
end
end Sh
namespace Sh
section
variable {P:Program} {F:Fx} {E:Env} {w:World} {K:Value->World->Prop}
def Ac (P:Program)(F:Nat->Bool):Prop:=∀g fn,F g=true->P.funcs[g]?=some fn->fn.body.isSome=true/\fn.name≠ "runtime.NumGoroutine"
theorem Hc {tys:List Ty}:∀{K':List Value->Prop},Bs.SK tys K'->∃l,K' l:=by
 induction tys with
 |nil=>intro K' h;exact ⟨[],h⟩
 |cons t ts ih=>intro K' h;obtain ⟨x,hx⟩:=h;obtain ⟨l,hl⟩:=ih hx;exact ⟨_,hl⟩
theorem Out.EU{pk:Value->World->Prop}{r:Result Next}(h:Out P K r):MY P pk K r:=by
 cases r with
 |halt x w=>exact h.elim
 |ok n w=>
  cases n<;>try exact h.elim
  case value v=>exact h
  case skip=>exact h
  case enter f args=>exact Calls.mono h fun e w' he=> .inl he
theorem Yy (hF:Ac P F.ok){g:Nat}{args:Array Value}(h:Bs P F g args w K):MY P F.pk K ((callFunc g args).run P w):=by
 unfold Bs at h;split at h
 ·split at h
  ·exact h.elim
  ·obtain ⟨l,w',h1,h2⟩:=Hc h;unfold Rk at h1;rw[h1];exact h2
 ·rename_i hg;split at h
  ·exact h.elim
  ·rename_i fn QV;obtain ⟨hb,hn⟩:=hF g fn hg QV;have wi:fn.body.isNone=false:=by cases hx:fn.body<;>simp_all
   have hn':(fn.name== "runtime.NumGoroutine")=false:=by simpa using hn
   simp only[callFunc,Sem.run_bind,run_program,Result.andThen_ok,QV,hn',wi,bu,if_false,Sem.run_pure,MY];split at h
   ·refine h.mono fun e w' he=>?_
    obtain ⟨l,h1,h2⟩:=Hc he;exact .inl ⟨_,h1,h2⟩
   ·refine h.mono fun e w' he=>?_
    rcases he with he|he
    ·obtain ⟨l,h1,h2⟩:=Hc he;exact .inl ⟨_,h1,h2⟩
    ·exact .inr he
theorem nC {c a b:Value}(h:Out P K ((do pure (Next.value (if<-asBool c then a else b)):Sem Next).run P w)):Qv P (do pure (Next.value (if<-asBool c then a else b))) w K:=by
 cases c with
 |bool t=>exact ⟨_,fun _=>rfl,h⟩
 |_=>exact h.elim
theorem Ig {c:Call}{b:Builtin}{t:TypeId}{s:Sem Value}(hc:c.callee= .builtin b)
  (hb:∀consts,builtin b c.argTypes t consts (c.args.map E.Ag)=(do pure (Next.value (<-s)))) (hs:Pu s)
  (h:Out P K ((do let d<-resolve E.Ag c t;invoke d.target d.args:Sem Next).run P w)):Qv P (do let d<-resolve E.Ag c t;invoke d.target d.args) w K:=by
 have e:(do let d<-resolve E.Ag c t;invoke d.target d.args:Sem Next)=(do pure (Next.value (<-s))):=by
  simp only[resolve,hc,pure_bind,invoke,hb]
 rw[e]at h⊢;exact Ih hs h
theorem wj {xs:Array Operand}{v:Value}(h:xs[0]?.map E.Ag=some v):(xs.map E.Ag)[0]?=some v:=by simpa using h
theorem ADS {c:Call}{t:TypeId}{D:Prop}(hD:D->Qv P (do let d<-resolve E.Ag c t;invoke d.target d.args) w K)
  (h:match c.callee with
   | .builtin .len=>(match c.args[0]?.map E.Ag with
    |some (.string _)=>Out P K ((do let d<-resolve E.Ag c t;invoke d.target d.args:Sem Next).run P w)
    |some (.slice _ _ _)=>Out P K ((do let d<-resolve E.Ag c t;invoke d.target d.args:Sem Next).run P w)
    |_=>D)
   | .builtin .cap=>(match c.args[0]?.map E.Ag with
    |some (.slice _ _ _)=>Out P K ((do let d<-resolve E.Ag c t;invoke d.target d.args:Sem Next).run P w)
    |_=>D)
   | .builtin .min=>(match DI (c.args.map E.Ag).toList with
    |true=>Out P K ((do let d<-resolve E.Ag c t;invoke d.target d.args:Sem Next).run P w)
    |false=>D)
   | .builtin .max=>(match DI (c.args.map E.Ag).toList with
    |true=>Out P K ((do let d<-resolve E.Ag c t;invoke d.target d.args:Sem Next).run P w)
    |false=>D)
   |_=>D):Qv P (do let d<-resolve E.Ag c t;invoke d.target d.args) w K:=by
 split at h
 ·rename_i hc;split at h
  ·rename_i ha;exact Ig hc (fun _=>rfl) (Yz _ _ _ _ (wj ha)) h
  ·rename_i ha;exact Ig hc (fun _=>rfl) (Y0 _ _ _ _ _ _ (wj ha)) h
  ·exact hD h
 ·rename_i hc;split at h
  ·rename_i ha;exact Ig hc (fun _=>rfl) (Y1 _ _ _ _ _ _ (wj ha)) h
  ·exact hD h
 ·rename_i hc;split at h
  ·rename_i ha;exact Ig hc (fun _=>rfl) (wk _ _ _ ha) h
  ·exact hD h
 ·rename_i hc;split at h
  ·rename_i ha;exact Ig hc (fun _=>rfl) (wm _ _ _ ha) h
  ·exact hD h
 ·exact hD h
theorem nD {v:Value}{w':World}(h:K v w'):Out P K (.ok (.value v) w'):=h
attribute [local irreducible] Out
theorem iF {o:Oper}(hs:FB P o.op=true)(hl:∀t x,o.op≠ .load t x)(h:SL P F true E o w K):Qv P (execOp E.Ag o) w K:=by
 obtain ⟨dst,op,type,pos,after,guard⟩:=o;simp only[SL]at h;simp only at hs hl;cases op<;>simp only[FB,bu]at hs<;>simp only at h
 case move x=>exact W5 h
 case assign x=>exact W5 h
 case pick c a b=>exact nC h
 case load t x=>exact (hl t x rfl).elim
 case nilCheck x=>
  split at h
  ·rename_i p hx;obtain ⟨a,rfl,hk⟩:=h;exact ⟨_,fun _=>by simp only[execOp,hx];rfl,hk⟩
  ·exact h.elim
 case binOp op t x y yt=>
  refine OL h (fun hd=>?_) (fun ho=>ho.elim) id;split at hd
  ·rename_i hk;exact Ih (wo hk) hd
  ·exact hd.elim
 case unOp op t x=>exact Ih (iG _ _) h
 case convert src dst x=>
  split at h
  ·rename_i k n hx;split at h
   ·rename_i k' hu;simp only[execOp,hx]at h⊢;exact VV hu h
   ·exact h.elim
  ·exact h.elim
 case slice t x lo hi mx=>exact SO h (fun hd=>Ih (VW _ _ _ _ _) hd) id
 case fieldAddr t x f=>exact SP h (fun hd=>hd.elim) id
 case field t x f=>exact Ih (iH _ _ _) h
 case build t ps=>exact Ih (iI _ _) h
 case indexAddr t x i=>exact OM h (fun hd=>Ih (VX _ _ _) hd) id
 case index t x i=>exact ON h (fun hd=>Ih (iJ _ _ _) hd) id
 case extract t i=>exact Ih (VY _ _) h
 case call c=>
  refine ADS (D:=False) (fun h=>h.elim) ?_;split at h<;>first
   |exact h.elim
   |(rename_i hc;simp only[hc];exact h)
   |(split at h<;>exact h.elim)
   |(rename_i hc;simp only[hc];split at h<;>first|exact h.elim|(rename_i ha;simp only[ha];exact h))
theorem Me {s:Sem Next}(h:Qv P s w K):Out P K (s.run P w):=Y2 h
theorem DC {c:Call}{b:Builtin}{t:TypeId}{s:Sem Value}(hc:c.callee= .builtin b)
  (hb:∀consts,builtin b c.argTypes t consts (c.args.map E.Ag)=(do pure (Next.value (<-s))))
  (h:Out P K ((do pure (Next.value (<-s)):Sem Next).run P w)):Out P K ((do let d<-resolve E.Ag c t;invoke d.target d.args:Sem Next).run P w):=by
 have e:(do let d<-resolve E.Ag c t;invoke d.target d.args:Sem Next)=(do pure (Next.value (<-s))):=by
  simp only[resolve,hc,pure_bind,invoke,hb]
 rw[e];exact h
theorem VZ {u:TypeId}{x v:Value}(h:gm P u x=some v):∃t,x= .iface t v/\∃d,P.underlying u=some d/\Ma d=false/\t=u:=by
 unfold gm at h;split at h
 ·rename_i t y;split at h
  ·rename_i d hd;split at h
   ·rename_i h1 h2;cases h;exact ⟨t,rfl,d,hd,h1,b5 h2⟩
   ·cases h
  ·cases h
 ·cases h
theorem wq {a:Addr}{ty:TypeId}(h:Nx w a (fun i c w'=>K (.tuple #[.bool true,.int .i64 i,.int .i32 c]) w') (K (.tuple #[.bool false]) w)):∃v w',(Instr.next (.pointer (some a)) true ty).run P w= .ok v w'/\K v w':=by
 obtain ⟨s,pos,ho,hb,hc⟩:=h;obtain ⟨b,o,sp⟩:=a;simp only at ho hb hc;subst ho;by_cases hp:pos<s.size
 ·rw[aL hp]at hc;refine ⟨_,_,?_,hc⟩;simp[Instr.next,getObj,setObj,Sem.run,hb,hp,goInt,o7]
 ·rw[aR hp]at hc;refine ⟨_,_,?_,hc⟩;simp[Instr.next,getObj,Sem.run,hb,hp]
theorem CY (hF:Ac P F.ok){o:Oper}(h:SL P F false E o w K):MY P F.pk K ((execOp E.Ag o).run P w):=by
 obtain ⟨dst,op,type,pos,after,guard⟩:=o;simp only[SL]at h;cases op<;>simp only at h<;>try exact Out.EU h
 case load t x=>
  obtain ⟨v,h1,h2⟩:=QE h;exact Out.EU (BP h1 h2)
 case store t x y=>
  obtain ⟨w',h1,h2⟩:=nE h;exact Out.EU (SQ h1 h2)
 case nilCheck x=>
  split at h
  ·rename_i p hx;obtain ⟨a,rfl,hk⟩:=h;simp only[execOp,hx];exact Out.EU (nD hk)
  ·exact Out.EU h
 case binOp op t x y yt=>
  refine Out.EU (OL h (fun hd=>?_) (fun ho=>B6 ho) (fun h=>Me h));split at hd<;>exact hd
 case convert src dst x=>
  split at h
  ·split at h<;>exact Out.EU h
  ·exact Out.EU (B6 h)
 case makeSlice t l c=>exact Out.EU (B6 h)
 case slice t x lo hi mx=>exact Out.EU (SO h id (fun h=>Me h))
 case fieldAddr t x f=>exact Out.EU (SP h id (fun h=>Me h))
 case indexAddr t x i=>exact Out.EU (OM h id (fun h=>Me h))
 case index t x i=>exact Out.EU (ON h id (fun h=>Me h))
 case lookup t x i ok=>
  split at h
  ·exact Out.EU (B6 h)
  ·split at h
   ·obtain ⟨x,b,w',hr,hk⟩:=h;exact Out.EU (BP hr hk)
   ·exact Out.EU h
 case panic x=>
  unfold gl at h;split at h
  ·rename_i t y hx;simp only[execOp,hx];exact h
  ·exact h.elim
 case range t x=>
  split at h
  ·rename_i s hq hx hu;refine Out.EU (BP (w':=w.alloc (.stringIter s 0)) ?_ h);rw[hx];simp[Instr.range,run_underlying hu]
  ·rename_i m _ _ hq hx hu;obtain ⟨a,w',hr,hk⟩:=h;refine Out.EU (BP (w':=w') ?_ hk);rw[hx];exact hr
  ·exact Out.EU h
 case next it str=>
  split at h
  ·rename_i a hq hx;obtain ⟨v,w',h1,h2⟩:=wq (P:=P) (ty:=type) h;refine Out.EU (BP (w':=w') ?_ h2);rw[hx];exact h1
  ·rename_i a hq hx;rcases h with ⟨w',hr,hk⟩|⟨x,y,w',hr,hk⟩
   ·refine Out.EU (BP (w':=w') ?_ hk);rw[hx];exact hr
   ·refine Out.EU (BP (w':=w') ?_ hk);rw[hx];exact hr
  ·exact Out.EU h
 case mapUpdate t m k x=>exact Out.EU (iK h)
 case typeAssert x t u ok=>
  split at h
  ·exact Out.EU (B6 h)
  ·split at h
   ·rename_i v hv;refine Out.EU (BP (w':=w) ?_ h);obtain ⟨y,hx,d,hu,hi,hy⟩:=VZ hv;rw[hx];simp only[Instr.typeAssert,Sem.run_bind,run_underlying hu,Result.andThen_ok];subst hy;clear h hv hF;cases d<;>simp_all [Ma]
   ·obtain ⟨x,b,w',hr,hk⟩:=h;exact Out.EU (BP hr hk)
 case call c=>
  split at h
  ·rename_i f hc;split at h
   ·rename_i g first captured _ hf
    have e:(do let d<-resolve E.Ag c type;invoke d.target d.args:Sem Next)=callFunc g ((first++(c.args.map E.Ag))++captured):=by
     simp only[resolve,hc,hf,Deferred.ofValue,pure_bind,invoke]
    show MY P F.pk K ((do let d<-resolve E.Ag c type;invoke d.target d.args:Sem Next).run P w);rw[e];exact Yy hF h
   ·exact Out.EU h
  ·rename_i hc;exact Out.EU (DC hc (fun _=>rfl) (B6 h))
  ·rename_i hc;exact Out.EU (DC hc (fun _=>rfl) (B6 h))
  ·rename_i hc;exact Out.EU (DC hc (fun _=>rfl) (B6 h))
  ·rename_i hc;exact Out.EU (DC hc (fun _=>rfl) (B6 h))
  ·rename_i hc;split at h
   ·exact Out.EU h
   ·exact Out.EU h
   ·exact Out.EU (DC hc (fun _=>rfl) (B6 h))
   ·exact Out.EU h
  ·split at h<;>exact Out.EU h
  ·split at h<;>exact Out.EU h
  ·split at h<;>exact Out.EU h
  ·exact Out.EU h
end
end Sh
namespace Sh
section
variable {P:Program} {F:Fx} {N:Nat}
theorem Dv {o:Oper}{a:Act}{next:Act->World->Prop}{Q:Exit->Act->World->Prop}{pk:Value->World->Prop}{K:Value->World->Prop}{r:Result Next}(h:MY P pk K r)
  (hk:∀v w',K v w'->next (a.put o.dst v) w') (hp:∀v w',pk v w'->Q (.panic (AV v)) a w'):o.upon P a next Q r:=by
 cases r with
 |halt x w=>
  cases x<;>try exact h.elim
  case panic v=>exact hp _ _ h
 |ok n w=>
  cases n<;>try exact h.elim
  case value v=>exact hk _ _ h
  case skip=>exact hk _ _ h
  case enter f args=>
   refine Calls.mono h fun e w' he=>?_
   rcases he with ⟨v,rfl,hv⟩|⟨v,rfl,hv⟩
   ·exact hk _ _ hv
   ·exact hp _ _ hv
theorem fits_bool {E:Env}{a:Act}(h:Fits N E a){s:Nat}{b:Bool}(hs:E.get? s=some (.bool b)):a.tmps[s]?=some (.bool b)/\s<N:=by
 obtain ⟨Au,hg⟩:=h.get s _ hs;have:s<a.tmps.size:=by rw[h.size];exact Au
 refine ⟨?_,Au⟩;rw[bF this];simpa[Array.getD,this]using hg
theorem Bb {ops:Array Oper}{E:Env}{o:Oper}{yes no:Env->Prop}{a:Act}(h:j2 ops E o yes no)(hf:Fits N E a):
  (Region.wanted o (yielded ops a.tmps)=true/\∃E',Fits N E' a/\yes E')\/(Region.wanted o (yielded ops a.tmps)=false/\∃E',Fits N E' a/\no E'):=by
 unfold j2 at h;split at h
 ·rename_i hg;exact .inl ⟨by simp[Region.wanted,hg],E,hf,h⟩
 ·rename_i j want hg;split at h
  ·rename_i s hs;split at h
   ·rename_i b hb;obtain ⟨h1,h2⟩:=fits_bool hf hb;have hy:yielded ops a.tmps j=some b:=by simp[yielded,hs,h1]
    have hv:a.tmps.getD s undef= .bool b:=(hf.get s _ hb).2;split at h<;>rcases Ij h with ⟨rfl,h⟩|⟨rfl,h⟩
    ·exact .inl ⟨by simp[Region.wanted,hg,hy],_,hf.cons h2 hv,h⟩
    ·exact .inr ⟨by simp[Region.wanted,hg,hy],_,hf.cons h2 hv,h⟩
    ·exact .inr ⟨by simp[Region.wanted,hg,hy],_,hf.cons h2 hv,h⟩
    ·exact .inl ⟨by simp[Region.wanted,hg,hy],_,hf.cons h2 hv,h⟩
   ·rename_i vs hb;obtain ⟨Au,hv⟩:=hf.get s _ hb;have Y6:s<a.tmps.size:=by rw[hf.size];exact Au
    have h1:a.tmps[s]?=some (.tuple vs):=by
     rw[bF Y6];simpa[Array.getD,Y6]using hv
    have hy:yielded ops a.tmps j=none:=by simp[yielded,hs,h1]
    exact .inr ⟨by simp[Region.wanted,hg,hy],E,hf,h⟩
   ·exact h.elim
  ·exact h.elim
def CI (N:Nat)(l:List Oper):Prop:=∀o∈l,∀d,o.dst=some d->d<N
def frame (l:List Oper)(a a':Act):Prop:=(∀t,(∀o∈l,o.dst≠some t)->a'.tmps.getD t undef=a.tmps.getD t undef)/\a'.defers=a.defers
theorem frame.refl(l:List Oper)(a:Act):frame l a a:=⟨fun _ _=>rfl,rfl⟩
theorem frame.put{l:List Oper}{a0 a:Act}{o:Oper}{v:Value}(h:frame l a0 a)(ho:o∈l):frame l a0 (a.put o.dst v):=
 ⟨fun t ht=>by rw[Ek (ht o ho)];exact h.1 t ht,by rw[put_defers];exact h.2⟩
theorem frame.SW{l:List Oper}{a0 a:Act}{o:Oper}{v:Value}(h:frame l a0 (a.put o.dst v))(ho:o∈l):frame l a0 a:=
 ⟨fun t ht=>by rw[<-h.1 t ht,Ek (ht o ho)],by rw[<-h.2,put_defers]⟩
theorem frame.sub{l m:List Oper}{a b:Act}(h:frame l a b)(hs:∀o∈l,o∈m):frame m a b:=⟨fun t ht=>h.1 t fun o ho=>ht o (hs o ho),h.2⟩
theorem frame.trans{l:List Oper}{a b c:Act}(h:frame l a b)(k:frame l b c):frame l a c:=⟨fun t ht=>by rw[k.1 t ht];exact h.1 t ht,by rw[k.2];exact h.2⟩
theorem frame.cons{o:Oper}{l:List Oper}{a a':Act}(h:frame l a a'):frame (o::l) a a':=h.sub fun _ h=>av _ h
theorem AL {o:Oper}{l:List Oper}{a a':Act}{v:Value}(h:frame l (a.put o.dst v) a'):frame (o::l) a a':=
 ⟨fun t ht=>by rw[h.1 t fun p hp=>ht p (av _ hp)];exact Ek (ht o aw),by rw[h.2,put_defers]⟩
theorem Fits.some{N:Nat}{E:Env}{a:Act}(h:Fits N E a):Fits N [] a:=⟨h.size,fun t v hv=>by cases hv⟩
theorem Fits.SW{N:Nat}{a:Act}{d:Option Tmp}{v:Value}(h:Fits N [] (a.put d v)):Fits N [] a:=⟨by have:=h.size;cases d<;>simpa[Act.put]using this,fun t v hv=>by cases hv⟩
theorem Gc (hF:Ac P F.ok){ops:Array Oper}{Q:Exit->Act->World->Prop}:∀(l:List Oper) (E:Env) (w:World) (K:Env->World->Prop) (a:Act),
  FC P F false ops l E w K->Fits N E a->CI N l->(∀E' a' w',K E' w'->Fits N E' a'->frame l a a'->Q .normal a' w')->
  (∀v a' w',F.pk v w'->Fits N [] a'->frame l a a'->Q (.panic (AV v)) a' w')->wpList P ops Q l a w
 |[],E,w,K,a,h,hf,_,hQ,_=>hQ E a w h hf (frame.refl _ _)
 |o::r,E,w,K,a,h,hf,hd,hQ,hP=>by
  have JA:CI N r:=fun p hp=>hd p (av _ hp)
  have ho:=hd o aw;unfold wpList;rcases Bb h hf with ⟨hw,E',BV,hy⟩|⟨hw,E',BV,hn⟩
  ·rw[aG hw];refine .inl ?_;split at hy
   ·rename_i hb;simp only[ai]at hb;unfold Oper.wp;rw[Ah BV hb.1];refine Dv (CY hF hy) (fun v w' hk=>?_) fun v w' hp=>hP v a w' hp hf.some (frame.refl _ _)
    exact Gc hF r _ w' K _ hk (BV.put ho) JA (fun GH a' BB h1 h2 h3=>hQ _ _ _ h1 h2 (AL h3)) fun v a' BB h1 h2 h3=>hP v a' BB h1 h2 (AL h3)
   ·exact hy.elim
  ·rw[aA (by rw[hw];simp)];exact Gc hF r _ w K _ hn (BV.put ho) JA (fun GH a' BB h1 h2 h3=>hQ _ _ _ h1 h2 (AL h3)) fun v a' BB h1 h2 h3=>hP v a' BB h1 h2 (AL h3)
theorem Mk {ρ:Operand->Value}:∀{l:List (Nat×Operand)} {K:List (Nat×Value)->Prop},gq ρ l K->K (l.map fun p=>(p.1,ρ p.2))
 |[],K,h=>h
 |p::r,K,h=>by
  obtain ⟨f,a,c,e,h⟩:=h;have h:=Mk h;rw[<-e]at h;exact h
theorem QG (hF:Ac P F.ok){E:Env}{w:World}{K:Value->World->Prop}{o:Oper}{ops:Array Oper}(h:y9 P F ops E o w K):MY P F.pk K ((execOp E.Ag o).run P w):=by
 unfold y9 at h;split at h
 ·rename_i it Ql;split at h
  ·rename_i a hx;obtain ⟨x,y,w',hr,hk⟩:=h;obtain ⟨dst,op,type,pos,after,guard⟩:=o;simp only at Ql;subst Ql;refine Out.EU (BP (w':=w') ?_ hk);rw[hx];exact hr
  ·exact CY hF h
 ·rename_i t parts Ql;split at h
  ·have h:=Mk h;obtain ⟨dst,op,type,pos,after,guard⟩:=o;simp only at Ql;subst Ql;have e:(parts.toList.map fun p=>(p.1,E.Ag p.2)).toArray=parts.map fun (i,x)=>(i,E.Ag x):=by
    rw[<-cH,Array.toArray_toList]
   rw[e]at h;exact Out.EU h
  ·exact CY hF h
 ·rename_i c Ql;split at h
  ·rename_i t hc;obtain ⟨g,first,captured,hf,hg,h⟩:=h;simp only[ai]at hg;obtain ⟨hg,ADW⟩:=hg;obtain ⟨dst,op,type,pos,after,guard⟩:=o;simp only at Ql h;subst Ql;have e:(do let d<-resolve E.Ag c type;invoke d.target d.args:Sem Next)=callFunc g ((first++(c.args.map E.Ag))++captured):=by
    simp only[resolve,hc,hf,Deferred.ofValue,pure_bind,invoke]
   show MY P F.pk K ((do let d<-resolve E.Ag c type;invoke d.target d.args:Sem Next).run P w);rw[e];obtain ⟨fn,QV⟩:=Option.isSome_iff_exists.1 ADW;obtain ⟨hb,hn⟩:=hF g fn hg QV;have wi:fn.body.isNone=false:=by cases hx:fn.body<;>simp_all
   have hn':(fn.name== "runtime.NumGoroutine")=false:=by simpa using hn
   simp only[callFunc,Sem.run_bind,run_program,Result.andThen_ok,QV,hn',wi,bu,if_false,Sem.run_pure,MY];refine h.mono fun e w' he=>?_
   rcases he with ⟨s,h1,h2⟩|he
   ·exact .inl ⟨_,h1,h2⟩
   ·exact .inr he
  ·exact CY hF h
 ·exact CY hF h
theorem Gd (hF:Ac P F.ok){ops:Array Oper}{Q:Exit->Act->World->Prop}:∀(l:List Oper) (E:Env) (w:World) (K:Env->World->Prop) (a:Act),
  gr P F ops l E w K->Fits N E a->CI N l->(∀E' a' w',K E' w'->Fits N E' a'->frame l a a'->Q .normal a' w')->
  (∀v a' w',F.pk v w'->Fits N [] a'->frame l a a'->Q (.panic (AV v)) a' w')->wpList P ops Q l a w
 |[],E,w,K,a,h,hf,_,hQ,_=>hQ E a w h hf (frame.refl _ _)
 |o::r,E,w,K,a,h,hf,hd,hQ,hP=>by
  have JA:CI N r:=fun p hp=>hd p (av _ hp)
  have ho:=hd o aw;unfold wpList;rcases Bb h hf with ⟨hw,E',BV,hy⟩|⟨hw,E',BV,hn⟩
  ·rw[aG hw];refine .inl ?_;split at hy
   ·rename_i hb;unfold Oper.wp;rw[Ah BV hb];refine Dv (QG hF hy) (fun v w' hk=>?_) fun v w' hp=>hP v a w' hp hf.some (frame.refl _ _)
    exact Gd hF r _ w' K _ hk (BV.put ho) JA (fun GH a' BB h1 h2 h3=>hQ _ _ _ h1 h2 (AL h3)) fun v a' BB h1 h2 h3=>hP v a' BB h1 h2 (AL h3)
   ·exact hy.elim
  ·rw[aA (by rw[hw];simp)];exact Gd hF r _ w K _ hn (BV.put ho) JA (fun GH a' BB h1 h2 h3=>hQ _ _ _ h1 h2 (AL h3)) fun v a' BB h1 h2 h3=>hP v a' BB h1 h2 (AL h3)
theorem Y7 {E:Env}{w:World}{K:Value->World->Prop}{o:Oper}(hs:FB P o.op=true)(h:SL P F true E o w K):∃v,(execOp E.Ag o).run P w= .ok (.value v) w/\K v w:=by
 by_cases hl:∃t x,o.op= .load t x
 ·obtain ⟨t,x,hl⟩:=hl;obtain ⟨dst,op,type,pos,after,guard⟩:=o;simp only at hl;subst hl
  replace h:yz P t (E.Ag x) w fun v=>K v w:=h
  obtain ⟨v,h1,h2⟩:=QE h;exact ⟨v,by simp only[execOp,Sem.run_bind,h1,Result.andThen_ok,Sem.run_pure],h2⟩
 ·obtain ⟨v,h1,h2⟩:=iF hs (fun t x e=>hl ⟨t,x,e⟩) h;exact ⟨v,h1 w,h2⟩
theorem Cs {ops:Array Oper}{Q:Act->Prop}:∀(l:List Oper) (E:Env) (w:World) (K:Env->World->Prop) (a:Act),
  FC P F true ops l E w K->Fits N E a->CI N l->(∀E' a',K E' w->Fits N E' a'->frame l a a'->Q a')->wpStill P ops w Q l a
 |[],E,w,K,a,h,hf,_,hQ=>hQ E a h hf (frame.refl _ _)
 |o::r,E,w,K,a,h,hf,hd,hQ=>by
  have JA:CI N r:=fun p hp=>hd p (av _ hp)
  have ho:=hd o aw;unfold wpStill;rcases Bb h hf with ⟨hw,E',BV,hy⟩|⟨hw,E',BV,hn⟩
  ·rw[aG hw];split at hy
   ·rename_i hb;simp only[ai,Bool.not_true,cM]at hb;obtain ⟨v,h1,h2⟩:=Y7 hb.2 hy;unfold Oper.still;rw[Ah BV hb.1,h1];exact ⟨rfl,Cs r _ w K _ h2 (BV.put ho) JA fun GH a' h1 h2 h3=>hQ _ _ h1 h2 (AL h3)⟩
   ·exact hy.elim
  ·rw[aA (by rw[hw];simp)];exact Cs r _ w K _ hn (BV.put ho) JA fun GH a' h1 h2 h3=>hQ _ _ h1 h2 (AL h3)
theorem SX {S:World->Prop}{a:Addr}{K:List Value->Prop}:∀(ts:List Da) (i:Nat),wY S a i ts K->
  ∃l:List Value,l.length=ts.length/\(∀w,S w->∀j v,l[j]?=some v->w.cell? (a.add (i+j))=some v)/\K l
 |[],_,h=>⟨[],rfl,by simp,h⟩
 |t::ts,i,h=>by
  obtain ⟨x,hx,hr⟩:=h;obtain ⟨l,h1,h2,h3⟩:=SX ts (i+1) hr;refine ⟨t.v x::l,by simp[h1],fun w hw j v hj=>?_,h3⟩;cases j with
  |zero=>simp at hj;subst hj;simpa using hx w hw
  |succ j=>have:=h2 w hw j v (by simpa using hj);rw[show i+(j+1)=i+1+j by omega];exact this
theorem iO {S:World->Prop}{E:Env}{w:World}{K:Value->Prop}{o:Oper}(hs:FB P o.op=true)(h:opQ P F S E o w K):
  ∃v,(∀w2,S w2->(execOp E.Ag o).run P w2= .ok (.value v) w2)/\K v:=by
 by_cases hl:∃t x,o.op= .load t x
 ·obtain ⟨t,x,hl⟩:=hl;obtain ⟨dst,op,type,pos,after,guard⟩:=o;simp only at hl;subst hl
  replace h:ldQ P S t (E.Ag x) K:=h
  unfold ldQ at h;split at h
  ·rename_i a hx;have e:∀v w2,(loadVar t a).run P w2= .ok v w2->(execOp E.Ag {dst:=dst,op:= .load t x,type:=type,pos:=pos,after:=after,guard:=guard}).run P w2= .ok (.value v) w2:=fun v w2 hv=>by
    simp only[execOp,hx,Instr.loadAt,Instr.sureAddr,Sem.run_bind,Sem.run_pure,Result.andThen_ok,hv]
   split at h
   ·rename_i d n hd hn;split at h
    ·rename_i hg;obtain ⟨v,h1,h2⟩:=h;refine ⟨_,fun w2 hw=>e _ _ ?_,h2⟩;simp only[loadVar,Sem.run_bind,Cr hd,hg,Result.andThen_ok,bu,if_false,KL (h1 w2 hw)]
    ·rename_i hg;split at h
     ·rename_i ts _;split at h
      ·rename_i hlen;obtain ⟨l,h1,h2,h3⟩:=SX ts 0 h;refine ⟨_,fun w2 hw=>e _ _ ?_,h3⟩;have hl:l.length=n:=by rw[h1];exact beq_eq hlen
       have:=run_loadCells_list (P:=P) w2 a l (fun j v hj=>by simpa using h2 w2 hw j v hj);simp only[loadVar,Sem.run_bind,Cr hd,hg,Result.andThen_ok,if_true,An hn,<-hl,this,Sem.run_pure]
      ·exact h.elim
     ·obtain ⟨v,h1,h2⟩:=h;exact ⟨.agg v,fun w2 hw=>e _ _ (h1 w2 hw),h2⟩
   ·exact h.elim
  ·exact h.elim
 ·have h':SL P F true E o w fun v _=>K v:=by
   unfold opQ at h;split at h
   ·rename_i t x hx;exact (hl ⟨t,x,hx⟩).elim
   ·exact h
  obtain ⟨v,h1,h2⟩:=iF hs (fun t x e=>hl ⟨t,x,e⟩) h';exact ⟨v,fun w2 _=>h1 w2,h2⟩
def DJ (ops:Array Oper)(L:Array Bool):Prop:=∀j o,ops[j]?=some o->L.getD j false=true->∀e∈o.after,Region.binds .any e=true->L.getD e.on false=true
theorem DJ.start(ops:Array Oper)(n:Nat):DJ ops (Array.replicate n false):=fun j o _ h=>by
 simp only[br,Array.getElem?_replicate]at h;split at h<;>simp at h
theorem DJ.set{ops:Array Oper}{L:Array Bool}{j:Nat}(h:DJ ops L)(hj:j∈Region.ready .any ops L):DJ ops (L.setIfInBounds j true):=fun k o ho hk e he hb=>by
 by_cases zC:j=k
 ·subst zC;obtain ⟨_,o',N6,Bl⟩:=mem_ready.1 hj;rw[ho]at N6;cases N6;exact getD_set_true (Bl e he hb)
 ·rw[getD_set_ne false zC]at hk;exact getD_set_true (h k o ho hk e he hb)
theorem He {L:Array Bool}:∀(es:List Edge) (m:Array Bool),(∀e∈es,Region.binds .any e=true->L.getD e.on false=true)->(∀k,m.getD k false=true->L.getD k false=true)->
  ∀k,(KF es m).getD k false=true->L.getD k false=true
 |[],_,_,h,k,hk=>h k hk
 |e::es,m,he,h,k,hk=>by
  unfold KF at hk;rw[List.foldl_cons]at hk;refine He es _ (fun e' h'=>he e' (av _ h')) (fun i hi=>?_) k hk;split at hi
  ·rename_i hb;by_cases hei:e.on=i
   ·subst hei;exact he e aw hb
   ·rw[getD_set_ne false hei]at hi;exact h i hi
  ·exact h i hi
theorem OP {ops:Array Oper}{L:Array Bool}(hL:DJ ops L):∀(n:Nat) (m:Array Bool),(∀k,m.getD k false=true->L.getD k false=true)->∀k,(Yu ops n m).getD k false=true->L.getD k false=true
 |0,_,h,k,hk=>h k hk
 |n+1,m,h,k,hk=>by
  unfold Yu at hk;refine OP hL n _ (fun i hi=>?_) k hk;split at hi
  ·rename_i o hm ho;exact He _ _ (fun e he hb=>hL n o ho (h n hm) e (by simpa using he) hb) h i hi
  ·exact h i hi
theorem SY {ops:Array Oper}{L:Array Bool}(hL:DJ ops L){i j:Nat}(ha:pc ops j i=true)(hj:j∈Region.ready .any ops L)(hi:i∈Region.ready .any ops L):False:=by
 obtain ⟨_,o,ho,Bl⟩:=mem_ready.1 hj;unfold pc at ha;rw[ho]at ha;have h1:=OP hL j _ (He o.after.toList _ (fun e he hb=>Bl e (by simpa using he) hb) (fun k hk=>by
  simp only[br,Array.getElem?_replicate]at hk;split at hk<;>simp at hk)) i ha
 have h0:=(mem_ready.1 hi).1;rcases b9 i L.size with h'|h'
 ·simp[h']at h0 h1;rw[h0]at h1;cases h1
 ·simp[bG h']at h1
section
variable {ops:Array Oper} {Q:Exit->Act->World->Prop} {S:World->Prop} {J:List Nat}
def CZ (P:Program)(ops:Array Oper)(Q:Exit->Act->World->Prop)(J:List Nat)(S:World->Prop):Nat->Array Bool->Act->World->Prop
 |0,listed,a,w=>Region.ready .any ops listed=[]/\Q .normal a w
 |fuel+1,listed,a,w=>(Region.ready .any ops listed=[]->Q .normal a w)/\∀i∈Region.ready .any ops listed,
  if J.contains i=true then wpOp P ops Q i (fun a' w'=>wpAny P .any ops Q fuel (listed.setIfInBounds i true) a' w') a w
  else wpOp P ops Q i (fun a' w'=>S w'/\CZ P ops Q J S fuel (listed.setIfInBounds i true) a' w') a w
theorem Dx:∀(fuel:Nat) (listed:Array Bool) (a:Act) (w:World),CZ P ops Q J S fuel listed a w->wpAny P .any ops Q fuel listed a w
 |0,_,_,_,h=>h
 |fuel+1,_,_,_,h=>⟨h.1,fun i hi=>by
  have:=h.2 i hi;split at this
  ·exact this
  ·exact wpOp_mono (fun a' w' h'=>Dx fuel _ a' w' h'.2) this⟩
def Ge (P:Program)(ops:Array Oper)(J:List Nat)(S:World->Prop)(i:Nat)(oi:Oper)(v:Value)(a:Act):Prop:=
 Yields P ops oi v a\/(YieldsIf P ops S oi v a/\∀j∈J,pc ops j i=true)
theorem Ge.yieldsIf{i:Nat}{oi:Oper}{v:Value}{a:Act}(h:Ge P ops J S i oi v a):YieldsIf P ops S oi v a:=h.elim (fun h=>h.yieldsIf) (fun h=>h.1)
theorem QH {i:Nat}{oi:Oper}{v:Value}(hi:ops[i]?=some oi)(Ik:∀(j:Nat) (o:Oper) cs b,ops[j]?=some o->o.op≠ .select cs b)
  (hQ:∀c a w,Q (.panic c) (a.put oi.dst v) w->Q (.panic c) a w):
  ∀(fuel:Nat) (listed:Array Bool) (a:Act) (w:World),
   (∀j oj,ops[j]?=some oj->j≠i->listed.getD j true=false->(∀e∈oj.after,Region.binds .any e=true->e.on≠i)->oi.apart ops oj=true)->
   DJ ops listed->i∈Region.ready .any ops listed->Ge P ops J S i oi v a->S w->
   CZ P ops Q J S fuel (listed.setIfInBounds i true) (a.put oi.dst v) w->CZ P ops Q J S (fuel+1) listed a w:=by
 intro fuel;have self:∀(fuel:Nat) (listed:Array Bool) (a:Act) (w:World),Ge P ops J S i oi v a->S w->CZ P ops Q J S fuel (listed.setIfInBounds i true) (a.put oi.dst v) w->
   (if J.contains i=true then wpOp P ops Q i (fun a' w'=>wpAny P .any ops Q fuel (listed.setIfInBounds i true) a' w') a w
    else wpOp P ops Q i (fun a' w'=>S w'/\CZ P ops Q J S fuel (listed.setIfInBounds i true) a' w') a w):=fun fuel listed a w hy hS H=>by
  split
  ·exact hy.yieldsIf.wpOp hi hS (Dx _ _ _ _ H)
  ·exact hy.yieldsIf.wpOp hi hS ⟨hS,H⟩
 induction fuel with
 |zero=>
  intro listed a w _ _ hr hy hS H;refine ⟨fun h=>(by rw[h]at hr;cases hr),fun j hj=>?_⟩;by_cases Ks:j=i
  ·subst Ks;exact self 0 listed a w hy hS H
  ·have:=ready_mono hj Ks;rw[H.1]at this;cases this
 |succ fuel ih=>
  intro listed a w W7 LF hr hy hS H;refine ⟨fun h=>(by rw[h]at hr;cases hr),fun j hj=>?_⟩;by_cases Ks:j=i
  ·subst Ks;exact self _ listed a w hy hS H
  ·have h1:=H.2 j (ready_mono hj Ks);obtain ⟨ADX,oj,nH,Bl⟩:=mem_ready.1 hj;have ANO:∀e∈oj.after,Region.binds .any e=true->e.on≠i:=fun e he hb heq=>by
    have h1:=Bl e he hb;have h0:=(mem_ready.1 hr).1;rw[heq]at h1;rcases b9 i listed.size with h'|h'
    ·simp[h']at h0 h1;rw[h0]at h1;cases h1
    ·simp[bG h']at h1
   have iP:∀k ok,ops[k]?=some ok->k≠i->(listed.setIfInBounds j true).getD k true=false->
     (∀e∈ok.after,Region.binds .any e=true->e.on≠i)->oi.apart ops ok=true:=fun k ok hk DP hun Vx=>by
    refine W7 k ok hk DP ?_ Vx;by_cases hjk:j=k
    ·subst hjk;exact ADX
    ·rw[getD_set_ne true hjk]at hun;exact hun
   have TZ:=W7 j oj nH Ks ADX ANO;split at h1
   ·rename_i hJ;rw[aG hJ];rcases hy with hy|⟨_,hy⟩
    ·have h2:=wpOp_put nH TZ (fun cs b=>Ik i oi cs b hi) (fun cs b=>Ik j oj cs b nH) hQ hy h1;refine wpOp_mono (fun a' w' h3=>wpAny_first hi Ik hQ fuel _ a' w' iP (ready_mono hr (Ne.symm Ks)) h3.1 ?_) h2;rw[Array.setIfInBounds_comm _ _ Ks];exact h3.2
    ·exact (SY LF (hy j (by simpa using hJ)) hj hr).elim
   ·rename_i hJ;rw[aA hJ];have step:wpOp P ops Q j (fun a' w'=>Ge P ops J S i oi v a'/\S w'/\CZ P ops Q J S fuel ((listed.setIfInBounds i true).setIfInBounds j true) (a'.put oi.dst v) w') a w:=by
     rcases hy with hy|⟨hy,hyJ⟩
     ·exact wpOp_mono (fun a' w' h3=>⟨.inl h3.1,h3.2⟩) (wpOp_put nH TZ (fun cs b=>Ik i oi cs b hi) (fun cs b=>Ik j oj cs b nH) hQ hy h1)
     ·exact wpOp_mono (fun a' w' h3=>⟨.inr ⟨h3.1,hyJ⟩,h3.2⟩) (wpOp_putIf nH TZ (fun cs b=>Ik i oi cs b hi) (fun cs b=>Ik j oj cs b nH) hQ hy h1)
    refine wpOp_mono (fun a' w' h3=>⟨h3.2.1,ih (listed.setIfInBounds j true) a' w' iP (LF.set hj) (ready_mono hr (Ne.symm Ks)) h3.1 h3.2.1 ?_⟩) step;rw[Array.setIfInBounds_comm _ _ Ks];exact h3.2.2
end
theorem Y8 {S:World->Prop}{E:Env}{w:World}{K:Value->Prop}{o:Oper}(hs:FB P o.op=true)(hl:Mb o.op=false)(h:opQ P F S E o w K):
  ∃v,(∀w2,(execOp E.Ag o).run P w2= .ok (.value v) w2)/\K v:=by
 have VH:∀t x,o.op≠ .load t x:=fun t x e=>by rw[e]at hl;cases hl
 have h':SL P F true E o w fun v _=>K v:=by
  unfold opQ at h;split at h
  ·rename_i t x hx;exact (VH t x hx).elim
  ·exact h
 obtain ⟨v,h1,h2⟩:=iF hs VH h';exact ⟨v,h1,h2⟩
theorem XA (hF:Ac P F.ok){ops:Array Oper}{Q:Exit->Act->World->Prop}{J:List Nat}{S:World->Prop}{i:Nat}{fl:Option (List Nat)}{lo:Bool}{E:Env}{w:World}{o:Oper}{a:Act}
  {fuel:Nat} {listed:Array Bool} {k:(World->Prop)->Env->World->Prop} (ho:ops[i]?=some o) (hS:S w) (hf:Fits N E a) (hd:∀t,o.dst=some t->t<N)
  (hp:∀v w',F.pk v w'->Q (.panic (AV v)) a w') (h:nB P F ops J S i fl lo E w o k) (hk:∀S E' v w',k S E' w'->S w'->Fits N E' (a.put o.dst v)->CZ P ops Q (fl.getD J) S fuel (listed.setIfInBounds i true) (a.put o.dst v) w'):
  if J.contains i=true then wpOp P ops Q i (fun a' w'=>wpAny P .any ops Q fuel (listed.setIfInBounds i true) a' w') a w
  else wpOp P ops Q i (fun a' w'=>S w'/\CZ P ops Q J S fuel (listed.setIfInBounds i true) a' w') a w:=by
 have ph:∀(E':Env) (v:Value) (w':World),zA lo w' (fun S=>k S E' w')->Fits N E' (a.put o.dst v)->wpAny P .any ops Q fuel (listed.setIfInBounds i true) (a.put o.dst v) w':=fun E' v w' h hf=>by
  unfold zA at h;split at h
  ·obtain ⟨S',h1,h2⟩:=h;exact Dx _ _ _ _ (hk _ _ _ _ h2 h1 hf)
  ·exact Dx _ _ _ _ (hk _ _ _ _ h trivial hf)
 unfold nB at h;split at h
 ·rename_i hJ;rw[aA (by rw[hJ];simp)];unfold wpOp;simp only[ho];rcases Bb h hf with ⟨hw,E',BV,hy⟩|⟨hw,E',BV,hn⟩
  ·rw[aG hw];split at hy
   ·rename_i Bl;refine .inl ?_;unfold Oper.wp;rw[Ah BV Bl];exact Dv (CY hF hy) (fun v w' hv=>⟨hv.1,hk _ _ _ _ hv.2 hv.1 (BV.put hd)⟩) hp
   ·exact hy.elim
  ·rw[aA (by rw[hw];simp)];exact ⟨hS,hk _ _ _ _ hn hS (BV.put hd)⟩
 ·rename_i J' hJ;rw[aG hJ];unfold wpOp;simp only[ho];rcases Bb h hf with ⟨hw,E',BV,hy⟩|⟨hw,E',BV,hn⟩
  ·rw[aG hw];split at hy
   ·rename_i Bl;refine .inl ?_;unfold Oper.wp;rw[Ah BV Bl];exact Dv (CY hF hy) (fun v w' hv=>ph _ _ _ hv (BV.put hd)) hp
   ·exact hy.elim
  ·rw[aA (by rw[hw];simp)];exact ph _ _ _ hn (BV.put hd)
 ·exact h.elim
theorem Ml {x:Nat}:∀{l:List Nat},W3 x l=true->x∉l
 |[],_,h=>by cases h
 |y::r,h,hm=>by
  simp only[W3,ai,bz]at h;rcases ar.1 hm with rfl|hm
  ·simp at h
  ·exact Ml h.2 hm
theorem ES:∀{l:List Nat},distinct l=true->l.Nodup
 |[],_=>cI
 |x::r,h=>by
  simp only[distinct,ai]at h;exact List.nodup_cons.2 ⟨Ml h.1,ES h.2⟩
theorem KM:∀(js:List Nat) (l:Array Bool),(CE l js).size=l.size
 |[],_=>rfl
 |j::js,l=>by rw[CE,KM js];simp
theorem KN (k:Nat):∀(js:List Nat) (l:Array Bool),(∀j∈js,j<l.size)->((CE l js).getD k false=true↔l.getD k false=true\/k∈js)
 |[],l,_=>by simp[CE]
 |j::js,l,h=>by
  rw[CE,KN k js _ (fun i hi=>by simpa using h i (av _ hi))];have hj:=h j aw;by_cases zC:j=k
  ·subst zC;simp[Array.getD,hj]
  ·rw[getD_set_ne false zC];simp only[ar];constructor
   ·rintro (h|h)
    ·exact .inl h
    ·exact .inr (.inr h)
   ·rintro (h|h|h)
    ·exact .inl h
    ·exact absurd h.symm zC
    ·exact .inr h
section
variable {ops:Array Oper}
def XB (N:Nat)(Gs:List CC)(listed:Array Bool)(a:Act)(w:World):Prop:=
 ∀e∈Gs,listed.getD e.j false=true->e.dst<N/\∃x:e.ty.T,e.G x w/\a.tmps.getD e.dst undef=e.ty.v x
theorem Hf {o:Oper}{listed:Array Bool}{a:Act}{w:World}{k:Env->Prop}:∀(l:List CC) (E:Env),OI o l E w k->Fits N E a->XB N l listed a w->(∀e∈l,Ib o.op e.dst=true->listed.getD e.j false=true)->
  ∃E',Fits N E' a/\k E'
 |[],E,h,hf,_,_=>⟨E,hf,h⟩
 |e::r,E,h,hf,hg,hu=>by
  have Nc:XB N r listed a w:=fun e he=>hg e (av _ he)
  have hu':∀e∈r,Ib o.op e.dst=true->listed.getD e.j false=true:=fun e he=>hu e (av _ he)
  unfold OI at h;split at h
  ·rename_i hb;obtain ⟨Au,x,hx,hv⟩:=hg e aw (hu e aw hb);exact Hf r _ (h x hx) (hf.cons Au hv) Nc hu'
  ·exact Hf r E h hf Nc hu'
theorem Il {listed:Array Bool}{a:Act}{w:World}{k:Env->Prop}:∀(l:List CC) (E:Env),Ic l E w k->Fits N E a->XB N l listed a w->(∀e∈l,listed.getD e.j false=true)->∃E',Fits N E' a/\k E'
 |[],E,h,hf,_,_=>⟨E,hf,h⟩
 |e::r,E,h,hf,hg,hu=>by
  obtain ⟨Au,x,hx,hv⟩:=hg e aw (hu e aw);exact Il r _ (h x hx) (hf.cons Au hv) (fun e he=>hg e (av _ he)) (fun e he=>hu e (av _ he))
def wu (ops:Array Oper)(le:World->World->Prop)(Gs:List CC):Prop:=∀e∈Gs,(∃o,ops[e.j]?=some o/\o.dst=some e.dst)/\∀x w w',le w w'->e.G x w->e.G x w'
theorem Mm {le:World->World->Prop}{k:List CC->Prop}:∀(js:List Nat) (acc:List CC),Wz P ops le js acc k->wu ops le acc->∃Gs,wu ops le Gs/\Gs.map (·.j)=acc.map (·.j)++js/\k Gs
 |[],acc,h,hg=>⟨acc,hg,by simp,h⟩
 |j::js,acc,h,hg=>by
  unfold Wz at h;split at h
  ·rename_i o ho;split at h
   ·rename_i d hd;obtain ⟨G,hG,h⟩:=h;obtain ⟨Gs,h1,h2,h3⟩:=Mm js _ h (fun e he=>by
     rcases aK.1 he with he|he
     ·exact hg e he
     ·rw[ao.1 he];exact ⟨⟨o,ho,hd⟩,hG⟩)
    exact ⟨Gs,h1,by rw[h2];simp,h3⟩
   ·exact h.elim
  ·exact h.elim
theorem Mn {S:World->Prop}{le:World->World->Prop}{B:World->Prop}{E:Env}{all:List CC}:∀(l:List CC),W0 P F ops S le B E all l->∀e∈l,∃o,ops[e.j]?=some o/\∀w,S w->B w->OI o all E w fun E'=>match hasAll E' o.op with
   |true=>SL P F false E' o w fun v w'=>S w'/\B w'/\le w w'/\∃x:e.ty.T,v=e.ty.v x/\e.G x w'
   |false=>False
 |[],_,e,he=>by cases he
 |e::r,h,e',he=>by
  obtain ⟨h1,h2⟩:=h;rcases ar.1 he with rfl|he
  ·split at h1
   ·rename_i o ho;exact ⟨o,ho,h1⟩
   ·exact h1.elim
  ·exact Mn r h2 e' he
theorem exists_least (p:Nat->Prop):∀(n:Nat),(∃m,m<n/\p m)->∃m,p m/\∀k,k<m->¬p k
 |0,⟨m,h,_⟩=>by omega
 |n+1,h=>by
  by_cases h':∃m,m<n/\p m
  ·exact exists_least p n h'
  ·obtain ⟨m,hm,hp⟩:=h;refine ⟨m,hp,fun k hk Xe=>h' ⟨k,by omega,Xe⟩⟩
theorem KO {listed:Array Bool}{js:List Nat}{E:Env}(h:P7 ops listed js E=true):js.Nodup/\(js.map (FN ops)).Nodup/\
  (∀j∈js,∃o,ops[j]?=some o/\o.guard=none/\listed.getD j true=false/\E.get? (FN ops j)=none/\
   (∀e∈o.after,Region.binds .any e=true->listed.getD e.on false=true\/(e.on∈js/\e.on<j))/\
   (∀j'∈js,Ib o.op (FN ops j')=true->∃e∈o.after,Region.binds .any e=true/\e.on=j'))/\
  (∀k,k<ops.size->listed.getD k true=false->k∉js->∀j∈js,pc ops k j=true):=by
 unfold P7 at h;simp only[ai]at h;obtain ⟨⟨⟨h1,h2⟩,h3⟩,h4⟩:=h;refine ⟨ES h1,ES h2,fun j hj=>?_,fun k hk hl hn j hj=>?_⟩
 ·have:=aO.1 h3 j hj;split at this
  ·rename_i o ho;simp only[ai,bz,Option.isNone_iff_eq_none]at this;obtain ⟨⟨⟨⟨⟨g1,g2⟩,g3⟩,g4⟩,g5⟩,g6⟩:=this;refine ⟨o,ho,g1,g3,by simpa using g4,fun e he hb=>?_,fun j' j3 hu=>?_⟩
   ·have:=aO.1 g5 e (by simpa using he);simp only[bA,bz,ai]at this;rcases this with (h|h)|h
    ·rw[hb]at h;cases h
    ·exact .inl h
    ·exact .inr ⟨by simpa using h.1,bD h.2⟩
   ·have:=aO.1 g6 j' j3;simp only[bA,bz]at this;rcases this with h|h
    ·rw[hu]at h;cases h
    ·obtain ⟨e,he,h⟩:=List.any_eq_true.1 h;simp only[ai]at h;exact ⟨e,by simpa using he,h.1,beq_eq h.2⟩
  ·cases this
 ·have:=aO.1 h4 k (List.mem_range.2 hk);simp only[bA]at this;rcases this with (h|h)|h
  ·rw[hl]at h;cases h
  ·exact absurd (by simpa using h) hn
  ·exact aO.1 h j hj
end
def HQ (P:Program)(F:Fx)(N:Nat)(ops:Array Oper)(a0:Act)(G:Act->World->Prop)(e:Exit)(a':Act)(w':World):Prop:=
 (e= .normal/\G a' w')\/∃v,e= .panic (AV v)/\F.pk v w'/\Fits N [] a'/\frame ops.toList a0 a'
theorem HQ.SW{ops:Array Oper}{a0:Act}{G:Act->World->Prop}{c:List PanicEntry}{a:Act}{o:Oper}{v:Value}{w:World}(h:HQ P F N ops a0 G (.panic c) (a.put o.dst v) w)(ho:o∈ops.toList):HQ P F N ops a0 G (.panic c) a w:=by
 rcases h with ⟨h,_⟩|⟨u,h1,h2,h3,h4⟩
 ·cases h
 ·exact .inr ⟨u,h1,h2,h3.SW,h4.SW ho⟩
theorem iQ (hF:Ac P F.ok){ops:Array Oper}{G:Act->World->Prop}{a0:Act}{J:List Nat}{S:World->Prop}{BH:Array Bool}{js:List Nat}{E:Env}{le:World->World->Prop}{B:World->Prop}{Gs:List CC}{n:Nat}
  (hd:CI N ops.toList) (hJ:∀j∈js,J.contains j=false) (BS:P7 ops BH js E=true) (zD:wu ops le Gs) (Tj:Gs.map (·.j)=js) (hI:W0 P F ops S le B E Gs Gs)
  (Pm:∀a w fuel,n<=fuel->S w->B w->DJ ops (CE BH js)->frame ops.toList a0 a->(∀k:Env->Prop,Ic Gs E w k->∃E',Fits N E' a/\k E')->CZ P ops (HQ P F N ops a0 G) J S fuel (CE BH js) a w):
  ∀(m:Nat) (listed:Array Bool) (a:Act) (w:World) (fuel:Nat),(js.filter fun j=> !listed.getD j false).length=m->n+m<=fuel->listed.size=BH.size->(∀k,listed.getD k false=true->BH.getD k false=true\/k∈js)->
   (∀k,BH.getD k false=true->listed.getD k false=true)->DJ ops listed->S w->B w->Fits N E a->frame ops.toList a0 a->XB N Gs listed a w->CZ P ops (HQ P F N ops a0 G) J S fuel listed a w:=by
 obtain ⟨GC,hdn,Ql,iL⟩:=KO BS;have Au:∀j∈js,j<BH.size:=fun j hj=>by
  obtain ⟨o,_,_,h,_⟩:=Ql j hj;rcases b9 j BH.size with h'|h'
  ·exact h'
  ·simp[bG h']at h
 intro m
 induction m with
 |zero=>
  intro listed a w fuel hm hfu DN VB SZ LF hS hB hf JB hg;have Bl:∀j∈js,listed.getD j false=true:=fun j hj=>by
   have h0:=aY hm;cases hx:listed.getD j false with
   |true=>rfl
   |false=>
    have:j∈js.filter fun j=> !listed.getD j false:=cC.2 ⟨hj,by rw[hx];rfl⟩
    rw[h0]at this;cases this
  have heq:listed=CE BH js:=by
   refine Array.ext (by rw[KM,DN]) fun k h1 h2=>?_
   have e1:listed.getD k false=listed[k]:=by simp[Array.getD,h1]
   have e2:(CE BH js).getD k false=(CE BH js)[k]:=by simp[Array.getD,h2]
   rw[<-e1,<-e2,cl,KN k js BH Au];exact ⟨VB k,fun h=>h.elim (SZ k) (Bl k)⟩
  have Og:∀e∈Gs,listed.getD e.j false=true:=fun e he=>Bl e.j (by rw[<-Tj];exact bE he)
  have key:∀k:Env->Prop,Ic Gs E w k->∃E',Fits N E' a/\k E':=fun k hk=>Il Gs E hk hf hg Og
  subst heq;exact Pm a w fuel (by omega) hS hB LF JB key
 |succ m ih=>
  intro listed a w fuel hm hfu DN VB SZ LF hS hB hf JB hg;obtain ⟨fuel,rfl⟩:∃n,fuel=n+1:=⟨fuel-1,by omega⟩
 
  have hun:∃j,j<BH.size/\(j∈js/\listed.getD j false=false):=by
   have:(js.filter fun j=> !listed.getD j false)≠[]:=fun h=>by rw[h]at hm;cases hm
   obtain ⟨j,hj⟩:=List.exists_mem_of_ne_nil _ this;obtain ⟨h1,h2⟩:=cC.1 hj;exact ⟨j,Au j h1,h1,by simpa using h2⟩
  obtain ⟨j0,⟨j4,oL⟩,wx⟩:=exists_least _ _ hun;have ADY:∀k,k<BH.size->listed.getD k false=false->listed.getD k true=false:=fun k hk h=>by
   have:k<listed.size:=by omega
   simpa[Array.getD,this]using h
  have N5:j0∈Region.ready .any ops listed:=by
   obtain ⟨o,ho,_,_,_,haf,_⟩:=Ql j0 j4;refine mem_ready.2 ⟨ADY j0 (Au j0 j4) oL,o,ho,fun e he hb=>?_⟩;rcases haf e he hb with h|⟨h1,h2⟩
   ·exact SZ _ h
   ·cases hx:listed.getD e.on false with
    |true=>rfl
    |false=>exact absurd ⟨h1,hx⟩ (wx e.on h2)
  refine ⟨fun h=>(by rw[h]at N5;cases N5),fun i hi=>?_⟩;obtain ⟨Iz,oi,wy,Bl⟩:=mem_ready.1 hi;have HD:i∈js:=by
   refine Decidable.byContradiction fun hn=>?_
   have Y6:i<ops.size:=(aj.1 wy).1;have ANP:BH.getD i true=false:=by
    have h1:listed.getD i false=false:=by
     cases hx:listed.getD i false with
     |false=>rfl
     |true=>
      have:i<listed.size:=by
       rcases b9 i listed.size with h'|h'
       ·exact h'
       ·simp[bG h']at Iz
      simp[Array.getD,this]at Iz hx;rw[Iz]at hx;cases hx
    cases hx:BH.getD i false with
    |true=>rw[SZ i hx]at h1;cases h1
    |false=>
     have:i<BH.size:=by
      rcases b9 i listed.size with h'|h'
      ·omega
      ·simp[bG h']at Iz
     simpa[Array.getD,this]using hx
   exact SY LF (iL i Y6 ANP hn j0 j4) hi N5
  rw[aA (by rw[hJ i HD];simp)];obtain ⟨e,he,hej⟩:∃e∈Gs,e.j=i:=by
   have:i∈Gs.map (·.j):=by rw[Tj];exact HD
   obtain ⟨e,he,h⟩:=bx.1 this;exact ⟨e,he,h⟩
  obtain ⟨o,ho,wh,_,yp,_,Xm⟩:=Ql i HD;rw[wy]at ho;cases ho;obtain ⟨o',N6,ANR⟩:=Mn Gs hI e he;rw[hej,wy]at N6;cases N6;obtain ⟨⟨o'',ADZ,NZ⟩,_⟩:=zD e he;rw[hej,wy]at ADZ;cases ADZ;have pd:FN ops i=e.dst:=by unfold FN;rw[wy];simp[NZ]
  have hom:oi∈ops.toList:=by
   have:=cB wy;simpa using this
  have hdN:e.dst<N:=hd oi hom e.dst NZ;obtain ⟨E',BV,hk⟩:=Hf Gs E (ANR w hS hB) hf hg fun e' KB hu=>by
   have j3:e'.j∈js:=by rw[<-Tj];exact bE KB
   obtain ⟨⟨o3,ho3,hd3⟩,_⟩:=zD e' KB;have:FN ops e'.j=e'.dst:=by unfold FN;rw[ho3];simp[hd3]
   obtain ⟨ed,hed,hb,hon⟩:=Xm e'.j j3 (by rw[this];exact hu);rw[<-hon];exact Bl ed hed hb
  split at hk
  ·rename_i hha;unfold wpOp;simp only[wy];rw[aG (by simp[Region.wanted,wh])];refine .inl ?_;unfold Oper.wp;rw[Ah BV hha];refine Dv (CY hF hk) (fun v w' hv=>?_) fun v w' hp=> .inr ⟨v,rfl,hp,hf.some,JB⟩
   obtain ⟨nI,wz,hle,x,rfl,hx⟩:=hv;refine ⟨nI,ih (listed.setIfInBounds i true) (a.put oi.dst (e.ty.v x)) w' fuel ?_ (by omega) (by simpa using DN) (fun k hk=>?_) (fun k hk=>?_) (LF.set hi) nI wz ?_ (JB.put hom) ?_⟩
   ·have ADa:i<listed.size:=by have:=Au i HD;omega
    have hgi:listed.getD i false=false:=by simpa[Array.getD,ADa]using Iz
    have hpe:∀j,(!(listed.setIfInBounds i true).getD j false)=((!listed.getD j false)&&(j !=i)):=fun j=>by
     by_cases Ks:i=j
     ·subst Ks;rw[EF _ _ _ _ ADa];simp
     ·rw[getD_set_ne false Ks];have:(j !=i)=true:=by simp;omega
      rw[this,Bool.and_true]
    have ANU:(js.filter fun j=> !(listed.setIfInBounds i true).getD j false)=(js.filter fun j=> !listed.getD j false).erase i:=by
     rw[List.Nodup.erase_eq_filter (List.Pairwise.filter _ GC),List.filter_filter];refine List.filter_congr fun j _=>?_
     rw[hpe,Bool.and_comm]
    rw[ANU,List.length_erase_of_mem (cC.2 ⟨HD,by rw[hgi];rfl⟩),hm]
    rfl
   ·by_cases DP:i=k
    ·subst DP;exact .inr HD
    ·rw[getD_set_ne false DP]at hk;exact VB k hk
   ·exact getD_set_true (SZ k hk)
   ·refine ⟨by have:=hf.size;rw[NZ];simpa[Act.put]using this,fun t u ht=>?_⟩;obtain ⟨h1,h2⟩:=hf.get t u ht;have BI:oi.dst≠some t:=fun h=>by
     rw[NZ]at h;cases h;rw[pd]at yp;rw[yp]at ht;cases ht
    exact ⟨h1,by rw[Ek BI];exact h2⟩
   ·intro e' KB VH;by_cases hee:e'.j=i
    ·have ADb:e'=e:=by
      have ANW:(Gs.map (·.j)).Nodup:=by rw[Tj];exact GC
      obtain ⟨n1,Tf,g1⟩:=List.mem_iff_getElem.1 KB;obtain ⟨n2,wI,g2⟩:=List.mem_iff_getElem.1 he;have:n1=n2:=(List.getElem_inj (h₀:=by simpa using Tf) (h₁:=by simpa using wI) ANW).1 (by simp[g1,g2,hee,hej]);subst this;exact g1.symm.trans g2
     subst ADb;refine ⟨hdN,x,hx,?_⟩;rw[NZ];exact EF _ _ _ _ (by rw[hf.size];exact hdN)
    ·rw[getD_set_ne false (fun h=>hee h.symm)]at VH;obtain ⟨h1,y,hy,hv⟩:=hg e' KB VH;refine ⟨h1,y,(zD e' KB).2 _ _ _ hle hy,?_⟩;have BI:oi.dst≠some e'.dst:=fun h=>by
      rw[NZ]at h;have h:=aQ h;obtain ⟨⟨o3,ho3,hd3⟩,_⟩:=zD e' KB;have h3:FN ops e'.j=e'.dst:=by unfold FN;rw[ho3];simp[hd3]
      have j3:e'.j∈js:=by rw[<-Tj];exact bE KB
      obtain ⟨n1,Tf,g1⟩:=List.mem_iff_getElem.1 j3;obtain ⟨n2,wI,g2⟩:=List.mem_iff_getElem.1 HD;have:n1=n2:=(List.getElem_inj (h₀:=by simpa using Tf) (h₁:=by simpa using wI) hdn).1 (by
       simp only[List.getElem_map,g1,g2];rw[h3,pd];exact h.symm)
      subst this;exact hee (g1.symm.trans g2)
     rw[Ek BI];exact hv
  ·exact hk.elim
theorem Jq (m i:Nat):hasB m i=m.testBit i:=by
 unfold hasB;have e:Nat.land (Nat.shiftRight m i) 1=(m>>>i)%2:=Nat.and_one_is_mod _;rw[e,Nat.testBit_eq_decide_div_mod_eq,Nat.shiftRight_eq_div_pow];by_cases h:m/2^i%2=1
 ·rw[h,aL rfl]
  rfl
 ·rw[aR h];cases hb:Nat.beq (m/2^i%2) 1 with
  |false=>rfl
  |true=>exact absurd (beq_eq hb) h
theorem Sa (m i k:Nat):hasB (P8 m i) k=(hasB m k||decide (i=k)):=by
 rw[Jq,Jq];have e:P8 m i=m|||1<<<i:=rfl
 rw[e,Nat.testBit_or,Nat.one_shiftLeft,Nat.testBit_two_pow]
theorem Jr (k:Nat):hasB 0 k=false:=by rw[Jq];exact Nat.zero_testBit k
theorem OQ {l:Array Bool}{k:Nat}(h:k<l.size):l.getD k true=l.getD k false:=by
 rw[br,br,bF h]
 rfl
theorem OR {l:Array Bool}{i k:Nat}(h:i<l.size):(l.setIfInBounds i true).getD k false=(l.getD k false||decide (i=k)):=by
 by_cases e:i=k
 ·subst e;rw[aL rfl,Bool.or_true];exact EF _ _ _ _ h
 ·rw[aR e,Bool.or_false];exact DX _ _ _ e
structure Gu (l:Array Bool) (m n:Nat):Prop where
 size:l.size=n
 get:∀k,l.getD k false=hasB m k
theorem Gu.set{l:Array Bool}{m n i:Nat}(h:Gu l m n)(hi:i<n):Gu (l.setIfInBounds i true) (P8 m i) n:=
 ⟨by simpa using h.size,fun k=>by rw[OR (by rw[h.size];exact hi),Sa,h.get]⟩
theorem Gu.ADc{n:Nat}:∀{js:List Nat} {l:Array Bool} {m:Nat},Gu l m n->(∀j∈js,j<n)->Gu (CE l js) (W4 m js) n
 |[],_,_,h,_=>h
 |j::js,l,m,h,hj=>show Gu (CE (l.setIfInBounds j true) js) (W4 (P8 m j) js) n from Gu.ADc (h.set (hj j aw)) fun x hx=>hj x (av _ hx)
theorem Mo {l:Array Bool}{m n:Nat}(h:Gu l m n):∀es:List Edge,GZ m es=es.all fun e=> !Region.binds .any e||l.getD e.on false
 |[]=>rfl
 |e::r=>by
  rw[List.all_cons,<-Mo h r,h.get];show (match Region.binds .any e with
   |true=>hasB m e.on&&GZ m r
   |false=>GZ m r)=_
  cases Region.binds .any e<;>rfl
theorem KP {ops:Array Oper}{l:Array Bool}{m:Nat}(h:Gu l m ops.size){k:Nat}{o:Oper}(ho:ops[k]?=some o):GG m k o=(!l.getD k true&&((ops[k]?).map (·.after.all fun e=> !Region.binds .any e||l.getD e.on false)).getD false):=by
 have hk:k<l.size:=by rw[h.size];exact (aj.1 ho).1
 rw[OQ hk,h.get,ho];unfold GG;rw[Mo h];simp
theorem Mp {ops:Array Oper}{l:Array Bool}{m:Nat}(h:Gu l m ops.size):FD m ops.toList 0=Region.ready .any ops l:=by
 unfold Region.ready;have key:∀(r:List Oper) (k:Nat),ops.toList.drop k=r->FD m r k=((List.range' k r.length).filter fun i=> !l.getD i true&&((ops[i]?).map (·.after.all fun e=> !Region.binds .any e||l.getD e.on false)).getD false):=by
  intro r
  induction r with
  |nil=>intro k _;rfl
  |cons o r ih=>
   intro k hk;have ho:ops[k]?=some o:=by
    have:(ops.toList.drop k)[0]?=some o:=by rw[hk];rfl
    rw[bI,Nat.add_zero]at this;simpa using this
   have hr:ops.toList.drop (k+1)=r:=by
    rw[<-bH,hk]
    rfl
   rw[au,List.range'_succ,List.filter_cons,<-KP h ho];unfold FD;cases GG m k o with
   |true=>rw[aG rfl,ih _ hr]
   |false=>rw[aA (by decide),ih _ hr]
 rw[key ops.toList 0 rfl,List.range_eq_range',aJ]
theorem Y9 {ops:Array Oper}{l:Array Bool}{m i:Nat}{oi:Oper}(h:Gu l m ops.size)(hi:ops[i]?=some oi)(hf:Mc ops m i oi ops.toList 0=true):Region.free .any ops l i=true:=by
 have key:∀(r:List Oper) (k:Nat),Mc ops m i oi r k=true->∀(j:Nat) (o:Oper),r[j]?=some o->(Nat.beq (k+j) i||hasB m (k+j)||(o.after.toList.any fun e=>Nat.beq e.on i&&Region.binds .any e)||oi.apart ops o)=true:=by
  intro r
  induction r with
  |nil=>intro k _ j o hj;simp at hj
  |cons x r ih=>
   intro k hk j o hj;unfold Mc at hk;rw[ai]at hk;cases j with
   |zero=>
    have:x=o:=by simpa using hj
    subst this;exact hk.1
   |succ j=>
    have:=ih (k+1) hk.2 j o (by simpa using hj);rw[show k+(j+1)=k+1+j by omega];exact this
 simp only[Region.free,hi,aO,List.mem_range];intro j hj;have nH:ops[j]?=some ops[j]:=bF hj;have h1:=key _ _ hf j ops[j] (by simp[hj]);rw[ak]at h1;rw[nH];simp only[bA]at h1⊢;rcases h1 with ((h1|h1)|h1)|h1
 ·have:j=i:=by simpa using h1
  exact .inl (.inl (by simpa using this))
 ·rw[OQ (by rw[h.size];exact hj),h.get];exact .inl (.inr h1)
 ·refine .inr (.inl ?_);rw[<-Array.any_toList];obtain ⟨e,he,hb⟩:=List.any_eq_true.1 h1;refine List.any_eq_true.2 ⟨e,he,?_⟩;simp only[ai]at hb⊢;exact ⟨hb.2,by simpa using hb.1⟩
 ·exact .inr (.inr h1)
theorem Im {n:Nat}:∀(es:List Edge) (l:Array Bool) (m:Nat),l.size=n->(∀k,k<n->l.getD k false=hasB m k)->(KF es l).size=n/\∀k,k<n->(KF es l).getD k false=hasB (OJ es m) k
 |[],l,m,hs,h=>⟨hs,h⟩
 |e::r,l,m,hs,h=>by
  have hm:KF (e::r) l=KF r (match Region.binds .any e with|true=>l.setIfInBounds e.on true|false=>l):=rfl;rw[hm];unfold OJ;cases Region.binds .any e with
  |false=>exact Im r l m hs h
  |true=>
   refine Im r _ _ (by simpa using hs) fun k hk=>?_
   rw[Sa];by_cases ho:e.on<n
   ·rw[OR (by rw[hs];exact ho),h k hk]
   ·rw[aR (by omega),Bool.or_false,<-h k hk];exact DX _ _ _ (by omega)
theorem Mq {ops:Array Oper}:∀(k:Nat) (l:Array Bool) (m:Nat),k<=ops.size->l.size=ops.size->(∀k,k<ops.size->l.getD k false=hasB m k)->∀i,i<ops.size->(Yu ops k l).getD i false=hasB (SM ops k m) i
 |0,l,m,_,_,h,i,hi=>h i hi
 |k+1,l,m,hk,hs,h,i,hi=>by
  unfold Yu SM;rw[h k (by omega)];cases hb:hasB m k with
  |false=>exact Mq k l m (by omega) hs h i hi
  |true=>
   rw[bF (show k<ops.size by omega)];obtain ⟨h1,h2⟩:=Im (ops[k]).after.toList l m hs h;exact Mq k _ _ (by omega) h1 h2 i hi
theorem nJ {ops:Array Oper}{j i:Nat}(hi:i<ops.size)(h:hasB (wZ ops j) i=true):pc ops j i=true:=by
 unfold wZ at h;unfold pc;split at h
 ·rename_i o ho;have hj:=(aj.1 ho).1;obtain ⟨h1,h2⟩:=Im (n:=ops.size) o.after.toList (Array.replicate ops.size false) 0 (by simp) fun k hk=>by
   rw[Jr,br,Array.getElem?_replicate,aG hk]
   rfl
  rw[Mq j _ _ (by omega) h1 h2 i hi];exact h
 ·rw[Jr]at h;cases h
theorem XC:∀{l k:List Nat},Yv l k=true->l=k
 |[],[],_=>rfl
 |[],_::_,h=>by simp[Yv]at h
 |_::_,[],h=>by simp[Yv]at h
 |x::r,y::q,h=>by
  unfold Yv at h;rw[ai]at h;rw[beq_eq h.1,XC h.2]
theorem Em {ops:Array Oper}:∀{x:Od} {pre J:List Nat} {m:Nat} {l:Array Bool},FO ops x pre J m=true->Gu l m ops.size->GF ops x pre J l=true
 | .done,pre,J,m,l,h,hb=>by
  unfold FO at h;unfold GF;rw[<-Mp hb];exact h
 | .take i r,pre,J,m,l,h,hb=>by
  unfold FO at h;unfold GF;split at h
  ·cases h
  ·rename_i o ho;have hi:=(aj.1 ho).1;simp only[ai]at h⊢;obtain ⟨⟨⟨⟨h1,h2⟩,h3⟩,h4⟩,h5⟩:=h;refine ⟨⟨⟨h1,Y9 hb ho h3,?_⟩,?_⟩,Em h5 (hb.set hi)⟩
   ·rw[KP hb ho]at h2;rw[aW];exact cC.2 ⟨List.mem_range.2 hi,h2⟩
   ·rw[bA]at h4⊢;rcases h4 with h4|h4
    ·exact .inl h4
    ·exact .inr (aO.2 fun j hj=>nJ hi (aO.1 h4 j hj))
 | .A4 i fl r,pre,J,m,l,h,hb=>by
  unfold FO at h;unfold GF;rw[ai]at h⊢;have h1:=XC h.1;rw[Mp hb]at h1;have hi:i<ops.size:=by
   have:i∈Region.ready .any ops l:=by rw[h1];simp
   exact List.mem_range.1 (cC.1 this).1
  exact ⟨by rw[h1];simp,Em h.2 (hb.set hi)⟩
 | .FV i fl r more,pre,J,m,l,h,hb=>by
  unfold FO at h;unfold GF;simp only[ai]at h⊢;have hi:i<ops.size:=by
   have:=bD h.1.1;omega
  exact ⟨Em h.1.2 (hb.set hi),Em h.2 hb⟩
 | .mono js r,pre,J,m,l,h,hb=>by
  unfold FO at h;unfold GF;simp only[ai]at h⊢;refine ⟨⟨h.1.1,aO.2 fun j hj=>?_⟩,Em h.2 (hb.ADc fun j hj=>?_)⟩
  ·have:=aO.1 h.1.2 j hj;rw[ai]at this;exact this.1
  ·have:=aO.1 h.1.2 j hj;rw[ai]at this;have:=bD this.2;omega
theorem Gu.start(n:Nat):Gu (Array.replicate n false) 0 n:=⟨by simp,fun k=>by
 rw[Jr,br];by_cases h:k<n
 ·simp[h]
 ·simp[h]⟩
theorem Dd (hF:Ac P F.ok){ops:Array Oper}{G:Act->World->Prop}(Ik:Region.noSelect ops=true)(hd:CI N ops.toList){K:Env->World->Prop}{a0:Act}
  (hG:∀E' a' w',K E' w'->Fits N E' a'->frame ops.toList a0 a'->G a' w'):
  ∀(x:Od) (pre:List Nat) (J:List Nat) (S:World->Prop) (listed:Array Bool) (E:Env) (w:World) (a:Act) (fuel:Nat),GF ops x pre J listed=true->x.depth<=fuel->S w->DJ ops listed->
  Du P F ops x J S listed E w K->Fits N E a->frame ops.toList a0 a->
  (pre=[]->CZ P ops (HQ P F N ops a0 G) J S fuel listed a w)/\
  (pre≠[]->∀f,fuel=f+1->Region.ready .any ops listed≠[]/\∀i∈Region.ready .any ops listed,i∉pre->
   if J.contains i=true then wpOp P ops (HQ P F N ops a0 G) i (fun a' w'=>wpAny P .any ops (HQ P F N ops a0 G) f (listed.setIfInBounds i true) a' w') a w
   else wpOp P ops (HQ P F N ops a0 G) i (fun a' w'=>S w'/\CZ P ops (HQ P F N ops a0 G) J S f (listed.setIfInBounds i true) a' w') a w)
 | .done,pre,J,S,listed,E,w,a,fuel,he,_,hS,LF,h,hf,JB=>by
  unfold Du at h;unfold GF at he;simp only[ai,List.isEmpty_iff]at he;refine ⟨fun _=>?_,fun hp=>absurd he.1 hp⟩;cases fuel with
  |zero=>exact ⟨he.2,.inl ⟨rfl,hG _ _ _ h hf JB⟩⟩
  |succ f=>exact ⟨fun _=> .inl ⟨rfl,hG _ _ _ h hf JB⟩,by rw[he.2];simp⟩
 | .take i r,pre,J,S,listed,E,w,a,fuel,LG,Wl,hS,LF,h,hf,JB=>by
  unfold Du at h;unfold GF at LG;obtain ⟨fuel,rfl⟩:∃n,fuel=n+1:=⟨fuel-1,by simp only[Od.depth]at Wl;omega⟩
  have iR:r.depth<=fuel:=by simp only[Od.depth]at Wl;omega
  split at h
  ·exact h.elim
  rename_i o ho;have CB:o∈ops.toList:=by
   have:=cB ho;simpa using this
  have hdo:=hd o CB;have Hg:∀(v:Value),frame ops.toList a0 (a.put o.dst v):=fun v=>JB.put CB
  rw[ho]at LG;dsimp only at LG;simp only[ai,List.isEmpty_iff]at LG;obtain ⟨⟨⟨hp,W7,mn⟩,hJ⟩,LG⟩:=LG;refine ⟨fun _=>?_,fun gQ=>absurd hp gQ⟩;have ADe:i∈Region.ready .any ops listed:=by simpa using mn
  have go:∀(E':Env) (v:Value),Ge P ops J S i o v a->Fits N E' a->Du P F ops r J S (listed.setIfInBounds i true) (E'.put o.dst v) w K->
    CZ P ops (HQ P F N ops a0 G) J S (fuel+1) listed a w:=fun E' v hy BV hr=>
   QH ho (Region.noSelect_spec Ik) (fun c a w h=>h.SW CB) fuel listed a w (Region.free_spec ho W7) LF ADe hy hS
    ((Dd hF Ik hd hG r [] J S _ _ w _ fuel LG iR hS (LF.set ADe) hr (BV.put hdo) (Hg v)).1 rfl)
  rcases Bb h hf with ⟨hw,E',BV,hy⟩|⟨hw,E',BV,hn⟩
  ·split at hy
   ·rename_i Bl;simp only[ai]at Bl;cases hl:Mb o.op with
    |false=>
     obtain ⟨v,h1,h2⟩:=Y8 Bl.2 hl hy;exact go E' v (.inl (.inl ⟨hw,fun w2=>by rw[Ah BV Bl.1];exact h1 w2⟩)) BV h2
    |true=>
     obtain ⟨v,h1,h2⟩:=iO Bl.2 hy;refine go E' v (.inr ⟨.inl ⟨hw,fun w2 hw2=>by rw[Ah BV Bl.1];exact h1 w2 hw2⟩,fun j hj=>?_⟩) BV h2;rw[hl]at hJ;simp only[Bool.not_true,cM,aO]at hJ;exact hJ j hj
   ·exact hy.elim
  ·exact go E' undef (.inl (.inr ⟨hw,rfl⟩)) BV hn
 | .A4 i fl r,pre,J,S,listed,E,w,a,fuel,LG,Wl,hS,LF,h,hf,JB=>by
  unfold Du at h;unfold GF at LG;obtain ⟨fuel,rfl⟩:∃n,fuel=n+1:=⟨fuel-1,by simp only[Od.depth]at Wl;omega⟩
  have iR:r.depth<=fuel:=by simp only[Od.depth]at Wl;omega
  split at h
  ·exact h.elim
  rename_i o ho;have CB:o∈ops.toList:=by
   have:=cB ho;simpa using this
  have hdo:=hd o CB;have Hg:∀(v:Value),frame ops.toList a0 (a.put o.dst v):=fun v=>JB.put CB
  simp only[ai]at LG;obtain ⟨mn,LG⟩:=LG;have nK:∀v w',F.pk v w'->HQ P F N ops a0 G (.panic (AV v)) a w':=fun v w' hv=> .inr ⟨v,rfl,hv,hf.some,JB⟩
  have mn:Region.ready .any ops listed=pre++[i]:=by simpa using mn
  have VB:i∈Region.ready .any ops listed:=by rw[mn];simp
  have hbr:=XA (Q:=HQ P F N ops a0 G) (fuel:=fuel) (listed:=listed) hF ho hS hf hdo nK h fun S E' v w' hk nI BV=>
   (Dd hF Ik hd hG r [] (fl.getD J) S _ E' w' _ fuel LG iR nI (LF.set VB) hk BV (Hg v)).1 rfl
  have BI:Region.ready .any ops listed≠[]:=fun h0=>by rw[h0]at VB;cases VB
  refine ⟨fun hp=>⟨fun h0=>absurd h0 BI,fun j hj=>?_⟩,fun hp f hff=>⟨BI,fun j hj hjp=>?_⟩⟩
  ·rw[mn,hp]at hj;have:j=i:=by simpa using hj
   subst this;exact hbr
  ·cases hff;rw[mn]at hj;have:j=i:=by
    rcases aK.1 hj with h|h
    ·exact absurd h hjp
    ·simpa using h
   subst this;exact hbr
 | .FV i fl r more,pre,J,S,listed,E,w,a,fuel,LG,Wl,hS,LF,h,hf,JB=>by
  unfold Du at h;unfold GF at LG;obtain ⟨fuel,rfl⟩:∃n,fuel=n+1:=⟨fuel-1,by simp only[Od.depth]at Wl;omega⟩
  have iR:r.depth<=fuel:=by simp only[Od.depth]at Wl;omega
  split at h
  ·exact h.elim
  rename_i o ho;have CB:o∈ops.toList:=by
   have:=cB ho;simpa using this
  have hdo:=hd o CB;have Hg:∀(v:Value),frame ops.toList a0 (a.put o.dst v):=fun v=>JB.put CB
  obtain ⟨h,hm⟩:=h;simp only[ai]at LG;have nK:∀v w',F.pk v w'->HQ P F N ops a0 G (.panic (AV v)) a w':=fun v w' hv=> .inr ⟨v,rfl,hv,hf.some,JB⟩
  have hbr:=fun VB:i∈Region.ready .any ops listed=>XA (Q:=HQ P F N ops a0 G) (fuel:=fuel) (listed:=listed) hF ho hS hf hdo nK h fun S E' v w' hk nI BV=>
    (Dd hF Ik hd hG r [] (fl.getD J) S _ E' w' _ fuel LG.1 iR nI (LF.set VB) hk BV (Hg v)).1 rfl
  have wP:=(Dd hF Ik hd hG more (pre++[i]) J S listed E w a (fuel+1) LG.2 (by simp only[Od.depth]at Wl;omega) hS LF hm hf JB).2 (by simp) fuel rfl;refine ⟨fun hp=>⟨fun h0=>absurd h0 wP.1,fun j hj=>?_⟩,fun _ f hff=>⟨wP.1,fun j hj hjp=>?_⟩⟩
  ·by_cases Ks:j=i
   ·subst Ks;exact hbr hj
   ·exact wP.2 j hj (by simp[hp,Ks])
  ·cases hff;by_cases Ks:j=i
   ·subst Ks;exact hbr hj
   ·exact wP.2 j hj (by simp[hjp,Ks])
 | .mono js r,pre,J,S,listed,E,w,a,fuel,LG,Wl,hS,LF,h,hf,JB=>by
  unfold Du at h;unfold GF at LG;split at h
  case h_2=>exact h.elim
  rename_i BS;simp only[ai,List.isEmpty_iff]at LG;obtain ⟨⟨hp,hJ⟩,LG⟩:=LG;refine ⟨fun _=>?_,fun gQ=>absurd hp gQ⟩;obtain ⟨le,B,hB,h⟩:=h;obtain ⟨Gs,zD,Tj,hI,Pm⟩:=Mm js [] h (fun e he=>by cases he);simp only[bj,ad]at Tj;have Ql:=(KO BS).2.2.1;have hnl:∀j∈js,listed.getD j false=false:=fun j hj=>by
   obtain ⟨o,_,_,h,_⟩:=Ql j hj;cases hx:listed.getD j false with
   |false=>rfl
   |true=>
    have:j<listed.size:=by
     rcases b9 j listed.size with h'|h'
     ·exact h'
     ·simp[bG h']at h
    simp[Array.getD,this]at h hx;rw[h]at hx;cases hx
  have hlen:(js.filter fun j=> !listed.getD j false).length=js.length:=by
   rw[List.filter_eq_self.2 fun j hj=>by rw[hnl j hj];rfl]
  refine iQ hF (n:=r.depth) hd (fun j hj=>by simpa using aO.1 hJ j hj) BS zD Tj hI (fun a' w' ADg hn nI wz ANZ Hg key=>?_) js.length listed a w fuel hlen (by simpa[Od.depth]using Wl) rfl (fun k hk=> .inl hk) (fun k hk=>hk) LF hS hB hf JB
   fun e he hl=>by
    have:e.j∈js:=by rw[<-Tj];exact bE he
    rw[hnl e.j this]at hl;cases hl
  obtain ⟨E',BV,hk⟩:=key _ (Pm w' nI wz);exact (Dd hF Ik hd hG r [] J S _ E' w' a' ADg LG hn nI ANZ hk BV Hg).1 rfl
theorem nL (hF:Ac P F.ok)(hm:P.follows .mixedOrders=true){m:SN}{id:Nat}{ops:Array Oper}{d:Bool}{E:Env}{w:World}{K:Env->World->Prop}{a:Act}
  (h:wa P F m ops d E w K) (hf:Fits N E a) (hd:CI N ops.toList):
  (Code.region id ops d).wp P (HQ P F N ops a fun a' w'=>∃E',K E' w'/\Fits N E' a'/\frame ops.toList a a') a w:=by
 unfold wa at h;split at h
 ·exact wp_region_list (Gc hF _ _ _ _ _ h hf hd (fun E' a' w' h1 h2 h3=> .inl ⟨rfl,E',h1,h2,h3⟩) fun v a' w' h1 h2 h3=> .inr ⟨v,rfl,h1,h2,h3⟩)
 ·split at h
  ·rename_i hB;exact wp_region_still hm hB (Cs _ _ w.drew _ _ h hf hd fun E' a' h1 h2 h3=> .inl ⟨rfl,E',h1,h2,h3⟩)
  ·exact h.elim
 ·rename_i n;split at h
  ·rename_i hB;obtain ⟨l⟩:=ops;have s1:∀o∈l.take n,o∈l:=fun o ho=>List.mem_of_mem_take ho
   have s2:∀o∈l.drop n,o∈l:=fun o ho=>cF ho
   refine wp_region_still_tail (l:=l) n hm hB (Cs _ _ w.drew _ _ h hf (fun o ho=>hd o (s1 o ho)) fun E' a' h1 h2 h3=>?_);exact Gc hF _ _ _ _ _ h1 h2 (fun o ho=>hd o (s2 o ho)) (fun GH Gr BB g1 g2 g3=> .inl ⟨rfl,GH,g1,g2,(h3.sub s1).trans (g3.sub s2)⟩) fun v Gr BB g1 g2 g3=> .inr ⟨v,rfl,g1,g2,(h3.sub s1).trans (g3.sub s2)⟩
  ·exact h.elim
 ·rename_i J o;split at h
  ·rename_i hB;simp only[ai]at hB;have key:∀S:World->Prop,S w.drew->Du P F ops o J S (Array.replicate ops.size false) E w.drew K->
     (Code.region id ops true).wp P (HQ P F N ops a fun a' w'=>∃E',K E' w'/\Fits N E' a'/\frame ops.toList a a') a w:=fun S hS h=>
    wp_region_any hm (Dx _ _ _ _ ((Dd hF hB.1.1 hd (G:=fun a' w'=>∃E',K E' w'/\Fits N E' a'/\frame ops.toList a a') (fun E' a' w' h1 h2 h3=>⟨E',h1,h2,h3⟩) o [] J S _ E w.drew a ops.size (Em hB.2 (Gu.start _))
     (bD hB.1.2) hS (DJ.start _ _) h hf (frame.refl _ _)).1 rfl))
   unfold zA at h;split at h
   ·obtain ⟨S,hS,h⟩:=h;exact key S hS h
   ·exact key _ trivial h
  ·exact h.elim
 ·exact wp_region_list (Gd hF _ _ _ _ _ h hf hd (fun E' a' w' h1 h2 h3=> .inl ⟨rfl,E',h1,h2,h3⟩) fun v a' w' h1 h2 h3=> .inr ⟨v,rfl,h1,h2,h3⟩)
 ·rename_i n;split at h
  ·rename_i hB;obtain ⟨l⟩:=ops;have s1:∀o∈l.take n,o∈l:=fun o ho=>List.mem_of_mem_take ho
   have s2:∀o∈l.drop n,o∈l:=fun o ho=>cF ho
   refine wp_region_still_tail (l:=l) n hm hB (Cs _ _ w.drew _ _ h hf (fun o ho=>hd o (s1 o ho)) fun E' a' h1 h2 h3=>?_);exact Gd hF _ _ _ _ _ h1 h2 (fun o ho=>hd o (s2 o ho)) (fun GH Gr BB g1 g2 g3=> .inl ⟨rfl,GH,g1,g2,(h3.sub s1).trans (g3.sub s2)⟩) fun v Gr BB g1 g2 g3=> .inr ⟨v,rfl,g1,g2,(h3.sub s1).trans (g3.sub s2)⟩
  ·exact h.elim
 ·exact h.elim
def AZ (N:Nat):Code->Bool
 | .region _ ops _=>ops.toList.all fun o=>match o.dst with
  |some d=>Nat.blt d N
  |none=>true
 | .seq a b=>AZ N a&&AZ N b
 | .cond _ a b=>AZ N a&&AZ N b
 | .block _ a=>AZ N a
 | .loop a=>AZ N a
 |_=>true
theorem DB {ops:Array Oper}{id:Nat}{d:Bool}(h:AZ N (.region id ops d)=true):CI N ops.toList:=fun o ho t ht=>by
 simp only[AZ,aO]at h;have:=h o ho;rw[ht]at this;have h2:t+1<=N:=by simpa[Nat.blt]using this
 exact h2
theorem OT {ops:Array Oper}{id:Nat}{d:Bool}{t:Nat}(h:wr t (.region id ops d)=false):∀o∈ops.toList,o.dst≠some t:=fun o ho e=>by
 simp only[wr,List.any_eq_false]at h;have:=h o ho;rw[e]at this;simp at this
def Mf (N:Nat)(E:Env)(a:Act):Prop:=∀p∈E,p.1<N/\a.tmps.getD p.1 undef=p.2
theorem iS {E:Env}{t:Nat}{v:Value}(h:E.get? t=some v):(t,v)∈E:=by
 induction E with
 |nil=>cases h
 |cons p E ih=>
  obtain ⟨u,x⟩:=p;simp only[Env.get?]at h;split at h
  ·rename_i hb;cases h;rw[beq_eq hb];exact aw
  ·exact av _ (ih h)
theorem Mf.fits{E:Env}{a:Act}(h:Mf N E a)(hs:a.tmps.size=N):Fits N E a:=⟨hs,fun t v hv=>h (t,v) (iS hv)⟩
theorem Sb {E:Env}{a:Act}(hf:Fits N E a):∀(ts:List Nat) (vs:List Value),Env.DV E ts=some vs->Mf N (Env.zip ts vs) a
 |[],vs,_,p,hp=>by cases vs<;>cases hp
 |t::ts,vs,h,p,hp=>by
  simp only[Env.DV]at h;split at h
  ·rename_i v vs' hv pS;cases h;rcases ar.1 hp with rfl|hp
   ·exact hf.get _ _ hv
   ·exact Sb hf ts vs' pS p hp
  ·cases h
theorem CJ {E:Env}{a a':Act}(hf:Fits N E a):∀(ks:List Nat),(∀t∈ks,a'.tmps.getD t undef=a.tmps.getD t undef)->Mf N (Env.AB E ks) a'
 |[],_,p,hp=>by cases hp
 |t::ks,h,p,hp=>by
  have ih:=CJ hf ks fun u hu=>h u (av _ hu)
  simp only[Env.AB]at hp;split at hp
  ·rename_i v hv;rcases ar.1 hp with rfl|hp
   ·obtain ⟨h1,h2⟩:=hf.get _ _ hv;exact ⟨h1,by rw[h t aw];exact h2⟩
   ·exact ih p hp
  ·exact ih p hp
theorem Ej {AB:List Nat}{c:Code}(h:Cq AB c=true):∀t∈AB,wr t c=false:=fun t ht=>by
 simpa using aO.1 h t ht
theorem Ct {live:List (Nat×Ty)}{E:Env}{K:Sg (live.map (·.2))->Prop}(h:EC live E K):
  ∃s,K s/\∀a,Fits N E a->Mf N (ED live s) a:=by
 unfold EC at h;split at h
 ·rename_i vs pS;split at h
  ·rename_i s hs;refine ⟨s,h,fun a hf=>?_⟩;unfold ED;rw[Sg.OU _ _ _ hs];exact Sb hf _ _ pS
  ·exact h.elim
 ·exact h.elim
theorem CK {A B:Env}{a:Act}(hA:Mf N A a)(hB:Mf N B a)(hs:a.tmps.size=N):Fits N (A++B) a:=
 Mf.fits (fun p hp=>(aK.1 hp).elim (hA p) (hB p)) hs
def A1 (c:Code)(a0 a':Act):Prop:=(∀t,wr t c=false->a'.tmps.getD t undef=a0.tmps.getD t undef)/\a'.defers=a0.defers
theorem A1.refl(c:Code)(a:Act):A1 c a a:=⟨fun _ _=>rfl,rfl⟩
theorem A1.sub{c d:Code}{a b:Act}(h:A1 c a b)(hs:∀t,wr t d=false->wr t c=false):A1 d a b:=⟨fun t ht=>h.1 t (hs t ht),h.2⟩
theorem A1.trans{c:Code}{a b e:Act}(h:A1 c a b)(k:A1 c b e):A1 c a e:=⟨fun t ht=>by rw[k.1 t ht];exact h.1 t ht,by rw[k.2];exact h.2⟩
def Bi (N:Nat)(F:Fx)(c:Code)(K:Exit->Env->World->Prop)(a0:Act)(e:Exit)(a':Act)(w':World):Prop:=
 (∃E',K e E' w'/\Fits N E' a'/\A1 c a0 a')\/∃v,e= .panic (AV v)/\F.pk v w'/\Fits N [] a'/\A1 c a0 a'
theorem Io {E:Env}{a:Act}(hf:Fits N E a){x:Operand}{b:Bool}(h:E.Ag x= .bool b):a.eval x= .bool b:=by
 rw[<-h];refine hf.Ag ?_;cases x with
 |tmp t=>
  simp only[Env.has];cases hg:E.get? t with
  |none=>simp[Env.Ag,hg,undef]at h
  |some v=>rfl
 |_=>rfl
theorem CW (hF:Ac P F.ok)(hm:P.follows .mixedOrders=true):∀(c:Code) (pl:Aa) (E:Env) (w:World) (K:Exit->Env->World->Prop) (a:Act),
  BZ P F pl c E w K->Fits N E a->AZ N c=true->c.wp P (Bi N F c K a) a w:=by
 intro c
 induction c with
 |region id ops d=>
  intro pl E w K a h hf hs;cases pl<;>try exact (show False from h).elim
  rename_i m;have Zf:∀{a':Act},frame ops.toList a a'->A1 (.region id ops d) a a':=fun h=>⟨fun t ht=>h.1 t (OT ht),h.2⟩
  refine wp_mono (nL hF hm h hf (DB hs)) fun e a' w' hq=>?_
  rcases hq with ⟨he,E',h1,h2,h3⟩|⟨v,he,h1,h2,h3⟩
  ·exact .inl ⟨E',by subst he;exact h1,h2,Zf h3⟩
  ·exact .inr ⟨v,he,h1,h2,Zf h3⟩
 |skip=>
  intro pl E w K a h hf hs;cases pl<;>try exact (show False from h).elim
  exact wp_skip (.inl ⟨E,h,hf,A1.refl _ _⟩)
 |label l=>
  intro pl E w K a h hf hs;cases pl<;>try exact (show False from h).elim
  exact wp_label (.inl ⟨E,h,hf,A1.refl _ _⟩)
 |exit id=>
  intro pl E w K a h hf hs;cases pl<;>try exact (show False from h).elim
  exact wp_exit (.inl ⟨E,h,hf,A1.refl _ _⟩)
 |ret=>
  intro pl E w K a h hf hs;cases pl<;>try exact (show False from h).elim
  exact wp_ret (.inl ⟨E,h,hf,A1.refl _ _⟩)
 |seq c d Yw Yx=>
  intro pl E w K a h hf hs;simp only[AZ,ai]at hs;have iT:∀t,wr t (.seq c d)=false->wr t c=false/\wr t d=false:=fun t ht=>by simpa[wr]using ht
  have sc:∀{a b:Act},A1 c a b->A1 (.seq c d) a b:=fun h=>h.sub fun t ht=>(iT t ht).1
  have sd:∀{a b:Act},A1 d a b->A1 (.seq c d) a b:=fun h=>h.sub fun t ht=>(iT t ht).2
  have post:∀{a':Act} {e:Exit} {Gr:Act} {BB:World},A1 c a a'->Bi N F d K a' e Gr BB->Bi N F (.seq c d) K a e Gr BB:=fun h3 hq=>by
   rcases hq with ⟨GH,g1,g2,g3⟩|⟨v,g0,g1,g2,g3⟩
   ·exact .inl ⟨GH,g1,g2,(sc h3).trans (sd g3)⟩
   ·exact .inr ⟨v,g0,g1,g2,(sc h3).trans (sd g3)⟩
  cases pl<;>try exact (show False from h).elim
  ·rename_i p q;refine wp_seq (wp_mono (Yw p E w _ a h hf hs.1) fun e a' w' hq=>?_);rcases hq with ⟨E',h1,h2,h3⟩|⟨v,rfl,h1,h2,h3⟩
   ·cases e<;>try exact .inl ⟨E',h1,h2,sc h3⟩
    exact wp_mono (Yx q E' w' K a' h1 h2 hs.2) fun e Gr BB hq=>post h3 hq
   ·exact .inr ⟨v,rfl,h1,h2,sc h3⟩
  ·rename_i live AB p q
   replace h:match Cq AB c with
    |true=>As (fun s w=>BZ P F q d (ED live s++Env.AB E AB) w K) fun J=>BZ P F p c E w fun e E w=>match e with
     | .normal=>EC live E fun s=>J s w
     |e=>K e E w
    |false=>False:=h
   split at h
   ·rename_i hk;obtain ⟨J,hb,JB⟩:=h;refine wp_seq (wp_mono (Yw p E w _ a JB hf hs.1) fun e a' w' hq=>?_);rcases hq with ⟨E',h1,h2,h3⟩|⟨v,rfl,h1,h2,h3⟩
    ·cases e<;>try exact .inl ⟨E',h1,h2,sc h3⟩
     obtain ⟨s,hJ,NF⟩:=Ct (N:=N) h1;have Er:Fits N (ED live s++Env.AB E AB) a':=CK (NF a' h2) (CJ hf AB fun t ht=>h3.1 t (Ej hk t ht)) h2.size;exact wp_mono (Yx q _ w' K a' (hb s w' hJ) Er hs.2) fun e Gr BB hq=>post h3 hq
    ·exact .inr ⟨v,rfl,h1,h2,sc h3⟩
   ·exact h.elim
 |cond x c d Yw Yx=>
  intro pl E w K a h hf hs;simp only[AZ,ai]at hs;have iT:∀t,wr t (.cond x c d)=false->wr t c=false/\wr t d=false:=fun t ht=>by simpa[wr]using ht
  have sc:∀{a b:Act},A1 c a b->A1 (.cond x c d) a b:=fun h=>h.sub fun t ht=>(iT t ht).1
  have sd:∀{a b:Act},A1 d a b->A1 (.cond x c d) a b:=fun h=>h.sub fun t ht=>(iT t ht).2
  cases pl<;>try exact (show False from h).elim
  rename_i p q
  replace h:match E.Ag x with
   | .bool b=>Br b (BZ P F p c E w K) (BZ P F q d E w K)
   |_=>False:=h
  split at h
  ·rename_i b hb;rcases Ij h with ⟨rfl,h⟩|⟨rfl,h⟩
   ·refine wp_cond_true (Io hf hb) (wp_mono (Yw p E w K a h hf hs.1) fun e a' w' hq=>?_);rcases hq with ⟨E',h1,h2,h3⟩|⟨v,h0,h1,h2,h3⟩
    ·exact .inl ⟨E',h1,h2,sc h3⟩
    ·exact .inr ⟨v,h0,h1,h2,sc h3⟩
   ·refine wp_cond_false (Io hf hb) (wp_mono (Yx q E w K a h hf hs.2) fun e a' w' hq=>?_);rcases hq with ⟨E',h1,h2,h3⟩|⟨v,h0,h1,h2,h3⟩
    ·exact .inl ⟨E',h1,h2,sd h3⟩
    ·exact .inr ⟨v,h0,h1,h2,sd h3⟩
  ·exact h.elim
 |block id c ih=>
  intro pl E w K a h hf hs;have sc:∀{a b:Act},A1 c a b->A1 (.block id c) a b:=fun h=>h.sub fun t ht=>by simpa[wr]using ht
  cases pl<;>try exact (show False from h).elim
  rename_i p;refine wp_block (wp_mono (ih p E w _ a h hf hs) fun e a' w' hq=>?_);rcases hq with ⟨E',h1,h2,h3⟩|⟨v,rfl,h1,h2,h3⟩
  ·cases e with
   |exit i=>
    replace h1:match Nat.beq i id with
     |true=>K .normal E' w'
     |false=>K (.exit i) E' w':=h1
    show if i=id then _ else _
    cases hb:Nat.beq i id with
    |true=>rw[hb]at h1;rw[aG (beq_eq hb)];exact .inl ⟨E',h1,h2,sc h3⟩
    |false=>rw[hb]at h1;rw[aA (fun e=>by subst e;simp at hb)];exact .inl ⟨E',h1,h2,sc h3⟩
   |_=>exact .inl ⟨E',h1,h2,sc h3⟩
  ·exact .inr ⟨v,rfl,h1,h2,sc h3⟩
 |loop c ih=>
  intro pl E w K a h hf hs;have sc:∀{a b:Act},A1 c a b->A1 (.loop c) a b:=fun h=>h.sub fun t ht=>by simpa[wr]using ht
  cases pl<;>try exact (show False from h).elim
  rename_i live AB p
  replace h:match Cq AB c with
   |true=>EC live E fun s0=>Lp (fun R s w=>BZ P F p c (ED live s++Env.AB E AB) w fun e E w=>match e with
    | .normal=>EC live E fun s=>R s w
    |e=>K e E w) s0 w
   |false=>False:=h
  split at h
  ·rename_i hk;obtain ⟨s0,⟨I,n0,h0,Vf⟩,xA⟩:=Ct (N:=N) h;refine wp_loop_ghost (fun n a' w'=>∃s,I n s w'/\Fits N (ED live s++Env.AB E AB) a'/\A1 c a a') n0
    ⟨s0,h0,CK (xA a hf) (CJ hf AB fun _ _=>rfl) hf.size,A1.refl _ _⟩ ?_
   rintro n a' w' ⟨s,hI,Er,JB⟩;refine wp_mono (ih p _ w' _ a' (Vf n s w' hI) Er hs) fun e Gr BB hq=>?_
   rcases hq with ⟨GH,g1,g2,g3⟩|⟨v,rfl,g1,g2,g3⟩
   ·have Hg:=JB.trans g3;cases e<;>try exact .inl ⟨GH,g1,g2,sc Hg⟩
    obtain ⟨s',⟨n',Au,wC⟩,NF⟩:=Ct (N:=N) g1;exact ⟨n',Au,s',wC,CK (NF Gr g2) (CJ hf AB fun t ht=>Hg.1 t (Ej hk t ht)) g2.size,Hg⟩
   ·exact .inr ⟨v,rfl,g1,g2,sc (JB.trans g3)⟩
  ·exact h.elim
 |_=>
  intro pl E w K a h hf hs;cases pl<;>exact (show False from h).elim
theorem mapM_cells {f:ResultVar->Sem Value}{w:World}:∀(l:List ResultVar) (vs:List Value),(∀(i:Nat) (r:ResultVar) (v:Value),l[i]?=some r->vs[i]?=some v->(f r).run P w= .ok v w)->l.length=vs.length->
  (l.mapM f).run P w= .ok vs w
 |[],[],_,_=>rfl
 |[],_::_,_,h=>by cases h
 |_::_,[],_,h=>by cases h
 |r::l,v::vs,h,hl=>by
  have h0:=h 0 r v rfl rfl;have ih:=mapM_cells l vs (fun i r v h1 h2=>h (i+1) r v (by simpa using h1) (by simpa using h2)) (by simpa using hl);simp only[List.mapM_cons,Sem.run_bind,h0,Result.andThen_ok,ih,Sem.run_pure]
def nM (a:Act)(r:ResultVar):Sem Value:=match r with
 | .tmp t=>pure (a.tmps.getD t undef)
 | .cell t ty=>do loadVar ty (<-asAddr (a.tmps.getD t undef))
theorem Mr {E:Env}{w:World}{a:Act}(hf:Fits N E a):∀(l:List ResultVar) (K:List Value->Prop),NY P l E w K->
  ∃vs:List Value,l.length=vs.length/\(∀(i:Nat) (r:ResultVar) (v:Value),l[i]?=some r->vs[i]?=some v->(nM a r).run P w= .ok v w)/\K vs
 |[],K,h=>⟨[],rfl,by simp,h⟩
 | .tmp t::l,K,h=>by
  simp only[NY]at h;split at h
  ·rename_i v hv;obtain ⟨vs,h1,h2,h3⟩:=Mr hf l _ h;refine ⟨v::vs,by simp[h1],fun i r u hi hu=>?_,h3⟩;cases i with
   |zero=>
    simp only[bL,aS]at hi hu;subst hi hu;simp only[nM,Sem.run_pure,(hf.get t v hv).2]
   |succ i=>exact h2 i r u (by simpa using hi) (by simpa using hu)
  ·exact h.elim
 | .cell t ty::l,K,h=>by
  simp only[NY]at h;split at h
  ·rename_i x hx;obtain ⟨v,g1,g2⟩:=QE h;obtain ⟨vs,h1,h2,h3⟩:=Mr hf l _ g2;refine ⟨v::vs,by simp[h1],fun i r u hi hu=>?_,h3⟩;cases i with
   |zero=>
    simp only[bL,aS]at hi hu;subst hi hu;have hxa:∃b,x= .pointer (some b):=by
     unfold yz at h;split at h
     ·exact ⟨_,rfl⟩
     ·exact h.elim
    obtain ⟨b,rfl⟩:=hxa;simp only[Instr.loadAt,Instr.sureAddr,Sem.run_bind,Sem.run_pure,Result.andThen_ok]at g1;simp only[nM,(hf.get t _ hx).2,asAddr,Sem.run_bind,Sem.run_pure,Result.andThen_ok,g1]
   |succ i=>exact h2 i r u (by simpa using hi) (by simpa using hu)
  ·exact h.elim
theorem OW {a:Act}:∀(l:List Value) (i:Nat),(∀j v,l[j]?=some v->i+j<N/\a.tmps.getD (i+j) undef=v)->Mf N (P9 i l) a
 |[],_,_,p,hp=>by cases hp
 |v::l,i,h,p,hp=>by
  rcases ar.1 hp with rfl|hp
  ·exact h 0 v rfl
  ·exact OW l (i+1) (fun j u hj=>by have:=h (j+1) u (by simpa using hj);rw[show i+1+j=i+(j+1) by omega];exact this) p hp
theorem nN (vs:List Value):(if h:vs.toArray.size=1 then vs.toArray[0]else Value.tuple vs.toArray)=Bs.DW vs:=by
 match vs with
 |[]=>rfl
 |[v]=>rfl
 |_::_::_=>simp[Bs.DW]
theorem KG {n:Nat}{args:List Value}(hle:args.length<=n):Fits n (P9 0 args) {tmps:=args.toArray++Array.replicate (n-args.toArray.size) undef,defers:=[]}:=by
 refine Mf.fits (OW args 0 fun j v hj=>?_) (by simp;omega);have Au:j<args.length:=(al.1 hj).1;refine ⟨by omega,?_⟩;have hv:args[j]=v:=(al.1 hj).2;simp[Array.getD,Au,hv];intro h';omega
theorem CX {fn:Func}{E':Env}{a':Act}{w':World}{tys:List Ty}{R:Sg tys->World->Prop}(Er:Fits N E' a')(h:FE P fn tys R E' w'):
  ∃v,(results fn a'.tmps).run P w'= .ok v w'/\∃s:Sg tys,Ending.returned v= .returned (Bs.DW (Sg.DV tys s))/\R s w':=by
 obtain ⟨vs,g1,g2,g3⟩:=Mr Er _ _ h;split at g3
 ·rename_i s hs;refine ⟨Bs.DW vs,?_,s,by rw[Sg.OU _ _ _ hs],g3⟩;have e:results fn a'.tmps=(do
    let vs<-fn.results.mapM (nM a')
    pure (if h:vs.size=1 then vs[0]else .tuple vs)):=rfl
  rw[e,Array.mapM_eq_mapM_toList];have:=mapM_cells (P:=P) (w:=w') fn.results.toList vs g2 g1;simp only[Sem.run_bind,Sem.run_map,this,Result.andThen_ok,Sem.run_pure,nN]
 ·exact g3.elim
theorem GN {ok may:Nat->Bool}{pk:Value->World->Prop}(hF:Ac P ok)(hm:P.follows .mixedOrders=true){f:FuncId}{fn:Func}{pl:Aa}{args:List Value}{w:World}{tys:List Ty}{R:Sg tys->World->Prop}
  (hf:P.funcs[f]?=some fn) (hN:(match fn.body with
   |some c=>AZ fn.ntmps c
   |none=>false)=true) (ha:Nat.ble args.length fn.ntmps=true)
  (h:cR P ⟨ok,may,pk⟩ pl fn args w tys R):Calls P f args.toArray w fun e w'=>(∃s:Sg tys,e= .returned (Bs.DW (Sg.DV tys s))/\R s w')\/∃v,e= .panicked (AV v)/\pk v w':=by
 unfold cR at h;split at h
 ·exact h.elim
 ·rename_i c hc;rw[hc]at hN;refine calls_of_wp hf hc ?_;refine wp_mono (CW (F:=⟨ok,may,pk⟩) hF hm c pl _ w _ _ h (KG (bD ha)) hN) fun e a' w' hq=>?_
  rcases hq with ⟨E',h1,h2,h3⟩|⟨v,rfl,h1,h2,h3⟩
  ·have fin:FE P fn tys R E' w'->a'.defers=[]/\∃v,(results fn a'.tmps).run P w'= .ok v w'/\((∃s:Sg tys,Ending.returned v= .returned (Bs.DW (Sg.DV tys s))/\R s w')\/∃u,Ending.returned v= .panicked (AV u)/\pk u w'):=fun h=>by
    obtain ⟨v,g1,g2⟩:=CX h2 h;exact ⟨h3.2,v,g1,.inl g2⟩
   cases e with
   |normal=>exact fin h1
   |ret=>exact fin h1
   |_=>exact h1.elim
  ·exact ⟨h3.2,.inr ⟨v,rfl,h1⟩⟩
theorem Ft {ok may:Nat->Bool}(hF:Ac P ok)(hm:P.follows .mixedOrders=true){f:FuncId}{fn:Func}{pl:Aa}{args:List Value}{w:World}{tys:List Ty}{R:Sg tys->World->Prop}
  (hf:P.funcs[f]?=some fn) (hN:(match fn.body with
   |some c=>AZ fn.ntmps c
   |none=>false)=true) (ha:Nat.ble args.length fn.ntmps=true)
  (h:cR P ⟨ok,may,fun _ _=>False⟩ pl fn args w tys R):Calls P f args.toArray w fun e w'=>∃s:Sg tys,e= .returned (Bs.DW (Sg.DV tys s))/\R s w':=
 (GN hF hm hf hN ha h).mono fun e w' he=>he.elim id fun ⟨_,_,h⟩=>h.elim
end
end Sh
end Go.Proofs.YtdnhhkhbdfiagaaGreatDoor

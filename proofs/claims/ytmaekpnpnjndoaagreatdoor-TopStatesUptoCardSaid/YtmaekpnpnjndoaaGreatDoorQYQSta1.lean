/- Joined texts of the proof; conditions stand in each theorem. -/
import Derived.Test.YtmaekpnpnjndoaaGreatDoorProg
import Derived.WalkKit
import Derived.Deep.Quiet
import Derived.StillTail
import Derived.OrdersHeld
import Derived.KernelRfl
import Derived.Recover
import Derived.Laws.Panics
import Derived.Deep.LoopGhost
set_option linter.unusedVariables false
set_option linter.unusedSimpArgs false
namespace Go.Proofs.YtmaekpnpnjndoaaGreatDoor
abbrev aa.{u} := @List.set_cons_zero.{u}
abbrev ab.{u} := @List.set_cons_succ.{u}
abbrev ae.{u} := @List.nil_append.{u}
abbrev af.{u} := @List.setIfInBounds_toArray.{u}
abbrev ag.{u} := @List.cons_append.{u}
abbrev ah := @Nat.zero_add
abbrev ai.{u} := @List.length_append.{u}
abbrev aj := @Bool.and_eq_true
abbrev al.{u} := @List.getElem?_eq_getElem.{u}
abbrev ao.{u} := @List.getElem?_eq_some_iff.{u}
abbrev aq.{u,v} := @congrArg.{u,v}
abbrev ar.{u} := @List.length_cons.{u}
abbrev au.{u} := @Array.getElem?_eq_some_iff.{u}
abbrev av.{u} := @List.mem_singleton.{u}
abbrev aw.{u} := @List.mem_cons.{u}
abbrev ax.{u} := @List.mem_cons_self.{u}
abbrev ay.{u} := @List.mem_cons_of_mem.{u}
abbrev az.{u} := @if_neg.{u}
abbrev aA.{u} := @List.mem_of_getElem?.{u}
abbrev aB := @Nat.le_refl
abbrev aC.{u,v} := @List.map_cons.{u,v}
abbrev aD.{u} := @if_pos.{u}
abbrev aE.{u} := @List.getD_eq_getElem?_getD.{u}
abbrev aF := @Int.toNat_natCast
abbrev aG.{u} := @List.not_mem_nil.{u}
abbrev aH := @decide_eq_false
abbrev aI := @decide_eq_true
abbrev aJ.{u} := @List.all_eq_true.{u}
abbrev aM.{u} := @List.length_drop.{u}
abbrev aN.{u} := @List.append_nil.{u}
abbrev aO.{u} := @List.append_assoc.{u}
abbrev aP.{u} := @List.take_length.{u}
abbrev aQ.{u} := @List.take_add_one.{u}
abbrev aR.{u,v} := @List.getElem?_map.{u,v}
abbrev aS.{u} := @List.mem_append.{u}
abbrev aT.{u} := @List.eq_nil_of_length_eq_zero.{u}
abbrev aU.{u} := @List.length_nil.{u}
abbrev aV.{u,v} := @List.length_map.{u,v}
abbrev aW.{u} := @List.length_take.{u}
abbrev aX.{u,v} := @Option.map_eq_some_iff.{u,v}
abbrev aY.{u} := @List.contains_iff_mem.{u}
abbrev aZ.{u} := @Option.some.inj.{u}
abbrev bc.{u} := @List.drop_drop.{u}
abbrev bd.{u,v} := @List.map_append.{u,v}
abbrev bf.{u} := @beq_eq_false_iff_ne.{u}
abbrev bg.{u,v} := @List.flatMap_append.{u,v}
abbrev bh := @of_decide_eq_true
abbrev bj.{u} := @List.getElem?_append_left.{u}
abbrev bo := @Bool.true_and
abbrev bp := @Nat.le_of_ble_eq_true
abbrev bq := @Bool.false_eq_true
abbrev br.{u,v} := @List.map_nil.{u,v}
abbrev bu := @decide_eq_true_eq
abbrev bw.{u} := @Option.some.injEq.{u}
abbrev bz.{u} := @List.take_of_length_le.{u}
abbrev bA := @or_false
abbrev bB.{u,v} := @List.flatMap_cons.{u,v}
abbrev bC := @Nat.le_trans
abbrev bD := @Nat.zero_le
abbrev bE.{u} := @List.take_zero.{u}
abbrev bF.{u} := @Array.getD_eq_getD_getElem?.{u}
abbrev bG.{u} := @List.getElem?_append_right.{u}
abbrev bH.{u} := @List.getElem_mem.{u}
abbrev bI := @Bool.or_eq_true
abbrev bJ.{u} := @Array.getElem?_eq_none.{u}
abbrev bK.{u} := @List.sum_cons.{u}
abbrev bL.{u} := @Array.length_toList.{u}
abbrev bM := @decide_eq_false_iff_not
abbrev bN := @Bool.and_false
abbrev bO := @Bool.not_eq_true'
abbrev bP.{u} := @List.getElem?_of_mem.{u}
abbrev bQ.{u} := @Array.getElem?_eq_getElem.{u}
abbrev bR := @UInt8.toNat_ofNat'
abbrev bS := @UInt8.toNat_inj
abbrev bT := @Bool.false_and
abbrev bU := @Nat.mul_one
abbrev bV.{u} := @List.take_append_drop.{u}
abbrev bW.{u,v} := @Option.bind_eq_some_iff.{u,v}
abbrev bX.{u} := @beq_iff_eq.{u}
abbrev bY := @decide_eq_true_iff
abbrev bZ.{u,v} := @List.flatMap_singleton.{u,v}
abbrev b5.{u} := @List.drop_eq_getElem_cons.{u}
abbrev b6.{u,v} := @List.mem_map_of_mem.{u,v}
abbrev b7.{u} := @List.dropWhile_cons.{u}
abbrev b8 := @Nat.eq_of_beq_eq_true
abbrev b9.{u} := @List.drop_zero.{u}
abbrev cb := @Bool.and_true
abbrev cd.{u} := @Array.getElem?_setIfInBounds.{u}
abbrev cf.{u} := @List.isPrefixOf_iff_prefix.{u}
abbrev cg := @Bool.eq_iff_iff
abbrev cj.{u} := @List.length_singleton.{u}
abbrev ck := @Bool.not_eq_true
abbrev cl.{u,v} := @List.mem_map.{u,v}
abbrev cn := @Nat.lt_or_ge
abbrev cp.{u} := @List.cons.inj.{u}
abbrev cq.{u} := @List.mem_iff_getElem.{u}
abbrev cr.{u} := @List.getElem?_cons_succ.{u}
abbrev ct.{u} := @List.getElem?_cons_zero.{u}
abbrev cu := @Nat.add_mul
abbrev cv := @Nat.lt_succ_self
abbrev cw := @List.mem_range
abbrev cx := @Int.tdiv_eq_ediv_of_nonneg
abbrev cz := @Int.tmod_eq_emod_of_nonneg
abbrev cA.{u} := @Array.mem_of_getElem?.{u}
abbrev cB.{u} := @List.size_toArray.{u}
abbrev cC.{u} := @List.nodup_append.{u}
abbrev cD := @Bool.or_eq_false_iff
abbrev cE.{u} := @Option.toList_some.{u}
abbrev cF.{u} := @List.getElem?_drop.{u}
abbrev cG := @of_decide_eq_false
abbrev cH.{u} := @List.mem_filter.{u}
abbrev cI := ByteArray
namespace Sh
structure AA where
 p:Option Addr
 len:Nat
 cap:Nat
def AA.v(s:AA):Value:= .slice s.p s.len s.cap
inductive DR where
 |int (k:IntKind)|bool|str|ptr|addr|Ct|map|raw
def DR.T:DR->Type
 | .int _=>Int| .bool=>Bool| .str=>ByteArray| .ptr=>Option Addr| .addr=>Addr| .Ct=>AA| .map=>Option Nat| .raw=>Value
def DR.v:(t:DR)->t.T->Value
 | .int k,x=> .int k x| .bool,x=> .bool x| .str,x=> .string x| .ptr,x=> .pointer x| .addr,x=> .pointer (some x)| .Ct,x=>AA.v x| .map,x=> .map x| .raw,x=>x
def DR.get?:(t:DR)->Value->Option t.T
 | .int k,.int k' n=>if k'=k then some n else none
 | .bool,.bool b=>some b
 | .str,.string s=>some s
 | .ptr,.pointer p=>some p
 | .addr,.pointer (some p)=>some p
 | .Ct,.slice p l c=>some ⟨p,l,c⟩
 | .map,.map m=>some m
 | .raw,x=>some x
 |_,_=>none
def AQ:List DR->Type
 |[]=>Unit
 |[t]=>t.T
 |t::u::r=>t.T×AQ (u::r)
def AQ.cells:(ts:List DR)->AQ ts->List Value
 |[],_=>[]
 |[t],x=>[t.v x]
 |t::u::r,x=>t.v x.1::AQ.cells (u::r) x.2
def AQ.get?:(ts:List DR)->List Value->Option (AQ ts)
 |[],[]=>some ()
 |[t],[x]=>t.get? x
 |t::u::r,x::xs=>(t.get? x).bind fun a=>(AQ.get? (u::r) xs).bind fun b=>some (a,b)
 |_,_=>none
inductive Ty where
 |one (t:DR)
 |agg (ts:List DR)
def Ty.T:Ty->Type
 | .one t=>t.T
 | .agg ts=>AQ ts
def Ty.v:(t:Ty)->t.T->Value
 | .one t,x=>t.v x
 | .agg ts,x=> .agg (AQ.cells ts x).toArray
def Ty.get?:(t:Ty)->Value->Option t.T
 | .one t,x=>t.get? x
 | .agg ts,.agg cs=>AQ.get? ts cs.toList
 |_,_=>none
def Sg:List Ty->Type
 |[]=>Unit
 |[t]=>t.T
 |t::u::r=>t.T×Sg (u::r)
def Sg.Ds:(ts:List Ty)->Sg ts->List Value
 |[],_=>[]
 |[t],x=>[t.v x]
 |t::u::r,x=>t.v x.1::Sg.Ds (u::r) x.2
def Sg.get?:(ts:List Ty)->List Value->Option (Sg ts)
 |[],[]=>some ()
 |[t],[x]=>t.get? x
 |t::u::r,x::xs=>(t.get? x).bind fun a=>(Sg.get? (u::r) xs).bind fun b=>some (a,b)
 |_,_=>none
def me:TypeDesc->DR
 | .int k=> .int k| .bool=> .bool| .string=> .str| .pointer _=> .ptr| .slice _=> .Ct| .map _ _=> .map|_=> .raw
def DL:Option TypeDesc->Bool
 |some (.struct _)|some (.array _ _)=>true
 |_=>false
def QX (P:Program):Nat->TypeId->List DR
 |0,_=>[]
 |n+1,t=>match P.underlying t with
  |some (.struct fs)=>fs.toList.flatMap fun f=>QX P n f.type
  |some (.array len e)=>(List.replicate len (QX P n e)).flatten
  |some d=>[me d]
  |none=>[]
def Hb (P:Program)(t:TypeId):Ty:=match DL (P.underlying t)with
 |true=>if P.cellsOf t<=40 then .agg (QX P 8 t)else .one .raw
 |false=>match P.underlying t with
  |some d=> .one (me d)
  |none=> .one .raw
abbrev Env:=List (Nat×Value)
def Env.get?:Env->Nat->Option Value
 |[],_=>none
 |(t,v)::E,n=>match Nat.beq t n with
  |true=>some v
  |false=>Env.get? E n
def Env.Ai(E:Env):Operand->Value
 | .tmp t=>match E.get? t with
  |some v=>v
  |none=>undef
 | .const v=>v
 | .global g=> .pointer (some ⟨g,0,none⟩)
 | .func f=> .func (.func f) #[] #[]
def Env.has(E:Env):Operand->Bool
 | .tmp t=>(E.get? t).isSome
 |_=>true
def Env.put(E:Env)(d:Option Tmp)(v:Value):Env:=match d with
 |some t=>(t,v)::E
 |none=>E
def Env.Ds(E:Env):List Nat->Option (List Value)
 |[]=>some []
 |t::r=>match E.get? t,Env.Ds E r with
  |some v,some vs=>some (v::vs)
  |_,_=>none
def Env.zip:List Nat->List Value->Env
 |t::r,v::vs=>(t,v)::Env.zip r vs
 |_,_=>[]
def Env.AB(E:Env):List Nat->Env
 |[]=>[]
 |t::r=>match E.get? t with
  |some v=>(t,v)::Env.AB E r
  |none=>Env.AB E r
def Br (b:Bool)(A B:Prop):Prop:=match b with
 |true=>A
 |false=>B
def Q6 (w:World)(a:Addr):Prop:=(∃o,w.cell? a=some o)/\w.frozen? a=false
def Nn (p:Option Addr)(K:Addr->Prop):Prop:=∃a,p=some a/\K a
def Ld {α:Type}(w:World)(a:Addr)(V:α->Value)(K:α->Prop):Prop:=∃x,w.cell? a=some (V x)/\K x
def AP {α:Type}(S:World->Prop)(a:Addr)(V:α->Value)(K:α->Prop):Prop:=∃x,(∀w,S w->w.cell? a=some (V x))/\K x
def St (w:World)(a:Addr)(v:Value)(K:World->Prop):Prop:=Q6 w a/\K (w.setCell a v)
def Nw (w:World)(o:Obj)(K:World->Prop):Prop:=K (w.alloc o)
def U1 (w:World)(b:Nat)(s:ByteArray)(pos:Nat):World:={w with heap:=w.heap.setIfInBounds b (.stringIter s pos)}
def Nx (w:World)(a:Addr)(T:Int->Int->World->Prop)(N:Prop):Prop:=
 ∃(s:ByteArray) (pos:Nat),a.off=0/\w.heap[a.block]?=some (.stringIter s pos)/\Br (decide (pos<s.size)) (T (pos:Int) ((Utf8.decode s pos).1:Int) (U1 w a.block s (pos+(Utf8.decode s pos).2))) N
def Lt {α:Type}(e:α)(K:α->Prop):Prop:=K e
structure Fx where
 ok:Nat->Bool
 may:Nat->Bool
 pk:Value->World->Prop
def AW (v:Value):List PanicEntry:=[{v,recovered:=false}]
def Ms (P:Program)(pk:Value->World->Prop)(K:Value->World->Prop):Result Next->Prop
 | .ok (.value v) w'=>K v w'
 | .ok .skip w'=>K undef w'
 | .ok (.enter f args) w'=>Calls P f args w' fun e BG=>(∃v,e= .returned v/\K v BG)\/∃v,e= .panicked (AW v)/\pk v BG
 | .halt (.panic v) w'=>pk v w'
 |_=>False
def Out (P:Program)(K:Value->World->Prop):Result Next->Prop
 | .ok (.value v) w'=>K v w'
 | .ok .skip w'=>K undef w'
 | .ok (.enter f args) w'=>Calls P f args w' fun e BG=>∃v,e= .returned v/\K v BG
 |_=>False
def BA (P:Program)(s:Sem Value)(w:World)(v:Value)(w':World):Prop:=s.run P w= .ok v w'
def mB (P:Program)(s:Sem Unit)(w:World)(w':World):Prop:=s.run P w= .ok () w'
def exT (t:Ty)(K:Value->Prop):Prop:=∃x:t.T,K (t.v x)
def Rn {α:Type}(P:Program)(s:Sem Value)(w:World)(V:α->Value)(K:α->World->Prop):Prop:=∃x w',BA P s w (V x) w'/\K x w'
def Ru (P:Program)(s:Sem Unit)(w:World)(K:World->Prop):Prop:=∃w',mB P s w w'/\K w'
def Mt (P:Program)(q:Bool)(t:TypeId)(s:Sem Value)(w:World)(K:Value->World->Prop):Prop:=match q with
 |false=>Rn P s w (Hb P t).v fun x w'=>K ((Hb P t).v x) w'
 |true=>False
def ABf (P:Program)(s:Sem Unit)(w:World)(K:Value->World->Prop):Prop:=Ru P s w fun w'=>K undef w'
def ldL (w:World)(a:Addr):Nat->List DR->(List Value->Prop)->Prop
 |_,[],K=>K []
 |i,t::ts,K=>Ld w (a.add i) t.v fun x=>ldL w a (i+1) ts fun l=>K (t.v x::l)
def Ab (w:World)(a:Addr):Nat->(ts:List DR)->(AQ ts->Prop)->Prop
 |_,[],K=>K ()
 |i,[t],K=>Ld w (a.add i) t.v fun x=>K x
 |i,t::u::r,K=>Ld w (a.add i) t.v fun x=>Ab w a (i+1) (u::r) fun y=>K (x,y)
def Am (S:World->Prop)(a:Addr):Nat->(ts:List DR)->(AQ ts->Prop)->Prop
 |_,[],K=>K ()
 |i,[t],K=>AP S (a.add i) t.v fun x=>K x
 |i,t::u::r,K=>AP S (a.add i) t.v fun x=>Am S a (i+1) (u::r) fun y=>K (x,y)
def Ak (a:Addr):Nat->(ts:List DR)->AQ ts->World->(World->Prop)->Prop
 |_,[],_,w,K=>K w
 |i,[t],x,w,K=>St w (a.add i) (t.v x) K
 |i,t::u::r,x,w,K=>St w (a.add i) (t.v x.1) fun w'=>Ak a (i+1) (u::r) x.2 w' K
def Kx (P:Program)(t:TypeId):Option Nat:=(P.info? t).map (·.size)
def xn (P:Program)(t:TypeId)(x:Value)(w:World)(K:Value->Prop):Prop:=match x with
 | .pointer (some a)=>match P.underlying t,Kx P t with
  |some d,some n=>match DL (some d)with
   |false=>Ld w a (me d).v fun x=>K ((me d).v x)
   |true=>match Hb P t with
    | .agg ts=>match Nat.beq ts.length n with
     |true=>ldL w a 0 ts fun l=>K (.agg l.toArray)
     |false=>False
    | .one _=>∃x:Array Value,BA P (loadVar t a) w (.agg x) w/\K (.agg x)
  |_,_=>False
 |_=>False
def gu:Value->Bool
 | .agg _| .tuple _=>false
 |_=>true
def wa (a:Addr):Nat->List Value->World->(World->Prop)->Prop
 |_,[],w,K=>K w
 |i,v::r,w,K=>Br (gu v) (St w (a.add i) v fun w'=>wa a (i+1) r w' K) False
def stV (P:Program)(t:TypeId)(x y:Value)(w:World)(K:World->Prop):Prop:=match x with
 | .pointer (some a)=>match P.underlying t,Kx P t with
  |some d,some n=>match DL (some d)with
   |false=>match Nat.beq n 1 with
    |true=>Br (gu y) (St w a y K) False
    |false=>False
   |true=>match y with
    | .agg cs=>match Nat.beq cs.size n with
     |true=>wa a 0 cs.toList w K
     |false=>False
    |_=>Ru P (storeVar t a y) w K
  |_,_=>False
 |_=>False
def isC:Operand->Bool
 | .const _=>true
 |_=>false
def YO (k:IntKind)(x y:Int):Int:=k.wrap ((BitVec.ofInt k.bits x&&&BitVec.ofInt k.bits y).toNat:Int)
def wi (k:IntKind)(x y:Int):Int:=k.wrap ((BitVec.ofInt k.bits x|||BitVec.ofInt k.bits y).toNat:Int)
def Bf (s:ByteArray)(i:Int):Int:=((s.data.getD i.toNat 0).toNat:Int)
def AA.cut(s:AA)(size l h m:Nat):AA:=⟨if m=l then s.p else s.p.map (·.add (l*size)),h-l,m-l⟩
def OB (P:Program):Nat->Array Value->Array Value->List Field->Option Bool
 |0,_,_,_=>none
 |n+1,xs,ys,fs=>match fs with
  |[]=>some true
  |f::r=>if f.name= "_"then none else match P.underlying f.type with
   |some (.struct fs')=>match P.stoodInHeld f.type with
    |false=>(OB P n (xs.extract f.offset (f.offset+P.cellsOf f.type)) (ys.extract f.offset (f.offset+P.cellsOf f.type)) fs'.toList).bind fun p=>(OB P n xs ys r).map fun q=>p&&q
    |true=>none
   |some d=>match d,xs[f.offset]?,ys[f.offset]? with
    | .int _,some (.int k a),some (.int k' b)=>if k=k' then (OB P n xs ys r).map fun q=>(a==b)&&q else none
    | .bool,some (.bool a),some (.bool b)=>(OB P n xs ys r).map fun q=>(a==b)&&q
    | .string,some (.string a),some (.string b)=>(OB P n xs ys r).map fun q=>(a.toList==b.toList)&&q
    |_,_,_=>none
   |none=>none
def XD (P:Program)(t:TypeId)(xs ys:Array Value):Option Bool:=match P.underlying t with
 |some (.struct fs)=>match P.stoodInHeld t,P.eqGuardType P.depth t with
  |false,false=>OB P 60 xs ys fs.toList
  |_,_=>none
 |_=>none
def vB (P:Program)(op:BinOp)(t:TypeId)(cy:Bool)(x y:Value)(K:Value->Prop)(BJ other:Prop):Prop:=
 match op with
 | .quo=>match cy,x,y with
  |false,.int k a,.int k' b=>if k=k' then (b≠0/\K (.int k (k.wrap (a.tdiv b))))else False
  |_,_,_=>BJ
 | .rem=>match cy,x,y with
  |false,.int k a,.int k' b=>if k=k' then (b≠0/\K (.int k (a.tmod b)))else False
  |_,_,_=>BJ
 | .shl=>match cy,x,y with
  |false,.int k a,.int _ b=>0<=b/\K (.int k (k.wrap (a*2^min b.toNat k.bits)))
  |_,_,_=>BJ
 | .shr=>match cy,x,y with
  |false,.int k a,.int _ b=>0<=b/\K (.int k (a.fdiv (2^min b.toNat k.bits)))
  |_,_,_=>BJ
 | .add=>match x,y with
  | .string a,.string b=>((a.size+b.size:Nat):Int)<=IntKind.i64.max/\K (.string (a++b))
  |_,_=>BJ
 | .eql=>match x,y with
  | .int _ _,.int _ _=>BJ
  | .string _,.string _=>BJ
  | .bool _,.bool _=>BJ
  | .pointer p,.pointer q=>match cy,q,P.underlying t with
   |true,none,some (.pointer _)=>K (.bool p.isNone)
   |_,_,_=>other
  | .slice p _ _,.slice q _ _=>match cy,q,P.underlying t with
   |true,none,some (.slice _)=>K (.bool p.isNone)
   |_,_,_=>other
  | .map p,.map q=>match cy,q,P.underlying t with
   |true,none,some (.map _ _)=>K (.bool p.isNone)
   |_,_,_=>other
  | .iface _ _,.nilIface=>match cy,P.underlying t with
   |true,some (.interface _)=>K (.bool false)
   |_,_=>other
  | .nilIface,.nilIface=>match cy,P.underlying t with
   |true,some (.interface _)=>K (.bool true)
   |_,_=>other
  | .func _ _ _,.nilFunc=>match cy,P.underlying t with
   |true,some (.func _ _ _)=>K (.bool false)
   |_,_=>other
  | .nilFunc,.nilFunc=>match cy,P.underlying t with
   |true,some (.func _ _ _)=>K (.bool true)
   |_,_=>other
  | .agg xs,.agg ys=>match XD P t xs ys with
   |some b=>K (.bool b)
   |none=>other
  |_,_=>other
 | .neq=>match x,y with
  | .int _ _,.int _ _=>BJ
  | .string _,.string _=>BJ
  | .bool _,.bool _=>BJ
  | .pointer p,.pointer q=>match cy,q,P.underlying t with
   |true,none,some (.pointer _)=>K (.bool (!p.isNone))
   |_,_,_=>other
  | .slice p _ _,.slice q _ _=>match cy,q,P.underlying t with
   |true,none,some (.slice _)=>K (.bool (!p.isNone))
   |_,_,_=>other
  | .map p,.map q=>match cy,q,P.underlying t with
   |true,none,some (.map _ _)=>K (.bool (!p.isNone))
   |_,_,_=>other
  | .iface _ _,.nilIface=>match cy,P.underlying t with
   |true,some (.interface _)=>K (.bool true)
   |_,_=>other
  | .nilIface,.nilIface=>match cy,P.underlying t with
   |true,some (.interface _)=>K (.bool false)
   |_,_=>other
  | .func _ _ _,.nilFunc=>match cy,P.underlying t with
   |true,some (.func _ _ _)=>K (.bool true)
   |_,_=>other
  | .nilFunc,.nilFunc=>match cy,P.underlying t with
   |true,some (.func _ _ _)=>K (.bool false)
   |_,_=>other
  | .agg xs,.agg ys=>match XD P t xs ys with
   |some b=>K (.bool (!b))
   |none=>other
  |_,_=>other
 |_=>BJ
def vC (P:Program)(t:TypeId)(cy:Bool)(x y:Value)(K:Value->Prop)(BJ:Prop):Prop:=
 match x,y with
 | .string s,.int _ i=>match P.underlying t with
  |some .string=>0<=i/\i<s.size/\K (.int .u8 (Bf s i))
  |_=>BJ
 | .agg cs,.int _ i=>match cy,P.underlying t with
  |false,some (.array len e)=>match P.underlying e,Kx P e with
   |some d,some n=>match DL (some d)with
    |false=>0<=i/\i<len/\∃x:(me d).T,cs[i.toNat*n]?=some ((me d).v x)/\K ((me d).v x)
    |true=>match Hb P e with
     | .agg ts=>0<=i/\i<len/\∃x:AQ ts,cs.extract (i.toNat*n) (i.toNat*n+n)=(AQ.cells ts x).toArray/\K (.agg (AQ.cells ts x).toArray)
     | .one _=>BJ
   |_,_=>BJ
  |_,_=>BJ
 |_,_=>BJ
def vD (P:Program)(t:TypeId)(cy:Bool)(x y:Value)(K:Value->Prop)(BJ:Prop):Prop:=
 match x,y with
 | .slice p len _,.int _ i=>match P.underlying t with
  |some (.slice e)=>match Kx P e with
   |some n=>0<=i/\i<len/\Nn p fun a=>K (.pointer (some (a.add (i.toNat*n))))
   |none=>BJ
  |_=>BJ
 | .pointer (some a),.int _ i=>match cy,P.underlying t with
  |false,some (.array len e)=>match Kx P e with
   |some n=>0<=i/\i<len/\K (.pointer (some (a.add (i.toNat*n))))
   |none=>BJ
  |_,_=>BJ
 |_,_=>BJ
def DC (top:Nat)(x:Option Value)(other:Nat)(K:Nat->Prop)(BJ:Prop):Prop:=match x with
 |none=>K other
 |some (.int _ i)=>0<=i/\i<=top/\K i.toNat
 |_=>BJ
def slV (P:Program)(t:TypeId)(x:Value)(lo hi mx:Option Value)(K:Value->Prop)(BJ:Prop):Prop:=
 match x with
 | .string s=>match P.underlying t,mx with
  |some .string,none=>DC s.size hi s.size (fun h=>DC h lo 0 (fun l=>K (.string (s.extract l h))) BJ) BJ
  |_,_=>BJ
 | .slice p len cap=>match P.underlying t with
  |some (.slice e)=>match Kx P e with
   |some n=>match mx,hi with
    |some _,none=>BJ
    |mx,hi=>DC cap mx cap (fun m=>DC m hi len (fun h=>DC h lo 0 (fun l=>K (AA.v (AA.cut ⟨p,len,cap⟩ n l h m))) BJ) BJ) BJ
   |none=>BJ
  |_=>BJ
 | .pointer (some a)=>match P.underlying t,mx with
  |some (.array c e),none=>match Kx P e with
   |some n=>DC c hi c (fun h=>DC h lo 0 (fun l=>K (AA.v (AA.cut ⟨some a,c,c⟩ n l h c))) BJ) BJ
   |none=>BJ
  |_,_=>BJ
 |_=>BJ
def ABh (P:Program)(g:Nat)(args:Array Value)(w:World)(v:Value)(w':World):Prop:=(callFunc g args).run P w= .ok (.value v) w'
def Bw (P:Program)(F:Fx)(g:Nat)(args:Array Value)(w:World)(K:Value->World->Prop):Prop:=
 match F.ok g with
 |false=>match P.funcs[g]? with
  |none=>False
  |some fn=>SV (fn.resultTypes.toList.map (Hb P)) fun l=>∃w',ABh P g args w (Dt l) w'/\K (Dt l) w'
 |true=>match P.funcs[g]? with
  |none=>False
  |some fn=>match F.may g with
   |false=>Calls P g args w fun e w'=>SV (fn.resultTypes.toList.map (Hb P)) fun l=>e= .returned (Dt l)/\K (Dt l) w'
   |true=>Calls P g args w fun e w'=>(SV (fn.resultTypes.toList.map (Hb P)) fun l=>e= .returned (Dt l)/\K (Dt l) w')\/∃v,e= .panicked (AW v)/\F.pk v w'
where
 SV:List Ty->(List Value->Prop)->Prop
  |[],K=>K []
  |t::ts,K=>∃x:t.T,SV ts fun l=>K (t.v x::l)
 Dt:List Value->Value
  |[v]=>v
  |l=> .tuple l.toArray
def sameKind:Value->Value->Bool
 | .int _ _,.int _ _=>true
 | .string _,.string _=>true
 | .bool _,.bool _=>true
 |_,_=>false
def fdV (P:Program)(t:TypeId)(x:Value)(f:Nat)(K:Value->Prop)(dn:Prop):Prop:=match x with
 | .pointer (some a)=>match P.underlying t with
  |some (.struct fs)=>match fs[f]? with
   |some f=>match Kx P f.type with
    |some n=>match Nat.beq n 0 with
     |false=>K (.pointer (some (a.add f.offset)))
     |true=>dn
    |none=>dn
   |none=>dn
  |_=>dn
 |_=>dn
def gv (pk:Value->World->Prop)(x:Value)(w:World):Prop:=match x with
 | .iface t y=>pk (.iface t y) w
 |_=>False
def Mu:TypeDesc->Bool
 | .interface _=>true
 |_=>false
def gw (P:Program)(u:TypeId)(x:Value):Option Value:=match x with
 | .iface t v=>match P.underlying u with
  |some d=>match Mu d,Nat.beq t u with
   |false,true=>some v
   |_,_=>none
  |none=>none
 |_=>none
def DM:List Value->Bool
 |[]=>true
 | .int _ _::r=>DM r
 |_=>false
def UA (P:Program)(F:Fx)(q:Bool)(E:Env)(o:Oper)(w:World)(K:Value->World->Prop):Prop:=
 let dp:Prop:=Out P K ((execOp E.Ai o).run P w)
 let dn:Prop:=match q with
  |true=>False
  |false=>Out P K ((execOp E.Ai o).run P w)
 match o.op with
 | .move _| .assign _| .pick .. | .unOp .. | .extract .. | .field .. | .build ..=>dp
 | .load t x=>xn P t (E.Ai x) w fun v=>K v w
 | .store t x y=>match q with
  |true=>False
  |false=>stV P t (E.Ai x) (E.Ai y) w fun w'=>K undef w'
 | .nilCheck x=>match E.Ai x with
  | .pointer p=>Nn p fun a=>K (.pointer (some a)) w
  |_=>dn
 | .fieldAddr t x f=>fdV P t (E.Ai x) f (fun v=>K v w) dn
 | .binOp op t x y _=>vB P op t (isC y) (E.Ai x) (E.Ai y) (fun v=>K v w) (match sameKind (E.Ai x) (E.Ai y)with
   |true=>dp
   |false=>dn)
   (Mt P q o.type (do eqGuard op t x y (E.Ai x) (E.Ai y);binOp op t (E.Ai x) (E.Ai y)) w K)
 | .index t x i=>vC P t (isC i) (E.Ai x) (E.Ai i) (fun v=>K v w) dp
 | .indexAddr t x i=>vD P t (isC i) (E.Ai x) (E.Ai i) (fun v=>K v w) dp
 | .slice t x lo hi mx=>slV P t (E.Ai x) (lo.map E.Ai) (hi.map E.Ai) (mx.map E.Ai) (fun v=>K v w) dp
 | .call c=>match c.callee with
  | .value f=>match q,E.Ai f with
   |false,.func (.func g) first captured=>Bw P F g ((first++(c.args.map E.Ai))++captured) w K
   |_,_=>dn
  | .builtin .append=>Mt P q o.type (Builtin.append_ c.argTypes o.type (c.args.map E.Ai)) w K
  | .builtin .copy=>Mt P q o.type (Builtin.copy_ c.argTypes o.type (c.args.map E.Ai)) w K
  | .builtin .clear=>Mt P q o.type (Builtin.clear_ c.argTypes o.type (c.args.map E.Ai)) w K
  | .builtin .delete=>Mt P q o.type (Builtin.delete_ c.argTypes o.type (c.args.map E.Ai)) w K
  | .builtin .len=>match c.args[0]?.map E.Ai with
   |some (.string _)=>dp
   |some (.slice _ _ _)=>dp
   |some (.map _)=>Mt P q o.type (Builtin.len_ c.argTypes o.type (c.args.map E.Ai)) w K
   |_=>dn
  | .builtin .cap=>match c.args[0]?.map E.Ai with
   |some (.slice _ _ _)=>dp
   |_=>dn
  | .builtin .min=>match DM (c.args.map E.Ai).toList with
   |true=>dp
   |false=>dn
  | .builtin .max=>match DM (c.args.map E.Ai).toList with
   |true=>dp
   |false=>dn
  |_=>dn
 | .convert src dst x=>match E.Ai x with
  | .int _ _=>match P.underlying dst with
   |some (.int _)=>dp
   |_=>dn
  |x'=>Mt P q o.type (convert src dst x') w K
 | .panic x=>match q with
  |false=>gv F.pk (E.Ai x) w
  |true=>False
 | .makeSlice t l c=>Mt P q o.type (Instr.makeSlice t (E.Ai l) (E.Ai c)) w K
 | .lookup t x i ok=>match ok with
  |false=>Mt P q o.type (Instr.lookup t (E.Ai x) (E.Ai i) false) w K
  |true=>match q,P.underlying t with
   |false,some (.map _ e)=>exT (Hb P e) fun v=>∃b:Bool,∃w',BA P (Instr.lookup t (E.Ai x) (E.Ai i) true) w (.tuple #[v,.bool b]) w'/\K (.tuple #[v,.bool b]) w'
   |_,_=>dn
 | .range t x=>match q,E.Ai x,P.underlying t with
  |false,.string s,some .string=>Nw w (.stringIter s 0) fun w'=>K (.pointer (some ⟨w.heap.size,0,none⟩)) w'
  |false,.map m,some (.map _ _)=>∃(a:Addr) (w':World),BA P (Instr.range t (.map m)) w (.pointer (some a)) w'/\K (.pointer (some a)) w'
  |_,_,_=>dn
 | .next it str=>match q,str,E.Ai it with
  |false,true,.pointer (some a)=>Nx w a (fun i c w'=>K (.tuple #[.bool true,.int .i64 i,.int .i32 c]) w') (K (.tuple #[.bool false]) w)
  |false,false,.pointer (some a)=>(∃w',BA P (Instr.next (.pointer (some a)) false o.type) w (.tuple #[.bool false]) w'/\K (.tuple #[.bool false]) w')\/∃k e:Value,∃w',BA P (Instr.next (.pointer (some a)) false o.type) w (.tuple #[.bool true,k,e]) w'/\K (.tuple #[.bool true,k,e]) w'
  |_,_,_=>dn
 | .mapUpdate t m k x=>match q with
  |true=>False
  |false=>ABf P (Instr.mapUpdate t (E.Ai m) (E.Ai k) (E.Ai x)) w K
 | .typeAssert x t u ok=>match ok with
  |false=>Mt P q u (Instr.typeAssert (E.Ai x) t u false) w K
  |true=>match q with
   |true=>False
   |false=>match gw P u (E.Ai x)with
    |some v=>K (.tuple #[v,.bool true]) w
    |none=>exT (Hb P u) fun v=>∃b:Bool,∃w',BA P (Instr.typeAssert (E.Ai x) t u true) w (.tuple #[v,.bool b]) w'/\K (.tuple #[v,.bool b]) w'
 |_=>dn
def mf (ops:Array Oper)(E:Env)(o:Oper)(yes no:Env->Prop):Prop:=match o.guard with
 |none=>yes E
 |some (j,want)=>match (ops[j]?).bind (·.dst)with
  |some s=>match E.get? s with
   |some (.bool b)=>match want with
    |true=>Br b (yes ((s,.bool true)::E)) (no ((s,.bool false)::E))
    |false=>Br b (no ((s,.bool true)::E)) (yes ((s,.bool false)::E))
   |some (.tuple _)=>no E
   |_=>False
  |none=>False
def px:Op->Bool
 | .select ..=>false
 |_=>true
def hasAll (E:Env)(op:Op):Bool:=px op&&op.operands.toList.all E.has
def FU (P:Program):Op->Bool
 | .move _| .assign _| .pick .. | .load .. | .nilCheck _| .unOp .. | .fieldAddr .. | .field .. | .index .. | .indexAddr .. | .slice .. | .extract .. | .binOp .. | .build ..=>true
 | .convert src dst _=>match P.underlying src,P.underlying dst with
  |some (.int _),some (.int _)=>true
  |_,_=>false
 | .call c=>match c.callee with
  | .builtin .len| .builtin .cap| .builtin .min| .builtin .max=>true
  |_=>false
 |_=>false
def FV (P:Program)(F:Fx)(q:Bool)(ops:Array Oper):List Oper->Env->World->(Env->World->Prop)->Prop
 |[],E,w,K=>K E w
 |o::r,E,w,K=>mf ops E o
   (fun E=>match hasAll E o.op&&(!q||FU P o.op)with
    |true=>UA P F q E o w fun v w'=>FV P F q ops r (E.put o.dst v) w' K
    |false=>False)
   (fun E=>FV P F q ops r (E.put o.dst undef) w K)
def XE (P:Program)(t:TypeId):List Ty:=match P.underlying t with
 |some (.tuple ts)=>ts.toList.map (Hb P)
 |_=>[Hb P t]
def Dy (P:Program)(ok:Nat->Bool)(ts:List Ty)(f:Value)(args:Array Value)(w:World)(K:Sg ts->World->Prop)(pk:Value->World->Prop):Prop:=
 ∃g first captured,f= .func (.func g) first captured/\(ok g&&(P.funcs[g]?).isSome)=true/\Calls P g ((first++args)++captured) w fun e w'=>(∃s:Sg ts,e= .returned (Bw.Dt (Sg.Ds ts s))/\K s w')\/∃v,e= .panicked (AW v)/\pk v w'
def ANs (v:Value)(K:Fn->Array Value->Array Value->Prop):Prop:=∃f a c,v= .func f a c/\K f a c
def gx (ρ:Operand->Value):List (Nat×Operand)->(List (Nat×Value)->Prop)->Prop
 |[],K=>K []
 |p::r,K=>ANs (ρ p.2) fun f a c=>gx ρ r fun l=>K ((p.1,.func f a c)::l)
def py (ops:Array Oper)(d:Option Nat)(i:Nat):Option TypeId:=ops.toList.findSome? fun o=>match o.op,d with
 | .extract (.tmp t) j,some d=>match Nat.beq t d&&Nat.beq j i with
  |true=>some o.type
  |false=>none
 |_,_=>none
def opD (P:Program)(F:Fx)(ops:Array Oper)(E:Env)(o:Oper)(w:World)(K:Value->World->Prop):Prop:=match o.op with
 | .entry it=>match E.Ai it,py ops o.dst 0,py ops o.dst 1 with
  | .pointer (some a),some tk,some te=>exT (Hb P tk) fun k=>exT (Hb P te) fun e=>∃w',BA P (Instr.entry (.pointer (some a))) w (.tuple #[k,e]) w'/\K (.tuple #[k,e]) w'
  |_,_,_=>UA P F false E o w K
 | .build t parts=>gx E.Ai parts.toList fun l=>Out P K ((do pure (Next.value (<-Instr.build t l.toArray)):Sem Next).run P w)
 | .call c=>match c.callee with
  | .value (.tmp t)=>Dy P F.ok (XE P o.type) (E.Ai (.tmp t)) (c.args.map E.Ai) w (fun s w'=>K (Bw.Dt (Sg.Ds (XE P o.type) s)) w') F.pk
  |_=>UA P F false E o w K
 |_=>UA P F false E o w K
def gy (P:Program)(F:Fx)(ops:Array Oper):List Oper->Env->World->(Env->World->Prop)->Prop
 |[],E,w,K=>K E w
 |o::r,E,w,K=>mf ops E o
   (fun E=>match hasAll E o.op with
    |true=>opD P F ops E o w fun v w'=>gy P F ops r (E.put o.dst v) w' K
    |false=>False)
   (fun E=>gy P F ops r (E.put o.dst undef) w K)
def vE (S:World->Prop)(a:Addr):Nat->List DR->(List Value->Prop)->Prop
 |_,[],K=>K []
 |i,t::ts,K=>AP S (a.add i) t.v fun x=>vE S a (i+1) ts fun l=>K (t.v x::l)
def ldQ (P:Program)(S:World->Prop)(t:TypeId)(x:Value)(K:Value->Prop):Prop:=match x with
 | .pointer (some a)=>match P.underlying t,Kx P t with
  |some d,some n=>match DL (some d)with
   |false=>AP S a (me d).v fun x=>K ((me d).v x)
   |true=>match Hb P t with
    | .agg ts=>match Nat.beq ts.length n with
     |true=>vE S a 0 ts fun l=>K (.agg l.toArray)
     |false=>False
    | .one _=>∃x:Array Value,(∀w,S w->BA P (loadVar t a) w (.agg x) w)/\K (.agg x)
  |_,_=>False
 |_=>False
def opQ (P:Program)(F:Fx)(S:World->Prop)(E:Env)(o:Oper)(w:World)(K:Value->Prop):Prop:=match o.op with
 | .load t x=>ldQ P S t (E.Ai x) K
 |_=>UA P F true E o w fun v _=>K v
inductive Od where
 |done
 |take (i:Nat) (r:Od)
 |BF (i:Nat) (fl:Option (List Nat)) (r:Od)
 |Kl (i:Nat) (fl:Option (List Nat)) (r more:Od)
 |mono (js:List Nat) (r:Od)
def Mv:Op->Bool
 | .load ..=>true
 |_=>false
def gz (ops:Array Oper)(i:Nat):Bool:=match ops[i]? with
 |some o=>Mv o.op
 |none=>false
def Od.Ic(ops:Array Oper):Od->Bool
 | .done=>false
 | .take i r=>gz ops i||r.Ic ops
 | .BF _ (some _) _=>false
 | .BF _ none r=>r.Ic ops
 | .Kl _ (some _) _ m=>m.Ic ops
 | .Kl _ none r m=>r.Ic ops||m.Ic ops
 | .mono _ r=>r.Ic ops
def Od.depth:Od->Nat
 | .done=>0
 | .take _ r=>r.depth+1
 | .BF _ _ r=>r.depth+1
 | .Kl _ _ r m=>max (r.depth+1) m.depth
 | .mono js r=>r.depth+js.length
def KL (e:List Edge)(m:Array Bool):Array Bool:=e.foldl (fun m e=>match Region.binds .any e with
 |true=>m.setIfInBounds e.on true
 |false=>m) m
def Y9 (ops:Array Oper):Nat->Array Bool->Array Bool
 |0,m=>m
 |k+1,m=>Y9 ops k (match m.getD k false,ops[k]? with
  |true,some o=>KL o.after.toList m
  |_,_=>m)
def pz (ops:Array Oper)(j i:Nat):Bool:=match ops[j]? with
 |some o=>(Y9 ops j (KL o.after.toList (Array.replicate ops.size false))).getD i false
 |none=>false
def xo (lo:Bool)(w:World)(k:(World->Prop)->Prop):Prop:=match lo with
 |true=>∃S:World->Prop,S w/\k S
 |false=>k fun _=>True
def mg (P:Program)(F:Fx)(ops:Array Oper)(J:List Nat)(S:World->Prop)(i:Nat)(fl:Option (List Nat))(lo:Bool)(E:Env)(w:World)(o:Oper)
  (k:(World->Prop)->Env->World->Prop):Prop:=match fl,J.contains i with
 |none,false=>mf ops E o
  (fun E=>match hasAll E o.op with
   |true=>UA P F false E o w fun v w'=>S w'/\k S (E.put o.dst v) w'
   |false=>False)
  (fun E=>k S (E.put o.dst undef) w)
 |some _,true=>mf ops E o
  (fun E=>match hasAll E o.op with
   |true=>UA P F false E o w fun v w'=>xo lo w' fun S=>k S (E.put o.dst v) w'
   |false=>False)
  (fun E=>xo lo w fun S=>k S (E.put o.dst undef) w)
 |_,_=>False
structure B6 where
 j:Nat
 dst:Nat
 ty:Ty
 G:ty.T->World->Prop
def hU (P:Program)(o:Oper):Ty:=match o.op with
 | .indexAddr ..=> .one .addr
 | .fieldAddr ..=> .one .addr
 |_=>Hb P o.type
def XF (P:Program)(ops:Array Oper)(le:World->World->Prop):List Nat->List B6->(List B6->Prop)->Prop
 |[],acc,k=>k acc
 |j::js,acc,k=>match ops[j]? with
  |some o=>match o.dst with
   |some d=>∃G:(hU P o).T->World->Prop,(∀x w w',le w w'->G x w->G x w')/\XF P ops le js (acc++[⟨j,d,hU P o,G⟩]) k
   |none=>False
  |none=>False
def Ie (op:Op)(d:Nat):Bool:=op.operands.toList.any fun x=>match x with
 | .tmp t=>Nat.beq t d
 |_=>false
def Oo (o:Oper):List B6->Env->World->(Env->Prop)->Prop
 |[],E,_,k=>k E
 |e::r,E,w,k=>match Ie o.op e.dst with
  |true=>∀x:e.ty.T,e.G x w->Oo o r (E.put (some e.dst) (e.ty.v x)) w k
  |false=>Oo o r E w k
def Ig:List B6->Env->World->(Env->Prop)->Prop
 |[],E,_,k=>k E
 |e::r,E,w,k=>∀x:e.ty.T,e.G x w->Ig r (E.put (some e.dst) (e.ty.v x)) w k
def XG (P:Program)(F:Fx)(ops:Array Oper)(S:World->Prop)(le:World->World->Prop)(B:World->Prop)(E:Env)(all:List B6):List B6->Prop
 |[]=>True
 |e::r=>(match ops[e.j]? with
  |some o=>∀w,S w->B w->Oo o all E w fun E'=>match hasAll E' o.op with
   |true=>UA P F false E' o w fun v w'=>S w'/\B w'/\le w w'/\∃x:e.ty.T,v=e.ty.v x/\e.G x w'
   |false=>False
  |none=>False)/\XG P F ops S le B E all r
def B7 (listed:Array Bool):List Nat->Array Bool
 |[]=>listed
 |j::js=>B7 (listed.setIfInBounds j true) js
def Fc (ops:Array Oper)(j:Nat):Nat:=match (ops[j]?).bind (·.dst)with
 |some d=>d
 |none=>0
def XH (x:Nat):List Nat->Bool
 |[]=>true
 |y::r=> !Nat.beq x y&&XH x r
def distinct:List Nat->Bool
 |[]=>true
 |x::r=>XH x r&&distinct r
def QY (ops:Array Oper)(listed:Array Bool)(js:List Nat)(E:Env):Bool:=
 distinct js&&distinct (js.map (Fc ops))&&
 (js.all fun j=>match ops[j]? with
  |some o=>o.guard.isNone&&o.dst.isSome&& !(listed.getD j true)&& !(E.get? (Fc ops j)).isSome&&
   (o.after.toList.all fun e=> !Region.binds .any e||listed.getD e.on false||(js.contains e.on&&Nat.blt e.on j))&&
   (js.all fun j'=> !Ie o.op (Fc ops j')||o.after.toList.any fun e=>Region.binds .any e&&Nat.beq e.on j')
  |none=>false)&&
 ((List.range ops.size).all fun k=>listed.getD k true||js.contains k||js.all fun j=>pz ops k j)
def GF (ops:Array Oper):Od->List Nat->List Nat->Array Bool->Bool
 | .done,pre,_,listed=>pre.isEmpty&&(Region.ready .any ops listed).isEmpty
 | .take i r,pre,J,listed=>match ops[i]? with
  |none=>false
  |some o=>pre.isEmpty&&(Region.free .any ops listed i&&(Region.ready .any ops listed).contains i)&&(!Mv o.op||J.all fun j=>pz ops j i)&&GF ops r [] J (listed.setIfInBounds i true)
 | .BF i fl r,pre,J,listed=>Region.ready .any ops listed==pre++[i]&&GF ops r [] (fl.getD J) (listed.setIfInBounds i true)
 | .Kl i fl r more,pre,J,listed=>GF ops r [] (fl.getD J) (listed.setIfInBounds i true)&&GF ops more (pre++[i]) J listed
 | .mono js r,pre,J,listed=>pre.isEmpty&&(js.all fun j=> !J.contains j)&&GF ops r [] J (B7 listed js)
def hasB (m i:Nat):Bool:=Nat.beq (Nat.land (Nat.shiftRight m i) 1) 1
def QZ (m i:Nat):Nat:=Nat.lor m (Nat.shiftLeft 1 i)
def Oq:List Edge->Nat->Nat
 |[],m=>m
 |e::r,m=>match Region.binds .any e with
  |true=>Oq r (QZ m e.on)
  |false=>Oq r m
def SW (ops:Array Oper):Nat->Nat->Nat
 |0,m=>m
 |k+1,m=>match hasB m k,ops[k]? with
  |true,some o=>SW ops k (Oq o.after.toList m)
  |_,_=>SW ops k m
def vF (ops:Array Oper)(j:Nat):Nat:=match ops[j]? with
 |some o=>SW ops j (Oq o.after.toList 0)
 |none=>0
def Ga (m:Nat):List Edge->Bool
 |[]=>true
 |e::r=>match Region.binds .any e with
  |true=>hasB m e.on&&Ga m r
  |false=>Ga m r
def GG (m k:Nat)(o:Oper):Bool:= !hasB m k&&Ga m o.after.toList
def FW (m:Nat):List Oper->Nat->List Nat
 |[],_=>[]
 |o::r,k=>match GG m k o with
  |true=>k::FW m r (k+1)
  |false=>FW m r (k+1)
def Mw (ops:Array Oper)(m i:Nat)(oi:Oper):List Oper->Nat->Bool
 |[],_=>true
 |o::r,j=>(Nat.beq j i||hasB m j||(o.after.toList.any fun e=>Nat.beq e.on i&&Region.binds .any e)||oi.apart ops o)&&Mw ops m i oi r (j+1)
def ZA:List Nat->List Nat->Bool
 |[],[]=>true
 |x::r,y::q=>Nat.beq x y&&ZA r q
 |_,_=>false
def XI (m:Nat):List Nat->Nat
 |[]=>m
 |j::js=>XI (QZ m j) js
def Fe (ops:Array Oper):Od->List Nat->List Nat->Nat->Bool
 | .done,pre,_,m=>pre.isEmpty&&(FW m ops.toList 0).isEmpty
 | .take i r,pre,J,m=>match ops[i]? with
  |none=>false
  |some o=>pre.isEmpty&&GG m i o&&Mw ops m i o ops.toList 0&&(!Mv o.op||J.all fun j=>hasB (vF ops j) i)&&Fe ops r [] J (QZ m i)
 | .BF i fl r,pre,J,m=>ZA (FW m ops.toList 0) (pre++[i])&&Fe ops r [] (fl.getD J) (QZ m i)
 | .Kl i fl r more,pre,J,m=>Nat.blt i ops.size&&Fe ops r [] (fl.getD J) (QZ m i)&&Fe ops more (pre++[i]) J m
 | .mono js r,pre,J,m=>pre.isEmpty&&(js.all fun j=> !J.contains j&&Nat.blt j ops.size)&&Fe ops r [] J (XI m js)
def Du (P:Program)(F:Fx)(ops:Array Oper):Od->List Nat->(World->Prop)->Array Bool->Env->World->(Env->World->Prop)->Prop
 | .done,_,_,_,E,w,K=>K E w
 | .take i r,J,S,listed,E,w,K=>match ops[i]? with
  |none=>False
  |some o=>mf ops E o
    (fun E=>match hasAll E o.op&&FU P o.op with
     |true=>opQ P F S E o w fun v=>Du P F ops r J S (listed.setIfInBounds i true) (E.put o.dst v) w K
     |false=>False)
    (fun E=>Du P F ops r J S (listed.setIfInBounds i true) (E.put o.dst undef) w K)
 | .BF i fl r,J,S,listed,E,w,K=>match ops[i]? with
  |none=>False
  |some o=>mg P F ops J S i fl (r.Ic ops) E w o fun S E w=>Du P F ops r (fl.getD J) S (listed.setIfInBounds i true) E w K
 | .Kl i fl r more,J,S,listed,E,w,K=>match ops[i]? with
  |none=>False
  |some o=>mg P F ops J S i fl (r.Ic ops) E w o (fun S E w=>Du P F ops r (fl.getD J) S (listed.setIfInBounds i true) E w K)/\Du P F ops more J S listed E w K
 | .mono js r,J,S,listed,E,w,K=>match QY ops listed js E with
  |true=>∃(le:World->World->Prop) (B:World->Prop),B w/\XF P ops le js [] fun Gs=>
    XG P F ops S le B E Gs Gs/\∀w,S w->B w->Ig Gs E w fun E=>Du P F ops r J S (B7 listed js) E w K
  |false=>False
inductive SX where
 |seq|still|tail (n:Nat)|held (J:List Nat) (o:Od)|dyn|tailD (n:Nat)
def vG (P:Program)(F:Fx)(m:SX)(ops:Array Oper)(d:Bool)(E:Env)(w:World)(K:Env->World->Prop):Prop:=
 match d,m with
 |false,.seq=>FV P F false ops ops.toList E w K
 |true,.still=>match Region.lexB .any ops with
  |true=>FV P F true ops ops.toList E w.drew K
  |false=>False
 |true,.tail n=>match Region.lexTailB .any ops n with
  |true=>FV P F true ops (ops.toList.take n) E w.drew fun E w=>FV P F false ops (ops.toList.drop n) E w K
  |false=>False
 |true,.held J o=>match Region.noSelect ops&&Nat.ble o.depth ops.size&&Fe ops o [] J 0 with
  |true=>xo (o.Ic ops) w.drew fun S=>Du P F ops o J S (Array.replicate ops.size false) E w.drew K
  |false=>False
 |false,.dyn=>gy P F ops ops.toList E w K
 |true,.tailD n=>match Region.lexTailB .any ops n with
  |true=>FV P F true ops (ops.toList.take n) E w.drew fun E w=>gy P F ops (ops.toList.drop n) E w K
  |false=>False
 |_,_=>False
inductive Ah where
 |BY (m:SX)
 |leaf
 |seq (a b:Ah)
 |join (live:List (Nat×Ty)) (AB:List Nat) (a b:Ah)
 |cond (a b:Ah)
 |block (a:Ah)
 |loop (live:List (Nat×Ty)) (AB:List Nat) (a:Ah)
abbrev Ah.q(a:Ah):Ah:= .seq (.BY .seq) a
abbrev Ah.l:Ah:= .leaf
abbrev Ah.r:Ah:= .BY .seq
abbrev Ah.s(a b:Ah):Ah:= .seq a b
abbrev Ah.c(a b:Ah):Ah:= .cond a b
abbrev Ah.b(a:Ah):Ah:= .block a
abbrev Ah.o(live:List (Nat×Ty))(AB:List Nat)(a:Ah):Ah:= .loop live AB a
def wr (t:Nat):Code->Bool
 | .region _ ops _=>ops.toList.any fun o=>match o.dst with
  |some d=>Nat.beq d t
  |none=>false
 | .seq a b=>wr t a||wr t b
 | .cond _ a b=>wr t a||wr t b
 | .block _ a=>wr t a
 | .loop a=>wr t a
 | .skip| .exit _| .ret| .label _=>false
 |_=>true
def Cl (AB:List Nat)(c:Code):Bool:=AB.all fun t=> !wr t c
def As {σ:Type}(body:σ->World->Prop)(front:(σ->World->Prop)->Prop):Prop:=
 ∃J:σ->World->Prop,(∀s w,J s w->body s w)/\front J
def Lp {σ:Type}(B:(σ->World->Prop)->σ->World->Prop)(s0:σ)(w0:World):Prop:=
 ∃(I:Nat->σ->World->Prop) (n0:Nat),I n0 s0 w0/\∀n s w,I n s w->B (fun s' w'=>∃n',n'<n/\I n' s' w') s w
def EF (live:List (Nat×Ty))(E:Env)(K:Sg (live.map (·.2))->Prop):Prop:=
 match Env.Ds E (live.map (·.1))with
 |some vs=>match Sg.get? (live.map (·.2)) vs with
  |some s=>K s
  |none=>False
 |none=>False
def EG (live:List (Nat×Ty))(s:Sg (live.map (·.2))):Env:=Env.zip (live.map (·.1)) (Sg.Ds (live.map (·.2)) s)
def CA (P:Program)(F:Fx):Ah->Code->Env->World->(Exit->Env->World->Prop)->Prop
 | .BY m,.region _ ops d,E,w,K=>vG P F m ops d E w fun E w=>K .normal E w
 | .leaf,.skip,E,w,K=>K .normal E w
 | .leaf,.label _,E,w,K=>K .normal E w
 | .leaf,.exit id,E,w,K=>K (.exit id) E w
 | .leaf,.ret,E,w,K=>K .ret E w
 | .seq p q,.seq c d,E,w,K=>CA P F p c E w fun e E w=>match e with
  | .normal=>CA P F q d E w K
  |e=>K e E w
 | .join live AB p q,.seq c d,E,w,K=>match Cl AB c with
  |true=>As (fun s w=>CA P F q d (EG live s++Env.AB E AB) w K) fun J=>CA P F p c E w fun e E w=>match e with
   | .normal=>EF live E fun s=>J s w
   |e=>K e E w
  |false=>False
 | .cond p q,.cond x c d,E,w,K=>match E.Ai x with
  | .bool b=>Br b (CA P F p c E w K) (CA P F q d E w K)
  |_=>False
 | .block p,.block id c,E,w,K=>CA P F p c E w fun e E w=>match e with
  | .exit i=>match Nat.beq i id with
   |true=>K .normal E w
   |false=>K (.exit i) E w
  |e=>K e E w
 | .loop live AB p,.loop c,E,w,K=>match Cl AB c with
  |true=>EF live E fun s0=>Lp (fun R s w=>CA P F p c (EG live s++Env.AB E AB) w fun e E w=>match e with
   | .normal=>EF live E fun s=>R s w
   |e=>K e E w) s0 w
  |false=>False
 |_,_,_,_,_=>False
def OC (P:Program):List ResultVar->Env->World->(List Value->Prop)->Prop
 |[],_,_,K=>K []
 | .tmp t::r,E,w,K=>match E.get? t with
  |some v=>OC P r E w fun l=>K (v::l)
  |none=>False
 | .cell t ty::r,E,w,K=>match E.get? t with
  |some x=>xn P ty x w fun v=>OC P r E w fun l=>K (v::l)
  |none=>False
def SY:Nat->List Value->Env
 |_,[]=>[]
 |i,v::r=>(i,v)::SY (i+1) r
def cM (P:Program)(F:Fx)(pl:Ah)(fn:Func)(args:List Value)(w:World)(tys:List Ty)(R:Sg tys->World->Prop):Prop:=
 match fn.body with
 |none=>False
 |some c=>CA P F pl c (SY 0 args) w fun e E w=>match e with
  | .normal=>OC P fn.results.toList E w fun vs=>match Sg.get? tys vs with
   |some s=>R s w
   |none=>False
  | .ret=>OC P fn.results.toList E w fun vs=>match Sg.get? tys vs with
   |some s=>R s w
   |none=>False
  |_=>False
def Vf:Option Value->FrameMode
 |none=> .returning
 |some v=> .panicking (AW v)
def Gb:Option Value->FrameMode
 |none=> .returning
 |some v=> .panicking [{v,recovered:=true}]
def Df (P:Program)(g:Nat)(args:Array Value)(u:Option Value)(w:World)(R:World->Prop):Prop:=
 CallsD P g args (Vf u) w fun e u' w'=>e= .returned (.tuple #[])/\u'=Gb u/\R w'
inductive Ee where
 |pre (p:Ah) (r:Ee)
 |here (AB:List Nat) (p:Ah)
def Jg (P:Program)(fn:Func)(tys:List Ty)(R:Sg tys->World->Prop)(E:Env)(w:World):Prop:=
 OC P fn.results.toList E w fun vs=>match Sg.get? tys vs with
  |some s=>R s w
  |none=>False
def hY:Op->Option Call
 | .defer c=>some c
 |_=>none
def Qa:Callee->Option Operand
 | .value f=>some f
 |_=>none
def hZ:Value->Option (Nat×Array Value×Array Value)
 | .func (.func g) first captured=>some (g,first,captured)
 |_=>none
def iA (E:Env)(o:Oper)(K:Nat->Array Value->Prop):Prop:=match hY o.op,o.guard,o.dst with
 |some c,none,none=>match Qa c.callee with
  |some f=>match hZ (E.Ai f),E.has f&&c.args.toList.all E.has with
   |some (g,first,captured),true=>K g ((first++(c.args.map E.Ai))++captured)
   |_,_=>False
  |none=>False
 |_,_,_=>False
def My (P:Program)(ok:Nat->Bool)(g:Nat):Bool:=match ok g,P.funcs[g]? with
 |true,some _=>true
 |_,_=>false
def vH (P:Program)(ok may:Nat->Bool)(PR:Value->World->Prop)(fn:Func)(tys:List Ty)(R:Sg tys->World->Prop):Ee->Code->Env->World->Prop
 | .pre p r,.seq c d,E,w=>CA P ⟨ok,may,PR⟩ p c E w fun e E w=>match e with
  | .normal=>vH P ok may PR fn tys R r d E w
  | .ret=>Jg P fn tys R E w
  |_=>False
 | .here AB p,.seq (.region _ ops false) d,E,w=>FV P ⟨ok,may,PR⟩ false ops ops.toList.dropLast E w fun E w=>match ops.toList.getLast? with
  |some o=>iA E o fun g args=>match Cl AB d&&My P ok g with
   |true=>CA P ⟨ok,may,fun v w=>Df P g args (some v) w fun w'=>Jg P fn tys R (Env.AB E AB) w'⟩ p d E w fun e E w=>match e with
    | .normal=>Df P g args none w fun w'=>Jg P fn tys R E w'
    | .ret=>Df P g args none w fun w'=>Jg P fn tys R E w'
    |_=>False
   |false=>False
  |none=>False
 |_,_,_,_=>False
def Nk (P:Program)(ok may:Nat->Bool)(PR:Value->World->Prop)(pl:Ee)(fn:Func)(args:List Value)(w:World)(tys:List Ty)(R:Sg tys->World->Prop):Prop:=
 match fn.body with
 |none=>False
 |some c=>vH P ok may PR fn tys R pl c (SY 0 args) w
def Jh:Op->Bool
 | .call c=>match c.callee with
  | .builtin .recover=>true
  |_=>false
 |_=>false
def ABk:Option Value->Value
 |none=> .nilIface
 |some v=>v
def KY (P:Program)(ok may:Nat->Bool)(pl:Ah)(fn:Func)(args:List Value)(u:Option Value)(w:World)(R:World->Prop):Prop:=
 match fn.body with
 |some (.seq (.region _ ops false) d)=>match ops.toList with
  |o::r=>match Jh o.op,o.guard,fn.results.toList with
   |true,none,[]=>FV P ⟨ok,may,fun _ _=>False⟩ false ops r ((SY 0 args).put o.dst (ABk u)) w fun E w=>CA P ⟨ok,may,fun _ _=>False⟩ pl d E w fun e _ w=>match e with
    | .normal=>R w
    | .ret=>R w
    |_=>False
   |_,_,_=>False
  |[]=>False
 |_=>False
end Sh
namespace Sh
theorem DR.Jk:∀(t:DR) (v:Value) (x:t.T),t.get? v=some x->t.v x=v
 | .int k,v,x,h=>by
  cases v<;>simp only[DR.get?]at h<;>try (cases h;done)
  rename_i k' n;by_cases e:k'=k
  ·rw[aD e]at h;cases h;subst e;rfl
  ·rw[az e]at h;cases h
 | .bool,v,x,h=>by cases v<;>simp only[DR.get?]at h<;>cases h<;>rfl
 | .str,v,x,h=>by cases v<;>simp only[DR.get?]at h<;>cases h<;>rfl
 | .ptr,v,x,h=>by cases v<;>simp only[DR.get?]at h<;>cases h<;>rfl
 | .addr,v,x,h=>by
  cases v with
  |pointer p=>
   cases p with
   |none=>cases h
   |some a=>cases h;rfl
  |_=>cases h
 | .Ct,v,x,h=>by cases v<;>simp only[DR.get?]at h<;>cases h<;>rfl
 | .map,v,x,h=>by cases v<;>simp only[DR.get?]at h<;>cases h<;>rfl
 | .raw,v,x,h=>by simp only[DR.get?]at h;cases h;rfl
theorem AQ.Vs(ts:List DR):∀(vs:List Value) (x:AQ ts),AQ.get? ts vs=some x->AQ.cells ts x=vs:=by
 induction ts with
 |nil=>intro vs x h;cases vs with
  |nil=>rfl
  |cons _ _=>cases h
 |cons t ts ih=>cases ts with
  |nil=>intro vs x h;cases vs with
   |nil=>cases h
   |cons v vs=>cases vs with
    |nil=>exact aq (fun y=>[y]) (DR.Jk _ _ _ h)
    |cons _ _=>cases h
  |cons u r=>intro vs x h;cases vs with
   |nil=>cases h
   |cons v vs=>
    obtain ⟨a,ha,h1⟩:=bW.1 h;obtain ⟨b,hb,h2⟩:=bW.1 h1;rw[<-aZ h2];show t.v a::AQ.cells (u::r) b=v::vs;rw[DR.Jk _ _ _ ha,ih _ _ hb]
theorem Ty.Jk(t:Ty)(v:Value)(x:t.T)(h:t.get? v=some x):t.v x=v:=by
 cases t with
 |one t=>exact DR.Jk _ _ _ h
 |agg ts=>
  cases v with
  |agg cs=>
   show Value.agg (AQ.cells ts x).toArray=_;rw[AQ.Vs _ _ _ h]
  |_=>exact nomatch (show (none:Option (AQ ts))=some x from h)
theorem Sg.O1(ts:List Ty):∀(vs:List Value) (x:Sg ts),Sg.get? ts vs=some x->Sg.Ds ts x=vs:=by
 induction ts with
 |nil=>intro vs x h;cases vs with
  |nil=>rfl
  |cons _ _=>cases h
 |cons t ts ih=>cases ts with
  |nil=>intro vs x h;cases vs with
   |nil=>cases h
   |cons v vs=>cases vs with
    |nil=>exact aq (fun y=>[y]) (Ty.Jk _ _ _ h)
    |cons _ _=>cases h
  |cons u r=>intro vs x h;cases vs with
   |nil=>cases h
   |cons v vs=>
    obtain ⟨a,ha,h1⟩:=bW.1 h;obtain ⟨b,hb,h2⟩:=bW.1 h1;rw[<-aZ h2];show t.v a::Sg.Ds (u::r) b=v::vs;rw[Ty.Jk _ _ _ ha,ih _ _ hb]
theorem Ik {b:Bool}{A B:Prop}(h:Br b A B):(b=true/\A)\/(b=false/\B):=by
 cases b
 ·exact .inr ⟨rfl,h⟩
 ·exact .inl ⟨rfl,h⟩
theorem beq_eq {a b:Nat}(h:Nat.beq a b=true):a=b:=by simpa using h
structure Fits (N:Nat) (E:Env) (a:Act):Prop where
 size:a.tmps.size=N
 get:∀t v,E.get? t=some v->t<N/\a.tmps.getD t undef=v
theorem EJ {α:Type}(xs:Array α)(i:Nat)(v d:α)(h:i<xs.size):(xs.setIfInBounds i v).getD i d=v:=by
 simp[Array.getD,h]
theorem DX {α:Type}(xs:Array α){i j:Nat}(v d:α)(h:i≠j):(xs.setIfInBounds i v).getD j d=xs.getD j d:=by
 simp only[bF,cd];rw[az h]
theorem Fits.cons{N:Nat}{E:Env}{a:Act}{d:Nat}{v:Value}(h:Fits N E a)(hd:d<N)(hv:a.tmps.getD d undef=v):Fits N ((d,v)::E) a:=by
 refine ⟨h.size,fun t u hu=>?_⟩;simp only[Env.get?]at hu;split at hu
 ·rename_i hb;cases hu;rw[<-beq_eq hb];exact ⟨hd,hv⟩
 ·exact h.get t u hu
theorem Fits.put{N:Nat}{E:Env}{a:Act}{d:Option Tmp}{v:Value}(h:Fits N E a)(hd:∀t,d=some t->t<N):Fits N (E.put d v) (a.put d v):=by
 cases d with
 |none=>exact h
 |some t=>
  refine ⟨by simp[Act.put,h.size],fun u x hx=>?_⟩;simp only[Env.put,Env.get?]at hx;split at hx
  ·rename_i hb;cases hx;have:=beq_eq hb;subst this;exact ⟨hd _ rfl,EJ _ _ _ _ (by rw[h.size];exact hd _ rfl)⟩
  ·rename_i hb;have Bg:t≠u:=fun e=>by subst e;simp at hb
   exact ⟨(h.get u x hx).1,by simp only[Act.put];rw[DX _ _ _ Bg];exact (h.get u x hx).2⟩
theorem put_defers {a:Act}{d:Option Tmp}{v:Value}:(a.put d v).defers=a.defers:=by
 cases d<;>rfl
theorem E0 {a:Act}{d:Option Tmp}{v:Value}{t:Nat}(h:d≠some t):(a.put d v).tmps.getD t undef=a.tmps.getD t undef:=by
 cases d with
 |none=>rfl
 |some u=>simp only[Act.put];rw[DX _ _ _ (fun e=>h (by rw[e]))]
theorem Fits.Ai{N:Nat}{E:Env}{a:Act}(h:Fits N E a){x:Operand}(hx:E.has x=true):a.eval x=E.Ai x:=by
 cases x with
 |tmp t=>
  simp only[Env.has,Option.isSome_iff_exists]at hx;obtain ⟨v,hv⟩:=hx;simp only[Act.eval,Env.Ai,hv];exact (h.get t v hv).2
 |_=>rfl
theorem Af {N:Nat}{E:Env}{a:Act}(h:Fits N E a){o:Oper}(hx:hasAll E o.op=true):execOp a.eval o=execOp E.Ai o:=by
 simp only[hasAll,aj,aJ]at hx;refine execOp_congr o (fun cs b e=>?_) fun x hm=>h.Ai (hx.2 x (by simpa using hm))
 rw[e]at hx;simp[px]at hx
section
variable {P:Program} {F:Fx} {E:Env} {w:World} {K:Value->World->Prop}
theorem BK {s:Sem Value}{v:Value}{w':World}(h:s.run P w= .ok v w')(hk:K v w'):Out P K ((do pure (Next.value (<-s)):Sem Next).run P w):=by
 simp only[Sem.run_bind,h,Result.andThen_ok,Sem.run_pure,Out];exact hk
theorem Sb {s:Sem Unit}{w':World}(h:s.run P w= .ok () w')(hk:K undef w'):Out P K ((do s;pure Next.skip:Sem Next).run P w):=by
 simp only[Sem.run_bind,h,Result.andThen_ok,Sem.run_pure,Out];exact hk
theorem Cm {t:TypeId}{d:TypeDesc}(h:P.underlying t=some d):(isAgg t).run P w= .ok (DL (some d)) w:=by
 simp only[isAgg,Sem.run_bind,run_underlying h,Result.andThen_ok];cases d<;>rfl
theorem ZO {t:TypeId}{n:Nat}(h:Kx P t=some n):∃i,P.info? t=some i/\i.size=n:=by
 simpa[Kx]using h
theorem An {t:TypeId}{n:Nat}(h:Kx P t=some n):(sizeOf t).run P w= .ok n w:=by
 obtain ⟨i,hi,rfl⟩:=ZO h;simp[sizeOf,run_typeInfo w hi]
theorem KQ {a:Addr}{v:Value}(h:w.cell? a=some v):(load a).run P w= .ok v w:=by
 simp[load,Sem.run,h]
theorem XQ {a:Addr}{K:List Value->Prop}:∀(ts:List DR) (i:Nat),ldL w a i ts K->∃l:List Value,l.length=ts.length/\(∀j v,l[j]?=some v->w.cell? (a.add (i+j))=some v)/\K l
 |[],_,h=>⟨[],rfl,by simp,h⟩
 |t::ts,i,h=>by
  obtain ⟨x,hx,hr⟩:=h;obtain ⟨l,h1,h2,h3⟩:=XQ ts (i+1) hr;refine ⟨t.v x::l,by simp[h1],fun j v hj=>?_,h3⟩;cases j with
  |zero=>simp at hj;subst hj;simpa using hx
  |succ j=>have:=h2 j v (by simpa using hj);rw[show i+(j+1)=i+1+j by omega];exact this
theorem Qb {t:TypeId}{x:Value}{K:Value->Prop}(h:xn P t x w K):∃v,(Instr.loadAt t x).run P w= .ok v w/\K v:=by
 unfold xn at h;split at h
 ·rename_i a;have e:∀v,(loadVar t a).run P w= .ok v w->(Instr.loadAt t (.pointer (some a))).run P w= .ok v w:=fun v hv=>by
   simp only[Instr.loadAt,Instr.sureAddr,Sem.run_bind,Sem.run_pure,Result.andThen_ok];exact hv
  split at h
  ·rename_i d n hd hn;have ha:=Cm (P:=P) (w:=w) hd;split at h
   ·rename_i hf;obtain ⟨x,hx,hk⟩:=h;refine ⟨_,e _ ?_,hk⟩;simp only[loadVar,Sem.run_bind,ha,hf,Result.andThen_ok,bq,if_false,KQ hx]
   ·rename_i ht;split at h
    ·rename_i ts _;split at h
     ·rename_i hlen;obtain ⟨l,h1,h2,h3⟩:=XQ ts 0 h;refine ⟨_,e _ ?_,h3⟩;have hl:l.length=n:=by rw[h1];exact beq_eq hlen
      have:=run_loadCells_list (P:=P) w a l (fun j v hj=>by simpa using h2 j v hj);simp only[loadVar,Sem.run_bind,ha,ht,Result.andThen_ok,if_true,An hn,<-hl,this,Sem.run_pure]
     ·exact h.elim
    ·obtain ⟨x,hx,hk⟩:=h;exact ⟨.agg x,e _ hx,hk⟩
  ·exact h.elim
 ·exact h.elim
theorem Iq {a:Addr}{v:Value}(h:Q6 w a)(hv:gu v=true):(store a v).run P w= .ok () (w.setCell a v):=by
 obtain ⟨⟨o,ho⟩,hf⟩:=h;cases v<;>simp[gu]at hv<;>simp[store,Sem.run,ho,hf]
theorem XR {a:Addr}{K:World->Prop}:∀(vs:List Value) (i:Nat) (w:World),wa a i vs w K->∃w',(storeCells a vs i).run P w= .ok () w'/\K w'
 |[],_,w,h=>⟨w,by simp[storeCells],h⟩
 |v::r,i,w,h=>by
  rcases Ik h with ⟨hv,hc,hr⟩|⟨_,hn⟩
  ·obtain ⟨w',h1,h2⟩:=XR r (i+1) _ hr;exact ⟨w',by simp only[storeCells,Sem.run_bind,Iq hc hv,Result.andThen_ok];exact h1,h2⟩
  ·exact hn.elim
theorem mj {t:TypeId}{x y:Value}{K:World->Prop}(h:stV P t x y w K):∃w',(Instr.storeAt t x y).run P w= .ok () w'/\K w':=by
 unfold stV at h;split at h
 ·rename_i a;have e:∀w',(storeVar t a y).run P w= .ok () w'->(Instr.storeAt t (.pointer (some a)) y).run P w= .ok () w':=fun v hv=>by
   simp only[Instr.storeAt,Instr.sureAddr,Sem.run_bind,Sem.run_pure,Result.andThen_ok];exact hv
  split at h
  ·rename_i d n hd hn;split at h
   ·split at h
    ·rename_i fh;rcases Ik h with ⟨hv,hc,hk⟩|⟨_,hf⟩
     ·refine ⟨_,e _ ?_,hk⟩;have h1:y.cells=#[y]:=by cases y<;>simp[gu]at hv<;>rfl
      have h2:n=1:=beq_eq fh;subst h2;have hs:(store (a.add 0) y).run P w= .ok () (w.setCell a y):=by simpa[Addr.add]using Iq (P:=P) hc hv
      simp only[storeVar,Sem.run_bind,An hn,Result.andThen_ok,h1];simp[storeCells,hs]
     ·exact hf.elim
    ·exact h.elim
   ·split at h
    ·rename_i cs;split at h
     ·rename_i hlen;obtain ⟨w',h1,h2⟩:=XR (P:=P) _ _ _ h;refine ⟨w',e _ ?_,h2⟩;have hl:cs.size=n:=beq_eq hlen;simp only[storeVar,Sem.run_bind,An hn,Result.andThen_ok,Value.cells,hl];simpa using h1
     ·exact h.elim
    ·obtain ⟨w',h1,h2⟩:=h;exact ⟨w',e _ h1,h2⟩
  ·exact h.elim
 ·exact h.elim
theorem Bx {t:TypeId}{s:Sem Value}(h:Mt P false t s w K):Out P K ((do pure (Next.value (<-s)):Sem Next).run P w):=by
 obtain ⟨x,w',hr,hk⟩:=h;exact BK hr hk
theorem iG {s:Sem Unit}(h:ABf P s w K):Out P K ((do s;pure Next.skip:Sem Next).run P w):=by
 obtain ⟨w',hr,hk⟩:=h;exact Sb hr hk
end
end Sh
namespace Sh
def Pu {α:Type}(s:Sem α):Prop:=∀(P:Program) (w:World) (x:α) (w':World),s.run P w= .ok x w'->w'=w/\∀w2,s.run P w2= .ok x w2
theorem Pu.pure{α:Type}(a:α):Pu (Pure.pure a:Sem α):=by
 intro P w x w' h;simp only[Sem.run_pure,Result.ok.injEq]at h;obtain ⟨rfl,rfl⟩:=h;exact ⟨rfl,fun _=>rfl⟩
theorem Pu.never{α:Type}{s:Sem α}(h:∀P w,∃x w',s.run P w= .halt x w'):Pu s:=by
 intro P w x w' hr;obtain ⟨y,BG,hy⟩:=h P w;rw[hy]at hr;cases hr
theorem Pu.stuck{α:Type}(t:String):Pu (Go.stuck t:Sem α):=Pu.never fun _ w=>⟨_,w,rfl⟩
theorem Pu.unsupported{α:Type}(t:Unsupported):Pu (Go.unsupported t:Sem α):=Pu.never fun _ w=>⟨_,w,rfl⟩
theorem Pu.bounds{α:Type}(k:IntKind)(x y:Int)(c:BoundsCode):Pu (boundsPanic k x y c:Sem α):=Pu.never fun P w=>by
 obtain ⟨s,w',h⟩:=run_boundsPanic (P:=P) (w:=w) (α:=α) k x y c;exact ⟨_,w',h⟩
theorem Pu.bind{α β:Type}{s:Sem α}{f:α->Sem β}(h:Pu s)(hf:∀a,Pu (f a)):Pu (s>>=f):=by
 intro P w x w' hr;simp only[Sem.run_bind]at hr;cases e:s.run P w with
 |halt y BG=>rw[e]at hr;simp[Result.andThen]at hr
 |ok a BG=>
  rw[e]at hr;simp only[Result.andThen_ok]at hr;obtain ⟨rfl,h1⟩:=h P w a BG e;obtain ⟨rfl,h2⟩:=hf a P BG x w' hr;exact ⟨rfl,fun w2=>by simp only[Sem.run_bind,h1 w2,Result.andThen_ok,h2 w2]⟩
theorem Pu.program:Pu Go.program:=by
 intro P w x w' h;simp only[run_program,Result.ok.injEq]at h;obtain ⟨rfl,rfl⟩:=h;exact ⟨rfl,fun _=>rfl⟩
theorem Pu.error{α:Type}(m:String):Pu (runtimePanic (.error m):Sem α):=Pu.never fun _ w=>⟨_,w,rfl⟩
theorem Pu.typeInfo(t:TypeId):Pu (Go.typeInfo t):=Pu.bind Pu.program fun _=>by
 split
 ·exact Pu.pure _
 ·exact Pu.stuck _
theorem Pu.underlying(t:TypeId):Pu (Go.underlying t):=Pu.bind Pu.program fun _=>by
 split
 ·exact Pu.pure _
 ·exact Pu.stuck _
theorem Pu.zeroValue(t:TypeId):Pu (Go.zeroValue t):=by
 unfold Go.zeroValue;refine Pu.bind (Pu.typeInfo t) fun i=>?_
 split
 ·exact Pu.pure _
 ·first|exact Pu.stuck _|exact Pu.unsupported _
theorem Pu.sizeOf(t:TypeId):Pu (Go.sizeOf t):=Pu.bind (Pu.typeInfo t) fun _=>Pu.pure _
theorem Pu.isAgg(t:TypeId):Pu (Go.isAgg t):=Pu.bind (Pu.underlying t) fun d=>by split<;>exact Pu.pure _
theorem Pu.part(t:TypeId)(cs:Array Value)(o:Nat):Pu (Go.part t cs o):=Pu.bind (Pu.isAgg t) fun b=>by
 split
 ·exact Pu.bind (Pu.sizeOf t) fun _=>Pu.pure _
 ·split
  ·exact Pu.pure _
  ·exact Pu.stuck _
theorem Pu.asIntOf(v:Value):Pu (Go.asIntOf v):=by
 unfold Go.asIntOf;split
 ·exact Pu.pure _
 ·exact Pu.unsupported _
 ·exact Pu.stuck _
theorem Pu.ite{α:Type}{c:Prop}[Decidable c]{s t:Sem α}(h:Pu s)(k:Pu t):Pu (if c then s else t):=by
 split
 ·exact h
 ·exact k
section
variable {P:Program} {F:Fx} {E:Env} {w:World} {K:Value->World->Prop}
theorem iK {s:Sem Value}(hs:Pu s)(h:Out P K ((do pure (Next.value (<-s)):Sem Next).run P w)):
  ∃v,(∀w2,(do pure (Next.value (<-s)):Sem Next).run P w2= .ok (.value v) w2)/\K v w:=by
 simp only[Sem.run_bind]at h⊢;cases e:s.run P w with
 |halt y BG=>rw[e]at h;exact h.elim
 |ok v BG=>
  rw[e]at h;obtain ⟨rfl,h1⟩:=hs P w v BG e;exact ⟨v,fun w2=>by rw[h1 w2];rfl,h⟩
theorem ZF {s:Sem Next}(h:∃v,(∀w2,s.run P w2= .ok (.value v) w2)/\K v w):Out P K (s.run P w):=by
 obtain ⟨v,h1,h2⟩:=h;rw[h1 w];exact h2
theorem ZH (op:BinOp)(t:TypeId)(x y:Operand)(k k':IntKind)(a b:Int):Pu (do eqGuard op t x y (.int k a) (.int k' b);binOp op t (.int k a) (.int k' b)):=by
 refine Pu.bind ?_ fun _=>?_
 ·cases op<;>exact Pu.pure _
 ·cases op<;>simp only[binOp]<;>(try (refine Pu.ite (Pu.stuck _) ?_))<;>
   first
   |exact Pu.pure _
   |exact Pu.stuck _
   |(simp only[Op.intArith];exact Pu.pure _)
   |(simp only[Op.intDiv];exact Pu.ite (Pu.error _) (Pu.pure _))
   |(simp only[Op.intBits];exact Pu.pure _)
   |(simp only[Op.intCmp];first|exact Pu.pure _|exact Pu.stuck _)
   |(simp only[Op.shift];exact Pu.ite (Pu.error _) (Pu.pure _))
theorem ZI (op:BinOp)(t:TypeId)(x y:Operand)(a b:ByteArray):Pu (do eqGuard op t x y (.string a) (.string b);binOp op t (.string a) (.string b)):=by
 refine Pu.bind ?_ fun _=>?_
 ·cases op<;>exact Pu.pure _
 ·cases op<;>simp only[binOp,Op.stringOp]<;>first|exact Pu.pure _|exact Pu.stuck _|exact Pu.ite (Pu.unsupported _) (Pu.pure _)
theorem M3 (n:Nat)(t:TypeId)(a b:Bool):Pu (Op.equalIn (n+1) t (.bool a) (.bool b)):=by
 simp only[Op.equalIn];refine Pu.bind (Pu.underlying t) fun d=>?_
 cases d<;>first|exact Pu.pure _|exact Pu.stuck _
theorem Qc (t:TypeId)(a b:Bool):Pu (Op.equal t (.bool a) (.bool b)):=M3 9999 t a b
theorem Vq (op:BinOp)(t:TypeId)(x y:Operand)(a b:Bool):Pu (do eqGuard op t x y (.bool a) (.bool b);binOp op t (.bool a) (.bool b)):=by
 refine Pu.bind ?_ fun _=>?_
 ·cases op<;>exact Pu.pure _
 ·cases op<;>simp only[binOp]<;>first|exact Pu.stuck _|exact Pu.bind (Qc t a b) fun _=>Pu.pure _
theorem vM {op:BinOp}{t:TypeId}{x y:Operand}{a b:Value}(h:sameKind a b=true):Pu (do eqGuard op t x y a b;binOp op t a b):=by
 cases a<;>cases b<;>simp only[sameKind,bq]at h
 ·exact Vq _ _ _ _ _ _
 ·exact ZH _ _ _ _ _ _ _ _
 ·exact ZI _ _ _ _ _ _
theorem iC (op:UnOp)(x:Value):Pu (Op.unary op x):=by
 unfold Op.unary;split<;>first|exact Pu.pure _|exact Pu.stuck _|exact Pu.unsupported _|skip
theorem Vj (t:Value)(i:Nat):Pu (Instr.extract t i):=by
 unfold Instr.extract;split
 ·split
  ·exact Pu.pure _
  ·exact Pu.stuck _
 ·exact Pu.stuck _
theorem iD (t:TypeId)(x:Value)(f:Nat):Pu (Instr.field t x f):=by
 unfold Instr.field;refine Pu.bind (Pu.underlying t) fun d=>?_
 split
 ·split
  ·refine Pu.bind ?_ fun _=>Pu.part _ _ _
   unfold asAgg;split
   ·exact Pu.pure _
   ·exact Pu.stuck _
  ·exact Pu.stuck _
 ·exact Pu.stuck _
theorem Pu.ABp{α β:Type}{f:α->Sem β}(hf:∀a,Pu (f a)):∀l:List α,Pu (l.mapM f)
 |[]=>by rw[List.mapM_nil];exact Pu.pure _
 |a::l=>by rw[List.mapM_cons];exact Pu.bind (hf a) fun _=>Pu.bind (Pu.ABp hf l) fun _=>Pu.pure _
theorem Pu.mapA{α β:Type}{f:α->Sem β}(hf:∀a,Pu (f a))(l:Array α):Pu (l.mapM f):=by
 rw[Array.mapM_eq_mapM_toList];exact Pu.bind (Pu.ABp hf _) fun _=>Pu.pure _
theorem iE (t:TypeId)(parts:Array (Nat×Value)):Pu (Instr.build t parts):=by
 unfold Instr.build;refine Pu.bind (Pu.zeroValue t) fun z=>Pu.bind (Pu.underlying t) fun d=>?_
 split
 ·refine Pu.bind (Pu.mapA (fun f=>Pu.bind (Pu.sizeOf _) fun _=>Pu.pure _) _) fun places=>?_
  split
  ·exact Pu.pure _
  ·exact Pu.stuck _
 ·refine Pu.bind (Pu.sizeOf _) fun n=>?_
  split
  ·exact Pu.pure _
  ·exact Pu.stuck _
 ·exact Pu.stuck _
theorem iF (t:TypeId)(x i:Value):Pu (Instr.index t x i):=by
 unfold Instr.index;refine Pu.bind (Pu.asIntOf i) fun ki=>?_
 obtain ⟨k,n⟩:=ki;refine Pu.bind (Pu.underlying t) fun d=>?_
 split
 ·exact Pu.ite (Pu.bind (Pu.sizeOf _) fun _=>Pu.part _ _ _) (Pu.bounds _ _ _ _)
 ·split
  ·exact Pu.pure _
  ·exact Pu.bounds _ _ _ _
 ·exact Pu.stuck _
theorem XK (x:Value):Pu (Instr.sureAddr x):=by
 unfold Instr.sureAddr;split
 ·exact Pu.pure _
 ·exact Pu.stuck _
theorem Vi (t:TypeId)(x i:Value):Pu (Instr.indexAt t x i):=by
 unfold Instr.indexAt;refine Pu.bind (Pu.asIntOf i) fun ki=>?_
 obtain ⟨k,n⟩:=ki;refine Pu.bind (Pu.underlying t) fun d=>?_
 have tail:∀(base:Option Addr) (len:Nat) (elem:TypeId),Pu (do
   let ANx:=len<=1&&(match<-Go.underlying t with| .array ..=>true|_=>false)
   match base with
   |some a=>
    if 0<=n/\n<len then pure (Value.pointer (some (a.add (n.toNat*(<-Go.sizeOf elem)))))
    else if ANx then Go.unsupported (.noEntry "op/indexAddr.an index out of range at an array of length 0 or 1 (ledger 616)")
    else boundsPanic k n len .index
   |none=>boundsPanic k n 0 .index):=by
  intro base len elem;refine Pu.bind (Pu.underlying t) fun d2=>?_
  cases base with
  |none=>exact Pu.bounds _ _ _ _
  |some a=>
   refine Pu.ite (Pu.bind (Pu.sizeOf _) fun _=>Pu.pure _) ?_;exact Pu.ite (Pu.unsupported _) (Pu.bounds _ _ _ _)
 dsimp only;split
 ·exact Pu.bind (XK _) fun _=>Pu.bind (Pu.pure _) fun bl=>tail bl.1 bl.2.1 bl.2.2
 ·exact Pu.bind (Pu.pure _) fun bl=>tail bl.1 bl.2.1 bl.2.2
 ·exact Pu.bind (Pu.stuck _) fun bl=>tail bl.1 bl.2.1 bl.2.2
theorem GJ (x:Value)(y:Nat)(c:BoundsCode):Pu (Instr.sliceBound x y c):=by
 unfold Instr.sliceBound;refine Pu.bind (Pu.asIntOf x) fun ki=>?_
 obtain ⟨k,n⟩:=ki;exact Pu.ite (Pu.pure _) (Pu.bounds _ _ _ _)
theorem Gc (s:Bool)(l c:Nat)(lo hi mx:Option Value):Pu (Instr.sliceBounds s l c lo hi mx):=by
 unfold Instr.sliceBounds;have t3:∀(m h l:Nat),Pu (Pure.pure (l,h,m):Sem (Nat×Nat×Nat)):=fun _ _ _=>Pu.pure _
 have t2:∀(m h:Nat),Pu (do
   let l<-match lo with
    |some v=>Instr.sliceBound v h (if mx.isSome then .slice3C else .sliceB)
    |none=>pure 0
   pure (l,h,m)):=by
  intro m h;cases lo with
  |none=>exact Pu.bind (Pu.pure _) fun _=>t3 _ _ _
  |some v=>exact Pu.bind (GJ _ _ _) fun _=>t3 _ _ _
 cases mx with
 |none=>cases hi with
  |none=>exact Pu.bind (Pu.pure _) fun m=>Pu.bind (Pu.pure _) fun h=>t2 m h
  |some v=>exact Pu.bind (Pu.pure _) fun m=>Pu.bind (GJ _ _ _) fun h=>t2 m h
 |some u=>cases hi with
  |none=>exact Pu.bind (GJ _ _ _) fun m=>Pu.bind (Pu.stuck _) fun h=>t2 m h
  |some v=>exact Pu.bind (GJ _ _ _) fun m=>Pu.bind (GJ _ _ _) fun h=>t2 m h
theorem Pu.asAddr(v:Value):Pu (Go.asAddr v):=by
 unfold Go.asAddr;split
 ·exact Pu.pure _
 ·exact Pu.never fun P w=>⟨_,w,rfl⟩
 ·exact Pu.stuck _
theorem iL (t:TypeId)(x:Value)(lo hi mx:Option Value):Pu (Instr.slice t x lo hi mx):=by
 unfold Instr.slice;refine Pu.bind (Pu.underlying t) fun d=>?_
 split
 ·split
  ·exact Pu.stuck _
  ·exact Pu.bind (Gc _ _ _ _ _ _) fun _=>Pu.pure _
 ·exact Pu.bind (Gc _ _ _ _ _ _) fun _=>Pu.bind (Pu.sizeOf _) fun _=>Pu.pure _
 ·refine Pu.bind (Pu.asAddr _) fun a=>Pu.bind (Pu.underlying _) fun d2=>?_
  split
  ·exact Pu.bind (Gc _ _ _ _ _ _) fun _=>Pu.bind (Pu.sizeOf _) fun _=>Pu.pure _
  ·exact Pu.stuck _
 ·exact Pu.stuck _
theorem Vh (t:TypeId)(x:Value)(lo hi mx:Option Value):Pu (Instr.sliceAt t x lo hi mx):=by
 unfold Instr.sliceAt;refine Pu.bind (Pu.underlying t) fun d=>?_
 split
 ·exact Pu.bind (XK _) fun a=>Pu.bind (Gc _ _ _ _ _ _) fun _=>Pu.bind (Pu.sizeOf _) fun _=>Pu.pure _
 ·exact iL _ _ _ _ _
end
end Sh
namespace Sh
section
variable {P:Program} {F:Fx} {E:Env} {w:World} {K:Value->World->Prop}
theorem ZC (ts:Array TypeId)(t:TypeId)(args:Array Value)(s:ByteArray)(h:args[0]?=some (.string s)):Pu (Builtin.len_ ts t args):=by
 unfold Builtin.len_;cases h1:ts[0]? with
 |none=>exact Pu.stuck _
 |some t0=>
  simp only[h];refine Pu.bind (Pu.underlying _) fun d=>?_
  cases d<;>first|exact Pu.pure _|exact Pu.stuck _|(refine Pu.bind (Pu.underlying _) fun d2=>?_;cases d2<;>first|exact Pu.pure _|exact Pu.stuck _)
theorem ZD (ts:Array TypeId)(t:TypeId)(args:Array Value)(p:Option Addr)(l c:Nat)(h:args[0]?=some (.slice p l c)):Pu (Builtin.len_ ts t args):=by
 unfold Builtin.len_;cases h1:ts[0]? with
 |none=>exact Pu.stuck _
 |some t0=>
  simp only[h];refine Pu.bind (Pu.underlying _) fun d=>?_
  cases d<;>first|exact Pu.pure _|exact Pu.stuck _|(refine Pu.bind (Pu.underlying _) fun d2=>?_;cases d2<;>first|exact Pu.pure _|exact Pu.stuck _)
theorem ZE (ts:Array TypeId)(t:TypeId)(args:Array Value)(p:Option Addr)(l c:Nat)(h:args[0]?=some (.slice p l c)):Pu (Builtin.cap_ ts t args):=by
 unfold Builtin.cap_;cases h1:ts[0]? with
 |none=>exact Pu.stuck _
 |some t0=>
  simp only[h];refine Pu.bind (Pu.underlying _) fun d=>?_
  cases d<;>first|exact Pu.pure _|exact Pu.stuck _|(refine Pu.bind (Pu.underlying _) fun d2=>?_;cases d2<;>first|exact Pu.pure _|exact Pu.stuck _)
theorem EI {v:Value}{r:List Value}(h:DM (v::r)=true):(∃k n,v= .int k n)/\DM r=true:=by
 cases v<;>simp only[DM,bq]at h;exact ⟨⟨_,_,rfl⟩,h⟩
theorem M4:∀(r:List Value) (k:IntKind) (n:Int),DM r=true->Pu (r.foldlM Builtin.min2 (.int k n))
 |[],_,_,_=>Pu.pure _
 |v::r,k,n,h=>by
  obtain ⟨⟨k',n',rfl⟩,h2⟩:=EI h;simp only[List.foldlM_cons,Builtin.min2,pure_bind];exact M4 r _ _ h2
theorem M5:∀(r:List Value) (k:IntKind) (n:Int),DM r=true->Pu (r.foldlM Builtin.max2 (.int k n))
 |[],_,_,_=>Pu.pure _
 |v::r,k,n,h=>by
  obtain ⟨⟨k',n',rfl⟩,h2⟩:=EI h;simp only[List.foldlM_cons,Builtin.max2,pure_bind];exact M5 r _ _ h2
theorem vK (ts:Array TypeId)(t:TypeId)(args:Array Value)(h:DM args.toList=true):Pu (Builtin.min_ ts t args):=by
 unfold Builtin.min_;generalize args.toList=l at h;cases l with
 |nil=>exact Pu.stuck _
 |cons v r=>
  obtain ⟨⟨k,n,rfl⟩,h2⟩:=EI h;exact M4 r k n h2
theorem vL (ts:Array TypeId)(t:TypeId)(args:Array Value)(h:DM args.toList=true):Pu (Builtin.max_ ts t args):=by
 unfold Builtin.max_;generalize args.toList=l at h;cases l with
 |nil=>exact Pu.stuck _
 |cons v r=>
  obtain ⟨⟨k,n,rfl⟩,h2⟩:=EI h;exact M5 r k n h2
def Qv (P:Program)(s:Sem Next)(w:World)(K:Value->World->Prop):Prop:=∃v,(∀w2,s.run P w2= .ok (.value v) w2)/\K v w
theorem XJ {v:Value}(h:Out P K ((Pure.pure (Next.value v):Sem Next).run P w)):Qv P (Pure.pure (Next.value v)) w K:=⟨v,fun _=>rfl,h⟩
theorem Ii {s:Sem Value}(hs:Pu s)(h:Out P K ((do pure (Next.value (<-s)):Sem Next).run P w)):Qv P (do pure (Next.value (<-s))) w K:=iK hs h
theorem Dw {s:Sem Value}{v:Value}(hs:∀w2,s.run P w2= .ok v w2)(h:K v w):Qv P (do pure (Next.value (<-s))) w K:=
 ⟨v,fun w2=>by simp only[Sem.run_bind,hs w2,Result.andThen_ok,Sem.run_pure],h⟩
theorem Sf {src dst:TypeId}{k k':IntKind}{n:Int}(h:P.underlying dst=some (.int k'))(w:World):
  (convert src dst (.int k n)).run P w=(do let _<-underlying src;pure (Value.int k' (k'.wrap n)):Sem Value).run P w:=by
 unfold convert;simp only[Sem.run_bind];cases (underlying src).run P w with
 |halt=>rfl
 |ok d w'=>
  simp only[Result.andThen_ok,run_underlying h,Conv.intToInt]
theorem Vg {src dst:TypeId}{k k':IntKind}{n:Int}(hu:P.underlying dst=some (.int k'))
  (h:Out P K ((do pure (Next.value (<-convert src dst (.int k n))):Sem Next).run P w)):Qv P (do pure (Next.value (<-convert src dst (.int k n)))) w K:=by
 have e:∀w,(do pure (Next.value (<-convert src dst (.int k n))):Sem Next).run P w=(do pure (Next.value (<-(do let _<-underlying src;pure (Value.int k' (k'.wrap n)):Sem Value))):Sem Next).run P w:=fun w=>by
  simp only[Sem.run_bind,Sf hu]
 rw[e]at h;obtain ⟨v,h1,h2⟩:=iK (Pu.bind (Pu.underlying src) fun _=>Pu.pure _) h;exact ⟨v,fun w2=>by rw[e];exact h1 w2,h2⟩
section
variable {G:Prop}
theorem KM {t e:TypeId}(hu:P.underlying t=some (.pointer e))(p:Option Addr)(w:World):(Op.equal t (.pointer p) (.pointer none)).run P w= .ok p.isNone w:=by
 show (Op.equalIn (9999+1) t (.pointer p) (.pointer none)).run P w=_;generalize 9999=n;simp only[Op.equalIn,Sem.run_bind,run_underlying hu,Result.andThen_ok];cases p<;>rfl
theorem KN {t e:TypeId}(hu:P.underlying t=some (.slice e))(p:Option Addr)(l c l' c':Nat)(w:World):(Op.equal t (.slice p l c) (.slice none l' c')).run P w= .ok p.isNone w:=by
 show (Op.equalIn (9999+1) t (.slice p l c) (.slice none l' c')).run P w=_;generalize 9999=n;simp only[Op.equalIn,Sem.run_bind,run_underlying hu,Result.andThen_ok];cases p<;>rfl
theorem G6 {t:TypeId}{ms:Array (String×TypeId)}(hu:P.underlying t=some (.interface ms))(u:TypeId)(v:Value)(w:World):(Op.equal t (.iface u v) .nilIface).run P w= .ok false w:=by
 show (Op.equalIn (9999+1) t (.iface u v) .nilIface).run P w=_;generalize 9999=n;simp only[Op.equalIn,Sem.run_bind,run_underlying hu,Result.andThen_ok]
 rfl
theorem KO {t:TypeId}{ms:Array (String×TypeId)}(hu:P.underlying t=some (.interface ms))(w:World):(Op.equal t .nilIface .nilIface).run P w= .ok true w:=by
 show (Op.equalIn (9999+1) t .nilIface .nilIface).run P w=_;generalize 9999=n;simp only[Op.equalIn,Sem.run_bind,run_underlying hu,Result.andThen_ok]
 rfl
theorem Ij {t:TypeId}{a b c}(hu:P.underlying t=some (.func a b c))(f:Fn)(x y:Array Value)(w:World):(Op.equal t (.func f x y) .nilFunc).run P w= .ok false w:=by
 show (Op.equalIn (9999+1) t (.func f x y) .nilFunc).run P w=_;generalize 9999=n;simp only[Op.equalIn,Sem.run_bind,run_underlying hu,Result.andThen_ok]
 rfl
theorem Ff {t:TypeId}{a b c}(hu:P.underlying t=some (.func a b c))(w:World):(Op.equal t .nilFunc .nilFunc).run P w= .ok true w:=by
 show (Op.equalIn (9999+1) t .nilFunc .nilFunc).run P w=_;generalize 9999=n;simp only[Op.equalIn,Sem.run_bind,run_underlying hu,Result.andThen_ok]
 rfl
theorem Si {y:Operand}(h:isC y=true):∃v,y= .const v:=by
 cases y<;>first|exact ⟨_,rfl⟩|cases h
theorem KP {t a b:TypeId}(hu:P.underlying t=some (.map a b))(p:Option Nat)(w:World):(Op.equal t (.map p) (.map none)).run P w= .ok p.isNone w:=by
 show (Op.equalIn (9999+1) t (.map p) (.map none)).run P w=_;generalize 9999=n;simp only[Op.equalIn,Sem.run_bind,run_underlying hu,Result.andThen_ok];cases p<;>rfl
theorem Sj {t:TypeId}{d:TypeDesc}(h:P.underlying t=some d)(w:World):(sizeOf t).run P w= .ok (P.cellsOf t) w:=by
 unfold Program.underlying at h;split at h<;>rename_i hi
 ·exact run_sizeOf w hi
 ·exact run_sizeOf w hi
 ·cases h
theorem Fg {t:TypeId}{fs:Array Field}(hu:P.underlying t=some (.struct fs))(cs:Array Value)(off:Nat)(w:World):(part t cs off).run P w= .ok (.agg (cs.extract off (off+P.cellsOf t))) w:=by
 simp only[part,Sem.run_bind,Cm hu,Result.andThen_ok,DL,if_true,Sj hu,Sem.run_pure]
theorem M6:∀(n d:Nat) (xs ys:Array Value) (fs:List Field) (b:Bool),n<=d->OB P n xs ys fs=some b->∀w,(Op.eqFields (d+1) xs ys fs).run P w= .ok b w
 |0,_,_,_,_,_,_,h,w=>by cases h
 |n+1,d,xs,ys,[],b,_,h,w=>by simp only[OB,bw]at h;subst h;rfl
 |n+1,d,xs,ys,f::r,b,Jb,h,w=>by
  have step:∀(x y:Value) (c:Bool) (q:Bool),(∀w,(part f.type xs f.offset).run P w= .ok x w)->(∀w,(part f.type ys f.offset).run P w= .ok y w)->f.name≠ "_"->
    (∀w,(Op.equalIn (d+1) f.type x y).run P w= .ok c w)->OB P n xs ys r=some q->(Op.eqFields (d+1) xs ys (f::r)).run P w= .ok (c&&q) w:=by
   intro x y c q hx hy hn he hq;have ih:=M6 n d xs ys r q (by omega) hq w;simp only[Op.eqFields,aD hn,Sem.run_bind,hx,hy,he,Result.andThen_ok];cases c
   ·simp
   ·simpa using ih
  have hp:DL (P.underlying f.type)=false->(∃d,P.underlying f.type=some d)->∀(cs:Array Value) (v:Value),cs[f.offset]?=some v->∀w,(part f.type cs f.offset).run P w= .ok v w:=fun ha hd cs v hv w=>by
   obtain ⟨d,hd⟩:=hd;rw[hd]at ha;simp only[part,Sem.run_bind,Cm hd,ha,Result.andThen_ok,bq,if_false,hv,Sem.run_pure]
  simp only[OB]at h;split at h
  ·cases h
  ·rename_i hn;split at h
   ·rename_i fs' hu;split at h
    ·rename_i Qn;obtain ⟨p,pq,h2⟩:=bW.1 h;obtain ⟨q,hq,rfl⟩:=aX.1 h2;refine step _ _ p q (Fg hu xs _) (Fg hu ys _) hn (fun w=>?_) hq;have hf:P.fieldsOf f.type=fs':=by simp only[Program.fieldsOf,hu]
     rw[run_equalIn_struct w d f.type _ _ (by rw[hf];exact hu) Qn,hf];cases n with
     |zero=>cases pq
     |succ n=>
      obtain ⟨d',rfl⟩:∃d',d=d'+1:=⟨d-1,by omega⟩
      exact M6 (n+1) d' _ _ _ _ (by omega) pq w
    ·cases h
   ·rename_i dd hns hu;split at h
    ·rename_i k0 k a k' b' hx hy;split at h
     ·rename_i e;subst e;obtain ⟨q,hq,rfl⟩:=aX.1 h;exact step _ _ _ q (hp (by rw[hu];rfl) ⟨_,hu⟩ _ _ hx) (hp (by rw[hu];rfl) ⟨_,hu⟩ _ _ hy) hn (fun w=>run_equalIn_int w _ _ _ _ _ _ hu) hq
     ·cases h
    ·rename_i a b' hx hy;obtain ⟨q,hq,rfl⟩:=aX.1 h;exact step _ _ _ q (hp (by rw[hu];rfl) ⟨_,hu⟩ _ _ hx) (hp (by rw[hu];rfl) ⟨_,hu⟩ _ _ hy) hn (fun w=>run_equalIn_bool' w _ _ _ _ hu) hq
    ·rename_i a b' hx hy;obtain ⟨q,hq,rfl⟩:=aX.1 h;exact step _ _ _ q (hp (by rw[hu];rfl) ⟨_,hu⟩ _ _ hx) (hp (by rw[hu];rfl) ⟨_,hu⟩ _ _ hy) hn (fun w=>run_equalIn_string w _ _ _ _ hu) hq
    ·cases h
   ·cases h
theorem Ow {t:TypeId}{xs ys:Array Value}{b:Bool}(h:XD P t xs ys=some b):P.eqGuardType P.depth t=false/\∀w,(Op.equalIn 10000 t (.agg xs) (.agg ys)).run P w= .ok b w:=by
 unfold XD at h;split at h
 ·rename_i fs hu;split at h
  ·rename_i h1 h2;refine ⟨h2,fun w=>?_⟩;have hf:P.fieldsOf t=fs:=by simp only[Program.fieldsOf,hu]
   show (Op.equalIn (9999+1) t (.agg xs) (.agg ys)).run P w=_;rw[run_equalIn_struct w 9999 t xs ys (by rw[hf];exact hu) h1,hf];exact M6 60 9998 _ _ _ _ (by decide) h w
  ·cases h
 ·cases h
theorem Ot {op:BinOp}{t:TypeId}{x y:Operand}{a b:Value}{D O:Prop}(h:vB P op t (isC y) a b (fun v=>K v w) D O)(hD:D->G)(hO:O->G)
  (hq:Qv P (do pure (Next.value (<-(do eqGuard op t x y a b;binOp op t a b)))) w K->G):G:=by
 have qv:∀v,(∀w2,(do eqGuard op t x y a b;binOp op t a b:Sem Value).run P w2= .ok v w2)->K v w->G:=fun v h1 h2=>hq (Dw h1 h2)
 unfold vB at h;split at h
 ·split at h
  ·split at h
   ·rename_i e;subst e;exact qv _ (fun w2=>by simp[eqGuard,binOp,Op.intDiv,h.1]) h.2
   ·exact h.elim
  ·exact hD h
 ·split at h
  ·split at h
   ·rename_i e;subst e;exact qv _ (fun w2=>by simp[eqGuard,binOp,Op.intDiv,h.1]) h.2
   ·exact h.elim
  ·exact hD h
 ·split at h
  ·refine qv _ (fun w2=>?_) h.2;have:=h.1;simp[eqGuard,binOp,Op.shift,Int.not_lt.2 this]
  ·exact hD h
 ·split at h
  ·refine qv _ (fun w2=>?_) h.2;have:=h.1;simp[eqGuard,binOp,Op.shift,Int.not_lt.2 this]
  ·exact hD h
 ·split at h
  ·refine qv _ (fun w2=>?_) h.2;have:=h.1;have h2:¬(((_:ByteArray).size+(_:ByteArray).size:Nat):Int)>IntKind.i64.max:=Int.not_lt.2 this;simp only[eqGuard,binOp,Op.stringOp,Sem.run_bind];show (Sem.run P (if _ then _ else _) w2)=_;rw[az h2]
   rfl
  ·exact hD h
 ·split at h
  ·exact hD h
  ·exact hD h
  ·exact hD h
  ·split at h
   ·rename_i hu;exact qv _ (fun w2=>by simp only[eqGuard,binOp,Sem.run_bind,Sem.run_pure];simp[KM hu]) h
   ·exact hO h
  ·split at h
   ·rename_i hu;exact qv _ (fun w2=>by simp only[eqGuard,binOp,Sem.run_bind,Sem.run_pure];simp[KN hu]) h
   ·exact hO h
  ·split at h
   ·rename_i hu;exact qv _ (fun w2=>by simp only[eqGuard,binOp,Sem.run_bind,Sem.run_pure];simp[KP hu]) h
   ·exact hO h
  ·split at h
   ·rename_i hc hu;exact qv _ (fun w2=>by simp only[eqGuard,binOp,Sem.run_bind,Sem.run_pure];simp[G6 hu]) h
   ·exact hO h
  ·split at h
   ·rename_i hc hu;obtain ⟨c,rfl⟩:=Si hc;exact qv _ (fun w2=>by simp only[eqGuard,binOp,Sem.run_bind,Sem.run_pure];simp[KO hu]) h
   ·exact hO h
  ·split at h
   ·rename_i hc hu;exact qv _ (fun w2=>by simp only[eqGuard,binOp,Sem.run_bind,Sem.run_pure];simp[Ij hu]) h
   ·exact hO h
  ·split at h
   ·rename_i hc hu;exact qv _ (fun w2=>by simp only[eqGuard,binOp,Sem.run_bind,Sem.run_pure];simp[Ff hu]) h
   ·exact hO h
  ·split at h
   ·rename_i b hb;obtain ⟨h1,h2⟩:=Ow hb;exact qv _ (fun w2=>by simp only[Sem.run_bind,run_eqGuard_agg w2 _ _ _ _ _ _ h1,Result.andThen_ok,run_eql_struct,h2]) h
   ·exact hO h
  ·exact hO h
 ·split at h
  ·exact hD h
  ·exact hD h
  ·exact hD h
  ·split at h
   ·rename_i hu;exact qv _ (fun w2=>by simp only[eqGuard,binOp,Sem.run_bind,Sem.run_pure];simp[KM hu]) h
   ·exact hO h
  ·split at h
   ·rename_i hu;exact qv _ (fun w2=>by simp only[eqGuard,binOp,Sem.run_bind,Sem.run_pure];simp[KN hu]) h
   ·exact hO h
  ·split at h
   ·rename_i hu;exact qv _ (fun w2=>by simp only[eqGuard,binOp,Sem.run_bind,Sem.run_pure];simp[KP hu]) h
   ·exact hO h
  ·split at h
   ·rename_i hc hu;exact qv _ (fun w2=>by simp only[eqGuard,binOp,Sem.run_bind,Sem.run_pure];simp[G6 hu]) h
   ·exact hO h
  ·split at h
   ·rename_i hc hu;obtain ⟨c,rfl⟩:=Si hc;exact qv _ (fun w2=>by simp only[eqGuard,binOp,Sem.run_bind,Sem.run_pure];simp[KO hu]) h
   ·exact hO h
  ·split at h
   ·rename_i hc hu;exact qv _ (fun w2=>by simp only[eqGuard,binOp,Sem.run_bind,Sem.run_pure];simp[Ij hu]) h
   ·exact hO h
  ·split at h
   ·rename_i hc hu;exact qv _ (fun w2=>by simp only[eqGuard,binOp,Sem.run_bind,Sem.run_pure];simp[Ff hu]) h
   ·exact hO h
  ·split at h
   ·rename_i b hb;obtain ⟨h1,h2⟩:=Ow hb;exact qv _ (fun w2=>by simp only[Sem.run_bind,run_eqGuard_agg w2 _ _ _ _ _ _ h1,Result.andThen_ok,run_neq_struct,h2]) h
   ·exact hO h
  ·exact hO h
 ·exact hD h
theorem Sa {t:TypeId}{x:Value}{f:Nat}{D:Prop}(h:fdV P t x f (fun v=>K v w) D)(hD:D->G)
  (hq:Qv P (do pure (Next.value (<-Instr.fieldAt t x f))) w K->G):G:=by
 unfold fdV at h;split at h
 ·split at h
  ·rename_i fs hu;split at h
   ·rename_i fd hf;split at h
    ·rename_i n hn;split at h
     ·rename_i hb;have Bg:n≠0:=fun e=>by subst e;simp at hb
      refine hq (Dw (fun w2=>?_) h);simp only[Instr.fieldAt,Sem.run_bind,run_underlying hu,Result.andThen_ok,hf,Instr.sureAddr,Sem.run_pure,fieldPlace,An hn,az Bg]
     ·exact hD h
    ·exact hD h
   ·exact hD h
  ·exact hD h
 ·exact hD h
theorem Ov {t:TypeId}{c:Bool}{x y:Value}{D:Prop}(h:vC P t c x y (fun v=>K v w) D)(hD:D->G)
  (hq:Qv P (do pure (Next.value (<-Instr.index t x y))) w K->G):G:=by
 unfold vC at h;split at h
 ·rename_i s k i;split at h
  ·rename_i hu;obtain ⟨h1,h2,hk⟩:=h;refine hq (Dw (fun w2=>?_) hk);have Av:i.toNat<s.size:=by omega
   have ZJ:i.toNat<s.data.size:=Av;have hg:s[i.toNat]?=some (s.data.getD i.toNat 0):=by
    rw[getElem?_pos s i.toNat Av];simp only[Array.getD,ZJ,dif_pos]
    rfl
   simp only[Instr.index,asIntOf,Sem.run_bind,Sem.run_pure,Result.andThen_ok,run_underlying hu,aD h1,hg,Bf]
  ·exact hD h
 ·rename_i cs k i;split at h
  ·rename_i len e hu;split at h
   ·rename_i d n hd hn;split at h
    ·rename_i hag;obtain ⟨h1,h2,v,hv,hk⟩:=h;refine hq (Dw (fun w2=>?_) hk);simp only[Instr.index,asIntOf,Sem.run_bind,Sem.run_pure,Result.andThen_ok,run_underlying hu,aD (And.intro h1 h2),An hn,part,Cm hd,hag,bq,if_false,hv]
    ·rename_i hag;split at h
     ·obtain ⟨h1,h2,v,hv,hk⟩:=h;refine hq (Dw (fun w2=>?_) hk);simp only[Instr.index,asIntOf,Sem.run_bind,Sem.run_pure,Result.andThen_ok,run_underlying hu,aD (And.intro h1 h2),An hn,part,Cm hd,hag,if_true,hv]
     ·exact hD h
   ·exact hD h
  ·exact hD h
 ·exact hD h
theorem Ou {t:TypeId}{c:Bool}{x y:Value}{D:Prop}(h:vD P t c x y (fun v=>K v w) D)(hD:D->G)
  (hq:Qv P (do pure (Next.value (<-Instr.indexAt t x y))) w K->G):G:=by
 unfold vD at h;split at h
 ·rename_i p len cap k i;split at h
  ·rename_i e hu;split at h
   ·rename_i n hn;obtain ⟨h1,h2,a,rfl,hk⟩:=h;refine hq (Dw (fun w2=>?_) hk);simp only[Instr.indexAt,asIntOf,Sem.run_bind,Sem.run_pure,Result.andThen_ok,run_underlying hu,aD (And.intro h1 h2),An hn]
   ·exact hD h
  ·exact hD h
 ·rename_i a k i;split at h
  ·rename_i len e hu;split at h
   ·rename_i n hn;obtain ⟨h1,h2,hk⟩:=h;refine hq (Dw (fun w2=>?_) hk);simp only[Instr.indexAt,Instr.sureAddr,asIntOf,Sem.run_bind,Sem.run_pure,Result.andThen_ok,run_underlying hu,aD (And.intro h1 h2),An hn]
   ·exact hD h
  ·exact hD h
 ·exact hD h
theorem BT {top:Nat}{x:Option Value}{other:Nat}{K':Nat->Prop}{D:Prop}(h:DC top x other K' D)(hD:D->G)
  (hn:x=none->K' other->G) (hs:∀k i,x=some (.int k i)->0<=i->i<=top->K' i.toNat->G):G:=by
 unfold DC at h;split at h
 ·exact hn rfl h
 ·exact hs _ _ rfl h.1 h.2.1 h.2.2
 ·exact hD h
theorem Aj {k:IntKind}{i:Int}{y:Nat}{c:BoundsCode}{w:World}(h1:0<=i)(h2:i<=y):(Instr.sliceBound (.int k i) y c).run P w= .ok i.toNat w:=by
 simp only[Instr.sliceBound,asIntOf,Sem.run_bind,Sem.run_pure,Result.andThen_ok,aD (And.intro h1 h2)]
theorem SZ {t:TypeId}{x:Value}{lo hi mx:Option Value}{D:Prop}(h:slV P t x lo hi mx (fun v=>K v w) D)(hD:D->G)
  (hq:Qv P (do pure (Next.value (<-Instr.sliceAt t x lo hi mx))) w K->G):G:=by
 unfold slV at h;split at h
 ·rename_i s;split at h
  ·rename_i hu;refine BT h hD (fun e1 ha=>BT ha hD (fun e2 hb=>?_) fun k i e2 g1 g2 hb=>?_) fun k' i' e1 g3 g4 ha=>BT ha hD (fun e2 hb=>?_) fun k i e2 g1 g2 hb=>?_
   all_goals
    subst e1 e2;refine hq (Dw (fun w2=>?_) hb);simp only[Instr.sliceAt,Instr.slice,Instr.sliceBounds,Sem.run_bind,run_underlying hu,Result.andThen_ok,Option.isSome_none,bq,if_false,Sem.run_pure]
    first|done|rw[Aj g3 g4,Result.andThen_ok,Aj g1 g2];rfl|rw[Aj g3 g4];rfl|rw[Aj g1 g2];rfl
  ·exact hD h
 ·rename_i p len cap;split at h
  ·rename_i e hu;split at h
   ·rename_i n hn;split at h
    ·exact hD h
    ·rename_i mx hi Tv;refine BT h hD (fun e0 hz=>?_) fun k0 i0 e0 g5 g6 hz=>?_
     ·refine BT hz hD (fun e1 ha=>BT ha hD (fun e2 hb=>?_) fun k i e2 g1 g2 hb=>?_) fun k' i' e1 g3 g4 ha=>BT ha hD (fun e2 hb=>?_) fun k i e2 g1 g2 hb=>?_
      all_goals
       subst e0 e1 e2;refine hq (Dw (fun w2=>?_) hb);simp only[Instr.sliceAt,Instr.slice,Instr.sliceBounds,Sem.run_bind,run_underlying hu,Result.andThen_ok,Option.isSome_none,bq,if_false,Sem.run_pure]
       first|(rw[An hn];rfl)|(rw[Aj g3 g4,Result.andThen_ok,Aj g1 g2,Result.andThen_ok,Result.andThen_ok,An hn];rfl)|(rw[Aj g3 g4,Result.andThen_ok,Result.andThen_ok,An hn];rfl)|(rw[Aj g1 g2,Result.andThen_ok,Result.andThen_ok,An hn];rfl)
     ·refine BT hz hD (fun e1 _=>?_) fun k' i' e1 g3 g4 ha=>BT ha hD (fun e2 hb=>?_) fun k i e2 g1 g2 hb=>?_
      ·subst e0 e1;exact (Tv _ rfl rfl).elim
      all_goals
       subst e0 e1 e2;refine hq (Dw (fun w2=>?_) hb);simp only[Instr.sliceAt,Instr.slice,Instr.sliceBounds,Sem.run_bind,run_underlying hu,Result.andThen_ok,Option.isSome_some,if_true,Sem.run_pure]
       first|(rw[Aj g5 g6,Result.andThen_ok,Aj g3 g4,Result.andThen_ok,Aj g1 g2,Result.andThen_ok,Result.andThen_ok,An hn];rfl)|(rw[Aj g5 g6,Result.andThen_ok,Aj g3 g4,Result.andThen_ok,Result.andThen_ok,An hn];rfl)
   ·exact hD h
  ·exact hD h
 ·rename_i a;split at h
  ·rename_i c e hu;split at h
   ·rename_i n hn;refine BT h hD (fun e1 ha=>BT ha hD (fun e2 hb=>?_) fun k i e2 g1 g2 hb=>?_) fun k' i' e1 g3 g4 ha=>BT ha hD (fun e2 hb=>?_) fun k i e2 g1 g2 hb=>?_
    all_goals
     subst e1 e2;refine hq (Dw (fun w2=>?_) hb);simp only[Instr.sliceAt,Instr.sureAddr,Instr.sliceBounds,Sem.run_bind,run_underlying hu,Result.andThen_ok,Option.isSome_none,bq,if_false,Sem.run_pure,AA.v,AA.cut,Option.map_some]
     first|(rw[An hn];simp only[Result.andThen_ok];split<;>rfl)|(rw[Aj g3 g4,Result.andThen_ok,Aj g1 g2,Result.andThen_ok,Result.andThen_ok,An hn];simp only[Result.andThen_ok];split<;>rfl)|(rw[Aj g3 g4,Result.andThen_ok,Result.andThen_ok,An hn];simp only[Result.andThen_ok];split<;>rfl)|(rw[Aj g1 g2,Result.andThen_ok,Result.andThen_ok,An hn];simp only[Result.andThen_ok];split<;>rfl)
   ·exact hD h
  ·exact hD h
 ·exact hD h
end
end
end Sh
namespace Sh
section
variable {P:Program} {F:Fx} {E:Env} {w:World} {K:Value->World->Prop}
def Ac (P:Program)(F:Nat->Bool):Prop:=∀g fn,F g=true->P.funcs[g]?=some fn->fn.body.isSome=true/\fn.name≠ "runtime.NumGoroutine"
theorem Hc {tys:List Ty}:∀{K':List Value->Prop},Bw.SV tys K'->∃l,K' l:=by
 induction tys with
 |nil=>intro K' h;exact ⟨[],h⟩
 |cons t ts ih=>intro K' h;obtain ⟨x,hx⟩:=h;obtain ⟨l,hl⟩:=ih hx;exact ⟨_,hl⟩
theorem Out.Ea{pk:Value->World->Prop}{r:Result Next}(h:Out P K r):Ms P pk K r:=by
 cases r with
 |halt x w=>exact h.elim
 |ok n w=>
  cases n<;>try exact h.elim
  case value v=>exact h
  case skip=>exact h
  case enter f args=>exact Calls.mono h fun e w' he=> .inl he
theorem ZB (hF:Ac P F.ok){g:Nat}{args:Array Value}(h:Bw P F g args w K):Ms P F.pk K ((callFunc g args).run P w):=by
 unfold Bw at h;split at h
 ·split at h
  ·exact h.elim
  ·obtain ⟨l,w',h1,h2⟩:=Hc h;unfold ABh at h1;rw[h1];exact h2
 ·rename_i hg;split at h
  ·exact h.elim
  ·rename_i fn Ze;obtain ⟨hb,hn⟩:=hF g fn hg Ze;have vI:fn.body.isNone=false:=by cases hx:fn.body<;>simp_all
   have hn':(fn.name== "runtime.NumGoroutine")=false:=by simpa using hn
   simp only[callFunc,Sem.run_bind,run_program,Result.andThen_ok,Ze,hn',vI,bq,if_false,Sem.run_pure,Ms];split at h
   ·refine h.mono fun e w' he=>?_
    obtain ⟨l,h1,h2⟩:=Hc he;exact .inl ⟨_,h1,h2⟩
   ·refine h.mono fun e w' he=>?_
    rcases he with he|he
    ·obtain ⟨l,h1,h2⟩:=Hc he;exact .inl ⟨_,h1,h2⟩
    ·exact .inr he
theorem mh {c a b:Value}(h:Out P K ((do pure (Next.value (if<-asBool c then a else b)):Sem Next).run P w)):Qv P (do pure (Next.value (if<-asBool c then a else b))) w K:=by
 cases c with
 |bool t=>exact ⟨_,fun _=>rfl,h⟩
 |_=>exact h.elim
theorem Ih {c:Call}{b:Builtin}{t:TypeId}{s:Sem Value}(hc:c.callee= .builtin b)
  (hb:∀consts,builtin b c.argTypes t consts (c.args.map E.Ai)=(do pure (Next.value (<-s)))) (hs:Pu s)
  (h:Out P K ((do let d<-resolve E.Ai c t;invoke d.target d.args:Sem Next).run P w)):Qv P (do let d<-resolve E.Ai c t;invoke d.target d.args) w K:=by
 have e:(do let d<-resolve E.Ai c t;invoke d.target d.args:Sem Next)=(do pure (Next.value (<-s))):=by
  simp only[resolve,hc,pure_bind,invoke,hb]
 rw[e]at h⊢;exact Ii hs h
theorem vJ {xs:Array Operand}{v:Value}(h:xs[0]?.map E.Ai=some v):(xs.map E.Ai)[0]?=some v:=by simpa using h
theorem ABm {c:Call}{t:TypeId}{D:Prop}(hD:D->Qv P (do let d<-resolve E.Ai c t;invoke d.target d.args) w K)
  (h:match c.callee with
   | .builtin .len=>(match c.args[0]?.map E.Ai with
    |some (.string _)=>Out P K ((do let d<-resolve E.Ai c t;invoke d.target d.args:Sem Next).run P w)
    |some (.slice _ _ _)=>Out P K ((do let d<-resolve E.Ai c t;invoke d.target d.args:Sem Next).run P w)
    |_=>D)
   | .builtin .cap=>(match c.args[0]?.map E.Ai with
    |some (.slice _ _ _)=>Out P K ((do let d<-resolve E.Ai c t;invoke d.target d.args:Sem Next).run P w)
    |_=>D)
   | .builtin .min=>(match DM (c.args.map E.Ai).toList with
    |true=>Out P K ((do let d<-resolve E.Ai c t;invoke d.target d.args:Sem Next).run P w)
    |false=>D)
   | .builtin .max=>(match DM (c.args.map E.Ai).toList with
    |true=>Out P K ((do let d<-resolve E.Ai c t;invoke d.target d.args:Sem Next).run P w)
    |false=>D)
   |_=>D):Qv P (do let d<-resolve E.Ai c t;invoke d.target d.args) w K:=by
 split at h
 ·rename_i hc;split at h
  ·rename_i ha;exact Ih hc (fun _=>rfl) (ZC _ _ _ _ (vJ ha)) h
  ·rename_i ha;exact Ih hc (fun _=>rfl) (ZD _ _ _ _ _ _ (vJ ha)) h
  ·exact hD h
 ·rename_i hc;split at h
  ·rename_i ha;exact Ih hc (fun _=>rfl) (ZE _ _ _ _ _ _ (vJ ha)) h
  ·exact hD h
 ·rename_i hc;split at h
  ·rename_i ha;exact Ih hc (fun _=>rfl) (vK _ _ _ ha) h
  ·exact hD h
 ·rename_i hc;split at h
  ·rename_i ha;exact Ih hc (fun _=>rfl) (vL _ _ _ ha) h
  ·exact hD h
 ·exact hD h
theorem mi {v:Value}{w':World}(h:K v w'):Out P K (.ok (.value v) w'):=h
attribute [local irreducible] Out
theorem iB {o:Oper}(hs:FU P o.op=true)(hl:∀t x,o.op≠ .load t x)(h:UA P F true E o w K):Qv P (execOp E.Ai o) w K:=by
 obtain ⟨dst,op,type,pos,after,guard⟩:=o;simp only[UA]at h;simp only at hs hl;cases op<;>simp only[FU,bq]at hs<;>simp only at h
 case move x=>exact XJ h
 case assign x=>exact XJ h
 case pick c a b=>exact mh h
 case load t x=>exact (hl t x rfl).elim
 case nilCheck x=>
  split at h
  ·rename_i p hx;obtain ⟨a,rfl,hk⟩:=h;exact ⟨_,fun _=>by simp only[execOp,hx];rfl,hk⟩
  ·exact h.elim
 case binOp op t x y yt=>
  refine Ot h (fun hd=>?_) (fun ho=>ho.elim) id;split at hd
  ·rename_i hk;exact Ii (vM hk) hd
  ·exact hd.elim
 case unOp op t x=>exact Ii (iC _ _) h
 case convert src dst x=>
  split at h
  ·rename_i k n hx;split at h
   ·rename_i k' hu;simp only[execOp,hx]at h⊢;exact Vg hu h
   ·exact h.elim
  ·exact h.elim
 case slice t x lo hi mx=>exact SZ h (fun hd=>Ii (Vh _ _ _ _ _) hd) id
 case fieldAddr t x f=>exact Sa h (fun hd=>hd.elim) id
 case field t x f=>exact Ii (iD _ _ _) h
 case build t ps=>exact Ii (iE _ _) h
 case indexAddr t x i=>exact Ou h (fun hd=>Ii (Vi _ _ _) hd) id
 case index t x i=>exact Ov h (fun hd=>Ii (iF _ _ _) hd) id
 case extract t i=>exact Ii (Vj _ _) h
 case call c=>
  refine ABm (D:=False) (fun h=>h.elim) ?_;split at h<;>first
   |exact h.elim
   |(rename_i hc;simp only[hc];exact h)
   |(split at h<;>exact h.elim)
   |(rename_i hc;simp only[hc];split at h<;>first|exact h.elim|(rename_i ha;simp only[ha];exact h))
theorem Mz {s:Sem Next}(h:Qv P s w K):Out P K (s.run P w):=ZF h
theorem DD {c:Call}{b:Builtin}{t:TypeId}{s:Sem Value}(hc:c.callee= .builtin b)
  (hb:∀consts,builtin b c.argTypes t consts (c.args.map E.Ai)=(do pure (Next.value (<-s))))
  (h:Out P K ((do pure (Next.value (<-s)):Sem Next).run P w)):Out P K ((do let d<-resolve E.Ai c t;invoke d.target d.args:Sem Next).run P w):=by
 have e:(do let d<-resolve E.Ai c t;invoke d.target d.args:Sem Next)=(do pure (Next.value (<-s))):=by
  simp only[resolve,hc,pure_bind,invoke,hb]
 rw[e];exact h
theorem Vk {u:TypeId}{x v:Value}(h:gw P u x=some v):∃t,x= .iface t v/\∃d,P.underlying u=some d/\Mu d=false/\t=u:=by
 unfold gw at h;split at h
 ·rename_i t y;split at h
  ·rename_i d hd;split at h
   ·rename_i h1 h2;cases h;exact ⟨t,rfl,d,hd,h1,b8 h2⟩
   ·cases h
  ·cases h
 ·cases h
theorem vN {a:Addr}{ty:TypeId}(h:Nx w a (fun i c w'=>K (.tuple #[.bool true,.int .i64 i,.int .i32 c]) w') (K (.tuple #[.bool false]) w)):∃v w',(Instr.next (.pointer (some a)) true ty).run P w= .ok v w'/\K v w':=by
 obtain ⟨s,pos,ho,hb,hc⟩:=h;obtain ⟨b,o,sp⟩:=a;simp only at ho hb hc;subst ho;by_cases hp:pos<s.size
 ·rw[aI hp]at hc;refine ⟨_,_,?_,hc⟩;simp[Instr.next,getObj,setObj,Sem.run,hb,hp,goInt,U1]
 ·rw[aH hp]at hc;refine ⟨_,_,?_,hc⟩;simp[Instr.next,getObj,Sem.run,hb,hp]
theorem CO (hF:Ac P F.ok){o:Oper}(h:UA P F false E o w K):Ms P F.pk K ((execOp E.Ai o).run P w):=by
 obtain ⟨dst,op,type,pos,after,guard⟩:=o;simp only[UA]at h;cases op<;>simp only at h<;>try exact Out.Ea h
 case load t x=>
  obtain ⟨v,h1,h2⟩:=Qb h;exact Out.Ea (BK h1 h2)
 case store t x y=>
  obtain ⟨w',h1,h2⟩:=mj h;exact Out.Ea (Sb h1 h2)
 case nilCheck x=>
  split at h
  ·rename_i p hx;obtain ⟨a,rfl,hk⟩:=h;simp only[execOp,hx];exact Out.Ea (mi hk)
  ·exact Out.Ea h
 case binOp op t x y yt=>
  refine Out.Ea (Ot h (fun hd=>?_) (fun ho=>Bx ho) (fun h=>Mz h));split at hd<;>exact hd
 case convert src dst x=>
  split at h
  ·split at h<;>exact Out.Ea h
  ·exact Out.Ea (Bx h)
 case makeSlice t l c=>exact Out.Ea (Bx h)
 case slice t x lo hi mx=>exact Out.Ea (SZ h id (fun h=>Mz h))
 case fieldAddr t x f=>exact Out.Ea (Sa h id (fun h=>Mz h))
 case indexAddr t x i=>exact Out.Ea (Ou h id (fun h=>Mz h))
 case index t x i=>exact Out.Ea (Ov h id (fun h=>Mz h))
 case lookup t x i ok=>
  split at h
  ·exact Out.Ea (Bx h)
  ·split at h
   ·obtain ⟨x,b,w',hr,hk⟩:=h;exact Out.Ea (BK hr hk)
   ·exact Out.Ea h
 case panic x=>
  unfold gv at h;split at h
  ·rename_i t y hx;simp only[execOp,hx];exact h
  ·exact h.elim
 case range t x=>
  split at h
  ·rename_i s hq hx hu;refine Out.Ea (BK (w':=w.alloc (.stringIter s 0)) ?_ h);rw[hx];simp[Instr.range,run_underlying hu]
  ·rename_i m _ _ hq hx hu;obtain ⟨a,w',hr,hk⟩:=h;refine Out.Ea (BK (w':=w') ?_ hk);rw[hx];exact hr
  ·exact Out.Ea h
 case next it str=>
  split at h
  ·rename_i a hq hx;obtain ⟨v,w',h1,h2⟩:=vN (P:=P) (ty:=type) h;refine Out.Ea (BK (w':=w') ?_ h2);rw[hx];exact h1
  ·rename_i a hq hx;rcases h with ⟨w',hr,hk⟩|⟨x,y,w',hr,hk⟩
   ·refine Out.Ea (BK (w':=w') ?_ hk);rw[hx];exact hr
   ·refine Out.Ea (BK (w':=w') ?_ hk);rw[hx];exact hr
  ·exact Out.Ea h
 case mapUpdate t m k x=>exact Out.Ea (iG h)
 case typeAssert x t u ok=>
  split at h
  ·exact Out.Ea (Bx h)
  ·split at h
   ·rename_i v hv;refine Out.Ea (BK (w':=w) ?_ h);obtain ⟨y,hx,d,hu,hi,hy⟩:=Vk hv;rw[hx];simp only[Instr.typeAssert,Sem.run_bind,run_underlying hu,Result.andThen_ok];subst hy;clear h hv hF;cases d<;>simp_all [Mu]
   ·obtain ⟨x,b,w',hr,hk⟩:=h;exact Out.Ea (BK hr hk)
 case call c=>
  split at h
  ·rename_i f hc;split at h
   ·rename_i g first captured _ hf
    have e:(do let d<-resolve E.Ai c type;invoke d.target d.args:Sem Next)=callFunc g ((first++(c.args.map E.Ai))++captured):=by
     simp only[resolve,hc,hf,Deferred.ofValue,pure_bind,invoke]
    show Ms P F.pk K ((do let d<-resolve E.Ai c type;invoke d.target d.args:Sem Next).run P w);rw[e];exact ZB hF h
   ·exact Out.Ea h
  ·rename_i hc;exact Out.Ea (DD hc (fun _=>rfl) (Bx h))
  ·rename_i hc;exact Out.Ea (DD hc (fun _=>rfl) (Bx h))
  ·rename_i hc;exact Out.Ea (DD hc (fun _=>rfl) (Bx h))
  ·rename_i hc;exact Out.Ea (DD hc (fun _=>rfl) (Bx h))
  ·rename_i hc;split at h
   ·exact Out.Ea h
   ·exact Out.Ea h
   ·exact Out.Ea (DD hc (fun _=>rfl) (Bx h))
   ·exact Out.Ea h
  ·split at h<;>exact Out.Ea h
  ·split at h<;>exact Out.Ea h
  ·split at h<;>exact Out.Ea h
  ·exact Out.Ea h
end
end Sh
namespace Sh
section
variable {P:Program} {F:Fx} {N:Nat}
theorem Dv {o:Oper}{a:Act}{next:Act->World->Prop}{Q:Exit->Act->World->Prop}{pk:Value->World->Prop}{K:Value->World->Prop}{r:Result Next}(h:Ms P pk K r)
  (hk:∀v w',K v w'->next (a.put o.dst v) w') (hp:∀v w',pk v w'->Q (.panic (AW v)) a w'):o.upon P a next Q r:=by
 cases r with
 |halt x w=>
  cases x<;>try exact h.elim
  case panic v=>exact hp _ _ h
 |ok n w=>
  cases n<;>try exact h.elim
  case value v=>exact hk _ _ h
  case skip=>exact hk _ _ h
  case enter f args=>
   refine Calls.mono h fun e w' he=>?_
   rcases he with ⟨v,rfl,hv⟩|⟨v,rfl,hv⟩
   ·exact hk _ _ hv
   ·exact hp _ _ hv
theorem fits_bool {E:Env}{a:Act}(h:Fits N E a){s:Nat}{b:Bool}(hs:E.get? s=some (.bool b)):a.tmps[s]?=some (.bool b)/\s<N:=by
 obtain ⟨Av,hg⟩:=h.get s _ hs;have:s<a.tmps.size:=by rw[h.size];exact Av
 refine ⟨?_,Av⟩;rw[bQ this];simpa[Array.getD,this]using hg
theorem BS {ops:Array Oper}{E:Env}{o:Oper}{yes no:Env->Prop}{a:Act}(h:mf ops E o yes no)(hf:Fits N E a):
  (Region.wanted o (yielded ops a.tmps)=true/\∃E',Fits N E' a/\yes E')\/(Region.wanted o (yielded ops a.tmps)=false/\∃E',Fits N E' a/\no E'):=by
 unfold mf at h;split at h
 ·rename_i hg;exact .inl ⟨by simp[Region.wanted,hg],E,hf,h⟩
 ·rename_i j want hg;split at h
  ·rename_i s hs;split at h
   ·rename_i b hb;obtain ⟨h1,h2⟩:=fits_bool hf hb;have hy:yielded ops a.tmps j=some b:=by simp[yielded,hs,h1]
    have hv:a.tmps.getD s undef= .bool b:=(hf.get s _ hb).2;split at h<;>rcases Ik h with ⟨rfl,h⟩|⟨rfl,h⟩
    ·exact .inl ⟨by simp[Region.wanted,hg,hy],_,hf.cons h2 hv,h⟩
    ·exact .inr ⟨by simp[Region.wanted,hg,hy],_,hf.cons h2 hv,h⟩
    ·exact .inr ⟨by simp[Region.wanted,hg,hy],_,hf.cons h2 hv,h⟩
    ·exact .inl ⟨by simp[Region.wanted,hg,hy],_,hf.cons h2 hv,h⟩
   ·rename_i vs hb;obtain ⟨Av,hv⟩:=hf.get s _ hb;have ZJ:s<a.tmps.size:=by rw[hf.size];exact Av
    have h1:a.tmps[s]?=some (.tuple vs):=by
     rw[bQ ZJ];simpa[Array.getD,ZJ]using hv
    have hy:yielded ops a.tmps j=none:=by simp[yielded,hs,h1]
    exact .inr ⟨by simp[Region.wanted,hg,hy],E,hf,h⟩
   ·exact h.elim
  ·exact h.elim
def CC (N:Nat)(l:List Oper):Prop:=∀o∈l,∀d,o.dst=some d->d<N
def frame (l:List Oper)(a a':Act):Prop:=(∀t,(∀o∈l,o.dst≠some t)->a'.tmps.getD t undef=a.tmps.getD t undef)/\a'.defers=a.defers
theorem frame.refl(l:List Oper)(a:Act):frame l a a:=⟨fun _ _=>rfl,rfl⟩
theorem frame.put{l:List Oper}{a0 a:Act}{o:Oper}{v:Value}(h:frame l a0 a)(ho:o∈l):frame l a0 (a.put o.dst v):=
 ⟨fun t ht=>by rw[E0 (ht o ho)];exact h.1 t ht,by rw[put_defers];exact h.2⟩
theorem frame.Sk{l:List Oper}{a0 a:Act}{o:Oper}{v:Value}(h:frame l a0 (a.put o.dst v))(ho:o∈l):frame l a0 a:=
 ⟨fun t ht=>by rw[<-h.1 t ht,E0 (ht o ho)],by rw[<-h.2,put_defers]⟩
theorem frame.sub{l m:List Oper}{a b:Act}(h:frame l a b)(hs:∀o∈l,o∈m):frame m a b:=⟨fun t ht=>h.1 t fun o ho=>ht o (hs o ho),h.2⟩
theorem frame.trans{l:List Oper}{a b c:Act}(h:frame l a b)(k:frame l b c):frame l a c:=⟨fun t ht=>by rw[k.1 t ht];exact h.1 t ht,by rw[k.2];exact h.2⟩
theorem frame.cons{o:Oper}{l:List Oper}{a a':Act}(h:frame l a a'):frame (o::l) a a':=h.sub fun _ h=>ay _ h
theorem AJ {o:Oper}{l:List Oper}{a a':Act}{v:Value}(h:frame l (a.put o.dst v) a'):frame (o::l) a a':=
 ⟨fun t ht=>by rw[h.1 t fun p hp=>ht p (ay _ hp)];exact E0 (ht o ax),by rw[h.2,put_defers]⟩
theorem Fits.some{N:Nat}{E:Env}{a:Act}(h:Fits N E a):Fits N [] a:=⟨h.size,fun t v hv=>by cases hv⟩
theorem Fits.Sk{N:Nat}{a:Act}{d:Option Tmp}{v:Value}(h:Fits N [] (a.put d v)):Fits N [] a:=⟨by have:=h.size;cases d<;>simpa[Act.put]using this,fun t v hv=>by cases hv⟩
theorem Gd (hF:Ac P F.ok){ops:Array Oper}{Q:Exit->Act->World->Prop}:∀(l:List Oper) (E:Env) (w:World) (K:Env->World->Prop) (a:Act),
  FV P F false ops l E w K->Fits N E a->CC N l->(∀E' a' w',K E' w'->Fits N E' a'->frame l a a'->Q .normal a' w')->
  (∀v a' w',F.pk v w'->Fits N [] a'->frame l a a'->Q (.panic (AW v)) a' w')->wpList P ops Q l a w
 |[],E,w,K,a,h,hf,_,hQ,_=>hQ E a w h hf (frame.refl _ _)
 |o::r,E,w,K,a,h,hf,hd,hQ,hP=>by
  have HZ:CC N r:=fun p hp=>hd p (ay _ hp)
  have ho:=hd o ax;unfold wpList;rcases BS h hf with ⟨hw,E',BO,hy⟩|⟨hw,E',BO,hn⟩
  ·rw[aD hw];refine .inl ?_;split at hy
   ·rename_i hb;simp only[aj]at hb;unfold Oper.wp;rw[Af BO hb.1];refine Dv (CO hF hy) (fun v w' hk=>?_) fun v w' hp=>hP v a w' hp hf.some (frame.refl _ _)
    exact Gd hF r _ w' K _ hk (BO.put ho) HZ (fun Gv a' BG h1 h2 h3=>hQ _ _ _ h1 h2 (AJ h3)) fun v a' BG h1 h2 h3=>hP v a' BG h1 h2 (AJ h3)
   ·exact hy.elim
  ·rw[az (by rw[hw];simp)];exact Gd hF r _ w K _ hn (BO.put ho) HZ (fun Gv a' BG h1 h2 h3=>hQ _ _ _ h1 h2 (AJ h3)) fun v a' BG h1 h2 h3=>hP v a' BG h1 h2 (AJ h3)
theorem M7 {ρ:Operand->Value}:∀{l:List (Nat×Operand)} {K:List (Nat×Value)->Prop},gx ρ l K->K (l.map fun p=>(p.1,ρ p.2))
 |[],K,h=>h
 |p::r,K,h=>by
  obtain ⟨f,a,c,e,h⟩:=h;have h:=M7 h;rw[<-e]at h;exact h
theorem XL (hF:Ac P F.ok){E:Env}{w:World}{K:Value->World->Prop}{o:Oper}{ops:Array Oper}(h:opD P F ops E o w K):Ms P F.pk K ((execOp E.Ai o).run P w):=by
 unfold opD at h;split at h
 ·rename_i it UB;split at h
  ·rename_i a tk te hx _ _;obtain ⟨x,y,w',hr,hk⟩:=h;obtain ⟨dst,op,type,pos,after,guard⟩:=o;simp only at UB;subst UB;refine Out.Ea (BK (w':=w') ?_ hk);rw[hx];exact hr
  ·exact CO hF h
 ·rename_i t parts UB;have h:=M7 h;obtain ⟨dst,op,type,pos,after,guard⟩:=o;simp only at UB;subst UB;have e:(parts.toList.map fun p=>(p.1,E.Ai p.2)).toArray=parts.map fun (i,x)=>(i,E.Ai x):=by
   rw[<-Array.toList_map,Array.toArray_toList]
  rw[e]at h;exact Out.Ea h
 ·rename_i c UB;split at h
  ·rename_i t hc;obtain ⟨g,first,captured,hf,hg,h⟩:=h;simp only[aj]at hg;obtain ⟨hg,ABq⟩:=hg;obtain ⟨dst,op,type,pos,after,guard⟩:=o;simp only at UB h;subst UB;have e:(do let d<-resolve E.Ai c type;invoke d.target d.args:Sem Next)=callFunc g ((first++(c.args.map E.Ai))++captured):=by
    simp only[resolve,hc,hf,Deferred.ofValue,pure_bind,invoke]
   show Ms P F.pk K ((do let d<-resolve E.Ai c type;invoke d.target d.args:Sem Next).run P w);rw[e];obtain ⟨fn,Ze⟩:=Option.isSome_iff_exists.1 ABq;obtain ⟨hb,hn⟩:=hF g fn hg Ze;have vI:fn.body.isNone=false:=by cases hx:fn.body<;>simp_all
   have hn':(fn.name== "runtime.NumGoroutine")=false:=by simpa using hn
   simp only[callFunc,Sem.run_bind,run_program,Result.andThen_ok,Ze,hn',vI,bq,if_false,Sem.run_pure,Ms];refine h.mono fun e w' he=>?_
   rcases he with ⟨s,h1,h2⟩|he
   ·exact .inl ⟨_,h1,h2⟩
   ·exact .inr he
  ·exact CO hF h
 ·exact CO hF h
theorem Ge (hF:Ac P F.ok){ops:Array Oper}{Q:Exit->Act->World->Prop}:∀(l:List Oper) (E:Env) (w:World) (K:Env->World->Prop) (a:Act),
  gy P F ops l E w K->Fits N E a->CC N l->(∀E' a' w',K E' w'->Fits N E' a'->frame l a a'->Q .normal a' w')->
  (∀v a' w',F.pk v w'->Fits N [] a'->frame l a a'->Q (.panic (AW v)) a' w')->wpList P ops Q l a w
 |[],E,w,K,a,h,hf,_,hQ,_=>hQ E a w h hf (frame.refl _ _)
 |o::r,E,w,K,a,h,hf,hd,hQ,hP=>by
  have HZ:CC N r:=fun p hp=>hd p (ay _ hp)
  have ho:=hd o ax;unfold wpList;rcases BS h hf with ⟨hw,E',BO,hy⟩|⟨hw,E',BO,hn⟩
  ·rw[aD hw];refine .inl ?_;split at hy
   ·rename_i hb;unfold Oper.wp;rw[Af BO hb];refine Dv (XL hF hy) (fun v w' hk=>?_) fun v w' hp=>hP v a w' hp hf.some (frame.refl _ _)
    exact Ge hF r _ w' K _ hk (BO.put ho) HZ (fun Gv a' BG h1 h2 h3=>hQ _ _ _ h1 h2 (AJ h3)) fun v a' BG h1 h2 h3=>hP v a' BG h1 h2 (AJ h3)
   ·exact hy.elim
  ·rw[az (by rw[hw];simp)];exact Ge hF r _ w K _ hn (BO.put ho) HZ (fun Gv a' BG h1 h2 h3=>hQ _ _ _ h1 h2 (AJ h3)) fun v a' BG h1 h2 h3=>hP v a' BG h1 h2 (AJ h3)
theorem ZK {E:Env}{w:World}{K:Value->World->Prop}{o:Oper}(hs:FU P o.op=true)(h:UA P F true E o w K):∃v,(execOp E.Ai o).run P w= .ok (.value v) w/\K v w:=by
 by_cases hl:∃t x,o.op= .load t x
 ·obtain ⟨t,x,hl⟩:=hl;obtain ⟨dst,op,type,pos,after,guard⟩:=o;simp only at hl;subst hl
  replace h:xn P t (E.Ai x) w fun v=>K v w:=h
  obtain ⟨v,h1,h2⟩:=Qb h;exact ⟨v,by simp only[execOp,Sem.run_bind,h1,Result.andThen_ok,Sem.run_pure],h2⟩
 ·obtain ⟨v,h1,h2⟩:=iB hs (fun t x e=>hl ⟨t,x,e⟩) h;exact ⟨v,h1 w,h2⟩
theorem Cn {ops:Array Oper}{Q:Act->Prop}:∀(l:List Oper) (E:Env) (w:World) (K:Env->World->Prop) (a:Act),
  FV P F true ops l E w K->Fits N E a->CC N l->(∀E' a',K E' w->Fits N E' a'->frame l a a'->Q a')->wpStill P ops w Q l a
 |[],E,w,K,a,h,hf,_,hQ=>hQ E a h hf (frame.refl _ _)
 |o::r,E,w,K,a,h,hf,hd,hQ=>by
  have HZ:CC N r:=fun p hp=>hd p (ay _ hp)
  have ho:=hd o ax;unfold wpStill;rcases BS h hf with ⟨hw,E',BO,hy⟩|⟨hw,E',BO,hn⟩
  ·rw[aD hw];split at hy
   ·rename_i hb;simp only[aj,Bool.not_true,Bool.false_or]at hb;obtain ⟨v,h1,h2⟩:=ZK hb.2 hy;unfold Oper.still;rw[Af BO hb.1,h1];exact ⟨rfl,Cn r _ w K _ h2 (BO.put ho) HZ fun Gv a' h1 h2 h3=>hQ _ _ h1 h2 (AJ h3)⟩
   ·exact hy.elim
  ·rw[az (by rw[hw];simp)];exact Cn r _ w K _ hn (BO.put ho) HZ fun Gv a' h1 h2 h3=>hQ _ _ h1 h2 (AJ h3)
theorem Sl {S:World->Prop}{a:Addr}{K:List Value->Prop}:∀(ts:List DR) (i:Nat),vE S a i ts K->
  ∃l:List Value,l.length=ts.length/\(∀w,S w->∀j v,l[j]?=some v->w.cell? (a.add (i+j))=some v)/\K l
 |[],_,h=>⟨[],rfl,by simp,h⟩
 |t::ts,i,h=>by
  obtain ⟨x,hx,hr⟩:=h;obtain ⟨l,h1,h2,h3⟩:=Sl ts (i+1) hr;refine ⟨t.v x::l,by simp[h1],fun w hw j v hj=>?_,h3⟩;cases j with
  |zero=>simp at hj;subst hj;simpa using hx w hw
  |succ j=>have:=h2 w hw j v (by simpa using hj);rw[show i+(j+1)=i+1+j by omega];exact this
theorem iM {S:World->Prop}{E:Env}{w:World}{K:Value->Prop}{o:Oper}(hs:FU P o.op=true)(h:opQ P F S E o w K):
  ∃v,(∀w2,S w2->(execOp E.Ai o).run P w2= .ok (.value v) w2)/\K v:=by
 by_cases hl:∃t x,o.op= .load t x
 ·obtain ⟨t,x,hl⟩:=hl;obtain ⟨dst,op,type,pos,after,guard⟩:=o;simp only at hl;subst hl
  replace h:ldQ P S t (E.Ai x) K:=h
  unfold ldQ at h;split at h
  ·rename_i a hx;have e:∀v w2,(loadVar t a).run P w2= .ok v w2->(execOp E.Ai {dst:=dst,op:= .load t x,type:=type,pos:=pos,after:=after,guard:=guard}).run P w2= .ok (.value v) w2:=fun v w2 hv=>by
    simp only[execOp,hx,Instr.loadAt,Instr.sureAddr,Sem.run_bind,Sem.run_pure,Result.andThen_ok,hv]
   split at h
   ·rename_i d n hd hn;split at h
    ·rename_i hg;obtain ⟨v,h1,h2⟩:=h;refine ⟨_,fun w2 hw=>e _ _ ?_,h2⟩;simp only[loadVar,Sem.run_bind,Cm hd,hg,Result.andThen_ok,bq,if_false,KQ (h1 w2 hw)]
    ·rename_i hg;split at h
     ·rename_i ts _;split at h
      ·rename_i hlen;obtain ⟨l,h1,h2,h3⟩:=Sl ts 0 h;refine ⟨_,fun w2 hw=>e _ _ ?_,h3⟩;have hl:l.length=n:=by rw[h1];exact beq_eq hlen
       have:=run_loadCells_list (P:=P) w2 a l (fun j v hj=>by simpa using h2 w2 hw j v hj);simp only[loadVar,Sem.run_bind,Cm hd,hg,Result.andThen_ok,if_true,An hn,<-hl,this,Sem.run_pure]
      ·exact h.elim
     ·obtain ⟨v,h1,h2⟩:=h;exact ⟨.agg v,fun w2 hw=>e _ _ (h1 w2 hw),h2⟩
   ·exact h.elim
  ·exact h.elim
 ·have h':UA P F true E o w fun v _=>K v:=by
   unfold opQ at h;split at h
   ·rename_i t x hx;exact (hl ⟨t,x,hx⟩).elim
   ·exact h
  obtain ⟨v,h1,h2⟩:=iB hs (fun t x e=>hl ⟨t,x,e⟩) h';exact ⟨v,fun w2 _=>h1 w2,h2⟩
def DN (ops:Array Oper)(L:Array Bool):Prop:=∀j o,ops[j]?=some o->L.getD j false=true->∀e∈o.after,Region.binds .any e=true->L.getD e.on false=true
theorem DN.start(ops:Array Oper)(n:Nat):DN ops (Array.replicate n false):=fun j o _ h=>by
 simp only[bF,Array.getElem?_replicate]at h;split at h<;>simp at h
theorem DN.set{ops:Array Oper}{L:Array Bool}{j:Nat}(h:DN ops L)(hj:j∈Region.ready .any ops L):DN ops (L.setIfInBounds j true):=fun k o ho hk e he hb=>by
 by_cases xq:j=k
 ·subst xq;obtain ⟨_,o',I3,Az⟩:=mem_ready.1 hj;rw[ho]at I3;cases I3;exact getD_set_true (Az e he hb)
 ·rw[getD_set_ne false xq]at hk;exact getD_set_true (h k o ho hk e he hb)
theorem He {L:Array Bool}:∀(es:List Edge) (m:Array Bool),(∀e∈es,Region.binds .any e=true->L.getD e.on false=true)->(∀k,m.getD k false=true->L.getD k false=true)->
  ∀k,(KL es m).getD k false=true->L.getD k false=true
 |[],_,_,h,k,hk=>h k hk
 |e::es,m,he,h,k,hk=>by
  unfold KL at hk;rw[List.foldl_cons]at hk;refine He es _ (fun e' h'=>he e' (ay _ h')) (fun i hi=>?_) k hk;split at hi
  ·rename_i hb;by_cases hei:e.on=i
   ·subst hei;exact he e ax hb
   ·rw[getD_set_ne false hei]at hi;exact h i hi
  ·exact h i hi
theorem Ox {ops:Array Oper}{L:Array Bool}(hL:DN ops L):∀(n:Nat) (m:Array Bool),(∀k,m.getD k false=true->L.getD k false=true)->∀k,(Y9 ops n m).getD k false=true->L.getD k false=true
 |0,_,h,k,hk=>h k hk
 |n+1,m,h,k,hk=>by
  unfold Y9 at hk;refine Ox hL n _ (fun i hi=>?_) k hk;split at hi
  ·rename_i o hm ho;exact He _ _ (fun e he hb=>hL n o ho (h n hm) e (by simpa using he) hb) h i hi
  ·exact h i hi
theorem Sn {ops:Array Oper}{L:Array Bool}(hL:DN ops L){i j:Nat}(ha:pz ops j i=true)(hj:j∈Region.ready .any ops L)(hi:i∈Region.ready .any ops L):False:=by
 obtain ⟨_,o,ho,Az⟩:=mem_ready.1 hj;unfold pz at ha;rw[ho]at ha;have h1:=Ox hL j _ (He o.after.toList _ (fun e he hb=>Az e (by simpa using he) hb) (fun k hk=>by
  simp only[bF,Array.getElem?_replicate]at hk;split at hk<;>simp at hk)) i ha
 have h0:=(mem_ready.1 hi).1;rcases cn i L.size with h'|h'
 ·simp[h']at h0 h1;rw[h0]at h1;cases h1
 ·simp[bJ h']at h1
section
variable {ops:Array Oper} {Q:Exit->Act->World->Prop} {S:World->Prop} {J:List Nat}
def CP (P:Program)(ops:Array Oper)(Q:Exit->Act->World->Prop)(J:List Nat)(S:World->Prop):Nat->Array Bool->Act->World->Prop
 |0,listed,a,w=>Region.ready .any ops listed=[]/\Q .normal a w
 |fuel+1,listed,a,w=>(Region.ready .any ops listed=[]->Q .normal a w)/\∀i∈Region.ready .any ops listed,
  if J.contains i=true then wpOp P ops Q i (fun a' w'=>wpAny P .any ops Q fuel (listed.setIfInBounds i true) a' w') a w
  else wpOp P ops Q i (fun a' w'=>S w'/\CP P ops Q J S fuel (listed.setIfInBounds i true) a' w') a w
theorem Dx:∀(fuel:Nat) (listed:Array Bool) (a:Act) (w:World),CP P ops Q J S fuel listed a w->wpAny P .any ops Q fuel listed a w
 |0,_,_,_,h=>h
 |fuel+1,_,_,_,h=>⟨h.1,fun i hi=>by
  have:=h.2 i hi;split at this
  ·exact this
  ·exact wpOp_mono (fun a' w' h'=>Dx fuel _ a' w' h'.2) this⟩
def Gf (P:Program)(ops:Array Oper)(J:List Nat)(S:World->Prop)(i:Nat)(oi:Oper)(v:Value)(a:Act):Prop:=
 Yields P ops oi v a\/(YieldsIf P ops S oi v a/\∀j∈J,pz ops j i=true)
theorem Gf.yieldsIf{i:Nat}{oi:Oper}{v:Value}{a:Act}(h:Gf P ops J S i oi v a):YieldsIf P ops S oi v a:=h.elim (fun h=>h.yieldsIf) (fun h=>h.1)
theorem Qd {i:Nat}{oi:Oper}{v:Value}(hi:ops[i]?=some oi)(Il:∀(j:Nat) (o:Oper) cs b,ops[j]?=some o->o.op≠ .select cs b)
  (hQ:∀c a w,Q (.panic c) (a.put oi.dst v) w->Q (.panic c) a w):
  ∀(fuel:Nat) (listed:Array Bool) (a:Act) (w:World),
   (∀j oj,ops[j]?=some oj->j≠i->listed.getD j true=false->(∀e∈oj.after,Region.binds .any e=true->e.on≠i)->oi.apart ops oj=true)->
   DN ops listed->i∈Region.ready .any ops listed->Gf P ops J S i oi v a->S w->
   CP P ops Q J S fuel (listed.setIfInBounds i true) (a.put oi.dst v) w->CP P ops Q J S (fuel+1) listed a w:=by
 intro fuel;have self:∀(fuel:Nat) (listed:Array Bool) (a:Act) (w:World),Gf P ops J S i oi v a->S w->CP P ops Q J S fuel (listed.setIfInBounds i true) (a.put oi.dst v) w->
   (if J.contains i=true then wpOp P ops Q i (fun a' w'=>wpAny P .any ops Q fuel (listed.setIfInBounds i true) a' w') a w
    else wpOp P ops Q i (fun a' w'=>S w'/\CP P ops Q J S fuel (listed.setIfInBounds i true) a' w') a w):=fun fuel listed a w hy hS H=>by
  split
  ·exact hy.yieldsIf.wpOp hi hS (Dx _ _ _ _ H)
  ·exact hy.yieldsIf.wpOp hi hS ⟨hS,H⟩
 induction fuel with
 |zero=>
  intro listed a w _ _ hr hy hS H;refine ⟨fun h=>(by rw[h]at hr;cases hr),fun j hj=>?_⟩;by_cases KX:j=i
  ·subst KX;exact self 0 listed a w hy hS H
  ·have:=ready_mono hj KX;rw[H.1]at this;cases this
 |succ fuel ih=>
  intro listed a w XM Qe hr hy hS H;refine ⟨fun h=>(by rw[h]at hr;cases hr),fun j hj=>?_⟩;by_cases KX:j=i
  ·subst KX;exact self _ listed a w hy hS H
  ·have h1:=H.2 j (ready_mono hj KX);obtain ⟨ABr,oj,mq,Az⟩:=mem_ready.1 hj;have ANz:∀e∈oj.after,Region.binds .any e=true->e.on≠i:=fun e he hb heq=>by
    have h1:=Az e he hb;have h0:=(mem_ready.1 hr).1;rw[heq]at h1;rcases cn i listed.size with h'|h'
    ·simp[h']at h0 h1;rw[h0]at h1;cases h1
    ·simp[bJ h']at h1
   have iN:∀k ok,ops[k]?=some ok->k≠i->(listed.setIfInBounds j true).getD k true=false->
     (∀e∈ok.after,Region.binds .any e=true->e.on≠i)->oi.apart ops ok=true:=fun k ok hk D9 hun Tv=>by
    refine XM k ok hk D9 ?_ Tv;by_cases hjk:j=k
    ·subst hjk;exact ABr
    ·rw[getD_set_ne true hjk]at hun;exact hun
   have xp:=XM j oj mq KX ABr ANz;split at h1
   ·rename_i hJ;rw[aD hJ];rcases hy with hy|⟨_,hy⟩
    ·have h2:=wpOp_put mq xp (fun cs b=>Il i oi cs b hi) (fun cs b=>Il j oj cs b mq) hQ hy h1;refine wpOp_mono (fun a' w' h3=>wpAny_first hi Il hQ fuel _ a' w' iN (ready_mono hr (Ne.symm KX)) h3.1 ?_) h2;rw[Array.setIfInBounds_comm _ _ KX];exact h3.2
    ·exact (Sn Qe (hy j (by simpa using hJ)) hj hr).elim
   ·rename_i hJ;rw[az hJ];have step:wpOp P ops Q j (fun a' w'=>Gf P ops J S i oi v a'/\S w'/\CP P ops Q J S fuel ((listed.setIfInBounds i true).setIfInBounds j true) (a'.put oi.dst v) w') a w:=by
     rcases hy with hy|⟨hy,hyJ⟩
     ·exact wpOp_mono (fun a' w' h3=>⟨.inl h3.1,h3.2⟩) (wpOp_put mq xp (fun cs b=>Il i oi cs b hi) (fun cs b=>Il j oj cs b mq) hQ hy h1)
     ·exact wpOp_mono (fun a' w' h3=>⟨.inr ⟨h3.1,hyJ⟩,h3.2⟩) (wpOp_putIf mq xp (fun cs b=>Il i oi cs b hi) (fun cs b=>Il j oj cs b mq) hQ hy h1)
    refine wpOp_mono (fun a' w' h3=>⟨h3.2.1,ih (listed.setIfInBounds j true) a' w' iN (Qe.set hj) (ready_mono hr (Ne.symm KX)) h3.1 h3.2.1 ?_⟩) step;rw[Array.setIfInBounds_comm _ _ KX];exact h3.2.2
end
theorem ZL {S:World->Prop}{E:Env}{w:World}{K:Value->Prop}{o:Oper}(hs:FU P o.op=true)(hl:Mv o.op=false)(h:opQ P F S E o w K):
  ∃v,(∀w2,(execOp E.Ai o).run P w2= .ok (.value v) w2)/\K v:=by
 have SA:∀t x,o.op≠ .load t x:=fun t x e=>by rw[e]at hl;cases hl
 have h':UA P F true E o w fun v _=>K v:=by
  unfold opQ at h;split at h
  ·rename_i t x hx;exact (SA t x hx).elim
  ·exact h
 obtain ⟨v,h1,h2⟩:=iB hs SA h';exact ⟨v,h1,h2⟩
theorem XN (hF:Ac P F.ok){ops:Array Oper}{Q:Exit->Act->World->Prop}{J:List Nat}{S:World->Prop}{i:Nat}{fl:Option (List Nat)}{lo:Bool}{E:Env}{w:World}{o:Oper}{a:Act}
  {fuel:Nat} {listed:Array Bool} {k:(World->Prop)->Env->World->Prop} (ho:ops[i]?=some o) (hS:S w) (hf:Fits N E a) (hd:∀t,o.dst=some t->t<N)
  (hp:∀v w',F.pk v w'->Q (.panic (AW v)) a w') (h:mg P F ops J S i fl lo E w o k) (hk:∀S E' v w',k S E' w'->S w'->Fits N E' (a.put o.dst v)->CP P ops Q (fl.getD J) S fuel (listed.setIfInBounds i true) (a.put o.dst v) w'):
  if J.contains i=true then wpOp P ops Q i (fun a' w'=>wpAny P .any ops Q fuel (listed.setIfInBounds i true) a' w') a w
  else wpOp P ops Q i (fun a' w'=>S w'/\CP P ops Q J S fuel (listed.setIfInBounds i true) a' w') a w:=by
 have ph:∀(E':Env) (v:Value) (w':World),xo lo w' (fun S=>k S E' w')->Fits N E' (a.put o.dst v)->wpAny P .any ops Q fuel (listed.setIfInBounds i true) (a.put o.dst v) w':=fun E' v w' h hf=>by
  unfold xo at h;split at h
  ·obtain ⟨S',h1,h2⟩:=h;exact Dx _ _ _ _ (hk _ _ _ _ h2 h1 hf)
  ·exact Dx _ _ _ _ (hk _ _ _ _ h trivial hf)
 unfold mg at h;split at h
 ·rename_i hJ;rw[az (by rw[hJ];simp)];unfold wpOp;simp only[ho];rcases BS h hf with ⟨hw,E',BO,hy⟩|⟨hw,E',BO,hn⟩
  ·rw[aD hw];split at hy
   ·rename_i Az;refine .inl ?_;unfold Oper.wp;rw[Af BO Az];exact Dv (CO hF hy) (fun v w' hv=>⟨hv.1,hk _ _ _ _ hv.2 hv.1 (BO.put hd)⟩) hp
   ·exact hy.elim
  ·rw[az (by rw[hw];simp)];exact ⟨hS,hk _ _ _ _ hn hS (BO.put hd)⟩
 ·rename_i J' hJ;rw[aD hJ];unfold wpOp;simp only[ho];rcases BS h hf with ⟨hw,E',BO,hy⟩|⟨hw,E',BO,hn⟩
  ·rw[aD hw];split at hy
   ·rename_i Az;refine .inl ?_;unfold Oper.wp;rw[Af BO Az];exact Dv (CO hF hy) (fun v w' hv=>ph _ _ _ hv (BO.put hd)) hp
   ·exact hy.elim
  ·rw[az (by rw[hw];simp)];exact ph _ _ _ hn (BO.put hd)
 ·exact h.elim
theorem M8 {x:Nat}:∀{l:List Nat},XH x l=true->x∉l
 |[],_,h=>by cases h
 |y::r,h,hm=>by
  simp only[XH,aj,bO]at h;rcases aw.1 hm with rfl|hm
  ·simp at h
  ·exact M8 h.2 hm
theorem EW:∀{l:List Nat},distinct l=true->l.Nodup
 |[],_=>List.nodup_nil
 |x::r,h=>by
  simp only[distinct,aj]at h;exact List.nodup_cons.2 ⟨M8 h.1,EW h.2⟩
theorem KR:∀(js:List Nat) (l:Array Bool),(B7 l js).size=l.size
 |[],_=>rfl
 |j::js,l=>by rw[B7,KR js];simp
theorem KS (k:Nat):∀(js:List Nat) (l:Array Bool),(∀j∈js,j<l.size)->((B7 l js).getD k false=true↔l.getD k false=true\/k∈js)
 |[],l,_=>by simp[B7]
 |j::js,l,h=>by
  rw[B7,KS k js _ (fun i hi=>by simpa using h i (ay _ hi))];have hj:=h j ax;by_cases xq:j=k
  ·subst xq;simp[Array.getD,hj]
  ·rw[getD_set_ne false xq];simp only[aw];constructor
   ·rintro (h|h)
    ·exact .inl h
    ·exact .inr (.inr h)
   ·rintro (h|h|h)
    ·exact .inl h
    ·exact absurd h.symm xq
    ·exact .inr h
section
variable {ops:Array Oper}
def XO (N:Nat)(Gs:List B6)(listed:Array Bool)(a:Act)(w:World):Prop:=
 ∀e∈Gs,listed.getD e.j false=true->e.dst<N/\∃x:e.ty.T,e.G x w/\a.tmps.getD e.dst undef=e.ty.v x
theorem Hf {o:Oper}{listed:Array Bool}{a:Act}{w:World}{k:Env->Prop}:∀(l:List B6) (E:Env),Oo o l E w k->Fits N E a->XO N l listed a w->(∀e∈l,Ie o.op e.dst=true->listed.getD e.j false=true)->
  ∃E',Fits N E' a/\k E'
 |[],E,h,hf,_,_=>⟨E,hf,h⟩
 |e::r,E,h,hf,hg,hu=>by
  have Z2:XO N r listed a w:=fun e he=>hg e (ay _ he)
  have hu':∀e∈r,Ie o.op e.dst=true->listed.getD e.j false=true:=fun e he=>hu e (ay _ he)
  unfold Oo at h;split at h
  ·rename_i hb;obtain ⟨Av,x,hx,hv⟩:=hg e ax (hu e ax hb);exact Hf r _ (h x hx) (hf.cons Av hv) Z2 hu'
  ·exact Hf r E h hf Z2 hu'
theorem Im {listed:Array Bool}{a:Act}{w:World}{k:Env->Prop}:∀(l:List B6) (E:Env),Ig l E w k->Fits N E a->XO N l listed a w->(∀e∈l,listed.getD e.j false=true)->∃E',Fits N E' a/\k E'
 |[],E,h,hf,_,_=>⟨E,hf,h⟩
 |e::r,E,h,hf,hg,hu=>by
  obtain ⟨Av,x,hx,hv⟩:=hg e ax (hu e ax);exact Im r _ (h x hx) (hf.cons Av hv) (fun e he=>hg e (ay _ he)) (fun e he=>hu e (ay _ he))
def vO (ops:Array Oper)(le:World->World->Prop)(Gs:List B6):Prop:=∀e∈Gs,(∃o,ops[e.j]?=some o/\o.dst=some e.dst)/\∀x w w',le w w'->e.G x w->e.G x w'
theorem M9 {le:World->World->Prop}{k:List B6->Prop}:∀(js:List Nat) (acc:List B6),XF P ops le js acc k->vO ops le acc->∃Gs,vO ops le Gs/\Gs.map (·.j)=acc.map (·.j)++js/\k Gs
 |[],acc,h,hg=>⟨acc,hg,by simp,h⟩
 |j::js,acc,h,hg=>by
  unfold XF at h;split at h
  ·rename_i o ho;split at h
   ·rename_i d hd;obtain ⟨G,hG,h⟩:=h;obtain ⟨Gs,h1,h2,h3⟩:=M9 js _ h (fun e he=>by
     rcases aS.1 he with he|he
     ·exact hg e he
     ·rw[av.1 he];exact ⟨⟨o,ho,hd⟩,hG⟩)
    exact ⟨Gs,h1,by rw[h2];simp,h3⟩
   ·exact h.elim
  ·exact h.elim
theorem NA {S:World->Prop}{le:World->World->Prop}{B:World->Prop}{E:Env}{all:List B6}:∀(l:List B6),XG P F ops S le B E all l->∀e∈l,∃o,ops[e.j]?=some o/\∀w,S w->B w->Oo o all E w fun E'=>match hasAll E' o.op with
   |true=>UA P F false E' o w fun v w'=>S w'/\B w'/\le w w'/\∃x:e.ty.T,v=e.ty.v x/\e.G x w'
   |false=>False
 |[],_,e,he=>by cases he
 |e::r,h,e',he=>by
  obtain ⟨h1,h2⟩:=h;rcases aw.1 he with rfl|he
  ·split at h1
   ·rename_i o ho;exact ⟨o,ho,h1⟩
   ·exact h1.elim
  ·exact NA r h2 e' he
theorem exists_least (p:Nat->Prop):∀(n:Nat),(∃m,m<n/\p m)->∃m,p m/\∀k,k<m->¬p k
 |0,⟨m,h,_⟩=>by omega
 |n+1,h=>by
  by_cases h':∃m,m<n/\p m
  ·exact exists_least p n h'
  ·obtain ⟨m,hm,hp⟩:=h;refine ⟨m,hp,fun k hk cL=>h' ⟨k,by omega,cL⟩⟩
theorem KT {listed:Array Bool}{js:List Nat}{E:Env}(h:QY ops listed js E=true):js.Nodup/\(js.map (Fc ops)).Nodup/\
  (∀j∈js,∃o,ops[j]?=some o/\o.guard=none/\listed.getD j true=false/\E.get? (Fc ops j)=none/\
   (∀e∈o.after,Region.binds .any e=true->listed.getD e.on false=true\/(e.on∈js/\e.on<j))/\
   (∀j'∈js,Ie o.op (Fc ops j')=true->∃e∈o.after,Region.binds .any e=true/\e.on=j'))/\
  (∀k,k<ops.size->listed.getD k true=false->k∉js->∀j∈js,pz ops k j=true):=by
 unfold QY at h;simp only[aj]at h;obtain ⟨⟨⟨h1,h2⟩,h3⟩,h4⟩:=h;refine ⟨EW h1,EW h2,fun j hj=>?_,fun k hk hl hn j hj=>?_⟩
 ·have:=aJ.1 h3 j hj;split at this
  ·rename_i o ho;simp only[aj,bO,Option.isNone_iff_eq_none]at this;obtain ⟨⟨⟨⟨⟨g1,g2⟩,g3⟩,g4⟩,g5⟩,g6⟩:=this;refine ⟨o,ho,g1,g3,by simpa using g4,fun e he hb=>?_,fun j' vP hu=>?_⟩
   ·have:=aJ.1 g5 e (by simpa using he);simp only[bI,bO,aj]at this;rcases this with (h|h)|h
    ·rw[hb]at h;cases h
    ·exact .inl h
    ·exact .inr ⟨by simpa using h.1,bp h.2⟩
   ·have:=aJ.1 g6 j' vP;simp only[bI,bO]at this;rcases this with h|h
    ·rw[hu]at h;cases h
    ·obtain ⟨e,he,h⟩:=List.any_eq_true.1 h;simp only[aj]at h;exact ⟨e,by simpa using he,h.1,beq_eq h.2⟩
  ·cases this
 ·have:=aJ.1 h4 k (cw.2 hk);simp only[bI]at this;rcases this with (h|h)|h
  ·rw[hl]at h;cases h
  ·exact absurd (by simpa using h) hn
  ·exact aJ.1 h j hj
end
def HQ (P:Program)(F:Fx)(N:Nat)(ops:Array Oper)(a0:Act)(G:Act->World->Prop)(e:Exit)(a':Act)(w':World):Prop:=
 (e= .normal/\G a' w')\/∃v,e= .panic (AW v)/\F.pk v w'/\Fits N [] a'/\frame ops.toList a0 a'
theorem HQ.Sk{ops:Array Oper}{a0:Act}{G:Act->World->Prop}{c:List PanicEntry}{a:Act}{o:Oper}{v:Value}{w:World}(h:HQ P F N ops a0 G (.panic c) (a.put o.dst v) w)(ho:o∈ops.toList):HQ P F N ops a0 G (.panic c) a w:=by
 rcases h with ⟨h,_⟩|⟨u,h1,h2,h3,h4⟩
 ·cases h
 ·exact .inr ⟨u,h1,h2,h3.Sk,h4.Sk ho⟩
theorem iO (hF:Ac P F.ok){ops:Array Oper}{G:Act->World->Prop}{a0:Act}{J:List Nat}{S:World->Prop}{BC:Array Bool}{js:List Nat}{E:Env}{le:World->World->Prop}{B:World->Prop}{Gs:List B6}{n:Nat}
  (hd:CC N ops.toList) (hJ:∀j∈js,J.contains j=false) (Bo:QY ops BC js E=true) (xr:vO ops le Gs) (UE:Gs.map (·.j)=js) (hI:XG P F ops S le B E Gs Gs)
  (JU:∀a w fuel,n<=fuel->S w->B w->DN ops (B7 BC js)->frame ops.toList a0 a->(∀k:Env->Prop,Ig Gs E w k->∃E',Fits N E' a/\k E')->CP P ops (HQ P F N ops a0 G) J S fuel (B7 BC js) a w):
  ∀(m:Nat) (listed:Array Bool) (a:Act) (w:World) (fuel:Nat),(js.filter fun j=> !listed.getD j false).length=m->n+m<=fuel->listed.size=BC.size->(∀k,listed.getD k false=true->BC.getD k false=true\/k∈js)->
   (∀k,BC.getD k false=true->listed.getD k false=true)->DN ops listed->S w->B w->Fits N E a->frame ops.toList a0 a->XO N Gs listed a w->CP P ops (HQ P F N ops a0 G) J S fuel listed a w:=by
 obtain ⟨Jb,hdn,UB,iJ⟩:=KT Bo;have Av:∀j∈js,j<BC.size:=fun j hj=>by
  obtain ⟨o,_,_,h,_⟩:=UB j hj;rcases cn j BC.size with h'|h'
  ·exact h'
  ·simp[bJ h']at h
 intro m
 induction m with
 |zero=>
  intro listed a w fuel hm hfu Gx VG Sp Qe hS hB hf JC hg;have Az:∀j∈js,listed.getD j false=true:=fun j hj=>by
   have h0:=aT hm;cases hx:listed.getD j false with
   |true=>rfl
   |false=>
    have:j∈js.filter fun j=> !listed.getD j false:=cH.2 ⟨hj,by rw[hx];rfl⟩
    rw[h0]at this;cases this
  have heq:listed=B7 BC js:=by
   refine Array.ext (by rw[KR,Gx]) fun k h1 h2=>?_
   have e1:listed.getD k false=listed[k]:=by simp[Array.getD,h1]
   have e2:(B7 BC js).getD k false=(B7 BC js)[k]:=by simp[Array.getD,h2]
   rw[<-e1,<-e2,cg,KS k js BC Av];exact ⟨VG k,fun h=>h.elim (Sp k) (Az k)⟩
  have Fh:∀e∈Gs,listed.getD e.j false=true:=fun e he=>Az e.j (by rw[<-UE];exact b6 he)
  have key:∀k:Env->Prop,Ig Gs E w k->∃E',Fits N E' a/\k E':=fun k hk=>Im Gs E hk hf hg Fh
  subst heq;exact JU a w fuel (by omega) hS hB Qe JC key
 |succ m ih=>
  intro listed a w fuel hm hfu Gx VG Sp Qe hS hB hf JC hg;obtain ⟨fuel,rfl⟩:∃n,fuel=n+1:=⟨fuel-1,by omega⟩
 
  have hun:∃j,j<BC.size/\(j∈js/\listed.getD j false=false):=by
   have:(js.filter fun j=> !listed.getD j false)≠[]:=fun h=>by rw[h]at hm;cases hm
   obtain ⟨j,hj⟩:=List.exists_mem_of_ne_nil _ this;obtain ⟨h1,h2⟩:=cH.1 hj;exact ⟨j,Av j h1,h1,by simpa using h2⟩
  obtain ⟨j0,⟨hj0,hl0⟩,vQ⟩:=exists_least _ _ hun;have AN1:∀k,k<BC.size->listed.getD k false=false->listed.getD k true=false:=fun k hk h=>by
   have:k<listed.size:=by omega
   simpa[Array.getD,this]using h
  have Nc:j0∈Region.ready .any ops listed:=by
   obtain ⟨o,ho,_,_,_,haf,_⟩:=UB j0 hj0;refine mem_ready.2 ⟨AN1 j0 (Av j0 hj0) hl0,o,ho,fun e he hb=>?_⟩;rcases haf e he hb with h|⟨h1,h2⟩
   ·exact Sp _ h
   ·cases hx:listed.getD e.on false with
    |true=>rfl
    |false=>exact absurd ⟨h1,hx⟩ (vQ e.on h2)
  refine ⟨fun h=>(by rw[h]at Nc;cases Nc),fun i hi=>?_⟩;obtain ⟨La,oi,Sq,Az⟩:=mem_ready.1 hi;have Tf:i∈js:=by
   refine Decidable.byContradiction fun hn=>?_
   have ZJ:i<ops.size:=(au.1 Sq).1;have AN2:BC.getD i true=false:=by
    have h1:listed.getD i false=false:=by
     cases hx:listed.getD i false with
     |false=>rfl
     |true=>
      have:i<listed.size:=by
       rcases cn i listed.size with h'|h'
       ·exact h'
       ·simp[bJ h']at La
      simp[Array.getD,this]at La hx;rw[La]at hx;cases hx
    cases hx:BC.getD i false with
    |true=>rw[Sp i hx]at h1;cases h1
    |false=>
     have:i<BC.size:=by
      rcases cn i listed.size with h'|h'
      ·omega
      ·simp[bJ h']at La
     simpa[Array.getD,this]using hx
   exact Sn Qe (iJ i ZJ AN2 hn j0 hj0) hi Nc
  rw[az (by rw[hJ i Tf];simp)];obtain ⟨e,he,hej⟩:∃e∈Gs,e.j=i:=by
   have:i∈Gs.map (·.j):=by rw[UE];exact Tf
   obtain ⟨e,he,h⟩:=cl.1 this;exact ⟨e,he,h⟩
  obtain ⟨o,ho,ga,_,hEn,_,p3⟩:=UB i Tf;rw[Sq]at ho;cases ho;obtain ⟨o',I3,AN4⟩:=NA Gs hI e he;rw[hej,Sq]at I3;cases I3;obtain ⟨⟨o'',ABt,Sc⟩,_⟩:=xr e he;rw[hej,Sq]at ABt;cases ABt;have p5:Fc ops i=e.dst:=by unfold Fc;rw[Sq];simp[Sc]
  have hom:oi∈ops.toList:=by
   have:=cA Sq;simpa using this
  have hdN:e.dst<N:=hd oi hom e.dst Sc;obtain ⟨E',BO,hk⟩:=Hf Gs E (AN4 w hS hB) hf hg fun e' Nd hu=>by
   have vP:e'.j∈js:=by rw[<-UE];exact b6 Nd
   obtain ⟨⟨o3,ho3,hd3⟩,_⟩:=xr e' Nd;have:Fc ops e'.j=e'.dst:=by unfold Fc;rw[ho3];simp[hd3]
   obtain ⟨ed,hed,hb,hon⟩:=p3 e'.j vP (by rw[this];exact hu);rw[<-hon];exact Az ed hed hb
  split at hk
  ·rename_i hha;unfold wpOp;simp only[Sq];rw[aD (by simp[Region.wanted,ga])];refine .inl ?_;unfold Oper.wp;rw[Af BO hha];refine Dv (CO hF hk) (fun v w' hv=>?_) fun v w' hp=> .inr ⟨v,rfl,hp,hf.some,JC⟩
   obtain ⟨mr,vS,hle,x,rfl,hx⟩:=hv;refine ⟨mr,ih (listed.setIfInBounds i true) (a.put oi.dst (e.ty.v x)) w' fuel ?_ (by omega) (by simpa using Gx) (fun k hk=>?_) (fun k hk=>?_) (Qe.set hi) mr vS ?_ (JC.put hom) ?_⟩
   ·have ABu:i<listed.size:=by have:=Av i Tf;omega
    have hgi:listed.getD i false=false:=by simpa[Array.getD,ABu]using La
    have hpe:∀j,(!(listed.setIfInBounds i true).getD j false)=((!listed.getD j false)&&(j !=i)):=fun j=>by
     by_cases KX:i=j
     ·subst KX;rw[EJ _ _ _ _ ABu];simp
     ·rw[getD_set_ne false KX];have:(j !=i)=true:=by simp;omega
      rw[this,cb]
    have AN6:(js.filter fun j=> !(listed.setIfInBounds i true).getD j false)=(js.filter fun j=> !listed.getD j false).erase i:=by
     rw[List.Nodup.erase_eq_filter (List.Pairwise.filter _ Jb),List.filter_filter];refine List.filter_congr fun j _=>?_
     rw[hpe,Bool.and_comm]
    rw[AN6,List.length_erase_of_mem (cH.2 ⟨Tf,by rw[hgi];rfl⟩),hm]
    rfl
   ·by_cases D9:i=k
    ·subst D9;exact .inr Tf
    ·rw[getD_set_ne false D9]at hk;exact VG k hk
   ·exact getD_set_true (Sp k hk)
   ·refine ⟨by have:=hf.size;rw[Sc];simpa[Act.put]using this,fun t u ht=>?_⟩;obtain ⟨h1,h2⟩:=hf.get t u ht;have Bg:oi.dst≠some t:=fun h=>by
     rw[Sc]at h;cases h;rw[p5]at hEn;rw[hEn]at ht;cases ht
    exact ⟨h1,by rw[E0 Bg];exact h2⟩
   ·intro e' Nd SA;by_cases hee:e'.j=i
    ·have ABv:e'=e:=by
      have AN8:(Gs.map (·.j)).Nodup:=by rw[UE];exact Jb
      obtain ⟨n1,fh,g1⟩:=cq.1 Nd;obtain ⟨n2,pF,g2⟩:=cq.1 he;have:n1=n2:=(List.getElem_inj (h₀:=by simpa using fh) (h₁:=by simpa using pF) AN8).1 (by simp[g1,g2,hee,hej]);subst this;exact g1.symm.trans g2
     subst ABv;refine ⟨hdN,x,hx,?_⟩;rw[Sc];exact EJ _ _ _ _ (by rw[hf.size];exact hdN)
    ·rw[getD_set_ne false (fun h=>hee h.symm)]at SA;obtain ⟨h1,y,hy,hv⟩:=hg e' Nd SA;refine ⟨h1,y,(xr e' Nd).2 _ _ _ hle hy,?_⟩;have Bg:oi.dst≠some e'.dst:=fun h=>by
      rw[Sc]at h;have h:=aZ h;obtain ⟨⟨o3,ho3,hd3⟩,_⟩:=xr e' Nd;have h3:Fc ops e'.j=e'.dst:=by unfold Fc;rw[ho3];simp[hd3]
      have vP:e'.j∈js:=by rw[<-UE];exact b6 Nd
      obtain ⟨n1,fh,g1⟩:=cq.1 vP;obtain ⟨n2,pF,g2⟩:=cq.1 Tf;have:n1=n2:=(List.getElem_inj (h₀:=by simpa using fh) (h₁:=by simpa using pF) hdn).1 (by
       simp only[List.getElem_map,g1,g2];rw[h3,p5];exact h.symm)
      subst this;exact hee (g1.symm.trans g2)
     rw[E0 Bg];exact hv
  ·exact hk.elim
theorem Ji (m i:Nat):hasB m i=m.testBit i:=by
 unfold hasB;have e:Nat.land (Nat.shiftRight m i) 1=(m>>>i)%2:=Nat.and_one_is_mod _;rw[e,Nat.testBit_eq_decide_div_mod_eq,Nat.shiftRight_eq_div_pow];by_cases h:m/2^i%2=1
 ·rw[h,aI rfl]
  rfl
 ·rw[aH h];cases hb:Nat.beq (m/2^i%2) 1 with
  |false=>rfl
  |true=>exact absurd (beq_eq hb) h
theorem Sr (m i k:Nat):hasB (QZ m i) k=(hasB m k||decide (i=k)):=by
 rw[Ji,Ji];have e:QZ m i=m|||1<<<i:=rfl
 rw[e,Nat.testBit_or,Nat.one_shiftLeft,Nat.testBit_two_pow]
theorem Jj (k:Nat):hasB 0 k=false:=by rw[Ji];exact Nat.zero_testBit k
theorem Oy {l:Array Bool}{k:Nat}(h:k<l.size):l.getD k true=l.getD k false:=by
 rw[bF,bF,bQ h]
 rfl
theorem Oz {l:Array Bool}{i k:Nat}(h:i<l.size):(l.setIfInBounds i true).getD k false=(l.getD k false||decide (i=k)):=by
 by_cases e:i=k
 ·subst e;rw[aI rfl,Bool.or_true];exact EJ _ _ _ _ h
 ·rw[aH e,Bool.or_false];exact DX _ _ _ e
structure Gw (l:Array Bool) (m n:Nat):Prop where
 size:l.size=n
 get:∀k,l.getD k false=hasB m k
theorem Gw.set{l:Array Bool}{m n i:Nat}(h:Gw l m n)(hi:i<n):Gw (l.setIfInBounds i true) (QZ m i) n:=
 ⟨by simpa using h.size,fun k=>by rw[Oz (by rw[h.size];exact hi),Sr,h.get]⟩
theorem Gw.ABw{n:Nat}:∀{js:List Nat} {l:Array Bool} {m:Nat},Gw l m n->(∀j∈js,j<n)->Gw (B7 l js) (XI m js) n
 |[],_,_,h,_=>h
 |j::js,l,m,h,hj=>show Gw (B7 (l.setIfInBounds j true) js) (XI (QZ m j) js) n from Gw.ABw (h.set (hj j ax)) fun x hx=>hj x (ay _ hx)
theorem NB {l:Array Bool}{m n:Nat}(h:Gw l m n):∀es:List Edge,Ga m es=es.all fun e=> !Region.binds .any e||l.getD e.on false
 |[]=>rfl
 |e::r=>by
  rw[List.all_cons,<-NB h r,h.get];show (match Region.binds .any e with
   |true=>hasB m e.on&&Ga m r
   |false=>Ga m r)=_
  cases Region.binds .any e<;>rfl
theorem KU {ops:Array Oper}{l:Array Bool}{m:Nat}(h:Gw l m ops.size){k:Nat}{o:Oper}(ho:ops[k]?=some o):GG m k o=(!l.getD k true&&((ops[k]?).map (·.after.all fun e=> !Region.binds .any e||l.getD e.on false)).getD false):=by
 have hk:k<l.size:=by rw[h.size];exact (au.1 ho).1
 rw[Oy hk,h.get,ho];unfold GG;rw[NB h];simp
theorem NC {ops:Array Oper}{l:Array Bool}{m:Nat}(h:Gw l m ops.size):FW m ops.toList 0=Region.ready .any ops l:=by
 unfold Region.ready;have key:∀(r:List Oper) (k:Nat),ops.toList.drop k=r->FW m r k=((List.range' k r.length).filter fun i=> !l.getD i true&&((ops[i]?).map (·.after.all fun e=> !Region.binds .any e||l.getD e.on false)).getD false):=by
  intro r
  induction r with
  |nil=>intro k _;rfl
  |cons o r ih=>
   intro k hk;have ho:ops[k]?=some o:=by
    have:(ops.toList.drop k)[0]?=some o:=by rw[hk];rfl
    rw[cF,Nat.add_zero]at this;simpa using this
   have hr:ops.toList.drop (k+1)=r:=by
    rw[<-bc,hk]
    rfl
   rw[ar,List.range'_succ,List.filter_cons,<-KU h ho];unfold FW;cases GG m k o with
   |true=>rw[aD rfl,ih _ hr]
   |false=>rw[az (by decide),ih _ hr]
 rw[key ops.toList 0 rfl,List.range_eq_range',bL]
theorem ZM {ops:Array Oper}{l:Array Bool}{m i:Nat}{oi:Oper}(h:Gw l m ops.size)(hi:ops[i]?=some oi)(hf:Mw ops m i oi ops.toList 0=true):Region.free .any ops l i=true:=by
 have key:∀(r:List Oper) (k:Nat),Mw ops m i oi r k=true->∀(j:Nat) (o:Oper),r[j]?=some o->(Nat.beq (k+j) i||hasB m (k+j)||(o.after.toList.any fun e=>Nat.beq e.on i&&Region.binds .any e)||oi.apart ops o)=true:=by
  intro r
  induction r with
  |nil=>intro k _ j o hj;simp at hj
  |cons x r ih=>
   intro k hk j o hj;unfold Mw at hk;rw[aj]at hk;cases j with
   |zero=>
    have:x=o:=by simpa using hj
    subst this;exact hk.1
   |succ j=>
    have:=ih (k+1) hk.2 j o (by simpa using hj);rw[show k+(j+1)=k+1+j by omega];exact this
 simp only[Region.free,hi,aJ,cw];intro j hj;have mq:ops[j]?=some ops[j]:=bQ hj;have h1:=key _ _ hf j ops[j] (by simp[hj]);rw[ah]at h1;rw[mq];simp only[bI]at h1⊢;rcases h1 with ((h1|h1)|h1)|h1
 ·have:j=i:=by simpa using h1
  exact .inl (.inl (by simpa using this))
 ·rw[Oy (by rw[h.size];exact hj),h.get];exact .inl (.inr h1)
 ·refine .inr (.inl ?_);rw[<-Array.any_toList];obtain ⟨e,he,hb⟩:=List.any_eq_true.1 h1;refine List.any_eq_true.2 ⟨e,he,?_⟩;simp only[aj]at hb⊢;exact ⟨hb.2,by simpa using hb.1⟩
 ·exact .inr (.inr h1)
theorem Io {n:Nat}:∀(es:List Edge) (l:Array Bool) (m:Nat),l.size=n->(∀k,k<n->l.getD k false=hasB m k)->(KL es l).size=n/\∀k,k<n->(KL es l).getD k false=hasB (Oq es m) k
 |[],l,m,hs,h=>⟨hs,h⟩
 |e::r,l,m,hs,h=>by
  have hm:KL (e::r) l=KL r (match Region.binds .any e with|true=>l.setIfInBounds e.on true|false=>l):=rfl;rw[hm];unfold Oq;cases Region.binds .any e with
  |false=>exact Io r l m hs h
  |true=>
   refine Io r _ _ (by simpa using hs) fun k hk=>?_
   rw[Sr];by_cases ho:e.on<n
   ·rw[Oz (by rw[hs];exact ho),h k hk]
   ·rw[aH (by omega),Bool.or_false,<-h k hk];exact DX _ _ _ (by omega)
theorem ND {ops:Array Oper}:∀(k:Nat) (l:Array Bool) (m:Nat),k<=ops.size->l.size=ops.size->(∀k,k<ops.size->l.getD k false=hasB m k)->∀i,i<ops.size->(Y9 ops k l).getD i false=hasB (SW ops k m) i
 |0,l,m,_,_,h,i,hi=>h i hi
 |k+1,l,m,hk,hs,h,i,hi=>by
  unfold Y9 SW;rw[h k (by omega)];cases hb:hasB m k with
  |false=>exact ND k l m (by omega) hs h i hi
  |true=>
   rw[bQ (show k<ops.size by omega)];obtain ⟨h1,h2⟩:=Io (ops[k]).after.toList l m hs h;exact ND k _ _ (by omega) h1 h2 i hi
theorem mu {ops:Array Oper}{j i:Nat}(hi:i<ops.size)(h:hasB (vF ops j) i=true):pz ops j i=true:=by
 unfold vF at h;unfold pz;split at h
 ·rename_i o ho;have hj:=(au.1 ho).1;obtain ⟨h1,h2⟩:=Io (n:=ops.size) o.after.toList (Array.replicate ops.size false) 0 (by simp) fun k hk=>by
   rw[Jj,bF,Array.getElem?_replicate,aD hk]
   rfl
  rw[ND j _ _ (by omega) h1 h2 i hi];exact h
 ·rw[Jj]at h;cases h
theorem XP:∀{l k:List Nat},ZA l k=true->l=k
 |[],[],_=>rfl
 |[],_::_,h=>by simp[ZA]at h
 |_::_,[],h=>by simp[ZA]at h
 |x::r,y::q,h=>by
  unfold ZA at h;rw[aj]at h;rw[beq_eq h.1,XP h.2]
theorem E5 {ops:Array Oper}:∀{x:Od} {pre J:List Nat} {m:Nat} {l:Array Bool},Fe ops x pre J m=true->Gw l m ops.size->GF ops x pre J l=true
 | .done,pre,J,m,l,h,hb=>by
  unfold Fe at h;unfold GF;rw[<-NC hb];exact h
 | .take i r,pre,J,m,l,h,hb=>by
  unfold Fe at h;unfold GF;split at h
  ·cases h
  ·rename_i o ho;have hi:=(au.1 ho).1;simp only[aj]at h⊢;obtain ⟨⟨⟨⟨h1,h2⟩,h3⟩,h4⟩,h5⟩:=h;refine ⟨⟨⟨h1,ZM hb ho h3,?_⟩,?_⟩,E5 h5 (hb.set hi)⟩
   ·rw[KU hb ho]at h2;rw[aY];exact cH.2 ⟨cw.2 hi,h2⟩
   ·rw[bI]at h4⊢;rcases h4 with h4|h4
    ·exact .inl h4
    ·exact .inr (aJ.2 fun j hj=>mu hi (aJ.1 h4 j hj))
 | .BF i fl r,pre,J,m,l,h,hb=>by
  unfold Fe at h;unfold GF;rw[aj]at h⊢;have h1:=XP h.1;rw[NC hb]at h1;have hi:i<ops.size:=by
   have:i∈Region.ready .any ops l:=by rw[h1];simp
   exact cw.1 (cH.1 this).1
  exact ⟨by rw[h1];simp,E5 h.2 (hb.set hi)⟩
 | .Kl i fl r more,pre,J,m,l,h,hb=>by
  unfold Fe at h;unfold GF;simp only[aj]at h⊢;have hi:i<ops.size:=by
   have:=bp h.1.1;omega
  exact ⟨E5 h.1.2 (hb.set hi),E5 h.2 hb⟩
 | .mono js r,pre,J,m,l,h,hb=>by
  unfold Fe at h;unfold GF;simp only[aj]at h⊢;refine ⟨⟨h.1.1,aJ.2 fun j hj=>?_⟩,E5 h.2 (hb.ABw fun j hj=>?_)⟩
  ·have:=aJ.1 h.1.2 j hj;rw[aj]at this;exact this.1
  ·have:=aJ.1 h.1.2 j hj;rw[aj]at this;have:=bp this.2;omega
theorem Gw.start(n:Nat):Gw (Array.replicate n false) 0 n:=⟨by simp,fun k=>by
 rw[Jj,bF];by_cases h:k<n
 ·simp[h]
 ·simp[h]⟩
theorem Db (hF:Ac P F.ok){ops:Array Oper}{G:Act->World->Prop}(Il:Region.noSelect ops=true)(hd:CC N ops.toList){K:Env->World->Prop}{a0:Act}
  (hG:∀E' a' w',K E' w'->Fits N E' a'->frame ops.toList a0 a'->G a' w'):
  ∀(x:Od) (pre:List Nat) (J:List Nat) (S:World->Prop) (listed:Array Bool) (E:Env) (w:World) (a:Act) (fuel:Nat),GF ops x pre J listed=true->x.depth<=fuel->S w->DN ops listed->
  Du P F ops x J S listed E w K->Fits N E a->frame ops.toList a0 a->
  (pre=[]->CP P ops (HQ P F N ops a0 G) J S fuel listed a w)/\
  (pre≠[]->∀f,fuel=f+1->Region.ready .any ops listed≠[]/\∀i∈Region.ready .any ops listed,i∉pre->
   if J.contains i=true then wpOp P ops (HQ P F N ops a0 G) i (fun a' w'=>wpAny P .any ops (HQ P F N ops a0 G) f (listed.setIfInBounds i true) a' w') a w
   else wpOp P ops (HQ P F N ops a0 G) i (fun a' w'=>S w'/\CP P ops (HQ P F N ops a0 G) J S f (listed.setIfInBounds i true) a' w') a w)
 | .done,pre,J,S,listed,E,w,a,fuel,he,_,hS,Qe,h,hf,JC=>by
  unfold Du at h;unfold GF at he;simp only[aj,List.isEmpty_iff]at he;refine ⟨fun _=>?_,fun hp=>absurd he.1 hp⟩;cases fuel with
  |zero=>exact ⟨he.2,.inl ⟨rfl,hG _ _ _ h hf JC⟩⟩
  |succ f=>exact ⟨fun _=> .inl ⟨rfl,hG _ _ _ h hf JC⟩,by rw[he.2];simp⟩
 | .take i r,pre,J,S,listed,E,w,a,fuel,Ja,VX,hS,Qe,h,hf,JC=>by
  unfold Du at h;unfold GF at Ja;obtain ⟨fuel,rfl⟩:∃n,fuel=n+1:=⟨fuel-1,by simp only[Od.depth]at VX;omega⟩
  have iP:r.depth<=fuel:=by simp only[Od.depth]at VX;omega
  split at h
  ·exact h.elim
  rename_i o ho;have Bt:o∈ops.toList:=by
   have:=cA ho;simpa using this
  have hdo:=hd o Bt;have Hg:∀(v:Value),frame ops.toList a0 (a.put o.dst v):=fun v=>JC.put Bt
  rw[ho]at Ja;dsimp only at Ja;simp only[aj,List.isEmpty_iff]at Ja;obtain ⟨⟨⟨hp,XM,gS⟩,hJ⟩,Ja⟩:=Ja;refine ⟨fun _=>?_,fun pq=>absurd hp pq⟩;have ABy:i∈Region.ready .any ops listed:=by simpa using gS
  have go:∀(E':Env) (v:Value),Gf P ops J S i o v a->Fits N E' a->Du P F ops r J S (listed.setIfInBounds i true) (E'.put o.dst v) w K->
    CP P ops (HQ P F N ops a0 G) J S (fuel+1) listed a w:=fun E' v hy BO hr=>
   Qd ho (Region.noSelect_spec Il) (fun c a w h=>h.Sk Bt) fuel listed a w (Region.free_spec ho XM) Qe ABy hy hS
    ((Db hF Il hd hG r [] J S _ _ w _ fuel Ja iP hS (Qe.set ABy) hr (BO.put hdo) (Hg v)).1 rfl)
  rcases BS h hf with ⟨hw,E',BO,hy⟩|⟨hw,E',BO,hn⟩
  ·split at hy
   ·rename_i Az;simp only[aj]at Az;cases hl:Mv o.op with
    |false=>
     obtain ⟨v,h1,h2⟩:=ZL Az.2 hl hy;exact go E' v (.inl (.inl ⟨hw,fun w2=>by rw[Af BO Az.1];exact h1 w2⟩)) BO h2
    |true=>
     obtain ⟨v,h1,h2⟩:=iM Az.2 hy;refine go E' v (.inr ⟨.inl ⟨hw,fun w2 uA=>by rw[Af BO Az.1];exact h1 w2 uA⟩,fun j hj=>?_⟩) BO h2;rw[hl]at hJ;simp only[Bool.not_true,Bool.false_or,aJ]at hJ;exact hJ j hj
   ·exact hy.elim
  ·exact go E' undef (.inl (.inr ⟨hw,rfl⟩)) BO hn
 | .BF i fl r,pre,J,S,listed,E,w,a,fuel,Ja,VX,hS,Qe,h,hf,JC=>by
  unfold Du at h;unfold GF at Ja;obtain ⟨fuel,rfl⟩:∃n,fuel=n+1:=⟨fuel-1,by simp only[Od.depth]at VX;omega⟩
  have iP:r.depth<=fuel:=by simp only[Od.depth]at VX;omega
  split at h
  ·exact h.elim
  rename_i o ho;have Bt:o∈ops.toList:=by
   have:=cA ho;simpa using this
  have hdo:=hd o Bt;have Hg:∀(v:Value),frame ops.toList a0 (a.put o.dst v):=fun v=>JC.put Bt
  simp only[aj]at Ja;obtain ⟨gS,Ja⟩:=Ja;have j7:∀v w',F.pk v w'->HQ P F N ops a0 G (.panic (AW v)) a w':=fun v w' hv=> .inr ⟨v,rfl,hv,hf.some,JC⟩
  have gS:Region.ready .any ops listed=pre++[i]:=by simpa using gS
  have VG:i∈Region.ready .any ops listed:=by rw[gS];simp
  have hbr:=XN (Q:=HQ P F N ops a0 G) (fuel:=fuel) (listed:=listed) hF ho hS hf hdo j7 h fun S E' v w' hk mr BO=>
   (Db hF Il hd hG r [] (fl.getD J) S _ E' w' _ fuel Ja iP mr (Qe.set VG) hk BO (Hg v)).1 rfl
  have Bg:Region.ready .any ops listed≠[]:=fun h0=>by rw[h0]at VG;cases VG
  refine ⟨fun hp=>⟨fun h0=>absurd h0 Bg,fun j hj=>?_⟩,fun hp f hff=>⟨Bg,fun j hj hjp=>?_⟩⟩
  ·rw[gS,hp]at hj;have:j=i:=by simpa using hj
   subst this;exact hbr
  ·cases hff;rw[gS]at hj;have:j=i:=by
    rcases aS.1 hj with h|h
    ·exact absurd h hjp
    ·simpa using h
   subst this;exact hbr
 | .Kl i fl r more,pre,J,S,listed,E,w,a,fuel,Ja,VX,hS,Qe,h,hf,JC=>by
  unfold Du at h;unfold GF at Ja;obtain ⟨fuel,rfl⟩:∃n,fuel=n+1:=⟨fuel-1,by simp only[Od.depth]at VX;omega⟩
  have iP:r.depth<=fuel:=by simp only[Od.depth]at VX;omega
  split at h
  ·exact h.elim
  rename_i o ho;have Bt:o∈ops.toList:=by
   have:=cA ho;simpa using this
  have hdo:=hd o Bt;have Hg:∀(v:Value),frame ops.toList a0 (a.put o.dst v):=fun v=>JC.put Bt
  obtain ⟨h,hm⟩:=h;simp only[aj]at Ja;have j7:∀v w',F.pk v w'->HQ P F N ops a0 G (.panic (AW v)) a w':=fun v w' hv=> .inr ⟨v,rfl,hv,hf.some,JC⟩
  have hbr:=fun VG:i∈Region.ready .any ops listed=>XN (Q:=HQ P F N ops a0 G) (fuel:=fuel) (listed:=listed) hF ho hS hf hdo j7 h fun S E' v w' hk mr BO=>
    (Db hF Il hd hG r [] (fl.getD J) S _ E' w' _ fuel Ja.1 iP mr (Qe.set VG) hk BO (Hg v)).1 rfl
  have uw:=(Db hF Il hd hG more (pre++[i]) J S listed E w a (fuel+1) Ja.2 (by simp only[Od.depth]at VX;omega) hS Qe hm hf JC).2 (by simp) fuel rfl;refine ⟨fun hp=>⟨fun h0=>absurd h0 uw.1,fun j hj=>?_⟩,fun _ f hff=>⟨uw.1,fun j hj hjp=>?_⟩⟩
  ·by_cases KX:j=i
   ·subst KX;exact hbr hj
   ·exact uw.2 j hj (by simp[hp,KX])
  ·cases hff;by_cases KX:j=i
   ·subst KX;exact hbr hj
   ·exact uw.2 j hj (by simp[hjp,KX])
 | .mono js r,pre,J,S,listed,E,w,a,fuel,Ja,VX,hS,Qe,h,hf,JC=>by
  unfold Du at h;unfold GF at Ja;split at h
  case h_2=>exact h.elim
  rename_i Bo;simp only[aj,List.isEmpty_iff]at Ja;obtain ⟨⟨hp,hJ⟩,Ja⟩:=Ja;refine ⟨fun _=>?_,fun pq=>absurd hp pq⟩;obtain ⟨le,B,hB,h⟩:=h;obtain ⟨Gs,xr,UE,hI,JU⟩:=M9 js [] h (fun e he=>by cases he);simp only[br,ae]at UE;have UB:=(KT Bo).2.2.1;have vT:∀j∈js,listed.getD j false=false:=fun j hj=>by
   obtain ⟨o,_,_,h,_⟩:=UB j hj;cases hx:listed.getD j false with
   |false=>rfl
   |true=>
    have:j<listed.size:=by
     rcases cn j listed.size with h'|h'
     ·exact h'
     ·simp[bJ h']at h
    simp[Array.getD,this]at h hx;rw[h]at hx;cases hx
  have hlen:(js.filter fun j=> !listed.getD j false).length=js.length:=by
   rw[List.filter_eq_self.2 fun j hj=>by rw[vT j hj];rfl]
  refine iO hF (n:=r.depth) hd (fun j hj=>by simpa using aJ.1 hJ j hj) Bo xr UE hI (fun a' w' AB0 hn mr vS AOB Hg key=>?_) js.length listed a w fuel hlen (by simpa[Od.depth]using VX) rfl (fun k hk=> .inl hk) (fun k hk=>hk) Qe hS hB hf JC
   fun e he hl=>by
    have:e.j∈js:=by rw[<-UE];exact b6 he
    rw[vT e.j this]at hl;cases hl
  obtain ⟨E',BO,hk⟩:=key _ (JU w' mr vS);exact (Db hF Il hd hG r [] J S _ E' w' a' AB0 Ja hn mr AOB hk BO Hg).1 rfl
theorem mv (hF:Ac P F.ok)(hm:P.follows .mixedOrders=true){m:SX}{id:Nat}{ops:Array Oper}{d:Bool}{E:Env}{w:World}{K:Env->World->Prop}{a:Act}
  (h:vG P F m ops d E w K) (hf:Fits N E a) (hd:CC N ops.toList):
  (Code.region id ops d).wp P (HQ P F N ops a fun a' w'=>∃E',K E' w'/\Fits N E' a'/\frame ops.toList a a') a w:=by
 unfold vG at h;split at h
 ·exact wp_region_list (Gd hF _ _ _ _ _ h hf hd (fun E' a' w' h1 h2 h3=> .inl ⟨rfl,E',h1,h2,h3⟩) fun v a' w' h1 h2 h3=> .inr ⟨v,rfl,h1,h2,h3⟩)
 ·split at h
  ·rename_i hB;exact wp_region_still hm hB (Cn _ _ w.drew _ _ h hf hd fun E' a' h1 h2 h3=> .inl ⟨rfl,E',h1,h2,h3⟩)
  ·exact h.elim
 ·rename_i n;split at h
  ·rename_i hB;obtain ⟨l⟩:=ops;have s1:∀o∈l.take n,o∈l:=fun o ho=>List.mem_of_mem_take ho
   have s2:∀o∈l.drop n,o∈l:=fun o ho=>List.mem_of_mem_drop ho
   refine wp_region_still_tail (l:=l) n hm hB (Cn _ _ w.drew _ _ h hf (fun o ho=>hd o (s1 o ho)) fun E' a' h1 h2 h3=>?_);exact Gd hF _ _ _ _ _ h1 h2 (fun o ho=>hd o (s2 o ho)) (fun Gv JB BG g1 g2 g3=> .inl ⟨rfl,Gv,g1,g2,(h3.sub s1).trans (g3.sub s2)⟩) fun v JB BG g1 g2 g3=> .inr ⟨v,rfl,g1,g2,(h3.sub s1).trans (g3.sub s2)⟩
  ·exact h.elim
 ·rename_i J o;split at h
  ·rename_i hB;simp only[aj]at hB;have key:∀S:World->Prop,S w.drew->Du P F ops o J S (Array.replicate ops.size false) E w.drew K->
     (Code.region id ops true).wp P (HQ P F N ops a fun a' w'=>∃E',K E' w'/\Fits N E' a'/\frame ops.toList a a') a w:=fun S hS h=>
    wp_region_any hm (Dx _ _ _ _ ((Db hF hB.1.1 hd (G:=fun a' w'=>∃E',K E' w'/\Fits N E' a'/\frame ops.toList a a') (fun E' a' w' h1 h2 h3=>⟨E',h1,h2,h3⟩) o [] J S _ E w.drew a ops.size (E5 hB.2 (Gw.start _))
     (bp hB.1.2) hS (DN.start _ _) h hf (frame.refl _ _)).1 rfl))
   unfold xo at h;split at h
   ·obtain ⟨S,hS,h⟩:=h;exact key S hS h
   ·exact key _ trivial h
  ·exact h.elim
 ·exact wp_region_list (Ge hF _ _ _ _ _ h hf hd (fun E' a' w' h1 h2 h3=> .inl ⟨rfl,E',h1,h2,h3⟩) fun v a' w' h1 h2 h3=> .inr ⟨v,rfl,h1,h2,h3⟩)
 ·rename_i n;split at h
  ·rename_i hB;obtain ⟨l⟩:=ops;have s1:∀o∈l.take n,o∈l:=fun o ho=>List.mem_of_mem_take ho
   have s2:∀o∈l.drop n,o∈l:=fun o ho=>List.mem_of_mem_drop ho
   refine wp_region_still_tail (l:=l) n hm hB (Cn _ _ w.drew _ _ h hf (fun o ho=>hd o (s1 o ho)) fun E' a' h1 h2 h3=>?_);exact Ge hF _ _ _ _ _ h1 h2 (fun o ho=>hd o (s2 o ho)) (fun Gv JB BG g1 g2 g3=> .inl ⟨rfl,Gv,g1,g2,(h3.sub s1).trans (g3.sub s2)⟩) fun v JB BG g1 g2 g3=> .inr ⟨v,rfl,g1,g2,(h3.sub s1).trans (g3.sub s2)⟩
  ·exact h.elim
 ·exact h.elim
def Ad (N:Nat):Code->Bool
 | .region _ ops _=>ops.toList.all fun o=>match o.dst with
  |some d=>Nat.blt d N
  |none=>true
 | .seq a b=>Ad N a&&Ad N b
 | .cond _ a b=>Ad N a&&Ad N b
 | .block _ a=>Ad N a
 | .loop a=>Ad N a
 |_=>true
theorem EH {ops:Array Oper}{id:Nat}{d:Bool}(h:Ad N (.region id ops d)=true):CC N ops.toList:=fun o ho t ht=>by
 simp only[Ad,aJ]at h;have:=h o ho;rw[ht]at this;have h2:t+1<=N:=by simpa[Nat.blt]using this
 exact h2
theorem O0 {ops:Array Oper}{id:Nat}{d:Bool}{t:Nat}(h:wr t (.region id ops d)=false):∀o∈ops.toList,o.dst≠some t:=fun o ho e=>by
 simp only[wr,List.any_eq_false]at h;have:=h o ho;rw[e]at this;simp at this
def M1 (N:Nat)(E:Env)(a:Act):Prop:=∀p∈E,p.1<N/\a.tmps.getD p.1 undef=p.2
theorem iQ {E:Env}{t:Nat}{v:Value}(h:E.get? t=some v):(t,v)∈E:=by
 induction E with
 |nil=>cases h
 |cons p E ih=>
  obtain ⟨u,x⟩:=p;simp only[Env.get?]at h;split at h
  ·rename_i hb;cases h;rw[beq_eq hb];exact ax
  ·exact ay _ (ih h)
theorem M1.fits{E:Env}{a:Act}(h:M1 N E a)(hs:a.tmps.size=N):Fits N E a:=⟨hs,fun t v hv=>h (t,v) (iQ hv)⟩
theorem Ss {E:Env}{a:Act}(hf:Fits N E a):∀(ts:List Nat) (vs:List Value),Env.Ds E ts=some vs->M1 N (Env.zip ts vs) a
 |[],vs,_,p,hp=>by cases vs<;>cases hp
 |t::ts,vs,h,p,hp=>by
  simp only[Env.Ds]at h;split at h
  ·rename_i v vs' hv pY;cases h;rcases aw.1 hp with rfl|hp
   ·exact hf.get _ _ hv
   ·exact Ss hf ts vs' pY p hp
  ·cases h
theorem CE {E:Env}{a a':Act}(hf:Fits N E a):∀(ks:List Nat),(∀t∈ks,a'.tmps.getD t undef=a.tmps.getD t undef)->M1 N (Env.AB E ks) a'
 |[],_,p,hp=>by cases hp
 |t::ks,h,p,hp=>by
  have ih:=CE hf ks fun u hu=>h u (ay _ hu)
  simp only[Env.AB]at hp;split at hp
  ·rename_i v hv;rcases aw.1 hp with rfl|hp
   ·obtain ⟨h1,h2⟩:=hf.get _ _ hv;exact ⟨h1,by rw[h t ax];exact h2⟩
   ·exact ih p hp
  ·exact ih p hp
theorem Ez {AB:List Nat}{c:Code}(h:Cl AB c=true):∀t∈AB,wr t c=false:=fun t ht=>by
 simpa using aJ.1 h t ht
theorem Co {live:List (Nat×Ty)}{E:Env}{K:Sg (live.map (·.2))->Prop}(h:EF live E K):
  ∃s,K s/\∀a,Fits N E a->M1 N (EG live s) a:=by
 unfold EF at h;split at h
 ·rename_i vs pY;split at h
  ·rename_i s hs;refine ⟨s,h,fun a hf=>?_⟩;unfold EG;rw[Sg.O1 _ _ _ hs];exact Ss hf _ _ pY
  ·exact h.elim
 ·exact h.elim
theorem CF {A B:Env}{a:Act}(hA:M1 N A a)(hB:M1 N B a)(hs:a.tmps.size=N):Fits N (A++B) a:=
 M1.fits (fun p hp=>(aS.1 hp).elim (hA p) (hB p)) hs
def Ay (c:Code)(a0 a':Act):Prop:=(∀t,wr t c=false->a'.tmps.getD t undef=a0.tmps.getD t undef)/\a'.defers=a0.defers
theorem Ay.refl(c:Code)(a:Act):Ay c a a:=⟨fun _ _=>rfl,rfl⟩
theorem Ay.sub{c d:Code}{a b:Act}(h:Ay c a b)(hs:∀t,wr t d=false->wr t c=false):Ay d a b:=⟨fun t ht=>h.1 t (hs t ht),h.2⟩
theorem Ay.trans{c:Code}{a b e:Act}(h:Ay c a b)(k:Ay c b e):Ay c a e:=⟨fun t ht=>by rw[k.1 t ht];exact h.1 t ht,by rw[k.2];exact h.2⟩
def ZN (N:Nat)(F:Fx)(c:Code)(K:Exit->Env->World->Prop)(a0:Act)(e:Exit)(a':Act)(w':World):Prop:=
 (∃E',K e E' w'/\Fits N E' a'/\Ay c a0 a')\/∃v,e= .panic (AW v)/\F.pk v w'/\Fits N [] a'/\Ay c a0 a'
theorem Ip {E:Env}{a:Act}(hf:Fits N E a){x:Operand}{b:Bool}(h:E.Ai x= .bool b):a.eval x= .bool b:=by
 rw[<-h];refine hf.Ai ?_;cases x with
 |tmp t=>
  simp only[Env.has];cases hg:E.get? t with
  |none=>simp[Env.Ai,hg,undef]at h
  |some v=>rfl
 |_=>rfl
theorem GI (hF:Ac P F.ok)(hm:P.follows .mixedOrders=true):∀(c:Code) (pl:Ah) (E:Env) (w:World) (K:Exit->Env->World->Prop) (a:Act),
  CA P F pl c E w K->Fits N E a->Ad N c=true->c.wp P (ZN N F c K a) a w:=by
 intro c
 induction c with
 |region id ops d=>
  intro pl E w K a h hf hs;cases pl<;>try exact (show False from h).elim
  rename_i m;have mZ:∀{a':Act},frame ops.toList a a'->Ay (.region id ops d) a a':=fun h=>⟨fun t ht=>h.1 t (O0 ht),h.2⟩
  refine wp_mono (mv hF hm h hf (EH hs)) fun e a' w' hq=>?_
  rcases hq with ⟨he,E',h1,h2,h3⟩|⟨v,he,h1,h2,h3⟩
  ·exact .inl ⟨E',by subst he;exact h1,h2,mZ h3⟩
  ·exact .inr ⟨v,he,h1,h2,mZ h3⟩
 |skip=>
  intro pl E w K a h hf hs;cases pl<;>try exact (show False from h).elim
  exact wp_skip (.inl ⟨E,h,hf,Ay.refl _ _⟩)
 |label l=>
  intro pl E w K a h hf hs;cases pl<;>try exact (show False from h).elim
  exact wp_label (.inl ⟨E,h,hf,Ay.refl _ _⟩)
 |exit id=>
  intro pl E w K a h hf hs;cases pl<;>try exact (show False from h).elim
  exact wp_exit (.inl ⟨E,h,hf,Ay.refl _ _⟩)
 |ret=>
  intro pl E w K a h hf hs;cases pl<;>try exact (show False from h).elim
  exact wp_ret (.inl ⟨E,h,hf,Ay.refl _ _⟩)
 |seq c d iH iI=>
  intro pl E w K a h hf hs;simp only[Ad,aj]at hs;have iR:∀t,wr t (.seq c d)=false->wr t c=false/\wr t d=false:=fun t ht=>by simpa[wr]using ht
  have sc:∀{a b:Act},Ay c a b->Ay (.seq c d) a b:=fun h=>h.sub fun t ht=>(iR t ht).1
  have sd:∀{a b:Act},Ay d a b->Ay (.seq c d) a b:=fun h=>h.sub fun t ht=>(iR t ht).2
  have post:∀{a':Act} {e:Exit} {JB:Act} {BG:World},Ay c a a'->ZN N F d K a' e JB BG->ZN N F (.seq c d) K a e JB BG:=fun h3 hq=>by
   rcases hq with ⟨Gv,g1,g2,g3⟩|⟨v,g0,g1,g2,g3⟩
   ·exact .inl ⟨Gv,g1,g2,(sc h3).trans (sd g3)⟩
   ·exact .inr ⟨v,g0,g1,g2,(sc h3).trans (sd g3)⟩
  cases pl<;>try exact (show False from h).elim
  ·rename_i p q;refine wp_seq (wp_mono (iH p E w _ a h hf hs.1) fun e a' w' hq=>?_);rcases hq with ⟨E',h1,h2,h3⟩|⟨v,rfl,h1,h2,h3⟩
   ·cases e<;>try exact .inl ⟨E',h1,h2,sc h3⟩
    exact wp_mono (iI q E' w' K a' h1 h2 hs.2) fun e JB BG hq=>post h3 hq
   ·exact .inr ⟨v,rfl,h1,h2,sc h3⟩
  ·rename_i live AB p q
   replace h:match Cl AB c with
    |true=>As (fun s w=>CA P F q d (EG live s++Env.AB E AB) w K) fun J=>CA P F p c E w fun e E w=>match e with
     | .normal=>EF live E fun s=>J s w
     |e=>K e E w
    |false=>False:=h
   split at h
   ·rename_i hk;obtain ⟨J,hb,JC⟩:=h;refine wp_seq (wp_mono (iH p E w _ a JC hf hs.1) fun e a' w' hq=>?_);rcases hq with ⟨E',h1,h2,h3⟩|⟨v,rfl,h1,h2,h3⟩
    ·cases e<;>try exact .inl ⟨E',h1,h2,sc h3⟩
     obtain ⟨s,hJ,Qn⟩:=Co (N:=N) h1;have G9:Fits N (EG live s++Env.AB E AB) a':=CF (Qn a' h2) (CE hf AB fun t ht=>h3.1 t (Ez hk t ht)) h2.size;exact wp_mono (iI q _ w' K a' (hb s w' hJ) G9 hs.2) fun e JB BG hq=>post h3 hq
    ·exact .inr ⟨v,rfl,h1,h2,sc h3⟩
   ·exact h.elim
 |cond x c d iH iI=>
  intro pl E w K a h hf hs;simp only[Ad,aj]at hs;have iR:∀t,wr t (.cond x c d)=false->wr t c=false/\wr t d=false:=fun t ht=>by simpa[wr]using ht
  have sc:∀{a b:Act},Ay c a b->Ay (.cond x c d) a b:=fun h=>h.sub fun t ht=>(iR t ht).1
  have sd:∀{a b:Act},Ay d a b->Ay (.cond x c d) a b:=fun h=>h.sub fun t ht=>(iR t ht).2
  cases pl<;>try exact (show False from h).elim
  rename_i p q
  replace h:match E.Ai x with
   | .bool b=>Br b (CA P F p c E w K) (CA P F q d E w K)
   |_=>False:=h
  split at h
  ·rename_i b hb;rcases Ik h with ⟨rfl,h⟩|⟨rfl,h⟩
   ·refine wp_cond_true (Ip hf hb) (wp_mono (iH p E w K a h hf hs.1) fun e a' w' hq=>?_);rcases hq with ⟨E',h1,h2,h3⟩|⟨v,h0,h1,h2,h3⟩
    ·exact .inl ⟨E',h1,h2,sc h3⟩
    ·exact .inr ⟨v,h0,h1,h2,sc h3⟩
   ·refine wp_cond_false (Ip hf hb) (wp_mono (iI q E w K a h hf hs.2) fun e a' w' hq=>?_);rcases hq with ⟨E',h1,h2,h3⟩|⟨v,h0,h1,h2,h3⟩
    ·exact .inl ⟨E',h1,h2,sd h3⟩
    ·exact .inr ⟨v,h0,h1,h2,sd h3⟩
  ·exact h.elim
 |block id c ih=>
  intro pl E w K a h hf hs;have sc:∀{a b:Act},Ay c a b->Ay (.block id c) a b:=fun h=>h.sub fun t ht=>by simpa[wr]using ht
  cases pl<;>try exact (show False from h).elim
  rename_i p;refine wp_block (wp_mono (ih p E w _ a h hf hs) fun e a' w' hq=>?_);rcases hq with ⟨E',h1,h2,h3⟩|⟨v,rfl,h1,h2,h3⟩
  ·cases e with
   |exit i=>
    replace h1:match Nat.beq i id with
     |true=>K .normal E' w'
     |false=>K (.exit i) E' w':=h1
    show if i=id then _ else _
    cases hb:Nat.beq i id with
    |true=>rw[hb]at h1;rw[aD (beq_eq hb)];exact .inl ⟨E',h1,h2,sc h3⟩
    |false=>rw[hb]at h1;rw[az (fun e=>by subst e;simp at hb)];exact .inl ⟨E',h1,h2,sc h3⟩
   |_=>exact .inl ⟨E',h1,h2,sc h3⟩
  ·exact .inr ⟨v,rfl,h1,h2,sc h3⟩
 |loop c ih=>
  intro pl E w K a h hf hs;have sc:∀{a b:Act},Ay c a b->Ay (.loop c) a b:=fun h=>h.sub fun t ht=>by simpa[wr]using ht
  cases pl<;>try exact (show False from h).elim
  rename_i live AB p
  replace h:match Cl AB c with
   |true=>EF live E fun s0=>Lp (fun R s w=>CA P F p c (EG live s++Env.AB E AB) w fun e E w=>match e with
    | .normal=>EF live E fun s=>R s w
    |e=>K e E w) s0 w
   |false=>False:=h
  split at h
  ·rename_i hk;obtain ⟨s0,⟨I,n0,h0,Vr⟩,vU⟩:=Co (N:=N) h;refine wp_loop_ghost (fun n a' w'=>∃s,I n s w'/\Fits N (EG live s++Env.AB E AB) a'/\Ay c a a') n0
    ⟨s0,h0,CF (vU a hf) (CE hf AB fun _ _=>rfl) hf.size,Ay.refl _ _⟩ ?_
   rintro n a' w' ⟨s,hI,G9,JC⟩;refine wp_mono (ih p _ w' _ a' (Vr n s w' hI) G9 hs) fun e JB BG hq=>?_
   rcases hq with ⟨Gv,g1,g2,g3⟩|⟨v,rfl,g1,g2,g3⟩
   ·have Hg:=JC.trans g3;cases e<;>try exact .inl ⟨Gv,g1,g2,sc Hg⟩
    obtain ⟨s',⟨n',Av,hI'⟩,Qn⟩:=Co (N:=N) g1;exact ⟨n',Av,s',hI',CF (Qn JB g2) (CE hf AB fun t ht=>Hg.1 t (Ez hk t ht)) g2.size,Hg⟩
   ·exact .inr ⟨v,rfl,g1,g2,sc (JC.trans g3)⟩
  ·exact h.elim
 |_=>
  intro pl E w K a h hf hs;cases pl<;>exact (show False from h).elim
theorem mapM_cells {f:ResultVar->Sem Value}{w:World}:∀(l:List ResultVar) (vs:List Value),(∀(i:Nat) (r:ResultVar) (v:Value),l[i]?=some r->vs[i]?=some v->(f r).run P w= .ok v w)->l.length=vs.length->
  (l.mapM f).run P w= .ok vs w
 |[],[],_,_=>rfl
 |[],_::_,_,h=>by cases h
 |_::_,[],_,h=>by cases h
 |r::l,v::vs,h,hl=>by
  have h0:=h 0 r v rfl rfl;have ih:=mapM_cells l vs (fun i r v h1 h2=>h (i+1) r v (by simpa using h1) (by simpa using h2)) (by simpa using hl);simp only[List.mapM_cons,Sem.run_bind,h0,Result.andThen_ok,ih,Sem.run_pure]
def mw (a:Act)(r:ResultVar):Sem Value:=match r with
 | .tmp t=>pure (a.tmps.getD t undef)
 | .cell t ty=>do loadVar ty (<-asAddr (a.tmps.getD t undef))
theorem NF {E:Env}{w:World}{a:Act}(hf:Fits N E a):∀(l:List ResultVar) (K:List Value->Prop),OC P l E w K->
  ∃vs:List Value,l.length=vs.length/\(∀(i:Nat) (r:ResultVar) (v:Value),l[i]?=some r->vs[i]?=some v->(mw a r).run P w= .ok v w)/\K vs
 |[],K,h=>⟨[],rfl,by simp,h⟩
 | .tmp t::l,K,h=>by
  simp only[OC]at h;split at h
  ·rename_i v hv;obtain ⟨vs,h1,h2,h3⟩:=NF hf l _ h;refine ⟨v::vs,by simp[h1],fun i r u hi hu=>?_,h3⟩;cases i with
   |zero=>
    simp only[ct,bw]at hi hu;subst hi hu;simp only[mw,Sem.run_pure,(hf.get t v hv).2]
   |succ i=>exact h2 i r u (by simpa using hi) (by simpa using hu)
  ·exact h.elim
 | .cell t ty::l,K,h=>by
  simp only[OC]at h;split at h
  ·rename_i x hx;obtain ⟨v,g1,g2⟩:=Qb h;obtain ⟨vs,h1,h2,h3⟩:=NF hf l _ g2;refine ⟨v::vs,by simp[h1],fun i r u hi hu=>?_,h3⟩;cases i with
   |zero=>
    simp only[ct,bw]at hi hu;subst hi hu;have hxa:∃b,x= .pointer (some b):=by
     unfold xn at h;split at h
     ·exact ⟨_,rfl⟩
     ·exact h.elim
    obtain ⟨b,rfl⟩:=hxa;simp only[Instr.loadAt,Instr.sureAddr,Sem.run_bind,Sem.run_pure,Result.andThen_ok]at g1;simp only[mw,(hf.get t _ hx).2,asAddr,Sem.run_bind,Sem.run_pure,Result.andThen_ok,g1]
   |succ i=>exact h2 i r u (by simpa using hi) (by simpa using hu)
  ·exact h.elim
theorem O2 {a:Act}:∀(l:List Value) (i:Nat),(∀j v,l[j]?=some v->i+j<N/\a.tmps.getD (i+j) undef=v)->M1 N (SY i l) a
 |[],_,_,p,hp=>by cases hp
 |v::l,i,h,p,hp=>by
  rcases aw.1 hp with rfl|hp
  ·exact h 0 v rfl
  ·exact O2 l (i+1) (fun j u hj=>by have:=h (j+1) u (by simpa using hj);rw[show i+1+j=i+(j+1) by omega];exact this) p hp
theorem my (vs:List Value):(if h:vs.toArray.size=1 then vs.toArray[0]else Value.tuple vs.toArray)=Bw.Dt vs:=by
 match vs with
 |[]=>rfl
 |[v]=>rfl
 |_::_::_=>simp[Bw.Dt]
theorem Sd {n:Nat}{args:List Value}(hle:args.length<=n):Fits n (SY 0 args) {tmps:=args.toArray++Array.replicate (n-args.toArray.size) undef,defers:=[]}:=by
 refine M1.fits (O2 args 0 fun j v hj=>?_) (by simp;omega);have Av:j<args.length:=(ao.1 hj).1;refine ⟨by omega,?_⟩;have hv:args[j]=v:=(ao.1 hj).2;simp[Array.getD,Av,hv];intro h';omega
theorem FX {fn:Func}{E':Env}{a':Act}{w':World}{tys:List Ty}{R:Sg tys->World->Prop}(G9:Fits N E' a')(h:Jg P fn tys R E' w'):
  ∃v,(results fn a'.tmps).run P w'= .ok v w'/\∃s:Sg tys,Ending.returned v= .returned (Bw.Dt (Sg.Ds tys s))/\R s w':=by
 obtain ⟨vs,g1,g2,g3⟩:=NF G9 _ _ h;split at g3
 ·rename_i s hs;refine ⟨Bw.Dt vs,?_,s,by rw[Sg.O1 _ _ _ hs],g3⟩;have e:results fn a'.tmps=(do
    let vs<-fn.results.mapM (mw a')
    pure (if h:vs.size=1 then vs[0]else .tuple vs)):=rfl
  rw[e,Array.mapM_eq_mapM_toList];have:=mapM_cells (P:=P) (w:=w') fn.results.toList vs g2 g1;simp only[Sem.run_bind,Sem.run_map,this,Result.andThen_ok,Sem.run_pure,my]
 ·exact g3.elim
theorem GM {ok may:Nat->Bool}{pk:Value->World->Prop}(hF:Ac P ok)(hm:P.follows .mixedOrders=true){f:FuncId}{fn:Func}{pl:Ah}{args:List Value}{w:World}{tys:List Ty}{R:Sg tys->World->Prop}
  (hf:P.funcs[f]?=some fn) (hN:(match fn.body with
   |some c=>Ad fn.ntmps c
   |none=>false)=true) (ha:Nat.ble args.length fn.ntmps=true)
  (h:cM P ⟨ok,may,pk⟩ pl fn args w tys R):Calls P f args.toArray w fun e w'=>(∃s:Sg tys,e= .returned (Bw.Dt (Sg.Ds tys s))/\R s w')\/∃v,e= .panicked (AW v)/\pk v w':=by
 unfold cM at h;split at h
 ·exact h.elim
 ·rename_i c hc;rw[hc]at hN;refine calls_of_wp hf hc ?_;refine wp_mono (GI (F:=⟨ok,may,pk⟩) hF hm c pl _ w _ _ h (Sd (bp ha)) hN) fun e a' w' hq=>?_
  rcases hq with ⟨E',h1,h2,h3⟩|⟨v,rfl,h1,h2,h3⟩
  ·have fin:Jg P fn tys R E' w'->a'.defers=[]/\∃v,(results fn a'.tmps).run P w'= .ok v w'/\((∃s:Sg tys,Ending.returned v= .returned (Bw.Dt (Sg.Ds tys s))/\R s w')\/∃u,Ending.returned v= .panicked (AW u)/\pk u w'):=fun h=>by
    obtain ⟨v,g1,g2⟩:=FX h2 h;exact ⟨h3.2,v,g1,.inl g2⟩
   cases e with
   |normal=>exact fin h1
   |ret=>exact fin h1
   |_=>exact h1.elim
  ·exact ⟨h3.2,.inr ⟨v,rfl,h1⟩⟩
theorem Fw {ok may:Nat->Bool}(hF:Ac P ok)(hm:P.follows .mixedOrders=true){f:FuncId}{fn:Func}{pl:Ah}{args:List Value}{w:World}{tys:List Ty}{R:Sg tys->World->Prop}
  (hf:P.funcs[f]?=some fn) (hN:(match fn.body with
   |some c=>Ad fn.ntmps c
   |none=>false)=true) (ha:Nat.ble args.length fn.ntmps=true)
  (h:cM P ⟨ok,may,fun _ _=>False⟩ pl fn args w tys R):Calls P f args.toArray w fun e w'=>∃s:Sg tys,e= .returned (Bw.Dt (Sg.Ds tys s))/\R s w':=
 (GM hF hm hf hN ha h).mono fun e w' he=>he.elim id fun ⟨_,_,h⟩=>h.elim
end
end Sh
end Go.Proofs.YtmaekpnpnjndoaaGreatDoor

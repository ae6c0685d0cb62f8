/- Joined texts of the proof; conditions stand in each theorem. -/
import Derived.Test.YtdnhhkhbdfiagaaGreatDoorQYLpE1
import Derived.Test.YtdnhhkhbdfiagaaGreatDoorQYLpE2
import Derived.Test.YtdnhhkhbdfiagaaGreatDoorQYLpE3
import Derived.Shelf.Strings.Trim
import Derived.Shelf.Strings.SlTrimAscii
import Derived.Shelf.Strings.Search1
import Derived.Shelf.Strings.Search2
import Derived.Shelf.Strings.Prefix
import Derived.Shelf.Strings.Search3
import Derived.Shelf.LaysM
import Derived.Shelf.Strconv.Itoa4
import Derived.Shelf.Small.Strs
import Derived.Test.YtdnhhkhbdfiagaaGreatDoorProg
import Derived.Lib.SlTrimSet
import Derived.Lib.IndexLaws
import Derived.Lib.Bytes2
import Derived.IntWalk
import Derived.Below
import Derived.Laws.AppendOwn
import Derived.Laws.OwnMore
import Derived.Laws.BytesString
import Derived.Laws.BytesArg
import Derived.Laws.MakeOwn
import Derived.OpenShut
import Derived.ChangeArms
import Derived.WideShapes
import Derived.Test.YtdnhhkhbdfiagaaGreatDoorRows
import Derived.Laws.RangeString
import Derived.Lib.ConvBytes
import Derived.Shelf.Strings.Builder1
import Derived.Shelf.Strings.Builder2
import Derived.WalkKit
set_option linter.unusedVariables false
set_option linter.unusedSimpArgs false
open Go.IntKind (wrap)
open Go.Proofs.Tryz (prog)
namespace Go.Proofs.YtdnhhkhbdfiagaaGreatDoor
set_option maxRecDepth 100000
section
open Sh
def C97 (x1:Int):=K1 Value.bool 97 #[.int .i64 x1]
def C60 (x1:Int)(y2:Int):=K1 vi 60 #[.int .i64 x1,.int .i64 y2]
def C59 (a1:Int×Int×Int×Int)(b2:Int×Int×Int×Int):=K1 vi 59 #[.agg #[.int .i64 (a1.1),.int .i64 (a1.2.1),.int .i64 (a1.2.2.1),.int .i64 (a1.2.2.2)],.agg #[.int .i64 (b2.1),.int .i64 (b2.2.1),.int .i64 (b2.2.2.1),.int .i64 (b2.2.2.2)]]
def vK (AT:AA)(a2:Int)(b3:Int)(Pb:Value):=K0 167 #[AA.v AT,.int .i64 a2,.int .i64 b3,Pb]
def AJG (AT:AA)(a2:Int)(b3:Int)(Pb:Value):=K0 168 #[AA.v AT,.int .i64 a2,.int .i64 b3,Pb]
def AJH (AT:AA)(a2:Int)(b3:Int)(Pb:Value):=K0 169 #[AA.v AT,.int .i64 a2,.int .i64 b3,Pb]
def AJI (AT:AA)(a2:Int)(b3:Int)(Pb:Value):=K2 vi vi 170 #[AA.v AT,.int .i64 a2,.int .i64 b3,Pb]
def AJJ (AT:AA)(a2:Int)(b3:Int)(Pb:Value):=K0 171 #[AA.v AT,.int .i64 a2,.int .i64 b3,Pb]
def AJK (a0:AA)(a1:Int)(a2:Int)(a3:Value):=K1 Value.bool 172 #[AA.v a0,.int .i64 a1,.int .i64 a2,a3]
def AJL (a0:AA)(a1:Int)(a2:Int)(a3:Int)(a4:Value):=K1 vi 173 #[AA.v a0,.int .i64 a1,.int .i64 a2,.int .i64 a3,a4]
def AJM (a0:AA)(a1:Int)(a2:Int)(a3:Int)(a4:Value):=K2 vi Value.bool 174 #[AA.v a0,.int .i64 a1,.int .i64 a2,.int .i64 a3,a4]
def lx (AT:AA)(a2:Int)(b3:Int)(HV:Int)(AJN:Value):=K0 138 #[AA.v AT,.int .i64 a2,.int .i64 b3,.int .i64 HV,AJN]
def AB9 (x1:Int):=K1 vi 157 #[.int .u64 x1]
def vL (x1:Int):=K1 vi 139 #[.int .u64 x1]
def C95 (x1:AA)(vD:Value):=K0 95 #[AA.v x1,vD]
def S97 (x1:Int)(w:World)(R:Q1 Bool):Prop:=R (x1 !=x1) w
theorem T97 (x1 w R):S97 x1 w R->C97 x1 w R:=B2 ob (.q (.q .l)) [.int .i64 x1] Tryz.func97
def S60 (x1:Int)(y2:Int)(w:World)(R:Q1 Int):Prop:=C97 x1 w fun r3 z4=>C97 y2 z4 fun r5 z6=>Br r3 (Br r5 (R 0 z6) (R (-1) z6)) (Br r5 (R 1 z6) (Br (decide (x1<y2)) (R (-1) z6) (Br (decide (x1>y2)) (R 1 z6) (R 0 z6))))
theorem T60 (x1 y2 w R):S60 x1 y2 w R->C60 x1 y2 w R:=B2 oi (.q (.q (.q (.s (.q (.c (.s (.q (.c (.q .l) .l)) (.q .l)) .l)) (.s (.q (.c (.q .l) .l)) (.s (.q (.c (.q .l) .l)) (.s (.q (.c (.q .l) .l)) (.q .l)))))))) [.int .i64 x1,.int .i64 y2] Tryz.func60
def S59 (a1:Int×Int×Int×Int)(b2:Int×Int×Int×Int)(w:World)(R:Q1 Int):Prop:=Nw w (.cells #[.int .i64 (a1.1),.int .i64 (a1.2.1),.int .i64 (a1.2.2.1),.int .i64 (a1.2.2.2)] 33) fun z3=>Nw z3 (.cells #[.int .i64 (b2.1),.int .i64 (b2.2.1),.int .i64 (b2.2.2.1),.int .i64 (b2.2.2.2)] 33) fun z4=>Ld z4 ⟨w.heap.size,0,none⟩ (Value.int .i64) fun x5=>Ld z4 ⟨z3.heap.size,0,none⟩ (Value.int .i64) fun x6=>C60 x5 x6 z4 fun r7 z8=>R r7 z8
theorem T59 (a1 b2 w R):S59 a1 b2 w R->C59 (a1.1,a1.2.1,a1.2.2.1,a1.2.2.2) (b2.1,b2.2.1,b2.2.2.1,b2.2.2.2) w R:=B2 oi (.q (.q .l)) [.agg #[.int .i64 (a1.1),.int .i64 (a1.2.1),.int .i64 (a1.2.2.1),.int .i64 (a1.2.2.2)],.agg #[.int .i64 (b2.1),.int .i64 (b2.2.1),.int .i64 (b2.2.2.1),.int .i64 (b2.2.2.2)]] Tryz.func59
def MA (AT:AA)(a2:Int)(s5:Int)(I7:Q1 Int)(yc:Q1 Int)(s8:Int)(z9:World):Prop:=Br (decide (s8>a2)) (0<=s8/\s8<(AT.len:Nat)/\Nn AT.p fun yd=>Ld z9.drew (yd.add ((s8).toNat*4)) (Value.int .i64) fun NH=>Ld z9.drew ((yd.add ((s8).toNat*4)).add 1) (Value.int .i64) fun I0=>Ld z9.drew ((yd.add ((s8).toNat*4)).add 2) (Value.int .i64) fun No=>Ld z9.drew ((yd.add ((s8).toNat*4)).add 3) (Value.int .i64) fun Tt=>0<=(wrap .i64 (s8-1))/\(wrap .i64 (s8-1))<(AT.len:Nat)/\Nn AT.p fun a28=>Ld z9.drew (a28.add ((wrap .i64 (s8-1)).toNat*4)) (Value.int .i64) fun M7=>Ld z9.drew ((a28.add ((wrap .i64 (s8-1)).toNat*4)).add 1) (Value.int .i64) fun RH=>Ld z9.drew ((a28.add ((wrap .i64 (s8-1)).toNat*4)).add 2) (Value.int .i64) fun PA=>Ld z9.drew ((a28.add ((wrap .i64 (s8-1)).toNat*4)).add 3) (Value.int .i64) fun IC=>C59 (NH,I0,No,Tt) (M7,RH,PA,IC) z9.drew fun eO JQ=>Br (decide (eO<0)) (∃Pd:World->Prop,Pd JQ.drew/\0<=(wrap .i64 (s8-1))/\(wrap .i64 (s8-1))<(AT.len:Nat)/\Nn AT.p fun a36=>AU Pd (a36.add ((wrap .i64 (s8-1)).toNat*4)) (Value.int .i64) fun RU=>AU Pd ((a36.add ((wrap .i64 (s8-1)).toNat*4)).add 1) (Value.int .i64) fun dk=>AU Pd ((a36.add ((wrap .i64 (s8-1)).toNat*4)).add 2) (Value.int .i64) fun UU=>AU Pd ((a36.add ((wrap .i64 (s8-1)).toNat*4)).add 3) (Value.int .i64) fun qi=>0<=s8/\s8<(AT.len:Nat)/\Nn AT.p fun a41=>AU Pd (a41.add ((s8).toNat*4)) (Value.int .i64) fun kj=>AU Pd ((a41.add ((s8).toNat*4)).add 1) (Value.int .i64) fun uR=>AU Pd ((a41.add ((s8).toNat*4)).add 2) (Value.int .i64) fun eQ=>AU Pd ((a41.add ((s8).toNat*4)).add 3) (Value.int .i64) fun RD=>0<=s8/\s8<(AT.len:Nat)/\Nn AT.p fun a46=>St JQ.drew (a46.add ((s8).toNat*4)) (.int .i64 RU) fun Gz=>St Gz ((a46.add ((s8).toNat*4)).add 1) (.int .i64 dk) fun UB=>St UB ((a46.add ((s8).toNat*4)).add 2) (.int .i64 UU) fun z49=>St z49 ((a46.add ((s8).toNat*4)).add 3) (.int .i64 qi) fun B5=>0<=(wrap .i64 (s8-1))/\(wrap .i64 (s8-1))<(AT.len:Nat)/\Nn AT.p fun a51=>St B5 (a51.add ((wrap .i64 (s8-1)).toNat*4)) (.int .i64 kj) fun kk=>St kk ((a51.add ((wrap .i64 (s8-1)).toNat*4)).add 1) (.int .i64 uR) fun z53=>St z53 ((a51.add ((wrap .i64 (s8-1)).toNat*4)).add 2) (.int .i64 eQ) fun WA=>St WA ((a51.add ((wrap .i64 (s8-1)).toNat*4)).add 3) (.int .i64 RD) fun WB=>yc (wrap .i64 (s8-1)) WB) (I7 (wrap .i64 (s5+1)) JQ)) (I7 (wrap .i64 (s5+1)) z9.drew)
def MB (AT:AA)(a2:Int)(b3:Int)(R:Q0)(I7:Q1 Int)(s5:Int)(z6:World):Prop:=Br (decide (s5<b3)) (Lp (σ:=Int) (MA AT a2 s5 I7) s5 z6) (R z6)
def Rg (AT:AA)(a2:Int)(b3:Int)(w:World)(R:Q0):Prop:=Lp (σ:=Int) (MB AT a2 b3 R) (wrap .i64 (a2+1)) w
theorem ew (AT a2 b3 w R):Rg AT a2 b3 w R->vK AT a2 b3 (.func (.func 59) #[] #[]) w R:=mk0 (.q (.b (.o [(8,oi)] [0,1,2,3] (.s (.q (.c .l .l)) (.s (.b (.q (.b (.o [(9,oi)] [0,1,2,3,8] (.s (.s (.A7 (.tail 14)) (.c .l .l)) (.s (.b (.A7 (.held [15] (.take 0 (.take 1 (.take 2 (.take 3 (.take 4 (.take 5 (.take 6 (.take 7 (.take 8 (.take 9 (.take 10 (.take 11 (.take 12 (.take 13 (.take 14 (.A4 15 (some [17]) (.take 16 (.A4 17 (some []) .done))))))))))))))))))))) .r)))))) .r))))) [AA.v AT,.int .i64 a2,.int .i64 b3,.func (.func 59) #[] #[]] Tryz.func167
def Uu (AT:AA)(s6:Int×Int×Int×Bool×Bool)(I8:Q1 (Int×Int×Int×Bool×Bool))(ey:Int)(UT:Int×Int)(s40:Int)(NK:World):Prop:=AJM AT s40 s6.2.1 UT.1 (.func (.func 59) #[] #[]) NK fun fA qc FL=>Br (decide ((wrap .i64 (fA-s40))<(wrap .i64 (s6.2.1-fA)))) (Lt (decide ((wrap .i64 (fA-s40))>=(wrap .i64 (Int.tdiv (wrap .i64 (s6.2.1-s6.1)) 8)))) fun (RD:Bool)=>lx AT s40 fA ey (.func (.func 59) #[] #[]) FL fun z46=>I8 (wrap .i64 (fA+1),s6.2.1,ey,RD,qc) z46) (Lt (decide ((wrap .i64 (s6.2.1-fA))>=(wrap .i64 (Int.tdiv (wrap .i64 (s6.2.1-s6.1)) 8)))) fun (QY:Bool)=>lx AT (wrap .i64 (fA+1)) s6.2.1 ey (.func (.func 59) #[] #[]) FL fun UB=>I8 (s40,fA,ey,QY,qc) UB)
def Uv (AT:AA)(s6:Int×Int×Int×Bool×Bool)(I8:Q1 (Int×Int×Int×Bool×Bool))(ey:Int)(UT:Int×Int)(s24:Unit)(Fl:World):Prop:=As (Uu AT s6 I8 ey UT) fun (ACB:Q1 Int)=>Br (decide (s6.1>0)) (0<=(wrap .i64 (s6.1-1))/\(wrap .i64 (s6.1-1))<(AT.len:Nat)/\Nn AT.p fun yX=>Ld Fl.drew (yX.add ((wrap .i64 (s6.1-1)).toNat*4)) (Value.int .i64) fun ZS=>Ld Fl.drew ((yX.add ((wrap .i64 (s6.1-1)).toNat*4)).add 1) (Value.int .i64) fun kd=>Ld Fl.drew ((yX.add ((wrap .i64 (s6.1-1)).toNat*4)).add 2) (Value.int .i64) fun TS=>Ld Fl.drew ((yX.add ((wrap .i64 (s6.1-1)).toNat*4)).add 3) (Value.int .i64) fun Xt=>0<=UT.1/\UT.1<(AT.len:Nat)/\Nn AT.p fun a55=>Ld Fl.drew (a55.add ((UT.1).toNat*4)) (Value.int .i64) fun Xu=>Ld Fl.drew ((a55.add ((UT.1).toNat*4)).add 1) (Value.int .i64) fun qj=>Ld Fl.drew ((a55.add ((UT.1).toNat*4)).add 2) (Value.int .i64) fun qk=>Ld Fl.drew ((a55.add ((UT.1).toNat*4)).add 3) (Value.int .i64) fun ql=>C59 (ZS,kd,TS,Xt) (Xu,qj,qk,ql) Fl.drew fun tM QX=>Br (!(decide (tM<0))) (AJL AT s6.1 s6.2.1 UT.1 (.func (.func 59) #[] #[]) QX fun r62 O7=>I8 (r62,s6.2.1,ey,s6.2.2.2.1,s6.2.2.2.2) O7) (ACB s6.1 QX)) (ACB s6.1 Fl.drew)
def Uw (AT:AA)(s6:Int×Int×Int×Bool×Bool)(I8:Q1 (Int×Int×Int×Bool×Bool))(ey:Int)(R:Q0)(UT:Int×Int)(z21:World):Prop:=As (Uv AT s6 I8 ey UT) fun (ly:Q1 Unit)=>Br s6.2.2.2.1 (Br s6.2.2.2.2 (Br (UT.2==1) (AJK AT s6.1 s6.2.1 (.func (.func 59) #[] #[]) z21 fun r65 HM=>Br r65 (R HM) (ly () HM)) (ly () z21)) (ly () z21)) (ly () z21)
def Ux (AT:AA)(s6:Int×Int×Int×Bool×Bool)(I8:Q1 (Int×Int×Int×Bool×Bool))(R:Q0)(ey:Int)(Db:World):Prop:=AJI AT s6.1 s6.2.1 (.func (.func 59) #[] #[]) Db fun D2 ZW Cc=>As (Uw AT s6 I8 ey R) fun (ACC:Q1 (Int×Int))=>Br (ZW==2) (AJJ AT s6.1 s6.2.1 (.func (.func 59) #[] #[]) Cc fun QZ=>ACC (wrap .i64 ((wrap .i64 (s6.2.1-1))-(wrap .i64 (D2-s6.1))),1) QZ) (ACC (D2,ZW) Cc)
def MC (AT:AA)(R:Q0)(I8:Q1 (Int×Int×Int×Bool×Bool))(s6:Int×Int×Int×Bool×Bool)(z7:World):Prop:=Br (decide ((wrap .i64 (s6.2.1-s6.1))<=12)) (vK AT s6.1 s6.2.1 (.func (.func 59) #[] #[]) z7 fun Ay=>R Ay) (Br (s6.2.2.1==0) (AJG AT s6.1 s6.2.1 (.func (.func 59) #[] #[]) z7 fun z12=>R z12) (As (Ux AT s6 I8 R) fun (ACD:Q1 Int)=>Br (!s6.2.2.2.1) (AJH AT s6.1 s6.2.1 (.func (.func 59) #[] #[]) z7 fun z70=>ACD (wrap .i64 (s6.2.2.1-1)) z70) (ACD s6.2.2.1 z7)))
def Rh (AT:AA)(a2:Int)(b3:Int)(HV:Int)(w:World)(R:Q0):Prop:=Lp (σ:=Int×Int×Int×Bool×Bool) (MC AT R) (a2,b3,HV,true,true) w
theorem fB (AT a2 b3 HV w R):Rh AT a2 b3 HV w R->lx AT a2 b3 HV (.func (.func 59) #[] #[]) w R:=mk0 (.q (.q (.b (.o [(1,oi),(2,oi),(3,oi),(10,ob),(11,ob)] [0,4] (.b (.q (.s (.q (.c (.q .l) .l)) (.s (.q (.c (.q .l) .l)) (.join [(3,oi)] [0,1,2,4,10,11,12] (.q (.c (.q .r) .l)) (.q (.join [(13,oi),(14,oi)] [0,1,2,3,4,10,11,12] (.q (.c (.q (.q .r)) .l)) (.join [] [0,1,2,3,4,10,11,12,13] (.q (.c (.q (.c .l .l)) .l)) (.join [(1,oi)] [0,2,3,4,12,13] (.s (.A7 (.tail 13)) (.c (.q (.q .l)) .l)) (.q (.q (.q (.q (.q (.c (.q (.q .r)) (.q (.q .r))))))))))))))))))))) [AA.v AT,.int .i64 a2,.int .i64 b3,.int .i64 HV,.func (.func 59) #[] #[]] Tryz.func138
def fC (R:Q1 Int)(s2:Int×Int)(z3:World):Prop:=Br (decide (s2.1>=65536)) (Br (decide ((Int.fdiv s2.1 (2^16))>=256)) (0<=(wrap .u8 (Int.fdiv (Int.fdiv s2.1 (2^16)) (2^8)))/\(wrap .u8 (Int.fdiv (Int.fdiv s2.1 (2^16)) (2^8)))<(((⟨#[0,1,2,2,3,3,3,3,4,4,4,4,4,4,4,4,5,5,5,5,5,5,5,5,5,5,5,5,5,5,5,5,6,6,6,6,6,6,6,6,6,6,6,6,6,6,6,6,6,6,6,6,6,6,6,6,6,6,6,6,6,6,6,6,7,7,7,7,7,7,7,7,7,7,7,7,7,7,7,7,7,7,7,7,7,7,7,7,7,7,7,7,7,7,7,7,7,7,7,7,7,7,7,7,7,7,7,7,7,7,7,7,7,7,7,7,7,7,7,7,7,7,7,7,7,7,7,7,8,8,8,8,8,8,8,8,8,8,8,8,8,8,8,8,8,8,8,8,8,8,8,8,8,8,8,8,8,8,8,8,8,8,8,8,8,8,8,8,8,8,8,8,8,8,8,8,8,8,8,8,8,8,8,8,8,8,8,8,8,8,8,8,8,8,8,8,8,8,8,8,8,8,8,8,8,8,8,8,8,8,8,8,8,8,8,8,8,8,8,8,8,8,8,8,8,8,8,8,8,8,8,8,8,8,8,8,8,8,8,8,8,8,8,8,8,8,8,8,8,8,8,8,8,8,8,8]⟩:cN)).size:Nat)/\Lt (BX (⟨#[0,1,2,2,3,3,3,3,4,4,4,4,4,4,4,4,5,5,5,5,5,5,5,5,5,5,5,5,5,5,5,5,6,6,6,6,6,6,6,6,6,6,6,6,6,6,6,6,6,6,6,6,6,6,6,6,6,6,6,6,6,6,6,6,7,7,7,7,7,7,7,7,7,7,7,7,7,7,7,7,7,7,7,7,7,7,7,7,7,7,7,7,7,7,7,7,7,7,7,7,7,7,7,7,7,7,7,7,7,7,7,7,7,7,7,7,7,7,7,7,7,7,7,7,7,7,7,7,8,8,8,8,8,8,8,8,8,8,8,8,8,8,8,8,8,8,8,8,8,8,8,8,8,8,8,8,8,8,8,8,8,8,8,8,8,8,8,8,8,8,8,8,8,8,8,8,8,8,8,8,8,8,8,8,8,8,8,8,8,8,8,8,8,8,8,8,8,8,8,8,8,8,8,8,8,8,8,8,8,8,8,8,8,8,8,8,8,8,8,8,8,8,8,8,8,8,8,8,8,8,8,8,8,8,8,8,8,8,8,8,8,8,8,8,8,8,8,8,8,8,8,8,8,8,8,8]⟩:cN) (wrap .u8 (Int.fdiv (Int.fdiv s2.1 (2^16)) (2^8)))) fun (x4:Int)=>Lt (wrap .i64 ((wrap .i64 ((wrap .i64 (s2.2+16))+8))+(wrap .i64 x4))) fun (x5:Int)=>R x5 z3) (0<=(wrap .u8 (Int.fdiv s2.1 (2^16)))/\(wrap .u8 (Int.fdiv s2.1 (2^16)))<(((⟨#[0,1,2,2,3,3,3,3,4,4,4,4,4,4,4,4,5,5,5,5,5,5,5,5,5,5,5,5,5,5,5,5,6,6,6,6,6,6,6,6,6,6,6,6,6,6,6,6,6,6,6,6,6,6,6,6,6,6,6,6,6,6,6,6,7,7,7,7,7,7,7,7,7,7,7,7,7,7,7,7,7,7,7,7,7,7,7,7,7,7,7,7,7,7,7,7,7,7,7,7,7,7,7,7,7,7,7,7,7,7,7,7,7,7,7,7,7,7,7,7,7,7,7,7,7,7,7,7,8,8,8,8,8,8,8,8,8,8,8,8,8,8,8,8,8,8,8,8,8,8,8,8,8,8,8,8,8,8,8,8,8,8,8,8,8,8,8,8,8,8,8,8,8,8,8,8,8,8,8,8,8,8,8,8,8,8,8,8,8,8,8,8,8,8,8,8,8,8,8,8,8,8,8,8,8,8,8,8,8,8,8,8,8,8,8,8,8,8,8,8,8,8,8,8,8,8,8,8,8,8,8,8,8,8,8,8,8,8,8,8,8,8,8,8,8,8,8,8,8,8,8,8,8,8,8,8]⟩:cN)).size:Nat)/\Lt (BX (⟨#[0,1,2,2,3,3,3,3,4,4,4,4,4,4,4,4,5,5,5,5,5,5,5,5,5,5,5,5,5,5,5,5,6,6,6,6,6,6,6,6,6,6,6,6,6,6,6,6,6,6,6,6,6,6,6,6,6,6,6,6,6,6,6,6,7,7,7,7,7,7,7,7,7,7,7,7,7,7,7,7,7,7,7,7,7,7,7,7,7,7,7,7,7,7,7,7,7,7,7,7,7,7,7,7,7,7,7,7,7,7,7,7,7,7,7,7,7,7,7,7,7,7,7,7,7,7,7,7,8,8,8,8,8,8,8,8,8,8,8,8,8,8,8,8,8,8,8,8,8,8,8,8,8,8,8,8,8,8,8,8,8,8,8,8,8,8,8,8,8,8,8,8,8,8,8,8,8,8,8,8,8,8,8,8,8,8,8,8,8,8,8,8,8,8,8,8,8,8,8,8,8,8,8,8,8,8,8,8,8,8,8,8,8,8,8,8,8,8,8,8,8,8,8,8,8,8,8,8,8,8,8,8,8,8,8,8,8,8,8,8,8,8,8,8,8,8,8,8,8,8,8,8,8,8,8,8]⟩:cN) (wrap .u8 (Int.fdiv s2.1 (2^16)))) fun (x6:Int)=>R (wrap .i64 ((wrap .i64 (s2.2+16))+(wrap .i64 x6))) z3)) (Br (decide (s2.1>=256)) (0<=(wrap .u8 (Int.fdiv s2.1 (2^8)))/\(wrap .u8 (Int.fdiv s2.1 (2^8)))<(((⟨#[0,1,2,2,3,3,3,3,4,4,4,4,4,4,4,4,5,5,5,5,5,5,5,5,5,5,5,5,5,5,5,5,6,6,6,6,6,6,6,6,6,6,6,6,6,6,6,6,6,6,6,6,6,6,6,6,6,6,6,6,6,6,6,6,7,7,7,7,7,7,7,7,7,7,7,7,7,7,7,7,7,7,7,7,7,7,7,7,7,7,7,7,7,7,7,7,7,7,7,7,7,7,7,7,7,7,7,7,7,7,7,7,7,7,7,7,7,7,7,7,7,7,7,7,7,7,7,7,8,8,8,8,8,8,8,8,8,8,8,8,8,8,8,8,8,8,8,8,8,8,8,8,8,8,8,8,8,8,8,8,8,8,8,8,8,8,8,8,8,8,8,8,8,8,8,8,8,8,8,8,8,8,8,8,8,8,8,8,8,8,8,8,8,8,8,8,8,8,8,8,8,8,8,8,8,8,8,8,8,8,8,8,8,8,8,8,8,8,8,8,8,8,8,8,8,8,8,8,8,8,8,8,8,8,8,8,8,8,8,8,8,8,8,8,8,8,8,8,8,8,8,8,8,8,8,8]⟩:cN)).size:Nat)/\Lt (BX (⟨#[0,1,2,2,3,3,3,3,4,4,4,4,4,4,4,4,5,5,5,5,5,5,5,5,5,5,5,5,5,5,5,5,6,6,6,6,6,6,6,6,6,6,6,6,6,6,6,6,6,6,6,6,6,6,6,6,6,6,6,6,6,6,6,6,7,7,7,7,7,7,7,7,7,7,7,7,7,7,7,7,7,7,7,7,7,7,7,7,7,7,7,7,7,7,7,7,7,7,7,7,7,7,7,7,7,7,7,7,7,7,7,7,7,7,7,7,7,7,7,7,7,7,7,7,7,7,7,7,8,8,8,8,8,8,8,8,8,8,8,8,8,8,8,8,8,8,8,8,8,8,8,8,8,8,8,8,8,8,8,8,8,8,8,8,8,8,8,8,8,8,8,8,8,8,8,8,8,8,8,8,8,8,8,8,8,8,8,8,8,8,8,8,8,8,8,8,8,8,8,8,8,8,8,8,8,8,8,8,8,8,8,8,8,8,8,8,8,8,8,8,8,8,8,8,8,8,8,8,8,8,8,8,8,8,8,8,8,8,8,8,8,8,8,8,8,8,8,8,8,8,8,8,8,8,8,8]⟩:cN) (wrap .u8 (Int.fdiv s2.1 (2^8)))) fun (x7:Int)=>R (wrap .i64 ((wrap .i64 (s2.2+8))+(wrap .i64 x7))) z3) (0<=(wrap .u8 s2.1)/\(wrap .u8 s2.1)<(((⟨#[0,1,2,2,3,3,3,3,4,4,4,4,4,4,4,4,5,5,5,5,5,5,5,5,5,5,5,5,5,5,5,5,6,6,6,6,6,6,6,6,6,6,6,6,6,6,6,6,6,6,6,6,6,6,6,6,6,6,6,6,6,6,6,6,7,7,7,7,7,7,7,7,7,7,7,7,7,7,7,7,7,7,7,7,7,7,7,7,7,7,7,7,7,7,7,7,7,7,7,7,7,7,7,7,7,7,7,7,7,7,7,7,7,7,7,7,7,7,7,7,7,7,7,7,7,7,7,7,8,8,8,8,8,8,8,8,8,8,8,8,8,8,8,8,8,8,8,8,8,8,8,8,8,8,8,8,8,8,8,8,8,8,8,8,8,8,8,8,8,8,8,8,8,8,8,8,8,8,8,8,8,8,8,8,8,8,8,8,8,8,8,8,8,8,8,8,8,8,8,8,8,8,8,8,8,8,8,8,8,8,8,8,8,8,8,8,8,8,8,8,8,8,8,8,8,8,8,8,8,8,8,8,8,8,8,8,8,8,8,8,8,8,8,8,8,8,8,8,8,8,8,8,8,8,8,8]⟩:cN)).size:Nat)/\Lt (BX (⟨#[0,1,2,2,3,3,3,3,4,4,4,4,4,4,4,4,5,5,5,5,5,5,5,5,5,5,5,5,5,5,5,5,6,6,6,6,6,6,6,6,6,6,6,6,6,6,6,6,6,6,6,6,6,6,6,6,6,6,6,6,6,6,6,6,7,7,7,7,7,7,7,7,7,7,7,7,7,7,7,7,7,7,7,7,7,7,7,7,7,7,7,7,7,7,7,7,7,7,7,7,7,7,7,7,7,7,7,7,7,7,7,7,7,7,7,7,7,7,7,7,7,7,7,7,7,7,7,7,8,8,8,8,8,8,8,8,8,8,8,8,8,8,8,8,8,8,8,8,8,8,8,8,8,8,8,8,8,8,8,8,8,8,8,8,8,8,8,8,8,8,8,8,8,8,8,8,8,8,8,8,8,8,8,8,8,8,8,8,8,8,8,8,8,8,8,8,8,8,8,8,8,8,8,8,8,8,8,8,8,8,8,8,8,8,8,8,8,8,8,8,8,8,8,8,8,8,8,8,8,8,8,8,8,8,8,8,8,8,8,8,8,8,8,8,8,8,8,8,8,8,8,8,8,8,8,8]⟩:cN) (wrap .u8 s2.1)) fun (x8:Int)=>R (wrap .i64 (s2.2+(wrap .i64 x8))) z3))
def ACE (x1:Int)(w:World)(R:Q1 Int):Prop:=As (fC R) fun (vJ9:Q1 (Int×Int))=>Br (decide (x1>=4294967296)) (vJ9 (Int.fdiv x1 (2^32),32) w) (vJ9 (x1,0) w)
theorem AJP (x1 w R):ACE x1 w R->AB9 x1 w R:=B2 oi (.q (.join [(0,(.one (.int .u64))),(2,oi)] [] (.q (.c (.q .r) .l)) (.s (.q (.c (.q .r) .l)) (.s (.q (.c (.q .r) .l)) (.q .l))))) [.int .u64 x1] Tryz.func157
def ACF (x1:Int)(w:World)(R:Q1 Int):Prop:=AB9 x1 w fun r2 z3=>R r2 z3
theorem AJQ (x1 w R):ACF x1 w R->vL x1 w R:=B2 oi (.q (.s (.c (.q .l) .l) (.q .l))) [.int .u64 x1] Tryz.func139
def WK (x1:AA)(w:World)(R:Q0):Prop:=vL (wrap .u64 (x1.len:Int)) w fun r3 z4=>lx x1 0 (x1.len:Int) r3 (.func (.func 59) #[] #[]) z4 fun z5=>R z5
theorem lz (x1 w R):WK x1 w R->C95 x1 (.func (.func 59) #[] #[]) w R:=mk0 (.q .r) [AA.v x1,.func (.func 59) #[] #[]] Tryz.func95
end
section
open Sh
noncomputable def Lz:Code->Code| .seq a _=>a|c=>c
def HS:Code->Code| .seq _ b=>b|c=>c
def o4:Code->Code| .block _ b=>b|c=>c
def vH:Code->Code| .rangeFunc _ _ a _=>a|c=>c
def vI:Code->Code| .rangeFunc _ _ _ b=>b|c=>c
noncomputable def ABz:Code:=(Lz (Tryz.f137.body.getD .skip))
def AB0:Aa:=(.A7 .seq)
def AI8 (s0:AA)(f1:Value)(w:World)(R:Q1 Env):Prop:=Nw w (.cells #[AA.v s0] 34) fun z1=>R [(4,AA.v ⟨none,0,0⟩),(2,.pointer (some ⟨w.heap.size,0,none⟩)),(1,f1),(0,AA.v s0)] z1
theorem AI9 (s0:AA)(f1:Value)(w:World)(R:Q1 Env):A8 prog ⟨FF,CG,(fun _ _=>False)⟩ AB0 ABz [(1,f1),(0,AA.v s0)] w (Rf R)=AI8 s0 f1 w R:=by kernel_rfl
noncomputable def AB1:Code:=(Lz (Lz (HS (Tryz.f137.body.getD .skip))))
def AB2:Aa:=(.A7 .seq)
def AJA (f1:Value)(a2:Addr)(w:World)(R:Q1 Env):Prop:=R [(6,f1),(2,.pointer (some a2)),(1,f1)] w
theorem AJB (f1:Value)(a2:Addr)(w:World)(R:Q1 Env):A8 prog ⟨FF,CG,(fun _ _=>False)⟩ AB2 AB1 [(2,.pointer (some a2)),(1,f1)] w (Rf R)=AJA f1 a2 w R:=by kernel_rfl
noncomputable def HT:Code:=(vH (o4 (HS (Lz (HS (Tryz.f137.body.getD .skip))))))
def AB3:Aa:=(.A7 .seq)
def AB4 (a2:Addr)(x:Int×Int×Int×Int)(w:World)(R:Q1 Env):Prop:=Nw w (.cells #[.int .i64 0,.int .i64 0,.int .i64 0,.int .i64 0] 33) fun z2=>St z2 ⟨w.heap.size,0,none⟩ (.int .i64 (x.1)) fun z3=>St z3 (.add ⟨w.heap.size,0,none⟩ 1) (.int .i64 (x.2.1)) fun z4=>St z4 (.add ⟨w.heap.size,0,none⟩ 2) (.int .i64 (x.2.2.1)) fun z5=>St z5 (.add ⟨w.heap.size,0,none⟩ 3) (.int .i64 (x.2.2.2)) fun z6=>R [(5,.pointer (some ⟨w.heap.size,0,none⟩)),(7,.agg #[.int .i64 (x.1),.int .i64 (x.2.1),.int .i64 (x.2.2.1),.int .i64 (x.2.2.2)]),(2,.pointer (some a2))] z6
theorem AJC (a2:Addr)(x:Int×Int×Int×Int)(w:World)(R:Q1 Env):A8 prog ⟨FF,CG,(fun _ _=>False)⟩ AB3 HT [(7,.agg #[.int .i64 (x.1),.int .i64 (x.2.1),.int .i64 (x.2.2.1),.int .i64 (x.2.2.2)]),(2,.pointer (some a2))] w (Rf R)=AB4 a2 x w R:=by kernel_rfl
noncomputable def HU:Code:=(vI (o4 (HS (Lz (HS (Tryz.f137.body.getD .skip))))))
def AB5:Aa:=(.block (.A7 .seq))
def AB6 (a2:Addr)(a5:Addr)(x:Int×Int×Int×Int)(w:World)(R:Q0):Prop:=Ld w a2 AA.v fun x7=>Ld w a5 (Value.int .i64) fun x8=>Ld w (a5.add 1) (Value.int .i64) fun x9=>Ld w (a5.add 2) (Value.int .i64) fun DE=>Ld w (a5.add 3) (Value.int .i64) fun Cn=>Nw w (.cells #[.int .i64 x8,.int .i64 x9,.int .i64 DE,.int .i64 Cn] 33) fun z12=>Rn prog (Builtin.append_ #[34,34] 34 #[AA.v x7,AA.v ⟨some ⟨w.heap.size,0,none⟩,1,1⟩]) z12 AA.v fun Gf AM=>St AM a2 (AA.v Gf) fun Db=>R Db
theorem AJD (a2:Addr)(a5:Addr)(x:Int×Int×Int×Int)(w:World)(R:Q0):A8 prog ⟨FF,CG,(fun _ _=>False)⟩ AB5 HU [(5,.pointer (some a5)),(7,.agg #[.int .i64 (x.1),.int .i64 (x.2.1),.int .i64 (x.2.2.1),.int .i64 (x.2.2.2)]),(2,.pointer (some a2))] w (Rf fun _=>R)=AB6 a2 a5 x w R:=by kernel_rfl
def et (R:Q1 AA):Exit->Env->World->Prop:=fun e E w=>match e with
 | .ret=>(match E.get? 4 with
  |some (.slice p n c)=>R ⟨p,n,c⟩ w
  |_=>False)
 |_=>False
noncomputable def vJ:Code:=(HS (HS (Tryz.f137.body.getD .skip)))
def AB7:Aa:=(.q .leaf)
def AB8 (a2:Addr)(w:World)(R:Q1 AA):Prop:=Ld w a2 AA.v fun EK=>R EK w
theorem AJE (a2:Addr)(w:World)(R:Q1 AA):BZ prog ⟨FF,CG,(fun _ _=>False)⟩ AB7 vJ [(2,.pointer (some a2))] w (et R)=AB8 a2 w R:=by kernel_rfl
def ABZ (s0:AA)(f1:Value):=K1 AA.v 137 #[AA.v s0,f1]
end
section
open Sh
def C94 (seq1:Value):=K1 AA.v 94 #[seq1]
def C57 (seq1:Value)(vD:Value):=K1 AA.v 57 #[seq1,vD]
def C31 (m1:Option Nat):=K1 AA.v 31 #[.map m1]
def S94 (seq1:Value)(w:World)(R:Q1 AA):Prop:=ABZ (⟨none,0,0⟩:AA) seq1 w fun r2 z3=>R r2 z3
theorem T94 (seq1 w R):S94 seq1 w R->C94 seq1 w R:=B2 ol (.q (.q .l)) [seq1] Tryz.func94
def WJ (seq1:Value)(w:World)(R:Q1 AA):Prop:=C94 seq1 w fun r3 z4=>C95 r3 (.func (.func 59) #[] #[]) z4 fun z5=>R r3 z5
theorem lq (seq1 w R):WJ seq1 w R->C57 seq1 (.func (.func 59) #[] #[]) w R:=B2 ol (.q (.q (.q (.q .l)))) [seq1,.func (.func 59) #[] #[]] Tryz.func57
def S31 (m1:Option Nat)(w:World)(R:Q1 AA):Prop:=C58 m1 w fun r2 z3=>C57 r2 (.func (.func 59) #[] #[]) z3 fun r4 z5=>R r4 z5
theorem T31 (m1 w R):S31 m1 w R->C31 m1 w R:=B2 ol (.q (.q .l)) [.map m1] Tryz.func31
end
section
open Sh
noncomputable def GR:Code->Code| .seq a _=>a|c=>c
def B8:Code->Code| .seq _ b=>b|c=>c
def eo:Code->Code| .block _ b=>b|c=>c
def lr:Code->Code| .rangeFunc _ _ a _=>a|c=>c
def lv:Code->Code| .rangeFunc _ _ _ b=>b|c=>c
noncomputable def ABa:Code:=(GR (Tryz.f10.body.getD .skip))
def ABb:Aa:=(.A7 .seq)
def AIt (s0:ByteArray)(w:World)(R:Q1 Env):Prop:=R [(2,AA.v ⟨none,0,0⟩),(0,.string s0)] w
theorem AIu (s0:ByteArray)(w:World)(R:Q1 Env):A8 prog ⟨FF,CG,(fun _ _=>False)⟩ ABb ABa [(0,.string s0)] w (Rf R)=AIt s0 w R:=by kernel_rfl
noncomputable def ABc:Code:=(GR (B8 (Tryz.f10.body.getD .skip)))
def ABd:Aa:=(.A7 .seq)
def ABe (s0:ByteArray)(w:World)(R:Q1 Env):Prop:=Nw w (.map #[] 0) fun z1=>Nw z1 (.cells #[.map none] 77) fun z2=>St z2 ⟨z1.heap.size,0,none⟩ (.map (some w.heap.size)) fun z3=>R [(3,.pointer (some ⟨z1.heap.size,0,none⟩)),(5,.map (some w.heap.size)),(0,.string s0)] z3
theorem AIv (s0:ByteArray)(w:World)(R:Q1 Env):A8 prog ⟨FF,CG,(fun _ _=>False)⟩ ABd ABc [(0,.string s0)] w (Rf R)=ABe s0 w R:=by kernel_rfl
noncomputable def ABf:Code:=(GR (GR (B8 (B8 (Tryz.f10.body.getD .skip)))))
def ABg:Aa:=(.A7 .seq)
def ABh (s0:ByteArray)(a3:Addr)(w:World)(R:Q1 Env):Prop:=C30 s0 w fun r4 z5=>R [(7,r4),(6,.string s0),(3,.pointer (some a3)),(0,.string s0)] z5
theorem AIw (s0:ByteArray)(a3:Addr)(w:World)(R:Q1 Env):A8 prog ⟨FF,CG,(fun _ _=>False)⟩ ABg ABf [(3,.pointer (some a3)),(0,.string s0)] w (Rf R)=ABh s0 a3 w R:=by kernel_rfl
noncomputable def Ff:Code:=(lr (eo (B8 (GR (B8 (B8 (Tryz.f10.body.getD .skip)))))))
def ABi:Aa:=(.A7 .seq)
def ABj (a3:Addr)(x:Int×Int×Int×Int)(w:World)(R:Q1 Env):Prop:=Nw w (.cells #[.int .i64 0,.int .i64 0,.int .i64 0,.int .i64 0] 33) fun z6=>St z6 ⟨w.heap.size,0,none⟩ (.int .i64 (x.1)) fun z7=>St z7 (.add ⟨w.heap.size,0,none⟩ 1) (.int .i64 (x.2.1)) fun z8=>St z8 (.add ⟨w.heap.size,0,none⟩ 2) (.int .i64 (x.2.2.1)) fun z9=>St z9 (.add ⟨w.heap.size,0,none⟩ 3) (.int .i64 (x.2.2.2)) fun Ay=>R [(4,.pointer (some ⟨w.heap.size,0,none⟩)),(8,.agg #[.int .i64 (x.1),.int .i64 (x.2.1),.int .i64 (x.2.2.1),.int .i64 (x.2.2.2)]),(3,.pointer (some a3))] Ay
theorem AIx (a3:Addr)(x:Int×Int×Int×Int)(w:World)(R:Q1 Env):A8 prog ⟨FF,CG,(fun _ _=>False)⟩ ABi Ff [(8,.agg #[.int .i64 (x.1),.int .i64 (x.2.1),.int .i64 (x.2.2.1),.int .i64 (x.2.2.2)]),(3,.pointer (some a3))] w (Rf R)=ABj a3 x w R:=by kernel_rfl
noncomputable def Fg:Code:=(lv (eo (B8 (GR (B8 (B8 (Tryz.f10.body.getD .skip)))))))
def ABk:Aa:=(.block (.A7 .seq))
def ABl (a3:Addr)(a4:Addr)(x:Int×Int×Int×Int)(w:World)(R:Q0):Prop:=Ld w a3 Value.map fun Cn=>Ld w a4 (Value.int .i64) fun FI=>Ld w a4 (Value.int .i64) fun Gf=>Ld w (a4.add 1) (Value.int .i64) fun Gg=>Ld w (a4.add 2) (Value.int .i64) fun DD=>Ld w (a4.add 3) (Value.int .i64) fun EK=>Ru prog (Instr.mapUpdate 77 (.map Cn) (.int .i64 FI) (.agg #[.int .i64 Gf,.int .i64 Gg,.int .i64 DD,.int .i64 EK])) w fun EI=>R EI
theorem AIy (a3:Addr)(a4:Addr)(x:Int×Int×Int×Int)(w:World)(R:Q0):A8 prog ⟨FF,CG,(fun _ _=>False)⟩ ABk Fg [(4,.pointer (some a4)),(8,.agg #[.int .i64 (x.1),.int .i64 (x.2.1),.int .i64 (x.2.2.1),.int .i64 (x.2.2.2)]),(3,.pointer (some a3))] w (Rf fun _=>R)=ABl a3 a4 x w R:=by kernel_rfl
def ep (R:Q1 AA):Exit->Env->World->Prop:=fun e E w=>match e with
 | .ret=>(match E.get? 2 with
  |some (.slice p n c)=>R ⟨p,n,c⟩ w
  |_=>False)
 |_=>False
noncomputable def vE:Code:=(B8 (B8 (B8 (Tryz.f10.body.getD .skip))))
def ABm:Aa:=(.q .leaf)
def ABn (a3:Addr)(w:World)(R:Q1 AA):Prop:=Ld w a3 Value.map fun Ca=>C31 Ca w fun Q7 z20=>R Q7 z20
theorem AIz (a3:Addr)(w:World)(R:Q1 AA):BZ prog ⟨FF,CG,(fun _ _=>False)⟩ ABm vE [(3,.pointer (some a3))] w (ep R)=ABn a3 w R:=by kernel_rfl
def C10 (s0:ByteArray):=K1 AA.v 10 #[.string s0]
end
section
open Sh
def C28 (s1:ByteArray)(E5:ByteArray):=K1 vi 28 #[.string s1,.string E5]
def C8 (s1:ByteArray)(BY:ByteArray)(Bx:Int):=K1 vi 8 #[.string s1,.string BY,.int .i64 Bx]
def C29 (s1:ByteArray)(E5:ByteArray):=K1 vi 29 #[.string s1,.string E5]
def C9 (s1:ByteArray)(BY:ByteArray):=K1 vi 9 #[.string s1,.string BY]
def C3 (l1:AA)(Av:Int×Int×Int×Int×Int×ByteArray×AA×AA):=K1 Value.bool 3 #[AA.v l1,.agg #[.int .i64 (Av.1),.int .i64 (Av.2.1),.int .i64 (Av.2.2.1),.int .i64 (Av.2.2.2.1),.int .i64 (Av.2.2.2.2.1),.string Av.2.2.2.2.2.1,AA.v Av.2.2.2.2.2.2.1,AA.v Av.2.2.2.2.2.2.2]]
def S8 (s1:ByteArray)(BY:ByteArray)(Bx:Int)(w:World)(R:Q1 Int):Prop:=Br (BY.toList==(⟨#[]⟩:cN).toList) (R (-1) w) (Br (decide ((if 0>Bx then 0 else Bx)>(s1.size:Int))) (R (-1) w) (0<=(if 0>Bx then 0 else Bx)/\(if 0>Bx then 0 else Bx)<=(s1.size:Int)/\C28 (s1.extract (((if 0>Bx then 0 else Bx)).toNat) ((s1).size)) BY w fun r4 z5=>Br (decide (r4>=0)) (R (wrap .i64 ((if 0>Bx then 0 else Bx)+r4)) z5) (R (-1) z5)))
theorem T8 (s1 BY Bx w R):S8 s1 BY Bx w R->C8 s1 BY Bx w R:=B2 oi (.q (.q (.s (.q (.c (.q .l) .l)) (.s (.q (.q (.c (.q .l) .l))) (.q .l))))) [.string s1,.string BY,.int .i64 Bx] Tryz.func8
def S9 (s1:ByteArray)(BY:ByteArray)(w:World)(R:Q1 Int):Prop:=Br (BY.toList==(⟨#[]⟩:cN).toList) (R (-1) w) (C29 s1 BY w fun r3 z4=>R r3 z4)
theorem T9 (s1 BY w R):S9 s1 BY w R->C9 s1 BY w R:=B2 oi (.q (.s (.q (.c (.q .l) .l)) (.q .l))) [.string s1,.string BY] Tryz.func9
def rL (w:World)(Aw:ByteArray×AA×Int)(YA:AA)(EL:Int)(Bo:World)(lH:Q1 Int)(R:Q1 Bool)(PN:Addr×Int)(FZ:World):Prop:=Br (PN.2 !=0) (R false FZ) (Ld FZ ⟨Bo.heap.size,0,none⟩ (Value.int .i64) fun AFv=>Ld FZ (.add ⟨Bo.heap.size,0,none⟩ 1) (Value.int .i64) fun rM=>Ld FZ (.add ⟨Bo.heap.size,0,none⟩ 2) (Value.int .i64) fun AFw=>Ld FZ (.add ⟨Bo.heap.size,0,none⟩ 3) (Value.int .i64) fun AFx=>Ld FZ (.add ⟨Bo.heap.size,0,none⟩ 4) (Value.int .i64) fun AFy=>Ld FZ (.add ⟨Bo.heap.size,0,none⟩ 5) Value.string fun rN=>Ld FZ (.add ⟨Bo.heap.size,0,none⟩ 6) AA.v fun rO=>Ld FZ (.add ⟨Bo.heap.size,0,none⟩ 7) AA.v fun rP=>Ld FZ PN.1 (Value.int .i64) fun AFz=>Ld FZ (PN.1.add 1) (Value.int .i64) fun rQ=>Ld FZ (PN.1.add 2) (Value.int .i64) fun AF0=>Ld FZ (PN.1.add 3) (Value.int .i64) fun rR=>Ld FZ (PN.1.add 4) (Value.int .i64) fun AF1=>Ld FZ (PN.1.add 5) Value.string fun rS=>Ld FZ (PN.1.add 6) AA.v fun AF2=>Ld FZ (PN.1.add 7) AA.v fun AF3=>C11 (AFv,rM,AFw,AFx,AFy,rN,rO,rP) (AFz,rQ,AF0,rR,AF1,rS,AF2,AF3) FZ fun AF5 rT=>Br (!AF5) (R false rT) (Ld rT ⟨Bo.heap.size,0,none⟩ (Value.int .i64) fun AF6=>yI YA AF6 rT fun lI AF7 PO=>Nw PO (.cells #[.int .i64 0,.int .i64 0,.int .i64 0,.int .i64 0] 33) fun rU=>St rU ⟨PO.heap.size,0,none⟩ (.int .i64 (lI.1)) fun AF8=>St AF8 (.add ⟨PO.heap.size,0,none⟩ 1) (.int .i64 (lI.2.1)) fun rV=>St rV (.add ⟨PO.heap.size,0,none⟩ 2) (.int .i64 (lI.2.2.1)) fun rW=>St rW (.add ⟨PO.heap.size,0,none⟩ 3) (.int .i64 (lI.2.2.2)) fun Gm=>Br (!AF7) (R false Gm.drew) (Ld Gm.drew ⟨Bo.heap.size,0,none⟩ (Value.int .i64) fun AF9=>Ld Gm.drew ⟨w.heap.size,0,none⟩ (Value.int .i64) fun rX=>Br (AF9 !=rX) (Ld Gm.drew ⟨PO.heap.size,0,none⟩ (Value.int .i64) fun rY=>Ld Gm.drew (.add ⟨PO.heap.size,0,none⟩ 1) (Value.int .i64) fun rZ=>Ld Gm.drew (.add ⟨PO.heap.size,0,none⟩ 2) (Value.int .i64) fun ra=>Ld Gm.drew (.add ⟨PO.heap.size,0,none⟩ 3) (Value.int .i64) fun AGA=>0<=EL/\EL<(Aw.2.1.len:Nat)/\Nn Aw.2.1.p fun lJ=>Ld Gm.drew (lJ.add ((EL).toNat*4)) (Value.int .i64) fun AGB=>Ld Gm.drew ((lJ.add ((EL).toNat*4)).add 1) (Value.int .i64) fun rb=>Ld Gm.drew ((lJ.add ((EL).toNat*4)).add 2) (Value.int .i64) fun AGC=>Ld Gm.drew ((lJ.add ((EL).toNat*4)).add 3) (Value.int .i64) fun re=>Br (!((rY==AGB)&&((rZ==rb)&&((ra==AGC)&&((AGA==re)&&true))))) (R false Gm.drew) (lH (wrap .i64 (EL+1)) Gm.drew)) (lH (wrap .i64 (EL+1)) Gm.drew))))
def rf (w:World)(l1:AA)(Aw:ByteArray×AA×Int)(YA:AA)(R:Q1 Bool)(lH:Q1 Int)(EL:Int)(Bo:World):Prop:=Br (decide (EL<(l1.len:Int))) (0<=EL/\EL<(l1.len:Nat)/\Nn l1.p fun RM=>Ld Bo (RM.add ((EL).toNat*8)) (Value.int .i64) fun rh=>Ld Bo ((RM.add ((EL).toNat*8)).add 1) (Value.int .i64) fun ri=>Ld Bo ((RM.add ((EL).toNat*8)).add 2) (Value.int .i64) fun rj=>Ld Bo ((RM.add ((EL).toNat*8)).add 3) (Value.int .i64) fun rk=>Ld Bo ((RM.add ((EL).toNat*8)).add 4) (Value.int .i64) fun rl=>Ld Bo ((RM.add ((EL).toNat*8)).add 5) Value.string fun AGD=>Ld Bo ((RM.add ((EL).toNat*8)).add 6) AA.v fun rn=>Ld Bo ((RM.add ((EL).toNat*8)).add 7) AA.v fun AGE=>Nw Bo (.cells #[.int .i64 0,.int .i64 0,.int .i64 0,.int .i64 0,.int .i64 0,.string (⟨#[]⟩:cN),AA.v ⟨none,0,0⟩,AA.v ⟨none,0,0⟩] 28) fun AGF=>St AGF ⟨Bo.heap.size,0,none⟩ (.int .i64 rh) fun rp=>St rp (.add ⟨Bo.heap.size,0,none⟩ 1) (.int .i64 ri) fun AGG=>St AGG (.add ⟨Bo.heap.size,0,none⟩ 2) (.int .i64 rj) fun rq=>St rq (.add ⟨Bo.heap.size,0,none⟩ 3) (.int .i64 rk) fun ru=>St ru (.add ⟨Bo.heap.size,0,none⟩ 4) (.int .i64 rl) fun AGH=>St AGH (.add ⟨Bo.heap.size,0,none⟩ 5) (.string AGD) fun AGI=>St AGI (.add ⟨Bo.heap.size,0,none⟩ 6) (AA.v rn) fun rv=>St rv (.add ⟨Bo.heap.size,0,none⟩ 7) (AA.v AGE) fun Kb=>As (rL w Aw YA EL Bo lH R) fun (om:Q1 (Addr×Int))=>∃dV:World->Prop,dV Kb.drew/\0<=(l1.len:Int)/\(l1.len:Int)<=(Aw.2.1.cap:Int)/\AU dV ⟨Bo.heap.size,0,none⟩ (Value.int .i64) fun lK=>(C4 Aw.1 (Aw.2.1.cut 4 0 (((l1.len:Int)).toNat) Aw.2.1.cap) lK Kb.drew fun RN AGJ NN=>Nw NN (.cells #[.int .i64 0,.int .i64 0,.int .i64 0,.int .i64 0,.int .i64 0,.string (⟨#[]⟩:cN),AA.v ⟨none,0,0⟩,AA.v ⟨none,0,0⟩] 28) fun ry=>St ry ⟨NN.heap.size,0,none⟩ (.int .i64 (RN.1)) fun AGK=>St AGK (.add ⟨NN.heap.size,0,none⟩ 1) (.int .i64 (RN.2.1)) fun sC=>St sC (.add ⟨NN.heap.size,0,none⟩ 2) (.int .i64 (RN.2.2.1)) fun AGL=>St AGL (.add ⟨NN.heap.size,0,none⟩ 3) (.int .i64 (RN.2.2.2.1)) fun sD=>St sD (.add ⟨NN.heap.size,0,none⟩ 4) (.int .i64 (RN.2.2.2.2.1)) fun sE=>St sE (.add ⟨NN.heap.size,0,none⟩ 5) (.string RN.2.2.2.2.2.1) fun sF=>St sF (.add ⟨NN.heap.size,0,none⟩ 6) (AA.v RN.2.2.2.2.2.2.1) fun AGM=>St AGM (.add ⟨NN.heap.size,0,none⟩ 7) (AA.v RN.2.2.2.2.2.2.2) fun AGN=>om (⟨NN.heap.size,0,none⟩,AGJ) AGN)/\(Nw Kb.drew (.cells #[.int .i64 0,.int .i64 0,.int .i64 0,.int .i64 0,.int .i64 0,.string (⟨#[]⟩:cN),AA.v ⟨none,0,0⟩,AA.v ⟨none,0,0⟩] 28) fun AAY=>dV AAY/\C4 Aw.1 (Aw.2.1.cut 4 0 (((l1.len:Int)).toNat) Aw.2.1.cap) lK AAY fun RO AGO sG=>St sG ⟨Kb.drew.heap.size,0,none⟩ (.int .i64 (RO.1)) fun AGP=>St AGP (.add ⟨Kb.drew.heap.size,0,none⟩ 1) (.int .i64 (RO.2.1)) fun sH=>St sH (.add ⟨Kb.drew.heap.size,0,none⟩ 2) (.int .i64 (RO.2.2.1)) fun AGQ=>St AGQ (.add ⟨Kb.drew.heap.size,0,none⟩ 3) (.int .i64 (RO.2.2.2.1)) fun sI=>St sI (.add ⟨Kb.drew.heap.size,0,none⟩ 4) (.int .i64 (RO.2.2.2.2.1)) fun sJ=>St sJ (.add ⟨Kb.drew.heap.size,0,none⟩ 5) (.string RO.2.2.2.2.2.1) fun AGR=>St AGR (.add ⟨Kb.drew.heap.size,0,none⟩ 6) (AA.v RO.2.2.2.2.2.2.1) fun AGS=>St AGS (.add ⟨Kb.drew.heap.size,0,none⟩ 7) (AA.v RO.2.2.2.2.2.2.2) fun sK=>om (⟨Kb.drew.heap.size,0,none⟩,AGO) sK)) (Ld Bo ⟨w.heap.size,0,none⟩ (Value.int .i64) fun sL=>yI YA sL Bo fun lL AGT Lm=>Nw Lm (.cells #[.int .i64 0,.int .i64 0,.int .i64 0,.int .i64 0] 33) fun AGU=>St AGU ⟨Lm.heap.size,0,none⟩ (.int .i64 (lL.1)) fun sM=>St sM (.add ⟨Lm.heap.size,0,none⟩ 1) (.int .i64 (lL.2.1)) fun sN=>St sN (.add ⟨Lm.heap.size,0,none⟩ 2) (.int .i64 (lL.2.2.1)) fun sO=>St sO (.add ⟨Lm.heap.size,0,none⟩ 3) (.int .i64 (lL.2.2.2)) fun Kc=>Br AGT (Ld Kc.drew ⟨Lm.heap.size,0,none⟩ (Value.int .i64) fun AGV=>Ld Kc.drew (.add ⟨Lm.heap.size,0,none⟩ 1) (Value.int .i64) fun AGW=>Ld Kc.drew (.add ⟨Lm.heap.size,0,none⟩ 2) (Value.int .i64) fun AGX=>Ld Kc.drew (.add ⟨Lm.heap.size,0,none⟩ 3) (Value.int .i64) fun AGY=>0<=(wrap .i64 ((Aw.2.1.len:Int)-1))/\(wrap .i64 ((Aw.2.1.len:Int)-1))<(Aw.2.1.len:Nat)/\Nn Aw.2.1.p fun lM=>Ld Kc.drew (lM.add ((wrap .i64 ((Aw.2.1.len:Int)-1)).toNat*4)) (Value.int .i64) fun AGZ=>Ld Kc.drew ((lM.add ((wrap .i64 ((Aw.2.1.len:Int)-1)).toNat*4)).add 1) (Value.int .i64) fun AGa=>Ld Kc.drew ((lM.add ((wrap .i64 ((Aw.2.1.len:Int)-1)).toNat*4)).add 2) (Value.int .i64) fun AGb=>Ld Kc.drew ((lM.add ((wrap .i64 ((Aw.2.1.len:Int)-1)).toNat*4)).add 3) (Value.int .i64) fun AGc=>R ((AGV==AGZ)&&((AGW==AGa)&&((AGX==AGb)&&((AGY==AGc)&&true)))) Kc.drew) (R false Kc.drew))
def AAZ (w:World)(l1:AA)(YB:AA×Int×Int)(R:Q1 Bool)(sP:Q1 (ByteArray×AA×Int))(Aw:ByteArray×AA×Int)(A5:World):Prop:=Br (decide (Aw.2.2<YB.2.1)) (0<=Aw.2.2/\Aw.2.2<(YB.1.len:Nat)/\Nn YB.1.p fun a167=>Ld A5 (a167.add ((Aw.2.2).toNat*8)) (Value.int .i64) fun dQ=>Ld A5 ((a167.add ((Aw.2.2).toNat*8)).add 1) (Value.int .i64) fun UO=>Ld A5 ((a167.add ((Aw.2.2).toNat*8)).add 2) (Value.int .i64) fun UP=>Ld A5 ((a167.add ((Aw.2.2).toNat*8)).add 3) (Value.int .i64) fun UQ=>Ld A5 ((a167.add ((Aw.2.2).toNat*8)).add 4) (Value.int .i64) fun dW=>Ld A5 ((a167.add ((Aw.2.2).toNat*8)).add 5) Value.string fun dX=>Ld A5 ((a167.add ((Aw.2.2).toNat*8)).add 6) AA.v fun sQ=>Ld A5 ((a167.add ((Aw.2.2).toNat*8)).add 7) AA.v fun sR=>Nw A5 (.cells #[.int .i64 0,.int .i64 0,.int .i64 0,.int .i64 0,.int .i64 0,.string (⟨#[]⟩:cN),AA.v ⟨none,0,0⟩,AA.v ⟨none,0,0⟩] 28) fun rB=>St rB ⟨A5.heap.size,0,none⟩ (.int .i64 dQ) fun rC=>St rC (.add ⟨A5.heap.size,0,none⟩ 1) (.int .i64 UO) fun rD=>St rD (.add ⟨A5.heap.size,0,none⟩ 2) (.int .i64 UP) fun Bn=>St Bn (.add ⟨A5.heap.size,0,none⟩ 3) (.int .i64 UQ) fun AGd=>St AGd (.add ⟨A5.heap.size,0,none⟩ 4) (.int .i64 dW) fun sS=>St sS (.add ⟨A5.heap.size,0,none⟩ 5) (.string dX) fun z182=>St z182 (.add ⟨A5.heap.size,0,none⟩ 6) (AA.v sQ) fun z183=>St z183 (.add ⟨A5.heap.size,0,none⟩ 7) (AA.v sR) fun JX=>Ld JX ⟨A5.heap.size,0,none⟩ (Value.int .i64) fun rG=>Ld JX (.add ⟨A5.heap.size,0,none⟩ 1) (Value.int .i64) fun rH=>Ld JX (.add ⟨A5.heap.size,0,none⟩ 2) (Value.int .i64) fun AGe=>Ld JX (.add ⟨A5.heap.size,0,none⟩ 3) (Value.int .i64) fun AGf=>Ld JX (.add ⟨A5.heap.size,0,none⟩ 4) (Value.int .i64) fun AGg=>Ld JX (.add ⟨A5.heap.size,0,none⟩ 5) Value.string fun sU=>Ld JX (.add ⟨A5.heap.size,0,none⟩ 6) AA.v fun dY=>Ld JX (.add ⟨A5.heap.size,0,none⟩ 7) AA.v fun dZ=>C7 (rG,rH,AGe,AGf,AGg,sU,dY,dZ) JX fun RP AGh sV=>Br (AGh !=0) (∃AAa:World->Prop,AAa sV.drew/\R true sV.drew) (C8 RP (⟨#[32,111,98,106]⟩:cN) 0 sV.drew fun UW z198=>C9 RP (⟨#[32,111,98,106]⟩:cN) z198 fun AGi Fa=>∃WC:World->Prop,WC Fa/\Br (UW !=AGi) (R true Fa) (AU WC (.add ⟨A5.heap.size,0,none⟩ 2) (Value.int .i64) fun AGj=>Br (AGj==9) (R true Fa) (Br (decide (Aw.2.2>0)) (Br (decide (Aw.2.2<(l1.len:Int))) (AU WC ⟨A5.heap.size,0,none⟩ (Value.int .i64) fun AGk=>0<=(wrap .i64 (Aw.2.2-1))/\(wrap .i64 (Aw.2.2-1))<(l1.len:Nat)/\Nn l1.p fun AGl=>AU WC (AGl.add ((wrap .i64 (Aw.2.2-1)).toNat*8)) (Value.int .i64) fun sW=>Br (decide (AGk<=sW)) (R true Fa) (Ld Fa ⟨A5.heap.size,0,none⟩ (Value.int .i64) fun da=>Ld Fa (.add ⟨A5.heap.size,0,none⟩ 1) (Value.int .i64) fun UX=>Nw Fa (.cells #[.int .i64 da,.int .i64 1,.int .i64 (((Aw.1).size:Nat):Int),.int .i64 UX] 33) fun z208=>Rn prog (Builtin.append_ #[34,34] 34 #[AA.v Aw.2.1,AA.v ⟨some ⟨Fa.heap.size,0,none⟩,1,1⟩]) z208 AA.v fun db z210=>(((Aw.1).size+(RP).size:Nat):Int)<=IntKind.i64.max/\sP (Aw.1++RP,db,wrap .i64 (Aw.2.2+1)) z210)) (Ld Fa ⟨A5.heap.size,0,none⟩ (Value.int .i64) fun dc=>Ld Fa (.add ⟨A5.heap.size,0,none⟩ 1) (Value.int .i64) fun AGm=>Nw Fa (.cells #[.int .i64 dc,.int .i64 1,.int .i64 (((Aw.1).size:Nat):Int),.int .i64 AGm] 33) fun z213=>Rn prog (Builtin.append_ #[34,34] 34 #[AA.v Aw.2.1,AA.v ⟨some ⟨Fa.heap.size,0,none⟩,1,1⟩]) z213 AA.v fun AGn sX=>(((Aw.1).size+(RP).size:Nat):Int)<=IntKind.i64.max/\sP (Aw.1++RP,AGn,wrap .i64 (Aw.2.2+1)) sX)) (Ld Fa ⟨A5.heap.size,0,none⟩ (Value.int .i64) fun AGo=>Ld Fa (.add ⟨A5.heap.size,0,none⟩ 1) (Value.int .i64) fun AGp=>Nw Fa (.cells #[.int .i64 AGo,.int .i64 1,.int .i64 (((Aw.1).size:Nat):Int),.int .i64 AGp] 33) fun z218=>Rn prog (Builtin.append_ #[34,34] 34 #[AA.v Aw.2.1,AA.v ⟨some ⟨Fa.heap.size,0,none⟩,1,1⟩]) z218 AA.v fun AGq AGr=>(((Aw.1).size+(RP).size:Nat):Int)<=IntKind.i64.max/\sP (Aw.1++RP,AGq,wrap .i64 (Aw.2.2+1)) AGr))))) (C10 Aw.1 A5 fun YA z222=>Lp (σ:=Int) (rf w l1 Aw YA R) 0 z222)
def lN (w:World)(l1:AA)(R:Q1 Bool)(YB:AA×Int×Int)(JO:World):Prop:=Lp (σ:=ByteArray×AA×Int) (AAZ w l1 YB R) ((⟨#[]⟩:cN),(⟨none,0,0⟩:AA),YB.2.2) JO
def S3 (l1:AA)(Av:Int×Int×Int×Int×Int×ByteArray×AA×AA)(w:World)(R:Q1 Bool):Prop:=Nw w (.cells #[.int .i64 (Av.1),.int .i64 (Av.2.1),.int .i64 (Av.2.2.1),.int .i64 (Av.2.2.2.1),.int .i64 (Av.2.2.2.2.1),.string Av.2.2.2.2.2.1,AA.v Av.2.2.2.2.2.2.1,AA.v Av.2.2.2.2.2.2.2] 28) fun z3=>Lt ((⟨#[49,32,48,32,111,98,106,10,53,10,101,110,100,111,98,106,10]⟩:cN)) fun (s04:ByteArray)=>Nw z3 (.cells #[.int .i64 1,.int .i64 1,.int .i64 0,.int .i64 0] 33) fun z5=>C4 s04 (⟨some ⟨z3.heap.size,0,none⟩,1,1⟩:AA) 1 z5 fun r6 r7 z8=>Nw z8 (.cells #[.int .i64 0,.int .i64 0,.int .i64 0,.int .i64 0,.int .i64 0,.string (⟨#[]⟩:cN),AA.v ⟨none,0,0⟩,AA.v ⟨none,0,0⟩] 28) fun z9=>St z9 ⟨z8.heap.size,0,none⟩ (.int .i64 (r6.1)) fun Ay=>St Ay (.add ⟨z8.heap.size,0,none⟩ 1) (.int .i64 (r6.2.1)) fun D1=>St D1 (.add ⟨z8.heap.size,0,none⟩ 2) (.int .i64 (r6.2.2.1)) fun z12=>St z12 (.add ⟨z8.heap.size,0,none⟩ 3) (.int .i64 (r6.2.2.2.1)) fun A6=>St A6 (.add ⟨z8.heap.size,0,none⟩ 4) (.int .i64 (r6.2.2.2.2.1)) fun AM=>St AM (.add ⟨z8.heap.size,0,none⟩ 5) (.string r6.2.2.2.2.2.1) fun Db=>St Db (.add ⟨z8.heap.size,0,none⟩ 6) (AA.v r6.2.2.2.2.2.2.1) fun Cu=>St Cu (.add ⟨z8.heap.size,0,none⟩ 7) (AA.v r6.2.2.2.2.2.2.2) fun EI=>Br (r7 !=0) (R false EI) (Ld EI (((⟨z8.heap.size,0,none⟩:Addr).add 2).add 1) (Value.int .i64) fun FJ=>Br (FJ !=5) (R false EI) (Br (decide ((l1.len:Int)>8)) (R true EI) (C5 (l1,0,0,0,(⟨#[]⟩:cN),(⟨none,0,0⟩:AA),(⟨none,0,0⟩:AA)) EI fun TR z31=>Br (decide (TR>200)) (R true z31) (Ld z31 (.add ⟨w.heap.size,0,none⟩ 2) (Value.int .i64) fun IC=>Ld z31 (((⟨w.heap.size,0,none⟩:Addr).add 2).add 1) (Value.int .i64) fun NI=>Ld z31 (((⟨w.heap.size,0,none⟩:Addr).add 2).add 2) (Value.int .i64) fun M8=>Ld z31 (((⟨w.heap.size,0,none⟩:Addr).add 2).add 3) Value.string fun RQ=>Ld z31 (((⟨w.heap.size,0,none⟩:Addr).add 2).add 4) AA.v fun Lc=>Ld z31 (((⟨w.heap.size,0,none⟩:Addr).add 2).add 5) AA.v fun RU=>C6 (IC,NI,M8,RQ,Lc,RU) z31 fun jg ET=>Br (decide (jg>100)) (R true ET) (As (lN w l1 R) fun (de:Q1 (AA×Int×Int))=>∃Fv:World->Prop,Fv ET.drew/\AU Fv ⟨w.heap.size,0,none⟩ (Value.int .i64) fun sY=>AU Fv (.add ⟨w.heap.size,0,none⟩ 1) (Value.int .i64) fun sZ=>AU Fv (.add ⟨w.heap.size,0,none⟩ 2) (Value.int .i64) fun sa=>AU Fv (.add ⟨w.heap.size,0,none⟩ 3) (Value.int .i64) fun se=>AU Fv (.add ⟨w.heap.size,0,none⟩ 4) (Value.int .i64) fun sf=>AU Fv (.add ⟨w.heap.size,0,none⟩ 5) Value.string fun si=>AU Fv (.add ⟨w.heap.size,0,none⟩ 6) AA.v fun sj=>AU Fv (.add ⟨w.heap.size,0,none⟩ 7) AA.v fun sn=>(Nw ET.drew (.cells #[] 28) fun lO=>Fv lO/\(Rn prog (Builtin.append_ #[22,22] 22 #[AA.v ⟨some ⟨ET.drew.heap.size,0,none⟩,0,0⟩,AA.v l1]) lO AA.v fun AGs sq=>Fv sq/\Nw sq (.cells #[.int .i64 sY,.int .i64 sZ,.int .i64 sa,.int .i64 se,.int .i64 sf,.string si,AA.v sj,AA.v sn] 28) fun AGt=>Rn prog (Builtin.append_ #[22,22] 22 #[AA.v AGs,AA.v ⟨some ⟨sq.heap.size,0,none⟩,1,1⟩]) AGt AA.v fun AAb AGu=>de (AAb,(AAb.len:Int),0) AGu)/\(Nw lO (.cells #[.int .i64 sY,.int .i64 sZ,.int .i64 sa,.int .i64 se,.int .i64 sf,.string si,AA.v sj,AA.v sn] 28) fun AGv=>Rn prog (Builtin.append_ #[22,22] 22 #[AA.v ⟨some ⟨ET.drew.heap.size,0,none⟩,0,0⟩,AA.v l1]) AGv AA.v fun AGw AGx=>Rn prog (Builtin.append_ #[22,22] 22 #[AA.v AGw,AA.v ⟨some ⟨lO.heap.size,0,none⟩,1,1⟩]) AGx AA.v fun AAc AGy=>de (AAc,(AAc.len:Int),0) AGy))/\(Nw ET.drew (.cells #[.int .i64 sY,.int .i64 sZ,.int .i64 sa,.int .i64 se,.int .i64 sf,.string si,AA.v sj,AA.v sn] 28) fun AAd=>Nw AAd (.cells #[] 28) fun AGz=>Rn prog (Builtin.append_ #[22,22] 22 #[AA.v ⟨some ⟨AAd.heap.size,0,none⟩,0,0⟩,AA.v l1]) AGz AA.v fun AG0 AG1=>Rn prog (Builtin.append_ #[22,22] 22 #[AA.v AG0,AA.v ⟨some ⟨ET.drew.heap.size,0,none⟩,1,1⟩]) AG1 AA.v fun AAe AG2=>de (AAe,(AAe.len:Int),0) AG2))))))
theorem T3 (l1 Av w R):S3 l1 Av w R->C3 l1 (Av.1,Av.2.1,Av.2.2.1,Av.2.2.2.1,Av.2.2.2.2.1,Av.2.2.2.2.2.1,Av.2.2.2.2.2.2.1,Av.2.2.2.2.2.2.2) w R:=B2 ob (.q (.q (.q (.s (.q (.c (.q .l) .l)) (.s (.q (.c (.q .l) .l)) (.q (.q (.s (.join [(58,ol),(59,oi),(60,oi)] [0,3,8,9] (.A7 (.held [4] (.take 1 (.take 3 (.take 7 (.FV 0 none (.FV 2 none (.A4 4 (some [5]) (.A4 5 (some []) (.take 6 .done))) (.A4 4 (some [2]) (.A4 2 (some [5]) (.A4 5 (some []) (.take 6 .done))))) (.A4 4 (some [0]) (.A4 0 (some [2]) (.A4 2 (some [5]) (.A4 5 (some []) (.take 6 .done))))))))))) (.b (.o [(8,os),(9,ol),(60,oi)] [0,3,58,59] (.q (.s (.c .l .l) (.s (.b (.q (.q (.s (.s (.A7 (.held [4] (.take 0 (.take 1 (.take 2 (.take 3 (.take 5 (.A4 4 (some [6]) (.A4 6 (some []) (.take 7 (.take 8 (.take 9 (.take 10 (.take 11 (.take 12 (.take 13 (.take 14 (.take 15 (.take 16 (.take 17 (.take 18 (.take 19 (.take 20 (.take 21 (.take 22 (.take 23 (.take 24 (.take 25 (.take 26 (.take 27 (.take 28 (.take 29 (.take 30 (.take 31 (.take 32 (.take 33 (.take 34 (.take 35 .done)))))))))))))))))))))))))))))))))))))) (.c (.q .l) .l)) (.q .r))))) .r)))))) (.q (.s (.q (.b (.o [(124,oi)] [0,3,8,9,14,122,123] (.q (.s (.c .l .l) (.s (.b (.q (.join [(17,(.one .addr)),(18,oi)] [0,3,8,9,14,15,16,122,123,124] (.A7 (.held [7] (.take 0 (.take 1 (.take 2 (.take 3 (.take 4 (.take 5 (.take 6 (.FV 7 (some [11]) (.take 8 (.take 9 (.take 10 (.A4 11 (some [12]) (.A4 12 (some []) (.take 13 .done)))))) (.A4 11 none (.A4 7 (some [12]) (.take 8 (.take 9 (.take 10 (.A4 12 (some []) (.take 13 .done))))))))))))))))) (.s (.q (.c (.q .l) .l)) (.q (.s (.A7 .still) (.c (.q .l) .l))))))) .r)))))) (.q (.s (.A7 .still) .l)))))))))))) [AA.v l1,.agg #[.int .i64 (Av.1),.int .i64 (Av.2.1),.int .i64 (Av.2.2.1),.int .i64 (Av.2.2.2.1),.int .i64 (Av.2.2.2.2.1),.string Av.2.2.2.2.2.1,AA.v Av.2.2.2.2.2.2.1,AA.v Av.2.2.2.2.2.2.2]] Tryz.func3
end
end Go.Proofs.YtdnhhkhbdfiagaaGreatDoor
namespace Go.Proofs
open Go.Shelf
def Tryz.Sd:Go.Shelf.Ren:=⟨fun|137=>90|217=>85|266=>133|n=>n,fun|9=>9|5=>5|3=>3|n=>n,fun|n=>n⟩
theorem Tryz.nT:Go.Proofs.Lays.n137 Tryz.prog Tryz.Sd:={
 mixed:=by kernel_rfl
 f137:=Tryz.func90.trans (congrArg some (by kernel_rfl))
 f217:=Tryz.func85.trans (congrArg some (by kernel_rfl))
 f266:=Tryz.func133.trans (congrArg some (by kernel_rfl))
 t3:=Tryz.underlying3
 a3:=Tryz.isAgg3
 z3:=Tryz.sizeOf3
 v3:=Tryz.zeroValue3
 t5:=Tryz.underlying5
 a5:=Tryz.isAgg5
 z5:=Tryz.sizeOf5
 v5:=Tryz.zeroValue5
 t9:=Tryz.underlying9
 a9:=Tryz.isAgg9
 z9:=Tryz.sizeOf9
 v9:=Tryz.zeroValue9}
def Tryz.Se:Go.Shelf.Ren:=⟨fun|161=>241|231=>269|227=>226|233=>270|235=>271|228=>262|197=>292|151=>264|260=>309|152=>293|137=>90|119=>310|224=>87|225=>86|217=>85|266=>133|n=>n,fun|9=>9|4=>4|3=>3|5=>5|117=>277|116=>276|0=>0|124=>280|105=>302|21=>21|119=>373|46=>133|139=>376|138=>375|n=>n,fun|3=>5|4=>6|n=>n⟩
theorem Tryz.nU:Go.Proofs.Lays.n161 Tryz.prog Tryz.Se:={
 mixed:=by kernel_rfl
 f119:=Tryz.func310.trans (congrArg some (by kernel_rfl))
 f137:=Tryz.func90.trans (congrArg some (by kernel_rfl))
 f151:=Tryz.func264.trans (congrArg some (by kernel_rfl))
 f152:=Tryz.func293.trans (congrArg some (by kernel_rfl))
 f161:=Tryz.func241.trans (congrArg some (by kernel_rfl))
 f197:=Tryz.func292.trans (congrArg some (by kernel_rfl))
 f217:=Tryz.func85.trans (congrArg some (by kernel_rfl))
 f224:=Tryz.func87.trans (congrArg some (by kernel_rfl))
 f225:=Tryz.func86.trans (congrArg some (by kernel_rfl))
 f227:=Tryz.func226.trans (congrArg some (by kernel_rfl))
 f228:=Tryz.func262.trans (congrArg some (by kernel_rfl))
 f231:=Tryz.func269.trans (congrArg some (by kernel_rfl))
 f233:=Tryz.func270.trans (congrArg some (by kernel_rfl))
 f235:=Tryz.func271.trans (congrArg some (by kernel_rfl))
 f260:=Tryz.func309.trans (congrArg some (by kernel_rfl))
 f266:=Tryz.func133.trans (congrArg some (by kernel_rfl))
 t0:=Tryz.underlying0
 a0:=Tryz.isAgg0
 z0:=Tryz.sizeOf0
 v0:=Tryz.zeroValue0
 t3:=Tryz.underlying3
 a3:=Tryz.isAgg3
 z3:=Tryz.sizeOf3
 v3:=Tryz.zeroValue3
 t4:=Tryz.underlying4
 a4:=Tryz.isAgg4
 z4:=Tryz.sizeOf4
 v4:=Tryz.zeroValue4
 t5:=Tryz.underlying5
 a5:=Tryz.isAgg5
 z5:=Tryz.sizeOf5
 v5:=Tryz.zeroValue5
 t9:=Tryz.underlying9
 a9:=Tryz.isAgg9
 z9:=Tryz.sizeOf9
 v9:=Tryz.zeroValue9
 t21:=Tryz.underlying21
 a21:=Tryz.isAgg21
 z21:=Tryz.sizeOf21
 v21:=Tryz.zeroValue21
 t46:=Tryz.underlying133
 a46:=Tryz.isAgg133
 z46:=Tryz.sizeOf133
 v46:=Tryz.zeroValue133
 t105:=Tryz.underlying302
 a105:=Tryz.isAgg302
 z105:=Tryz.sizeOf302
 v105:=Tryz.zeroValue302
 t116:=Tryz.underlying276
 a116:=Tryz.isAgg276
 z116:=Tryz.sizeOf276
 t117:=Tryz.underlying277
 a117:=Tryz.isAgg277
 z117:=Tryz.sizeOf277
 v117:=Tryz.zeroValue277
 t119:=Tryz.underlying373
 a119:=Tryz.isAgg373
 z119:=Tryz.sizeOf373
 t124:=Tryz.underlying280
 a124:=Tryz.isAgg280
 z124:=Tryz.sizeOf280
 v124:=Tryz.zeroValue280
 t138:=Tryz.underlying375
 a138:=Tryz.isAgg375
 z138:=Tryz.sizeOf375
 v138:=Tryz.zeroValue375
 t139:=Tryz.underlying376
 a139:=Tryz.isAgg376
 z139:=Tryz.sizeOf376
 v139:=Tryz.zeroValue376
 g3:=by kernel_rfl
 g4:=by kernel_rfl}
def Tryz.Sf:Go.Shelf.Ren:=⟨fun|162=>196|232=>225|227=>226|234=>227|236=>228|228=>262|271=>263|151=>264|120=>291|197=>292|152=>293|260=>309|137=>90|119=>310|224=>87|225=>86|217=>85|266=>133|n=>n,fun|9=>9|4=>4|3=>3|5=>5|117=>277|116=>276|0=>0|124=>280|21=>21|105=>302|46=>133|119=>373|139=>376|138=>375|n=>n,fun|3=>5|4=>6|n=>n⟩
theorem Tryz.nV:Go.Proofs.Lays.n162 Tryz.prog Tryz.Sf:={
 mixed:=by kernel_rfl
 f119:=Tryz.func310.trans (congrArg some (by kernel_rfl))
 f120:=Tryz.func291.trans (congrArg some (by kernel_rfl))
 f137:=Tryz.func90.trans (congrArg some (by kernel_rfl))
 f151:=Tryz.func264.trans (congrArg some (by kernel_rfl))
 f152:=Tryz.func293.trans (congrArg some (by kernel_rfl))
 f162:=Tryz.func196.trans (congrArg some (by kernel_rfl))
 f197:=Tryz.func292.trans (congrArg some (by kernel_rfl))
 f217:=Tryz.func85.trans (congrArg some (by kernel_rfl))
 f224:=Tryz.func87.trans (congrArg some (by kernel_rfl))
 f225:=Tryz.func86.trans (congrArg some (by kernel_rfl))
 f227:=Tryz.func226.trans (congrArg some (by kernel_rfl))
 f228:=Tryz.func262.trans (congrArg some (by kernel_rfl))
 f232:=Tryz.func225.trans (congrArg some (by kernel_rfl))
 f234:=Tryz.func227.trans (congrArg some (by kernel_rfl))
 f236:=Tryz.func228.trans (congrArg some (by kernel_rfl))
 f260:=Tryz.func309.trans (congrArg some (by kernel_rfl))
 f266:=Tryz.func133.trans (congrArg some (by kernel_rfl))
 f271:=Tryz.func263.trans (congrArg some (by kernel_rfl))
 t0:=Tryz.underlying0
 a0:=Tryz.isAgg0
 z0:=Tryz.sizeOf0
 v0:=Tryz.zeroValue0
 t3:=Tryz.underlying3
 a3:=Tryz.isAgg3
 z3:=Tryz.sizeOf3
 v3:=Tryz.zeroValue3
 t4:=Tryz.underlying4
 a4:=Tryz.isAgg4
 z4:=Tryz.sizeOf4
 v4:=Tryz.zeroValue4
 t5:=Tryz.underlying5
 a5:=Tryz.isAgg5
 z5:=Tryz.sizeOf5
 v5:=Tryz.zeroValue5
 t9:=Tryz.underlying9
 a9:=Tryz.isAgg9
 z9:=Tryz.sizeOf9
 v9:=Tryz.zeroValue9
 t21:=Tryz.underlying21
 a21:=Tryz.isAgg21
 z21:=Tryz.sizeOf21
 v21:=Tryz.zeroValue21
 t46:=Tryz.underlying133
 a46:=Tryz.isAgg133
 z46:=Tryz.sizeOf133
 v46:=Tryz.zeroValue133
 t105:=Tryz.underlying302
 a105:=Tryz.isAgg302
 z105:=Tryz.sizeOf302
 v105:=Tryz.zeroValue302
 t116:=Tryz.underlying276
 a116:=Tryz.isAgg276
 z116:=Tryz.sizeOf276
 t117:=Tryz.underlying277
 a117:=Tryz.isAgg277
 z117:=Tryz.sizeOf277
 v117:=Tryz.zeroValue277
 t119:=Tryz.underlying373
 a119:=Tryz.isAgg373
 z119:=Tryz.sizeOf373
 t124:=Tryz.underlying280
 a124:=Tryz.isAgg280
 z124:=Tryz.sizeOf280
 v124:=Tryz.zeroValue280
 t138:=Tryz.underlying375
 a138:=Tryz.isAgg375
 z138:=Tryz.sizeOf375
 v138:=Tryz.zeroValue375
 t139:=Tryz.underlying376
 a139:=Tryz.isAgg376
 z139:=Tryz.sizeOf376
 v139:=Tryz.zeroValue376
 g3:=by kernel_rfl
 g4:=by kernel_rfl}
def Tryz.Si:Go.Shelf.Ren:=⟨fun|160=>242|232=>225|231=>269|227=>226|234=>227|233=>270|236=>228|235=>271|228=>262|271=>263|151=>264|197=>292|120=>291|152=>293|260=>309|137=>90|119=>310|224=>87|225=>86|217=>85|266=>133|n=>n,fun|9=>9|4=>4|3=>3|5=>5|117=>277|116=>276|0=>0|124=>280|21=>21|105=>302|46=>133|119=>373|139=>376|138=>375|n=>n,fun|3=>5|4=>6|n=>n⟩
theorem Tryz.nW:Go.Proofs.Lays.n160 Tryz.prog Tryz.Si:={
 mixed:=by kernel_rfl
 f119:=Tryz.func310.trans (congrArg some (by kernel_rfl))
 f120:=Tryz.func291.trans (congrArg some (by kernel_rfl))
 f137:=Tryz.func90.trans (congrArg some (by kernel_rfl))
 f151:=Tryz.func264.trans (congrArg some (by kernel_rfl))
 f152:=Tryz.func293.trans (congrArg some (by kernel_rfl))
 f160:=Tryz.func242.trans (congrArg some (by kernel_rfl))
 f197:=Tryz.func292.trans (congrArg some (by kernel_rfl))
 f217:=Tryz.func85.trans (congrArg some (by kernel_rfl))
 f224:=Tryz.func87.trans (congrArg some (by kernel_rfl))
 f225:=Tryz.func86.trans (congrArg some (by kernel_rfl))
 f227:=Tryz.func226.trans (congrArg some (by kernel_rfl))
 f228:=Tryz.func262.trans (congrArg some (by kernel_rfl))
 f231:=Tryz.func269.trans (congrArg some (by kernel_rfl))
 f232:=Tryz.func225.trans (congrArg some (by kernel_rfl))
 f233:=Tryz.func270.trans (congrArg some (by kernel_rfl))
 f234:=Tryz.func227.trans (congrArg some (by kernel_rfl))
 f235:=Tryz.func271.trans (congrArg some (by kernel_rfl))
 f236:=Tryz.func228.trans (congrArg some (by kernel_rfl))
 f260:=Tryz.func309.trans (congrArg some (by kernel_rfl))
 f266:=Tryz.func133.trans (congrArg some (by kernel_rfl))
 f271:=Tryz.func263.trans (congrArg some (by kernel_rfl))
 t0:=Tryz.underlying0
 a0:=Tryz.isAgg0
 z0:=Tryz.sizeOf0
 v0:=Tryz.zeroValue0
 t3:=Tryz.underlying3
 a3:=Tryz.isAgg3
 z3:=Tryz.sizeOf3
 v3:=Tryz.zeroValue3
 t4:=Tryz.underlying4
 a4:=Tryz.isAgg4
 z4:=Tryz.sizeOf4
 v4:=Tryz.zeroValue4
 t5:=Tryz.underlying5
 a5:=Tryz.isAgg5
 z5:=Tryz.sizeOf5
 v5:=Tryz.zeroValue5
 t9:=Tryz.underlying9
 a9:=Tryz.isAgg9
 z9:=Tryz.sizeOf9
 v9:=Tryz.zeroValue9
 t21:=Tryz.underlying21
 a21:=Tryz.isAgg21
 z21:=Tryz.sizeOf21
 v21:=Tryz.zeroValue21
 t46:=Tryz.underlying133
 a46:=Tryz.isAgg133
 z46:=Tryz.sizeOf133
 v46:=Tryz.zeroValue133
 t105:=Tryz.underlying302
 a105:=Tryz.isAgg302
 z105:=Tryz.sizeOf302
 v105:=Tryz.zeroValue302
 t116:=Tryz.underlying276
 a116:=Tryz.isAgg276
 z116:=Tryz.sizeOf276
 t117:=Tryz.underlying277
 a117:=Tryz.isAgg277
 z117:=Tryz.sizeOf277
 v117:=Tryz.zeroValue277
 t119:=Tryz.underlying373
 a119:=Tryz.isAgg373
 z119:=Tryz.sizeOf373
 t124:=Tryz.underlying280
 a124:=Tryz.isAgg280
 z124:=Tryz.sizeOf280
 v124:=Tryz.zeroValue280
 t138:=Tryz.underlying375
 a138:=Tryz.isAgg375
 z138:=Tryz.sizeOf375
 v138:=Tryz.zeroValue375
 t139:=Tryz.underlying376
 a139:=Tryz.isAgg376
 z139:=Tryz.sizeOf376
 v139:=Tryz.zeroValue376
 g3:=by kernel_rfl
 g4:=by kernel_rfl}
def Tryz.Vj:Go.Shelf.Ren:=⟨fun|99=>207|206=>239|n=>n,fun|9=>9|4=>4|3=>3|n=>n,fun|n=>n⟩
theorem Tryz.xE:Go.Proofs.Lays.n99 Tryz.prog Tryz.Vj:={
 mixed:=by kernel_rfl
 f99:=Tryz.func207.trans (congrArg some (by kernel_rfl))
 f206:=Tryz.func239.trans (congrArg some (by kernel_rfl))
 t3:=Tryz.underlying3
 a3:=Tryz.isAgg3
 z3:=Tryz.sizeOf3
 v3:=Tryz.zeroValue3
 t4:=Tryz.underlying4
 a4:=Tryz.isAgg4
 z4:=Tryz.sizeOf4
 v4:=Tryz.zeroValue4
 t9:=Tryz.underlying9
 a9:=Tryz.isAgg9
 z9:=Tryz.sizeOf9
 v9:=Tryz.zeroValue9}
def Tryz.Sj:Go.Shelf.Ren:=⟨fun|219=>51|217=>85|225=>86|224=>87|267=>88|266=>133|314=>134|n=>n,fun|9=>9|3=>3|4=>4|5=>5|46=>133|146=>135|51=>134|n=>n,fun|1=>0|n=>n⟩
theorem Tryz.nX:Go.Proofs.Lays.n219 Tryz.prog Tryz.Sj:={
 mixed:=by kernel_rfl
 f217:=Tryz.func85.trans (congrArg some (by kernel_rfl))
 f219:=Tryz.func51.trans (congrArg some (by kernel_rfl))
 f224:=Tryz.func87.trans (congrArg some (by kernel_rfl))
 f225:=Tryz.func86.trans (congrArg some (by kernel_rfl))
 f266:=Tryz.func133.trans (congrArg some (by kernel_rfl))
 f267:=Tryz.func88.trans (congrArg some (by kernel_rfl))
 f314:=Tryz.func134.trans (congrArg some (by kernel_rfl))
 t3:=Tryz.underlying3
 a3:=Tryz.isAgg3
 z3:=Tryz.sizeOf3
 v3:=Tryz.zeroValue3
 t4:=Tryz.underlying4
 a4:=Tryz.isAgg4
 z4:=Tryz.sizeOf4
 v4:=Tryz.zeroValue4
 t5:=Tryz.underlying5
 a5:=Tryz.isAgg5
 z5:=Tryz.sizeOf5
 v5:=Tryz.zeroValue5
 t9:=Tryz.underlying9
 a9:=Tryz.isAgg9
 z9:=Tryz.sizeOf9
 v9:=Tryz.zeroValue9
 t46:=Tryz.underlying133
 a46:=Tryz.isAgg133
 z46:=Tryz.sizeOf133
 v46:=Tryz.zeroValue133
 t51:=Tryz.underlying134
 a51:=Tryz.isAgg134
 z51:=Tryz.sizeOf134
 v51:=Tryz.zeroValue134
 t146:=Tryz.underlying135
 a146:=Tryz.isAgg135
 z146:=Tryz.sizeOf135
 v146:=Tryz.zeroValue135
 g1:=by kernel_rfl}
def Tryz.Sk:Go.Shelf.Ren:=⟨fun|143=>28|219=>51|217=>85|225=>86|224=>87|267=>88|266=>133|314=>134|n=>n,fun|9=>9|3=>3|4=>4|5=>5|46=>133|146=>135|51=>134|n=>n,fun|1=>0|n=>n⟩
theorem Tryz.mE:Go.Proofs.Lays.n143 Tryz.prog Tryz.Sk:={
 mixed:=by kernel_rfl
 f143:=Tryz.func28.trans (congrArg some (by kernel_rfl))
 f217:=Tryz.func85.trans (congrArg some (by kernel_rfl))
 f219:=Tryz.func51.trans (congrArg some (by kernel_rfl))
 f224:=Tryz.func87.trans (congrArg some (by kernel_rfl))
 f225:=Tryz.func86.trans (congrArg some (by kernel_rfl))
 f266:=Tryz.func133.trans (congrArg some (by kernel_rfl))
 f267:=Tryz.func88.trans (congrArg some (by kernel_rfl))
 f314:=Tryz.func134.trans (congrArg some (by kernel_rfl))
 t3:=Tryz.underlying3
 a3:=Tryz.isAgg3
 z3:=Tryz.sizeOf3
 v3:=Tryz.zeroValue3
 t4:=Tryz.underlying4
 a4:=Tryz.isAgg4
 z4:=Tryz.sizeOf4
 v4:=Tryz.zeroValue4
 t5:=Tryz.underlying5
 a5:=Tryz.isAgg5
 z5:=Tryz.sizeOf5
 v5:=Tryz.zeroValue5
 t9:=Tryz.underlying9
 a9:=Tryz.isAgg9
 z9:=Tryz.sizeOf9
 v9:=Tryz.zeroValue9
 t46:=Tryz.underlying133
 a46:=Tryz.isAgg133
 z46:=Tryz.sizeOf133
 v46:=Tryz.zeroValue133
 t51:=Tryz.underlying134
 a51:=Tryz.isAgg134
 z51:=Tryz.sizeOf134
 v51:=Tryz.zeroValue134
 t146:=Tryz.underlying135
 a146:=Tryz.isAgg135
 z146:=Tryz.sizeOf135
 v146:=Tryz.zeroValue135
 g1:=by kernel_rfl}
def Tryz.Sl:Go.Shelf.Ren:=⟨fun|144=>243|143=>28|219=>51|217=>85|225=>86|224=>87|267=>88|266=>133|314=>134|n=>n,fun|9=>9|4=>4|3=>3|5=>5|46=>133|146=>135|51=>134|n=>n,fun|1=>0|n=>n⟩
theorem Tryz.nY:Go.Proofs.Lays.n144 Tryz.prog Tryz.Sl:={
 mixed:=by kernel_rfl
 f143:=Tryz.func28.trans (congrArg some (by kernel_rfl))
 f144:=Tryz.func243.trans (congrArg some (by kernel_rfl))
 f217:=Tryz.func85.trans (congrArg some (by kernel_rfl))
 f219:=Tryz.func51.trans (congrArg some (by kernel_rfl))
 f224:=Tryz.func87.trans (congrArg some (by kernel_rfl))
 f225:=Tryz.func86.trans (congrArg some (by kernel_rfl))
 f266:=Tryz.func133.trans (congrArg some (by kernel_rfl))
 f267:=Tryz.func88.trans (congrArg some (by kernel_rfl))
 f314:=Tryz.func134.trans (congrArg some (by kernel_rfl))
 t3:=Tryz.underlying3
 a3:=Tryz.isAgg3
 z3:=Tryz.sizeOf3
 v3:=Tryz.zeroValue3
 t4:=Tryz.underlying4
 a4:=Tryz.isAgg4
 z4:=Tryz.sizeOf4
 v4:=Tryz.zeroValue4
 t5:=Tryz.underlying5
 a5:=Tryz.isAgg5
 z5:=Tryz.sizeOf5
 v5:=Tryz.zeroValue5
 t9:=Tryz.underlying9
 a9:=Tryz.isAgg9
 z9:=Tryz.sizeOf9
 v9:=Tryz.zeroValue9
 t46:=Tryz.underlying133
 a46:=Tryz.isAgg133
 z46:=Tryz.sizeOf133
 v46:=Tryz.zeroValue133
 t51:=Tryz.underlying134
 a51:=Tryz.isAgg134
 z51:=Tryz.sizeOf134
 v51:=Tryz.zeroValue134
 t146:=Tryz.underlying135
 a146:=Tryz.isAgg135
 z146:=Tryz.sizeOf135
 v146:=Tryz.zeroValue135
 g1:=by kernel_rfl}
def Tryz.QK:Go.Shelf.Ren:=⟨fun|173=>43|246=>71|283=>116|284=>117|285=>118|286=>119|129=>157|317=>156|318=>158|319=>159|320=>160|337=>190|338=>191|n=>n,fun|2=>2|3=>3|9=>9|4=>4|171=>160|0=>0|53=>161|37=>61|5=>5|173=>164|212=>205|51=>134|20=>20|213=>206|46=>133|232=>272|233=>273|n=>n,fun|17=>1|18=>2|19=>3|n=>n⟩
theorem Tryz.iV:Go.Proofs.LaysM.n173 Tryz.prog Tryz.QK:={
 mixed:=by kernel_rfl
 f129:=Tryz.func157.trans (congrArg some (by kernel_rfl))
 f173:=Tryz.func43.trans (congrArg some (by kernel_rfl))
 f246:=Tryz.func71.trans (congrArg some (by kernel_rfl))
 f283:=Tryz.func116.trans (congrArg some (by kernel_rfl))
 f284:=Tryz.func117.trans (congrArg some (by kernel_rfl))
 f285:=Tryz.func118.trans (congrArg some (by kernel_rfl))
 f286:=Tryz.func119.trans (congrArg some (by kernel_rfl))
 f317:=Tryz.func156.trans (congrArg some (by kernel_rfl))
 f318:=Tryz.func158.trans (congrArg some (by kernel_rfl))
 f319:=Tryz.func159.trans (congrArg some (by kernel_rfl))
 f320:=Tryz.func160.trans (congrArg some (by kernel_rfl))
 f337:=Tryz.func190.trans (congrArg some (by kernel_rfl))
 f338:=Tryz.func191.trans (congrArg some (by kernel_rfl))
 t0:=Tryz.underlying0
 a0:=Tryz.isAgg0
 z0:=Tryz.sizeOf0
 v0:=Tryz.zeroValue0
 t2:=Tryz.underlying2
 a2:=Tryz.isAgg2
 z2:=Tryz.sizeOf2
 v2:=Tryz.zeroValue2
 t3:=Tryz.underlying3
 a3:=Tryz.isAgg3
 z3:=Tryz.sizeOf3
 v3:=Tryz.zeroValue3
 t4:=Tryz.underlying4
 a4:=Tryz.isAgg4
 z4:=Tryz.sizeOf4
 v4:=Tryz.zeroValue4
 t5:=Tryz.underlying5
 a5:=Tryz.isAgg5
 z5:=Tryz.sizeOf5
 v5:=Tryz.zeroValue5
 t9:=Tryz.underlying9
 a9:=Tryz.isAgg9
 z9:=Tryz.sizeOf9
 v9:=Tryz.zeroValue9
 t20:=Tryz.underlying20
 a20:=Tryz.isAgg20
 z20:=Tryz.sizeOf20
 v20:=Tryz.zeroValue20
 t37:=Tryz.underlying61
 a37:=Tryz.isAgg61
 z37:=Tryz.sizeOf61
 v37:=Tryz.zeroValue61
 t46:=Tryz.underlying133
 a46:=Tryz.isAgg133
 z46:=Tryz.sizeOf133
 v46:=Tryz.zeroValue133
 t51:=Tryz.underlying134
 a51:=Tryz.isAgg134
 z51:=Tryz.sizeOf134
 v51:=Tryz.zeroValue134
 t53:=Tryz.underlying161
 a53:=Tryz.isAgg161
 z53:=Tryz.sizeOf161
 v53:=Tryz.zeroValue161
 t171:=Tryz.underlying160
 a171:=Tryz.isAgg160
 z171:=Tryz.sizeOf160
 v171:=Tryz.zeroValue160
 t173:=Tryz.underlying164
 a173:=Tryz.isAgg164
 z173:=Tryz.sizeOf164
 v173:=Tryz.zeroValue164
 t212:=Tryz.underlying205
 a212:=Tryz.isAgg205
 z212:=Tryz.sizeOf205
 v212:=Tryz.zeroValue205
 t213:=Tryz.underlying206
 a213:=Tryz.isAgg206
 z213:=Tryz.sizeOf206
 t232:=Tryz.underlying272
 a232:=Tryz.isAgg272
 z232:=Tryz.sizeOf272
 v232:=Tryz.zeroValue272
 t233:=Tryz.underlying273
 a233:=Tryz.isAgg273
 z233:=Tryz.sizeOf273
 v233:=Tryz.zeroValue273
 g17:=by kernel_rfl
 g18:=by kernel_rfl
 g19:=by kernel_rfl
 i0:=by kernel_rfl
 i2:=by kernel_rfl
 i3:=by kernel_rfl
 i4:=by kernel_rfl
 i5:=by kernel_rfl
 i9:=by kernel_rfl
 i20:=by kernel_rfl
 i37:=by kernel_rfl
 i46:=by kernel_rfl
 i51:=by kernel_rfl
 i53:=by kernel_rfl
 i171:=by kernel_rfl
 i173:=by kernel_rfl
 i212:=by kernel_rfl
 i232:=by kernel_rfl
 i233:=by kernel_rfl
 m17:=by kernel_rfl
 m18:=by kernel_rfl
 m19:=by kernel_rfl}
open Go.RowKit in
theorem Tryz.strings_IndexByte(s:ByteArray)(c:Int)(w:World):
  Calls Tryz.prog 90 #[.string s,.int .u8 c] w fun e w'=>e= .returned (.int .i64 (Lib.indexByte s.data.toList c.toNat.toUInt8))/\w'=w:=Any.strings_IndexByte Tryz.nT s c w
open Go.RowKit Go.Lib in
theorem Tryz.strings_HasPrefix(s p:ByteArray)(w:World):
  Calls Tryz.prog 207 #[.string s,.string p] w fun e w'=>e= .returned (.bool (Lib.hasPrefix s.data.toList p.data.toList))/\w'=w:=Any.strings_HasPrefix Tryz.xE s p w
open Go.RowKit Go.Lib in
theorem Tryz.stringslite_Index_one(s:ByteArray)(c:UInt8)(w:World):
  Calls Tryz.prog 51 #[.string s,.string ⟨#[c]⟩] w fun e w'=>e= .returned (.int .i64 (Lib.indexByte s.data.toList c))/\w'=w:=Any.stringslite_Index_one Tryz.nX s c w
open Go.RowKit Go.Lib in
theorem Tryz.strings_Contains_one(s:ByteArray)(c:UInt8)(w:World):
  Calls Tryz.prog 243 #[.string s,.string ⟨#[c]⟩] w fun e w'=>e= .returned (.bool (decide (0<=Lib.indexByte s.data.toList c)))/\w'=w:=Any.strings_Contains_one Tryz.nY s c w
open Go.RowKit Go.Sort Go.Lib in
theorem Tryz.strconv_FormatInt_10(n:Int)(h0:-9223372036854775808<=n)(h1:n<=9223372036854775807)(w:World)(ANc:Lib.TabIs Tryz.prog w "internal/strconv.uint64pow10" .u64 Lib.pow10Tab):
  Calls Tryz.prog 43 #[.int .i64 n,.int .i64 10] w fun e w'=>e= .returned (.string ⟨(Lib.itoa n).toArray⟩)/\∃k os,w'=grow (w.drewN k) os:=Any.strconv_FormatInt_10 Tryz.iV n h0 h1 w ANc
end Go.Proofs
namespace Go.Proofs.YtdnhhkhbdfiagaaGreatDoor
set_option maxRecDepth 4000
namespace Tk
open Go.Lib
abbrev By:Type:=List UInt8
def BF (c:UInt8):Prop:=48<=c.toNat/\c.toNat<=57
def Aq (l:By):Prop:=∀c∈l,BF c
def AS:By->Nat
 |[]=>0
 |c::l=>(c.toNat-48)*10^l.length+AS l
theorem Is:∀(l m:By),AS (l++m)=AS l*10^m.length+AS m
 |[],m=>by simp[AS]
 |c::l,m=>by
  rw[ag];show (c.toNat-48)*10^(l++m).length+AS (l++m)=((c.toNat-48)*10^l.length+AS l)*10^m.length+AS m;rw[Is l m,ae,Nat.pow_add,bT,Nat.mul_assoc];omega
theorem WY:∀{l:By},Aq l->AS l<10^l.length
 |[],_=>by simp[AS]
 |c::l,h=>by
  have h1:=WY fun x hx=>h x (av _ hx)
  have h2:=h c (aw ..);unfold AS;rw[au,Nat.pow_succ];have h3:(c.toNat-48)*10^l.length<=9*10^l.length:=cD _ (by have:=h2.2;omega);omega
theorem Mx {p:UInt8->Bool}{c:UInt8}(hp:p c=false):∀{l:By},c∈l->c∈l.dropWhile p
 |x::l,h=>by
  rw[bZ];split
  ·rename_i hx;rcases ar.1 h with rfl|h
   ·rw[hp]at hx;cases hx
   ·exact Mx hp h
  ·exact h
theorem ZH {l cs:By}{c:UInt8}(h:c∈l)(hc:cs.contains c=false):c∈trimRightS l cs:=List.mem_reverse.2 (Mx hc (List.mem_reverse.2 h))
theorem Rw {l cs:By}{c:UInt8}(h:c∈l)(hc:cs.contains c=false):trimS l cs≠[]:=fun e=>by
 have:c∈trimS l cs:=Mx hc (ZH h hc);rw[e]at this;cases this
theorem Sr {p:UInt8->Bool}:∀{l:By},(∀c∈l,p c=true)->l.dropWhile p=[]
 |[],_=>rfl
 |c::l,h=>by
  rw[bZ,aG (h c (aw ..))];exact Sr fun x hx=>h x (av _ hx)
theorem ZI {l cs:By}(h:∀c∈l,cs.contains c=true):trimRightS l cs=[]:=by
 unfold trimRightS;rw[Sr fun c hc=>h c (List.mem_reverse.1 hc)]
 rfl
theorem iZ {l cs:By}(h:∀c∈l,cs.contains c=true):trimS l cs=[]:=by
 unfold trimS;rw[ZI h]
 rfl
def Gn:By:=[48,49,50,51,52,53,54,55,56,57]
theorem XI {c:UInt8}(h:BF c):Gn.contains c=true:=by
 have h1:=h.1;have h2:=h.2;have:c.toNat=48\/c.toNat=49\/c.toNat=50\/c.toNat=51\/c.toNat=52\/c.toNat=53\/c.toNat=54\/c.toNat=55\/c.toNat=56\/c.toNat=57:=by omega
 have k:∀(d:UInt8),c.toNat=d.toNat->c=d:=fun d hd=>bX.1 hd
 rcases this with h|h|h|h|h|h|h|h|h|h
 ·rw[k 48 h];rfl
 ·rw[k 49 h];rfl
 ·rw[k 50 h];rfl
 ·rw[k 51 h];rfl
 ·rw[k 52 h];rfl
 ·rw[k 53 h];rfl
 ·rw[k 54 h];rfl
 ·rw[k 55 h];rfl
 ·rw[k 56 h];rfl
 ·rw[k 57 h];rfl
theorem Dr {l:By}(h:Aq l):trimS l Gn=[]:=iZ fun c hc=>XI (h c hc)
def EV (P:By):By:=if trimRightS P [48]=[]then [48]else trimRightS P [48]
def EM:By:=[48,48,48,48,48]
theorem Cv {P:By}(h:Aq P)(hl:P.length=4):(EV P++EM).take 4=P/\trimRightS ((EV P++EM).drop 4) [48]=[]/\Aq (EV P)/\1<=(EV P).length/\(EV P).length<=4:=by
 obtain ⟨a,b,c,d,rfl⟩:∃a b c d,P=[a,b,c,d]:=by
  match P,hl with
  |[a,b,c,d],_=>exact ⟨a,b,c,d,rfl⟩
 have ha:=h a (by simp);have hb:=h b (by simp);have hc:=h c (by simp);have hd:=h d (by simp);have h0:BF 48:=by unfold BF;decide
 by_cases e1:d=48
 ·subst e1;by_cases e2:c=48
  ·subst e2;by_cases e3:b=48
   ·subst e3;by_cases e4:a=48
    ·subst e4;have:EV [48,48,48,48]=[48]:=by decide
     rw[this];exact ⟨by decide,by decide,fun x hx=>by rw[ao.1 hx];exact h0,by decide,by decide⟩
    ·have:EV [a,48,48,48]=[a]:=by simp[EV,trimRightS,List.dropWhile,e4]
     rw[this];exact ⟨rfl,rfl,fun x hx=>by rw[ao.1 hx];exact ha,by simp,by simp⟩
   ·have:EV [a,b,48,48]=[a,b]:=by simp[EV,trimRightS,List.dropWhile,e3]
    rw[this];refine ⟨rfl,rfl,fun x hx=>?_,by simp,by simp⟩;simp only[ar,aF,bp]at hx;rcases hx with rfl|rfl<;>assumption
  ·have:EV [a,b,c,48]=[a,b,c]:=by simp[EV,trimRightS,List.dropWhile,e2]
   rw[this];refine ⟨rfl,rfl,fun x hx=>?_,by simp,by simp⟩;simp only[ar,aF,bp]at hx;rcases hx with rfl|rfl|rfl<;>assumption
 ·have:EV [a,b,c,d]=[a,b,c,d]:=by simp[EV,trimRightS,List.dropWhile,e1]
  rw[this];exact ⟨rfl,rfl,h,by simp,by simp⟩
structure Bz (n:Int) (t:By) (W P:By):Prop where
 w:Aq W
 w1:1<=W.length
 w6:W.length<=6
 wv:AS W=n.natAbs/10000
 p:Aq P
 p4:P.length=4
 pv:AS P=n.natAbs%10000
 t:t=(if n<0 then [45]else [])++(W++46::EV P)
def D9 (c:UInt8):Bool:=([0,9,10,12,13,32]:By).contains c
def jv (c:UInt8):Bool:=([40,41,60,62,91,93,123,125,47,37]:By).contains c
def AW (c:UInt8):Bool:= !D9 c&& !jv c
def AP:By->Bool->Nat
 |[],_=>0
 |c::r,true=>1+AP r (!(c==13||c==10))
 |c::r,false=>if c=37 then 1+AP r true else if D9 c=true then 1+AP r false else 0
def Fh:By->Nat
 |[]=>0
 |c::r=>if AW c=true then 1+Fh r else 0
theorem Iu:∀(l:By) (b:Bool),AP l b<=l.length
 |[],_=>az _
 |c::r,true=>by
  have:=Iu r (!(c==13||c==10));simp only[AP,au];omega
 |c::r,false=>by
  have h1:=Iu r true;have h2:=Iu r false;simp only[AP,au];split
  ·omega
  ·split<;>omega
theorem Wa:∀l:By,Fh l<=l.length
 |[]=>az _
 |c::r=>by
  have:=Wa r;simp only[Fh,au];split<;>omega
theorem F4:∀{t r:By},(∀c∈t,AW c=true)->(∀c,r.head?=some c->AW c=false)->Fh (t++r)=t.length
 |[],r,_,h=>by
  cases r with
  |nil=>rfl
  |cons c r=>
   have:=h c rfl;simp[Fh,this]
 |c::t,r,h1,h2=>by
  have h:=h1 c (aw ..);rw[ag];unfold Fh;rw[aG h,F4 (fun x hx=>h1 x (av _ hx)) h2,au];omega
theorem ia {c:UInt8}{r:By}(h:AW c=true):AP (c::r) false=0:=by
 unfold AW D9 jv at h;simp only[ai,bz]at h;unfold AP;rw[aA (fun e=>by subst e;exact absurd h.2 (by decide)),aA (by unfold D9;rw[h.1];decide)]
theorem QO {c:UInt8}(h:BF c):AW c=true:=by
 have:=XI h;unfold Gn at this;simp only[List.contains_cons,bA,bU,List.contains_nil,bu,bp]at this;rcases this with rfl|rfl|rfl|rfl|rfl|rfl|rfl|rfl|rfl|rfl<;>rfl
theorem Bz.A7{n:Int}{t W P:By}(h:Bz n t W P):∀c∈t,AW c=true:=by
 intro c hc;rw[h.t]at hc;have hf:=(Cv h.p h.p4).2.2.1;rcases aK.1 hc with hc|hc
 ·split at hc
  ·rw[ao.1 hc];rfl
  ·cases hc
 ·rcases aK.1 hc with hc|hc
  ·exact QO (h.w c hc)
  ·rcases ar.1 hc with rfl|hc
   ·rfl
   ·exact QO (hf c hc)
theorem BT (l:By)(c:UInt8):decide (indexByte l c>=0)=l.contains c:=by
 by_cases h:indexByte l c=-1
 ·rw[h];have:l.contains c=false:=by
   rw[<-cb,aW];intro hm;obtain ⟨i,hi⟩:=List.mem_iff_getElem?.1 hm;exact indexByte_none h i hi
  rw[this]
  rfl
 ·have h1:=indexByte_ge l c;obtain ⟨o,ho⟩:∃o:Nat,indexByte l c=o:=⟨(indexByte l c).toNat,by omega⟩
  rw[ho,aL (by omega)];have:=(indexByte_some ho).1
  symm
  rw[aW];exact ax this
end Tk
set_option maxRecDepth 512
namespace Sh
@[simp] theorem AEq (A B : Prop) : Br true A B = A := rfl
@[simp] theorem ACY (A B : Prop) : Br false A B = B := rfl
theorem Bj {b:Bool}{A B:Prop}(h1:b=true->A)(h2:b=false->B):Br b A B:=by cases b;exact h2 rfl;exact h1 rfl
theorem As.intro{σ:Type}{body:σ->World->Prop}{front:(σ->World->Prop)->Prop}(h:front body):As body front:=⟨body,fun _ _ h=>h,h⟩
theorem Lp.mk{σ:Type}{B:(σ->World->Prop)->σ->World->Prop}{s0:σ}{w0:World}(I:σ->World->Prop)(μ:σ->World->Nat)(h0:I s0 w0)
  (h:∀s w,I s w->B (fun s' w'=>I s' w'/\μ s' w'<μ s w) s w) (hm:∀(X Y:σ->World->Prop) s w,(∀s w,X s w->Y s w)->B X s w->B Y s w):Lp B s0 w0:=
 ⟨fun n s w=>I s w/\μ s w=n,_,⟨h0,rfl⟩,fun n s w ⟨hI,hn⟩=>hm _ _ s w (fun s' w' ⟨h1,h2⟩=>⟨μ s' w',hn▸h2,h1,rfl⟩) (h s w hI)⟩
@[simp] theorem add_lit (b o n : Nat) : (⟨b,o,none⟩ : Addr).add n = ⟨b,o + n,none⟩ := by
 unfold Addr.add;split
 ·rename_i h;subst h;rfl
 ·rfl
def AN (w:World)(b:Nat)(cs:Array Value)(t:TypeId):Prop:=w.heap[b]?=some (.cells cs t (0,0))
theorem AN.cell{w:World}{b:Nat}{cs:Array Value}{t:TypeId}(h:AN w b cs t)(o:Nat):w.cell? ⟨b,o,none⟩=cs[o]?:=by
 unfold AN at h;simp[World.cell?,h]
theorem AN.frozen{w:World}{b:Nat}{cs:Array Value}{t:TypeId}(h:AN w b cs t)(o:Nat):w.frozen? ⟨b,o,none⟩=false:=by
 unfold AN at h;simp[World.frozen?,h]
theorem AN.can{w:World}{b:Nat}{cs:Array Value}{t:TypeId}(h:AN w b cs t){o:Nat}(ho:o<cs.size):V3 w ⟨b,o,none⟩:=
 ⟨⟨cs[o],by rw[h.cell,bF ho]⟩,h.frozen o⟩
theorem AN.lt{w:World}{b:Nat}{cs:Array Value}{t:TypeId}(h:AN w b cs t):b<w.heap.size:=(aj.1 h).1
theorem AN.set{w:World}{b:Nat}{cs:Array Value}{t:TypeId}(h:AN w b cs t)(o:Nat)(v:Value):AN (w.setCell ⟨b,o,none⟩ v) b (cs.setIfInBounds o v) t:=by
 unfold AN at h⊢;simp[World.setCell,Array.getElem?_modify,h]
theorem AN.zq{w:World}{b c:Nat}{cs:Array Value}{t:TypeId}(h:AN w b cs t){o:Nat}{v:Value}(BI:b≠c):AN (w.setCell ⟨c,o,none⟩ v) b cs t:=by
 unfold AN at h⊢;simp only[World.setCell,Array.getElem?_modify];rw[aA (fun e=>BI e.symm)];exact h
theorem AN.drew{w:World}{b:Nat}{cs:Array Value}{t:TypeId}(h:AN w b cs t):AN w.drew b cs t:=h
theorem AN.alloc{w:World}{b:Nat}{cs:Array Value}{t:TypeId}(h:AN w b cs t)(o:Obj):AN (w.alloc o) b cs t:=by
 have:=h.lt;unfold AN at h⊢;rw[Go.RowKit.Below.heap_alloc w o b this];exact h
theorem AN.new(w:World)(cs:Array Value)(t:TypeId):AN (w.alloc (.cells cs t)) w.heap.size cs t:=by
 unfold AN;show (w.heap.push _)[w.heap.size]?=_;simp
@[simp] theorem o8 (w : World) (o : Obj) : (w.alloc o).heap.size = w.heap.size + 1 := by show (w.heap.push o).size = _; rw [Array.size_push]
@[simp] theorem yg (w : World) (a : Addr) (v : Value) : (w.setCell a v).heap.size = w.heap.size := by simp [World.setCell]
@[simp] theorem U2 (w : World) : w.drew.heap.size = w.heap.size := rfl
@[simp] theorem o9 (w : World) (n : Nat) : (w.drewN n).heap.size = w.heap.size := rfl
structure Ext (F:Nat->Prop) (w w':World):Prop where
 os:w'.os=w.os
 tape:w'.tape=w.tape
 output:w'.output=w.output
 size:w.heap.size<=w'.heap.size
 block:∀k,k<w.heap.size->¬F k->w'.heap[k]?=w.heap[k]?
theorem Ext.refl(F:Nat->Prop)(w:World):Ext F w w:=⟨rfl,rfl,rfl,az _,fun _ _ _=>rfl⟩
theorem Ext.trans{F G H:Nat->Prop}{a b c:World}(h:Ext F a b)(k:Ext G b c)(hF:∀i,F i->H i)(hG:∀i,i<a.heap.size->G i->H i):Ext H a c:=
 ⟨k.os.trans h.os,k.tape.trans h.tape,k.output.trans h.output,bB h.size k.size,fun i hi hn=>
  (k.block i (Nat.lt_of_lt_of_le hi h.size) fun g=>hn (hG i hi g)).trans (h.block i hi fun f=>hn (hF i f))⟩
theorem Ext.tr{F:Nat->Prop}{a b c:World}(h:Ext F a b)(k:Ext F b c):Ext F a c:=h.trans k (fun _ h=>h) (fun _ _ h=>h)
theorem Ext.mono{F G:Nat->Prop}{a b:World}(h:Ext F a b)(hF:∀i,i<a.heap.size->F i->G i):Ext G a b:=
 ⟨h.os,h.tape,h.output,h.size,fun i hi hn=>h.block i hi fun f=>hn (hF i hi f)⟩
theorem Ext.drew{F:Nat->Prop}{a w:World}(h:Ext F a w):Ext F a w.drew:=⟨h.os,h.tape,h.output,h.size,h.block⟩
theorem Ext.drewN{F:Nat->Prop}{a w:World}(h:Ext F a w)(n:Nat):Ext F a (w.drewN n):=⟨h.os,h.tape,h.output,h.size,h.block⟩
theorem Ext.alloc{F:Nat->Prop}{a w:World}(h:Ext F a w)(o:Obj):Ext F a (w.alloc o):=
 ⟨h.os,h.tape,h.output,by have:=h.size;simp;omega,fun i hi hn=>by
  rw[Go.RowKit.Below.heap_alloc w o i (by have:=h.size;omega)];exact h.block i hi hn⟩
theorem Ext.set{F:Nat->Prop}{a w:World}(h:Ext F a w){b o:Nat}(hb:F b\/a.heap.size<=b)(v:Value):Ext F a (w.setCell ⟨b,o,none⟩ v):=
 ⟨h.os,h.tape,h.output,by simpa using h.size,fun i hi hn=>by
  rw[Go.RowKit.Below.heap_setCell _ _ _ _ (fun e=>by
   simp only at e;subst e;rcases hb with hb|hb
   ·exact hn hb
   ·omega)]
  exact h.block i hi hn⟩
theorem Ext.AR{F:Nat->Prop}{a w:World}(h:Ext F a w){b:Nat}{cs:Array Value}{t:TypeId}(hb:AN a b cs t)(hn:¬F b):AN w b cs t:=by
 unfold AN at hb⊢;rw[h.block b (aj.1 hb).1 hn];exact hb
theorem Ext.below{w w':World}(h:Ext (fun _=>False) w w'):Go.RowKit.Below w.heap.size w w':=
 ⟨h.os,h.tape,h.output,h.size,fun k hk=>h.block k hk id⟩
theorem Ext.grown{F:Nat->Prop}{a w w':World}{row:Option Nat}(h:Ext F a w)(g:w.grownBy w' row)(hr:∀k,row=some k->F k\/a.heap.size<=k):Ext F a w':=
 ⟨g.os.trans h.os,g.tape.trans h.tape,g.output.trans h.output,bB h.size g.size,fun i hi hn=>by
  rw[g.block i (by have:=h.size;omega) (fun e=>by
   rcases hr i e.symm with h1|h1
   ·exact hn h1
   ·omega)]
  exact h.block i hi hn⟩
theorem Ext.cell{F:Nat->Prop}{a w:World}(h:Ext F a w){p:Addr}(hp:p.block<a.heap.size)(hn:¬F p.block):w.cell? p=a.cell? p:=World.cell?_of_block (w:=a) (h.block p.block hp hn)
theorem Dh {w:World}{a:Addr}{v:Value}(h:w.cell? a=some v):a.block<w.heap.size:=by
 unfold World.cell? at h;rcases b9 a.block w.heap.size with h'|h'
 ·exact h'
 ·rw[bG h']at h;cases h
theorem Ext.GM{a w:World}(h:Ext (fun _=>False) a w){p:Addr}{v:Value}(hc:a.cell? p=some v):w.cell? p=some v:=by
 rw[h.cell (Dh hc) id];exact hc
structure Hx (w0:World) (F:Nat->Prop) (w:World) (L:List (Nat×Array Value×TypeId)):Prop where
 AR:∀p∈L,AN w p.1 p.2.1 p.2.2
 nodup:(L.map (·.1)).Nodup
 ext:Ext F w0 w
section
variable {w0 w:World} {F:Nat->Prop} {L:List (Nat×Array Value×TypeId)} {b o:Nat} {cs:Array Value} {t:TypeId}
theorem Hx.get(h:Hx w0 F w L)(i:Nat)(hi:L[i]?=some (b,cs,t)):AN w b cs t:=h.AR (b,cs,t) (ax hi)
theorem Nn.of{a:Addr}{K:Addr->Prop}(h:K a):Nn (some a) K:=⟨a,rfl,h⟩
theorem Ld.mk{α:Type}{V:α->Value}{K:α->Prop}{x:α}{a:Addr}(h:w.cell? a=some (V x))(k:K x):Ld w a V K:=⟨x,h,k⟩
theorem Nw.of{o':Obj}{K:World->Prop}(h:K (w.alloc o')):Nw w o' K:=h
theorem Lt.of{α:Type}{e:α}{K:α->Prop}(h:K e):Lt e K:=h
theorem Ld.of{α:Type}{V:α->Value}{K:α->Prop}{x:α}(h:AN w b cs t)(hx:cs[o]?=some (V x))(hk:K x):Ld w ⟨b,o,none⟩ V K:=⟨x,by rw[h.cell];exact hx,hk⟩
theorem Hx.ld{α:Type}{V:α->Value}{K:α->Prop}{x:α}(h:Hx w0 F w L)(i:Nat)(hi:L[i]?=some (b,cs,t))(hx:cs[o]?=some (V x))(hk:K x):Ld w ⟨b,o,none⟩ V K:=
 Ld.of (h.get i hi) hx hk
theorem AU.of{α:Type}{S:World->Prop}{V:α->Value}{K:α->Prop}{x:α}(h:∀w,S w->AN w b cs t)(hx:cs[o]?=some (V x))(hk:K x):AU S ⟨b,o,none⟩ V K:=
 ⟨x,fun w hw=>by rw[(h w hw).cell];exact hx,hk⟩
theorem YX {l:List Nat}(h:l.Nodup){i j x:Nat}(hi:l[i]?=some x)(hj:l[j]?=some x):i=j:=by
 obtain ⟨h1,e1⟩:=al.1 hi;obtain ⟨h2,e2⟩:=al.1 hj;exact (List.getElem_inj h).1 (e1.trans e2.symm)
theorem Rm {v:Array Value×TypeId}{i:Nat}{c:Array Value×TypeId}(hi:L[i]?=some (b,c)):(L.set i (b,v)).map (·.1)=L.map (·.1):=by
 rw[List.map_set];refine cf fun j=>?_
 rw[bN];split
 ·rename_i e;subst e;have:(L.map (·.1))[i]?=some b:=by simp[hi]
  rw[this];simp;exact (al.1 hi).1
 ·rfl
theorem Hx.G8(h:Hx w0 F w L)(i:Nat)(hi:L[i]?=some (b,cs,t)){w2:World}{Bf:Array Value}(hb:AN w2 b Bf t)(he:Ext (·=b) w w2)(hF:F b\/w0.heap.size<=b):Hx w0 F w2 (L.set i (b,Bf,t)):=by
 refine ⟨fun p hp=>?_,by rw[Rm hi];exact h.nodup,h.ext.trans he (fun _ h=>h) fun k hk e=>?_⟩
 ·obtain ⟨j,hj⟩:=aZ hp;rw[bN]at hj;split at hj
  ·split at hj
   ·cases hj;exact hb
   ·cases hj
  ·rename_i BI;refine he.AR (h.AR p (ax hj)) fun e=>BI ?_
   exact YX h.nodup (x:=b) (by simp[hi]) (by simp[hj,e])
 ·subst e;rcases hF with hF|hF
  ·exact hF
  ·omega
theorem Hx.st{v:Value}{K:World->Prop}(h:Hx w0 F w L)(i:Nat)(hi:L[i]?=some (b,cs,t))(ho:o<cs.size)(hF:F b\/w0.heap.size<=b)
  (k:∀w2,Hx w0 F w2 (L.set i (b,cs.setIfInBounds o v,t))->K w2):St w ⟨b,o,none⟩ v K:=
 ⟨(h.get i hi).can ho,k _ (h.G8 i hi ((h.get i hi).set o v) ((Ext.refl (·=b) w).set (.inl rfl) v) hF)⟩
theorem Hx.AB(h:Hx w0 F w L){w2:World}(he:Ext (fun _=>False) w w2):Hx w0 F w2 L:=
 ⟨fun p hp=>he.AR (h.AR p hp) id,h.nodup,h.ext.trans he (fun _ h=>h) (fun _ _ h=>h.elim)⟩
theorem Hx.drew(h:Hx w0 F w L):Hx w0 F w.drew L:=h.AB (Ext.refl _ w).drew
theorem Hx.push(h:Hx w0 F w L)(hb:AN w b cs t)(BI:b∉L.map (·.1)):Hx w0 F w (L++[(b,cs,t)]):=
 ⟨fun p hp=>(aK.1 hp).elim (h.AR p) fun e=>by rw[ao.1 e];exact hb,
  by rw[aP];exact bO.2 ⟨h.nodup,by simp,fun a ha c hc e=>BI (by simp at hc;rw[<-hc,<-e];exact ha)⟩,h.ext⟩
theorem Hx.fresh(h:Hx w0 F w L):w.heap.size∉L.map (·.1):=fun hm=>by
 obtain ⟨p,hp,e⟩:=bx.1 hm;have:=(h.AR p hp).lt;omega
theorem Hx.nw{K:World->Prop}(h:Hx w0 F w L)(k:∀w2,Hx w0 F w2 (L++[(w.heap.size,cs,t)])->K w2):Nw w (.cells cs t) K:=
 k _ ((h.AB ((Ext.refl _ w).alloc _)).push (AN.new w cs t) h.fresh)
theorem Hx.JC{K:World->Prop}(h:Hx w0 F w L)(k:∀w2,Hx w0 F w2 (L++[(w.heap.size,cs,t)])->Ext (fun _=>False) w w2->K w2):Nw w (.cells cs t) K:=
 k _ ((h.AB ((Ext.refl _ w).alloc _)).push (AN.new w cs t) h.fresh) ((Ext.refl _ w).alloc _)
theorem Hx.ME{v:Value}{K:World->Prop}(h:Hx w0 F w L)(i:Nat)(hi:L[i]?=some (b,cs,t))(ho:o<cs.size)(hF:F b\/w0.heap.size<=b)
  (k:∀w2,Hx w0 F w2 (L.set i (b,cs.setIfInBounds o v,t))->Ext (·=b) w w2->K w2):St w ⟨b,o,none⟩ v K:=
 ⟨(h.get i hi).can ho,k _ (h.G8 i hi ((h.get i hi).set o v) ((Ext.refl (·=b) w).set (.inl rfl) v) hF) ((Ext.refl (·=b) w).set (.inl rfl) v)⟩
theorem Hx.only(h:Hx w0 F w L)(i:Nat)(hi:L[i]?=some (b,cs,t)):Hx w0 F w [(b,cs,t)]:=
 ⟨fun p hp=>by rw[ao.1 hp];exact h.get i hi,by simp,h.ext⟩
theorem Hx.left{M:List (Nat×Array Value×TypeId)}(h:Hx w0 F w (L++M)):Hx w0 F w L:=
 ⟨fun p hp=>h.AR p (List.mem_append_left _ hp),by have:=h.nodup;rw[aP]at this;exact (bO.1 this).1,h.ext⟩
theorem Hx.other{G:Nat->Prop}{w2:World}(h:Hx w0 F w L)(he:Ext G w w2)(hL:∀j,G j->j∉L.map (·.1))(hF:∀j,G j->F j\/w0.heap.size<=j):Hx w0 F w2 L:=
 ⟨fun p hp=>he.AR (h.AR p hp) fun hg=>hL _ hg (bE hp),h.nodup,h.ext.trans he (fun _ h=>h) fun k hk hg=>(hF k hg).elim id fun h2=>by omega⟩
theorem Hx.size(h:Hx w0 F w L):w0.heap.size<=w.heap.size:=h.ext.size
theorem Hx.start(w:World)(F:Nat->Prop):Hx w F w []:=⟨fun _ h=>(aF h).elim,cI,Ext.refl _ _⟩
theorem Hx.one(h:AN w b cs t):Hx w F w [(b,cs,t)]:=⟨fun p hp=>by rw[ao.1 hp];exact h,by simp,Ext.refl _ _⟩
theorem Hx.here(h:Hx w0 F w L)(G:Nat->Prop):Hx w G w L:=⟨h.AR,h.nodup,Ext.refl _ _⟩
end
def arr (L:List (Nat×List Value×TypeId)):List (Nat×Array Value×TypeId):=L.map fun p=>(p.1,p.2.1.toArray,p.2.2)
structure Hn (w0 w:World) (L:List (Nat×List Value×TypeId)):Prop where
 h:Hx w0 (fun _=>False) w (arr L)
 new:∀p∈L,w0.heap.size<=p.1
section
variable {w0 w:World} {L:List (Nat×List Value×TypeId)} {b o:Nat} {cs:List Value} {t:TypeId}
theorem Ph {i:Nat}(hi:L[i]?=some (b,cs,t)):(arr L)[i]?=some (b,cs.toArray,t):=by
 unfold arr;rw[aH,hi]
 rfl
theorem IJ:(arr L).map (·.1)=L.map (·.1):=by
 unfold arr;rw[cK]
 rfl
theorem Hn.start(w:World):Hn w w []:=⟨Hx.start w _,fun _ h=>(aF h).elim⟩
theorem Hn.ext(h:Hn w0 w L):Ext (fun _=>False) w0 w:=h.h.ext
theorem Hn.size(h:Hn w0 w L):w0.heap.size<=w.heap.size:=h.h.ext.size
theorem Hn.get(h:Hn w0 w L)(i:Nat)(hi:L[i]?=some (b,cs,t)):AN w b cs.toArray t:=h.h.get i (Ph hi)
theorem Hn.lt(h:Hn w0 w L)(i:Nat)(hi:L[i]?=some (b,cs,t)):b<w.heap.size:=(h.get i hi).lt
theorem Hn.ge(h:Hn w0 w L)(i:Nat)(hi:L[i]?=some (b,cs,t)):w0.heap.size<=b:=h.new _ (ax hi)
theorem Hn.ld{α:Type}{V:α->Value}{K:α->Prop}{x:α}(h:Hn w0 w L)(i:Nat)(hi:L[i]?=some (b,cs,t))(hx:cs[o]?=some (V x))(hk:K x):Ld w ⟨b,o,none⟩ V K:=
 h.h.ld i (Ph hi) (by simpa using hx) hk
theorem Hn.set(h:Hn w0 w L){w2:World}{Bf:List Value}(i:Nat)(hi:L[i]?=some (b,cs,t))(h2:Hx w0 (fun _=>False) w2 ((arr L).set i (b,Bf.toArray,t))):Hn w0 w2 (L.set i (b,Bf,t)):=
 ⟨by unfold arr at h2⊢;rw[List.map_set];exact h2,fun p hp=>by
  rcases List.mem_or_eq_of_mem_set hp with hp|rfl
  ·exact h.new p hp
  ·exact h.ge i hi⟩
theorem Hn.ME{v:Value}{K:World->Prop}(h:Hn w0 w L)(i:Nat)(hi:L[i]?=some (b,cs,t))(ho:o<cs.length)
  (k:∀w2,Hn w0 w2 (L.set i (b,cs.set o v,t))->Ext (·=b) w w2->K w2):St w ⟨b,o,none⟩ v K:=
 h.h.ME i (Ph hi) (by simpa using ho) (.inr (h.ge i hi)) fun w2 h2 he=>k w2 (h.set i hi (by simpa using h2)) he
theorem Hn.st{v:Value}{K:World->Prop}(h:Hn w0 w L)(i:Nat)(hi:L[i]?=some (b,cs,t))(ho:o<cs.length)
  (k:∀w2,Hn w0 w2 (L.set i (b,cs.set o v,t))->K w2):St w ⟨b,o,none⟩ v K:=h.ME i hi ho fun w2 h2 _=>k w2 h2
theorem Hn.AB(h:Hn w0 w L){w2:World}(he:Ext (fun _=>False) w w2):Hn w0 w2 L:=⟨h.h.AB he,h.new⟩
theorem Hn.drew(h:Hn w0 w L):Hn w0 w.drew L:=⟨h.h.drew,h.new⟩
theorem Hn.JC{K:World->Prop}(h:Hn w0 w L)(k:∀w2,Hn w0 w2 (L++[(w.heap.size,cs,t)])->Ext (fun _=>False) w w2->K w2):Nw w (.cells cs.toArray t) K:=
 h.h.JC fun w2 h2 he=>k w2 ⟨by unfold arr at h2⊢;rw[aP];exact h2,fun p hp=>(aK.1 hp).elim (h.new p) fun hp=>by rw[ao.1 hp];exact h.size⟩ he
theorem Hn.nw{K:World->Prop}(h:Hn w0 w L)(k:∀w2,Hn w0 w2 (L++[(w.heap.size,cs,t)])->K w2):Nw w (.cells cs.toArray t) K:=h.JC fun w2 h2 _=>k w2 h2
theorem Hn.left{M:List (Nat×List Value×TypeId)}(h:Hn w0 w (L++M)):Hn w0 w L:=
 ⟨by have:=h.h;unfold arr at this⊢;rw[aP]at this;exact this.left,fun p hp=>h.new p (List.mem_append_left _ hp)⟩
theorem Hn.other{G:Nat->Prop}{w2:World}(h:Hn w0 w L)(he:Ext G w w2)(hG:∀j,G j->w0.heap.size<=j/\j∉L.map (·.1)):Hn w0 w2 L:=
 ⟨h.h.other he (fun j hj=>by rw[IJ];exact (hG j hj).2) fun j hj=> .inr (hG j hj).1,h.new⟩
theorem Hn.push(h:Hn w0 w L)(hb:AN w b cs.toArray t)(hn:w0.heap.size<=b)(BI:b∉L.map (·.1)):Hn w0 w (L++[(b,cs,t)]):=
 ⟨by have:=h.h.push hb (by rw[IJ];exact BI);unfold arr at this⊢;rw[aP];exact this,fun p hp=>(aK.1 hp).elim (h.new p) fun hp=>by rw[ao.1 hp];exact hn⟩
end
theorem AH {n:Int}(h:-9223372036854775808<=n/\n<=9223372036854775807):IntKind.i64.wrap n=n:=IntWalk.i64_in n h
theorem G0 {n:Int}(h:0<=n/\n<=255):IntKind.u8.wrap n=n:=IntWalk.u8_in n h
theorem Br.dec{p:Prop}[Decidable p]{A B:Prop}(h1:p->A)(h2:¬p->B):Br (decide p) A B:=by
 by_cases h:p
 ·rw[aL h];exact h1 h
 ·rw[aR h];exact h2 h
theorem Br.eq{α:Type}[BEq α][LawfulBEq α]{a b:α}{A B:Prop}(h1:a=b->A)(h2:a≠b->B):Br (a==b) A B:=
 Bj (fun h=>h1 (by simpa using h)) fun h=>h2 (by simpa using h)
theorem Br.ne{α:Type}[BEq α][LawfulBEq α]{a b:α}{A B:Prop}(h1:a≠b->A)(h2:a=b->B):Br (a !=b) A B:=
 Bj (fun h=>h1 (by simpa using h)) fun h=>h2 (by simpa using h)
theorem YY (s:ByteArray):s.size=s.data.toList.length:=aJ.symm
theorem Ro (s:ByteArray)(i:Nat):BX s (i:Int)=((s.data.toList.getD i 0).toNat:Int):=by
 unfold BX;rw[ay,br,cx,cA]
@[simp] theorem AA.APo (a b : AA) : AA.v a = AA.v b ↔ a = b := by
 cases a;cases b;simp[AA.v]
end Sh
namespace Fix
open Sh
def JJ (n:Int):Bool:=decide (-1073741824<=n/\n<=1073741824)
theorem B4 {n:Int}:JJ n=true↔-1073741824<=n/\n<=1073741824:=by simp[JJ]
theorem Tp {n:Int}:JJ n=false↔¬(-1073741824<=n/\n<=1073741824):=by
 unfold JJ;exact cr
def zw (l:List Int):Prop:=∀i,i<l.length->JJ (l.getD i 0)=true
def Q5 (w:World)(s:AA)(l:List Int):Prop:=s.len=l.length/\∀i,i<l.length->∃a,s.p=some a/\w.cell? (a.add i)=some (.int .i64 (l.getD i 0))
theorem Q5.AB{w w':World}{s:AA}{l:List Int}(h:Q5 w s l)(he:Ext (fun _=>False) w w'):Q5 w' s l:=
 ⟨h.1,fun i hi=>by obtain ⟨a,ha,hc⟩:=h.2 i hi;exact ⟨a,ha,he.GM hc⟩⟩
theorem Q5.of{w:World}{b n:Nat}{cs:Array Value}{t:TypeId}{l:List Int}(hb:AN w b cs t)(hn:n=l.length)(hc:∀i,i<l.length->cs[i]?=some (.int .i64 (l.getD i 0))):Q5 w ⟨some ⟨b,0,none⟩,n,n⟩ l:=
 ⟨hn,fun i hi=>⟨_,rfl,by rw[add_lit,hb.cell,ak];exact hc i hi⟩⟩
theorem Q6 (n:Int)(w:World):ka n w fun r w1=>r=JJ n/\w1=w:=by
 refine AFT _ _ _ ?_;unfold zx;refine Br.dec (fun h=>⟨?_,rfl⟩) fun h=>⟨?_,rfl⟩
 ·unfold JJ;exact decide_eq_decide.2 (by omega)
 ·exact (Tp.2 (by omega)).symm
def refused (e:Int):Value:= .iface 310 (.int .i64 e)
theorem Nk {s:AA}{l:List Int}{w:World}(h:Q5 w s l)(hl:l.length<=1099511627776):Xq s w (fun w1=>w1=w/\zw l) fun v w1=>v=refused 2/\w1=w/\¬zw l:=by
 refine AFU _ _ _ _ ?_;unfold zy;have hn:=h.1;refine ⟨fun n st w1=>∃i:Nat,st=(i:Int)/\i<=l.length/\n=l.length-i/\w1=w/\∀j,j<i->JJ (l.getD j 0)=true,l.length,⟨0,rfl,by omega,rfl,rfl,fun j hj=>by omega⟩,?_⟩;rintro n st w1 ⟨i,rfl,hi,rfl,rfl,Bl⟩;unfold cQ;rw[hn];refine Br.dec (fun e=>?_) fun e=>⟨rfl,fun j hj=>Bl j (by omega)⟩
 obtain ⟨a,ha,hc⟩:=h.2 i (by omega);rw[ha];refine ⟨by omega,by omega,Nn.of ⟨l.getD i 0,by rw[ay,ch];exact hc,(Q6 _ _).mono ?_⟩⟩;rintro r _ ⟨rfl,rfl⟩;cases hw:JJ (l.getD i 0)with
 |true=>
  refine Bj (fun h=>by cases h) fun _=>⟨l.length-(i+1),by omega,i+1,by rw[AH (by omega)];rfl,by omega,rfl,rfl,fun j hj=>?_⟩
  by_cases Ks:j=i
  ·rw[Ks];exact hw
  ·exact Bl j (by omega)
 |false=>exact Bj (fun _=>⟨rfl,rfl,fun h=>by have:=h i (by omega);rw[hw]at this;cases this⟩) fun h=>by cases h
section
variable {w w0:World} {s:AA} {l:List Int}
end
end Fix
namespace Sh
def Row (w:World)(s:AA)(e:TypeId)(k:Nat)(xs:List Value):Prop:=
 xs.length=s.len*k/\(s=⟨none,0,0⟩\/∃g cur,s.p=some ⟨g,0,none⟩/\AN w g cur e/\s.len<=s.cap/\cur.size=s.cap*k/\cur.toList.take (s.len*k)=xs)
def AA.own(s:AA)(j:Nat):Prop:=∃a,s.p=some a/\a.block=j
theorem Row.nil(w:World)(e:TypeId)(k:Nat):Row w ⟨none,0,0⟩ e k []:=⟨by simp,.inl rfl⟩
theorem Row.own_lt{w:World}{s:AA}{e:TypeId}{k:Nat}{xs:List Value}(h:Row w s e k xs){j:Nat}(hj:s.own j):j<w.heap.size:=by
 obtain ⟨a,ha,rfl⟩:=hj;rcases h.2 with rfl|⟨g,cur,hp,hb,_⟩
 ·cases ha
 ·rw[hp]at ha;cases ha;exact hb.lt
theorem Row.AB{F:Nat->Prop}{w w':World}{s:AA}{e:TypeId}{k:Nat}{xs:List Value}(h:Row w s e k xs)(he:Ext F w w')(hn:∀j,s.own j->¬F j):Row w' s e k xs:=by
 refine ⟨h.1,?_⟩;rcases h.2 with h2|⟨g,cur,hp,hb,r⟩
 ·exact .inl h2
 ·exact .inr ⟨g,cur,hp,he.AR hb (hn g ⟨_,hp,rfl⟩),r⟩
theorem Row.new(w:World)(cs:Array Value)(e:TypeId)(k n:Nat)(h:cs.size=n*k):Row (w.alloc (.cells cs e)) ⟨some ⟨w.heap.size,0,none⟩,n,n⟩ e k cs.toList:=
 ⟨by simpa using h,.inr ⟨_,cs,rfl,AN.new w cs e,az _,h,aU (by simp[h])⟩⟩
theorem Row.cell{w:World}{s:AA}{e:TypeId}{k:Nat}{xs:List Value}(h:Row w s e k xs){j:Nat}{v:Value}(hj:xs[j]?=some v):∃g,s.p=some ⟨g,0,none⟩/\w.cell? ⟨g,j,none⟩=some v:=by
 rcases h.2 with h2|⟨g,cur,hp,hb,_,_,ht⟩
 ·have h1:=h.1;rw[h2]at h1;have:xs=[]:=aY (by simpa using h1);rw[this]at hj;cases hj
 ·refine ⟨g,hp,?_⟩;rw[hb.cell];rw[<-ht,bS]at hj;split at hj
  ·simpa using hj
  ·cases hj
section
variable {P:Program} {w:World} {s:AA} {t u ty e:TypeId} {i:TypeInfo} {z:Value} {xs news:List Value} {x:Value} {m:Nat}
theorem LK (ht:P.underlying t=some (.slice e))(hu:(∃e',P.underlying u=some (.slice e'))\/P.underlying u=some .string)(hi:P.info? e=some i)(hz:i.zero=some z)(zI:z.cells.size=i.size)
  (hlen:Builtin.lenOf x=pure m) (De:∀w':World,w'.heap=w.heap->(Builtin.firstCells i.size m x).run P w'= .ok news.toArray w') (hl:news.length=m*i.size)
  (h1:∀v∈news,v.oneCell'=true) (own:Row w s e i.size xs) (hb:(s.len+m)*i.bytes<=140737488355328) (h63:s.len+m<=9223372036854775807):
  ∃s' w',Ai P (Builtin.append_ #[t,u] ty #[AA.v s,x]) w (AA.v s') w'/\Row w' s' e i.size (xs++news)/\s'.len=s.len+m/\Ext s.own w w'/\∀j,s'.own j->s.own j\/w.heap.size<=j:=by
 have Ho:=own.1;have Jx:(xs++news).length=(s.len+m)*i.size:=by rw[ae,Ho,hl,bT]

 have grown:∀(c:Nat),Row (w.drew.alloc (.cells (xs.toArray++news.toArray++Builtin.zeroCells z.cells (grownCap w (s.len+m) c e-(s.len+m))) e))
   ⟨some ⟨w.heap.size,0,none⟩,s.len+m,grownCap w (s.len+m) c e⟩ e i.size (xs++news):=by
  intro c;have Og:=grownCap_ge w (s.len+m) c e;refine ⟨Jx,.inr ⟨_,_,rfl,AN.new w.drew _ e,Og,?_,?_⟩⟩
  ·simp only[Array.size_append,bg,size_zeroCells,zI,Ho,hl,<-bT]
   congr 1
   omega
  ·simp only[Array.toList_append];rw[<-Jx];exact List.take_left
 have Zk:∀c,c<s.len+m->Builtin.nextslicecap (s.len+m) c*i.bytes<=281474976710656:=fun c hc=>growslice_fits hc hb
 have zJ:¬(((s.len+m:Nat):Int)>IntKind.i64.max):=by
  have:IntKind.i64.max=9223372036854775807:=by decide
  omega
 have hd:w.drew.heap=w.heap:=rfl;rcases own.2 with rfl|⟨g,cur,hp,hg,hle,DN,Fi⟩
 ·
  have hx:xs=[]:=aY (by simpa using Ho);subst hx;by_cases hm:m=0
  ·subst hm;have hn:news=[]:=aY (by simpa using hl);subst hn;refine ⟨⟨none,0,0⟩,w,?_,Row.nil w e i.size,rfl,Ext.refl _ _,fun j hj=> .inl hj⟩;have hc:=De w rfl;rcases hu with ⟨e',hu⟩|hu<;>
    simp[Ai,AA.v,Builtin.append_,run_underlying ht,run_underlying hu,sizeOf,typeInfo,hi,hlen,hc]
  ·refine ⟨_,_,?_,grown 0,rfl,((Ext.refl _ w).drew).alloc _,fun j hj=>?_⟩
   ·have hc:=De w.drew hd;have hn:¬(0+m<=0):=by omega
    have hf:=Zk 0 (by simp;omega);simp only[ak]at hf zJ;have BV:¬(281474976710656<Builtin.nextslicecap m 0*i.bytes):=by omega
    have h6:¬(9223372036854775807<(m:Int)):=by simp only[ak]at h63;omega
    rcases hu with ⟨e',hu⟩|hu<;>
     simp[Ai,AA.v,Builtin.append_,run_underlying ht,run_underlying hu,sizeOf,typeInfo,zeroValue,hi,hz,hlen,hm,h6,BV,Question.forced,run_firstCells_none,hc,newRow,grownCap]
   ·obtain ⟨a,ha,rfl⟩:=hj;cases ha;exact .inr (az _)
 ·obtain ⟨p,len,cap⟩:=s;simp only at hp hle DN Fi Ho Jx hb h63 zJ Zk grown;subst hp;by_cases Nb:len+m<=cap
  ·
   have Er:len*i.size+news.length<=cur.size:=by rw[hl,DN,<-bT];exact cD _ Nb
   have NF:=run_storeCells_at P g (len*i.size) e news 0 cur w hg (by simpa using Er) h1;simp only[Nat.add_zero]at NF;have hc:=De w rfl;refine ⟨⟨some ⟨g,0,none⟩,len+m,cap⟩,w.setRow g (cur.toList.take (len*i.size)++news++cur.toList.drop (len*i.size+news.length)).toArray,?_,⟨Jx,.inr ⟨g,(cur.toList.take (len*i.size)++news++cur.toList.drop (len*i.size+news.length)).toArray,rfl,setRow_heap w g cur _ e _ hg,Nb,?_,?_⟩⟩,rfl,⟨rfl,rfl,rfl,by simp[World.setRow],fun k _ hk=>setRow_other w g k _ (fun e=>hk ⟨_,rfl,e.symm⟩)⟩,fun j hj=> .inl hj⟩
   ·rcases hu with ⟨e',hu⟩|hu<;>
     simp[Ai,AA.v,Builtin.append_,run_underlying ht,run_underlying hu,sizeOf,typeInfo,hi,hlen,Nb,hc,NF]
   ·simp only[bg,ae,aC,aE,aJ];omega
   ·rw[Fi];show List.take ((len+m)*i.size) _=_;rw[<-Jx];exact List.take_left
  ·
   refine ⟨_,_,?_,grown cap,rfl,((Ext.refl _ w).drew).alloc _,fun j hj=>?_⟩
   ·have hc:=De w.drew hd;have hf:=Zk cap (by omega);have BV:¬(281474976710656<Builtin.nextslicecap (len+m) cap*i.bytes):=by omega
    have h6:¬(9223372036854775807<((len:Int)+(m:Int))):=by omega
    have holds:∀j v,xs[j]?=some v->w.drew.cell? ((⟨g,0,none⟩:Addr).add j)=some v:=fun j v hj=>by
     obtain ⟨g',Nc,h⟩:=own.cell hj;cases Nc;simpa using h
    have hfo:=run_firstCells_some (P:=P) w.drew i.size len ⟨g,0,none⟩ len cap xs Ho holds;rcases hu with ⟨e',hu⟩|hu<;>
     simp[Ai,AA.v,Builtin.append_,run_underlying ht,run_underlying hu,sizeOf,typeInfo,zeroValue,hi,hz,hlen,Nb,h6,BV,Question.forced,hfo,hc,newRow,grownCap]<;>
     (congr 2;apply Array.ext';simp[aD])
   ·obtain ⟨a,ha,rfl⟩:=hj;cases ha;exact .inr (az _)
end
end Sh
namespace Sh
def Fq (l:List UInt8):List Value:=l.map fun b=> .int .u8 (b.toNat:Int)
theorem Kq (l:List UInt8):(Fq l).length=l.length:=by simp[Fq]
theorem Tm (l m:List UInt8):Fq (l++m)=Fq l++Fq m:=by simp[Fq]
theorem kV (l:List UInt8):∀v∈Fq l,v.oneCell'=true:=by
 intro v hv;obtain ⟨b,_,rfl⟩:=bx.1 hv
 rfl
theorem kW {l:List UInt8}{i:Nat}{b:UInt8}(h:l[i]?=some b):(Fq l)[i]?=some (.int .u8 (b.toNat:Int)):=by simp[Fq,h]
def Bd (w:World)(s:AA)(l:List UInt8):Prop:=Row w s 5 1 (Fq l)
theorem Bd.len{w:World}{s:AA}{l:List UInt8}(h:Bd w s l):s.len=l.length:=by
 have:=h.1;rw[Kq]at this;omega
theorem Bd.nil(w:World):Bd w ⟨none,0,0⟩ []:=Row.nil w _ _
theorem Bd.AB{F:Nat->Prop}{w w':World}{s:AA}{l:List UInt8}(h:Bd w s l)(he:Ext F w w')(hn:∀j,s.own j->¬F j):Bd w' s l:=Row.AB h he hn
theorem Bd.get{w:World}{s:AA}{l:List UInt8}(h:Bd w s l){i:Nat}{b:UInt8}(hi:l[i]?=some b):∃g,s.p=some ⟨g,0,none⟩/\w.cell? ⟨g,i,none⟩=some (.int .u8 (b.toNat:Int)):=Row.cell h (kW hi)
theorem Cm:prog.underlying 61=some (.slice 5):=by kernel_rfl
theorem Qx:prog.underlying 5=some (.int .u8):=by kernel_rfl
theorem HC:prog.underlying 9=some .string:=by kernel_rfl
theorem Tn:(match prog.info? 5 with
 |some i=>Nat.beq i.size 1&&Nat.beq i.bytes 1&&(match i.zero with
  |some z=>Nat.beq z.cells.size 1
  |none=>false)
 |none=>false)=true:=by kernel_rfl
theorem Xo:∃i z,prog.info? 5=some i/\i.size=1/\i.bytes=1/\i.zero=some z/\z.cells.size=1:=by
 have h:=Tn;split at h
 ·rename_i i hi;simp only[ai]at h;obtain ⟨⟨h1,h2⟩,h3⟩:=h;split at h3
  ·rename_i z hz;exact ⟨i,z,hi,b5 h1,b5 h2,hz,b5 h3⟩
  ·cases h3
 ·cases h
section
variable {w:World} {s:AA} {ty:TypeId} {l news:List UInt8} {x:Value}
def LR (w:World)(s:AA)(l:List UInt8)(r:Sem Value):Prop:=
 ∃s' w',Ai prog r w (AA.v s') w'/\Bd w' s' l/\Ext s.own w w'/\∀j,s'.own j->s.own j\/w.heap.size<=j
theorem kX {u:TypeId}(hu:(∃e',prog.underlying u=some (.slice e'))\/prog.underlying u=some .string)
  (hlen:Builtin.lenOf x=pure news.length) (De:∀w':World,w'.heap=w.heap->(Builtin.firstCells 1 news.length x).run prog w'= .ok (Fq news).toArray w')
  (own:Bd w s l) (hb:l.length+news.length<=1099511627776):LR w s (l++news) (Builtin.append_ #[61,u] ty #[AA.v s,x]):=by
 obtain ⟨i,z,hi,h1,h2,hz,zI⟩:=Xo;have JI:=own.len;obtain ⟨s',w',hr,ho,_,he,hf⟩:=LK (P:=prog) (w:=w) (s:=s) (t:=61) (u:=u) (ty:=ty) (e:=5) (i:=i) (z:=z) (xs:=Fq l) (news:=Fq news) (x:=x) (m:=news.length)
  Cm hu hi hz (by rw[zI,h1]) hlen (by rw[h1];exact De) (by rw[Kq,h1,ch]) (kV news) (by rw[h1];exact own) (by rw[h2,JI];omega) (by rw[JI];omega)
 exact ⟨s',w',hr,by unfold Bd;rw[Tm,<-h1];exact ho,he,hf⟩
theorem V5 {s2:AA}{m:List UInt8}(own:Bd w s l)(h2:Bd w s2 m)(hb:l.length+m.length<=1099511627776):LR w s (l++m) (Builtin.append_ #[61,61] ty #[AA.v s,AA.v s2]):=by
 refine kX (.inl ⟨_,Cm⟩) (by rw[<-h2.len];rfl) (fun w' zK=>?_) own hb;rcases h2.2 with rfl|⟨g,cur,hp,hg,hle,DN,Fi⟩
 ·have:m=[]:=aY (by have:=h2.len;simpa using this.symm);subst this;exact run_firstCells_none (P:=prog) (w:=w') 1 0 0 0
 ·obtain ⟨p,len,cap⟩:=s2;simp only at hp;subst hp;refine run_firstCells_some w' 1 m.length ⟨g,0,none⟩ len cap (Fq m) (by rw[Kq,ch]) fun j v hj=>?_
  obtain ⟨g',Nc,h⟩:=Row.cell h2 hj;cases Nc;simpa[World.cell?,zK]using h
theorem Kr {g:Nat}{b:UInt8}(own:Bd w s l)(hg:AN w g #[.int .u8 (b.toNat:Int)] 5)(hb:l.length+1<=1099511627776):
  LR w s (l++[b]) (Builtin.append_ #[61,61] ty #[AA.v s,AA.v ⟨some ⟨g,0,none⟩,1,1⟩]):=
 V5 own (s2:=⟨some ⟨g,0,none⟩,1,1⟩) (m:=[b]) ⟨rfl,.inr ⟨g,_,rfl,hg,az _,rfl,rfl⟩⟩ hb
theorem KS (l:List UInt8):strOfNums (l.map fun b=>(b.toNat:Int))=⟨l.toArray⟩:=by
 unfold strOfNums
 congr 1
 simp[Function.comp_def]
theorem CP (h:Bd w s l):Ai prog (convert 61 9 (AA.v s)) w (.string ⟨l.toArray⟩) w:=by
 rcases h.2 with rfl|⟨g,cur,hp,hg,hle,DN,Fi⟩
 ·have:l=[]:=aY (by have:=h.len;simpa using this.symm);subst this;exact run_convert_bytes_nil w _ _ Cm Qx 0 0 _ HC
 ·obtain ⟨p,len,cap⟩:=s;simp only at hp;subst hp;have:=run_convert_bytes_arg (P:=prog) w 61 5 Cm Qx g 0 len cap (l.map fun b=>(b.toNat:Int)) (by rw[bc];exact h.len.symm) (fun i hi=>by
   have Iz:i<l.length:=by have:=h.len;simp only at this;omega
   obtain ⟨g',Nc,hc⟩:=h.get (ah Iz);cases Nc;rw[ak,hc];simp[List.getD,Iz]) 9 HC
  rw[KS]at this;exact this
end
end Sh
namespace Sh
structure El (P:Program) (t e:TypeId) (k B:Nat) (z:Value):Prop where
 Zl:P.underlying t=some (.slice e)
 size:(P.info? e).map (·.size)=some k
 bytes:(P.info? e).map (·.bytes)=some B
 zero:(P.info? e).bind (·.zero)=some z
 cells:z.cells.size=k
def B9 (w:World)(s:AA)(k:Nat)(ys:List Value):Prop:=ys.length=s.len*k/\∀j v,ys[j]?=some v->∃a,s.p=some a/\w.cell? (a.add j)=some v
theorem B9.AB{w w':World}{s:AA}{k:Nat}{ys:List Value}(h:B9 w s k ys)(he:Ext (fun _=>False) w w'):B9 w' s k ys:=
 ⟨h.1,fun j v hj=>by obtain ⟨a,ha,hc⟩:=h.2 j v hj;exact ⟨a,ha,he.GM hc⟩⟩
theorem DZ (a:Addr)(n:Nat):(a.add n).block=a.block:=by unfold Addr.add;split<;>(try split)<;>rfl
theorem B9.AI{F:Nat->Prop}{w w':World}{s:AA}{k:Nat}{ys:List Value}(h:B9 w s k ys)(he:Ext F w w')(hF:∀j,s.own j->¬F j):B9 w' s k ys:=
 ⟨h.1,fun j v hj=>by
  obtain ⟨a,ha,hc⟩:=h.2 j v hj;refine ⟨a,ha,?_⟩;rw[he.cell (Dh hc) (by rw[DZ];exact hF _ ⟨a,ha,rfl⟩)];exact hc⟩
theorem Row.view{w:World}{s:AA}{e:TypeId}{k:Nat}{xs:List Value}(h:Row w s e k xs):B9 w s k xs:=
 ⟨h.1,fun j v hj=>by
  obtain ⟨g,hg,hc⟩:=h.cell hj;exact ⟨_,hg,by rw[add_lit,ak];exact hc⟩⟩
theorem B9.of{w:World}{b n k:Nat}{cs:List Value}{t:TypeId}(hb:AN w b cs.toArray t)(hn:cs.length=n*k):B9 w ⟨some ⟨b,0,none⟩,n,n⟩ k cs:=
 ⟨hn,fun j v hj=>⟨_,rfl,by rw[add_lit,hb.cell,ak];simpa using hj⟩⟩
section
variable {P:Program} {t e:TypeId} {k B:Nat} {z:Value} {w:World} {s s2:AA} {ty:TypeId} {xs ys:List Value}
theorem El.info(h:El P t e k B z):∃i,P.info? e=some i/\i.size=k/\i.bytes=B/\i.zero=some z:=by
 cases hi:P.info? e with
 |none=>have:=h.size;rw[hi]at this;cases this
 |some i=>
  have h1:=h.size;have h2:=h.bytes;have h3:=h.zero;rw[hi]at h1 h2 h3;exact ⟨i,rfl,by simpa using h1,by simpa using h2,by simpa using h3⟩
theorem El.app(h:El P t e k B z)(own:Row w s e k xs)(h2:B9 w s2 k ys)(h1:∀v∈ys,v.oneCell'=true)(hb:(s.len+s2.len)*B<=140737488355328)(h63:s.len+s2.len<=9223372036854775807):
  ∃s' w',Ai P (Builtin.append_ #[t,t] ty #[AA.v s,AA.v s2]) w (AA.v s') w'/\Row w' s' e k (xs++ys)/\s'.len=s.len+s2.len/\Ext s.own w w'/\∀j,s'.own j->s.own j\/w.heap.size<=j:=by
 obtain ⟨i,hi,rfl,rfl,hz⟩:=h.info;refine LK (P:=P) (w:=w) (s:=s) (t:=t) (u:=t) (ty:=ty) (e:=e) (i:=i) (z:=z) (xs:=xs) (news:=ys) (x:=AA.v s2) (m:=s2.len) h.Zl (.inl ⟨_,h.Zl⟩) hi hz h.cells rfl (fun w' zK=>?_) h2.1 h1 own hb h63;obtain ⟨p,len,cap⟩:=s2;cases p with
 |none=>
  have hy:ys=[]:=by
   cases ys with
   |nil=>rfl
   |cons y r=>
    obtain ⟨a,ha,_⟩:=h2.2 0 y rfl;cases ha
  subst hy;have hl:=h2.1;simp only[aV]at hl;exact run_firstCells_none (P:=P) (w:=w') _ _ _ _
 |some a=>
  refine run_firstCells_some w' i.size len a len cap ys h2.1 fun j v hj=>?_
  obtain ⟨a',ha,hc⟩:=h2.2 j v hj;cases ha;unfold World.cell? at hc⊢;rw[zK];exact hc
theorem El.O4(h:El P t e k B z){g:Nat}(own:Row w s e k xs)(hg:AN w g ys.toArray e)(hl:ys.length=k)(h1:∀v∈ys,v.oneCell'=true)(hb:(s.len+1)*B<=140737488355328)(h63:s.len+1<=9223372036854775807):
  ∃s' w',Ai P (Builtin.append_ #[t,t] ty #[AA.v s,AA.v ⟨some ⟨g,0,none⟩,1,1⟩]) w (AA.v s') w'/\Row w' s' e k (xs++ys)/\s'.len=s.len+1/\Ext s.own w w'/\∀j,s'.own j->s.own j\/w.heap.size<=j:=
 h.app (s2:=⟨some ⟨g,0,none⟩,1,1⟩) own (B9.of hg (by omega)) h1 hb h63
theorem Fs {zs:List Value}(hk:zs.length=k):∀(c j:Nat),((List.replicate c zs).flatten)[j]?=if j<c*k then zs[j%k]? else none
 |0,j=>by simp
 |c+1,j=>by
  rw[List.replicate_succ,cq];by_cases hj:j<k
  ·rw[aI (by omega),aG (by rw[bT];omega),Nat.mod_eq_of_lt hj]
  ·rw[aM (by omega),Fs hk c (j-zs.length),hk,bT,Nat.one_mul];by_cases h2:j<c*k+k
   ·have hm:j%k=(j-k)%k:=by
     rw[<-Nat.add_mod_right (j-k) k,Nat.sub_add_cancel (by omega)]
    rw[aG (by omega),aG h2,hm]
   ·rw[aA (by omega),aA h2]
theorem Xp {zs:List Value}(hz:z.cells.toList=zs)(hk:zs.length=k)(c:Nat):(madeCells z.cells (c*k)).toList=(List.replicate c zs).flatten:=by
 have DN:z.cells.size=k:=by rw[<-aJ,hz,hk]
 apply cf;intro j;rw[Fs hk];by_cases hj:j<c*k
 ·have cO:0<k:=by
   rcases Nat.eq_zero_or_pos k with h|h
   ·subst h;omega
   ·exact h
  have hm:j%k<k:=Nat.mod_lt _ cO;rw[aG hj];unfold madeCells;simp only[cH,Array.toList_range,aH,List.getElem?_range hj,Option.map_some,DN];rw[<-hz,cA];have:j%k<z.cells.size:=by omega
  rw[bF this];simp[Array.getElem!_eq_getD,Array.getD,this]
 ·rw[aA hj,List.getElem?_eq_none];rw[aJ,size_madeCells];omega
theorem El.make(h:El P t e k B z){zs:List Value}(hz:z.cells.toList=zs)(w:World)(n:Nat)(hb:B*n<=281474976710656)(h63:n<=9223372036854775807):
  ∃w',Ai P (Instr.makeSlice t (.int .i64 (n:Int)) (.int .i64 (n:Int))) w (AA.v ⟨some ⟨w.heap.size,0,none⟩,n,n⟩) w'/\w'=w.alloc (.cells ((List.replicate n zs).flatten).toArray e):=by
 obtain ⟨i,hi,rfl,rfl,hzi⟩:=h.info;have hr:=run_make (P:=P) w t e i z h.Zl hi hzi .i64 .i64 n n (by omega) (by omega) (by have h:((i.bytes*n:Nat):Int)<=281474976710656:=(by omega);rwa[Int.natCast_mul]at h) (by omega);simp only[ay]at hr;have hl:=Xp (k:=i.size) hz (by rw[<-hz,aJ];exact h.cells) n;refine ⟨_,hr,?_⟩;rw[<-hl]
end
def StL (b:Nat):Nat->List Value->World->(World->Prop)->Prop
 |_,[],w,K=>K w
 |o,v::vs,w,K=>St w ⟨b,o,none⟩ v fun w'=>StL b (o+1) vs w' K
theorem cP {pre post:List Value}{c v:Value}:(pre++c::post).set pre.length v=pre++v::post:=by
 rw[List.set_append_right _ _ (az _),Nat.sub_self]
 rfl
theorem Hn.yJ{w0:World}{L:List (Nat×List Value×TypeId)}{b:Nat}{t:TypeId}{i:Nat}{K:World->Prop}:∀(vs zs pre post:List Value) (o:Nat) (w:World),Hn w0 w L->L[i]?=some (b,pre++(zs++post),t)->pre.length=o->zs.length=vs.length->
  (∀w2,Hn w0 w2 (L.set i (b,pre++(vs++post),t))->K w2)->StL b o vs w K
 |[],zs,pre,post,o,w,h,hi,ho,hz,k=>by
  have:zs=[]:=aY hz;subst this;have e:L.set i (b,pre++([]++post),t)=L:=by
   apply cf;intro j;rw[bN];split
   ·rename_i HD;subst HD;rw[aG (al.1 hi).1,hi]
   ·rfl
  exact k w (by rw[e];exact h)
 |v::vs,[],pre,post,o,w,h,hi,ho,hz,k=>by cases hz
 |v::vs,z::zs,pre,post,o,w,h,hi,ho,hz,k=>by
  refine h.st i hi (by rw[<-ho];simp) fun w2 h2=>?_
  have e:(pre++(z::zs++post)).set o v=(pre++[v])++(zs++post):=by
   rw[<-ho,ag,cP];simp
  rw[e]at h2;have Au:i<L.length:=(al.1 hi).1;refine Hn.yJ vs zs (pre++[v]) post (o+1) w2 h2 (by rw[List.getElem?_set_self Au]) (by simp[ho]) (by simpa using hz) fun w3 h3=>k w3 ?_
  rw[List.set_set]at h3;simpa using h3
end Sh
namespace Sh
def Wu (P:Program)(w:World):Nat->TypeId->List Value->Prop
 |0,_,_=>False
 |n+1,t,cs=>match P.underlying t with
  |some (.int k)=>∃x,cs=[.int k x]/\(Lit.int k x).wf=true
  |some .bool=>∃b,cs=[.bool b]
  |some .string=>∃s:ByteArray,cs=[.string s]/\s.size<=maxLen
  |some (.slice e)=>∃s:AA,cs=[AA.v s]/\(s=⟨none,0,0⟩\/∃a,s.p=some a/\s.len<=s.cap/\s.cap<=maxLen/\
    ∀i,i<s.len->∃Bf,Bf.length=P.cellsOf e/\(∀j,j<P.cellsOf e->w.cell? (a.add (i*P.cellsOf e+j))=Bf[j]?)/\Wu P w n e Bf)
  |some (.struct fs)=>cs.length=P.cellsOf t/\∀(i:Nat) (f:Field),fs[i]?=some f->Wu P w n f.type ((cs.drop f.offset).take (P.cellsOf f.type))
  |some (.array m e)=>cs.length=P.cellsOf t/\∀i,i<m->Wu P w n e ((cs.drop (i*P.cellsOf e)).take (P.cellsOf e))
  |some (.pointer e)=>∃p:Option Addr,cs=[.pointer p]/\∀a,p=some a->∃Bf,Bf.length=P.cellsOf e/\(∀j,j<P.cellsOf e->w.cell? (a.add j)=Bf[j]?)/\Wu P w n e Bf
  |_=>True
theorem CQ (a:Addr)(i j:Nat):(a.add i).add j=a.add (i+j):=by
 unfold Addr.add;split
 ·rename_i h;subst h;simp
 ·split
  ·rename_i h;subst h;simp_all
  ·split
   ·omega
   ·simp[Nat.add_assoc]
theorem MW {H:Type}{enc:TypeId×Value->H}{P:Program}{w:World}{spare:Nat->Bool}{held:Bool}:∀(n:Nat) (t:TypeId) (cs:List Value) (x:DataW H×List MemPlace),
  DataW.trod enc P w 0 spare held n t cs=some x->Wu P w n t cs
 |0,t,cs,x,h=>by simp[DataW.trod]at h
 |n+1,t,cs,x,h=>by
  unfold Wu;split
  ·rename_i k ht;obtain ⟨y,h1,_,h2⟩:=DataW.trod_int ht h;exact ⟨y,h1,h2⟩
  ·rename_i ht;obtain ⟨y,h1,_⟩:=DataW.trod_bool ht h;exact ⟨y,h1⟩
  ·rename_i ht;obtain ⟨y,h1,_,h2⟩:=DataW.trod_string ht h;exact ⟨y,h1,h2⟩
  ·rename_i e ht;rcases DataW.trod_slice ht h with ⟨h0,_⟩|⟨a,len,cap,elems,rest,m,hm,Wv,_,_,hl,hc,hel,hi,_⟩
   ·exact ⟨⟨none,0,0⟩,h0,.inl rfl⟩
   ·cases hm;refine ⟨⟨some a,len,cap⟩,Wv,.inr ⟨a,rfl,hl,hc,fun i Iz=>?_⟩⟩;have hg:elems[i]?=some (elems[i]'(by rw[hel];exact Iz)):=ah _;have h2:=(hi i Iz).trans hg;obtain ⟨Bf,h3,h4⟩:=bQ.1 h2;obtain ⟨_,h5,h6⟩:=World.cells?_some h3;exact ⟨Bf,h5,fun j hj=>by rw[<-CQ];exact h6 j hj,MW n e Bf _ h4⟩
  ·rename_i fs ht;obtain ⟨xs,m,hm,_,hl,WU,hf⟩:=DataW.trod_struct ht h;cases hm;refine ⟨hl,fun i f U7=>?_⟩;have Au:i<fs.size:=(aj.1 U7).1;exact MW n f.type _ _ ((hf i f U7).trans (ah (by rw[WU];exact Au)))
  ·rename_i m e ht;obtain ⟨xs,m',hm,_,hl,WU,hf⟩:=DataW.trod_array ht h;cases hm;exact ⟨hl,fun i hi=>MW n e _ _ ((hf i hi).trans (ah (by rw[WU];exact hi)))⟩
  ·rename_i e ht;rcases DataW.trod_pointer ht h with ⟨h0,_⟩|⟨a,Bf,y,m,hm,Wv,_,hc,hy⟩
   ·exact ⟨none,h0,fun a ha=>by cases ha⟩
   ·cases hm;refine ⟨some a,Wv,fun a' ha=>?_⟩;cases ha;obtain ⟨_,h5,h6⟩:=World.cells?_some hc;exact ⟨Bf,h5,h6,MW n e Bf y hy⟩
  ·trivial
theorem gX {H:Type}{enc:TypeId×Value->H}{P:Program}{w:World}{spare:Nat->Bool}{held:Bool}{t:TypeId}{v:Value}{d:DataW H}{ps:List MemPlace}
  (h:DataW.Trod enc P w 0 spare held t v d ps):∃n,Wu P w n t v.cells.toList:=by
 obtain ⟨n,hn⟩:=h;exact ⟨n,MW n t _ _ hn⟩
def IM (P:Program)(t:TypeId):Option (List (Nat×TypeId)):=match P.underlying t with
 |some (.struct fs)=>some (fs.toList.map fun f=>(f.offset,f.type))
 |_=>none
section
variable {P:Program} {w:World} {n:Nat} {t:TypeId} {cs:List Value}
theorem Hu {k:IntKind}(hu:P.underlying t=some (.int k))(h:Wu P w n t cs):∃x,cs=[.int k x]/\(Lit.int k x).wf=true:=by
 cases n with
 |zero=>exact h.elim
 |succ n=>unfold Wu at h;rw[hu]at h;exact h
end
theorem Ww {w:World}{a:Addr}{v:Value}(h:w.cell? a=some v):a.block<w.heap.size:=by
 unfold World.cell? at h;rcases b9 a.block w.heap.size with h'|h'
 ·exact h'
 ·rw[bG h']at h;cases h
theorem Ext.cellOf{F:Nat->Prop}{a w:World}(h:Ext F a w){p:Addr}{v:Value}(hc:a.cell? p=some v)(hn:¬F p.block):w.cell? p=some v:=by
 rw[h.cell (Ww hc) hn];exact hc
theorem mu {P:Program}{w:World}{n:Nat}{t:TypeId}{cs:List Value}(ha:DH (P.underlying t)=true)(h:Wu P w n t cs):cs.length=P.cellsOf t:=by
 cases n with
 |zero=>exact h.elim
 |succ n=>
  unfold Wu at h;unfold DH at ha;split at ha
  ·rename_i fs hu;rw[hu]at h;exact h.1
  ·rename_i m e hu;rw[hu]at h;exact h.1
  ·cases ha
section
variable {P:Program} {w:World} {n k i:Nat} {t u:TypeId} {cs:List Value} {c:Value}
end
theorem Rv {H:Type}{enc:TypeId×Value->H}{P:Program}{W:World}{spare:Nat->Bool}{held:Bool}{t:TypeId}{v:Value}{d:DataW H}{ps:List MemPlace}{rr:Reach}{b0:Nat}
  (ha:DH (P.underlying t)=true) (h0:Value.okWide P W rr b0 t v) (h:DataW.Trod enc P W 0 spare held t v d ps):∃cs:List Value,v= .agg cs.toArray/\cs.length=P.cellsOf t/\∃n,Wu P W n t cs:=by
 obtain ⟨n,hn⟩:=gX h;have hv:∃cs:Array Value,v= .agg cs:=by
  unfold DH at ha;split at ha
  ·rename_i fs hu;simp only[Value.okWide,hu]at h0;obtain ⟨cs,h1,_⟩:=h0;exact ⟨cs,h1⟩
  ·rename_i m e hu;simp only[Value.okWide,hu]at h0;obtain ⟨cs,h1,_⟩:=h0;exact ⟨cs,h1⟩
  ·cases ha
 obtain ⟨cs,rfl⟩:=hv;exact ⟨cs.toList,by simp,mu ha hn,n,hn⟩
end Sh
namespace Sh
def Es (P:Program)(w:World):Nat->TypeId->List Value->Nat->Prop
 |0,_,_,_=>False
 |n+1,t,cs,b=>match P.underlying t with
  |some (.int k)=>∃x,cs=[.int k x]/\(Lit.int k x).wf=true
  |some .bool=>∃x,cs=[.bool x]
  |some .string=>∃s:ByteArray,cs=[.string s]/\s.size<=maxLen/\s.size<b
  |some (.slice e)=>∃s:AA,cs=[AA.v s]/\(s=⟨none,0,0⟩\/∃(a:Addr) (bs:List Nat),s.p=some a/\s.len<=s.cap/\s.cap<=maxLen/\bs.length=s.len/\bs.sum<b/\s.len<b/\
    ∀i x,bs[i]?=some x->∃Bf,Bf.length=P.cellsOf e/\(∀j,j<P.cellsOf e->w.cell? (a.add (i*P.cellsOf e+j))=Bf[j]?)/\Es P w n e Bf x)
  |some (.struct fs)=>cs.length=P.cellsOf t/\∃bs:List Nat,bs.sum<b/\∀(i:Nat) (f:Field),fs[i]?=some f->∃x,bs[i]?=some x/\Es P w n f.type ((cs.drop f.offset).take (P.cellsOf f.type)) x
  |some (.array _ _)=>False
  |some (.pointer _)=>False
  |_=>True
theorem SJ {H:Type}(l:List (DataW H×List MemPlace)):Rows.uptoBulkAll (l.map (·.1))=(l.map fun x=>Rows.uptoBulk x.1).sum:=by
 induction l with
 |nil=>simp[Rows.uptoBulkAll]
 |cons x l ih=>simp only[aB,Rows.uptoBulkAll,b6,ih]
theorem gY {H:Type}(d:DataW H):1<=Rows.uptoBulk d:=by
 cases d with
 |lit l=>cases l<;>simp[Rows.uptoBulk]
 |nil=>simp[Rows.uptoBulk]
 |ptr d=>simp[Rows.uptoBulk]
 |slice elems spare=>simp[Rows.uptoBulk]
 |agg parts=>simp[Rows.uptoBulk]
 |iface t d=>simp[Rows.uptoBulk]
 |map entries=>simp[Rows.uptoBulk]
 |held h=>simp[Rows.uptoBulk]
theorem gZ {H:Type}(l:List (DataW H×List MemPlace)):l.length<=(l.map fun x=>Rows.uptoBulk x.1).sum:=by
 induction l with
 |nil=>simp
 |cons x l ih=>have:=gY x.1;simp only[aB,b6,au];omega
theorem Es.up{P:Program}{w:World}:∀{n:Nat} {t:TypeId} {cs:List Value} {b:Nat},Es P w n t cs b->Wu P w n t cs
 |0,t,cs,b,h=>h.elim
 |n+1,t,cs,b,h=>by
  unfold Es at h;unfold Wu;split
  ·rename_i k ht;rw[ht]at h;exact h
  ·rename_i ht;rw[ht]at h;exact h
  ·rename_i ht;rw[ht]at h;obtain ⟨s,h1,h2,_⟩:=h;exact ⟨s,h1,h2⟩
  ·rename_i e ht;rw[ht]at h;obtain ⟨s,h1,h2⟩:=h;refine ⟨s,h1,?_⟩;rcases h2 with h2|⟨a,bs,h2,h3,h4,h5,_,_,h6⟩
   ·exact .inl h2
   ·refine .inr ⟨a,h2,h3,h4,fun i hi=>?_⟩;obtain ⟨Bf,k1,k2,k3⟩:=h6 i bs[i] (ah (by omega));exact ⟨Bf,k1,k2,k3.up⟩
  ·rename_i fs ht;rw[ht]at h;obtain ⟨h1,bs,_,h2⟩:=h;refine ⟨h1,fun i f hf=>?_⟩;obtain ⟨x,_,h3⟩:=h2 i f hf;exact h3.up
  ·rename_i ht;rw[ht]at h;exact h.elim
  ·rename_i ht;rw[ht]at h;exact h.elim
  ·trivial
section
variable {P:Program} {w:World} {n b:Nat} {t:TypeId} {cs:List Value}
theorem LN (hu:P.underlying t=some .string)(h:Es P w n t cs b):∃s:ByteArray,cs=[.string s]/\s.size<=maxLen/\s.size<b:=by
 cases n with
 |zero=>exact h.elim
 |succ n=>unfold Es at h;rw[hu]at h;exact h
end
theorem HX:∀{bs:List Nat} {i x:Nat},bs[i]?=some x->x<=bs.sum
 |[],i,x,h=>by simp at h
 |y::bs,0,x,h=>by simp at h;subst h;simp
 |y::bs,i+1,x,h=>by
  have:=HX (bs:=bs) (i:=i) (x:=x) (by simpa using h);simp only[b6];omega
end Sh
namespace Sh
theorem Aj.Jt:∀(ts:List Da) (x:Aj ts),(Aj.cells ts x).length=ts.length
 |[],_=>rfl
 |[t],_=>rfl
 |t::u::r,x=>by
  show (_::Aj.cells (u::r) x.2).length=_;rw[au,Aj.Jt (u::r) x.2]
  rfl
theorem Ae.mk{w:World}{b o:Nat}:∀(ts:List Da) (i:Nat) (x:Aj ts) (K:Aj ts->Prop),(∀j v,(Aj.cells ts x)[j]?=some v->w.cell? ⟨b,o+i+j,none⟩=some v)->K x->Ae w ⟨b,o,none⟩ i ts K
 |[],_,_,_,_,k=>k
 |[t],i,x,K,h,k=>by
  have h0:=h 0 (t.v x) rfl;refine Ld.mk (x:=x) ?_ k;rw[add_lit];exact h0
 |t::u::r,i,x,K,h,k=>by
  have h0:=h 0 (t.v x.1) rfl;refine Ld.mk (x:=x.1) ?_ (Ae.mk (u::r) (i+1) x.2 (fun y=>K (x.1,y)) (fun j v hj=>?_) k)
  ·rw[add_lit];exact h0
  ·have:=h (j+1) v hj;rw[show o+(i+1)+j=o+i+(j+1) by omega];exact this
theorem BW.mk{S:World->Prop}{b o:Nat}:∀(ts:List Da) (i:Nat) (x:Aj ts) (K:Aj ts->Prop),(∀w,S w->∀j v,(Aj.cells ts x)[j]?=some v->w.cell? ⟨b,o+i+j,none⟩=some v)->K x->BW S ⟨b,o,none⟩ i ts K
 |[],_,_,_,_,k=>k
 |[t],i,x,K,h,k=>⟨x,fun w hw=>by rw[add_lit];exact h w hw 0 (t.v x) rfl,k⟩
 |t::u::r,i,x,K,h,k=>⟨x.1,fun w hw=>by rw[add_lit];exact h w hw 0 (t.v x.1) rfl,BW.mk (u::r) (i+1) x.2 (fun y=>K (x.1,y)) (fun w hw j v hj=>by
   have:=h w hw (j+1) v hj;rw[show o+(i+1)+j=o+i+(j+1) by omega];exact this) k⟩
theorem OY {w:World}{b:Nat}{pre post:List Value}{t:TypeId}{ts:List Da}{x:Aj ts}(h:AN w b (pre++(Aj.cells ts x++post)).toArray t){j:Nat}{v:Value}(hj:(Aj.cells ts x)[j]?=some v):w.cell? ⟨b,pre.length+j,none⟩=some v:=by
 have hl:=(al.1 hj).1;rw[h.cell,List.getElem?_toArray,aM (by omega),Nat.add_sub_cancel_left,aI hl];exact hj
theorem Ae.AR{w:World}{b o:Nat}{pre post:List Value}{t:TypeId}{ts:List Da}{x:Aj ts}{K:Aj ts->Prop}(h:AN w b (pre++(Aj.cells ts x++post)).toArray t)(ho:pre.length=o)(k:K x):Ae w ⟨b,o,none⟩ 0 ts K:=
 Ae.mk ts 0 x K (fun j v hj=>by rw[<-ho];exact OY h hj) k
theorem BW.AR{S:World->Prop}{b o:Nat}{pre post:List Value}{t:TypeId}{ts:List Da}{x:Aj ts}{K:Aj ts->Prop}(h:∀w,S w->AN w b (pre++(Aj.cells ts x++post)).toArray t)(ho:pre.length=o)(k:K x):BW S ⟨b,o,none⟩ 0 ts K:=
 BW.mk ts 0 x K (fun w hw j v hj=>by rw[<-ho];exact OY (h w hw) hj) k
theorem Am.of{b o:Nat}:∀(ts:List Da) (i:Nat) (x:Aj ts) (w:World) (K:World->Prop),StL b (o+i) (Aj.cells ts x) w K->Am ⟨b,o,none⟩ i ts x w K
 |[],_,_,_,_,h=>h
 |[t],i,x,w,K,h=>by
  show St w ((⟨b,o,none⟩:Addr).add i) (t.v x) K;rw[add_lit];exact h
 |t::u::r,i,x,w,K,h=>by
  show St w ((⟨b,o,none⟩:Addr).add i) (t.v x.1) fun w'=>Am ⟨b,o,none⟩ (i+1) (u::r) x.2 w' K
  rw[add_lit];obtain ⟨h1,h2⟩:=h;exact ⟨h1,Am.of (u::r) (i+1) x.2 _ K h2⟩
theorem Hn.stT{w0 w:World}{L:List (Nat×List Value×TypeId)}{b o:Nat}{t:TypeId}{i:Nat}{pre zs post:List Value}{ts:List Da}{x:Aj ts}{K:World->Prop}(h:Hn w0 w L)(hi:L[i]?=some (b,pre++(zs++post),t))(ho:pre.length=o)(hz:zs.length=ts.length)
  (k:∀w2,Hn w0 w2 (L.set i (b,pre++(Aj.cells ts x++post),t))->K w2):Am ⟨b,o,none⟩ 0 ts x w K:=
 Am.of ts 0 x w K (Hn.yJ (Aj.cells ts x) zs pre post (o+0) w h hi ho (by rw[Aj.Jt];exact hz) k)
theorem Hn.LH{w0 w:World}{L:List (Nat×List Value×TypeId)}{b o:Nat}{t:TypeId}{i:Nat}{pre post:List Value}{ts:List Da}{x:Aj ts}{K:Aj ts->Prop}(h:Hn w0 w L)(hi:L[i]?=some (b,pre++(Aj.cells ts x++post),t))(ho:pre.length=o)(k:K x):Ae w ⟨b,o,none⟩ 0 ts K:=
 Ae.AR (h.get i hi) ho k
theorem XF {b:Nat}{t:TypeId}{K:World->Prop}:∀(vs zs pre post:List Value) (o:Nat) (w:World),AN w b (pre++(zs++post)).toArray t->pre.length=o->zs.length=vs.length->(∀w2,AN w2 b (pre++(vs++post)).toArray t->Ext (·=b) w w2->K w2)->StL b o vs w K
 |[],zs,pre,post,o,w,h,ho,hz,k=>by
  have:zs=[]:=aY hz;subst this;exact k w h (Ext.refl _ _)
 |v::vs,[],pre,post,o,w,h,ho,hz,k=>by cases hz
 |v::vs,z::zs,pre,post,o,w,h,ho,hz,k=>by
  refine ⟨h.can (by rw[bg,<-ho];simp),?_⟩;have h2:=h.set o v;have e:(pre++(z::zs++post)).set o v=(pre++[v])++(zs++post):=by
   rw[<-ho,ag,cP];simp
  rw[af,e]at h2;refine XF vs zs (pre++[v]) post (o+1) _ h2 (by simp[ho]) (by simpa using hz) fun w3 h3 e3=>k w3 (by simpa using h3) (((Ext.refl (·=b) w).set (.inl rfl) v).tr e3)
theorem Am.AR{w:World}{b o:Nat}{t:TypeId}{pre zs post:List Value}{ts:List Da}{x:Aj ts}{K:World->Prop}(h:AN w b (pre++(zs++post)).toArray t)(ho:pre.length=o)(hz:zs.length=ts.length)
  (k:∀w2,AN w2 b (pre++(Aj.cells ts x++post)).toArray t->Ext (·=b) w w2->K w2):Am ⟨b,o,none⟩ 0 ts x w K:=
 Am.of ts 0 x w K (XF (Aj.cells ts x) zs pre post (o+0) w h ho (by rw[Aj.Jt];exact hz) k)
end Sh
set_option maxRecDepth 4000
set_option maxHeartbeats 2000000
namespace Sh
theorem Br.t{b:Bool}{A B:Prop}(h:b=true)(h1:A):Br b A B:=by rw[h];exact h1
theorem Br.f{b:Bool}{A B:Prop}(h:b=false)(h1:B):Br b A B:=by rw[h];exact h1
theorem TM (a b:ByteArray):(a.toList==b.toList)=decide (a.data.toList=b.data.toList):=by
 rw[ByteArray.toList_eq,ByteArray.toList_eq];by_cases h:a.data.toList=b.data.toList
 ·rw[aL h];simpa using h
 ·rw[aR h];simpa using h
theorem GS {α:Type}{f:α->List Value}{k:Nat}(hk:∀x,(f x).length=k):∀(L:List α) (i j:Nat) (x:α),L[i]?=some x->j<k->(L.flatMap f)[i*k+j]?=(f x)[j]?
 |[],i,j,x,h,_=>by simp at h
 |y::L,0,j,x,h,hj=>by
  simp at h;subst h;rw[bh,cE,ak,aI (by rw[hk];exact hj)]
 |y::L,i+1,j,x,h,hj=>by
  rw[bh,aM (by rw[hk,bT];omega),hk,show (i+1)*k+j-k=i*k+j by rw[bT];omega];exact GS hk L i j x (by simpa using h) hj
theorem Ba {α:Type}{f:α->List Value}{k:Nat}(hk:∀x,(f x).length=k):∀L:List α,(L.flatMap f).length=L.length*k
 |[]=>by simp
 |y::L=>by rw[bh,ae,hk,Ba hk L,au,bT];omega
theorem U1 {α:Type}{f:α->List Value}{k:Nat}(hk:∀x,(f x).length=k)(h0:0<k){L:List α}{j:Nat}(hj:j<L.length*k):∃x,L[j/k]?=some x/\(L.flatMap f)[j]?=(f x)[j%k]?:=by
 have hi:j/k<L.length:=(Nat.div_lt_iff_lt_mul h0).2 hj;refine ⟨L[j/k],ah hi,?_⟩;have:=GS hk L (j/k) (j%k) _ (ah hi) (Nat.mod_lt _ h0);rw[Nat.mul_comm,Nat.div_add_mod]at this;exact this
theorem B9.make{w:World}{s:AA}{α:Type}{f:α->List Value}{k:Nat}{L:List α}(hk:∀x,(f x).length=k)(h0:0<k)(hl:s.len=L.length)(h:∀(i:Nat) (x:α),L[i]?=some x->∃a,s.p=some a/\∀j,j<k->w.cell? (a.add (i*k+j))=(f x)[j]?):B9 w s k (L.flatMap f):=by
 refine ⟨by rw[Ba hk,hl],fun j v hj=>?_⟩;have Au:j<L.length*k:=by rw[<-Ba hk];exact (al.1 hj).1
 obtain ⟨x,hx,e⟩:=U1 hk h0 Au;obtain ⟨a,ha,hc⟩:=h _ x hx;refine ⟨a,ha,?_⟩;have:=hc (j%k) (Nat.mod_lt _ h0);rw[show j/k*k+j%k=j by rw[Nat.mul_comm];exact Nat.div_add_mod j k]at this;rw[this,<-e,hj]
theorem Z7 {w:World}{b:Nat}{cs Bf:Array Value}{t t':TypeId}(h:AN w b cs t)(k:AN w b Bf t'):t=t':=by
 unfold AN at h k;rw[h]at k;cases k
 rfl
theorem GU (w:World)(b:Nat)(s:ByteArray)(p:Nat):Ext (·=b) w (o7 w b s p):=
 ⟨rfl,rfl,rfl,by simp[o7],fun k hk hn=>by
  unfold o7;simp only;rw[Array.getElem?_setIfInBounds];rw[aA fun e=>hn e.symm]⟩
theorem JZ {w:World}{b:Nat}{s:ByteArray}{p:Nat}(h:b<w.heap.size):(o7 w b s p).heap[b]?=some (.stringIter s p):=by
 unfold o7;simp[Array.getElem?_setIfInBounds,h]
def ub (z:Int):UInt8:=UInt8.ofNat (z%256).toNat
end Sh
end Go.Proofs.YtdnhhkhbdfiagaaGreatDoor
set_option maxRecDepth 8000
set_option maxHeartbeats 4000000
namespace Go.Proofs
open Go.Shelf Go.RowKit
theorem Tryz.ADr(s cut:ByteArray)(w:World)(Wv:cut.size<4294967281)(My:∀(j:Nat) b,cut.data.toList[j]?=some b->b.toNat<128):
  Calls Tryz.prog 241 #[.string s,.string cut] w fun e w'=>e= .returned (.string ⟨(Lib.trimLeftS s.data.toList cut.data.toList).toArray⟩)/\Below w.heap.size w w':=Any.strings_TrimLeft_laid Tryz.nU (by kernel_rfl) s cut w Wv My
theorem Tryz.ADs(s cut:ByteArray)(w:World)(hs:s.size<=9223372036854775807)(Wv:cut.size<4294967281)(My:∀(j:Nat) b,cut.data.toList[j]?=some b->b.toNat<128):
  Calls Tryz.prog 196 #[.string s,.string cut] w fun e w'=>e= .returned (.string ⟨(Lib.trimRightS s.data.toList cut.data.toList).toArray⟩)/\Below w.heap.size w w':=Any.strings_TrimRight_laid Tryz.nV (by kernel_rfl) s cut w hs Wv My
theorem Tryz.trimB(s cut:ByteArray)(w:World)(hs:s.size<=9223372036854775807)(Wv:cut.size<4294967281)(My:∀(j:Nat) b,cut.data.toList[j]?=some b->b.toNat<128):
  Calls Tryz.prog 242 #[.string s,.string cut] w fun e w'=>e= .returned (.string ⟨(Lib.trimS s.data.toList cut.data.toList).toArray⟩)/\Below w.heap.size w w':=Any.strings_Trim_laid Tryz.nW (by kernel_rfl) s cut w hs Wv My
end Go.Proofs
namespace Go.Proofs.YtdnhhkhbdfiagaaGreatDoor
namespace Tk
open Sh Fix Go.Lib
abbrev bl (s:ByteArray):By:=s.data.toList
abbrev ba (l:By):ByteArray:=⟨l.toArray⟩
theorem Bp (l:By):bl (ba l)=l:=by simp[bl,ba]
theorem Ss (s:ByteArray):ba (bl s)=s:=by simp[bl,ba]
theorem AE (s:ByteArray):(bl s).length=s.size:=aJ
theorem BM (a b:ByteArray):bl (a++b)=bl a++bl b:=by simp[bl]
theorem A9 (s:ByteArray)(a b:Nat):bl (s.extract a b)=((bl s).drop a).take (b-a):=by
 show (s.extract a b).data.toList=_;rw[ByteArray.data_extract,Array.toList_extract]
theorem Jd {a b:ByteArray}(h:bl a=bl b):a=b:=by rw[<-Ss a,h,Ss]
theorem FG {w w':World}(h:Go.RowKit.Below w.heap.size w w'):Ext (fun _=>False) w w':=⟨h.os,h.tape,h.output,h.size,fun k hk _=>h.block k hk⟩
section
variable {w w' w1:World} {s t:ByteArray}
attribute [local irreducible] Ld Sh.St Nw Nn Lt AU
theorem IP (s:ByteArray)(hs:s.size<=1099511627776)(w:World):rJ s (⟨#[48,49,50,51,52,53,54,55,56,57]⟩:cN) w fun r w1=>bl r=trimS (bl s) Gn/\Ext (fun _=>False) w w1:=
 (Tryz.trimB s _ w (by omega) (by decide) (ascii_of_all (by decide))).mono fun e w' h=>⟨_,h.1,by rw[Bp];rfl,FG h.2⟩
theorem Ky (s:ByteArray)(hs:s.size<=1099511627776)(w:World):kz s (⟨#[48]⟩:cN) w fun r w1=>bl r=trimRightS (bl s) [48]/\Ext (fun _=>False) w w1:=
 (Tryz.ADs s _ w (by omega) (by decide) (ascii_of_all (by decide))).mono fun e w' h=>⟨_,h.1,by rw[Bp],FG h.2⟩
theorem Rx (s p:ByteArray)(w:World):k7 s p w fun r w1=>r=hasPrefix (bl s) (bl p)/\w1=w:=
 (Tryz.strings_HasPrefix s p w).mono fun e w' h=>⟨_,h.1,rfl,h.2⟩
theorem ADt (s:ByteArray)(c:UInt8)(w:World):C51 s (⟨#[c]⟩:cN) w fun r w1=>r=indexByte (bl s) c/\w1=w:=
 (Tryz.stringslite_Index_one s c w).mono fun e w' h=>⟨_,h.1,rfl,h.2⟩
theorem ANm (m:Nat):Int.tmod (m:Int) 10=((m%10:Nat):Int):=by rw[Int.tmod_eq_emod_of_nonneg (by omega)];omega
theorem ANn (m:Nat):Int.tdiv (m:Int) 10=((m/10:Nat):Int):=by rw[Int.tdiv_eq_ediv_of_nonneg (by omega)];omega
theorem XJ {n least k:Nat}(h1:1<=least)(yw:least<=k)(hk:k<=10)(hn:n<10^k)(w:World):
  X6 (n:Int) (least:Int) w fun r w1=>(Aq (bl r)/\AS (bl r)=n/\least<=(bl r).length/\(bl r).length<=k)/\Ext (fun _=>False) w w1:=by
 refine AFn _ _ _ _ ?_;unfold AAP;have hb:n<10000000000:=Nat.lt_of_lt_of_le hn (bB (Nat.pow_le_pow_right (by decide) hk) (by decide));refine ⟨fun c st v=>∃(m:Nat) (l:By),st=((m:Int),ba l)/\Aq l/\n=m*10^l.length+AS l/\l.length<=k/\c=k-l.length/\Ext (fun _=>False) w v,k,⟨n,[],rfl,(fun c hc=>by cases hc),by simp[AS],by simp,by simp,Ext.refl _ _⟩,?_⟩;rintro c st v ⟨m,l,rfl,hd,he,hl,rfl,ev⟩;unfold dS;dsimp only;have hmn:m<=n:=by
  have:m*1<=m*10^l.length:=Nat.mul_le_mul_left m (Nat.pow_pos (by decide));omega
 have hdg:BF (UInt8.ofNat (48+m%10)):=by
  unfold BF;rw[bM];omega
 have ic:IntKind.u8.wrap (IntKind.i64.wrap (48+Int.tmod (m:Int) 10))=(((UInt8.ofNat (48+m%10)).toNat:Nat):Int):=by
  rw[ANm,AH (by omega),G0 (by omega),bM];omega
 have hq:IntKind.i64.wrap (Int.tdiv (m:Int) 10)=((m/10:Nat):Int):=by rw[ANn,AH (by omega)]
 rw[ic,hq];have DN:(ba l).size=l.length:=by rw[<-AE,Bp]
 have step:l.length<k->∀(v':World),v'=v.alloc (.cells #[.int .u8 (((UInt8.ofNat (48+m%10)).toNat:Nat):Int)] 5)->
   Rn Tryz.prog (convert 61 9 (AA.v ((⟨some ⟨v.heap.size,0,none⟩,1,1⟩:AA)))) v' Value.string fun (x7:ByteArray) vw8=>
    (((x7).size+(ba l).size:Nat):Int)<=IntKind.i64.max/\∃m',m'<k-l.length/\∃(m2:Nat) (l2:By),(((m/10:Nat):Int),x7++ba l)=((m2:Int),ba l2)/\Aq l2/\n=m2*10^l2.length+AS l2/\l2.length<=k/\m'=k-l2.length/\Ext (fun _=>False) w vw8:=by
  intro Au v' hv';have hE:Ext (fun _=>False) v v':=by rw[hv'];exact (Ext.refl _ _).alloc _
  have hB:Bd v' (⟨some ⟨v.heap.size,0,none⟩,1,1⟩:AA) [UInt8.ofNat (48+m%10)]:=by
   rw[hv'];exact ⟨rfl,.inr ⟨v.heap.size,_,rfl,(Hn.start v|>fun H=>by
    have:Nw v (.cells ([Value.int .u8 (((UInt8.ofNat (48+m%10)).toNat:Nat):Int)]:List Value).toArray 5) fun w2=>AN w2 v.heap.size ([Value.int .u8 (((UInt8.ofNat (48+m%10)).toNat:Nat):Int)]:List Value).toArray 5:=H.nw fun w2 H=>H.get 0 rfl
    unfold Nw at this;exact this),az _,rfl,rfl⟩⟩
  refine ⟨_,v',CP hB,?_,k-(l.length+1),by omega,m/10,UInt8.ofNat (48+m%10)::l,?_,?_,?_,?_,?_,ev.tr hE⟩
  ·rw[DN];have:(⟨[UInt8.ofNat (48+m%10)].toArray⟩:cN).size=1:=rfl;rw[this];have:IntKind.i64.max=9223372036854775807:=by decide
   omega
  ·rw[Prod.mk.injEq];refine ⟨rfl,Jd ?_⟩;rw[BM,Bp,Bp,Bp]
   rfl
  ·intro c hc;rcases ar.1 hc with rfl|hc
   ·exact hdg
   ·exact hd c hc
  ·rw[he];show m*10^l.length+AS l=m/10*10^(UInt8.ofNat (48+m%10)::l).length+(((UInt8.ofNat (48+m%10)).toNat-48)*10^l.length+AS l);rw[bM,au,Nat.pow_succ];have e1:(48+m%10)%2^8-48=m%10:=by omega
   rw[e1];have e2:m/10*10+m%10=m:=by omega
   have key:∀a r p v:Nat,(a*10+r)*p+v=a*(p*10)+(r*p+v):=fun a r p v=>by
    rw[bT,Nat.mul_assoc,Nat.mul_comm 10 p];omega
   have:=key (m/10) (m%10) (10^l.length) (AS l);rw[e2]at this;exact this
  ·rw[au];omega
  ·rw[au]
 rw[DN];refine Br.dec (fun q=>?_) fun q=>Br.dec (fun q2=>?_) fun q2=>?_
 ·refine Nw.of (step ?_ _ rfl);have h0:1<=m:=by omega
  have h2:10^l.length<=n:=by
   have:1*10^l.length<=m*10^l.length:=cD _ h0;omega
  rcases b9 l.length k with h|h
  ·exact h
  ·have:=Nat.pow_le_pow_right (show 0<10 by decide) h;omega
 ·exact Nw.of (step (by omega) _ rfl)
 ·have h0:m=0:=by omega
  subst h0;rw[Bp];exact ⟨⟨hd,by omega,by omega,hl⟩,ev⟩
theorem nf {n:Int}{k:Nat}(NS:1<=k)(hk6:k<=6)(h:JJ n=true)(lt1:n.natAbs/10000<10^k)(w:World):k6 n w fun r w1=>(∃W P,Bz n (bl r) W P/\W.length<=k)/\Ext (fun _=>False) w w1:=by
 refine AFo _ _ _ ?_;unfold AAQ;refine (Q6 n w).mono ?_;rintro r w1 ⟨rfl,rfl⟩;rw[h];have hw:=B4.1 h;have mx:IntKind.i64.max=9223372036854775807:=by decide
 have z0:(⟨#[]⟩:cN).size=0:=rfl;have z5:(⟨#[45]⟩:cN).size=1:=rfl;have z6:(⟨#[46]⟩:cN).size=1:=rfl;have z8:(⟨#[48]⟩:cN).size=1:=rfl;refine Br.f rfl ?_;have d1:∀a:Nat,Int.tdiv (a:Int) 10000=((a/10000:Nat):Int):=fun a=>by rw[Int.tdiv_eq_ediv_of_nonneg (by omega)];omega
 have d2:∀a:Nat,Int.tmod (a:Int) 10000=((a%10000:Nat):Int):=fun a=>by rw[Int.tmod_eq_emod_of_nonneg (by omega)];omega
 have lt2:n.natAbs%10000<10^4:=by show _<10000;omega
 have emp:∀(r:ByteArray),(r.toList==(⟨#[]⟩:cN).toList)=decide (bl r=[]):=fun r=>TM r _
 have fin:∀{W P T:ByteArray} {sg:ByteArray},(Aq (bl W)/\AS (bl W)=n.natAbs/10000/\1<=(bl W).length/\(bl W).length<=k)->(Aq (bl P)/\AS (bl P)=n.natAbs%10000/\4<=(bl P).length/\(bl P).length<=4)->bl T=EV (bl P)->bl sg=(if n<0 then [45]else [])->
   ∃W' P',Bz n (bl (((sg++W)++(⟨#[46]⟩:cN))++T)) W' P'/\W'.length<=k:=fun h1 h2 h3 h4=>⟨_,_,⟨h1.1,h1.2.2.1,by omega,h1.2.1,h2.1,by omega,h2.2.1,by rw[BM,BM,BM,h3,h4];simp;rfl⟩,h1.2.2.2⟩
 refine Br.dec (fun F1=>?_) fun ng=>?_
 ·have hn:IntKind.i64.wrap (0-n)=((n.natAbs:Nat):Int):=by rw[AH (by omega)];omega
  rw[hn,d1,d2,AH (n:=((n.natAbs/10000:Nat):Int)) (by omega)];refine (XJ (least:=1) (k:=k) (by decide) NS (by omega) lt1 w1).mono ?_;rintro W w2 ⟨hW,e2⟩;refine (XJ (least:=4) (k:=4) (by decide) (by decide) (by decide) lt2 w2).mono ?_;rintro P w3 ⟨hP,e3⟩;have pl:P.size=4:=by rw[<-AE];omega
  have wl:W.size<=6:=by rw[<-AE];omega
  refine (Ky P (by omega) w3).mono ?_;rintro T w4 ⟨hT,e4⟩;have E:=(e2.tr e3).tr e4;rw[emp];refine Br.dec (fun q=>?_) fun q=>?_
  ·refine ⟨by simp;omega,by simp;omega,by simp;omega,fin hW hP ?_ (by rw[aG F1]),E⟩;unfold EV;rw[<-hT,aG q]
  ·have hT':bl T=EV (bl P):=by unfold EV;rw[<-hT,aA q]
   have tl:T.size<=4:=by rw[<-AE,hT'];exact (Cv hP.1 (by omega)).2.2.2.2
   exact ⟨by simp;omega,by simp;omega,by simp;omega,fin hW hP hT' (by rw[aG F1]),E⟩
 ·have hn:n=((n.natAbs:Nat):Int):=by omega
  have z1:Int.tdiv n 10000=((n.natAbs/10000:Nat):Int):=(aq (fun x=>Int.tdiv x 10000) hn).trans (d1 _);have z2:Int.tmod n 10000=((n.natAbs%10000:Nat):Int):=(aq (fun x=>Int.tmod x 10000) hn).trans (d2 _);rw[z1,z2,AH (n:=((n.natAbs/10000:Nat):Int)) (by omega)];refine (XJ (least:=1) (k:=k) (by decide) NS (by omega) lt1 w1).mono ?_;rintro W w2 ⟨hW,e2⟩;refine (XJ (least:=4) (k:=4) (by decide) (by decide) (by decide) lt2 w2).mono ?_;rintro P w3 ⟨hP,e3⟩;have pl:P.size=4:=by rw[<-AE];omega
  have wl:W.size<=6:=by rw[<-AE];omega
  refine (Ky P (by omega) w3).mono ?_;rintro T w4 ⟨hT,e4⟩;have E:=(e2.tr e3).tr e4;rw[emp];refine Br.dec (fun q=>?_) fun q=>?_
  ·refine ⟨by simp;omega,by simp;omega,by simp;omega,fin hW hP ?_ (by rw[aA ng]),E⟩;unfold EV;rw[<-hT,aG q]
  ·have hT':bl T=EV (bl P):=by unfold EV;rw[<-hT,aA q]
   have tl:T.size<=4:=by rw[<-AE,hT'];exact (Cv hP.1 (by omega)).2.2.2.2
   exact ⟨by simp;omega,by simp;omega,by simp;omega,fin hW hP hT' (by rw[aA ng]),E⟩
theorem xM {n:Int}(h:JJ n=true)(w:World):k6 n w fun r w1=>(∃W P,Bz n (bl r) W P)/\Ext (fun _=>False) w w1:=by
 have hw:=B4.1 h;refine (nf (k:=6) (by decide) (by decide) h (by show _<1000000;omega) w).mono ?_;rintro r w1 ⟨⟨W,P,h1,_⟩,e1⟩;exact ⟨⟨W,P,h1⟩,e1⟩
theorem xN (n:Int)(w:World):rK n w fun r e w1=>((e=0/\JJ n=true/\∃W P,Bz n (bl r) W P)\/(e=2/\JJ n=false))/\Ext (fun _=>False) w w1:=by
 refine AFu _ _ _ ?_;unfold AAX;refine Br.dec (fun h=>⟨.inr ⟨rfl,Tp.2 (by omega)⟩,Ext.refl _ _⟩) fun h=>Br.dec (fun h2=>⟨.inr ⟨rfl,Tp.2 (by omega)⟩,Ext.refl _ _⟩) fun h2=>?_
 have hw:JJ n=true:=B4.2 (by omega);refine (xM hw w).mono ?_;rintro r w1 ⟨hr,e1⟩;exact ⟨.inl ⟨rfl,hw,hr⟩,e1⟩
end
end Tk
end Go.Proofs.YtdnhhkhbdfiagaaGreatDoor
namespace Go.Proofs.YtdnhhkhbdfiagaaGreatDoor
namespace Tk
open Sh Fix Go.Lib
theorem byte_at {t:By}{i:Nat}(h:i<t.length):t[i]?=some (t.getD i 0):=by
 rw[cx,ah h]
 rfl
theorem xO {s:ByteArray}{i:Nat}{c:UInt8}(h:(bl s)[i]?=some c)(hb:c.toNat<128):Utf8.decode s i=(c.toNat,1):=by
 obtain ⟨hi,e⟩:=al.1 h;have hs:i<s.size:=by rw[<-AE];exact hi
 have e:s[i]'hs=c:=by
  rw[<-e]
  rfl
 have:=decode_ascii s i hs (by rw[e];exact hb);rw[this,e]
theorem Jc {v:World}{s:ByteArray}{b i:Nat}{T:Int->Int->World->Prop}{N:Prop}(hit:v.heap[b]?=some (.stringIter s i))(Bl:∀c∈bl s,c.toNat<128)(hi:i<=s.size)
  (h1:∀c,(bl s)[i]?=some c->T (i:Int) (c.toNat:Int) (o7 v b s (i+1))) (h2:i=s.size->N):Nx v ⟨b,0,none⟩ T N:=by
 refine ⟨s,i,rfl,hit,Br.dec (fun q=>?_) fun q=>h2 (by omega)⟩;have hl:i<(bl s).length:=by rw[AE];exact q
 have hc:=byte_at hl;have:=h1 _ hc;rw[xO hc (Bl _ (ax hc))];exact this
theorem Ea {x:Int}{c:UInt8}(h0:0<=x)(h1:x<=100000000000000)(hc:BF c):IntKind.i64.wrap ((IntKind.i64.wrap (10*x))+(IntKind.i64.wrap (IntKind.i32.wrap ((c.toNat:Int)-48))))=10*x+((c.toNat-48:Nat):Int):=by
 have h2:=hc.1;have h3:=hc.2;rw[IntWalk.i32_in _ (by omega),AH (n:=10*x) (by omega),AH (n:=(c.toNat:Int)-48) (by omega),AH (by omega)];omega
theorem Eb {l:By}{i:Nat}{c:UInt8}(h:l[i]?=some c):AS (l.take (i+1))=10*AS (l.take i)+(c.toNat-48):=by
 rw[bC,h,Is];show AS (l.take i)*10^1+((c.toNat-48)*10^0+0)=_;omega
theorem BU {l:By}(i:Nat):AS (l.take i)<=AS l:=by
 conv=>rhs;rw[<-aT i l,Is]
 have:AS (l.take i)*1<=AS (l.take i)*10^(l.drop i).length:=Nat.mul_le_mul_left _ (Nat.pow_pos (by decide));omega
structure RS (w0 v:World) (bn be:Nat) (x e:Int):Prop where
 n:AN v bn #[.int .i64 x] 2
 e:AN v be #[.int .i64 e] 29
 ne:bn≠be
 gn:w0.heap.size<=bn
 ge:w0.heap.size<=be
 ext:Ext (fun _=>False) w0 v
section
variable {w0 v v' w w' w1:World} {s t:ByteArray} {bn be bi:Nat} {x e y:Int}
theorem RS.AB(h:RS w0 v bn be x e)(he:Ext (fun _=>False) v v'):RS w0 v' bn be x e:=⟨he.AR h.n id,he.AR h.e id,h.ne,h.gn,h.ge,h.ext.tr he⟩
theorem Ext.Bw{F:Nat->Prop}{a b c:World}(h:Ext (fun _=>False) a b)(k:Ext F b c)(hF:∀j,F j->a.heap.size<=j):Ext (fun _=>False) a c:=
 h.trans k (fun _ h=>h) fun i hi hh=>absurd hi (by have:=hF i hh;omega)
theorem RS.other(h:RS w0 v bn be x e){b:Nat}(he:Ext (·=b) v v')(h1:bn≠b)(h2:be≠b)(h3:w0.heap.size<=b):RS w0 v' bn be x e:=⟨he.AR h.n h1,he.AR h.e h2,h.ne,h.gn,h.ge,Ext.Bw h.ext he fun j hj=>by have hj:j=b:=hj;omega⟩
attribute [local irreducible] Ld Sh.St Nw Nn Lt AU
theorem RS.Yj(h:RS w0 v bn be x e){K:World->Prop}(y:Int)(k:∀v',RS w0 v' bn be y e->Ext (·=bn) v v'->K v'):Sh.St v ⟨bn,0,none⟩ (.int .i64 y) K:=by
 unfold Sh.St;have hE:Ext (·=bn) v (v.setCell ⟨bn,0,none⟩ (.int .i64 y)):=(Ext.refl (·=bn) v).set (.inl rfl) _;refine ⟨h.n.can (by simp),k _ ⟨?_,hE.AR h.e (fun e=>h.ne e.symm),h.ne,h.gn,h.ge,Ext.Bw h.ext hE fun j hj=>by have hj:j=bn:=hj;have:=h.gn;omega⟩ hE⟩;exact h.n.set 0 _
theorem RS.yk(h:RS w0 v bn be x e){K:World->Prop}(y:Int)(k:∀v',RS w0 v' bn be x y->Ext (·=be) v v'->K v'):Sh.St v ⟨be,0,none⟩ (.int .i64 y) K:=by
 unfold Sh.St;have hE:Ext (·=be) v (v.setCell ⟨be,0,none⟩ (.int .i64 y)):=(Ext.refl (·=be) v).set (.inl rfl) _;refine ⟨h.e.can (by simp),k _ ⟨hE.AR h.n h.ne,?_,h.ne,h.gn,h.ge,Ext.Bw h.ext hE fun j hj=>by have hj:j=be:=hj;have:=h.ge;omega⟩ hE⟩;exact h.e.set 0 _
theorem Kx {F:Nat->Prop}{p:ByteArray×Nat}(h:v.heap[bi]?=some (.stringIter p.1 p.2))(he:Ext F v v')(hF:¬F bi):v'.heap[bi]?=some (.stringIter p.1 p.2):=by
 rw[he.block bi (aj.1 h).1 hF];exact h
theorem Po (hs:s.size<=1099511627776)(w:World):lC s w fun r w1=>r=decide (trimS (bl s) Gn=[])/\Ext (fun _=>False) w w1:=by
 refine AFr _ _ _ ?_;unfold AAT;refine (IP s hs w).mono ?_;rintro r w1 ⟨hr,e1⟩;refine ⟨?_,e1⟩;rw[TM];show decide (bl r=[])=_;rw[hr]
theorem xP {W F:By}(h:∀c∈W,c≠46):indexByte (W++46::F) 46=(W.length:Int):=by
 induction W with
 |nil=>simp[indexByte]
 |cons c W ih=>
  have h1:=h c (aw ..);have h2:=ih fun x hx=>h x (av _ hx)
  rw[ag];unfold indexByte;rw[aA (by simpa using h1),h2,aA (by simp),au];omega
theorem pG {W F:By}(h:bl s=W++46::F)(hW:∀c∈W,c≠46)(hs:s.size<=1099511627776)(w:World):rI s (⟨#[46]⟩:cN) w fun r1 r2 r3 w1=>bl r1=W/\bl r2=F/\r3=true/\Ext (fun _=>False) w w1:=by
 refine AFq _ _ _ _ ?_;unfold AAS;refine AFp _ _ _ _ ?_;unfold AAR;refine (ADt s 46 w).mono ?_;rintro r w1 ⟨hr,rfl⟩;rw[h,xP hW]at hr;subst hr;have hl:s.size=W.length+1+F.length:=by rw[<-AE,h,ae,au];omega
 have z:(⟨#[46]⟩:cN).size=1:=rfl;rw[z,AH (by omega)];have t1:((W.length:Int)).toNat=W.length:=by omega
 have t2:((W.length:Int)+((1:Nat):Int)).toNat=W.length+1:=by omega
 rw[t1,t2,aL (show ((W.length:Nat):Int)>=0 by omega)];refine Br.t rfl ⟨by omega,by omega,by omega,by omega,?_,?_,by trivial,(Ext.refl _ _).drew⟩
 ·rw[A9,h];simp
 ·rw[A9,h];have:List.drop (W.length+1) (W++46::F)=F:=by
   rw[List.drop_append];simp
  rw[this];exact aU (by omega)
theorem xQ {n:Int}(h:RS w v bn be n 0):Dl (some (⟨bn,0,none⟩:Addr)) (some (⟨be,0,none⟩:Addr)) none v fun v6=>Ld v6 (⟨bn,0,none⟩:Addr) (Value.int .i64) fun (x7:Int)=>Ld v6 (⟨be,0,none⟩:Addr) (Value.int .i64) fun (x8:Int)=>
  x7=n/\x8=0/\Ext (fun _=>False) w v6:=by
 refine RJ _ _ _ _ ?_;unfold IG;exact Ld.of h.n rfl (Ld.of h.e rfl ⟨rfl,rfl,h.ext⟩)
theorem ADv {n:Int}(hn:JJ n=true){Dc:World}(h:RS w v w.heap.size Dc.heap.size (n.natAbs:Int) 0):HI w Dc (decide (n<0)) (fun r e w1=>r=n/\e=0/\Ext (fun _=>False) w w1) () v:=by
 unfold HI;have hw:=B4.1 hn;have tail:∀(v1:World),RS w v1 w.heap.size Dc.heap.size n 0->Ld v1 (⟨w.heap.size,0,none⟩:Addr) (Value.int .i64) fun (UG:Int)=>
   Nw v1 (.cells #[.int .i64 UG] 2) fun fg=>
   Xq (⟨some ⟨v1.heap.size,0,none⟩,1,1⟩:AA) fg (fun IQ=>
    Ld IQ (⟨w.heap.size,0,none⟩:Addr) (Value.int .i64) fun (DR:Int)=>
    Sh.St IQ (⟨w.heap.size,0,none⟩:Addr) (.int .i64 DR) fun fh=>
    Sh.St fh (⟨Dc.heap.size,0,none⟩:Addr) (.int .i64 0) fun fj=>
    Dl (some (⟨w.heap.size,0,none⟩:Addr)) (some (⟨Dc.heap.size,0,none⟩:Addr)) none fj fun MJ=>
     Ld MJ (⟨w.heap.size,0,none⟩:Addr) (Value.int .i64) fun (KY:Int)=>
     Ld MJ (⟨Dc.heap.size,0,none⟩:Addr) (Value.int .i64) fun (KZ:Int)=>
     KY=n/\KZ=0/\Ext (fun _=>False) w MJ) (Nr w Dc fun r e w1=>r=n/\e=0/\Ext (fun _=>False) w w1):=by
  intro v1 h1;refine Ld.of h1.n rfl ((Hn.start v1).nw (cs:=[.int .i64 n]) fun v2 H=>?_);have h2:=h1.AB H.ext;refine (Nk (l:=[n]) (Q5.of (H.get 0 rfl) rfl fun i hi=>?_) (by simp)).mono (fun w3 h3=>?_) fun v w3 h3=>?_
  ·have:i=0:=by simp at hi;omega
   subst this;rfl
  ·obtain ⟨rfl,_⟩:=h3;refine Ld.of h2.n rfl (h2.Yj n fun v4 h4 _=>h4.yk 0 fun v5 h5 _=>xQ h5)
  ·obtain ⟨_,_,ha⟩:=h3;exact absurd (fun i hi=>by
    have:i=0:=by simp at hi;omega
    subst this;exact hn) ha
 refine Br.dec (fun q=>?_) fun q=>?_
 ·refine Ld.of h.n rfl ?_;rw[AH (n:=0-(n.natAbs:Int)) (by omega),show 0-(n.natAbs:Int)=n by omega];exact h.Yj n fun v1 h1 _=>tail v1 h1
 ·have:((n.natAbs:Nat):Int)=n:=by omega
  rw[this]at h;exact tail v h
end
end Tk
namespace Tk
open Sh Fix Go.Lib
theorem ML {l:By}(h:Aq l):∀c∈l,c.toNat<128:=fun c hc=>by
 have:=(h c hc).2;omega
theorem xR {l:By}(h:Aq l):∀c∈l,c≠46:=fun c hc e=>by
 have:=(h c hc).1;rw[e]at this;exact absurd this (by decide)
section
variable {w v w1 Dc D5 D6:World} {s t DK:ByteArray} {n:Int} {W P:By}
attribute [local irreducible] Ld Sh.St Nw Nn Lt AU
theorem ADw (hn:JJ n=true)(hW:AS W=n.natAbs/10000)(hp:Aq P)(jr:P.length=4)(hpv:AS P=n.natAbs%10000)(hr:bl DK=EV P)(h:RS w D6 w.heap.size Dc.heap.size (AS W:Int) 0)(DN:w.heap.size<D6.heap.size/\Dc.heap.size<D6.heap.size):
  Nw D6 (.stringIter ((DK++(⟨#[48,48,48,48,48]⟩:cN)).extract 0 (((4:Int)).toNat)) 0) fun vn=>
   Lp (σ:=Unit) (Li w Dc (decide (n<0)) DK D6 fun r e w1=>r=n/\e=0/\Ext (fun _=>False) w w1) () vn:=by
 obtain ⟨f1,f2,f3,f4,f5⟩:=Cv hp jr;have hb:bl (DK++(⟨#[48,48,48,48,48]⟩:cN))=EV P++EM:=by rw[BM,hr];rfl
 have hx:bl ((DK++(⟨#[48,48,48,48,48]⟩:cN)).extract 0 (((4:Int)).toNat))=P:=by
  rw[A9,hb];exact f1
 have E8:(DK++(⟨#[48,48,48,48,48]⟩:cN)).size=(EV P).length+5:=by rw[<-AE,hb,ae];rfl
 have mx:IntKind.i64.max=9223372036854775807:=by decide
 generalize hS:(DK++(⟨#[48,48,48,48,48]⟩:cN)).extract 0 (((4:Int)).toNat)=S at hx;have hS4:S.size=4:=by rw[<-AE,hx,jr]
 refine Nw.of ?_;have e0:=(Ext.refl (fun _=>False) D6).alloc (.stringIter S 0);refine ⟨fun c st v=>∃i:Nat,v.heap[D6.heap.size]?=some (.stringIter S i)/\i<=4/\c=4-i/\RS w v w.heap.size Dc.heap.size ((AS W*10^i+AS (P.take i):Nat):Int) 0,4,⟨0,by unfold World.alloc;simp,by omega,rfl,by simpa[AS]using h.AB e0⟩,?_⟩;rintro c st v ⟨i,hit,hi,rfl,hR⟩;unfold Li;have WX:D6.heap.size<v.heap.size:=(aj.1 hit).1;refine Jc hit (by rw[hx];exact ML hp) (by omega) (fun c hc=>?_) fun Pm=>?_
 ·rw[hx]at hc;have hi4:i<4:=by
   have:=(al.1 hc).1;omega
  have NA:=hp c (ax hc);have e1:=GU v D6.heap.size S (i+1);have VC:=JZ (s:=S) (p:=i+1) WX;have R1:=hR.other e1 (by omega) (by omega) (by have:=h.ext.size;omega);have hbd:AS W*10^i+AS (P.take i)<=1000000000:=by
   have a1:AS W*10^i<=AS W*10^3:=Nat.mul_le_mul_left _ (Nat.pow_le_pow_right (by decide) (by omega));have a2:=@BU P i;have:=B4.1 hn;omega
  refine Ld.of R1.n rfl ?_;rw[Ea (by omega) (by omega) NA];refine Lt.of (R1.Yj _ fun v2 R2 e2=>?_);refine ⟨4-(i+1),by omega,i+1,?_,by omega,rfl,?_⟩
  ·exact Kx (p:=(S,i+1)) VC e2 (by show ¬D6.heap.size=w.heap.size;omega)
  ·have ev:(10*((AS W*10^i+AS (P.take i):Nat):Int)+((c.toNat-48:Nat):Int))=((AS W*10^(i+1)+AS (P.take (i+1)):Nat):Int):=by
    rw[Eb hc,Nat.pow_succ];have:AS W*(10^i*10)=10*(AS W*10^i):=by rw[Nat.mul_comm (10^i),<-Nat.mul_assoc,Nat.mul_comm (AS W),Nat.mul_assoc]
    omega
   rw[ev]at R2;exact R2
 ·have hi4:i=4:=by omega
  subst hi4;rw[aU (by omega)]at hR;have hv:AS W*10^4+AS P=n.natAbs:=by rw[hW,hpv];omega
  rw[hv]at hR;rw[E8];refine ⟨by decide,by omega,Lt.of ?_⟩;refine (Ky _ (by
   rw[<-AE,A9,hb,aC,aE,ae];show min _ (_+5-_)<=_;omega) v).mono ?_
  rintro r v1 ⟨VD,e1⟩;have R1:=hR.AB e1;have N5:bl r=[]:=by
   rw[VD,A9,hb];have:List.take ((EV P).length+5-Int.toNat 4) (List.drop (Int.toNat 4) (EV P++EM))=(EV P++EM).drop 4:=aU (by
    rw[aE,ae];show _+5-4<=_+5-4;omega)
   rw[this];exact f2
  have hre:r=⟨#[]⟩:=Jd N5;subst hre;have b1:Op.bytesLess ((⟨#[]⟩:cN).toList) ((⟨#[53]⟩:cN).toList)=true:=by rw[ByteArray.toList_eq,ByteArray.toList_eq];decide
  rw[b1];have J:=ADv hn R1;refine As.intro (Bj (fun _=>Lt.of (Br.f rfl ?_)) fun _=>?_)
  ·exact Bj (fun _=>Br.f rfl J) fun _=>J
  ·exact Bj (fun _=>Br.f rfl J) fun _=>J
theorem ADx (hn:JJ n=true)(hw:Aq W)(hw6:W.length<=6)(hW:AS W=n.natAbs/10000)(hp:Aq P)(jr:P.length=4)(hpv:AS P=n.natAbs%10000){EW:ByteArray}(Kz:bl EW=W)(hr:bl DK=EV P)(h:RS w D5 w.heap.size Dc.heap.size 0 0)
  (DN:w.heap.size<D5.heap.size/\Dc.heap.size<D5.heap.size):
  Nw D5 (.stringIter EW 0) fun vq=>Lp (σ:=Unit) (Lk w Dc (decide (n<0)) DK D5 fun r e w1=>r=n/\e=0/\Ext (fun _=>False) w w1) () vq:=by
 obtain ⟨f1,f2,f3,f4,f5⟩:=Cv hp jr;have hs:EW.size=W.length:=by rw[<-AE,Kz]
 have jt:DK.size=(EV P).length:=by rw[<-AE,hr]
 have mx:IntKind.i64.max=9223372036854775807:=by decide
 have hw2:=B4.1 hn;refine Nw.of ?_;have e0:=(Ext.refl (fun _=>False) D5).alloc (.stringIter EW 0);refine ⟨fun c st v=>∃i:Nat,v.heap[D5.heap.size]?=some (.stringIter EW i)/\i<=W.length/\c=W.length-i/\RS w v w.heap.size Dc.heap.size ((AS (W.take i):Nat):Int) 0,W.length,⟨0,by unfold World.alloc;simp,by omega,rfl,h.AB e0⟩,?_⟩;rintro c st v ⟨i,hit,hi,rfl,hR⟩;unfold Lk;have WX:D5.heap.size<v.heap.size:=(aj.1 hit).1;refine Jc hit (by rw[Kz];exact ML hw) (by omega) (fun c hc=>?_) fun Pm=>?_
 ·rw[Kz]at hc;have hiW:=(al.1 hc).1;have NA:=hw c (ax hc);have e1:=GU v D5.heap.size EW (i+1);have VC:=JZ (s:=EW) (p:=i+1) WX;have R1:=hR.other e1 (by omega) (by omega) (by have:=h.ext.size;omega);have a2:=@BU W i;have a3:=@BU W (i+1);refine Ld.of R1.n rfl ?_;rw[Ea (by omega) (by omega) NA];have ev:(10*((AS (W.take i):Nat):Int)+((c.toNat-48:Nat):Int))=((AS (W.take (i+1)):Nat):Int):=by
   rw[Eb hc];omega
  rw[ev];refine Lt.of (R1.Yj _ fun v2 R2 e2=>Ld.of R2.n rfl (Br.dec (fun q=>by omega) fun _=>?_));exact ⟨W.length-(i+1),by omega,i+1,Kx (p:=(EW,i+1)) VC e2 (by show ¬D5.heap.size=w.heap.size;omega),by omega,rfl,R2⟩
 ·have hiW:i=W.length:=by omega
  subst hiW;rw[bf]at hR;have E8:(DK++(⟨#[48,48,48,48,48]⟩:cN)).size=(EV P).length+5:=by rw[<-AE,BM,ae,hr];rfl
  rw[E8,jt];have z5:(⟨#[48,48,48,48,48]⟩:cN).size=5:=rfl;rw[z5];exact ⟨by omega,by decide,by omega,ADw hn hW hp jr hpv hr hR ⟨by omega,by omega⟩⟩
theorem pq (h:Bz n (bl t) W P)(hn:JJ n=true)(hs:bl s=W++46::EV P)(hR:RS w v w.heap.size Dc.heap.size 0 0)(DN:w.heap.size<v.heap.size/\Dc.heap.size<v.heap.size):
  Ll w Dc (decide (n<0)) (fun r e w1=>r=n/\e=0/\Ext (fun _=>False) w w1) s v:=by
 unfold Ll;obtain ⟨f1,f2,f3,f4,f5⟩:=Cv h.p h.p4;have mx:IntKind.i64.max=9223372036854775807:=by decide
 have w6:=h.w6;have w1:=h.w1;have JI:s.size=W.length+1+(EV P).length:=by rw[<-AE,hs,ae,au];omega
 refine (pG hs (xR h.w) (by omega) v).mono ?_;rintro EW DK ky v1 ⟨h1,h2,rfl,e1⟩;have l1:EW.size=W.length:=by rw[<-AE,h1]
 have l2:DK.size=(EV P).length:=by rw[<-AE,h2]
 have R1:=hR.AB e1;refine ⟨by rw[l1,l2];omega,?_⟩;rw[TM];refine Br.dec (fun q=>?_) fun _=>?_
 ·have q:bl (EW++DK)=[]:=q;rw[BM,h1]at q;have:=aq List.length q;rw[ae,aV]at this;omega
 refine (Po (by rw[l1];omega) v1).mono ?_;rintro r v2 ⟨rfl,e2⟩;rw[h1,aL (Dr h.w)];refine Br.f rfl ((Po (by rw[l2];omega) v2).mono ?_);rintro r v3 ⟨rfl,e3⟩;rw[h2,aL (Dr f3)];have E:=(e1.tr e2).tr e3;have:=E.size;exact Br.f rfl (ADx hn h.w h.w6 h.wv h.p h.p4 h.pv h1 h2 ((R1.AB e2).AB e3) ⟨by omega,by omega⟩)
theorem xS (h:Bz n (bl t) W P)(hn:JJ n=true)(w:World):lD t w fun r e w1=>r=n/\e=0/\Ext (fun _=>False) w w1:=by
 refine AAW _ _ _ ?_;unfold lF;obtain ⟨f1,f2,f3,f4,f5⟩:=Cv h.p h.p4;have w6:=h.w6;have w1:=h.w1;have ht:=h.t;have hlen:t.size=(if n<0 then 1 else 0)+(W.length+1+(EV P).length):=by
  rw[<-AE,ht,ae,ae,au];split<;>simp<;>omega
 have AQd:t.size<=12:=by
  rw[hlen];split<;>omega
 refine (Hn.start w).nw (cs:=[.int .i64 0]) fun w2 H=>?_
 have l12:w.heap.size<w2.heap.size:=H.lt 0 rfl;refine H.nw (cs:=[.int .i64 0]) fun w3 H=>?_
 have yn:w.heap.size<w3.heap.size:=H.lt 0 rfl;have pH:w2.heap.size<w3.heap.size:=H.lt 1 rfl;have R:RS w w3 w.heap.size w2.heap.size 0 0:=⟨H.get 0 rfl,H.get 1 rfl,by omega,by omega,by omega,H.ext⟩
 refine Br.dec (fun q=>by omega) fun _=>?_
 refine (Rx t _ w3).mono ?_;rintro r v1 ⟨rfl,rfl⟩;have hd:∀c∈W.head?,BF c:=fun c hc=>h.w c (List.mem_of_mem_head? hc)
 obtain ⟨c0,W',wT⟩:∃c0 W',W=c0::W':=by
  cases W with
  |nil=>simp at w1
  |cons c0 W'=>exact ⟨c0,W',rfl⟩
 have Zj:=h.w c0 (by rw[wT];exact aw ..);have p1:hasPrefix (bl t) (bl (⟨#[45]⟩:cN))=decide (n<0):=by
  rw[ht];show List.isPrefixOf [45] _=_;by_cases F1:n<0
  ·rw[aG F1,aL F1]
   rfl
  ·rw[aA F1,aR F1,wT];have:((45:UInt8)==c0)=false:=by
    rw[bw];intro e;rw[<-e]at Zj;exact absurd Zj.1 (by decide)
   simp[List.isPrefixOf,this]
 rw[p1];refine As.intro (Br.dec (fun F1=>?_) fun ng=>?_)
 ·rw[aG F1]at hlen ht;refine ⟨by decide,by omega,pq h hn ?_ R ⟨yn,pH⟩⟩;rw[A9,ht];exact aU (by simp;omega)
 ·rw[aA ng]at hlen ht;refine (Rx t _ _).mono ?_;rintro r v1 ⟨rfl,rfl⟩;have p2:hasPrefix (bl t) (bl (⟨#[43]⟩:cN))=false:=by
   rw[ht,wT];show List.isPrefixOf [43] _=_;have:((43:UInt8)==c0)=false:=by
    rw[bw];intro e;rw[<-e]at Zj;exact absurd Zj.1 (by decide)
   simp[List.isPrefixOf,this]
  rw[p2];exact Br.f rfl (pq h hn ht R ⟨yn,pH⟩)
end
end Tk
end Go.Proofs.YtdnhhkhbdfiagaaGreatDoor
namespace Go.Proofs
open Go.Shelf Go.RowKit
end Go.Proofs
namespace Go.Proofs.YtdnhhkhbdfiagaaGreatDoor
namespace Tk
open Sh Fix Go.Lib
abbrev TT:Type:=Int×Int×Int×Int×ByteArray
theorem AX {s:ByteArray}{i:Nat}{c:UInt8}(h:(bl s)[i]?=some c):BX s (i:Int)=(c.toNat:Int):=by
 obtain ⟨hi,e⟩:=al.1 h;unfold BX;rw[ay];have hs:i<s.data.size:=by simpa[bl]using hi
 rw[br,bF hs];simp only[Option.getD_some];have:s.data[i]=c:=by rw[<-e];rfl
 rw[this]
theorem EN {l:By}{i:Nat}{c:UInt8}(h:l[i]?=some c):l.drop i=c::l.drop (i+1):=by
 obtain ⟨hi,e⟩:=al.1 h;rw[cm hi,e]
section
variable {w w' w1:World} {s t:ByteArray}
attribute [local irreducible] Ld Sh.St Nw Nn Lt AU
theorem KC (s:ByteArray)(c:UInt8)(w:World):tG s (c.toNat:Int) w fun r w1=>r=indexByte (bl s) c/\w1=w:=
 (Tryz.strings_IndexByte s (c.toNat:Int) w).mono fun e w' h=>⟨_,h.1,by rw[ay];congr 1;exact bX.1 (by simp[Nat.toUInt8]),h.2⟩
theorem K6 (c:UInt8)(w:World):yL (c.toNat:Int) w fun r w1=>r=D9 c/\w1=w:=by
 refine T55 _ _ _ ?_;unfold S55;refine (KC _ c w).mono ?_;rintro r w1 ⟨rfl,rfl⟩;exact ⟨BT _ _,rfl⟩
theorem XK (c:UInt8)(w:World):C70 (c.toNat:Int) w fun r w1=>r=jv c/\w1=w:=by
 refine T70 _ _ _ ?_;unfold S70;refine (KC _ c w).mono ?_;rintro r w1 ⟨rfl,rfl⟩;exact ⟨BT _ _,rfl⟩
theorem XL (c:UInt8)(w:World):yT (c.toNat:Int) w fun r w1=>r=AW c/\w1=w:=by
 refine T41 _ _ _ ?_;unfold S41;refine (K6 c w).mono ?_;rintro r w1 ⟨rfl,rfl⟩;unfold AW;cases D9 c with
 |true=>exact Br.f rfl ⟨rfl,rfl⟩
 |false=>
  refine Br.t rfl ((XK c w1).mono ?_);rintro r w2 ⟨rfl,rfl⟩;exact ⟨by simp,rfl⟩
theorem xT (c:UInt8)(w:World):uU (c.toNat:Int) w fun r w1=>r=(c==13||c==10)/\w1=w:=by
 refine AH8 _ _ _ ?_;unfold AAw;have e:∀d:UInt8,((c.toNat:Int)==(d.toNat:Int))=(c==d):=fun d=>by
  rw[cl,bU,bU];exact ⟨fun h=>bX.1 (by omega),fun h=>by rw[h]⟩
 have e1:=e 13;have e2:=e 10;rw[show ((13:UInt8).toNat:Int)=13 from rfl]at e1;rw[show ((10:UInt8).toNat:Int)=10 from rfl]at e2;rw[e1,e2];cases c==13 with
 |true=>exact ⟨rfl,rfl⟩
 |false=>exact ⟨by simp,rfl⟩
theorem ie (s:ByteArray){a:Nat}(ha:a<=s.size)(hs:s.size<=1099511627776)(w:World):uS s (a:Int) w fun r w1=>r=((a+AP ((bl s).drop a) false:Nat):Int)/\w1=w:=by
 refine AH9 _ _ _ _ ?_;unfold AAx;refine Br.dec (fun h=>by omega) fun _=>Br.dec (fun h=>by omega) fun _=>?_
 refine ⟨fun c st v=>∃(i:Nat) (b:Bool),st=((i:Int),b)/\i<=s.size/\i+AP ((bl s).drop i) b=a+AP ((bl s).drop a) false/\c=s.size-i/\v=w,s.size-a,⟨a,false,rfl,ha,rfl,rfl,rfl⟩,?_⟩;rintro c st v ⟨i,b,rfl,hi,he,rfl,rfl⟩;unfold eR;dsimp only;refine Br.dec (fun q=>⟨by omega,by omega,?_⟩) fun q=>?_
 ·have hl:i<(bl s).length:=by rw[AE];omega
  have hc:=byte_at hl;generalize (bl s).getD i 0=c at hc;rw[AX hc];rw[EN hc]at he;rw[AH (n:=(i:Int)+1) (by omega)];have step:∀b',i+1+AP ((bl s).drop (i+1)) b'=a+AP ((bl s).drop a) false->∃m',m'<s.size-i/\∃(i2:Nat) (b2:Bool),(((i:Int)+1),b')=((i2:Int),b2)/\i2<=s.size/\i2+AP ((bl s).drop i2) b2=a+AP ((bl s).drop a) false/\m'=s.size-i2/\v=v:=fun b' h=>⟨s.size-(i+1),by omega,i+1,b',rfl,by omega,h,rfl,rfl⟩
  cases b with
  |true=>
   refine Br.t rfl ((xT c v).mono ?_);rintro r w1 ⟨rfl,rfl⟩;refine step _ ?_;have he:i+(1+AP ((bl s).drop (i+1)) (!(c==13||c==10)))=_:=he;omega
  |false=>
   refine Br.f rfl ?_;have he:i+(if c=37 then 1+AP ((bl s).drop (i+1)) true else if D9 c=true then 1+AP ((bl s).drop (i+1)) false else 0)=_:=he;refine Br.eq (fun h37=>?_) fun h37=>?_
   ·have:c=37:=bX.1 (by show c.toNat=37;omega);rw[aG this]at he;exact step _ (by omega)
   ·rw[aA (fun h=>by subst h;exact h37 rfl)]at he;refine (K6 c v).mono ?_;rintro r w1 ⟨rfl,rfl⟩;cases hw:D9 c with
    |true=>
     rw[hw,aG rfl]at he;exact Br.f rfl (step _ (by omega))
    |false=>
     rw[hw,aA (by decide)]at he;exact Br.t rfl ⟨by omega,rfl⟩
 ·have:i=s.size:=by omega
  subst this;rw[bY (by rw[AE];exact az _)]at he;have he:s.size+0=_:=he;exact ⟨by omega,rfl⟩
theorem F6 (s p:ByteArray){a:Nat}(ha:a<=s.size)(w:World):lZ s p (a:Int) w fun r w1=>r=hasPrefix ((bl s).drop a) (bl p)/\w1=w:=by
 refine AIA _ _ _ _ _ ?_;unfold AAy;refine Br.dec (fun _=>Br.dec (fun _=>⟨by omega,by omega,(Rx _ _ w).mono ?_⟩) fun h=>absurd (by omega) h) fun h=>absurd (by omega) h
 rintro r w1 ⟨rfl,rfl⟩;refine ⟨?_,rfl⟩;rw[A9,ay,aU (by rw[aE,AE];exact az _)]
theorem Ry (s:ByteArray)(x:Int){a:Nat}(ha:a<=s.size)(hs:s.size<=1099511627776)(w:World):lP (s,x) (a:Int) w fun r w1=>r=((a+Fh ((bl s).drop a):Nat):Int)/\Ext (fun _=>False) w w1:=by
 refine AG7 (s,x) _ _ _ ?_;unfold AAj;refine (Hn.start w).nw (cs:=[.string s,.int .i64 x]) fun w2 H=>?_
 refine ⟨fun c st v=>∃i:Nat,st=(i:Int)/\i<=s.size/\i+Fh ((bl s).drop i)=a+Fh ((bl s).drop a)/\c=s.size-i/\Hn w v [(w.heap.size,[.string s,.int .i64 x],225)],s.size-a,⟨a,rfl,ha,rfl,rfl,H⟩,?_⟩;rintro c st v ⟨i,rfl,hi,he,rfl,H⟩;unfold dt;refine H.ld 0 rfl rfl (Br.dec (fun q=>H.ld 0 rfl rfl ⟨by omega,by omega,?_⟩) fun q=>?_)
 ·have hl:i<(bl s).length:=by rw[AE];omega
  have hc:=byte_at hl;generalize (bl s).getD i 0=c at hc;rw[AX hc];rw[EN hc]at he;have he:i+(if AW c=true then 1+Fh ((bl s).drop (i+1))else 0)=_:=he;refine (XL c v).mono ?_;rintro r w1 ⟨rfl,rfl⟩;cases hr:AW c with
  |true=>
   rw[hr,aG rfl]at he;exact Br.t rfl ⟨s.size-(i+1),by omega,i+1,by rw[AH (by omega)];rfl,by omega,by omega,rfl,H⟩
  |false=>
   rw[hr,aA (by decide)]at he;exact Br.f rfl ⟨by omega,H.ext⟩
 ·have:i=s.size:=by omega
  subst this;rw[bY (by rw[AE];exact az _)]at he;have he:s.size+0=_:=he;exact ⟨by omega,H.ext⟩
theorem F3 (s:ByteArray)(w:World):sx s (⟨#[43,45]⟩:cN) w fun r w1=>bl r=trimLeftS (bl s) [43,45]/\Ext (fun _=>False) w w1:=
 (Tryz.ADr s _ w (by decide) (ascii_of_all (by decide))).mono fun e w' h=>⟨_,h.1,by rw[Bp],FG h.2⟩
theorem fa (s:ByteArray)(c:UInt8)(w:World):di s (⟨#[c]⟩:cN) w fun r w1=>r=(bl s).contains c/\w1=w:=
 (Tryz.strings_Contains_one s c w).mono fun e w' h=>⟨_,h.1,BT _ _,h.2⟩
theorem Vm {n:Int}{W P:By}(h:Bz n (bl t) W P)(hn:JJ n=true)(w:World):dj t w fun r w1=>r=2/\Ext (fun _=>False) w w1:=by
 refine tK _ _ _ ?_;unfold lV;obtain ⟨f1,f2,f3,f4,f5⟩:=Cv h.p h.p4;have w6:=h.w6;have w1:=h.w1;have ht:=h.t;have h46:(46:UInt8)∈W++46::EV P:=List.mem_append_right _ (aw ..);have Oz:trimLeftS (bl t) [43,45]=W++46::EV P:=by
  have hd:trimLeftS (W++46::EV P) [43,45]=W++46::EV P:=by
   cases W with
   |nil=>simp at w1
   |cons c0 W'=>
    have Zj:=h.w c0 (aw ..);unfold trimLeftS;rw[ag,bZ,aA];have:([43,45]:By).contains c0=false:=by
     rw[<-cb,aW];intro hm;simp only[ar,aF,bp]at hm;rcases hm with rfl|rfl
     ·exact absurd Zj.1 (by decide)
     ·exact absurd Zj.1 (by decide)
    rw[this];decide
  rw[ht];split
  ·show trimLeftS (45::(W++46::EV P)) [43,45]=_;unfold trimLeftS at hd⊢;rw[bZ,aG (by decide)];exact hd
  ·exact hd
 have hlen:t.size=(if n<0 then 1 else 0)+(W.length+1+(EV P).length):=by
  rw[<-AE,ht,ae,ae,au];split<;>simp<;>omega
 refine (F3 t w).mono ?_;rintro r w2 ⟨hr,e2⟩;rw[Oz]at hr;have pF:r.size=W.length+1+(EV P).length:=by rw[<-AE,hr,ae,au];omega
 rw[hlen,pF];refine Br.dec (fun _=>?_) fun q=>absurd (by rw[AH]<;>split<;>omega) q
 rw[TM];have BI:decide (r.data.toList=(⟨#[]⟩:cN).data.toList)=false:=aR fun q=>by
  have q:bl r=[]:=q;rw[hr]at q;have:=aq List.length q;rw[ae,au,aV]at this;omega
 rw[BI];refine Br.t rfl ((IP r (by omega) w2).mono ?_);rintro r6 w3 ⟨h6,e3⟩;rw[TM];have ANp:decide (r6.data.toList=(⟨#[]⟩:cN).data.toList)=false:=aR fun q=>by
  have q:bl r6=[]:=q;rw[h6,hr]at q;exact Rw h46 (by decide) q
 rw[ANp];refine Br.f rfl ((fa t 46 w3).mono ?_);rintro r8 w4 ⟨rfl,rfl⟩;have:(bl t).contains 46=true:=by
  rw[aW,ht];exact List.mem_append_right _ h46
 rw[this];exact ⟨rfl,e2.tr e3⟩
theorem Su {n:Int}{W P T rest:By}{b:Nat}(h:Bz n T W P)(hn:JJ n=true)(hd:(bl s).drop b=T++rest)(hr:∀c,rest.head?=some c->AW c=false)(hb:b<=s.size)(hs:s.size<=1099511627776)(w:World):
  RV (s,(b:Int)) w fun r e w1=>r=(2,(b:Int),((b+T.length:Nat):Int),n,⟨#[]⟩)/\e=0/\Ext (fun _=>False) w w1:=by
 refine tS (s,(b:Int)) _ _ ?_;unfold lW;refine (Hn.start w).nw (cs:=[.string s,.int .i64 (b:Int)]) fun w2 H=>?_
 refine H.nw (cs:=[.int .i64 0,.int .i64 0,.int .i64 0,.int .i64 0,.string ⟨#[]⟩]) fun w3 H=>?_
 simp only[ag,ad,add_lit,ak]at H⊢
 iterate 3 refine H.ld 0 rfl rfl ?_
 refine (Ry s _ hb hs w3).mono ?_;rintro r w4 ⟨Qg,e4⟩;rw[hd,F4 h.A7 hr]at Qg;subst Qg;have H:=H.AB e4;have hTl:b+T.length<=s.size:=by
  have:=aq List.length hd;rw[aE,ae,AE]at this;omega
 iterate 2 refine H.ld 0 rfl rfl ?_
 have hx:bl (s.extract ((b:Int)).toNat (((b+T.length:Nat):Int)).toNat)=T:=by
  rw[A9,ay,ay,hd,show b+T.length-b=T.length by omega];simp
 refine ⟨by omega,by omega,by omega,by omega,?_⟩;rw[<-hx]at h;refine (Vm h hn w4).mono ?_;rintro r w5 ⟨rfl,e5⟩;have H:=H.AB e5;refine Br.f rfl (Br.t rfl ((xS h hn w5).mono ?_));rintro r e w6 ⟨rfl,rfl,e6⟩;have H:=H.AB e6;refine Br.t rfl (H.ld 0 rfl rfl ?_)
 iterate 5 (refine H.st 1 rfl (by simp) fun _ H=>?_;simp only[aa,ab]at H)
 iterate 5 refine H.ld 1 rfl rfl ?_
 exact ⟨rfl,by trivial,H.ext⟩
end
end Tk
end Go.Proofs.YtdnhhkhbdfiagaaGreatDoor
namespace Go.Proofs.YtdnhhkhbdfiagaaGreatDoor
namespace Tk
open Sh Fix Go.Lib
theorem Bz.len{n:Int}{T W P:By}(h:Bz n T W P):T.length<=12/\1<=T.length:=by
 have hf:=(Cv h.p h.p4).2.2.2;have w6:=h.w6;rw[h.t,ae,ae,au];split<;>simp<;>omega
theorem MQ {A B:By}{k:Nat}(h:A.length=k):(A++B).drop k=B:=by
 rw[<-h,List.drop_append];simp
section
variable {w w' w1:World} {s t:ByteArray} {a:Nat}
attribute [local irreducible] Ld Sh.St Nw Nn Lt AU
theorem VK (ha:a<=s.size)(hs:s.size<=1099511627776)(hb:a+AP ((bl s).drop a) false=s.size)(w:World):FW s (a:Int) w fun r e w1=>r=(0,(s.size:Int),(s.size:Int),0,⟨#[]⟩)/\e=0/\Ext (fun _=>False) w w1:=by
 refine AAv _ _ _ _ ?_;unfold uQ;refine (Hn.start w).nw (cs:=[.int .i64 0,.int .i64 0,.int .i64 0,.int .i64 0,.string ⟨#[]⟩]) fun w2 H=>?_
 refine Br.dec (fun h=>by omega) fun _=>Br.dec (fun h=>by omega) fun _=>(ie s ha hs w2).mono ?_
 rintro r w3 ⟨rfl,rfl⟩;rw[hb];refine H.nw (cs:=[.string ⟨#[]⟩,.int .i64 0]) fun w4 H=>?_
 simp only[ag,ad,add_lit,ak]at H⊢
 iterate 2 (refine H.st 1 rfl (by simp) fun _ H=>?_;simp only[aa,ab]at H)
 refine H.ld 1 rfl rfl (Br.t (by simp) ?_)
 iterate 2 refine H.ld 1 rfl rfl ?_
 iterate 5 (refine H.st 0 rfl (by simp) fun _ H=>?_;simp only[aa,ab]at H)
 iterate 5 refine H.ld 0 rfl rfl ?_
 exact ⟨rfl,by trivial,H.ext⟩
theorem Cp {b:Nat}{c:UInt8}(ha:a<=s.size)(hs:s.size<=1099511627776)(hb:a+AP ((bl s).drop a) false=b)(hc:(bl s)[b]?=some c)(w:World){R:TT->Int->World->Prop}
  (k:∀(w2 v:World),Hn w v [(w.heap.size,[.int .i64 0,.int .i64 0,.int .i64 0,.int .i64 0,.string ⟨#[]⟩],148),(w2.heap.size,[.string s,.int .i64 (b:Int)],225)]->
   Fz w s w2 (hasPrefix ((bl s).drop (b+1)) [c]) (b:Int) R ((c==91)||(c==93)||(c==123)||(c==125)) v):FW s (a:Int) w R:=by
 refine AAv _ _ _ _ ?_;unfold uQ;have NG:b<s.size:=by
  have:=(al.1 hc).1;rw[AE]at this;exact this
 refine (Hn.start w).nw (cs:=[.int .i64 0,.int .i64 0,.int .i64 0,.int .i64 0,.string ⟨#[]⟩]) fun w2 H=>?_
 refine Br.dec (fun h=>by omega) fun _=>Br.dec (fun h=>by omega) fun _=>(ie s ha hs w2).mono ?_
 rintro r w3 ⟨rfl,rfl⟩;rw[hb];refine H.nw (cs:=[.string ⟨#[]⟩,.int .i64 0]) fun w4 H=>?_
 simp only[ag,ad,add_lit,ak]at H⊢
 iterate 2 (refine H.st 1 rfl (by simp) fun _ H=>?_;simp only[aa,ab]at H)
 refine H.ld 1 rfl rfl (Br.eq (fun h=>by omega) fun _=>?_);have H:=H.drew
 iterate 2 refine H.ld 1 rfl rfl ?_
 rw[AH (n:=(b:Int)+1) (by omega)];have t1:((b:Int)+1).toNat=b+1:=by omega
 rw[t1,ay];refine ⟨by omega,by omega,by omega,by omega,H.ld 1 rfl rfl ?_⟩;rw[AH (n:=(b:Int)+1) (by omega)];refine (F6 s (s.extract b (b+1)) (a:=b+1) (by omega) _).mono ?_;rintro r w5 ⟨rfl,rfl⟩;have hx:bl (s.extract b (b+1))=[c]:=by
  rw[A9,EN hc,show b+1-b=1 by omega]
  rfl
 rw[hx];refine H.ld 1 rfl rfl ⟨by omega,by omega,As.intro ?_⟩;rw[AX hc];have e:∀d:UInt8,((c.toNat:Int)==(d.toNat:Int))=(c==d):=fun d=>by
  rw[cl,bU,bU];exact ⟨fun h=>bX.1 (by omega),fun h=>by rw[h]⟩
 have e1:((c.toNat:Int)==91)=(c==91):=e 91;have e2:((c.toNat:Int)==93)=(c==93):=e 93;have e3:((c.toNat:Int)==123)=(c==123):=e 123;have e4:((c.toNat:Int)==125)=(c==125):=e 125;rw[e1,e2,e3,e4];have K:=k _ _ H;cases h1:c==91 with
 |true=>rw[h1]at K;exact Br.t rfl (by simpa using K)
 |false=>
  refine Br.f rfl ?_;cases h2:c==93 with
  |true=>rw[h1,h2]at K;exact Br.t rfl (by simpa using K)
  |false=>
   refine Br.f rfl ?_;cases h3:c==123 with
   |true=>rw[h1,h2,h3]at K;exact Br.t rfl (by simpa using K)
   |false=>
    refine Br.f rfl ?_;rw[h1,h2,h3]at K;simpa using K
theorem Iv {c d:UInt8}(h:c≠d):(c.toNat:Int)≠(d.toNat:Int):=fun e=>h (bX.1 (by omega))
theorem Sv {b:Nat}{c:UInt8}{r0:TT}{e0:Int}(ha:a<=s.size)(hs:s.size<=1099511627776)(hb:a+AP ((bl s).drop a) false=b)(hc:(bl s)[b]?=some c)(hr:AW c=true)
  (hw:∀v,RV (s,(b:Int)) v fun r e w1=>r=r0/\e=e0/\Ext (fun _=>False) v w1) (w:World):FW s (a:Int) w fun r e w1=>r=r0/\e=e0/\Ext (fun _=>False) w w1:=by
 have hd:jv c=false:=by
  unfold AW at hr;simp only[ai,bz]at hr;exact hr.2
 have hn:∀d∈([40,41,60,62,91,93,123,125,47,37]:By),c≠d:=fun d hm e=>by
  subst e;unfold jv at hd;rw[<-cb,aW]at hd;exact hd hm
 refine Cp ha hs hb hc w fun w2 v H=>?_
 unfold Fz;have f:((c==91)||(c==93)||(c==123)||(c==125))=false:=by
  have h1:=hn 91 (by decide);have h2:=hn 93 (by decide);have h3:=hn 123 (by decide);have h4:=hn 125 (by decide);simp[h1,h2,h3,h4]
 rw[f,AX hc];refine Br.f rfl (Br.eq (fun h=>absurd h (Iv (hn 60 (by decide)))) fun _=>Br.eq (fun h=>absurd h (Iv (hn 62 (by decide)))) fun _=>Br.eq (fun h=>absurd h (Iv (hn 47 (by decide)))) fun _=>
  Br.eq (fun h=>absurd h (Iv (hn 40 (by decide)))) fun _=>Br.eq (fun h=>absurd h (Iv (hn 41 (by decide)))) fun _=>?_)
 simp only[add_lit,ak]
 iterate 2 refine H.ld 1 rfl rfl ?_
 refine (hw v).mono ?_;rintro r e w3 ⟨rfl,rfl,e3⟩;have H:=H.AB e3
 iterate 5 (refine H.st 0 rfl (by simp) fun _ H=>?_;simp only[aa,ab]at H)
 iterate 5 refine H.ld 0 rfl rfl ?_
 exact ⟨rfl,rfl,H.ext⟩
end
end Tk
set_option maxRecDepth 512
set_option maxHeartbeats 200000
namespace Bit
open Sh
def byt (s:ByteArray)(i:Nat):Int:=((s.data.getD i 0).toNat:Int)
def bt (s:ByteArray)(qG:Int)(p:Nat):Int:=if qG=1 then byt s (p/8)/2^(p%8)%2 else byt s (p/8)/2^(7-p%8)%2
def tk (s:ByteArray)(qG:Int)(p:Nat):Nat->Int
 |0=>0
 |i+1=>if qG=1 then tk s qG p i+bt s qG (p+i)*2^i else 2*tk s qG p i+bt s qG (p+i)
theorem Nd (n x:Nat):BitVec.ofInt n (x:Int)=BitVec.ofNat n x:=by
 apply BitVec.eq_of_toNat_eq;simp
end Bit
namespace Sh
theorem R6:∃i,Tryz.prog.info? 5=some i/\i.size=1/\i.bytes=1/\i.zero=some (.int .u8 0):=by
 have h:(match Tryz.prog.info? 5 with
  |some i=>Nat.beq i.size 1&&Nat.beq i.bytes 1&&(match i.zero with
   |some (.int .u8 0)=>true
   |_=>false)
  |none=>false)=true:=by kernel_rfl
 split at h
 ·rename_i i hi;simp only[ai]at h;obtain ⟨⟨h1,h2⟩,h3⟩:=h;split at h3
  ·rename_i hz;exact ⟨i,hi,b5 h1,b5 h2,hz⟩
  ·cases h3
 ·cases h
theorem HY (w:World)(n c:Nat)(hnc:n<=c)(hc:c<=1099511627776):∃r w',Ai Tryz.prog (Instr.makeSlice 61 (.int .i64 (n:Int)) (.int .i64 (c:Int))) w (AA.v r) w'/\
  Bd w' r (List.replicate n 0)/\Ext (fun _=>False) w w'/\∀j,r.own j->w.heap.size<=j:=by
 obtain ⟨i,hi,h1,h2,hz⟩:=R6;have hr:=run_make (P:=Tryz.prog) w 61 5 i (.int .u8 0) Cm hi hz .i64 .i64 n c (by omega) (by omega) (by rw[h2];omega) (by omega);simp only[ay,h1,ch]at hr;refine ⟨⟨some ⟨w.heap.size,0,none⟩,n,c⟩,_,hr,⟨by rw[Kq];simp,.inr ⟨_,_,rfl,AN.new _ _ _,hnc,?_,?_⟩⟩,(Ext.refl _ w).alloc _,?_⟩
 ·rw[size_madeCells,ch]
 ·show List.take (n*1) (madeCells #[.int .u8 0] c).toList=_;rw[toList_madeCells_one,ch,List.take_replicate,Nat.min_eq_left hnc];simp[Fq]
 ·rintro j ⟨a,ha,rfl⟩;cases ha;exact az _
end Sh
end Go.Proofs.YtdnhhkhbdfiagaaGreatDoor
set_option maxRecDepth 512
set_option maxHeartbeats 200000
namespace Go.Proofs
open Go.Shelf
def Tryz.J0:Go.Shelf.Ren:=⟨fun|169=>27|n=>n,fun|70=>60|9=>9|0=>0|72=>63|37=>61|127=>102|3=>3|5=>5|n=>n,fun|n=>n⟩
theorem Tryz.V4:Go.Proofs.Lays.n169 Tryz.prog Tryz.J0:={
 mixed:=by kernel_rfl
 f169:=Tryz.func27.trans (congrArg some (by kernel_rfl))
 t0:=Tryz.underlying0
 a0:=Tryz.isAgg0
 z0:=Tryz.sizeOf0
 v0:=Tryz.zeroValue0
 t3:=Tryz.underlying3
 a3:=Tryz.isAgg3
 z3:=Tryz.sizeOf3
 v3:=Tryz.zeroValue3
 t9:=Tryz.underlying9
 a9:=Tryz.isAgg9
 z9:=Tryz.sizeOf9
 v9:=Tryz.zeroValue9
 t37:=Tryz.underlying61
 a37:=Tryz.isAgg61
 z37:=Tryz.sizeOf61
 v37:=Tryz.zeroValue61
 t70:=Tryz.underlying60
 a70:=Tryz.isAgg60
 z70:=Tryz.sizeOf60
 v70:=Tryz.zeroValue60
 t72:=Tryz.underlying63
 a72:=Tryz.isAgg63
 z72:=Tryz.sizeOf63
 v72:=Tryz.zeroValue63
 t127:=Tryz.underlying102
 a127:=Tryz.isAgg102
 z127:=Tryz.sizeOf102
 v127:=Tryz.zeroValue102}
def Tryz.J3:Go.Shelf.Ren:=⟨fun|165=>166|240=>40|241=>197|276=>69|277=>229|n=>n,fun|70=>60|3=>3|0=>0|4=>4|9=>9|20=>20|72=>63|37=>61|164=>118|5=>5|n=>n,fun|n=>n⟩
theorem Tryz.kU:Go.Proofs.Lays.n165 Tryz.prog Tryz.J3:={
 mixed:=by kernel_rfl
 f165:=Tryz.func166.trans (congrArg some (by kernel_rfl))
 f240:=Tryz.func40.trans (congrArg some (by kernel_rfl))
 f241:=Tryz.func197.trans (congrArg some (by kernel_rfl))
 f276:=Tryz.func69.trans (congrArg some (by kernel_rfl))
 f277:=Tryz.func229.trans (congrArg some (by kernel_rfl))
 t0:=Tryz.underlying0
 a0:=Tryz.isAgg0
 z0:=Tryz.sizeOf0
 v0:=Tryz.zeroValue0
 t3:=Tryz.underlying3
 a3:=Tryz.isAgg3
 z3:=Tryz.sizeOf3
 v3:=Tryz.zeroValue3
 t4:=Tryz.underlying4
 a4:=Tryz.isAgg4
 z4:=Tryz.sizeOf4
 v4:=Tryz.zeroValue4
 t9:=Tryz.underlying9
 a9:=Tryz.isAgg9
 z9:=Tryz.sizeOf9
 v9:=Tryz.zeroValue9
 t20:=Tryz.underlying20
 a20:=Tryz.isAgg20
 z20:=Tryz.sizeOf20
 v20:=Tryz.zeroValue20
 t37:=Tryz.underlying61
 a37:=Tryz.isAgg61
 z37:=Tryz.sizeOf61
 v37:=Tryz.zeroValue61
 t70:=Tryz.underlying60
 a70:=Tryz.isAgg60
 z70:=Tryz.sizeOf60
 v70:=Tryz.zeroValue60
 t72:=Tryz.underlying63
 a72:=Tryz.isAgg63
 z72:=Tryz.sizeOf63
 v72:=Tryz.zeroValue63
 t164:=Tryz.underlying118
 a164:=Tryz.isAgg118
 z164:=Tryz.sizeOf118
 v164:=Tryz.zeroValue118}
theorem Tryz.Be:Builder.Extra Tryz.prog Tryz.J0:={
 sizeBuilder:=by kernel_rfl
 liesBuilder:=by kernel_rfl
 t5:=Tryz.underlying5
 a5:=Tryz.isAgg5
 z5:=Tryz.sizeOf5
 v5:=Tryz.zeroValue5
 infoByte:=by kernel_rfl
 cellsByte:=by kernel_rfl
 sizeByte:=by kernel_rfl
 neB5:=by decide}
open Go.RowKit in
theorem Tryz.Builder_String(B b:Nat)(l:List UInt8)(w:World)(h:Lib.IsBuilder 63 5 B b (Lib.byteCells l) w)(h0:l≠[]):
  Calls Tryz.prog 27 #[.pointer (some ⟨b,0,none⟩)] w fun e w'=>e= .returned (.string ⟨l.toArray⟩)/\Below B w w':=Any.Builder_String Tryz.V4 Tryz.Be B b l w h h0
open Go.RowKit in
theorem Tryz.Builder_String_empty(B b:Nat)(w:World)(h:Lib.IsBuilder 63 5 B b [] w)(hBw:B<=w.heap.size):
  Calls Tryz.prog 27 #[.pointer (some ⟨b,0,none⟩)] w fun e w'=>e= .returned (.string ⟨#[]⟩)/\Below B w w':=Any.Builder_String_empty Tryz.V4 Tryz.Be B b w h hBw
theorem Tryz.Hz:Builder.Extra Tryz.prog Tryz.J3:={
 sizeBuilder:=by kernel_rfl
 liesBuilder:=by kernel_rfl
 t5:=Tryz.underlying5
 a5:=Tryz.isAgg5
 z5:=Tryz.sizeOf5
 v5:=Tryz.zeroValue5
 infoByte:=by kernel_rfl
 cellsByte:=by kernel_rfl
 sizeByte:=by kernel_rfl
 neB5:=by decide}
open Go.RowKit in
theorem Tryz.Builder_Grow_fresh(B b n:Nat)(w:World)(hB:B<=b)(hbk:w.heap[b]?=some (.cells #[.pointer none,.slice none 0 0] 63 (0,0)))(hBw:B<=w.heap.size)(hn:n<=281474976710656):
  Calls Tryz.prog 166 #[.pointer (some ⟨b,0,none⟩),.int .i64 n] w fun e w'=>e= .returned (.tuple #[])/\(Lib.BuilderAt 63 5 B b (.pointer (some ⟨b,0,none⟩)) [] w'/\Below B w w'):=Any.Builder_Grow_fresh Tryz.kU Tryz.Hz B b n w hB hbk hBw hn
end Go.Proofs
namespace Go.Proofs.YtdnhhkhbdfiagaaGreatDoor
set_option maxRecDepth 100000
set_option maxHeartbeats 2000000
namespace Ov
open Sh
theorem zo:Tryz.f40.ntmps=20:=by kernel_rfl
theorem zp:(Tryz.prog.info? 63).map (·.size)=some 2:=by kernel_rfl
theorem Xn (b:Nat)(w:World)(h0:w.cell? ⟨b,0,none⟩=some (.pointer (some ⟨b,0,none⟩))):
  Calls Tryz.prog 40 #[.pointer (some ⟨b,0,none⟩)] w fun e w'=>e= .returned (.tuple #[])/\w'=w:=by
 obtain ⟨j,hj,_⟩:=aN.1 zp;have mixed:Tryz.prog.follows .mixedOrders=true:=by kernel_rfl
 have t1:=Tryz.underlying63;have a1:=Tryz.isAgg63;have z1:=Tryz.sizeOf63;have v1:=Tryz.zeroValue63;have t2:=Tryz.underlying60;have a2:=Tryz.isAgg60;have z2:=Tryz.sizeOf60;have v2:=Tryz.zeroValue60;have u1:=run_underlying t1;have u2:=run_underlying t2
 go_enter Tryz.func40,zo
 go_wp2
 rw[Lib.run_neq_ptr_same w _ Tryz.underlying60 hj]
 go_wp2
 go_end0
 exact ⟨rfl,rfl⟩
theorem Ti (b:Nat)(w:World)(h0:w.cell? ⟨b,0,none⟩=some (.pointer none))(hsh:w.shape? b=some (63,2))(hfz:w.frozen? ⟨b,0,none⟩=false):
  Calls Tryz.prog 40 #[.pointer (some ⟨b,0,none⟩)] w fun e w'=>e= .returned (.tuple #[])/\w'=w.setCell ⟨b,0,none⟩ (.pointer (some ⟨b,0,none⟩)):=by
 obtain ⟨j,hj,Tj⟩:=aN.1 zp;have mixed:Tryz.prog.follows .mixedOrders=true:=by kernel_rfl
 have t1:=Tryz.underlying63;have a1:=Tryz.isAgg63;have z1:=Tryz.sizeOf63;have v1:=Tryz.zeroValue63;have t2:=Tryz.underlying60;have a2:=Tryz.isAgg60;have z2:=Tryz.sizeOf60;have v2:=Tryz.zeroValue60;have t3:=Tryz.underlying118;have a3:=Tryz.isAgg118;have z3:=Tryz.sizeOf118;have v3:=Tryz.zeroValue118;have u1:=run_underlying t1;have u2:=run_underlying t2;have u3:=run_underlying t3
 go_enter Tryz.func40,zo
 go_wp2
 rw[Lib.run_to_unsafe w ⟨b,0,none⟩ t2 t3 hj (by rw[Tj];decide) hsh (Nat.zero_lt_succ 1)];simp only[Result.andThen];rw[Oper.upon_value]
 go_wp2
 rw[run_callFunc_extern Tryz.func69 (by kernel_rfl) (by kernel_rfl) (by kernel_rfl) (e:=Extern.AbiNoEscape.same) (by kernel_rfl)];rw[Lib.run_noEscape];simp only[Result.andThen];rw[Oper.upon_value]
 go_wp2
 rw[Lib.run_from_unsafe w ⟨b,0,none⟩ t3 t2 hj hsh (by kernel_rfl)];simp only[Result.andThen];rw[Oper.upon_value]
 go_wp2
 go_end0
 exact ⟨rfl,rfl⟩
end Ov
end Go.Proofs.YtdnhhkhbdfiagaaGreatDoor

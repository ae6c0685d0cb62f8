/- Joined texts of the proof; conditions stand in each theorem. -/
import Derived.Test.YtdmmgclkphaaaaaGreatDoorQYQFil1
import Derived.Test.YtdmmgclkphaaaaaGreatDoorQYQFil2
import Derived.Test.YtdmmgclkphaaaaaGreatDoorQYQFil3
import Derived.Shelf.Strings.Builder1
import Derived.Shelf.Strings.Builder2
import Derived.Test.YtdmmgclkphaaaaaGreatDoorProg
import Derived.IntWalk
import Derived.Below
import Derived.Laws.AppendOwn
import Derived.Laws.OwnMore
import Derived.Laws.BytesString
import Derived.Laws.BytesArg
import Derived.Laws.MakeOwn
import Derived.OpenShut
import Derived.ChangeArms
import Derived.WideShapes
import Derived.Test.YtdmmgclkphaaaaaGreatDoorRows
import Derived.WalkKit
import Derived.Lib.ConvBytes
import Derived.Shelf.Small.Strs
import Derived.Shelf.Strings.Search1
import Derived.Lib.IndexAny
import Derived.Lib.IndexLaws
import Derived.Shelf.Strings.Repeat
set_option linter.unusedVariables false
set_option linter.unusedSimpArgs false
open Go.IntKind (wrap)
open Go.Proofs.Tryz (prog)
namespace Go.Proofs.YtdmmgclkphaaaaaGreatDoor
set_option maxRecDepth 100000
section
open Sh
def C22 (A0:ByteArray):=K2 Value.string Value.bool 22 #[.string A0]
def wk:=K1 (α:=Int×Int×Int) (vA [ti,ti,ti]) 26 #[]
def C9 (EG:AA)(p2:AA):=K3 AA.v AA.v vi 9 #[AA.v EG,AA.v p2]
def C47 (f1:Value):=K1 vR 47 #[f1]
def C49 (f1:Value):=K1 vR 49 #[f1]
def C25 (A0:ByteArray)(p2:Int×Int×Int):=P2 (α:=Value×Value) (vA [.raw,.raw]) vi 25 #[.string A0,.agg #[.int .i64 (p2.1),.int .i64 (p2.2.1),.int .i64 (p2.2.2)]]
def C10 (A0:ByteArray)(p2:Int×Int×Int)(Ev:ByteArray):=P2 Value.string vi 10 #[.string A0,.agg #[.int .i64 (p2.1),.int .i64 (p2.2.1),.int .i64 (p2.2.2)],.string Ev]
def C11 (o1:AG)(EX:ByteArray):=P2 (α:=AG) (vA AD) vi 11 #[.agg (Al.cells AD o1).toArray,.string EX]
def C12 (p1:Int×Int×Int):=P2 (α:=AG) (vA AD) vi 12 #[.agg #[.int .i64 (p1.1),.int .i64 (p1.2.1),.int .i64 (p1.2.2)]]
def C15 (l1:AA):=K1 (α:=AG) (vA AD) 15 #[AA.v l1]
def C4 (o1:AG)(BS:AA)(Hi:AA)(CW:ByteArray):=P2 (α:=AG) (vA AD) vi 4 #[.agg (Al.cells AD o1).toArray,AA.v BS,AA.v Hi,.string CW]
def xq (c1:Addr)(c2:Addr)(c3:Addr)(u:Option Value)(w:World)(R:Q0):Prop:=Gw prog 19 #[.pointer (some c1),.pointer (some c2),.pointer (some c3)] u w R
def oN (KU:Bool)(ZP:Int):=P0 20 #[.bool KU,.int .i64 ZP]
def C21 (o1:AG):=P1 AA.v 21 #[.agg (Al.cells AD o1).toArray]
def C69 (o1:AG)(B8:ByteArray):=P1 vi 69 #[.agg (Al.cells AD o1).toArray,.string B8]
def C44 (o1:AG):=P1 (α:=Int×Int×Int) (vA [ti,ti,ti]) 44 #[.agg (Al.cells AD o1).toArray]
def C45 (o1:AG):=K1 Value.bool 45 #[.agg (Al.cells AD o1).toArray]
def C23 (o1:AG)(Ew:Int):=P1 AA.v 23 #[.agg (Al.cells AD o1).toArray,.int .i64 Ew]
def C7 (o1:AG):=K3 AA.v AA.v vi 7 #[.agg (Al.cells AD o1).toArray]
def C8 (A0:ByteArray)(p2:Int×Int×Int)(Ev:ByteArray):=P2 Value.string vi 8 #[.string A0,.agg #[.int .i64 (p2.1),.int .i64 (p2.2.1),.int .i64 (p2.2.2)],.string Ev]
def C6 (o1:AG):=P2 Value.string vi 6 #[.agg (Al.cells AD o1).toArray]
def C3 (o1:AG)(BS:AA)(p3:Int×Int×Int)(CW:ByteArray):=P1 Value.bool 3 #[.agg (Al.cells AD o1).toArray,AA.v BS,.agg #[.int .i64 (p3.1),.int .i64 (p3.2.1),.int .i64 (p3.2.2)],.string CW]
def C70 (s1:ByteArray)(c2:Addr):=K2 Value.string vi 70 #[.string s1,.pointer (some c2)]
def C72 (s1:ByteArray)(c2:Addr):=K2 Value.string vi 72 #[.string s1,.pointer (some c2)]
def C55 (x1:Int×Int×Int)(s2:ByteArray):=P2 Value.string vi 55 #[.agg #[.int .i64 (x1.1),.int .i64 (x1.2.1),.int .i64 (x1.2.2)],.string s2]
def C56 (x1:Int×Int×Int)(s2:ByteArray):=K2 Value.string vi 56 #[.agg #[.int .i64 (x1.1),.int .i64 (x1.2.1),.int .i64 (x1.2.2)],.string s2]
def S22 (A0:ByteArray)(w:World)(R:Q2 ByteArray Bool):Prop:=Br (A0.toList==(⟨#[65,72,120]⟩:ey).toList) (R (⟨#[65,83,67,73,73,72,101,120,68,101,99,111,100,101]⟩:ey) true w) (Lt ((A0.toList==(⟨#[65,83,67,73,73,72,101,120,68,101,99,111,100,101]⟩:ey).toList)) fun (x3:Bool)=>Br x3 (R A0 true w) (Br (A0.toList==(⟨#[65,56,53]⟩:ey).toList) (R (⟨#[65,83,67,73,73,56,53,68,101,99,111,100,101]⟩:ey) true w) (Lt ((A0.toList==(⟨#[65,83,67,73,73,56,53,68,101,99,111,100,101]⟩:ey).toList)) fun (x5:Bool)=>Br x5 (R A0 true w) (Br (A0.toList==(⟨#[82,76]⟩:ey).toList) (R (⟨#[82,117,110,76,101,110,103,116,104,68,101,99,111,100,101]⟩:ey) true w) (Lt ((A0.toList==(⟨#[82,117,110,76,101,110,103,116,104,68,101,99,111,100,101]⟩:ey).toList)) fun (x7:Bool)=>Br x7 (R A0 true w) (Br (A0.toList==(⟨#[70,108]⟩:ey).toList) (R (⟨#[70,108,97,116,101,68,101,99,111,100,101]⟩:ey) true w) (Lt ((A0.toList==(⟨#[70,108,97,116,101,68,101,99,111,100,101]⟩:ey).toList)) fun (x8:Bool)=>Br x8 (R A0 true w) (R (⟨#[]⟩:ey) false w))))))))
theorem T22 (A0 w R):S22 A0 w R->C22 A0 w R:=Nb os ob (.q (.s (.q (.b (.s (.b (.s (.b (.s (.b (.s (.b (.s (.b (.s (.b (.s (.b (.s (.b (.s (.b (.s (.s (.q (.c .l .l)) (.s (.q (.c .l .l)) (.s (.q (.c .l .l)) (.s (.q (.c .l .l)) (.s (.q (.c .l .l)) (.s (.q (.c .l .l)) (.s (.q (.c .l .l)) (.q (.c .l .l))))))))) .l)) .r)) .l)) .r)) .l)) .r)) .l)) .r)) .l)) (.s (.q .l) .l)))) (.q .l))) [.string A0] Tryz.func22
def S26 (w:World)(R:Q1 (Int×Int×Int)):Prop:=Nw w (.cells #[.int .i64 0,.int .i64 0,.int .i64 0] 27) fun z1=>St z1 ⟨w.heap.size,0,none⟩ (.int .i64 1) fun z2=>St z2 (.add ⟨w.heap.size,0,none⟩ 1) (.int .i64 1) fun z3=>St z3 (.add ⟨w.heap.size,0,none⟩ 2) (.int .i64 1) fun z4=>Ld z4 ⟨w.heap.size,0,none⟩ (Value.int .i64) fun x5=>Ld z4 (.add ⟨w.heap.size,0,none⟩ 1) (Value.int .i64) fun x6=>Ld z4 (.add ⟨w.heap.size,0,none⟩ 2) (Value.int .i64) fun x7=>R (x5,x6,x7) z4
theorem T26 (w R):S26 w R->wk w R:=B5 (.agg [(.int .i64),(.int .i64),(.int .i64)]) (.q (.q .l)) [] Tryz.func26
def AI5 (p2:AA)(Gf:AA×Int)(R:Q3 AA AA Int)(I68:Q1 (AA×Int))(O3:AA×Int)(z67:World):Prop:=Br (decide (O3.2<(Gf.1.len:Int))) (0<=O3.2/\O3.2<(Gf.1.len:Nat)/\Nn Gf.1.p fun a69=>Ld z67 (a69.add ((O3.2).toNat*1)) Value.string fun x70=>Br ((p2.len:Int)==0) (wk z67 fun r71 z72=>Nw z72 (.cells #[.int .i64 (r71.1),.int .i64 (r71.2.1),.int .i64 (r71.2.2)] 27) fun vM=>Rn prog (Builtin.append_ #[32,32] 32 #[AA.v O3.1,AA.v ⟨some ⟨z72.heap.size,0,none⟩,1,1⟩]) vM AA.v fun vJ z75=>∃QK:World->Prop,QK z75.drew/\Br (!(x70.toList==(⟨#[70,108,97,116,101,68,101,99,111,100,101]⟩:ey).toList)) (0<=O3.2/\O3.2<(vJ.len:Nat)/\Nn vJ.p fun vF=>AP QK (vF.add ((O3.2).toNat*3)) (Value.int .i64) fun x78=>AP QK ((vF.add ((O3.2).toNat*3)).add 1) (Value.int .i64) fun x79=>AP QK ((vF.add ((O3.2).toNat*3)).add 2) (Value.int .i64) fun x80=>wk z75.drew fun Ma lq=>QK lq/\Br (!((x78==Ma.1)&&((x79==Ma.2.1)&&((x80==Ma.2.2)&&true)))) (R (⟨none,0,0⟩:AA) (⟨none,0,0⟩:AA) 1 lq) (I68 (vJ,wrap .i64 (O3.2+1)) lq)) (I68 (vJ,wrap .i64 (O3.2+1)) z75.drew)) (∃qA:World->Prop,qA z67.drew/\Br (!(x70.toList==(⟨#[70,108,97,116,101,68,101,99,111,100,101]⟩:ey).toList)) (0<=O3.2/\O3.2<(O3.1.len:Nat)/\Nn O3.1.p fun a84=>AP qA (a84.add ((O3.2).toNat*3)) (Value.int .i64) fun om=>AP qA ((a84.add ((O3.2).toNat*3)).add 1) (Value.int .i64) fun x86=>AP qA ((a84.add ((O3.2).toNat*3)).add 2) (Value.int .i64) fun vL=>wk z67.drew fun r88 xr=>qA xr/\Br (!((om==r88.1)&&((x86==r88.2.1)&&((vL==r88.2.2)&&true)))) (R (⟨none,0,0⟩:AA) (⟨none,0,0⟩:AA) 1 xr) (I68 (O3.1,wrap .i64 (O3.2+1)) xr)) (I68 (O3.1,wrap .i64 (O3.2+1)) z67.drew))) (R Gf.1 O3.1 0 z67)
def ADH (p2:AA)(Gf:AA×Int)(R:Q3 AA AA Int)(s25:Unit)(DT:World):Prop:=Nw DT (.cells #[] 27) fun OP=>Rn prog (Builtin.append_ #[32,32] 32 #[AA.v ⟨some ⟨DT.heap.size,0,none⟩,0,0⟩,AA.v p2]) OP AA.v fun Oz OQ=>Lp (σ:=AA×Int) (AI5 p2 Gf R) (Oz,0) OQ
def AI8 (EG:AA)(p2:AA)(R:Q3 AA AA Int)(pd:Q1 (AA×Int))(Gf:AA×Int)(Bv:World):Prop:=Br (decide (Gf.2<(EG.len:Int))) (0<=Gf.2/\Gf.2<(EG.len:Nat)/\Nn EG.p fun WR=>Ld Bv (WR.add ((Gf.2).toNat*1)) Value.string fun Co=>C22 Co Bv fun Rg Hz z21=>Br (!Hz) (R (⟨none,0,0⟩:AA) (⟨none,0,0⟩:AA) 15 z21) (Nw z21 (.cells #[.string Rg] 9) fun z22=>Rn prog (Builtin.append_ #[22,22] 22 #[AA.v Gf.1,AA.v ⟨some ⟨z21.heap.size,0,none⟩,1,1⟩]) z22 AA.v fun Mm z24=>pd (Mm,wrap .i64 (Gf.2+1)) z24)) (CP (ADH p2 Gf R) fun (AKH:Q1 Unit)=>Br ((p2.len:Int) !=0) (Br ((p2.len:Int) !=(EG.len:Int)) (R (⟨none,0,0⟩:AA) (⟨none,0,0⟩:AA) 1 Bv) (AKH () Bv)) (AKH () Bv))
def S9 (EG:AA)(p2:AA)(w:World)(R:Q3 AA AA Int):Prop:=Br (decide ((EG.len:Int)>8)) (R (⟨none,0,0⟩:AA) (⟨none,0,0⟩:AA) 6 w) (Lp (σ:=AA×Int) (AI8 EG p2 R) ((⟨none,0,0⟩:AA),0) w)
theorem T9 (EG p2 w R):S9 EG p2 w R->C9 EG p2 w R:=mk3 ol ol oi (.q (.s (.q (.c (.q .l) .l)) (.q (.s (.q (.b (.o [(7,ol),(20,oi)] [0,1,18,19] (.q (.s (.c .l .l) (.s (.b (.q (.q (.s (.q (.c (.q .l) .l)) .r)))) .r)))))) (.join [] [1,7] (.q (.c (.q .l) .l)) (.q (.s (.q (.b (.o [(12,ol),(51,oi)] [1,7,49,50] (.q (.s (.c .l .l) (.s (.b (.q (.s (.q (.c .r .l)) (.s (.Bq (.held [] (.take 0 (.take 1 (.take 2 (.take 3 (.take 4 (.take 5 (.take 6 (.Aq 7 none (.take 8 (.take 9 .done)))))))))))) (.c (.q .l) .l))))) .r)))))) (.q .l)))))))) [AA.v EG,AA.v p2] Tryz.func9
def S47 (f1:Value)(w:World)(R:Q1 Value):Prop:=Nw w (.cells (Value.cells f1) 82) fun z2=>R (.func (.func 70) #[] #[.pointer (some ⟨w.heap.size,0,none⟩)]) z2
theorem T47 (f1 w R):S47 f1 w R->C47 f1 w R:=B5 (.one .raw) (.q (.q .l)) [f1] Tryz.func47
def S49 (f1:Value)(w:World)(R:Q1 Value):Prop:=Nw w (.cells (Value.cells f1) 84) fun z2=>R (.func (.func 72) #[] #[.pointer (some ⟨w.heap.size,0,none⟩)]) z2
theorem T49 (f1 w R):S49 f1 w R->C49 f1 w R:=B5 (.one .raw) (.q (.q .l)) [f1] Tryz.func49
def S25 (A0:ByteArray)(p2:Int×Int×Int)(w:World)(R:Q2 (Value×Value) Int)(PR:Q1 Value):Prop:=Nw w (.cells #[.int .i64 (p2.1),.int .i64 (p2.2.1),.int .i64 (p2.2.2)] 27) fun z3=>Nw z3 (.cells #[Value.nilFunc,Value.nilFunc] 58) fun z4=>C22 A0 z4 fun r5 r6 z7=>Br (!r6) (St z7 ⟨z3.heap.size,0,none⟩ Value.nilFunc fun Az=>St Az (.add ⟨z3.heap.size,0,none⟩ 1) Value.nilFunc fun Bg=>Ld Bg ⟨z3.heap.size,0,none⟩ (fun x:Value=>x) fun DA=>Ld Bg (.add ⟨z3.heap.size,0,none⟩ 1) (fun x:Value=>x) fun Et=>R (DA,Et) 15 Bg) (Lt ((r5.toList==(⟨#[65,83,67,73,73,72,101,120,68,101,99,111,100,101]⟩:ey).toList)) fun (WU:Bool)=>Br WU (C47 (.func (.func 48) #[] #[]) z7 fun r54 z55=>C49 (.func (.func 50) #[] #[]) z55 fun r56 VO=>Tx r54 fun (f58:Fn) (a59:Array Value) (c60:Array Value)=>Tx r56 fun (f61:Fn) (a62:Array Value) (c63:Array Value)=>Br (GR (.func f58 a59 c60)) (St VO ⟨z3.heap.size,0,none⟩ (.func f58 a59 c60) fun lW=>Br (GR (.func f61 a62 c63)) (St lW (.add ⟨z3.heap.size,0,none⟩ 1) (.func f61 a62 c63) fun z65=>Ld z65 ⟨z3.heap.size,0,none⟩ (fun x:Value=>x) fun V5=>Ld z65 (.add ⟨z3.heap.size,0,none⟩ 1) (fun x:Value=>x) fun Ys=>R (V5,Ys) 0 z65) False) False) (Lt ((r5.toList==(⟨#[65,83,67,73,73,56,53,68,101,99,111,100,101]⟩:ey).toList)) fun (x68:Bool)=>Br x68 (C47 (.func (.func 51) #[] #[]) z7 fun Y9 z70=>C49 (.func (.func 52) #[] #[]) z70 fun r71 z72=>Tx Y9 fun (f73:Fn) (a74:Array Value) (c75:Array Value)=>Tx r71 fun (f76:Fn) (vF:Array Value) (c78:Array Value)=>Br (GR (.func f73 a74 c75)) (St z72 ⟨z3.heap.size,0,none⟩ (.func f73 a74 c75) fun ZQ=>Br (GR (.func f76 vF c78)) (St ZQ (.add ⟨z3.heap.size,0,none⟩ 1) (.func f76 vF c78) fun ZR=>Ld ZR ⟨z3.heap.size,0,none⟩ (fun x:Value=>x) fun x81=>Ld ZR (.add ⟨z3.heap.size,0,none⟩ 1) (fun x:Value=>x) fun vN=>R (x81,vN) 0 ZR) False) False) (Lt ((r5.toList==(⟨#[82,117,110,76,101,110,103,116,104,68,101,99,111,100,101]⟩:ey).toList)) fun (xt:Bool)=>Br xt (C47 (.func (.func 53) #[] #[]) z7 fun r84 z85=>C49 (.func (.func 54) #[] #[]) z85 fun r86 z87=>Tx r84 fun (f88:Fn) (a89:Array Value) (c90:Array Value)=>Tx r86 fun (f91:Fn) (a92:Array Value) (c93:Array Value)=>Br (GR (.func f88 a89 c90)) (St z87 ⟨z3.heap.size,0,none⟩ (.func f88 a89 c90) fun z94=>Br (GR (.func f91 a92 c93)) (St z94 (.add ⟨z3.heap.size,0,none⟩ 1) (.func f91 a92 c93) fun z95=>Ld z95 ⟨z3.heap.size,0,none⟩ (fun x:Value=>x) fun x96=>Ld z95 (.add ⟨z3.heap.size,0,none⟩ 1) (fun x:Value=>x) fun x97=>R (x96,x97) 0 z95) False) False) (Ld z7 ⟨w.heap.size,0,none⟩ (Value.int .i64) fun x98=>Ld z7 (.add ⟨w.heap.size,0,none⟩ 1) (Value.int .i64) fun x99=>Ld z7 (.add ⟨w.heap.size,0,none⟩ 2) (Value.int .i64) fun AEI=>Nw z7 (.cells #[.int .i64 0,.int .i64 0,.int .i64 0] 86) fun jt=>St jt ⟨z7.heap.size,0,none⟩ (.int .i64 x98) fun p9=>St p9 (.add ⟨z7.heap.size,0,none⟩ 1) (.int .i64 x99) fun AEJ=>St AEJ (.add ⟨z7.heap.size,0,none⟩ 2) (.int .i64 AEI) fun Gz=>∃BP:World->Prop,BP Gz.drew/\AP BP ⟨z7.heap.size,0,none⟩ (Value.int .i64) fun R7=>AP BP (.add ⟨z7.heap.size,0,none⟩ 1) (Value.int .i64) fun OU=>AP BP (.add ⟨z7.heap.size,0,none⟩ 2) (Value.int .i64) fun OW=>AP BP ⟨z7.heap.size,0,none⟩ (Value.int .i64) fun WW=>AP BP (.add ⟨z7.heap.size,0,none⟩ 1) (Value.int .i64) fun OY=>AP BP (.add ⟨z7.heap.size,0,none⟩ 2) (Value.int .i64) fun OZ=>AP BP ⟨w.heap.size,0,none⟩ (Value.int .i64) fun QT=>AP BP (.add ⟨w.heap.size,0,none⟩ 1) (Value.int .i64) fun ZS=>AP BP (.add ⟨w.heap.size,0,none⟩ 2) (Value.int .i64) fun ZT=>(BP Gz.drew/\(BP Gz.drew/\(BP Gz.drew/\vO (QT,ZS,ZT) Gz.drew fun ARg z116=>BP z116/\St z116 ⟨z3.heap.size,0,none⟩ (.func (.func 55) #[.agg #[.int .i64 R7,.int .i64 OU,.int .i64 OW]] #[]) fun z117=>St z117 (.add ⟨z3.heap.size,0,none⟩ 1) (.func (.func 56) #[.agg #[.int .i64 WW,.int .i64 OY,.int .i64 OZ]] #[]) fun ZU=>Ld ZU ⟨z3.heap.size,0,none⟩ (fun x:Value=>x) fun jd=>Ld ZU (.add ⟨z3.heap.size,0,none⟩ 1) (fun x:Value=>x) fun AC8=>R (jd,AC8) ARg ZU)/\(vO (QT,ZS,ZT) Gz.drew fun ARh AEK=>BP AEK/\BP AEK/\St AEK ⟨z3.heap.size,0,none⟩ (.func (.func 55) #[.agg #[.int .i64 R7,.int .i64 OU,.int .i64 OW]] #[]) fun ARi=>St ARi (.add ⟨z3.heap.size,0,none⟩ 1) (.func (.func 56) #[.agg #[.int .i64 WW,.int .i64 OY,.int .i64 OZ]] #[]) fun z124=>Ld z124 ⟨z3.heap.size,0,none⟩ (fun x:Value=>x) fun ARj=>Ld z124 (.add ⟨z3.heap.size,0,none⟩ 1) (fun x:Value=>x) fun ARk=>R (ARj,ARk) ARh z124))/\(vO (QT,ZS,ZT) Gz.drew fun ARl xu=>BP xu/\BP xu/\BP xu/\St xu ⟨z3.heap.size,0,none⟩ (.func (.func 55) #[.agg #[.int .i64 R7,.int .i64 OU,.int .i64 OW]] #[]) fun ARm=>St ARm (.add ⟨z3.heap.size,0,none⟩ 1) (.func (.func 56) #[.agg #[.int .i64 WW,.int .i64 OY,.int .i64 OZ]] #[]) fun z130=>Ld z130 ⟨z3.heap.size,0,none⟩ (fun x:Value=>x) fun ARn=>Ld z130 (.add ⟨z3.heap.size,0,none⟩ 1) (fun x:Value=>x) fun Oa=>R (ARn,Oa) ARl z130))/\((BP Gz.drew/\(BP Gz.drew/\(BP Gz.drew/\vO (QT,ZS,ZT) Gz.drew fun xB qB=>BP qB/\St qB ⟨z3.heap.size,0,none⟩ (.func (.func 55) #[.agg #[.int .i64 R7,.int .i64 OU,.int .i64 OW]] #[]) fun ARo=>St ARo (.add ⟨z3.heap.size,0,none⟩ 1) (.func (.func 56) #[.agg #[.int .i64 WW,.int .i64 OY,.int .i64 OZ]] #[]) fun AEL=>Ld AEL ⟨z3.heap.size,0,none⟩ (fun x:Value=>x) fun ARp=>Ld AEL (.add ⟨z3.heap.size,0,none⟩ 1) (fun x:Value=>x) fun ARq=>R (ARp,ARq) xB AEL)/\(vO (QT,ZS,ZT) Gz.drew fun ARr I0=>BP I0/\BP I0/\St I0 ⟨z3.heap.size,0,none⟩ (.func (.func 55) #[.agg #[.int .i64 R7,.int .i64 OU,.int .i64 OW]] #[]) fun z141=>St z141 (.add ⟨z3.heap.size,0,none⟩ 1) (.func (.func 56) #[.agg #[.int .i64 WW,.int .i64 OY,.int .i64 OZ]] #[]) fun AEM=>Ld AEM ⟨z3.heap.size,0,none⟩ (fun x:Value=>x) fun AD8=>Ld AEM (.add ⟨z3.heap.size,0,none⟩ 1) (fun x:Value=>x) fun AD9=>R (AD8,AD9) ARr AEM))/\(vO (QT,ZS,ZT) Gz.drew fun jh z146=>BP z146/\BP z146/\BP z146/\St z146 ⟨z3.heap.size,0,none⟩ (.func (.func 55) #[.agg #[.int .i64 R7,.int .i64 OU,.int .i64 OW]] #[]) fun ZL=>St ZL (.add ⟨z3.heap.size,0,none⟩ 1) (.func (.func 56) #[.agg #[.int .i64 WW,.int .i64 OY,.int .i64 OZ]] #[]) fun z148=>Ld z148 ⟨z3.heap.size,0,none⟩ (fun x:Value=>x) fun AEN=>Ld z148 (.add ⟨z3.heap.size,0,none⟩ 1) (fun x:Value=>x) fun py=>R (AEN,py) jh z148))/\(vO (QT,ZS,ZT) Gz.drew fun AEA z152=>BP z152/\(BP z152/\BP z152/\BP z152/\St z152 ⟨z3.heap.size,0,none⟩ (.func (.func 55) #[.agg #[.int .i64 R7,.int .i64 OU,.int .i64 OW]] #[]) fun ARs=>St ARs (.add ⟨z3.heap.size,0,none⟩ 1) (.func (.func 56) #[.agg #[.int .i64 WW,.int .i64 OY,.int .i64 OZ]] #[]) fun z154=>Ld z154 ⟨z3.heap.size,0,none⟩ (fun x:Value=>x) fun ARt=>Ld z154 (.add ⟨z3.heap.size,0,none⟩ 1) (fun x:Value=>x) fun AEO=>R (ARt,AEO) AEA z154)/\(BP z152/\BP z152/\BP z152/\St z152 ⟨z3.heap.size,0,none⟩ (.func (.func 55) #[.agg #[.int .i64 R7,.int .i64 OU,.int .i64 OW]] #[]) fun z157=>St z157 (.add ⟨z3.heap.size,0,none⟩ 1) (.func (.func 56) #[.agg #[.int .i64 WW,.int .i64 OY,.int .i64 OZ]] #[]) fun AEP=>Ld AEP ⟨z3.heap.size,0,none⟩ (fun x:Value=>x) fun AEQ=>Ld AEP (.add ⟨z3.heap.size,0,none⟩ 1) (fun x:Value=>x) fun ARu=>R (AEQ,ARu) AEA AEP)))))))
theorem T25 (A0 p2 w R PR):S25 A0 p2 w R PR->C25 A0 (p2.1,p2.2.1,p2.2.2) w R PR:=YJ (.agg [.raw,.raw]) oi (.q (.q (.s (.q (.c (.q .l) .l)) (.s (.q (.b (.q (.c (.s (.Bq .dyn) .l) (.q (.c (.s (.Bq .dyn) .l) (.q (.c (.s (.Bq .dyn) .l) .l)))))))) (.q (.s (.Bq (.held [7] (.take 0 (.take 2 (.take 5 (.Gx 1 none (.Gx 3 none (.Gx 4 none (.Aq 6 none (.Aq 7 (some []) (.take 8 .done))) (.Aq 6 none (.Aq 4 none (.Aq 7 (some []) (.take 8 .done))))) (.Aq 6 none (.Aq 3 none (.Aq 4 none (.Aq 7 (some []) (.take 8 .done)))))) (.Gx 3 none (.Gx 1 none (.Gx 4 none (.Aq 6 none (.Aq 7 (some []) (.take 8 .done))) (.Aq 6 none (.Aq 4 none (.Aq 7 (some []) (.take 8 .done))))) (.Aq 6 none (.Aq 1 none (.Aq 4 none (.Aq 7 (some []) (.take 8 .done)))))) (.Aq 6 none (.Gx 1 none (.Aq 3 none (.Aq 4 none (.Aq 7 (some []) (.take 8 .done)))) (.Aq 3 none (.Aq 1 none (.Aq 4 none (.Aq 7 (some []) (.take 8 .done)))))))))))))) .l)))))) [.string A0,.agg #[.int .i64 (p2.1),.int .i64 (p2.2.1),.int .i64 (p2.2.2)]] Tryz.func25
def S10 (A0:ByteArray)(p2:Int×Int×Int)(Ev:ByteArray)(w:World)(R:Q2 ByteArray Int)(PR:Q1 Value):Prop:=Nw w (.cells #[.int .i64 (p2.1),.int .i64 (p2.2.1),.int .i64 (p2.2.2)] 27) fun z4=>Ld z4 ⟨w.heap.size,0,none⟩ (Value.int .i64) fun x5=>Ld z4 (.add ⟨w.heap.size,0,none⟩ 1) (Value.int .i64) fun x6=>Ld z4 (.add ⟨w.heap.size,0,none⟩ 2) (Value.int .i64) fun x7=>C25 A0 (x5,x6,x7) z4 (fun r8 r9 Az=>Nw Az (.cells #[Value.nilFunc,Value.nilFunc] 58) fun Bg=>Br (GR r8.1) (St Bg ⟨Az.heap.size,0,none⟩ r8.1 fun z12=>Br (GR r8.2) (St z12 (.add ⟨Az.heap.size,0,none⟩ 1) r8.2 fun AY=>Br (r9 !=0) (R (⟨#[]⟩:ey) r9 AY) (Br (decide ((Ev.size:Int)>1048576)) (R (⟨#[]⟩:ey) 5 AY) (Ld AY ⟨Az.heap.size,0,none⟩ (fun x:Value=>x) fun Em=>Dy prog FF [(.one .str),(.one (.int .i64))] Em #[.string Ev] AY (fun (MH:ByteArray×Int) Bd=>R MH.1 MH.2 Bd) PR))) False) False) PR
theorem T10 (A0 p2 Ev w R PR):S10 A0 p2 Ev w R PR->C10 A0 (p2.1,p2.2.1,p2.2.2) Ev w R PR:=YJ os oi (.q (.q (.s (.q (.c (.q .l) .l)) (.s (.q (.c (.q .l) .l)) (.s (.Bq .dyn) .l))))) [.string A0,.agg #[.int .i64 (p2.1),.int .i64 (p2.2.1),.int .i64 (p2.2.2)],.string Ev] Tryz.func10
def AAe (w:World)(EX:ByteArray)(z3:World)(R:Q2 (AG) Int)(PR:Q1 Value)(DF:Unit)(Bg:World):Prop:=St Bg ⟨w.heap.size,0,none⟩ (.int .i64 7) fun z12=>St z12 (.add ⟨w.heap.size,0,none⟩ 3) (.string (⟨#[]⟩:ey)) fun AY=>Af AY ⟨w.heap.size,0,none⟩ 0 AD fun Co=>C5 Co AY (fun Rg z20=>Br (Rg !=0) (A6 ⟨z3.heap.size,0,none⟩ 0 AD ((0,0,0,(⟨#[]⟩:ey),(⟨none,0,0⟩:AA),(⟨none,0,0⟩:AA)):AG) z20 fun z21=>Af z21 ⟨z3.heap.size,0,none⟩ 0 AD fun Ct=>R Ct Rg z21) (Af z20 ⟨w.heap.size,0,none⟩ 0 AD fun Mm=>C28 Mm (⟨#[70,105,108,116,101,114]⟩:ey) z20 (fun vE z25=>C28 vE (⟨#[68,101,99,111,100,101,80,97,114,109,115]⟩:ey) z25 (fun fw OP=>C27 fw EX OP (fun Yx Gy ER=>A6 ⟨z3.heap.size,0,none⟩ 0 AD Yx ER fun z31=>Af z31 ⟨z3.heap.size,0,none⟩ 0 AD fun Iz=>R Iz Gy z31) PR) PR) PR)) PR
def S11 (o1:AG)(EX:ByteArray)(w:World)(R:Q2 (AG) Int)(PR:Q1 Value):Prop:=Nw w (.cells (Al.cells AD o1).toArray 25) fun z3=>Nw z3 (.cells #[.int .i64 0,.int .i64 0,.int .i64 0,.string (⟨#[]⟩:ey),AA.v ⟨none,0,0⟩,AA.v ⟨none,0,0⟩] 25) fun z4=>CP (AAe w EX z3 R PR) fun (AKK:Q1 Unit)=>Ld z4 ⟨w.heap.size,0,none⟩ (Value.int .i64) fun Nc=>Br (Nc !=9) (Ld z4 ⟨w.heap.size,0,none⟩ (Value.int .i64) fun Rz=>Br (Rz !=7) (A6 ⟨z3.heap.size,0,none⟩ 0 AD ((0,0,0,(⟨#[]⟩:ey),(⟨none,0,0⟩:AA),(⟨none,0,0⟩:AA)):AG) z4 fun z36=>Af z36 ⟨z3.heap.size,0,none⟩ 0 AD fun US=>R US 10 z36) (AKK () z4)) (AKK () z4)
theorem T11 (o1 EX w R PR):S11 o1 EX w R PR->C11 o1 EX w R PR:=YJ (.agg [(.int .i64),(.int .i64),(.int .i64),.str,.Fu,.Fu]) oi (.q (.join [] [1,2,4] (.q (.c (.q .l) .l)) (.q (.q (.s (.q (.q (.c (.q .l) .l))) (.q .l)))))) [.agg (Al.cells AD o1).toArray,.string EX] Tryz.func11
def S12 (p1:Int×Int×Int)(w:World)(R:Q2 (AG) Int)(PR:Q1 Value):Prop:=Nw w (.cells #[.int .i64 (p1.1),.int .i64 (p1.2.1),.int .i64 (p1.2.2)] 27) fun z2=>Nw z2 (.cells #[.int .i64 0,.int .i64 0,.int .i64 0,.string (⟨#[]⟩:ey),AA.v ⟨none,0,0⟩,AA.v ⟨none,0,0⟩] 25) fun z3=>∃QU:World->Prop,QU z3.drew/\AP QU ⟨w.heap.size,0,none⟩ (Value.int .i64) fun DA=>AP QU (.add ⟨w.heap.size,0,none⟩ 1) (Value.int .i64) fun Et=>AP QU (.add ⟨w.heap.size,0,none⟩ 2) (Value.int .i64) fun Em=>wk z3.drew fun FQ Bd=>QU Bd/\Br ((DA==FQ.1)&&((Et==FQ.2.1)&&((Em==FQ.2.2)&&true))) (A6 ⟨z2.heap.size,0,none⟩ 0 AD ((0,0,0,(⟨#[]⟩:ey),(⟨none,0,0⟩:AA),(⟨none,0,0⟩:AA)):AG) Bd fun D3=>Af D3 ⟨z2.heap.size,0,none⟩ 0 AD fun Co=>R Co 0 D3) (∃UW:World->Prop,UW Bd.drew/\AP UW (.add ⟨w.heap.size,0,none⟩ 1) (Value.int .i64) fun Ge=>AP UW (.add ⟨w.heap.size,0,none⟩ 2) (Value.int .i64) fun D6=>AP UW ⟨w.heap.size,0,none⟩ (Value.int .i64) fun Ct=>C13 (⟨#[67,111,108,111,114,115]⟩:ey) Bd.drew fun ll z24=>UW z24/\C30 Ge z24 fun gN DT=>UW DT/\C13 (⟨#[67,111,108,117,109,110,115]⟩:ey) DT fun J4 z28=>UW z28/\C30 D6 z28 fun Gy ER=>UW ER/\C13 (⟨#[80,114,101,100,105,99,116,111,114]⟩:ey) ER fun lr JX=>UW JX/\C30 Ct JX fun xi z34=>Nw z34 (.cells #[.int .i64 (ll.1),.int .i64 (ll.2.1),.int .i64 (ll.2.2.1),.string ll.2.2.2.1,AA.v ll.2.2.2.2.1,AA.v ll.2.2.2.2.2,.int .i64 (gN.1),.int .i64 (gN.2.1),.int .i64 (gN.2.2.1),.string gN.2.2.2.1,AA.v gN.2.2.2.2.1,AA.v gN.2.2.2.2.2,.int .i64 (J4.1),.int .i64 (J4.2.1),.int .i64 (J4.2.2.1),.string J4.2.2.2.1,AA.v J4.2.2.2.2.1,AA.v J4.2.2.2.2.2,.int .i64 (Gy.1),.int .i64 (Gy.2.1),.int .i64 (Gy.2.2.1),.string Gy.2.2.2.1,AA.v Gy.2.2.2.2.1,AA.v Gy.2.2.2.2.2,.int .i64 (lr.1),.int .i64 (lr.2.1),.int .i64 (lr.2.2.1),.string lr.2.2.2.1,AA.v lr.2.2.2.2.1,AA.v lr.2.2.2.2.2,.int .i64 (xi.1),.int .i64 (xi.2.1),.int .i64 (xi.2.2.1),.string xi.2.2.2.1,AA.v xi.2.2.2.2.1,AA.v xi.2.2.2.2.2] 25) fun SU=>C29 (⟨some ⟨z34.heap.size,0,none⟩,6,6⟩:AA) SU (fun Nd r37 Hy=>A6 ⟨z2.heap.size,0,none⟩ 0 AD Nd Hy fun z39=>Af z39 ⟨z2.heap.size,0,none⟩ 0 AD fun R2=>R R2 r37 z39) PR)
theorem T12 (p1 w R PR):S12 p1 w R PR->C12 (p1.1,p1.2.1,p1.2.2) w R PR:=YJ (.agg [(.int .i64),(.int .i64),(.int .i64),.str,.Fu,.Fu]) oi (.q (.s (.s (.Bq (.held [] (.take 0 (.Aq 1 none (.take 2 .done))))) (.c (.q .l) .l)) (.s (.Bq (.held [11] (.take 1 (.take 2 (.take 5 (.take 6 (.take 9 (.take 10 (.Aq 0 none (.Aq 3 none (.Aq 4 none (.Aq 7 none (.Aq 8 none (.Aq 11 (some [12]) (.Aq 12 (some [13]) (.Aq 13 (some [16]) (.take 14 (.take 15 (.Aq 16 (some []) (.take 17 .done)))))))))))))))))))) .l))) [.agg #[.int .i64 (p1.1),.int .i64 (p1.2.1),.int .i64 (p1.2.2)]] Tryz.func12
def S15 (l1:AA)(w:World)(R:Q1 (AG)):Prop:=Nw w (.cells #[.int .i64 0,.int .i64 0,.int .i64 0,.string (⟨#[]⟩:ey),AA.v ⟨none,0,0⟩,AA.v ⟨none,0,0⟩] 25) fun z2=>Br ((l1.len:Int)==1) (0<=(0:Int)/\(0:Int)<(l1.len:Nat)/\Nn l1.p fun a3=>Af z2 (a3.add (((0:Int)).toNat*6)) 0 AD fun x4=>A6 ⟨w.heap.size,0,none⟩ 0 AD x4 z2 fun z5=>Af z5 ⟨w.heap.size,0,none⟩ 0 AD fun x6=>R x6 z5) (C35 l1 z2 fun r7 z8=>A6 ⟨w.heap.size,0,none⟩ 0 AD r7 z8 fun z9=>Af z9 ⟨w.heap.size,0,none⟩ 0 AD fun D0=>R D0 z9)
theorem T15 (l1 w R):S15 l1 w R->C15 l1 w R:=B5 (.agg [(.int .i64),(.int .i64),(.int .i64),.str,.Fu,.Fu]) (.q (.s (.q (.c (.q .l) .l)) (.q .l))) [AA.v l1] Tryz.func15
def oJ (w:World)(z5:World)(Jt:AA)(FQ:AA)(R:Q2 (AG) Int)(PR:Q1 Value)(I98:Q1 (AA×AA×Bool×Int))(WX:AA×AA×Bool×Int)(z97:World):Prop:=Br (decide (WX.2.2.2<(Jt.len:Int))) (0<=WX.2.2.2/\WX.2.2.2<(Jt.len:Nat)/\Nn Jt.p fun a99=>Ld z97 (a99.add ((WX.2.2.2).toNat*1)) Value.string fun AEI=>0<=WX.2.2.2/\WX.2.2.2<(FQ.len:Nat)/\Nn FQ.p fun AES=>Ld z97 (AES.add ((WX.2.2.2).toNat*3)) (Value.int .i64) fun AET=>Ld z97 ((AES.add ((WX.2.2.2).toNat*3)).add 1) (Value.int .i64) fun ARx=>Ld z97 ((AES.add ((WX.2.2.2).toNat*3)).add 2) (Value.int .i64) fun qC=>C12 (AET,ARx,qC) z97 (fun Hh AKM z107=>Nw z107 (.cells #[.int .i64 0,.int .i64 0,.int .i64 0,.string (⟨#[]⟩:ey),AA.v ⟨none,0,0⟩,AA.v ⟨none,0,0⟩] 25) fun AEU=>A6 ⟨z107.heap.size,0,none⟩ 0 AD Hh AEU fun z109=>Br (AKM !=0) (A6 ⟨z5.heap.size,0,none⟩ 0 AD ((0,0,0,(⟨#[]⟩:ey),(⟨none,0,0⟩:AA),(⟨none,0,0⟩:AA)):AG) z109 fun AKN=>Af AKN ⟨z5.heap.size,0,none⟩ 0 AD fun OZ=>R OZ AKM AKN) (C13 AEI z109 fun Y4 AKO=>Nw AKO (.cells #[.int .i64 (Y4.1),.int .i64 (Y4.2.1),.int .i64 (Y4.2.2.1),.string Y4.2.2.2.1,AA.v Y4.2.2.2.2.1,AA.v Y4.2.2.2.2.2] 25) fun qD=>Rn prog (Builtin.append_ #[23,23] 23 #[AA.v WX.1,AA.v ⟨some ⟨AKO.heap.size,0,none⟩,1,1⟩]) qD AA.v fun G0 z116=>Af z116 ⟨z107.heap.size,0,none⟩ 0 AD fun ju=>Nw z116 (.cells #[.int .i64 (ju.1),.int .i64 (ju.2.1),.int .i64 (ju.2.2.1),.string ju.2.2.2.1,AA.v ju.2.2.2.2.1,AA.v ju.2.2.2.2.2] 25) fun ZU=>Rn prog (Builtin.append_ #[23,23] 23 #[AA.v WX.2.1,AA.v ⟨some ⟨z116.heap.size,0,none⟩,1,1⟩]) ZU AA.v fun jd p8=>Br WX.2.2.1 (I98 (G0,jd,true,wrap .i64 (WX.2.2.2+1)) p8) (Ld p8 ⟨z107.heap.size,0,none⟩ (Value.int .i64) fun ARy=>I98 (G0,jd,ARy !=0,wrap .i64 (WX.2.2.2+1)) p8))) PR) (∃qE:World->Prop,qE z97.drew/\B1 qE ⟨w.heap.size,0,none⟩ 0 AD fun Oa=>C15 WX.1 z97.drew fun xB qB=>qE qB/\C14 Oa (⟨#[70,105,108,116,101,114]⟩:ey) xB qB (fun Y0 AKP ARz=>A6 ⟨w.heap.size,0,none⟩ 0 AD Y0 ARz fun z138=>Br (AKP !=0) (A6 ⟨z5.heap.size,0,none⟩ 0 AD ((0,0,0,(⟨#[]⟩:ey),(⟨none,0,0⟩:AA),(⟨none,0,0⟩:AA)):AG) z138 fun z139=>Af z139 ⟨z5.heap.size,0,none⟩ 0 AD fun AR0=>R AR0 AKP z139) (Br WX.2.2.1 (∃qF:World->Prop,qF z138.drew/\B1 qF ⟨w.heap.size,0,none⟩ 0 AD fun AR1=>C15 WX.2.1 z138.drew fun AJB AKQ=>qF AKQ/\C14 AR1 (⟨#[68,101,99,111,100,101,80,97,114,109,115]⟩:ey) AJB AKQ (fun jh AKR ZL=>A6 ⟨w.heap.size,0,none⟩ 0 AD jh ZL fun z148=>Br (AKR !=0) (A6 ⟨z5.heap.size,0,none⟩ 0 AD ((0,0,0,(⟨#[]⟩:ey),(⟨none,0,0⟩:AA),(⟨none,0,0⟩:AA)):AG) z148 fun px=>Af px ⟨z5.heap.size,0,none⟩ 0 AD fun py=>R py AKR px) (Af z148 ⟨w.heap.size,0,none⟩ 0 AD fun AR2=>A6 ⟨z5.heap.size,0,none⟩ 0 AD AR2 z148 fun z152=>Af z152 ⟨z5.heap.size,0,none⟩ 0 AD fun AEB=>R AEB 0 z152)) PR) (Af z138 ⟨w.heap.size,0,none⟩ 0 AD fun pz=>A6 ⟨z5.heap.size,0,none⟩ 0 AD pz z138 fun AKS=>Af AKS ⟨z5.heap.size,0,none⟩ 0 AD fun AEO=>R AEO 0 AKS))) PR)
def AJM (w:World)(z5:World)(Jt:AA)(FQ:AA)(R:Q2 (AG) Int)(PR:Q1 Value)(I37:Q1 (ByteArray×Int))(ZV:ByteArray×Int)(z36:World):Prop:=Br (decide (ZV.2>=0)) (∃IP:World->Prop,IP z36.drew/\0<=ZV.2/\ZV.2<(Jt.len:Nat)/\Nn Jt.p fun a39=>AP IP (a39.add ((ZV.2).toNat*1)) Value.string fun R2=>0<=ZV.2/\ZV.2<(FQ.len:Nat)/\Nn FQ.p fun a41=>AP IP (a41.add ((ZV.2).toNat*3)) (Value.int .i64) fun Rf=>AP IP ((a41.add ((ZV.2).toNat*3)).add 1) (Value.int .i64) fun R4=>AP IP ((a41.add ((ZV.2).toNat*3)).add 2) (Value.int .i64) fun R3=>C10 R2 (Rf,R4,R3) ZV.1 z36.drew (fun r45 pC z47=>Br (pC !=0) (A6 ⟨z5.heap.size,0,none⟩ 0 AD ((0,0,0,(⟨#[]⟩:ey),(⟨none,0,0⟩:AA),(⟨none,0,0⟩:AA)):AG) z47 fun z48=>Af z48 ⟨z5.heap.size,0,none⟩ 0 AD fun x49=>R x49 pC z48) (I37 (r45,wrap .i64 (ZV.2-1)) z47)) PR) (Af z36 ⟨w.heap.size,0,none⟩ 0 AD fun x59=>C11 x59 ZV.1 z36 (fun r60 r61 z62=>A6 ⟨w.heap.size,0,none⟩ 0 AD r60 z62 fun xm=>Br (r61 !=0) (Af xm ⟨w.heap.size,0,none⟩ 0 AD fun x64=>A6 ⟨z5.heap.size,0,none⟩ 0 AD x64 xm fun z65=>Af z65 ⟨z5.heap.size,0,none⟩ 0 AD fun V5=>R V5 r61 z65) (Br ((Jt.len:Int)==0) (Af xm ⟨w.heap.size,0,none⟩ 0 AD fun Ys=>A6 ⟨z5.heap.size,0,none⟩ 0 AD Ys xm fun Re=>Af Re ⟨z5.heap.size,0,none⟩ 0 AD fun xe=>R xe r61 Re) (Lp (σ:=AA×AA×Bool×Int) (oJ w z5 Jt FQ R PR) ((⟨none,0,0⟩:AA),(⟨none,0,0⟩:AA),false,0) xm))) PR)
def AJL (w:World)(BS:AA)(Hi:AA)(CW:ByteArray)(z5:World)(R:Q2 (AG) Int)(PR:Q1 Value)(Ck:Unit)(AY:World):Prop:=C9 BS Hi AY fun Jt FQ O2 D3=>Br (O2 !=0) (A6 ⟨z5.heap.size,0,none⟩ 0 AD ((0,0,0,(⟨#[]⟩:ey),(⟨none,0,0⟩:AA),(⟨none,0,0⟩:AA)):AG) D3 fun CV=>Af CV ⟨z5.heap.size,0,none⟩ 0 AD fun Ge=>R Ge O2 CV) (Lp (σ:=ByteArray×Int) (AJM w z5 Jt FQ R PR) (CW,wrap .i64 ((Jt.len:Int)-1)) D3)
def S4 (o1:AG)(BS:AA)(Hi:AA)(CW:ByteArray)(w:World)(R:Q2 (AG) Int)(PR:Q1 Value):Prop:=Nw w (.cells (Al.cells AD o1).toArray 25) fun z5=>Nw z5 (.cells #[.int .i64 0,.int .i64 0,.int .i64 0,.string (⟨#[]⟩:ey),AA.v ⟨none,0,0⟩,AA.v ⟨none,0,0⟩] 25) fun z6=>CP (AJL w BS Hi CW z5 R PR) fun (AAx:Q1 Unit)=>Ld z6 ⟨w.heap.size,0,none⟩ (Value.int .i64) fun AEC=>Br (AEC !=9) (Ld z6 ⟨w.heap.size,0,none⟩ (Value.int .i64) fun AEQ=>Br (AEQ !=7) (A6 ⟨z5.heap.size,0,none⟩ 0 AD ((0,0,0,(⟨#[]⟩:ey),(⟨none,0,0⟩:AA),(⟨none,0,0⟩:AA)):AG) z6 fun z160=>Af z160 ⟨z5.heap.size,0,none⟩ 0 AD fun AR4=>R AR4 10 z160) (AAx () z6)) (AAx () z6)
theorem T4 (o1 BS Hi CW w R PR):S4 o1 BS Hi CW w R PR->C4 o1 BS Hi CW w R PR:=YJ (.agg [(.int .i64),(.int .i64),(.int .i64),.str,.Fu,.Fu]) oi (.q (.join [] [1,2,3,4,8] (.q (.c (.q .l) .l)) (.q (.s (.q (.c (.q .l) .l)) (.s (.q (.b (.o [(3,os),(11,oi)] [1,2,4,8] (.s (.q (.c .l .l)) (.s (.b (.s (.Bq (.held [9] (.take 0 (.take 1 (.take 2 (.take 3 (.take 4 (.take 5 (.take 6 (.take 7 (.take 8 (.Aq 9 (some []) (.take 10 (.take 11 (.take 12 (.take 13 (.take 14 .done))))))))))))))))) (.q (.c (.q .l) .l)))) .r))))) (.s (.q (.q (.c (.q .l) .l))) (.q (.q (.s (.q (.b (.o [(12,ol),(13,ol),(14,ob),(80,oi)] [2,4,8,78,79] (.q (.s (.c .l .l) (.s (.b (.q (.q (.s (.q (.c (.q .l) .l)) (.q (.q .r)))))) .r)))))) (.s (.s (.Bq (.held [3] (.take 0 (.take 1 (.Aq 2 none (.Aq 3 (some [7]) (.take 4 (.take 5 (.take 6 (.Aq 7 (some []) (.take 8 .done))))))))))) (.q (.c (.q .l) .l))) (.s (.q (.c (.s (.Bq (.held [3] (.take 0 (.take 1 (.Aq 2 none (.Aq 3 (some [7]) (.take 4 (.take 5 (.take 6 (.Aq 7 (some []) (.take 8 .done))))))))))) (.q (.c (.q .l) .l))) .l)) (.q .l)))))))))))) [.agg (Al.cells AD o1).toArray,AA.v BS,AA.v Hi,.string CW] Tryz.func4
def UL (c1:Addr)(c2:Addr)(c3:Addr)(w:World)(R:Q0):Prop:=R w
def qG:A7:=(.q (.c (.q (.s (.q (.c .r .l)) (.Bq (.held [4] (.take 0 (.take 1 (.Aq 2 none (.Aq 3 none (.Aq 4 (some []) .done))))))))) .l))
theorem xL (c1:Addr)(c2:Addr)(c3:Addr)(w:World)(R:Q0)(h:UL c1 c2 c3 w R):xq c1 c2 c3 none w R:=by
 have e:WQ prog FF Ig qG Tryz.f19 [.pointer (some c1),.pointer (some c2),.pointer (some c3)] none w R=UL c1 c2 c3 w R:=by kernel_rfl
 exact FT okF Ra Tryz.func19 (by kernel_rfl) (by kernel_rfl) (e.mpr h)
def S20 (KU:Bool)(ZP:Int)(w:World)(R:Q0)(PR:Q1 Value):Prop:=Br (!KU) (PR (.iface 48 (.agg #[.int .i64 ZP])) w) (R w)
theorem T20 (KU ZP w R PR):S20 KU ZP w R PR->oN KU ZP w R PR:=VL (.q (.c .r .l)) [.bool KU,.int .i64 ZP] Tryz.func20
def AAi (s13:AA)(R:Q1 AA)(PR:Q1 Value)(I17:Q1 (AA×Int))(MH:AA×Int)(Bd:World):Prop:=Br (decide (MH.2<(s13.len:Int))) (0<=MH.2/\MH.2<(s13.len:Nat)/\Nn s13.p fun a18=>Af Bd (a18.add ((MH.2).toNat*6)) 0 AD fun En=>Nw Bd (.cells #[.int .i64 0,.int .i64 0,.int .i64 0,.string (⟨#[]⟩:ey),AA.v ⟨none,0,0⟩,AA.v ⟨none,0,0⟩] 25) fun z20=>A6 ⟨Bd.heap.size,0,none⟩ 0 AD En z20 fun z21=>Ld z21 ⟨Bd.heap.size,0,none⟩ (Value.int .i64) fun Ct=>oN (Ct==5) 10 z21 (fun Dz=>Ld Dz (.add ⟨Bd.heap.size,0,none⟩ 3) Value.string fun Fy=>Nw Dz (.cells #[.string Fy] 9) fun z25=>Rn prog (Builtin.append_ #[22,22] 22 #[AA.v MH.1,AA.v ⟨some ⟨Dz.heap.size,0,none⟩,1,1⟩]) z25 AA.v fun HN OP=>I17 (HN,wrap .i64 (MH.2+1)) OP) PR) (R MH.1 Bd)
def oO (R:Q1 AA)(PR:Q1 Value)(s13:AA)(AN:World):Prop:=Lp (σ:=AA×Int) (AAi s13 R PR) ((⟨none,0,0⟩:AA),0) AN
def S21 (o1:AG)(w:World)(R:Q1 AA)(PR:Q1 Value):Prop:=Nw w (.cells (Al.cells AD o1).toArray 25) fun z2=>Af z2 ⟨w.heap.size,0,none⟩ 0 AD fun x3=>C43 x3 (⟨#[70,105,108,116,101,114]⟩:ey) z2 fun r4 r5 z6=>Nw z6 (.cells #[.int .i64 0,.int .i64 0,.int .i64 0,.string (⟨#[]⟩:ey),AA.v ⟨none,0,0⟩,AA.v ⟨none,0,0⟩] 25) fun z7=>A6 ⟨z6.heap.size,0,none⟩ 0 AD r4 z7 fun z8=>Af z8 ⟨z6.heap.size,0,none⟩ 0 AD fun x9=>Nw z8 (.cells #[.int .i64 (x9.1),.int .i64 (x9.2.1),.int .i64 (x9.2.2.1),.string x9.2.2.2.1,AA.v x9.2.2.2.2.1,AA.v x9.2.2.2.2.2] 25) fun Az=>CP (oO R PR) fun (AKV:Q1 AA)=>Br (!r5) (R (⟨none,0,0⟩:AA) Az) (Ld Az ⟨z6.heap.size,0,none⟩ (Value.int .i64) fun YK=>Br (YK==6) (Ld Az (.add ⟨z6.heap.size,0,none⟩ 5) AA.v fun VM=>AKV VM Az) (AKV (⟨some ⟨z8.heap.size,0,none⟩,1,1⟩:AA) Az))
theorem T21 (o1 w R PR):S21 o1 w R PR->C21 o1 w R PR:=Rx ol (.q (.q (.q (.join [(5,ol)] [] (.b (.q (.c (.q .l) (.q (.c .r .l))))) (.q (.s (.q (.b (.o [(6,ol),(27,oi)] [25,26] (.q (.s (.c .l .l) (.s (.b (.q (.q .r))) .r)))))) (.q .l))))))) [.agg (Al.cells AD o1).toArray] Tryz.func21
def S69 (o1:AG)(B8:ByteArray)(w:World)(R:Q1 Int)(PR:Q1 Value):Prop:=Nw w (.cells (Al.cells AD o1).toArray 25) fun z3=>Af z3 ⟨w.heap.size,0,none⟩ 0 AD fun x4=>C43 x4 B8 z3 fun r5 r6 z7=>Nw z7 (.cells #[.int .i64 0,.int .i64 0,.int .i64 0,.string (⟨#[]⟩:ey),AA.v ⟨none,0,0⟩,AA.v ⟨none,0,0⟩] 25) fun z8=>A6 ⟨z7.heap.size,0,none⟩ 0 AD r5 z8 fun z9=>Br (!r6) (R 1 z9) (Ld z9 ⟨z7.heap.size,0,none⟩ (Value.int .i64) fun D0=>oN (D0==2) 10 z9 (fun Bg=>Ld Bg (.add ⟨z7.heap.size,0,none⟩ 1) (Value.int .i64) fun DA=>R DA Bg) PR)
theorem T69 (o1 B8 w R PR):S69 o1 B8 w R PR->C69 o1 B8 w R PR:=Rx oi (.q (.q (.s (.q (.c (.q .l) .l)) (.q (.q .l))))) [.agg (Al.cells AD o1).toArray,.string B8] Tryz.func69
def S44 (o1:AG)(w:World)(R:Q1 (Int×Int×Int))(PR:Q1 Value):Prop:=Nw w (.cells (Al.cells AD o1).toArray 25) fun z2=>Nw z2 (.cells #[.int .i64 0,.int .i64 0,.int .i64 0] 27) fun z3=>Ld z3 ⟨w.heap.size,0,none⟩ (Value.int .i64) fun D0=>Br (D0==0) (wk z3 fun MF z12=>St z12 ⟨z2.heap.size,0,none⟩ (.int .i64 (MF.1)) fun AY=>St AY (.add ⟨z2.heap.size,0,none⟩ 1) (.int .i64 (MF.2.1)) fun AN=>St AN (.add ⟨z2.heap.size,0,none⟩ 2) (.int .i64 (MF.2.2)) fun Bv=>Ld Bv ⟨z2.heap.size,0,none⟩ (Value.int .i64) fun D5=>Ld Bv (.add ⟨z2.heap.size,0,none⟩ 1) (Value.int .i64) fun Eg=>Ld Bv (.add ⟨z2.heap.size,0,none⟩ 2) (Value.int .i64) fun Co=>R (D5,Eg,Co) Bv) (Ld z3 ⟨w.heap.size,0,none⟩ (Value.int .i64) fun En=>oN (En==7) 10 z3 (fun z20=>∃jv:World->Prop,jv z20.drew/\B1 jv ⟨w.heap.size,0,none⟩ 0 AD fun Ct=>B1 jv ⟨w.heap.size,0,none⟩ 0 AD fun Mm=>B1 jv ⟨w.heap.size,0,none⟩ 0 AD fun Fy=>C69 Ct (⟨#[80,114,101,100,105,99,116,111,114]⟩:ey) z20.drew (fun gN DT=>jv DT/\C69 Mm (⟨#[67,111,108,111,114,115]⟩:ey) DT (fun J4 z28=>jv z28/\C69 Fy (⟨#[67,111,108,117,109,110,115]⟩:ey) z28 (fun Gy ER=>St ER ⟨z2.heap.size,0,none⟩ (.int .i64 gN) fun z31=>St z31 (.add ⟨z2.heap.size,0,none⟩ 1) (.int .i64 J4) fun JX=>St JX (.add ⟨z2.heap.size,0,none⟩ 2) (.int .i64 Gy) fun FH=>Ld FH ⟨z2.heap.size,0,none⟩ (Value.int .i64) fun Nc=>Ld FH (.add ⟨z2.heap.size,0,none⟩ 1) (Value.int .i64) fun Rz=>Ld FH (.add ⟨z2.heap.size,0,none⟩ 2) (Value.int .i64) fun UO=>R (Nc,Rz,UO) FH) PR) PR) PR) PR)
theorem T44 (o1 w R PR):S44 o1 w R PR->C44 o1 w R PR:=Rx (.agg [(.int .i64),(.int .i64),(.int .i64)]) (.q (.s (.q (.c (.q .l) .l)) (.q (.s (.Bq (.held [5] (.take 0 (.take 2 (.take 4 (.Aq 1 none (.Aq 3 none (.Aq 5 (some [6]) (.Aq 6 (some [7]) (.Aq 7 (some []) .done)))))))))) .l)))) [.agg (Al.cells AD o1).toArray] Tryz.func44
def S45 (o1:AG)(w:World)(R:Q1 Bool):Prop:=Nw w (.cells (Al.cells AD o1).toArray 25) fun z2=>Af z2 ⟨w.heap.size,0,none⟩ 0 AD fun x3=>C43 x3 (⟨#[66,105,116,115,80,101,114,67,111,109,112,111,110,101,110,116]⟩:ey) z2 fun r4 r5 z6=>Nw z6 (.cells #[.int .i64 0,.int .i64 0,.int .i64 0,.string (⟨#[]⟩:ey),AA.v ⟨none,0,0⟩,AA.v ⟨none,0,0⟩] 25) fun z7=>A6 ⟨z6.heap.size,0,none⟩ 0 AD r4 z7 fun z8=>Br (!r5) (R true z8) (Ld z8 ⟨z6.heap.size,0,none⟩ (Value.int .i64) fun x9=>Br (x9==2) (Ld z8 (.add ⟨z6.heap.size,0,none⟩ 1) (Value.int .i64) fun D0=>R (D0==8) z8) (R false z8))
theorem T45 (o1 w R):S45 o1 w R->C45 o1 w R:=B5 ob (.q (.q (.q .l))) [.agg (Al.cells AD o1).toArray] Tryz.func45
def AAm (Ew:Int)(R:Q1 AA)(I69:Q1 AA)(ZW:AA)(Re:World):Prop:=Br (decide ((ZW.len:Int)<Ew)) (wk Re fun r70 OR=>Nw OR (.cells #[.int .i64 (r70.1),.int .i64 (r70.2.1),.int .i64 (r70.2.2)] 27) fun z72=>Rn prog (Builtin.append_ #[32,32] 32 #[AA.v ZW,AA.v ⟨some ⟨OR.heap.size,0,none⟩,1,1⟩]) z72 AA.v fun x73 z74=>I69 x73 z74) (R ZW Re)
def AAl (Ew:Int)(qH:AA)(xv:AA×Int)(R:Q1 AA)(PR:Q1 Value)(I58:Q1 Int)(s56:Int)(VO:World):Prop:=Br (decide (s56<(qH.len:Int))) (0<=s56/\s56<(qH.len:Nat)/\Nn qH.p fun a59=>Af VO (a59.add ((s56).toNat*6)) 0 AD fun VP=>Nw VO (.cells #[.int .i64 0,.int .i64 0,.int .i64 0,.string (⟨#[]⟩:ey),AA.v ⟨none,0,0⟩,AA.v ⟨none,0,0⟩] 25) fun z61=>A6 ⟨VO.heap.size,0,none⟩ 0 AD VP z61 fun z62=>Af z62 ⟨VO.heap.size,0,none⟩ 0 AD fun ZH=>C45 ZH z62 fun r64 z65=>oN r64 1 z65 (fun z66=>I58 (wrap .i64 (s56+1)) z66) PR) (Lp (σ:=AA) (AAm Ew R) xv.1 VO)
def AAk (Ew:Int)(qH:AA)(R:Q1 AA)(PR:Q1 Value)(I33:Q1 (AA×Int))(xv:AA×Int)(JX:World):Prop:=Br (decide (xv.2<(qH.len:Int))) (0<=xv.2/\xv.2<(qH.len:Nat)/\Nn qH.p fun a34=>Af JX (a34.add ((xv.2).toNat*6)) 0 AD fun Rz=>Nw JX (.cells #[.int .i64 0,.int .i64 0,.int .i64 0,.string (⟨#[]⟩:ey),AA.v ⟨none,0,0⟩,AA.v ⟨none,0,0⟩] 25) fun z36=>A6 ⟨JX.heap.size,0,none⟩ 0 AD Rz z36 fun z37=>Af z37 ⟨JX.heap.size,0,none⟩ 0 AD fun x38=>C44 x38 z37 (fun vH z40=>Nw z40 (.cells #[.int .i64 (vH.1),.int .i64 (vH.2.1),.int .i64 (vH.2.2)] 27) fun Mi=>Rn prog (Builtin.append_ #[32,32] 32 #[AA.v xv.1,AA.v ⟨some ⟨z40.heap.size,0,none⟩,1,1⟩]) Mi AA.v fun Rf Rd=>I33 (Rf,wrap .i64 (xv.2+1)) Rd) PR) (oN (decide ((qH.len:Int)<=Ew)) 1 JX (fun z44=>Lp (σ:=Int) (AAl Ew qH xv R PR) 0 z44) PR)
def oQ (Ew:Int)(R:Q1 AA)(PR:Q1 Value)(qH:AA)(D3:World):Prop:=Lp (σ:=AA×Int) (AAk Ew qH R PR) ((⟨none,0,0⟩:AA),0) D3
def S23 (o1:AG)(Ew:Int)(w:World)(R:Q1 AA)(PR:Q1 Value):Prop:=Nw w (.cells (Al.cells AD o1).toArray 25) fun z3=>CP (oQ Ew R PR) fun (AEW:Q1 AA)=>Af z3 ⟨w.heap.size,0,none⟩ 0 AD fun ZA=>C43 ZA (⟨#[68,101,99,111,100,101,80,97,114,109,115]⟩:ey) z3 fun xO r78 ZQ=>Nw ZQ (.cells #[.int .i64 0,.int .i64 0,.int .i64 0,.string (⟨#[]⟩:ey),AA.v ⟨none,0,0⟩,AA.v ⟨none,0,0⟩] 25) fun ZR=>A6 ⟨ZQ.heap.size,0,none⟩ 0 AD xO ZR fun jw=>Br r78 (Af jw ⟨ZQ.heap.size,0,none⟩ 0 AD fun vN=>Nw jw (.cells #[.int .i64 (vN.1),.int .i64 (vN.2.1),.int .i64 (vN.2.2.1),.string vN.2.2.2.1,AA.v vN.2.2.2.2.1,AA.v vN.2.2.2.2.2] 25) fun z83=>Ld z83 ⟨ZQ.heap.size,0,none⟩ (Value.int .i64) fun x84=>Br (x84==6) (Ld z83 (.add ⟨ZQ.heap.size,0,none⟩ 5) AA.v fun om=>AEW om z83) (Ld z83 ⟨ZQ.heap.size,0,none⟩ (Value.int .i64) fun x86=>oN (x86==7) 10 z83 (fun z87=>AEW (⟨some ⟨jw.heap.size,0,none⟩,1,1⟩:AA) z87) PR)) (AEW (⟨none,0,0⟩:AA) jw)
theorem T23 (o1 Ew w R PR):S23 o1 Ew w R PR->C23 o1 Ew w R PR:=Rx ol (.q (.q (.join [(5,ol)] [1] (.q (.q (.c (.q (.q (.c .r .r))) .l))) (.q (.s (.q (.b (.o [(8,ol),(32,oi)] [1,5,30,31] (.q (.s (.c .l .l) (.s (.b (.q .r)) .r)))))) (.q (.s (.q (.b (.o [(49,oi)] [1,8,47,48] (.q (.s (.c .l .l) (.s (.b (.q .r)) .r)))))) (.s (.b (.o [(8,ol)] [1] (.s (.q (.c .l .l)) (.b .r)))) (.q .l))))))))) [.agg (Al.cells AD o1).toArray,.int .i64 Ew] Tryz.func23
def S7P (z2:World)(z3:World)(z4:World)(R:Q3 AA AA Int)(x7:Value)(z6:World):Prop:=xq ⟨z2.heap.size,0,none⟩ ⟨z3.heap.size,0,none⟩ ⟨z4.heap.size,0,none⟩ (some x7) z6 fun z8=>Ld z8 ⟨z2.heap.size,0,none⟩ AA.v fun x9=>Ld z8 ⟨z3.heap.size,0,none⟩ AA.v fun D0=>Ld z8 ⟨z4.heap.size,0,none⟩ (Value.int .i64) fun Cm=>R x9 D0 Cm z8
def AJS (z2:World)(z3:World)(z4:World)(V5:AA)(R:Q3 AA AA Int)(I69:Q1 Int)(ZW:Int)(Re:World):Prop:=Br (decide (ZW<(V5.len:Int))) (0<=ZW/\ZW<(V5.len:Nat)/\Nn V5.p fun a70=>Ld Re (a70.add ((ZW).toNat*1)) Value.string fun x71=>Ld Re ⟨z3.heap.size,0,none⟩ AA.v fun x72=>0<=ZW/\ZW<(x72.len:Nat)/\Nn x72.p fun a73=>Ld Re (a73.add ((ZW).toNat*3)) (Value.int .i64) fun vJ=>Ld Re ((a73.add ((ZW).toNat*3)).add 1) (Value.int .i64) fun oh=>Ld Re ((a73.add ((ZW).toNat*3)).add 2) (Value.int .i64) fun ZA=>vO (vJ,oh,ZA) Re fun xO qI=>Br (xO !=0) (Br (!(x71.toList==(⟨#[]⟩:ey).toList)) (St qI ⟨z2.heap.size,0,none⟩ (AA.v ⟨none,0,0⟩) fun ZQ=>St ZQ ⟨z3.heap.size,0,none⟩ (AA.v ⟨none,0,0⟩) fun ZR=>St ZR ⟨z4.heap.size,0,none⟩ (.int .i64 xO) fun jw=>xq ⟨z2.heap.size,0,none⟩ ⟨z3.heap.size,0,none⟩ ⟨z4.heap.size,0,none⟩ none jw fun lq=>Ld lq ⟨z2.heap.size,0,none⟩ AA.v fun xt=>Ld lq ⟨z3.heap.size,0,none⟩ AA.v fun x84=>Ld lq ⟨z4.heap.size,0,none⟩ (Value.int .i64) fun om=>R xt x84 om lq) (I69 (wrap .i64 (ZW+1)) qI)) (I69 (wrap .i64 (ZW+1)) qI)) (∃xw:World->Prop,xw Re.drew/\AP xw ⟨z2.heap.size,0,none⟩ AA.v fun vL=>AP xw ⟨z3.heap.size,0,none⟩ AA.v fun x88=>St Re.drew ⟨z2.heap.size,0,none⟩ (AA.v vL) fun xr=>xw xr/\St xr ⟨z3.heap.size,0,none⟩ (AA.v x88) fun z90=>St z90 ⟨z4.heap.size,0,none⟩ (.int .i64 0) fun z91=>xq ⟨z2.heap.size,0,none⟩ ⟨z3.heap.size,0,none⟩ ⟨z4.heap.size,0,none⟩ none z91 fun z92=>Ld z92 ⟨z2.heap.size,0,none⟩ AA.v fun x93=>Ld z92 ⟨z3.heap.size,0,none⟩ AA.v fun x94=>Ld z92 ⟨z4.heap.size,0,none⟩ (Value.int .i64) fun x95=>R x93 x94 x95 z92)
def AJR (w:World)(z2:World)(z3:World)(z4:World)(FQ:AA)(R:Q3 AA AA Int)(I34:Q1 Int)(Kh:Int)(FH:World):Prop:=Br (decide (Kh<(FQ.len:Int))) (0<=Kh/\Kh<(FQ.len:Nat)/\Nn FQ.p fun a35=>Ld FH (a35.add ((Kh).toNat*1)) Value.string fun UO=>C22 UO FH fun r37 YM z39=>oN YM 15 z39 (fun z40=>Ld z40 ⟨z2.heap.size,0,none⟩ AA.v fun x41=>Nw z40 (.cells #[.string r37] 9) fun Ek=>Rn prog (Builtin.append_ #[22,22] 22 #[AA.v x41,AA.v ⟨some ⟨z40.heap.size,0,none⟩,1,1⟩]) Ek AA.v fun R4 z44=>St z44 ⟨z2.heap.size,0,none⟩ (AA.v R4) fun ZF=>I34 (wrap .i64 (Kh+1)) ZF) (S7P z2 z3 z4 R)) (Af FH ⟨w.heap.size,0,none⟩ 0 AD fun Ry=>C23 Ry (FQ.len:Int) FH (fun gC z48=>St z48 ⟨z3.heap.size,0,none⟩ (AA.v gC) fun z49=>Ld z49 ⟨z2.heap.size,0,none⟩ AA.v fun V5=>Lp (σ:=Int) (AJS z2 z3 z4 V5 R) 0 z49) (S7P z2 z3 z4 R))
def S7 (o1:AG)(w:World)(R:Q3 AA AA Int):Prop:=Nw w (.cells (Al.cells AD o1).toArray 25) fun z2=>Nw z2 (.cells #[AA.v ⟨none,0,0⟩] 22) fun z3=>Nw z3 (.cells #[AA.v ⟨none,0,0⟩] 32) fun z4=>Nw z4 (.cells #[.int .i64 0] 28) fun z5=>Ld z5 ⟨w.heap.size,0,none⟩ (Value.int .i64) fun DA=>oN (DA==9) 10 z5 (fun AY=>Af AY ⟨w.heap.size,0,none⟩ 0 AD fun Em=>C21 Em AY (fun FQ Bd=>oN (decide ((FQ.len:Int)<=8)) 6 Bd (fun D3=>Lp (σ:=Int) (AJR w z2 z3 z4 FQ R) 0 D3) (S7P z2 z3 z4 R)) (S7P z2 z3 z4 R)) (S7P z2 z3 z4 R)
def pl7:Hw:=(.pre (.Bq .seq) (.here [2,3,4] (.q (.q (.q (.seq (.q (.block (.loop [(26,(.one (.int .i64)))] [1,2,3,4,5,24,25] (.q (.seq (.cond .leaf .leaf) (.seq (.block (.q (.q (.q (.Bq .seq))))) (.Bq .seq))))))) (.q (.seq (.q (.block (.loop [(48,(.one (.int .i64)))] [2,3,4,46,47] (.q (.seq (.cond .leaf .leaf) (.seq (.block (.q (.q (.q (.cond (.q .leaf) .leaf))))) (.Bq .seq))))))) (.seq (.Bq (.held [3] (.take 0 (.take 1 (.Aq 2 none (.Aq 3 (some [4]) (.Aq 4 (some []) .done))))))) .leaf)))))))))
theorem T7 (o1:AG)(w:World)(R:Q3 AA AA Int)(h:S7 o1 w R):C7 o1 w R:=by
 have e:UP prog FF Ig (fun _ _=>False) pl7 Tryz.f7 [.agg (Al.cells AD o1).toArray] w [(.one .Fu),(.one .Fu),(.one (.int .i64))] (fun s w=>R s.1 s.2.1 s.2.2 w)=S7 o1 w R:=by kernel_rfl
 exact (FU okF Ra Tryz.func7 (by kernel_rfl) (by kernel_rfl) (e.mpr h)).mono fun _ _ ⟨s,he,hR⟩=>⟨s.1,s.2.1,s.2.2,he,hR⟩
def S8 (A0:ByteArray)(p2:Int×Int×Int)(Ev:ByteArray)(w:World)(R:Q2 ByteArray Int)(PR:Q1 Value):Prop:=Nw w (.cells #[.int .i64 (p2.1),.int .i64 (p2.2.1),.int .i64 (p2.2.2)] 27) fun z4=>Ld z4 ⟨w.heap.size,0,none⟩ (Value.int .i64) fun x5=>Ld z4 (.add ⟨w.heap.size,0,none⟩ 1) (Value.int .i64) fun x6=>Ld z4 (.add ⟨w.heap.size,0,none⟩ 2) (Value.int .i64) fun x7=>C25 A0 (x5,x6,x7) z4 (fun r8 r9 Az=>Nw Az (.cells #[Value.nilFunc,Value.nilFunc] 58) fun Bg=>Br (GR r8.1) (St Bg ⟨Az.heap.size,0,none⟩ r8.1 fun z12=>Br (GR r8.2) (St z12 (.add ⟨Az.heap.size,0,none⟩ 1) r8.2 fun AY=>Br (r9 !=0) (R (⟨#[]⟩:ey) r9 AY) (Ld AY (.add ⟨Az.heap.size,0,none⟩ 1) (fun x:Value=>x) fun Em=>Dy prog FF [(.one .str),(.one (.int .i64))] Em #[.string Ev] AY (fun (MH:ByteArray×Int) Bd=>R MH.1 MH.2 Bd) PR)) False) False) PR
theorem T8 (A0 p2 Ev w R PR):S8 A0 p2 Ev w R PR->C8 A0 (p2.1,p2.2.1,p2.2.2) Ev w R PR:=YJ os oi (.q (.q (.s (.q (.c (.q .l) .l)) (.s (.Bq .dyn) .l)))) [.string A0,.agg #[.int .i64 (p2.1),.int .i64 (p2.2.1),.int .i64 (p2.2.2)],.string Ev] Tryz.func8
def AJT (r4:AA)(r5:AA)(R:Q2 ByteArray Int)(PR:Q1 Value)(I11:Q1 (ByteArray×Int))(s9:ByteArray×Int)(Az:World):Prop:=Br (decide (s9.2<(r4.len:Int))) (0<=s9.2/\s9.2<(r4.len:Nat)/\Nn r4.p fun a12=>Ld Az (a12.add ((s9.2).toNat*1)) Value.string fun Et=>0<=s9.2/\s9.2<(r5.len:Nat)/\Nn r5.p fun OF=>Ld Az (OF.add ((s9.2).toNat*3)) (Value.int .i64) fun Dt=>Ld Az ((OF.add ((s9.2).toNat*3)).add 1) (Value.int .i64) fun D5=>Ld Az ((OF.add ((s9.2).toNat*3)).add 2) (Value.int .i64) fun Eg=>C8 Et (Dt,D5,Eg) s9.1 Az (fun pW Rg z20=>Br (Rg !=0) (R (⟨#[]⟩:ey) Rg z20) (I11 (pW,wrap .i64 (s9.2+1)) z20)) PR) (R s9.1 0 Az)
def S6 (o1:AG)(w:World)(R:Q2 ByteArray Int)(PR:Q1 Value):Prop:=Nw w (.cells (Al.cells AD o1).toArray 25) fun z2=>Af z2 ⟨w.heap.size,0,none⟩ 0 AD fun x3=>C7 x3 z2 fun r4 r5 r6 z7=>Br (r6 !=0) (R (⟨#[]⟩:ey) r6 z7) (Ld z7 (.add ⟨w.heap.size,0,none⟩ 3) Value.string fun x8=>Lp (σ:=ByteArray×Int) (AJT r4 r5 R PR) (x8,0) z7)
theorem T6 (o1 w R PR):S6 o1 w R PR->C6 o1 w R PR:=YJ os oi (.q (.q (.s (.q (.c (.q .l) .l)) (.q (.s (.q (.b (.o [(7,os),(23,oi)] [5,21,22] (.q (.s (.c .l .l) (.s (.b (.q (.q (.q (.c (.q .l) .l))))) .r)))))) (.q .l)))))) [.agg (Al.cells AD o1).toArray] Tryz.func6
def xM (CW:ByteArray)(OR:World)(Ma:AA)(IN:AA)(R:Q1 Bool)(PR:Q1 Value)(ASA:Q1 (ByteArray×Int))(lx:ByteArray×Int)(R6:World):Prop:=Br (decide (lx.2<(Ma.len:Int))) (∃WY:World->Prop,WY R6.drew/\0<=lx.2/\lx.2<(Ma.len:Nat)/\Nn Ma.p fun ASB=>AP WY (ASB.add ((lx.2).toNat*1)) Value.string fun qC=>0<=lx.2/\lx.2<(IN.len:Nat)/\Nn IN.p fun a105=>AP WY (a105.add ((lx.2).toNat*3)) (Value.int .i64) fun R7=>AP WY ((a105.add ((lx.2).toNat*3)).add 1) (Value.int .i64) fun OU=>AP WY ((a105.add ((lx.2).toNat*3)).add 2) (Value.int .i64) fun OW=>C8 qC (R7,OU,OW) lx.1 R6.drew (fun ASC ASD AKa=>Br (ASD !=0) (R false AKa) (ASA (ASC,wrap .i64 (lx.2+1)) AKa)) PR) (Br (lx.1.toList==CW.toList) (Af R6 ⟨OR.heap.size,0,none⟩ 0 AD fun QT=>C5 QT R6 (fun ASE qD=>R (ASE==0) qD) PR) (R false R6))
def AJX (w:World)(BS:AA)(CW:ByteArray)(z5:World)(R:Q1 Bool)(PR:Q1 Value)(I49:Q1 (AA×Int))(qJ:AA×Int)(z48:World):Prop:=Br (decide (qJ.2<(BS.len:Int))) (0<=qJ.2/\qJ.2<(BS.len:Nat)/\Nn BS.p fun a50=>Ld z48 (a50.add ((qJ.2).toNat*1)) Value.string fun YL=>Lt ((YL.toList==(⟨#[70,108,97,116,101,68,101,99,111,100,101]⟩:ey).toList)) fun (QS:Bool)=>Br QS (Ld z48 ⟨z5.heap.size,0,none⟩ (Value.int .i64) fun WU=>Ld z48 (.add ⟨z5.heap.size,0,none⟩ 1) (Value.int .i64) fun R5=>Ld z48 (.add ⟨z5.heap.size,0,none⟩ 2) (Value.int .i64) fun UR=>Nw z48 (.cells #[.int .i64 WU,.int .i64 R5,.int .i64 UR] 27) fun UQ=>Rn prog (Builtin.append_ #[32,32] 32 #[AA.v qJ.1,AA.v ⟨some ⟨z48.heap.size,0,none⟩,1,1⟩]) UQ AA.v fun gG ZE=>I49 (gG,wrap .i64 (qJ.2+1)) ZE) (Br (YL.toList==(⟨#[70,108]⟩:ey).toList) (Ld z48 ⟨z5.heap.size,0,none⟩ (Value.int .i64) fun x59=>Ld z48 (.add ⟨z5.heap.size,0,none⟩ 1) (Value.int .i64) fun VP=>Ld z48 (.add ⟨z5.heap.size,0,none⟩ 2) (Value.int .i64) fun jq=>Nw z48 (.cells #[.int .i64 x59,.int .i64 VP,.int .i64 jq] 27) fun z62=>Rn prog (Builtin.append_ #[32,32] 32 #[AA.v qJ.1,AA.v ⟨some ⟨z48.heap.size,0,none⟩,1,1⟩]) z62 AA.v fun ZH lW=>I49 (ZH,wrap .i64 (qJ.2+1)) lW) (Nw z48 (.cells #[.int .i64 1,.int .i64 1,.int .i64 1] 27) fun z65=>Rn prog (Builtin.append_ #[32,32] 32 #[AA.v qJ.1,AA.v ⟨some ⟨z48.heap.size,0,none⟩,1,1⟩]) z65 AA.v fun V5 z67=>I49 (V5,wrap .i64 (qJ.2+1)) z67))) (Af z48 ⟨w.heap.size,0,none⟩ 0 AD fun x68=>C4 x68 BS qJ.1 CW z48 (fun Y9 r70 OR=>Nw OR (.cells #[.int .i64 0,.int .i64 0,.int .i64 0,.string (⟨#[]⟩:ey),AA.v ⟨none,0,0⟩,AA.v ⟨none,0,0⟩] 25) fun z72=>A6 ⟨OR.heap.size,0,none⟩ 0 AD Y9 z72 fun vM=>Br (r70 !=0) (Ld vM ⟨OR.heap.size,0,none⟩ (Value.int .i64) fun oh=>R (oh==0) vM) (Af vM ⟨OR.heap.size,0,none⟩ 0 AD fun ZA=>C6 ZA vM (fun xO r78 ZQ=>Af ZQ ⟨OR.heap.size,0,none⟩ 0 AD fun x80=>C7 x80 ZQ fun Ma IN r83 lz=>Br (r78 !=0) (R false lz) (Br (!(xO.toList==CW.toList)) (R false lz) (Br (r83 !=0) (R false lz) (Br ((Ma.len:Int) !=(BS.len:Int)) (R false lz) (Br ((IN.len:Int) !=(BS.len:Int)) (R false lz) (Ld lz (.add ⟨OR.heap.size,0,none⟩ 3) Value.string fun om=>Lp (σ:=ByteArray×Int) (xM CW OR Ma IN R PR) (om,0) lz)))))) PR)) PR)
def S3 (o1:AG)(BS:AA)(p3:Int×Int×Int)(CW:ByteArray)(w:World)(R:Q1 Bool)(PR:Q1 Value):Prop:=Nw w (.cells (Al.cells AD o1).toArray 25) fun z5=>Nw z5 (.cells #[.int .i64 (p3.1),.int .i64 (p3.2.1),.int .i64 (p3.2.2)] 27) fun z6=>Nw z6 (.cells #[.string ((⟨#[65,72,120]⟩:ey))] 9) fun z7=>C4 ((7,0,0,(⟨#[]⟩:ey),(⟨none,0,0⟩:AA),(⟨none,0,0⟩:AA)):AG) (⟨some ⟨z6.heap.size,0,none⟩,1,1⟩:AA) (⟨none,0,0⟩:AA) (⟨#[65]⟩:ey) z7 (fun r8 r9 Az=>Nw Az (.cells #[.int .i64 0,.int .i64 0,.int .i64 0,.string (⟨#[]⟩:ey),AA.v ⟨none,0,0⟩,AA.v ⟨none,0,0⟩] 25) fun Bg=>A6 ⟨Az.heap.size,0,none⟩ 0 AD r8 Bg fun z12=>Ld z12 (.add ⟨Az.heap.size,0,none⟩ 3) Value.string fun Em=>Br (!(Em.toList==(⟨#[52,49,62]⟩:ey).toList)) (R false z12) (Br (r9 !=0) (R false z12) (Br (decide ((CW.size:Int)>800)) (R true z12) (Br (decide ((BS.len:Int)>3)) (R true z12) (Ld z12 ⟨w.heap.size,0,none⟩ (Value.int .i64) fun Ge=>Br (Ge !=7) (R true z12) (Af z12 ⟨w.heap.size,0,none⟩ 0 AD fun D6=>C5 D6 z12 (fun OO Dz=>Br (OO !=0) (R true Dz) (Ld Dz (.add ⟨w.heap.size,0,none⟩ 4) AA.v fun Fy=>Br (decide ((Fy.len:Int)>20)) (R true Dz) (Lp (σ:=AA×Int) (AJX w BS CW z5 R PR) ((⟨none,0,0⟩:AA),0) Dz))) PR)))))) PR
theorem T3 (o1 BS p3 CW w R PR):S3 o1 BS p3 CW w R PR->C3 o1 BS (p3.1,p3.2.1,p3.2.2) CW w R PR:=Rx ob (.q (.q (.s (.q (.c (.q .l) .l)) (.s (.q (.c (.q .l) .l)) (.q (.s (.q (.b (.o [(11,ol),(64,oi)] [1,3,4,6,62,63] (.q (.s (.c .l .l) (.s (.b (.q (.q (.c .r .r)))) .r)))))) (.q (.s (.q (.c (.q .l) .l)) (.q (.q (.s (.q (.c (.q .l) .l)) (.q (.s (.q (.b (.o [(21,os),(136,oi)] [3,14,18,19,135] (.q (.s (.c .l .l) (.s (.b (.q (.s (.Bq (.held [9] (.take 0 (.take 1 (.take 2 (.take 3 (.take 4 (.take 5 (.take 6 (.take 7 (.take 8 (.Aq 9 (some []) (.take 10 (.take 11 (.take 12 (.take 13 (.take 14 .done))))))))))))))))) (.s (.q (.c (.q .l) .l)) .r)))) .r)))))) (.q .l)))))))))))))) [.agg (Al.cells AD o1).toArray,AA.v BS,.agg #[.int .i64 (p3.1),.int .i64 (p3.2.1),.int .i64 (p3.2.2)],.string CW] Tryz.func3
def S70 (s1:ByteArray)(c2:Addr)(w:World)(R:Q2 ByteArray Int):Prop:=Ld w c2 (fun x:Value=>x) fun x3=>Dy prog FF [(.one .str)] x3 #[.string s1] w (fun (s4:ByteArray) z5=>R s4 0 z5) (fun _ _=>False)
theorem T70 (s1 c2 w R):S70 s1 c2 w R->C70 s1 c2 w R:=Nb os oi (.q (.s (.Bq .dyn) .l)) [.string s1,.pointer (some c2)] Tryz.func70
def S72 (s1:ByteArray)(c2:Addr)(w:World)(R:Q2 ByteArray Int):Prop:=Ld w c2 (fun x:Value=>x) fun x3=>Dy prog FF [(.one .str),(.one (.int .i64))] x3 #[.string s1,.int .i64 1048576] w (fun (s4:ByteArray×Int) z5=>R s4.1 s4.2 z5) (fun _ _=>False)
theorem T72 (s1 c2 w R):S72 s1 c2 w R->C72 s1 c2 w R:=Nb os oi (.q (.s (.Bq .dyn) .l)) [.string s1,.pointer (some c2)] Tryz.func72
def S55 (x1:Int×Int×Int)(s2:ByteArray)(w:World)(R:Q2 ByteArray Int)(PR:Q1 Value):Prop:=Nw w (.cells #[.int .i64 (x1.1),.int .i64 (x1.2.1),.int .i64 (x1.2.2)] 86) fun z3=>Ld z3 ⟨w.heap.size,0,none⟩ (Value.int .i64) fun x4=>Ld z3 (.add ⟨w.heap.size,0,none⟩ 1) (Value.int .i64) fun x5=>Ld z3 (.add ⟨w.heap.size,0,none⟩ 2) (Value.int .i64) fun x6=>C89 (x4,x5,x6) s2 z3 fun r7 r8 z9=>Br (r8 !=0) (R (⟨#[]⟩:ey) r8 z9) (C90 r7 2 z9 (fun LB MF z12=>R LB MF z12) PR)
theorem T55 (x1 s2 w R PR):S55 x1 s2 w R PR->C55 (x1.1,x1.2.1,x1.2.2) s2 w R PR:=YJ os oi (.q (.q (.s (.q (.c (.q .l) .l)) (.q .l)))) [.agg #[.int .i64 (x1.1),.int .i64 (x1.2.1),.int .i64 (x1.2.2)],.string s2] Tryz.func55
def S56 (x1:Int×Int×Int)(s2:ByteArray)(w:World)(R:Q2 ByteArray Int):Prop:=Nw w (.cells #[.int .i64 (x1.1),.int .i64 (x1.2.1),.int .i64 (x1.2.2)] 86) fun z3=>C91 s2 1048576 z3 fun r4 r5 z6=>Br (r5 !=0) (R (⟨#[]⟩:ey) r5 z6) (Ld z6 ⟨w.heap.size,0,none⟩ (Value.int .i64) fun x7=>Ld z6 (.add ⟨w.heap.size,0,none⟩ 1) (Value.int .i64) fun x8=>Ld z6 (.add ⟨w.heap.size,0,none⟩ 2) (Value.int .i64) fun x9=>C92 (x7,x8,x9) r4 z6 fun LB MF z12=>R LB MF z12)
theorem T56 (x1 s2 w R):S56 x1 s2 w R->C56 (x1.1,x1.2.1,x1.2.2) s2 w R:=Nb os oi (.q (.q (.s (.q (.c (.q .l) .l)) (.q .l)))) [.agg #[.int .i64 (x1.1),.int .i64 (x1.2.1),.int .i64 (x1.2.2)],.string s2] Tryz.func56
end
end Go.Proofs.YtdmmgclkphaaaaaGreatDoor
namespace Go.Proofs
open Go.Shelf
def Tryz.NU:Go.Shelf.Ren:=⟨fun|169=>81|n=>n,fun|70=>107|9=>9|0=>0|72=>110|37=>108|127=>146|3=>3|5=>5|n=>n,fun|n=>n⟩
theorem Tryz.TZ:Go.Proofs.Lays.n169 Tryz.prog Tryz.NU:={
 mixed:=by kernel_rfl
 f169:=Tryz.func81.trans (congrArg some (by kernel_rfl))
 t0:=Tryz.underlying0
 a0:=Tryz.isAgg0
 z0:=Tryz.sizeOf0
 v0:=Tryz.zeroValue0
 t3:=Tryz.underlying3
 a3:=Tryz.isAgg3
 z3:=Tryz.sizeOf3
 v3:=Tryz.zeroValue3
 t9:=Tryz.underlying9
 a9:=Tryz.isAgg9
 z9:=Tryz.sizeOf9
 v9:=Tryz.zeroValue9
 t37:=Tryz.underlying108
 a37:=Tryz.isAgg108
 z37:=Tryz.sizeOf108
 v37:=Tryz.zeroValue108
 t70:=Tryz.underlying107
 a70:=Tryz.isAgg107
 z70:=Tryz.sizeOf107
 v70:=Tryz.zeroValue107
 t72:=Tryz.underlying110
 a72:=Tryz.isAgg110
 z72:=Tryz.sizeOf110
 v72:=Tryz.zeroValue110
 t127:=Tryz.underlying146
 a127:=Tryz.isAgg146
 z127:=Tryz.sizeOf146
 v127:=Tryz.zeroValue146}
theorem Tryz.BR:Builder.Extra Tryz.prog Tryz.NU:={
 sizeBuilder:=by kernel_rfl
 liesBuilder:=by kernel_rfl
 t5:=Tryz.underlying5
 a5:=Tryz.isAgg5
 z5:=Tryz.sizeOf5
 v5:=Tryz.zeroValue5
 infoByte:=by kernel_rfl
 cellsByte:=by kernel_rfl
 sizeByte:=by kernel_rfl
 neB5:=by decide}
open Go.RowKit in
theorem Tryz.Builder_String(B b:Nat)(l:List UInt8)(w:World)(h:Lib.IsBuilder 110 5 B b (Lib.byteCells l) w)(h0:l≠[]):
  Calls Tryz.prog 81 #[.pointer (some ⟨b,0,none⟩)] w fun e w'=>e= .returned (.string ⟨l.toArray⟩)/\Below B w w':=Any.Builder_String Tryz.TZ Tryz.BR B b l w h h0
open Go.RowKit in
theorem Tryz.Builder_String_empty(B b:Nat)(w:World)(h:Lib.IsBuilder 110 5 B b [] w)(hBw:B<=w.heap.size):
  Calls Tryz.prog 81 #[.pointer (some ⟨b,0,none⟩)] w fun e w'=>e= .returned (.string ⟨#[]⟩)/\Below B w w':=Any.Builder_String_empty Tryz.TZ Tryz.BR B b w h hBw
end Go.Proofs
namespace Go.Proofs.YtdmmgclkphaaaaaGreatDoor
namespace Sh
@[simp] theorem Ot (A B : Prop) : Br true A B = A := rfl
@[simp] theorem Kr (A B : Prop) : Br false A B = B := rfl
theorem AX {b:Bool}{A B:Prop}(h1:b=true->A)(h2:b=false->B):Br b A B:=by cases b;exact h2 rfl;exact h1 rfl
theorem CP.intro{σ:Type}{body:σ->World->Prop}{front:(σ->World->Prop)->Prop}(h:front body):CP body front:=⟨body,fun _ _ h=>h,h⟩
theorem Lp.mk{σ:Type}{B:(σ->World->Prop)->σ->World->Prop}{s0:σ}{w0:World}(I:σ->World->Prop)(μ:σ->World->Nat)(h0:I s0 w0)
  (h:∀s w,I s w->B (fun s' w'=>I s' w'/\μ s' w'<μ s w) s w) (hm:∀(X Y:σ->World->Prop) s w,(∀s w,X s w->Y s w)->B X s w->B Y s w):Lp B s0 w0:=
 ⟨fun n s w=>I s w/\μ s w=n,_,⟨h0,rfl⟩,fun n s w ⟨hI,hn⟩=>hm _ _ s w (fun s' w' ⟨h1,h2⟩=>⟨μ s' w',hn▸h2,h1,rfl⟩) (h s w hI)⟩
@[simp] theorem add_lit (b o n : Nat) : (⟨b,o,none⟩ : Addr).add n = ⟨b,o + n,none⟩ := by
 unfold Addr.add;split
 ·rename_i h;subst h;rfl
 ·rfl
def AO (w:World)(b:Nat)(cs:Array Value)(t:TypeId):Prop:=w.heap[b]?=some (.cells cs t (0,0))
theorem AO.cell{w:World}{b:Nat}{cs:Array Value}{t:TypeId}(h:AO w b cs t)(o:Nat):w.cell? ⟨b,o,none⟩=cs[o]?:=by
 unfold AO at h;simp[World.cell?,h]
theorem AO.frozen{w:World}{b:Nat}{cs:Array Value}{t:TypeId}(h:AO w b cs t)(o:Nat):w.frozen? ⟨b,o,none⟩=false:=by
 unfold AO at h;simp[World.frozen?,h]
theorem AO.can{w:World}{b:Nat}{cs:Array Value}{t:TypeId}(h:AO w b cs t){o:Nat}(ho:o<cs.size):Kl w ⟨b,o,none⟩:=
 ⟨⟨cs[o],by rw[h.cell,cj ho]⟩,h.frozen o⟩
theorem AO.lt{w:World}{b:Nat}{cs:Array Value}{t:TypeId}(h:AO w b cs t):b<w.heap.size:=(aL.1 h).1
theorem AO.set{w:World}{b:Nat}{cs:Array Value}{t:TypeId}(h:AO w b cs t)(o:Nat)(v:Value):AO (w.setCell ⟨b,o,none⟩ v) b (cs.setIfInBounds o v) t:=by
 unfold AO at h⊢;simp[World.setCell,Array.getElem?_modify,h]
theorem AO.AIb{w:World}{b c:Nat}{cs:Array Value}{t:TypeId}(h:AO w b cs t){o:Nat}{v:Value}(A2:b≠c):AO (w.setCell ⟨c,o,none⟩ v) b cs t:=by
 unfold AO at h⊢;simp only[World.setCell,Array.getElem?_modify];rw[ah (fun e=>A2 e.symm)];exact h
theorem AO.drew{w:World}{b:Nat}{cs:Array Value}{t:TypeId}(h:AO w b cs t):AO w.drew b cs t:=h
theorem AO.new(w:World)(cs:Array Value)(t:TypeId):AO (w.alloc (.cells cs t)) w.heap.size cs t:=by
 unfold AO;show (w.heap.push _)[w.heap.size]?=_;simp
@[simp] theorem ABD (w : World) (o : Obj) : (w.alloc o).heap.size = w.heap.size + 1 := by show (w.heap.push o).size = _; rw [Array.size_push]
@[simp] theorem AG2 (w : World) (a : Addr) (v : Value) : (w.setCell a v).heap.size = w.heap.size := by simp [World.setCell]
@[simp] theorem YQ (w : World) : w.drew.heap.size = w.heap.size := rfl
@[simp] theorem ABE (w : World) (n : Nat) : (w.drewN n).heap.size = w.heap.size := rfl
structure Ext (F:Nat->Prop) (w w':World):Prop where
 os:w'.os=w.os
 tape:w'.tape=w.tape
 output:w'.output=w.output
 size:w.heap.size<=w'.heap.size
 block:∀k,k<w.heap.size->¬F k->w'.heap[k]?=w.heap[k]?
theorem Ext.refl(F:Nat->Prop)(w:World):Ext F w w:=⟨rfl,rfl,rfl,av _,fun _ _ _=>rfl⟩
theorem Ext.trans{F G H:Nat->Prop}{a b c:World}(h:Ext F a b)(k:Ext G b c)(hF:∀i,F i->H i)(hG:∀i,i<a.heap.size->G i->H i):Ext H a c:=
 ⟨k.os.trans h.os,k.tape.trans h.tape,k.output.trans h.output,cd h.size k.size,fun i hi hn=>
  (k.block i (eh hi h.size) fun g=>hn (hG i hi g)).trans (h.block i hi fun f=>hn (hF i f))⟩
theorem Ext.tr{F:Nat->Prop}{a b c:World}(h:Ext F a b)(k:Ext F b c):Ext F a c:=h.trans k (fun _ h=>h) (fun _ _ h=>h)
theorem Ext.mono{F G:Nat->Prop}{a b:World}(h:Ext F a b)(hF:∀i,i<a.heap.size->F i->G i):Ext G a b:=
 ⟨h.os,h.tape,h.output,h.size,fun i hi hn=>h.block i hi fun f=>hn (hF i hi f)⟩
theorem Ext.drew{F:Nat->Prop}{a w:World}(h:Ext F a w):Ext F a w.drew:=⟨h.os,h.tape,h.output,h.size,h.block⟩
theorem Ext.alloc{F:Nat->Prop}{a w:World}(h:Ext F a w)(o:Obj):Ext F a (w.alloc o):=
 ⟨h.os,h.tape,h.output,by have:=h.size;simp;omega,fun i hi hn=>by
  rw[Go.RowKit.Below.heap_alloc w o i (by have:=h.size;omega)];exact h.block i hi hn⟩
theorem Ext.set{F:Nat->Prop}{a w:World}(h:Ext F a w){b o:Nat}(hb:F b\/a.heap.size<=b)(v:Value):Ext F a (w.setCell ⟨b,o,none⟩ v):=
 ⟨h.os,h.tape,h.output,by simpa using h.size,fun i hi hn=>by
  rw[Go.RowKit.Below.heap_setCell _ _ _ _ (fun e=>by
   simp only at e;subst e;rcases hb with hb|hb
   ·exact hn hb
   ·omega)]
  exact h.block i hi hn⟩
theorem Ext.AS{F:Nat->Prop}{a w:World}(h:Ext F a w){b:Nat}{cs:Array Value}{t:TypeId}(hb:AO a b cs t)(hn:¬F b):AO w b cs t:=by
 unfold AO at hb⊢;rw[h.block b (aL.1 hb).1 hn];exact hb
theorem Ext.below{w w':World}(h:Ext (fun _=>False) w w'):Go.RowKit.Below w.heap.size w w':=
 ⟨h.os,h.tape,h.output,h.size,fun k hk=>h.block k hk id⟩
theorem Ext.cell{F:Nat->Prop}{a w:World}(h:Ext F a w){p:Addr}(hp:p.block<a.heap.size)(hn:¬F p.block):w.cell? p=a.cell? p:=World.cell?_of_block (w:=a) (h.block p.block hp hn)
theorem BJ {w:World}{a:Addr}{v:Value}(h:w.cell? a=some v):a.block<w.heap.size:=by
 unfold World.cell? at h;rcases bX a.block w.heap.size with h'|h'
 ·exact h'
 ·rw[cP h']at h;cases h
theorem Ext.Bn{a w:World}(h:Ext (fun _=>False) a w){p:Addr}{v:Value}(hc:a.cell? p=some v):w.cell? p=some v:=by
 rw[h.cell (BJ hc) id];exact hc
structure Hx (w0:World) (F:Nat->Prop) (w:World) (L:List (Nat×Array Value×TypeId)):Prop where
 AS:∀p∈L,AO w p.1 p.2.1 p.2.2
 nodup:(L.map (·.1)).Nodup
 ext:Ext F w0 w
section
variable {w0 w:World} {F:Nat->Prop} {L:List (Nat×Array Value×TypeId)} {b o:Nat} {cs:Array Value} {t:TypeId}
theorem Hx.get(h:Hx w0 F w L)(i:Nat)(hi:L[i]?=some (b,cs,t)):AO w b cs t:=h.AS (b,cs,t) (aB hi)
theorem Nn.of{a:Addr}{K:Addr->Prop}(h:K a):Nn (some a) K:=⟨a,rfl,h⟩
theorem Ld.mk{α:Type}{V:α->Value}{K:α->Prop}{x:α}{a:Addr}(h:w.cell? a=some (V x))(k:K x):Ld w a V K:=⟨x,h,k⟩
theorem Nw.of{o':Obj}{K:World->Prop}(h:K (w.alloc o')):Nw w o' K:=h
theorem Lt.of{α:Type}{e:α}{K:α->Prop}(h:K e):Lt e K:=h
theorem Ld.of{α:Type}{V:α->Value}{K:α->Prop}{x:α}(h:AO w b cs t)(hx:cs[o]?=some (V x))(hk:K x):Ld w ⟨b,o,none⟩ V K:=⟨x,by rw[h.cell];exact hx,hk⟩
theorem Hx.ld{α:Type}{V:α->Value}{K:α->Prop}{x:α}(h:Hx w0 F w L)(i:Nat)(hi:L[i]?=some (b,cs,t))(hx:cs[o]?=some (V x))(hk:K x):Ld w ⟨b,o,none⟩ V K:=
 Ld.of (h.get i hi) hx hk
theorem AP.of{α:Type}{S:World->Prop}{V:α->Value}{K:α->Prop}{x:α}(h:∀w,S w->AO w b cs t)(hx:cs[o]?=some (V x))(hk:K x):AP S ⟨b,o,none⟩ V K:=
 ⟨x,fun w hw=>by rw[(h w hw).cell];exact hx,hk⟩
theorem Sc {l:List Nat}(h:l.Nodup){i j x:Nat}(hi:l[i]?=some x)(hj:l[j]?=some x):i=j:=by
 obtain ⟨h1,e1⟩:=ao.1 hi;obtain ⟨h2,e2⟩:=ao.1 hj;exact (List.getElem_inj h).1 (e1.trans e2.symm)
theorem Wm {v:Array Value×TypeId}{i:Nat}{c:Array Value×TypeId}(hi:L[i]?=some (b,c)):(L.set i (b,v)).map (·.1)=L.map (·.1):=by
 rw[dM];refine db fun j=>?_
 rw[cD];split
 ·rename_i e;subst e;have:(L.map (·.1))[i]?=some b:=by simp[hi]
  rw[this];simp;exact (ao.1 hi).1
 ·rfl
theorem Hx.Rr(h:Hx w0 F w L)(i:Nat)(hi:L[i]?=some (b,cs,t)){w2:World}{CU:Array Value}(hb:AO w2 b CU t)(he:Ext (·=b) w w2)(hF:F b\/w0.heap.size<=b):Hx w0 F w2 (L.set i (b,CU,t)):=by
 refine ⟨fun p hp=>?_,by rw[Wm hi];exact h.nodup,h.ext.trans he (fun _ h=>h) fun k hk e=>?_⟩
 ·obtain ⟨j,hj⟩:=cZ hp;rw[cD]at hj;split at hj
  ·split at hj
   ·cases hj;exact hb
   ·cases hj
  ·rename_i A2;refine he.AS (h.AS p (aB hj)) fun e=>A2 ?_
   exact Sc h.nodup (x:=b) (by simp[hi]) (by simp[hj,e])
 ·subst e;rcases hF with hF|hF
  ·exact hF
  ·omega
theorem Hx.st{v:Value}{K:World->Prop}(h:Hx w0 F w L)(i:Nat)(hi:L[i]?=some (b,cs,t))(ho:o<cs.size)(hF:F b\/w0.heap.size<=b)
  (k:∀w2,Hx w0 F w2 (L.set i (b,cs.setIfInBounds o v,t))->K w2):St w ⟨b,o,none⟩ v K:=
 ⟨(h.get i hi).can ho,k _ (h.Rr i hi ((h.get i hi).set o v) ((Ext.refl (·=b) w).set (.inl rfl) v) hF)⟩
theorem Hx.AB(h:Hx w0 F w L){w2:World}(he:Ext (fun _=>False) w w2):Hx w0 F w2 L:=
 ⟨fun p hp=>he.AS (h.AS p hp) id,h.nodup,h.ext.trans he (fun _ h=>h) (fun _ _ h=>h.elim)⟩
theorem Hx.drew(h:Hx w0 F w L):Hx w0 F w.drew L:=h.AB (Ext.refl _ w).drew
theorem Hx.push(h:Hx w0 F w L)(hb:AO w b cs t)(A2:b∉L.map (·.1)):Hx w0 F w (L++[(b,cs,t)]):=
 ⟨fun p hp=>(aQ.1 hp).elim (h.AS p) fun e=>by rw[az.1 e];exact hb,
  by rw[bh];exact dP.2 ⟨h.nodup,by simp,fun a ha c hc e=>A2 (by simp at hc;rw[<-hc,<-e];exact ha)⟩,h.ext⟩
theorem Hx.fresh(h:Hx w0 F w L):w.heap.size∉L.map (·.1):=fun hm=>by
 obtain ⟨p,hp,e⟩:=cJ.1 hm;have:=(h.AS p hp).lt;omega
theorem Hx.nw{K:World->Prop}(h:Hx w0 F w L)(k:∀w2,Hx w0 F w2 (L++[(w.heap.size,cs,t)])->K w2):Nw w (.cells cs t) K:=
 k _ ((h.AB ((Ext.refl _ w).alloc _)).push (AO.new w cs t) h.fresh)
theorem Hx.Ro{K:World->Prop}(h:Hx w0 F w L)(k:∀w2,Hx w0 F w2 (L++[(w.heap.size,cs,t)])->Ext (fun _=>False) w w2->K w2):Nw w (.cells cs t) K:=
 k _ ((h.AB ((Ext.refl _ w).alloc _)).push (AO.new w cs t) h.fresh) ((Ext.refl _ w).alloc _)
theorem Hx.EV{v:Value}{K:World->Prop}(h:Hx w0 F w L)(i:Nat)(hi:L[i]?=some (b,cs,t))(ho:o<cs.size)(hF:F b\/w0.heap.size<=b)
  (k:∀w2,Hx w0 F w2 (L.set i (b,cs.setIfInBounds o v,t))->Ext (·=b) w w2->K w2):St w ⟨b,o,none⟩ v K:=
 ⟨(h.get i hi).can ho,k _ (h.Rr i hi ((h.get i hi).set o v) ((Ext.refl (·=b) w).set (.inl rfl) v) hF) ((Ext.refl (·=b) w).set (.inl rfl) v)⟩
theorem Hx.only(h:Hx w0 F w L)(i:Nat)(hi:L[i]?=some (b,cs,t)):Hx w0 F w [(b,cs,t)]:=
 ⟨fun p hp=>by rw[az.1 hp];exact h.get i hi,by simp,h.ext⟩
theorem Hx.left{M:List (Nat×Array Value×TypeId)}(h:Hx w0 F w (L++M)):Hx w0 F w L:=
 ⟨fun p hp=>h.AS p (cF _ hp),by have:=h.nodup;rw[bh]at this;exact (dP.1 this).1,h.ext⟩
theorem Hx.other{G:Nat->Prop}{w2:World}(h:Hx w0 F w L)(he:Ext G w w2)(hL:∀j,G j->j∉L.map (·.1))(hF:∀j,G j->F j\/w0.heap.size<=j):Hx w0 F w2 L:=
 ⟨fun p hp=>he.AS (h.AS p hp) fun hg=>hL _ hg (de hp),h.nodup,h.ext.trans he (fun _ h=>h) fun k hk hg=>(hF k hg).elim id fun h2=>by omega⟩
theorem Hx.size(h:Hx w0 F w L):w0.heap.size<=w.heap.size:=h.ext.size
theorem Hx.start(w:World)(F:Nat->Prop):Hx w F w []:=⟨fun _ h=>(bQ h).elim,List.nodup_nil,Ext.refl _ _⟩
theorem Hx.one(h:AO w b cs t):Hx w F w [(b,cs,t)]:=⟨fun p hp=>by rw[az.1 hp];exact h,by simp,Ext.refl _ _⟩
end
def arr (L:List (Nat×List Value×TypeId)):List (Nat×Array Value×TypeId):=L.map fun p=>(p.1,p.2.1.toArray,p.2.2)
structure Hn (w0 w:World) (L:List (Nat×List Value×TypeId)):Prop where
 h:Hx w0 (fun _=>False) w (arr L)
 new:∀p∈L,w0.heap.size<=p.1
section
variable {w0 w:World} {L:List (Nat×List Value×TypeId)} {b o:Nat} {cs:List Value} {t:TypeId}
theorem Ub {i:Nat}(hi:L[i]?=some (b,cs,t)):(arr L)[i]?=some (b,cs.toArray,t):=by
 unfold arr;rw[aE,hi]
 rfl
theorem Ja:(arr L).map (·.1)=L.map (·.1):=by
 unfold arr;rw[ei]
 rfl
theorem Hn.start(w:World):Hn w w []:=⟨Hx.start w _,fun _ h=>(bQ h).elim⟩
theorem Hn.ext(h:Hn w0 w L):Ext (fun _=>False) w0 w:=h.h.ext
theorem Hn.size(h:Hn w0 w L):w0.heap.size<=w.heap.size:=h.h.ext.size
theorem Hn.get(h:Hn w0 w L)(i:Nat)(hi:L[i]?=some (b,cs,t)):AO w b cs.toArray t:=h.h.get i (Ub hi)
theorem Hn.lt(h:Hn w0 w L)(i:Nat)(hi:L[i]?=some (b,cs,t)):b<w.heap.size:=(h.get i hi).lt
theorem Hn.ge(h:Hn w0 w L)(i:Nat)(hi:L[i]?=some (b,cs,t)):w0.heap.size<=b:=h.new _ (aB hi)
theorem Hn.ACA(h:Hn w0 w L){j:Nat}(hj:j∈L.map (·.1)):j<w.heap.size:=by
 obtain ⟨p,hp,e⟩:=cJ.1 hj;obtain ⟨i,hi⟩:=cZ hp;have:=h.lt i (b:=p.1) (cs:=p.2.1) (t:=p.2.2) hi;omega
theorem Hn.ld{α:Type}{V:α->Value}{K:α->Prop}{x:α}(h:Hn w0 w L)(i:Nat)(hi:L[i]?=some (b,cs,t))(hx:cs[o]?=some (V x))(hk:K x):Ld w ⟨b,o,none⟩ V K:=
 h.h.ld i (Ub hi) (by simpa using hx) hk
theorem Hn.set(h:Hn w0 w L){w2:World}{CU:List Value}(i:Nat)(hi:L[i]?=some (b,cs,t))(h2:Hx w0 (fun _=>False) w2 ((arr L).set i (b,CU.toArray,t))):Hn w0 w2 (L.set i (b,CU,t)):=
 ⟨by unfold arr at h2⊢;rw[dM];exact h2,fun p hp=>by
  rcases dg hp with hp|rfl
  ·exact h.new p hp
  ·exact h.ge i hi⟩
theorem Hn.EV{v:Value}{K:World->Prop}(h:Hn w0 w L)(i:Nat)(hi:L[i]?=some (b,cs,t))(ho:o<cs.length)
  (k:∀w2,Hn w0 w2 (L.set i (b,cs.set o v,t))->Ext (·=b) w w2->K w2):St w ⟨b,o,none⟩ v K:=
 h.h.EV i (Ub hi) (by simpa using ho) (.inr (h.ge i hi)) fun w2 h2 he=>k w2 (h.set i hi (by simpa using h2)) he
theorem Hn.st{v:Value}{K:World->Prop}(h:Hn w0 w L)(i:Nat)(hi:L[i]?=some (b,cs,t))(ho:o<cs.length)
  (k:∀w2,Hn w0 w2 (L.set i (b,cs.set o v,t))->K w2):St w ⟨b,o,none⟩ v K:=h.EV i hi ho fun w2 h2 _=>k w2 h2
theorem Hn.AB(h:Hn w0 w L){w2:World}(he:Ext (fun _=>False) w w2):Hn w0 w2 L:=⟨h.h.AB he,h.new⟩
theorem Hn.drew(h:Hn w0 w L):Hn w0 w.drew L:=⟨h.h.drew,h.new⟩
theorem Hn.Ro{K:World->Prop}(h:Hn w0 w L)(k:∀w2,Hn w0 w2 (L++[(w.heap.size,cs,t)])->Ext (fun _=>False) w w2->K w2):Nw w (.cells cs.toArray t) K:=
 h.h.Ro fun w2 h2 he=>k w2 ⟨by unfold arr at h2⊢;rw[bh];exact h2,fun p hp=>(aQ.1 hp).elim (h.new p) fun hp=>by rw[az.1 hp];exact h.size⟩ he
theorem Hn.nw{K:World->Prop}(h:Hn w0 w L)(k:∀w2,Hn w0 w2 (L++[(w.heap.size,cs,t)])->K w2):Nw w (.cells cs.toArray t) K:=h.Ro fun w2 h2 _=>k w2 h2
theorem Hn.left{M:List (Nat×List Value×TypeId)}(h:Hn w0 w (L++M)):Hn w0 w L:=
 ⟨by have:=h.h;unfold arr at this⊢;rw[bh]at this;exact this.left,fun p hp=>h.new p (cF _ hp)⟩
theorem Hn.other{G:Nat->Prop}{w2:World}(h:Hn w0 w L)(he:Ext G w w2)(hG:∀j,G j->w0.heap.size<=j/\j∉L.map (·.1)):Hn w0 w2 L:=
 ⟨h.h.other he (fun j hj=>by rw[Ja];exact (hG j hj).2) fun j hj=> .inr (hG j hj).1,h.new⟩
theorem Hn.push(h:Hn w0 w L)(hb:AO w b cs.toArray t)(hn:w0.heap.size<=b)(A2:b∉L.map (·.1)):Hn w0 w (L++[(b,cs,t)]):=
 ⟨by have:=h.h.push hb (by rw[Ja];exact A2);unfold arr at this⊢;rw[bh];exact this,fun p hp=>(aQ.1 hp).elim (h.new p) fun hp=>by rw[az.1 hp];exact hn⟩
end
theorem AE {n:Int}(h:-9223372036854775808<=n/\n<=9223372036854775807):IntKind.i64.wrap n=n:=IntWalk.i64_in n h
theorem Hu {n:Int}(h:0<=n/\n<=255):IntKind.u8.wrap n=n:=IntWalk.u8_in n h
theorem Km {a b:Int}(h:0<=a):Int.tdiv a b=a/b:=Int.tdiv_eq_ediv_of_nonneg h
theorem F0 {a b:Int}(h:0<=a):Int.tmod a b=a%b:=Int.tmod_eq_emod_of_nonneg h
theorem Br.dec{p:Prop}[Decidable p]{A B:Prop}(h1:p->A)(h2:¬p->B):Br (decide p) A B:=by
 by_cases h:p
 ·rw[aD h];exact h1 h
 ·rw[aP h];exact h2 h
theorem Br.eq{α:Type}[BEq α][LawfulBEq α]{a b:α}{A B:Prop}(h1:a=b->A)(h2:a≠b->B):Br (a==b) A B:=
 AX (fun h=>h1 (by simpa using h)) fun h=>h2 (by simpa using h)
theorem Br.ne{α:Type}[BEq α][LawfulBEq α]{a b:α}{A B:Prop}(h1:a≠b->A)(h2:a=b->B):Br (a !=b) A B:=
 AX (fun h=>h1 (by simpa using h)) fun h=>h2 (by simpa using h)
theorem Ah (s:ByteArray):s.size=s.data.toList.length:=aK.symm
theorem Ao (s:ByteArray)(a b:Nat):(s.extract a b).data.toList=(s.data.toList.drop a).take (b-a):=by
 rw[ByteArray.data_extract,Array.toList_extract,List.extract_eq_take_drop]
theorem Bp (s:ByteArray)(a:Nat):(s.extract a s.size).data.toList=s.data.toList.drop a:=by
 rw[Ao,aX];rw[aJ,Ah];exact av _
theorem DX (s:ByteArray)(i:Nat):Cp s (i:Int)=((s.data.toList.getD i 0).toNat:Int):=by
 unfold Cp;rw[aa,bO,af,dG]
theorem FW {s t:ByteArray}(h:s.data.toList=t.data.toList):s=t:=by
 cases s;cases t;simp only[ByteArray.mk.injEq];exact Array.toList_inj.1 h
@[simp] theorem AA.gR (a b : AA) : AA.v a = AA.v b ↔ a = b := by
 cases a;cases b;simp[AA.v]
end Sh
namespace Sh
def Row (w:World)(s:AA)(e:TypeId)(k:Nat)(xs:List Value):Prop:=
 xs.length=s.len*k/\(s=⟨none,0,0⟩\/∃g cur,s.p=some ⟨g,0,none⟩/\AO w g cur e/\s.len<=s.cap/\cur.size=s.cap*k/\cur.toList.take (s.len*k)=xs)
def AA.own(s:AA)(j:Nat):Prop:=∃a,s.p=some a/\a.block=j
theorem Row.nil(w:World)(e:TypeId)(k:Nat):Row w ⟨none,0,0⟩ e k []:=⟨by simp,.inl rfl⟩
theorem Row.own_lt{w:World}{s:AA}{e:TypeId}{k:Nat}{xs:List Value}(h:Row w s e k xs){j:Nat}(hj:s.own j):j<w.heap.size:=by
 obtain ⟨a,ha,rfl⟩:=hj;rcases h.2 with rfl|⟨g,cur,hp,hb,_⟩
 ·cases ha
 ·rw[hp]at ha;cases ha;exact hb.lt
theorem Row.AB{F:Nat->Prop}{w w':World}{s:AA}{e:TypeId}{k:Nat}{xs:List Value}(h:Row w s e k xs)(he:Ext F w w')(hn:∀j,s.own j->¬F j):Row w' s e k xs:=by
 refine ⟨h.1,?_⟩;rcases h.2 with h2|⟨g,cur,hp,hb,r⟩
 ·exact .inl h2
 ·exact .inr ⟨g,cur,hp,he.AS hb (hn g ⟨_,hp,rfl⟩),r⟩
theorem Row.new(w:World)(cs:Array Value)(e:TypeId)(k n:Nat)(h:cs.size=n*k):Row (w.alloc (.cells cs e)) ⟨some ⟨w.heap.size,0,none⟩,n,n⟩ e k cs.toList:=
 ⟨by simpa using h,.inr ⟨_,cs,rfl,AO.new w cs e,av _,h,aX (by simp[h])⟩⟩
theorem Row.cell{w:World}{s:AA}{e:TypeId}{k:Nat}{xs:List Value}(h:Row w s e k xs){j:Nat}{v:Value}(hj:xs[j]?=some v):∃g,s.p=some ⟨g,0,none⟩/\w.cell? ⟨g,j,none⟩=some v:=by
 rcases h.2 with h2|⟨g,cur,hp,hb,_,_,ht⟩
 ·have h1:=h.1;rw[h2]at h1;have:xs=[]:=aw (by simpa using h1);rw[this]at hj;cases hj
 ·refine ⟨g,hp,?_⟩;rw[hb.cell];rw[<-ht,aU]at hj;split at hj
  ·simpa using hj
  ·cases hj
section
variable {P:Program} {w:World} {s:AA} {t u ty e:TypeId} {i:TypeInfo} {z:Value} {xs news:List Value} {x:Value} {m:Nat}
theorem Pe (ht:P.underlying t=some (.slice e))(hu:(∃e',P.underlying u=some (.slice e'))\/P.underlying u=some .string)(hi:P.info? e=some i)(hz:i.zero=some z)(hzs:z.cells.size=i.size)
  (hlen:Builtin.lenOf x=pure m) (FX:∀w':World,w'.heap=w.heap->(Builtin.firstCells i.size m x).run P w'= .ok news.toArray w') (hl:news.length=m*i.size)
  (h1:∀v∈news,v.oneCell'=true) (own:Row w s e i.size xs) (hb:(s.len+m)*i.bytes<=140737488355328) (h63:s.len+m<=9223372036854775807):
  ∃s' w',BW P (Builtin.append_ #[t,u] ty #[AA.v s,x]) w (AA.v s') w'/\Row w' s' e i.size (xs++news)/\s'.len=s.len+m/\Ext s.own w w'/\∀j,s'.own j->s.own j\/w.heap.size<=j:=by
 have Om:=own.1;have NR:(xs++news).length=(s.len+m)*i.size:=by rw[ae,Om,hl,bN]

 have grown:∀(c:Nat),Row (w.drew.alloc (.cells (xs.toArray++news.toArray++Builtin.zeroCells z.cells (grownCap w (s.len+m) c e-(s.len+m))) e))
   ⟨some ⟨w.heap.size,0,none⟩,s.len+m,grownCap w (s.len+m) c e⟩ e i.size (xs++news):=by
  intro c;have MD:=grownCap_ge w (s.len+m) c e;refine ⟨NR,.inr ⟨_,_,rfl,AO.new w.drew _ e,MD,?_,?_⟩⟩
  ·simp only[dN,aZ,size_zeroCells,hzs,Om,hl,<-bN]
   congr 1
   omega
  ·simp only[cR];rw[<-NR];exact List.take_left
 have mf:∀c,c<s.len+m->Builtin.nextslicecap (s.len+m) c*i.bytes<=281474976710656:=fun c hc=>growslice_fits hc hb
 have AH5:¬(((s.len+m:Nat):Int)>IntKind.i64.max):=by
  have:IntKind.i64.max=9223372036854775807:=by decide
  omega
 have hd:w.drew.heap=w.heap:=rfl;rcases own.2 with rfl|⟨g,cur,hp,hg,hle,A1,DD⟩
 ·
  have hx:xs=[]:=aw (by simpa using Om);subst hx;by_cases hm:m=0
  ·subst hm;have hn:news=[]:=aw (by simpa using hl);subst hn;refine ⟨⟨none,0,0⟩,w,?_,Row.nil w e i.size,rfl,Ext.refl _ _,fun j hj=> .inl hj⟩;have hc:=FX w rfl;rcases hu with ⟨e',hu⟩|hu<;>
    simp[BW,AA.v,Builtin.append_,run_underlying ht,run_underlying hu,sizeOf,typeInfo,hi,hlen,hc]
  ·refine ⟨_,_,?_,grown 0,rfl,((Ext.refl _ w).drew).alloc _,fun j hj=>?_⟩
   ·have hc:=FX w.drew hd;have hn:¬(0+m<=0):=by omega
    have hf:=mf 0 (by simp;omega);simp only[aj]at hf AH5;have Cr:¬(281474976710656<Builtin.nextslicecap m 0*i.bytes):=by omega
    have h6:¬(9223372036854775807<(m:Int)):=by simp only[aj]at h63;omega
    rcases hu with ⟨e',hu⟩|hu<;>
     simp[BW,AA.v,Builtin.append_,run_underlying ht,run_underlying hu,sizeOf,typeInfo,zeroValue,hi,hz,hlen,hm,h6,Cr,Question.forced,run_firstCells_none,hc,newRow,grownCap]
   ·obtain ⟨a,ha,rfl⟩:=hj;cases ha;exact .inr (av _)
 ·obtain ⟨p,len,cap⟩:=s;simp only at hp hle A1 DD Om NR hb h63 AH5 mf grown;subst hp;by_cases Kn:len+m<=cap
  ·
   have Du:len*i.size+news.length<=cur.size:=by rw[hl,A1,<-bN];exact cL _ Kn
   have IT:=run_storeCells_at P g (len*i.size) e news 0 cur w hg (by simpa using Du) h1;simp only[bY]at IT;have hc:=FX w rfl;refine ⟨⟨some ⟨g,0,none⟩,len+m,cap⟩,w.setRow g (cur.toList.take (len*i.size)++news++cur.toList.drop (len*i.size+news.length)).toArray,?_,⟨NR,.inr ⟨g,(cur.toList.take (len*i.size)++news++cur.toList.drop (len*i.size+news.length)).toArray,rfl,setRow_heap w g cur _ e _ hg,Kn,?_,?_⟩⟩,rfl,⟨rfl,rfl,rfl,by simp[World.setRow],fun k _ hk=>setRow_other w g k _ (fun e=>hk ⟨_,rfl,e.symm⟩)⟩,fun j hj=> .inl hj⟩
   ·rcases hu with ⟨e',hu⟩|hu<;>
     simp[BW,AA.v,Builtin.append_,run_underlying ht,run_underlying hu,sizeOf,typeInfo,hi,hlen,Kn,hc,IT]
   ·simp only[aZ,ae,au,aJ,aK];omega
   ·rw[DD];show List.take ((len+m)*i.size) _=_;rw[<-NR];exact List.take_left
  ·
   refine ⟨_,_,?_,grown cap,rfl,((Ext.refl _ w).drew).alloc _,fun j hj=>?_⟩
   ·have hc:=FX w.drew hd;have hf:=mf cap (by omega);have Cr:¬(281474976710656<Builtin.nextslicecap (len+m) cap*i.bytes):=by omega
    have h6:¬(9223372036854775807<((len:Int)+(m:Int))):=by omega
    have holds:∀j v,xs[j]?=some v->w.drew.cell? ((⟨g,0,none⟩:Addr).add j)=some v:=fun j v hj=>by
     obtain ⟨g',IJ,h⟩:=own.cell hj;cases IJ;simpa using h
    have hfo:=run_firstCells_some (P:=P) w.drew i.size len ⟨g,0,none⟩ len cap xs Om holds;rcases hu with ⟨e',hu⟩|hu<;>
     simp[BW,AA.v,Builtin.append_,run_underlying ht,run_underlying hu,sizeOf,typeInfo,zeroValue,hi,hz,hlen,Kn,h6,Cr,Question.forced,hfo,hc,newRow,grownCap]<;>
     (congr 2;apply Array.ext';simp[ax])
   ·obtain ⟨a,ha,rfl⟩:=hj;cases ha;exact .inr (av _)
end
end Sh
namespace Sh
def Bw (l:List UInt8):List Value:=l.map fun b=> .int .u8 (b.toNat:Int)
theorem An (l:List UInt8):(Bw l).length=l.length:=by simp[Bw]
theorem PN (l m:List UInt8):Bw (l++m)=Bw l++Bw m:=by simp[Bw]
theorem TQ (l:List UInt8):∀v∈Bw l,v.oneCell'=true:=by
 intro v hv;obtain ⟨b,_,rfl⟩:=cJ.1 hv
 rfl
theorem Oo {l:List UInt8}{i:Nat}{b:UInt8}(h:l[i]?=some b):(Bw l)[i]?=some (.int .u8 (b.toNat:Int)):=by simp[Bw,h]
def BQ (w:World)(s:AA)(l:List UInt8):Prop:=Row w s 5 1 (Bw l)
theorem BQ.len{w:World}{s:AA}{l:List UInt8}(h:BQ w s l):s.len=l.length:=by
 have:=h.1;rw[An]at this;omega
theorem BQ.nil(w:World):BQ w ⟨none,0,0⟩ []:=Row.nil w _ _
theorem BQ.AB{F:Nat->Prop}{w w':World}{s:AA}{l:List UInt8}(h:BQ w s l)(he:Ext F w w')(hn:∀j,s.own j->¬F j):BQ w' s l:=Row.AB h he hn
theorem BQ.own_lt{w:World}{s:AA}{l:List UInt8}(h:BQ w s l){j:Nat}(hj:s.own j):j<w.heap.size:=Row.own_lt h hj
theorem BQ.get{w:World}{s:AA}{l:List UInt8}(h:BQ w s l){i:Nat}{b:UInt8}(hi:l[i]?=some b):∃g,s.p=some ⟨g,0,none⟩/\w.cell? ⟨g,i,none⟩=some (.int .u8 (b.toNat:Int)):=Row.cell h (Oo hi)
theorem Bj:prog.underlying 108=some (.slice 5):=by kernel_rfl
theorem Gh:prog.underlying 5=some (.int .u8):=by kernel_rfl
theorem Cb:prog.underlying 9=some .string:=by kernel_rfl
theorem Yj:(match prog.info? 5 with
 |some i=>Nat.beq i.size 1&&Nat.beq i.bytes 1&&(match i.zero with
  |some z=>Nat.beq z.cells.size 1
  |none=>false)
 |none=>false)=true:=by kernel_rfl
theorem jW:∃i z,prog.info? 5=some i/\i.size=1/\i.bytes=1/\i.zero=some z/\z.cells.size=1:=by
 have h:=Yj;split at h
 ·rename_i i hi;simp only[ay]at h;obtain ⟨⟨h1,h2⟩,h3⟩:=h;split at h3
  ·rename_i z hz;exact ⟨i,z,hi,cS h1,cS h2,hz,cS h3⟩
  ·cases h3
 ·cases h
section
variable {w:World} {s:AA} {ty:TypeId} {l news:List UInt8} {x:Value}
def Ij (w:World)(s:AA)(l:List UInt8)(r:Sem Value):Prop:=
 ∃s' w',BW prog r w (AA.v s') w'/\BQ w' s' l/\Ext s.own w w'/\∀j,s'.own j->s.own j\/w.heap.size<=j
theorem Tp {u:TypeId}(hu:(∃e',prog.underlying u=some (.slice e'))\/prog.underlying u=some .string)
  (hlen:Builtin.lenOf x=pure news.length) (FX:∀w':World,w'.heap=w.heap->(Builtin.firstCells 1 news.length x).run prog w'= .ok (Bw news).toArray w')
  (own:BQ w s l) (hb:l.length+news.length<=1099511627776):Ij w s (l++news) (Builtin.append_ #[108,u] ty #[AA.v s,x]):=by
 obtain ⟨i,z,hi,h1,h2,hz,hzs⟩:=jW;have Ga:=own.len;obtain ⟨s',w',hr,ho,_,he,hf⟩:=Pe (P:=prog) (w:=w) (s:=s) (t:=108) (u:=u) (ty:=ty) (e:=5) (i:=i) (z:=z) (xs:=Bw l) (news:=Bw news) (x:=x) (m:=news.length)
  Bj hu hi hz (by rw[hzs,h1]) hlen (by rw[h1];exact FX) (by rw[An,h1,aH]) (TQ news) (by rw[h1];exact own) (by rw[h2,Ga];omega) (by rw[Ga];omega)
 exact ⟨s',w',hr,by unfold BQ;rw[PN,<-h1];exact ho,he,hf⟩
theorem fS (own:BQ w s l)(t:ByteArray)(hb:l.length+t.size<=1099511627776):Ij w s (l++t.data.toList) (Builtin.append_ #[108,9] ty #[AA.v s,.string t]):=by
 have hl:t.data.toList.length=t.size:=aK;have hx:t.extract 0 t.size=t:=by simp
 refine Tp (.inr Cb) (by rw[hl];rfl) (fun w' _=>?_) own (by rw[hl];exact hb);show Result.ok _ _=_
 congr 1
 apply Array.ext';rw[hl,hx];simp[Bw]
theorem Kj {s2:AA}{m:List UInt8}(own:BQ w s l)(h2:BQ w s2 m)(hb:l.length+m.length<=1099511627776):Ij w s (l++m) (Builtin.append_ #[108,108] ty #[AA.v s,AA.v s2]):=by
 refine Tp (.inl ⟨_,Bj⟩) (by rw[<-h2.len];rfl) (fun w' jR=>?_) own hb;rcases h2.2 with rfl|⟨g,cur,hp,hg,hle,A1,DD⟩
 ·have:m=[]:=aw (by have:=h2.len;simpa using this.symm);subst this;exact run_firstCells_none (P:=prog) (w:=w') 1 0 0 0
 ·obtain ⟨p,len,cap⟩:=s2;simp only at hp;subst hp;refine run_firstCells_some w' 1 m.length ⟨g,0,none⟩ len cap (Bw m) (by rw[An,aH]) fun j v hj=>?_
  obtain ⟨g',IJ,h⟩:=Row.cell h2 hj;cases IJ;simpa[World.cell?,jR]using h
theorem Ou {g:Nat}{b:UInt8}(own:BQ w s l)(hg:AO w g #[.int .u8 (b.toNat:Int)] 5)(hb:l.length+1<=1099511627776):
  Ij w s (l++[b]) (Builtin.append_ #[108,108] ty #[AA.v s,AA.v ⟨some ⟨g,0,none⟩,1,1⟩]):=
 Kj own (s2:=⟨some ⟨g,0,none⟩,1,1⟩) (m:=[b]) ⟨rfl,.inr ⟨g,_,rfl,hg,av _,rfl,rfl⟩⟩ hb
theorem OK (l:List UInt8):strOfNums (l.map fun b=>(b.toNat:Int))=⟨l.toArray⟩:=by
 unfold strOfNums
 congr 1
 simp[Function.comp_def]
theorem HP (h:BQ w s l):BW prog (convert 108 9 (AA.v s)) w (.string ⟨l.toArray⟩) w:=by
 rcases h.2 with rfl|⟨g,cur,hp,hg,hle,A1,DD⟩
 ·have:l=[]:=aw (by have:=h.len;simpa using this.symm);subst this;exact run_convert_bytes_nil w _ _ Bj Gh 0 0 _ Cb
 ·obtain ⟨p,len,cap⟩:=s;simp only at hp;subst hp;have:=run_convert_bytes_arg (P:=prog) w 108 5 Bj Gh g 0 len cap (l.map fun b=>(b.toNat:Int)) (by rw[bp];exact h.len.symm) (fun i hi=>by
   have FP:i<l.length:=by have:=h.len;simp only at this;omega
   obtain ⟨g',IJ,hc⟩:=h.get (ad FP);cases IJ;rw[aj,hc];simp[List.getD,FP]) 9 Cb
  rw[OK]at this;exact this
theorem BQ.set(h:BQ w s l){i:Nat}(hi:i<l.length)(b:UInt8):∃g,s.p=some ⟨g,0,none⟩/\Kl w ⟨g,i,none⟩/\BQ (w.setCell ⟨g,i,none⟩ (.int .u8 (b.toNat:Int))) s (l.set i b)/\Ext (·=g) w (w.setCell ⟨g,i,none⟩ (.int .u8 (b.toNat:Int))):=by
 rcases h.2 with rfl|⟨g,cur,hp,hg,hle,A1,DD⟩
 ·have:=h.len;simp only at this;omega
 ·have hlen:=h.len;have Am:i<cur.size:=by omega
  refine ⟨g,hp,hg.can Am,⟨by rw[An,br,hlen,aH],.inr ⟨g,_,hp,hg.set i _,hle,by simpa using A1,?_⟩⟩,(Ext.refl (·=g) w).set (.inl rfl) _⟩;rw[Array.toList_setIfInBounds,List.take_set,DD];simp[Bw,dM]
end
end Sh
namespace Sh
structure El (P:Program) (t e:TypeId) (k B:Nat) (z:Value):Prop where
 fP:P.underlying t=some (.slice e)
 size:(P.info? e).map (·.size)=some k
 bytes:(P.info? e).map (·.bytes)=some B
 zero:(P.info? e).bind (·.zero)=some z
 cells:z.cells.size=k
def Bh (w:World)(s:AA)(k:Nat)(ys:List Value):Prop:=ys.length=s.len*k/\∀j v,ys[j]?=some v->∃a,s.p=some a/\w.cell? (a.add j)=some v
theorem Bh.AB{w w':World}{s:AA}{k:Nat}{ys:List Value}(h:Bh w s k ys)(he:Ext (fun _=>False) w w'):Bh w' s k ys:=
 ⟨h.1,fun j v hj=>by obtain ⟨a,ha,hc⟩:=h.2 j v hj;exact ⟨a,ha,he.Bn hc⟩⟩
theorem Bl (a:Addr)(n:Nat):(a.add n).block=a.block:=by unfold Addr.add;split<;>(try split)<;>rfl
theorem Bh.AI{F:Nat->Prop}{w w':World}{s:AA}{k:Nat}{ys:List Value}(h:Bh w s k ys)(he:Ext F w w')(hF:∀j,s.own j->¬F j):Bh w' s k ys:=
 ⟨h.1,fun j v hj=>by
  obtain ⟨a,ha,hc⟩:=h.2 j v hj;refine ⟨a,ha,?_⟩;rw[he.cell (BJ hc) (by rw[Bl];exact hF _ ⟨a,ha,rfl⟩)];exact hc⟩
theorem Row.view{w:World}{s:AA}{e:TypeId}{k:Nat}{xs:List Value}(h:Row w s e k xs):Bh w s k xs:=
 ⟨h.1,fun j v hj=>by
  obtain ⟨g,hg,hc⟩:=h.cell hj;exact ⟨_,hg,by rw[add_lit,aj];exact hc⟩⟩
theorem Bh.of{w:World}{b n k:Nat}{cs:List Value}{t:TypeId}(hb:AO w b cs.toArray t)(hn:cs.length=n*k):Bh w ⟨some ⟨b,0,none⟩,n,n⟩ k cs:=
 ⟨hn,fun j v hj=>⟨_,rfl,by rw[add_lit,hb.cell,aj];simpa using hj⟩⟩
section
variable {P:Program} {t e:TypeId} {k B:Nat} {z:Value} {w:World} {s s2:AA} {ty:TypeId} {xs ys:List Value}
theorem El.info(h:El P t e k B z):∃i,P.info? e=some i/\i.size=k/\i.bytes=B/\i.zero=some z:=by
 cases hi:P.info? e with
 |none=>have:=h.size;rw[hi]at this;cases this
 |some i=>
  have h1:=h.size;have h2:=h.bytes;have h3:=h.zero;rw[hi]at h1 h2 h3;exact ⟨i,rfl,by simpa using h1,by simpa using h2,by simpa using h3⟩
theorem El.app(h:El P t e k B z)(own:Row w s e k xs)(h2:Bh w s2 k ys)(h1:∀v∈ys,v.oneCell'=true)(hb:(s.len+s2.len)*B<=140737488355328)(h63:s.len+s2.len<=9223372036854775807):
  ∃s' w',BW P (Builtin.append_ #[t,t] ty #[AA.v s,AA.v s2]) w (AA.v s') w'/\Row w' s' e k (xs++ys)/\s'.len=s.len+s2.len/\Ext s.own w w'/\∀j,s'.own j->s.own j\/w.heap.size<=j:=by
 obtain ⟨i,hi,rfl,rfl,hz⟩:=h.info;refine Pe (P:=P) (w:=w) (s:=s) (t:=t) (u:=t) (ty:=ty) (e:=e) (i:=i) (z:=z) (xs:=xs) (news:=ys) (x:=AA.v s2) (m:=s2.len) h.fP (.inl ⟨_,h.fP⟩) hi hz h.cells rfl (fun w' jR=>?_) h2.1 h1 own hb h63;obtain ⟨p,len,cap⟩:=s2;cases p with
 |none=>
  have hy:ys=[]:=by
   cases ys with
   |nil=>rfl
   |cons y r=>
    obtain ⟨a,ha,_⟩:=h2.2 0 y rfl;cases ha
  subst hy;have hl:=h2.1;simp only[bq]at hl;exact run_firstCells_none (P:=P) (w:=w') _ _ _ _
 |some a=>
  refine run_firstCells_some w' i.size len a len cap ys h2.1 fun j v hj=>?_
  obtain ⟨a',ha,hc⟩:=h2.2 j v hj;cases ha;unfold World.cell? at hc⊢;rw[jR];exact hc
theorem El.Ip(h:El P t e k B z){g:Nat}(own:Row w s e k xs)(hg:AO w g ys.toArray e)(hl:ys.length=k)(h1:∀v∈ys,v.oneCell'=true)(hb:(s.len+1)*B<=140737488355328)(h63:s.len+1<=9223372036854775807):
  ∃s' w',BW P (Builtin.append_ #[t,t] ty #[AA.v s,AA.v ⟨some ⟨g,0,none⟩,1,1⟩]) w (AA.v s') w'/\Row w' s' e k (xs++ys)/\s'.len=s.len+1/\Ext s.own w w'/\∀j,s'.own j->s.own j\/w.heap.size<=j:=
 h.app (s2:=⟨some ⟨g,0,none⟩,1,1⟩) own (Bh.of hg (by omega)) h1 hb h63
theorem Vy {zs:List Value}(hk:zs.length=k):∀(c j:Nat),((List.replicate c zs).flatten)[j]?=if j<c*k then zs[j%k]? else none
 |0,j=>by simp
 |c+1,j=>by
  rw[cQ,ct];by_cases hj:j<k
  ·rw[aG (by omega),ak (by rw[bN];omega),bA hj]
  ·rw[aF (by omega),Vy hk c (j-zs.length),hk,bN,eu];by_cases h2:j<c*k+k
   ·have hm:j%k=(j-k)%k:=by
     rw[<-Nat.add_mod_right (j-k) k,Nat.sub_add_cancel (by omega)]
    rw[ak (by omega),ak h2,hm]
   ·rw[ah (by omega),ah h2]
theorem ja {zs:List Value}(hz:z.cells.toList=zs)(hk:zs.length=k)(c:Nat):(madeCells z.cells (c*k)).toList=(List.replicate c zs).flatten:=by
 have A1:z.cells.size=k:=by rw[<-aK,hz,hk]
 apply db;intro j;rw[Vy hk];by_cases hj:j<c*k
 ·have RZ:0<k:=by
   rcases Nat.eq_zero_or_pos k with h|h
   ·subst h;omega
   ·exact h
  have hm:j%k<k:=cX _ RZ;rw[ak hj];unfold madeCells;simp only[dB,Array.toList_range,aE,dc hj,cI,A1];rw[<-hz,dG];have:j%k<z.cells.size:=by omega
  rw[cj this];simp[Array.getElem!_eq_getD,Array.getD,this]
 ·rw[ah hj,bF];rw[aK,size_madeCells];omega
theorem El.make(h:El P t e k B z){zs:List Value}(hz:z.cells.toList=zs)(w:World)(n:Nat)(hb:B*n<=281474976710656)(h63:n<=9223372036854775807):
  ∃w',BW P (Instr.makeSlice t (.int .i64 (n:Int)) (.int .i64 (n:Int))) w (AA.v ⟨some ⟨w.heap.size,0,none⟩,n,n⟩) w'/\w'=w.alloc (.cells ((List.replicate n zs).flatten).toArray e):=by
 obtain ⟨i,hi,rfl,rfl,hzi⟩:=h.info;have hr:=run_make (P:=P) w t e i z h.fP hi hzi .i64 .i64 n n (by omega) (by omega) (by have h:((i.bytes*n:Nat):Int)<=281474976710656:=(by omega);rwa[Int.natCast_mul]at h) (by omega);simp only[aa]at hr;have hl:=ja (k:=i.size) hz (by rw[<-hz,aK];exact h.cells) n;refine ⟨_,hr,?_⟩;rw[<-hl]
end
def StL (b:Nat):Nat->List Value->World->(World->Prop)->Prop
 |_,[],w,K=>K w
 |o,v::vs,w,K=>St w ⟨b,o,none⟩ v fun w'=>StL b (o+1) vs w' K
theorem nj {pre post:List Value}{c v:Value}:(pre++c::post).set pre.length v=pre++v::post:=by
 rw[dh _ _ (av _),cl]
 rfl
theorem Hn.stL{w0:World}{L:List (Nat×List Value×TypeId)}{b:Nat}{t:TypeId}{i:Nat}{K:World->Prop}:∀(vs zs pre post:List Value) (o:Nat) (w:World),Hn w0 w L->L[i]?=some (b,pre++(zs++post),t)->pre.length=o->zs.length=vs.length->
  (∀w2,Hn w0 w2 (L.set i (b,pre++(vs++post),t))->K w2)->StL b o vs w K
 |[],zs,pre,post,o,w,h,hi,ho,hz,k=>by
  have:zs=[]:=aw hz;subst this;have e:L.set i (b,pre++([]++post),t)=L:=by
   apply db;intro j;rw[cD];split
   ·rename_i MG;subst MG;rw[ak (ao.1 hi).1,hi]
   ·rfl
  exact k w (by rw[e];exact h)
 |v::vs,[],pre,post,o,w,h,hi,ho,hz,k=>by cases hz
 |v::vs,z::zs,pre,post,o,w,h,hi,ho,hz,k=>by
  refine h.st i hi (by rw[<-ho];simp) fun w2 h2=>?_
  have e:(pre++(z::zs++post)).set o v=(pre++[v])++(zs++post):=by
   rw[<-ho,ar,nj];simp
  rw[e]at h2;have Am:i<L.length:=(ao.1 hi).1;refine Hn.stL vs zs (pre++[v]) post (o+1) w2 h2 (by rw[da Am]) (by simp[ho]) (by simpa using hz) fun w3 h3=>k w3 ?_
  rw[List.set_set]at h3;simpa using h3
end Sh
namespace Sh
def MI (P:Program)(w:World):Nat->TypeId->List Value->Prop
 |0,_,_=>False
 |n+1,t,cs=>match P.underlying t with
  |some (.int k)=>∃x,cs=[.int k x]/\(Lit.int k x).wf=true
  |some .bool=>∃b,cs=[.bool b]
  |some .string=>∃s:ByteArray,cs=[.string s]/\s.size<=maxLen
  |some (.slice e)=>∃s:AA,cs=[AA.v s]/\(s=⟨none,0,0⟩\/∃a,s.p=some a/\s.len<=s.cap/\s.cap<=maxLen/\
    ∀i,i<s.len->∃CU,CU.length=P.cellsOf e/\(∀j,j<P.cellsOf e->w.cell? (a.add (i*P.cellsOf e+j))=CU[j]?)/\MI P w n e CU)
  |some (.struct fs)=>cs.length=P.cellsOf t/\∀(i:Nat) (f:Field),fs[i]?=some f->MI P w n f.type ((cs.drop f.offset).take (P.cellsOf f.type))
  |some (.array m e)=>cs.length=P.cellsOf t/\∀i,i<m->MI P w n e ((cs.drop (i*P.cellsOf e)).take (P.cellsOf e))
  |some (.pointer e)=>∃p:Option Addr,cs=[.pointer p]/\∀a,p=some a->∃CU,CU.length=P.cellsOf e/\(∀j,j<P.cellsOf e->w.cell? (a.add j)=CU[j]?)/\MI P w n e CU
  |_=>True
theorem BN (a:Addr)(i j:Nat):(a.add i).add j=a.add (i+j):=by
 unfold Addr.add;split
 ·rename_i h;subst h;simp
 ·split
  ·rename_i h;subst h;simp_all
  ·split
   ·omega
   ·simp[cC]
theorem Qq {H:Type}{enc:TypeId×Value->H}{P:Program}{w:World}{spare:Nat->Bool}{held:Bool}:∀(n:Nat) (t:TypeId) (cs:List Value) (x:DataW H×List MemPlace),
  DataW.trod enc P w 0 spare held n t cs=some x->MI P w n t cs
 |0,t,cs,x,h=>by simp[DataW.trod]at h
 |n+1,t,cs,x,h=>by
  unfold MI;split
  ·rename_i k ht;obtain ⟨y,h1,_,h2⟩:=DataW.trod_int ht h;exact ⟨y,h1,h2⟩
  ·rename_i ht;obtain ⟨y,h1,_⟩:=DataW.trod_bool ht h;exact ⟨y,h1⟩
  ·rename_i ht;obtain ⟨y,h1,_,h2⟩:=DataW.trod_string ht h;exact ⟨y,h1,h2⟩
  ·rename_i e ht;rcases DataW.trod_slice ht h with ⟨h0,_⟩|⟨a,len,cap,elems,rest,m,hm,Oj,_,_,hl,hc,hel,hi,_⟩
   ·exact ⟨⟨none,0,0⟩,h0,.inl rfl⟩
   ·cases hm;refine ⟨⟨some a,len,cap⟩,Oj,.inr ⟨a,rfl,hl,hc,fun i FP=>?_⟩⟩;have hg:elems[i]?=some (elems[i]'(by rw[hel];exact FP)):=ad _;have h2:=(hi i FP).trans hg;obtain ⟨CU,h3,h4⟩:=c8.1 h2;obtain ⟨_,h5,h6⟩:=World.cells?_some h3;exact ⟨CU,h5,fun j hj=>by rw[<-BN];exact h6 j hj,Qq n e CU _ h4⟩
  ·rename_i fs ht;obtain ⟨xs,m,hm,_,hl,II,hf⟩:=DataW.trod_struct ht h;cases hm;refine ⟨hl,fun i f hfi=>?_⟩;have Am:i<fs.size:=(aL.1 hfi).1;exact Qq n f.type _ _ ((hf i f hfi).trans (ad (by rw[II];exact Am)))
  ·rename_i m e ht;obtain ⟨xs,m',hm,_,hl,II,hf⟩:=DataW.trod_array ht h;cases hm;exact ⟨hl,fun i hi=>Qq n e _ _ ((hf i hi).trans (ad (by rw[II];exact hi)))⟩
  ·rename_i e ht;rcases DataW.trod_pointer ht h with ⟨h0,_⟩|⟨a,CU,y,m,hm,Oj,_,hc,hy⟩
   ·exact ⟨none,h0,fun a ha=>by cases ha⟩
   ·cases hm;refine ⟨some a,Oj,fun a' ha=>?_⟩;cases ha;obtain ⟨_,h5,h6⟩:=World.cells?_some hc;exact ⟨CU,h5,h6,Qq n e CU y hy⟩
  ·trivial
theorem Xd {H:Type}{enc:TypeId×Value->H}{P:Program}{w:World}{spare:Nat->Bool}{held:Bool}{t:TypeId}{v:Value}{d:DataW H}{ps:List MemPlace}
  (h:DataW.Trod enc P w 0 spare held t v d ps):∃n,MI P w n t v.cells.toList:=by
 obtain ⟨n,hn⟩:=h;exact ⟨n,Qq n t _ _ hn⟩
def Qs (P:Program)(t:TypeId):Option (List (Nat×TypeId)):=match P.underlying t with
 |some (.struct fs)=>some (fs.toList.map fun f=>(f.offset,f.type))
 |_=>none
section
variable {P:Program} {w:World} {n:Nat} {t:TypeId} {cs:List Value}
theorem PG {k:IntKind}(hu:P.underlying t=some (.int k))(h:MI P w n t cs):∃x,cs=[.int k x]/\(Lit.int k x).wf=true:=by
 cases n with
 |zero=>exact h.elim
 |succ n=>unfold MI at h;rw[hu]at h;exact h
theorem KR (hu:P.underlying t=some .string)(h:MI P w n t cs):∃s:ByteArray,cs=[.string s]/\s.size<=maxLen:=by
 cases n with
 |zero=>exact h.elim
 |succ n=>unfold MI at h;rw[hu]at h;exact h
end
theorem Rw {H:Type}{enc:TypeId×Value->H}{P:Program}{W:World}{spare:Nat->Bool}{held:Bool}{t e:TypeId}{v:Value}{d:DataW H}{ps:List MemPlace}{rr:Reach}{b0:Nat}
  (hu:P.underlying t=some (.slice e)) (h0:Value.okWide P W rr b0 t v) (h:DataW.Trod enc P W 0 spare held t v d ps):∃n,MI P W n t [v]:=by
 obtain ⟨n,hn⟩:=Xd h;obtain ⟨a,len,cap,rfl⟩:=Go.WideShapes.okWide_slice hu h0;exact ⟨n,hn⟩
def Z2:TypeDesc->Bool
 | .int _| .bool| .string| .slice _| .pointer _=>true
 |_=>false
def Qt (P:Program):Nat->TypeId->Nat->Option TypeId
 |0,_,_=>none
 |k+1,t,i=>match P.underlying t with
  |some (.struct fs)=>match fs.toList.find? (fun f=>Nat.ble f.offset i&&Nat.blt i (f.offset+P.cellsOf f.type))with
   |some f=>Qt P k f.type (i-f.offset)
   |none=>none
  |some (.array m e)=>match Nat.blt (i/P.cellsOf e) m&&Nat.blt (i%P.cellsOf e) (P.cellsOf e)with
   |true=>Qt P k e (i%P.cellsOf e)
   |false=>none
  |some d=>match Z2 d,i with
   |true,0=>some t
   |_,_=>none
  |none=>none
theorem J7 {α:Type}(l:List α){o s j:Nat}(hj:j<s):(((l.drop o).take s).drop j).take 1=(l.drop (o+j)).take 1:=by
 rw[List.drop_take,ef,List.drop_drop,bo (by omega)]
theorem zJ {P:Program}{w:World}{n:Nat}{t:TypeId}{cs:List Value}{d:TypeDesc}(hu:P.underlying t=some d)(hd:Z2 d=true)(h:MI P w n t cs):(cs.drop 0).take 1=cs:=by
 cases n with
 |zero=>exact h.elim
 |succ n=>
  unfold MI at h;rw[hu]at h;cases d<;>simp only[Z2,bD]at hd
  all_goals
   obtain ⟨x,h1⟩:=h
   first
    |(subst h1;rfl)
    |(rw[h1.1];rfl)
theorem Qu {P:Program}{w:World}:∀(k n:Nat) (t:TypeId) (cs:List Value) (i:Nat) (u:TypeId),MI P w n t cs->Qt P k t i=some u->∃m,MI P w m u ((cs.drop i).take 1)
 |0,_,_,_,_,_,_,h=>by cases h
 |k+1,0,t,cs,i,u,h0,h=>h0.elim
 |k+1,n+1,t,cs,i,u,h0,h=>by
  unfold Qt at h;have h1:=h0;unfold MI at h1;split at h
  ·rename_i fs hu;rw[hu]at h1;split at h
   ·rename_i f hf;obtain ⟨hp,asx,bs,zK,_⟩:=List.find?_eq_some_iff_append.1 hf;simp only[ay]at hp;have h2:=bG hp.1;have h3:i<f.offset+P.cellsOf f.type:=bG hp.2;have sJ:fs[asx.length]?=some f:=by
     have:fs.toList[asx.length]?=some f:=by rw[zK];simp
     simpa using this
    obtain ⟨m,hm⟩:=Qu k n f.type _ (i-f.offset) u (h1.2 _ f sJ) h;rw[J7 _ (by omega),show f.offset+(i-f.offset)=i by omega]at hm;exact ⟨m,hm⟩
   ·cases h
  ·rename_i m e hu;rw[hu]at h1;split at h
   ·rename_i hb;simp only[ay]at hb;have h2:i/P.cellsOf e<m:=bG hb.1;have h3:i%P.cellsOf e<P.cellsOf e:=bG hb.2;obtain ⟨m',hm⟩:=Qu k n e _ (i%P.cellsOf e) u (h1.2 _ h2) h;rw[J7 _ h3,Nat.div_add_mod' i (P.cellsOf e)]at hm;exact ⟨m',hm⟩
   ·cases h
  ·rename_i d _ _ hu;split at h
   ·rename_i hd;cases h;exact ⟨n+1,by rw[zJ hu hd h0];exact h0⟩
   ·cases h
  ·cases h
theorem take_one {α:Type}{l:List α}{i:Nat}{c:α}(h:l[i]?=some c):(l.drop i).take 1=[c]:=by
 rw[ao]at h;obtain ⟨hi,rfl⟩:=h;rw[aS hi]
 rfl
theorem zL {P:Program}{w:World}{n:Nat}{t:TypeId}{cs:List Value}(ha:D9 (P.underlying t)=true)(h:MI P w n t cs):cs.length=P.cellsOf t:=by
 cases n with
 |zero=>exact h.elim
 |succ n=>
  unfold MI at h;unfold D9 at ha;split at ha
  ·rename_i fs hu;rw[hu]at h;exact h.1
  ·rename_i m e hu;rw[hu]at h;exact h.1
  ·cases ha
section
variable {P:Program} {w:World} {n k i:Nat} {t u:TypeId} {cs:List Value} {c:Value}
theorem Qp {q:IntKind}(hl:Qt P k t i=some u)(hu:P.underlying u=some (.int q))(h:MI P w n t cs)(hc:cs[i]?=some c):∃x,c= .int q x/\(Lit.int q x).wf=true:=by
 obtain ⟨m,hm⟩:=Qu k n t cs i u h hl;obtain ⟨x,h1,h2⟩:=PG hu hm;refine ⟨x,?_,h2⟩;rw[take_one hc]at h1;simpa using h1
end
theorem N1 {H:Type}{enc:TypeId×Value->H}{P:Program}{W:World}{spare:Nat->Bool}{held:Bool}{t:TypeId}{v:Value}{d:DataW H}{ps:List MemPlace}{rr:Reach}{b0:Nat}
  (ha:D9 (P.underlying t)=true) (h0:Value.okWide P W rr b0 t v) (h:DataW.Trod enc P W 0 spare held t v d ps):∃cs:List Value,v= .agg cs.toArray/\cs.length=P.cellsOf t/\∃n,MI P W n t cs:=by
 obtain ⟨n,hn⟩:=Xd h;have hv:∃cs:Array Value,v= .agg cs:=by
  unfold D9 at ha;split at ha
  ·rename_i fs hu;simp only[Value.okWide,hu]at h0;obtain ⟨cs,h1,_⟩:=h0;exact ⟨cs,h1⟩
  ·rename_i m e hu;simp only[Value.okWide,hu]at h0;obtain ⟨cs,h1,_⟩:=h0;exact ⟨cs,h1⟩
  ·cases ha
 obtain ⟨cs,rfl⟩:=hv;exact ⟨cs.toList,by simp,zL ha hn,n,hn⟩
end Sh
namespace Sh
def NT (P:Program)(w:World):Nat->TypeId->List Value->Nat->Prop
 |0,_,_,_=>False
 |n+1,t,cs,b=>match P.underlying t with
  |some (.int k)=>∃x,cs=[.int k x]/\(Lit.int k x).wf=true
  |some .bool=>∃x,cs=[.bool x]
  |some .string=>∃s:ByteArray,cs=[.string s]/\s.size<=maxLen/\s.size<b
  |some (.slice e)=>∃s:AA,cs=[AA.v s]/\(s=⟨none,0,0⟩\/∃(a:Addr) (bs:List Nat),s.p=some a/\s.len<=s.cap/\s.cap<=maxLen/\bs.length=s.len/\bs.sum<b/\s.len<b/\
    ∀i x,bs[i]?=some x->∃CU,CU.length=P.cellsOf e/\(∀j,j<P.cellsOf e->w.cell? (a.add (i*P.cellsOf e+j))=CU[j]?)/\NT P w n e CU x)
  |some (.struct fs)=>cs.length=P.cellsOf t/\∃bs:List Nat,bs.sum<b/\∀(i:Nat) (f:Field),fs[i]?=some f->∃x,bs[i]?=some x/\NT P w n f.type ((cs.drop f.offset).take (P.cellsOf f.type)) x
  |some (.array _ _)=>False
  |some (.pointer _)=>False
  |_=>True
section
variable {P:Program} {w:World} {n b:Nat} {t:TypeId} {cs:List Value}
end
end Sh
namespace Sh
theorem Al.NI:∀(ts:List FR) (x:Al ts),(Al.cells ts x).length=ts.length
 |[],_=>rfl
 |[t],_=>rfl
 |t::u::r,x=>by
  show (_::Al.cells (u::r) x.2).length=_;rw[aA,Al.NI (u::r) x.2]
  rfl
theorem Af.mk{w:World}{b o:Nat}:∀(ts:List FR) (i:Nat) (x:Al ts) (K:Al ts->Prop),(∀j v,(Al.cells ts x)[j]?=some v->w.cell? ⟨b,o+i+j,none⟩=some v)->K x->Af w ⟨b,o,none⟩ i ts K
 |[],_,_,_,_,k=>k
 |[t],i,x,K,h,k=>by
  have h0:=h 0 (t.v x) rfl;refine Ld.mk (x:=x) ?_ k;rw[add_lit];exact h0
 |t::u::r,i,x,K,h,k=>by
  have h0:=h 0 (t.v x.1) rfl;refine Ld.mk (x:=x.1) ?_ (Af.mk (u::r) (i+1) x.2 (fun y=>K (x.1,y)) (fun j v hj=>?_) k)
  ·rw[add_lit];exact h0
  ·have:=h (j+1) v hj;rw[show o+(i+1)+j=o+i+(j+1) by omega];exact this
theorem B1.mk{S:World->Prop}{b o:Nat}:∀(ts:List FR) (i:Nat) (x:Al ts) (K:Al ts->Prop),(∀w,S w->∀j v,(Al.cells ts x)[j]?=some v->w.cell? ⟨b,o+i+j,none⟩=some v)->K x->B1 S ⟨b,o,none⟩ i ts K
 |[],_,_,_,_,k=>k
 |[t],i,x,K,h,k=>⟨x,fun w hw=>by rw[add_lit];exact h w hw 0 (t.v x) rfl,k⟩
 |t::u::r,i,x,K,h,k=>⟨x.1,fun w hw=>by rw[add_lit];exact h w hw 0 (t.v x.1) rfl,B1.mk (u::r) (i+1) x.2 (fun y=>K (x.1,y)) (fun w hw j v hj=>by
   have:=h w hw (j+1) v hj;rw[show o+(i+1)+j=o+i+(j+1) by omega];exact this) k⟩
theorem TH {w:World}{b:Nat}{pre post:List Value}{t:TypeId}{ts:List FR}{x:Al ts}(h:AO w b (pre++(Al.cells ts x++post)).toArray t){j:Nat}{v:Value}(hj:(Al.cells ts x)[j]?=some v):w.cell? ⟨b,pre.length+j,none⟩=some v:=by
 have hl:=(ao.1 hj).1;rw[h.cell,bV,aF (by omega),dx,aG hl];exact hj
theorem Af.AS{w:World}{b o:Nat}{pre post:List Value}{t:TypeId}{ts:List FR}{x:Al ts}{K:Al ts->Prop}(h:AO w b (pre++(Al.cells ts x++post)).toArray t)(ho:pre.length=o)(k:K x):Af w ⟨b,o,none⟩ 0 ts K:=
 Af.mk ts 0 x K (fun j v hj=>by rw[<-ho];exact TH h hj) k
theorem B1.AS{S:World->Prop}{b o:Nat}{pre post:List Value}{t:TypeId}{ts:List FR}{x:Al ts}{K:Al ts->Prop}(h:∀w,S w->AO w b (pre++(Al.cells ts x++post)).toArray t)(ho:pre.length=o)(k:K x):B1 S ⟨b,o,none⟩ 0 ts K:=
 B1.mk ts 0 x K (fun w hw j v hj=>by rw[<-ho];exact TH (h w hw) hj) k
theorem A6.of{b o:Nat}:∀(ts:List FR) (i:Nat) (x:Al ts) (w:World) (K:World->Prop),StL b (o+i) (Al.cells ts x) w K->A6 ⟨b,o,none⟩ i ts x w K
 |[],_,_,_,_,h=>h
 |[t],i,x,w,K,h=>by
  show St w ((⟨b,o,none⟩:Addr).add i) (t.v x) K;rw[add_lit];exact h
 |t::u::r,i,x,w,K,h=>by
  show St w ((⟨b,o,none⟩:Addr).add i) (t.v x.1) fun w'=>A6 ⟨b,o,none⟩ (i+1) (u::r) x.2 w' K
  rw[add_lit];obtain ⟨h1,h2⟩:=h;exact ⟨h1,A6.of (u::r) (i+1) x.2 _ K h2⟩
theorem Hn.lS{w0 w:World}{L:List (Nat×List Value×TypeId)}{b o:Nat}{t:TypeId}{i:Nat}{pre zs post:List Value}{ts:List FR}{x:Al ts}{K:World->Prop}(h:Hn w0 w L)(hi:L[i]?=some (b,pre++(zs++post),t))(ho:pre.length=o)(hz:zs.length=ts.length)
  (k:∀w2,Hn w0 w2 (L.set i (b,pre++(Al.cells ts x++post),t))->K w2):A6 ⟨b,o,none⟩ 0 ts x w K:=
 A6.of ts 0 x w K (Hn.stL (Al.cells ts x) zs pre post (o+0) w h hi ho (by rw[Al.NI];exact hz) k)
theorem Hn.Dx{w0 w:World}{L:List (Nat×List Value×TypeId)}{b o:Nat}{t:TypeId}{i:Nat}{pre post:List Value}{ts:List FR}{x:Al ts}{K:Al ts->Prop}(h:Hn w0 w L)(hi:L[i]?=some (b,pre++(Al.cells ts x++post),t))(ho:pre.length=o)(k:K x):Af w ⟨b,o,none⟩ 0 ts K:=
 Af.AS (h.get i hi) ho k
theorem iy {b:Nat}{t:TypeId}{K:World->Prop}:∀(vs zs pre post:List Value) (o:Nat) (w:World),AO w b (pre++(zs++post)).toArray t->pre.length=o->zs.length=vs.length->(∀w2,AO w2 b (pre++(vs++post)).toArray t->Ext (·=b) w w2->K w2)->StL b o vs w K
 |[],zs,pre,post,o,w,h,ho,hz,k=>by
  have:zs=[]:=aw hz;subst this;exact k w h (Ext.refl _ _)
 |v::vs,[],pre,post,o,w,h,ho,hz,k=>by cases hz
 |v::vs,z::zs,pre,post,o,w,h,ho,hz,k=>by
  refine ⟨h.can (by rw[aZ,<-ho];simp),?_⟩;have h2:=h.set o v;have e:(pre++(z::zs++post)).set o v=(pre++[v])++(zs++post):=by
   rw[<-ho,ar,nj];simp
  rw[dE,e]at h2;refine iy vs zs (pre++[v]) post (o+1) _ h2 (by simp[ho]) (by simpa using hz) fun w3 h3 e3=>k w3 (by simpa using h3) (((Ext.refl (·=b) w).set (.inl rfl) v).tr e3)
theorem A6.AS{w:World}{b o:Nat}{t:TypeId}{pre zs post:List Value}{ts:List FR}{x:Al ts}{K:World->Prop}(h:AO w b (pre++(zs++post)).toArray t)(ho:pre.length=o)(hz:zs.length=ts.length)
  (k:∀w2,AO w2 b (pre++(Al.cells ts x++post)).toArray t->Ext (·=b) w w2->K w2):A6 ⟨b,o,none⟩ 0 ts x w K:=
 A6.of ts 0 x w K (iy (Al.cells ts x) zs pre post (o+0) w h ho (by rw[Al.NI];exact hz) k)
end Sh
set_option maxRecDepth 4000
set_option maxHeartbeats 2000000
namespace Sh
theorem Br.t{b:Bool}{A B:Prop}(h:b=true)(h1:A):Br b A B:=by rw[h];exact h1
theorem Br.f{b:Bool}{A B:Prop}(h:b=false)(h1:B):Br b A B:=by rw[h];exact h1
theorem eqL (a b:ByteArray):(a.toList==b.toList)=decide (a.data.toList=b.data.toList):=by
 rw[ByteArray.toList_eq,ByteArray.toList_eq];by_cases h:a.data.toList=b.data.toList
 ·rw[aD h];simpa using h
 ·rw[aP h];simpa using h
theorem Ua {α:Type}{f:α->List Value}{k:Nat}(hk:∀x,(f x).length=k):∀(L:List α) (i j:Nat) (x:α),L[i]?=some x->j<k->(L.flatMap f)[i*k+j]?=(f x)[j]?
 |[],i,j,x,h,_=>by simp at h
 |y::L,0,j,x,h,hj=>by
  simp at h;subst h;rw[bC,cg,aj,aG (by rw[hk];exact hj)]
 |y::L,i+1,j,x,h,hj=>by
  rw[bC,aF (by rw[hk,bN];omega),hk,show (i+1)*k+j-k=i*k+j by rw[bN];omega];exact Ua hk L i j x (by simpa using h) hj
theorem Wl {α:Type}{f:α->List Value}{k:Nat}(hk:∀x,(f x).length=k):∀L:List α,(L.flatMap f).length=L.length*k
 |[]=>by simp
 |y::L=>by rw[bC,ae,hk,Wl hk L,aA,bN];omega
theorem Bh.elem{w:World}{s:AA}{α:Type}{f:α->List Value}{k:Nat}{L:List α}(hk:∀x,(f x).length=k)(h:Bh w s k (L.flatMap f)){i:Nat}{x:α}(hi:L[i]?=some x)(h0:0<k):∃a,s.p=some a/\∀j v,(f x)[j]?=some v->w.cell? (a.add (i*k+j))=some v:=by
 have A2:(f x)[0]?≠none:=by rw[ne_eq,List.getElem?_eq_none_iff,hk];omega
 obtain ⟨v0,hv0⟩:=Option.ne_none_iff_exists'.1 A2;have e0:=Ua hk L i 0 x hi h0;obtain ⟨a,ha,_⟩:=h.2 (i*k+0) v0 (by rw[e0,hv0]);refine ⟨a,ha,fun j v hj=>?_⟩;have hjk:j<k:=by rw[<-hk x];exact (ao.1 hj).1
 obtain ⟨a',Oq,hc⟩:=h.2 (i*k+j) v (by rw[Ua hk L i j x hi hjk,hj]);rw[ha]at Oq;cases Oq;exact hc
theorem Bh.count{w:World}{s:AA}{α:Type}{f:α->List Value}{k:Nat}{L:List α}(hk:∀x,(f x).length=k)(h0:0<k)(h:Bh w s k (L.flatMap f)):s.len=L.length:=by
 have:=h.1;rw[Wl hk]at this;exact (Nat.eq_of_mul_eq_mul_right h0 this).symm
theorem IX {w:World}{b:Nat}{cs CU:Array Value}{t t':TypeId}(h:AO w b cs t)(k:AO w b CU t'):t=t':=by
 unfold AO at h k;rw[h]at k;cases k
 rfl
theorem own_blk {w:World}{s:AA}{e:TypeId}{k:Nat}{xs:List Value}(h:Row w s e k xs){j:Nat}(hj:s.own j):∃cs,AO w j cs e:=by
 obtain ⟨a,ha,hb⟩:=hj;rcases h.2 with rfl|⟨g,cur,hp,hg,_⟩
 ·cases ha
 ·rw[hp]at ha;cases ha;exact ⟨cur,hb▸hg⟩
theorem Cq (j:Nat):¬AA.own ⟨none,0,0⟩ j:=fun ⟨a,ha,_⟩=>by cases ha
theorem Dk {α:Type}{S:World->Prop}{V:α->Value}{K:α->Prop}{x:α}{a:Addr}(h:∀w,S w->w.cell? a=some (V x))(k:K x):AP S a V K:=⟨x,h,k⟩
theorem Di {α:Type}{w0:World}{V:α->Value}{K:α->Prop}{x:α}{a:Addr}(h:w0.cell? a=some (V x))(k:K x):AP (Ext (fun _=>False) w0) a V K:=Dk (fun _ e=>e.Bn h) k
theorem B1.at{S:World->Prop}{a:Addr}:∀(ts:List FR) (i:Nat) (x:Al ts) (K:Al ts->Prop),(∀w,S w->∀j v,(Al.cells ts x)[j]?=some v->w.cell? (a.add (i+j))=some v)->K x->B1 S a i ts K
 |[],i,x,K,h,hk=>hk
 |[t],i,x,K,h,hk=>Dk (x:=x) (fun w hw=>by have:=h w hw 0 _ rfl;simpa using this) hk
 |t::u::r,i,x,K,h,hk=>Dk (x:=x.1) (fun w hw=>by have:=h w hw 0 _ rfl;simpa using this) (B1.at (u::r) (i+1) x.2 (fun y=>K (x.1,y)) (fun w hw j v hj=>by
   have:=h w hw (j+1) v (by simpa[Al.cells]using hj);rw[show i+1+j=i+(j+1) by omega];exact this) hk)
theorem mE (s t:ByteArray):(s++t).data.toList=s.data.toList++t.data.toList:=by
 rw[ByteArray.data_append,cR]
theorem fJ (z:Int):IntKind.u8.wrap z=z%256:=by
 unfold IntKind.wrap;simp[IntKind.signed,IntKind.bits]
def ub (z:Int):UInt8:=UInt8.ofNat (z%256).toNat
end Sh
set_option maxRecDepth 100000
namespace lK
open Sh
theorem AIZ:Tryz.f104.ntmps=20:=by kernel_rfl
theorem AIa:(prog.info? 110).map (·.size)=some 2:=by kernel_rfl
theorem SG (b:Nat)(w:World)(h0:w.cell? ⟨b,0,none⟩=some (.pointer (some ⟨b,0,none⟩))):
  Calls prog 104 #[.pointer (some ⟨b,0,none⟩)] w fun e w'=>e= .returned (.tuple #[])/\w'=w:=by
 obtain ⟨j,hj,_⟩:=bg.1 AIa;have mixed:prog.follows .mixedOrders=true:=by kernel_rfl
 have t1:=Tryz.underlying110;have a1:=Tryz.isAgg110;have z1:=Tryz.sizeOf110;have v1:=Tryz.zeroValue110;have t2:=Tryz.underlying107;have a2:=Tryz.isAgg107;have z2:=Tryz.sizeOf107;have v2:=Tryz.zeroValue107;have u1:=run_underlying t1;have u2:=run_underlying t2
 go_enter Tryz.func104,AIZ
 go_wp2
 rw[Lib.run_neq_ptr_same w _ Tryz.underlying107 hj]
 go_wp2
 go_end0
 exact ⟨rfl,rfl⟩
theorem Pc (b:Nat)(w:World)(h0:w.cell? ⟨b,0,none⟩=some (.pointer none))(hsh:w.shape? b=some (110,2))(hfz:w.frozen? ⟨b,0,none⟩=false):
  Calls prog 104 #[.pointer (some ⟨b,0,none⟩)] w fun e w'=>e= .returned (.tuple #[])/\w'=w.setCell ⟨b,0,none⟩ (.pointer (some ⟨b,0,none⟩)):=by
 obtain ⟨j,hj,nH⟩:=bg.1 AIa;have mixed:prog.follows .mixedOrders=true:=by kernel_rfl
 have t1:=Tryz.underlying110;have a1:=Tryz.isAgg110;have z1:=Tryz.sizeOf110;have v1:=Tryz.zeroValue110;have t2:=Tryz.underlying107;have a2:=Tryz.isAgg107;have z2:=Tryz.sizeOf107;have v2:=Tryz.zeroValue107;have t3:=Tryz.underlying162;have a3:=Tryz.isAgg162;have z3:=Tryz.sizeOf162;have v3:=Tryz.zeroValue162;have u1:=run_underlying t1;have u2:=run_underlying t2;have u3:=run_underlying t3
 go_enter Tryz.func104,AIZ
 go_wp2
 rw[Lib.run_to_unsafe w ⟨b,0,none⟩ t2 t3 hj (by rw[nH];decide) hsh (Nat.zero_lt_succ 1)];simp only[Result.andThen];rw[Oper.upon_value]
 go_wp2
 rw[run_callFunc_extern Tryz.func123 (by kernel_rfl) (by kernel_rfl) (by kernel_rfl) (e:=Extern.AbiNoEscape.same) (by kernel_rfl)];rw[Lib.run_noEscape];simp only[Result.andThen];rw[Oper.upon_value]
 go_wp2
 rw[Lib.run_from_unsafe w ⟨b,0,none⟩ t3 t2 hj hsh (by kernel_rfl)];simp only[Result.andThen];rw[Oper.upon_value]
 go_wp2
 go_end0
 exact ⟨rfl,rfl⟩
end lK
set_option maxRecDepth 4000
namespace lK
open Sh
structure Bu (w0 w:World) (b:Nat) (p:Option Addr) (sl:AA) (l:List UInt8):Prop where
 lo:w0.heap.size<=b
 ptr:p=none\/p=some ⟨b,0,none⟩
 AS:AO w b #[.pointer p,AA.v sl] 110
 row:w.ownsRow w0.heap.size 5 1 (AA.v sl) l.length (Lib.byteCells l)
structure Wr (w0 w w':World):Prop where
 ext:Ext (fun j=>w0.heap.size<=j) w w'
 AB:∀j cs t,t≠110->t≠5->AO w j cs t->AO w' j cs t
 AAS:∀(j:Nat) (o:Obj),(∀cs t z,o≠ .cells cs t z)->w.heap[j]?=some o->w'.heap[j]?=some o
theorem Wr.refl(w0 w:World):Wr w0 w w:=⟨Ext.refl _ _,fun _ _ _ _ _ h=>h,fun _ _ _ h=>h⟩
theorem Wr.tr{w0 a b c:World}(h:Wr w0 a b)(k:Wr w0 b c):Wr w0 a c:=⟨h.ext.tr k.ext,fun j cs t h1 h2 hb=>k.AB j cs t h1 h2 (h.AB j cs t h1 h2 hb),fun j o h1 h2=>k.AAS j o h1 (h.AAS j o h1 h2)⟩
theorem Wr.of{w0 a b:World}(h:Ext (fun _=>False) a b):Wr w0 a b:=⟨h.mono fun _ _ e=>e.elim,fun j cs t _ _ hb=>h.AS hb id,fun j o _ ho=>(h.block j (aL.1 ho).1 id).trans ho⟩
theorem Bu.AB{w0 w w':World}{b:Nat}{p:Option Addr}{sl:AA}{l:List UInt8}(h:Bu w0 w b p sl l)(he:Ext (fun _=>False) w w'):Bu w0 w' b p sl l:=
 ⟨h.lo,h.ptr,he.AS h.AS id,h.row.kept (row:=none) ⟨he.os,he.tape,he.output,he.size,fun k hk _=>he.block k hk id⟩ (by
  cases ho:(AA.v sl).ownBlock with
  |none=>exact .inl rfl
  |some g=>exact .inr (by simp))⟩
theorem nI {w0 w:World}{b:Nat}{p:Option Addr}{sl:AA}{l:List UInt8}(h:Bu w0 w b p sl l):vt (some ⟨b,0,none⟩) w fun w'=>Bu w0 w' b (some ⟨b,0,none⟩) sl l/\Wr w0 w w':=by
 have c0:w.cell? ⟨b,0,none⟩=some (.pointer p):=h.AS.cell 0;rcases h.ptr with rfl|rfl
 ·refine (Pc b w c0 (by have:=h.AS;unfold AO at this;simp[World.shape?,this]) (h.AS.frozen 0)).mono ?_;rintro e w' ⟨rfl,rfl⟩;refine ⟨rfl,⟨h.lo,.inr rfl,h.AS.set 0 _,h.row.kept (row:=some b) ⟨rfl,rfl,rfl,by simp[World.setCell],fun k _ hk=>Go.RowKit.Below.heap_setCell _ _ _ _ (fun e=>hk (by simp[e]))⟩ (.inr (Lib.ownBlock_ne h.row h.AS (by decide)))⟩,⟨(Ext.refl _ w).set (.inl h.lo) _,fun j cs t h1 h2 hb=>hb.AIb fun e=>?_,fun j o h1 ho=>?_⟩⟩
  ·subst e;exact h1 (IX hb h.AS)
  ·have A2:j≠b:=fun e=>by
    subst e;have hb:=h.AS;unfold AO at hb;rw[hb]at ho;exact h1 _ _ _ (aY ho).symm
   exact (((Ext.refl (·=b) w).set (b:=b) (o:=0) (.inl rfl) _).block j (aL.1 ho).1 A2).trans ho
 ·refine (SG b w c0).mono ?_;rintro e w' ⟨rfl,rfl⟩;exact ⟨rfl,h,Wr.refl _ _⟩
theorem YW (a b:List UInt8):Lib.byteCells (a++b)=Lib.byteCells a++Lib.byteCells b:=by simp[Lib.byteCells]
theorem Bu.put{w0 w1 w2:World}{b:Nat}{p:Option Addr}{sl:AA}{l m:List UInt8}{v':Value}(h:Bu w0 w1 b p sl l)(Ar:w2.ownsRow w0.heap.size 5 1 v' m.length (Lib.byteCells m))(hg:w1.grownBy w2 (AA.v sl).ownBlock):
  ∃Bi,v'=AA.v Bi/\Kl w2 ⟨b,1,none⟩/\Bu w0 (w2.setCell ⟨b,1,none⟩ v') b p Bi m/\Wr w0 w1 (w2.setCell ⟨b,1,none⟩ v'):=by
 obtain ⟨Bi,rfl⟩:∃Bi,v'=AA.v Bi:=by
  rcases Ar.2 with ⟨rfl,_⟩|⟨g,cap,cur,rfl,_⟩
  ·exact ⟨⟨none,0,0⟩,rfl⟩
  ·exact ⟨⟨some ⟨g,0,none⟩,_,cap⟩,rfl⟩
 have TW:AO w2 b #[.pointer p,AA.v sl] 110:=by
  have:=h.AS;unfold AO at this⊢;rw[hg.block b h.AS.lt fun e=>Lib.ownBlock_ne h.row h.AS (by decide) e.symm];exact this
 refine ⟨Bi,rfl,TW.can (Nat.lt_succ_self 1),⟨h.lo,h.ptr,TW.set 1 _,Ar.kept (row:=some b) ⟨rfl,rfl,rfl,by simp[World.setCell],fun k _ hk=>Go.RowKit.Below.heap_setCell _ _ _ _ (fun e=>hk (by simp[e]))⟩ (.inr (Lib.ownBlock_ne Ar TW (by decide)))⟩,?_,fun j cs t h1 h2 hb=>?_,fun j o h1 ho=>?_⟩
 ·have e:Ext (fun j=>w0.heap.size<=j) w1 w2:=⟨hg.os,hg.tape,hg.output,hg.size,fun k hk hn=>hg.block k hk fun e=>hn (h.row.lt k e.symm).1⟩
  exact e.set (.inl h.lo) _
 ·have wR:AO w2 j cs t:=by
   have:=hb;unfold AO at this⊢;rw[hg.block j hb.lt fun e=>Lib.ownBlock_ne h.row hb h2 e.symm];exact this
  refine wR.AIb fun e=>?_
  subst e;exact h1 (IX wR TW)
 ·have Am:=(aL.1 ho).1;have h2:w2.heap[j]?=some o:=(hg.block j Am fun e=>by
   rcases h.row.2 with ⟨hv,_⟩|⟨g,cap,cur,hv,_,hc,_⟩
   ·rw[hv]at e;cases e
   ·rw[hv]at e;have e:some j=some g:=e;cases e;rw[hc]at ho;exact h1 _ _ _ (aY ho).symm).trans ho
  have A2:j≠b:=fun e=>by
   subst e;unfold AO at TW;rw[TW]at h2;exact h1 _ _ _ (aY h2).symm
  exact (((Ext.refl (·=b) w2).set (b:=b) (o:=1) (.inl rfl) _).block j (aL.1 h2).1 A2).trans h2
attribute [local irreducible] Ld Nw Nn Lt AP
theorem AHW {w0 w:World}{b:Nat}{p:Option Addr}{sl:AA}{l:List UInt8}{s:ByteArray}(h:Bu w0 w b p sl l)(hs:l.length+s.size<=1099511627776):C86 (some ⟨b,0,none⟩) s w fun _ _ w'=>∃Bi,Bu w0 w' b (some ⟨b,0,none⟩) Bi (l++s.data.toList)/\Wr w0 w w':=by
 refine T86 _ _ _ _ ?_;unfold S86;refine (nI h).mono ?_;rintro w1 ⟨h1,k1⟩;refine Nn.of (Ld.of (x:=sl) h1.AS rfl ?_);obtain ⟨i0,hi,hz0,hz1,fG⟩:=info_parts Tryz.BR.infoByte;have Am:=h1.AS.lt;have nJ:=h1.lo;obtain ⟨v',w2,Ag,Ar,VV,_⟩:=Lib.run_append_own_string (P:=prog) w1 w0.heap.size 108 9 108 5 i0 Bj Cb hi hz0 hz1 fG (AA.v sl) l.length (Lib.byteCells l) h1.row s (by unfold maxLen;omega) (by omega) (by omega);have Jw:w2.ownsRow w0.heap.size 5 1 v' (l++s.data.toList).length (Lib.byteCells (l++s.data.toList)):=by
  rw[YW,ae,aK];exact Ar
 obtain ⟨Bi,rfl,hc,hB,hW⟩:=h1.put Jw VV;exact ⟨Bi,w2,Ag,Nn.of ⟨hc,Bi,hB,k1.tr hW⟩⟩
theorem TT {w0 w:World}{b:Nat}{p:Option Addr}{sl:AA}{l:List UInt8}{c:UInt8}(h:Bu w0 w b p sl l)(hs:l.length+1<=1099511627776):lL (some ⟨b,0,none⟩) (c.toNat:Int) w fun _ w'=>∃Bi,Bu w0 w' b (some ⟨b,0,none⟩) Bi (l++[c])/\Wr w0 w w':=by
 refine T80 _ _ _ _ ?_;unfold S80;refine (nI h).mono ?_;rintro w1 ⟨h1,k1⟩;refine Nn.of (Ld.of (x:=sl) h1.AS rfl (Nw.of ?_));obtain ⟨i0,hi,hz0,hz1,fG⟩:=info_parts Tryz.BR.infoByte;have Am:=h1.AS.lt;have nJ:=h1.lo;have e1:Ext (fun _=>False) w1 (w1.alloc (.cells #[.int .u8 (c.toNat:Int)] 5)):=(Ext.refl _ _).alloc _;have h2:=h1.AB e1;have z1:=e1.size;have uw:=AO.new w1 #[.int .u8 (c.toNat:Int)] 5;obtain ⟨v',w2,Ag,Ar,VV,_⟩:=run_append_own (P:=prog) (w1.alloc (.cells #[.int .u8 (c.toNat:Int)] 5)) w0.heap.size 108 108 5 i0 (.int .u8 0) 1 1 Bj hi hz0 hz1 fG rfl (by decide) (AA.v sl) l.length (Lib.byteCells l) h2.row ⟨w1.heap.size,0,none⟩ 1 1 [.int .u8 (c.toNat:Int)] rfl (fun j u hj=>by
  match j,hj with
  |0,hj=>rw[show ((⟨w1.heap.size,0,none⟩:Addr).add 0)=⟨w1.heap.size,0,none⟩from rfl,uw.cell];exact hj) (fun u hu=>by rw[az.1 hu];rfl) (by unfold maxLen;omega) (by omega) (by omega)
 have Jw:w2.ownsRow w0.heap.size 5 1 v' (l++[c]).length (Lib.byteCells (l++[c])):=by
  rw[YW,ae];exact Ar
 obtain ⟨Bi,rfl,hc,hB,hW⟩:=h2.put Jw VV;exact ⟨Bi,w2,Ag,Nn.of ⟨hc,Bi,hB,(k1.tr (Wr.of e1)).tr hW⟩⟩
theorem ACD {w0 w:World}{b:Nat}{p:Option Addr}{sl:AA}{l:List UInt8}(h:Bu w0 w b p sl l)(h0:w0.heap.size<=w.heap.size):C81 (some ⟨b,0,none⟩) w fun r w'=>r=⟨l.toArray⟩/\Go.RowKit.Below w0.heap.size w w':=by
 have hI:Lib.IsBuilder 110 5 w0.heap.size b (Lib.byteCells l) w:=by
  have hx:Lib.BuilderAt 110 5 w0.heap.size b (.pointer p) (Lib.byteCells l) w:=⟨h.lo,AA.v sl,h.AS,by rw[Lib.byteCells_length];exact h.row,Lib.ownBlock_ne h.row h.AS (by decide)⟩
  rcases h.ptr with rfl|rfl
  ·exact .inl hx
  ·exact .inr hx
 cases l with
 |nil=>
  refine (Tryz.Builder_String_empty w0.heap.size b w hI h0).mono ?_;rintro e w' ⟨rfl,hb⟩;exact ⟨_,rfl,rfl,hb⟩
 |cons x r=>
  refine (Tryz.Builder_String w0.heap.size b (x::r) w hI (by simp)).mono ?_;rintro e w' ⟨rfl,hb⟩;exact ⟨_,rfl,rfl,hb⟩
theorem MM {w0 w w':World}(h:Go.RowKit.Below w0.heap.size w w'):Ext (fun j=>w0.heap.size<=j) w w':=⟨h.os,h.tape,h.output,h.size,fun k hk hn=>h.block k (by omega)⟩
end lK
set_option maxRecDepth 512
set_option maxHeartbeats 200000
namespace Sh
def Ko (w:World)(b:Nat)(cs:Array Value)(t:TypeId):Prop:=∃z:Nat×Nat,w.heap[b]?=some (.cells cs t z)/\(z=(0,0)\/z=(cs.size,cs.size+1))
theorem AO.toM{w:World}{b:Nat}{cs:Array Value}{t:TypeId}(h:AO w b cs t):Ko w b cs t:=⟨_,h,.inl rfl⟩
theorem Ko.cell{w:World}{b:Nat}{cs:Array Value}{t:TypeId}(h:Ko w b cs t)(o:Nat):w.cell? ⟨b,o,none⟩=cs[o]?:=by
 obtain ⟨z,h,_⟩:=h;simp[World.cell?,h]
theorem Ko.lt{w:World}{b:Nat}{cs:Array Value}{t:TypeId}(h:Ko w b cs t):b<w.heap.size:=(aL.1 h.choose_spec.1).1
theorem Ko.can{w:World}{b:Nat}{cs:Array Value}{t:TypeId}(h:Ko w b cs t){o:Nat}(ho:o<cs.size):Kl w ⟨b,o,none⟩:=by
 refine ⟨⟨cs[o],by rw[h.cell,cj ho]⟩,?_⟩;obtain ⟨z,h,hz⟩:=h;rcases hz with rfl|rfl
 ·simp[World.frozen?,h]
 ·simp[World.frozen?,h];omega
theorem Ko.set{w:World}{b:Nat}{cs:Array Value}{t:TypeId}(h:Ko w b cs t)(o:Nat)(v:Value):Ko (w.setCell ⟨b,o,none⟩ v) b (cs.setIfInBounds o v) t:=by
 obtain ⟨z,h,hz⟩:=h;exact ⟨z,by simp[World.setCell,Array.getElem?_modify,h],by simpa using hz⟩
theorem Ext.AH6{F:Nat->Prop}{a w:World}(h:Ext F a w){b:Nat}{cs:Array Value}{t:TypeId}(hb:Ko a b cs t)(hn:¬F b):Ko w b cs t:=by
 obtain ⟨z,hb,hz⟩:=hb;exact ⟨z,by rw[h.block b (aL.1 hb).1 hn];exact hb,hz⟩
structure Bx (w:World) (s:AA) (l:List UInt8):Prop where
 len:s.len=l.length
 row:s=⟨none,0,0⟩\/∃g cur,s.p=some ⟨g,0,none⟩/\Ko w g cur 5/\s.len<=cur.size/\cur.toList.take s.len=Bw l
theorem Bx.nil(w:World):Bx w ⟨none,0,0⟩ []:=⟨rfl,.inl rfl⟩
theorem BQ.toR{w:World}{s:AA}{l:List UInt8}(h:BQ w s l):Bx w s l:=by
 refine ⟨h.len,?_⟩;rcases h.2 with h2|⟨g,cur,hp,hb,hle,A1,ht⟩
 ·exact .inl h2
 ·exact .inr ⟨g,cur,hp,hb.toM,by omega,by simpa using ht⟩
theorem Bx.AB{F:Nat->Prop}{w w':World}{s:AA}{l:List UInt8}(h:Bx w s l)(he:Ext F w w')(hn:∀j,s.own j->¬F j):Bx w' s l:=by
 refine ⟨h.len,?_⟩;rcases h.row with h2|⟨g,cur,hp,hb,r⟩
 ·exact .inl h2
 ·exact .inr ⟨g,cur,hp,he.AH6 hb (hn g ⟨_,hp,rfl⟩),r⟩
theorem Bx.own_lt{w:World}{s:AA}{l:List UInt8}(h:Bx w s l){j:Nat}(hj:s.own j):j<w.heap.size:=by
 obtain ⟨a,ha,rfl⟩:=hj;rcases h.row with rfl|⟨g,cur,hp,hb,_⟩
 ·cases ha
 ·rw[hp]at ha;cases ha;exact hb.lt
theorem Bx.get{w:World}{s:AA}{l:List UInt8}(h:Bx w s l){i:Nat}{b:UInt8}(hi:l[i]?=some b):∃g,s.p=some ⟨g,0,none⟩/\w.cell? ⟨g,i,none⟩=some (.int .u8 (b.toNat:Int)):=by
 have Am:i<l.length:=(ao.1 hi).1;rcases h.row with h2|⟨g,cur,hp,hb,hle,ht⟩
 ·have:=h.len;rw[h2]at this;simp only at this;omega
 ·refine ⟨g,hp,?_⟩;have h3:=Oo hi;rw[<-ht,aU,ak (by rw[h.len];exact Am)]at h3;rw[hb.cell];simpa using h3
theorem Bx.set{w:World}{s:AA}{l:List UInt8}(h:Bx w s l){i:Nat}(hi:i<l.length)(b:UInt8):∃g,s.p=some ⟨g,0,none⟩/\Kl w ⟨g,i,none⟩/\
  Bx (w.setCell ⟨g,i,none⟩ (.int .u8 (b.toNat:Int))) s (l.set i b)/\Ext (·=g) w (w.setCell ⟨g,i,none⟩ (.int .u8 (b.toNat:Int))):=by
 rcases h.row with h2|⟨g,cur,hp,hb,hle,ht⟩
 ·have:=h.len;rw[h2]at this;simp only at this;omega
 ·have hlen:=h.len;refine ⟨g,hp,hb.can (by omega),⟨by rw[br];exact hlen,.inr ⟨g,_,hp,hb.set i _,by simpa using hle,?_⟩⟩,(Ext.refl (·=g) w).set (.inl rfl) _⟩;rw[Array.toList_setIfInBounds,List.take_set,ht];simp[Bw,dM]
theorem FO (w:World)(s:ByteArray):∃r w',BW prog (convert 9 108 (.string s)) w (AA.v r) w'/\Bx w' r s.data.toList/\Ext (fun _=>False) w w'/\∀j,r.own j->w.heap.size<=j:=by
 refine ⟨⟨some ⟨w.heap.size,0,none⟩,s.size,grownCap w s.size 0 5⟩,Go.Lib.bytesWorld w 5 s,Go.Lib.run_convert_string_bytes w _ _ 5 s Cb Bj Gh,⟨?_,.inr ⟨_,_,rfl,⟨_,Go.Lib.bytesWorld_at_new w _ s,.inr rfl⟩,?_,?_⟩⟩,?_,?_⟩
 ·exact aK.symm
 ·unfold Go.Lib.bytesCells;rw[dN,Array.size_map];exact Nat.le_add_right _ _
 ·unfold Go.Lib.bytesCells;rw[cR,dB];exact bK (by rw[bp];exact aK)
 ·exact ⟨rfl,rfl,rfl,by rw[Go.Lib.bytesWorld_size];omega,fun k hk _=>Go.Lib.bytesWorld_at_old w _ s k hk⟩
 ·rintro j ⟨a,ha,rfl⟩;cases ha;exact av _
theorem sI {w:World}{s s2:AA}{ty:TypeId}{l m:List UInt8}(own:BQ w s l)(h2:Bx w s2 m)(hb:l.length+m.length<=1099511627776):
  Ij w s (l++m) (Builtin.append_ #[108,108] ty #[AA.v s,AA.v s2]):=by
 refine Tp (.inl ⟨_,Bj⟩) (by rw[<-h2.len];rfl) (fun w' jR=>?_) own hb;rcases h2.row with rfl|⟨g,cur,hp,hg,hle,DD⟩
 ·have:m=[]:=aw (by have:=h2.len;simpa using this.symm);subst this;exact run_firstCells_none (P:=prog) (w:=w') 1 0 0 0
 ·have sJ:∀(i:Nat) (b:UInt8),m[i]?=some b->∃g,s2.p=some ⟨g,0,none⟩/\w.cell? ⟨g,i,none⟩=some (.int .u8 (b.toNat:Int)):=fun i b h=>h2.get h
  obtain ⟨p,len,cap⟩:=s2;simp only at hp;subst hp;refine run_firstCells_some w' 1 m.length ⟨g,0,none⟩ len cap (Bw m) (by rw[An,aH]) fun j v hj=>?_
  simp only[Bw,aE,bg]at hj;obtain ⟨b,u0,rfl⟩:=hj;obtain ⟨g',IJ,h⟩:=sJ _ _ u0;cases IJ;simpa[World.cell?,jR]using h
theorem Ie:∃i,prog.info? 5=some i/\i.size=1/\i.bytes=1/\i.zero=some (.int .u8 0):=by
 have h:(match prog.info? 5 with
  |some i=>Nat.beq i.size 1&&Nat.beq i.bytes 1&&(match i.zero with
   |some (.int .u8 0)=>true
   |_=>false)
  |none=>false)=true:=by kernel_rfl
 split at h
 ·rename_i i hi;simp only[ay]at h;obtain ⟨⟨h1,h2⟩,h3⟩:=h;split at h3
  ·rename_i hz;exact ⟨i,hi,cS h1,cS h2,hz⟩
  ·cases h3
 ·cases h
theorem KA (w:World)(n c:Nat)(hnc:n<=c)(hc:c<=1099511627776):∃r w',BW prog (Instr.makeSlice 108 (.int .i64 (n:Int)) (.int .i64 (c:Int))) w (AA.v r) w'/\
  BQ w' r (List.replicate n 0)/\Ext (fun _=>False) w w'/\∀j,r.own j->w.heap.size<=j:=by
 obtain ⟨i,hi,h1,h2,hz⟩:=Ie;have hr:=run_make (P:=prog) w 108 5 i (.int .u8 0) Bj hi hz .i64 .i64 n c (by omega) (by omega) (by rw[h2];omega) (by omega);simp only[aa,h1,aH]at hr;refine ⟨⟨some ⟨w.heap.size,0,none⟩,n,c⟩,_,hr,⟨by rw[An];simp,.inr ⟨_,_,rfl,AO.new _ _ _,hnc,?_,?_⟩⟩,(Ext.refl _ w).alloc _,?_⟩
 ·rw[size_madeCells,aH]
 ·show List.take (n*1) (madeCells #[.int .u8 0] c).toList=_;rw[toList_madeCells_one,aH,List.take_replicate,bo hnc];simp[Bw]
 ·rintro j ⟨a,ha,rfl⟩;cases ha;exact av _
end Sh
namespace Sh
def jS (w:World)(s:AA)(l:List UInt8):Prop:=
 s.len=l.length/\(s=⟨none,0,0⟩\/∃g cur,s.p=some ⟨g,0,none⟩/\Ko w g cur 5/\s.len<=s.cap/\cur.size=s.cap/\cur.toList.take s.len=Bw l)
section
variable {w w':World} {s:AA} {l:List UInt8}
theorem jS.toR(h:jS w s l):Bx w s l:=by
 refine ⟨h.1,?_⟩;rcases h.2 with h2|⟨g,cur,hp,hb,hle,A1,ht⟩
 ·exact .inl h2
 ·exact .inr ⟨g,cur,hp,hb,by omega,ht⟩
theorem jS.AB{F:Nat->Prop}(h:jS w s l)(he:Ext F w w')(hn:∀j,s.own j->¬F j):jS w' s l:=by
 refine ⟨h.1,?_⟩;rcases h.2 with h2|⟨g,cur,hp,hb,r⟩
 ·exact .inl h2
 ·exact .inr ⟨g,cur,hp,he.AH6 hb (hn g ⟨_,hp,rfl⟩),r⟩
theorem Yb (w:World)(s:ByteArray):∃r w',BW prog (convert 9 108 (.string s)) w (AA.v r) w'/\jS w' r s.data.toList/\Ext (fun _=>False) w w'/\∀j,r.own j->w.heap.size<=j:=by
 have MD:=grownCap_ge w s.size 0 5;refine ⟨⟨some ⟨w.heap.size,0,none⟩,s.size,grownCap w s.size 0 5⟩,Go.Lib.bytesWorld w 5 s,Go.Lib.run_convert_string_bytes w _ _ 5 s Cb Bj Gh,⟨?_,.inr ⟨_,_,rfl,⟨_,Go.Lib.bytesWorld_at_new w _ s,.inr rfl⟩,MD,?_,?_⟩⟩,?_,?_⟩
 ·exact aK.symm
 ·unfold Go.Lib.bytesCells;rw[dN,Array.size_map,Array.size_replicate];show s.size+(grownCap w s.size 0 5-s.size)=grownCap w s.size 0 5;omega
 ·unfold Go.Lib.bytesCells;rw[cR,dB];exact bK (by rw[bp];exact aK)
 ·exact ⟨rfl,rfl,rfl,by rw[Go.Lib.bytesWorld_size];omega,fun k hk _=>Go.Lib.bytesWorld_at_old w _ s k hk⟩
 ·rintro j ⟨a,ha,rfl⟩;cases ha;exact av _
end
end Sh
set_option maxRecDepth 4000
set_option maxHeartbeats 2000000
namespace Vl
open Sh
abbrev Ob:=Int×Int×Int×ByteArray×AA×AA
abbrev Fb:AA:=⟨none,0,0⟩
def AF (o:Ob):List Value:=[.int .i64 o.1,.int .i64 o.2.1,.int .i64 o.2.2.1,.string o.2.2.2.1,AA.v o.2.2.2.2.1,AA.v o.2.2.2.2.2]
def Ir:Ob:=(0,0,0,⟨#[]⟩,Fb,Fb)
theorem Mb:El prog 23 25 6 88 (.agg (AF Ir).toArray):=⟨by kernel_rfl,by kernel_rfl,by kernel_rfl,by kernel_rfl,rfl⟩
theorem eZ (o:Ob):∀v∈AF o,v.oneCell'=true:=by
 intro v hv;simp only[AF,aN,bQ,dZ]at hv;rcases hv with rfl|rfl|rfl|rfl|rfl|rfl<;>rfl
theorem PI (L:List Ob):∀v∈L.flatMap AF,v.oneCell'=true:=by
 intro v hv;obtain ⟨o,_,h⟩:=List.mem_flatMap.1 hv;exact eZ o v h
theorem Ds (L:List Ob):(L.flatMap AF).length=L.length*6:=by
 induction L with
 |nil=>rfl
 |cons o L ih=>rw[bC,ae,ih,aA];simp[AF];omega
theorem jE {L:List Ob}{i j:Nat}{o:Ob}(hi:L[i]?=some o)(hj:j<6):(L.flatMap AF)[i*6+j]?=(AF o)[j]?:=by
 induction L generalizing i with
 |nil=>cases hi
 |cons p L ih=>
  rw[bC];cases i with
  |zero=>
   cases hi;rw[cg,aj,aG (by simp[AF];omega)]
  |succ i=>
   rw[aF (by simp[AF];omega),<-ih (by simpa using hi)]
   congr 1
   simp only[AF,aA,bq];omega
def OV (w:World)(s:AA)(L:List Ob):Prop:=s.len=L.length/\Bh w s 6 (L.flatMap AF)
abbrev AYb (g n:Nat):AA:=⟨some ⟨g,0,none⟩,n,n⟩
theorem OV.of{w:World}{g:Nat}{L:List Ob}{t:TypeId}(h:AO w g (L.flatMap AF).toArray t):OV w (AYb g L.length) L:=⟨rfl,Bh.of h (Ds L)⟩
theorem OV.AB{w w':World}{s:AA}{L:List Ob}(h:OV w s L)(he:Ext (fun _=>False) w w'):OV w' s L:=⟨h.1,h.2.AB he⟩
theorem OV.get{w:World}{s:AA}{L:List Ob}(h:OV w s L){i:Nat}{o:Ob}(hi:L[i]?=some o):∃a,s.p=some a/\w.cell? (a.add (i*6))=some (.int .i64 o.1)/\w.cell? ((a.add (i*6)).add 1)=some (.int .i64 o.2.1)/\w.cell? ((a.add (i*6)).add 2)=some (.int .i64 o.2.2.1)/\
  w.cell? ((a.add (i*6)).add 3)=some (.string o.2.2.2.1)/\w.cell? ((a.add (i*6)).add 4)=some (AA.v o.2.2.2.2.1)/\w.cell? ((a.add (i*6)).add 5)=some (AA.v o.2.2.2.2.2):=by
 have g:∀j v,j<6->(AF o)[j]?=some v->∃a,s.p=some a/\w.cell? ((a.add (i*6)).add j)=some v:=fun j v hj hv=>by
  obtain ⟨a,ha,hc⟩:=h.2.2 (i*6+j) v (by rw[jE hi hj];exact hv);exact ⟨a,ha,by rw[BN];exact hc⟩
 obtain ⟨a,ha,c0⟩:=g 0 _ (by omega) rfl;obtain ⟨a1,vT,c1⟩:=g 1 _ (by omega) rfl;obtain ⟨a2,QM,c2⟩:=g 2 _ (by omega) rfl;obtain ⟨a3,ha3,c3⟩:=g 3 _ (by omega) rfl;obtain ⟨a4,ha4,c4⟩:=g 4 _ (by omega) rfl;obtain ⟨a5,ha5,c5⟩:=g 5 _ (by omega) rfl;rw[ha]at vT QM ha3 ha4 ha5;cases vT;cases QM;cases ha3;cases ha4;cases ha5;exact ⟨a,ha,by rw[BN]at c0;exact c0,c1,c2,c3,c4,c5⟩
def OT (w:World):Nat->Ob->Prop
 |0,_=>False
 |d+1,o=>(∃K:List ByteArray,K.length<=maxLen/\o.2.2.2.2.1.len=K.length/\∀(i:Nat) (b:ByteArray),K[i]?=some b->∃a,o.2.2.2.2.1.p=some a/\w.cell? (a.add i)=some (.string b))/\
  ∃L:List Ob,L.length<=maxLen/\OV w o.2.2.2.2.2 L/\∀o'∈L,OT w d o'
theorem OT.mono{w:World}:∀(d:Nat) (o:Ob),OT w d o->OT w (d+1) o
 |0,_,h=>h.elim
 |d+1,o,h=>by
  obtain ⟨h1,L,h2,h3,h4⟩:=h;exact ⟨h1,L,h2,h3,fun o' ho=>OT.mono d o' (h4 o' ho)⟩
theorem OE {P:Program}{w:World}{n:Nat}{t:TypeId}{cs:List Value}{L:List (Nat×TypeId)}(hL:Qs P t=some L)(h:MI P w (n+1) t cs):cs.length=P.cellsOf t/\∀(i o:Nat) (u:TypeId),L[i]?=some (o,u)->MI P w n u ((cs.drop o).take (P.cellsOf u)):=by
 unfold MI at h;unfold Qs at hL;split at hL
 ·rename_i fs hu;rw[hu]at h;cases hL;refine ⟨h.1,fun i o u hi=>?_⟩;rw[aE]at hi;obtain ⟨f,h1,h2⟩:=bg.1 hi;cases h2;exact h.2 i f (by simpa using h1)
 ·cases hL
theorem KQ {P:Program}{w:World}{n k:Nat}{t e:TypeId}{cs:List Value}{α:Type}[Inhabited α]{Q:α->List Value->Prop}(hu:P.underlying t=some (.slice e))(hk:P.cellsOf e=k)(h:MI P w (n+1) t cs)
  (hQ:∀CU,MI P w n e CU->∃q,Q q CU):∃(s:AA) (L:List α),cs=[AA.v s]/\s.len=L.length/\L.length<=maxLen/\∀(i:Nat) (q:α),L[i]?=some q->∃a CU,s.p=some a/\(∀j,j<k->w.cell? (a.add (i*k+j))=CU[j]?)/\Q q CU:=by
 unfold MI at h;rw[hu]at h;obtain ⟨s,h1,h2⟩:=h;rcases h2 with rfl|⟨a,hp,g1,g2,hc⟩
 ·exact ⟨_,[],h1,rfl,bz _,fun i q hi=>by cases hi⟩
 ·rw[hk]at hc;have h':∀i,∃q:α,i<s.len->∃CU,(∀j,j<k->w.cell? (a.add (i*k+j))=CU[j]?)/\Q q CU:=fun i=>by
   by_cases hi:i<s.len
   ·obtain ⟨CU,hl,hc,hr⟩:=hc i hi;obtain ⟨q,hq⟩:=hQ CU hr;exact ⟨q,fun _=>⟨CU,hc,hq⟩⟩
   ·exact ⟨default,fun hh=>absurd hh hi⟩
  refine ⟨s,(List.range s.len).map fun i=>Classical.choose (h' i),h1,by simp,by simp;omega,fun i q hi=>?_⟩;rw[aE]at hi;obtain ⟨i',uz,rfl⟩:=bg.1 hi;obtain ⟨Am,rfl⟩:=ao.1 uz;simp only[dQ]at Am;simp only[List.getElem_range];obtain ⟨CU,c1,c2⟩:=Classical.choose_spec (h' i) Am;exact ⟨a,CU,hp,c1,c2⟩
theorem TM:Qs prog 25=some [(0,3),(1,2),(2,3),(3,9),(4,22),(5,23)]:=by kernel_rfl
theorem ABz {w:World}:∀(n:Nat) (cs:List Value),MI prog w n 25 cs->∃o:Ob,cs=AF o/\OT w n o
 |0,cs,h=>h.elim
 |1,cs,h=>((OE TM h).2 0 0 3 rfl).elim
 |n+2,cs,h=>by
  obtain ⟨hl,hf⟩:=OE TM h;rw[show prog.cellsOf 25=6 by kernel_rfl]at hl;obtain ⟨c0,c1,c2,c3,c4,c5,rfl⟩:∃c0 c1 c2 c3 c4 c5,cs=[c0,c1,c2,c3,c4,c5]:=by
   match cs,hl with
   |[c0,c1,c2,c3,c4,c5],_=>exact ⟨c0,c1,c2,c3,c4,c5,rfl⟩
  have f0:=hf 0 0 3 rfl;have f1:=hf 1 1 2 rfl;have f2:=hf 2 2 3 rfl;have f3:=hf 3 3 9 rfl;have f4:=hf 4 4 22 rfl;have f5:=hf 5 5 23 rfl;rw[show prog.cellsOf 3=1 by kernel_rfl]at f0 f2;rw[show prog.cellsOf 2=1 by kernel_rfl]at f1;rw[show prog.cellsOf 9=1 by kernel_rfl]at f3;rw[show prog.cellsOf 22=1 by kernel_rfl]at f4;rw[show prog.cellsOf 23=1 by kernel_rfl]at f5;obtain ⟨x0,e0,_⟩:=PG Tryz.underlying3 f0;obtain ⟨x1,e1,_⟩:=PG Tryz.underlying2 f1;obtain ⟨x2,e2,_⟩:=PG Tryz.underlying3 f2;obtain ⟨x3,e3,_⟩:=KR Tryz.underlying9 f3;obtain ⟨x4,K,e4,l4,m4,g4⟩:=KQ (Q:=fun (b:ByteArray) cs=>cs=[.string b]) Tryz.underlying22 (show prog.cellsOf 9=1 by kernel_rfl) f4 fun CU h=>by
   obtain ⟨s,h1,_⟩:=KR Tryz.underlying9 h;exact ⟨s,h1⟩
  have:Inhabited Ob:=⟨Ir⟩
  obtain ⟨x5,L,e5,l5,m5,g5⟩:=KQ (Q:=fun (o:Ob) cs=>cs=AF o/\OT w n o) Tryz.underlying23 (show prog.cellsOf 25=6 by kernel_rfl) f5 fun CU h=>ABz n CU h
  obtain rfl:c0= .int .i64 x0:=by simpa using e0
  obtain rfl:c1= .int .i64 x1:=by simpa using e1
  obtain rfl:c2= .int .i64 x2:=by simpa using e2
  obtain rfl:c3= .string x3:=by simpa using e3
  obtain rfl:c4=AA.v x4:=by simpa using e4
  obtain rfl:c5=AA.v x5:=by simpa using e5
  refine ⟨(x0,x1,x2,x3,x4,x5),rfl,⟨K,m4,l4,fun i b hi=>?_⟩,L,m5,⟨l5,by rw[Ds,l5],fun j v hj=>?_⟩,fun o' ho=>?_⟩
  ·obtain ⟨a,CU,ha,hc,rfl⟩:=g4 i b hi;have:=hc 0 (by omega);exact ⟨a,ha,by simpa using this⟩
  ·have V7:j<L.length*6:=by
    rw[<-Ds];exact (ao.1 hj).1
   have hi:j/6<L.length:=by omega
   have hjj:j=j/6*6+j%6:=by omega
   have hLi:L[j/6]?=some L[j/6]:=ad hi;obtain ⟨a,CU,ha,hc,rfl,_⟩:=g5 _ _ hLi;refine ⟨a,ha,?_⟩;have h1:=hc (j%6) (by omega);rw[hjj]at hj⊢;rw[jE hLi (by omega)]at hj;rw[h1];exact hj
  ·obtain ⟨i,hi,rfl⟩:=cu.1 ho;obtain ⟨_,_,_,_,_,h⟩:=g5 i _ (ad hi);exact OT.mono n _ h
theorem ADh {H:Type}{enc:TypeId×Value->H}{W:World}{spare:Nat->Bool}{held:Bool}{v:Value}{d:DataW H}{ps:List MemPlace}{rr:Reach}{b0:Nat}
  (h0:Value.okWide prog W rr b0 25 v) (h:DataW.Trod enc prog W 0 spare held 25 v d ps):∃o:Ob,v= .agg (AF o).toArray/\∃n,OT W n o:=by
 obtain ⟨cs,rfl,hl,n,hn⟩:=N1 (by rw[Tryz.underlying25];rfl) h0 h;obtain ⟨o,rfl,ho⟩:=ABz n cs hn;exact ⟨o,rfl,n,ho⟩
theorem Af.any{w:World}{a:Addr}:∀(ts:List FR) (i:Nat) (x:Al ts) (K:Al ts->Prop),(∀j v,(Al.cells ts x)[j]?=some v->w.cell? (a.add (i+j))=some v)->K x->Af w a i ts K
 |[],_,_,_,_,k=>k
 |[t],i,x,K,h,k=>Ld.mk (x:=x) (h 0 (t.v x) rfl) k
 |t::u::r,i,x,K,h,k=>Ld.mk (x:=x.1) (h 0 (t.v x.1) rfl) (Af.any (u::r) (i+1) x.2 (fun y=>K (x.1,y)) (fun j v hj=>by
   have:=h (j+1) v hj;rw[show i+1+j=i+(j+1) by omega];exact this) k)
theorem OV.word{w:World}{s:AA}{L:List Ob}(h:OV w s L){i:Nat}{o:Ob}(hi:L[i]?=some o){K:AG->Prop}(k:K o):∃a,s.p=some a/\Af w (a.add (i*6)) 0 AD K:=by
 obtain ⟨a,ha,c0,c1,c2,c3,c4,c5⟩:=h.get hi;refine ⟨a,ha,Af.any AD 0 o K (fun j v hj=>?_) k⟩;rw[aj]
 match j,hj with
 |0,hj=>obtain rfl:=aY hj;rw[show (a.add (i*6)).add 0=a.add (i*6) by rw[BN];rfl];exact c0
 |1,hj=>obtain rfl:=aY hj;exact c1
 |2,hj=>obtain rfl:=aY hj;exact c2
 |3,hj=>obtain rfl:=aY hj;exact c3
 |4,hj=>obtain rfl:=aY hj;exact c4
 |5,hj=>obtain rfl:=aY hj;exact c5
 |n+6,hj=>simp[Al.cells]at hj
end Vl
namespace Vl
open Sh
inductive Tr where
 |mk (k n g:Int) (s:ByteArray) (ks:List ByteArray) (kids:List Tr)
def Tr.k:Tr->Int| .mk k _ _ _ _ _=>k
def Tr.n:Tr->Int| .mk _ n _ _ _ _=>n
def Tr.g:Tr->Int| .mk _ _ g _ _ _=>g
def Tr.s:Tr->ByteArray| .mk _ _ _ s _ _=>s
def Tr.ks:Tr->List ByteArray| .mk _ _ _ _ ks _=>ks
def Tr.kids:Tr->List Tr| .mk _ _ _ _ _ kids=>kids
theorem Tr.ext{a b:Tr}(h1:a.k=b.k)(h2:a.n=b.n)(h3:a.g=b.g)(h4:a.s=b.s)(h5:a.ks=b.ks)(h6:a.kids=b.kids):a=b:=by
 cases a;cases b;simp only[Tr.k,Tr.n,Tr.g,Tr.s,Tr.ks,Tr.kids]at*;subst h1 h2 h3 h4 h5 h6
 rfl
def A9 {α β:Type}(R:α->β->Prop):List α->List β->Prop
 |[],[]=>True
 |a::l,b::m=>R a b/\A9 R l m
 |_,_=>False
theorem A9.len{α β:Type}{R:α->β->Prop}:∀{l:List α} {m:List β},A9 R l m->l.length=m.length
 |[],[],_=>rfl
 |_::_,_::_,h=>by rw[aA,aA,h.2.len]
theorem A9.imp{α β:Type}{R Q:α->β->Prop}(h:∀a b,R a b->Q a b):∀{l:List α} {m:List β},A9 R l m->A9 Q l m
 |[],[],_=>trivial
 |_::_,_::_,k=>⟨h _ _ k.1,k.2.imp h⟩
theorem A9.get{α β:Type}{R:α->β->Prop}:∀{l:List α} {m:List β},A9 R l m->∀{i:Nat} {a:α},l[i]?=some a->∃b,m[i]?=some b/\R a b
 |[],[],_,i,a,h=>by simp at h
 |_::_,b::_,k,0,a,h=>by
  simp only[bL,bE]at h;subst h;exact ⟨b,rfl,k.1⟩
 |_::_,_::_,k,i+1,a,h=>by
  simp only[dq]at h⊢;exact k.2.get h
theorem A9.WI{α β:Type}{R:α->β->Prop}:∀{l:List α} {m:List β},A9 R l m->∀{i:Nat} {b:β},m[i]?=some b->∃a,l[i]?=some a/\R a b
 |[],[],_,i,a,h=>by simp at h
 |a::_,_::_,k,0,b,h=>by
  simp only[bL,bE]at h;subst h;exact ⟨a,rfl,k.1⟩
 |_::_,_::_,k,i+1,b,h=>by
  simp only[dq]at h⊢;exact k.2.WI h
theorem A9.app{α β:Type}{R:α->β->Prop}:∀{l:List α} {m:List β} {l':List α} {m':List β},A9 R l m->A9 R l' m'->A9 R (l++l') (m++m')
 |[],[],_,_,_,h=>h
 |_::_,_::_,_,_,k,h=>⟨k.1,k.2.app h⟩
theorem A9.take{α β:Type}{R:α->β->Prop}:∀{l:List α} {m:List β} (n:Nat),A9 R l m->A9 R (l.take n) (m.take n)
 |_,_,0,_=>by simp[A9]
 |[],[],_+1,_=>by simp[A9]
 |_::_,_::_,n+1,k=>⟨k.1,k.2.take n⟩
theorem A9.drop{α β:Type}{R:α->β->Prop}:∀{l:List α} {m:List β} (n:Nat),A9 R l m->A9 R (l.drop n) (m.drop n)
 |_,_,0,k=>by simpa using k
 |[],[],_+1,_=>by simp[A9]
 |_::_,_::_,n+1,k=>k.2.drop n
def KV (w:World)(s:AA)(K:List ByteArray):Prop:=(s.len=K.length/\K.length<=9223372036854775807)/\∀(i:Nat) (b:ByteArray),K[i]?=some b->∃a,s.p=some a/\w.cell? (a.add i)=some (.string b)
theorem KV.AB{w w':World}{s:AA}{K:List ByteArray}(h:KV w s K)(he:Ext (fun _=>False) w w'):KV w' s K:=⟨h.1,fun i b hi=>by
 obtain ⟨a,ha,hc⟩:=h.2 i b hi;exact ⟨a,ha,he.Bn hc⟩⟩
theorem KV.nil(w:World):KV w Fb []:=⟨⟨rfl,by simp⟩,fun i b h=>by simp at h⟩
def KM (w:World):Nat->Ob->Tr->Prop
 |0,_,_=>False
 |d+1,o,t=>(o.1=t.k/\o.2.1=t.n/\o.2.2.1=t.g/\o.2.2.2.1=t.s)/\KV w o.2.2.2.2.1 t.ks/\∃L:List Ob,OV w o.2.2.2.2.2 L/\A9 (KM w d) L t.kids
theorem KM.AB{w w':World}(he:Ext (fun _=>False) w w'):∀{d:Nat} {o:Ob} {t:Tr},KM w d o t->KM w' d o t
 |0,_,_,h=>h.elim
 |d+1,o,t,⟨h1,h2,L,h3,h4⟩=>⟨h1,h2.AB he,L,h3.AB he,h4.imp fun _ _ h=>KM.AB he h⟩
theorem KM.mono{w:World}:∀{d:Nat} {o:Ob} {t:Tr},KM w d o t->KM w (d+1) o t
 |0,_,_,h=>h.elim
 |d+1,o,t,⟨h1,h2,L,h3,h4⟩=>⟨h1,h2,L,h3,h4.imp fun _ _ h=>KM.mono h⟩
theorem KM.le{w:World}{d d':Nat}(h:d<=d'){o:Ob}{t:Tr}(k:KM w d o t):KM w d' o t:=by
 induction h with
 |refl=>exact k
 |step _ ih=>exact ih.mono
theorem jD {α β:Type}{R:α->β->Prop}:∀(l:List α),(∀a∈l,∃b,R a b)->∃m,A9 R l m
 |[],_=>⟨[],trivial⟩
 |a::l,h=>by
  obtain ⟨b,hb⟩:=h a (aT ..);obtain ⟨m,hm⟩:=jD l fun x hx=>h x (aC _ hx)
  exact ⟨b::m,hb,hm⟩
theorem AAp {w:World}:∀{d:Nat} {o:Ob},OT w d o->∃t,KM w d o t
 |0,_,h=>h.elim
 |d+1,o,⟨⟨K,RZ,TX,YD⟩,L,_,hL,hT⟩=>by
  obtain ⟨m,hm⟩:=jD (R:=KM w d) L fun a ha=>AAp (hT a ha)
  exact ⟨.mk o.1 o.2.1 o.2.2.1 o.2.2.2.1 K m,⟨rfl,rfl,rfl,rfl⟩,⟨⟨TX,cd RZ (by decide)⟩,YD⟩,L,hL,hm⟩
def VJ (w:World)(s:AA)(ts:List Tr):Prop:=∃d L,OV w s L/\A9 (KM w d) L ts
def OX (w:World)(o:Ob)(t:Tr):Prop:=∃d,KM w d o t
theorem OX.AB{w w':World}{o:Ob}{t:Tr}(h:OX w o t)(he:Ext (fun _=>False) w w'):OX w' o t:=let ⟨d,h⟩:=h;⟨d,h.AB he⟩
theorem VJ.AB{w w':World}{s:AA}{ts:List Tr}(h:VJ w s ts)(he:Ext (fun _=>False) w w'):VJ w' s ts:=by
 obtain ⟨d,L,h1,h2⟩:=h;exact ⟨d,L,h1.AB he,h2.imp fun _ _ h=>h.AB he⟩
theorem VJ.len{w:World}{s:AA}{ts:List Tr}(h:VJ w s ts):s.len=ts.length:=by
 obtain ⟨d,L,h1,h2⟩:=h;rw[h1.1,h2.len]
theorem OX.of{w:World}{o:Ob}{t:Tr}(h1:o.1=t.k)(h2:o.2.1=t.n)(h3:o.2.2.1=t.g)(h4:o.2.2.2.1=t.s)(h5:KV w o.2.2.2.2.1 t.ks)(h6:VJ w o.2.2.2.2.2 t.kids):OX w o t:=by
 obtain ⟨d,L,k1,k2⟩:=h6;exact ⟨d+1,⟨h1,h2,h3,h4⟩,h5,L,k1,k2⟩
theorem OX.out{w:World}{o:Ob}{t:Tr}(h:OX w o t):(o.1=t.k/\o.2.1=t.n/\o.2.2.1=t.g/\o.2.2.2.1=t.s)/\KV w o.2.2.2.2.1 t.ks/\VJ w o.2.2.2.2.2 t.kids:=by
 obtain ⟨d,h⟩:=h;cases d with
 |zero=>exact h.elim
 |succ d=>exact ⟨h.1,h.2.1,d,h.2.2⟩
structure Us where
 n:Bool
 g:Bool
 s:Bool
 ks:Bool
 kids:Bool
def BG (k:Int):Option Us:=
 if k=0 then some ⟨false,false,false,false,false⟩else if k=1\/k=2\/k=3 then some ⟨true,false,false,false,false⟩else if k=4\/k=5 then some ⟨false,false,true,false,false⟩
 else if k=6 then some ⟨false,false,false,false,true⟩else if k=7 then some ⟨false,false,false,true,true⟩else if k=8 then some ⟨true,true,false,false,false⟩else if k=9 then some ⟨false,false,true,true,true⟩else none
def VC (s:ByteArray):Bool:=decide (s.size<=127)&& !s.data.toList.contains 0
def X5:Option ByteArray->ByteArray->Bool
 |some p,k=>Op.bytesLess p.toList k.toList
 |none,_=>true
def RV (RW:Bool):Option ByteArray->List ByteArray->List Tr->Bool
 |_,[],[]=>true
 |prev,k::ks,x::xs=>VC k&&X5 prev k&& !(RW&&(k.toList==(⟨#[76,101,110,103,116,104]⟩:ey).toList))&&decide (x.k≠0)&&RV RW (some k) ks xs
 |_,_,_=>false
def Lu (t:Tr):Bool:=RV (decide (t.k=9)) none t.ks t.kids
def uV (t:Tr):Bool:=
 if t.k=1 then decide (0<=t.n/\t.n<=1)else if t.k=2 then decide (-2147483647<=t.n/\t.n<=2147483647)else if t.k=3 then decide (-1073741824<=t.n/\t.n<=1073741824)
 else if t.k=8 then decide (1<=t.n/\t.n<=8191)&&decide (0<=t.g/\t.g<=65535)else true
def eY (t:Tr):Bool:=if t.k=4 then decide (t.s.size<=32767)else if t.k=5 then decide (t.s.size<=127)else decide (t.s.size<=1048576)
def KP (deep:Int)(t:Tr)(u:Us):Bool:=(u.n||(t.n==0))&&(u.g||(t.g==0))&&(u.s||(t.s.toList==(⟨#[]⟩:ey).toList))&&(u.ks||(((t.ks.length:Nat):Int)==0))&&(u.kids||(((t.kids.length:Nat):Int)==0))&&((deep==1)||(t.k !=9))
def Lw (t:Tr)(u:Us):Bool:=uV t&&eY t&&decide (((t.kids.length:Nat):Int)<=8191)&&((t.k !=5)||VC t.s)&&(!u.ks||Lu t)
def Ff (deep:Int)(t:Tr):Bool:=decide (deep<=24)&&(match BG t.k with
 |none=>false
 |some u=>KP deep t u&&Lw t u)
mutual
def Cc (deep:Int):Tr->Bool
 | .mk k n g s ks kids=>Ff deep (.mk k n g s ks kids)&&okL (deep+1) kids
def okL (deep:Int):List Tr->Bool
 |[]=>true
 |t::r=>Cc deep t&&okL deep r
end
theorem Mf (deep:Int)(t:Tr):Cc deep t=(Ff deep t&&okL (deep+1) t.kids):=by
 cases t;rw[Cc]
 rfl
theorem VD {deep:Int}:∀{l:List Tr},okL deep l=true↔∀t∈l,Cc deep t=true
 |[]=>by simp[okL]
 |t::r=>by
  rw[okL,ay,VD];simp
end Vl
end Go.Proofs.YtdmmgclkphaaaaaGreatDoor
namespace Go.Proofs
open Go.Shelf
def Tryz.Xw:Go.Shelf.Ren:=⟨fun|137=>67|217=>101|266=>122|n=>n,fun|9=>9|5=>5|3=>3|n=>n,fun|n=>n⟩
theorem Tryz.zf:Go.Proofs.Lays.n137 Tryz.prog Tryz.Xw:={
 mixed:=by kernel_rfl
 f137:=Tryz.func67.trans (congrArg some (by kernel_rfl))
 f217:=Tryz.func101.trans (congrArg some (by kernel_rfl))
 f266:=Tryz.func122.trans (congrArg some (by kernel_rfl))
 t3:=Tryz.underlying3
 a3:=Tryz.isAgg3
 z3:=Tryz.sizeOf3
 v3:=Tryz.zeroValue3
 t5:=Tryz.underlying5
 a5:=Tryz.isAgg5
 z5:=Tryz.sizeOf5
 v5:=Tryz.zeroValue5
 t9:=Tryz.underlying9
 a9:=Tryz.isAgg9
 z9:=Tryz.sizeOf9
 v9:=Tryz.zeroValue9}
open Go.RowKit in
theorem Tryz.strings_IndexByte(s:ByteArray)(c:Int)(w:World):
  Calls Tryz.prog 67 #[.string s,.int .u8 c] w fun e w'=>e= .returned (.int .i64 (Lib.indexByte s.data.toList c.toNat.toUInt8))/\w'=w:=Any.strings_IndexByte Tryz.zf s c w
end Go.Proofs
namespace Go.Proofs.YtdmmgclkphaaaaaGreatDoor
set_option maxRecDepth 8000
set_option maxHeartbeats 4000000
namespace Vl
open Sh
theorem Br.t{b:Bool}{A B:Prop}(h:b=true)(h1:A):Br b A B:=by rw[h];exact h1
theorem Br.f{b:Bool}{A B:Prop}(h:b=false)(h1:B):Br b A B:=by rw[h];exact h1
theorem eqL (a b:ByteArray):(a.toList==b.toList)=decide (a.data.toList=b.data.toList):=by
 rw[ByteArray.toList_eq,ByteArray.toList_eq];by_cases h:a.data.toList=b.data.toList
 ·rw[aD h];simpa using h
 ·rw[aP h];simpa using h
theorem AR (o:Ob):Al.cells AD o=AF o:=rfl
section
variable {w w' w0 w1:World} {o:Ob} {t:Tr}
attribute [local irreducible] Ld Sh.St Nw Nn Lt AP Af B1 A6
theorem Cd (b:Bool)(e:Int)(w:World){R:World->Prop}{PR:Value->World->Prop}(h1:b=true->R w)(h2:b=false->PR (.iface 71 (.agg #[.int .i64 e])) w):BL b e w R PR:=by
 refine T37 _ _ _ _ _ ?_;unfold S37;cases b with
 |true=>exact Br.f rfl (h1 rfl)
 |false=>exact Br.t rfl (h2 rfl)
def usV (k:Int):(Bool×Bool×Bool×Bool×Bool)×Bool:=match BG k with
 |some u=>((u.n,u.g,u.s,u.ks,u.kids),true)
 |none=>((false,false,false,false,false),false)
theorem AGJ (k:Int)(w:World):C38 k w fun r b w1=>(r,b)=usV k/\Ext (fun _=>False) w w1:=by
 refine T38 _ _ _ ?_;unfold S38;refine (Hn.start w).nw fun w2 H=>?_
 simp only[ag,add_lit,aj]at H⊢;by_cases h0:k=0
 ·subst h0;refine Br.t rfl ?_
  iterate 5 (refine H.st 0 rfl (by simp) fun _ H=>?_;simp only[ai,aq]at H)
  iterate 5 refine H.ld 0 rfl rfl ?_
  exact ⟨rfl,H.ext⟩
 refine Br.f (by simpa using h0) (CP.intro ?_);have J2:∀b:Bool,b=decide (k=1\/k=2\/k=3)->qw w k (fun r b w1=>(r,b)=usV k/\Ext (fun _=>False) w w1) b w2:=by
  rintro b hb;unfold qw;simp only[add_lit,aj];by_cases h1:k=1\/k=2\/k=3
  ·rw[aD h1]at hb;subst hb;refine Br.t rfl ?_
   iterate 5 (refine H.st 0 rfl (by simp) fun _ H=>?_;simp only[ai,aq]at H)
   iterate 5 refine H.ld 0 rfl rfl ?_
   refine ⟨?_,H.ext⟩;unfold usV BG;rw[ah h0,ak h1]
  ·rw[aP h1]at hb;subst hb;refine Br.f rfl (CP.intro ?_);have J1:∀b:Bool,b=decide (k=4\/k=5)->qu w k (fun r b w1=>(r,b)=usV k/\Ext (fun _=>False) w w1) b w2:=by
    rintro b hb;unfold qu;simp only[add_lit,aj];by_cases h4:k=4\/k=5
    ·rw[aD h4]at hb;subst hb;refine Br.t rfl ?_
     iterate 5 (refine H.st 0 rfl (by simp) fun _ H=>?_;simp only[ai,aq]at H)
     iterate 5 refine H.ld 0 rfl rfl ?_
     refine ⟨?_,H.ext⟩;unfold usV BG;rw[ah h0,ah h1,ak h4]
    ·rw[aP h4]at hb;subst hb;refine Br.f rfl ?_;refine Br.eq (fun h6=>?_) fun h6=>Br.eq (fun h7=>?_) fun h7=>Br.eq (fun h8=>?_) fun h8=>Br.eq (fun h9=>?_) fun h9=>?_
     all_goals
      iterate 5 (refine H.st 0 rfl (by simp) fun _ H=>?_;simp only[ai,aq]at H)
      iterate 5 refine H.ld 0 rfl rfl ?_
      refine ⟨?_,H.ext⟩;unfold usV BG;simp[*]
   refine Br.eq (fun h4=>J1 _ ?_) fun h4=>J1 _ ?_
   ·rw[h4];rfl
   ·rw[dL,beq_iff_eq,cH];omega
 refine Br.eq (fun h1=>J2 _ ?_) fun h1=>Br.eq (fun h2=>J2 _ ?_) fun h2=>J2 _ ?_
 ·rw[h1];rfl
 ·rw[h2];rfl
 ·rw[dL,beq_iff_eq,cH];omega
theorem jF (n a b:Int)(w:World):C65 n a b w fun r w1=>r=decide (a<=n/\n<=b)/\w1=w:=by
 refine T65 _ _ _ _ _ ?_;unfold S65;refine Br.dec (fun h=>⟨?_,rfl⟩) fun h=>⟨?_,rfl⟩
 ·rw[dL,cH,cH];exact ⟨fun h2=>⟨h,h2⟩,fun h2=>h2.2⟩
 ·symm
  exact aP fun h2=>h h2.1
theorem AGK (n a b:Int)(w:World):C66 n a b w fun r w1=>r=decide (a<=n/\n<=b)/\w1=w:=by
 refine T66 _ _ _ _ _ ?_;unfold S66;refine Br.dec (fun h=>⟨?_,rfl⟩) fun h=>⟨?_,rfl⟩
 ·rw[dL,cH,cH];exact ⟨fun h2=>⟨h,h2⟩,fun h2=>h2.2⟩
 ·symm
  exact aP fun h2=>h h2.1
theorem AGL (h:OX w0 o t)(w:World):C39 o w fun r w1=>r=uV t/\Ext (fun _=>False) w w1:=by
 obtain ⟨⟨hk,hn,hg,_⟩,_,_⟩:=h.out;refine T39 o _ _ ?_;unfold S39;rw[AR];refine (Hn.start w).nw (cs:=AF o) fun w2 H=>?_
 simp only[ag,add_lit,aj]at H⊢;unfold uV;rw[<-hk,<-hn,<-hg];refine H.ld 0 rfl rfl (Br.eq (fun h1=>H.ld 0 rfl rfl ?_) fun h1=>Br.eq (fun h2=>H.ld 0 rfl rfl ?_) fun h2=>Br.eq (fun h3=>H.ld 0 rfl rfl ?_) fun h3=>Br.eq (fun h8=>H.ld 0 rfl rfl ?_) fun h8=>?_)
 ·refine (jF _ _ _ _).mono ?_;rintro r w3 ⟨rfl,rfl⟩;exact ⟨by rw[ak h1],H.ext⟩
 ·refine (jF _ _ _ _).mono ?_;rintro r w3 ⟨rfl,rfl⟩;exact ⟨by rw[ah h1,ak h2],H.ext⟩
 ·refine (jF _ _ _ _).mono ?_;rintro r w3 ⟨rfl,rfl⟩;exact ⟨by rw[ah h1,ah h2,ak h3],H.ext⟩
 ·rw[ah h1,ah h2,ah h3,ak h8];refine (jF _ _ _ _).mono ?_;rintro r w3 ⟨rfl,rfl⟩;refine Br.dec (fun h=>H.ld 0 rfl rfl ?_) fun h=>⟨by rw[aP h];rfl,H.ext⟩
  refine (AGK _ _ _ _).mono ?_;rintro r w3 ⟨rfl,rfl⟩;exact ⟨by rw[aD h];rfl,H.ext⟩
 ·exact ⟨by rw[ah h1,ah h2,ah h3,ah h8],H.ext⟩
theorem zi (h:OX w0 o t)(w:World):C40 o w fun r w1=>r=eY t/\Ext (fun _=>False) w w1:=by
 obtain ⟨⟨hk,hn,hg,hs⟩,_,_⟩:=h.out;refine T40 o _ _ ?_;unfold S40;rw[AR];refine (Hn.start w).nw (cs:=AF o) fun w2 H=>?_
 simp only[ag,add_lit,aj]at H⊢;unfold eY;rw[<-hk,<-hs];have e:∀n:Nat,decide (((o.2.2.2.1.size:Nat):Int)<=(n:Int))=decide (o.2.2.2.1.size<=n):=fun n=>by
  rw[dL,cH,cH];omega
 refine H.ld 0 rfl rfl (Br.eq (fun h1=>H.ld 0 rfl rfl ⟨?_,H.ext⟩) fun h1=>Br.eq (fun h2=>H.ld 0 rfl rfl ⟨?_,H.ext⟩) fun h2=>H.ld 0 rfl rfl ⟨?_,H.ext⟩)
 ·rw[ak h1];exact e 32767
 ·rw[ah h1,ak h2];exact e 127
 ·rw[ah h1,ah h2];exact e 1048576
theorem zx (s:ByteArray)(c:UInt8)(w:World):C67 s (c.toNat:Int) w fun r w1=>r=Lib.indexByte s.data.toList c/\w1=w:=
 (Tryz.strings_IndexByte s c.toNat w).mono fun e w' h=>⟨_,h.1,by rw[aa,Nat.toUInt8_eq,UInt8.ofNat_toNat],h.2⟩
theorem IW (l:List UInt8)(c:UInt8):decide (Lib.indexByte l c<0)= !l.contains c:=by
 rw[Lib.contains_iff_indexByte,dL,cH,dR,decide_eq_false_iff_not];omega
theorem AB1 (s:ByteArray)(w:World):C41 s w fun r w1=>r=VC s/\w1=w:=by
 refine T41 _ _ _ ?_;unfold S41;unfold VC;refine Br.dec (fun h=>(zx s 0 w).mono ?_) fun h=>⟨?_,rfl⟩
 ·rintro r w1 ⟨rfl,rfl⟩;rw[IW,aD (show s.size<=127 by omega)];exact ⟨rfl,rfl⟩
 ·rw[aP (by omega)]
  rfl
end
end Vl
namespace Ac
open Sh
abbrev By:=List UInt8
def bl (s:ByteArray):By:=s.data.toList
def ba (l:By):ByteArray:=⟨l.toArray⟩
theorem CS (l:By):bl (ba l)=l:=by simp[bl,ba]
theorem Gg (s:ByteArray):ba (bl s)=s:=FW (CS _)
theorem AQ (s:ByteArray):s.size=(bl s).length:=(aK (xs:=s.data)).symm
theorem AB7 (s t:ByteArray):bl (s++t)=bl s++bl t:=mE s t
theorem Ay (c:UInt8):c.toNat<256:=c.toNat_lt
theorem DW {s:ByteArray}{i:Nat}{c:UInt8}(h:(bl s)[i]?=some c):Cp s (i:Int)=(c.toNat:Int):=by
 rw[DX,af];have h':s.data.toList[i]?=some c:=h;rw[h']
 rfl
theorem byte_at {t:By}{i:Nat}(h:i<t.length):t[i]?=some (t.getD i 0):=by
 rw[af,ad h]
 rfl
theorem PK {l:By}{i:Nat}{c:UInt8}(h:l[i]?=some c):l.take (i+1)=l.take i++[c]:=by
 rw[aO,h]
 rfl
theorem mF {l:By}{i:Nat}{c:UInt8}(h:l[i]?=some c):l.drop i=c::l.drop (i+1):=by
 obtain ⟨hi,e⟩:=ao.1 h;rw[aS hi,e]
def hx (n:Nat):UInt8:=if n<10 then UInt8.ofNat (48+n)else UInt8.ofNat (55+n)
def fF (c:UInt8):By:=[hx (c.toNat/16),hx (c.toNat%16)]
def J9 (l:By):By:=l.flatMap fF
theorem mG {n:Nat}(h:n<16):(hx n).toNat=if n<10 then 48+n else 55+n:=by
 unfold hx;split
 ·rw[cG];omega
 ·rw[cG];omega
def whB (c:UInt8):Bool:=[0,9,10,12,13,32].contains c
theorem mH {c:UInt8}(h:33<=c.toNat):whB c=false:=by
 have:∀n:Fin 256,33<=n.val->whB (UInt8.ofNat n.val)=false:=by decide
 have:=this ⟨c.toNat,Ay c⟩ h;rwa[UInt8.ofNat_toNat]at this
theorem zw {n:Nat}(h:n<16):48<=(hx n).toNat/\(hx n).toNat<=70/\(hx n).toNat≠62:=by
 rw[mG h];split<;>omega
theorem HO:∀l:By,(J9 l).length=2*l.length
 |[]=>rfl
 |c::l=>by
  have:=HO l;unfold J9 at this⊢;rw[bC,ae,this,aA];simp[fF];omega
theorem IW (l:By)(c:UInt8):decide (Go.Lib.indexByte l c>=0)=l.contains c:=by
 by_cases h:Go.Lib.indexByte l c=-1
 ·rw[h];have:l.contains c=false:=by
   rw[<-Bool.not_eq_true,List.contains_iff_mem];intro hm;obtain ⟨i,hi⟩:=bU.1 hm;exact Go.Lib.indexByte_none h i hi
  rw[this]
  rfl
 ·have h1:=Go.Lib.indexByte_ge l c;obtain ⟨o,ho⟩:∃o:Nat,Go.Lib.indexByte l c=o:=⟨(Go.Lib.indexByte l c).toNat,by omega⟩
  rw[ho,aD (by omega)];have:=(Go.Lib.indexByte_some ho).1
  symm
  rw[List.contains_iff_mem];exact aB this
theorem mI {x y:Nat}(hx:x<2^8)(hy:y<2^8):CY .u8 (x:Int) (y:Int)=((x&&&y:Nat):Int):=by
 unfold CY;have e8:IntKind.u8.bits=8:=rfl;have h1:(BitVec.ofInt IntKind.u8.bits (x:Int)&&&BitVec.ofInt IntKind.u8.bits (y:Int)).toNat=x&&&y:=by
  rw[BitVec.toNat_and,BitVec.toNat_ofInt,BitVec.toNat_ofInt,e8];rw[show ((x:Int)%((2^8:Nat):Int)).toNat=x by omega,show ((y:Int)%((2^8:Nat):Int)).toNat=y by omega]
 rw[h1];have h2:x&&&y<2^8:=Nat.and_lt_two_pow x hy;exact Hu (by omega)
abbrev jI:ByteArray:=⟨#[48,49,50,51,52,53,54,55,56,57,65,66,67,68,69,70]⟩
theorem mJ (n:Nat)(h:n<16):Cp jI (n:Int)=((hx n).toNat:Int):=by
 have:∀m:Fin 16,Cp jI ((m.val:Nat):Int)=((hx m.val).toNat:Int):=by decide
 exact this ⟨n,h⟩
theorem AHP (c:UInt8):Int.fdiv (c.toNat:Int) (2^4)=((c.toNat/16:Nat):Int):=by
 rw[dD _ (by decide)];show (c.toNat:Int)/16=_;omega
theorem AHQ (c:UInt8):CY .u8 (c.toNat:Int) 15=((c.toNat%16:Nat):Int):=by
 have:=mI (x:=c.toNat) (y:=15) c.toNat_lt (by decide);rw[show ((15:Nat):Int)=15 from rfl]at this;rw[this]
 congr 1
 exact dj c.toNat 4
theorem Ext.IG{F:Nat->Prop}{a b c:World}(h:Ext (fun _=>False) a b)(k:Ext F b c)(hF:∀j,F j->a.heap.size<=j):Ext (fun _=>False) a c:=
 h.trans k (fun _ h=>h) fun i hi hh=>absurd hi (by have:=hF i hh;omega)
section
variable {w0 w w' w1:World} {s t:ByteArray} {b:Nat} {l m:By} {most:Nat}
attribute [local irreducible] Ld Sh.St Nw Nn Lt AP
theorem JN (c:UInt8)(w:World):C76 (c.toNat:Int) w fun r w1=>r=whB c/\w1=w:=by
 refine T76 _ _ _ ?_;unfold S76;refine (Vl.zx _ c w).mono ?_;rintro r w1 ⟨rfl,rfl⟩;exact ⟨IW _ _,rfl⟩
theorem TP (c:UInt8)(w:World):C75 (c.toNat:Int) w fun r w1=>(∀n,n<16->c=hx n->r=(n:Int))/\w1=w:=by
 refine T75 _ _ _ ?_;unfold S75;have hc:=Ay c;have hv:∀n,n<16->c=hx n->c.toNat=if n<10 then 48+n else 55+n:=fun n h e=>by rw[e];exact mG h
 generalize c.toNat=m at hc hv;have u8:∀z:Int,0<=z->z<256->IntKind.u8.wrap z=z:=fun z h1 h2=>Hu (by omega)
 refine Br.dec (fun q1=>Br.dec (fun q2=>⟨fun n hn e=>?_,rfl⟩) fun q2=>Br.dec (fun q3=>Br.dec (fun q4=>⟨fun n hn e=>?_,rfl⟩) fun q4=>Br.dec (fun q5=>Br.dec (fun q6=>⟨fun n hn e=>?_,rfl⟩) fun q6=>⟨fun n hn e=>?_,rfl⟩) fun q5=>⟨fun n hn e=>?_,rfl⟩) fun q3=>Br.dec (fun q5=>absurd q5 (by omega)) fun q5=>⟨fun n hn e=>?_,rfl⟩) fun q1=>Br.dec (fun q3=>absurd q3 (by omega)) fun q3=>Br.dec (fun q5=>absurd q5 (by omega)) fun q5=>⟨fun n hn e=>?_,rfl⟩
 all_goals
  have hh:=hv n hn e;split at hh
  all_goals first
   |(exfalso;omega)
   |(rw[u8 _ (by omega) (by omega),AE (by omega)];omega)
   |(rw[u8 _ (by omega) (by omega),AE (n:=(m:Int)-65) (by omega),AE (by omega)];omega)
theorem AHR (hs:s.size<=1000000)(w:World):C71 s w fun r w1=>bl r=J9 (bl s)/\Ext (fun _=>False) w w1:=by
 refine T71 _ _ _ ?_;unfold S71;have hbs:=AQ s;rw[show (IntKind.i64.wrap (2*((s.size:Nat):Int)))=((2*s.size:Nat):Int) by rw[AE (by omega)];omega];obtain ⟨r0,w0,va,hR0,he0,ho0⟩:=KA w 0 (2*s.size) (by omega) (by omega);refine ⟨r0,w0,va,?_⟩;refine ⟨fun n st v=>∃(i:Nat) (sl:AA),st=(sl,(i:Int))/\i<=s.size/\n=s.size-i/\BQ v sl (J9 ((bl s).take i))/\(∀j,sl.own j->w.heap.size<=j)/\Ext (fun _=>False) w v,s.size,⟨0,r0,rfl,by omega,rfl,hR0,ho0,he0⟩,?_⟩;rintro n st v ⟨i,sl,rfl,hi,rfl,hR,ho,hE⟩;unfold zy;refine Br.dec (fun q=>?_) fun q=>?_
 ·have hc:=byte_at (t:=bl s) (i:=i) (by omega);generalize (bl s).getD i 0=c at hc;have Am:=Ay c;rw[DW hc,AHP,AHQ,mJ _ (by omega),mJ _ (by omega)];refine ⟨by omega,by omega,by omega,?_,by omega,by omega,by omega,?_,Nw.of ?_⟩
  ·have:jI.size=16:=rfl;show ((c.toNat/16:Nat):Int)<(jI.size:Nat);omega
  ·have:jI.size=16:=rfl;show ((c.toNat%16:Nat):Int)<(jI.size:Nat);omega
  have jJ:=HO ((bl s).take i);rw[au]at jJ;have e1:Ext (fun _=>False) v.drew (v.drew.alloc (.cells (Bw (fF c)).toArray 5)):=(Ext.refl _ _).alloc _;have R1:BQ (v.drew.alloc (.cells (Bw (fF c)).toArray 5)) ⟨some ⟨v.drew.heap.size,0,none⟩,2,2⟩ (fF c):=Row.new v.drew (Bw (fF c)).toArray 5 1 2 rfl;have hR':BQ v.drew sl (J9 ((bl s).take i)):=hR.AB (Ext.refl (fun _=>False) v).drew fun _ _ h=>h
  have hR1:=hR'.AB e1 fun _ _ h=>h
  obtain ⟨Bi,v',Ag,hR',KB,vb⟩:=Kj (ty:=108) hR1 R1 (by
   have:(fF c).length=2:=rfl;omega)
  refine ⟨Bi,v',Ag,s.size-(i+1),by omega,i+1,Bi,by rw[AE (by omega)];rfl,by omega,rfl,?_,?_,?_⟩
  ·rw[PK hc];unfold J9 at hR'⊢;rw[bJ];simpa using hR'
  ·intro j hj;rcases vb j hj with h|h
   ·exact ho j h
   ·have:=hE.size;have:=e1.size;simp only[YQ]at this;omega
  ·exact Ext.IG (hE.drew.tr e1) KB fun j hj=>ho j hj
 ·have SE:i=(bl s).length:=by omega
  refine ⟨_,_,HP hR,?_,hE⟩;show bl (ba _)=_;rw[CS,SE,bj]
theorem AHT (hs:s.size<=1000000)(w:World):C48 s w fun r w1=>bl r=J9 (bl s)++[62]/\Ext (fun _=>False) w w1:=by
 refine T48 _ _ _ ?_;unfold S48;refine (AHR hs w).mono ?_;rintro r w1 ⟨hr,he⟩;have mx:IntKind.i64.max=9223372036854775807:=by decide
 have z:=AQ r;have z2:=AQ s;rw[hr,HO]at z;have z1:(⟨#[62]⟩:ey).size=1:=rfl;refine ⟨by rw[mx,z1];omega,?_,he⟩;rw[AB7,hr]
 rfl
theorem elB:El Tryz.prog 108 5 1 1 (.int .u8 0):=⟨by kernel_rfl,by kernel_rfl,by kernel_rfl,by kernel_rfl,rfl⟩
structure Sk (w0 w:World) (b:Nat) (l:By) (most:Nat):Prop where
 lo:w0.heap.size<=b
 AS:∃sl:AA,AO w b #[AA.v sl,.int .i64 (most:Int)] 144/\BQ w sl l/\∀j,sl.own j->w0.heap.size<=j
structure Wk (w0 w w':World):Prop where
 ext:Ext (fun j=>w0.heap.size<=j) w w'
 AB:∀j cs t,t≠144->t≠5->AO w j cs t->AO w' j cs t
theorem Wk.refl(w0 w:World):Wk w0 w w:=⟨Ext.refl _ _,fun _ _ _ _ _ h=>h⟩
theorem Wk.tr{w0 a b c:World}(h:Wk w0 a b)(k:Wk w0 b c):Wk w0 a c:=⟨h.ext.tr k.ext,fun j cs t h1 h2 hb=>k.AB j cs t h1 h2 (h.AB j cs t h1 h2 hb)⟩
theorem Wk.of{w0 a b:World}(h:Ext (fun _=>False) a b):Wk w0 a b:=⟨h.mono fun _ _ e=>e.elim,fun j cs t _ _ hb=>h.AS hb id⟩
theorem Sk.AB(h:Sk w0 w b l most)(he:Ext (fun _=>False) w w'):Sk w0 w' b l most:=by
 obtain ⟨sl,h1,h2,h3⟩:=h.AS;exact ⟨h.lo,sl,he.AS h1 id,h2.AB he fun _ _ h=>h,h3⟩
theorem Sk.AI{F:Nat->Prop}(h:Sk w0 w b l most)(he:Ext F w w')(hF:∀j cs t,F j->AO w j cs t->t≠144/\t≠5):Sk w0 w' b l most:=by
 obtain ⟨sl,h1,h2,h3⟩:=h.AS;refine ⟨h.lo,sl,he.AS h1 (fun hf=>(hF _ _ _ hf h1).1 rfl),h2.AB he fun j hj hf=>?_,h3⟩;obtain ⟨cs,Oj⟩:=own_blk h2 hj;exact (hF _ _ _ hf Oj).2 rfl
theorem BK (e:Int)(w:World)(PR:Value->World->Prop){x:Bool}(hx:x=true):Rj x e w (fun w'=>w'=w) PR:=by
 subst hx;refine T78 _ _ _ _ _ ?_;unfold S78;exact rfl
theorem PM {s2:AA}(h:Sk w0 w b l most)(hv:Bh w s2 1 (Bw m))(hm:l.length+m.length<=most)(hM:most<=1048576)(PR:Value->World->Prop):
  vd (some ⟨b,0,none⟩) s2 w (fun w'=>Sk w0 w' b (l++m) most/\Wk w0 w w') PR:=by
 refine T77 _ _ _ _ _ ?_;unfold S77;obtain ⟨sl,h1,h2,h3⟩:=h.AS;have hl:=h2.len;have hv1:s2.len=m.length:=by have:=hv.1;rw[An]at this;omega
 have d1:AO w.drew b #[AA.v sl,.int .i64 (most:Int)] 144:=h1;refine Nn.of (Ld.of d1 rfl (Nn.of ?_));simp only[add_lit,aj];refine Ld.of d1 rfl ?_;have i1:IntKind.i64.wrap (((sl.len:Nat):Int)+((s2.len:Nat):Int))=((sl.len+s2.len:Nat):Int):=by rw[AE (by omega)];omega
 rw[i1];refine (BK 5 w.drew PR (aD (by omega))).mono ?_ (fun _ _ h=>h);rintro w1 rfl;refine Nn.of (Ld.of d1 rfl ?_);have e0:Ext (fun _=>False) w w.drew:=(Ext.refl _ w).drew;obtain ⟨s',w2,hr,hR,hlen,hE,hO⟩:=elB.app (ty:=108) (xs:=Bw l) (ys:=Bw m) (h2.AB e0 fun _ _ h=>h) (hv.AB e0) (TQ m) (by rw[hl,hv1];omega) (by rw[hl,hv1];omega);refine ⟨s',w2,hr,Nn.of ?_⟩;have uw:¬sl.own b:=fun hj=>by
  obtain ⟨cs,Oj⟩:=own_blk h2 hj;exact absurd (IX Oj h1) (by decide)
 have p1:=hE.AS d1 uw;have z0:=h.lo;have zb:=h1.lt;have hw:w.drew.heap.size=w.heap.size:=rfl;have eS:Ext (·=b) w2 (w2.setCell ⟨b,0,none⟩ (AA.v s')):=(Ext.refl (·=b) w2).set (.inl rfl) _;have AO0:∀j,s'.own j->j≠b:=fun j hj e=>by
  subst e;rcases hO _ hj with h|h
  ·exact uw h
  ·omega
 have goal:∀w3,AO w3 b #[AA.v s',.int .i64 (most:Int)] 144->Ext (·=b) w2 w3->Sk w0 w3 b (l++m) most/\Wk w0 w w3:=fun w3 hb e3=>by
  refine ⟨⟨h.lo,s',hb,?_,fun j hj=>?_⟩,?_,fun j cs t t1 t2 hj=>?_⟩
  ·have:BQ w2 s' (l++m):=by unfold BQ;rw[PN];exact hR
   exact this.AB e3 fun j hj e=>AO0 j hj e
  ·rcases hO _ hj with h|h
   ·exact h3 j h
   ·omega
  ·refine Ext.trans (F:=fun j=>w0.heap.size<=j) (G:=(·=b)) ((e0.mono fun _ _ e=>e.elim).trans (G:=sl.own) hE (fun _ h=>h) fun j _ hj=>h3 j hj) e3 (fun _ h=>h) fun j _ e=>?_
   have e:j=b:=e;omega
  ·refine e3.AS (hE.AS (e0.AS hj id) fun ho=>?_) fun e=>?_
   ·obtain ⟨CU,Oj⟩:=own_blk h2 ho;exact t2 (IX hj Oj)
   ·have e:j=b:=e;subst e;exact t1 (IX hj h1)
 unfold Sh.St;exact ⟨p1.can (by simp),goal _ (p1.set 0 _) eS⟩
end
end Ac
namespace Ac
open Sh
abbrev BT:=Option Addr->World->(World->Prop)->(Value->World->Prop)->Prop
def Unp (AM:Int)(w:World)(R:ByteArray->Int->World->Prop)(B:BT)(PR:World->Value->World->Prop):Prop:=
 Nw w (.cells #[.string ((⟨#[]⟩:ey))] 9) fun lJ=>
 Nw lJ (.cells #[.int .i64 0] 28) fun vw5=>
 Rj (decide (AM>=0)) 1 vw5 (fun AB8=>
  Nw AB8 (.cells #[AA.v ((⟨none,0,0⟩:AA)),.int .i64 (if 1048576<AM then 1048576 else AM)] 144) fun AO1=>
  B (some (⟨AB8.heap.size,0,none⟩:Addr)) AO1 (fun AHV=>
   Nn (some (⟨AB8.heap.size,0,none⟩:Addr)) fun OF=>
   Ld AHV OF AA.v fun (Dt:AA)=>
   Rn Tryz.prog (convert 108 9 (AA.v Dt)) AHV Value.string fun (D5:ByteArray) AO2=>
   St AO2 (⟨w.heap.size,0,none⟩:Addr) (.string D5) fun AO3=>
   St AO3 (⟨lJ.heap.size,0,none⟩:Addr) (.int .i64 0) fun AO4=>
   NP (⟨w.heap.size,0,none⟩:Addr) (⟨lJ.heap.size,0,none⟩:Addr) none AO4 fun AB9=>
    Ld AB9 (⟨w.heap.size,0,none⟩:Addr) Value.string fun (D6:ByteArray)=>
    Ld AB9 (⟨lJ.heap.size,0,none⟩:Addr) (Value.int .i64) fun (Ct:Int)=>
    R D6 Ct AB9) (PR lJ)) (PR lJ)
theorem YR:∀{l:By} (r:By) {k:Nat} {c:UInt8},l[k]?=some c->(J9 l++r)[2*k]?=some (hx (c.toNat/16))/\(J9 l++r)[2*k+1]?=some (hx (c.toNat%16))
 |d::l,r,0,c,h=>by
  simp only[bL,bE]at h;subst h;exact ⟨rfl,rfl⟩
 |d::l,r,k+1,c,h=>by
  simp only[dq]at h;have:=YR r h;unfold J9 at this⊢;rw[bC,ax];have e:fF d=[hx (d.toNat/16),hx (d.toNat%16)]:=rfl;rw[e,show 2*(k+1)=2*k+1+1 by omega];simpa using this
section
variable {w0 w w' w1:World} {s t:ByteArray} {b:Nat} {l m out:By} {most:Nat}
attribute [local irreducible] Ld Sh.St Nw Nn Lt AP
theorem mL {B:BT}{PR:World->Value->World->Prop}{R:ByteArray->Int->World->Prop}(hm:most<=1048576)
  (AAB:∀p v (Q Q':World->Prop) PR,(∀w',Q w'->Q' w')->B p v Q PR->B p v Q' PR)
  (hB:∀w1 w2 b PR,Ext (fun _=>False) w w1->Ext (fun _=>False) w1 w2->Sk w1 w2 b [] most->B (some ⟨b,0,none⟩) w2 (fun w3=>Sk w1 w3 b out most/\Ext (fun j=>w1.heap.size<=j) w2 w3) PR)
  (hR:∀w',Ext (fun _=>False) w w'->R (ba out) 0 w'):Unp (most:Int) w R B PR:=by
 unfold Unp;refine (Hn.start w).nw (cs:=[.string ⟨#[]⟩]) fun w2 H=>?_
 refine H.nw (cs:=[.int .i64 0]) fun w3 H=>?_
 simp only[ag,ar]at H;refine (BK 1 w3 (PR w2) (aD (by omega))).mono ?_ (fun _ _ h=>h);rintro w4 rfl;rw[ah (by omega)];refine Nw.of ?_;have hs:Sk w4 (w4.alloc (.cells #[AA.v ⟨none,0,0⟩,.int .i64 (most:Int)] 144)) w4.heap.size [] most:=⟨av _,_,AO.new _ _ _,BQ.nil _,fun j hj=>absurd hj (Cq j)⟩
 have eA:Ext (fun _=>False) w4 (w4.alloc (.cells #[AA.v ⟨none,0,0⟩,.int .i64 (most:Int)] 144)):=(Ext.refl _ _).alloc _;generalize w4.alloc (.cells #[AA.v ⟨none,0,0⟩,.int .i64 (most:Int)] 144)=w5 at hs eA⊢;refine AAB _ _ _ _ _ ?_ (hB w4 w5 _ _ H.ext eA hs);rintro w6 ⟨h6,k6⟩;have eW:Ext (fun j=>w4.heap.size<=j) w4 w6:=(eA.mono fun _ _ e=>e.elim).tr k6;have H6:Hn w w6 [(w.heap.size,[.string ⟨#[]⟩],9),(w2.heap.size,[.int .i64 0],28)]:=H.other eW fun j hj=>⟨by have:=H.size;omega,fun hm=>by have:=H.ACA hm;omega⟩
 obtain ⟨sl,q1,q2,q3⟩:=h6.AS;refine Nn.of (Ld.of q1 rfl ⟨_,_,HP q2,?_⟩);refine H6.st 0 rfl (by simp) fun w7 H7=>?_
 simp only[ai,aq]at H7;refine H7.st 1 rfl (by simp) fun w8 H8=>?_
 simp only[ai,aq]at H8;refine mM _ _ _ _ ?_;unfold PO;refine H8.ld 0 rfl rfl (H8.ld 1 rfl rfl (hR _ H8.ext))
theorem mN {v0:World}(hb:bl s=J9 l++[62])(hl:l.length<=most)(hM:most<=1048576)(h:Sk w0 v0 b [] most)(PR:Value->World->Prop):
  C74 s (some ⟨b,0,none⟩) v0 (fun w3=>Sk w0 w3 b l most/\Wk w0 v0 w3) PR:=by
 refine T74 _ _ _ _ _ ?_;unfold S74;have A1:s.size=2*l.length+1:=by rw[AQ,hb,ae,HO];rfl
 refine ⟨fun n st v=>∃k:Nat,k<=l.length/\Sk w0 v b (l.take k) most/\Wk w0 v0 v/\((st=(-1,((2*k:Nat):Int))/\n=s.size-2*k)\/(∃c,l[k]?=some c/\st=(((c.toNat/16:Nat):Int),((2*k+1:Nat):Int))/\n=s.size-(2*k+1))),s.size,⟨0,by omega,h,Wk.refl _ _,.inl ⟨rfl,rfl⟩⟩,?_⟩;rintro n st v ⟨k,hk,hS,hW,⟨rfl,rfl⟩|⟨c,hc,rfl,rfl⟩⟩
 ·unfold mO;refine Br.t (aD (by omega)) ⟨by omega,by omega,?_⟩;dsimp only;by_cases Am:k<l.length
  ·have hc:=ad Am;generalize l[k]=c at hc;have hbc:=Ay c;have h1:=(YR [62] hc).1;rw[<-hb]at h1;have ho:=zw (n:=c.toNat/16) (by omega);rw[DW h1];refine (TP _ _).mono ?_;rintro r w1 ⟨hr,rfl⟩;rw[hr (c.toNat/16) (by omega) rfl];refine (JN _ _).mono ?_;rintro r w1 ⟨rfl,rfl⟩;refine Br.f (mH (by omega)) (Br.f (by simpa using (by omega:((hx (c.toNat/16)).toNat:Int)≠62)) (Br.f (aP (by omega)) (Br.t rfl ⟨s.size-(2*k+1),by omega,k,hk,hS,hW,.inr ⟨c,hc,?_,rfl⟩⟩)));rw[AE (by omega)]
   congr 1
  ·have mP:k=l.length:=by omega
   subst mP;have h1:(bl s)[2*l.length]?=some 62:=by
    rw[hb,aF (by rw[HO];omega),HO,cl]
    rfl
   rw[DW h1];refine (TP _ _).mono ?_;rintro r w1 ⟨_,rfl⟩;refine (JN _ _).mono ?_;rintro r w1 ⟨rfl,rfl⟩;refine Br.f (by decide) (Br.t (by decide) (Br.f rfl ?_));rw[bj]at hS;exact ⟨hS,hW⟩
 ·unfold mO;have mP:=(ao.1 hc).1;refine Br.t (aD (by show ((2*k+1:Nat):Int)<_;omega)) ⟨by show (0:Int)<=((2*k+1:Nat):Int);omega,by show ((2*k+1:Nat):Int)<_;omega,?_⟩;dsimp only;have hbc:=Ay c;have h1:=(YR [62] hc).2;rw[<-hb]at h1;have ho:=zw (n:=c.toNat%16) (by omega);rw[DW h1];refine (TP _ _).mono ?_;rintro r w1 ⟨hr,rfl⟩;rw[hr (c.toNat%16) (by omega) rfl];refine (JN _ _).mono ?_;rintro r v ⟨rfl,rfl⟩;refine Br.f (mH (by omega)) (Br.f (by simpa using (by omega:((hx (c.toNat%16)).toNat:Int)≠62)) (Br.f (aP (by omega)) (Br.f (aP (by omega)) (Nw.of ?_))));have e:IntKind.u8.wrap (IntKind.i64.wrap ((IntKind.i64.wrap (16*((c.toNat/16:Nat):Int)))+((c.toNat%16:Nat):Int)))=(c.toNat:Int):=by
   rw[AE (n:=16*((c.toNat/16:Nat):Int)) (by omega),AE (by omega),Hu (by omega)];omega
  rw[e];have eA:Ext (fun _=>False) v (v.alloc (.cells (Bw [c]).toArray 5)):=(Ext.refl _ _).alloc _;have hB:=AO.new v (Bw [c]).toArray 5;refine (PM (m:=[c]) (hS.AB eA) (Bh.of hB (by simp[Bw])) (by rw[au];simp;omega) hM PR).mono ?_ (fun _ _ h=>h);rintro w5 ⟨hS5,hW5⟩;refine ⟨s.size-2*(k+1),by omega,k+1,by omega,by rw[PK hc];exact hS5,(hW.tr (Wk.of eA)).tr hW5,.inl ⟨?_,rfl⟩⟩;rw[AE (by omega)]
  congr 1
theorem ve (hb:bl s=J9 l++[62])(hl:l.length<=most)(hM:most<=1048576)(w:World):C50 s (most:Int) w fun r e w1=>r=ba l/\e=0/\Ext (fun _=>False) w w1:=by
 refine T50 _ _ _ _ ?_;unfold S50;refine vf _ _ _ _ ?_;show Unp (most:Int) w _ (C74 s) (fun lJ=>PQ w lJ _);exact mL hM (fun p v Q Q' PR h k=>k.mono h (fun _ _ h=>h)) (fun w1 w2 b PR _ _ hs=>(mN hb hl hM hs PR).mono (fun _ h=>⟨h.1,h.2.ext⟩) fun _ _ h=>h) fun w' he=>⟨rfl,rfl,he⟩
end
end Ac
end Go.Proofs.YtdmmgclkphaaaaaGreatDoor
namespace Go.Proofs
open Go.Shelf
def Tryz.OD:Go.Shelf.Ren:=⟨fun|105=>88|212=>105|99=>106|165=>107|166=>86|170=>108|169=>81|263=>124|264=>125|206=>126|240=>104|241=>127|276=>123|277=>143|n=>n,fun|9=>9|3=>3|4=>4|20=>20|0=>0|46=>119|109=>147|5=>5|72=>110|76=>130|51=>157|146=>164|53=>118|148=>166|70=>107|37=>108|75=>116|127=>146|164=>162|80=>122|n=>n,fun|n=>n⟩
theorem Tryz.ze:Go.Proofs.Lays.n105 Tryz.prog Tryz.OD:={
 mixed:=by kernel_rfl
 f99:=Tryz.func106.trans (congrArg some (by kernel_rfl))
 f105:=Tryz.func88.trans (congrArg some (by kernel_rfl))
 f165:=Tryz.func107.trans (congrArg some (by kernel_rfl))
 f166:=Tryz.func86.trans (congrArg some (by kernel_rfl))
 f169:=Tryz.func81.trans (congrArg some (by kernel_rfl))
 f170:=Tryz.func108.trans (congrArg some (by kernel_rfl))
 f206:=Tryz.func126.trans (congrArg some (by kernel_rfl))
 f212:=Tryz.func105.trans (congrArg some (by kernel_rfl))
 f240:=Tryz.func104.trans (congrArg some (by kernel_rfl))
 f241:=Tryz.func127.trans (congrArg some (by kernel_rfl))
 f263:=Tryz.func124.trans (congrArg some (by kernel_rfl))
 f264:=Tryz.func125.trans (congrArg some (by kernel_rfl))
 f276:=Tryz.func123.trans (congrArg some (by kernel_rfl))
 f277:=Tryz.func143.trans (congrArg some (by kernel_rfl))
 t0:=Tryz.underlying0
 a0:=Tryz.isAgg0
 z0:=Tryz.sizeOf0
 v0:=Tryz.zeroValue0
 t3:=Tryz.underlying3
 a3:=Tryz.isAgg3
 z3:=Tryz.sizeOf3
 v3:=Tryz.zeroValue3
 t4:=Tryz.underlying4
 a4:=Tryz.isAgg4
 z4:=Tryz.sizeOf4
 v4:=Tryz.zeroValue4
 t5:=Tryz.underlying5
 a5:=Tryz.isAgg5
 z5:=Tryz.sizeOf5
 v5:=Tryz.zeroValue5
 t9:=Tryz.underlying9
 a9:=Tryz.isAgg9
 z9:=Tryz.sizeOf9
 v9:=Tryz.zeroValue9
 t20:=Tryz.underlying20
 a20:=Tryz.isAgg20
 z20:=Tryz.sizeOf20
 v20:=Tryz.zeroValue20
 t37:=Tryz.underlying108
 a37:=Tryz.isAgg108
 z37:=Tryz.sizeOf108
 v37:=Tryz.zeroValue108
 t46:=Tryz.underlying119
 a46:=Tryz.isAgg119
 z46:=Tryz.sizeOf119
 v46:=Tryz.zeroValue119
 t51:=Tryz.underlying157
 a51:=Tryz.isAgg157
 z51:=Tryz.sizeOf157
 v51:=Tryz.zeroValue157
 t53:=Tryz.underlying118
 a53:=Tryz.isAgg118
 z53:=Tryz.sizeOf118
 v53:=Tryz.zeroValue118
 t70:=Tryz.underlying107
 a70:=Tryz.isAgg107
 z70:=Tryz.sizeOf107
 v70:=Tryz.zeroValue107
 t72:=Tryz.underlying110
 a72:=Tryz.isAgg110
 z72:=Tryz.sizeOf110
 v72:=Tryz.zeroValue110
 t75:=Tryz.underlying116
 a75:=Tryz.isAgg116
 z75:=Tryz.sizeOf116
 v75:=Tryz.zeroValue116
 t76:=Tryz.underlying130
 a76:=Tryz.isAgg130
 z76:=Tryz.sizeOf130
 v76:=Tryz.zeroValue130
 t109:=Tryz.underlying147
 a109:=Tryz.isAgg147
 z109:=Tryz.sizeOf147
 v109:=Tryz.zeroValue147
 t127:=Tryz.underlying146
 a127:=Tryz.isAgg146
 z127:=Tryz.sizeOf146
 v127:=Tryz.zeroValue146
 t146:=Tryz.underlying164
 a146:=Tryz.isAgg164
 z146:=Tryz.sizeOf164
 v146:=Tryz.zeroValue164
 t148:=Tryz.underlying166
 a148:=Tryz.isAgg166
 z148:=Tryz.sizeOf166
 v148:=Tryz.zeroValue166
 t164:=Tryz.underlying162
 a164:=Tryz.isAgg162
 z164:=Tryz.sizeOf162
 v164:=Tryz.zeroValue162}
theorem Tryz.Ls:Builder.Extra Tryz.prog Tryz.OD:={
 sizeBuilder:=by kernel_rfl
 liesBuilder:=by kernel_rfl
 t5:=Tryz.underlying5
 a5:=Tryz.isAgg5
 z5:=Tryz.sizeOf5
 v5:=Tryz.zeroValue5
 infoByte:=by kernel_rfl
 cellsByte:=by kernel_rfl
 sizeByte:=by kernel_rfl
 neB5:=by decide}
open Go.RowKit Go.Lib in
theorem Tryz.strings_Repeat(s:ByteArray)(c:Nat)(w:World)(hc:c<=9223372036854775807)(hlen:s.size*c<=140737488355328):
  Calls Tryz.prog 88 #[.string s,.int .i64 c] w fun e w'=>e= .returned (.string ⟨(Lib.repeatL s.data.toList c).toArray⟩)/\Below w.heap.size w w':=Any.strings_Repeat Tryz.ze Tryz.Ls s c w hc hlen
end Go.Proofs

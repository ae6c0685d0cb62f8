/- Joined texts of the proof; conditions stand in each theorem. -/
import Derived.Test.YtmaekpnpnjndoaaGreatDoorQYQSta1
import Derived.Test.YtmaekpnpnjndoaaGreatDoorQYQSta2
import Derived.Test.YtmaekpnpnjndoaaGreatDoorQYQSta3
import Derived.Shelf.Strings.Fields
import Derived.Test.YtmaekpnpnjndoaaGreatDoorProg
import Derived.Shelf.Strings.Trim
import Derived.Shelf.Strings.SlTrimAscii
import Derived.Shelf.Strings.Search1
import Derived.Shelf.Strings.Search2
import Derived.Shelf.Strings.Prefix
import Derived.Shelf.Strings.Search3
import Derived.Shelf.LaysM
import Derived.Shelf.Strconv.Itoa4
import Derived.Shelf.Small.Strs
import Derived.Lib.SlTrimSet
import Derived.Lib.IndexLaws
import Derived.Lib.Bytes2
import Derived.Test.YtmaekpnpnjndoaaGreatDoorRows
import Derived.Laws.RangeString
import Derived.Lib.ConvBytes
import Derived.Shelf.Strings.Builder1
import Derived.Shelf.Strings.Builder2
import Derived.WalkKit
import Derived.Lib.ItoaLen
import Derived.Lib.LaidTab
import Derived.Laws.Strings
set_option linter.unusedVariables false
set_option linter.unusedSimpArgs false
open Go.IntKind (wrap)
open Go.Proofs.Tryz (prog)
namespace Go.Proofs.YtmaekpnpnjndoaaGreatDoor
set_option maxRecDepth 100000
section
open Sh
def C92 (s1:ByteArray)(AN:Int):=K1 Value.bool 92 #[.string s1,.int .i64 AN]
def C65 (s1:ByteArray):=K1 Value.bool 65 #[.string s1]
def C61 (s1:AA)(v2:ByteArray):=K1 vi 61 #[AA.v s1,.string v2]
def zA (s1:AA)(v2:ByteArray):=K1 Value.bool 36 #[AA.v s1,.string v2]
def C57 (s1:ByteArray):=K1 Value.bool 57 #[.string s1]
def C66 (s1:ByteArray):=K1 Value.bool 66 #[.string s1]
def C46 (o1:ByteArray×AA×ByteArray):=K1 Value.bool 46 #[.agg #[.string o1.1,AA.v o1.2.1,.string o1.2.2]]
def zd (s1:AA)(f2:Value):=K1 vi 100 #[AA.v s1,f2]
def C70 (s1:AA)(f2:Value):=K1 Value.bool 70 #[AA.v s1,f2]
def lF (o1:AK):=K1 Value.bool 48 #[.agg (AQ.cells AD o1).toArray]
def C25 (o1:ByteArray×AA×ByteArray):=P1 vi 25 #[.agg #[.string o1.1,AA.v o1.2.1,.string o1.2.2]]
def ze (o1:ByteArray×AA×ByteArray):=P1 AA.v 28 #[.agg #[.string o1.1,AA.v o1.2.1,.string o1.2.2]]
def C10 (l1:AA):=P2 Value.string vi 10 #[AA.v l1]
def YT (c1:Addr)(u:Option Value)(w:World)(R:Q0):Prop:=Df prog 54 #[.pointer (some c1)] u w R
theorem YT.mono{c1:Addr}{u:Option Value}{w:World}{R R':World->Prop}(h:YT c1 u w R)(hr:∀w',R w'->R' w'):YT c1 u w R':=
 CallsD.mono h fun _ _ _ ⟨h1,h2,h3⟩=>⟨h1,h2,hr _ h3⟩
def xD (Ux:Int)(Ec:Int):=P0 82 #[.int .i64 Ux,.int .i64 Ec]
def OL (HK:Bool)(AN:Int)(tF:Int):=P0 56 #[.bool HK,.int .i64 AN,.int .i64 tF]
def zf (r1:Option Addr):=P1 (α:=Int×Int×Int×Int×ByteArray) (vA [ti,ti,ti,ti,.str]) 55 #[.pointer r1]
def C59 (r1:Option Addr)(t2:Int×Int×Int×Int×ByteArray):=P1 (α:=AK) (vA AD) 59 #[.pointer r1,.agg #[.int .i64 (t2.1),.int .i64 (t2.2.1),.int .i64 (t2.2.2.1),.int .i64 (t2.2.2.2.1),.string t2.2.2.2.2]]
def tG (r1:Option Addr):=P1 (α:=AK) (vA AD) 115 #[.pointer r1]
def tH (r1:Option Addr)(AN:Int):=K1 Value.bool 116 #[.pointer r1,.int .i64 AN]
def C83 (r1:Option Addr):=P1 (α:=ByteArray×AA×ByteArray) (vA [.str,.Ct,.str]) 83 #[.pointer r1]
def C58 (r1:Option Addr)(t2:Int×Int×Int×Int×ByteArray)(Gz:AA):=P1 (α:=ByteArray×AA×ByteArray) (vA [.str,.Ct,.str]) 58 #[.pointer r1,.agg #[.int .i64 (t2.1),.int .i64 (t2.2.1),.int .i64 (t2.2.2.1),.int .i64 (t2.2.2.2.1),.string t2.2.2.2.2],AA.v Gz]
def C30 (r1:Option Addr):=K1 (α:=Int×Int) (vA [ti,ti]) 30 #[.pointer r1]
def C11 (s1:ByteArray):=K2 AA.v (β:=Int×Int) (vA [ti,ti]) 11 #[.string s1]
def S92 (s1:ByteArray)(AN:Int)(w:World)(R:Q1 Bool):Prop:=0<=AN/\AN<((s1).size:Nat)/\n8 (Bf s1 AN) w fun r7 z8=>Br (!r7) (R false z8) (dt s1 (⟨#[69,73]⟩:cI) (wrap .i64 (AN+1)) z8 fun r9 Ar=>Br (!r9) (R false Ar) (Br ((wrap .i64 (AN+3))==(s1.size:Int)) (R true Ar) (0<=(wrap .i64 (AN+3))/\(wrap .i64 (AN+3))<((s1).size:Nat)/\n8 (Bf s1 (wrap .i64 (AN+3))) Ar fun Lx z12=>R Lx z12)))
theorem T92 (s1 AN w R):S92 s1 AN w R->C92 s1 AN w R:=B2 ob (.q (.s (.q (.c (.q .l) .l)) (.q .l))) [.string s1,.int .i64 AN] Tryz.func92
def oL (s1:ByteArray)(R:Q1 Bool)(I4:Q1 Int)(s2:Int)(z3:World):Prop:=Br (decide (s2<(s1.size:Int))) (C92 s1 s2 z3 fun r5 z6=>Br r5 (R false z6) (I4 (wrap .i64 (s2+1)) z6)) (R true z3)
def S65 (s1:ByteArray)(w:World)(R:Q1 Bool):Prop:=Lp (σ:=Int) (oL s1 R) 0 w
theorem T65 (s1 w R):S65 s1 w R->C65 s1 w R:=B2 ob (.q (.s (.q (.b (.o [(6,oi)] [0,5] (.q (.s (.c .l .l) (.s (.b (.q (.q (.c (.q .l) .l)))) .r)))))) (.q .l))) [.string s1] Tryz.func65
def oM (s1:AA)(v2:ByteArray)(R:Q1 Int)(I5:Q1 Int)(s3:Int)(z4:World):Prop:=Br (decide (s3<(s1.len:Int))) (0<=s3/\s3<(s1.len:Nat)/\Nn s1.p fun a6=>Ld z4 (a6.add ((s3).toNat*1)) Value.string fun x7=>Br (v2.toList==x7.toList) (R s3 z4) (I5 (wrap .i64 (s3+1)) z4)) (R (-1) z4)
def S61 (s1:AA)(v2:ByteArray)(w:World)(R:Q1 Int):Prop:=Lp (σ:=Int) (oM s1 v2 R) 0 w
theorem T61 (s1 v2 w R):S61 s1 v2 w R->C61 s1 v2 w R:=B2 oi (.q (.s (.q (.b (.o [(8,oi)] [0,1,7] (.q (.s (.c .l .l) (.s (.b (.q (.q (.c (.q .l) .l)))) .r)))))) (.q .l))) [AA.v s1,.string v2] Tryz.func61
def S36 (s1:AA)(v2:ByteArray)(w:World)(R:Q1 Bool):Prop:=C61 s1 v2 w fun r3 z4=>R (decide (r3>=0)) z4
theorem T36 (s1 v2 w R):S36 s1 v2 w R->zA s1 v2 w R:=B2 ob (.q (.q .l)) [AA.v s1,.string v2] Tryz.func36
def S57 (s1:ByteArray)(w:World)(R:Q1 Bool):Prop:=Br (s1.toList==(⟨#[116,114,117,101]⟩:cI).toList) (R true w) (Br (s1.toList==(⟨#[102,97,108,115,101]⟩:cI).toList) (R true w) (R (s1.toList==(⟨#[110,117,108,108]⟩:cI).toList) w))
theorem T57 (s1 w R):S57 s1 w R->C57 s1 w R:=B2 ob (.q (.q .l)) [.string s1] Tryz.func57
def S66 (s1:ByteArray)(w:World)(R:Q1 Bool):Prop:=Qr s1 0 w fun r2 r3 z4=>Nw z4 (.cells #[.int .i64 0,.int .i64 0,.int .i64 0,.int .i64 0,.string (⟨#[]⟩:cI)] 114) fun z5=>St z5 ⟨z4.heap.size,0,none⟩ (.int .i64 (r2.1)) fun z6=>St z6 (.add ⟨z4.heap.size,0,none⟩ 1) (.int .i64 (r2.2.1)) fun z7=>St z7 (.add ⟨z4.heap.size,0,none⟩ 2) (.int .i64 (r2.2.2.1)) fun z8=>St z8 (.add ⟨z4.heap.size,0,none⟩ 3) (.int .i64 (r2.2.2.2.1)) fun z9=>St z9 (.add ⟨z4.heap.size,0,none⟩ 4) (.string r2.2.2.2.2) fun Ar=>Br (r3 !=0) (R false Ar) (Ld Ar ⟨z4.heap.size,0,none⟩ (Value.int .i64) fun Nj=>Br (Nj !=5) (R false Ar) (Ld Ar (.add ⟨z4.heap.size,0,none⟩ 1) (Value.int .i64) fun NT=>Br (NT !=0) (R false Ar) (Ld Ar (.add ⟨z4.heap.size,0,none⟩ 2) (Value.int .i64) fun GL=>Br (GL !=(s1.size:Int)) (R false Ar) (C57 s1 Ar fun PV DO=>Br (!PV) (Nw DO (.cells #[.string ((⟨#[82]⟩:cI)),.string ((⟨#[66,73]⟩:cI)),.string ((⟨#[73,68]⟩:cI)),.string ((⟨#[69,73]⟩:cI))] 9) fun Bz=>zA (⟨some ⟨DO.heap.size,0,none⟩,4,4⟩:AA) s1 Bz fun Np z21=>R (!Np) z21) (R false DO)))))
theorem T66 (s1 w R):S66 s1 w R->C66 s1 w R:=B2 ob (.q (.q (.s (.q (.c (.q .l) .l)) (.q .l)))) [.string s1] Tryz.func66
def S46 (o1:ByteArray×AA×ByteArray)(w:World)(R:Q1 Bool):Prop:=Nw w (.cells #[.string o1.1,AA.v o1.2.1,.string o1.2.2] 33) fun z2=>Ld z2 ⟨w.heap.size,0,none⟩ Value.string fun Ef=>Br (Ef.toList==(⟨#[66,73]⟩:cI).toList) (Ld z2 (.add ⟨w.heap.size,0,none⟩ 1) AA.v fun GN=>Br ((GN.len:Int)==1) (Ld z2 (.add ⟨w.heap.size,0,none⟩ 1) AA.v fun JK=>0<=(0:Int)/\(0:Int)<(JK.len:Nat)/\Nn JK.p fun a14=>Ld z2 (a14.add (((0:Int)).toNat*6)) (Value.int .i64) fun NT=>Br (NT==7) (Ld z2 (.add ⟨w.heap.size,0,none⟩ 2) Value.string fun GL=>C65 GL z2 fun PV DO=>R PV DO) (R false z2)) (R false z2)) (Ld z2 ⟨w.heap.size,0,none⟩ Value.string fun HG=>C66 HG z2 fun Np z21=>Br Np (Ld z21 (.add ⟨w.heap.size,0,none⟩ 1) AA.v fun J0=>Br (decide ((J0.len:Int)<=32)) (Ld z21 (.add ⟨w.heap.size,0,none⟩ 2) Value.string fun Uy=>R (Uy.toList==(⟨#[]⟩:cI).toList) z21) (R false z21)) (R false z21))
theorem T46 (o1 w R):S46 o1 w R->C46 (o1.1,o1.2.1,o1.2.2) w R:=B2 ob (.q (.s (.q (.c (.q .l) .l)) (.q .l))) [.agg #[.string o1.1,AA.v o1.2.1,.string o1.2.2]] Tryz.func46
def MG (s1:AA)(R:Q1 Int)(I5:Q1 Int)(s3:Int)(z4:World):Prop:=Br (decide (s3<(s1.len:Int))) (0<=s3/\s3<(s1.len:Nat)/\Nn s1.p fun a6=>Ab z4 (a6.add ((s3).toNat*6)) 0 AD fun x7=>lF x7 z4 fun r8 z9=>Br r8 (R s3 z9) (I5 (wrap .i64 (s3+1)) z9)) (R (-1) z4)
def Rg (s1:AA)(w:World)(R:Q1 Int):Prop:=Lp (σ:=Int) (MG s1 R) 0 w
theorem eL (s1 w R):Rg s1 w R->zd s1 (.func (.func 48) #[] #[]) w R:=B2 oi (.q (.s (.q (.b (.o [(8,oi)] [0,1,7] (.q (.s (.c .l .l) (.s (.b (.q (.q (.c (.q .l) .l)))) .r)))))) (.q .l))) [AA.v s1,.func (.func 48) #[] #[]] Tryz.func100
def WS (s1:AA)(w:World)(R:Q1 Bool):Prop:=zd s1 (.func (.func 48) #[] #[]) w fun r3 z4=>R (decide (r3>=0)) z4
theorem lG (s1 w R):WS s1 w R->C70 s1 (.func (.func 48) #[] #[]) w R:=B2 ob (.q (.q .l)) [AA.v s1,.func (.func 48) #[] #[]] Tryz.func70
def S48 (o1:AK)(w:World)(R:Q1 Bool):Prop:=Nw w (.cells (AQ.cells AD o1).toArray 68) fun z2=>Ld z2 ⟨w.heap.size,0,none⟩ (Value.int .i64) fun x3=>Br (x3==8) (R true z2) (Ld z2 (.add ⟨w.heap.size,0,none⟩ 5) AA.v fun x4=>C70 x4 (.func (.func 48) #[] #[]) z2 fun r5 z6=>R r5 z6)
theorem T48 (o1 w R):S48 o1 w R->lF o1 w R:=B2 ob (.q (.q .l)) [.agg (AQ.cells AD o1).toArray] Tryz.func48
def oN (IF:AA)(R:Q1 Int)(I38:Q1 Int)(zg:Int)(z37:World):Prop:=Br (decide (zg<(IF.len:Int))) (0<=zg/\zg<(IF.len:Nat)/\Nn IF.p fun qh=>Ab z37 (qh.add ((zg).toNat*6)) 0 AD fun NS=>Nw z37 (.cells #[.int .i64 0,.int .i64 0,.int .i64 0,.string (⟨#[]⟩:cI),AA.v ⟨none,0,0⟩,AA.v ⟨none,0,0⟩] 68) fun Qp=>Ak ⟨z37.heap.size,0,none⟩ 0 AD NS Qp fun Gh=>Ab Gh ⟨z37.heap.size,0,none⟩ 0 AD fun Kh=>lF Kh Gh fun r44 Qo=>Br r44 (R 10 Qo) (Ld Qo ⟨z37.heap.size,0,none⟩ (Value.int .i64) fun Gi=>Br (Gi==9) (R 10 Qo) (I38 (wrap .i64 (zg+1)) Qo))) (R 0 z37)
def oO (w:World)(DZ:AA)(R:Q1 Int)(PR:Q1 Value)(xB:Q1 Int)(KB:Int)(CQ:World):Prop:=Br (decide (KB<(DZ.len:Int))) (0<=KB/\KB<(DZ.len:Nat)/\Nn DZ.p fun a28=>Ab CQ (a28.add ((KB).toNat*6)) 0 AD fun Fz=>Nw CQ (.cells #[.int .i64 0,.int .i64 0,.int .i64 0,.string (⟨#[]⟩:cI),AA.v ⟨none,0,0⟩,AA.v ⟨none,0,0⟩] 68) fun B3=>Ak ⟨CQ.heap.size,0,none⟩ 0 AD Fz B3 fun z31=>Ab z31 ⟨CQ.heap.size,0,none⟩ 0 AD fun Pe=>C47 Pe z31 (fun Zn FC=>Br (Zn !=0) (R Zn FC) (xB (wrap .i64 (KB+1)) FC)) PR) (Ld CQ (.add ⟨w.heap.size,0,none⟩ 1) AA.v fun IF=>Lp (σ:=Int) (oN IF R) 0 CQ)
def S25 (o1:ByteArray×AA×ByteArray)(w:World)(R:Q1 Int)(PR:Q1 Value):Prop:=Nw w (.cells #[.string o1.1,AA.v o1.2.1,.string o1.2.2] 33) fun z2=>Ld z2 ⟨w.heap.size,0,none⟩ Value.string fun x8=>Ld z2 (.add ⟨w.heap.size,0,none⟩ 1) AA.v fun x9=>Ld z2 (.add ⟨w.heap.size,0,none⟩ 2) Value.string fun EB=>C46 (x8,x9,EB) z2 fun Lx z12=>Br (!Lx) (R 3 z12) (Ld z12 (.add ⟨w.heap.size,0,none⟩ 1) AA.v fun DZ=>Lp (σ:=Int) (oO w DZ R PR) 0 z12)
theorem T25 (o1 w R PR):S25 o1 w R PR->C25 (o1.1,o1.2.1,o1.2.2) w R PR:=Jw oi (.q (.s (.q (.c (.q .l) .l)) (.s (.q (.b (.o [(14,oi)] [1,12,13] (.q (.s (.c .l .l) (.s (.b (.q (.q (.q (.c (.q .l) .l))))) .r)))))) (.s (.q (.b (.o [(27,oi)] [25,26] (.q (.s (.c .l .l) (.s (.b (.q (.q (.c (.q .l) .l)))) .r)))))) (.q .l))))) [.agg #[.string o1.1,AA.v o1.2.1,.string o1.2.2]] Tryz.func25
def oP (w:World)(I1:AA)(R:Q1 AA)(PR:Q1 Value)(I41:Q1 (AA×Int))(jq:AA×Int)(z40:World):Prop:=Br (decide (jq.2<(I1.len:Int))) (0<=jq.2/\jq.2<(I1.len:Nat)/\Nn I1.p fun oQ=>Ld z40 (oQ.add ((jq.2).toNat*1)) Value.string fun Kh=>zU Kh z40 (fun r44 cT z46=>Ld z46 (.add ⟨w.heap.size,0,none⟩ 1) AA.v fun Gj=>0<=(0:Int)/\(0:Int)<(Gj.len:Nat)/\Nn Gj.p fun a48=>Ld z46 ((a48.add (((0:Int)).toNat*6)).add 5) AA.v fun NV=>0<=jq.2/\jq.2<(NV.len:Nat)/\Nn NV.p fun zM=>Ab z46 (zM.add ((jq.2).toNat*6)) 0 AD fun NU=>C53 NU z46 (fun lB r53 WN=>Nw WN (.cells #[.string r44,.string lB] 9) fun JF=>Rn prog (Builtin.append_ #[66,66] 66 #[AA.v jq.1,AA.v ⟨some ⟨WN.heap.size,0,none⟩,2,2⟩]) JF AA.v fun Nz JG=>I41 (Nz,wrap .i64 (jq.2+1)) JG) PR) PR) (Nw z40 (.cells #[.string ((⟨#[73,68]⟩:cI))] 9) fun jo=>Rn prog (Builtin.append_ #[66,66] 66 #[AA.v jq.1,AA.v ⟨some ⟨z40.heap.size,0,none⟩,1,1⟩]) jo AA.v fun Um MD=>R Um MD)
def oR (w:World)(Ni:AA)(R:Q1 AA)(PR:Q1 Value)(I79:Q1 (AA×Int))(tI:AA×Int)(D6:World):Prop:=Br (decide (tI.2<(Ni.len:Int))) (0<=tI.2/\tI.2<(Ni.len:Nat)/\Nn Ni.p fun a80=>Ab D6 (a80.add ((tI.2).toNat*6)) 0 AD fun Zm=>Nw D6 (.cells #[.int .i64 0,.int .i64 0,.int .i64 0,.string (⟨#[]⟩:cI),AA.v ⟨none,0,0⟩,AA.v ⟨none,0,0⟩] 68) fun RU=>Ak ⟨D6.heap.size,0,none⟩ 0 AD Zm RU fun Ua=>Ab Ua ⟨D6.heap.size,0,none⟩ 0 AD fun Re=>C53 Re Ua (fun RW r86 z87=>Nw z87 (.cells #[.string RW] 9) fun Ui=>Rn prog (Builtin.append_ #[66,66] 66 #[AA.v tI.1,AA.v ⟨some ⟨z87.heap.size,0,none⟩,1,1⟩]) Ui AA.v fun WG Uj=>I79 (WG,wrap .i64 (tI.2+1)) Uj) PR) (Ld D6 ⟨w.heap.size,0,none⟩ Value.string fun zh=>Nw D6 (.cells #[.string zh] 9) fun OH=>Rn prog (Builtin.append_ #[66,66] 66 #[AA.v tI.1,AA.v ⟨some ⟨D6.heap.size,0,none⟩,1,1⟩]) OH AA.v fun Zk Tj=>R Zk Tj)
def S28 (o1:ByteArray×AA×ByteArray)(w:World)(R:Q1 AA)(PR:Q1 Value):Prop:=Nw w (.cells #[.string o1.1,AA.v o1.2.1,.string o1.2.2] 33) fun z2=>Ld z2 ⟨w.heap.size,0,none⟩ Value.string fun Pe=>Br (Pe.toList==(⟨#[66,73]⟩:cI).toList) (Nw z2 (.cells #[.string ((⟨#[66,73]⟩:cI))] 9) fun Fl=>Rn prog (Builtin.append_ #[66,66] 66 #[AA.v ⟨none,0,0⟩,AA.v ⟨some ⟨z2.heap.size,0,none⟩,1,1⟩]) Fl AA.v fun Ph WJ=>Ld WJ (.add ⟨w.heap.size,0,none⟩ 1) AA.v fun Hl=>0<=(0:Int)/\(0:Int)<(Hl.len:Nat)/\Nn Hl.p fun a37=>Ld WJ ((a37.add (((0:Int)).toNat*6)).add 4) AA.v fun I1=>Lp (σ:=AA×Int) (oP w I1 R PR) (Ph,0) WJ) (Ld z2 (.add ⟨w.heap.size,0,none⟩ 1) AA.v fun Ni=>Lp (σ:=AA×Int) (oR w Ni R PR) ((⟨none,0,0⟩:AA),0) z2)
theorem T28 (o1 w R PR):S28 o1 w R PR->ze (o1.1,o1.2.1,o1.2.2) w R PR:=Jw ol (.q (.q (.s (.q (.c (.q (.s (.q (.b (.o [(3,ol),(26,oi)] [1,24,25] (.q (.s (.c .l .l) (.s (.b (.q (.q (.q .r)))) .r)))))) (.q .l))) .l)) (.s (.q (.b (.o [(3,ol),(60,oi)] [1,58,59] (.q (.s (.c .l .l) (.s (.b (.q (.q .r))) .r)))))) (.q .l))))) [.agg #[.string o1.1,AA.v o1.2.1,.string o1.2.2]] Tryz.func28
def oS (l1:AA)(Bz:World)(R:Q2 ByteArray Int)(PR:Q1 Value)(I37:Q1 Int)(oT:Int)(Lk:World):Prop:=Br (decide (oT<(l1.len:Int))) (0<=oT/\oT<(l1.len:Nat)/\Nn l1.p fun a38=>Ld Lk (a38.add ((oT).toNat*3)) Value.string fun PM=>Ld Lk ((a38.add ((oT).toNat*3)).add 1) AA.v fun NS=>Ld Lk ((a38.add ((oT).toNat*3)).add 2) Value.string fun Kg=>Nw Lk (.cells #[.string (⟨#[]⟩:cI),AA.v ⟨none,0,0⟩,.string (⟨#[]⟩:cI)] 33) fun Gh=>St Gh ⟨Lk.heap.size,0,none⟩ (.string PM) fun V9=>St V9 (.add ⟨Lk.heap.size,0,none⟩ 1) (AA.v NS) fun I0=>St I0 (.add ⟨Lk.heap.size,0,none⟩ 2) (.string Kg) fun Qo=>Ld Qo ⟨Lk.heap.size,0,none⟩ Value.string fun Gi=>Ld Qo (.add ⟨Lk.heap.size,0,none⟩ 1) AA.v fun Gj=>Ld Qo (.add ⟨Lk.heap.size,0,none⟩ 2) Value.string fun ID=>ze (Gi,Gj,ID) Qo (fun WM HE=>zV WM HE fun r51 cR=>(((r51).size+((⟨#[10]⟩:cI)).size:Nat):Int)<=IntKind.i64.max/\UF (some ⟨Bz.heap.size,0,none⟩) (r51++(⟨#[10]⟩:cI)) cR fun r53 jj JF=>Ld JF ⟨Lk.heap.size,0,none⟩ Value.string fun Nz=>Br (Nz.toList==(⟨#[66,73]⟩:cI).toList) (Ld JF (.add ⟨Lk.heap.size,0,none⟩ 2) Value.string fun Qw=>(((Qw).size+((⟨#[10,69,73,10]⟩:cI)).size:Nat):Int)<=IntKind.i64.max/\UF (some ⟨Bz.heap.size,0,none⟩) (Qw++(⟨#[10,69,73,10]⟩:cI)) JF fun I2 lA MD=>I37 (wrap .i64 (oT+1)) MD) (I37 (wrap .i64 (oT+1)) JF)) PR) (wZ (some ⟨Bz.heap.size,0,none⟩) Lk fun yh To=>R yh 0 To)
def oU (l1:AA)(R:Q2 ByteArray Int)(PR:Q1 Value)(I20:Q1 Int)(oJ:Int)(Bz:World):Prop:=Br (decide (oJ<(l1.len:Int))) (0<=oJ/\oJ<(l1.len:Nat)/\Nn l1.p fun a21=>Ld Bz (a21.add ((oJ).toNat*3)) Value.string fun J0=>Ld Bz ((a21.add ((oJ).toNat*3)).add 1) AA.v fun Uy=>Ld Bz ((a21.add ((oJ).toNat*3)).add 2) Value.string fun DZ=>Nw Bz (.cells #[.string (⟨#[]⟩:cI),AA.v ⟨none,0,0⟩,.string (⟨#[]⟩:cI)] 33) fun Jy=>St Jy ⟨Bz.heap.size,0,none⟩ (.string J0) fun CQ=>St CQ (.add ⟨Bz.heap.size,0,none⟩ 1) (AA.v Uy) fun JI=>St JI (.add ⟨Bz.heap.size,0,none⟩ 2) (.string DZ) fun z28=>Ld z28 ⟨Bz.heap.size,0,none⟩ Value.string fun Fz=>Ld z28 (.add ⟨Bz.heap.size,0,none⟩ 1) AA.v fun Qu=>Ld z28 (.add ⟨Bz.heap.size,0,none⟩ 2) Value.string fun Pd=>C25 (Fz,Qu,Pd) z28 (fun EY Fl=>Br (EY !=0) (R (⟨#[]⟩:cI) EY Fl) (I20 (wrap .i64 (oJ+1)) Fl)) PR) (Nw Bz (.cells #[.pointer none,AA.v ⟨none,0,0⟩] 78) fun FC=>Lp (σ:=Int) (oS l1 Bz R PR) 0 FC)
def S10 (l1:AA)(w:World)(R:Q2 ByteArray Int)(PR:Q1 Value):Prop:=Br (decide ((l1.len:Int)>8191)) (R (⟨#[]⟩:cI) 6 w) (Lp (σ:=Int) (oU l1 R PR) 0 w)
theorem T10 (l1 w R PR):S10 l1 w R PR->C10 l1 w R PR:=yH os oi (.q (.s (.q (.c (.q .l) .l)) (.s (.q (.b (.o [(15,oi)] [0,13,14] (.q (.s (.c .l .l) (.s (.b (.q (.q (.q (.c (.q .l) .l))))) .r)))))) (.q (.s (.q (.b (.o [(27,oi)] [7,25,26] (.q (.s (.c .l .l) (.s (.b (.q (.q (.q (.c .r .l))))) .r)))))) (.q .l)))))) [AA.v l1] Tryz.func10
def Po (c1:Addr)(w:World)(R:Q0):Prop:=R w
def eM:Ah:=(.b (.q (.c .r (.q (.c (.q .r) (.q .r))))))
theorem lH (c1:Addr)(w:World)(R:Q0)(h:Po c1 w R):YT c1 none w R:=by
 have e:KY prog FF Fu eM Tryz.f54 [.pointer (some c1)] none w R=Po c1 w R:=by kernel_rfl
 exact BU okF De Tryz.func54 (by kernel_rfl) (by kernel_rfl) (e.mpr h)
def S82 (Ux:Int)(Ec:Int)(w:World)(R:Q0)(PR:Q1 Value):Prop:=PR (.iface 46 (.agg #[.int .i64 Ux,.int .i64 Ec])) w
theorem T82 (Ux Ec w R PR):S82 Ux Ec w R PR->xD Ux Ec w R PR:=Zf .r [.int .i64 Ux,.int .i64 Ec] Tryz.func82
def S56 (HK:Bool)(AN:Int)(tF:Int)(w:World)(R:Q0)(PR:Q1 Value):Prop:=Br (!HK) (xD AN tF w (fun z4=>R z4) PR) (R w)
theorem T56 (HK AN tF w R PR):S56 HK AN tF w R PR->OL HK AN tF w R PR:=Zf (.q (.c .r .l)) [.bool HK,.int .i64 AN,.int .i64 tF] Tryz.func56
def S55 (r1:Option Addr)(w:World)(R:Q1 (Int×Int×Int×Int×ByteArray))(PR:Q1 Value):Prop:=Nw w (.cells #[.int .i64 0,.int .i64 0,.int .i64 0,.int .i64 0,.string (⟨#[]⟩:cI)] 114) fun z2=>∃lI:World->Prop,lI z2.drew/\Nn r1 fun zi=>AP lI zi Value.string fun K9=>Nn r1 fun a29=>AP lI (a29.add 1) (Value.int .i64) fun Qu=>(Qr K9 Qu z2.drew fun oG EY Fl=>Nw Fl (.cells #[.int .i64 0,.int .i64 0,.int .i64 0,.int .i64 0,.string (⟨#[]⟩:cI)] 114) fun FC=>St FC ⟨Fl.heap.size,0,none⟩ (.int .i64 (oG.1)) fun WJ=>St WJ (.add ⟨Fl.heap.size,0,none⟩ 1) (.int .i64 (oG.2.1)) fun Lk=>St Lk (.add ⟨Fl.heap.size,0,none⟩ 2) (.int .i64 (oG.2.2.1)) fun z37=>St z37 (.add ⟨Fl.heap.size,0,none⟩ 3) (.int .i64 (oG.2.2.2.1)) fun PK=>St PK (.add ⟨Fl.heap.size,0,none⟩ 4) (.string oG.2.2.2.2) fun JJ=>∃tJ:World->Prop,tJ JJ.drew/\Nn r1 fun tK=>AP tJ tK Value.string fun K7=>Nn r1 fun zj=>AP tJ (zj.add 1) (Value.int .i64) fun Ho=>yj K7 Ho JJ.drew fun cT z46=>OL (EY==0) cT EY z46 (fun DY=>Ld DY ⟨Fl.heap.size,0,none⟩ (Value.int .i64) fun ID=>Ld DY (.add ⟨Fl.heap.size,0,none⟩ 1) (Value.int .i64) fun NV=>Ld DY (.add ⟨Fl.heap.size,0,none⟩ 2) (Value.int .i64) fun Jz=>Ld DY (.add ⟨Fl.heap.size,0,none⟩ 3) (Value.int .i64) fun NU=>Ld DY (.add ⟨Fl.heap.size,0,none⟩ 4) Value.string fun NW=>St DY ⟨w.heap.size,0,none⟩ (.int .i64 ID) fun z53=>St z53 (.add ⟨w.heap.size,0,none⟩ 1) (.int .i64 NV) fun WN=>St WN (.add ⟨w.heap.size,0,none⟩ 2) (.int .i64 Jz) fun JF=>St JF (.add ⟨w.heap.size,0,none⟩ 3) (.int .i64 NU) fun J9=>St J9 (.add ⟨w.heap.size,0,none⟩ 4) (.string NW) fun JG=>Ld JG ⟨w.heap.size,0,none⟩ (Value.int .i64) fun N0=>Ld JG (.add ⟨w.heap.size,0,none⟩ 1) (Value.int .i64) fun Um=>Ld JG (.add ⟨w.heap.size,0,none⟩ 2) (Value.int .i64) fun OI=>Ld JG (.add ⟨w.heap.size,0,none⟩ 3) (Value.int .i64) fun Pf=>Ld JG (.add ⟨w.heap.size,0,none⟩ 4) Value.string fun NX=>R (N0,Um,OI,Pf,NX) JG) PR)/\(Nw z2.drew (.cells #[.int .i64 0,.int .i64 0,.int .i64 0,.int .i64 0,.string (⟨#[]⟩:cI)] 114) fun K8=>lI K8/\Qr K9 Qu K8 fun X7 WC Gk=>St Gk ⟨z2.drew.heap.size,0,none⟩ (.int .i64 (X7.1)) fun Nu=>St Nu (.add ⟨z2.drew.heap.size,0,none⟩ 1) (.int .i64 (X7.2.1)) fun X1=>St X1 (.add ⟨z2.drew.heap.size,0,none⟩ 2) (.int .i64 (X7.2.2.1)) fun WD=>St WD (.add ⟨z2.drew.heap.size,0,none⟩ 3) (.int .i64 (X7.2.2.2.1)) fun z70=>St z70 (.add ⟨z2.drew.heap.size,0,none⟩ 4) (.string X7.2.2.2.2) fun Ln=>∃tL:World->Prop,tL Ln.drew/\Nn r1 fun a73=>AP tL a73 Value.string fun sU=>Nn r1 fun a75=>AP tL (a75.add 1) (Value.int .i64) fun Ni=>yj sU Ni Ln.drew fun YD D6=>OL (WC==0) YD WC D6 (fun Cb=>Ld Cb ⟨z2.drew.heap.size,0,none⟩ (Value.int .i64) fun da=>Ld Cb (.add ⟨z2.drew.heap.size,0,none⟩ 1) (Value.int .i64) fun Zm=>Ld Cb (.add ⟨z2.drew.heap.size,0,none⟩ 2) (Value.int .i64) fun Ti=>Ld Cb (.add ⟨z2.drew.heap.size,0,none⟩ 3) (Value.int .i64) fun RL=>Ld Cb (.add ⟨z2.drew.heap.size,0,none⟩ 4) Value.string fun Re=>St Cb ⟨w.heap.size,0,none⟩ (.int .i64 da) fun z85=>St z85 (.add ⟨w.heap.size,0,none⟩ 1) (.int .i64 Zm) fun Uh=>St Uh (.add ⟨w.heap.size,0,none⟩ 2) (.int .i64 Ti) fun z87=>St z87 (.add ⟨w.heap.size,0,none⟩ 3) (.int .i64 RL) fun Ui=>St Ui (.add ⟨w.heap.size,0,none⟩ 4) (.string Re) fun PX=>Ld PX ⟨w.heap.size,0,none⟩ (Value.int .i64) fun jk=>Ld PX (.add ⟨w.heap.size,0,none⟩ 1) (Value.int .i64) fun zh=>Ld PX (.add ⟨w.heap.size,0,none⟩ 2) (Value.int .i64) fun x92=>Ld PX (.add ⟨w.heap.size,0,none⟩ 3) (Value.int .i64) fun Zk=>Ld PX (.add ⟨w.heap.size,0,none⟩ 4) Value.string fun dK=>R (jk,zh,x92,Zk,dK) PX) PR)
theorem T55 (r1 w R PR):S55 r1 w R PR->zf r1 w R PR:=Jw (.agg [(.int .i64),(.int .i64),(.int .i64),(.int .i64),.str]) (.q (.s (.BY (.held [8] (.take 0 (.take 1 (.take 2 (.take 3 (.take 4 (.take 5 (.take 6 (.take 7 (.Kl 8 (some [12]) (.take 9 (.take 10 (.take 11 (.BF 12 (some [13]) (.BF 13 (some []) (.take 14 .done)))))) (.BF 12 none (.BF 8 (some [13]) (.take 9 (.take 10 (.take 11 (.BF 13 (some []) (.take 14 .done)))))))))))))))))) (.s (.BY (.held [10] (.take 0 (.take 1 (.take 2 (.take 3 (.take 4 (.take 5 (.take 6 (.take 7 (.take 8 (.take 9 (.take 11 (.BF 10 (some [12]) (.BF 12 (some []) .done))))))))))))))) (.q .l)))) [.pointer r1] Tryz.func55
def S59 (r1:Option Addr)(t2:Int×Int×Int×Int×ByteArray)(w:World)(R:Q1 (AK))(PR:Q1 Value):Prop:=Nw w (.cells #[.int .i64 (t2.1),.int .i64 (t2.2.1),.int .i64 (t2.2.2.1),.int .i64 (t2.2.2.2.1),.string t2.2.2.2.2] 114) fun z3=>Nw z3 (.cells #[.int .i64 0,.int .i64 0,.int .i64 0,.string (⟨#[]⟩:cI),AA.v ⟨none,0,0⟩,AA.v ⟨none,0,0⟩] 68) fun z4=>∃lJ:World->Prop,lJ z4.drew/\Nn r1 fun zk=>AP lJ zk Value.string fun DZ=>Nn r1 fun a25=>AP lJ (a25.add 1) (Value.int .i64) fun PW=>(C84 DZ PW z4.drew fun r27 zc zY B3=>Nw B3 (.cells #[.int .i64 0,.int .i64 0,.int .i64 0,.string (⟨#[]⟩:cI),AA.v ⟨none,0,0⟩,AA.v ⟨none,0,0⟩] 68) fun z31=>Ak ⟨B3.heap.size,0,none⟩ 0 AD r27 z31 fun IE=>Ld IE (.add ⟨w.heap.size,0,none⟩ 1) (Value.int .i64) fun N2=>OL (zY==0) N2 zY IE (fun FC=>∃Ap:World->Prop,Ap FC.drew/\Am Ap ⟨B3.heap.size,0,none⟩ 0 AD fun Hl=>AP Ap (.add ⟨w.heap.size,0,none⟩ 1) (Value.int .i64) fun J8=>lF Hl FC.drew fun r38 JJ=>Ap JJ/\OL (!r38) J8 3 JJ (fun z40=>Nn r1 fun tK=>St z40 (tK.add 1) (.int .i64 zc) fun Gh=>Ab Gh ⟨B3.heap.size,0,none⟩ 0 AD fun Kh=>Ak ⟨z3.heap.size,0,none⟩ 0 AD Kh Gh fun I0=>Ab I0 ⟨z3.heap.size,0,none⟩ 0 AD fun Gy=>R Gy I0) PR) PR)/\(Nw z4.drew (.cells #[.int .i64 0,.int .i64 0,.int .i64 0,.string (⟨#[]⟩:cI),AA.v ⟨none,0,0⟩,AA.v ⟨none,0,0⟩] 68) fun z46=>lJ z46/\C84 DZ PW z46 fun r47 r48 WM HE=>Ak ⟨z4.drew.heap.size,0,none⟩ 0 AD r47 HE fun z51=>Ld z51 (.add ⟨w.heap.size,0,none⟩ 1) (Value.int .i64) fun NW=>OL (WM==0) NW WM z51 (fun z53=>∃lK:World->Prop,lK z53.drew/\Am lK ⟨z4.drew.heap.size,0,none⟩ 0 AD fun Un=>AP lK (.add ⟨w.heap.size,0,none⟩ 1) (Value.int .i64) fun Nz=>lF Un z53.drew fun r57 jo=>lK jo/\OL (!r57) Nz 3 jo (fun z59=>Nn r1 fun a60=>St z59 (a60.add 1) (.int .i64 r48) fun OG=>Ab OG ⟨z4.drew.heap.size,0,none⟩ 0 AD fun NX=>Ak ⟨z3.heap.size,0,none⟩ 0 AD NX OG fun K8=>Ab K8 ⟨z3.heap.size,0,none⟩ 0 AD fun YS=>R YS K8) PR) PR)
theorem T59 (r1 t2 w R PR):S59 r1 t2 w R PR->C59 r1 (t2.1,t2.2.1,t2.2.2.1,t2.2.2.2.1,t2.2.2.2.2) w R PR:=Jw (.agg [(.int .i64),(.int .i64),(.int .i64),.str,.Ct,.Ct]) (.q (.s (.BY (.held [8] (.take 0 (.take 1 (.take 2 (.take 3 (.take 4 (.take 5 (.take 6 (.take 7 (.Kl 8 (some [13]) (.take 9 (.take 10 (.take 11 (.take 12 (.BF 13 (some [14]) (.BF 14 (some []) (.take 15 (.take 16 .done)))))))) (.BF 13 none (.BF 8 (some [14]) (.take 9 (.take 10 (.take 11 (.take 12 (.BF 14 (some []) (.take 15 (.take 16 .done)))))))))))))))))))) (.q (.s (.BY (.held [5] (.take 0 (.take 3 (.take 4 (.BF 1 none (.take 2 (.BF 5 (some []) .done)))))))) (.q (.q .l)))))) [.pointer r1,.agg #[.int .i64 (t2.1),.int .i64 (t2.2.1),.int .i64 (t2.2.2.1),.int .i64 (t2.2.2.2.1),.string t2.2.2.2.2]] Tryz.func59
def eO (r1:Option Addr)(z2:World)(I76:Q1 Unit)(D6:World)(PR:Q1 Value)(s92:Unit)(z93:World):Prop:=Ld z93 ⟨D6.heap.size,0,none⟩ (Value.int .i64) fun dK=>Ld z93 (.add ⟨D6.heap.size,0,none⟩ 1) (Value.int .i64) fun db=>OL (dK==4) db 3 z93 (fun Xw=>Ld Xw (.add ⟨D6.heap.size,0,none⟩ 4) Value.string fun oA=>∃wy:AK,∃oV:Bool,∃IC:World,BA prog (Instr.lookup 204 (.map (some z2.heap.size)) (.string oA) true) Xw (.tuple #[.agg (AQ.cells AD wy).toArray,.bool oV]) IC/\Nw IC (.cells #[.int .i64 0,.int .i64 0,.int .i64 0,.string (⟨#[]⟩:cI),AA.v ⟨none,0,0⟩,AA.v ⟨none,0,0⟩] 68) fun IG=>Ak ⟨IC.heap.size,0,none⟩ 0 AD wy IG fun D5=>Ld D5 (.add ⟨D6.heap.size,0,none⟩ 1) (Value.int .i64) fun dR=>OL (!oV) dR 9 D5 (fun DG=>Rn prog (Builtin.len_ #[204] 3 #[.map (some z2.heap.size)]) DG (Value.int .i64) fun Kj Dh=>Ld Dh (.add ⟨D6.heap.size,0,none⟩ 1) (Value.int .i64) fun IJ=>OL (decide (Kj<8191)) IJ 6 Dh (fun Kd=>zf r1 Kd (fun Ud HH=>Nw HH (.cells #[.int .i64 0,.int .i64 0,.int .i64 0,.int .i64 0,.string (⟨#[]⟩:cI)] 114) fun DS=>St DS ⟨HH.heap.size,0,none⟩ (.int .i64 (Ud.1)) fun Di=>St Di (.add ⟨HH.heap.size,0,none⟩ 1) (.int .i64 (Ud.2.1)) fun dS=>St dS (.add ⟨HH.heap.size,0,none⟩ 2) (.int .i64 (Ud.2.2.1)) fun Gm=>St Gm (.add ⟨HH.heap.size,0,none⟩ 3) (.int .i64 (Ud.2.2.2.1)) fun Ed=>St Ed (.add ⟨HH.heap.size,0,none⟩ 4) (.string Ud.2.2.2.2) fun z116=>Ld z116.drew ⟨HH.heap.size,0,none⟩ (Value.int .i64) fun Ke=>Nn r1 fun tM=>Ld z116.drew tM Value.string fun rR=>OL (Ke !=0) (rR.size:Int) 4 z116.drew (fun Bn=>Ld Bn ⟨HH.heap.size,0,none⟩ (Value.int .i64) fun Cu=>Ld Bn (.add ⟨HH.heap.size,0,none⟩ 1) (Value.int .i64) fun EO=>Ld Bn (.add ⟨HH.heap.size,0,none⟩ 2) (Value.int .i64) fun CR=>Ld Bn (.add ⟨HH.heap.size,0,none⟩ 3) (Value.int .i64) fun Ce=>Ld Bn (.add ⟨HH.heap.size,0,none⟩ 4) Value.string fun Dj=>C59 r1 (Cu,EO,CR,Ce,Dj) Bn (fun UW z127=>Nw z127 (.cells #[.int .i64 0,.int .i64 0,.int .i64 0,.string (⟨#[]⟩:cI),AA.v ⟨none,0,0⟩,AA.v ⟨none,0,0⟩] 68) fun RV=>Ak ⟨z127.heap.size,0,none⟩ 0 AD UW RV fun Nr=>∃WT:World->Prop,WT Nr.drew/\Am WT ⟨z127.heap.size,0,none⟩ 0 AD fun RP=>AP WT (.add ⟨HH.heap.size,0,none⟩ 1) (Value.int .i64) fun UL=>eQ RP Nr.drew fun AHQ Ka=>WT Ka/\OL (decide (AHQ<24)) UL 7 Ka (fun CG=>Ld CG (.add ⟨D6.heap.size,0,none⟩ 4) Value.string fun RH=>Ab CG ⟨z127.heap.size,0,none⟩ 0 AD fun UM=>Ru prog (Instr.mapUpdate 204 (.map (some z2.heap.size)) (.string RH) (.agg (AQ.cells AD UM).toArray)) CG fun z138=>I76 () z138) PR) PR) PR) PR) PR) PR) PR
def tN (w:World)(z2:World)(z91:World)(Uo:AA)(R:Q1 (AK))(AHR:Q1 Int)(eR:Int)(eS:World):Prop:=Br (decide (eR<(Uo.len:Int))) (0<=eR/\eR<(Uo.len:Nat)/\Nn Uo.p fun AHS=>Ld eS (AHS.add ((eR).toNat*1)) Value.string fun rj=>Ld eS (.add ⟨z91.heap.size,0,none⟩ 5) AA.v fun rk=>Rn prog (Instr.lookup 204 (.map (some z2.heap.size)) (.string rj) false) eS (fun x:AK=> .agg (AQ.cells AD x).toArray) fun (YU:AK) z183=>Nw z183 (.cells #[.int .i64 (YU.1),.int .i64 (YU.2.1),.int .i64 (YU.2.2.1),.string YU.2.2.2.1,AA.v YU.2.2.2.2.1,AA.v YU.2.2.2.2.2] 68) fun rn=>Rn prog (Builtin.append_ #[30,30] 30 #[AA.v rk,AA.v ⟨some ⟨z183.heap.size,0,none⟩,1,1⟩]) rn AA.v fun AHT rp=>St rp (.add ⟨z91.heap.size,0,none⟩ 5) (AA.v AHT) fun rq=>AHR (wrap .i64 (eR+1)) rq) (Ab eS ⟨z91.heap.size,0,none⟩ 0 AD fun AHU=>Ak ⟨w.heap.size,0,none⟩ 0 AD AHU eS fun Pb=>Ab Pb ⟨w.heap.size,0,none⟩ 0 AD fun ru=>R ru Pb)
def tO (w:World)(z2:World)(z91:World)(OM:Addr)(R:Q1 (AK))(zl:Q1 Unit)(AS7:Unit)(z167:World):Prop:=(∃z171:World,BA prog (Instr.next (.pointer (some OM)) false 0) z167 (.tuple #[.bool false]) z171/\Ld z171 (.add ⟨z91.heap.size,0,none⟩ 4) AA.v fun dX=>sq dX z171 fun zm=>Ld zm (.add ⟨z91.heap.size,0,none⟩ 4) AA.v fun Uo=>Lp (σ:=Int) (tN w z2 z91 Uo R) 0 zm)\/∃AHV:Value,∃rZ:Value,∃Lz:World,BA prog (Instr.next (.pointer (some OM)) false 0) z167 (.tuple #[.bool true,AHV,rZ]) Lz/\∃zn:ByteArray,∃km:AK,∃z193:World,BA prog (Instr.entry (.pointer (some OM))) Lz (.tuple #[.string zn,.agg (AQ.cells AD km).toArray]) z193/\Nw z193 (.cells #[.int .i64 0,.int .i64 0,.int .i64 0,.string (⟨#[]⟩:cI),AA.v ⟨none,0,0⟩,AA.v ⟨none,0,0⟩] 68) fun z194=>Ak ⟨z193.heap.size,0,none⟩ 0 AD km z194 fun eT=>Ld eT ⟨z193.heap.size,0,none⟩ (Value.int .i64) fun rv=>Br (rv !=0) (Ld eT (.add ⟨z91.heap.size,0,none⟩ 4) AA.v fun AHW=>Nw eT (.cells #[.string zn] 9) fun z198=>Rn prog (Builtin.append_ #[66,66] 66 #[AA.v AHW,AA.v ⟨some ⟨eT.heap.size,0,none⟩,1,1⟩]) z198 AA.v fun AHX cV=>St cV (.add ⟨z91.heap.size,0,none⟩ 4) (AA.v AHX) fun z201=>zl () z201) (zl () eT)
def eU (w:World)(r1:Option Addr)(z2:World)(R:Q1 (AK))(PR:Q1 Value)(I76:Q1 Unit)(s74:Unit)(z75:World):Prop:=zf r1 z75 (fun YD D6=>Nw D6 (.cells #[.int .i64 0,.int .i64 0,.int .i64 0,.int .i64 0,.string (⟨#[]⟩:cI)] 114) fun Cb=>St Cb ⟨D6.heap.size,0,none⟩ (.int .i64 (YD.1)) fun z80=>St z80 (.add ⟨D6.heap.size,0,none⟩ 1) (.int .i64 (YD.2.1)) fun Th=>St Th (.add ⟨D6.heap.size,0,none⟩ 2) (.int .i64 (YD.2.2.1)) fun RU=>St RU (.add ⟨D6.heap.size,0,none⟩ 3) (.int .i64 (YD.2.2.2.1)) fun Ua=>St Ua (.add ⟨D6.heap.size,0,none⟩ 4) (.string YD.2.2.2.2) fun jl=>Ld jl.drew ⟨D6.heap.size,0,none⟩ (Value.int .i64) fun Qt=>Nn r1 fun jn=>Ld jl.drew jn Value.string fun X9=>OL (Qt !=0) (X9.size:Int) 4 jl.drew (fun Ui=>Ld Ui (.add ⟨D6.heap.size,0,none⟩ 2) (Value.int .i64) fun WG=>Nn r1 fun a90=>St Ui (a90.add 1) (.int .i64 WG) fun z91=>As (eO r1 z2 I76 D6 PR) fun (oW:Q1 Unit)=>Ld z91 ⟨D6.heap.size,0,none⟩ (Value.int .i64) fun Lh=>Br (Lh==5) (Ld z91 (.add ⟨D6.heap.size,0,none⟩ 4) Value.string fun dM=>Br (dM.toList==(⟨#[73,68]⟩:cI).toList) (Nw z91 (.cells #[.int .i64 0,.int .i64 0,.int .i64 0,.string (⟨#[]⟩:cI),AA.v ⟨none,0,0⟩,AA.v ⟨none,0,0⟩] 68) fun UR=>Ak ⟨z91.heap.size,0,none⟩ 0 AD ((7,0,0,(⟨#[]⟩:cI),(⟨none,0,0⟩:AA),(⟨none,0,0⟩:AA)):AK) UR fun z143=>∃OM:Addr,∃RM:World,BA prog (Instr.range 204 (.map (some z2.heap.size))) z143 (.pointer (some OM)) RM/\Lp (σ:=Unit) (tO w z2 z91 OM R) () RM) (oW () z91)) (oW () z91)) PR) PR
def zo (r1:Option Addr)(w:World)(R:Q1 (AK))(PR:Q1 Value):Prop:=Nw w (.cells #[.int .i64 0,.int .i64 0,.int .i64 0,.string (⟨#[]⟩:cI),AA.v ⟨none,0,0⟩,AA.v ⟨none,0,0⟩] 68) fun z2=>Nw z2 (.map #[] 0) fun z3=>Lp (σ:=Unit) (eU w r1 z2 R PR) () z3
theorem AHY (r1 w R PR):zo r1 w R PR->tG r1 w R PR:=Jw (.agg [(.int .i64),(.int .i64),(.int .i64),.str,.Ct,.Ct]) (.q (.q (.s (.b (.o [] [0,2,3] (.b (.q (.s (.BY (.tail 8)) (.q (.join [] [0,2,3,4] (.q (.c .l .l)) (.q (.q (.q (.q (.q (.s (.BY (.tail 8)) (.q (.s (.BY (.held [5] (.take 0 (.take 3 (.take 4 (.BF 1 none (.take 2 (.BF 5 (some []) .done)))))))) .r))))))))))))))) (.q (.s (.q (.b (.o [] [2,3,9,89] (.q (.s (.c .l .l) (.b (.s (.BY .dyn) (.q (.c .r .l))))))))) (.q (.s (.q (.b (.o [(110,oi)] [2,3,9,108,109] (.q (.s (.c .l .l) (.s (.b (.q .r)) .r)))))) (.q .l)))))))) [.pointer r1] Tryz.func115
def zp (r1:Option Addr)(AN:Int)(w:World)(R:Q1 Bool):Prop:=Nn r1 fun a3=>Ld w a3 Value.string fun x4=>Br (decide (AN<(x4.size:Int))) (Nn r1 fun a5=>Ld w a5 Value.string fun x6=>0<=AN/\AN<((x6).size:Nat)/\n8 (Bf x6 AN) w fun r7 z8=>R r7 z8) (R false w)
theorem AHZ (r1 AN w R):zp r1 AN w R->tH r1 AN w R:=B2 ob (.q (.q .l)) [.pointer r1,.int .i64 AN] Tryz.func116
def oX (w:World)(r1:Option Addr)(z4:World)(GL:Int)(R:Q1 (ByteArray×AA×ByteArray))(PR:Q1 Value)(I40:Q1 Int)(oY:Int)(JJ:World):Prop:=Nn r1 fun tK=>Ld JJ tK Value.string fun K7=>Br (decide (oY<(K7.size:Int))) (Nn r1 fun zj=>Ld JJ zj Value.string fun Ho=>C92 Ho oY JJ fun cT z46=>Br cT (Nn r1 fun zq=>St z46 (zq.add 1) (.int .i64 (wrap .i64 (oY+3))) fun cU=>∃Pj:World->Prop,Pj cU.drew/\Am Pj ⟨z4.heap.size,0,none⟩ 0 AD fun Jz=>Nn r1 fun a51=>AP Pj a51 Value.string fun NW=>0<=oY/\oY<=(NW.size:Int)/\0<=(wrap .i64 (GL+1))/\(wrap .i64 (GL+1))<=(oY.toNat:Int)/\Nw cU.drew (.cells #[.int .i64 (Jz.1),.int .i64 (Jz.2.1),.int .i64 (Jz.2.2.1),.string Jz.2.2.2.1,AA.v Jz.2.2.2.2.1,AA.v Jz.2.2.2.2.2] 68) fun z53=>Pj z53/\St z53 ⟨w.heap.size,0,none⟩ (.string ((⟨#[66,73]⟩:cI))) fun WN=>St WN (.add ⟨w.heap.size,0,none⟩ 1) (AA.v ⟨some ⟨cU.drew.heap.size,0,none⟩,1,1⟩) fun JF=>St JF (.add ⟨w.heap.size,0,none⟩ 2) (.string (NW.extract ((wrap .i64 (GL+1)).toNat) ((oY).toNat))) fun J9=>Ld J9 ⟨w.heap.size,0,none⟩ Value.string fun Qw=>Ld J9 (.add ⟨w.heap.size,0,none⟩ 1) AA.v fun N0=>Ld J9 (.add ⟨w.heap.size,0,none⟩ 2) Value.string fun Um=>R (Qw,N0,Um) J9) (I40 (wrap .i64 (oY+1)) z46)) (Nn r1 fun a60=>Ld JJ a60 Value.string fun Pf=>xD (Pf.size:Int) 4 JJ (fun To=>St To ⟨w.heap.size,0,none⟩ (.string (⟨#[]⟩:cI)) fun K8=>St K8 (.add ⟨w.heap.size,0,none⟩ 1) (AA.v ⟨none,0,0⟩) fun dY=>St dY (.add ⟨w.heap.size,0,none⟩ 2) (.string (⟨#[]⟩:cI)) fun dZ=>Ld dZ ⟨w.heap.size,0,none⟩ Value.string fun Up=>Ld dZ (.add ⟨w.heap.size,0,none⟩ 1) AA.v fun dq=>Ld dZ (.add ⟨w.heap.size,0,none⟩ 2) Value.string fun Nv=>R (Up,dq,Nv) dZ) PR)
def S83 (r1:Option Addr)(w:World)(R:Q1 (ByteArray×AA×ByteArray))(PR:Q1 Value):Prop:=Nw w (.cells #[.string (⟨#[]⟩:cI),AA.v ⟨none,0,0⟩,.string (⟨#[]⟩:cI)] 33) fun z2=>tG r1 z2 (fun r3 z4=>Nw z4 (.cells #[.int .i64 0,.int .i64 0,.int .i64 0,.string (⟨#[]⟩:cI),AA.v ⟨none,0,0⟩,AA.v ⟨none,0,0⟩] 68) fun z5=>Ak ⟨z4.heap.size,0,none⟩ 0 AD r3 z5 fun z6=>∃vS7:World->Prop,vS7 z6.drew/\Nn r1 fun a8=>AP vS7 (a8.add 1) (Value.int .i64) fun x9=>Nn r1 fun a10=>AP vS7 (a10.add 1) (Value.int .i64) fun Ef=>tH r1 x9 z6.drew fun Jx DF=>vS7 DF/\OL Jx Ef 3 DF (fun AM=>Nn r1 fun a15=>Ld AM (a15.add 1) (Value.int .i64) fun GL=>Lp (σ:=Int) (oX w r1 z4 GL R PR) (wrap .i64 (GL+1)) AM) PR) PR
theorem T83 (r1 w R PR):S83 r1 w R PR->C83 r1 w R PR:=Jw (.agg [.str,.Ct,.str]) (.q (.q (.s (.BY (.held [10] (.take 0 (.take 1 (.take 2 (.take 3 (.take 4 (.take 6 (.take 7 (.take 8 (.take 9 (.BF 5 none (.BF 10 (some []) .done))))))))))))) (.q (.s (.q (.b (.o [(5,oi)] [0,2,3,4] (.s (.q (.c .l .l)) (.s (.b (.q (.c (.q (.s (.BY (.held [9] (.take 0 (.take 2 (.take 3 (.take 4 (.take 5 (.take 6 (.take 7 (.take 8 (.BF 1 none (.BF 9 (some [10]) (.BF 10 (some []) .done))))))))))))) .l)) .l))) .r))))) (.q (.q .l))))))) [.pointer r1] Tryz.func83
def oZ (w:World)(Gz:AA)(z4:World)(R:Q1 (ByteArray×AA×ByteArray))(s27:Unit)(z28:World):Prop:=Ld z28 (.add ⟨w.heap.size,0,none⟩ 4) Value.string fun Fz=>St z28 ⟨z4.heap.size,0,none⟩ (.string Fz) fun B3=>St B3 (.add ⟨z4.heap.size,0,none⟩ 1) (AA.v Gz) fun z31=>St z31 (.add ⟨z4.heap.size,0,none⟩ 2) (.string (⟨#[]⟩:cI)) fun IE=>Ld IE ⟨z4.heap.size,0,none⟩ Value.string fun N2=>Ld IE (.add ⟨z4.heap.size,0,none⟩ 1) AA.v fun Ph=>Ld IE (.add ⟨z4.heap.size,0,none⟩ 2) Value.string fun IF=>R (N2,Ph,IF) IE
def S58 (r1:Option Addr)(t2:Int×Int×Int×Int×ByteArray)(Gz:AA)(w:World)(R:Q1 (ByteArray×AA×ByteArray))(PR:Q1 Value):Prop:=Nw w (.cells #[.int .i64 (t2.1),.int .i64 (t2.2.1),.int .i64 (t2.2.2.1),.int .i64 (t2.2.2.2.1),.string t2.2.2.2.2] 114) fun z4=>Nw z4 (.cells #[.string (⟨#[]⟩:cI),AA.v ⟨none,0,0⟩,.string (⟨#[]⟩:cI)] 33) fun z5=>Nn r1 fun a6=>Ld z5.drew (a6.add 2) AA.v fun x7=>Ld z5.drew (.add ⟨w.heap.size,0,none⟩ 1) (Value.int .i64) fun x8=>OL (decide ((x7.len:Int)<8191)) x8 6 z5.drew (fun z9=>Ld z9 (.add ⟨w.heap.size,0,none⟩ 2) (Value.int .i64) fun EB=>Nn r1 fun a11=>St z9 (a11.add 1) (.int .i64 EB) fun z12=>As (oZ w Gz z4 R) fun (YV:Q1 Unit)=>Ld z12 (.add ⟨w.heap.size,0,none⟩ 4) Value.string fun J8=>Br (J8.toList==(⟨#[66,73]⟩:cI).toList) (Ld z12 (.add ⟨w.heap.size,0,none⟩ 1) (Value.int .i64) fun I1=>OL ((Gz.len:Int)==0) I1 3 z12 (fun JJ=>C83 r1 JJ (fun r40 Qp=>St Qp ⟨z4.heap.size,0,none⟩ (.string r40.1) fun Gh=>St Gh (.add ⟨z4.heap.size,0,none⟩ 1) (AA.v r40.2.1) fun V9=>St V9 (.add ⟨z4.heap.size,0,none⟩ 2) (.string r40.2.2) fun I0=>Ld I0 ⟨z4.heap.size,0,none⟩ Value.string fun Gy=>Ld I0 (.add ⟨z4.heap.size,0,none⟩ 1) AA.v fun Gi=>Ld I0 (.add ⟨z4.heap.size,0,none⟩ 2) Value.string fun Gj=>R (Gy,Gi,Gj) I0) PR) PR) (Br (J8.toList==(⟨#[73,68]⟩:cI).toList) (Br (J8.toList==(⟨#[73,68]⟩:cI).toList) (Ld z12 (.add ⟨w.heap.size,0,none⟩ 1) (Value.int .i64) fun ID=>xD ID 3 z12 (fun z49=>YV () z49) PR) (YV () z12)) (Br (J8.toList==(⟨#[69,73]⟩:cI).toList) (Br (J8.toList==(⟨#[69,73]⟩:cI).toList) (Ld z12 (.add ⟨w.heap.size,0,none⟩ 1) (Value.int .i64) fun Jz=>xD Jz 3 z12 (fun z51=>YV () z51) PR) (YV () z12)) (Br (J8.toList==(⟨#[82]⟩:cI).toList) (Ld z12 (.add ⟨w.heap.size,0,none⟩ 1) (Value.int .i64) fun NW=>xD NW 3 z12 (fun z53=>YV () z53) PR) (YV () z12))))) PR
theorem T58 (r1 t2 Gz w R PR):S58 r1 t2 Gz w R PR->C58 r1 (t2.1,t2.2.1,t2.2.2.1,t2.2.2.2.1,t2.2.2.2.2) Gz w R PR:=Jw (.agg [.str,.Ct,.str]) (.q (.s (.BY (.tail 8)) (.q (.join [] [2,4,6] (.q (.b (.q (.c (.q (.q .l)) (.s (.q (.c .l (.q (.c .l .r)))) (.c .r .l)))))) (.q .l))))) [.pointer r1,.agg #[.int .i64 (t2.1),.int .i64 (t2.2.1),.int .i64 (t2.2.2.1),.int .i64 (t2.2.2.2.1),.string t2.2.2.2.2],AA.v Gz] Tryz.func58
def eV (w:World)(R:Q1 (Int×Int))(x4:Value)(z3:World):Prop:=YT ⟨w.heap.size,0,none⟩ (some x4) z3 fun z5=>Ld z5 ⟨w.heap.size,0,none⟩ (Value.int .i64) fun x6=>Ld z5 (.add ⟨w.heap.size,0,none⟩ 1) (Value.int .i64) fun x7=>R (x6,x7) z5
def Rh (w:World)(r1:Option Addr)(s8:AA)(lL:Q1 AA)(z12:World)(R:Q1 (Int×Int))(s32:Bool)(Fl:World):Prop:=Br s32 (∃Pp:World->Prop,Pp Fl.drew/\Nn r1 fun a35=>AP Pp (a35.add 2) AA.v fun Hl=>AP Pp ⟨z12.heap.size,0,none⟩ (Value.int .i64) fun J8=>AP Pp (.add ⟨z12.heap.size,0,none⟩ 1) (Value.int .i64) fun I1=>AP Pp (.add ⟨z12.heap.size,0,none⟩ 2) (Value.int .i64) fun PM=>AP Pp (.add ⟨z12.heap.size,0,none⟩ 3) (Value.int .i64) fun NS=>AP Pp (.add ⟨z12.heap.size,0,none⟩ 4) Value.string fun Kg=>C58 r1 (J8,I1,PM,NS,Kg) s8 Fl.drew (fun oc V9=>Pp V9/\Nw V9 (.cells #[.string oc.1,AA.v oc.2.1,.string oc.2.2] 33) fun I0=>Pp I0/\Rn prog (Builtin.append_ #[22,22] 22 #[AA.v Hl,AA.v ⟨some ⟨V9.heap.size,0,none⟩,1,1⟩]) I0 AA.v fun Gy z46=>Nn r1 fun zq=>St z46 (zq.add 2) (AA.v Gy) fun cU=>lL (⟨none,0,0⟩:AA) cU) (eV w R)) (Ld Fl ⟨z12.heap.size,0,none⟩ (Value.int .i64) fun NV=>Ld Fl (.add ⟨z12.heap.size,0,none⟩ 1) (Value.int .i64) fun Jz=>Ld Fl (.add ⟨z12.heap.size,0,none⟩ 2) (Value.int .i64) fun NU=>Ld Fl (.add ⟨z12.heap.size,0,none⟩ 3) (Value.int .i64) fun NW=>Ld Fl (.add ⟨z12.heap.size,0,none⟩ 4) Value.string fun Ll=>C59 r1 (NV,Jz,NU,NW,Ll) Fl (fun jj JF=>Nw JF (.cells #[.int .i64 0,.int .i64 0,.int .i64 0,.string (⟨#[]⟩:cI),AA.v ⟨none,0,0⟩,AA.v ⟨none,0,0⟩] 68) fun J9=>Ak ⟨JF.heap.size,0,none⟩ 0 AD jj J9 fun JG=>Ld JG (.add ⟨z12.heap.size,0,none⟩ 1) (Value.int .i64) fun N0=>OL (decide ((s8.len:Int)<32)) N0 6 JG (fun z59=>Ab z59 ⟨JF.heap.size,0,none⟩ 0 AD fun OI=>Nw z59 (.cells #[.int .i64 (OI.1),.int .i64 (OI.2.1),.int .i64 (OI.2.2.1),.string OI.2.2.2.1,AA.v OI.2.2.2.2.1,AA.v OI.2.2.2.2.2] 68) fun OG=>Rn prog (Builtin.append_ #[30,30] 30 #[AA.v s8,AA.v ⟨some ⟨z59.heap.size,0,none⟩,1,1⟩]) OG AA.v fun NX K8=>lL NX K8) (eV w R)) (eV w R))
def od (w:World)(r1:Option Addr)(R:Q1 (Int×Int))(lL:Q1 AA)(s8:AA)(z9:World):Prop:=zf r1 z9 (fun Lx z12=>Nw z12 (.cells #[.int .i64 0,.int .i64 0,.int .i64 0,.int .i64 0,.string (⟨#[]⟩:cI)] 114) fun DF=>St DF ⟨z12.heap.size,0,none⟩ (.int .i64 (Lx.1)) fun AM=>St AM (.add ⟨z12.heap.size,0,none⟩ 1) (.int .i64 (Lx.2.1)) fun EN=>St EN (.add ⟨z12.heap.size,0,none⟩ 2) (.int .i64 (Lx.2.2.1)) fun EX=>St EX (.add ⟨z12.heap.size,0,none⟩ 3) (.int .i64 (Lx.2.2.2.1)) fun JE=>St JE (.add ⟨z12.heap.size,0,none⟩ 4) (.string Lx.2.2.2.2) fun DO=>Ld DO ⟨z12.heap.size,0,none⟩ (Value.int .i64) fun HG=>Br (HG==0) (Nn r1 fun a20=>Ld DO a20 Value.string fun Hm=>OL ((s8.len:Int)==0) (Hm.size:Int) 4 DO (fun J7=>St J7 ⟨w.heap.size,0,none⟩ (.int .i64 0) fun D0=>St D0 (.add ⟨w.heap.size,0,none⟩ 1) (.int .i64 0) fun z24=>YT ⟨w.heap.size,0,none⟩ none z24 fun Jy=>Ld Jy ⟨w.heap.size,0,none⟩ (Value.int .i64) fun PW=>Ld Jy (.add ⟨w.heap.size,0,none⟩ 1) (Value.int .i64) fun Tm=>R (PW,Tm) Jy) (eV w R)) (As (Rh w r1 s8 lL z12 R) fun (zr:Q1 Bool)=>Ld DO ⟨z12.heap.size,0,none⟩ (Value.int .i64) fun Rc=>Br (Rc==5) (Ld DO (.add ⟨z12.heap.size,0,none⟩ 4) Value.string fun Up=>C57 Up DO fun WB X1=>zr (!WB) X1) (zr false DO))) (eV w R)
def S30 (r1:Option Addr)(w:World)(R:Q1 (Int×Int)):Prop:=Nw w (.cells #[.int .i64 0,.int .i64 0] 46) fun z2=>Lp (σ:=AA) (od w r1 R) (⟨none,0,0⟩:AA) z2
def AHe:Ee:=(.pre (.BY .seq) (.here [2] (.q (.block (.loop [(3,(.one .Ct))] [0,2] (.block (.q (.block (.q (.cond (.q (.q .leaf)) (.join [(36,(.one .bool))] [0,2,3,4] (.BY .seq) (.cond (.seq (.BY (.held [10] (.take 0 (.take 1 (.take 2 (.take 3 (.take 4 (.take 5 (.take 6 (.take 7 (.BF 8 none (.BF 9 none (.BF 10 (some [13]) (.take 11 (.take 12 (.BF 13 (some []) .done)))))))))))))))) (.BY .seq)) (.q (.q (.BY .seq)))))))))))))))
theorem T30 (r1:Option Addr)(w:World)(R:Q1 (Int×Int))(h:S30 r1 w R):C30 r1 w R:=by
 have e:Nk prog FF Fu (fun _ _=>False) AHe Tryz.f30 [.pointer r1] w [(.agg [(.int .i64),(.int .i64)])] (fun s w=>R s w)=S30 r1 w R:=by kernel_rfl
 exact (Cc okF De Tryz.func30 (by kernel_rfl) (by kernel_rfl) (e.mpr h)).mono fun _ _ ⟨s,he,hR⟩=>⟨s,he,hR⟩
def S11 (s1:ByteArray)(w:World)(R:Q2 AA (Int×Int)):Prop:=Nw w (.cells #[.int .i64 0,.int .i64 0] 46) fun z2=>Nw z2 (.cells #[.string s1,.int .i64 0,AA.v ⟨none,0,0⟩] 88) fun z3=>C30 (some ⟨z2.heap.size,0,none⟩) z3 fun RE EN=>Nw EN (.cells #[.int .i64 0,.int .i64 0] 46) fun EX=>St EX ⟨EN.heap.size,0,none⟩ (.int .i64 (RE.1)) fun JE=>St JE (.add ⟨EN.heap.size,0,none⟩ 1) (.int .i64 (RE.2)) fun DO=>Ld DO (.add ⟨EN.heap.size,0,none⟩ 1) (Value.int .i64) fun HG=>Br (HG !=0) (Ld DO.drew ⟨EN.heap.size,0,none⟩ (Value.int .i64) fun Gn=>Ld DO.drew (.add ⟨EN.heap.size,0,none⟩ 1) (Value.int .i64) fun Hm=>St DO.drew ⟨w.heap.size,0,none⟩ (.int .i64 Gn) fun J7=>St J7 (.add ⟨w.heap.size,0,none⟩ 1) (.int .i64 Hm) fun D0=>Ld D0 ⟨w.heap.size,0,none⟩ (Value.int .i64) fun DZ=>Ld D0 (.add ⟨w.heap.size,0,none⟩ 1) (Value.int .i64) fun WE=>R (⟨none,0,0⟩:AA) (DZ,WE) D0) (Nn (some ⟨z2.heap.size,0,none⟩) fun a26=>Ld DO (a26.add 2) AA.v fun Tm=>St DO ⟨w.heap.size,0,none⟩ (.int .i64 0) fun z28=>St z28 (.add ⟨w.heap.size,0,none⟩ 1) (.int .i64 0) fun CS=>Ld CS ⟨w.heap.size,0,none⟩ (Value.int .i64) fun Qu=>Ld CS (.add ⟨w.heap.size,0,none⟩ 1) (Value.int .i64) fun Pd=>R Tm (Qu,Pd) CS)
theorem T11 (s1 w R):S11 s1 w R->C11 s1 w R:=PH ol (.agg [(.int .i64),(.int .i64)]) (.q (.q (.s (.q (.q (.c (.s (.BY (.tail 2)) .l) .l))) (.q .l)))) [.string s1] Tryz.func11
end
section
open Sh
def C62 (s1:ByteArray):=K1 AA.v 62 #[.string s1]
def C37 (Cv:ByteArray):=K1 Value.string 37 #[.string Cv]
def C38 (CI:Int)(BE:Int):=K1 Value.bool 38 #[.int .i32 CI,.int .i64 BE]
def C17 (o1:ByteArray×AA×ByteArray):=K1 vi 17 #[.agg #[.string o1.1,AA.v o1.2.1,.string o1.2.2]]
def oE (Cv:ByteArray)(Pd:ByteArray)(Pe:ByteArray)(N2:ByteArray)(Ph:ByteArray)(IF:ByteArray)(Hl:ByteArray)(J8:ByteArray)(I1:ByteArray)(PM:ByteArray)(NS:ByteArray)(Kg:ByteArray)(K7:ByteArray)(Kh:ByteArray)(Ho:ByteArray)(Gy:ByteArray)(Gi:ByteArray)(Gj:ByteArray)(ID:ByteArray)(NV:ByteArray)(Jz:ByteArray)(NU:ByteArray)(NW:ByteArray)(Ll:ByteArray)(X0:ByteArray)(Un:ByteArray)(Nz:ByteArray)(Qw:ByteArray)(N0:ByteArray)(R:Q1 ByteArray)(I61:Q1 Int)(wu:Int)(MD:World):Prop:=Br (decide (wu<14)) (0<=wu/\wu<(14:Nat)/\∃NX:ByteArray×ByteArray,(#[.string Pd,.string Pe,.string N2,.string Ph,.string IF,.string Hl,.string J8,.string I1,.string PM,.string NS,.string Kg,.string K7,.string Kh,.string Ho,.string Gy,.string Gi,.string Gj,.string ID,.string NV,.string Jz,.string NU,.string NW,.string Ll,.string X0,.string Un,.string Nz,.string Qw,.string N0]:Array Value).extract ((wu).toNat*2) ((wu).toNat*2+2)=#[.string NX.1,.string NX.2]/\Nw MD (.cells #[.string (⟨#[]⟩:cI),.string (⟨#[]⟩:cI)] 125) fun K8=>St K8 ⟨MD.heap.size,0,none⟩ (.string NX.1) fun dY=>St dY (.add ⟨MD.heap.size,0,none⟩ 1) (.string NX.2) fun dZ=>Ld dZ (.add ⟨MD.heap.size,0,none⟩ 1) Value.string fun Up=>C62 Up dZ fun WB X1=>zA WB Cv X1 fun r69 z70=>Br r69 (Ld z70 ⟨MD.heap.size,0,none⟩ Value.string fun kk=>R kk z70) (I61 (wrap .i64 (wu+1)) z70)) (R (⟨#[63]⟩:cI) MD)
def S37 (Cv:ByteArray)(w:World)(R:Q1 ByteArray):Prop:=Nw w (.cells #[.string (⟨#[]⟩:cI),.string (⟨#[]⟩:cI),.string (⟨#[]⟩:cI),.string (⟨#[]⟩:cI),.string (⟨#[]⟩:cI),.string (⟨#[]⟩:cI),.string (⟨#[]⟩:cI),.string (⟨#[]⟩:cI),.string (⟨#[]⟩:cI),.string (⟨#[]⟩:cI),.string (⟨#[]⟩:cI),.string (⟨#[]⟩:cI),.string (⟨#[]⟩:cI),.string (⟨#[]⟩:cI),.string (⟨#[]⟩:cI),.string (⟨#[]⟩:cI),.string (⟨#[]⟩:cI),.string (⟨#[]⟩:cI),.string (⟨#[]⟩:cI),.string (⟨#[]⟩:cI),.string (⟨#[]⟩:cI),.string (⟨#[]⟩:cI),.string (⟨#[]⟩:cI),.string (⟨#[]⟩:cI),.string (⟨#[]⟩:cI),.string (⟨#[]⟩:cI),.string (⟨#[]⟩:cI),.string (⟨#[]⟩:cI)] 126) fun z2=>St z2 ⟨w.heap.size,0,none⟩ (.string (⟨#[]⟩:cI)) fun z3=>St z3 (.add ⟨w.heap.size,0,none⟩ 1) (.string ((⟨#[98,32,66,32,98,42,32,66,42,32,66,84,32,69,84,32,69,77,67,32,66,88,32,69,88,32,102,32,70,32,102,42,32,104,32,110,32,113,32,81,32,115,32,83,32,84,42,32,87,32,87,42]⟩:cI))) fun z4=>St z4 (.add ⟨w.heap.size,0,none⟩ 2) (.string ((⟨#[110]⟩:cI))) fun z5=>St z5 (.add ⟨w.heap.size,0,none⟩ 3) (.string ((⟨#[103,32,71,32,105,32,106,32,74,32,77,32,119,32,84,99,32,84,76,32,84,114,32,84,115,32,84,119,32,84,122]⟩:cI))) fun z6=>St z6 (.add ⟨w.heap.size,0,none⟩ 4) (.string ((⟨#[110,110]⟩:cI))) fun z7=>St z7 (.add ⟨w.heap.size,0,none⟩ 5) (.string ((⟨#[100,48,32,108,32,109,32,84,100,32,84,68]⟩:cI))) fun z8=>St z8 (.add ⟨w.heap.size,0,none⟩ 6) (.string ((⟨#[110,110,110]⟩:cI))) fun z9=>St z9 (.add ⟨w.heap.size,0,none⟩ 7) (.string ((⟨#[114,103,32,82,71]⟩:cI))) fun Ar=>St Ar (.add ⟨w.heap.size,0,none⟩ 8) (.string ((⟨#[110,110,110,110]⟩:cI))) fun Dg=>St Dg (.add ⟨w.heap.size,0,none⟩ 9) (.string ((⟨#[107,32,75,32,114,101,32,118,32,121]⟩:cI))) fun z12=>St z12 (.add ⟨w.heap.size,0,none⟩ 10) (.string ((⟨#[110,110,110,110,110,110]⟩:cI))) fun DF=>St DF (.add ⟨w.heap.size,0,none⟩ 11) (.string ((⟨#[99,32,99,109,32,100,49,32,84,109]⟩:cI))) fun AM=>St AM (.add ⟨w.heap.size,0,none⟩ 12) (.string ((⟨#[78]⟩:cI))) fun EN=>St EN (.add ⟨w.heap.size,0,none⟩ 13) (.string ((⟨#[66,77,67,32,99,115,32,67,83,32,68,111,32,103,115,32,77,80,32,114,105,32,115,104]⟩:cI))) fun EX=>St EX (.add ⟨w.heap.size,0,none⟩ 14) (.string ((⟨#[78,110]⟩:cI))) fun JE=>St JE (.add ⟨w.heap.size,0,none⟩ 15) (.string ((⟨#[84,102]⟩:cI))) fun DO=>St DO (.add ⟨w.heap.size,0,none⟩ 16) (.string ((⟨#[78,42]⟩:cI))) fun Bz=>St Bz (.add ⟨w.heap.size,0,none⟩ 17) (.string ((⟨#[66,68,67,32,68,80]⟩:cI))) fun z20=>St z20 (.add ⟨w.heap.size,0,none⟩ 18) (.string ((⟨#[115]⟩:cI))) fun z21=>St z21 (.add ⟨w.heap.size,0,none⟩ 19) (.string ((⟨#[84,106,32,39]⟩:cI))) fun J7=>St J7 (.add ⟨w.heap.size,0,none⟩ 20) (.string ((⟨#[110,110,115]⟩:cI))) fun D0=>St D0 (.add ⟨w.heap.size,0,none⟩ 21) (.string ((⟨#[34]⟩:cI))) fun z24=>St z24 (.add ⟨w.heap.size,0,none⟩ 22) (.string ((⟨#[97]⟩:cI))) fun Jy=>St Jy (.add ⟨w.heap.size,0,none⟩ 23) (.string ((⟨#[84,74]⟩:cI))) fun CQ=>St CQ (.add ⟨w.heap.size,0,none⟩ 24) (.string ((⟨#[97,110]⟩:cI))) fun JI=>St JI (.add ⟨w.heap.size,0,none⟩ 25) (.string ((⟨#[100]⟩:cI))) fun z28=>St z28 (.add ⟨w.heap.size,0,none⟩ 26) (.string ((⟨#[100]⟩:cI))) fun CS=>St CS (.add ⟨w.heap.size,0,none⟩ 27) (.string ((⟨#[66,73]⟩:cI))) fun B3=>Ld B3 ⟨w.heap.size,0,none⟩ Value.string fun Pd=>Ld B3 (.add ⟨w.heap.size,0,none⟩ 1) Value.string fun Pe=>Ld B3 (.add ⟨w.heap.size,0,none⟩ 2) Value.string fun N2=>Ld B3 (.add ⟨w.heap.size,0,none⟩ 3) Value.string fun Ph=>Ld B3 (.add ⟨w.heap.size,0,none⟩ 4) Value.string fun IF=>Ld B3 (.add ⟨w.heap.size,0,none⟩ 5) Value.string fun Hl=>Ld B3 (.add ⟨w.heap.size,0,none⟩ 6) Value.string fun J8=>Ld B3 (.add ⟨w.heap.size,0,none⟩ 7) Value.string fun I1=>Ld B3 (.add ⟨w.heap.size,0,none⟩ 8) Value.string fun PM=>Ld B3 (.add ⟨w.heap.size,0,none⟩ 9) Value.string fun NS=>Ld B3 (.add ⟨w.heap.size,0,none⟩ 10) Value.string fun Kg=>Ld B3 (.add ⟨w.heap.size,0,none⟩ 11) Value.string fun K7=>Ld B3 (.add ⟨w.heap.size,0,none⟩ 12) Value.string fun Kh=>Ld B3 (.add ⟨w.heap.size,0,none⟩ 13) Value.string fun Ho=>Ld B3 (.add ⟨w.heap.size,0,none⟩ 14) Value.string fun Gy=>Ld B3 (.add ⟨w.heap.size,0,none⟩ 15) Value.string fun Gi=>Ld B3 (.add ⟨w.heap.size,0,none⟩ 16) Value.string fun Gj=>Ld B3 (.add ⟨w.heap.size,0,none⟩ 17) Value.string fun ID=>Ld B3 (.add ⟨w.heap.size,0,none⟩ 18) Value.string fun NV=>Ld B3 (.add ⟨w.heap.size,0,none⟩ 19) Value.string fun Jz=>Ld B3 (.add ⟨w.heap.size,0,none⟩ 20) Value.string fun NU=>Ld B3 (.add ⟨w.heap.size,0,none⟩ 21) Value.string fun NW=>Ld B3 (.add ⟨w.heap.size,0,none⟩ 22) Value.string fun Ll=>Ld B3 (.add ⟨w.heap.size,0,none⟩ 23) Value.string fun X0=>Ld B3 (.add ⟨w.heap.size,0,none⟩ 24) Value.string fun Un=>Ld B3 (.add ⟨w.heap.size,0,none⟩ 25) Value.string fun Nz=>Ld B3 (.add ⟨w.heap.size,0,none⟩ 26) Value.string fun Qw=>Ld B3 (.add ⟨w.heap.size,0,none⟩ 27) Value.string fun N0=>Lp (σ:=Int) (oE Cv Pd Pe N2 Ph IF Hl J8 I1 PM NS Kg K7 Kh Ho Gy Gi Gj ID NV Jz NU NW Ll X0 Un Nz Qw N0 R) 0 B3
theorem T37 (Cv w R):S37 Cv w R->C37 Cv w R:=B2 os (.q (.q (.s (.q (.b (.o [(22,oi)] [0,21] (.q (.s (.c .l .l) (.s (.b (.q (.q (.c (.q .l) .l)))) .r)))))) (.q .l)))) [.string Cv] Tryz.func37
def S38 (CI:Int)(BE:Int)(w:World)(R:Q1 Bool):Prop:=Br (CI==110) (Br (BE==2) (R true w) (R (BE==3) w)) (Br (CI==115) (R (BE==4) w) (Br (CI==78) (R (BE==5) w) (Br (CI==97) (R (BE==6) w) (Br (CI==100) (R (BE==7) w) (R true w)))))
theorem T38 (CI BE w R):S38 CI BE w R->C38 CI BE w R:=B2 ob (.q (.s (.q (.b (.q (.c (.q .l) (.q (.c (.q .l) (.q (.c (.q .l) (.q (.c (.q .l) (.q (.c (.q .l) .l)))))))))))) (.q .l))) [.int .i32 CI,.int .i64 BE] Tryz.func38
def oF (w:World)(z5:World)(R:Q1 Int)(I23:Q1 Unit)(s21:Unit)(J7:World):Prop:=Nx J7 ⟨z5.heap.size,0,none⟩ (fun (i24:Int) (AGq:Int) (CQ:World)=>Ld CQ (.add ⟨w.heap.size,0,none⟩ 1) AA.v fun Tm=>0<=i24/\i24<(Tm.len:Nat)/\Nn Tm.p fun a28=>Ld CQ (a28.add ((i24).toNat*6)) (Value.int .i64) fun Fz=>C38 AGq Fz CQ fun sf z31=>Br (!sf) (R 28 z31) (I23 () z31)) (Ld J7 (.add ⟨w.heap.size,0,none⟩ 2) Value.string fun Pe=>Br (!(Pe.toList==(⟨#[]⟩:cI).toList)) (Ld J7 ⟨w.heap.size,0,none⟩ Value.string fun N2=>Br (!(N2.toList==(⟨#[66,73]⟩:cI).toList)) (R 3 J7) (R 0 J7)) (R 0 J7))
def S17 (o1:ByteArray×AA×ByteArray)(w:World)(R:Q1 Int):Prop:=Nw w (.cells #[.string o1.1,AA.v o1.2.1,.string o1.2.2] 33) fun z2=>Ld z2 ⟨w.heap.size,0,none⟩ Value.string fun x3=>C37 x3 z2 fun r4 z5=>Br (r4.toList==(⟨#[63]⟩:cI).toList) (R 28 z5) (Ld z5 (.add ⟨w.heap.size,0,none⟩ 1) AA.v fun x7=>Br ((r4.size:Int) !=(x7.len:Int)) (R 28 z5) (Nw z5 (.stringIter r4 0) fun z20=>Lp (σ:=Unit) (oF w z5 R) () z20))
theorem T17 (o1 w R):S17 o1 w R->C17 (o1.1,o1.2.1,o1.2.2) w R:=B2 oi (.q (.q (.s (.q (.c (.q .l) .l)) (.s (.q (.b (.o [] [1,20] (.q (.s (.c .l .l) (.b (.q (.q (.c (.q .l) .l))))))))) (.s (.q (.c (.q .l) .l)) (.q .l)))))) [.agg #[.string o1.1,AA.v o1.2.1,.string o1.2.2]] Tryz.func17
end
end Go.Proofs.YtmaekpnpnjndoaaGreatDoor
namespace Go.Proofs
open Go.Shelf
def Tryz.Sv:Go.Shelf.Ren:=⟨fun|157=>62|229=>89|199=>90|261=>119|311=>142|312=>143|n=>n,fun|9=>9|31=>66|3=>3|5=>5|4=>4|119=>153|0=>0|40=>155|152=>185|21=>21|154=>187|51=>188|141=>190|196=>213|193=>210|198=>216|49=>214|194=>211|201=>219|226=>236|46=>167|227=>237|n=>n,fun|0=>0|6=>1|n=>n⟩
theorem Tryz.nC:Go.Proofs.Lays.n157 Tryz.prog Tryz.Sv:={
 mixed:=by kernel_rfl
 f157:=Tryz.func62.trans (congrArg some (by kernel_rfl))
 f199:=Tryz.func90.trans (congrArg some (by kernel_rfl))
 f229:=Tryz.func89.trans (congrArg some (by kernel_rfl))
 f261:=Tryz.func119.trans (congrArg some (by kernel_rfl))
 f311:=Tryz.func142.trans (congrArg some (by kernel_rfl))
 f312:=Tryz.func143.trans (congrArg some (by kernel_rfl))
 t0:=Tryz.underlying0
 a0:=Tryz.isAgg0
 z0:=Tryz.sizeOf0
 v0:=Tryz.zeroValue0
 t3:=Tryz.underlying3
 a3:=Tryz.isAgg3
 z3:=Tryz.sizeOf3
 v3:=Tryz.zeroValue3
 t4:=Tryz.underlying4
 a4:=Tryz.isAgg4
 z4:=Tryz.sizeOf4
 v4:=Tryz.zeroValue4
 t5:=Tryz.underlying5
 a5:=Tryz.isAgg5
 z5:=Tryz.sizeOf5
 v5:=Tryz.zeroValue5
 t9:=Tryz.underlying9
 a9:=Tryz.isAgg9
 z9:=Tryz.sizeOf9
 v9:=Tryz.zeroValue9
 t21:=Tryz.underlying21
 a21:=Tryz.isAgg21
 z21:=Tryz.sizeOf21
 v21:=Tryz.zeroValue21
 t31:=Tryz.underlying66
 a31:=Tryz.isAgg66
 z31:=Tryz.sizeOf66
 v31:=Tryz.zeroValue66
 t40:=Tryz.underlying155
 a40:=Tryz.isAgg155
 z40:=Tryz.sizeOf155
 v40:=Tryz.zeroValue155
 t46:=Tryz.underlying167
 a46:=Tryz.isAgg167
 z46:=Tryz.sizeOf167
 v46:=Tryz.zeroValue167
 t49:=Tryz.underlying214
 a49:=Tryz.isAgg214
 z49:=Tryz.sizeOf214
 v49:=Tryz.zeroValue214
 t51:=Tryz.underlying188
 a51:=Tryz.isAgg188
 z51:=Tryz.sizeOf188
 v51:=Tryz.zeroValue188
 t119:=Tryz.underlying153
 a119:=Tryz.isAgg153
 z119:=Tryz.sizeOf153
 t141:=Tryz.underlying190
 a141:=Tryz.isAgg190
 z141:=Tryz.sizeOf190
 v141:=Tryz.zeroValue190
 t152:=Tryz.underlying185
 a152:=Tryz.isAgg185
 z152:=Tryz.sizeOf185
 v152:=Tryz.zeroValue185
 t154:=Tryz.underlying187
 a154:=Tryz.isAgg187
 z154:=Tryz.sizeOf187
 v154:=Tryz.zeroValue187
 t193:=Tryz.underlying210
 a193:=Tryz.isAgg210
 z193:=Tryz.sizeOf210
 v193:=Tryz.zeroValue210
 t194:=Tryz.underlying211
 a194:=Tryz.isAgg211
 z194:=Tryz.sizeOf211
 v194:=Tryz.zeroValue211
 t196:=Tryz.underlying213
 a196:=Tryz.isAgg213
 z196:=Tryz.sizeOf213
 v196:=Tryz.zeroValue213
 t198:=Tryz.underlying216
 a198:=Tryz.isAgg216
 z198:=Tryz.sizeOf216
 v198:=Tryz.zeroValue216
 t201:=Tryz.underlying219
 a201:=Tryz.isAgg219
 z201:=Tryz.sizeOf219
 v201:=Tryz.zeroValue219
 t226:=Tryz.underlying236
 a226:=Tryz.isAgg236
 z226:=Tryz.sizeOf236
 v226:=Tryz.zeroValue236
 t227:=Tryz.underlying237
 a227:=Tryz.isAgg237
 z227:=Tryz.sizeOf237
 v227:=Tryz.zeroValue237
 g0:=by kernel_rfl
 g6:=by kernel_rfl}
open Go.RowKit Go.Lib in
theorem Tryz.strings_Fields(s:ByteArray)(w:World)(hs:s.size<4294967281)(Hi:∀(j:Nat) b,s.data.toList[j]?=some b->b.toNat<128)(vX:Lib.TabIs Tryz.prog w "strings.asciiSpace" .u8 Lib.asciiSpaceTab):
  Calls Tryz.prog 62 #[.string s] w fun e w'=>
   e= .returned (.slice (some ⟨w.heap.size,0,none⟩) (Lib.fields s.data.toList).length (Lib.fields s.data.toList).length)/\w'=w.alloc (.cells ((Lib.fields s.data.toList).map fun l=>Value.string ⟨l.toArray⟩).toArray 9):=Any.strings_Fields Tryz.nC (by kernel_rfl) (by kernel_rfl) s w hs Hi vX
end Go.Proofs
namespace Go.Proofs
open Go.Shelf
def Tryz.Sw:Go.Shelf.Ren:=⟨fun|137=>74|217=>101|266=>122|n=>n,fun|9=>9|5=>5|3=>3|n=>n,fun|n=>n⟩
theorem Tryz.nD:Go.Proofs.Lays.n137 Tryz.prog Tryz.Sw:={
 mixed:=by kernel_rfl
 f137:=Tryz.func74.trans (congrArg some (by kernel_rfl))
 f217:=Tryz.func101.trans (congrArg some (by kernel_rfl))
 f266:=Tryz.func122.trans (congrArg some (by kernel_rfl))
 t3:=Tryz.underlying3
 a3:=Tryz.isAgg3
 z3:=Tryz.sizeOf3
 v3:=Tryz.zeroValue3
 t5:=Tryz.underlying5
 a5:=Tryz.isAgg5
 z5:=Tryz.sizeOf5
 v5:=Tryz.zeroValue5
 t9:=Tryz.underlying9
 a9:=Tryz.isAgg9
 z9:=Tryz.sizeOf9
 v9:=Tryz.zeroValue9}
def Tryz.Sx:Go.Shelf.Ren:=⟨fun|161=>150|231=>169|227=>170|233=>171|235=>172|228=>196|197=>197|151=>198|260=>211|152=>212|137=>74|119=>220|224=>215|225=>214|217=>101|266=>122|n=>n,fun|9=>9|4=>4|3=>3|5=>5|117=>241|116=>240|0=>0|124=>244|105=>265|21=>21|119=>153|46=>167|139=>283|138=>282|n=>n,fun|3=>4|4=>5|n=>n⟩
theorem Tryz.nE:Go.Proofs.Lays.n161 Tryz.prog Tryz.Sx:={
 mixed:=by kernel_rfl
 f119:=Tryz.func220.trans (congrArg some (by kernel_rfl))
 f137:=Tryz.func74.trans (congrArg some (by kernel_rfl))
 f151:=Tryz.func198.trans (congrArg some (by kernel_rfl))
 f152:=Tryz.func212.trans (congrArg some (by kernel_rfl))
 f161:=Tryz.func150.trans (congrArg some (by kernel_rfl))
 f197:=Tryz.func197.trans (congrArg some (by kernel_rfl))
 f217:=Tryz.func101.trans (congrArg some (by kernel_rfl))
 f224:=Tryz.func215.trans (congrArg some (by kernel_rfl))
 f225:=Tryz.func214.trans (congrArg some (by kernel_rfl))
 f227:=Tryz.func170.trans (congrArg some (by kernel_rfl))
 f228:=Tryz.func196.trans (congrArg some (by kernel_rfl))
 f231:=Tryz.func169.trans (congrArg some (by kernel_rfl))
 f233:=Tryz.func171.trans (congrArg some (by kernel_rfl))
 f235:=Tryz.func172.trans (congrArg some (by kernel_rfl))
 f260:=Tryz.func211.trans (congrArg some (by kernel_rfl))
 f266:=Tryz.func122.trans (congrArg some (by kernel_rfl))
 t0:=Tryz.underlying0
 a0:=Tryz.isAgg0
 z0:=Tryz.sizeOf0
 v0:=Tryz.zeroValue0
 t3:=Tryz.underlying3
 a3:=Tryz.isAgg3
 z3:=Tryz.sizeOf3
 v3:=Tryz.zeroValue3
 t4:=Tryz.underlying4
 a4:=Tryz.isAgg4
 z4:=Tryz.sizeOf4
 v4:=Tryz.zeroValue4
 t5:=Tryz.underlying5
 a5:=Tryz.isAgg5
 z5:=Tryz.sizeOf5
 v5:=Tryz.zeroValue5
 t9:=Tryz.underlying9
 a9:=Tryz.isAgg9
 z9:=Tryz.sizeOf9
 v9:=Tryz.zeroValue9
 t21:=Tryz.underlying21
 a21:=Tryz.isAgg21
 z21:=Tryz.sizeOf21
 v21:=Tryz.zeroValue21
 t46:=Tryz.underlying167
 a46:=Tryz.isAgg167
 z46:=Tryz.sizeOf167
 v46:=Tryz.zeroValue167
 t105:=Tryz.underlying265
 a105:=Tryz.isAgg265
 z105:=Tryz.sizeOf265
 v105:=Tryz.zeroValue265
 t116:=Tryz.underlying240
 a116:=Tryz.isAgg240
 z116:=Tryz.sizeOf240
 t117:=Tryz.underlying241
 a117:=Tryz.isAgg241
 z117:=Tryz.sizeOf241
 v117:=Tryz.zeroValue241
 t119:=Tryz.underlying153
 a119:=Tryz.isAgg153
 z119:=Tryz.sizeOf153
 t124:=Tryz.underlying244
 a124:=Tryz.isAgg244
 z124:=Tryz.sizeOf244
 v124:=Tryz.zeroValue244
 t138:=Tryz.underlying282
 a138:=Tryz.isAgg282
 z138:=Tryz.sizeOf282
 v138:=Tryz.zeroValue282
 t139:=Tryz.underlying283
 a139:=Tryz.isAgg283
 z139:=Tryz.sizeOf283
 v139:=Tryz.zeroValue283
 g3:=by kernel_rfl
 g4:=by kernel_rfl}
def Tryz.Sy:Go.Shelf.Ren:=⟨fun|162=>155|232=>173|227=>170|234=>174|236=>175|228=>196|271=>199|151=>198|120=>213|197=>197|152=>212|260=>211|137=>74|119=>220|224=>215|225=>214|217=>101|266=>122|n=>n,fun|9=>9|4=>4|3=>3|5=>5|117=>241|116=>240|0=>0|124=>244|21=>21|105=>265|46=>167|119=>153|139=>283|138=>282|n=>n,fun|3=>4|4=>5|n=>n⟩
theorem Tryz.nF:Go.Proofs.Lays.n162 Tryz.prog Tryz.Sy:={
 mixed:=by kernel_rfl
 f119:=Tryz.func220.trans (congrArg some (by kernel_rfl))
 f120:=Tryz.func213.trans (congrArg some (by kernel_rfl))
 f137:=Tryz.func74.trans (congrArg some (by kernel_rfl))
 f151:=Tryz.func198.trans (congrArg some (by kernel_rfl))
 f152:=Tryz.func212.trans (congrArg some (by kernel_rfl))
 f162:=Tryz.func155.trans (congrArg some (by kernel_rfl))
 f197:=Tryz.func197.trans (congrArg some (by kernel_rfl))
 f217:=Tryz.func101.trans (congrArg some (by kernel_rfl))
 f224:=Tryz.func215.trans (congrArg some (by kernel_rfl))
 f225:=Tryz.func214.trans (congrArg some (by kernel_rfl))
 f227:=Tryz.func170.trans (congrArg some (by kernel_rfl))
 f228:=Tryz.func196.trans (congrArg some (by kernel_rfl))
 f232:=Tryz.func173.trans (congrArg some (by kernel_rfl))
 f234:=Tryz.func174.trans (congrArg some (by kernel_rfl))
 f236:=Tryz.func175.trans (congrArg some (by kernel_rfl))
 f260:=Tryz.func211.trans (congrArg some (by kernel_rfl))
 f266:=Tryz.func122.trans (congrArg some (by kernel_rfl))
 f271:=Tryz.func199.trans (congrArg some (by kernel_rfl))
 t0:=Tryz.underlying0
 a0:=Tryz.isAgg0
 z0:=Tryz.sizeOf0
 v0:=Tryz.zeroValue0
 t3:=Tryz.underlying3
 a3:=Tryz.isAgg3
 z3:=Tryz.sizeOf3
 v3:=Tryz.zeroValue3
 t4:=Tryz.underlying4
 a4:=Tryz.isAgg4
 z4:=Tryz.sizeOf4
 v4:=Tryz.zeroValue4
 t5:=Tryz.underlying5
 a5:=Tryz.isAgg5
 z5:=Tryz.sizeOf5
 v5:=Tryz.zeroValue5
 t9:=Tryz.underlying9
 a9:=Tryz.isAgg9
 z9:=Tryz.sizeOf9
 v9:=Tryz.zeroValue9
 t21:=Tryz.underlying21
 a21:=Tryz.isAgg21
 z21:=Tryz.sizeOf21
 v21:=Tryz.zeroValue21
 t46:=Tryz.underlying167
 a46:=Tryz.isAgg167
 z46:=Tryz.sizeOf167
 v46:=Tryz.zeroValue167
 t105:=Tryz.underlying265
 a105:=Tryz.isAgg265
 z105:=Tryz.sizeOf265
 v105:=Tryz.zeroValue265
 t116:=Tryz.underlying240
 a116:=Tryz.isAgg240
 z116:=Tryz.sizeOf240
 t117:=Tryz.underlying241
 a117:=Tryz.isAgg241
 z117:=Tryz.sizeOf241
 v117:=Tryz.zeroValue241
 t119:=Tryz.underlying153
 a119:=Tryz.isAgg153
 z119:=Tryz.sizeOf153
 t124:=Tryz.underlying244
 a124:=Tryz.isAgg244
 z124:=Tryz.sizeOf244
 v124:=Tryz.zeroValue244
 t138:=Tryz.underlying282
 a138:=Tryz.isAgg282
 z138:=Tryz.sizeOf282
 v138:=Tryz.zeroValue282
 t139:=Tryz.underlying283
 a139:=Tryz.isAgg283
 z139:=Tryz.sizeOf283
 v139:=Tryz.zeroValue283
 g3:=by kernel_rfl
 g4:=by kernel_rfl}
def Tryz.Sz:Go.Shelf.Ren:=⟨fun|160=>151|232=>173|231=>169|227=>170|234=>174|233=>171|236=>175|235=>172|228=>196|271=>199|151=>198|197=>197|120=>213|152=>212|260=>211|137=>74|119=>220|224=>215|225=>214|217=>101|266=>122|n=>n,fun|9=>9|4=>4|3=>3|5=>5|117=>241|116=>240|0=>0|124=>244|21=>21|105=>265|46=>167|119=>153|139=>283|138=>282|n=>n,fun|3=>4|4=>5|n=>n⟩
theorem Tryz.nG:Go.Proofs.Lays.n160 Tryz.prog Tryz.Sz:={
 mixed:=by kernel_rfl
 f119:=Tryz.func220.trans (congrArg some (by kernel_rfl))
 f120:=Tryz.func213.trans (congrArg some (by kernel_rfl))
 f137:=Tryz.func74.trans (congrArg some (by kernel_rfl))
 f151:=Tryz.func198.trans (congrArg some (by kernel_rfl))
 f152:=Tryz.func212.trans (congrArg some (by kernel_rfl))
 f160:=Tryz.func151.trans (congrArg some (by kernel_rfl))
 f197:=Tryz.func197.trans (congrArg some (by kernel_rfl))
 f217:=Tryz.func101.trans (congrArg some (by kernel_rfl))
 f224:=Tryz.func215.trans (congrArg some (by kernel_rfl))
 f225:=Tryz.func214.trans (congrArg some (by kernel_rfl))
 f227:=Tryz.func170.trans (congrArg some (by kernel_rfl))
 f228:=Tryz.func196.trans (congrArg some (by kernel_rfl))
 f231:=Tryz.func169.trans (congrArg some (by kernel_rfl))
 f232:=Tryz.func173.trans (congrArg some (by kernel_rfl))
 f233:=Tryz.func171.trans (congrArg some (by kernel_rfl))
 f234:=Tryz.func174.trans (congrArg some (by kernel_rfl))
 f235:=Tryz.func172.trans (congrArg some (by kernel_rfl))
 f236:=Tryz.func175.trans (congrArg some (by kernel_rfl))
 f260:=Tryz.func211.trans (congrArg some (by kernel_rfl))
 f266:=Tryz.func122.trans (congrArg some (by kernel_rfl))
 f271:=Tryz.func199.trans (congrArg some (by kernel_rfl))
 t0:=Tryz.underlying0
 a0:=Tryz.isAgg0
 z0:=Tryz.sizeOf0
 v0:=Tryz.zeroValue0
 t3:=Tryz.underlying3
 a3:=Tryz.isAgg3
 z3:=Tryz.sizeOf3
 v3:=Tryz.zeroValue3
 t4:=Tryz.underlying4
 a4:=Tryz.isAgg4
 z4:=Tryz.sizeOf4
 v4:=Tryz.zeroValue4
 t5:=Tryz.underlying5
 a5:=Tryz.isAgg5
 z5:=Tryz.sizeOf5
 v5:=Tryz.zeroValue5
 t9:=Tryz.underlying9
 a9:=Tryz.isAgg9
 z9:=Tryz.sizeOf9
 v9:=Tryz.zeroValue9
 t21:=Tryz.underlying21
 a21:=Tryz.isAgg21
 z21:=Tryz.sizeOf21
 v21:=Tryz.zeroValue21
 t46:=Tryz.underlying167
 a46:=Tryz.isAgg167
 z46:=Tryz.sizeOf167
 v46:=Tryz.zeroValue167
 t105:=Tryz.underlying265
 a105:=Tryz.isAgg265
 z105:=Tryz.sizeOf265
 v105:=Tryz.zeroValue265
 t116:=Tryz.underlying240
 a116:=Tryz.isAgg240
 z116:=Tryz.sizeOf240
 t117:=Tryz.underlying241
 a117:=Tryz.isAgg241
 z117:=Tryz.sizeOf241
 v117:=Tryz.zeroValue241
 t119:=Tryz.underlying153
 a119:=Tryz.isAgg153
 z119:=Tryz.sizeOf153
 t124:=Tryz.underlying244
 a124:=Tryz.isAgg244
 z124:=Tryz.sizeOf244
 v124:=Tryz.zeroValue244
 t138:=Tryz.underlying282
 a138:=Tryz.isAgg282
 z138:=Tryz.sizeOf282
 v138:=Tryz.zeroValue282
 t139:=Tryz.underlying283
 a139:=Tryz.isAgg283
 z139:=Tryz.sizeOf283
 v139:=Tryz.zeroValue283
 g3:=by kernel_rfl
 g4:=by kernel_rfl}
def Tryz.Vu:Go.Shelf.Ren:=⟨fun|99=>127|206=>148|n=>n,fun|9=>9|4=>4|3=>3|n=>n,fun|n=>n⟩
theorem Tryz.vY:Go.Proofs.Lays.n99 Tryz.prog Tryz.Vu:={
 mixed:=by kernel_rfl
 f99:=Tryz.func127.trans (congrArg some (by kernel_rfl))
 f206:=Tryz.func148.trans (congrArg some (by kernel_rfl))
 t3:=Tryz.underlying3
 a3:=Tryz.isAgg3
 z3:=Tryz.sizeOf3
 v3:=Tryz.zeroValue3
 t4:=Tryz.underlying4
 a4:=Tryz.isAgg4
 z4:=Tryz.sizeOf4
 v4:=Tryz.zeroValue4
 t9:=Tryz.underlying9
 a9:=Tryz.isAgg9
 z9:=Tryz.sizeOf9
 v9:=Tryz.zeroValue9}
def Tryz.TA:Go.Shelf.Ren:=⟨fun|219=>200|217=>101|225=>214|224=>215|267=>216|266=>122|314=>221|n=>n,fun|9=>9|3=>3|4=>4|5=>5|46=>167|146=>284|51=>188|n=>n,fun|1=>2|n=>n⟩
theorem Tryz.nH:Go.Proofs.Lays.n219 Tryz.prog Tryz.TA:={
 mixed:=by kernel_rfl
 f217:=Tryz.func101.trans (congrArg some (by kernel_rfl))
 f219:=Tryz.func200.trans (congrArg some (by kernel_rfl))
 f224:=Tryz.func215.trans (congrArg some (by kernel_rfl))
 f225:=Tryz.func214.trans (congrArg some (by kernel_rfl))
 f266:=Tryz.func122.trans (congrArg some (by kernel_rfl))
 f267:=Tryz.func216.trans (congrArg some (by kernel_rfl))
 f314:=Tryz.func221.trans (congrArg some (by kernel_rfl))
 t3:=Tryz.underlying3
 a3:=Tryz.isAgg3
 z3:=Tryz.sizeOf3
 v3:=Tryz.zeroValue3
 t4:=Tryz.underlying4
 a4:=Tryz.isAgg4
 z4:=Tryz.sizeOf4
 v4:=Tryz.zeroValue4
 t5:=Tryz.underlying5
 a5:=Tryz.isAgg5
 z5:=Tryz.sizeOf5
 v5:=Tryz.zeroValue5
 t9:=Tryz.underlying9
 a9:=Tryz.isAgg9
 z9:=Tryz.sizeOf9
 v9:=Tryz.zeroValue9
 t46:=Tryz.underlying167
 a46:=Tryz.isAgg167
 z46:=Tryz.sizeOf167
 v46:=Tryz.zeroValue167
 t51:=Tryz.underlying188
 a51:=Tryz.isAgg188
 z51:=Tryz.sizeOf188
 v51:=Tryz.zeroValue188
 t146:=Tryz.underlying284
 a146:=Tryz.isAgg284
 z146:=Tryz.sizeOf284
 v146:=Tryz.zeroValue284
 g1:=by kernel_rfl}
def Tryz.TB:Go.Shelf.Ren:=⟨fun|144=>152|143=>176|219=>200|217=>101|225=>214|224=>215|267=>216|266=>122|314=>221|n=>n,fun|9=>9|4=>4|3=>3|5=>5|46=>167|146=>284|51=>188|n=>n,fun|1=>2|n=>n⟩
theorem Tryz.nI:Go.Proofs.Lays.n144 Tryz.prog Tryz.TB:={
 mixed:=by kernel_rfl
 f143:=Tryz.func176.trans (congrArg some (by kernel_rfl))
 f144:=Tryz.func152.trans (congrArg some (by kernel_rfl))
 f217:=Tryz.func101.trans (congrArg some (by kernel_rfl))
 f219:=Tryz.func200.trans (congrArg some (by kernel_rfl))
 f224:=Tryz.func215.trans (congrArg some (by kernel_rfl))
 f225:=Tryz.func214.trans (congrArg some (by kernel_rfl))
 f266:=Tryz.func122.trans (congrArg some (by kernel_rfl))
 f267:=Tryz.func216.trans (congrArg some (by kernel_rfl))
 f314:=Tryz.func221.trans (congrArg some (by kernel_rfl))
 t3:=Tryz.underlying3
 a3:=Tryz.isAgg3
 z3:=Tryz.sizeOf3
 v3:=Tryz.zeroValue3
 t4:=Tryz.underlying4
 a4:=Tryz.isAgg4
 z4:=Tryz.sizeOf4
 v4:=Tryz.zeroValue4
 t5:=Tryz.underlying5
 a5:=Tryz.isAgg5
 z5:=Tryz.sizeOf5
 v5:=Tryz.zeroValue5
 t9:=Tryz.underlying9
 a9:=Tryz.isAgg9
 z9:=Tryz.sizeOf9
 v9:=Tryz.zeroValue9
 t46:=Tryz.underlying167
 a46:=Tryz.isAgg167
 z46:=Tryz.sizeOf167
 v46:=Tryz.zeroValue167
 t51:=Tryz.underlying188
 a51:=Tryz.isAgg188
 z51:=Tryz.sizeOf188
 v51:=Tryz.zeroValue188
 t146:=Tryz.underlying284
 a146:=Tryz.isAgg284
 z146:=Tryz.sizeOf284
 v146:=Tryz.zeroValue284
 g1:=by kernel_rfl}
def Tryz.Qg:Go.Shelf.Ren:=⟨fun|173=>145|246=>167|283=>192|284=>193|285=>194|286=>195|129=>188|317=>207|318=>208|319=>209|320=>210|337=>218|338=>219|n=>n,fun|2=>2|3=>3|9=>9|4=>4|171=>261|0=>0|53=>255|37=>76|5=>5|173=>263|212=>275|51=>188|20=>20|213=>276|46=>167|232=>286|233=>287|n=>n,fun|17=>3|18=>6|19=>7|n=>n⟩
theorem Tryz.iS:Go.Proofs.LaysM.n173 Tryz.prog Tryz.Qg:={
 mixed:=by kernel_rfl
 f129:=Tryz.func188.trans (congrArg some (by kernel_rfl))
 f173:=Tryz.func145.trans (congrArg some (by kernel_rfl))
 f246:=Tryz.func167.trans (congrArg some (by kernel_rfl))
 f283:=Tryz.func192.trans (congrArg some (by kernel_rfl))
 f284:=Tryz.func193.trans (congrArg some (by kernel_rfl))
 f285:=Tryz.func194.trans (congrArg some (by kernel_rfl))
 f286:=Tryz.func195.trans (congrArg some (by kernel_rfl))
 f317:=Tryz.func207.trans (congrArg some (by kernel_rfl))
 f318:=Tryz.func208.trans (congrArg some (by kernel_rfl))
 f319:=Tryz.func209.trans (congrArg some (by kernel_rfl))
 f320:=Tryz.func210.trans (congrArg some (by kernel_rfl))
 f337:=Tryz.func218.trans (congrArg some (by kernel_rfl))
 f338:=Tryz.func219.trans (congrArg some (by kernel_rfl))
 t0:=Tryz.underlying0
 a0:=Tryz.isAgg0
 z0:=Tryz.sizeOf0
 v0:=Tryz.zeroValue0
 t2:=Tryz.underlying2
 a2:=Tryz.isAgg2
 z2:=Tryz.sizeOf2
 v2:=Tryz.zeroValue2
 t3:=Tryz.underlying3
 a3:=Tryz.isAgg3
 z3:=Tryz.sizeOf3
 v3:=Tryz.zeroValue3
 t4:=Tryz.underlying4
 a4:=Tryz.isAgg4
 z4:=Tryz.sizeOf4
 v4:=Tryz.zeroValue4
 t5:=Tryz.underlying5
 a5:=Tryz.isAgg5
 z5:=Tryz.sizeOf5
 v5:=Tryz.zeroValue5
 t9:=Tryz.underlying9
 a9:=Tryz.isAgg9
 z9:=Tryz.sizeOf9
 v9:=Tryz.zeroValue9
 t20:=Tryz.underlying20
 a20:=Tryz.isAgg20
 z20:=Tryz.sizeOf20
 v20:=Tryz.zeroValue20
 t37:=Tryz.underlying76
 a37:=Tryz.isAgg76
 z37:=Tryz.sizeOf76
 v37:=Tryz.zeroValue76
 t46:=Tryz.underlying167
 a46:=Tryz.isAgg167
 z46:=Tryz.sizeOf167
 v46:=Tryz.zeroValue167
 t51:=Tryz.underlying188
 a51:=Tryz.isAgg188
 z51:=Tryz.sizeOf188
 v51:=Tryz.zeroValue188
 t53:=Tryz.underlying255
 a53:=Tryz.isAgg255
 z53:=Tryz.sizeOf255
 v53:=Tryz.zeroValue255
 t171:=Tryz.underlying261
 a171:=Tryz.isAgg261
 z171:=Tryz.sizeOf261
 v171:=Tryz.zeroValue261
 t173:=Tryz.underlying263
 a173:=Tryz.isAgg263
 z173:=Tryz.sizeOf263
 v173:=Tryz.zeroValue263
 t212:=Tryz.underlying275
 a212:=Tryz.isAgg275
 z212:=Tryz.sizeOf275
 v212:=Tryz.zeroValue275
 t213:=Tryz.underlying276
 a213:=Tryz.isAgg276
 z213:=Tryz.sizeOf276
 t232:=Tryz.underlying286
 a232:=Tryz.isAgg286
 z232:=Tryz.sizeOf286
 v232:=Tryz.zeroValue286
 t233:=Tryz.underlying287
 a233:=Tryz.isAgg287
 z233:=Tryz.sizeOf287
 v233:=Tryz.zeroValue287
 g17:=by kernel_rfl
 g18:=by kernel_rfl
 g19:=by kernel_rfl
 i0:=by kernel_rfl
 i2:=by kernel_rfl
 i3:=by kernel_rfl
 i4:=by kernel_rfl
 i5:=by kernel_rfl
 i9:=by kernel_rfl
 i20:=by kernel_rfl
 i37:=by kernel_rfl
 i46:=by kernel_rfl
 i51:=by kernel_rfl
 i53:=by kernel_rfl
 i171:=by kernel_rfl
 i173:=by kernel_rfl
 i212:=by kernel_rfl
 i232:=by kernel_rfl
 i233:=by kernel_rfl
 m17:=by kernel_rfl
 m18:=by kernel_rfl
 m19:=by kernel_rfl}
open Go.RowKit in
theorem Tryz.strings_IndexByte(s:ByteArray)(c:Int)(w:World):
  Calls Tryz.prog 74 #[.string s,.int .u8 c] w fun e w'=>e= .returned (.int .i64 (Lib.indexByte s.data.toList c.toNat.toUInt8))/\w'=w:=Any.strings_IndexByte Tryz.nD s c w
open Go.RowKit Go.Lib in
theorem Tryz.strings_HasPrefix(s p:ByteArray)(w:World):
  Calls Tryz.prog 127 #[.string s,.string p] w fun e w'=>e= .returned (.bool (Lib.hasPrefix s.data.toList p.data.toList))/\w'=w:=Any.strings_HasPrefix Tryz.vY s p w
open Go.RowKit Go.Lib in
theorem Tryz.stringslite_Index_one(s:ByteArray)(c:UInt8)(w:World):
  Calls Tryz.prog 200 #[.string s,.string ⟨#[c]⟩] w fun e w'=>e= .returned (.int .i64 (Lib.indexByte s.data.toList c))/\w'=w:=Any.stringslite_Index_one Tryz.nH s c w
open Go.RowKit Go.Lib in
theorem Tryz.strings_Contains_one(s:ByteArray)(c:UInt8)(w:World):
  Calls Tryz.prog 152 #[.string s,.string ⟨#[c]⟩] w fun e w'=>e= .returned (.bool (decide (0<=Lib.indexByte s.data.toList c)))/\w'=w:=Any.strings_Contains_one Tryz.nI s c w
open Go.RowKit Go.Sort Go.Lib in
theorem Tryz.strconv_FormatInt_10(n:Int)(h0:-9223372036854775808<=n)(h1:n<=9223372036854775807)(w:World)(vX:Lib.TabIs Tryz.prog w "internal/strconv.uint64pow10" .u64 Lib.pow10Tab):
  Calls Tryz.prog 145 #[.int .i64 n,.int .i64 10] w fun e w'=>e= .returned (.string ⟨(Lib.itoa n).toArray⟩)/\∃k os,w'=grow (w.drewN k) os:=Any.strconv_FormatInt_10 Tryz.iS n h0 h1 w vX
end Go.Proofs
namespace Go.Proofs.YtmaekpnpnjndoaaGreatDoor
set_option maxRecDepth 4000
namespace Tk
open Go.Lib
abbrev By:Type:=List UInt8
def EE (c:UInt8):Prop:=48<=c.toNat/\c.toNat<=57
def Ax (l:By):Prop:=∀c∈l,EE c
def AU:By->Nat
 |[]=>0
 |c::l=>(c.toNat-48)*10^l.length+AU l
theorem Iu:∀(l m:By),AU (l++m)=AU l*10^m.length+AU m
 |[],m=>by simp[AU]
 |c::l,m=>by
  rw[ag];show (c.toNat-48)*10^(l++m).length+AU (l++m)=((c.toNat-48)*10^l.length+AU l)*10^m.length+AU m;rw[Iu l m,ai,Nat.pow_add,cu,Nat.mul_assoc];omega
theorem Ws:∀{l:By},Ax l->AU l<10^l.length
 |[],_=>by simp[AU]
 |c::l,h=>by
  have h1:=Ws fun x hx=>h x (ay _ hx)
  have h2:=h c (ax ..);unfold AU;rw[ar,Nat.pow_succ];have h3:(c.toNat-48)*10^l.length<=9*10^l.length:=Nat.mul_le_mul_right _ (by have:=h2.2;omega);omega
theorem NM {p:UInt8->Bool}{c:UInt8}(hp:p c=false):∀{l:By},c∈l->c∈l.dropWhile p
 |x::l,h=>by
  rw[b7];split
  ·rename_i hx;rcases aw.1 h with rfl|h
   ·rw[hp]at hx;cases hx
   ·exact NM hp h
  ·exact h
theorem ZT {l cs:By}{c:UInt8}(h:c∈l)(hc:cs.contains c=false):c∈trimRightS l cs:=List.mem_reverse.2 (NM hc (List.mem_reverse.2 h))
theorem R6 {l cs:By}{c:UInt8}(h:c∈l)(hc:cs.contains c=false):trimS l cs≠[]:=fun e=>by
 have:c∈trimS l cs:=NM hc (ZT h hc);rw[e]at this;cases this
theorem TQ {p:UInt8->Bool}:∀{l:By},(∀c∈l,p c=true)->l.dropWhile p=[]
 |[],_=>rfl
 |c::l,h=>by
  rw[b7,aD (h c (ax ..))];exact TQ fun x hx=>h x (ay _ hx)
theorem ZU {l cs:By}(h:∀c∈l,cs.contains c=true):trimRightS l cs=[]:=by
 unfold trimRightS;rw[TQ fun c hc=>h c (List.mem_reverse.1 hc)]
 rfl
theorem jF {l cs:By}(h:∀c∈l,cs.contains c=true):trimS l cs=[]:=by
 unfold trimS;rw[ZU h]
 rfl
def Gq:By:=[48,49,50,51,52,53,54,55,56,57]
theorem Xa {c:UInt8}(h:EE c):Gq.contains c=true:=by
 have h1:=h.1;have h2:=h.2;have:c.toNat=48\/c.toNat=49\/c.toNat=50\/c.toNat=51\/c.toNat=52\/c.toNat=53\/c.toNat=54\/c.toNat=55\/c.toNat=56\/c.toNat=57:=by omega
 have k:∀(d:UInt8),c.toNat=d.toNat->c=d:=fun d hd=>bS.1 hd
 rcases this with h|h|h|h|h|h|h|h|h|h
 ·rw[k 48 h];rfl
 ·rw[k 49 h];rfl
 ·rw[k 50 h];rfl
 ·rw[k 51 h];rfl
 ·rw[k 52 h];rfl
 ·rw[k 53 h];rfl
 ·rw[k 54 h];rfl
 ·rw[k 55 h];rfl
 ·rw[k 56 h];rfl
 ·rw[k 57 h];rfl
theorem Dp {l:By}(h:Ax l):trimS l Gq=[]:=jF fun c hc=>Xa (h c hc)
def Eb (P:By):By:=if trimRightS P [48]=[]then [48]else trimRightS P [48]
def ER:By:=[48,48,48,48,48]
theorem Cr {P:By}(h:Ax P)(hl:P.length=4):(Eb P++ER).take 4=P/\trimRightS ((Eb P++ER).drop 4) [48]=[]/\Ax (Eb P)/\1<=(Eb P).length/\(Eb P).length<=4:=by
 obtain ⟨a,b,c,d,rfl⟩:∃a b c d,P=[a,b,c,d]:=by
  match P,hl with
  |[a,b,c,d],_=>exact ⟨a,b,c,d,rfl⟩
 have ha:=h a (by simp);have hb:=h b (by simp);have hc:=h c (by simp);have hd:=h d (by simp);have h0:EE 48:=by unfold EE;decide
 by_cases e1:d=48
 ·subst e1;by_cases e2:c=48
  ·subst e2;by_cases e3:b=48
   ·subst e3;by_cases e4:a=48
    ·subst e4;have:Eb [48,48,48,48]=[48]:=by decide
     rw[this];exact ⟨by decide,by decide,fun x hx=>by rw[av.1 hx];exact h0,by decide,by decide⟩
    ·have:Eb [a,48,48,48]=[a]:=by simp[Eb,trimRightS,List.dropWhile,e4]
     rw[this];exact ⟨rfl,rfl,fun x hx=>by rw[av.1 hx];exact ha,by simp,by simp⟩
   ·have:Eb [a,b,48,48]=[a,b]:=by simp[Eb,trimRightS,List.dropWhile,e3]
    rw[this];refine ⟨rfl,rfl,fun x hx=>?_,by simp,by simp⟩;simp only[aw,aG,bA]at hx;rcases hx with rfl|rfl<;>assumption
  ·have:Eb [a,b,c,48]=[a,b,c]:=by simp[Eb,trimRightS,List.dropWhile,e2]
   rw[this];refine ⟨rfl,rfl,fun x hx=>?_,by simp,by simp⟩;simp only[aw,aG,bA]at hx;rcases hx with rfl|rfl|rfl<;>assumption
 ·have:Eb [a,b,c,d]=[a,b,c,d]:=by simp[Eb,trimRightS,List.dropWhile,e1]
  rw[this];exact ⟨rfl,rfl,h,by simp,by simp⟩
structure Bp (n:Int) (t:By) (W P:By):Prop where
 w:Ax W
 w1:1<=W.length
 w6:W.length<=6
 wv:AU W=n.natAbs/10000
 p:Ax P
 p4:P.length=4
 pv:AU P=n.natAbs%10000
 t:t=(if n<0 then [45]else [])++(W++46::Eb P)
def IU (c:UInt8):Bool:=([0,9,10,12,13,32]:By).contains c
def jy (c:UInt8):Bool:=([40,41,60,62,91,93,123,125,47,37]:By).contains c
def Ae (c:UInt8):Bool:= !IU c&& !jy c
def Ag:By->Bool->Nat
 |[],_=>0
 |c::r,true=>1+Ag r (!(c==13||c==10))
 |c::r,false=>if c=37 then 1+Ag r true else if IU c=true then 1+Ag r false else 0
def Fs:By->Nat
 |[]=>0
 |c::r=>if Ae c=true then 1+Fs r else 0
theorem Iv:∀(l:By) (b:Bool),Ag l b<=l.length
 |[],_=>aB _
 |c::r,true=>by
  have:=Iv r (!(c==13||c==10));simp only[Ag,ar];omega
 |c::r,false=>by
  have h1:=Iv r true;have h2:=Iv r false;simp only[Ag,ar];split
  ·omega
  ·split<;>omega
theorem Ww:∀l:By,Fs l<=l.length
 |[]=>aB _
 |c::r=>by
  have:=Ww r;simp only[Fs,ar];split<;>omega
theorem F6:∀{t r:By},(∀c∈t,Ae c=true)->(∀c,r.head?=some c->Ae c=false)->Fs (t++r)=t.length
 |[],r,_,h=>by
  cases r with
  |nil=>rfl
  |cons c r=>
   have:=h c rfl;simp[Fs,this]
 |c::t,r,h1,h2=>by
  have h:=h1 c (ax ..);rw[ag];unfold Fs;rw[aD h,F6 (fun x hx=>h1 x (ay _ hx)) h2,ar];omega
theorem jG {c:UInt8}{r:By}(h:Ae c=true):Ag (c::r) false=0:=by
 unfold Ae IU jy at h;simp only[aj,bO]at h;unfold Ag;rw[az (fun e=>by subst e;exact absurd h.2 (by decide)),az (by unfold IU;rw[h.1];decide)]
theorem Qk {c:UInt8}(h:EE c):Ae c=true:=by
 have:=Xa h;unfold Gq at this;simp only[List.contains_cons,bI,bX,List.contains_nil,bq,bA]at this;rcases this with rfl|rfl|rfl|rfl|rfl|rfl|rfl|rfl|rfl|rfl<;>rfl
theorem Bp.BY{n:Int}{t W P:By}(h:Bp n t W P):∀c∈t,Ae c=true:=by
 intro c hc;rw[h.t]at hc;have hf:=(Cr h.p h.p4).2.2.1;rcases aS.1 hc with hc|hc
 ·split at hc
  ·rw[av.1 hc];rfl
  ·cases hc
 ·rcases aS.1 hc with hc|hc
  ·exact Qk (h.w c hc)
  ·rcases aw.1 hc with rfl|hc
   ·rfl
   ·exact Qk (hf c hc)
theorem BM (l:By)(c:UInt8):decide (indexByte l c>=0)=l.contains c:=by
 by_cases h:indexByte l c=-1
 ·rw[h];have:l.contains c=false:=by
   rw[<-ck,aY];intro hm;obtain ⟨i,hi⟩:=List.mem_iff_getElem?.1 hm;exact indexByte_none h i hi
  rw[this]
  rfl
 ·have h1:=indexByte_ge l c;obtain ⟨o,ho⟩:∃o:Nat,indexByte l c=o:=⟨(indexByte l c).toNat,by omega⟩
  rw[ho,aI (by omega)];have:=(indexByte_some ho).1
  symm
  rw[aY];exact aA this
end Tk
set_option maxRecDepth 512
namespace Sh
def Ft (l:List UInt8):List Value:=l.map fun b=> .int .u8 (b.toNat:Int)
theorem Ht (l:List UInt8):(Ft l).length=l.length:=by simp[Ft]
theorem UG (l m:List UInt8):Ft (l++m)=Ft l++Ft m:=by simp[Ft]
theorem kB (l:List UInt8):∀v∈Ft l,v.oneCell'=true:=by
 intro v hv;obtain ⟨b,_,rfl⟩:=cl.1 hv
 rfl
theorem kC {l:List UInt8}{i:Nat}{b:UInt8}(h:l[i]?=some b):(Ft l)[i]?=some (.int .u8 (b.toNat:Int)):=by simp[Ft,h]
def BL (w:World)(s:AA)(l:List UInt8):Prop:=Row w s 5 1 (Ft l)
theorem BL.len{w:World}{s:AA}{l:List UInt8}(h:BL w s l):s.len=l.length:=by
 have:=h.1;rw[Ht]at this;omega
theorem BL.nil(w:World):BL w ⟨none,0,0⟩ []:=Row.nil w _ _
theorem BL.AB{F:Nat->Prop}{w w':World}{s:AA}{l:List UInt8}(h:BL w s l)(he:Ext F w w')(hn:∀j,s.own j->¬F j):BL w' s l:=Row.AB h he hn
theorem BL.get{w:World}{s:AA}{l:List UInt8}(h:BL w s l){i:Nat}{b:UInt8}(hi:l[i]?=some b):∃g,s.p=some ⟨g,0,none⟩/\w.cell? ⟨g,i,none⟩=some (.int .u8 (b.toNat:Int)):=Row.cell h (kC hi)
theorem CY:prog.underlying 76=some (.slice 5):=by kernel_rfl
theorem Q8:prog.underlying 5=some (.int .u8):=by kernel_rfl
theorem HB:prog.underlying 9=some .string:=by kernel_rfl
theorem UH:(match prog.info? 5 with
 |some i=>Nat.beq i.size 1&&Nat.beq i.bytes 1&&(match i.zero with
  |some z=>Nat.beq z.cells.size 1
  |none=>false)
 |none=>false)=true:=by kernel_rfl
theorem Xt:∃i z,prog.info? 5=some i/\i.size=1/\i.bytes=1/\i.zero=some z/\z.cells.size=1:=by
 have h:=UH;split at h
 ·rename_i i hi;simp only[aj]at h;obtain ⟨⟨h1,h2⟩,h3⟩:=h;split at h3
  ·rename_i z hz;exact ⟨i,z,hi,b8 h1,b8 h2,hz,b8 h3⟩
  ·cases h3
 ·cases h
section
variable {w:World} {s:AA} {ty:TypeId} {l news:List UInt8} {x:Value}
def LZ (w:World)(s:AA)(l:List UInt8)(r:Sem Value):Prop:=
 ∃s' w',BA prog r w (AA.v s') w'/\BL w' s' l/\Ext s.own w w'/\∀j,s'.own j->s.own j\/w.heap.size<=j
theorem kD {u:TypeId}(hu:(∃e',prog.underlying u=some (.slice e'))\/prog.underlying u=some .string)
  (hlen:Builtin.lenOf x=pure news.length) (Fv:∀w':World,w'.heap=w.heap->(Builtin.firstCells 1 news.length x).run prog w'= .ok (Ft news).toArray w')
  (own:BL w s l) (hb:l.length+news.length<=1099511627776):LZ w s (l++news) (Builtin.append_ #[76,u] ty #[AA.v s,x]):=by
 obtain ⟨i,z,hi,h1,h2,hz,xz⟩:=Xt;have qW:=own.len;obtain ⟨s',w',hr,ho,_,he,hf⟩:=LW (P:=prog) (w:=w) (s:=s) (t:=76) (u:=u) (ty:=ty) (e:=5) (i:=i) (z:=z) (xs:=Ft l) (news:=Ft news) (x:=x) (m:=news.length)
  CY hu hi hz (by rw[xz,h1]) hlen (by rw[h1];exact Fv) (by rw[Ht,h1,bU]) (kB news) (by rw[h1];exact own) (by rw[h2,qW];omega) (by rw[qW];omega)
 exact ⟨s',w',hr,by unfold BL;rw[UG,<-h1];exact ho,he,hf⟩
theorem V6 {s2:AA}{m:List UInt8}(own:BL w s l)(h2:BL w s2 m)(hb:l.length+m.length<=1099511627776):LZ w s (l++m) (Builtin.append_ #[76,76] ty #[AA.v s,AA.v s2]):=by
 refine kD (.inl ⟨_,CY⟩) (by rw[<-h2.len];rfl) (fun w' yE=>?_) own hb;rcases h2.2 with rfl|⟨g,cur,hp,hg,hle,Gx,Hr⟩
 ·have:m=[]:=aT (by have:=h2.len;simpa using this.symm);subst this;exact run_firstCells_none (P:=prog) (w:=w') 1 0 0 0
 ·obtain ⟨p,len,cap⟩:=s2;simp only at hp;subst hp;refine run_firstCells_some w' 1 m.length ⟨g,0,none⟩ len cap (Ft m) (by rw[Ht,bU]) fun j v hj=>?_
  obtain ⟨g',Z2,h⟩:=Row.cell h2 hj;cases Z2;simpa[World.cell?,yE]using h
theorem K5 {g:Nat}{b:UInt8}(own:BL w s l)(hg:AO w g #[.int .u8 (b.toNat:Int)] 5)(hb:l.length+1<=1099511627776):
  LZ w s (l++[b]) (Builtin.append_ #[76,76] ty #[AA.v s,AA.v ⟨some ⟨g,0,none⟩,1,1⟩]):=
 V6 own (s2:=⟨some ⟨g,0,none⟩,1,1⟩) (m:=[b]) ⟨rfl,.inr ⟨g,_,rfl,hg,aB _,rfl,rfl⟩⟩ hb
theorem KW (l:List UInt8):strOfNums (l.map fun b=>(b.toNat:Int))=⟨l.toArray⟩:=by
 unfold strOfNums
 congr 1
 simp[Function.comp_def]
theorem CH (h:BL w s l):BA prog (convert 76 9 (AA.v s)) w (.string ⟨l.toArray⟩) w:=by
 rcases h.2 with rfl|⟨g,cur,hp,hg,hle,Gx,Hr⟩
 ·have:l=[]:=aT (by have:=h.len;simpa using this.symm);subst this;exact run_convert_bytes_nil w _ _ CY Q8 0 0 _ HB
 ·obtain ⟨p,len,cap⟩:=s;simp only at hp;subst hp;have:=run_convert_bytes_arg (P:=prog) w 76 5 CY Q8 g 0 len cap (l.map fun b=>(b.toNat:Int)) (by rw[aV];exact h.len.symm) (fun i hi=>by
   have La:i<l.length:=by have:=h.len;simp only at this;omega
   obtain ⟨g',Z2,hc⟩:=h.get (al La);cases Z2;rw[ah,hc];simp[List.getD,La]) 9 HB
  rw[KW]at this;exact this
theorem BL.set(h:BL w s l){i:Nat}(hi:i<l.length)(b:UInt8):∃g,s.p=some ⟨g,0,none⟩/\Q6 w ⟨g,i,none⟩/\BL (w.setCell ⟨g,i,none⟩ (.int .u8 (b.toNat:Int))) s (l.set i b)/\Ext (·=g) w (w.setCell ⟨g,i,none⟩ (.int .u8 (b.toNat:Int))):=by
 rcases h.2 with rfl|⟨g,cur,hp,hg,hle,Gx,Hr⟩
 ·have:=h.len;simp only at this;omega
 ·have hlen:=h.len;have Av:i<cur.size:=by omega
  refine ⟨g,hp,hg.can Av,⟨by rw[Ht,List.length_set,hlen,bU],.inr ⟨g,_,hp,hg.set i _,hle,by simpa using Gx,?_⟩⟩,(Ext.refl (·=g) w).set (.inl rfl) _⟩;rw[Array.toList_setIfInBounds,List.take_set,Hr];simp[Ft,List.map_set]
end
end Sh
namespace Sh
def Fb (P:Program)(w:World):Nat->TypeId->List Value->Nat->Prop
 |0,_,_,_=>False
 |n+1,t,cs,b=>match P.underlying t with
  |some (.int k)=>∃x,cs=[.int k x]/\(Lit.int k x).wf=true
  |some .bool=>∃x,cs=[.bool x]
  |some .string=>∃s:ByteArray,cs=[.string s]/\s.size<=maxLen/\s.size<b
  |some (.slice e)=>∃s:AA,cs=[AA.v s]/\(s=⟨none,0,0⟩\/∃(a:Addr) (bs:List Nat),s.p=some a/\s.len<=s.cap/\s.cap<=maxLen/\bs.length=s.len/\bs.sum<b/\s.len<b/\
    ∀i x,bs[i]?=some x->∃Bq,Bq.length=P.cellsOf e/\(∀j,j<P.cellsOf e->w.cell? (a.add (i*P.cellsOf e+j))=Bq[j]?)/\Fb P w n e Bq x)
  |some (.struct fs)=>cs.length=P.cellsOf t/\∃bs:List Nat,bs.sum<b/\∀(i:Nat) (f:Field),fs[i]?=some f->∃x,bs[i]?=some x/\Fb P w n f.type ((cs.drop f.offset).take (P.cellsOf f.type)) x
  |some (.array _ _)=>False
  |some (.pointer _)=>False
  |_=>True
theorem SU {H:Type}(l:List (DataW H×List MemPlace)):Rows.uptoBulkAll (l.map (·.1))=(l.map fun x=>Rows.uptoBulk x.1).sum:=by
 induction l with
 |nil=>simp[Rows.uptoBulkAll]
 |cons x l ih=>simp only[aC,Rows.uptoBulkAll,bK,ih]
theorem gq {H:Type}(d:DataW H):1<=Rows.uptoBulk d:=by
 cases d with
 |lit l=>cases l<;>simp[Rows.uptoBulk]
 |nil=>simp[Rows.uptoBulk]
 |ptr d=>simp[Rows.uptoBulk]
 |slice elems spare=>simp[Rows.uptoBulk]
 |agg parts=>simp[Rows.uptoBulk]
 |iface t d=>simp[Rows.uptoBulk]
 |map entries=>simp[Rows.uptoBulk]
 |held h=>simp[Rows.uptoBulk]
theorem gr {H:Type}(l:List (DataW H×List MemPlace)):l.length<=(l.map fun x=>Rows.uptoBulk x.1).sum:=by
 induction l with
 |nil=>simp
 |cons x l ih=>have:=gq x.1;simp only[aC,bK,ar];omega
theorem Fb.up{P:Program}{w:World}:∀{n:Nat} {t:TypeId} {cs:List Value} {b:Nat},Fb P w n t cs b->On P w n t cs
 |0,t,cs,b,h=>h.elim
 |n+1,t,cs,b,h=>by
  unfold Fb at h;unfold On;split
  ·rename_i k ht;rw[ht]at h;exact h
  ·rename_i ht;rw[ht]at h;exact h
  ·rename_i ht;rw[ht]at h;obtain ⟨s,h1,h2,_⟩:=h;exact ⟨s,h1,h2⟩
  ·rename_i e ht;rw[ht]at h;obtain ⟨s,h1,h2⟩:=h;refine ⟨s,h1,?_⟩;rcases h2 with h2|⟨a,bs,h2,h3,h4,h5,_,_,h6⟩
   ·exact .inl h2
   ·refine .inr ⟨a,h2,h3,h4,fun i hi=>?_⟩;obtain ⟨Bq,k1,k2,k3⟩:=h6 i bs[i] (al (by omega));exact ⟨Bq,k1,k2,k3.up⟩
  ·rename_i fs ht;rw[ht]at h;obtain ⟨h1,bs,_,h2⟩:=h;refine ⟨h1,fun i f hf=>?_⟩;obtain ⟨x,_,h3⟩:=h2 i f hf;exact h3.up
  ·rename_i ht;rw[ht]at h;exact h.elim
  ·rename_i ht;rw[ht]at h;exact h.elim
  ·trivial
section
variable {P:Program} {w:World} {n b:Nat} {t:TypeId} {cs:List Value}
theorem FK (hu:P.underlying t=some .string)(h:Fb P w n t cs b):∃s:ByteArray,cs=[.string s]/\s.size<=maxLen/\s.size<b:=by
 cases n with
 |zero=>exact h.elim
 |succ n=>unfold Fb at h;rw[hu]at h;exact h
end
theorem HU:∀{bs:List Nat} {i x:Nat},bs[i]?=some x->x<=bs.sum
 |[],i,x,h=>by simp at h
 |y::bs,0,x,h=>by simp at h;subst h;simp
 |y::bs,i+1,x,h=>by
  have:=HU (bs:=bs) (i:=i) (x:=x) (by simpa using h);simp only[bK];omega
end Sh
namespace Sh
theorem AQ.Jl:∀(ts:List DR) (x:AQ ts),(AQ.cells ts x).length=ts.length
 |[],_=>rfl
 |[t],_=>rfl
 |t::u::r,x=>by
  show (_::AQ.cells (u::r) x.2).length=_;rw[ar,AQ.Jl (u::r) x.2]
  rfl
theorem Ab.mk{w:World}{b o:Nat}:∀(ts:List DR) (i:Nat) (x:AQ ts) (K:AQ ts->Prop),(∀j v,(AQ.cells ts x)[j]?=some v->w.cell? ⟨b,o+i+j,none⟩=some v)->K x->Ab w ⟨b,o,none⟩ i ts K
 |[],_,_,_,_,k=>k
 |[t],i,x,K,h,k=>by
  have h0:=h 0 (t.v x) rfl;refine Ld.mk (x:=x) ?_ k;rw[add_lit];exact h0
 |t::u::r,i,x,K,h,k=>by
  have h0:=h 0 (t.v x.1) rfl;refine Ld.mk (x:=x.1) ?_ (Ab.mk (u::r) (i+1) x.2 (fun y=>K (x.1,y)) (fun j v hj=>?_) k)
  ·rw[add_lit];exact h0
  ·have:=h (j+1) v hj;rw[show o+(i+1)+j=o+i+(j+1) by omega];exact this
theorem Am.mk{S:World->Prop}{b o:Nat}:∀(ts:List DR) (i:Nat) (x:AQ ts) (K:AQ ts->Prop),(∀w,S w->∀j v,(AQ.cells ts x)[j]?=some v->w.cell? ⟨b,o+i+j,none⟩=some v)->K x->Am S ⟨b,o,none⟩ i ts K
 |[],_,_,_,_,k=>k
 |[t],i,x,K,h,k=>⟨x,fun w hw=>by rw[add_lit];exact h w hw 0 (t.v x) rfl,k⟩
 |t::u::r,i,x,K,h,k=>⟨x.1,fun w hw=>by rw[add_lit];exact h w hw 0 (t.v x.1) rfl,Am.mk (u::r) (i+1) x.2 (fun y=>K (x.1,y)) (fun w hw j v hj=>by
   have:=h w hw (j+1) v hj;rw[show o+(i+1)+j=o+i+(j+1) by omega];exact this) k⟩
theorem O3 {w:World}{b:Nat}{pre post:List Value}{t:TypeId}{ts:List DR}{x:AQ ts}(h:AO w b (pre++(AQ.cells ts x++post)).toArray t){j:Nat}{v:Value}(hj:(AQ.cells ts x)[j]?=some v):w.cell? ⟨b,pre.length+j,none⟩=some v:=by
 have hl:=(ao.1 hj).1;rw[h.cell,List.getElem?_toArray,bG (by omega),Nat.add_sub_cancel_left,bj hl];exact hj
theorem Ab.AR{w:World}{b o:Nat}{pre post:List Value}{t:TypeId}{ts:List DR}{x:AQ ts}{K:AQ ts->Prop}(h:AO w b (pre++(AQ.cells ts x++post)).toArray t)(ho:pre.length=o)(k:K x):Ab w ⟨b,o,none⟩ 0 ts K:=
 Ab.mk ts 0 x K (fun j v hj=>by rw[<-ho];exact O3 h hj) k
theorem Am.AR{S:World->Prop}{b o:Nat}{pre post:List Value}{t:TypeId}{ts:List DR}{x:AQ ts}{K:AQ ts->Prop}(h:∀w,S w->AO w b (pre++(AQ.cells ts x++post)).toArray t)(ho:pre.length=o)(k:K x):Am S ⟨b,o,none⟩ 0 ts K:=
 Am.mk ts 0 x K (fun w hw j v hj=>by rw[<-ho];exact O3 (h w hw) hj) k
theorem Ak.of{b o:Nat}:∀(ts:List DR) (i:Nat) (x:AQ ts) (w:World) (K:World->Prop),StL b (o+i) (AQ.cells ts x) w K->Ak ⟨b,o,none⟩ i ts x w K
 |[],_,_,_,_,h=>h
 |[t],i,x,w,K,h=>by
  show St w ((⟨b,o,none⟩:Addr).add i) (t.v x) K;rw[add_lit];exact h
 |t::u::r,i,x,w,K,h=>by
  show St w ((⟨b,o,none⟩:Addr).add i) (t.v x.1) fun w'=>Ak ⟨b,o,none⟩ (i+1) (u::r) x.2 w' K
  rw[add_lit];obtain ⟨h1,h2⟩:=h;exact ⟨h1,Ak.of (u::r) (i+1) x.2 _ K h2⟩
theorem Hn.stT{w0 w:World}{L:List (Nat×List Value×TypeId)}{b o:Nat}{t:TypeId}{i:Nat}{pre zs post:List Value}{ts:List DR}{x:AQ ts}{K:World->Prop}(h:Hn w0 w L)(hi:L[i]?=some (b,pre++(zs++post),t))(ho:pre.length=o)(hz:zs.length=ts.length)
  (k:∀w2,Hn w0 w2 (L.set i (b,pre++(AQ.cells ts x++post),t))->K w2):Ak ⟨b,o,none⟩ 0 ts x w K:=
 Ak.of ts 0 x w K (Hn.wa (AQ.cells ts x) zs pre post (o+0) w h hi ho (by rw[AQ.Jl];exact hz) k)
theorem Hn.ldT{w0 w:World}{L:List (Nat×List Value×TypeId)}{b o:Nat}{t:TypeId}{i:Nat}{pre post:List Value}{ts:List DR}{x:AQ ts}{K:AQ ts->Prop}(h:Hn w0 w L)(hi:L[i]?=some (b,pre++(AQ.cells ts x++post),t))(ho:pre.length=o)(k:K x):Ab w ⟨b,o,none⟩ 0 ts K:=
 Ab.AR (h.get i hi) ho k
theorem XS {b:Nat}{t:TypeId}{K:World->Prop}:∀(vs zs pre post:List Value) (o:Nat) (w:World),AO w b (pre++(zs++post)).toArray t->pre.length=o->zs.length=vs.length->(∀w2,AO w2 b (pre++(vs++post)).toArray t->Ext (·=b) w w2->K w2)->StL b o vs w K
 |[],zs,pre,post,o,w,h,ho,hz,k=>by
  have:zs=[]:=aT hz;subst this;exact k w h (Ext.refl _ _)
 |v::vs,[],pre,post,o,w,h,ho,hz,k=>by cases hz
 |v::vs,z::zs,pre,post,o,w,h,ho,hz,k=>by
  refine ⟨h.can (by rw[cB,<-ho];simp),?_⟩;have h2:=h.set o v;have e:(pre++(z::zs++post)).set o v=(pre++[v])++(zs++post):=by
   rw[<-ho,ag,Z7];simp
  rw[af,e]at h2;refine XS vs zs (pre++[v]) post (o+1) _ h2 (by simp[ho]) (by simpa using hz) fun w3 h3 e3=>k w3 (by simpa using h3) (((Ext.refl (·=b) w).set (.inl rfl) v).tr e3)
theorem Ak.AR{w:World}{b o:Nat}{t:TypeId}{pre zs post:List Value}{ts:List DR}{x:AQ ts}{K:World->Prop}(h:AO w b (pre++(zs++post)).toArray t)(ho:pre.length=o)(hz:zs.length=ts.length)
  (k:∀w2,AO w2 b (pre++(AQ.cells ts x++post)).toArray t->Ext (·=b) w w2->K w2):Ak ⟨b,o,none⟩ 0 ts x w K:=
 Ak.of ts 0 x w K (XS (AQ.cells ts x) zs pre post (o+0) w h ho (by rw[AQ.Jl];exact hz) k)
end Sh
set_option maxRecDepth 4000
set_option maxHeartbeats 2000000
namespace Sh
theorem Br.t{b:Bool}{A B:Prop}(h:b=true)(h1:A):Br b A B:=by rw[h];exact h1
theorem Br.f{b:Bool}{A B:Prop}(h:b=false)(h1:B):Br b A B:=by rw[h];exact h1
theorem WV (a b:ByteArray):(a.toList==b.toList)=decide (a.data.toList=b.data.toList):=by
 rw[ByteArray.toList_eq,ByteArray.toList_eq];by_cases h:a.data.toList=b.data.toList
 ·rw[aI h];simpa using h
 ·rw[aH h];simpa using h
theorem WW {α:Type}{f:α->List Value}{k:Nat}(hk:∀x,(f x).length=k):∀(L:List α) (i j:Nat) (x:α),L[i]?=some x->j<k->(L.flatMap f)[i*k+j]?=(f x)[j]?
 |[],i,j,x,h,_=>by simp at h
 |y::L,0,j,x,h,hj=>by
  simp at h;subst h;rw[bB,Nat.zero_mul,ah,bj (by rw[hk];exact hj)]
 |y::L,i+1,j,x,h,hj=>by
  rw[bB,bG (by rw[hk,cu];omega),hk,show (i+1)*k+j-k=i*k+j by rw[cu];omega];exact WW hk L i j x (by simpa using h) hj
theorem BP {α:Type}{f:α->List Value}{k:Nat}(hk:∀x,(f x).length=k):∀L:List α,(L.flatMap f).length=L.length*k
 |[]=>by simp
 |y::L=>by rw[bB,ai,hk,BP hk L,ar,cu];omega
theorem U0 {α:Type}{f:α->List Value}{k:Nat}(hk:∀x,(f x).length=k)(h0:0<k){L:List α}{j:Nat}(hj:j<L.length*k):∃x,L[j/k]?=some x/\(L.flatMap f)[j]?=(f x)[j%k]?:=by
 have hi:j/k<L.length:=(Nat.div_lt_iff_lt_mul h0).2 hj;refine ⟨L[j/k],al hi,?_⟩;have:=WW hk L (j/k) (j%k) _ (al hi) (Nat.mod_lt _ h0);rw[Nat.mul_comm,Nat.div_add_mod]at this;exact this
theorem Bb.make{w:World}{s:AA}{α:Type}{f:α->List Value}{k:Nat}{L:List α}(hk:∀x,(f x).length=k)(h0:0<k)(hl:s.len=L.length)(h:∀(i:Nat) (x:α),L[i]?=some x->∃a,s.p=some a/\∀j,j<k->w.cell? (a.add (i*k+j))=(f x)[j]?):Bb w s k (L.flatMap f):=by
 refine ⟨by rw[BP hk,hl],fun j v hj=>?_⟩;have Av:j<L.length*k:=by rw[<-BP hk];exact (ao.1 hj).1
 obtain ⟨x,hx,e⟩:=U0 hk h0 Av;obtain ⟨a,ha,hc⟩:=h _ x hx;refine ⟨a,ha,?_⟩;have:=hc (j%k) (Nat.mod_lt _ h0);rw[show j/k*k+j%k=j by rw[Nat.mul_comm];exact Nat.div_add_mod j k]at this;rw[this,<-e,hj]
theorem Z4 {w:World}{b:Nat}{cs Bq:Array Value}{t t':TypeId}(h:AO w b cs t)(k:AO w b Bq t'):t=t':=by
 unfold AO at h k;rw[h]at k;cases k
 rfl
theorem EC (w:World)(b:Nat)(s:ByteArray)(p:Nat):Ext (·=b) w (U1 w b s p):=
 ⟨rfl,rfl,rfl,by simp[U1],fun k hk hn=>by
  unfold U1;simp only;rw[cd];rw[az fun e=>hn e.symm]⟩
theorem F2 {w:World}{b:Nat}{s:ByteArray}{p:Nat}(h:b<w.heap.size):(U1 w b s p).heap[b]?=some (.stringIter s p):=by
 unfold U1;simp[cd,h]
end Sh
end Go.Proofs.YtmaekpnpnjndoaaGreatDoor
set_option maxRecDepth 8000
set_option maxHeartbeats 4000000
namespace Go.Proofs
open Go.Shelf Go.RowKit
theorem Tryz.ACy(s cut:ByteArray)(w:World)(N9:cut.size<4294967281)(Hi:∀(j:Nat) b,cut.data.toList[j]?=some b->b.toNat<128):
  Calls Tryz.prog 150 #[.string s,.string cut] w fun e w'=>e= .returned (.string ⟨(Lib.trimLeftS s.data.toList cut.data.toList).toArray⟩)/\Below w.heap.size w w':=Any.strings_TrimLeft_laid Tryz.nE (by kernel_rfl) s cut w N9 Hi
theorem Tryz.ACz(s cut:ByteArray)(w:World)(hs:s.size<=9223372036854775807)(N9:cut.size<4294967281)(Hi:∀(j:Nat) b,cut.data.toList[j]?=some b->b.toNat<128):
  Calls Tryz.prog 155 #[.string s,.string cut] w fun e w'=>e= .returned (.string ⟨(Lib.trimRightS s.data.toList cut.data.toList).toArray⟩)/\Below w.heap.size w w':=Any.strings_TrimRight_laid Tryz.nF (by kernel_rfl) s cut w hs N9 Hi
theorem Tryz.trimB(s cut:ByteArray)(w:World)(hs:s.size<=9223372036854775807)(N9:cut.size<4294967281)(Hi:∀(j:Nat) b,cut.data.toList[j]?=some b->b.toNat<128):
  Calls Tryz.prog 151 #[.string s,.string cut] w fun e w'=>e= .returned (.string ⟨(Lib.trimS s.data.toList cut.data.toList).toArray⟩)/\Below w.heap.size w w':=Any.strings_Trim_laid Tryz.nG (by kernel_rfl) s cut w hs N9 Hi
end Go.Proofs
namespace Go.Proofs.YtmaekpnpnjndoaaGreatDoor
namespace Tk
open Sh Fix Go.Lib
abbrev bl (s:ByteArray):By:=s.data.toList
abbrev ba (l:By):ByteArray:=⟨l.toArray⟩
theorem BB (l:By):bl (ba l)=l:=by simp[bl,ba]
theorem KI (s:ByteArray):ba (bl s)=s:=by simp[bl,ba]
theorem AE (s:ByteArray):(bl s).length=s.size:=bL
theorem DJ (a b:ByteArray):bl (a++b)=bl a++bl b:=by simp[bl]
theorem A5 (s:ByteArray)(a b:Nat):bl (s.extract a b)=((bl s).drop a).take (b-a):=by
 show (s.extract a b).data.toList=_;rw[ByteArray.data_extract,Array.toList_extract]
theorem Ci {a b:ByteArray}(h:bl a=bl b):a=b:=by rw[<-KI a,h,KI]
theorem FY {w w':World}(h:Go.RowKit.Below w.heap.size w w'):Ext (fun _=>False) w w':=⟨h.os,h.tape,h.output,h.size,fun k hk _=>h.block k hk⟩
section
variable {w w' w1:World} {s t:ByteArray}
attribute [local irreducible] Ld Sh.St Nw Nn Lt AP
theorem IS (s:ByteArray)(hs:s.size<=1099511627776)(w:World):qc s (⟨#[48,49,50,51,52,53,54,55,56,57]⟩:cI) w fun r w1=>bl r=trimS (bl s) Gq/\Ext (fun _=>False) w w1:=
 (Tryz.trimB s _ w (by omega) (by decide) (ascii_of_all (by decide))).mono fun e w' h=>⟨_,h.1,by rw[BB];rfl,FY h.2⟩
theorem LH (s:ByteArray)(hs:s.size<=1099511627776)(w:World):kH s (⟨#[48]⟩:cI) w fun r w1=>bl r=trimRightS (bl s) [48]/\Ext (fun _=>False) w w1:=
 (Tryz.ACz s _ w (by omega) (by decide) (ascii_of_all (by decide))).mono fun e w' h=>⟨_,h.1,by rw[BB],FY h.2⟩
theorem R8 (s p:ByteArray)(w:World):kJ s p w fun r w1=>r=hasPrefix (bl s) (bl p)/\w1=w:=
 (Tryz.strings_HasPrefix s p w).mono fun e w' h=>⟨_,h.1,rfl,h.2⟩
theorem AC0 (s:ByteArray)(c:UInt8)(w:World):yI s (⟨#[c]⟩:cI) w fun r w1=>r=indexByte (bl s) c/\w1=w:=
 (Tryz.stringslite_Index_one s c w).mono fun e w' h=>⟨_,h.1,rfl,h.2⟩
theorem AOY (m:Nat):Int.tmod (m:Int) 10=((m%10:Nat):Int):=by rw[cz (by omega)];omega
theorem AOZ (m:Nat):Int.tdiv (m:Int) 10=((m/10:Nat):Int):=by rw[cx (by omega)];omega
theorem Xb {n least k:Nat}(h1:1<=least)(mN:least<=k)(hk:k<=10)(hn:n<10^k)(w:World):
  Xu (n:Int) (least:Int) w fun r w1=>(Ax (bl r)/\AU (bl r)=n/\least<=(bl r).length/\(bl r).length<=k)/\Ext (fun _=>False) w w1:=by
 refine AEc _ _ _ _ ?_;unfold yK;have hb:n<10000000000:=Nat.lt_of_lt_of_le hn (bC (Nat.pow_le_pow_right (by decide) hk) (by decide));refine ⟨fun c st v=>∃(m:Nat) (l:By),st=((m:Int),ba l)/\Ax l/\n=m*10^l.length+AU l/\l.length<=k/\c=k-l.length/\Ext (fun _=>False) w v,k,⟨n,[],rfl,(fun c hc=>by cases hc),by simp[AU],by simp,by simp,Ext.refl _ _⟩,?_⟩;rintro c st v ⟨m,l,rfl,hd,he,hl,rfl,ev⟩;unfold cO;dsimp only;have hmn:m<=n:=by
  have:m*1<=m*10^l.length:=Nat.mul_le_mul_left m (Nat.pow_pos (by decide));omega
 have hdg:EE (UInt8.ofNat (48+m%10)):=by
  unfold EE;rw[bR];omega
 have jH:IntKind.u8.wrap (IntKind.i64.wrap (48+Int.tmod (m:Int) 10))=(((UInt8.ofNat (48+m%10)).toNat:Nat):Int):=by
  rw[AOY,AG (by omega),G0 (by omega),bR];omega
 have hq:IntKind.i64.wrap (Int.tdiv (m:Int) 10)=((m/10:Nat):Int):=by rw[AOZ,AG (by omega)]
 rw[jH,hq];have Gx:(ba l).size=l.length:=by rw[<-AE,BB]
 have step:l.length<k->∀(v':World),v'=v.alloc (.cells #[.int .u8 (((UInt8.ofNat (48+m%10)).toNat:Nat):Int)] 5)->
   Rn Tryz.prog (convert 76 9 (AA.v ((⟨some ⟨v.heap.size,0,none⟩,1,1⟩:AA)))) v' Value.string fun (x7:ByteArray) vw8=>
    (((x7).size+(ba l).size:Nat):Int)<=IntKind.i64.max/\∃m',m'<k-l.length/\∃(m2:Nat) (l2:By),(((m/10:Nat):Int),x7++ba l)=((m2:Int),ba l2)/\Ax l2/\n=m2*10^l2.length+AU l2/\l2.length<=k/\m'=k-l2.length/\Ext (fun _=>False) w vw8:=by
  intro Av v' hv';have hE:Ext (fun _=>False) v v':=by rw[hv'];exact (Ext.refl _ _).alloc _
  have hB:BL v' (⟨some ⟨v.heap.size,0,none⟩,1,1⟩:AA) [UInt8.ofNat (48+m%10)]:=by
   rw[hv'];exact ⟨rfl,.inr ⟨v.heap.size,_,rfl,(Hn.start v|>fun H=>by
    have:Nw v (.cells ([Value.int .u8 (((UInt8.ofNat (48+m%10)).toNat:Nat):Int)]:List Value).toArray 5) fun w2=>AO w2 v.heap.size ([Value.int .u8 (((UInt8.ofNat (48+m%10)).toNat:Nat):Int)]:List Value).toArray 5:=H.nw fun w2 H=>H.get 0 rfl
    unfold Nw at this;exact this),aB _,rfl,rfl⟩⟩
  refine ⟨_,v',CH hB,?_,k-(l.length+1),by omega,m/10,UInt8.ofNat (48+m%10)::l,?_,?_,?_,?_,?_,ev.tr hE⟩
  ·rw[Gx];have:(⟨[UInt8.ofNat (48+m%10)].toArray⟩:cI).size=1:=rfl;rw[this];have:IntKind.i64.max=9223372036854775807:=by decide
   omega
  ·rw[Prod.mk.injEq];refine ⟨rfl,Ci ?_⟩;rw[DJ,BB,BB,BB]
   rfl
  ·intro c hc;rcases aw.1 hc with rfl|hc
   ·exact hdg
   ·exact hd c hc
  ·rw[he];show m*10^l.length+AU l=m/10*10^(UInt8.ofNat (48+m%10)::l).length+(((UInt8.ofNat (48+m%10)).toNat-48)*10^l.length+AU l);rw[bR,ar,Nat.pow_succ];have e1:(48+m%10)%2^8-48=m%10:=by omega
   rw[e1];have e2:m/10*10+m%10=m:=by omega
   have key:∀a r p v:Nat,(a*10+r)*p+v=a*(p*10)+(r*p+v):=fun a r p v=>by
    rw[cu,Nat.mul_assoc,Nat.mul_comm 10 p];omega
   have:=key (m/10) (m%10) (10^l.length) (AU l);rw[e2]at this;exact this
  ·rw[ar];omega
  ·rw[ar]
 rw[Gx];refine Br.dec (fun q=>?_) fun q=>Br.dec (fun q2=>?_) fun q2=>?_
 ·refine Nw.of (step ?_ _ rfl);have h0:1<=m:=by omega
  have h2:10^l.length<=n:=by
   have:1*10^l.length<=m*10^l.length:=Nat.mul_le_mul_right _ h0;omega
  rcases cn l.length k with h|h
  ·exact h
  ·have:=Nat.pow_le_pow_right (show 0<10 by decide) h;omega
 ·exact Nw.of (step (by omega) _ rfl)
 ·have h0:m=0:=by omega
  subst h0;rw[BB];exact ⟨⟨hd,by omega,by omega,hl⟩,ev⟩
theorem nT {n:Int}{k:Nat}(SC:1<=k)(hk6:k<=6)(h:Dc n=true)(lt1:n.natAbs/10000<10^k)(w:World):kI n w fun r w1=>(∃W P,Bp n (bl r) W P/\W.length<=k)/\Ext (fun _=>False) w w1:=by
 refine AEd _ _ _ ?_;unfold yL;refine (RA n w).mono ?_;rintro r w1 ⟨rfl,rfl⟩;rw[h];have hw:=A2.1 h;have mx:IntKind.i64.max=9223372036854775807:=by decide
 have z0:(⟨#[]⟩:cI).size=0:=rfl;have z5:(⟨#[45]⟩:cI).size=1:=rfl;have z6:(⟨#[46]⟩:cI).size=1:=rfl;have z8:(⟨#[48]⟩:cI).size=1:=rfl;refine Br.f rfl ?_;have d1:∀a:Nat,Int.tdiv (a:Int) 10000=((a/10000:Nat):Int):=fun a=>by rw[cx (by omega)];omega
 have d2:∀a:Nat,Int.tmod (a:Int) 10000=((a%10000:Nat):Int):=fun a=>by rw[cz (by omega)];omega
 have lt2:n.natAbs%10000<10^4:=by show _<10000;omega
 have emp:∀(r:ByteArray),(r.toList==(⟨#[]⟩:cI).toList)=decide (bl r=[]):=fun r=>WV r _
 have fin:∀{W P T:ByteArray} {sg:ByteArray},(Ax (bl W)/\AU (bl W)=n.natAbs/10000/\1<=(bl W).length/\(bl W).length<=k)->(Ax (bl P)/\AU (bl P)=n.natAbs%10000/\4<=(bl P).length/\(bl P).length<=4)->bl T=Eb (bl P)->bl sg=(if n<0 then [45]else [])->
   ∃W' P',Bp n (bl (((sg++W)++(⟨#[46]⟩:cI))++T)) W' P'/\W'.length<=k:=fun h1 h2 h3 h4=>⟨_,_,⟨h1.1,h1.2.2.1,by omega,h1.2.1,h2.1,by omega,h2.2.1,by rw[DJ,DJ,DJ,h3,h4];simp;rfl⟩,h1.2.2.2⟩
 refine Br.dec (fun HV=>?_) fun Y2=>?_
 ·have hn:IntKind.i64.wrap (0-n)=((n.natAbs:Nat):Int):=by rw[AG (by omega)];omega
  rw[hn,d1,d2,AG (n:=((n.natAbs/10000:Nat):Int)) (by omega)];refine (Xb (least:=1) (k:=k) (by decide) SC (by omega) lt1 w1).mono ?_;rintro W w2 ⟨hW,e2⟩;refine (Xb (least:=4) (k:=4) (by decide) (by decide) (by decide) lt2 w2).mono ?_;rintro P w3 ⟨hP,e3⟩;have pl:P.size=4:=by rw[<-AE];omega
  have wl:W.size<=6:=by rw[<-AE];omega
  refine (LH P (by omega) w3).mono ?_;rintro T w4 ⟨hT,e4⟩;have E:=(e2.tr e3).tr e4;rw[emp];refine Br.dec (fun q=>?_) fun q=>?_
  ·refine ⟨by simp;omega,by simp;omega,by simp;omega,fin hW hP ?_ (by rw[aD HV]),E⟩;unfold Eb;rw[<-hT,aD q]
  ·have pd:bl T=Eb (bl P):=by unfold Eb;rw[<-hT,az q]
   have tl:T.size<=4:=by rw[<-AE,pd];exact (Cr hP.1 (by omega)).2.2.2.2
   exact ⟨by simp;omega,by simp;omega,by simp;omega,fin hW hP pd (by rw[aD HV]),E⟩
 ·have hn:n=((n.natAbs:Nat):Int):=by omega
  have z1:Int.tdiv n 10000=((n.natAbs/10000:Nat):Int):=(aq (fun x=>Int.tdiv x 10000) hn).trans (d1 _);have z2:Int.tmod n 10000=((n.natAbs%10000:Nat):Int):=(aq (fun x=>Int.tmod x 10000) hn).trans (d2 _);rw[z1,z2,AG (n:=((n.natAbs/10000:Nat):Int)) (by omega)];refine (Xb (least:=1) (k:=k) (by decide) SC (by omega) lt1 w1).mono ?_;rintro W w2 ⟨hW,e2⟩;refine (Xb (least:=4) (k:=4) (by decide) (by decide) (by decide) lt2 w2).mono ?_;rintro P w3 ⟨hP,e3⟩;have pl:P.size=4:=by rw[<-AE];omega
  have wl:W.size<=6:=by rw[<-AE];omega
  refine (LH P (by omega) w3).mono ?_;rintro T w4 ⟨hT,e4⟩;have E:=(e2.tr e3).tr e4;rw[emp];refine Br.dec (fun q=>?_) fun q=>?_
  ·refine ⟨by simp;omega,by simp;omega,by simp;omega,fin hW hP ?_ (by rw[az Y2]),E⟩;unfold Eb;rw[<-hT,aD q]
  ·have pd:bl T=Eb (bl P):=by unfold Eb;rw[<-hT,az q]
   have tl:T.size<=4:=by rw[<-AE,pd];exact (Cr hP.1 (by omega)).2.2.2.2
   exact ⟨by simp;omega,by simp;omega,by simp;omega,fin hW hP pd (by rw[az Y2]),E⟩
theorem Vx {n:Int}(h:Dc n=true)(w:World):kI n w fun r w1=>(∃W P,Bp n (bl r) W P)/\Ext (fun _=>False) w w1:=by
 have hw:=A2.1 h;refine (nT (k:=6) (by decide) (by decide) h (by show _<1000000;omega) w).mono ?_;rintro r w1 ⟨⟨W,P,h1,_⟩,e1⟩;exact ⟨⟨W,P,h1⟩,e1⟩
theorem vv (n:Int)(w:World):qe n w fun r e w1=>((e=0/\Dc n=true/\∃W P,Bp n (bl r) W P)\/(e=2/\Dc n=false))/\Ext (fun _=>False) w w1:=by
 refine AEl _ _ _ ?_;unfold yR;refine Br.dec (fun h=>⟨.inr ⟨rfl,Lb.2 (by omega)⟩,Ext.refl _ _⟩) fun h=>Br.dec (fun h2=>⟨.inr ⟨rfl,Lb.2 (by omega)⟩,Ext.refl _ _⟩) fun h2=>?_
 have hw:Dc n=true:=A2.2 (by omega);refine (Vx hw w).mono ?_;rintro r w1 ⟨hr,e1⟩;exact ⟨.inl ⟨rfl,hw,hr⟩,e1⟩
end
end Tk
end Go.Proofs.YtmaekpnpnjndoaaGreatDoor
namespace Go.Proofs.YtmaekpnpnjndoaaGreatDoor
namespace Tk
open Sh Fix Go.Lib
theorem byte_at {t:By}{i:Nat}(h:i<t.length):t[i]?=some (t.getD i 0):=by
 rw[aE,al h]
 rfl
theorem VP {s:ByteArray}{i:Nat}{c:UInt8}(h:(bl s)[i]?=some c)(hb:c.toNat<128):Utf8.decode s i=(c.toNat,1):=by
 obtain ⟨hi,e⟩:=ao.1 h;have hs:i<s.size:=by rw[<-AE];exact hi
 have e:s[i]'hs=c:=by
  rw[<-e]
  rfl
 have:=decode_ascii s i hs (by rw[e];exact hb);rw[this,e]
theorem JT {v:World}{s:ByteArray}{b i:Nat}{T:Int->Int->World->Prop}{N:Prop}(hit:v.heap[b]?=some (.stringIter s i))(Az:∀c∈bl s,c.toNat<128)(hi:i<=s.size)
  (h1:∀c,(bl s)[i]?=some c->T (i:Int) (c.toNat:Int) (U1 v b s (i+1))) (h2:i=s.size->N):Nx v ⟨b,0,none⟩ T N:=by
 refine ⟨s,i,rfl,hit,Br.dec (fun q=>?_) fun q=>h2 (by omega)⟩;have hl:i<(bl s).length:=by rw[AE];exact q
 have hc:=byte_at hl;have:=h1 _ hc;rw[VP hc (Az _ (aA hc))];exact this
theorem Em {x:Int}{c:UInt8}(h0:0<=x)(h1:x<=100000000000000)(hc:EE c):IntKind.i64.wrap ((IntKind.i64.wrap (10*x))+(IntKind.i64.wrap (IntKind.i32.wrap ((c.toNat:Int)-48))))=10*x+((c.toNat-48:Nat):Int):=by
 have h2:=hc.1;have h3:=hc.2;rw[IntWalk.i32_in _ (by omega),AG (n:=10*x) (by omega),AG (n:=(c.toNat:Int)-48) (by omega),AG (by omega)];omega
theorem En {l:By}{i:Nat}{c:UInt8}(h:l[i]?=some c):AU (l.take (i+1))=10*AU (l.take i)+(c.toNat-48):=by
 rw[aQ,h,Iu];show AU (l.take i)*10^1+((c.toNat-48)*10^0+0)=_;omega
theorem BN {l:By}(i:Nat):AU (l.take i)<=AU l:=by
 conv=>rhs;rw[<-bV i l,Iu]
 have:AU (l.take i)*1<=AU (l.take i)*10^(l.drop i).length:=Nat.mul_le_mul_left _ (Nat.pow_pos (by decide));omega
structure RS (w0 v:World) (bn be:Nat) (x e:Int):Prop where
 n:AO v bn #[.int .i64 x] 2
 e:AO v be #[.int .i64 e] 28
 ne:bn≠be
 gn:w0.heap.size<=bn
 ge:w0.heap.size<=be
 ext:Ext (fun _=>False) w0 v
section
variable {w0 v v' w w' w1:World} {s t:ByteArray} {bn be bi:Nat} {x e y:Int}
theorem RS.AB(h:RS w0 v bn be x e)(he:Ext (fun _=>False) v v'):RS w0 v' bn be x e:=⟨he.AR h.n id,he.AR h.e id,h.ne,h.gn,h.ge,h.ext.tr he⟩
theorem Ext.Cg{F:Nat->Prop}{a b c:World}(h:Ext (fun _=>False) a b)(k:Ext F b c)(hF:∀j,F j->a.heap.size<=j):Ext (fun _=>False) a c:=
 h.trans k (fun _ h=>h) fun i hi hh=>absurd hi (by have:=hF i hh;omega)
theorem RS.other(h:RS w0 v bn be x e){b:Nat}(he:Ext (·=b) v v')(h1:bn≠b)(h2:be≠b)(h3:w0.heap.size<=b):RS w0 v' bn be x e:=⟨he.AR h.n h1,he.AR h.e h2,h.ne,h.gn,h.ge,Ext.Cg h.ext he fun j hj=>by have hj:j=b:=hj;omega⟩
attribute [local irreducible] Ld Sh.St Nw Nn Lt AP
theorem RS.Yk(h:RS w0 v bn be x e){K:World->Prop}(y:Int)(k:∀v',RS w0 v' bn be y e->Ext (·=bn) v v'->K v'):Sh.St v ⟨bn,0,none⟩ (.int .i64 y) K:=by
 unfold Sh.St;have hE:Ext (·=bn) v (v.setCell ⟨bn,0,none⟩ (.int .i64 y)):=(Ext.refl (·=bn) v).set (.inl rfl) _;refine ⟨h.n.can (by simp),k _ ⟨?_,hE.AR h.e (fun e=>h.ne e.symm),h.ne,h.gn,h.ge,Ext.Cg h.ext hE fun j hj=>by have hj:j=bn:=hj;have:=h.gn;omega⟩ hE⟩;exact h.n.set 0 _
theorem RS.xZ(h:RS w0 v bn be x e){K:World->Prop}(y:Int)(k:∀v',RS w0 v' bn be x y->Ext (·=be) v v'->K v'):Sh.St v ⟨be,0,none⟩ (.int .i64 y) K:=by
 unfold Sh.St;have hE:Ext (·=be) v (v.setCell ⟨be,0,none⟩ (.int .i64 y)):=(Ext.refl (·=be) v).set (.inl rfl) _;refine ⟨h.e.can (by simp),k _ ⟨hE.AR h.n h.ne,?_,h.ne,h.gn,h.ge,Ext.Cg h.ext hE fun j hj=>by have hj:j=be:=hj;have:=h.ge;omega⟩ hE⟩;exact h.e.set 0 _
theorem LF {F:Nat->Prop}{p:ByteArray×Nat}(h:v.heap[bi]?=some (.stringIter p.1 p.2))(he:Ext F v v')(hF:¬F bi):v'.heap[bi]?=some (.stringIter p.1 p.2):=by
 rw[he.block bi (au.1 h).1 hF];exact h
theorem QA (hs:s.size<=1099511627776)(w:World):kK s w fun r w1=>r=decide (trimS (bl s) Gq=[])/\Ext (fun _=>False) w w1:=by
 refine AEg _ _ _ ?_;unfold yO;refine (IS s hs w).mono ?_;rintro r w1 ⟨hr,e1⟩;refine ⟨?_,e1⟩;rw[WV];show decide (bl r=[])=_;rw[hr]
theorem vx {W F:By}(h:∀c∈W,c≠46):indexByte (W++46::F) 46=(W.length:Int):=by
 induction W with
 |nil=>simp[indexByte]
 |cons c W ih=>
  have h1:=h c (ax ..);have h2:=ih fun x hx=>h x (ay _ hx)
  rw[ag];unfold indexByte;rw[az (by simpa using h1),h2,az (by simp),ar];omega
theorem pK {W F:By}(h:bl s=W++46::F)(hW:∀c∈W,c≠46)(hs:s.size<=1099511627776)(w:World):qZ s (⟨#[46]⟩:cI) w fun r1 r2 r3 w1=>bl r1=W/\bl r2=F/\r3=true/\Ext (fun _=>False) w w1:=by
 refine AEf _ _ _ _ ?_;unfold yN;refine AEe _ _ _ _ ?_;unfold yM;refine (AC0 s 46 w).mono ?_;rintro r w1 ⟨hr,rfl⟩;rw[h,vx hW]at hr;subst hr;have hl:s.size=W.length+1+F.length:=by rw[<-AE,h,ai,ar];omega
 have z:(⟨#[46]⟩:cI).size=1:=rfl;rw[z,AG (by omega)];have t1:((W.length:Int)).toNat=W.length:=by omega
 have t2:((W.length:Int)+((1:Nat):Int)).toNat=W.length+1:=by omega
 rw[t1,t2,aI (show ((W.length:Nat):Int)>=0 by omega)];refine Br.t rfl ⟨by omega,by omega,by omega,by omega,?_,?_,by trivial,(Ext.refl _ _).drew⟩
 ·rw[A5,h];simp
 ·rw[A5,h];have:List.drop (W.length+1) (W++46::F)=F:=by
   rw[List.drop_append];simp
  rw[this];exact bz (by omega)
theorem vy {n:Int}(h:RS w v bn be n 0):Dd (some (⟨bn,0,none⟩:Addr)) (some (⟨be,0,none⟩:Addr)) none v fun v6=>Ld v6 (⟨bn,0,none⟩:Addr) (Value.int .i64) fun (x7:Int)=>Ld v6 (⟨be,0,none⟩:Addr) (Value.int .i64) fun (x8:Int)=>
  x7=n/\x8=0/\Ext (fun _=>False) w v6:=by
 refine PG _ _ _ _ ?_;unfold Hy;exact Ld.of h.n rfl (Ld.of h.e rfl ⟨rfl,rfl,h.ext⟩)
theorem AC1 {n:Int}(hn:Dc n=true){Da:World}(h:RS w v w.heap.size Da.heap.size (n.natAbs:Int) 0):HC w Da (decide (n<0)) (fun r e w1=>r=n/\e=0/\Ext (fun _=>False) w w1) () v:=by
 unfold HC;have hw:=A2.1 hn;have tail:∀(v1:World),RS w v1 w.heap.size Da.heap.size n 0->Ld v1 (⟨w.heap.size,0,none⟩:Addr) (Value.int .i64) fun (RG:Int)=>
   Nw v1 (.cells #[.int .i64 RG] 2) fun fx=>
   nx (⟨some ⟨v1.heap.size,0,none⟩,1,1⟩:AA) fx (fun IT=>
    Ld IT (⟨w.heap.size,0,none⟩:Addr) (Value.int .i64) fun (CR:Int)=>
    Sh.St IT (⟨w.heap.size,0,none⟩:Addr) (.int .i64 CR) fun fy=>
    Sh.St fy (⟨Da.heap.size,0,none⟩:Addr) (.int .i64 0) fun fz=>
    Dd (some (⟨w.heap.size,0,none⟩:Addr)) (some (⟨Da.heap.size,0,none⟩:Addr)) none fz fun MY=>
     Ld MY (⟨w.heap.size,0,none⟩:Addr) (Value.int .i64) fun (IA:Int)=>
     Ld MY (⟨Da.heap.size,0,none⟩:Addr) (Value.int .i64) fun (Fy:Int)=>
     IA=n/\Fy=0/\Ext (fun _=>False) w MY) (OF w Da fun r e w1=>r=n/\e=0/\Ext (fun _=>False) w w1):=by
  intro v1 h1;refine Ld.of h1.n rfl ((Hn.start v1).nw (cs:=[.int .i64 n]) fun v2 H=>?_);have h2:=h1.AB H.ext;refine (GK (l:=[n]) (DQ.of (H.get 0 rfl) rfl fun i hi=>?_) (by simp)).mono (fun w3 h3=>?_) fun v w3 h3=>?_
  ·have:i=0:=by simp at hi;omega
   subst this;rfl
  ·obtain ⟨rfl,_⟩:=h3;refine Ld.of h2.n rfl (h2.Yk n fun v4 h4 _=>h4.xZ 0 fun v5 h5 _=>vy h5)
  ·obtain ⟨_,_,ha⟩:=h3;exact absurd (fun i hi=>by
    have:i=0:=by simp at hi;omega
    subst this;exact hn) ha
 refine Br.dec (fun q=>?_) fun q=>?_
 ·refine Ld.of h.n rfl ?_;rw[AG (n:=0-(n.natAbs:Int)) (by omega),show 0-(n.natAbs:Int)=n by omega];exact h.Yk n fun v1 h1 _=>tail v1 h1
 ·have:((n.natAbs:Nat):Int)=n:=by omega
  rw[this]at h;exact tail v h
end
end Tk
namespace Tk
open Sh Fix Go.Lib
theorem MZ {l:By}(h:Ax l):∀c∈l,c.toNat<128:=fun c hc=>by
 have:=(h c hc).2;omega
theorem vz {l:By}(h:Ax l):∀c∈l,c≠46:=fun c hc e=>by
 have:=(h c hc).1;rw[e]at this;exact absurd this (by decide)
section
variable {w v w1 Da D8 DV:World} {s t Cp:ByteArray} {n:Int} {W P:By}
attribute [local irreducible] Ld Sh.St Nw Nn Lt AP
theorem AC2 (hn:Dc n=true)(hW:AU W=n.natAbs/10000)(hp:Ax P)(Zv:P.length=4)(hpv:AU P=n.natAbs%10000)(hr:bl Cp=Eb P)(h:RS w DV w.heap.size Da.heap.size (AU W:Int) 0)(Gx:w.heap.size<DV.heap.size/\Da.heap.size<DV.heap.size):
  Nw DV (.stringIter ((Cp++(⟨#[48,48,48,48,48]⟩:cI)).extract 0 (((4:Int)).toNat)) 0) fun uI=>
   Lp (σ:=Unit) (Le w Da (decide (n<0)) Cp DV fun r e w1=>r=n/\e=0/\Ext (fun _=>False) w w1) () uI:=by
 obtain ⟨f1,f2,f3,f4,f5⟩:=Cr hp Zv;have hb:bl (Cp++(⟨#[48,48,48,48,48]⟩:cI))=Eb P++ER:=by rw[DJ,hr];rfl
 have hx:bl ((Cp++(⟨#[48,48,48,48,48]⟩:cI)).extract 0 (((4:Int)).toNat))=P:=by
  rw[A5,hb];exact f1
 have VH:(Cp++(⟨#[48,48,48,48,48]⟩:cI)).size=(Eb P).length+5:=by rw[<-AE,hb,ai];rfl
 have mx:IntKind.i64.max=9223372036854775807:=by decide
 generalize hS:(Cp++(⟨#[48,48,48,48,48]⟩:cI)).extract 0 (((4:Int)).toNat)=S at hx;have hS4:S.size=4:=by rw[<-AE,hx,Zv]
 refine Nw.of ?_;have e0:=(Ext.refl (fun _=>False) DV).alloc (.stringIter S 0);refine ⟨fun c st v=>∃i:Nat,v.heap[DV.heap.size]?=some (.stringIter S i)/\i<=4/\c=4-i/\RS w v w.heap.size Da.heap.size ((AU W*10^i+AU (P.take i):Nat):Int) 0,4,⟨0,by unfold World.alloc;simp,by omega,rfl,by simpa[AU]using h.AB e0⟩,?_⟩;rintro c st v ⟨i,hit,hi,rfl,hR⟩;unfold Le;have Qy:DV.heap.size<v.heap.size:=(au.1 hit).1;refine JT hit (by rw[hx];exact MZ hp) (by omega) (fun c hc=>?_) fun JU=>?_
 ·rw[hx]at hc;have hi4:i<4:=by
   have:=(ao.1 hc).1;omega
  have R7:=hp c (aA hc);have e1:=EC v DV.heap.size S (i+1);have VI:=F2 (s:=S) (p:=i+1) Qy;have R1:=hR.other e1 (by omega) (by omega) (by have:=h.ext.size;omega);have hbd:AU W*10^i+AU (P.take i)<=1000000000:=by
   have a1:AU W*10^i<=AU W*10^3:=Nat.mul_le_mul_left _ (Nat.pow_le_pow_right (by decide) (by omega));have a2:=@BN P i;have:=A2.1 hn;omega
  refine Ld.of R1.n rfl ?_;rw[Em (by omega) (by omega) R7];refine Lt.of (R1.Yk _ fun v2 R2 e2=>?_);refine ⟨4-(i+1),by omega,i+1,?_,by omega,rfl,?_⟩
  ·exact LF (p:=(S,i+1)) VI e2 (by show ¬DV.heap.size=w.heap.size;omega)
  ·have ev:(10*((AU W*10^i+AU (P.take i):Nat):Int)+((c.toNat-48:Nat):Int))=((AU W*10^(i+1)+AU (P.take (i+1)):Nat):Int):=by
    rw[En hc,Nat.pow_succ];have:AU W*(10^i*10)=10*(AU W*10^i):=by rw[Nat.mul_comm (10^i),<-Nat.mul_assoc,Nat.mul_comm (AU W),Nat.mul_assoc]
    omega
   rw[ev]at R2;exact R2
 ·have hi4:i=4:=by omega
  subst hi4;rw[bz (by omega)]at hR;have hv:AU W*10^4+AU P=n.natAbs:=by rw[hW,hpv];omega
  rw[hv]at hR;rw[VH];refine ⟨by decide,by omega,Lt.of ?_⟩;refine (LH _ (by
   rw[<-AE,A5,hb,aW,aM,ai];show min _ (_+5-_)<=_;omega) v).mono ?_
  rintro r v1 ⟨N4,e1⟩;have R1:=hR.AB e1;have Nc:bl r=[]:=by
   rw[N4,A5,hb];have:List.take ((Eb P).length+5-Int.toNat 4) (List.drop (Int.toNat 4) (Eb P++ER))=(Eb P++ER).drop 4:=bz (by
    rw[aM,ai];show _+5-4<=_+5-4;omega)
   rw[this];exact f2
  have hre:r=⟨#[]⟩:=Ci Nc;subst hre;have b1:Op.bytesLess ((⟨#[]⟩:cI).toList) ((⟨#[53]⟩:cI).toList)=true:=by rw[ByteArray.toList_eq,ByteArray.toList_eq];decide
  rw[b1];have J:=AC1 hn R1;refine As.intro (BD (fun _=>Lt.of (Br.f rfl ?_)) fun _=>?_)
  ·exact BD (fun _=>Br.f rfl J) fun _=>J
  ·exact BD (fun _=>Br.f rfl J) fun _=>J
theorem AC3 (hn:Dc n=true)(hw:Ax W)(hw6:W.length<=6)(hW:AU W=n.natAbs/10000)(hp:Ax P)(Zv:P.length=4)(hpv:AU P=n.natAbs%10000){FB:ByteArray}(F4:bl FB=W)(hr:bl Cp=Eb P)(h:RS w D8 w.heap.size Da.heap.size 0 0)
  (Gx:w.heap.size<D8.heap.size/\Da.heap.size<D8.heap.size):
  Nw D8 (.stringIter FB 0) fun uL=>Lp (σ:=Unit) (Li w Da (decide (n<0)) Cp D8 fun r e w1=>r=n/\e=0/\Ext (fun _=>False) w w1) () uL:=by
 obtain ⟨f1,f2,f3,f4,f5⟩:=Cr hp Zv;have hs:FB.size=W.length:=by rw[<-AE,F4]
 have LC:Cp.size=(Eb P).length:=by rw[<-AE,hr]
 have mx:IntKind.i64.max=9223372036854775807:=by decide
 have uA:=A2.1 hn;refine Nw.of ?_;have e0:=(Ext.refl (fun _=>False) D8).alloc (.stringIter FB 0);refine ⟨fun c st v=>∃i:Nat,v.heap[D8.heap.size]?=some (.stringIter FB i)/\i<=W.length/\c=W.length-i/\RS w v w.heap.size Da.heap.size ((AU (W.take i):Nat):Int) 0,W.length,⟨0,by unfold World.alloc;simp,by omega,rfl,h.AB e0⟩,?_⟩;rintro c st v ⟨i,hit,hi,rfl,hR⟩;unfold Li;have Qy:D8.heap.size<v.heap.size:=(au.1 hit).1;refine JT hit (by rw[F4];exact MZ hw) (by omega) (fun c hc=>?_) fun JU=>?_
 ·rw[F4]at hc;have hiW:=(ao.1 hc).1;have R7:=hw c (aA hc);have e1:=EC v D8.heap.size FB (i+1);have VI:=F2 (s:=FB) (p:=i+1) Qy;have R1:=hR.other e1 (by omega) (by omega) (by have:=h.ext.size;omega);have a2:=@BN W i;have a3:=@BN W (i+1);refine Ld.of R1.n rfl ?_;rw[Em (by omega) (by omega) R7];have ev:(10*((AU (W.take i):Nat):Int)+((c.toNat-48:Nat):Int))=((AU (W.take (i+1)):Nat):Int):=by
   rw[En hc];omega
  rw[ev];refine Lt.of (R1.Yk _ fun v2 R2 e2=>Ld.of R2.n rfl (Br.dec (fun q=>by omega) fun _=>?_));exact ⟨W.length-(i+1),by omega,i+1,LF (p:=(FB,i+1)) VI e2 (by show ¬D8.heap.size=w.heap.size;omega),by omega,rfl,R2⟩
 ·have hiW:i=W.length:=by omega
  subst hiW;rw[aP]at hR;have VH:(Cp++(⟨#[48,48,48,48,48]⟩:cI)).size=(Eb P).length+5:=by rw[<-AE,DJ,ai,hr];rfl
  rw[VH,LC];have z5:(⟨#[48,48,48,48,48]⟩:cI).size=5:=rfl;rw[z5];exact ⟨by omega,by decide,by omega,AC2 hn hW hp Zv hpv hr hR ⟨by omega,by omega⟩⟩
theorem qM (h:Bp n (bl t) W P)(hn:Dc n=true)(hs:bl s=W++46::Eb P)(hR:RS w v w.heap.size Da.heap.size 0 0)(Gx:w.heap.size<v.heap.size/\Da.heap.size<v.heap.size):
  Lj w Da (decide (n<0)) (fun r e w1=>r=n/\e=0/\Ext (fun _=>False) w w1) s v:=by
 unfold Lj;obtain ⟨f1,f2,f3,f4,f5⟩:=Cr h.p h.p4;have mx:IntKind.i64.max=9223372036854775807:=by decide
 have w6:=h.w6;have w1:=h.w1;have qW:s.size=W.length+1+(Eb P).length:=by rw[<-AE,hs,ai,ar];omega
 refine (pK hs (vz h.w) (by omega) v).mono ?_;rintro FB Cp qf v1 ⟨h1,h2,rfl,e1⟩;have l1:FB.size=W.length:=by rw[<-AE,h1]
 have l2:Cp.size=(Eb P).length:=by rw[<-AE,h2]
 have R1:=hR.AB e1;refine ⟨by rw[l1,l2];omega,?_⟩;rw[WV];refine Br.dec (fun q=>?_) fun _=>?_
 ·have q:bl (FB++Cp)=[]:=q;rw[DJ,h1]at q;have:=aq List.length q;rw[ai,aU]at this;omega
 refine (QA (by rw[l1];omega) v1).mono ?_;rintro r v2 ⟨rfl,e2⟩;rw[h1,aI (Dp h.w)];refine Br.f rfl ((QA (by rw[l2];omega) v2).mono ?_);rintro r v3 ⟨rfl,e3⟩;rw[h2,aI (Dp f3)];have E:=(e1.tr e2).tr e3;have:=E.size;exact Br.f rfl (AC3 hn h.w h.w6 h.wv h.p h.p4 h.pv h1 h2 ((R1.AB e2).AB e3) ⟨by omega,by omega⟩)
theorem wA (h:Bp n (bl t) W P)(hn:Dc n=true)(w:World):kL t w fun r e w1=>r=n/\e=0/\Ext (fun _=>False) w w1:=by
 refine yQ _ _ _ ?_;unfold kN;obtain ⟨f1,f2,f3,f4,f5⟩:=Cr h.p h.p4;have w6:=h.w6;have w1:=h.w1;have ht:=h.t;have hlen:t.size=(if n<0 then 1 else 0)+(W.length+1+(Eb P).length):=by
  rw[<-AE,ht,ai,ai,ar];split<;>simp<;>omega
 have ARj:t.size<=12:=by
  rw[hlen];split<;>omega
 refine (Hn.start w).nw (cs:=[.int .i64 0]) fun w2 H=>?_
 have l12:w.heap.size<w2.heap.size:=H.lt 0 rfl;refine H.nw (cs:=[.int .i64 0]) fun w3 H=>?_
 have xc:w.heap.size<w3.heap.size:=H.lt 0 rfl;have xd:w2.heap.size<w3.heap.size:=H.lt 1 rfl;have R:RS w w3 w.heap.size w2.heap.size 0 0:=⟨H.get 0 rfl,H.get 1 rfl,by omega,by omega,by omega,H.ext⟩
 refine Br.dec (fun q=>by omega) fun _=>?_
 refine (R8 t _ w3).mono ?_;rintro r v1 ⟨rfl,rfl⟩;have hd:∀c∈W.head?,EE c:=fun c hc=>h.w c (List.mem_of_mem_head? hc)
 obtain ⟨c0,W',uz⟩:∃c0 W',W=c0::W':=by
  cases W with
  |nil=>simp at w1
  |cons c0 W'=>exact ⟨c0,W',rfl⟩
 have W8:=h.w c0 (by rw[uz];exact ax ..);have p1:hasPrefix (bl t) (bl (⟨#[45]⟩:cI))=decide (n<0):=by
  rw[ht];show List.isPrefixOf [45] _=_;by_cases HV:n<0
  ·rw[aD HV,aI HV]
   rfl
  ·rw[az HV,aH HV,uz];have:((45:UInt8)==c0)=false:=by
    rw[bf];intro e;rw[<-e]at W8;exact absurd W8.1 (by decide)
   simp[List.isPrefixOf,this]
 rw[p1];refine As.intro (Br.dec (fun HV=>?_) fun Y2=>?_)
 ·rw[aD HV]at hlen ht;refine ⟨by decide,by omega,qM h hn ?_ R ⟨xc,xd⟩⟩;rw[A5,ht];exact bz (by simp;omega)
 ·rw[az Y2]at hlen ht;refine (R8 t _ _).mono ?_;rintro r v1 ⟨rfl,rfl⟩;have p2:hasPrefix (bl t) (bl (⟨#[43]⟩:cI))=false:=by
   rw[ht,uz];show List.isPrefixOf [43] _=_;have:((43:UInt8)==c0)=false:=by
    rw[bf];intro e;rw[<-e]at W8;exact absurd W8.1 (by decide)
   simp[List.isPrefixOf,this]
  rw[p2];exact Br.f rfl (qM h hn ht R ⟨xc,xd⟩)
end
end Tk
end Go.Proofs.YtmaekpnpnjndoaaGreatDoor
namespace Go.Proofs
open Go.Shelf Go.RowKit
end Go.Proofs
namespace Go.Proofs.YtmaekpnpnjndoaaGreatDoor
namespace Tk
open Sh Fix Go.Lib
abbrev TT:Type:=Int×Int×Int×Int×ByteArray
theorem AV {s:ByteArray}{i:Nat}{c:UInt8}(h:(bl s)[i]?=some c):Bf s (i:Int)=(c.toNat:Int):=by
 obtain ⟨hi,e⟩:=ao.1 h;unfold Bf;rw[aF];have hs:i<s.data.size:=by simpa[bl]using hi
 rw[bF,bQ hs];simp only[Option.getD_some];have:s.data[i]=c:=by rw[<-e];rfl
 rw[this]
theorem ES {l:By}{i:Nat}{c:UInt8}(h:l[i]?=some c):l.drop i=c::l.drop (i+1):=by
 obtain ⟨hi,e⟩:=ao.1 h;rw[b5 hi,e]
section
variable {w w' w1:World} {s t:ByteArray}
attribute [local irreducible] Ld Sh.St Nw Nn Lt AP
theorem KG (s:ByteArray)(c:UInt8)(w:World):rV s (c.toNat:Int) w fun r w1=>r=indexByte (bl s) c/\w1=w:=
 (Tryz.strings_IndexByte s (c.toNat:Int) w).mono fun e w' h=>⟨_,h.1,by rw[aF];congr 1;exact bS.1 (by simp[Nat.toUInt8]),h.2⟩
theorem GU (c:UInt8)(w:World):n8 (c.toNat:Int) w fun r w1=>r=IU c/\w1=w:=by
 refine T72 _ _ _ ?_;unfold S72;refine (KG _ c w).mono ?_;rintro r w1 ⟨rfl,rfl⟩;exact ⟨BM _ _,rfl⟩
theorem Xc (c:UInt8)(w:World):C73 (c.toNat:Int) w fun r w1=>r=jy c/\w1=w:=by
 refine T73 _ _ _ ?_;unfold S73;refine (KG _ c w).mono ?_;rintro r w1 ⟨rfl,rfl⟩;exact ⟨BM _ _,rfl⟩
theorem Xd (c:UInt8)(w:World):wj (c.toNat:Int) w fun r w1=>r=Ae c/\w1=w:=by
 refine T50 _ _ _ ?_;unfold S50;refine (GU c w).mono ?_;rintro r w1 ⟨rfl,rfl⟩;unfold Ae;cases IU c with
 |true=>exact Br.f rfl ⟨rfl,rfl⟩
 |false=>
  refine Br.t rfl ((Xc c w1).mono ?_);rintro r w2 ⟨rfl,rfl⟩;exact ⟨by simp,rfl⟩
theorem QL (c:UInt8)(w:World):sX (c.toNat:Int) w fun r w1=>r=(c==13||c==10)/\w1=w:=by
 refine AGk _ _ _ ?_;unfold yy;have e:∀d:UInt8,((c.toNat:Int)==(d.toNat:Int))=(c==d):=fun d=>by
  rw[cg,bX,bX];exact ⟨fun h=>bS.1 (by omega),fun h=>by rw[h]⟩
 have e1:=e 13;have e2:=e 10;rw[show ((13:UInt8).toNat:Int)=13 from rfl]at e1;rw[show ((10:UInt8).toNat:Int)=10 from rfl]at e2;rw[e1,e2];cases c==13 with
 |true=>exact ⟨rfl,rfl⟩
 |false=>exact ⟨by simp,rfl⟩
theorem QR (s:ByteArray){a:Nat}(ha:a<=s.size)(hs:s.size<=1099511627776)(w:World):yj s (a:Int) w fun r w1=>r=((a+Ag ((bl s).drop a) false:Nat):Int)/\w1=w:=by
 refine T81 _ _ _ _ ?_;unfold S81;refine Br.dec (fun h=>by omega) fun _=>Br.dec (fun h=>by omega) fun _=>?_
 refine ⟨fun c st v=>∃(i:Nat) (b:Bool),st=((i:Int),b)/\i<=s.size/\i+Ag ((bl s).drop i) b=a+Ag ((bl s).drop a) false/\c=s.size-i/\v=w,s.size-a,⟨a,false,rfl,ha,rfl,rfl,rfl⟩,?_⟩;rintro c st v ⟨i,b,rfl,hi,he,rfl,rfl⟩;unfold oC;dsimp only;refine Br.dec (fun q=>⟨by omega,by omega,?_⟩) fun q=>?_
 ·have hl:i<(bl s).length:=by rw[AE];omega
  have hc:=byte_at hl;generalize (bl s).getD i 0=c at hc;rw[AV hc];rw[ES hc]at he;rw[AG (n:=(i:Int)+1) (by omega)];have step:∀b',i+1+Ag ((bl s).drop (i+1)) b'=a+Ag ((bl s).drop a) false->∃m',m'<s.size-i/\∃(i2:Nat) (b2:Bool),(((i:Int)+1),b')=((i2:Int),b2)/\i2<=s.size/\i2+Ag ((bl s).drop i2) b2=a+Ag ((bl s).drop a) false/\m'=s.size-i2/\v=v:=fun b' h=>⟨s.size-(i+1),by omega,i+1,b',rfl,by omega,h,rfl,rfl⟩
  cases b with
  |true=>
   refine Br.t rfl ((QL c v).mono ?_);rintro r w1 ⟨rfl,rfl⟩;refine step _ ?_;have he:i+(1+Ag ((bl s).drop (i+1)) (!(c==13||c==10)))=_:=he;omega
  |false=>
   refine Br.f rfl ?_;have he:i+(if c=37 then 1+Ag ((bl s).drop (i+1)) true else if IU c=true then 1+Ag ((bl s).drop (i+1)) false else 0)=_:=he;refine Br.eq (fun h37=>?_) fun h37=>?_
   ·have:c=37:=bS.1 (by show c.toNat=37;omega);rw[aD this]at he;exact step _ (by omega)
   ·rw[az (fun h=>by subst h;exact h37 rfl)]at he;refine (GU c v).mono ?_;rintro r w1 ⟨rfl,rfl⟩;cases hw:IU c with
    |true=>
     rw[hw,aD rfl]at he;exact Br.f rfl (step _ (by omega))
    |false=>
     rw[hw,az (by decide)]at he;exact Br.t rfl ⟨by omega,rfl⟩
 ·have:i=s.size:=by omega
  subst this;rw[List.drop_of_length_le (by rw[AE];exact aB _)]at he;have he:s.size+0=_:=he;exact ⟨by omega,rfl⟩
theorem Et (s p:ByteArray){a:Nat}(ha:a<=s.size)(w:World):dt s p (a:Int) w fun r w1=>r=hasPrefix ((bl s).drop a) (bl p)/\w1=w:=by
 refine AGl _ _ _ _ _ ?_;unfold yz;refine Br.dec (fun _=>Br.dec (fun _=>⟨by omega,by omega,(R8 _ _ w).mono ?_⟩) fun h=>absurd (by omega) h) fun h=>absurd (by omega) h
 rintro r w1 ⟨rfl,rfl⟩;refine ⟨?_,rfl⟩;rw[A5,aF,bz (by rw[aM,AE];exact aB _)]
theorem R9 (s:ByteArray)(x:Int){a:Nat}(ha:a<=s.size)(hs:s.size<=1099511627776)(w:World):kV (s,x) (a:Int) w fun r w1=>r=((a+Fs ((bl s).drop a):Nat):Int)/\Ext (fun _=>False) w w1:=by
 refine AFT (s,x) _ _ _ ?_;unfold yY;refine (Hn.start w).nw (cs:=[.string s,.int .i64 x]) fun w2 H=>?_
 refine ⟨fun c st v=>∃i:Nat,st=(i:Int)/\i<=s.size/\i+Fs ((bl s).drop i)=a+Fs ((bl s).drop a)/\c=s.size-i/\Hn w v [(w.heap.size,[.string s,.int .i64 x],173)],s.size-a,⟨a,rfl,ha,rfl,rfl,H⟩,?_⟩;rintro c st v ⟨i,rfl,hi,he,rfl,H⟩;unfold dP;refine H.ld 0 rfl rfl (Br.dec (fun q=>H.ld 0 rfl rfl ⟨by omega,by omega,?_⟩) fun q=>?_)
 ·have hl:i<(bl s).length:=by rw[AE];omega
  have hc:=byte_at hl;generalize (bl s).getD i 0=c at hc;rw[AV hc];rw[ES hc]at he;have he:i+(if Ae c=true then 1+Fs ((bl s).drop (i+1))else 0)=_:=he;refine (Xd c v).mono ?_;rintro r w1 ⟨rfl,rfl⟩;cases hr:Ae c with
  |true=>
   rw[hr,aD rfl]at he;exact Br.t rfl ⟨s.size-(i+1),by omega,i+1,by rw[AG (by omega)];rfl,by omega,by omega,rfl,H⟩
  |false=>
   rw[hr,az (by decide)]at he;exact Br.f rfl ⟨by omega,H.ext⟩
 ·have:i=s.size:=by omega
  subst this;rw[List.drop_of_length_le (by rw[AE];exact aB _)]at he;have he:s.size+0=_:=he;exact ⟨by omega,H.ext⟩
theorem F5 (s:ByteArray)(w:World):rM s (⟨#[43,45]⟩:cI) w fun r w1=>bl r=trimLeftS (bl s) [43,45]/\Ext (fun _=>False) w w1:=
 (Tryz.ACy s _ w (by decide) (ascii_of_all (by decide))).mono fun e w' h=>⟨_,h.1,by rw[BB],FY h.2⟩
theorem ft (s:ByteArray)(c:UInt8)(w:World):dH s (⟨#[c]⟩:cI) w fun r w1=>r=(bl s).contains c/\w1=w:=
 (Tryz.strings_Contains_one s c w).mono fun e w' h=>⟨_,h.1,BM _ _,h.2⟩
theorem Vz {n:Int}{W P:By}(h:Bp n (bl t) W P)(hn:Dc n=true)(w:World):dI t w fun r w1=>r=2/\Ext (fun _=>False) w w1:=by
 refine re _ _ _ ?_;unfold kg;obtain ⟨f1,f2,f3,f4,f5⟩:=Cr h.p h.p4;have w6:=h.w6;have w1:=h.w1;have ht:=h.t;have h46:(46:UInt8)∈W++46::Eb P:=List.mem_append_right _ (ax ..);have OY:trimLeftS (bl t) [43,45]=W++46::Eb P:=by
  have hd:trimLeftS (W++46::Eb P) [43,45]=W++46::Eb P:=by
   cases W with
   |nil=>simp at w1
   |cons c0 W'=>
    have W8:=h.w c0 (ax ..);unfold trimLeftS;rw[ag,b7,az];have:([43,45]:By).contains c0=false:=by
     rw[<-ck,aY];intro hm;simp only[aw,aG,bA]at hm;rcases hm with rfl|rfl
     ·exact absurd W8.1 (by decide)
     ·exact absurd W8.1 (by decide)
    rw[this];decide
  rw[ht];split
  ·show trimLeftS (45::(W++46::Eb P)) [43,45]=_;unfold trimLeftS at hd⊢;rw[b7,aD (by decide)];exact hd
  ·exact hd
 have hlen:t.size=(if n<0 then 1 else 0)+(W.length+1+(Eb P).length):=by
  rw[<-AE,ht,ai,ai,ar];split<;>simp<;>omega
 refine (F5 t w).mono ?_;rintro r w2 ⟨hr,e2⟩;rw[OY]at hr;have pJ:r.size=W.length+1+(Eb P).length:=by rw[<-AE,hr,ai,ar];omega
 rw[hlen,pJ];refine Br.dec (fun _=>?_) fun q=>absurd (by rw[AG]<;>split<;>omega) q
 rw[WV];have Bg:decide (r.data.toList=(⟨#[]⟩:cI).data.toList)=false:=aH fun q=>by
  have q:bl r=[]:=q;rw[hr]at q;have:=aq List.length q;rw[ai,ar,aU]at this;omega
 rw[Bg];refine Br.t rfl ((IS r (by omega) w2).mono ?_);rintro r6 w3 ⟨h6,e3⟩;rw[WV];have AOb:decide (r6.data.toList=(⟨#[]⟩:cI).data.toList)=false:=aH fun q=>by
  have q:bl r6=[]:=q;rw[h6,hr]at q;exact R6 h46 (by decide) q
 rw[AOb];refine Br.f rfl ((ft t 46 w3).mono ?_);rintro r8 w4 ⟨rfl,rfl⟩;have:(bl t).contains 46=true:=by
  rw[aY,ht];exact List.mem_append_right _ h46
 rw[this];exact ⟨rfl,e2.tr e3⟩
theorem TR {n:Int}{W P T rest:By}{b:Nat}(h:Bp n T W P)(hn:Dc n=true)(hd:(bl s).drop b=T++rest)(hr:∀c,rest.head?=some c->Ae c=false)(hb:b<=s.size)(hs:s.size<=1099511627776)(w:World):
  RQ (s,(b:Int)) w fun r e w1=>r=(2,(b:Int),((b+T.length:Nat):Int),n,⟨#[]⟩)/\e=0/\Ext (fun _=>False) w w1:=by
 refine ri (s,(b:Int)) _ _ ?_;unfold kh;refine (Hn.start w).nw (cs:=[.string s,.int .i64 (b:Int)]) fun w2 H=>?_
 refine H.nw (cs:=[.int .i64 0,.int .i64 0,.int .i64 0,.int .i64 0,.string ⟨#[]⟩]) fun w3 H=>?_
 simp only[ag,ae,add_lit,ah]at H⊢
 iterate 3 refine H.ld 0 rfl rfl ?_
 refine (R9 s _ hb hs w3).mono ?_;rintro r w4 ⟨Wv,e4⟩;rw[hd,F6 h.BY hr]at Wv;subst Wv;have H:=H.AB e4;have hTl:b+T.length<=s.size:=by
  have:=aq List.length hd;rw[aM,ai,AE]at this;omega
 iterate 2 refine H.ld 0 rfl rfl ?_
 have hx:bl (s.extract ((b:Int)).toNat (((b+T.length:Nat):Int)).toNat)=T:=by
  rw[A5,aF,aF,hd,show b+T.length-b=T.length by omega];simp
 refine ⟨by omega,by omega,by omega,by omega,?_⟩;rw[<-hx]at h;refine (Vz h hn w4).mono ?_;rintro r w5 ⟨rfl,e5⟩;have H:=H.AB e5;refine Br.f rfl (Br.t rfl ((wA h hn w5).mono ?_));rintro r e w6 ⟨rfl,rfl,e6⟩;have H:=H.AB e6;refine Br.t rfl (H.ld 0 rfl rfl ?_)
 iterate 5 (refine H.st 1 rfl (by simp) fun _ H=>?_;simp only[aa,ab]at H)
 iterate 5 refine H.ld 1 rfl rfl ?_
 exact ⟨rfl,by trivial,H.ext⟩
end
end Tk
end Go.Proofs.YtmaekpnpnjndoaaGreatDoor
namespace Go.Proofs.YtmaekpnpnjndoaaGreatDoor
namespace Tk
open Sh Fix Go.Lib
theorem Bp.len{n:Int}{T W P:By}(h:Bp n T W P):T.length<=12/\1<=T.length:=by
 have hf:=(Cr h.p h.p4).2.2.2;have w6:=h.w6;rw[h.t,ai,ai,ar];split<;>simp<;>omega
theorem Mn {A B:By}{k:Nat}(h:A.length=k):(A++B).drop k=B:=by
 rw[<-h,List.drop_append];simp
section
variable {w w' w1:World} {s t:ByteArray} {a:Nat}
attribute [local irreducible] Ld Sh.St Nw Nn Lt AP
theorem Me (ha:a<=s.size)(hs:s.size<=1099511627776)(hb:a+Ag ((bl s).drop a) false=s.size)(w:World):Qr s (a:Int) w fun r e w1=>r=(0,(s.size:Int),(s.size:Int),0,⟨#[]⟩)/\e=0/\Ext (fun _=>False) w w1:=by
 refine T80 _ _ _ _ ?_;unfold S80;refine (Hn.start w).nw (cs:=[.int .i64 0,.int .i64 0,.int .i64 0,.int .i64 0,.string ⟨#[]⟩]) fun w2 H=>?_
 refine Br.dec (fun h=>by omega) fun _=>Br.dec (fun h=>by omega) fun _=>(QR s ha hs w2).mono ?_
 rintro r w3 ⟨rfl,rfl⟩;rw[hb];refine H.nw (cs:=[.string ⟨#[]⟩,.int .i64 0]) fun w4 H=>?_
 simp only[ag,ae,add_lit,ah]at H⊢
 iterate 2 (refine H.st 1 rfl (by simp) fun _ H=>?_;simp only[aa,ab]at H)
 refine H.ld 1 rfl rfl (Br.t (by simp) ?_)
 iterate 2 refine H.ld 1 rfl rfl ?_
 iterate 5 (refine H.st 0 rfl (by simp) fun _ H=>?_;simp only[aa,ab]at H)
 iterate 5 refine H.ld 0 rfl rfl ?_
 exact ⟨rfl,by trivial,H.ext⟩
theorem Cj {b:Nat}{c:UInt8}(ha:a<=s.size)(hs:s.size<=1099511627776)(hb:a+Ag ((bl s).drop a) false=b)(hc:(bl s)[b]?=some c)(w:World){R:TT->Int->World->Prop}
  (k:∀(w2 v:World),Hn w v [(w.heap.size,[.int .i64 0,.int .i64 0,.int .i64 0,.int .i64 0,.string ⟨#[]⟩],114),(w2.heap.size,[.string s,.int .i64 (b:Int)],173)]->
   KA w s w2 (hasPrefix ((bl s).drop (b+1)) [c]) (b:Int) R ((c==91)||(c==93)||(c==123)||(c==125)) v):Qr s (a:Int) w R:=by
 refine T80 _ _ _ _ ?_;unfold S80;have Md:b<s.size:=by
  have:=(ao.1 hc).1;rw[AE]at this;exact this
 refine (Hn.start w).nw (cs:=[.int .i64 0,.int .i64 0,.int .i64 0,.int .i64 0,.string ⟨#[]⟩]) fun w2 H=>?_
 refine Br.dec (fun h=>by omega) fun _=>Br.dec (fun h=>by omega) fun _=>(QR s ha hs w2).mono ?_
 rintro r w3 ⟨rfl,rfl⟩;rw[hb];refine H.nw (cs:=[.string ⟨#[]⟩,.int .i64 0]) fun w4 H=>?_
 simp only[ag,ae,add_lit,ah]at H⊢
 iterate 2 (refine H.st 1 rfl (by simp) fun _ H=>?_;simp only[aa,ab]at H)
 refine H.ld 1 rfl rfl (Br.eq (fun h=>by omega) fun _=>?_);have H:=H.drew
 iterate 2 refine H.ld 1 rfl rfl ?_
 rw[AG (n:=(b:Int)+1) (by omega)];have t1:((b:Int)+1).toNat=b+1:=by omega
 rw[t1,aF];refine ⟨by omega,by omega,by omega,by omega,H.ld 1 rfl rfl ?_⟩;rw[AG (n:=(b:Int)+1) (by omega)];refine (Et s (s.extract b (b+1)) (a:=b+1) (by omega) _).mono ?_;rintro r w5 ⟨rfl,rfl⟩;have hx:bl (s.extract b (b+1))=[c]:=by
  rw[A5,ES hc,show b+1-b=1 by omega]
  rfl
 rw[hx];refine H.ld 1 rfl rfl ⟨by omega,by omega,As.intro ?_⟩;rw[AV hc];have e:∀d:UInt8,((c.toNat:Int)==(d.toNat:Int))=(c==d):=fun d=>by
  rw[cg,bX,bX];exact ⟨fun h=>bS.1 (by omega),fun h=>by rw[h]⟩
 have e1:((c.toNat:Int)==91)=(c==91):=e 91;have e2:((c.toNat:Int)==93)=(c==93):=e 93;have e3:((c.toNat:Int)==123)=(c==123):=e 123;have e4:((c.toNat:Int)==125)=(c==125):=e 125;rw[e1,e2,e3,e4];have K:=k _ _ H;cases h1:c==91 with
 |true=>rw[h1]at K;exact Br.t rfl (by simpa using K)
 |false=>
  refine Br.f rfl ?_;cases h2:c==93 with
  |true=>rw[h1,h2]at K;exact Br.t rfl (by simpa using K)
  |false=>
   refine Br.f rfl ?_;cases h3:c==123 with
   |true=>rw[h1,h2,h3]at K;exact Br.t rfl (by simpa using K)
   |false=>
    refine Br.f rfl ?_;rw[h1,h2,h3]at K;simpa using K
theorem Iw {c d:UInt8}(h:c≠d):(c.toNat:Int)≠(d.toNat:Int):=fun e=>h (bS.1 (by omega))
theorem TS {b:Nat}{c:UInt8}{r0:TT}{e0:Int}(ha:a<=s.size)(hs:s.size<=1099511627776)(hb:a+Ag ((bl s).drop a) false=b)(hc:(bl s)[b]?=some c)(hr:Ae c=true)
  (hw:∀v,RQ (s,(b:Int)) v fun r e w1=>r=r0/\e=e0/\Ext (fun _=>False) v w1) (w:World):Qr s (a:Int) w fun r e w1=>r=r0/\e=e0/\Ext (fun _=>False) w w1:=by
 have hd:jy c=false:=by
  unfold Ae at hr;simp only[aj,bO]at hr;exact hr.2
 have hn:∀d∈([40,41,60,62,91,93,123,125,47,37]:By),c≠d:=fun d hm e=>by
  subst e;unfold jy at hd;rw[<-ck,aY]at hd;exact hd hm
 refine Cj ha hs hb hc w fun w2 v H=>?_
 unfold KA;have f:((c==91)||(c==93)||(c==123)||(c==125))=false:=by
  have h1:=hn 91 (by decide);have h2:=hn 93 (by decide);have h3:=hn 123 (by decide);have h4:=hn 125 (by decide);simp[h1,h2,h3,h4]
 rw[f,AV hc];refine Br.f rfl (Br.eq (fun h=>absurd h (Iw (hn 60 (by decide)))) fun _=>Br.eq (fun h=>absurd h (Iw (hn 62 (by decide)))) fun _=>Br.eq (fun h=>absurd h (Iw (hn 47 (by decide)))) fun _=>
  Br.eq (fun h=>absurd h (Iw (hn 40 (by decide)))) fun _=>Br.eq (fun h=>absurd h (Iw (hn 41 (by decide)))) fun _=>?_)
 simp only[add_lit,ah]
 iterate 2 refine H.ld 1 rfl rfl ?_
 refine (hw v).mono ?_;rintro r e w3 ⟨rfl,rfl,e3⟩;have H:=H.AB e3
 iterate 5 (refine H.st 0 rfl (by simp) fun _ H=>?_;simp only[aa,ab]at H)
 iterate 5 refine H.ld 0 rfl rfl ?_
 exact ⟨rfl,rfl,H.ext⟩
end
end Tk
set_option maxRecDepth 512
set_option maxHeartbeats 200000
namespace Sh
theorem SD:∃i,Tryz.prog.info? 5=some i/\i.size=1/\i.bytes=1/\i.zero=some (.int .u8 0):=by
 have h:(match Tryz.prog.info? 5 with
  |some i=>Nat.beq i.size 1&&Nat.beq i.bytes 1&&(match i.zero with
   |some (.int .u8 0)=>true
   |_=>false)
  |none=>false)=true:=by kernel_rfl
 split at h
 ·rename_i i hi;simp only[aj]at h;obtain ⟨⟨h1,h2⟩,h3⟩:=h;split at h3
  ·rename_i hz;exact ⟨i,hi,b8 h1,b8 h2,hz⟩
  ·cases h3
 ·cases h
theorem HW (w:World)(n c:Nat)(hnc:n<=c)(hc:c<=1099511627776):∃r w',BA Tryz.prog (Instr.makeSlice 76 (.int .i64 (n:Int)) (.int .i64 (c:Int))) w (AA.v r) w'/\
  BL w' r (List.replicate n 0)/\Ext (fun _=>False) w w'/\∀j,r.own j->w.heap.size<=j:=by
 obtain ⟨i,hi,h1,h2,hz⟩:=SD;have hr:=run_make (P:=Tryz.prog) w 76 5 i (.int .u8 0) CY hi hz .i64 .i64 n c (by omega) (by omega) (by rw[h2];omega) (by omega);simp only[aF,h1,bU]at hr;refine ⟨⟨some ⟨w.heap.size,0,none⟩,n,c⟩,_,hr,⟨by rw[Ht];simp,.inr ⟨_,_,rfl,AO.new _ _ _,hnc,?_,?_⟩⟩,(Ext.refl _ w).alloc _,?_⟩
 ·rw[size_madeCells,bU]
 ·show List.take (n*1) (madeCells #[.int .u8 0] c).toList=_;rw[toList_madeCells_one,bU,List.take_replicate,Nat.min_eq_left hnc];simp[Ft]
 ·rintro j ⟨a,ha,rfl⟩;cases ha;exact aB _
end Sh
end Go.Proofs.YtmaekpnpnjndoaaGreatDoor
set_option maxRecDepth 512
set_option maxHeartbeats 200000
namespace Go.Proofs
open Go.Shelf
def Tryz.Js:Go.Shelf.Ren:=⟨fun|169=>29|n=>n,fun|70=>75|9=>9|0=>0|72=>78|37=>76|127=>112|3=>3|5=>5|n=>n,fun|n=>n⟩
theorem Tryz.V5:Go.Proofs.Lays.n169 Tryz.prog Tryz.Js:={
 mixed:=by kernel_rfl
 f169:=Tryz.func29.trans (congrArg some (by kernel_rfl))
 t0:=Tryz.underlying0
 a0:=Tryz.isAgg0
 z0:=Tryz.sizeOf0
 v0:=Tryz.zeroValue0
 t3:=Tryz.underlying3
 a3:=Tryz.isAgg3
 z3:=Tryz.sizeOf3
 v3:=Tryz.zeroValue3
 t9:=Tryz.underlying9
 a9:=Tryz.isAgg9
 z9:=Tryz.sizeOf9
 v9:=Tryz.zeroValue9
 t37:=Tryz.underlying76
 a37:=Tryz.isAgg76
 z37:=Tryz.sizeOf76
 v37:=Tryz.zeroValue76
 t70:=Tryz.underlying75
 a70:=Tryz.isAgg75
 z70:=Tryz.sizeOf75
 v70:=Tryz.zeroValue75
 t72:=Tryz.underlying78
 a72:=Tryz.isAgg78
 z72:=Tryz.sizeOf78
 v72:=Tryz.zeroValue78
 t127:=Tryz.underlying112
 a127:=Tryz.isAgg112
 z127:=Tryz.sizeOf112
 v127:=Tryz.zeroValue112}
def Tryz.Jt:Go.Shelf.Ren:=⟨fun|165=>102|240=>49|241=>123|276=>71|277=>144|n=>n,fun|70=>75|3=>3|0=>0|4=>4|9=>9|20=>20|72=>78|37=>76|164=>133|5=>5|n=>n,fun|n=>n⟩
theorem Tryz.kA:Go.Proofs.Lays.n165 Tryz.prog Tryz.Jt:={
 mixed:=by kernel_rfl
 f165:=Tryz.func102.trans (congrArg some (by kernel_rfl))
 f240:=Tryz.func49.trans (congrArg some (by kernel_rfl))
 f241:=Tryz.func123.trans (congrArg some (by kernel_rfl))
 f276:=Tryz.func71.trans (congrArg some (by kernel_rfl))
 f277:=Tryz.func144.trans (congrArg some (by kernel_rfl))
 t0:=Tryz.underlying0
 a0:=Tryz.isAgg0
 z0:=Tryz.sizeOf0
 v0:=Tryz.zeroValue0
 t3:=Tryz.underlying3
 a3:=Tryz.isAgg3
 z3:=Tryz.sizeOf3
 v3:=Tryz.zeroValue3
 t4:=Tryz.underlying4
 a4:=Tryz.isAgg4
 z4:=Tryz.sizeOf4
 v4:=Tryz.zeroValue4
 t9:=Tryz.underlying9
 a9:=Tryz.isAgg9
 z9:=Tryz.sizeOf9
 v9:=Tryz.zeroValue9
 t20:=Tryz.underlying20
 a20:=Tryz.isAgg20
 z20:=Tryz.sizeOf20
 v20:=Tryz.zeroValue20
 t37:=Tryz.underlying76
 a37:=Tryz.isAgg76
 z37:=Tryz.sizeOf76
 v37:=Tryz.zeroValue76
 t70:=Tryz.underlying75
 a70:=Tryz.isAgg75
 z70:=Tryz.sizeOf75
 v70:=Tryz.zeroValue75
 t72:=Tryz.underlying78
 a72:=Tryz.isAgg78
 z72:=Tryz.sizeOf78
 v72:=Tryz.zeroValue78
 t164:=Tryz.underlying133
 a164:=Tryz.isAgg133
 z164:=Tryz.sizeOf133
 v164:=Tryz.zeroValue133}
theorem Tryz.BW:Builder.Extra Tryz.prog Tryz.Js:={
 sizeBuilder:=by kernel_rfl
 liesBuilder:=by kernel_rfl
 t5:=Tryz.underlying5
 a5:=Tryz.isAgg5
 z5:=Tryz.sizeOf5
 v5:=Tryz.zeroValue5
 infoByte:=by kernel_rfl
 cellsByte:=by kernel_rfl
 sizeByte:=by kernel_rfl
 neB5:=by decide}
open Go.RowKit in
theorem Tryz.Builder_String(B b:Nat)(l:List UInt8)(w:World)(h:Lib.IsBuilder 78 5 B b (Lib.byteCells l) w)(h0:l≠[]):
  Calls Tryz.prog 29 #[.pointer (some ⟨b,0,none⟩)] w fun e w'=>e= .returned (.string ⟨l.toArray⟩)/\Below B w w':=Any.Builder_String Tryz.V5 Tryz.BW B b l w h h0
open Go.RowKit in
theorem Tryz.Builder_String_empty(B b:Nat)(w:World)(h:Lib.IsBuilder 78 5 B b [] w)(hBw:B<=w.heap.size):
  Calls Tryz.prog 29 #[.pointer (some ⟨b,0,none⟩)] w fun e w'=>e= .returned (.string ⟨#[]⟩)/\Below B w w':=Any.Builder_String_empty Tryz.V5 Tryz.BW B b w h hBw
theorem Tryz.Hs:Builder.Extra Tryz.prog Tryz.Jt:={
 sizeBuilder:=by kernel_rfl
 liesBuilder:=by kernel_rfl
 t5:=Tryz.underlying5
 a5:=Tryz.isAgg5
 z5:=Tryz.sizeOf5
 v5:=Tryz.zeroValue5
 infoByte:=by kernel_rfl
 cellsByte:=by kernel_rfl
 sizeByte:=by kernel_rfl
 neB5:=by decide}
open Go.RowKit in
theorem Tryz.Builder_Grow_fresh(B b n:Nat)(w:World)(hB:B<=b)(hbk:w.heap[b]?=some (.cells #[.pointer none,.slice none 0 0] 78 (0,0)))(hBw:B<=w.heap.size)(hn:n<=281474976710656):
  Calls Tryz.prog 102 #[.pointer (some ⟨b,0,none⟩),.int .i64 n] w fun e w'=>e= .returned (.tuple #[])/\(Lib.BuilderAt 78 5 B b (.pointer (some ⟨b,0,none⟩)) [] w'/\Below B w w'):=Any.Builder_Grow_fresh Tryz.kA Tryz.Hs B b n w hB hbk hBw hn
end Go.Proofs
namespace Go.Proofs.YtmaekpnpnjndoaaGreatDoor
set_option maxRecDepth 100000
set_option maxHeartbeats 2000000
namespace NR
open Sh
theorem yB:Tryz.f49.ntmps=20:=by kernel_rfl
theorem yC:(prog.info? 78).map (·.size)=some 2:=by kernel_rfl
theorem Xs (b:Nat)(w:World)(h0:w.cell? ⟨b,0,none⟩=some (.pointer (some ⟨b,0,none⟩))):
  Calls prog 49 #[.pointer (some ⟨b,0,none⟩)] w fun e w'=>e= .returned (.tuple #[])/\w'=w:=by
 obtain ⟨j,hj,_⟩:=aX.1 yC;have mixed:prog.follows .mixedOrders=true:=by kernel_rfl
 have t1:=Tryz.underlying78;have a1:=Tryz.isAgg78;have z1:=Tryz.sizeOf78;have v1:=Tryz.zeroValue78;have t2:=Tryz.underlying75;have a2:=Tryz.isAgg75;have z2:=Tryz.sizeOf75;have v2:=Tryz.zeroValue75;have u1:=run_underlying t1;have u2:=run_underlying t2
 go_enter Tryz.func49,yB
 go_wp2
 rw[Lib.run_neq_ptr_same w _ Tryz.underlying75 hj]
 go_wp2
 go_end0
 exact ⟨rfl,rfl⟩
theorem UD (b:Nat)(w:World)(h0:w.cell? ⟨b,0,none⟩=some (.pointer none))(j9:w.shape? b=some (78,2))(hfz:w.frozen? ⟨b,0,none⟩=false):
  Calls prog 49 #[.pointer (some ⟨b,0,none⟩)] w fun e w'=>e= .returned (.tuple #[])/\w'=w.setCell ⟨b,0,none⟩ (.pointer (some ⟨b,0,none⟩)):=by
 obtain ⟨j,hj,UE⟩:=aX.1 yC;have mixed:prog.follows .mixedOrders=true:=by kernel_rfl
 have t1:=Tryz.underlying78;have a1:=Tryz.isAgg78;have z1:=Tryz.sizeOf78;have v1:=Tryz.zeroValue78;have t2:=Tryz.underlying75;have a2:=Tryz.isAgg75;have z2:=Tryz.sizeOf75;have v2:=Tryz.zeroValue75;have t3:=Tryz.underlying133;have a3:=Tryz.isAgg133;have z3:=Tryz.sizeOf133;have v3:=Tryz.zeroValue133;have u1:=run_underlying t1;have u2:=run_underlying t2;have u3:=run_underlying t3
 go_enter Tryz.func49,yB
 go_wp2
 rw[Lib.run_to_unsafe w ⟨b,0,none⟩ t2 t3 hj (by rw[UE];decide) j9 (Nat.zero_lt_succ 1)];simp only[Result.andThen];rw[Oper.upon_value]
 go_wp2
 rw[run_callFunc_extern Tryz.func71 (by kernel_rfl) (by kernel_rfl) (by kernel_rfl) (e:=Extern.AbiNoEscape.same) (by kernel_rfl)];rw[Lib.run_noEscape];simp only[Result.andThen];rw[Oper.upon_value]
 go_wp2
 rw[Lib.run_from_unsafe w ⟨b,0,none⟩ t3 t2 hj j9 (by kernel_rfl)];simp only[Result.andThen];rw[Oper.upon_value]
 go_wp2
 go_end0
 exact ⟨rfl,rfl⟩
end NR
set_option maxRecDepth 4000
namespace NR
open Sh
structure Bu (w0 w:World) (b:Nat) (p:Option Addr) (sl:AA) (l:List UInt8):Prop where
 lo:w0.heap.size<=b
 ptr:p=none\/p=some ⟨b,0,none⟩
 AR:AO w b #[.pointer p,AA.v sl] 78
 row:w.ownsRow w0.heap.size 5 1 (AA.v sl) l.length (Lib.byteCells l)
structure Wr (w0 w w':World):Prop where
 ext:Ext (fun j=>w0.heap.size<=j) w w'
 AB:∀j cs t,t≠78->t≠5->AO w j cs t->AO w' j cs t
 nv:∀(j:Nat) (o:Obj),(∀cs t z,o≠ .cells cs t z)->w.heap[j]?=some o->w'.heap[j]?=some o
theorem Wr.refl(w0 w:World):Wr w0 w w:=⟨Ext.refl _ _,fun _ _ _ _ _ h=>h,fun _ _ _ h=>h⟩
theorem Wr.tr{w0 a b c:World}(h:Wr w0 a b)(k:Wr w0 b c):Wr w0 a c:=⟨h.ext.tr k.ext,fun j cs t h1 h2 hb=>k.AB j cs t h1 h2 (h.AB j cs t h1 h2 hb),fun j o h1 h2=>k.nv j o h1 (h.nv j o h1 h2)⟩
theorem Wr.of{w0 a b:World}(h:Ext (fun _=>False) a b):Wr w0 a b:=⟨h.mono fun _ _ e=>e.elim,fun j cs t _ _ hb=>h.AR hb id,fun j o _ ho=>(h.block j (au.1 ho).1 id).trans ho⟩
theorem Bu.AB{w0 w w':World}{b:Nat}{p:Option Addr}{sl:AA}{l:List UInt8}(h:Bu w0 w b p sl l)(he:Ext (fun _=>False) w w'):Bu w0 w' b p sl l:=
 ⟨h.lo,h.ptr,he.AR h.AR id,h.row.kept (row:=none) ⟨he.os,he.tape,he.output,he.size,fun k hk _=>he.block k hk id⟩ (by
  cases ho:(AA.v sl).ownBlock with
  |none=>exact .inl rfl
  |some g=>exact .inr (by simp))⟩
theorem Z3 {w0 w:World}{b:Nat}{p:Option Addr}{sl:AA}{l:List UInt8}(h:Bu w0 w b p sl l):C49 (some ⟨b,0,none⟩) w fun w'=>Bu w0 w' b (some ⟨b,0,none⟩) sl l/\Wr w0 w w':=by
 have c0:w.cell? ⟨b,0,none⟩=some (.pointer p):=h.AR.cell 0;rcases h.ptr with rfl|rfl
 ·refine (UD b w c0 (by have:=h.AR;unfold AO at this;simp[World.shape?,this]) (h.AR.frozen 0)).mono ?_;rintro e w' ⟨rfl,rfl⟩;refine ⟨rfl,⟨h.lo,.inr rfl,h.AR.set 0 _,h.row.kept (row:=some b) ⟨rfl,rfl,rfl,by simp[World.setCell],fun k _ hk=>Go.RowKit.Below.heap_setCell _ _ _ _ (fun e=>hk (by simp[e]))⟩ (.inr (Lib.ownBlock_ne h.row h.AR (by decide)))⟩,⟨(Ext.refl _ w).set (.inl h.lo) _,fun j cs t h1 h2 hb=>hb.yD fun e=>?_,fun j o h1 ho=>?_⟩⟩
  ·subst e;exact h1 (Z4 hb h.AR)
  ·have Bg:j≠b:=fun e=>by
    subst e;have hb:=h.AR;unfold AO at hb;rw[hb]at ho;exact h1 _ _ _ (aZ ho).symm
   exact (((Ext.refl (·=b) w).set (b:=b) (o:=0) (.inl rfl) _).block j (au.1 ho).1 Bg).trans ho
 ·refine (Xs b w c0).mono ?_;rintro e w' ⟨rfl,rfl⟩;exact ⟨rfl,h,Wr.refl _ _⟩
theorem Z5 (a b:List UInt8):Lib.byteCells (a++b)=Lib.byteCells a++Lib.byteCells b:=by simp[Lib.byteCells]
theorem Bu.put{w0 w1 w2:World}{b:Nat}{p:Option Addr}{sl:AA}{l m:List UInt8}{v':Value}(h:Bu w0 w1 b p sl l)(Bm:w2.ownsRow w0.heap.size 5 1 v' m.length (Lib.byteCells m))(hg:w1.grownBy w2 (AA.v sl).ownBlock):
  ∃Bh,v'=AA.v Bh/\Q6 w2 ⟨b,1,none⟩/\Bu w0 (w2.setCell ⟨b,1,none⟩ v') b p Bh m/\Wr w0 w1 (w2.setCell ⟨b,1,none⟩ v'):=by
 obtain ⟨Bh,rfl⟩:∃Bh,v'=AA.v Bh:=by
  rcases Bm.2 with ⟨rfl,_⟩|⟨g,cap,cur,rfl,_⟩
  ·exact ⟨⟨none,0,0⟩,rfl⟩
  ·exact ⟨⟨some ⟨g,0,none⟩,_,cap⟩,rfl⟩
 have LY:AO w2 b #[.pointer p,AA.v sl] 78:=by
  have:=h.AR;unfold AO at this⊢;rw[hg.block b h.AR.lt fun e=>Lib.ownBlock_ne h.row h.AR (by decide) e.symm];exact this
 refine ⟨Bh,rfl,LY.can (cv 1),⟨h.lo,h.ptr,LY.set 1 _,Bm.kept (row:=some b) ⟨rfl,rfl,rfl,by simp[World.setCell],fun k _ hk=>Go.RowKit.Below.heap_setCell _ _ _ _ (fun e=>hk (by simp[e]))⟩ (.inr (Lib.ownBlock_ne Bm LY (by decide)))⟩,?_,fun j cs t h1 h2 hb=>?_,fun j o h1 ho=>?_⟩
 ·have e:Ext (fun j=>w0.heap.size<=j) w1 w2:=⟨hg.os,hg.tape,hg.output,hg.size,fun k hk hn=>hg.block k hk fun e=>hn (h.row.lt k e.symm).1⟩
  exact e.set (.inl h.lo) _
 ·have Q7:AO w2 j cs t:=by
   have:=hb;unfold AO at this⊢;rw[hg.block j hb.lt fun e=>Lib.ownBlock_ne h.row hb h2 e.symm];exact this
  refine Q7.yD fun e=>?_
  subst e;exact h1 (Z4 Q7 LY)
 ·have Av:=(au.1 ho).1;have h2:w2.heap[j]?=some o:=(hg.block j Av fun e=>by
   rcases h.row.2 with ⟨hv,_⟩|⟨g,cap,cur,hv,_,hc,_⟩
   ·rw[hv]at e;cases e
   ·rw[hv]at e;have e:some j=some g:=e;cases e;rw[hc]at ho;exact h1 _ _ _ (aZ ho).symm).trans ho
  have Bg:j≠b:=fun e=>by
   subst e;unfold AO at LY;rw[LY]at h2;exact h1 _ _ _ (aZ h2).symm
  exact (((Ext.refl (·=b) w2).set (b:=b) (o:=1) (.inl rfl) _).block j (au.1 h2).1 Bg).trans h2
attribute [local irreducible] Ld Nw Nn Lt AP
theorem Fa {w0 w:World}{b:Nat}{p:Option Addr}{sl:AA}{l:List UInt8}{s:ByteArray}(h:Bu w0 w b p sl l)(hs:l.length+s.size<=1099511627776):UF (some ⟨b,0,none⟩) s w fun _ _ w'=>∃Bh,Bu w0 w' b (some ⟨b,0,none⟩) Bh (l++s.data.toList)/\Wr w0 w w':=by
 refine T26 _ _ _ _ ?_;unfold S26;refine (Z3 h).mono ?_;rintro w1 ⟨h1,k1⟩;refine Nn.of (Ld.of (x:=sl) h1.AR rfl ?_);obtain ⟨i0,hi,hz0,hz1,hz2⟩:=info_parts Tryz.BW.infoByte;have Av:=h1.AR.lt;have wY:=h1.lo;obtain ⟨v',w2,HA,Bm,Z6,_⟩:=Lib.run_append_own_string (P:=prog) w1 w0.heap.size 76 9 76 5 i0 CY HB hi hz0 hz1 hz2 (AA.v sl) l.length (Lib.byteCells l) h1.row s (by unfold maxLen;omega) (by omega) (by omega);have BX:w2.ownsRow w0.heap.size 5 1 v' (l++s.data.toList).length (Lib.byteCells (l++s.data.toList)):=by
  rw[Z5,ai,bL];exact Bm
 obtain ⟨Bh,rfl,hc,hB,hW⟩:=h1.put BX Z6;exact ⟨Bh,w2,HA,Nn.of ⟨hc,Bh,hB,k1.tr hW⟩⟩
theorem EL {w0 w:World}{b:Nat}{p:Option Addr}{sl:AA}{l:List UInt8}{c:UInt8}(h:Bu w0 w b p sl l)(hs:l.length+1<=1099511627776):Jr (some ⟨b,0,none⟩) (c.toNat:Int) w fun _ w'=>∃Bh,Bu w0 w' b (some ⟨b,0,none⟩) Bh (l++[c])/\Wr w0 w w':=by
 refine T51 _ _ _ _ ?_;unfold S51;refine (Z3 h).mono ?_;rintro w1 ⟨h1,k1⟩;refine Nn.of (Ld.of (x:=sl) h1.AR rfl (Nw.of ?_));obtain ⟨i0,hi,hz0,hz1,hz2⟩:=info_parts Tryz.BW.infoByte;have Av:=h1.AR.lt;have wY:=h1.lo;have e1:Ext (fun _=>False) w1 (w1.alloc (.cells #[.int .u8 (c.toNat:Int)] 5)):=(Ext.refl _ _).alloc _;have h2:=h1.AB e1;have z1:=e1.size;have hnb:=AO.new w1 #[.int .u8 (c.toNat:Int)] 5;obtain ⟨v',w2,HA,Bm,Z6,_⟩:=run_append_own (P:=prog) (w1.alloc (.cells #[.int .u8 (c.toNat:Int)] 5)) w0.heap.size 76 76 5 i0 (.int .u8 0) 1 1 CY hi hz0 hz1 hz2 rfl (by decide) (AA.v sl) l.length (Lib.byteCells l) h2.row ⟨w1.heap.size,0,none⟩ 1 1 [.int .u8 (c.toNat:Int)] rfl (fun j u hj=>by
  match j,hj with
  |0,hj=>rw[show ((⟨w1.heap.size,0,none⟩:Addr).add 0)=⟨w1.heap.size,0,none⟩from rfl,hnb.cell];exact hj) (fun u hu=>by rw[av.1 hu];rfl) (by unfold maxLen;omega) (by omega) (by omega)
 have BX:w2.ownsRow w0.heap.size 5 1 v' (l++[c]).length (Lib.byteCells (l++[c])):=by
  rw[Z5,ai];exact Bm
 obtain ⟨Bh,rfl,hc,hB,hW⟩:=h2.put BX Z6;exact ⟨Bh,w2,HA,Nn.of ⟨hc,Bh,hB,(k1.tr (Wr.of e1)).tr hW⟩⟩
theorem JD {w0 w:World}{b:Nat}{p:Option Addr}{sl:AA}{l:List UInt8}(h:Bu w0 w b p sl l)(h0:w0.heap.size<=w.heap.size):wZ (some ⟨b,0,none⟩) w fun r w'=>r=⟨l.toArray⟩/\Go.RowKit.Below w0.heap.size w w':=by
 have hI:Lib.IsBuilder 78 5 w0.heap.size b (Lib.byteCells l) w:=by
  have hx:Lib.BuilderAt 78 5 w0.heap.size b (.pointer p) (Lib.byteCells l) w:=⟨h.lo,AA.v sl,h.AR,by rw[Lib.byteCells_length];exact h.row,Lib.ownBlock_ne h.row h.AR (by decide)⟩
  rcases h.ptr with rfl|rfl
  ·exact .inl hx
  ·exact .inr hx
 cases l with
 |nil=>
  refine (Tryz.Builder_String_empty w0.heap.size b w hI h0).mono ?_;rintro e w' ⟨rfl,hb⟩;exact ⟨_,rfl,rfl,hb⟩
 |cons x r=>
  refine (Tryz.Builder_String w0.heap.size b (x::r) w hI (by simp)).mono ?_;rintro e w' ⟨rfl,hb⟩;exact ⟨_,rfl,rfl,hb⟩
theorem CZ {w0 w w':World}(h:Go.RowKit.Below w0.heap.size w w'):Ext (fun j=>w0.heap.size<=j) w w':=⟨h.os,h.tape,h.output,h.size,fun k hk hn=>h.block k (by omega)⟩
end NR
set_option maxRecDepth 8000
set_option maxHeartbeats 4000000
namespace Tl
open Sh Fix Tk NR Go.Lib
theorem nU (u:Nat):Ax (decDigits u)/\AU (decDigits u)=u/\1<=(decDigits u).length:=by
 induction u using Nat.strongRecOn with
 |_ u ih=>
  have one:∀d,d<10->EE (UInt8.ofNat (48+d)):=fun d hd=>by unfold EE;rw[bR];omega
  have val:∀d,d<10->AU [UInt8.ofNat (48+d)]=d:=fun d hd=>by
   show ((UInt8.ofNat (48+d)).toNat-48)*10^0+0=d;rw[bR];omega
  rw[decDigits];split
  ·rename_i h;exact ⟨fun c hc=>by rw[av.1 hc];exact one u h,val u h,aB _⟩
  ·rename_i h;obtain ⟨h1,h2,h3⟩:=ih (u/10) (by omega);refine ⟨fun c hc=>?_,?_,by simp⟩
   ·rcases aS.1 hc with hc|hc
    ·exact h1 c hc
    ·rw[av.1 hc];exact one _ (Nat.mod_lt _ (by decide))
   ·rw[Iu,h2,val _ (Nat.mod_lt _ (by decide))];show u/10*10+u%10=u;omega
structure FZ (n:Int) (t:By) (D:By):Prop where
 d:Ax D
 d1:1<=D.length
 d21:D.length<=21
 dv:AU D=n.natAbs
 t:t=(if n<0 then [45]else [])++D
theorem wC {n:Int}(h0:-9223372036854775808<=n)(h1:n<=9223372036854775807):∃D,FZ n (itoa n) D:=by
 have hl:=itoa_length_le n h0 h1;obtain ⟨a1,a2,a3⟩:=nU n.natAbs;refine ⟨decDigits n.natAbs,a1,a3,?_,a2,?_⟩
 ·unfold itoa at hl;split at hl
  ·simp only[ar]at hl;omega
  ·rw[show n.toNat=n.natAbs by omega]at hl;omega
 ·unfold itoa;split
  ·rfl
  ·rw[show n.toNat=n.natAbs by omega];rfl
def hx (n:Nat):UInt8:=if n<10 then UInt8.ofNat (48+n)else UInt8.ofNat (55+n)
def Kq (c:UInt8):By:=[hx (c.toNat/16),hx (c.toNat%16)]
def ZV (l:By):By:=l.flatMap Kq
def Ix (c:UInt8):By:=[UInt8.ofNat (48+c.toNat/64%8),UInt8.ofNat (48+c.toNat/8%8),UInt8.ofNat (48+c.toNat/1%8)]
def A1 (c:UInt8):By:=if c=40\/c=41\/c=92 then [92,c]else if c.toNat<32\/126<c.toNat then 92::Ix c else [c]
def A9 (c:UInt8):By:=if 32<c.toNat/\c.toNat<=126/\c≠35/\jy c=false then [c]else 35::Kq c
def Jp (l:By):By:=40::(l.flatMap A1++[41])
def Bv (l:By):By:=47::l.flatMap A9
def AZ:UInt8->List By->By
 |_,[]=>[]
 |last,p::r=>if p=[]then AZ last r else (if (Ae last=true\/last=47)/\Ae (p.headD 0)=true then [32]else [])++p++AZ (p.getLastD 0) r
theorem BP {f:UInt8->By}{k:Nat}(hf:∀c,(f c).length<=k):∀l:By,(l.flatMap f).length<=k*l.length
 |[]=>by simp
 |c::l=>by
  have h1:=BP hf l;have h2:=hf c;rw[bB,ai,ar,Nat.mul_add];omega
theorem NN (c:UInt8):(A1 c).length<=4:=by
 unfold A1 Ix;split
 ·simp
 ·split<;>simp
theorem NO (c:UInt8):(A9 c).length<=3:=by
 unfold A9 Kq;split<;>simp
theorem Hj {l:By}{i:Nat}{c:UInt8}(h:l[i]?=some c):l.take (i+1)=l.take i++[c]:=by
 rw[aQ,h]
 rfl
theorem jI {F:Nat->Prop}{a w:World}(h:Ext F a w)(os:Array Obj):Ext F a (Go.Sort.grow w os):=
 ⟨h.os,h.tape,h.output,by have:=h.size;simp[Go.Sort.grow];omega,fun j hj hn=>by
  rw[<-h.block j hj hn];have:=h.size;show (w.heap++os)[j]?=w.heap[j]?;rw[Array.getElem?_append_left (by omega)]⟩
theorem SF {P:Program}{n:String}{g:Nat}{k:IntKind}{zs:List Int}{w w':World}(hg:P.globalNamed n=some g)(h:Lib.TabIs P w n k zs)(he:Ext (fun _=>False) w w'):Lib.TabIs P w' n k zs:=by
 unfold Lib.TabIs World.var? at h⊢;rw[hg]at h⊢;simp only[Option.bind_some]at h⊢;have Av:g<w.heap.size:=by
  rcases cn g w.heap.size with h'|h'
  ·exact h'
  ·rw[bJ h']at h;cases h
 rw[he.block g Av id];exact h
def PT (w:World):Prop:=Lib.TabIs prog w "internal/strconv.uint64pow10" .u64 Lib.pow10Tab
theorem PT.AB{w w':World}(h:PT w)(he:Ext (fun _=>False) w w'):PT w':=SF (g:=3) (by kernel_rfl) h he
theorem jJ {x y:Nat}(hx:x<2^8)(hy:y<2^8):YO .u8 (x:Int) (y:Int)=((x&&&y:Nat):Int):=by
 unfold YO;rw[Bit.OE,Bit.OE];have h1:(BitVec.ofNat IntKind.u8.bits x&&&BitVec.ofNat IntKind.u8.bits y).toNat=x&&&y:=by
  rw[BitVec.toNat_and,BitVec.toNat_ofNat,BitVec.toNat_ofNat,Nat.mod_eq_of_lt (by simp[IntKind.bits];omega),Nat.mod_eq_of_lt (by simp[IntKind.bits];omega)]
 rw[h1];have h2:x&&&y<2^8:=Nat.and_lt_two_pow x hy;exact G0 (by omega)
abbrev ZW:ByteArray:=⟨#[48,49,50,51,52,53,54,55,56,57,65,66,67,68,69,70]⟩
theorem jK (n:Nat)(h:n<16):Bf ZW (n:Int)=((hx n).toNat:Int):=by
 have:∀m:Fin 16,Bf ZW ((m.val:Nat):Int)=((hx m.val).toNat:Int):=by decide
 exact this ⟨n,h⟩
theorem AC4 (c:UInt8):Int.fdiv (c.toNat:Int) (2^4)=((c.toNat/16:Nat):Int):=by
 rw[Int.fdiv_eq_ediv_of_nonneg _ (by decide)];show (c.toNat:Int)/16=_;omega
theorem AC5 (c:UInt8):YO .u8 (c.toNat:Int) 15=((c.toNat%16:Nat):Int):=by
 have:=jJ (x:=c.toNat) (y:=15) c.toNat_lt (by decide);rw[show ((15:Nat):Int)=15 from rfl]at this;rw[this]
 congr 1
 exact Nat.and_two_pow_sub_one_eq_mod c.toNat 4
theorem CM (c:UInt8):c.toNat<256:=c.toNat_lt
section
variable {w w' w1:World} {s t:ByteArray}
attribute [local irreducible] Ld Sh.St Nw Nn Lt AP
theorem jL {n:Int}(h0:-9223372036854775808<=n)(h1:n<=9223372036854775807)(hT:PT w):eI n w (fun r e w1=>((e=0/\-2147483647<=n/\n<=2147483647/\∃D,FZ n (bl r) D)\/(e=2/\(n< -2147483647\/n>2147483647)))/\Ext (fun _=>False) w w1) fun _ _=>False:=by
 refine AHA _ _ _ _ ?_;unfold zW;refine Br.dec (fun h=>⟨.inr ⟨rfl,.inl h⟩,Ext.refl _ _⟩) fun h=>Br.dec (fun h2=>⟨.inr ⟨rfl,.inr h2⟩,Ext.refl _ _⟩) fun h2=>?_
 refine (Tryz.strconv_FormatInt_10 n h0 h1 w hT).mono fun e w' hh=> .inl ⟨_,hh.1,.inl ⟨rfl,by omega,by omega,?_⟩,?_⟩
 ·rw[BB];exact wC h0 h1
 ·obtain ⟨k,os,rfl⟩:=hh.2;exact jI ((Ext.refl _ w).drewN k) os
theorem AC6 (hs:s.size<=1000000)(w:World):sY s w fun r w1=>bl r=ZV (bl s)/\Ext (fun _=>False) w w1:=by
 refine T77 _ _ _ ?_;unfold S77;have Yh:=AE s;rw[show (IntKind.i64.wrap (2*((s.size:Nat):Int)))=((2*s.size:Nat):Int) by rw[AG (by omega)];omega];obtain ⟨r0,w0,Nc,hR0,uN,ho0⟩:=HW w 0 (2*s.size) (by omega) (by omega);refine ⟨r0,w0,Nc,?_⟩;refine ⟨fun n st v=>∃(i:Nat) (sl:AA),st=(sl,(i:Int))/\i<=s.size/\n=s.size-i/\BL v sl (ZV ((bl s).take i))/\(∀j,sl.own j->w.heap.size<=j)/\Ext (fun _=>False) w v,s.size,⟨0,r0,rfl,by omega,rfl,hR0,ho0,uN⟩,?_⟩;rintro n st v ⟨i,sl,rfl,hi,rfl,hR,ho,hE⟩;unfold oD;refine Br.dec (fun q=>?_) fun q=>?_
 ·have hc:=Tk.byte_at (t:=bl s) (i:=i) (by omega);generalize (bl s).getD i 0=c at hc;have Av:=CM c;rw[AV hc,AC4,AC5,jK _ (by omega),jK _ (by omega)];refine ⟨by omega,by omega,by omega,?_,by omega,by omega,by omega,?_,Nw.of ?_⟩
  ·have:ZW.size=16:=rfl;show ((c.toNat/16:Nat):Int)<(ZW.size:Nat);omega
  ·have:ZW.size=16:=rfl;show ((c.toNat%16:Nat):Int)<(ZW.size:Nat);omega
  have hl:=BP (f:=Kq) (k:=2) (fun c=>by simp[Kq]) ((bl s).take i);have lV:(ZV ((bl s).take i)).length<=2*((bl s).take i).length:=hl;rw[aW]at lV;have e1:Ext (fun _=>False) v.drew (v.drew.alloc (.cells (Ft (Kq c)).toArray 5)):=(Ext.refl _ _).alloc _;have R1:BL (v.drew.alloc (.cells (Ft (Kq c)).toArray 5)) ⟨some ⟨v.drew.heap.size,0,none⟩,2,2⟩ (Kq c):=Row.new v.drew (Ft (Kq c)).toArray 5 1 2 rfl;have LK:BL v.drew sl (ZV ((bl s).take i)):=hR.AB (Ext.refl (fun _=>False) v).drew fun _ _ h=>h
  have hR1:=LK.AB e1 fun _ _ h=>h
  obtain ⟨Bh,v',HA,LK,Nd,I3⟩:=V6 (ty:=76) hR1 R1 (by
   have:(Kq c).length=2:=rfl;omega)
  refine ⟨Bh,v',HA,s.size-(i+1),by omega,i+1,Bh,by rw[AG (by omega)];rfl,by omega,rfl,?_,?_,?_⟩
  ·rw[Hj hc];unfold ZV at LK⊢;rw[bg];simpa using LK
  ·intro j hj;rcases I3 j hj with h|h
   ·exact ho j h
   ·have:=hE.size;have:=e1.size;simp only[U2]at this;omega
  ·exact Ext.Cg (hE.drew.tr e1) Nd fun j hj=>ho j hj
 ·have Oh:i=(bl s).length:=by omega
  refine ⟨_,_,CH hR,?_,hE⟩;rw[BB,Oh,aP]
end
end Tl
set_option maxRecDepth 4000
namespace LB
open Sh
abbrev bl (s:ByteArray):By:=s.data.toList
def ba (l:By):ByteArray:=⟨l.toArray⟩
theorem BB (l:By):bl (ba l)=l:=by simp[bl,ba]
theorem KI (s:ByteArray):ba (bl s)=s:=tX (BB _)
theorem AE (s:ByteArray):s.size=(bl s).length:=(bL (xs:=s.data)).symm
theorem LM (l:By):(ba l).size=l.length:=cB
theorem eqB (a b:ByteArray):(a.toList==b.toList)=decide (bl a=bl b):=by
 rw[ByteArray.toList_eq,ByteArray.toList_eq];by_cases h:bl a=bl b
 ·rw[aI h];simpa using h
 ·rw[aH h];simpa using h
def AS (w:World):Prop:=Lib.TabIs prog w "strings.asciiSpace" .u8 Lib.asciiSpaceTab
theorem AS.AB{w w':World}(h:AS w)(he:Ext (fun _=>False) w w'):AS w':=Tl.SF (g:=0) (by kernel_rfl) h he
def Mg (L:List By):List Value:=L.map fun l=> .string (ba l)
theorem Ym (L:List By):(Mg L).length=L.length:=by unfold Mg;simp
theorem Yn {L:List By}{i:Nat}{l:By}(h:L[i]?=some l):(Mg L)[i]?=some (.string (ba l)):=by
 unfold Mg;rw[aR,h]
 rfl
def SL (w:World)(s:AA)(L:List By):Prop:=s.len=L.length/\Bb w s 1 (Mg L)
theorem SL.AB{w w':World}{s:AA}{L:List By}(h:SL w s L)(he:Ext (fun _=>False) w w'):SL w' s L:=⟨h.1,h.2.AB he⟩
theorem SL.get{w:World}{s:AA}{L:List By}(h:SL w s L){i:Nat}{l:By}(hi:L[i]?=some l):∃a,s.p=some a/\w.cell? (a.add (i*1))=some (.string (ba l)):=by
 obtain ⟨a,ha,hc⟩:=h.2.2 i _ (Yn hi);exact ⟨a,ha,by rw[bU];exact hc⟩
theorem SL.AR{w:World}{g n:Nat}{L:List By}{t:TypeId}(h:AO w g (Mg L).toArray t)(hn:n=L.length):SL w ⟨some ⟨g,0,none⟩,n,n⟩ L:=⟨hn,Bb.of h (by rw[Ym,hn];omega)⟩
attribute [local irreducible] Ld St Nw Nn Lt AP
section
variable {w w1:World} {s:ByteArray} {L:List By}
theorem gH (h:AS w)(hs:QK (bl s)=some L)(Gx:s.size<=1000000):C62 s w fun r w1=>SL w1 r L/\Ext (fun _=>False) w w1:=by
 unfold QK at hs;split at hs;rotate_left
 ·cases hs
 rename_i ha;obtain rfl:=aZ hs;refine (Tryz.strings_Fields s w (by omega) (fun j b hj=>?_) h).mono fun e w' hh=>?_
 ·have hm:b∈bl s:=aA hj;simpa using aJ.1 ha b hm
 ·obtain ⟨rfl,rfl⟩:=hh;refine ⟨⟨_,_,_⟩,rfl,SL.AR (g:=w.heap.size) (L:=Lib.fields (bl s)) (AO.new w _ _) rfl,(Ext.refl _ _).alloc _⟩
end
end LB
set_option maxRecDepth 8000
set_option maxHeartbeats 8000000
namespace LB
open Sh CV
theorem Oa {nm:By}:∀(R:List (By×By×List By)) (i:Nat) (r:By×By×List By),R[i]?=some r->(∀(j:Nat) (q:By×By×List By),j<i->R[j]?=some q->nm∉q.2.2)->nm∈r.2.2->ET nm R=r.1
 |[],i,r,h,_,_=>by cases h
 |x::R,0,r,h,_,hm=>by
  cases h;unfold ET;rw[aD hm]
 |x::R,i+1,r,h,hn,hm=>by
  unfold ET;rw[az (hn 0 x (by omega) rfl)];exact Oa R i r (by simpa using h) (fun j q hj hq=>hn (j+1) q (by omega) (by simpa using hq)) hm
theorem Oc {nm:By}:∀(R:List (By×By×List By)),(∀(j:Nat) (q:By×By×List By),R[j]?=some q->nm∉q.2.2)->ET nm R=[63]
 |[],_=>rfl
 |x::R,hn=>by
  unfold ET;rw[az (hn 0 x rfl)];exact Oc R fun j q hq=>hn (j+1) q (by simpa using hq)
theorem gI (nm:By):CW nm=[63]\/∃r∈rows,CW nm=r.1:=by
 have:∀R:List (By×By×List By),ET nm R=[63]\/∃r∈R,ET nm R=r.1:=fun R=>by
  induction R with
  |nil=>exact .inl rfl
  |cons x R ih=>
   unfold ET;split
   ·exact .inr ⟨x,by simp,rfl⟩
   ·rcases ih with h|⟨r,hr,h⟩
    ·exact .inl h
    ·exact .inr ⟨r,ay _ hr,h⟩
 exact this rows
theorem gJ:(rows.all fun r=>decide (r.1.length<=6)&&r.1.all fun b=>decide (b<128))=true:=by decide+kernel
theorem Yo (nm:By):(CW nm).length<=6/\∀i,i<(CW nm).length->((CW nm).getD i 0).toNat<128:=by
 have key:∀l:By,(decide (l.length<=6)&&l.all fun b=>decide (b<128))=true->l.length<=6/\∀i,i<l.length->(l.getD i 0).toNat<128:=fun l hl=>by
  obtain ⟨h1,h2⟩:=Bool.and_eq_true_iff.1 hl;refine ⟨bh h1,fun i hi=>?_⟩;have:=aJ.1 h2 (l.getD i 0) (by rw[aE,al hi];exact bH hi);exact bh this
 rcases gI nm with h|⟨r,hr,h⟩
 ·rw[h];exact key _ (by decide)
 ·rw[h];exact key _ (aJ.1 gJ r hr)
def G1 (b:UInt8)(k:Int):Bool:=if b=110 then k==2||k==3 else if b=115 then k==4 else if b=78 then k==5 else if b=97 then k==6 else if b=100 then k==7 else true
def Bj:By->List Ob->Bool
 |b::t,o::L=>G1 b o.1&&Bj t L
 |_,_=>true
def CK (nm:By)(L:List Ob)(d:By):Int:=if CW nm=[63]then 28 else if (CW nm).length≠L.length then 28 else if Bj (CW nm) L=false then 28 else if d≠[]/\nm≠[66,73]then 3 else 0
theorem gK {t:By}{L:List Ob}{i:Nat}{b:UInt8}{o:Ob}(hb:t[i]?=some b)(ho:L[i]?=some o)(h:G1 b o.1=false):Bj t L=false:=by
 induction t generalizing L i with
 |nil=>cases hb
 |cons x t ih=>
  cases L with
  |nil=>cases ho
  |cons p L=>
   cases i with
   |zero=>
    cases hb;cases ho;simp[Bj,h]
   |succ i=>
    simp[Bj,ih (by simpa using hb) (by simpa using ho)]
theorem Yp {t:By}{L:List Ob}(h:∀(i:Nat) (b:UInt8) (o:Ob),t[i]?=some b->L[i]?=some o->G1 b o.1=true):Bj t L=true:=by
 induction t generalizing L with
 |nil=>unfold Bj;rfl
 |cons x t ih=>
  cases L with
  |nil=>unfold Bj;rfl
  |cons p L=>
   have h0:=h 0 x p rfl rfl;have:=ih (L:=L) fun i b o hb ho=>h (i+1) b o (by simpa using hb) (by simpa using ho)
   simp[Bj,h0,this]
theorem EC (w:World)(b:Nat)(s:ByteArray)(p:Nat):Ext (·=b) w (U1 w b s p):=
 ⟨rfl,rfl,rfl,by simp[U1],fun k hk hn=>by
  unfold U1;simp only;rw[cd];rw[az fun e=>hn e.symm]⟩
theorem F2 {w:World}{b:Nat}{s:ByteArray}{p:Nat}(h:b<w.heap.size):(U1 w b s p).heap[b]?=some (.stringIter s p):=by
 unfold U1;simp[cd,h]
attribute [local irreducible] Ld St Nw Nn Lt AP
section
variable {w w1:World} {s:AA} {L:List By}
theorem Mh (h:SL w s L)(hl:L.length<=1000000)(v:ByteArray):zA s v w fun r w1=>r=decide (bl v∈L)/\w1=w:=by
 refine T36 _ _ _ _ ?_;unfold S36;refine K1.mono (T61 _ _ _ (fun r w1=>decide (r>=0)=decide (bl v∈L)/\w1=w) ?_) (fun r w1 h=>h);unfold S61;refine ⟨fun n st w1=>∃i:Nat,st=(i:Int)/\i<=L.length/\n=L.length-i/\w1=w/\∀j l,j<i->L[j]?=some l->bl v≠l,L.length,⟨0,rfl,by omega,rfl,rfl,fun j l hj=>by omega⟩,?_⟩;rintro n st w ⟨i,rfl,hi,rfl,rfl,Tv⟩;unfold oM;rw[h.1];refine Br.dec (fun q=>⟨by omega,by omega,?_⟩) fun q=>?_
 ·obtain ⟨l,hli⟩:∃l,L[i]?=some l:=⟨_,al (by omega)⟩
  obtain ⟨a,ha,hc⟩:=h.get hli;rw[ha,aF];refine Nn.of (Ld.mk hc ?_);rw[eqB,BB];refine Br.dec (fun q2=>⟨?_,rfl⟩) fun q2=>⟨L.length-(i+1),by omega,i+1,by rw[AG (by omega)];rfl,by omega,rfl,rfl,fun j l' hj SA=>?_⟩
  ·rw[aI (by omega),aI (by rw[q2];exact aA hli)]
  ·by_cases e:j=i
   ·subst e;rw[hli]at SA;cases SA;exact q2
   ·exact Tv j l' (by omega) SA
 ·refine ⟨?_,rfl⟩;rw[aH (by omega),aH];intro hm;obtain ⟨j,hj⟩:=List.mem_iff_getElem?.1 hm;exact Tv j _ (by have:=(ao.1 hj).1;omega) hj rfl
theorem ABH {i:Nat}(h:i<14):∃r,rows[i]?=some r/\(#[.string ⟨#[]⟩,.string ⟨#[98,32,66,32,98,42,32,66,42,32,66,84,32,69,84,32,69,77,67,32,66,88,32,69,88,32,102,32,70,32,102,42,32,104,32,110,32,113,32,81,32,115,32,83,32,84,42,32,87,32,87,42]⟩,.string ⟨#[110]⟩,.string ⟨#[103,32,71,32,105,32,106,32,74,32,77,32,119,32,84,99,32,84,76,32,84,114,32,84,115,32,84,119,32,84,122]⟩,.string ⟨#[110,110]⟩,.string ⟨#[100,48,32,108,32,109,32,84,100,32,84,68]⟩,.string ⟨#[110,110,110]⟩,.string ⟨#[114,103,32,82,71]⟩,.string ⟨#[110,110,110,110]⟩,.string ⟨#[107,32,75,32,114,101,32,118,32,121]⟩,.string ⟨#[110,110,110,110,110,110]⟩,.string ⟨#[99,32,99,109,32,100,49,32,84,109]⟩,.string ⟨#[78]⟩,.string ⟨#[66,77,67,32,99,115,32,67,83,32,68,111,32,103,115,32,77,80,32,114,105,32,115,104]⟩,.string ⟨#[78,110]⟩,.string ⟨#[84,102]⟩,.string ⟨#[78,42]⟩,.string ⟨#[66,68,67,32,68,80]⟩,.string ⟨#[115]⟩,.string ⟨#[84,106,32,39]⟩,.string ⟨#[110,110,115]⟩,.string ⟨#[34]⟩,.string ⟨#[97]⟩,.string ⟨#[84,74]⟩,.string ⟨#[97,110]⟩,.string ⟨#[100]⟩,.string ⟨#[100]⟩,.string ⟨#[66,73]⟩]:Array Value).extract (i*2) (i*2+2)=#[.string (ba r.1),.string (ba r.2.1)]:=by
 have hc:i=0\/i=1\/i=2\/i=3\/i=4\/i=5\/i=6\/i=7\/i=8\/i=9\/i=10\/i=11\/i=12\/i=13:=by omega
 rcases hc with rfl|rfl|rfl|rfl|rfl|rfl|rfl|rfl|rfl|rfl|rfl|rfl|rfl|rfl<;>exact ⟨_,rfl,rfl⟩
theorem mE (h:AS w)(name:ByteArray):C37 name w fun r w1=>r=ba (CW (bl name))/\Ext (fun _=>False) w w1:=by
 refine T37 _ _ _ ?_;unfold S37;refine (Hn.start w).nw fun w2 H=>?_
 simp only[ae,add_lit,ah]at H⊢
 iterate 28 (refine H.st 0 rfl (by simp) fun _ H=>?_;simp only[ae,ag,aa,ab,ah]at H)
 iterate 28 refine H.ld 0 rfl rfl ?_
 have e0:=H.ext;clear H;refine ⟨fun n st w3=>∃i:Nat,st=(i:Int)/\i<=14/\n=14-i/\Ext (fun _=>False) w w3/\∀j q,j<i->rows[j]?=some q->bl name∉q.2.2,14,⟨0,rfl,by omega,rfl,e0,fun j q hj=>by omega⟩,?_⟩;clear e0;rintro n st w3 ⟨i,rfl,hi,rfl,e3,Tv⟩;unfold oE;refine Br.dec (fun q=>⟨by omega,by omega,?_⟩) fun q=>⟨?_,e3⟩
 ·obtain ⟨r,hr,hx⟩:=ABH (i:=i) (by omega);have Bt:r∈rows:=aA hr;rw[aF];refine ⟨(ba r.1,ba r.2.1),hx,?_⟩;refine (Hn.start w3).nw fun w4 H=>?_
  simp only[ae]at H
  iterate 2 (refine H.st 0 rfl (by simp) fun _ H=>?_;simp only[ae,ag,aa,ab,ah]at H)
  iterate 1 refine H.ld 0 rfl rfl ?_
  have e4:=e3.tr H.ext;refine (gH (h.AB e4) (L:=r.2.2) (by rw[BB];exact bh (aJ.1 mD r Bt)) (by
   have:(rows.all fun r=>decide (r.2.1.length<=1000))=true:=by decide+kernel
   have:=bh (aJ.1 this r Bt);rw[LM];omega)).mono ?_
  rintro f w5 ⟨hf,e5⟩;have H:=H.AB e5;refine (Mh hf (by
   have:(rows.all fun r=>decide (r.2.2.length<=1000))=true:=by decide+kernel
   have:=bh (aJ.1 this r Bt);omega) name).mono ?_
  rintro b w5 ⟨rfl,rfl⟩;refine Br.dec (fun q2=>?_) fun q2=>?_
  ·iterate 1 refine H.ld 0 rfl rfl ?_
   refine ⟨?_,e4.tr e5⟩
   congr 1
   exact (Oa rows i r hr Tv q2).symm
  ·refine ⟨14-(i+1),by omega,i+1,by rw[AG (by omega)];rfl,by omega,rfl,e4.tr e5,fun j q' hj xi=>?_⟩;by_cases e:j=i
   ·subst e;rw[hr]at xi;cases xi;exact q2
   ·exact Tv j q' (by omega) xi
 ·have AUg:i=14:=by omega
  have:CW (bl name)=[63]:=Oc rows fun j q' xi=>Tv j q' (by have:=(ao.1 xi).1;have e:rows.length=14:=rfl;omega) xi
  rw[this]
  rfl
theorem VO (b:UInt8)(k:Int)(w:World):C38 ((b.toNat:Nat):Int) k w fun r w1=>r=G1 b k/\w1=w:=by
 refine T38 _ _ _ _ ?_;unfold S38 G1;have e:∀c:UInt8,(((b.toNat:Nat):Int)=((c.toNat:Nat):Int))↔b=c:=fun c=>⟨fun h=>bS.1 (by omega),fun h=>by rw[h]⟩
 refine Br.eq (fun q=>?_) fun q=>?_
 ·rw[aD ((e 110).1 q)];refine Br.eq (fun q2=>⟨by rw[q2];rfl,rfl⟩) fun q2=>⟨by simp[q2],rfl⟩
 rw[az fun h=>q ((e 110).2 h)];refine Br.eq (fun q=>?_) fun q=>?_
 ·rw[aD ((e 115).1 q)];exact ⟨rfl,rfl⟩
 rw[az fun h=>q ((e 115).2 h)];refine Br.eq (fun q=>?_) fun q=>?_
 ·rw[aD ((e 78).1 q)];exact ⟨rfl,rfl⟩
 rw[az fun h=>q ((e 78).2 h)];refine Br.eq (fun q=>?_) fun q=>?_
 ·rw[aD ((e 97).1 q)];exact ⟨rfl,rfl⟩
 rw[az fun h=>q ((e 97).2 h)];refine Br.eq (fun q=>?_) fun q=>?_
 ·rw[aD ((e 100).1 q)];exact ⟨rfl,rfl⟩
 rw[az fun h=>q ((e 100).2 h)];exact ⟨rfl,rfl⟩
theorem byte_at {t:By}{i:Nat}(h:i<t.length):t[i]?=some (t.getD i 0):=by
 rw[aE,al h]
 rfl
theorem VP {t:By}{i:Nat}(h:i<t.length)(hb:(t.getD i 0).toNat<128):Utf8.decode (ba t) i=((t.getD i 0).toNat,1):=by
 have hs:i<(ba t).size:=by rw[LM];exact h
 have e:(ba t)[i]'hs=t.getD i 0:=by
  rw[aE,al h]
  rfl
 have:=decode_ascii (ba t) i hs (by rw[e];exact hb);rw[this,e]
theorem DU {name data:ByteArray}{s:AA}{L:List Ob}(h:AS w)(hL:OV w s L)(hlen:L.length<=9223372036854775807):C17 (name,s,data) w fun r w1=>r=CK (bl name) L (bl data)/\Ext (fun _=>False) w w1:=by
 refine T17 (name,s,data) _ _ ?_;unfold S17;refine (Hn.start w).nw fun w2 H=>?_
 simp only[ae]at H
 iterate 1 refine H.ld 0 rfl rfl ?_
 refine (mE (h.AB H.ext) name).mono ?_;rintro t w3 ⟨rfl,e3⟩;have H:=H.AB e3;obtain ⟨tl1,tl2⟩:=Yo (bl name);rw[eqB,BB];unfold CK;refine Br.dec (fun q=>⟨by rw[aD q],H.ext⟩) fun q=>?_
 have q':CW (bl name)≠[63]:=q;rw[az q']
 iterate 1 refine H.ld 0 rfl rfl ?_
 rw[LM,hL.1];refine Br.ne (fun q2=>⟨by rw[aD (by omega)],H.ext⟩) fun q2=>?_
 rw[az (c:=List.length (CW (bl name))≠List.length L) (by omega)];generalize ht:CW (bl name)=t at*;refine Nw.of ?_;have Q7:w3.heap.size<(w3.alloc (.stringIter (ba t) 0)).heap.size:=by simp
 have H4:=H.AB ((Ext.refl (fun _=>False) w3).alloc (.stringIter (ba t) 0));have Av:=H.lt 0 rfl;refine ⟨fun n st w4=>∃i:Nat,i<=t.length/\n=t.length-i/\w4.heap[w3.heap.size]?=some (.stringIter (ba t) i)/\Hn w w4 [(w.heap.size,[.string name,AA.v s,.string data],33)]/\∀j b o,j<i->t[j]?=some b->L[j]?=some o->G1 b o.1=true,t.length,
  ⟨0,by omega,rfl,by show (w3.heap.push _)[w3.heap.size]?=_;simp,H4,fun j b o hj=>by omega⟩,?_⟩
 rintro n st w4 ⟨i,hi,rfl,hit,H,Az⟩;unfold oF;have ANK:w3.heap.size<w4.heap.size:=(au.1 hit).1;refine ⟨ba t,i,rfl,hit,?_⟩;rw[LM];refine Br.dec (fun q3=>?_) fun q3=>?_
 ·rw[VP q3 (tl2 i q3)];have e5:=EC w4 w3.heap.size (ba t) (i+1);have H5:Hn w (U1 w4 w3.heap.size (ba t) (i+1)) [(w.heap.size,[.string name,AA.v s,.string data],33)]:=H.other e5 fun j hj=>by subst hj;simp;omega
  have ANL:=F2 (s:=ba t) (p:=i+1) ANK;generalize U1 w4 w3.heap.size (ba t) (i+1)=w5 at*;refine H5.ld 0 rfl rfl ?_;obtain ⟨o,ho⟩:∃o,L[i]?=some o:=⟨_,al (by omega)⟩
  obtain ⟨a,ha,c0,_⟩:=(hL.AB H5.ext).get ho;rw[hL.1,ha,aF];refine ⟨by omega,by omega,Nn.of (Ld.mk c0 ((VO _ _ _).mono ?_))⟩;rintro r w6 ⟨rfl,rfl⟩;by_cases hf:G1 (t.getD i 0) o.1=true
  ·rw[hf];refine Br.f rfl ⟨t.length-(i+1),by omega,i+1,by omega,rfl,ANL,H5,fun j b o' hj hb I3=>?_⟩;by_cases e:j=i
   ·subst e;rw[byte_at q3]at hb;rw[ho]at I3;cases hb;cases I3;exact hf
   ·exact Az j b o' (by omega) hb I3
  ·have hf:G1 (t.getD i 0) o.1=false:=by simpa using hf
   rw[hf];exact Br.t rfl ⟨by rw[aD (gK (byte_at q3) ho hf)],H5.ext⟩
 ·have uU:Bj t L=true:=Yp fun j b o hb ho=>Az j b o (by have:=(ao.1 hb).1;omega) hb ho
  rw[az (by rw[uU];simp)]
  iterate 1 refine H.ld 0 rfl rfl ?_
  rw[eqB];have e0:bl (⟨#[]⟩:cI)=[]:=rfl;have e1:bl (⟨#[66,73]⟩:cI)=[66,73]:=rfl;rw[e0];by_cases hd:bl data=[]
  ·rw[aI hd,az fun hh=>hh.1 hd];exact Br.f rfl ⟨rfl,H.ext⟩
  ·rw[aH hd];refine Br.t rfl ?_
   iterate 1 refine H.ld 0 rfl rfl ?_
   rw[eqB,e1];by_cases hn:bl name=[66,73]
   ·rw[aI hn,az fun hh=>hh.2 hn];exact Br.f rfl ⟨rfl,H.ext⟩
   ·rw[aH hn,aD ⟨hd,hn⟩];exact Br.t rfl ⟨rfl,H.ext⟩
end
end LB
namespace LB
open Sh CV
attribute [local irreducible] Ld St Nw Nn Lt AP
section
variable {w w1:World} {s:AA} {L:List By}
theorem Ks {a b:ByteArray}{A B:Prop}(h1:bl a=bl b->A)(h2:¬bl a=bl b->B):Br (a.toList==b.toList) A B:=by rw[eqB];exact Br.dec h1 h2
end
end LB
end Go.Proofs.YtmaekpnpnjndoaaGreatDoor

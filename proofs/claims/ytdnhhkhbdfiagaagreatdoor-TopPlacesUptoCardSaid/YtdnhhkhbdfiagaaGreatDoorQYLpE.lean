/- TopPlaces: items as arguments; the laid tables. Conditions: what is read is of bulk at most 1048576. -/
import Derived.Test.YtdnhhkhbdfiagaaGreatDoorQYLpE1
import Derived.Test.YtdnhhkhbdfiagaaGreatDoorQYLpE8
import Derived.Test.YtdnhhkhbdfiagaaGreatDoorRows
import Derived.WalkKit
import Derived.ProofKit
import Derived.OpenShut
import Derived.Deep.DeepHandedRow
import Derived.Lib.LaidTab
import Derived.Lib.LaidU8
import Derived.LaidMore
import Derived.ChangeSame
import Derived.Shelf.Vars
set_option linter.unusedVariables false
set_option linter.unusedSimpArgs false
open Go.Proofs.Tryz (prog)
namespace Go.Proofs.YtdnhhkhbdfiagaaGreatDoor
set_option maxRecDepth 100000
set_option maxHeartbeats 4000000
namespace Pc
open Sh Fix Tk Tl Vl Wt
open Go.ChangeShapes Go.WideShapes Go.ChangeAt Go.RowKit
theorem MI:IM prog 28=some [(0,3),(1,3),(2,26)]:=by kernel_rfl
abbrev IT2:Type:=Fj×Tr
theorem fU {bs:List Nat}{x b:Nat}(h:bs.sum<b)(h2:bs[2]?=some x):x<b:=by
 have:=HX h2;omega
theorem fV {w:World}:∀(n:Nat) (cs:List Value) (b:Nat),Es prog w n 28 cs b->∃q:IT2,cs=BD q.1/\OX w q.1.2.2 q.2/\DF q.2<=b
 |0,cs,b,h=>h.elim
 |1,cs,b,h=>by
  obtain ⟨_,bs,_,hf⟩:=Et MI h;obtain ⟨x,_,hx⟩:=hf 0 0 3 rfl;exact hx.elim
 |n+2,cs,b,h=>by
  obtain ⟨hl,bs,Xh,hf⟩:=Et MI h;rw[show prog.cellsOf 28=8 by kernel_rfl]at hl;obtain ⟨c0,c1,c2,c3,c4,c5,c6,c7,rfl⟩:∃c0 c1 c2 c3 c4 c5 c6 c7,cs=[c0,c1,c2,c3,c4,c5,c6,c7]:=by
   match cs,hl with
   |[c0,c1,c2,c3,c4,c5,c6,c7],_=>exact ⟨c0,c1,c2,c3,c4,c5,c6,c7,rfl⟩
  obtain ⟨y0,z0,f0⟩:=hf 0 0 3 rfl;obtain ⟨y1,z1,f1⟩:=hf 1 1 3 rfl;obtain ⟨y2,z2,f2⟩:=hf 2 2 26 rfl;rw[show prog.cellsOf 3=1 by kernel_rfl]at f0 f1;rw[show prog.cellsOf 26=6 by kernel_rfl]at f2;obtain ⟨x0,e0,_⟩:=Hu Tryz.underlying3 f0.up;obtain ⟨x1,e1,_⟩:=Hu Tryz.underlying3 f1.up;obtain ⟨q,e2,ho,hb⟩:=Zw (n+1) _ _ f2;have hs:=fU Xh z2;obtain rfl:c0= .int .i64 x0:=by simpa using e0
  obtain rfl:c1= .int .i64 x1:=by simpa using e1
  have e2:[c2,c3,c4,c5,c6,c7]=AF q.1:=e2;refine ⟨((x0,x1,q.1),q.2),?_,⟨_,ho⟩,by show DF q.2<=b;omega⟩;show [.int .i64 x0,.int .i64 x1,c2,c3,c4,c5,c6,c7]= .int .i64 x0:: .int .i64 x1::AF q.1;rw[<-e2]
def pE:List TypeId:=[22,28,9,24,26,3,2,23]
theorem N4:prog.underlying 22=some (.slice 28):=by kernel_rfl
theorem Yi {H:Type}{enc:TypeId×Value->H}{W:World}{spare:Nat->Bool}{held:Bool}{v:Value}{d:DataW H}{ps:List MemPlace}{rr:Reach}{b0:Nat}
  (h0:Value.okWide prog W rr b0 22 v) (h:DataW.Trod enc prog W 0 spare held 22 v d ps) (hb:Rows.uptoBulk d<=1048576):
  ∃(s:AA) (L:List Fj),v=AA.v s/\IV W s L/\L.length<=1000000000/\∀x∈L,∃t,OX W x.2.2 t/\DF t<=1100000:=by
 obtain ⟨n,hn⟩:=h;have hB:=Kw (S:=pE) (by kernel_rfl) n 22 _ _ (aw ..) hn;obtain ⟨a,len,cap,rfl⟩:=Go.WideShapes.okWide_slice N4 h0;have hB:Es prog W n 22 [.slice a len cap] (Rows.uptoBulk d):=hB;cases n with
 |zero=>exact hB.elim
 |succ n=>
 have:Inhabited IT2:=⟨((0,0,Vl.Kl),.mk 0 0 0 ⟨#[]⟩ [] [])⟩
 obtain ⟨s,L,bs,h1,h2,h3,h4,h5,h6⟩:=LM (Q:=fun (q:IT2) cs x=>cs=BD q.1/\OX W q.1.2.2 q.2/\DF q.2<=x) N4 (show prog.cellsOf 28=8 by kernel_rfl) hB fun Bf x h=>fV n Bf x h
 have AMF:((L.map (·.2)).map DF).sum<=1048576:=by
  rw[cK];refine bB (HA h3 fun i q x hq hx=>?_) (bB h4 hb);obtain ⟨a,Bf,y,hy,ha,hc,_,_,hb⟩:=h6 i q hq;rw[hx]at hy;cases hy;exact hb
 refine ⟨s,L.map (·.1),by simpa using h1,⟨by rw[bc,h2],B9.make (fun _=>rfl) (by decide) (by rw[bc,h2]) fun i x hi=>?_⟩,?_,fun x hx=>?_⟩
 ·rw[aH]at hi;obtain ⟨q,hq,rfl⟩:=aN.1 hi;obtain ⟨a,Bf,x,_,ha,hc,rfl,_⟩:=h6 i q hq;exact ⟨a,ha,hc⟩
 ·have:=Vz (L.map (·.2));rw[Oo,bc]at this;rw[bc];omega
 ·obtain ⟨q,hq,rfl⟩:=bx.1 hx;obtain ⟨i,hi⟩:=aZ hq;obtain ⟨a,Bf,x,Qh,ha,hc,_,CO,hbx⟩:=h6 i q hi;have h8:=HX (bs:=(L.map (·.2)).map DF) (i:=i) (x:=DF q.2) (by rw[aH,aH,hi];rfl);exact ⟨q.2,CO,by omega⟩
theorem fW {H:Type}{enc:TypeId×Value->H}{W:World}{spare:Nat->Bool}{held:Bool}{v:Value}{d:DataW H}{ps:List MemPlace}{rr:Reach}{b0:Nat}
  (h0:Value.okWide prog W rr b0 28 v) (h:DataW.Trod enc prog W 0 spare held 28 v d ps) (hb:Rows.uptoBulk d<=1048576):
  ∃x:Fj,v= .agg (BD x).toArray/\∃t,OX W x.2.2 t/\DF t<=1100000:=by
 obtain ⟨cs0,rfl,_⟩:=Rv (by rw[Tryz.underlying28];rfl) h0 h;obtain ⟨n,hn⟩:=h;have hB:=Kw (S:=pE) (by kernel_rfl) n 28 _ _ (.tail _ (.head _)) hn;have hB:Es prog W n 28 cs0 (Rows.uptoBulk d):=hB;obtain ⟨q,rfl,h1,h2⟩:=fV n cs0 _ hB;exact ⟨q.1,rfl,q.2,h1,by omega⟩
theorem ACl:(Rows.laid_internal_strconv_uint64pow10:DataW Unit)=Lib.tabData .u64 Lib.pow10Tab:=by kernel_rfl
theorem mL {W:World}(h:laidMetH prog Rows.topPlacesUptoRow.laid W):Tl.PT W:=by
 rw[MakeChecks.laidMetH_plain _ _ _ (by kernel_rfl)]at h;obtain ⟨g,t,cs,fuel,p,hg,hty,AMH,hd⟩:=Lib.laidMet.reads h (show ("internal/strconv.uint64pow10",(Rows.laid_internal_strconv_uint64pow10:DataW Unit))∈_ from .tail _ (.tail _ (.head _)));rw[ACl]at hd;obtain rfl:=aQ ((show prog.globalNamed "internal/strconv.uint64pow10"=some 1 by kernel_rfl).symm.trans hg);obtain rfl:=aQ ((show (prog.globals[1]?).map (·.type)=some 205 by kernel_rfl).symm.trans hty);unfold Tl.PT Lib.TabIs;rw[AMH,<-Lib.cells_of_tab (show prog.underlying 205=some (.array 20 161) by kernel_rfl) (show prog.underlying 161=some (.int .u64) by kernel_rfl) (by kernel_rfl) (by kernel_rfl) hd]
theorem fX {W:World}(h:W.ShapedOpen prog):MX W:=
 cell_of_shapedOpen_int (P:=prog) (g:=0) (t:=3) (zero:=#[.int .i64 0]) h (cd (by kernel_rfl)) (by kernel_rfl) rfl (by kernel_rfl) (by kernel_rfl) Tryz.underlying3
theorem ACm {W:World}{s:AA}{L:List Fj}{z:Fj}(hl:IV W s L)(mG:L.length<=1000000000)(hX:∀x∈L,∃t,OX W x.2.2 t/\DF t<=1100000)(hz:∃t,OX W z.2.2 t/\DF t<=1100000)(hL:laidMetH prog Rows.topPlacesUptoRow.laid W)(hS:W.ShapedOpen prog):
  C3 s z W fun r w1=>r=true/\Ext (fun _=>False) W w1:=
 VA hl mG (fun x hx=>(aK.1 hx).elim (hX x) fun h=>by rw[ao.1 h];exact hz) (mL hL) (fX hS)
end Pc
end Go.Proofs.YtdnhhkhbdfiagaaGreatDoor

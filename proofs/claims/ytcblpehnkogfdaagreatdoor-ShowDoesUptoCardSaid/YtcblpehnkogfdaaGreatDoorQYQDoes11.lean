/- The reference's text machine: Do. Conditions: sizes. -/
import Derived.Test.YtcblpehnkogfdaaGreatDoorQYQDoes10
import Derived.Test.YtcblpehnkogfdaaGreatDoorQYQDoes4
set_option linter.unusedVariables false
set_option linter.unusedSimpArgs false
namespace Go.Proofs.YtcblpehnkogfdaaGreatDoor
namespace Ma
open Sh Mat Fix Fo Sw Opr Pat
set_option maxRecDepth 8000
set_option maxHeartbeats 4000000
attribute [local irreducible] Ld Sh.St Nw Nn Lt LdS
theorem ivS {S : World -> Prop} {s : Slc} {l : List Int} (h : ∀ w',S w' -> IV w' s l) {i : Nat} (hi : i < l.length) {a : Addr} (ha : s.p = some a) {K : Int -> Prop} (k : K (l.getD i 0)) : LdS S (a.add (i * 1)) (Value.int .i64) K :=
 ldS_mk (x := l.getD i 0) (fun w' hw=> by
  obtain ⟨a',ha',hc⟩ := (h w' hw).get hi
  rw [ha] at ha'
  cases ha'
  exact hc) k
theorem grl_spaced (g : GT) (a b : Int) : ((grl g).set 23 (.int .i64 a)).set 22 (.int .i64 b) = grl (spaced g a b) := by simp only [grl,spaced,tx,List.set]
section
variable {w : World} {g : GT} {x : FT} {f : Font} {m : Mc} {o : OpT} {L K : List Ob}
theorem r_Do (h : FoV w x f) (m : Mc) (hO : OpV w o L K) : C14 (mct m) o g x w fun r sl e w1=> RA (doF g f m (Opr.bl o.1) L K (Opr.bl o.2.2)) w r sl e w1 := by
 refine T14 (mct m) o g x _ _ ?_
 unfold S14
 have hO0 := hO
 have h0 := h
 refine (Hn.start w).nw (cs := mcc m) fun vw5 H=> H.nw (cs := [.string o.1,Slc.v o.2.1,.string o.2.2]) fun vw6 H=> H.nw (cs := grl g) fun vw7 H=> H.nw (cs := fol x) fun vw8 H=> H.nw (cs := mcc mz) fun vw9 H=> ?_
 have H : Hn w vw9 [(w.heap.size,mcc m,TR),(vw5.heap.size,[.string o.1,Slc.v o.2.1,.string o.2.2],TP),(vw6.heap.size,grl g,TG),(vw7.heap.size,fol x,TF),(vw8.heap.size,mcc mz,TR)] := H
 have l0 := H.lt 0 rfl
 have l2 := H.lt 2 rfl
 have l4 := H.lt 4 rfl
 have hs9 := H.size
 have bad : ∀ {e : Int} {u : World},doF g f m (Opr.bl o.1) L K (Opr.bl o.2.2) = (e,m,[]) -> Ext (fun _=> False) w u -> RA (doF g f m (Opr.bl o.1) L K (Opr.bl o.2.2)) w (mct m) ⟨none,0,0⟩ e u := fun {e u} hd E=> by
  rw [hd]
  exact ⟨rfl,rfl,Row.view (Row.nil _ TL _),fun j hj=> (no_own j hj).elim,E⟩
 refine H.ld 1 rfl (x := o.1) rfl ((r_known o.1 _).mono ?_)
 rintro r16 w17 ⟨rfl,rfl⟩
 by_cases hten : Opr.bl o.1 ∈ ten
 case neg=>
  rw [decide_eq_false hten]
  exact Br.t rfl (mexit H (i := 0) (j := 4) rfl rfl fun u' H' _=> bad (by unfold doF; rw [if_pos hten]) H'.ext)
 rw [decide_eq_true hten]
 refine Br.f rfl (H.ld 1 rfl (x := o.1) rfl (H.ld 1 rfl (x := o.2.1) rfl (H.ld 1 rfl (x := o.2.2) rfl ?_)))
 refine (Opr.r_check (hO.keep H.ext).args hO.most).mono ?_
 rintro r31 w32 ⟨rfl,e32⟩
 have H := H.keep e32
 refine Br.ne (fun q=> mexit H (i := 0) (j := 4) rfl rfl fun u' H' _=> bad (by unfold doF; rw [if_neg (by simpa using hten),if_pos q]) H'.ext) fun hchk=> ?_
 have hbt : ∀ a b : ByteArray,(a.toList == b.toList) = decide (Opr.bl a = Opr.bl b) := fun a b=> eqB a b
 refine H.ld 0 rfl (x := m.on) rfl (H.ld 1 rfl (x := o.1) rfl ?_)
 have hbtc : (o.1.toList == (⟨#[66,84]⟩ : ByteArray).toList) = decide (Opr.bl o.1 = [66,84]) := hbt _ _
 rw [hbtc]
 by_cases hst : m.on = decide (Opr.bl o.1 = [66,84])
 ·refine Br.t (by rw [hst]; simp) (mexit H (i := 0) (j := 4) rfl rfl fun u' H' _=> bad (by unfold doF; rw [if_neg (by simpa using hten),if_neg (by simp [hchk]),if_pos hst]) H'.ext)
 refine Br.f (by simpa using hst) (H.ld 1 rfl (x := o.1) rfl (H.ld 1 rfl (x := o.2.1) rfl (H.ld 1 rfl (x := o.2.2) rfl ?_)))
 have h6 : L.length <= 6 := by
  have := (takes_low (Opr.bl o.1)).1
  have := (chk_parts hchk).1
  omega
 refine (r_nums (a := o.1) (d := o.2.2) (hO.keep H.ext).args (by omega)).mono ?_
 rintro r48 r49 w50 ⟨e50,hnm⟩
 have s32 := (show Ext (fun _=> False) _ w32 from e32).size
 have H := H.keep e50
 cases hn : nmO (L.filter isNum) with
 | none=>
  rw [hn] at hnm
  have hnm : r49 = 2 := hnm
  subst hnm
  exact Br.ne (fun _=> mexit H (i := 0) (j := 4) rfl rfl fun u' H' _=> bad (by unfold doF; rw [if_neg (by simpa using hten),if_neg (by simp [hchk]),if_neg hst,hn]) H'.ext) fun q=> by cases q
 | some n=>
 rw [hn] at hnm
 obtain ⟨rfl,hio⟩ : r49 = 0 /\ IO w32 w50 r48 n := hnm
 have hiv := hio.iv
 have hnl : n.length = (takes (Opr.bl o.1)).countP (fun b=> decide (b = 110)) := by rw [nmO_len hn,num_len hchk hten]
 have hLt := (chk_parts hchk).1
 have hdo : doF g f m (Opr.bl o.1) L K (Opr.bl o.2.2) = fixA (actF g f m (Opr.bl o.1) L K n) m := by
  unfold doF
  rw [if_neg (by simpa using hten),if_neg (by simp [hchk]),if_neg hst,hn]
  rfl
 clear bad
 rw [hdo]
 have hO := hO.keep H.ext
 have h := h.keep H.ext
 refine Br.ne (fun q=> absurd rfl q) fun _=> H.ld 1 rfl (x := o.1) rfl ?_
 have cmp : ∀ (b : ByteArray) (nm : Opr.By),Opr.bl b = nm -> (o.1.toList == b.toList) = decide (Opr.bl o.1 = nm) := fun b nm hb=> by rw [hbt,hb]
 rw [hbtc,cmp ⟨#[69,84]⟩ [69,84] rfl,cmp ⟨#[84,100]⟩ [84,100] rfl,cmp ⟨#[84,68]⟩ [84,68] rfl]
 have mv : ∀ {u u1 : World} {p : Option Mx} {r : MT} {e : Int},actF g f m (Opr.bl o.1) L K n = movedF m p -> (match p with
   | some l=> r = mct ⟨m.on,l,l⟩ /\ e = 0
   | none=> r = mct m /\ e = 2) -> ∃ m',r = mct m' /\ ∀ u1,Ext (fun _=> False) w u1 -> RA (fixA (actF g f m (Opr.bl o.1) L K n) m) w (mct m') ⟨none,0,0⟩ e u1 := fun {u u1 p r e} hact hr=> by
  cases p with
  | none=>
   obtain ⟨rfl,rfl⟩ := hr
   exact ⟨m,rfl,fun u1 E=> RA.bad (by decide) (by rw [hact]; rfl) E⟩
  | some l=>
   obtain ⟨rfl,rfl⟩ := hr
   refine ⟨⟨m.on,l,l⟩,rfl,fun u1 E=> ?_⟩
   rw [hact,fixA_ok rfl]
   exact ⟨rfl,rfl,Row.view (Row.nil _ TL _),fun j hj=> (no_own j hj).elim,E⟩
 by_cases n1 : Opr.bl o.1 = [66,84]
 ·rw [decide_eq_true n1]
  have hact : actF g f m (Opr.bl o.1) L K n = (0,⟨true,one,one⟩,[]) := by unfold actF; rw [if_pos n1]
  rw [hact,fixA_ok rfl]
  refine Br.t rfl ((Mat.r_one _).mono ?_)
  rintro r218 w219 ⟨rfl,e219⟩
  refine (Mat.r_one _).mono ?_
  rintro r220 w221 ⟨rfl,e221⟩
  have H := (H.keep e219).keep e221
  exact mcSt H (j := 4) rfl ⟨true,one,one⟩ fun w222 H _=> mcL H (i := 4) rfl ⟨rfl,rfl,Row.view (Row.nil _ TL _),fun j hj=> (no_own j hj).elim,H.ext⟩
 rw [decide_eq_false n1]
 by_cases n2 : Opr.bl o.1 = [69,84]
 ·rw [decide_eq_true n2]
  have hact : actF g f m (Opr.bl o.1) L K n = (0,m0,[]) := by unfold actF; rw [if_neg n1,if_pos n2]
  rw [hact,fixA_ok rfl]
  refine Br.f rfl (Br.t rfl ((r_new _).mono ?_))
  rintro r224 w225 ⟨rfl,e225⟩
  have H := H.keep e225
  exact mcSt H (j := 4) rfl m0 fun w226 H _=> mcL H (i := 4) rfl ⟨rfl,rfl,Row.view (Row.nil _ TL _),fun j hj=> (no_own j hj).elim,H.ext⟩
 rw [decide_eq_false n2]
 refine Br.f rfl (Br.f rfl ⟨fun st w'=> st = decide (Opr.bl o.1 = [84,100] \/ Opr.bl o.1 = [84,68]) /\ w' = w50,?_,Br.dec (fun q=> ⟨by rw [decide_eq_true q,decide_eq_true (Or.inl q)],rfl⟩) fun q=> ⟨?_,rfl⟩⟩)
 case refine_2=>
  by_cases q2 : Opr.bl o.1 = [84,68]
  ·rw [decide_eq_true q2,decide_eq_true (Or.inr q2)]
  ·rw [decide_eq_false q2,decide_eq_false (by rintro (h | h); exact q h; exact q2 h)]
 rintro st w' ⟨rfl,rfl⟩
 unfold S14J1
 by_cases n3 : Opr.bl o.1 = [84,100] \/ Opr.bl o.1 = [84,68]
 ·rw [decide_eq_true n3]
  have hact : actF g f m (Opr.bl o.1) L K n = movedF m (moveF m.line (n.getD 0 0) (n.getD 1 0)) := by unfold actF; rw [if_neg n1,if_neg n2,if_pos n3]
  have hn2 : n.length = 2 := by
   rw [hnl]
   rcases n3 with h3 | h3 <;> rw [h3] <;> decide +kernel
  obtain ⟨a,ha,_⟩ := hiv.get (i := 0) (by omega)
  have hlen := hiv.1
  have ivD := hiv.keep (Ext.refl (fun _=> False) w').drew
  let SS : World -> Prop := fun v=> Hn w v [(w.heap.size,mcc m,TR),(vw5.heap.size,[.string o.1,Slc.v o.2.1,.string o.2.2],TP),(vw6.heap.size,grl g,TG),(vw7.heap.size,fol x,TF),(vw8.heap.size,mcc mz,TR)] /\ IV v r48 n
  refine Br.t rfl ⟨SS,⟨H.drew,ivD⟩,LdST.blk (ts := LiA38) (pre := []) (post := []) (t := TR) (x := mct m) (fun v hv=> hv.1.get 0 rfl) rfl ?_⟩
  rw [ha,hlen,hn2]
  refine ⟨by decide,by decide,Nn.of (ivS (S := SS) (fun v hv=> hv.2) (i := 0) (by omega) ha ⟨by decide,by decide,Nn.of (ivS (S := SS) (fun v hv=> hv.2) (i := 1) (by omega) ha ?_)⟩)⟩
  have H := H.drew
  refine ⟨(r_moved m _ _ _).mono ?_,H.nw' (cs := mcc mz) fun w244 H' e244=> ⟨⟨Hn.left (M := [(w'.drew.heap.size,mcc mz,TR)]) H',ivD.keep e244⟩,(r_moved m _ _ _).mono ?_⟩⟩
  ·rintro r236 r237 w238 ⟨hr,e238⟩
   have H := H.keep e238
   obtain ⟨m',rfl,hRA⟩ := mv (u := w238) (u1 := w238) hact hr
   refine mk_mc H m' fun w240 H _=> ?_
   exact mexit H (i := 5) (j := 4) rfl rfl fun u' H' _=> hRA _ H'.ext
  ·rintro r245 r246 w247 ⟨hr,e247⟩
   have H' := H'.keep e247
   obtain ⟨m',rfl,hRA⟩ := mv (u := w247) (u1 := w247) hact hr
   refine mcSt H' (j := 5) rfl m' fun w248 H' _=> ?_
   exact mexit H' (i := 5) (j := 4) rfl rfl fun u' H' _=> hRA _ H'.ext
 rw [decide_eq_false n3]
 refine Br.f rfl ?_
 rw [cmp ⟨#[84,42]⟩ [84,42] rfl,cmp ⟨#[84,109]⟩ [84,109] rfl,cmp ⟨#[84,106]⟩ [84,106] rfl,cmp ⟨#[39]⟩ [39] rfl,cmp ⟨#[84,74]⟩ [84,74] rfl]
 have hon : m.on = true := by
  rw [decide_eq_false n1] at hst
  simpa using hst
 by_cases n4 : Opr.bl o.1 = [84,42]
 ·rw [decide_eq_true n4]
  have hact : actF g f m (Opr.bl o.1) L K n = movedF m (nextF g m.line) := by unfold actF; rw [if_neg n1,if_neg n2,if_neg n3,if_pos n4]
  refine Br.t rfl (gL H (i := 2) rfl ((r_may g _).mono ?_))
  rintro r253 w254 ⟨rfl,e254⟩
  have H := H.keep e254
  cases hu : useG g with
  | false=>
   rw [if_neg (by decide)]
   have hnx : nextF g m.line = none := by unfold nextF; rw [if_neg (by rw [hu]; decide)]
   exact Br.ne (fun _=> mexit H (i := 0) (j := 4) rfl rfl fun u' H' _=> RA.bad (by decide) (by rw [hact,hnx]; rfl) H'.ext) fun q=> by cases q
  | true=>
  rw [if_pos rfl]
  have hl := inW_spec.1 (useG_lead hu)
  have hnx : nextF g m.line = moveF m.line 0 (-(tlead g)) := by unfold nextF; rw [if_pos hu]
  refine Br.ne (fun q=> absurd rfl q) fun _=> mcL H (i := 0) rfl (H.ld 2 rfl (x := tlead g) rfl ?_)
  rw [i64_id (n := 0 - tlead g) (by omega),Int.zero_sub]
  refine (r_moved m 0 (-(tlead g)) _).mono ?_
  rintro r260 r261 w262 ⟨hr,e262⟩
  have H := H.keep e262
  obtain ⟨m',rfl,hRA⟩ := mv (u := w262) (u1 := w262) (by rw [hact,hnx]) hr
  refine mk_mc H m' fun w264 H _=> ?_
  exact mexit H (i := 5) (j := 4) rfl rfl fun u' H' _=> hRA _ H'.ext
 rw [decide_eq_false n4]
 refine Br.f rfl ?_
 by_cases n5 : Opr.bl o.1 = [84,109]
 ·rw [decide_eq_true n5]
  have hact : actF g f m (Opr.bl o.1) L K n = movedF m (if Mat.okM (six n) = true then some (six n) else none) := by unfold actF; rw [if_neg n1,if_neg n2,if_neg n3,if_neg n4,if_pos n5]; rfl
  have hn6 : n.length = 6 := by
   rw [hnl,n5]
   decide +kernel
  obtain ⟨a,ha,_⟩ := hiv.get (i := 0) (by omega)
  have hlen := hiv.1
  have ivD := hiv.keep (Ext.refl (fun _=> False) w').drew
  have HD := H.drew
  let SS : World -> Prop := fun v=> IV v r48 n
  refine Br.t rfl ⟨SS,ivD,?_⟩
  rw [ha,hlen,hn6]
  refine ⟨by decide,by decide,Nn.of (ivS (S := SS) (fun v hv=> hv) (i := 0) (by omega) ha ⟨by decide,by decide,Nn.of (ivS (S := SS) (fun v hv=> hv) (i := 1) (by omega) ha ⟨by decide,by decide,Nn.of (ivS (S := SS) (fun v hv=> hv) (i := 2) (by omega) ha ?_)⟩)⟩)⟩
  refine ⟨by decide,by decide,Nn.of (ivS (S := SS) (fun v hv=> hv) (i := 3) (by omega) ha ⟨by decide,by decide,Nn.of (ivS (S := SS) (fun v hv=> hv) (i := 4) (by omega) ha ⟨by decide,by decide,Nn.of (ivS (S := SS) (fun v hv=> hv) (i := 5) (by omega) ha ?_)⟩)⟩)⟩
  refine HD.nw' (cs := mrow noM) fun w281 H e281=> ⟨ivD.keep e281,?_⟩
  refine stMx H 5 rfl (six n) fun w287 H _=> H.ld 5 rfl (x := (six n).1) rfl (H.ld 5 rfl (x := (six n).2.1) rfl (H.ld 5 rfl (x := (six n).2.2.1) rfl (H.ld 5 rfl (x := (six n).2.2.2.1) rfl (H.ld 5 rfl (x := (six n).2.2.2.2.1) rfl (H.ld 5 rfl (x := (six n).2.2.2.2.2) rfl (?_))))))
  refine (Mat.r_check (six n) _).mono ?_
  rintro r294 w295 ⟨rfl,e295⟩
  have H := H.keep e295
  cases hok : Mat.okM (six n) with
  | false=>
   rw [if_neg (by decide)]
   exact Br.ne (fun _=> mexit H (i := 0) (j := 4) rfl rfl fun u' H' _=> RA.bad (by decide) (by rw [hact,hok]; rfl) H'.ext) fun q=> by cases q
  | true=>
  rw [if_pos rfl]
  rw [hact,hok,if_pos rfl,fixA_ok rfl]
  refine Br.ne (fun q=> absurd rfl q) fun _=> H.ld 5 rfl (x := (six n).1) rfl (H.ld 5 rfl (x := (six n).2.1) rfl (H.ld 5 rfl (x := (six n).2.2.1) rfl (H.ld 5 rfl (x := (six n).2.2.2.1) rfl (H.ld 5 rfl (x := (six n).2.2.2.2.1) rfl (H.ld 5 rfl (x := (six n).2.2.2.2.2) rfl ((H.ld 5 rfl (x := (six n).1) rfl (H.ld 5 rfl (x := (six n).2.1) rfl (H.ld 5 rfl (x := (six n).2.2.1) rfl (H.ld 5 rfl (x := (six n).2.2.2.1) rfl (H.ld 5 rfl (x := (six n).2.2.2.2.1) rfl (H.ld 5 rfl (x := (six n).2.2.2.2.2) rfl (?_)))))))))))))
  have hm : movedF m (some (six n)) = (0,⟨true,six n,six n⟩,[]) := by
   unfold movedF
   rw [hon]
  rw [hm]
  exact mcSt H (j := 4) rfl ⟨true,six n,six n⟩ fun w311 H _=> mcL H (i := 4) rfl ⟨rfl,rfl,Row.view (Row.nil _ TL _),fun j hj=> (no_own j hj).elim,H.ext⟩
 rw [decide_eq_false n5]
 refine Br.f rfl ?_
 have s9 : w17.heap.size <= w'.drew.heap.size := (show Ext (fun _=> False) w17 w'.drew from (e32.tr e50).drew).size
 have fin : ∀ {A : Int × Mc × List GlT} {u u1 : World} {r : MT} {sl : Slc} {e : Int} {gg : GT},w17.heap.size <= u.heap.size -> RA A u r sl e u1 -> Hn w u1 [(w.heap.size,mcc m,TR),(vw5.heap.size,[.string o.1,Slc.v o.2.1,.string o.2.2],TP),(vw6.heap.size,grl gg,TG),(vw7.heap.size,fol x,TF),(vw8.heap.size,mcc mz,TR)] ->
   StT (⟨vw8.heap.size,0,none⟩ : Addr) 0 LiA38 r u1 fun u2=> LdT u2 (⟨vw8.heap.size,0,none⟩ : Addr) 0 LiA38 fun (y : MT)=> RA A w y sl e u2 := fun {A u u1 r sl e gg} hsz hRA H=> by
  have hmc := hRA.mc
  subst hmc
  refine mcSt H (j := 4) rfl A.2.1 fun u2 H2 e2=> mcL H2 (i := 4) rfl ⟨hRA.err,rfl,hRA.gls.keepF e2 fun j hj e=> ?_,fun j hj=> ?_,H2.ext⟩
  ·have := hRA.own j hj
   have e : j = vw8.heap.size := e
   omega
  ·have := hRA.own j hj
   omega
 have H := H.drew
 have hO := hO.keep (Ext.refl (fun _=> False) w').drew
 have h := h.keep (Ext.refl (fun _=> False) w').drew
 have hlenO := hO.args.1
 have argm : ∀ i,i < L.length -> L[i]? = some (arg L i) /\ arg L i ∈ L := fun i hi=> by
  have e : L[i]? = some (arg L i) := by
   unfold arg
   rw [List.getD_eq_getElem?_getD,List.getElem?_eq_getElem hi]
   rfl
  exact ⟨e,List.mem_of_getElem? e⟩
 let SS : GT -> World -> Prop := fun gg v=> Hn w v [(w.heap.size,mcc m,TR),(vw5.heap.size,[.string o.1,Slc.v o.2.1,.string o.2.2],TP),(vw6.heap.size,grl gg,TG),(vw7.heap.size,fol x,TF),(vw8.heap.size,mcc mz,TR)] /\ OV v o.2.1 L
 have hst3 : ∀ (gg : GT) (i : Nat) (hi : i < L.length) {a : Addr} (ha : o.2.1.p = some a) {K1 : ByteArray -> Prop},K1 (arg L i).2.2.2.1 -> LdS (SS gg) ((a.add (i * 6)).add 3) Value.string K1 := fun gg i hi {a} ha {K1} k=>
  ldS_mk (x := (arg L i).2.2.2.1) (fun v hv=> by
   obtain ⟨a',ha',c0,c1,c2,c3,c4,c5⟩ := hv.2.get (argm i hi).1
   rw [ha] at ha'
   cases ha'
   exact c3) k
 by_cases n6 : Opr.bl o.1 = [84,106]
 ·rw [decide_eq_true n6]
  have hact : actF g f m (Opr.bl o.1) L K n = shownF g f m (arg L 0).2.2.2.1 := by unfold actF; rw [if_neg n1,if_neg n2,if_neg n3,if_neg n4,if_neg n5,if_pos n6]
  have hL1 : L.length = 1 := by rw [<- hLt,n6]; decide +kernel
  obtain ⟨a,ha,_⟩ := hO.args.get (argm 0 (by omega)).1
  refine Br.t rfl ⟨SS g,⟨H,hO.args⟩,LdST.blk (ts := LiA38) (pre := []) (post := []) (t := TR) (x := mct m) (fun v hv=> hv.1.get 0 rfl) rfl (gS (fun v hv=> hv.1) (i := 2) rfl (fS (fun v hv=> hv.1) (i := 3) rfl (LdS.of (fun v hv=> hv.1.get 1 rfl) (x := o.2.1) rfl ?_)))⟩
  rw [ha,hlenO,hL1]
  refine ⟨by decide,by decide,Nn.of (hst3 g 0 (by omega) ha ?_)⟩
  rw [hact]
  refine (r_shown (g := g) h m (hO.strs _ (argm 0 (by omega)).2)).mono ?_
  rintro r320 r321 r322 w323 hRA
  exact fin s9 hRA (H.keep hRA.ext)
 rw [decide_eq_false n6]
 refine Br.f rfl ?_
 by_cases n7 : Opr.bl o.1 = [39]
 ·rw [decide_eq_true n7]
  have hact : actF g f m (Opr.bl o.1) L K n = linedF g f m (arg L 0).2.2.2.1 := by unfold actF; rw [if_neg n1,if_neg n2,if_neg n3,if_neg n4,if_neg n5,if_neg n6,if_pos n7]
  have hL1 : L.length = 1 := by rw [<- hLt,n7]; decide +kernel
  obtain ⟨a,ha,_⟩ := hO.args.get (argm 0 (by omega)).1
  refine Br.t rfl ⟨SS g,⟨H,hO.args⟩,LdST.blk (ts := LiA38) (pre := []) (post := []) (t := TR) (x := mct m) (fun v hv=> hv.1.get 0 rfl) rfl (gS (fun v hv=> hv.1) (i := 2) rfl (fS (fun v hv=> hv.1) (i := 3) rfl (LdS.of (fun v hv=> hv.1.get 1 rfl) (x := o.2.1) rfl ?_)))⟩
  rw [ha,hlenO,hL1]
  refine ⟨by decide,by decide,Nn.of (hst3 g 0 (by omega) ha ?_)⟩
  rw [hact]
  refine (r_lined (g := g) h m (hO.strs _ (argm 0 (by omega)).2)).mono ?_
  rintro r320 r321 r322 w323 hRA
  exact fin s9 hRA (H.keep hRA.ext)
 rw [decide_eq_false n7]
 refine Br.f rfl ?_
 by_cases n8 : Opr.bl o.1 = [84,74]
 ·rw [decide_eq_true n8]
  have hact : actF g f m (Opr.bl o.1) L K n = arrF g f m K := by
   unfold actF
   rw [if_neg n1,if_neg n2,if_neg n3,if_neg n4,if_neg n5,if_neg n6,if_neg n7,if_neg (by rw [n8]; decide)]
   rfl
  have hL1 : L.length = 1 := by rw [<- hLt,n8]; decide +kernel
  obtain ⟨a,ha,_⟩ := hO.args.get (argm 0 (by omega)).1
  have cell : ∀ v,SS g v -> v.cell? (a.add (0 * 6)) = some (.int .i64 (arg L 0).1) /\ v.cell? ((a.add (0 * 6)).add 1) = some (.int .i64 (arg L 0).2.1) /\ v.cell? ((a.add (0 * 6)).add 2) = some (.int .i64 (arg L 0).2.2.1) /\ v.cell? ((a.add (0 * 6)).add 3) = some (.string (arg L 0).2.2.2.1) /\ v.cell? ((a.add (0 * 6)).add 4) = some (Slc.v (arg L 0).2.2.2.2.1) /\ v.cell? ((a.add (0 * 6)).add 5) = some (Slc.v (arg L 0).2.2.2.2.2) := fun v hv=> by
   obtain ⟨a',ha',c0,c1,c2,c3,c4,c5⟩ := hv.2.get (argm 0 (by omega)).1
   rw [ha] at ha'
   cases ha'
   exact ⟨c0,c1,c2,c3,c4,c5⟩
  refine Br.t rfl ⟨SS g,⟨H,hO.args⟩,LdST.blk (ts := LiA38) (pre := []) (post := []) (t := TR) (x := mct m) (fun v hv=> hv.1.get 0 rfl) rfl (gS (fun v hv=> hv.1) (i := 2) rfl (fS (fun v hv=> hv.1) (i := 3) rfl (LdS.of (fun v hv=> hv.1.get 1 rfl) (x := o.2.1) rfl ?_)))⟩
  rw [ha,hlenO,hL1]
  refine ⟨by decide,by decide,Nn.of (ldS_mk (x := (arg L 0).1) (fun v hv=> (cell v hv).1) (ldS_mk (x := (arg L 0).2.1) (fun v hv=> (cell v hv).2.1) (ldS_mk (x := (arg L 0).2.2.1) (fun v hv=> (cell v hv).2.2.1) (ldS_mk (x := (arg L 0).2.2.2.1) (fun v hv=> (cell v hv).2.2.2.1) (ldS_mk (x := (arg L 0).2.2.2.2.1) (fun v hv=> (cell v hv).2.2.2.2.1) (ldS_mk (x := (arg L 0).2.2.2.2.2) (fun v hv=> (cell v hv).2.2.2.2.2) ?_))))))⟩
  rw [hact]
  refine (r_array (g := g) h m (o := arg L 0) (hO.kids (by omega)) hO.mostK hO.strsK).mono ?_
  rintro r320 r321 r322 w323 hRA
  exact fin s9 hRA (H.keep hRA.ext)
 rw [decide_eq_false n8]
 refine Br.f rfl ?_
 have n9 : Opr.bl o.1 = [34] := by
  have := hten
  simp only [ten,List.mem_cons,List.not_mem_nil,or_false] at this
  rcases this with h | h | h | h | h | h | h | h | h | h
  ·exact absurd h n1
  ·exact absurd h n2
  ·exact absurd (.inl h) n3
  ·exact absurd (.inr h) n3
  ·exact absurd h n4
  ·exact absurd h n5
  ·exact absurd h n6
  ·exact absurd h n7
  ·exact h
  ·exact absurd h n8
 have hact : actF g f m (Opr.bl o.1) L K n = linedF (spaced g (n.getD 0 0) (n.getD 1 0)) f m (arg L 2).2.2.2.1 := by
  unfold actF
  rw [if_neg n1,if_neg n2,if_neg n3,if_neg n4,if_neg n5,if_neg n6,if_neg n7,if_pos n9]
 have hL3 : L.length = 3 := by rw [<- hLt,n9]; decide +kernel
 have hn2 : n.length = 2 := by
  rw [hnl,n9]
  decide +kernel
 have ivD := hiv.keep (Ext.refl (fun _=> False) w').drew
 obtain ⟨a,ha,_⟩ := hiv.get (i := 0) (by omega)
 have hlen := hiv.1
 let SI : World -> Prop := fun v=> IV v r48 n
 refine ⟨SI,ivD,?_⟩
 rw [ha,hlen,hn2]
 refine ⟨by decide,by decide,Nn.of (ivS (S := SI) (fun v hv=> hv) (i := 0) (by omega) ha ⟨by decide,by decide,Nn.of (ivS (S := SI) (fun v hv=> hv) (i := 1) (by omega) ha ?_)⟩)⟩
 have iown : ∀ j,r48.own j -> w17.heap.size <= j := fun j hj=> by
  have := hio.2 j hj
  have := e32.size
  omega
 refine H.st' 2 (o := 23) rfl (by show 23 < 30; decide) fun w362 H1 e362=> ⟨ivD.keepF e362 fun j hj e=> ?_,?_⟩
 ·have := iown j hj
  have e : j = vw6.heap.size := e
  omega
 refine H1.st' 2 (o := 22) rfl (by show 22 < 30; decide) fun w363 H2 e363=> ?_
 have H2 : Hn w w363 [(w.heap.size,mcc m,TR),(vw5.heap.size,[.string o.1,Slc.v o.2.1,.string o.2.2],TP),(vw6.heap.size,grl (spaced g (n.getD 0 0) (n.getD 1 0)),TG),(vw7.heap.size,fol x,TF),(vw8.heap.size,mcc mz,TR)] := by rw [<- grl_spaced]; exact H2
 have HD := H2.drew
 have hOw : OpV w o L K := hO0
 have hO := hOw.keep HD.ext
 have h := h0.keep HD.ext
 obtain ⟨a2,ha2,_⟩ := hO.args.get (argm 2 (by omega)).1
 have hlenO := hO.args.1
 refine ⟨SS (spaced g (n.getD 0 0) (n.getD 1 0)),⟨HD,hO.args⟩,LdST.blk (ts := LiA38) (pre := []) (post := []) (t := TR) (x := mct m) (fun v hv=> hv.1.get 0 rfl) rfl (gS (fun v hv=> hv.1) (i := 2) rfl (fS (fun v hv=> hv.1) (i := 3) rfl (LdS.of (fun v hv=> hv.1.get 1 rfl) (x := o.2.1) rfl ?_)))⟩
 rw [ha2,hlenO,hL3]
 refine ⟨by decide,by decide,Nn.of (hst3 _ 2 (by omega) ha2 ?_)⟩
 rw [hact]
 refine (r_lined (g := spaced g (n.getD 0 0) (n.getD 1 0)) h m (hO.strs _ (argm 2 (by omega)).2)).mono ?_
 rintro r371 r372 r373 w374 hRA
 refine fin ?_ hRA (HD.keep hRA.ext)
 have := e362.size
 have := e363.size
 have : w363.drew.heap.size = w363.heap.size := rfl
 omega
end
end Ma
end Go.Proofs.YtcblpehnkogfdaaGreatDoor

/- Operators as arguments: their trees; whether they are small. Conditions: none. -/
namespace Go.Proofs.YtcblpehnkogfdaaGreatDoor
namespace Mat
open Sh Fix
open Go.ChangeShapes Go.WideShapes Go.RowKit
set_option maxRecDepth 4000
set_option maxHeartbeats 2000000
section
attribute [local irreducible] Ld St Nw Nn Lt LdS
def OT (w : World) : Nat -> Ob -> Prop
 | 0,_=> False
 | d + 1,o=> (∃ K : List ByteArray,K.length <= maxLen /\ o.2.2.2.2.1.len = K.length /\ ∀ (i : Nat) (b : ByteArray),K[i]? = some b -> ∃ a,o.2.2.2.2.1.p = some a /\ w.cell? (a.add i) = some (.string b)) /\
  ∃ L : List Ob,L.length <= maxLen /\ OV w o.2.2.2.2.2 L /\ ∀ o' ∈ L,OT w d o'
theorem OT.mono {w : World} : ∀ (d : Nat) (o : Ob),OT w d o -> OT w (d + 1) o
 | 0,_,h=> h.elim
 | d + 1,o,h=> by
  obtain ⟨h1,L,h2,h3,h4⟩ := h
  exact ⟨h1,L,h2,h3,fun o' ho=> OT.mono d o' (h4 o' ho)⟩
theorem c_size {w0 : World} : ∀ (d : Nat) (o : Ob) (w : World),OT w0 d o -> Ext (fun _=> False) w0 w -> C25 o w fun r w1=> Ext (fun _=> False) w w1
 | 0,_,_,h,_=> h.elim
 | d + 1,o,w,h,he0=> by
  obtain ⟨⟨K,hK,hKl,hKc⟩,L,hLl,hL,hT⟩ := h
  have hmax : maxLen <= 9223372036854775807 := by decide
  refine T25 o _ _ ?_
  unfold S25
  refine (Hn.start w).nw fun w2 H=> ?_
  simp only [List.nil_append,List.cons_append,List.set_cons_zero,List.set_cons_succ,Nat.zero_add] at H
  iterate 2 refine H.ld 0 rfl rfl ?_
  refine ⟨fun n st w7=> ∃ i : Nat,st.2 = (i : Int) /\ i <= K.length /\ n = K.length - i /\ w7 = w2,K.length,⟨0,rfl,by omega,rfl,rfl⟩,?_⟩
  rintro n ⟨z,st⟩ w7 ⟨i,hst,hi,rfl,rfl⟩
  simp only at hst
  subst hst
  unfold S25L2
  dsimp only
  rw [hKl]
  refine Br.dec (fun e=> ⟨by omega,by omega,?_⟩) fun e=> ?_
  ·have hlt : i < K.length := by omega
   obtain ⟨a,ha,hc⟩ := hKc i _ (List.getElem?_eq_getElem hlt)
   rw [ha,Int.toNat_natCast,Nat.mul_one]
   refine Nn.of (Ld.mk ((he0.tr H.ext).cell_same hc) ?_)
   exact ⟨K.length - (i + 1),by omega,i + 1,by rw [i64_id (by omega)]; rfl,by omega,rfl,rfl⟩
  ·iterate 1 refine H.ld 0 rfl rfl ?_
   refine ⟨fun n st w8=> ∃ i : Nat,st.2 = (i : Int) /\ i <= L.length /\ n = L.length - i /\ Ext (fun _=> False) w w8,L.length,⟨0,rfl,by omega,rfl,H.ext⟩,?_⟩
   rintro n ⟨z,st⟩ w8 ⟨i,hst,hi,rfl,he⟩
   simp only at hst
   subst hst
   unfold S25L1
   dsimp only
   rw [hL.1]
   refine Br.dec (fun e=> ⟨by omega,by omega,?_⟩) fun e=> he
   have hlt : i < L.length := by omega
   have hLi : L[i]? = some L[i] := List.getElem?_eq_getElem hlt
   obtain ⟨p,hp,k0,k1,k2,k3,k4,k5⟩ := (hL.keep (he0.tr he)).get hLi
   rw [hp,Int.toNat_natCast]
   refine Nn.of (Ld.mk k0 (Ld.mk k1 (Ld.mk k2 (Ld.mk k3 (Ld.mk k4 (Ld.mk k5 ?_))))))
   refine (Hn.start w8).nw fun w9 K=> ?_
   simp only [List.nil_append] at K
   iterate 6 (refine K.st 0 rfl (by simp) fun _ K=> ?_; simp only [List.set_cons_zero,List.set_cons_succ,Nat.zero_add] at K)
   iterate 6 refine K.ld 0 rfl rfl ?_
   refine (c_size d L[i] _ (hT _ (List.getElem_mem hlt)) (he0.tr (he.tr K.ext))).mono ?_
   rintro r w10 he10
   exact ⟨L.length - (i + 1),by omega,i + 1,by rw [i64_id (by omega)]; rfl,by omega,rfl,he.tr (K.ext.tr he10)⟩
end
theorem rdC_struct' {P : Program} {w : World} {n : Nat} {t : TypeId} {cs : List Value} {L : List (Nat × TypeId)} (hL : fieldsAt P t = some L) (h : RdC P w (n + 1) t cs) : cs.length = P.cellsOf t /\ ∀ (i o : Nat) (u : TypeId),L[i]? = some (o,u) -> RdC P w n u ((cs.drop o).take (P.cellsOf u)) := by
 unfold RdC at h
 unfold fieldsAt at hL
 split at hL
 ·rename_i fs hu
  rw [hu] at h
  cases hL
  refine ⟨h.1,fun i o u hi=> ?_⟩
  rw [List.getElem?_map] at hi
  obtain ⟨f,h1,h2⟩ := Option.map_eq_some_iff.1 hi
  cases h2
  exact h.2 i f (by simpa using h1)
 ·cases hL
theorem rdC_slice' {P : Program} {w : World} {n k : Nat} {t e : TypeId} {cs : List Value} {α : Type} [Inhabited α] {Q : α -> List Value -> Prop} (hu : P.underlying t = some (.slice e)) (hk : P.cellsOf e = k) (h : RdC P w (n + 1) t cs)
  (hQ : ∀ cs',RdC P w n e cs' -> ∃ q,Q q cs') : ∃ (s : Slc) (L : List α),cs = [Slc.v s] /\ s.len = L.length /\ L.length <= maxLen /\ ∀ (i : Nat) (q : α),L[i]? = some q -> ∃ a cs',s.p = some a /\ (∀ j,j < k -> w.cell? (a.add (i * k + j)) = cs'[j]?) /\ Q q cs' := by
 unfold RdC at h
 rw [hu] at h
 obtain ⟨s,h1,h2⟩ := h
 rcases h2 with rfl | ⟨a,hp,g1,g2,hc⟩
 ·exact ⟨_,[],h1,rfl,Nat.zero_le _,fun i q hi=> by cases hi⟩
 ·rw [hk] at hc
  have h' : ∀ i,∃ q : α,i < s.len -> ∃ cs',(∀ j,j < k -> w.cell? (a.add (i * k + j)) = cs'[j]?) /\ Q q cs' := fun i=> by
   by_cases hi : i < s.len
   ·obtain ⟨cs',hl,hc,hr⟩ := hc i hi
    obtain ⟨q,hq⟩ := hQ cs' hr
    exact ⟨q,fun _=> ⟨cs',hc,hq⟩⟩
   ·exact ⟨default,fun hh=> absurd hh hi⟩
  refine ⟨s,(List.range s.len).map fun i=> Classical.choose (h' i),h1,by simp,by simp; omega,fun i q hi=> ?_⟩
  rw [List.getElem?_map] at hi
  obtain ⟨i',hi1,rfl⟩ := Option.map_eq_some_iff.1 hi
  obtain ⟨hlt,rfl⟩ := List.getElem?_eq_some_iff.1 hi1
  simp only [List.length_range] at hlt
  simp only [List.getElem_range]
  obtain ⟨cs',c1,c2⟩ := Classical.choose_spec (h' i) hlt
  exact ⟨a,cs',hp,c1,c2⟩
theorem ob_fields : fieldsAt Tryz.prog 61 = some [(0,3),(1,2),(2,3),(3,9),(4,32),(5,46)] := by kernel_rfl
theorem ob_rd {w : World} : ∀ (n : Nat) (cs : List Value),RdC Tryz.prog w n 61 cs -> ∃ o : Ob,cs = obrow o /\ OT w n o
 | 0,cs,h=> h.elim
 | 1,cs,h=> ((rdC_struct' ob_fields h).2 0 0 3 rfl).elim
 | n + 2,cs,h=> by
  obtain ⟨hl,hf⟩ := rdC_struct' ob_fields h
  rw [show Tryz.prog.cellsOf 61 = 6 by kernel_rfl] at hl
  obtain ⟨c0,c1,c2,c3,c4,c5,rfl⟩ : ∃ c0 c1 c2 c3 c4 c5,cs = [c0,c1,c2,c3,c4,c5] := by
   match cs,hl with
   | [c0,c1,c2,c3,c4,c5],_=> exact ⟨c0,c1,c2,c3,c4,c5,rfl⟩
  have f0 := hf 0 0 3 rfl
  have f1 := hf 1 1 2 rfl
  have f2 := hf 2 2 3 rfl
  have f3 := hf 3 3 9 rfl
  have f4 := hf 4 4 32 rfl
  have f5 := hf 5 5 46 rfl
  rw [show Tryz.prog.cellsOf 3 = 1 by kernel_rfl] at f0 f2
  rw [show Tryz.prog.cellsOf 2 = 1 by kernel_rfl] at f1
  rw [show Tryz.prog.cellsOf 9 = 1 by kernel_rfl] at f3
  rw [show Tryz.prog.cellsOf 32 = 1 by kernel_rfl] at f4
  rw [show Tryz.prog.cellsOf 46 = 1 by kernel_rfl] at f5
  obtain ⟨x0,e0,_⟩ := rdC_int Tryz.underlying3 f0
  obtain ⟨x1,e1,_⟩ := rdC_int Tryz.underlying2 f1
  obtain ⟨x2,e2,_⟩ := rdC_int Tryz.underlying3 f2
  obtain ⟨x3,e3,_⟩ := rdC_string Tryz.underlying9 f3
  obtain ⟨x4,K,e4,l4,m4,g4⟩ := rdC_slice' (Q := fun (b : ByteArray) cs=> cs = [.string b]) Tryz.underlying32 (show Tryz.prog.cellsOf 9 = 1 by kernel_rfl) f4 fun cs' h=> by
   obtain ⟨s,h1,_⟩ := rdC_string Tryz.underlying9 h
   exact ⟨s,h1⟩
  have : Inhabited Ob := ⟨ob0⟩
  obtain ⟨x5,L,e5,l5,m5,g5⟩ := rdC_slice' (Q := fun (o : Ob) cs=> cs = obrow o /\ OT w n o) Tryz.underlying46 (show Tryz.prog.cellsOf 61 = 6 by kernel_rfl) f5 fun cs' h=> ob_rd n cs' h
  obtain rfl : c0 = .int .i64 x0 := by simpa using e0
  obtain rfl : c1 = .int .i64 x1 := by simpa using e1
  obtain rfl : c2 = .int .i64 x2 := by simpa using e2
  obtain rfl : c3 = .string x3 := by simpa using e3
  obtain rfl : c4 = Slc.v x4 := by simpa using e4
  obtain rfl : c5 = Slc.v x5 := by simpa using e5
  refine ⟨(x0,x1,x2,x3,x4,x5),rfl,⟨K,m4,l4,fun i b hi=> ?_⟩,L,m5,⟨l5,by rw [obs_len,l5],fun j v hj=> ?_⟩,fun o' ho=> ?_⟩
  ·obtain ⟨a,cs',ha,hc,rfl⟩ := g4 i b hi
   have := hc 0 (by omega)
   exact ⟨a,ha,by simpa using this⟩
  ·have hjl : j < L.length * 6 := by
    rw [<- obs_len]
    exact (List.getElem?_eq_some_iff.1 hj).1
   have hi : j / 6 < L.length := by omega
   have hjj : j = j / 6 * 6 + j % 6 := by omega
   have hLi : L[j / 6]? = some L[j / 6] := List.getElem?_eq_getElem hi
   obtain ⟨a,cs',ha,hc,rfl,_⟩ := g5 _ _ hLi
   refine ⟨a,ha,?_⟩
   have h1 := hc (j % 6) (by omega)
   rw [hjj] at hj ⊢
   rw [obs_get hLi (by omega)] at hj
   rw [h1]
   exact hj
  ·obtain ⟨i,hi,rfl⟩ := List.mem_iff_getElem.1 ho
   obtain ⟨_,_,_,_,_,h⟩ := g5 i _ (List.getElem?_eq_getElem hi)
   exact OT.mono n _ h
end Mat
namespace Pat
open Sh Mat Opr
open Go.ChangeShapes Go.WideShapes Go.RowKit
set_option maxRecDepth 4000
def ob0 (L : List Ob) : Ob := L.getD 0 Mat.ob0
theorem rdC_slS {P : Program} {w : World} {n k : Nat} {t e : TypeId} {cs : List Value} {α : Type} [Inhabited α] {Q : α -> List Value -> Prop} (hu : P.underlying t = some (.slice e)) (hk : P.cellsOf e = k) (h : RdC P w n t cs)
  (hQ : ∀ m cs',cs'.length = k -> RdC P w m e cs' -> ∃ q,Q q cs') : ∃ (s : Slc) (L : List α),cs = [Slc.v s] /\ s.len = L.length /\ L.length <= maxLen /\ ∀ (i : Nat) (q : α),L[i]? = some q -> ∃ a cs',s.p = some a /\ (∀ j,j < k -> w.cell? (a.add (i * k + j)) = cs'[j]?) /\ Q q cs' := by
 obtain ⟨s,m,h1,h2⟩ := rdC_slice hu h
 rcases h2 with rfl | ⟨a,hp,g1,g2,hc⟩
 ·exact ⟨_,[],h1,rfl,Nat.zero_le _,fun i q hi=> by cases hi⟩
 ·rw [hk] at hc
  have h' : ∀ i,∃ q : α,i < s.len -> ∃ cs',(∀ j,j < k -> w.cell? (a.add (i * k + j)) = cs'[j]?) /\ Q q cs' := fun i=> by
   by_cases hi : i < s.len
   ·obtain ⟨cs',hl,hc,hr⟩ := hc i hi
    obtain ⟨q,hq⟩ := hQ m cs' hl hr
    exact ⟨q,fun _=> ⟨cs',hc,hq⟩⟩
   ·exact ⟨default,fun hh=> absurd hh hi⟩
  refine ⟨s,(List.range s.len).map fun i=> Classical.choose (h' i),h1,by simp,by simp; omega,fun i q hi=> ?_⟩
  rw [List.getElem?_map] at hi
  obtain ⟨i',hi1,rfl⟩ := Option.map_eq_some_iff.1 hi
  obtain ⟨hlt,rfl⟩ := List.getElem?_eq_some_iff.1 hi1
  simp only [List.length_range] at hlt
  simp only [List.getElem_range]
  obtain ⟨cs',c1,c2⟩ := Classical.choose_spec (h' i) hlt
  exact ⟨a,cs',hp,c1,c2⟩
abbrev OpT : Type := ByteArray × Slc × ByteArray
def oprow (o : OpT) : List Value := [.string o.1,Slc.v o.2.1,.string o.2.2]
abbrev OpA : Type := OpT × List Ob
def OpOk (w : World) (q : OpA) : Prop := q.1.1.size <= maxLen /\ ∃ n,q.2.length <= maxLen /\ OV w q.1.2.1 q.2 /\ ∀ o ∈ q.2,OT w n o
structure OpsV (w : World) (s : Slc) (P : List OpA) : Prop where
 len : s.len = P.length
 most : P.length <= maxLen
 at' : ∀ (i : Nat) (q : OpA),P[i]? = some q -> ∃ a,s.p = some a /\ w.cell? (a.add (i * 3)) = some (.string q.1.1) /\ w.cell? ((a.add (i * 3)).add 1) = some (Slc.v q.1.2.1) /\ w.cell? ((a.add (i * 3)).add 2) = some (.string q.1.2.2)
 ok : ∀ q ∈ P,OpOk w q
theorem op_fields : fieldsAt Tryz.prog 48 = some [(0,9),(1,46),(2,9)] := by kernel_rfl
theorem op_rd {w : World} {n : Nat} {cs : List Value} (h : RdC Tryz.prog w n 48 cs) : ∃ q : OpA,cs = oprow q.1 /\ OpOk w q := by
 obtain ⟨hl,m,hf⟩ := rdC_struct op_fields h
 rw [show Tryz.prog.cellsOf 48 = 3 by kernel_rfl] at hl
 obtain ⟨c0,c1,c2,rfl⟩ : ∃ c0 c1 c2,cs = [c0,c1,c2] := by
  match cs,hl with
  | [c0,c1,c2],_=> exact ⟨c0,c1,c2,rfl⟩
 have f0 := hf 0 0 9 rfl
 have f1 := hf 1 1 46 rfl
 have f2 := hf 2 2 9 rfl
 rw [show Tryz.prog.cellsOf 9 = 1 by kernel_rfl] at f0 f2
 rw [show Tryz.prog.cellsOf 46 = 1 by kernel_rfl] at f1
 obtain ⟨x0,e0,z0⟩ := rdC_string Tryz.underlying9 f0
 obtain ⟨x2,e2,_⟩ := rdC_string Tryz.underlying9 f2
 cases m with
 | zero=> exact f1.elim
 | succ m=>
  have : Inhabited Ob := ⟨Mat.ob0⟩
  obtain ⟨x1,L,e1,l1,m1,g1⟩ := rdC_slice' (Q := fun (o : Ob) cs=> cs = obrow o /\ OT w m o) Tryz.underlying46 (show Tryz.prog.cellsOf 61 = 6 by kernel_rfl) f1 fun cs' h=> ob_rd m cs' h
  obtain rfl : c0 = .string x0 := by simpa using e0
  obtain rfl : c1 = Slc.v x1 := by simpa using e1
  obtain rfl : c2 = .string x2 := by simpa using e2
  refine ⟨((x0,x1,x2),L),rfl,z0,m,m1,⟨l1,by rw [obs_len,l1],fun j v hj=> ?_⟩,fun o' ho=> ?_⟩
  ·have hjl : j < L.length * 6 := by
    rw [<- obs_len]
    exact (List.getElem?_eq_some_iff.1 hj).1
   have hi : j / 6 < L.length := by omega
   have hjj : j = j / 6 * 6 + j % 6 := by omega
   have hLi : L[j / 6]? = some L[j / 6] := List.getElem?_eq_getElem hi
   obtain ⟨a,cs',ha,hc,rfl,_⟩ := g1 _ _ hLi
   refine ⟨a,ha,?_⟩
   have h1 := hc (j % 6) (by omega)
   rw [hjj] at hj ⊢
   rw [obs_get hLi (by omega)] at hj
   rw [h1]
   exact hj
  ·obtain ⟨i,hi,rfl⟩ := List.mem_iff_getElem.1 ho
   obtain ⟨_,_,_,_,_,h⟩ := g1 i _ (List.getElem?_eq_getElem hi)
   exact h
theorem und_ops : Tryz.prog.underlying 22 = some (.slice 48) := by kernel_rfl
theorem ops_arg {H : Type} {enc : TypeId × Value -> H} {W : World} {spare : Nat -> Bool} {held : Bool} {v : Value} {d : DataW H} {ps : List MemPlace} {rr : Reach} {b0 : Nat}
  (h0 : Value.okWide Tryz.prog W rr b0 22 v) (h : DataW.Trod enc Tryz.prog W 0 spare held 22 v d ps) : ∃ (s : Slc) (P : List OpA),v = Slc.v s /\ OpsV W s P := by
 obtain ⟨n,hn⟩ := rdC_arg_slice und_ops h0 h
 have : Inhabited OpA := ⟨((⟨#[]⟩,nilS,⟨#[]⟩),[])⟩
 obtain ⟨s,L,e,l5,m5,g5⟩ := rdC_slS (Q := fun (q : OpA) cs=> cs = oprow q.1 /\ OpOk W q) und_ops (show Tryz.prog.cellsOf 48 = 3 by kernel_rfl) hn fun m cs' hl h=> op_rd h
 refine ⟨s,L,by simpa using e,l5,m5,fun i q hi=> ?_,fun q hq=> ?_⟩
 ·obtain ⟨a,cs',ha,hc,rfl,_⟩ := g5 i q hi
  have h0 := hc 0 (by omega)
  have h1 := hc 1 (by omega)
  have h2 := hc 2 (by omega)
  refine ⟨a,ha,h0,?_,?_⟩
  ·rw [add_add']
   exact h1
  ·rw [add_add']
   exact h2
 ·obtain ⟨i,hi,rfl⟩ := List.mem_iff_getElem.1 hq
  obtain ⟨_,_,_,_,_,h⟩ := g5 i _ (List.getElem?_eq_getElem hi)
  exact h
theorem OpsV.get' {w0 : World} {s : Slc} {Q : List OpA} (h : OpsV w0 s Q) {i : Nat} (hi : i < Q.length) : ∃ a q,s.p = some a /\ OpOk w0 q /\ Q[i]? = some q /\ ∀ w,Ext (fun _=> False) w0 w -> w.cell? (a.add (i * 3)) = some (.string q.1.1) /\ w.cell? ((a.add (i * 3)).add 1) = some (Slc.v q.1.2.1) /\ w.cell? ((a.add (i * 3)).add 2) = some (.string q.1.2.2) := by
 have hq : Q[i]? = some Q[i] := List.getElem?_eq_getElem hi
 obtain ⟨a,ha,c0,c1,c2⟩ := h.at' i _ hq
 exact ⟨a,Q[i],ha,h.ok _ (List.getElem_mem hi),hq,fun w E=> ⟨E.cell_same c0,E.cell_same c1,E.cell_same c2⟩⟩
end Pat
namespace Ma
open Sh Mat Fix Fo Sw Opr Pat
set_option maxRecDepth 8000
set_option maxHeartbeats 4000000
attribute [local irreducible] Ld Sh.St Nw Nn Lt LdS
open Classical in
noncomputable def kf (w : World) (a : Ob) : List Ob := if h : ∃ K : List Ob,K.length <= maxLen /\ OV w a.2.2.2.2.2 K then Classical.choose h else []
theorem kf_spec {w : World} {n : Nat} {a : Ob} (h : OT w n a) : (kf w a).length <= maxLen /\ OV w a.2.2.2.2.2 (kf w a) := by
 have hx : ∃ K : List Ob,K.length <= maxLen /\ OV w a.2.2.2.2.2 K := by
  cases n with
  | zero=> exact h.elim
  | succ n=>
   obtain ⟨_,L,h1,h2,_⟩ := h
   exact ⟨L,h1,h2⟩
 unfold kf
 rw [dif_pos hx]
 exact Classical.choose_spec hx
def goodA (w : World) (a : Ob) : Prop := a.2.2.2.1.size <= 200 /\ ∀ k ∈ kf w a,k.2.2.2.1.size <= 100
theorem c_small {w0 : World} {l : Slc} {Q : List Pat.OpA} (hP : OpsV w0 l Q) (x : FT) (w : World) (E : Ext (fun _=> False) w0 w) : C9 l x w fun r w1=> Ext (fun _=> False) w w1 /\ (r = true -> ∀ q ∈ Q,∀ a ∈ q.2,goodA w0 a) := by
 refine T9 _ _ _ _ ?_
 unfold S9
 refine (Hn.start w).nw (cs := fol x) fun w3 H=> ?_
 have hE := H.ext
 have hlen := hP.len
 have hmost := hP.most
 have hmax : maxLen <= 9223372036854775807 := by decide
 have no : ∀ {v : World},Ext (fun _=> False) w v -> (Ext (fun _=> False) w v /\ (false = true -> ∀ q ∈ Q,∀ a ∈ q.2,goodA w0 a)) := fun E=> ⟨E,fun h=> by cases h⟩
 rw [hlen]
 refine Br.dec (fun _=> no hE) fun _=> H.ld 0 rfl (x := x.2.2.2.1) rfl (Br.dec (fun _=> no hE) fun _=> H.ld 0 rfl (x := x.2.2.2.2.2.2) rfl (Br.dec (fun _=> no hE) fun _=> H.ld 0 rfl (x := x.2.2.2.2.2.1) rfl (Br.dec (fun _=> no hE) fun _=> ?_)))
 clear H
 refine ⟨fun n st v=> ∃ i : Nat,st = (i : Int) /\ i <= Q.length /\ n = Q.length - i /\ Ext (fun _=> False) w v /\ ∀ (j : Nat) (q : Pat.OpA),j < i -> Q[j]? = some q -> ∀ a ∈ q.2,goodA w0 a,Q.length,⟨0,rfl,Nat.zero_le _,rfl,hE,fun j q hj=> absurd hj (Nat.not_lt_zero _)⟩,?_⟩
 rintro n st v ⟨i,rfl,hi,rfl,ev,hall⟩
 unfold S9L3
 rw [hlen]
 refine Br.dec (fun q=> ⟨by omega,by omega,?_⟩) fun q=> ⟨ev,fun _ q hq a ha=> ?_⟩
 case refine_2=>
  obtain ⟨j,hj⟩ := List.mem_iff_getElem?.1 hq
  exact hall j q (by have := (List.getElem?_eq_some_iff.1 hj).1; omega) hj a ha
 obtain ⟨ad,q,hp,⟨_,d,hqm,hov,hot⟩,hqi,hcell⟩ := hP.get' (show i < Q.length by omega)
 obtain ⟨k0,k1,k2⟩ := hcell v (E.tr ev)
 rw [hp,Int.toNat_natCast]
 refine Nn.of (Ld.mk k0 (Ld.mk k1 (Ld.mk k2 ?_)))
 refine (Hn.start v).nw fun w17 H=> ?_
 simp only [List.nil_append,List.cons_append,List.set_cons_zero,List.set_cons_succ,Nat.zero_add] at H
 iterate 3 (refine H.st 0 rfl (by simp) fun _ H=> ?_; simp only [List.nil_append,List.cons_append,List.set_cons_zero,List.set_cons_succ,Nat.zero_add] at H)
 refine H.ld 0 rfl (x := q.1.2.1) rfl ?_
 have e20 := ev.tr H.ext
 clear H
 have hlq := hov.1
 refine ⟨fun n st v=> ∃ j : Nat,st = (j : Int) /\ j <= q.2.length /\ n = q.2.length - j /\ Ext (fun _=> False) w v /\ ∀ (j' : Nat) (a : Ob),j' < j -> q.2[j']? = some a -> goodA w0 a,q.2.length,⟨0,rfl,Nat.zero_le _,rfl,e20,fun j a hj=> absurd hj (Nat.not_lt_zero _)⟩,?_⟩
 rintro n2 st v2 ⟨j,rfl,hj,rfl,ev2,hall2⟩
 unfold S9L2
 rw [hlq]
 refine Br.dec (fun q2=> ⟨by omega,by omega,?_⟩) fun q2=> ?_
 case refine_2=>
  refine ⟨Q.length - (i + 1),by omega,i + 1,by rw [i64_id (by omega)]; rfl,by omega,rfl,ev2,fun j' q' hj' hq'=> ?_⟩
  by_cases e : j' = i
  ·subst e
   rw [hqi] at hq'
   cases hq'
   intro a ha
   obtain ⟨z,hz⟩ := List.mem_iff_getElem?.1 ha
   exact hall2 z a (by have := (List.getElem?_eq_some_iff.1 hz).1; omega) hz
  ·exact hall j' q' (by omega) hq'
 have hjl : j < q.2.length := by omega
 have gj : q.2[j]? = some q.2[j] := List.getElem?_eq_getElem hjl
 obtain ⟨a2,ha2,c0,c1,c2,c3,c4,c5⟩ := (hov.keep (E.tr ev2)).get gj
 have hota := hot _ (List.getElem_mem hjl)
 generalize q.2[j] = a at *
 rw [ha2,Int.toNat_natCast]
 refine Nn.of (Ld.mk c0 (Ld.mk c1 (Ld.mk c2 (Ld.mk c3 (Ld.mk c4 (Ld.mk c5 ?_))))))
 refine (Hn.start v2).nw fun w32 H=> ?_
 simp only [List.nil_append,List.cons_append,List.set_cons_zero,List.set_cons_succ,Nat.zero_add] at H
 iterate 6 (refine H.st 0 rfl (by simp) fun _ H=> ?_; simp only [List.nil_append,List.cons_append,List.set_cons_zero,List.set_cons_succ,Nat.zero_add] at H)
 iterate 6 refine H.ld 0 rfl rfl ?_
 refine (c_size d a _ hota (E.tr (ev2.tr H.ext))).mono ?_
 rintro r54 w55 e55
 have H := H.keep e55
 refine Br.dec (fun _=> no (ev2.tr H.ext)) fun _=> H.ld 0 rfl (x := a.2.2.2.1) rfl (Br.dec (fun _=> no (ev2.tr H.ext)) fun h200=> H.ld 0 rfl (x := a.2.2.2.2.2) rfl ?_)
 have e3 := ev2.tr H.ext
 clear H
 obtain ⟨hkm,hkv⟩ := kf_spec hota
 have hlk := hkv.1
 refine ⟨fun n st v=> ∃ z : Nat,st = (z : Int) /\ z <= (kf w0 a).length /\ n = (kf w0 a).length - z /\ Ext (fun _=> False) w v /\ ∀ (z' : Nat) (k : Ob),z' < z -> (kf w0 a)[z']? = some k -> k.2.2.2.1.size <= 100,(kf w0 a).length,⟨0,rfl,Nat.zero_le _,rfl,e3,fun j a hj=> absurd hj (Nat.not_lt_zero _)⟩,?_⟩
 rintro n3 st v3 ⟨z,rfl,hz,rfl,ev3,hall3⟩
 unfold S9L1
 rw [hlk]
 refine Br.dec (fun q3=> ⟨by omega,by omega,?_⟩) fun q3=> ?_
 case refine_2=>
  refine ⟨q.2.length - (j + 1),by omega,j + 1,by rw [i64_id (by omega)]; rfl,by omega,rfl,ev3,fun j' a' hj' ha'=> ?_⟩
  by_cases e : j' = j
  ·subst e
   rw [gj] at ha'
   cases ha'
   refine ⟨by omega,fun k hk=> ?_⟩
   obtain ⟨z',hz'⟩ := List.mem_iff_getElem?.1 hk
   exact hall3 z' k (by have := (List.getElem?_eq_some_iff.1 hz').1; omega) hz'
  ·exact hall2 j' a' (by omega) ha'
 have hzl : z < (kf w0 a).length := by omega
 have gz : (kf w0 a)[z]? = some (kf w0 a)[z] := List.getElem?_eq_getElem hzl
 obtain ⟨a3,ha3,d0,d1,d2,d3,d4,d5⟩ := (hkv.keep (E.tr ev3)).get gz
 generalize (kf w0 a)[z] = k at *
 rw [ha3,Int.toNat_natCast]
 refine Nn.of (Ld.mk d0 (Ld.mk d1 (Ld.mk d2 (Ld.mk d3 (Ld.mk d4 (Ld.mk d5 ?_))))))
 refine (Hn.start v3).nw fun w68 H=> ?_
 simp only [List.nil_append,List.cons_append,List.set_cons_zero,List.set_cons_succ,Nat.zero_add] at H
 iterate 6 (refine H.st 0 rfl (by simp) fun _ H=> ?_; simp only [List.nil_append,List.cons_append,List.set_cons_zero,List.set_cons_succ,Nat.zero_add] at H)
 refine H.ld 0 rfl (x := k.2.2.2.1) rfl (Br.dec (fun _=> no (ev3.tr H.ext)) fun h100=> ?_)
 refine ⟨(kf w0 a).length - (z + 1),by omega,z + 1,by rw [i64_id (by omega)]; rfl,by omega,rfl,ev3.tr H.ext,fun z' k' hz' hk'=> ?_⟩
 by_cases e : z' = z
 ·subst e
  rw [gz] at hk'
  cases hk'
  omega
 ·exact hall3 z' k' (by omega) hk'
end Ma
end Go.Proofs.YtcblpehnkogfdaaGreatDoor

/- Text machines: the law that both sides do the same, walked. Conditions: sizes, the laid tables. -/
namespace Go.Proofs.YtcblpehnkogfdaaGreatDoor
namespace Ma
open Sh Mat Fix Fo Sw Opr Pat
set_option maxRecDepth 8000
set_option maxHeartbeats 4000000
section
variable {g : GT} {f : Font}
theorem showF_len {tx : Mx} {gl : List GlT} {s : ByteArray} (h : gl.length <= 16384) : (showF g f tx gl s).2.1.length <= 16384 := by
 unfold showF
 split
 ·exact h
 ·split
  ·exact h
  ·show (gl ++ _).length <= 16384
   rw [List.length_append]
   omega
theorem kidF_len {tx : Mx} {gl : List GlT} {k : Ob} (h : gl.length <= 16384) : (kidF g f tx gl k).2.1.length <= 16384 := by
 unfold kidF
 split
 ·exact showF_len h
 ·split
  ·exact h
  ·exact h
theorem rowF_len : ∀ (K : List Ob) {tx : Mx} {gl : List GlT},gl.length <= 16384 -> (rowF g f K tx gl).2.1.length <= 16384
 | [],tx,gl,h=> h
 | k :: K,tx,gl,h=> by
  unfold rowF
  split
  ·exact h
  ·exact rowF_len K (kidF_len h)
theorem shownF_len {m : Mc} {s : ByteArray} : (shownF g f m s).2.2.length <= 16384 := by
 unfold shownF
 exact showF_len (by simp)
theorem linedF_len {m : Mc} {s : ByteArray} : (linedF g f m s).2.2.length <= 16384 := by
 unfold linedF
 split
 ·exact shownF_len
 ·simp
theorem movedF_len {m : Mc} {p : Option Mx} : (movedF m p).2.2.length <= 16384 := by
 unfold movedF
 split <;> simp
theorem actF_len {m : Mc} {nm : Opr.By} {L K : List Ob} {n : List Int} : (actF g f m nm L K n).2.2.length <= 16384 := by
 unfold actF
 repeat' split
 ·simp
 ·simp
 ·exact movedF_len
 ·exact movedF_len
 ·exact movedF_len
 ·exact movedF_len
 ·exact shownF_len
 ·exact linedF_len
 ·exact linedF_len
 ·simp
 ·exact rowF_len K (by simp)
theorem doF_len {m : Mc} {nm d : Opr.By} {L K : List Ob} : (doF g f m nm L K d).2.2.length <= 16384 := by
 unfold doF
 split
 ·simp
 ·split
  ·simp
  ·split
   ·simp
   ·split
    ·simp
    ·split
     ·simp
     ·exact actF_len
end
attribute [local irreducible] Ld Sh.St Nw Nn Lt LdS
section
variable {w : World} {x : FT} {f : Font} {l : Slc} {Q : List Pat.OpA}
theorem c_does (hT : TB w) (hP : OpsV w l Q) (g : GT) (h : FoV w x f) {code : Int} (hc : I64 code) : C3 l g x code w fun r w1=> r = true /\ Ext (fun _=> False) w w1 := by
 refine T3 _ _ _ _ _ _ ?_
 unfold S3
 refine (Hn.start w).nw (cs := grl g) fun vw5 H=> H.nw (cs := fol x) fun vw6 H=> ?_
 refine (c_new _).mono ?_
 rintro r7 w8 ⟨xb,rfl,gx,bx,e8⟩
 have H : Hn w w8 [(w.heap.size,grl g,TG),(vw5.heap.size,fol x,TF),(xb,mcc m0,TK)] := (H.keep e8).push bx (by have := H.size; omega) fun hm=> by have := H.all_lt hm; omega
 clear bx
 refine (r_new _).mono ?_
 rintro r9 w10 ⟨rfl,e10⟩
 have H := H.keep e10
 refine mk_mc H m0 fun w12 H _=> ?_
 have H : Hn w w12 [(w.heap.size,grl g,TG),(vw5.heap.size,fol x,TF),(xb,mcc m0,TK),(w10.heap.size,mcc m0,TR)] := H
 refine Sh.Br.f rfl (fL H (i := 1) rfl ((c_small hP x _ H.ext).mono ?_))
 rintro r19 w20 ⟨e20,hsm⟩
 have H := H.keep e20
 cases r19 with
 | false=>
  refine Sh.Br.t rfl ((c_lives (hT.keep H.ext)).mono ?_)
  rintro r21 w22 ⟨rfl,e22⟩
  exact ⟨rfl,H.ext.tr e22⟩
 | true=>
 have hsm := hsm rfl
 refine Sh.Br.f rfl (gL H (i := 0) rfl (fL H (i := 1) rfl ((c_stepW (g := g) (hT.keep H.ext) (h.keep H.ext) hc).mono ?_)))
 rintro r25 r26 w27 ⟨h25,e27⟩
 have H := H.keep e27
 refine gL H (i := 0) rfl (fL H (i := 1) rfl ((r_Step (g := g) (h.keep H.ext) hc).mono ?_))
 rintro r30 r31 w32 ⟨h30,e32⟩
 have H := H.keep e32
 rw [<- h25] at h30
 obtain ⟨rfl,rfl⟩ := Prod.mk.inj h30
 refine Br.ne (fun q=> absurd rfl q) fun _=> Br.ne (fun q=> absurd rfl q) fun _=> ?_
 have hlen := hP.len
 have hmost := hP.most
 have hmax : maxLen <= 9223372036854775807 := by decide
 refine ⟨fun n st v=> ∃ (i : Nat) (mc : Mc),st = (i : Int) /\ i <= Q.length /\ n = Q.length - i /\ Hn w v [(w.heap.size,grl g,TG),(vw5.heap.size,fol x,TF),(xb,mcc mc,TK),(w10.heap.size,mcc mc,TR)],Q.length,⟨0,m0,rfl,Nat.zero_le _,rfl,H⟩,?_⟩
 clear H
 rintro n st v ⟨i,mc,rfl,hi,rfl,H⟩
 unfold S3L1
 rw [hlen]
 refine Br.dec (fun q=> ⟨by omega,by omega,?_⟩) fun q=> ?_
 case refine_2=>
  refine (c_lives (hT.keep H.ext)).mono ?_
  rintro r21 w22 ⟨rfl,e22⟩
  exact ⟨rfl,H.ext.tr e22⟩
 obtain ⟨ad,q,hp,hok,hqi,hcell⟩ := hP.get' (show i < Q.length by omega)
 obtain ⟨k0,k1,k2⟩ := hcell v H.ext
 have hgood := hsm q (List.mem_of_getElem? hqi)
 obtain ⟨_,d,hqm,hov,hot⟩ := hok
 rw [hp,Int.toNat_natCast]
 refine Nn.of (Ld.mk k0 (Ld.mk k1 (Ld.mk k2 ?_)))
 have hO : OpV w q.1 q.2 (kf w (arg q.2 0)) := by
  have hm : 0 < q.2.length -> arg q.2 0 ∈ q.2 := fun h0=> by
   have e : q.2[0]? = some (arg q.2 0) := by
    unfold arg
    rw [List.getD_eq_getElem?_getD,List.getElem?_eq_getElem h0]
    rfl
   exact List.mem_of_getElem? e
  by_cases h0 : 0 < q.2.length
  ·have hs := kf_spec (hot _ (hm h0))
   exact ⟨hov,fun _=> hs.2,by omega,by omega,fun k hk=> by have := (hgood k hk).1; omega,fun k hk=> by have := (hgood _ (hm h0)).2 k hk; omega⟩
  ·have hnil : q.2 = [] := List.length_eq_zero_iff.1 (by omega)
   have ha : arg q.2 0 = Mat.ob0 := by rw [hnil]; rfl
   refine ⟨hov,fun hh=> absurd hh h0,by omega,?_,fun k hk=> by have := (hgood k hk).1; omega,?_⟩
   all_goals
    rw [ha]
    have hx : ∃ K : List Ob,K.length <= maxLen /\ OV w Mat.ob0.2.2.2.2.2 K := ⟨[],by simp,ov_nil w⟩
    have hs : (kf w Mat.ob0).length <= maxLen /\ OV w Mat.ob0.2.2.2.2.2 (kf w Mat.ob0) := by
     unfold kf
     rw [dif_pos hx]
     exact Classical.choose_spec hx
    have hz : (kf w Mat.ob0).length = 0 := by
     have := hs.2.1
     have e : Mat.ob0.2.2.2.2.2.len = 0 := rfl
     omega
   ·omega
   ·intro k hk
    rw [List.length_eq_zero_iff.1 hz] at hk
    exact (List.not_mem_nil hk).elim
 refine H.nw (cs := [.string ⟨#[]⟩,Slc.v ⟨none,0,0⟩,.string ⟨#[]⟩]) fun w40 H=> ?_
 simp only [List.nil_append,List.cons_append,List.set_cons_zero,List.set_cons_succ,Nat.zero_add] at H
 iterate 3 (refine H.st 4 rfl (by simp) fun _ H=> ?_; simp only [List.nil_append,List.cons_append,List.set_cons_zero,List.set_cons_succ,Nat.zero_add] at H)
 rename_i w43
 have l43 := H.lt 3 rfl
 refine H.ld 4 rfl (x := q.1.1) rfl (H.ld 4 rfl (x := q.1.2.1) rfl (H.ld 4 rfl (x := q.1.2.2) rfl (gL H (i := 0) rfl (fL H (i := 1) rfl ?_))))
 refine (c_Do (g := g) (o := q.1) (hT.keep H.ext) (h.keep H.ext) (H.get 2 rfl) (hO.keep H.ext)).mono ?_
 rintro r49 r50 w51 ⟨mc',gl,hF,hb,he,hv,how⟩
 have H := H.turn 2 rfl hb he
 simp only [List.nil_append,List.cons_append,List.set_cons_zero,List.set_cons_succ,Nat.zero_add] at H
 clear hb
 refine mcL H (i := 3) rfl (H.ld 4 rfl (x := q.1.1) rfl (H.ld 4 rfl (x := q.1.2.1) rfl (H.ld 4 rfl (x := q.1.2.2) rfl (gL H (i := 0) rfl (fL H (i := 1) rfl ?_)))))
 refine (r_Do (g := g) (o := q.1) (h.keep H.ext) mc (hO.keep H.ext)).mono ?_
 rintro r58 r59 r60 w61 hRA
 rw [hF] at hRA
 have H := H.keep hRA.ext
 have hv := hv.keep hRA.ext
 have hv2 := hRA.gls
 have he2 := hRA.err
 have hmc := hRA.mc
 have how2 := hRA.own
 dsimp only at hv2 he2 hmc
 subst he2 hmc
 have hgl : gl.length <= 16384 := by
  have := doF_len (g := g) (f := f) (m := mc) (nm := Opr.bl q.1.1) (d := Opr.bl q.1.2.2) (L := q.2) (K := kf w (arg q.2 0))
  rw [hF] at this
  exact this
 refine mk_mc H mc' fun w63 H e63=> ?_
 have H : Hn w w63 [(w.heap.size,grl g,TG),(vw5.heap.size,fol x,TF),(xb,mcc mc',TK),(w10.heap.size,mcc mc,TR),(v.heap.size,[.string q.1.1,Slc.v q.1.2.1,.string q.1.2.2],TP),(w61.heap.size,mcc mc',TR)] := H
 have hv := hv.keep e63
 have hv2 := hv2.keep e63
 refine mcL H (i := 5) rfl (mcSt H (j := 3) rfl mc' fun w65 H e65=> ?_)
 have hv := hv.keepF e65 fun j hj e=> by
  have := how j hj
  have e : j = w10.heap.size := e
  omega
 have hv2 := hv2.keepF e65 fun j hj e=> by
  have := how2 j hj
  have e : j = w10.heap.size := e
  have := he.size
  omega
 have eD := (Ext.refl (fun _=> False) w65).drew
 refine (r_same (hv.keep eD) (hv2.keep eD) (by omega)).mono ?_
 rintro r66 w67 ⟨rfl,e67⟩
 have H := (H.keep eD).keep e67
 refine reg' H (Sh.Br.f rfl (Br.ne (fun q=> absurd rfl q) fun _=> LdS.of (fun w' hw=> hw.get 3 rfl) (x := mc'.on) rfl ?_))
 refine (c_on (H.get 2 rfl)).mono ?_
 rintro r70 w71 ⟨rfl,rfl⟩
 refine ⟨H,Sh.Br.f (by simp) (LdS.of (fun w' hw=> hw.get 3 rfl) (x := mc'.text.1) rfl (LdS.of (fun w' hw=> hw.get 3 rfl) (x := mc'.text.2.1) rfl (LdS.of (fun w' hw=> hw.get 3 rfl) (x := mc'.text.2.2.1) rfl (LdS.of (fun w' hw=> hw.get 3 rfl) (x := mc'.text.2.2.2.1) rfl (LdS.of (fun w' hw=> hw.get 3 rfl) (x := mc'.text.2.2.2.2.1) rfl (LdS.of (fun w' hw=> hw.get 3 rfl) (x := mc'.text.2.2.2.2.2) rfl ?_))))))⟩
 refine (c_matrix (H.get 2 rfl)).mono ?_
 rintro r78 w79 ⟨rfl,e79⟩
 have H := H.keep e79
 refine ⟨H,Sh.Br.f (by simp) ?_⟩
 exact ⟨Q.length - (i + 1),by omega,i + 1,mc',by rw [i64_id (by omega)]; rfl,by omega,rfl,Hn.left (M := [(v.heap.size,[.string q.1.1,Slc.v q.1.2.1,.string q.1.2.2],TP),(w61.heap.size,mcc mc',TR)]) H⟩
end
end Ma
namespace Sw
open Sh Mat Fix Fo
open Go.ChangeShapes Go.WideShapes Go.ChangeAt Go.RowKit
open Go.ChangeMaps (open_string shut_string)
set_option maxRecDepth 100000
theorem of_laidD {W : World} (h : laidMetH Tryz.prog Rows.showDoesUptoRow.laid W) : TB W := by
 rw [MakeChecks.laidMetH_plain _ _ _ (by kernel_rfl)] at h
 refine of_reads h ?_ ?_ ?_
 all_goals first | exact .head _ | exact .tail _ (.head _) | exact .tail _ (.tail _ (.head _)) | exact .tail _ (.tail _ (.tail _ (.head _)))
end Sw
end Go.Proofs.YtcblpehnkogfdaaGreatDoor

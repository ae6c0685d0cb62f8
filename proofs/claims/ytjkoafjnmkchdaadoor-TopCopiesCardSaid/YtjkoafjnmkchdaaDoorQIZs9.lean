/- Deflate: a block with its own codes, the whole. Conditions: sizes. -/
import Derived.Test.YtjkoafjnmkchdaaDoorQIZs8
import Derived.Test.YtjkoafjnmkchdaaDoorQIZs6
import Derived.Test.YtjkoafjnmkchdaaDoorQIZs3
import Derived.Test.YtjkoafjnmkchdaaDoorQIZs4
import Derived.Test.YtjkoafjnmkchdaaDoorQIZs7
import Derived.Test.YtjkoafjnmkchdaaDoorQIZs5
import Derived.Test.YtjkoafjnmkchdaaDoorRows
import Derived.WalkKit
import Derived.ProofKit
import Derived.OpenShut
import Derived.Deep.DeepHandedRow
import Derived.Lib.LaidTab
import Derived.LaidMore
import Derived.Maps.OwnSet
import Derived.ChangeSame
namespace Go.Proofs.YtjkoafjnmkchdaaDoor
namespace Inf
open Sh Bit
set_option linter.unusedVariables false
set_option linter.unusedSimpArgs false
set_option maxRecDepth 4000
set_option maxHeartbeats 4000000
attribute [local irreducible] Ld St Nw Nn Lt LdS
theorem marksF_len (l : List Int) : ∀ (k i : Nat), (marksF l k i).length ≤ 2 * k
  | 0, i => Nat.le_refl _
  | k + 1, i => by
    unfold marksF
    split
    · simp
    · rename_i h
      have h1 := (markAt_bd l (i := i) (by omega)).2.2
      have h2 := marksF_len l k (i + (markAt l i).2)
      rw [List.length_append]
      omega
theorem repB_le (s : Nat) : repB s ≤ 7 := by
  unfold repB
  split
  · decide
  · split <;> decide
theorem PW.base {wA w : World} {wb : Nat} {ws : Slc} {way : Int} {st : WS} (h : PW wA w wA.heap.size wb ws way st) : Ext (fun _ => False) wA w :=
  (Ext.refl _ _).trans h.ext (fun _ h => h) fun j hj e => by omega
theorem Own.bds (o : Own) (ha : ∀ i, 0 ≤ o.a.getD i 0 ∧ o.a.getD i 0 ≤ 15) (hb : ∀ i, 0 ≤ o.b.getD i 0 ∧ o.b.getD i 0 ≤ 15) (i : Nat) : 0 ≤ o.all.getD i 0 ∧ o.all.getD i 0 ≤ 15 := by
  unfold Own.all
  rw [List.getD_eq_getElem?_getD]
  by_cases hi : i < (o.a.take o.na).length
  · rw [List.getElem?_append_left hi, ← List.getD_eq_getElem?_getD, o.ta.take]
    exact ha i
  · rw [List.getElem?_append_right (by omega), ← List.getD_eq_getElem?_getD, o.tb.take]
    exact hb _
/-- What is chosen for these parts: there is one choice alone. -/
structure OwnOf (l : List Prt) (o : Own) : Prop where
  a : Srt.LenOf (cntS l).1 15 o.a
  b : Srt.LenOf (cntS l).2 15 o.b
  c : Srt.LenOf (cntM (marksS o.all)) 7 o.c
theorem OwnOf.one {l : List Prt} {o o' : Own} (h : OwnOf l o) (k : OwnOf l o') : o = o' := by
  obtain ⟨a, b, c⟩ := o
  obtain ⟨a', b', c'⟩ := o'
  have ea : a = a' := h.a.one k.a
  have eb : b = b' := h.b.one k.b
  subst ea eb
  have ec : c = c' := h.c.one k.c
  rw [ec]
/-- foliant/deflate.own -/
theorem c_own {w : World} {s : Slc} {l : List Prt} (hP : PV w s (l.map rawP)) (hl : l.length ≤ 1048576) (hf : Fit l []) : C24 s w (fun r w1 => ∃ o : Own, o.ok ∧ (∀ p ∈ l, Has o.a o.b p) ∧ r = ⟨(o.T l).toArray⟩ ∧ Ext (fun _ => False) w w1 ∧ OwnOf l o) fun _ _ => False := by
  have hoks := Fit.ok hf
  refine T24 _ _ _ _ ?_
  unfold S24
  refine (c_countP hP hl hoks).mono ?_
  rintro r2 r3 w4 ⟨ca, cb, Ia, Ib, CI, e4⟩
  have hla := CI.la
  have hlb := CI.lb
  refine (c_len Ia (m := 15) (by omega) (by decide) (fun i _ => by have := CI.ba i; omega) (by rw [hla]; decide)).mono ?_ fun _ _ h => h
  rintro r5 r6 w7 ⟨e7, la, Ia, capa, lla, ca0, ba, posa, ua⟩
  refine (c_len (Ib.keep e7) (m := 15) (by omega) (by decide) (fun i _ => by have := CI.bb i; omega) (by rw [hlb]; decide)).mono ?_ fun _ _ h => h
  rintro r8 r9 w10 ⟨e10, lb, Ib, capb, llb, cb0, bb, posb, ub⟩
  have hcnt := CI.it
  rw [List.take_length] at hcnt
  have Ia := Ia.keep e10
  have lla : la.length = 286 := by rw [lla, hla]
  have llb : lb.length = 30 := by rw [llb, hlb]
  have E10 := (e4.tr e7).tr e10
  refine (Hn.start w10).nw' fun w11 H e11 => ?_
  simp only [List.nil_append] at H
  have z11 : w10.heap.size < w11.heap.size := H.lt 0 rfl
  refine (c_new (Ia.keep e11)).mono ?_
  rintro r12 r13 w14 ⟨rfl, e14, _, h14⟩
  obtain ⟨t1, rfl, T1⟩ := h14 ca0
  have H := H.keep e14
  refine H.st' 0 rfl (by simp) fun w15 H e15 => ?_
  simp only [List.set_cons_zero, List.set_cons_succ] at H
  have T1 := T1.keep e15 fun j h1 h2 e => by omega
  refine (c_new (Ib.keep H.ext)).mono ?_
  rintro r16 r17 w18 ⟨rfl, e18, _, h18⟩
  obtain ⟨t2, rfl, T2⟩ := h18 cb0
  have H := H.keep e18
  have T1 := T1.keep e18 fun _ _ _ h => h
  have z14 := e14.size
  have z15 := e15.size
  have z18 := e18.size
  refine H.st' 0 rfl (by simp) fun w19 H e19 => ?_
  simp only [List.set_cons_zero, List.set_cons_succ] at H
  have T1 := T1.keep e19 fun j h1 h2 e => by have e : j = w10.heap.size := e; omega
  have T2 := T2.keep e19 fun j h1 h2 e => by have e : j = w10.heap.size := e; omega
  have z19 := e19.size
  have E19 := E10.tr H.ext
  have Ia19 := Ia.keep H.ext
  have Ib19 := Ib.keep H.ext
  have pB := H.get 0 rfl
  refine (c_cut Ia19 capa (by omega) 257 (by omega)).mono ?_
  rintro r20 w21 ⟨Ia20, len20, hw⟩
  replace hw := hw.symm
  subst hw
  refine (c_cut Ib19 capb (by omega) 1 (by omega)).mono ?_
  rintro r22 w21 ⟨Ib22, len22, hw⟩
  replace hw := hw.symm
  subst hw
  -- the lengths, joined
  refine Nw.of ?_
  have e24 := (Ext.refl (fun _ => False) w19).alloc (.cells #[] 3)
  have R0 : Row (w19.alloc (.cells #[] 3)) ⟨some ⟨w19.heap.size, 0, none⟩, 0, 0⟩ 3 1 [] := Row.new w19 #[] 3 1 0 rfl
  have m1 := cutN_spec la 257 la.length
  have m2 := cutN_spec lb 1 lb.length
  obtain ⟨x25, w26, hrun, R25, len25, e26, own25⟩ := elI.app0 (ty := 69) (by decide) R0 rfl (Ia20.keep e24).2 (ints_one _) (by rw [len20]; omega) (by rw [len20]; omega)
  refine ⟨x25, w26, hrun, ?_⟩
  have E26 := (e24.tr e26)
  have z24 := e24.size
  have z26 := e26.size
  obtain ⟨x27, w28, hrun, R27, len27, e28, own27⟩ := elI.app (ty := 69) R25 (Ib22.keep E26).2 (ints_one _) (by rw [len25, len20, len22]; omega) (by rw [len25, len20, len22]; omega)
  refine ⟨x27, w28, hrun, ?_⟩
  have E28 : Ext (fun _ => False) w19 w28 := E26.trans e28 (fun _ h => h) fun j hj e => by
    rcases own25 j e with ⟨a, ha, hb⟩ | e
    · cases ha
      have hb : w19.heap.size = j := hb
      omega
    · omega
  rw [← ints_app] at R27
  -- what is chosen, but for the code of lengths
  have hall : ∀ lc, (Own.mk la lb lc).all = la.take (cutN la 257 la.length) ++ lb.take (cutN lb 1 lb.length) := fun _ => rfl
  have hallb := (Own.mk la lb []).bds ba bb
  rw [← hall []] at R27
  have hlen : (Own.mk la lb []).all.length ≤ 316 := by rw [hall, List.length_append, List.length_take, List.length_take]; omega
  refine (c_marks (IV.row R27) (by omega) hallb).mono ?_
  rintro r29 w30 ⟨hM, e30⟩
  have hML : (marksS (Own.mk la lb []).all).length ≤ 1000 := by
    have := marksF_len (Own.mk la lb []).all (Own.mk la lb []).all.length 0
    have e : marksS (Own.mk la lb []).all = marksF (Own.mk la lb []).all (Own.mk la lb []).all.length 0 := rfl
    rw [e]
    omega
  have hMok := FitM.ok _ _ (marksS_fit hallb).1
  obtain ⟨w32, hrun, hw32⟩ := elI.make (zs := [.int .i64 0]) rfl w30 19 (by omega) (by omega)
  refine ⟨_, w32, hrun, ?_⟩
  rw [flat_zero] at hw32
  have H32 : Hn w30 w32 [(w30.heap.size, ints (List.replicate 19 0), 3)] := by
    rw [hw32]
    exact ((Hn.start w30).keep ((Ext.refl _ _).alloc _)).push (Blk.new _ _ _) (Nat.le_refl _) (by simp)
  have E30 := E19.tr (E28.tr e30)
  have F30 := E28.tr e30
  generalize hMS : marksS (Own.mk la lb []).all = M at *
  refine own_marks hM hML (fun m hm => (hMok m hm).1) rfl H32 fun w33 cm H33 cml cmb cmp cmi => ?_
  refine (c_len (IV.blk (n := 19) (H33.get 0 rfl) cml.symm) (m := 7) (by omega) (by decide) (fun i _ => cmb i) (by rw [cml]; decide)).mono ?_ fun _ _ h => h
  rintro r65 r66 w67 ⟨e67, lc, Ic, capc, llc, cc0, bc, posc, uc⟩
  have llc : lc.length = 19 := by rw [llc, cml]
  refine (c_new Ic).mono ?_
  rintro r68 r69 w70 ⟨rfl, e70, _, h70⟩
  obtain ⟨t3, rfl, T3⟩ := h70 cc0
  refine (c_places w70).mono ?_
  rintro r82 w83 ⟨rfl, e83⟩
  have Ic83 := (Ic.keep e70).keep e83
  have E83 : Ext (fun _ => False) w30 w83 := ((H33.ext.tr e67).tr e70).tr e83
  have z83 := e83.size
  have T3 := T3.keep e83 fun _ _ _ h => h
  have ho_len : (inOrd lc).length = 19 := by unfold inOrd; rw [List.length_map]; rfl
  have ho_get : ∀ i, i < 19 → (inOrd lc).getD i 0 = lc.getD (order.getD i 0) 0 := fun i hi => by
    have hol : i < order.length := hi
    unfold inOrd
    rw [List.getD_eq_getElem?_getD, List.getElem?_map, List.getElem?_eq_getElem hol, List.getD_eq_getElem?_getD (l := order), List.getElem?_eq_getElem hol]
    rfl
  refine ⟨fun m st w84 => ∃ i : Nat, st.2 = (i : Int) ∧ i ≤ 19 ∧ m = 19 - i ∧ Row w84 st.1 3 1 (ints ((inOrd lc).take i)) ∧ Ext (fun _ => False) w83 w84 ∧ ∀ j, st.1.own j → w83.heap.size ≤ j, 19, ⟨0, rfl, by decide, rfl, Row.nil _ _ _, Ext.refl _ _, fun j hj => by obtain ⟨a, ha, _⟩ := hj; cases ha⟩, ?_⟩
  rintro m ⟨sl, i'⟩ w84 ⟨i, hi', hi, rfl, R84, e84, own84⟩
  simp only at hi' R84 own84
  subst hi'
  unfold S24L3
  dsimp only
  refine Br.dec (fun q => ?_) fun q => ?_
  · have hi19 : i < 19 := by omega
    have hox : order.getD i 0 < 19 := order_u _ (by rw [List.getD_eq_getElem?_getD, List.getElem?_eq_getElem (show i < order.length from hi19)]; exact List.getElem_mem _)
    obtain ⟨a, ha, hc⟩ := (Ic83.keep e84).get (i := order.getD i 0) (by omega)
    refine ⟨by omega, by omega, ((order.getD i 0 : Nat) : Int), by rw [Int.toNat_natCast, Nat.mul_one]; exact ord_at hi19, by omega, by rw [Ic83.1]; omega, ?_⟩
    rw [ha]
    refine Nn.of ?_
    rw [Int.toNat_natCast]
    refine Ld.mk (x := lc.getD (order.getD i 0) 0) hc (Nw.of ?_)
    have e1 := (Ext.refl (fun _ => False) w84).alloc (.cells #[.int .i64 (lc.getD (order.getD i 0) 0)] 3)
    have hsl : sl.len = i := by rw [(IV.row R84).1, List.length_take]; omega
    obtain ⟨s', w', hrun, hrow, hlen', hext, hown⟩ := elI.app1 (ty := 69) (ys := [.int .i64 (lc.getD (order.getD i 0) 0)]) (R84.keep e1 fun _ _ h => h) (Blk.new w84 _ _) rfl (fun v hv => by rw [List.mem_singleton.1 hv]; rfl) (by omega) (by omega)
    have z1 := e1.size
    have z84 := e84.size
    refine ⟨s', w', hrun, 19 - (i + 1), by omega, i + 1, by rw [i64_id (by omega)]; rfl, by omega, rfl, ?_, (e84.tr e1).trans hext (fun _ h => h) fun j hj e => by have := own84 j e; omega, fun j hj => ?_⟩
    · have : (inOrd lc).take (i + 1) = (inOrd lc).take i ++ [lc.getD (order.getD i 0) 0] := by rw [← ho_get i hi19, take_one (by omega)]
      rw [this, ints_app]
      exact hrow
    · rcases hown j hj with e | e
      · exact own84 j e
      · omega
  have : i = 19 := by omega
  subst this
  have R84 : Row w84 sl 3 1 (ints (inOrd lc)) := by
    rw [List.take_of_length_le (by omega)] at R84
    exact R84
  refine (c_cut (IV.row R84) (row_cap R84) (by omega) 4 (by omega)).mono ?_
  rintro r93 wA ⟨I93, len93, rfl⟩
  -- everything is laid out: the writer
  generalize hoe : Own.mk la lb lc = o at *
  have oa : o.a = la := by rw [← hoe]
  have ob : o.b = lb := by rw [← hoe]
  have oc : o.c = lc := by rw [← hoe]
  have oall : o.all = (Own.mk la lb []).all := by rw [← hoe]; rfl
  have EA : Ext (fun _ => False) w30 wA := E83.tr e84
  have FA : Ext (fun _ => False) w19 wA := F30.tr EA
  have T1 := T1.keep FA fun _ _ _ h => h
  have T2 := T2.keep FA fun _ _ _ h => h
  have T3 := T3.keep e84 fun _ _ _ h => h
  have MA := hM.keep EA
  have pA := FA.blk pB id
  have PA := hP.keep (E19.tr FA)
  have zA := FA.size
  have zA2 := e84.size
  have zA3 := EA.size
  have hok : o.ok := ⟨by rw [oa]; exact lla, by rw [ob]; exact llb, by rw [oc]; exact llc, by rw [oa]; exact ca0, by rw [ob]; exact cb0, by rw [oc]; exact cc0, by rw [oa]; exact posa 256 CI.e, fun i => by rw [oc]; exact bc i, fun m hm => by
    rw [oall, hMS] at hm
    rw [oc]
    exact ⟨(hMok m hm).1, posc _ (cmp m hm)⟩⟩
  have hof : OwnOf l o := ⟨by rw [oa, ← hcnt]; exact ua, by rw [ob, ← hcnt]; exact ub, by rw [oc, oall, hMS, ← cmi]; exact uc⟩
  have hhas : ∀ p ∈ l, Has o.a o.b p := fun p hp => by
    have hs := CI.seen p (by rw [List.take_length]; exact hp)
    rw [oa, ob]
    unfold Seen at hs
    unfold Has
    rw [lla, llb]
    split
    · rename_i h0
      rw [if_pos h0] at hs
      have := p.b.toNat_lt
      exact ⟨by omega, posa _ hs⟩
    · rename_i h0
      rw [if_neg h0] at hs
      rcases hoks p hp with hh | ⟨_, q3, q4, q5, q6⟩
      · exact absurd hh.1 h0
      · have k1 := (kL_spec q3 q4).1
        have d1 := (kD_spec q5 q6).1
        exact ⟨⟨by omega, posa _ hs.1⟩, by omega, posb _ hs.2⟩
  obtain ⟨n1, n2, n3, n4, n5, n6, n7⟩ := Own.sizes hok
  have na : o.na = cutN la 257 la.length := by rw [← hoe]; rfl
  have nb : o.nb = cutN lb 1 lb.length := by rw [← hoe]; rfl
  have ni : o.ni = cutN (inOrd lc) 4 (inOrd lc).length := by rw [← hoe]; rfl
  rw [← na] at len20
  rw [← nb] at len22
  rw [← ni] at len93 I93
  rw [len20, len22, len93]
  refine (Bit.c_new wA).mono ?_
  rintro r95 w96 ⟨rfl, W, e96⟩
  have P96 : PW wA w96 wA.heap.size wA.heap.size ⟨none, 0, 0⟩ 0 ([], 0) := ⟨W, WInv.zero _, .inl rfl, (fun j hj => by
    rcases hj with e | ⟨a, ha, _⟩
    · omega
    · cases ha), e96.size, e96.mono fun _ _ h => h.elim⟩
  have g0 : ∀ (st : WS) (v n k : Nat), st.1.length ≤ k → (lw st v n).1.length ≤ k + n := fun st v n k h => by have := lw_len st v n; omega
  refine (P96.low (by simp) 1 1 (by decide) (by decide) (.inl (by decide))).mono ?_
  rintro _ w98 ⟨s98, P98, _⟩
  have l98 := g0 ([], 0) 1 1 0 (by simp)
  refine (P98.low (by omega) 2 2 (by decide) (by decide) (.inl (by decide))).mono ?_
  rintro _ w100 ⟨s100, P100, _⟩
  have l100 := g0 _ 2 2 _ l98
  rw [i64_id (n := ((o.na : Nat) : Int) - 257) (by omega), show ((o.na : Nat) : Int) - 257 = ((o.na - 257 : Nat) : Int) by omega, i64_id (n := ((o.nb : Nat) : Int) - 1) (by omega), show ((o.nb : Nat) : Int) - 1 = ((o.nb - 1 : Nat) : Int) by omega, i64_id (n := ((o.ni : Nat) : Int) - 4) (by omega), show ((o.ni : Nat) : Int) - 4 = ((o.ni - 4 : Nat) : Int) by omega]
  refine (P100.low (by omega) (o.na - 257) 5 (by show _ < 32; omega) (by decide) (.inl (by decide))).mono ?_
  rintro _ w102 ⟨s102, P102, _⟩
  have l102 := g0 _ (o.na - 257) 5 _ l100
  refine (P102.low (by omega) (o.nb - 1) 5 (by show _ < 32; omega) (by decide) (.inl (by decide))).mono ?_
  rintro _ w104 ⟨s104, P104, _⟩
  have l104 := g0 _ (o.nb - 1) 5 _ l102
  refine (P104.low (by omega) (o.ni - 4) 4 (by show _ < 16; omega) (by decide) (.inl (by decide))).mono ?_
  rintro _ w106 ⟨s106, P106, _⟩
  have l106 := g0 _ (o.ni - 4) 4 _ l104
  have P106 : PW wA w106 wA.heap.size wA.heap.size s106 1 o.st1 := P106
  have l106 : o.st1.1.length ≤ 17 := l106
  have hoil : ∀ i, i < o.ni → (order.take o.ni)[i]? = some (order.getD i 0) := fun i hi => by
    rw [List.getElem?_take, if_pos hi, List.getElem?_eq_getElem (show i < order.length by show i < 19; omega), List.getD_eq_getElem?_getD, List.getElem?_eq_getElem (show i < order.length by show i < 19; omega)]
    rfl
  have holen : (order.take o.ni).length = o.ni := by rw [List.length_take]; show min o.ni 19 = _; omega
  refine ⟨fun m i' w3 => ∃ (i : Nat) (ws : Slc), i' = (i : Int) ∧ i ≤ o.ni ∧ m = o.ni - i ∧ PW wA w3 wA.heap.size wA.heap.size ws 1 (((order.take o.ni).take i).foldl (wO lc) o.st1) ∧ (((order.take o.ni).take i).foldl (wO lc) o.st1).1.length ≤ 17 + 3 * i, o.ni, ⟨0, s106, rfl, Nat.zero_le _, rfl, P106, l106⟩, ?_⟩
  rintro m i' w3 ⟨i, ws, rfl, hi, rfl, P3, l3⟩
  unfold S24L2
  rw [len93]
  refine Br.dec (fun q => ?_) fun q => ?_
  · have hin : i < o.ni := by omega
    obtain ⟨a, ha, hc⟩ := (I93.keep P3.base).get (i := i) (by rw [List.length_take]; omega)
    rw [take_get hin, ho_get i (by omega)] at hc
    have b7 := bc (order.getD i 0)
    rw [ha]
    refine ⟨by omega, by omega, Nn.of ?_⟩
    rw [Int.toNat_natCast]
    refine Ld.mk (x := lc.getD (order.getD i 0) 0) hc ?_
    have hv : ((lc.getD (order.getD i 0) 0).toNat : Int) = lc.getD (order.getD i 0) 0 := by omega
    have hstep : ((order.take o.ni).take (i + 1)).foldl (wO lc) o.st1 = lw (((order.take o.ni).take i).foldl (wO lc) o.st1) (lc.getD (order.getD i 0) 0).toNat 3 := by
      rw [List.take_add_one, hoil i hin, List.foldl_append]
      rfl
    rw [← hv]
    refine (P3.low (by omega) (lc.getD (order.getD i 0) 0).toNat 3 (by show _ < 8; omega) (by decide) (.inl (by decide))).mono ?_
    rintro _ w5 ⟨s5, P5, _⟩
    have l5 := g0 _ (lc.getD (order.getD i 0) 0).toNat 3 _ l3
    rw [← hstep] at P5 l5
    exact ⟨o.ni - (i + 1), by omega, i + 1, s5, by rw [i64_id (by omega)]; rfl, by omega, rfl, P5, by omega⟩
  have : i = o.ni := by omega
  subst this
  rw [List.take_of_length_le (by omega)] at P3 l3
  have hst2 : (order.take o.ni).foldl (wO lc) o.st1 = o.st2 := by rw [← oc]; rfl
  rw [hst2] at P3 l3
  have hkc := chk_lok cc0
  have hM3 : ∀ st (m : Mk), m ∈ M → (wM lc st m).1.length ≤ st.1.length + 22 := fun st m hm => by
    have h1 := cw_len (st := st) hkc m.1
    have h2 := lw_len (cw lc st m.1) m.2.1 m.2.2
    have h3 := (hMok m hm).2.2
    have h4 := repB_le m.1
    unfold wM
    split at h3 <;> omega
  refine ⟨fun m i' w5 => ∃ (i : Nat) (ws : Slc), i' = (i : Int) ∧ i ≤ M.length ∧ m = M.length - i ∧ PW wA w5 wA.heap.size wA.heap.size ws 1 ((M.take i).foldl (wM lc) o.st2) ∧ ((M.take i).foldl (wM lc) o.st2).1.length ≤ 17 + 3 * o.ni + 22 * i, M.length, ⟨0, ws, rfl, Nat.zero_le _, rfl, P3, l3⟩, ?_⟩
  rintro m i' w5 ⟨i, ws5, rfl, hi, rfl, P5, l5⟩
  unfold S24L1
  rw [MA.1]
  refine Br.dec (fun q => ?_) fun q => ?_
  · have hin : i < M.length := by omega
    have hio : M[i]? = some M[i] := List.getElem?_eq_getElem hin
    have hmem := List.getElem_mem hin
    have hmok := hMok _ hmem
    have hpos := posc _ (cmp _ hmem)
    have hl22 := hM3 ((M.take i).foldl (wM lc) o.st2) _ hmem
    have htk : (M.take (i + 1)).foldl (wM lc) o.st2 = wM lc ((M.take i).foldl (wM lc) o.st2) M[i] := by
      rw [List.take_add_one, hio, List.foldl_append]
      rfl
    obtain ⟨a, ha, c0, c1, c2⟩ := (MA.keep P5.base).get hio
    rw [← htk] at hl22
    obtain ⟨k1, k2, k3⟩ := hmok
    have k4 := repB_le M[i].1
    rw [ha]
    refine ⟨by omega, by omega, Nn.of ?_⟩
    rw [Int.toNat_natCast]
    refine Ld.mk (x := (M[i].1 : Int)) c0 (Ld.mk (x := (M[i].2.1 : Int)) c1 (Ld.mk (x := (M[i].2.2 : Int)) c2 ?_))
    refine (Hn.start w5).nw fun w6 H => ?_
    simp only [List.nil_append] at H
    iterate 3 (refine H.st 0 rfl (by simp) fun _ H => ?_; simp only [List.nil_append, List.cons_append, List.set_cons_zero, List.set_cons_succ, Nat.zero_add] at H)
    rename_i w7
    have P7 := P5.keep H.ext
    have H7 : Hold w7 wA.heap.size ws5 [(w5.heap.size, [.int .i64 (M[i].1 : Int), .int .i64 (M[i].2.1 : Int), .int .i64 (M[i].2.2 : Int)], 85)] := fun p hp => by
      rw [List.mem_singleton.1 hp]
      exact ⟨H.get 0 rfl, fun hh => by have := P5.wr.lt _ hh; simp at this⟩
    refine H7.ld 0 rfl rfl ?_
    refine (P7.sign (by omega) T3 (by omega) cc0 (by rw [llc]; exact k1) hpos).mono ?_
    rintro _ w8 ⟨s8, P8, n8⟩
    have H8 := H7.call n8
    have l8 := cw_len (st := (M.take i).foldl (wM lc) o.st2) hkc M[i].1
    refine H8.ld 0 rfl rfl ?_
    refine H8.ld 0 rfl rfl ?_
    refine (P8.low (by omega) M[i].2.1 M[i].2.2 k2 (by split at k3 <;> omega) (.inr rfl)).mono ?_
    rintro _ w9 ⟨s9, P9, n9⟩
    refine ⟨M.length - (i + 1), by omega, i + 1, s9, by rw [i64_id (by omega)]; rfl, by omega, rfl, ?_, by omega⟩
    rw [htk]
    exact P9
  have : i = M.length := by omega
  subst this
  rw [List.take_length] at P5 l5
  have hst3 : M.foldl (wM lc) o.st2 = o.st3 := by rw [← oc, ← hMS, ← oall]; rfl
  rw [hst3] at P5 l5
  have bB := P5.base.blk pA id
  refine Ld.of bB rfl (Ld.of bB rfl ?_)
  have PVk := PA.keep P5.base
  refine (c_pair (wlo := wA.heap.size) (s := s) (l := l) PVk (fun hnil j hj => by have := PA.lt (by simpa using hnil) hj; exact this) hl (fun p hp => ⟨hoks p hp, hhas p hp⟩) (by rw [oa]; exact T1.keep P5.base fun _ _ _ h => h) (by rw [ob]; exact T2.keep P5.base fun _ _ _ h => h) (by omega) (by omega) hok.ca hok.cb (by rw [oa, lla]; decide) hok.a256 P5.wr P5.inv P5.way P5.lo P5.big (by omega)).mono ?_
  rintro w22 ⟨s22, P22, n22⟩
  have z1 := wPs_len (chk_lok hok.ca) (chk_lok hok.cb) l o.st3 hoks
  have z2 := cw_len (st := l.foldl (wP o.a o.b) o.st3) (chk_lok hok.ca) 256
  refine (c_wtext P22.wr (by omega)).mono ?_
  rintro r w24 ⟨rfl, e24'⟩
  refine ⟨o, hok, hhas, rfl, ?_, hof⟩
  exact (((E19.tr FA).tr P5.base).trans P22.ext (fun _ h => h) fun j hj e => by have := (E19.tr FA).size; omega).tr e24'
end Inf
end Go.Proofs.YtjkoafjnmkchdaaDoor

/- Deflate: All. Conditions: sizes. -/
namespace Go.Proofs.YtjkoafjnmkchdaaDoor
namespace Inf
open Sh Bit
set_option linter.unusedVariables false
set_option linter.unusedSimpArgs false
set_option maxRecDepth 4000
set_option maxHeartbeats 1000000
attribute [local irreducible] Ld St Nw Nn Lt LdS
theorem c_cl {s : ByteArray} (hs : s.size ≤ 281474976710656) (w : World) : C25 s w fun r w1 => r = s ∧ Ext (fun _ => False) w w1 := by
  refine T25 _ _ _ ?_
  unfold S25
  exact (c_cloneS s hs w).mono fun r w1 h => h
/-- The shorter of two. -/
def shorter (a b : List UInt8) : List UInt8 := if a.length < b.length then a else b
theorem shorter_t {a b : List UInt8} (h : a.length < b.length) : shorter a b = a := if_pos h
theorem shorter_f {a b : List UInt8} (h : ¬ a.length < b.length) : shorter a b = b := if_neg h
/-- What All gives at a level: there is one text alone. -/
def AllOf (s : List UInt8) (lv : Int) (T : List UInt8) : Prop := (lv = 0 ∧ T = blkS 1 s) ∨ (lv ≠ 0 ∧ lv ≠ 2 ∧ T = shorter (fixO (partsS s)) (blkS 1 s)) ∨ (lv = 2 ∧ ∃ o : Own, OwnOf (partsS s) o ∧ T = shorter (o.T (partsS s)) (shorter (fixO (partsS s)) (blkS 1 s)))
theorem AllOf.one {s T T' : List UInt8} {lv : Int} (h : AllOf s lv T) (k : AllOf s lv T') : T = T' := by
  rcases h with ⟨h1, h2⟩ | ⟨h1, h2, h3⟩ | ⟨h1, o, h2, h3⟩ <;> rcases k with ⟨k1, k2⟩ | ⟨k1, k2, k3⟩ | ⟨k1, o', k2, k3⟩
  all_goals first
    | (rw [h2, k2]; done)
    | (rw [h3, k3]; done)
    | (rw [h3, k3, h2.one k2]; done)
    | (exfalso; omega)
/-- What All answers. -/
def AllR (S : ByteArray) (lv : Int) (w : World) (r : ByteArray) (e : Int) (w1 : World) : Prop :=
  e = 0 ∧ (∃ T : List UInt8, r = ⟨T.toArray⟩ ∧ Gives T S.data.toList ∧ T.length ≤ S.size + 5 ∧ (lv = 0 → T.length = S.size + 5) ∧ AllOf S.data.toList lv T) ∧ Ext (fun _ => False) w w1
theorem size_mk (T : List UInt8) : (⟨T.toArray⟩ : ByteArray).size = T.length := by show T.toArray.size = _; simp
theorem c_AllW {S : ByteArray} (hs : S.size ≤ 65535) {lv : Int} (h0 : 0 ≤ lv) (h2 : lv ≤ 2) (w : World) : C14 S lv w (fun r e w1 => AllR S lv w r e w1) (fun _ _ => False) := by
  have hsz : S.data.toList.length = S.size := (size_list S).symm
  refine T14 _ _ _ _ _ ?_
  unfold S14
  refine Br.dec (fun q => absurd q (by omega)) fun _ => Br.dec (fun q => absurd q (by omega)) fun _ => Br.dec (fun q => absurd q (by omega)) fun _ => ?_
  refine (c_storedW (S := S) (by omega) w).mono ?_
  rintro r w4 ⟨rfl, e4⟩
  rw [storedT_small (by omega)]
  have g3 := stored_gives S.data.toList (by omega)
  have l3 : (blkS 1 S.data.toList).length = S.size + 5 := by rw [blkS_len]; omega
  generalize hT3 : blkS 1 S.data.toList = T3 at g3 l3
  refine Br.eq (fun q => ⟨rfl, ⟨T3, rfl, g3, by omega, fun _ => l3, .inl ⟨q, hT3.symm⟩⟩, e4⟩) fun hlv => ?_
  refine (c_Parts (S := S) (by omega) w4).mono ?_
  rintro r5 w6 ⟨P5, e6⟩
  obtain ⟨hfit, hfold⟩ := partsS_fit S.data.toList
  have hpl : (partsS S.data.toList).length ≤ 1048576 := by
    have : (partsS S.data.toList).length ≤ S.data.toList.length := partsF_len _ _ _
    omega
  refine (c_fixedB P5 hpl hfit).mono ?_ fun _ _ h => h
  rintro r w10 ⟨rfl, e10⟩
  have g9 := fixed_gives hfit
  rw [hfold] at g9
  have P10 := P5.keep e10
  have E10 := (e4.tr e6).tr e10
  generalize hT9 : fixO (partsS S.data.toList) = T9 at g9
  -- the end: a copy of one of them
  have fin : ∀ (T : List UInt8) (w12 : World), Gives T S.data.toList → T.length ≤ S.size + 5 → Ext (fun _ => False) w w12 → AllOf S.data.toList lv T → C25 (⟨T.toArray⟩ : ByteArray) w12 fun r w13 => AllR S lv w r 0 w13 := fun T w12 g hT e u => by
    refine (c_cl (by rw [size_mk]; omega) w12).mono ?_
    rintro r w13 ⟨rfl, e13⟩
    exact ⟨rfl, ⟨T, rfl, g, hT, fun h => absurd h hlv, u⟩, e.tr e13⟩
  rw [size_mk, size_mk]
  refine Br.dec (fun q1 => Br.eq (fun q2 => ?_) fun q2 => ?_) fun q1 => Br.eq (fun q2 => ?_) fun q2 => ?_
  · refine (c_own P10 hpl hfit).mono ?_ fun _ _ h => h
    rintro r w12 ⟨o, hok, hh, rfl, e12, hof⟩
    have g11 := own_gives hok hfit hh
    rw [hfold] at g11
    have u : AllOf S.data.toList lv (shorter (o.T (partsS S.data.toList)) T9) := .inr (.inr ⟨q2, o, hof, by rw [hT9, hT3, shorter_t (a := T9) (b := T3) (by omega)]⟩)
    generalize o.T (partsS S.data.toList) = T11 at g11 u
    rw [size_mk]
    refine Br.dec (fun q3 => ?_) fun q3 => ?_
    · rw [shorter_t (by omega)] at u
      exact fin T11 w12 g11 (by omega) (E10.tr e12) u
    · rw [shorter_f (by omega)] at u
      exact fin T9 w12 g9 (by omega) (E10.tr e12) u
  · exact fin T9 w10 g9 (by omega) E10 (.inr (.inl ⟨hlv, q2, by rw [hT9, hT3, shorter_t (by omega)]⟩))
  · refine (c_own P10 hpl hfit).mono ?_ fun _ _ h => h
    rintro r w12 ⟨o, hok, hh, rfl, e12, hof⟩
    have g11 := own_gives hok hfit hh
    rw [hfold] at g11
    have u : AllOf S.data.toList lv (shorter (o.T (partsS S.data.toList)) T3) := .inr (.inr ⟨q2, o, hof, by rw [hT9, hT3, shorter_f (a := T9) (b := T3) (by omega)]⟩)
    generalize o.T (partsS S.data.toList) = T11 at g11 u
    rw [size_mk]
    refine Br.dec (fun q3 => ?_) fun q3 => ?_
    · rw [shorter_t (by omega)] at u
      exact fin T11 w12 g11 (by omega) (E10.tr e12) u
    · rw [shorter_f (by omega)] at u
      exact fin T3 w12 g3 (by omega) (E10.tr e12) u
  · exact fin T3 w10 g3 (by omega) E10 (.inr (.inl ⟨hlv, q2, by rw [hT9, hT3, shorter_f (by omega)]⟩))
end Inf
end Go.Proofs.YtjkoafjnmkchdaaDoor

/- The formulas of 16 functions of the program, written by program (gen.py); the kernel checks each. No condition. -/
namespace Go.Proofs.YtjkoafjnmkchdaaDoor
open Sh
set_option linter.unusedVariables false
set_option maxRecDepth 100000

def C20 (x1 : Int × Int) (c2 : Int) (w : World) (R : (Int × Int) → World → Prop) : Prop :=
  Calls Tryd.prog 20 #[.agg #[.int .u32 (x1.1), .int .u32 (x1.2)], .int .u8 c2] w fun e w' => ∃ r0 : Int × Int, e = .returned (.agg #[.int .u32 (r0.1), .int .u32 (r0.2)]) ∧ R r0 w'
theorem C20.mono {x1 : Int × Int} {c2 : Int} {w : World} {R R' : (Int × Int) → World → Prop} (h : C20 x1 c2 w R) (hr : ∀ r0 w', R r0 w' → R' r0 w') : C20 x1 c2 w R' :=
  Calls.mono h fun _ _ ⟨r0, he, hR⟩ => ⟨r0, he, hr _ _ hR⟩
def C11 (was1 : Int) (s2 : ByteArray) (w : World) (R : Int → World → Prop) : Prop :=
  Calls Tryd.prog 11 #[.int .u32 was1, .string s2] w fun e w' => ∃ r0 : Int, e = .returned (.int .u32 r0) ∧ R r0 w'
theorem C11.mono {was1 : Int} {s2 : ByteArray} {w : World} {R R' : Int → World → Prop} (h : C11 was1 s2 w R) (hr : ∀ r0 w', R r0 w' → R' r0 w') : C11 was1 s2 w R' :=
  Calls.mono h fun _ _ ⟨r0, he, hR⟩ => ⟨r0, he, hr _ _ hR⟩
def C9 (s1 : ByteArray) (w : World) (R : Int → World → Prop) : Prop :=
  Calls Tryd.prog 9 #[.string s1] w fun e w' => ∃ r0 : Int, e = .returned (.int .u32 r0) ∧ R r0 w'
theorem C9.mono {s1 : ByteArray} {w : World} {R R' : Int → World → Prop} (h : C9 s1 w R) (hr : ∀ r0 w', R r0 w' → R' r0 w') : C9 s1 w R' :=
  Calls.mono h fun _ _ ⟨r0, he, hR⟩ => ⟨r0, he, hr _ _ hR⟩
def C12 (sum1 : Int) (s2 : ByteArray) (w : World) (R : Int → World → Prop) : Prop :=
  Calls Tryd.prog 12 #[.int .u32 sum1, .string s2] w fun e w' => ∃ r0 : Int, e = .returned (.int .u32 r0) ∧ R r0 w'
theorem C12.mono {sum1 : Int} {s2 : ByteArray} {w : World} {R R' : Int → World → Prop} (h : C12 sum1 s2 w R) (hr : ∀ r0 w', R r0 w' → R' r0 w') : C12 sum1 s2 w R' :=
  Calls.mono h fun _ _ ⟨r0, he, hR⟩ => ⟨r0, he, hr _ _ hR⟩
def C10 (s1 : ByteArray) (w : World) (R : Int → World → Prop) : Prop :=
  Calls Tryd.prog 10 #[.string s1] w fun e w' => ∃ r0 : Int, e = .returned (.int .u32 r0) ∧ R r0 w'
theorem C10.mono {s1 : ByteArray} {w : World} {R R' : Int → World → Prop} (h : C10 s1 w R) (hr : ∀ r0 w', R r0 w' → R' r0 w') : C10 s1 w R' :=
  Calls.mono h fun _ _ ⟨r0, he, hR⟩ => ⟨r0, he, hr _ _ hR⟩
def C21 (n1 : Int) (w : World) (R : ByteArray → World → Prop) : Prop :=
  Calls Tryd.prog 21 #[.int .u32 n1] w fun e w' => ∃ r0 : ByteArray, e = .returned (.string r0) ∧ R r0 w'
theorem C21.mono {n1 : Int} {w : World} {R R' : ByteArray → World → Prop} (h : C21 n1 w R) (hr : ∀ r0 w', R r0 w' → R' r0 w') : C21 n1 w R' :=
  Calls.mono h fun _ _ ⟨r0, he, hR⟩ => ⟨r0, he, hr _ _ hR⟩
def C13 (s1 : ByteArray) (level2 : Int) (w : World) (R : ByteArray → Int → World → Prop) (PR : Value → World → Prop) : Prop :=
  Calls Tryd.prog 13 #[.string s1, .int .i64 level2] w fun e w' => (∃ r0 : ByteArray, ∃ r1 : Int, e = .returned (.tuple #[.string r0, .int .i64 r1]) ∧ R r0 r1 w') ∨ ∃ v, e = .panicked (onePanic v) ∧ PR v w'
theorem C13.mono {s1 : ByteArray} {level2 : Int} {w : World} {R R' : ByteArray → Int → World → Prop} {PR PR' : Value → World → Prop} (h : C13 s1 level2 w R PR) (hr : ∀ r0 r1 w', R r0 r1 w' → R' r0 r1 w') (hp : ∀ v w', PR v w' → PR' v w') : C13 s1 level2 w R' PR' :=
  Calls.mono h fun _ _ he => he.elim (fun ⟨r0, r1, he, hR⟩ => .inl ⟨r0, r1, he, hr _ _ _ hR⟩) fun ⟨v, he, hP⟩ => .inr ⟨v, he, hp _ _ hP⟩
def C15 (sum1 : Int) (w : World) (R : ByteArray → World → Prop) : Prop :=
  Calls Tryd.prog 15 #[.int .u32 sum1] w fun e w' => ∃ r0 : ByteArray, e = .returned (.string r0) ∧ R r0 w'
theorem C15.mono {sum1 : Int} {w : World} {R R' : ByteArray → World → Prop} (h : C15 sum1 w R) (hr : ∀ r0 w', R r0 w' → R' r0 w') : C15 sum1 w R' :=
  Calls.mono h fun _ _ ⟨r0, he, hR⟩ => ⟨r0, he, hr _ _ hR⟩
def C26 (s1 : ByteArray) (w : World) (R : Int → World → Prop) : Prop :=
  Calls Tryd.prog 26 #[.string s1] w fun e w' => ∃ r0 : Int, e = .returned (.int .i64 r0) ∧ R r0 w'
theorem C26.mono {s1 : ByteArray} {w : World} {R R' : Int → World → Prop} (h : C26 s1 w R) (hr : ∀ r0 w', R r0 w' → R' r0 w') : C26 s1 w R' :=
  Calls.mono h fun _ _ ⟨r0, he, hR⟩ => ⟨r0, he, hr _ _ hR⟩
def C16 (s1 : ByteArray) (most2 : Int) (w : World) (R : ByteArray → Int → World → Prop) : Prop :=
  Calls Tryd.prog 16 #[.string s1, .int .i64 most2] w fun e w' => ∃ r0 : ByteArray, ∃ r1 : Int, e = .returned (.tuple #[.string r0, .int .i64 r1]) ∧ R r0 r1 w'
theorem C16.mono {s1 : ByteArray} {most2 : Int} {w : World} {R R' : ByteArray → Int → World → Prop} (h : C16 s1 most2 w R) (hr : ∀ r0 r1 w', R r0 r1 w' → R' r0 r1 w') : C16 s1 most2 w R' :=
  Calls.mono h fun _ _ ⟨r0, r1, he, hR⟩ => ⟨r0, r1, he, hr _ _ _ hR⟩
def C8 (w : World) (R : Bool → World → Prop) (PR : Value → World → Prop) : Prop :=
  Calls Tryd.prog 8 #[] w fun e w' => (∃ r0 : Bool, e = .returned (.bool r0) ∧ R r0 w') ∨ ∃ v, e = .panicked (onePanic v) ∧ PR v w'
theorem C8.mono {w : World} {R R' : Bool → World → Prop} {PR PR' : Value → World → Prop} (h : C8 w R PR) (hr : ∀ r0 w', R r0 w' → R' r0 w') (hp : ∀ v w', PR v w' → PR' v w') : C8 w R' PR' :=
  Calls.mono h fun _ _ he => he.elim (fun ⟨r0, he, hR⟩ => .inl ⟨r0, he, hr _ _ hR⟩) fun ⟨v, he, hP⟩ => .inr ⟨v, he, hp _ _ hP⟩
def C3 (sum1 : Int) (s2 : ByteArray) (t3 : ByteArray) (w : World) (R : Bool → World → Prop) (PR : Value → World → Prop) : Prop :=
  Calls Tryd.prog 3 #[.int .u32 sum1, .string s2, .string t3] w fun e w' => (∃ r0 : Bool, e = .returned (.bool r0) ∧ R r0 w') ∨ ∃ v, e = .panicked (onePanic v) ∧ PR v w'
theorem C3.mono {sum1 : Int} {s2 : ByteArray} {t3 : ByteArray} {w : World} {R R' : Bool → World → Prop} {PR PR' : Value → World → Prop} (h : C3 sum1 s2 t3 w R PR) (hr : ∀ r0 w', R r0 w' → R' r0 w') (hp : ∀ v w', PR v w' → PR' v w') : C3 sum1 s2 t3 w R' PR' :=
  Calls.mono h fun _ _ he => he.elim (fun ⟨r0, he, hR⟩ => .inl ⟨r0, he, hr _ _ hR⟩) fun ⟨v, he, hP⟩ => .inr ⟨v, he, hp _ _ hP⟩
def C4 (s1 : ByteArray) (level2 : Int) (behind3 : ByteArray) (w : World) (R : Bool → World → Prop) (PR : Value → World → Prop) : Prop :=
  Calls Tryd.prog 4 #[.string s1, .int .i64 level2, .string behind3] w fun e w' => (∃ r0 : Bool, e = .returned (.bool r0) ∧ R r0 w') ∨ ∃ v, e = .panicked (onePanic v) ∧ PR v w'
theorem C4.mono {s1 : ByteArray} {level2 : Int} {behind3 : ByteArray} {w : World} {R R' : Bool → World → Prop} {PR PR' : Value → World → Prop} (h : C4 s1 level2 behind3 w R PR) (hr : ∀ r0 w', R r0 w' → R' r0 w') (hp : ∀ v w', PR v w' → PR' v w') : C4 s1 level2 behind3 w R' PR' :=
  Calls.mono h fun _ _ he => he.elim (fun ⟨r0, he, hR⟩ => .inl ⟨r0, he, hr _ _ hR⟩) fun ⟨v, he, hP⟩ => .inr ⟨v, he, hp _ _ hP⟩
def C5 (s1 : ByteArray) (level2 : Int) (vat3 : Int) (c4 : Int) (w : World) (R : Bool → World → Prop) (PR : Value → World → Prop) : Prop :=
  Calls Tryd.prog 5 #[.string s1, .int .i64 level2, .int .i64 vat3, .int .u8 c4] w fun e w' => (∃ r0 : Bool, e = .returned (.bool r0) ∧ R r0 w') ∨ ∃ v, e = .panicked (onePanic v) ∧ PR v w'
theorem C5.mono {s1 : ByteArray} {level2 : Int} {vat3 : Int} {c4 : Int} {w : World} {R R' : Bool → World → Prop} {PR PR' : Value → World → Prop} (h : C5 s1 level2 vat3 c4 w R PR) (hr : ∀ r0 w', R r0 w' → R' r0 w') (hp : ∀ v w', PR v w' → PR' v w') : C5 s1 level2 vat3 c4 w R' PR' :=
  Calls.mono h fun _ _ he => he.elim (fun ⟨r0, he, hR⟩ => .inl ⟨r0, he, hr _ _ hR⟩) fun ⟨v, he, hP⟩ => .inr ⟨v, he, hp _ _ hP⟩
def C6 (s1 : ByteArray) (more2 : ByteArray) (cut3 : Int) (w : World) (R : Bool → World → Prop) (PR : Value → World → Prop) : Prop :=
  Calls Tryd.prog 6 #[.string s1, .string more2, .int .i64 cut3] w fun e w' => (∃ r0 : Bool, e = .returned (.bool r0) ∧ R r0 w') ∨ ∃ v, e = .panicked (onePanic v) ∧ PR v w'
theorem C6.mono {s1 : ByteArray} {more2 : ByteArray} {cut3 : Int} {w : World} {R R' : Bool → World → Prop} {PR PR' : Value → World → Prop} (h : C6 s1 more2 cut3 w R PR) (hr : ∀ r0 w', R r0 w' → R' r0 w') (hp : ∀ v w', PR v w' → PR' v w') : C6 s1 more2 cut3 w R' PR' :=
  Calls.mono h fun _ _ he => he.elim (fun ⟨r0, he, hR⟩ => .inl ⟨r0, he, hr _ _ hR⟩) fun ⟨v, he, hP⟩ => .inr ⟨v, he, hp _ _ hP⟩
def C7 (s1 : ByteArray) (w : World) (R : Bool → World → Prop) (PR : Value → World → Prop) : Prop :=
  Calls Tryd.prog 7 #[.string s1] w fun e w' => (∃ r0 : Bool, e = .returned (.bool r0) ∧ R r0 w') ∨ ∃ v, e = .panicked (onePanic v) ∧ PR v w'
theorem C7.mono {s1 : ByteArray} {w : World} {R R' : Bool → World → Prop} {PR PR' : Value → World → Prop} (h : C7 s1 w R PR) (hr : ∀ r0 w', R r0 w' → R' r0 w') (hp : ∀ v w', PR v w' → PR' v w') : C7 s1 w R' PR' :=
  Calls.mono h fun _ _ he => he.elim (fun ⟨r0, he, hR⟩ => .inl ⟨r0, he, hr _ _ hR⟩) fun ⟨v, he, hP⟩ => .inr ⟨v, he, hp _ _ hP⟩

/-- (foliant/zlib.sum).by -/
def S20 (x1 : Int × Int) (c2 : Int) (w : World) (R : (Int × Int) → World → Prop) : Prop :=
  Nw w (.cells #[.int .u32 (x1.1), .int .u32 (x1.2)] 45) fun vw3 =>
  Nw vw3 (.cells #[.int .u32 0, .int .u32 0] 45) fun vw4 =>
  Ld vw4 (⟨w.heap.size, 0, none⟩ : Addr) (Value.int .u32) fun (x5 : Int) =>
  St vw4 (⟨w.heap.size, 0, none⟩ : Addr) (.int .u32 (Int.tmod (IntKind.u32.wrap (x5 + (IntKind.u32.wrap c2))) 65521)) fun vw6 =>
  Ld vw6 ((⟨w.heap.size, 0, none⟩ : Addr).add 1) (Value.int .u32) fun (x7 : Int) =>
  Ld vw6 (⟨w.heap.size, 0, none⟩ : Addr) (Value.int .u32) fun (x8 : Int) =>
  St vw6 ((⟨w.heap.size, 0, none⟩ : Addr).add 1) (.int .u32 (Int.tmod (IntKind.u32.wrap (x7 + x8)) 65521)) fun vw9 =>
  Ld vw9 (⟨w.heap.size, 0, none⟩ : Addr) (Value.int .u32) fun (x10 : Int) =>
  Ld vw9 ((⟨w.heap.size, 0, none⟩ : Addr).add 1) (Value.int .u32) fun (x11 : Int) =>
  St vw9 (⟨vw3.heap.size, 0, none⟩ : Addr) (.int .u32 x10) fun vw12 =>
  St vw12 ((⟨vw3.heap.size, 0, none⟩ : Addr).add 1) (.int .u32 x11) fun vw13 =>
  Ld vw13 (⟨vw3.heap.size, 0, none⟩ : Addr) (Value.int .u32) fun (x14 : Int) =>
  Ld vw13 ((⟨vw3.heap.size, 0, none⟩ : Addr).add 1) (Value.int .u32) fun (x15 : Int) =>
  R (x14, x15) vw13
def pl20 : Plan := (.seq (.reg .seq) (.seq (.reg .seq) (.seq (.reg .seq) (.seq (.reg .seq) .leaf))))
set_option maxRecDepth 100000 in
theorem T20 (x1 : Int × Int) (c2 : Int) (w : World) (R : (Int × Int) → World → Prop) (h : S20 x1 c2 w R) : C20 (x1.1, x1.2) c2 w R := by
  have e : fnT Tryd.prog ⟨FF, MAY, (fun _ _ => False)⟩ pl20 Tryd.f20 [.agg #[.int .u32 (x1.1), .int .u32 (x1.2)], .int .u8 c2] w [(.agg [(.int .u32), (.int .u32)])] (fun s w => R s w) = S20 x1 c2 w R := by kernel_rfl
  exact (fn_calls okF okM Tryd.func20 (by kernel_rfl) (by kernel_rfl) (e.mpr h)).mono fun _ _ ⟨s, he, hR⟩ => ⟨s, he, hR⟩

def S11L1 (w : World) (s2 : ByteArray) (R : Int → World → Prop) (I17 : Int → World → Prop) (s15 : Int) (vw16 : World) : Prop :=
  Br (decide (s15 < (((s2).size : Nat) : Int))) (Ld vw16.drew (⟨w.heap.size, 0, none⟩ : Addr) (Value.int .u32) fun (x18 : Int) =>
    Ld vw16.drew ((⟨w.heap.size, 0, none⟩ : Addr).add 1) (Value.int .u32) fun (x19 : Int) =>
    0 ≤ s15 ∧ s15 < ((s2).size : Nat) ∧ C20 (x18, x19) (bAt s2 s15) vw16.drew fun r20 vw21 =>
      St vw21 (⟨w.heap.size, 0, none⟩ : Addr) (.int .u32 (r20.1)) fun vw22 =>
      St vw22 ((⟨w.heap.size, 0, none⟩ : Addr).add 1) (.int .u32 (r20.2)) fun vw23 =>
      I17 (IntKind.i64.wrap (s15 + 1)) vw23) (Ld vw16 ((⟨w.heap.size, 0, none⟩ : Addr).add 1) (Value.int .u32) fun (x24 : Int) =>
    Ld vw16 (⟨w.heap.size, 0, none⟩ : Addr) (Value.int .u32) fun (x25 : Int) =>
    R (ior .u32 (IntKind.u32.wrap (x24 * 2 ^ 16)) x25) vw16)
/-- foliant/zlib.More -/
def S11 (was1 : Int) (s2 : ByteArray) (w : World) (R : Int → World → Prop) : Prop :=
  Nw w (.cells #[.int .u32 0, .int .u32 0] 45) fun vw3 =>
  St vw3 (⟨w.heap.size, 0, none⟩ : Addr) (.int .u32 (Int.tmod (iand .u32 was1 65535) 65521)) fun vw4 =>
  St vw4 ((⟨w.heap.size, 0, none⟩ : Addr).add 1) (.int .u32 (Int.tmod (Int.fdiv was1 (2 ^ 16)) 65521)) fun vw5 =>
  Lp (σ := Int) (S11L1 w s2 R) 0 vw5
def pl11 : Plan := (.seq (.reg .seq) (.seq (.reg .seq) (.seq (.seq (.reg .seq) (.block (.loop [(16, (.one (.int .i64)))] [1, 5, 15] (.seq (.reg .seq) (.seq (.cond .leaf .leaf) (.seq (.block (.seq (.reg .seq) (.reg (.tail 4)))) (.reg .seq))))))) (.seq (.reg .seq) .leaf))))
set_option maxRecDepth 100000 in
theorem T11 (was1 : Int) (s2 : ByteArray) (w : World) (R : Int → World → Prop) (h : S11 was1 s2 w R) : C11 was1 s2 w R := by
  have e : fnT Tryd.prog ⟨FF, MAY, (fun _ _ => False)⟩ pl11 Tryd.f11 [.int .u32 was1, .string s2] w [(.one (.int .u32))] (fun s w => R s w) = S11 was1 s2 w R := by kernel_rfl
  exact (fn_calls okF okM Tryd.func11 (by kernel_rfl) (by kernel_rfl) (e.mpr h)).mono fun _ _ ⟨s, he, hR⟩ => ⟨s, he, hR⟩

/-- foliant/zlib.Sum -/
def S9 (s1 : ByteArray) (w : World) (R : Int → World → Prop) : Prop :=
  C11 1 s1 w fun r2 vw3 =>
    R r2 vw3
def pl9 : Plan := (.seq (.reg .seq) (.seq (.reg .seq) .leaf))
set_option maxRecDepth 100000 in
theorem T9 (s1 : ByteArray) (w : World) (R : Int → World → Prop) (h : S9 s1 w R) : C9 s1 w R := by
  have e : fnT Tryd.prog ⟨FF, MAY, (fun _ _ => False)⟩ pl9 Tryd.f9 [.string s1] w [(.one (.int .u32))] (fun s w => R s w) = S9 s1 w R := by kernel_rfl
  exact (fn_calls okF okM Tryd.func9 (by kernel_rfl) (by kernel_rfl) (e.mpr h)).mono fun _ _ ⟨s, he, hR⟩ => ⟨s, he, hR⟩

def S12L1 (s2 : ByteArray) (R : Int → World → Prop) (I9 : (Int × Int × Int) → World → Prop) (s7 : Int × Int × Int) (vw8 : World) : Prop :=
  Br (decide (s7.2.2 < (((s2).size : Nat) : Int))) (0 ≤ s7.2.2 ∧ s7.2.2 < ((s2).size : Nat) ∧ Lt (IntKind.u32.wrap (s7.2.1 + (Int.tmod (IntKind.u32.wrap (s7.1 + (IntKind.u32.wrap (bAt s2 s7.2.2)))) 65521))) fun (x10 : Int) =>
    I9 (Int.tmod (IntKind.u32.wrap (s7.1 + (IntKind.u32.wrap (bAt s2 s7.2.2)))) 65521, Int.tmod x10 65521, IntKind.i64.wrap (s7.2.2 + 1)) vw8) (R (IntKind.u32.wrap ((IntKind.u32.wrap (65536 * s7.2.1)) + s7.1)) vw8)
/-- foliant/foliantref13.More -/
def S12 (sum1 : Int) (s2 : ByteArray) (w : World) (R : Int → World → Prop) : Prop :=
  Lp (σ := Int × Int × Int) (S12L1 s2 R) (Int.tmod (Int.tmod sum1 65536) 65521, Int.tmod (IntKind.u32.wrap (Int.tdiv sum1 65536)) 65521, 0) w
def pl12 : Plan := (.seq (.reg .seq) (.seq (.reg .seq) (.seq (.seq (.reg .seq) (.block (.loop [(5, (.one (.int .u32))), (6, (.one (.int .u32))), (7, (.one (.int .i64)))] [1] (.seq (.seq (.reg .seq) (.cond .leaf .leaf)) (.seq (.block (.seq (.reg .seq) (.reg .seq))) (.reg .seq)))))) (.seq (.reg .seq) .leaf))))
set_option maxRecDepth 100000 in
theorem T12 (sum1 : Int) (s2 : ByteArray) (w : World) (R : Int → World → Prop) (h : S12 sum1 s2 w R) : C12 sum1 s2 w R := by
  have e : fnT Tryd.prog ⟨FF, MAY, (fun _ _ => False)⟩ pl12 Tryd.f12 [.int .u32 sum1, .string s2] w [(.one (.int .u32))] (fun s w => R s w) = S12 sum1 s2 w R := by kernel_rfl
  exact (fn_calls okF okM Tryd.func12 (by kernel_rfl) (by kernel_rfl) (e.mpr h)).mono fun _ _ ⟨s, he, hR⟩ => ⟨s, he, hR⟩

/-- foliant/foliantref13.Sum -/
def S10 (s1 : ByteArray) (w : World) (R : Int → World → Prop) : Prop :=
  C12 1 s1 w fun r2 vw3 =>
    R r2 vw3
def pl10 : Plan := (.seq (.reg .seq) (.seq (.reg .seq) .leaf))
set_option maxRecDepth 100000 in
theorem T10 (s1 : ByteArray) (w : World) (R : Int → World → Prop) (h : S10 s1 w R) : C10 s1 w R := by
  have e : fnT Tryd.prog ⟨FF, MAY, (fun _ _ => False)⟩ pl10 Tryd.f10 [.string s1] w [(.one (.int .u32))] (fun s w => R s w) = S10 s1 w R := by kernel_rfl
  exact (fn_calls okF okM Tryd.func10 (by kernel_rfl) (by kernel_rfl) (e.mpr h)).mono fun _ _ ⟨s, he, hR⟩ => ⟨s, he, hR⟩

/-- foliant/zlib.four -/
def S21 (n1 : Int) (w : World) (R : ByteArray → World → Prop) : Prop :=
  Nw w (.cells #[.int .u8 (IntKind.u8.wrap (Int.fdiv n1 (2 ^ 24))), .int .u8 (IntKind.u8.wrap (Int.fdiv n1 (2 ^ 16))), .int .u8 (IntKind.u8.wrap (Int.fdiv n1 (2 ^ 8))), .int .u8 (IntKind.u8.wrap n1)] 5) fun vw2 =>
  Rn Tryd.prog (convert 32 9 (Slc.v ((⟨some ⟨w.heap.size, 0, none⟩, 4, 4⟩ : Slc)))) vw2 Value.string fun (x3 : ByteArray) vw4 =>
  R x3 vw4
def pl21 : Plan := (.seq (.reg .seq) (.seq (.reg .seq) .leaf))
set_option maxRecDepth 100000 in
theorem T21 (n1 : Int) (w : World) (R : ByteArray → World → Prop) (h : S21 n1 w R) : C21 n1 w R := by
  have e : fnT Tryd.prog ⟨FF, MAY, (fun _ _ => False)⟩ pl21 Tryd.f21 [.int .u32 n1] w [(.one .str)] (fun s w => R s w) = S21 n1 w R := by kernel_rfl
  exact (fn_calls okF okM Tryd.func21 (by kernel_rfl) (by kernel_rfl) (e.mpr h)).mono fun _ _ ⟨s, he, hR⟩ => ⟨s, he, hR⟩

/-- foliant/zlib.Wrap -/
def S13 (s1 : ByteArray) (level2 : Int) (w : World) (R : ByteArray → Int → World → Prop) (PR : Value → World → Prop) : Prop :=
  C14 s1 level2 w (fun r3 r4 vw5 =>
    Br (r4 != 0) (R (⟨#[]⟩ : ByteArray) r4 vw5) (((((⟨#[120, 156]⟩ : ByteArray)).size + (r3).size : Nat) : Int) ≤ IntKind.i64.max ∧ C9 s1 vw5 fun r6 vw7 =>
        C21 r6 vw7 fun r8 vw9 =>
          ((((⟨#[120, 156]⟩ : ByteArray) ++ r3).size + (r8).size : Nat) : Int) ≤ IntKind.i64.max ∧ R (((⟨#[120, 156]⟩ : ByteArray) ++ r3) ++ r8) 0 vw9)) PR
def pl13 : Plan := (.seq (.reg .seq) (.seq (.reg .seq) (.seq (.seq (.reg .seq) (.cond (.seq (.reg .seq) .leaf) .leaf)) (.seq (.reg .seq) .leaf))))
set_option maxRecDepth 100000 in
theorem T13 (s1 : ByteArray) (level2 : Int) (w : World) (R : ByteArray → Int → World → Prop) (PR : Value → World → Prop) (h : S13 s1 level2 w R PR) : C13 s1 level2 w R PR := by
  have e : fnT Tryd.prog ⟨FF, MAY, PR⟩ pl13 Tryd.f13 [.string s1, .int .i64 level2] w [(.one .str), (.one (.int .i64))] (fun s w => R s.1 s.2 w) = S13 s1 level2 w R PR := by kernel_rfl
  exact (fn_callsP okF okM Tryd.func13 (by kernel_rfl) (by kernel_rfl) (e.mpr h)).mono fun _ _ he => he.elim (fun ⟨s, he, hR⟩ => .inl ⟨s.1, s.2, he, hR⟩) .inr

/-- foliant/foliantref13.Tail -/
def S15 (sum1 : Int) (w : World) (R : ByteArray → World → Prop) : Prop :=
  Nw w (.cells #[.int .u8 (IntKind.u8.wrap (Int.fdiv sum1 (2 ^ 24))), .int .u8 (IntKind.u8.wrap (Int.fdiv sum1 (2 ^ 16))), .int .u8 (IntKind.u8.wrap (Int.fdiv sum1 (2 ^ 8))), .int .u8 (IntKind.u8.wrap sum1)] 5) fun vw2 =>
  Rn Tryd.prog (convert 32 9 (Slc.v ((⟨some ⟨w.heap.size, 0, none⟩, 4, 4⟩ : Slc)))) vw2 Value.string fun (x3 : ByteArray) vw4 =>
  R x3 vw4
def pl15 : Plan := (.seq (.reg .seq) (.seq (.reg .seq) .leaf))
set_option maxRecDepth 100000 in
theorem T15 (sum1 : Int) (w : World) (R : ByteArray → World → Prop) (h : S15 sum1 w R) : C15 sum1 w R := by
  have e : fnT Tryd.prog ⟨FF, MAY, (fun _ _ => False)⟩ pl15 Tryd.f15 [.int .u32 sum1] w [(.one .str)] (fun s w => R s w) = S15 sum1 w R := by kernel_rfl
  exact (fn_calls okF okM Tryd.func15 (by kernel_rfl) (by kernel_rfl) (e.mpr h)).mono fun _ _ ⟨s, he, hR⟩ => ⟨s, he, hR⟩

/-- foliant/zlib.begins -/
def S26 (s1 : ByteArray) (w : World) (R : Int → World → Prop) : Prop :=
  Br (decide ((((s1).size : Nat) : Int) < 2)) (R 4 w) (0 ≤ (0 : Int) ∧ (0 : Int) < ((s1).size : Nat) ∧ 0 ≤ (1 : Int) ∧ (1 : Int) < ((s1).size : Nat) ∧ Br ((iand .i64 (IntKind.i64.wrap (bAt s1 0)) 15) != 8) (R 3 w.drew) (Br (decide ((Int.fdiv (IntKind.i64.wrap (bAt s1 0)) (2 ^ 4)) > 7)) (R 3 w.drew) (Lt (ior .i64 (IntKind.i64.wrap ((IntKind.i64.wrap (bAt s1 0)) * 2 ^ 8)) (IntKind.i64.wrap (bAt s1 1))) fun (x2 : Int) =>
        Br ((Int.tmod x2 31) != 0) (R 3 w.drew) (Br ((iand .i64 (IntKind.i64.wrap (bAt s1 1)) 32) != 0) (R 3 w.drew) (R 0 w.drew)))))
def pl26 : Plan := (.seq (.reg .seq) (.seq (.seq (.reg .seq) (.cond (.seq (.reg .seq) .leaf) .leaf)) (.seq (.reg .still) (.seq (.seq (.reg .seq) (.cond (.seq (.reg .seq) .leaf) .leaf)) (.seq (.reg .seq) .leaf)))))
set_option maxRecDepth 100000 in
theorem T26 (s1 : ByteArray) (w : World) (R : Int → World → Prop) (h : S26 s1 w R) : C26 s1 w R := by
  have e : fnT Tryd.prog ⟨FF, MAY, (fun _ _ => False)⟩ pl26 Tryd.f26 [.string s1] w [(.one (.int .i64))] (fun s w => R s w) = S26 s1 w R := by kernel_rfl
  exact (fn_calls okF okM Tryd.func26 (by kernel_rfl) (by kernel_rfl) (e.mpr h)).mono fun _ _ ⟨s, he, hR⟩ => ⟨s, he, hR⟩

/-- foliant/zlib.Unwrap -/
def S16 (s1 : ByteArray) (most2 : Int) (w : World) (R : ByteArray → Int → World → Prop) : Prop :=
  C26 s1 w fun r5 vw6 =>
    Br (r5 != 0) (R (⟨#[]⟩ : ByteArray) r5 vw6) (0 ≤ (2 : Int) ∧ (2 : Int) ≤ (((s1).size : Nat) : Int) ∧ C17 (s1.extract (((2 : Int)).toNat) ((s1).size)) most2 vw6 fun r7 r8 r9 vw10 =>
        Br (r9 != 0) (R (⟨#[]⟩ : ByteArray) r9 vw10) (Lt (decide ((IntKind.i64.wrap ((((s1.extract (((2 : Int)).toNat) ((s1).size)).size : Nat) : Int) - r8)) < 4)) fun (x11 : Bool) =>
          Br x11 (R (⟨#[]⟩ : ByteArray) 4 vw10) (0 ≤ (IntKind.i64.wrap (r8 + 4)) ∧ (IntKind.i64.wrap (r8 + 4)) ≤ (((s1.extract (((2 : Int)).toNat) ((s1).size)).size : Nat) : Int) ∧ 0 ≤ r8 ∧ r8 ≤ (((IntKind.i64.wrap (r8 + 4)).toNat : Nat) : Int) ∧ C9 r7 vw10.drew fun r12 vw13 =>
              C21 r12 vw13 fun r14 vw15 =>
                Br (!(((s1.extract (((2 : Int)).toNat) ((s1).size)).extract ((r8).toNat) ((IntKind.i64.wrap (r8 + 4)).toNat)).toList == r14.toList)) (R (⟨#[]⟩ : ByteArray) 12 vw15) (R r7 0 vw15))))
def pl16 : Plan := (.seq (.reg .seq) (.seq (.seq (.reg .seq) (.seq (.reg .seq) (.cond (.seq (.reg .seq) .leaf) .leaf))) (.seq (.reg .seq) (.seq (.reg .seq) (.seq (.block (.seq (.reg .seq) (.cond (.seq (.reg .seq) .leaf) (.seq (.reg .seq) (.cond (.seq (.reg .seq) .leaf) (.seq (.reg (.held [6] (.take 0 (.take 1 (.take 2 (.take 3 (.take 4 (.take 5 (.eff 6 (some [7]) (.eff 7 (some []) (.take 8 (.take 9 .done)))))))))))) (.cond (.seq (.reg .seq) .leaf) .leaf))))))) (.seq (.reg .seq) .leaf))))))
set_option maxRecDepth 100000 in
theorem T16 (s1 : ByteArray) (most2 : Int) (w : World) (R : ByteArray → Int → World → Prop) (h : S16 s1 most2 w R) : C16 s1 most2 w R := by
  have e : fnT Tryd.prog ⟨FF, MAY, (fun _ _ => False)⟩ pl16 Tryd.f16 [.string s1, .int .i64 most2] w [(.one .str), (.one (.int .i64))] (fun s w => R s.1 s.2 w) = S16 s1 most2 w R := by kernel_rfl
  exact (fn_calls okF okM Tryd.func16 (by kernel_rfl) (by kernel_rfl) (e.mpr h)).mono fun _ _ ⟨s, he, hR⟩ => ⟨s.1, s.2, he, hR⟩

/-- foliant/foliantlaw13.lives -/
def S8 (w : World) (R : Bool → World → Prop) (PR : Value → World → Prop) : Prop :=
  C13 (⟨#[87, 105, 107, 105, 112, 101, 100, 105, 97]⟩ : ByteArray) 0 w (fun r1 r2 vw3 =>
    (((r1).size + ((⟨#[120]⟩ : ByteArray)).size : Nat) : Int) ≤ IntKind.i64.max ∧ C16 (r1 ++ (⟨#[120]⟩ : ByteArray)) 9 vw3 fun r4 r5 vw6 =>
      C16 (⟨#[120]⟩ : ByteArray) 9 vw6 fun r7 r8 vw9 =>
        C16 (⟨#[120, 157]⟩ : ByteArray) 9 vw9 fun r10 r11 vw12 =>
          C13 (⟨#[97]⟩ : ByteArray) 3 vw12 (fun r13 r14 vw15 =>
            C9 (⟨#[]⟩ : ByteArray) vw15 fun r16 vw17 =>
              Br (r16 == 1) (C9 (⟨#[87, 105, 107, 105, 112, 101, 100, 105, 97]⟩ : ByteArray) vw17 fun r18 vw19 =>
                  Br (r18 == 300286872) (C11 1 (⟨#[87, 105, 107, 105]⟩ : ByteArray) vw19 fun r20 vw21 =>
                      C9 (⟨#[87, 105, 107, 105]⟩ : ByteArray) vw21 fun r22 vw23 =>
                        Br (r20 == r22) (Br (r2 == 0) (Br ((((r1).size : Nat) : Int) == 20) (0 ≤ (2 : Int) ∧ (2 : Int) ≤ (((r1).size : Nat) : Int) ∧ Br ((r1.extract 0 (((2 : Int)).toNat)).toList == (⟨#[120, 156]⟩ : ByteArray).toList) (0 ≤ (16 : Int) ∧ (16 : Int) ≤ (((r1).size : Nat) : Int) ∧ Lt (((r1.extract (((16 : Int)).toNat) ((r1).size)).toList == (⟨#[17, 230, 3, 152]⟩ : ByteArray).toList)) fun (x24 : Bool) =>
                                Br x24 (Br (r4.toList == (⟨#[87, 105, 107, 105, 112, 101, 100, 105, 97]⟩ : ByteArray).toList) (Br (r5 == 0) (Br (r8 == 4) (Br (r11 == 3) (R (r14 == 1) vw23) (R false vw23)) (R false vw23)) (R false vw23)) (R false vw23)) (R false vw23)) (R false vw23)) (R false vw23)) (R false vw23)) (R false vw23)) (R false vw19)) (R false vw17)) PR) PR
def pl8 : Plan := (.seq (.reg .seq) (.seq (.reg .seq) (.seq (.reg .seq) (.seq (.reg .seq) (.seq (.reg .seq) (.seq (.reg .seq) (.seq (.reg .seq) .leaf)))))))
set_option maxRecDepth 100000 in
theorem T8 (w : World) (R : Bool → World → Prop) (PR : Value → World → Prop) (h : S8 w R PR) : C8 w R PR := by
  have e : fnT Tryd.prog ⟨FF, MAY, PR⟩ pl8 Tryd.f8 [] w [(.one .bool)] (fun s w => R s w) = S8 w R PR := by kernel_rfl
  exact (fn_callsP okF okM Tryd.func8 (by kernel_rfl) (by kernel_rfl) (e.mpr h)).mono fun _ _ he => he.elim (fun ⟨s, he, hR⟩ => .inl ⟨s, he, hR⟩) .inr

/-- foliant/foliantlaw13.ZlibSums -/
def S3 (sum1 : Int) (s2 : ByteArray) (t3 : ByteArray) (w : World) (R : Bool → World → Prop) (PR : Value → World → Prop) : Prop :=
  Br (decide ((((s2).size : Nat) : Int) > 3000)) (C8 w (fun r8 vw9 =>
      R r8 vw9) PR) (Br (decide ((((t3).size : Nat) : Int) > 3000)) (C8 w (fun r10 vw11 =>
        R r10 vw11) PR) (C9 s2 w fun r12 vw13 =>
        C10 s2 vw13 fun r14 vw15 =>
          Br (r12 == r14) (C11 sum1 s2 vw15 fun r16 vw17 =>
              C12 sum1 s2 vw17 fun r18 vw19 =>
                Br (r16 == r18) (C9 s2 vw19 fun r20 vw21 =>
                    C11 r20 t3 vw21 fun r22 vw23 =>
                      (((s2).size + (t3).size : Nat) : Int) ≤ IntKind.i64.max ∧ C9 (s2 ++ t3) vw23 fun r24 vw25 =>
                        Br (r22 == r24) (C8 vw25 (fun r26 vw27 =>
                            R r26 vw27) PR) (R false vw25)) (R false vw19)) (R false vw15)))
def pl3 : Plan := (.seq (.reg .seq) (.seq (.seq (.reg .seq) (.cond (.seq (.reg .seq) .leaf) .leaf)) (.seq (.reg .seq) .leaf)))
set_option maxRecDepth 100000 in
theorem T3 (sum1 : Int) (s2 : ByteArray) (t3 : ByteArray) (w : World) (R : Bool → World → Prop) (PR : Value → World → Prop) (h : S3 sum1 s2 t3 w R PR) : C3 sum1 s2 t3 w R PR := by
  have e : fnT Tryd.prog ⟨FF, MAY, PR⟩ pl3 Tryd.f3 [.int .u32 sum1, .string s2, .string t3] w [(.one .bool)] (fun s w => R s w) = S3 sum1 s2 t3 w R PR := by kernel_rfl
  exact (fn_callsP okF okM Tryd.func3 (by kernel_rfl) (by kernel_rfl) (e.mpr h)).mono fun _ _ he => he.elim (fun ⟨s, he, hR⟩ => .inl ⟨s, he, hR⟩) .inr

/-- foliant/foliantlaw13.ZlibBack -/
def S4 (s1 : ByteArray) (level2 : Int) (behind3 : ByteArray) (w : World) (R : Bool → World → Prop) (PR : Value → World → Prop) : Prop :=
  Br (decide ((((s1).size : Nat) : Int) > 2000)) (C8 w (fun r8 vw9 =>
      R r8 vw9) PR) (Br (decide ((((behind3).size : Nat) : Int) > 200)) (C8 w (fun r10 vw11 =>
        R r10 vw11) PR) (C13 s1 level2 w (fun r12 r13 vw14 =>
        C14 s1 level2 vw14 (fun r15 r16 vw17 =>
          Br (r16 != 0) (Br (r13 == r16) (Br (r12.toList == (⟨#[]⟩ : ByteArray).toList) (Br (decide (level2 < 0)) (C8 vw17 (fun r26 vw27 =>
                    R r26 vw27) PR) (Br (decide (level2 > 2)) (C8 vw17 (fun r28 vw29 =>
                      R r28 vw29) PR) (R false vw17))) (R false vw17)) (R false vw17)) (Br (r13 != 0) (Br (r13 == r16) (Br (r12.toList == (⟨#[]⟩ : ByteArray).toList) (Br (decide (level2 < 0)) (C8 vw17 (fun r30 vw31 =>
                      R r30 vw31) PR) (Br (decide (level2 > 2)) (C8 vw17 (fun r32 vw33 =>
                        R r32 vw33) PR) (R false vw17))) (R false vw17)) (R false vw17)) (((((⟨#[120, 156]⟩ : ByteArray)).size + (r15).size : Nat) : Int) ≤ IntKind.i64.max ∧ C10 s1 vw17 fun r38 vw39 =>
                C15 r38 vw39 fun r40 vw41 =>
                  ((((⟨#[120, 156]⟩ : ByteArray) ++ r15).size + (r40).size : Nat) : Int) ≤ IntKind.i64.max ∧ Br (!(r12.toList == (((⟨#[120, 156]⟩ : ByteArray) ++ r15) ++ r40).toList)) (R false vw41) (Br ((((r12).size : Nat) : Int) == 0) (R false vw41) ((((r12).size + (behind3).size : Nat) : Int) ≤ IntKind.i64.max ∧ C16 (r12 ++ behind3) (((s1).size : Nat) : Int) vw41 fun r42 r43 vw44 =>
                        0 ≤ (IntKind.i64.wrap ((((r12).size : Nat) : Int) - 1)) ∧ (IntKind.i64.wrap ((((r12).size : Nat) : Int) - 1)) ≤ (((r12).size : Nat) : Int) ∧ C16 (r12.extract 0 ((IntKind.i64.wrap ((((r12).size : Nat) : Int) - 1)).toNat)) (((s1).size : Nat) : Int) vw44 fun r45 r46 vw47 =>
                          Br (r42.toList == s1.toList) (Br (r43 == 0) (Br (r45.toList == (⟨#[]⟩ : ByteArray).toList) (Br (r46 == 4) (C8 vw47 (fun r48 vw49 =>
                                    R r48 vw49) PR) (R false vw47)) (R false vw47)) (R false vw47)) (R false vw47)))))) PR) PR))
def pl4 : Plan := (.seq (.reg .seq) (.seq (.seq (.reg .seq) (.cond (.seq (.reg .seq) .leaf) .leaf)) (.seq (.reg .seq) (.seq (.reg .seq) (.seq (.seq (.reg .seq) (.cond (.seq (.reg .seq) .leaf) .leaf)) (.seq (.seq (.reg .seq) (.cond (.seq (.reg .seq) .leaf) .leaf)) (.seq (.seq (.reg .seq) (.cond (.seq (.reg .seq) .leaf) .leaf)) (.seq (.reg .seq) (.seq (.reg .seq) (.seq (.reg .seq) .leaf))))))))))
set_option maxRecDepth 100000 in
theorem T4 (s1 : ByteArray) (level2 : Int) (behind3 : ByteArray) (w : World) (R : Bool → World → Prop) (PR : Value → World → Prop) (h : S4 s1 level2 behind3 w R PR) : C4 s1 level2 behind3 w R PR := by
  have e : fnT Tryd.prog ⟨FF, MAY, PR⟩ pl4 Tryd.f4 [.string s1, .int .i64 level2, .string behind3] w [(.one .bool)] (fun s w => R s w) = S4 s1 level2 behind3 w R PR := by kernel_rfl
  exact (fn_callsP okF okM Tryd.func4 (by kernel_rfl) (by kernel_rfl) (e.mpr h)).mono fun _ _ he => he.elim (fun ⟨s, he, hR⟩ => .inl ⟨s, he, hR⟩) .inr

def S5J1 (s1 : ByteArray) (c4 : Int) (r9 : ByteArray) (R : Bool → World → Prop) (PR : Value → World → Prop) (s33 : Unit) (vw34 : World) : Prop :=
  0 ≤ (1 : Int) ∧ (1 : Int) ≤ (((r9).size : Nat) : Int) ∧ 0 ≤ (2 : Int) ∧ (2 : Int) ≤ (((r9).size : Nat) : Int) ∧ Nw vw34.drew (.cells #[.int .u8 c4] 5) fun vw35 =>
  Rn Tryd.prog (convert 32 9 (Slc.v ((⟨some ⟨vw34.drew.heap.size, 0, none⟩, 1, 1⟩ : Slc)))) vw35 Value.string fun (x36 : ByteArray) vw37 =>
  (((r9.extract 0 (((1 : Int)).toNat)).size + (x36).size : Nat) : Int) ≤ IntKind.i64.max ∧ ((((r9.extract 0 (((1 : Int)).toNat)) ++ x36).size + (r9.extract (((2 : Int)).toNat) ((r9).size)).size : Nat) : Int) ≤ IntKind.i64.max ∧ C16 (((r9.extract 0 (((1 : Int)).toNat)) ++ x36) ++ (r9.extract (((2 : Int)).toNat) ((r9).size))) (((s1).size : Nat) : Int) vw37 fun r38 r39 vw40 =>
    Br (r38.toList == s1.toList) (Br (r39 == 0) (Br (c4 != 156) (C8 vw40 (fun r41 vw42 =>
            R r41 vw42) PR) (Br (r39 == 0) (C8 vw40 (fun r43 vw44 =>
              R r43 vw44) PR) (R false vw40))) (Br (r38.toList == (⟨#[]⟩ : ByteArray).toList) (Br (r39 == 3) (Br (c4 != 156) (C8 vw40 (fun r45 vw46 =>
                R r45 vw46) PR) (Br (r39 == 0) (C8 vw40 (fun r47 vw48 =>
                  R r47 vw48) PR) (R false vw40))) (R false vw40)) (R false vw40))) (Br (r38.toList == (⟨#[]⟩ : ByteArray).toList) (Br (r39 == 3) (Br (c4 != 156) (C8 vw40 (fun r49 vw50 =>
              R r49 vw50) PR) (Br (r39 == 0) (C8 vw40 (fun r51 vw52 =>
                R r51 vw52) PR) (R false vw40))) (R false vw40)) (R false vw40))
/-- foliant/foliantlaw13.ZlibSpoilt -/
def S5 (s1 : ByteArray) (level2 : Int) (vat3 : Int) (c4 : Int) (w : World) (R : Bool → World → Prop) (PR : Value → World → Prop) : Prop :=
  Br (decide ((((s1).size : Nat) : Int) > 1000)) (C8 w (fun r7 vw8 =>
      R r7 vw8) PR) (C13 s1 level2 w (fun r9 r10 vw11 =>
      Br (r10 != 0) (C8 vw11 (fun r18 vw19 =>
          R r18 vw19) PR) (Br (decide (vat3 < 0)) (C8 vw11 (fun r20 vw21 =>
            R r20 vw21) PR) (Br (decide (vat3 > 3)) (C8 vw11 (fun r22 vw23 =>
              R r22 vw23) PR) (Br (decide ((((r9).size : Nat) : Int) < 6)) (R false vw11) (0 ≤ (IntKind.i64.wrap ((IntKind.i64.wrap ((((r9).size : Nat) : Int) - 4)) + vat3)) ∧ (IntKind.i64.wrap ((IntKind.i64.wrap ((((r9).size : Nat) : Int) - 4)) + vat3)) ≤ (((r9).size : Nat) : Int) ∧ 0 ≤ (IntKind.i64.wrap ((IntKind.i64.wrap ((IntKind.i64.wrap ((((r9).size : Nat) : Int) - 4)) + vat3)) + 1)) ∧ (IntKind.i64.wrap ((IntKind.i64.wrap ((IntKind.i64.wrap ((((r9).size : Nat) : Int) - 4)) + vat3)) + 1)) ≤ (((r9).size : Nat) : Int) ∧ Nw vw11.drew (.cells #[.int .u8 c4] 5) fun vw24 =>
              Rn Tryd.prog (convert 32 9 (Slc.v ((⟨some ⟨vw11.drew.heap.size, 0, none⟩, 1, 1⟩ : Slc)))) vw24 Value.string fun (x25 : ByteArray) vw26 =>
              (((r9.extract 0 ((IntKind.i64.wrap ((IntKind.i64.wrap ((((r9).size : Nat) : Int) - 4)) + vat3)).toNat)).size + (x25).size : Nat) : Int) ≤ IntKind.i64.max ∧ ((((r9.extract 0 ((IntKind.i64.wrap ((IntKind.i64.wrap ((((r9).size : Nat) : Int) - 4)) + vat3)).toNat)) ++ x25).size + (r9.extract ((IntKind.i64.wrap ((IntKind.i64.wrap ((IntKind.i64.wrap ((((r9).size : Nat) : Int) - 4)) + vat3)) + 1)).toNat) ((r9).size)).size : Nat) : Int) ≤ IntKind.i64.max ∧ C16 (((r9.extract 0 ((IntKind.i64.wrap ((IntKind.i64.wrap ((((r9).size : Nat) : Int) - 4)) + vat3)).toNat)) ++ x25) ++ (r9.extract ((IntKind.i64.wrap ((IntKind.i64.wrap ((IntKind.i64.wrap ((((r9).size : Nat) : Int) - 4)) + vat3)) + 1)).toNat) ((r9).size))) (((s1).size : Nat) : Int) vw26 fun r27 r28 vw29 =>
                Join (S5J1 s1 c4 r9 R PR) fun (vJ53 : Unit → World → Prop) =>
                  0 ≤ (IntKind.i64.wrap ((IntKind.i64.wrap ((((r9).size : Nat) : Int) - 4)) + vat3)) ∧ (IntKind.i64.wrap ((IntKind.i64.wrap ((((r9).size : Nat) : Int) - 4)) + vat3)) < ((r9).size : Nat) ∧ Lt ((bAt r9 (IntKind.i64.wrap ((IntKind.i64.wrap ((((r9).size : Nat) : Int) - 4)) + vat3))) == c4) fun (x54 : Bool) =>
                  Br x54 (Br (!(r27.toList == s1.toList)) (R false vw29) (Br (r28 != 0) (R false vw29) (0 ≤ (IntKind.i64.wrap ((IntKind.i64.wrap ((((r9).size : Nat) : Int) - 4)) + vat3)) ∧ (IntKind.i64.wrap ((IntKind.i64.wrap ((((r9).size : Nat) : Int) - 4)) + vat3)) < ((r9).size : Nat) ∧ Lt ((bAt r9 (IntKind.i64.wrap ((IntKind.i64.wrap ((((r9).size : Nat) : Int) - 4)) + vat3))) != c4) fun (x55 : Bool) =>
                        Br x55 (Br (!(r27.toList == (⟨#[]⟩ : ByteArray).toList)) (R false vw29) (Br (r28 != 12) (R false vw29) (vJ53 () vw29))) (vJ53 () vw29)))) (0 ≤ (IntKind.i64.wrap ((IntKind.i64.wrap ((((r9).size : Nat) : Int) - 4)) + vat3)) ∧ (IntKind.i64.wrap ((IntKind.i64.wrap ((((r9).size : Nat) : Int) - 4)) + vat3)) < ((r9).size : Nat) ∧ Lt ((bAt r9 (IntKind.i64.wrap ((IntKind.i64.wrap ((((r9).size : Nat) : Int) - 4)) + vat3))) != c4) fun (x56 : Bool) =>
                    Br x56 (Br (!(r27.toList == (⟨#[]⟩ : ByteArray).toList)) (R false vw29) (Br (r28 != 12) (R false vw29) (vJ53 () vw29))) (vJ53 () vw29))))))) PR)
def pl5 : Plan := (.seq (.reg .seq) (.seq (.seq (.reg .seq) (.cond (.seq (.reg .seq) .leaf) .leaf)) (.seq (.reg .seq) (.seq (.seq (.reg .seq) (.cond (.seq (.reg .seq) .leaf) .leaf)) (.seq (.seq (.reg .seq) (.cond (.seq (.reg .seq) .leaf) .leaf)) (.seq (.reg .seq) (.seq (.reg (.held [4] (.take 0 (.take 1 (.take 2 (.take 3 (.take 7 (.take 8 (.take 9 (.take 10 (.take 12 (.take 13 (.eff 4 (some [5]) (.eff 5 (some [14]) (.take 6 (.take 11 (.eff 14 (some []) (.take 15 (.take 16 (.take 17 (.take 18 (.take 19 .done)))))))))))))))))))))) (.join [] [0, 3, 9] (.seq (.reg .seq) (.cond (.seq (.reg .seq) .leaf) .leaf)) (.seq (.reg (.held [3] (.take 0 (.take 1 (.take 2 (.take 6 (.take 7 (.take 9 (.take 10 (.eff 3 (some [4]) (.eff 4 (some [11]) (.take 5 (.take 8 (.eff 11 (some []) (.take 12 (.take 13 (.take 14 (.take 15 (.take 16 .done))))))))))))))))))) (.seq (.reg .seq) .leaf))))))))))
set_option maxRecDepth 100000 in
theorem T5 (s1 : ByteArray) (level2 : Int) (vat3 : Int) (c4 : Int) (w : World) (R : Bool → World → Prop) (PR : Value → World → Prop) (h : S5 s1 level2 vat3 c4 w R PR) : C5 s1 level2 vat3 c4 w R PR := by
  have e : fnT Tryd.prog ⟨FF, MAY, PR⟩ pl5 Tryd.f5 [.string s1, .int .i64 level2, .int .i64 vat3, .int .u8 c4] w [(.one .bool)] (fun s w => R s w) = S5 s1 level2 vat3 c4 w R PR := by kernel_rfl
  exact (fn_callsP okF okM Tryd.func5 (by kernel_rfl) (by kernel_rfl) (e.mpr h)).mono fun _ _ he => he.elim (fun ⟨s, he, hR⟩ => .inl ⟨s, he, hR⟩) .inr

def S6J1 (s1 : ByteArray) (s8 : Int) (I10 : Int → World → Prop) (r11 : ByteArray) (R : Bool → World → Prop) (s22 : Unit) (vw23 : World) : Prop :=
  Br (decide ((((s1).size : Nat) : Int) > 0)) (C17 r11 (IntKind.i64.wrap ((((s1).size : Nat) : Int) - 1)) vw23 fun r24 r25 r26 vw27 =>
      Br (r26 != 5) (R false vw27) (I10 (IntKind.i64.wrap (s8 + 1)) vw27)) (I10 (IntKind.i64.wrap (s8 + 1)) vw23)
def S6L1 (s1 : ByteArray) (more2 : ByteArray) (cut3 : Int) (R : Bool → World → Prop) (PR : Value → World → Prop) (I10 : Int → World → Prop) (s8 : Int) (vw9 : World) : Prop :=
  Br (decide (s8 ≤ 2)) (C14 s1 s8 vw9 (fun r11 r12 vw13 =>
      (((r11).size + (more2).size : Nat) : Int) ≤ IntKind.i64.max ∧ C17 (r11 ++ more2) (((s1).size : Nat) : Int) vw13 fun r14 r15 r16 vw17 =>
        Br (r12 != 0) (R false vw17) (Br (r16 != 0) (R false vw17) (Br (!(r14.toList == s1.toList)) (R false vw17) (Br (r15 != (((r11).size : Nat) : Int)) (R false vw17) (Join (S6J1 s1 s8 I10 r11 R) fun (vJ28 : Unit → World → Prop) =>
                  Br (decide (cut3 ≥ 0)) (Br (decide (cut3 < (((r11).size : Nat) : Int))) (0 ≤ cut3 ∧ cut3 ≤ (((r11).size : Nat) : Int) ∧ C17 (r11.extract 0 ((cut3).toNat)) (((s1).size : Nat) : Int) vw17 fun r29 r30 r31 vw32 =>
                        Br (r31 != 4) (R false vw32) (vJ28 () vw32)) (vJ28 () vw17)) (vJ28 () vw17)))))) PR) (R true vw9)
/-- foliant/folianttop.TopFlate -/
def S6 (s1 : ByteArray) (more2 : ByteArray) (cut3 : Int) (w : World) (R : Bool → World → Prop) (PR : Value → World → Prop) : Prop :=
  C17 (⟨#[3, 0]⟩ : ByteArray) 9 w fun r4 r5 r6 vw7 =>
    Br (!(r4.toList == (⟨#[]⟩ : ByteArray).toList)) (R false vw7) (Br (r5 != 2) (R false vw7) (Br (r6 != 0) (R false vw7) (Br (decide ((((s1).size : Nat) : Int) > 3000)) (R true vw7) (Br (decide ((((more2).size : Nat) : Int) > 300)) (R true vw7) (Lp (σ := Int) (S6L1 s1 more2 cut3 R PR) 0 vw7)))))
def pl6 : Plan := (.seq (.reg .seq) (.seq (.reg .seq) (.seq (.seq (.reg .seq) (.cond (.seq (.reg .seq) .leaf) .leaf)) (.seq (.seq (.reg .seq) (.cond (.seq (.reg .seq) .leaf) .leaf)) (.seq (.seq (.reg .seq) (.block (.loop [(10, (.one (.int .i64)))] [0, 1, 2] (.seq (.seq (.reg .seq) (.cond .leaf .leaf)) (.seq (.block (.seq (.reg .seq) (.seq (.reg .seq) (.seq (.seq (.reg .seq) (.cond (.seq (.reg .seq) .leaf) .leaf)) (.join [] [0, 1, 2, 10, 11] (.seq (.reg .seq) (.cond (.seq (.reg .seq) (.seq (.reg .seq) (.cond (.seq (.reg .seq) .leaf) .leaf))) .leaf)) (.seq (.reg .seq) (.cond (.seq (.reg .seq) (.seq (.reg .seq) (.cond (.seq (.reg .seq) .leaf) .leaf))) .leaf))))))) (.reg .seq)))))) (.seq (.reg .seq) .leaf))))))
set_option maxRecDepth 100000 in
theorem T6 (s1 : ByteArray) (more2 : ByteArray) (cut3 : Int) (w : World) (R : Bool → World → Prop) (PR : Value → World → Prop) (h : S6 s1 more2 cut3 w R PR) : C6 s1 more2 cut3 w R PR := by
  have e : fnT Tryd.prog ⟨FF, MAY, PR⟩ pl6 Tryd.f6 [.string s1, .string more2, .int .i64 cut3] w [(.one .bool)] (fun s w => R s w) = S6 s1 more2 cut3 w R PR := by kernel_rfl
  exact (fn_callsP okF okM Tryd.func6 (by kernel_rfl) (by kernel_rfl) (e.mpr h)).mono fun _ _ he => he.elim (fun ⟨s, he, hR⟩ => .inl ⟨s, he, hR⟩) .inr

def S7L1 (s1 : ByteArray) (r14 : Slc) (r16 : ByteArray) (r17 : Int) (R : Bool → World → Prop) (PR : Value → World → Prop) (I33 : (Int × Int) → World → Prop) (s31 : Int × Int) (vw32 : World) : Prop :=
  Br (decide (s31.2 < ((r14.len : Nat) : Int))) (0 ≤ s31.2 ∧ s31.2 < (r14.len : Nat) ∧ Nn r14.p fun a34 =>
    Ld vw32 (a34.add ((s31.2).toNat * 3)) (Value.int .u8) fun (x35 : Int) =>
    Ld vw32 ((a34.add ((s31.2).toNat * 3)).add 1) (Value.int .i64) fun (x36 : Int) =>
    Ld vw32 ((a34.add ((s31.2).toNat * 3)).add 2) (Value.int .i64) fun (x37 : Int) =>
    Nw vw32 (.cells #[.int .u8 0, .int .i64 0, .int .i64 0] 40) fun vw38 =>
    St vw38 (⟨vw32.heap.size, 0, none⟩ : Addr) (.int .u8 x35) fun vw39 =>
    St vw39 ((⟨vw32.heap.size, 0, none⟩ : Addr).add 1) (.int .i64 x36) fun vw40 =>
    St vw40 ((⟨vw32.heap.size, 0, none⟩ : Addr).add 2) (.int .i64 x37) fun vw41 =>
    Ld vw41 ((⟨vw32.heap.size, 0, none⟩ : Addr).add 1) (Value.int .i64) fun (x42 : Int) =>
    I33 (IntKind.i64.wrap (s31.1 + (if 1 > x42 then 1 else x42)), IntKind.i64.wrap (s31.2 + 1)) vw41) (Br (r17 != 0) (R false vw32) (Br (!(r16.toList == s1.toList)) (R false vw32) (Br (s31.1 != (((s1).size : Nat) : Int)) (R false vw32) ((((s1).size + (s1).size : Nat) : Int) ≤ IntKind.i64.max ∧ C14 (s1 ++ s1) 2 vw32 (fun r43 r44 vw45 =>
            C17 r43 (IntKind.i64.wrap (2 * (((s1).size : Nat) : Int))) vw45 fun r46 r47 r48 vw49 =>
              Br (r44 == 0) (Br (r48 == 0) ((((s1).size + (s1).size : Nat) : Int) ≤ IntKind.i64.max ∧ R (r46.toList == (s1 ++ s1).toList) vw49) (R false vw49)) (R false vw49)) PR))))
/-- foliant/folianttop.TopCopies -/
def S7 (s1 : ByteArray) (w : World) (R : Bool → World → Prop) (PR : Value → World → Prop) : Prop :=
  C18 (⟨#[97, 98, 99, 97, 98, 99]⟩ : ByteArray) w fun r8 vw9 =>
    Br (((r8.len : Nat) : Int) != 4) (R false vw9) (0 ≤ (3 : Int) ∧ (3 : Int) < (r8.len : Nat) ∧ Nn r8.p fun a10 =>
      Ld vw9 ((a10.add (((3 : Int)).toNat * 3)).add 1) (Value.int .i64) fun (x11 : Int) =>
      Br (x11 != 3) (R false vw9) (0 ≤ (3 : Int) ∧ (3 : Int) < (r8.len : Nat) ∧ Nn r8.p fun a12 =>
        Ld vw9 ((a12.add (((3 : Int)).toNat * 3)).add 2) (Value.int .i64) fun (x13 : Int) =>
        Br (x13 != 3) (R false vw9) (Br (decide ((((s1).size : Nat) : Int) > 1500)) (R true vw9) (C18 s1 vw9 fun r14 vw15 =>
              C19 r14 vw15 fun r16 r17 vw18 =>
                Lp (σ := Int × Int) (S7L1 s1 r14 r16 r17 R PR) (0, 0) vw18))))
def pl7 : Plan := (.seq (.reg .seq) (.seq (.seq (.reg .seq) (.seq (.reg .seq) (.cond (.seq (.reg .seq) .leaf) .leaf))) (.seq (.seq (.reg .seq) (.cond (.seq (.reg .seq) .leaf) .leaf)) (.seq (.reg .seq) (.seq (.reg .seq) (.seq (.reg .seq) (.seq (.seq (.reg .seq) (.block (.loop [(7, (.one (.int .i64))), (45, (.one (.int .i64)))] [0, 5, 6, 43, 44] (.seq (.reg .seq) (.seq (.cond .leaf .leaf) (.seq (.block (.seq (.reg .seq) (.reg .seq))) (.reg .seq))))))) (.seq (.seq (.reg .seq) (.cond (.seq (.reg .seq) .leaf) .leaf)) (.seq (.reg .seq) (.seq (.reg .seq) (.seq (.reg .seq) .leaf)))))))))))
set_option maxRecDepth 100000 in
theorem T7 (s1 : ByteArray) (w : World) (R : Bool → World → Prop) (PR : Value → World → Prop) (h : S7 s1 w R PR) : C7 s1 w R PR := by
  have e : fnT Tryd.prog ⟨FF, MAY, PR⟩ pl7 Tryd.f7 [.string s1] w [(.one .bool)] (fun s w => R s w) = S7 s1 w R PR := by kernel_rfl
  exact (fn_callsP okF okM Tryd.func7 (by kernel_rfl) (by kernel_rfl) (e.mpr h)).mono fun _ _ he => he.elim (fun ⟨s, he, hR⟩ => .inl ⟨s, he, hR⟩) .inr

end Go.Proofs.YtjkoafjnmkchdaaDoor

/- TopFlate: what is deflated is inflated again. Conditions: sizes; the laid variables. -/
namespace Go.Proofs.YtjkoafjnmkchdaaDoor
namespace Inf
open Sh Bit
set_option linter.unusedVariables false
set_option linter.unusedSimpArgs false
set_option maxRecDepth 4000
set_option maxHeartbeats 1000000
attribute [local irreducible] Ld St Nw Nn Lt LdS
theorem Laid.to {N : Nat} {w w' : World} (h : Laid N w) (he : Ext (fun _ => False) w w') : Laid N w' := h.keep he fun _ h => h.elim
theorem all30 : allR ⟨#[3, 0]⟩ 9 = (⟨#[]⟩, 2, 0) := by decide +kernel
theorem flate_law (S more : ByteArray) (cut : Int) {N : Nat} {w : World} (hL : Laid N w) : C6 S more cut w (fun r w1 => r = true ∧ Ext (fun _ => False) w w1) (fun _ _ => False) := by
  have hsz : S.data.toList.length = S.size := (size_list S).symm
  refine T6 _ _ _ _ _ _ ?_
  unfold S6
  refine (c_All (s := ⟨#[3, 0]⟩) (by show 2 ≤ 1000000; omega) hL 9).mono ?_
  rintro r4 r5 r6 w7 ⟨h, e7⟩
  rw [all30] at h
  simp only [Prod.mk.injEq] at h
  obtain ⟨rfl, rfl, rfl⟩ := h
  refine Br.f (by rw [beq_self_eq_true]; rfl) (Br.ne (fun h => absurd rfl h) fun _ => Br.ne (fun h => absurd rfl h) fun _ => Br.dec (fun _ => ⟨rfl, e7⟩) fun q1 => Br.dec (fun _ => ⟨rfl, e7⟩) fun q2 => ?_)
  refine ⟨fun m st w3 => ∃ i : Nat, st = (i : Int) ∧ m = 4 - i ∧ i ≤ 3 ∧ Ext (fun _ => False) w w3, 4, ⟨0, rfl, rfl, by decide, e7⟩, ?_⟩
  rintro m st w9 ⟨i, rfl, rfl, hi, e9⟩
  unfold S6L1
  refine Br.dec (fun q3 => ?_) fun q3 => ⟨rfl, e9⟩
  refine (c_AllW (S := S) (by omega) (lv := (i : Int)) (by omega) (by omega) w9).mono ?_ fun _ _ h => h
  rintro r e w13 ⟨rfl, ⟨T, rfl, g, h1, h2, _⟩, e13⟩
  have hR := Gives.allR g (by omega) (most := ((S.size : Nat) : Int)) (by omega)
  have eS : (⟨S.data.toList.toArray⟩ : ByteArray) = S := ba_ext (by simp)
  rw [eS] at hR
  have hmax : IntKind.i64.max = 9223372036854775807 := rfl
  have L13 := hL.to (e9.tr e13)
  obtain ⟨u, hu, _, _, _, hplain, _⟩ := ends_plain hR.symm
  have hu : u = T.length := by omega
  subst hu
  have hex : (⟨T.toArray⟩ : ByteArray).extract 0 T.length = ⟨T.toArray⟩ := ba_ext (by rw [extract_list]; simp)
  have hm := hplain more 0 (by decide)
  rw [hex, Int.add_zero] at hm
  refine ⟨?_, ?_⟩
  · rw [size_mk, hmax]; omega
  have hbig : ((⟨T.toArray⟩ : ByteArray) ++ more).size ≤ 1000000 := by rw [ByteArray.size_append, size_mk]; omega
  generalize (⟨T.toArray⟩ : ByteArray) ++ more = U at hm hbig ⊢
  refine (c_All (s := U) hbig L13 _).mono ?_
  rintro a b c w17 ⟨h, e17⟩
  rw [hm] at h
  simp only [Prod.mk.injEq] at h
  obtain ⟨ha, rfl, rfl⟩ := h
  replace ha := ha.symm
  subst ha
  refine Br.ne (fun h => (h rfl).elim) fun _ => ?_
  refine Br.ne (fun h => (h rfl).elim) fun _ => ?_
  have hbq : (!(S.toList == S.toList)) = false := by simp
  refine Br.f hbq ?_
  have hsm : ((T.length : Nat) : Int) = (((⟨T.toArray⟩ : ByteArray).size : Nat) : Int) := by rw [size_mk]
  refine Br.ne (fun h => (h hsm).elim) fun _ => ?_
  have E17 := (e9.tr e13).tr e17
  have next : ∀ w5, Ext (fun _ => False) w w5 → ∃ n', n' < 4 - i ∧ ∃ i_1 : Nat, IntKind.i64.wrap ((i : Int) + 1) = (i_1 : Int) ∧ n' = 4 - i_1 ∧ i_1 ≤ 3 ∧ Ext (fun _ => False) w w5 := fun w5 e5 =>
    ⟨4 - (i + 1), by omega, i + 1, by rw [i64_id (by omega)]; rfl, rfl, by omega, e5⟩
  refine ⟨fun _ w5 => Ext (fun _ => False) w w5, ?_, ?_⟩
  · rintro _ w5 e5
    unfold S6J1
    refine Br.dec (fun q4 => ?_) fun _ => next w5 e5
    rw [i64_id (n := ((S.size : Nat) : Int) - 1) (by omega)]
    refine (c_All (s := ⟨T.toArray⟩) (by rw [size_mk]; omega) (hL.to e5) _).mono ?_
    rintro a b c w6 ⟨h, e6⟩
    rw [Gives.few g (by omega) (by omega) (by omega)] at h
    simp only [Prod.mk.injEq] at h
    obtain ⟨rfl, rfl, rfl⟩ := h
    exact Br.ne (fun h => absurd rfl h) fun _ => next w6 (e5.tr e6)
  · refine Br.dec (fun q5 => Br.dec (fun q6 => ?_) fun _ => E17) fun _ => E17
    rw [size_mk] at q6
    refine ⟨by omega, by rw [size_mk]; omega, ?_⟩
    have hc := cut_plain (s := ⟨T.toArray⟩) (most := ((S.size : Nat) : Int)) (d := S) (by rw [size_mk]; exact hR.symm) (u := cut.toNat) (by rw [size_mk]; omega)
    refine (c_All (s := (⟨T.toArray⟩ : ByteArray).extract 0 cut.toNat) (by rw [ByteArray.size_extract, size_mk]; omega) (hL.to E17) _).mono ?_
    rintro a b c w6 ⟨h, e6⟩
    rw [hc] at h
    simp only [Prod.mk.injEq] at h
    obtain ⟨rfl, rfl, rfl⟩ := h
    exact Br.ne (fun h => absurd rfl h) fun _ => E17.tr e6
end Inf
end Go.Proofs.YtjkoafjnmkchdaaDoor

/- Zlib: the sums, both sides; the four bytes. Conditions: sizes. -/
namespace Go.Proofs.YtjkoafjnmkchdaaDoor
namespace Inf
open Sh Bit
set_option linter.unusedVariables false
set_option linter.unusedSimpArgs false
set_option maxRecDepth 4000
set_option maxHeartbeats 1000000
theorem u32_id {n : Int} (h : 0 ≤ n ∧ n ≤ 4294967295) : IntKind.u32.wrap n = n := by
  unfold IntKind.wrap
  simp [IntKind.bits, IntKind.signed]
  omega
theorem iand_u32 {x y : Nat} (hx : x < 2 ^ 32) (hy : y < 2 ^ 32) : iand .u32 (x : Int) (y : Int) = ((x &&& y : Nat) : Int) := by
  unfold iand
  rw [ofInt_nat, ofInt_nat]
  have h1 : (BitVec.ofNat IntKind.u32.bits x &&& BitVec.ofNat IntKind.u32.bits y).toNat = x &&& y := by
    rw [BitVec.toNat_and, BitVec.toNat_ofNat, BitVec.toNat_ofNat, Nat.mod_eq_of_lt (by simp [IntKind.bits]; omega), Nat.mod_eq_of_lt (by simp [IntKind.bits]; omega)]
  rw [h1]
  have h2 : x &&& y < 2 ^ 32 := Nat.and_lt_two_pow x hy
  exact u32_id (by omega)
theorem ior_u32 {x y : Nat} (hx : x < 2 ^ 32) (hy : y < 2 ^ 32) : ior .u32 (x : Int) (y : Int) = ((x ||| y : Nat) : Int) := by
  unfold ior
  rw [ofInt_nat, ofInt_nat]
  have h1 : (BitVec.ofNat IntKind.u32.bits x ||| BitVec.ofNat IntKind.u32.bits y).toNat = x ||| y := by
    rw [BitVec.toNat_or, BitVec.toNat_ofNat, BitVec.toNat_ofNat, Nat.mod_eq_of_lt (by simp [IntKind.bits]; omega), Nat.mod_eq_of_lt (by simp [IntKind.bits]; omega)]
  rw [h1]
  have h2 : x ||| y < 2 ^ 32 := Nat.or_lt_two_pow hx hy
  exact u32_id (by omega)
/-- One byte more. -/
def ad1 (p : Nat × Nat) (x : UInt8) : Nat × Nat := ((p.1 + x.toNat) % 65521, (p.2 + (p.1 + x.toNat) % 65521) % 65521)
def ad0 (was : Nat) : Nat × Nat := (was % 65536 % 65521, was / 65536 % 65521)
def adN (p : Nat × Nat) : Nat := p.2 * 65536 + p.1
/-- The sum of more bytes. -/
def adler (was : Nat) (l : List UInt8) : Nat := adN (l.foldl ad1 (ad0 was))
theorem ad_lt : ∀ (l : List UInt8) (p : Nat × Nat), p.1 < 65521 ∧ p.2 < 65521 → (l.foldl ad1 p).1 < 65521 ∧ (l.foldl ad1 p).2 < 65521
  | [], p, h => h
  | x :: l, p, h => by
    rw [List.foldl_cons]
    exact ad_lt l _ ⟨Nat.mod_lt _ (by decide), Nat.mod_lt _ (by decide)⟩
theorem ad0_lt (was : Nat) : (ad0 was).1 < 65521 ∧ (ad0 was).2 < 65521 := ⟨Nat.mod_lt _ (by decide), Nat.mod_lt _ (by decide)⟩
theorem adler_lt (was : Nat) (l : List UInt8) : adler was l < 4294967296 := by
  have := ad_lt l _ (ad0_lt was)
  unfold adler adN
  omega
theorem ad0_N {p : Nat × Nat} (h : p.1 < 65521 ∧ p.2 < 65521) : ad0 (adN p) = p := by
  unfold ad0 adN
  refine Prod.ext ?_ ?_
  · dsimp only; omega
  · dsimp only; omega
/-- Sums go on. -/
theorem adler_app (was : Nat) (s t : List UInt8) : adler (adler was s) t = adler was (s ++ t) := by
  unfold adler
  rw [ad0_N (ad_lt s _ (ad0_lt was)), List.foldl_append]
theorem tmodN (x n : Nat) : Int.tmod (x : Int) (n : Int) = ((x % n : Nat) : Int) := by
  rw [Int.tmod_eq_emod_of_nonneg (by omega)]
  simp
attribute [local irreducible] Ld St Nw Nn Lt LdS
theorem c_by {p : Nat × Nat} (h : p.1 < 65521 ∧ p.2 < 65521) (x : UInt8) {c : Int} (hc : c = (x.toNat : Int)) (w : World) : C20 ((p.1 : Int), (p.2 : Int)) c w fun r w1 => r = (((ad1 p x).1 : Int), ((ad1 p x).2 : Int)) ∧ Ext (fun _ => False) w w1 := by
  subst hc
  have hx := x.toNat_lt
  refine T20 ((p.1 : Int), (p.2 : Int)) _ _ _ ?_
  unfold S20
  refine (Hn.start w).nw fun w3 H => ?_
  simp only [List.nil_append] at H
  refine H.nw fun w4 H => ?_
  simp only [List.cons_append, List.nil_append] at H
  iterate 1 refine H.ld 0 rfl rfl ?_
  have e1 : Int.tmod (IntKind.u32.wrap ((p.1 : Int) + IntKind.u32.wrap (x.toNat : Int))) 65521 = (((p.1 + x.toNat) % 65521 : Nat) : Int) := by
    rw [u32_id (n := (x.toNat : Int)) (by omega), u32_id (by omega)]
    exact tmodN (p.1 + x.toNat) 65521
  have m1 : (p.1 + x.toNat) % 65521 < 65521 := Nat.mod_lt _ (by decide)
  rw [e1]
  iterate 1 (refine H.st 0 rfl (by simp) fun _ H => ?_; simp only [List.nil_append, List.cons_append, List.set_cons_zero, List.set_cons_succ, Nat.zero_add] at H)
  iterate 2 refine H.ld 0 rfl rfl ?_
  have e2 : Int.tmod (IntKind.u32.wrap ((p.2 : Int) + (((p.1 + x.toNat) % 65521 : Nat) : Int))) 65521 = (((p.2 + (p.1 + x.toNat) % 65521) % 65521 : Nat) : Int) := by
    rw [u32_id (by omega)]
    exact tmodN (p.2 + (p.1 + x.toNat) % 65521) 65521
  rw [e2]
  iterate 1 (refine H.st 0 rfl (by simp) fun _ H => ?_; simp only [List.nil_append, List.cons_append, List.set_cons_zero, List.set_cons_succ, Nat.zero_add] at H)
  iterate 2 refine H.ld 0 rfl rfl ?_
  iterate 2 (refine H.st 1 rfl (by simp) fun _ H => ?_; simp only [List.nil_append, List.cons_append, List.set_cons_zero, List.set_cons_succ, Nat.zero_add] at H)
  iterate 2 refine H.ld 1 rfl rfl ?_
  exact ⟨rfl, H.ext⟩
theorem take_fold {s : List UInt8} {i : Nat} (h : i < s.length) (p : Nat × Nat) : (s.take (i + 1)).foldl ad1 p = ad1 ((s.take i).foldl ad1 p) (s.getD i 0) := by
  rw [List.take_add_one, List.getElem?_eq_getElem h, List.foldl_append, List.getD_eq_getElem?_getD, List.getElem?_eq_getElem h]
  rfl
/-- foliant/zlib.More -/
theorem c_More {was : Nat} (hw : was < 4294967296) {S : ByteArray} (hs : S.size ≤ 4294967296) (w : World) : C11 (was : Int) S w fun r w1 => r = ((adler was S.data.toList : Nat) : Int) ∧ Ext (fun _ => False) w w1 := by
  have hsz : S.data.toList.length = S.size := (size_list S).symm
  refine T11 _ _ _ _ ?_
  unfold S11
  refine (Hn.start w).nw fun w3 H => ?_
  simp only [List.nil_append] at H
  have e1 : Int.tmod (iand .u32 (was : Int) 65535) 65521 = ((was % 65536 % 65521 : Nat) : Int) := by
    have := iand_u32 (x := was) (y := 65535) (by omega) (by decide)
    rw [show (65535 : Int) = ((65535 : Nat) : Int) from rfl, this, show (65535 : Nat) = 2 ^ 16 - 1 by decide, Nat.and_two_pow_sub_one_eq_mod]
    exact tmodN _ 65521
  have e2 : Int.tmod (Int.fdiv (was : Int) (2 ^ 16)) 65521 = ((was / 65536 % 65521 : Nat) : Int) := by
    rw [fdiv_pow, show (2 : Int) ^ 16 = ((65536 : Nat) : Int) by decide, ← Int.natCast_ediv]
    exact tmodN _ 65521
  rw [e1, e2]
  iterate 2 (refine H.st 0 rfl (by simp) fun _ H => ?_; simp only [List.nil_append, List.cons_append, List.set_cons_zero, List.set_cons_succ, Nat.zero_add] at H)
  refine ⟨fun m i' w5 => ∃ i : Nat, i' = (i : Int) ∧ i ≤ S.size ∧ m = S.size - i ∧ Hn w w5 [(w.heap.size, [.int .u32 (((S.data.toList.take i).foldl ad1 (ad0 was)).1 : Int), .int .u32 (((S.data.toList.take i).foldl ad1 (ad0 was)).2 : Int)], 45)], S.size, ⟨0, rfl, Nat.zero_le _, rfl, H⟩, ?_⟩
  rintro m i' w5 ⟨i, rfl, hi, rfl, H⟩
  unfold S11L1
  have hlt := ad_lt (S.data.toList.take i) _ (ad0_lt was)
  refine Br.dec (fun q => ?_) fun q => ?_
  · have H := H.drew
    iterate 2 refine H.ld 0 rfl rfl ?_
    refine ⟨by omega, by omega, ?_⟩
    have htf := take_fold (s := S.data.toList) (i := i) (by omega) (ad0 was)
    refine (c_by hlt (S.data.toList.getD i 0) (bAt_list S i) _).mono ?_
    rintro r w6 ⟨rfl, e6⟩
    have H := H.keep e6
    iterate 2 (refine H.st 0 rfl (by simp) fun _ H => ?_; simp only [List.nil_append, List.cons_append, List.set_cons_zero, List.set_cons_succ, Nat.zero_add] at H)
    refine ⟨S.size - (i + 1), by omega, i + 1, by rw [i64_id (by omega)]; rfl, by omega, rfl, ?_⟩
    rw [htf]
    exact H
  · have : i = S.size := by omega
    subst this
    rw [List.take_of_length_le (by omega)] at H hlt
    iterate 2 refine H.ld 0 rfl rfl ?_
    refine ⟨?_, H.ext⟩
    have hn : (((S.data.toList.foldl ad1 (ad0 was)).2 : Nat) : Int) * 2 ^ 16 = (((S.data.toList.foldl ad1 (ad0 was)).2 * 65536 : Nat) : Int) := by
      rw [show (2 : Int) ^ 16 = 65536 by decide]; simp
    rw [hn, u32_id (by omega), ior_u32 (by omega) (by omega), show (65536 : Nat) = 2 ^ 16 by decide, Nat.mul_comm, ← Nat.two_pow_add_eq_or_of_lt (by omega)]
    unfold adler adN
    rw [show (2 : Nat) ^ 16 = 65536 by decide, Nat.mul_comm]
theorem c_Sum {S : ByteArray} (hs : S.size ≤ 4294967296) (w : World) : C9 S w fun r w1 => r = ((adler 1 S.data.toList : Nat) : Int) ∧ Ext (fun _ => False) w w1 := by
  refine T9 _ _ _ ?_
  unfold S9
  exact (c_More (was := 1) (by decide) hs w).mono fun r w1 h => h
theorem r_More {was : Nat} (hw : was < 4294967296) {S : ByteArray} (hs : S.size ≤ 4294967296) (w : World) : C12 (was : Int) S w fun r w1 => r = ((adler was S.data.toList : Nat) : Int) ∧ Ext (fun _ => False) w w1 := by
  have hsz : S.data.toList.length = S.size := (size_list S).symm
  refine T12 _ _ _ _ ?_
  unfold S12
  have e1 : Int.tmod (Int.tmod (was : Int) 65536) 65521 = ((was % 65536 % 65521 : Nat) : Int) := by
    rw [show Int.tmod (was : Int) 65536 = ((was % 65536 : Nat) : Int) from tmodN was 65536]
    exact tmodN _ 65521
  have e2 : Int.tmod (IntKind.u32.wrap (Int.tdiv (was : Int) 65536)) 65521 = ((was / 65536 % 65521 : Nat) : Int) := by
    rw [Int.tdiv_eq_ediv_of_nonneg (by omega), show (65536 : Int) = ((65536 : Nat) : Int) from rfl, ← Int.natCast_ediv, u32_id (by omega)]
    exact tmodN _ 65521
  rw [e1, e2]
  refine ⟨fun m st w5 => ∃ i : Nat, st = ((((S.data.toList.take i).foldl ad1 (ad0 was)).1 : Int), (((S.data.toList.take i).foldl ad1 (ad0 was)).2 : Int), (i : Int)) ∧ i ≤ S.size ∧ m = S.size - i ∧ w5 = w, S.size, ⟨0, rfl, Nat.zero_le _, rfl, rfl⟩, ?_⟩
  rintro m st w5 ⟨i, rfl, hi, rfl, rfl⟩
  unfold S12L1
  have hlt := ad_lt (S.data.toList.take i) _ (ad0_lt was)
  dsimp only
  refine Br.dec (fun q => ?_) fun q => ?_
  · have htf := take_fold (s := S.data.toList) (i := i) (by omega) (ad0 was)
    generalize (S.data.toList.take i).foldl ad1 (ad0 was) = p at hlt htf ⊢
    have hx := (S.data.toList.getD i 0).toNat_lt
    have e3 : Int.tmod (IntKind.u32.wrap ((p.1 : Int) + IntKind.u32.wrap (bAt S (i : Int)))) 65521 = (((p.1 + (S.data.toList.getD i 0).toNat) % 65521 : Nat) : Int) := by
      rw [bAt_list, u32_id (n := ((S.data.toList.getD i 0).toNat : Int)) (by omega), u32_id (by omega)]
      exact tmodN (p.1 + (S.data.toList.getD i 0).toNat) 65521
    have m1 : (p.1 + (S.data.toList.getD i 0).toNat) % 65521 < 65521 := Nat.mod_lt _ (by decide)
    rw [e3, u32_id (n := (p.2 : Int) + _) (by omega)]
    refine ⟨by omega, by omega, Lt.of ?_⟩
    have e4 : Int.tmod ((p.2 : Int) + (((p.1 + (S.data.toList.getD i 0).toNat) % 65521 : Nat) : Int)) 65521 = (((p.2 + (p.1 + (S.data.toList.getD i 0).toNat) % 65521) % 65521 : Nat) : Int) := tmodN (p.2 + (p.1 + (S.data.toList.getD i 0).toNat) % 65521) 65521
    rw [e4]
    exact ⟨S.size - (i + 1), by omega, i + 1, by rw [i64_id (by omega), htf]; rfl, by omega, rfl, rfl⟩
  · have : i = S.size := by omega
    subst this
    rw [List.take_of_length_le (by omega)] at hlt ⊢
    refine ⟨?_, Ext.refl _ _⟩
    rw [u32_id (n := 65536 * _) (by omega), u32_id (by omega)]
    unfold adler adN
    omega
theorem r_Sum {S : ByteArray} (hs : S.size ≤ 4294967296) (w : World) : C10 S w fun r w1 => r = ((adler 1 S.data.toList : Nat) : Int) ∧ Ext (fun _ => False) w w1 := by
  refine T10 _ _ _ ?_
  unfold S10
  exact (r_More (was := 1) (by decide) hs w).mono fun r w1 h => h
end Inf
end Go.Proofs.YtjkoafjnmkchdaaDoor

/- Zlib: wrapping and unwrapping. Conditions: sizes; the laid variables. -/
namespace Go.Proofs.YtjkoafjnmkchdaaDoor
namespace Inf
open Sh Bit
set_option linter.unusedVariables false
set_option linter.unusedSimpArgs false
set_option maxRecDepth 4000
set_option maxHeartbeats 1000000
attribute [local irreducible] Ld St Nw Nn Lt LdS
theorem eqL (a b : ByteArray) : (a.toList == b.toList) = decide (a.data.toList = b.data.toList) := by
  rw [ByteArray.toList_eq, ByteArray.toList_eq]
  by_cases h : a.data.toList = b.data.toList
  · rw [decide_eq_true h]
    simpa using h
  · rw [decide_eq_false h]
    simpa using h
theorem mk_list (l : List UInt8) : (⟨l.toArray⟩ : ByteArray).data.toList = l := by simp
theorem app_mk (a b : List UInt8) : (⟨a.toArray⟩ : ByteArray) ++ ⟨b.toArray⟩ = ⟨(a ++ b).toArray⟩ := ba_ext (by rw [ByteArray.data_append, Array.toList_append])
theorem app_list (a b : ByteArray) : (a ++ b).data.toList = a.data.toList ++ b.data.toList := by rw [ByteArray.data_append, Array.toList_append]
theorem of_list (s : ByteArray) : (⟨s.data.toList.toArray⟩ : ByteArray) = s := ba_ext (by simp)
/-! ### The four bytes -/
def fourL (n : Nat) : List UInt8 := [UInt8.ofNat (n / 16777216), UInt8.ofNat (n / 65536), UInt8.ofNat (n / 256), UInt8.ofNat n]
theorem u8w (n : Nat) : IntKind.u8.wrap (n : Int) = ((UInt8.ofNat n).toNat : Int) := by
  unfold IntKind.wrap
  simp [IntKind.bits, IntKind.signed]
theorem fd24 (n : Nat) : Int.fdiv (n : Int) (2 ^ 24) = ((n / 16777216 : Nat) : Int) := by
  rw [fdiv_pow, show (2 : Int) ^ 24 = ((16777216 : Nat) : Int) by decide, ← Int.natCast_ediv]
theorem fd16 (n : Nat) : Int.fdiv (n : Int) (2 ^ 16) = ((n / 65536 : Nat) : Int) := by
  rw [fdiv_pow, show (2 : Int) ^ 16 = ((65536 : Nat) : Int) by decide, ← Int.natCast_ediv]
theorem fd8 (n : Nat) : Int.fdiv (n : Int) (2 ^ 8) = ((n / 256 : Nat) : Int) := by
  rw [fdiv_pow, show (2 : Int) ^ 8 = ((256 : Nat) : Int) by decide, ← Int.natCast_ediv]
theorem c_four {n : Nat} (w : World) : C21 (n : Int) w fun r w1 => r = ⟨(fourL n).toArray⟩ ∧ Ext (fun _ => False) w w1 := by
  refine T21 _ _ _ ?_
  unfold S21
  rw [fd24, fd16, fd8, u8w, u8w, u8w, u8w]
  refine Nw.of ?_
  have e1 := (Ext.refl (fun _ => False) w).alloc (.cells (bcs (fourL n)).toArray 5)
  have R1 : BRow (w.alloc (.cells (bcs (fourL n)).toArray 5)) ⟨some ⟨w.heap.size, 0, none⟩, 4, 4⟩ (fourL n) := Row.new w (bcs (fourL n)).toArray 5 1 4 rfl
  exact ⟨_, _, str_row R1, rfl, e1⟩
theorem c_byte1 (b : UInt8) (w : World) : ∃ w1, RunV Tryd.prog (convert 32 9 (Slc.v (⟨some ⟨w.heap.size, 0, none⟩, 1, 1⟩ : Slc))) (w.alloc (.cells #[.int .u8 (b.toNat : Int)] 5)) (.string ⟨#[b]⟩) w1 ∧ Ext (fun _ => False) w w1 := by
  have e1 := (Ext.refl (fun _ => False) w).alloc (.cells (bcs [b]).toArray 5)
  have R1 : BRow (w.alloc (.cells (bcs [b]).toArray 5)) ⟨some ⟨w.heap.size, 0, none⟩, 1, 1⟩ [b] := Row.new w (bcs [b]).toArray 5 1 1 rfl
  exact ⟨_, str_row R1, e1⟩
theorem fourL_len (n : Nat) : (fourL n).length = 4 := rfl
/-! ### The head -/
def headE (a b : Nat) : Int := if a % 16 ≠ 8 then 3 else if 7 < a / 16 then 3 else if (256 * a + b) % 31 ≠ 0 then 3 else if b / 32 % 2 ≠ 0 then 3 else 0
theorem headE_or (a b : Nat) : headE a b = 0 ∨ headE a b = 3 := by
  unfold headE
  repeat' split
  all_goals first | exact .inl rfl | exact .inr rfl
def beginsE (s : ByteArray) : Int := if s.size < 2 then 4 else headE (s.data.toList.getD 0 0).toNat (s.data.toList.getD 1 0).toNat
theorem and32 : ∀ b : Nat, b < 256 → b &&& 32 = b / 32 % 2 * 32 := by decide +kernel
theorem and15 : ∀ b : Nat, b < 256 → b &&& 15 = b % 16 := by decide +kernel
theorem c_begins (s : ByteArray) (w : World) : C26 s w fun r w1 => r = beginsE s ∧ Ext (fun _ => False) w w1 := by
  refine T26 _ _ _ ?_
  unfold S26
  refine Br.dec (fun q => ⟨by unfold beginsE; rw [if_pos (by omega)], Ext.refl _ _⟩) fun q => ⟨by decide, by omega, by decide, by omega, ?_⟩
  have e : beginsE s = headE (s.data.toList.getD 0 0).toNat (s.data.toList.getD 1 0).toNat := by unfold beginsE; rw [if_neg (by omega)]
  have h0 : bAt s 0 = (((s.data.toList.getD 0 0).toNat : Nat) : Int) := bAt_list s 0
  have h1 : bAt s 1 = (((s.data.toList.getD 1 0).toNat : Nat) : Int) := bAt_list s 1
  rw [e, h0, h1]
  have l0 := (s.data.toList.getD 0 0).toNat_lt
  have l1 := (s.data.toList.getD 1 0).toNat_lt
  generalize (s.data.toList.getD 0 0).toNat = a at *
  generalize (s.data.toList.getD 1 0).toNat = b at *
  have l0 : a < 256 := l0
  have l1 : b < 256 := l1
  rw [i64_id (n := (a : Int)) (by omega), i64_id (n := (b : Int)) (by omega)]
  have a1 : iand .i64 (a : Int) 15 = ((a % 16 : Nat) : Int) := by rw [show (15 : Int) = ((15 : Nat) : Int) from rfl, iand_nat (by omega) (by decide), and15 a l0]
  have a2 : Int.fdiv (a : Int) (2 ^ 4) = ((a / 16 : Nat) : Int) := by rw [fdiv_pow, show (2 : Int) ^ 4 = ((16 : Nat) : Int) by decide, ← Int.natCast_ediv]
  have a3 : ior .i64 (IntKind.i64.wrap ((a : Int) * 2 ^ 8)) (b : Int) = ((256 * a + b : Nat) : Int) := by
    rw [show (a : Int) * 2 ^ 8 = ((a * 2 ^ 8 : Nat) : Int) by simp, i64_id (by omega), ior_nat (by omega) (by omega), Nat.or_comm, or_shift (by omega)]
    omega
  have a4 : iand .i64 (b : Int) 32 = ((b / 32 % 2 * 32 : Nat) : Int) := by rw [show (32 : Int) = ((32 : Nat) : Int) from rfl, iand_nat (by omega) (by decide), and32 b l1]
  have hd := (Ext.refl (fun _ => False) w).drew
  rw [a1, a2, a3, a4]
  unfold headE
  refine Br.ne (fun h => ⟨(if_pos (by omega)).symm, hd⟩) fun h => ?_
  rw [if_neg (by omega)]
  refine Br.dec (fun h => ⟨(if_pos (by omega)).symm, hd⟩) fun h => ?_
  rw [if_neg (by omega)]
  refine Lt.of ?_
  have a5 : Int.tmod (((256 * a + b : Nat) : Int)) 31 = (((256 * a + b) % 31 : Nat) : Int) := tmodN _ 31
  rw [a5]
  refine Br.ne (fun h => ⟨(if_pos (by omega)).symm, hd⟩) fun h => ?_
  rw [if_neg (by omega)]
  refine Br.ne (fun h => ⟨(if_pos (by omega)).symm, hd⟩) fun h => ?_
  rw [if_neg (by omega)]
  exact ⟨rfl, hd⟩
/-! ### Wrap -/
def wrapT (T s : List UInt8) : List UInt8 := [120, 156] ++ (T ++ fourL (adler 1 s))
def WrapR (S : ByteArray) (lv : Int) (w : World) (r : ByteArray) (e : Int) (w1 : World) : Prop :=
  e = 0 ∧ (∃ T : List UInt8, r = ⟨(wrapT T S.data.toList).toArray⟩ ∧ Gives T S.data.toList ∧ T.length ≤ S.size + 5 ∧ (lv = 0 → T.length = S.size + 5) ∧ AllOf S.data.toList lv T) ∧ Ext (fun _ => False) w w1
theorem c_AllBad {S : ByteArray} {lv : Int} (h : lv < 0 ∨ 2 < lv) (w : World) : C14 S lv w (fun r e w1 => r = ⟨#[]⟩ ∧ e = 1 ∧ Ext (fun _ => False) w w1) (fun _ _ => False) := by
  refine T14 _ _ _ _ _ ?_
  unfold S14
  refine Br.dec (fun q => ⟨rfl, rfl, Ext.refl _ _⟩) fun q1 => Br.dec (fun q => ⟨rfl, rfl, Ext.refl _ _⟩) fun q2 => absurd h (by omega)
theorem c_Wrap {S : ByteArray} (hs : S.size ≤ 65535) {lv : Int} (h0 : 0 ≤ lv) (h2 : lv ≤ 2) (w : World) : C13 S lv w (fun r e w1 => WrapR S lv w r e w1) (fun _ _ => False) := by
  refine T13 _ _ _ _ _ ?_
  unfold S13
  refine (c_AllW hs h0 h2 w).mono ?_ fun _ _ h => h
  rintro r e w5 ⟨rfl, ⟨T, rfl, g, h1, h3, h4⟩, e5⟩
  have hmax : IntKind.i64.max = 9223372036854775807 := rfl
  have hs2 : (⟨#[120, 156]⟩ : ByteArray).size = 2 := rfl
  refine Br.ne (fun h => (h rfl).elim) fun _ => ⟨by rw [hmax, hs2, size_mk]; omega, ?_⟩
  refine (c_Sum (S := S) (by omega) w5).mono ?_
  rintro r6 w7 ⟨rfl, e7⟩
  refine (c_four w7).mono ?_
  rintro r8 w9 ⟨rfl, e9⟩
  refine ⟨by rw [hmax, ByteArray.size_append, hs2, size_mk, size_mk, fourL_len]; omega, rfl, ⟨T, ?_, g, h1, h3, h4⟩, (e5.tr e7).tr e9⟩
  refine ba_ext ?_
  rw [app_list, app_list, mk_list, mk_list, mk_list]
  exact List.append_assoc _ _ _
theorem c_WrapBad {S : ByteArray} {lv : Int} (h : lv < 0 ∨ 2 < lv) (w : World) : C13 S lv w (fun r e w1 => r = ⟨#[]⟩ ∧ e = 1 ∧ Ext (fun _ => False) w w1) (fun _ _ => False) := by
  refine T13 _ _ _ _ _ ?_
  unfold S13
  refine (c_AllBad h w).mono ?_ fun _ _ h => h
  rintro r e w5 ⟨rfl, rfl, e5⟩
  exact Br.ne (fun h => ⟨rfl, rfl, e5⟩) fun h => by cases h
/-! ### Unwrap -/
def unwrapF (s : ByteArray) (most : Int) : ByteArray × Int :=
  if beginsE s ≠ 0 then (⟨#[]⟩, beginsE s) else
  if (allR (s.extract 2 s.size) most).2.2 ≠ 0 then (⟨#[]⟩, (allR (s.extract 2 s.size) most).2.2) else
  if (s.size : Int) - 2 - (allR (s.extract 2 s.size) most).2.1 < 4 then (⟨#[]⟩, 4) else
  if ((s.data.toList.drop 2).drop (allR (s.extract 2 s.size) most).2.1.toNat).take 4 = fourL (adler 1 (allR (s.extract 2 s.size) most).1.data.toList) then ((allR (s.extract 2 s.size) most).1, 0) else (⟨#[]⟩, 12)
theorem allR_small {s : ByteArray} {most : Int} {d : ByteArray} {n : Int} (h : (d, n, 0) = allR s most) : d.size ≤ 1048576 := by
  by_cases hm : most < 0
  · unfold allR at h
    rw [if_pos hm] at h
    cases h
  · have e : allR s most = allR s (min most 1048576) := by
      rw [allR_Q (by omega), allR_Q (by omega), show min (min most 1048576) 1048576 = min most 1048576 by omega]
    rw [e] at h
    obtain ⟨u, _, _, _, u3, _, _⟩ := ends_plain h
    omega
theorem begins_two {s : ByteArray} (h : beginsE s = 0) : 2 ≤ s.size := by
  unfold beginsE at h
  split at h
  · cases h
  · omega
theorem c_Unwrap {s : ByteArray} (hs : s.size ≤ 1000000) {N : Nat} {w : World} (hL : Laid N w) (m : Int) : C16 s m w fun d e w1 => (d, e) = unwrapF s m ∧ Ext (fun _ => False) w w1 := by
  have hsz : s.data.toList.length = s.size := (size_list s).symm
  refine T16 _ _ _ _ ?_
  unfold S16
  refine (c_begins s w).mono ?_
  rintro r5 w6 ⟨rfl, e6⟩
  unfold unwrapF
  refine Br.ne (fun h => ⟨(if_pos h).symm, e6⟩) fun h => ?_
  rw [if_neg (fun k => k h)]
  have h2 := begins_two h
  refine ⟨by decide, by omega, ?_⟩
  have e2 : ((2 : Int)).toNat = 2 := rfl
  rw [e2]
  have hx : (s.extract 2 s.size).size = s.size - 2 := by rw [ByteArray.size_extract]; omega
  have hxl : (s.extract 2 s.size).data.toList = s.data.toList.drop 2 := extract_drop s 2
  generalize s.extract 2 s.size = x at *
  refine (c_All (s := x) (by omega) (hL.to e6) m).mono ?_
  rintro t n e w10 ⟨hR, e10⟩
  rw [← hR]
  dsimp only
  refine Br.ne (fun h => ⟨(if_pos h).symm, e6.tr e10⟩) fun h => ?_
  subst h
  rw [if_neg (fun k => k rfl)]
  have ht := allR_small hR
  obtain ⟨u, rfl, u1, u2, u3, _, _⟩ := ends_plain hR
  rw [i64_id (n := ((x.size : Nat) : Int) - (u : Int)) (by omega)]
  refine Lt.of ?_
  refine Br.dec (fun q => ⟨(if_pos (by omega)).symm, e6.tr e10⟩) fun q => ?_
  rw [if_neg (by omega)]
  have ew : IntKind.i64.wrap ((u : Int) + 4) = ((u + 4 : Nat) : Int) := i64_id (by omega)
  rw [ew, Int.toNat_natCast, Int.toNat_natCast]
  refine ⟨by omega, by omega, by omega, by omega, ?_⟩
  refine (c_Sum (S := t) (by omega) _).mono ?_
  rintro r12 w13 ⟨rfl, e13⟩
  refine (c_four _).mono ?_
  rintro r14 w15 ⟨rfl, e15⟩
  have E := (((e6.tr e10).drew).tr e13).tr e15
  have hex : (x.extract u (u + 4)).data.toList = ((s.data.toList.drop 2).drop u).take 4 := by
    rw [extract_list, hxl, show u + 4 - u = 4 by omega]
  rw [eqL, hex, mk_list]
  by_cases hq : ((s.data.toList.drop 2).drop u).take 4 = fourL (adler 1 t.data.toList)
  · rw [if_pos hq]
    exact Br.f (by rw [decide_eq_true hq]; rfl) ⟨rfl, E⟩
  · rw [if_neg hq]
    exact Br.t (by rw [decide_eq_false hq]; rfl) ⟨rfl, E⟩
/-! ### Plain -/
theorem unwrap_at {T out R : List UInt8} {a b : UInt8} (h : headE a.toNat b.toNat = 0) (g : Gives T out) (hb : out.length ≤ 1048576) {most : Int} (hm : (out.length : Int) ≤ most) :
    unwrapF ⟨(a :: b :: (T ++ R)).toArray⟩ most = if R.length < 4 then (⟨#[]⟩, 4) else if R.take 4 = fourL (adler 1 out) then (⟨out.toArray⟩, 0) else (⟨#[]⟩, 12) := by
  have hsz : (⟨(a :: b :: (T ++ R)).toArray⟩ : ByteArray).size = 2 + T.length + R.length := by rw [size_mk]; simp; omega
  have hbg : beginsE ⟨(a :: b :: (T ++ R)).toArray⟩ = 0 := by
    unfold beginsE
    rw [if_neg (by omega), mk_list]
    exact h
  have hex : (⟨(a :: b :: (T ++ R)).toArray⟩ : ByteArray).extract 2 (⟨(a :: b :: (T ++ R)).toArray⟩ : ByteArray).size = ⟨T.toArray⟩ ++ ⟨R.toArray⟩ := by
    refine ba_ext ?_
    rw [extract_drop, app_list, mk_list, mk_list, mk_list]
    rfl
  have hR := g.allR hb hm
  obtain ⟨u, hu, _, _, _, hplain, _⟩ := ends_plain hR.symm
  have hu : u = T.length := by omega
  subst hu
  have hT : (⟨T.toArray⟩ : ByteArray).extract 0 T.length = ⟨T.toArray⟩ := ba_ext (by rw [extract_list]; simp)
  have hall := hplain ⟨R.toArray⟩ 0 (by decide)
  rw [hT, Int.add_zero] at hall
  unfold unwrapF
  rw [hbg, if_neg (fun k => k rfl), hex, hall, hsz, mk_list]
  dsimp only
  rw [if_neg (fun k => k rfl)]
  by_cases hl : R.length < 4
  · have hne : ((2 + T.length + R.length : Nat) : Int) - 2 - ((T.length : Nat) : Int) < 4 := by omega
    rw [if_pos hl, if_pos hne]
  · have hne : ¬ ((2 + T.length + R.length : Nat) : Int) - 2 - ((T.length : Nat) : Int) < 4 := by omega
    have : List.drop T.length (List.drop 2 (a :: b :: (T ++ R))) = R := by simp
    rw [if_neg hl, if_neg hne, Int.toNat_natCast, this]
theorem unwrap_head {l : List UInt8} {a b : UInt8} (h : headE a.toNat b.toNat ≠ 0) (most : Int) : unwrapF ⟨(a :: b :: l).toArray⟩ most = (⟨#[]⟩, 3) := by
  have hbg : beginsE ⟨(a :: b :: l).toArray⟩ = 3 := by
    unfold beginsE
    rw [if_neg (by rw [size_mk]; simp), mk_list]
    exact (headE_or _ _).resolve_left h
  unfold unwrapF
  rw [hbg, if_pos (by decide)]
end Inf
end Go.Proofs.YtjkoafjnmkchdaaDoor

/- Zlib: the sample, the sums, a spoilt sum. Conditions: sizes; the laid variables. -/
namespace Go.Proofs.YtjkoafjnmkchdaaDoor
namespace Inf
open Sh Bit
set_option linter.unusedVariables false
set_option linter.unusedSimpArgs false
set_option maxRecDepth 4000
set_option maxHeartbeats 1000000
attribute [local irreducible] Ld St Nw Nn Lt LdS
def Wiki : List UInt8 := [87, 105, 107, 105, 112, 101, 100, 105, 97]
theorem adWiki : fourL (adler 1 Wiki) = [17, 230, 3, 152] := by decide +kernel
theorem adWiki2 : adler 1 Wiki = 300286872 := by decide +kernel
theorem adNone : adler 1 [] = 1 := by decide +kernel
theorem h156 : headE (120 : UInt8).toNat (156 : UInt8).toNat = 0 := by decide +kernel
theorem h157 : headE (120 : UInt8).toNat (157 : UInt8).toNat = 3 := by decide +kernel
theorem un1 : unwrapF ⟨#[120]⟩ 9 = (⟨#[]⟩, 4) := by
  unfold unwrapF
  have h : beginsE ⟨#[120]⟩ = 4 := by decide +kernel
  rw [h, if_pos (by decide)]
theorem un2 : unwrapF ⟨#[120, 157]⟩ 9 = (⟨#[]⟩, 3) := unwrap_head (l := []) (a := 120) (b := 157) (by rw [h157]; decide) 9
theorem z_lives {N : Nat} {w : World} (hL : Laid N w) : C8 w (fun r w1 => r = true ∧ Ext (fun _ => False) w w1) (fun _ _ => False) := by
  have hmax : IntKind.i64.max = 9223372036854775807 := rfl
  have sW : (⟨#[87, 105, 107, 105, 112, 101, 100, 105, 97]⟩ : ByteArray).size = 9 := rfl
  have lW : (⟨#[87, 105, 107, 105, 112, 101, 100, 105, 97]⟩ : ByteArray).data.toList = Wiki := rfl
  refine T8 _ _ _ ?_
  unfold S8
  refine (c_Wrap (S := ⟨#[87, 105, 107, 105, 112, 101, 100, 105, 97]⟩) (by decide) (lv := 0) (by decide) (by decide) w).mono ?_ fun _ _ h => h
  rintro r e w3 ⟨rfl, ⟨T, rfl, g, h1, h3, _⟩, e3⟩
  rw [sW] at h1 h3
  rw [lW] at g
  rw [lW]
  have hT := h3 rfl
  have hw : wrapT T Wiki = 120 :: 156 :: (T ++ [17, 230, 3, 152]) := by unfold wrapT; rw [adWiki]; rfl
  rw [hw]
  have hsz : (⟨(120 :: 156 :: (T ++ [17, 230, 3, 152])).toArray⟩ : ByteArray).size = 20 := by rw [size_mk]; simp; omega
  have s1 : (⟨#[120]⟩ : ByteArray).size = 1 := rfl
  refine ⟨by rw [hmax, hsz, s1]; decide, ?_⟩
  have hap : (⟨(120 :: 156 :: (T ++ [17, 230, 3, 152])).toArray⟩ : ByteArray) ++ ⟨#[120]⟩ = ⟨(120 :: 156 :: (T ++ [17, 230, 3, 152, 120])).toArray⟩ := by
    refine ba_ext ?_
    rw [app_list, mk_list, mk_list]
    simp
  rw [hap]
  have hw1 : unwrapF ⟨(120 :: 156 :: (T ++ [17, 230, 3, 152, 120])).toArray⟩ 9 = (⟨Wiki.toArray⟩, 0) := by
    rw [unwrap_at h156 g (by decide) (by decide), if_neg (by decide), adWiki, if_pos (by decide)]
  refine (c_Unwrap (s := ⟨(120 :: 156 :: (T ++ [17, 230, 3, 152, 120])).toArray⟩) (by rw [size_mk]; simp; omega) (hL.to e3) 9).mono ?_
  rintro r4 r5 w6 ⟨h, e6⟩
  rw [hw1] at h
  obtain ⟨rfl, rfl⟩ := Prod.mk.inj h
  have E6 := e3.tr e6
  refine (c_Unwrap (s := ⟨#[120]⟩) (by decide) (hL.to E6) 9).mono ?_
  rintro r7 r8 w9 ⟨h, e9⟩
  rw [un1] at h
  obtain ⟨rfl, rfl⟩ := Prod.mk.inj h
  have E9 := E6.tr e9
  refine (c_Unwrap (s := ⟨#[120, 157]⟩) (by decide) (hL.to E9) 9).mono ?_
  rintro r10 r11 w12 ⟨h, e12⟩
  rw [un2] at h
  obtain ⟨rfl, rfl⟩ := Prod.mk.inj h
  have E12 := E9.tr e12
  refine (c_WrapBad (S := ⟨#[97]⟩) (lv := 3) (.inr (by decide)) w12).mono ?_ fun _ _ h => h
  rintro r13 r14 w15 ⟨rfl, rfl, e15⟩
  refine (c_Sum (S := ⟨#[]⟩) (by decide) w15).mono ?_
  rintro r16 w17 ⟨rfl, e17⟩
  refine Br.eq (fun _ => ?_) fun h => absurd (by rw [show (⟨#[]⟩ : ByteArray).data.toList = [] from rfl, adNone]; rfl) h
  refine (c_Sum (S := ⟨#[87, 105, 107, 105, 112, 101, 100, 105, 97]⟩) (by decide) w17).mono ?_
  rintro r18 w19 ⟨rfl, e19⟩
  refine Br.eq (fun _ => ?_) fun h => absurd (by rw [lW, adWiki2]; rfl) h
  refine (c_More (was := 1) (by decide) (S := ⟨#[87, 105, 107, 105]⟩) (by decide) w19).mono ?_
  rintro r20 w21 ⟨rfl, e21⟩
  refine (c_Sum (S := ⟨#[87, 105, 107, 105]⟩) (by decide) w21).mono ?_
  rintro r22 w23 ⟨rfl, e23⟩
  have E := ((((E12.tr e15).tr e17).tr e19).tr e21).tr e23
  rw [hsz]
  have x1 : ((⟨(120 :: 156 :: (T ++ [17, 230, 3, 152])).toArray⟩ : ByteArray).extract 0 ((2 : Int)).toNat).data.toList = [120, 156] := by rw [extract_list, mk_list]; rfl
  have x2 : ((⟨(120 :: 156 :: (T ++ [17, 230, 3, 152])).toArray⟩ : ByteArray).extract ((16 : Int)).toNat 20).data.toList = [17, 230, 3, 152] := by
    rw [extract_list, mk_list, show ((16 : Int)).toNat = 16 from rfl]
    show List.take 4 (List.drop 14 (T ++ [17, 230, 3, 152])) = _
    rw [List.drop_append_of_le_length (by omega), List.drop_of_length_le (by omega)]
    rfl
  refine Br.t (beq_self_eq_true _) (Br.t rfl (Br.t rfl ⟨by decide, by decide, ?_⟩))
  refine Br.t (by rw [eqL, x1]; rfl) ⟨by decide, by decide, Lt.of ?_⟩
  refine Br.t (by rw [eqL, x2]; rfl) (Br.t (by rw [eqL]; rfl) (Br.t rfl (Br.t rfl (Br.t rfl ⟨rfl, E⟩))))
theorem sums_law (S T : ByteArray) {sum : Int} (h0 : 0 ≤ sum ∧ sum ≤ 4294967295) {N : Nat} {w : World} (hL : Laid N w) : C3 sum S T w (fun r w1 => r = true ∧ Ext (fun _ => False) w w1) (fun _ _ => False) := by
  obtain ⟨was, rfl⟩ : ∃ was : Nat, sum = (was : Int) := ⟨sum.toNat, by omega⟩
  have hmax : IntKind.i64.max = 9223372036854775807 := rfl
  have live : ∀ w1, Ext (fun _ => False) w w1 → C8 w1 (fun r w2 => r = true ∧ Ext (fun _ => False) w w2) (fun _ _ => False) := fun w1 e1 =>
    (z_lives (hL.to e1)).mono (fun r w2 ⟨h, e⟩ => ⟨h, e1.tr e⟩) fun _ _ h => h
  refine T3 _ _ _ _ _ _ ?_
  unfold S3
  refine Br.dec (fun _ => live w (Ext.refl _ _)) fun q1 => Br.dec (fun _ => live w (Ext.refl _ _)) fun q2 => ?_
  refine (c_Sum (S := S) (by omega) w).mono ?_
  rintro r12 w13 ⟨rfl, e13⟩
  refine (r_Sum (S := S) (by omega) w13).mono ?_
  rintro r14 w15 ⟨rfl, e15⟩
  refine Br.t (beq_self_eq_true _) ?_
  refine (c_More (was := was) (by omega) (S := S) (by omega) w15).mono ?_
  rintro r16 w17 ⟨rfl, e17⟩
  refine (r_More (was := was) (by omega) (S := S) (by omega) w17).mono ?_
  rintro r18 w19 ⟨rfl, e19⟩
  refine Br.t (beq_self_eq_true _) ?_
  refine (c_Sum (S := S) (by omega) w19).mono ?_
  rintro r20 w21 ⟨rfl, e21⟩
  refine (c_More (was := adler 1 S.data.toList) (adler_lt _ _) (S := T) (by omega) w21).mono ?_
  rintro r22 w23 ⟨rfl, e23⟩
  refine ⟨by rw [hmax]; omega, ?_⟩
  refine (c_Sum (S := S ++ T) (by rw [ByteArray.size_append]; omega) w23).mono ?_
  rintro r24 w25 ⟨rfl, e25⟩
  have E := (((((e13.tr e15).tr e17).tr e19).tr e21).tr e23).tr e25
  exact Br.t (by rw [adler_app, app_list]; exact beq_self_eq_true _) (live w25 E)
theorem set_mid (l : List UInt8) {i : Nat} (h : i < l.length) (c : UInt8) : l.take i ++ [c] ++ l.drop (i + 1) = l.set i c := by
  rw [List.set_eq_take_append_cons_drop, if_pos h, List.append_assoc]
  rfl
theorem four_set {n at' : Nat} (h : at' < 4) (c : UInt8) : ((fourL n).set at' c = fourL n ↔ (fourL n).getD at' 0 = c) := by
  constructor
  · intro e
    have := congrArg (fun l => l.getD at' 0) e
    rw [← this, List.getD_eq_getElem?_getD, List.getElem?_set_self (by rw [fourL_len]; exact h)]
    rfl
  · intro e
    subst e
    refine List.ext_getElem? fun j => ?_
    by_cases hj : at' = j
    · subst hj
      rw [List.getElem?_set_self (by rw [fourL_len]; exact h), List.getD_eq_getElem?_getD, List.getElem?_eq_getElem (by rw [fourL_len]; exact h)]
      rfl
    · rw [List.getElem?_set_ne hj]
theorem spoilt_law (S : ByteArray) (lv at3 : Int) {c : Int} (hc : 0 ≤ c ∧ c ≤ 255) (h3 : -9223372036854775808 ≤ at3 ∧ at3 ≤ 9223372036854775807) {N : Nat} {w : World} (hL : Laid N w) : C5 S lv at3 c w (fun r w1 => r = true ∧ Ext (fun _ => False) w w1) (fun _ _ => False) := by
  have hsz : S.data.toList.length = S.size := (size_list S).symm
  have hmax : IntKind.i64.max = 9223372036854775807 := rfl
  obtain ⟨b, rfl⟩ : ∃ b : UInt8, c = (b.toNat : Int) := ⟨UInt8.ofNat c.toNat, by rw [UInt8.toNat_ofNat']; omega⟩
  have live : ∀ w1, Ext (fun _ => False) w w1 → C8 w1 (fun r w2 => r = true ∧ Ext (fun _ => False) w w2) (fun _ _ => False) := fun w1 e1 =>
    (z_lives (hL.to e1)).mono (fun r w2 ⟨h, e⟩ => ⟨h, e1.tr e⟩) fun _ _ h => h
  refine T5 _ _ _ _ _ _ _ ?_
  unfold S5
  refine Br.dec (fun _ => live w (Ext.refl _ _)) fun q1 => ?_
  by_cases hlv : lv < 0 ∨ 2 < lv
  · refine (c_WrapBad (S := S) hlv w).mono ?_ fun _ _ h => h
    rintro r e w1 ⟨rfl, rfl, e1⟩
    exact Br.ne (fun _ => live w1 e1) fun h => by cases h
  refine (c_Wrap (S := S) (by omega) (lv := lv) (by omega) (by omega) w).mono ?_ fun _ _ h => h
  rintro r e w11 ⟨rfl, ⟨T, rfl, g, h1, _, _⟩, e11⟩
  refine Br.ne (fun h => absurd rfl h) fun _ => Br.dec (fun _ => live w11 e11) fun q2 => Br.dec (fun _ => live w11 e11) fun q3 => ?_
  obtain ⟨a, rfl⟩ : ∃ a : Nat, at3 = (a : Int) := ⟨at3.toNat, by omega⟩
  have ha : a < 4 := by omega
  generalize hn : adler 1 S.data.toList = n
  have hw : wrapT T S.data.toList = 120 :: 156 :: (T ++ fourL n) := by unfold wrapT; rw [hn]; rfl
  rw [hw]
  have hwl : (120 :: 156 :: (T ++ fourL n)).length = T.length + 6 := by simp [fourL_len]
  have hws : (⟨(120 :: 156 :: (T ++ fourL n)).toArray⟩ : ByteArray).size = T.length + 6 := by rw [size_mk, hwl]
  rw [hws]
  have ei : IntKind.i64.wrap (IntKind.i64.wrap (((T.length + 6 : Nat) : Int) - 4) + (a : Int)) = ((T.length + 2 + a : Nat) : Int) := by
    rw [i64_id (n := ((T.length + 6 : Nat) : Int) - 4) (by omega), i64_id (by omega)]
    omega
  have ei1 : IntKind.i64.wrap (((T.length + 2 + a : Nat) : Int) + 1) = ((T.length + 2 + a + 1 : Nat) : Int) := by rw [i64_id (by omega)]; rfl
  rw [ei, ei1, Int.toNat_natCast, Int.toNat_natCast]
  refine Br.dec (fun q => absurd q (by omega)) fun _ => ⟨by omega, by omega, by omega, by omega, Nw.of ?_⟩
  obtain ⟨w26, hrun, e26⟩ := c_byte1 b w11.drew
  refine ⟨_, w26, hrun, ?_⟩
  have sb : (⟨#[b]⟩ : ByteArray).size = 1 := rfl
  have E26 := e11.drew.tr e26
  refine ⟨by rw [hmax, ByteArray.size_extract, hws, sb]; omega, by rw [hmax, ByteArray.size_append, ByteArray.size_extract, ByteArray.size_extract, hws, sb]; omega, ?_⟩
  have hcut : ((⟨(120 :: 156 :: (T ++ fourL n)).toArray⟩ : ByteArray).extract 0 (T.length + 2 + a) ++ ⟨#[b]⟩) ++ (⟨(120 :: 156 :: (T ++ fourL n)).toArray⟩ : ByteArray).extract (T.length + 2 + a + 1) (T.length + 6) = ⟨(120 :: 156 :: (T ++ (fourL n).set a b)).toArray⟩ := by
    refine ba_ext ?_
    have x1 : ((⟨(120 :: 156 :: (T ++ fourL n)).toArray⟩ : ByteArray).extract (T.length + 2 + a + 1) (T.length + 6)).data.toList = (120 :: 156 :: (T ++ fourL n)).drop (T.length + 2 + a + 1) := by
      have := extract_drop (⟨(120 :: 156 :: (T ++ fourL n)).toArray⟩ : ByteArray) (T.length + 2 + a + 1)
      rw [hws, mk_list] at this
      exact this
    rw [app_list, app_list, x1, extract_list, mk_list, mk_list, mk_list, List.drop_zero, Nat.sub_zero]
    have hs := set_mid (120 :: 156 :: (T ++ fourL n)) (i := T.length + 2 + a) (by rw [hwl]; omega) b
    rw [hs, show T.length + 2 + a = (T.length + a) + 1 + 1 by omega, List.set_cons_succ, List.set_cons_succ, List.set_append_right _ _ (by omega), Nat.add_sub_cancel_left]
  rw [hcut]
  have hb : S.data.toList.length ≤ 1048576 := by omega
  have hset : ((fourL n).set a b).length = 4 := by rw [List.length_set]; rfl
  have hun := unwrap_at (R := (fourL n).set a b) h156 g hb (most := ((S.size : Nat) : Int)) (by omega)
  rw [if_neg (by omega), List.take_of_length_le (by omega), hn, of_list] at hun
  refine (c_Unwrap (s := ⟨(120 :: 156 :: (T ++ (fourL n).set a b)).toArray⟩) (by rw [size_mk]; simp [fourL_len]; omega) (hL.to E26) _).mono ?_
  rintro r27 r28 w29 ⟨h, e29⟩
  rw [hun] at h
  have E29 := E26.tr e29
  have hbA : bAt (⟨(120 :: 156 :: (T ++ fourL n)).toArray⟩ : ByteArray) ((T.length + 2 + a : Nat) : Int) = (((fourL n).getD a 0).toNat : Int) := by
    rw [bAt_list, mk_list, List.getD_eq_getElem?_getD, show T.length + 2 + a = (T.length + a) + 1 + 1 by omega, List.getElem?_cons_succ, List.getElem?_cons_succ, List.getElem?_append_right (by omega), Nat.add_sub_cancel_left, List.getD_eq_getElem?_getD]
  rw [hbA]
  refine ⟨fun _ w5 => Ext (fun _ => False) w w5, ?_, ?_⟩
  · rintro _ w5 e5
    unfold S5J1
    rw [hws]
    have t1 : ((1 : Int)).toNat = 1 := rfl
    have t2 : ((2 : Int)).toNat = 2 := rfl
    rw [t1, t2]
    refine ⟨by decide, by omega, by decide, by omega, Nw.of ?_⟩
    obtain ⟨w37, hrun, e37⟩ := c_byte1 b w5.drew
    refine ⟨_, w37, hrun, ?_⟩
    have E37 := e5.drew.tr e37
    refine ⟨by rw [hmax, ByteArray.size_extract, hws, sb]; omega, by rw [hmax, ByteArray.size_append, ByteArray.size_extract, ByteArray.size_extract, hws, sb]; omega, ?_⟩
    have hcut2 : ((⟨(120 :: 156 :: (T ++ fourL n)).toArray⟩ : ByteArray).extract 0 1 ++ ⟨#[b]⟩) ++ (⟨(120 :: 156 :: (T ++ fourL n)).toArray⟩ : ByteArray).extract 2 (T.length + 6) = ⟨(120 :: b :: (T ++ fourL n)).toArray⟩ := by
      refine ba_ext ?_
      have x1 : ((⟨(120 :: 156 :: (T ++ fourL n)).toArray⟩ : ByteArray).extract 2 (T.length + 6)).data.toList = (120 :: 156 :: (T ++ fourL n)).drop 2 := by
        have := extract_drop (⟨(120 :: 156 :: (T ++ fourL n)).toArray⟩ : ByteArray) 2
        rw [hws, mk_list] at this
        exact this
      rw [app_list, app_list, x1, extract_list, mk_list, mk_list]
      rfl
    rw [hcut2]
    refine (c_Unwrap (s := ⟨(120 :: b :: (T ++ fourL n)).toArray⟩) (by rw [size_mk]; simp [fourL_len]; omega) (hL.to E37) _).mono ?_
    rintro r38 r39 w40 ⟨h, e40⟩
    have E40 := E37.tr e40
    have lv := live w40 E40
    by_cases hh : headE (120 : UInt8).toNat b.toNat = 0
    · have hun := unwrap_at (R := fourL n) hh g hb (most := ((S.size : Nat) : Int)) (by omega)
      rw [if_neg (by rw [fourL_len]; omega), List.take_of_length_le (by rw [fourL_len]; omega), hn, if_pos rfl, of_list] at hun
      rw [hun] at h
      obtain ⟨hx, rfl⟩ := Prod.mk.inj h
      replace hx := hx.symm
      subst hx
      exact Br.t (by rw [eqL]; simp) (Br.t rfl (Br.ne (fun _ => lv) fun _ => Br.t rfl lv))
    · rw [unwrap_head hh] at h
      obtain ⟨rfl, rfl⟩ := Prod.mk.inj h
      have hne : ((b.toNat : Int) != 156) = true := by
        rw [bne_iff_ne]
        intro e
        apply hh
        have : b.toNat = 156 := by omega
        rw [this]
        decide +kernel
      rw [eqL, eqL]
      exact Br.dec (fun _ => Br.f (by decide) (Br.t (by decide) (Br.t (by decide) (Br.t hne lv)))) fun _ => Br.t (by decide) (Br.t (by decide) (Br.t hne lv))
  · have fs := four_set (n := n) ha b
    by_cases hq : (fourL n).getD a 0 = b
    · rw [if_pos (fs.2 hq)] at h
      obtain ⟨hx, rfl⟩ := Prod.mk.inj h
      replace hx := hx.symm
      subst hx
      rw [hq]
      refine ⟨by omega, by omega, Lt.of (Br.t (beq_self_eq_true _) (Br.f (by rw [eqL]; simp) (Br.f (by decide) ⟨by omega, by omega, Lt.of (Br.f (by simp) E29)⟩)))⟩
    · rw [if_neg (fun e => hq (fs.1 e))] at h
      obtain ⟨rfl, rfl⟩ := Prod.mk.inj h
      have hne : ¬ (((fourL n).getD a 0).toNat : Int) = (b.toNat : Int) := fun e => hq (UInt8.toNat_inj.1 (by omega))
      refine ⟨by omega, by omega, Lt.of (Br.f (by rw [beq_eq_false_iff_ne]; exact hne) ⟨by omega, by omega, Lt.of (Br.t (by rw [bne_iff_ne]; exact hne) (Br.f (by rw [eqL]; rfl) (Br.f (by decide) E29)))⟩)⟩
end Inf
end Go.Proofs.YtjkoafjnmkchdaaDoor

/- Inflate: what the laid variables give the walks. Condition: the rows' own list. -/
namespace Go.Proofs.YtjkoafjnmkchdaaDoor
namespace Inf
open Sh Bit
open Go.ChangeShapes Go.WideShapes Go.ChangeAt Go.RowKit Go.WideElems Go.Maps
set_option linter.unusedVariables false
set_option linter.unusedSimpArgs false
set_option maxRecDepth 100000
theorem gOrd : Tryd.prog.globalNamed "foliant/inflate.order" = some 0 := by kernel_rfl
theorem gRep : Tryd.prog.globalNamed "foliant/inflate.repeats" = some 1 := by kernel_rfl
theorem tOrd : (Tryd.prog.globals[0]?).map (·.type) = some 86 := by kernel_rfl
theorem tRep : (Tryd.prog.globals[1]?).map (·.type) = some 143 := by kernel_rfl
theorem undInt : Tryd.prog.underlying 3 = some (.int .i64) := by kernel_rfl
theorem und19 : Tryd.prog.underlying 86 = some (.array 19 3) := by kernel_rfl
theorem undRep : Tryd.prog.underlying 143 = some (.map 3 141) := by kernel_rfl
theorem cInt : Tryd.prog.cellsOf 3 = 1 := by kernel_rfl
theorem c19 : Tryd.prog.cellsOf 86 = 19 := by kernel_rfl
theorem c2 : Tryd.prog.cellsOf 141 = 2 := by kernel_rfl
theorem undR : ∃ f0 f1 : Field, Tryd.prog.underlying 141 = some (.struct #[f0, f1]) ∧ f0.type = 3 ∧ f1.type = 3 ∧ f0.offset = 0 ∧ f1.offset = 1 := by
  refine ⟨⟨"least", 3, 0, false, "", "foliant/inflate", 0⟩, ⟨"more", 3, 1, false, "", "foliant/inflate", 8⟩, by kernel_rfl, rfl, rfl, rfl, rfl⟩
theorem zeroR (w : World) : (zeroValue 141).run Tryd.prog w = .ok (.agg #[.int .i64 0, .int .i64 0]) w := by kernel_rfl
theorem val2 {H : Type} {enc : TypeId × Value → H} {W : World} {base m : Nat} {sp : Nat → Bool} {held : Bool} {v : Value} {y : DataW H × List MemPlace} (h : elemAt enc Tryd.prog W base sp held m 141 v = some y) :
    ∃ a b : Int, v = .agg #[.int .i64 a, .int .i64 b] ∧ y.1 = .agg [.lit (.int .i64 a), .lit (.int .i64 b)] := by
  obtain ⟨f0, f1, hu, t0, t1, o0, o1⟩ := undR
  unfold elemAt at h
  split at h
  · rename_i hf
    obtain ⟨y0, y1, n, rfl, hl, h0, h1⟩ := trod_struct2 hu h
    rw [t0, o0, cInt] at h0
    rw [t1, o1, cInt] at h1
    obtain ⟨a, e0, rfl, _⟩ := DataW.trod_int undInt h0
    obtain ⟨b, e1, rfl, _⟩ := DataW.trod_int undInt h1
    refine ⟨a, b, ?_, rfl⟩
    rw [c2] at hl
    have hcs : v.cells.toList = [.int .i64 a, .int .i64 b] := by
      match hv : v.cells.toList, hl with
      | [c0, c1], _ =>
        rw [hv] at e0 e1
        simp at e0 e1
        rw [e0, e1]
    cases v with
    | agg cs =>
      have : cs.toList = [.int .i64 a, .int .i64 b] := hcs
      congr 1
      exact Array.ext' this
    | _ => simp [Value.formed, hu] at hf
  · cases h
theorem of_laid {W : World} (h : laidMetH Tryd.prog Rows.zlibSumsRow.laid W) : Laid W.heap.size W := by
  have h : laidMetH Tryd.prog [("foliant/inflate.order", Rows.laid_foliant_inflate_order), ("foliant/inflate.repeats", Rows.laid_foliant_inflate_repeats)] W := h
  rw [MakeChecks.laidMetH_plain _ _ _ (by kernel_rfl)] at h
  have ht := Lib.tabIs_of_head (k := .i64) (zs := [16, 17, 18, 0, 8, 7, 9, 6, 10, 5, 11, 4, 12, 3, 13, 2, 14, 1, 15]) (rest := [("foliant/inflate.repeats", Rows.laid_foliant_inflate_repeats)]) gOrd tOrd und19 undInt cInt c19 h
  obtain ⟨ps, ⟨g0, t0, cs0, f0, p0, q0, hg0, ht0, hv0, hd0, ⟨g1, t1, cs1, f1, p1, q1, hg1, ht1, hv1, hd1, _, _⟩, _⟩, _, _⟩ := h
  obtain rfl := Option.some.inj (gRep.symm.trans hg1)
  obtain rfl := Option.some.inj (tRep.symm.trans ht1)
  rcases Go.WideElems.open_map undRep hd1 with ⟨_, hx⟩ | ⟨bm, es, clock, m, rfl, hcs, hb, _, F, hx⟩
  · simp [Rows.laid_foliant_inflate_repeats] at hx
  simp only [Prod.mk.injEq] at hx
  have hcell : W.cell? ⟨1, 0, none⟩ = some (.map (some bm)) := by
    have := World.var?_cell hg1 hv1 0
    rw [Array.eq_one_of_toList hcs] at this
    simpa using this
  have hz := cell_lt' hcell
  have hz : 1 < W.heap.size := hz
  have hbm := lt_of_block hb
  refine ⟨by omega, Nat.le_refl _, fun i hi => ?_, bm, _, hbm, hb, hcell, fun w' hw' n hn0 hn19 => ?_⟩
  · have hc := ht.cell gOrd i hi
    rw [hc]
    congr 2
    have : ∀ i : Nat, i < 19 → ([16, 17, 18, 0, 8, 7, 9, 6, 10, 5, 11, 4, 12, 3, 13, 2, 14, 1, 15] : List Int).getD i 0 = ((order.getD i 0 : Nat) : Int) := by decide
    first | exact this i hi | (rw [← this i hi]; simp)
  · have key : ∀ d : DataW Unit, (Rows.laid_foliant_inflate_repeats : DataW Unit).atKey (.int .i64 n) .nil = d → (d = .nil → repV n = ((0, 0), false)) → (∀ a b : Int, d = .agg [.lit (.int .i64 a), .lit (.int .i64 b)] → repV n = ((a, b), true)) → RunV Tryd.prog (Instr.lookup 143 (.map (some bm)) (.int .i64 n) true) w' (.tuple #[.agg #[.int .i64 (repV n).1.1, .int .i64 (repV n).1.2], .bool (repV n).2]) w' := fun d hd hA hB => by
      rcases fit_look (w := w') true (int_keyed undInt) undRep (zeroR w') hw' F (keyOf_int_mk undInt (WalkArith.wf_i64 (n := n) ⟨by omega, by omega⟩)) with ⟨hrun, _, hat⟩ | ⟨e0, y, _, _, hrun, hR, hat, _⟩
      · have := hat .nil
        rw [← hx.1, hd] at this
        rw [hA this]
        exact hrun
      · have := hat .nil
        rw [← hx.1, hd] at this
        obtain ⟨a, b, hv, hy⟩ := val2 hR
        rw [hB a b (this.trans hy)]
        rw [hv] at hrun
        exact hrun
    obtain ⟨k, rfl⟩ := Int.eq_ofNat_of_zero_le hn0
    have hk : k < 19 := by omega
    have hc : k = 0 ∨ k = 1 ∨ k = 2 ∨ k = 3 ∨ k = 4 ∨ k = 5 ∨ k = 6 ∨ k = 7 ∨ k = 8 ∨ k = 9 ∨ k = 10 ∨ k = 11 ∨ k = 12 ∨ k = 13 ∨ k = 14 ∨ k = 15 ∨ k = 16 ∨ k = 17 ∨ k = 18 := by omega
    rcases hc with rfl | rfl | rfl | rfl | rfl | rfl | rfl | rfl | rfl | rfl | rfl | rfl | rfl | rfl | rfl | rfl | rfl | rfl | rfl
    all_goals
      first
      | exact key .nil (by kernel_rfl) (fun _ => rfl) fun a b h => by cases h
      | exact key (.agg [.lit (.int .i64 3), .lit (.int .i64 2)]) (by kernel_rfl) (fun h => by cases h) fun a b h => by cases h; rfl
      | exact key (.agg [.lit (.int .i64 3), .lit (.int .i64 3)]) (by kernel_rfl) (fun h => by cases h) fun a b h => by cases h; rfl
      | exact key (.agg [.lit (.int .i64 11), .lit (.int .i64 7)]) (by kernel_rfl) (fun h => by cases h) fun a b h => by cases h; rfl
end Inf
end Go.Proofs.YtjkoafjnmkchdaaDoor

/- Joined. -/

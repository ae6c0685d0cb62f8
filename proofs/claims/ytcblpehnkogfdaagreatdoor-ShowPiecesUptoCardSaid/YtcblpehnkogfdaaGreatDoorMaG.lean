/- Text machines: a turn's operator, each. Conditions: sizes, the laid tables. -/
import Derived.Test.YtcblpehnkogfdaaGreatDoorMaE
namespace Go.Proofs.YtcblpehnkogfdaaGreatDoor
namespace Ma
open Sh Mat Fix Fo Sw Opr Pat
set_option linter.unusedVariables false
set_option linter.unusedSimpArgs false
set_option maxRecDepth 8000
set_option maxHeartbeats 4000000
def mct (m : Mc) : TyA38 := (m.on, m.text.1, m.text.2.1, m.text.2.2.1, m.text.2.2.2.1, m.text.2.2.2.2.1, m.text.2.2.2.2.2, m.line.1, m.line.2.1, m.line.2.2.1, m.line.2.2.2.1, m.line.2.2.2.2.1, m.line.2.2.2.2.2)
attribute [local irreducible] Ld Sh.St Nw Nn Lt LdS
section
variable {w0 w w' : World} {b : Nat} {m : Mc} {g : GT} {x : FT} {o : OpT} {ns gs : Slc} {gl : List GlT} {f : Font} {L K : List Ob}
theorem TS.mach (T : TS w0 w b m g x o ns gl gs) (m' : Mc) {K : World → Prop} (k : ∀ w2, TS w0 w2 b m' g x o ns gl gs → K w2) : StT (⟨b, 0, none⟩ : Addr) 0 LiA38 (mct m') w K :=
  StT.blk (ts := LiA38) (x := mct m') (pre := []) (zs := mcc m) (post := (tcl m g x o ns gs).drop 13) T.blk rfl rfl fun w2 hb e => k w2 (T.upd (m' := m') hb e)
theorem c_tdo (T : TS w0 w b m g x o ns [] gs) (hT : TB w0) (h : FoV w0 x f) {n : List Int} (hn : IV w0 ns n) {nm d : Opr.By} (hnm : Opr.bl o.1 = nm) (hchk : Opr.chkF nm L d = 0) (hten : nm ∈ ten) (hnl : n.length = (takes nm).countP (fun b => decide (b = 110)))
    (hL : OV w0 o.2.1 L) (hK : 0 < L.length → OV w0 (arg L 0).2.2.2.2.2 K) (hKl : K.length ≤ 9223372036854775807) (hLs : ∀ k ∈ L, k.2.2.2.1.size ≤ 1048576) (hks : ∀ k ∈ K, k.2.2.2.1.size ≤ 1048576) :
    C44 (some (⟨b, 0, none⟩ : Addr)) w (fun w1 => ∃ mc gl gs g', actF g f m nm L K n = (0, mc, gl) ∧ TS w0 w1 b mc g' x o ns gl gs)
      fun v w1 => ∃ e, v = Sw.gup e ∧ e ≠ 0 ∧ (actF g f m nm L K n).1 = e ∧ Ext (fun _ => False) w0 w1 := by
  refine T44 _ _ _ _ ?_
  unfold S44
  refine Nn.of (Ld.of T.blk (x := o.1) rfl ?_)
  have hlen := (chk_parts hchk).1
  refine BrN (fun q => ?_) fun q1 => ?_
  · rw [hnm] at q
    subst q
    refine (Mat.c_one _).mono ?_
    rintro r4 w5 ⟨rfl, e5⟩
    refine (Mat.c_one _).mono ?_
    rintro r6 w7 ⟨rfl, e7⟩
    refine Nn.of ((T.keep (e5.tr e7)).mach ⟨true, one, one⟩ fun w9 T9 => ⟨_, _, _, _, ?_, T9⟩)
    unfold actF
    rw [if_pos rfl]
  rw [hnm] at q1
  have q1 : ¬ nm = [66, 84] := q1
  refine BrN (fun q => ?_) fun q2 => ?_
  · rw [hnm] at q
    have q : nm = [69, 84] := q
    refine (c_new _).mono ?_
    rintro r10 w11 ⟨b2, rfl, hge, hb2, e11⟩
    refine Nn.of (LdT.blk (ts := LiA38) (pre := []) (post := []) (t := TK) (x := mct m0) hb2 rfl (Nn.of ?_))
    refine (T.keep e11).mach m0 fun w15 T15 => ⟨_, _, _, _, ?_, T15⟩
    unfold actF
    rw [if_neg q1, if_pos q]
  rw [hnm] at q2
  have q2 : ¬ nm = [69, 84] := q2
  refine ⟨fun s w' => w' = w ∧ s = decide (nm = [84, 100] ∨ nm = [84, 68]), ?_, ?_⟩
  rotate_left
  · rw [eqB, eqB, hnm]
    refine Br.dec (fun q => ⟨rfl, ?_⟩) fun q => ⟨rfl, ?_⟩
    · have q : nm = [84, 100] := q
      simp [q, show Opr.bl ⟨#[84, 100]⟩ = [84, 100] from rfl]
    · have q : ¬ nm = [84, 100] := q
      simp [q, show Opr.bl ⟨#[84, 68]⟩ = [84, 68] from rfl]
  rintro _ _ ⟨rfl, rfl⟩
  rename_i w
  unfold S44J1
  -- the words of the operator
  have wordsE : ∀ {w1 : World} {i : Nat} (hi : i < L.length), Ext (fun _ => False) w0 w1 → ∃ a, o.2.1.p = some a ∧ w1.cell? ((a.add (i * 6)).add 3) = some (.string (arg L i).2.2.2.1) := fun {w1 i} hi e => by
    obtain ⟨a, ha, _, _, _, c3, _, _⟩ := (hL.keep e).get (List.getElem?_eq_getElem hi)
    refine ⟨a, ha, ?_⟩
    have : arg L i = L[i] := by unfold arg; rw [List.getD_eq_getElem?_getD, List.getElem?_eq_getElem hi]; rfl
    rw [this]
    exact c3
  have argS : ∀ {i : Nat} (hi : i < L.length), (arg L i).2.2.2.1.size ≤ 1048576 := fun {i} hi => by
    have : arg L i = L[i] := by unfold arg; rw [List.getD_eq_getElem?_getD, List.getElem?_eq_getElem hi]; rfl
    rw [this]
    exact hLs _ (List.getElem_mem hi)
  refine Br.dec (fun q => ?_) fun q3 => ?_
  · have hl2 : n.length = 2 := by
      rw [hnl]
      rcases q with q | q <;> rw [q] <;> decide +kernel
    have TD := T.keep (Ext.refl (fun _ => False) _).drew
    have hv := hn.keep TD.ext
    obtain ⟨a, ha, c0⟩ := hv.get (i := 0) (by omega)
    obtain ⟨a', ha', c1⟩ := hv.get (i := 1) (by omega)
    rw [ha] at ha'
    cases ha'
    refine Nn.of (Ld.of TD.blk (x := ns) rfl ?_)
    rw [hv.1, hl2, ha]
    refine ⟨by decide, by decide, Nn.of (Ld.mk (x := n.getD 0 0) c0 (Nn.of (Ld.of TD.blk (x := ns) rfl ?_)))⟩
    rw [hv.1, hl2, ha]
    refine ⟨by decide, by decide, Nn.of (Ld.mk (x := n.getD 1 0) c1 ?_)⟩
    have hact : actF g f m nm L K n = movedF m (moveF m.line (n.getD 0 0) (n.getD 1 0)) := by
      unfold actF
      rw [if_neg q1, if_neg q2, if_pos q]
    rw [hact]
    refine (c_tmove TD _ _).mono (fun w1 h1 => ?_) fun v w1 h1 => ?_
    · obtain ⟨l, hl, T1⟩ := h1
      exact ⟨_, _, _, _, by rw [hl]; rfl, T1⟩
    · exact ⟨2, h1.1, by decide, by rw [h1.2.1]; rfl, h1.2.2⟩
  refine BrN (fun q => ?_) fun q4 => ?_
  · rw [hnm] at q
    have hact : actF g f m nm L K n = movedF m (nextF g m.line) := by
      unfold actF
      rw [if_neg q1, if_neg q2, if_neg q3, if_pos q]
    rw [hact]
    refine (c_tnext T).mono (fun w1 h1 => ?_) fun v w1 h1 => ?_
    · obtain ⟨l, hl, T1⟩ := h1
      exact ⟨_, _, _, _, by rw [hl]; rfl, T1⟩
    · exact ⟨2, h1.1, by decide, by rw [h1.2.1]; rfl, h1.2.2⟩
  rw [hnm] at q4
  refine BrN (fun q => ?_) fun q5 => ?_
  · rw [hnm] at q
    have q : nm = [84, 109] := q
    have h6 : n.length = 6 := by
      rw [hnl, q]
      decide +kernel
    have hact : actF g f m nm L K n = movedF m (if Mat.okM (six n) = true then some (six n) else none) := by
      unfold actF
      rw [if_neg q1, if_neg q2, if_neg q3, if_neg q4, if_pos q]
      rfl
    rw [hact]
    refine (c_tset T hn h6).mono (fun w1 h1 => ?_) fun v w1 h1 => ?_
    · exact ⟨_, _, _, _, by rw [if_pos h1.1]; rfl, h1.2⟩
    · exact ⟨2, h1.1, by decide, by rw [if_neg (by rw [h1.2.1]; decide)]; rfl, h1.2.2⟩
  rw [hnm] at q5
  refine BrN (fun q => ?_) fun q6 => ?_
  · rw [hnm] at q
    have q : nm = [84, 106] := q
    have hl1 : L.length = 1 := by
      rw [← hlen, q]
      decide +kernel
    obtain ⟨a, ha, c3⟩ := wordsE (i := 0) (by omega) T.ext
    refine Nn.of (Ld.of T.blk (x := o.2.1) rfl ?_)
    rw [hL.1, ha]
    refine ⟨by decide, by omega, Nn.of (Ld.mk (x := (arg L 0).2.2.2.1) c3 ?_)⟩
    have hact : actF g f m nm L K n = shownF g f m (arg L 0).2.2.2.1 := by
      unfold actF
      rw [if_neg q1, if_neg q2, if_neg q3, if_neg q4, if_neg q5, if_pos q]
    rw [hact]
    refine (c_tshow T hT h (by decide) (argS (i := 0) (by omega))).mono (fun w1 h1 => ?_) fun v w1 h1 => ?_
    · obtain ⟨gs', gl', mt, hF, hl', T1⟩ := h1
      exact ⟨_, _, _, _, by unfold shownF; rw [hF], T1⟩
    · obtain ⟨e, rfl, he, hF, e1⟩ := h1
      exact ⟨e, rfl, he, hF, e1⟩
  rw [hnm] at q6
  -- a string on the next line
  have lined : ∀ {w1 : World} {g' : GT} (i : Nat) (hi : i < L.length), TS w0 w1 b m g' x o ns [] gs → actF g f m nm L K n = linedF g' f m (arg L i).2.2.2.1 →
      C78 (some (⟨b, 0, none⟩ : Addr)) w1 (fun vw34 =>
              Nn (some (⟨b, 0, none⟩ : Addr)) fun a35 =>
              Ld vw34 ((a35.add 50).add 1) Slc.v fun (x36 : Slc) =>
              0 ≤ (i : Int) ∧ (i : Int) < (x36.len : Nat) ∧ Nn x36.p fun a37 =>
              Ld vw34 ((a37.add (i * 6)).add 3) Value.string fun (x38 : ByteArray) =>
              C80 (some (⟨b, 0, none⟩ : Addr)) x38 vw34 (fun w1 => ∃ mc gl gs g', actF g f m nm L K n = (0, mc, gl) ∧ TS w0 w1 b mc g' x o ns gl gs)
                fun v w1 => ∃ e, v = Sw.gup e ∧ e ≠ 0 ∧ (actF g f m nm L K n).1 = e ∧ Ext (fun _ => False) w0 w1)
        fun v w1 => ∃ e, v = Sw.gup e ∧ e ≠ 0 ∧ (actF g f m nm L K n).1 = e ∧ Ext (fun _ => False) w0 w1 := fun {w1 g'} i hi T1 hact => by
    rw [hact]
    refine (c_tnext T1).mono (fun w34 h34 => ?_) fun v w34 h34 => ?_
    · obtain ⟨l, hl, T2⟩ := h34
      obtain ⟨a, ha, c3⟩ := wordsE (i := i) hi T2.ext
      refine Nn.of (Ld.of T2.blk (x := o.2.1) rfl ?_)
      rw [hL.1, ha]
      refine ⟨by omega, by omega, Nn.of (Ld.mk (x := (arg L i).2.2.2.1) c3 ?_)⟩
      have hlf : linedF g' f m (arg L i).2.2.2.1 = shownF g' f ⟨m.on, l, l⟩ (arg L i).2.2.2.1 := by
        unfold linedF
        rw [hl]
      rw [hlf]
      refine (c_tshow T2 hT h (by decide) (argS (i := i) hi)).mono (fun w1 h1 => ?_) fun v w1 h1 => ?_
      · obtain ⟨gs', gl', mt, hF, hl', T1⟩ := h1
        exact ⟨_, _, _, _, by unfold shownF; rw [hF], T1⟩
      · obtain ⟨e, rfl, he, hF, e1⟩ := h1
        exact ⟨e, rfl, he, hF, e1⟩
    · exact ⟨2, h34.1, by decide, by unfold linedF; rw [h34.2.1], h34.2.2⟩
  refine BrN (fun q => ?_) fun q7 => ?_
  · rw [hnm] at q
    have q : nm = [39] := q
    have hl1 : L.length = 1 := by
      rw [← hlen, q]
      decide +kernel
    exact lined 0 (by omega) T (by
      unfold actF
      rw [if_neg q1, if_neg q2, if_neg q3, if_neg q4, if_neg q5, if_neg q6, if_pos q])
  rw [hnm] at q7
  refine BrN (fun q => ?_) fun q8 => ?_
  · rw [hnm] at q
    have q : nm = [34] := q
    have hl3 : L.length = 3 := by
      rw [← hlen, q]
      decide +kernel
    have hl2 : n.length = 2 := by
      rw [hnl, q]
      decide +kernel
    have TD := T.keep (Ext.refl (fun _ => False) _).drew
    have hv := hn.keep TD.ext
    obtain ⟨a, ha, c0⟩ := hv.get (i := 0) (by omega)
    obtain ⟨a', ha', c1⟩ := hv.get (i := 1) (by omega)
    rw [ha] at ha'
    cases ha'
    have cl : ∀ {j : Nat} {v : Value}, (tcl m g x o ns gs)[j]? = some v → w.drew.cell? ⟨b, j, none⟩ = some v := fun {j v} hj => by
      rw [TD.blk.cell, List.getElem?_toArray]
      exact hj
    refine ⟨Ext (fun _ => False) w.drew, Ext.refl _ _, Nn.of (ldS_ext (x := ns) (cl rfl) ?_)⟩
    rw [hv.1, hl2, ha]
    refine ⟨by decide, by decide, Nn.of (ldS_ext (x := n.getD 0 0) c0 (Nn.of (ldS_ext (x := ns) (cl rfl) ?_)))⟩
    rw [hv.1, hl2, ha]
    refine ⟨by decide, by decide, Nn.of (ldS_ext (x := n.getD 1 0) c1 (Nn.of ?_))⟩
    refine st_one (o := 36) TD.blk (by simp) fun w50 hb50 e50 => Nn.of (st_one (o := 35) hb50 (by simp) fun w52 hb52 e52 => ?_)
    rw [tcl_spaced] at hb52
    exact lined (g' := spaced g (n.getD 0 0) (n.getD 1 0)) 2 (by omega) (TD.upd (m' := m) hb52 (e50.tr e52)) (by
      unfold actF
      rw [if_neg q1, if_neg q2, if_neg q3, if_neg q4, if_neg q5, if_neg q6, if_neg q7, if_pos q])
  rw [hnm] at q8
  refine BrN (fun q => ?_) fun q9 => ?_
  · rw [hnm] at q
    have q : nm = [84, 74] := q
    have hl1 : L.length = 1 := by
      rw [← hlen, q]
      decide +kernel
    have hact : actF g f m nm L K n = if K.all kidOk = false then (28, m, []) else ((rowF g f K m.text []).1, { m with text := (rowF g f K m.text []).2.2 }, (rowF g f K m.text []).2.1) := by
      unfold actF
      rw [if_neg q1, if_neg q2, if_neg q3, if_neg q4, if_neg q5, if_neg q6, if_neg q7, if_neg q8]
    rw [hact]
    refine (c_trow T hT h (by decide) hL (by omega) (hK (by omega)) hKl hks).mono (fun w1 h1 => ?_) fun v w1 h1 => ?_
    · obtain ⟨hok, gs', gl', mt, hF, T1⟩ := h1
      exact ⟨_, _, _, _, by rw [if_neg (by rw [hok]; decide), hF], T1⟩
    · obtain ⟨e, rfl, he, hF, e1⟩ := h1
      refine ⟨e, rfl, he, ?_, e1⟩
      rw [← hF]
      split <;> rfl
  · exfalso
    rw [hnm] at q9
    unfold ten at hten
    simp only [List.mem_cons, List.not_mem_nil, or_false] at hten
    rcases hten with r | r | r | r | r | r | r | r | r | r
    · exact q1 r
    · exact q2 r
    · exact q3 (.inl r)
    · exact q3 (.inr r)
    · exact q4 r
    · exact q5 r
    · exact q6 r
    · exact q7 r
    · exact q8 r
    · exact q9 r
end
end Ma
end Go.Proofs.YtcblpehnkogfdaaGreatDoor
/- Text machines: Do, whole. Conditions: sizes, the laid tables. -/
namespace Go.Proofs.YtcblpehnkogfdaaGreatDoor
namespace Ma
open Sh Mat Fix Fo Sw Opr Pat
set_option linter.unusedVariables false
set_option linter.unusedSimpArgs false
set_option maxRecDepth 8000
set_option maxHeartbeats 4000000
attribute [local irreducible] Ld Sh.St Nw Nn Lt LdS
def grl (g : GT) : List Value := [.int .i64 (g.1), .int .i64 (g.2.1), .int .i64 (g.2.2.1), .int .i64 (g.2.2.2.1), .int .i64 (g.2.2.2.2.1), .int .i64 (g.2.2.2.2.2.1), .int .i64 (g.2.2.2.2.2.2.1), .int .i64 (g.2.2.2.2.2.2.2.1), .int .i64 (g.2.2.2.2.2.2.2.2.1), .int .i64 (g.2.2.2.2.2.2.2.2.2.1), Slc.v (g.2.2.2.2.2.2.2.2.2.2.1), .int .i64 (g.2.2.2.2.2.2.2.2.2.2.2.1), .int .i64 (g.2.2.2.2.2.2.2.2.2.2.2.2.1), .int .i64 (g.2.2.2.2.2.2.2.2.2.2.2.2.2.1), .int .i64 (g.2.2.2.2.2.2.2.2.2.2.2.2.2.2.1), .int .i64 (g.2.2.2.2.2.2.2.2.2.2.2.2.2.2.2.1), .int .i64 (g.2.2.2.2.2.2.2.2.2.2.2.2.2.2.2.2.1), .int .i64 (g.2.2.2.2.2.2.2.2.2.2.2.2.2.2.2.2.2.1), .int .i64 (g.2.2.2.2.2.2.2.2.2.2.2.2.2.2.2.2.2.2.1), .int .i64 (g.2.2.2.2.2.2.2.2.2.2.2.2.2.2.2.2.2.2.2.1), .int .i64 (g.2.2.2.2.2.2.2.2.2.2.2.2.2.2.2.2.2.2.2.2.1), .int .i64 (g.2.2.2.2.2.2.2.2.2.2.2.2.2.2.2.2.2.2.2.2.2.1), .int .i64 (g.2.2.2.2.2.2.2.2.2.2.2.2.2.2.2.2.2.2.2.2.2.2.1), .int .i64 (g.2.2.2.2.2.2.2.2.2.2.2.2.2.2.2.2.2.2.2.2.2.2.2.1), .int .i64 (g.2.2.2.2.2.2.2.2.2.2.2.2.2.2.2.2.2.2.2.2.2.2.2.2.1), .int .i64 (g.2.2.2.2.2.2.2.2.2.2.2.2.2.2.2.2.2.2.2.2.2.2.2.2.2.1), .int .i64 (g.2.2.2.2.2.2.2.2.2.2.2.2.2.2.2.2.2.2.2.2.2.2.2.2.2.2.1), .int .i64 (g.2.2.2.2.2.2.2.2.2.2.2.2.2.2.2.2.2.2.2.2.2.2.2.2.2.2.2.1), .string (g.2.2.2.2.2.2.2.2.2.2.2.2.2.2.2.2.2.2.2.2.2.2.2.2.2.2.2.2.1), .int .i64 (g.2.2.2.2.2.2.2.2.2.2.2.2.2.2.2.2.2.2.2.2.2.2.2.2.2.2.2.2.2)]
def fol (x : FT) : List Value := [.string (x.1), .bool (x.2.1), .int .i64 (x.2.2.1), Slc.v (x.2.2.2.1), .int .i64 (x.2.2.2.2.1), Slc.v (x.2.2.2.2.2.1), Slc.v (x.2.2.2.2.2.2)]
/-- What is asked of an operator. -/
structure OpV (w : World) (o : OpT) (L K : List Ob) : Prop where
  args : OV w o.2.1 L
  kids : 0 < L.length → OV w (arg L 0).2.2.2.2.2 K
  most : L.length ≤ 9223372036854775807
  mostK : K.length ≤ 9223372036854775807
  strs : ∀ k ∈ L, k.2.2.2.1.size ≤ 1048576
  strsK : ∀ k ∈ K, k.2.2.2.1.size ≤ 1048576
theorem OpV.keep {w w' : World} {o : OpT} {L K : List Ob} (h : OpV w o L K) (e : Ext (fun _ => False) w w') : OpV w' o L K := { h with args := h.args.keep e, kids := fun q => (h.kids q).keep e }
section
variable {w : World} {mb : Nat} {m : Mc} {g : GT} {x : FT} {o : OpT} {f : Font} {L K : List Ob}
theorem c_Do (hT : TB w) (h : FoV w x f) (hm : Blk w mb (mcc m).toArray TK) (hO : OpV w o L K) :
    C13 (some (⟨mb, 0, none⟩ : Addr)) o g x w fun r e w1 => ∃ mc gl, doF g f m (Opr.bl o.1) L K (Opr.bl o.2.2) = (e, mc, gl) ∧ Blk w1 mb (mcc mc).toArray TK ∧ Ext (· = mb) w w1 ∧ VRow w1 r 9 (gl.flatMap glc) ∧ ∀ j, r.own j → w.heap.size ≤ j := by
  refine T13 _ _ _ _ _ _ ?_
  unfold S13
  refine (Hn.start w).nw fun w5 H => ?_
  have HG := gr_blk w5 g
  refine Nw.of ?_
  have H := Hn.push (H.keep HG.ext) (show Blk _ w5.heap.size (grl g).toArray TG from HG.get 0 rfl) H.size fun hm => Nat.lt_irrefl _ (H.all_lt hm)
  generalize w5.alloc (.cells (Sig.cells LiA30 g).toArray TG) = w6 at *
  have HF := fo_blk w6 x
  refine Nw.of ?_
  have H := Hn.push (H.keep HF.ext) (show Blk _ w6.heap.size (fol x).toArray TF from HF.get 0 rfl) H.size fun hm => Nat.lt_irrefl _ (H.all_lt hm)
  generalize w6.alloc (.cells (Sig.cells LiA34 x).toArray TF) = w7 at *
  refine H.nw fun w8 H => H.nw fun w9 H => ?_
  have bad : ∀ (e : Int) (w1 : World), e ≠ 0 → doF g f m (Opr.bl o.1) L K (Opr.bl o.2.2) = (e, m, []) → Ext (fun _ => False) w9 w1 →
      S13P w7 w8 (fun r e w1 => ∃ mc gl, doF g f m (Opr.bl o.1) L K (Opr.bl o.2.2) = (e, mc, gl) ∧ Blk w1 mb (mcc mc).toArray TK ∧ Ext (· = mb) w w1 ∧ VRow w1 r 9 (gl.flatMap glc) ∧ ∀ j, r.own j → w.heap.size ≤ j) (Sw.gup e) w1 := fun e w1 he hF e1 => by
    have H := H.keep e1
    unfold S13P
    refine T38_T106 _ _ _ _ _ ?_
    unfold S38_T106
    refine (Sw.c_caught H e 4 rfl (by simp)).mono (fun w5 H => ?_) fun _ _ h => h.elim
    simp only [List.nil_append, List.cons_append, List.set_cons_zero, List.set_cons_succ, Nat.zero_add] at H
    refine H.ld 4 rfl (x := e) rfl (Br.ne (fun _ => ?_) fun h0 => absurd h0 he)
    iterate 1 (refine H.st 3 rfl (by simp) fun _ H => ?_; simp only [List.nil_append, List.cons_append, List.set_cons_zero, List.set_cons_succ, Nat.zero_add] at H)
    refine H.ld 3 rfl (x := ⟨none, 0, 0⟩) rfl (H.ld 4 rfl (x := e) rfl ⟨m, [], hF, H.ext.blk hm id, H.ext.mono fun _ _ h => h.elim, Row.view (Row.nil _ 70 _), fun j hj => (no_own j hj).elim⟩)
  refine (Sw.c_need _ _ _).mono (fun w15 h15 => ?_) fun v w15 h15 => by cases h15.2.1
  obtain ⟨_, rfl⟩ := h15
  refine H.ld 0 rfl (x := o.1) rfl ?_
  refine (c_knowsT o.1 _).mono ?_
  rintro r17 w18 ⟨rfl, e18⟩
  refine (Sw.c_need _ _ _).mono (fun w19 h19 => ?_) fun v w19 h19 => ?_
  case refine_2 =>
    obtain ⟨rfl, hk, rfl⟩ := h19
    exact bad 8 _ (by decide) (by unfold doF; rw [if_pos (of_decide_eq_false hk)]) e18
  obtain ⟨hten, rfl⟩ := h19
  have hten := of_decide_eq_true hten
  have E19 := e18.drew
  have H19 := H.keep E19
  have cl : ∀ {j : Nat} {v : Value}, ([.string o.1, Slc.v o.2.1, .string o.2.2] : List Value)[j]? = some v → w19.drew.cell? ⟨w.heap.size, j, none⟩ = some v := fun {j v} hj => by
    rw [(H19.get 0 rfl).cell, List.getElem?_toArray]
    exact hj
  refine ⟨Ext (fun _ => False) w19.drew, Ext.refl _ _, ?_⟩
  refine ldS_ext (x := o.1) (cl rfl) (ldS_ext (x := o.2.1) (cl rfl) (ldS_ext (x := o.2.2) (cl rfl) ?_))
  refine ldS_ext (x := o.1) (cl rfl) (ldS_ext (x := o.2.1) (cl rfl) (ldS_ext (x := o.2.2) (cl rfl) ?_))
  have hO19 := hO.keep H19.ext
  refine (Opr.c_check (show AS _ from hT.keep H19.ext) hO19.args hO.most).mono ?_
  rintro r27 w28 ⟨rfl, e28⟩
  refine ⟨e28, (c_mustO (o.1, o.2.1, o.2.2) _ _).mono (fun r29 w30 h30 => ?_) fun v w30 h30 => ?_⟩
  case refine_2 =>
    obtain ⟨rfl, hk, e30⟩ := h30
    exact bad _ _ hk (by unfold doF; rw [if_neg (by simpa using hten), if_pos hk]) (E19.tr (e28.tr e30))
  obtain ⟨_, hchk, e30⟩ := h30
  have E30 := (E19.tr (e28.tr e30)).drew
  have H30 := H.keep E30
  refine Nn.of (Ld.of (H30.ext.blk hm id) (x := m.on) rfl (H30.ld 0 rfl (x := o.1) rfl ?_))
  refine (Sw.c_need _ _ _).mono (fun w34 h34 => ?_) fun v w34 h34 => ?_
  case refine_2 =>
    obtain ⟨rfl, hk, rfl⟩ := h34
    refine bad 29 _ (by decide) ?_ E30
    unfold doF
    rw [if_neg (by simpa using hten), if_neg (by simp [hchk]), if_pos]
    rw [eqB] at hk
    have hbt : Opr.bl ⟨#[66, 84]⟩ = [66, 84] := rfl
    rw [hbt] at hk
    cases hon : m.on <;> by_cases hq : Opr.bl o.1 = [66, 84] <;> simp_all
  obtain ⟨hstate, rfl⟩ := h34
  have hstate : ¬ m.on = decide (Opr.bl o.1 = [66, 84]) := by
    rw [eqB] at hstate
    have hbt : Opr.bl ⟨#[66, 84]⟩ = [66, 84] := rfl
    rw [hbt] at hstate
    cases hon : m.on <;> by_cases hq : Opr.bl o.1 = [66, 84] <;> simp_all
  have E34 := E30.drew
  have H34 := H.keep E34
  have cl : ∀ {j : Nat} {v : Value}, ([.string o.1, Slc.v o.2.1, .string o.2.2] : List Value)[j]? = some v → w30.drew.drew.cell? ⟨w.heap.size, j, none⟩ = some v := fun {j v} hj => by
    rw [(H34.get 0 rfl).cell, List.getElem?_toArray]
    exact hj
  refine ⟨Ext (fun _ => False) w30.drew.drew, Ext.refl _ _, Nn.of ?_⟩
  refine LdST.blk (ts := LiA38) (pre := []) (post := []) (t := TK) (x := mct m) (fun w' hw => hw.blk (H34.ext.blk hm id) id) rfl ?_
  refine LdST.blk (ts := LiA30) (pre := []) (post := []) (t := TG) (x := g) (fun w' hw => hw.blk (H34.get 1 rfl) id) rfl ?_
  refine LdST.blk (ts := LiA34) (pre := []) (post := []) (t := TF) (x := x) (fun w' hw => hw.blk (H34.get 2 rfl) id) rfl ?_
  refine ldS_ext (x := o.1) (cl rfl) (ldS_ext (x := o.2.1) (cl rfl) (ldS_ext (x := o.2.2) (cl rfl) ?_))
  refine ldS_ext (x := o.1) (cl rfl) (ldS_ext (x := o.2.1) (cl rfl) (ldS_ext (x := o.2.2) (cl rfl) ?_))
  have hO34 := hO.keep H34.ext
  have hdo : ∀ n, nmO (L.filter isNum) = some n → doF g f m (Opr.bl o.1) L K (Opr.bl o.2.2) = if (actF g f m (Opr.bl o.1) L K n).1 ≠ 0 then ((actF g f m (Opr.bl o.1) L K n).1, m, []) else actF g f m (Opr.bl o.1) L K n := fun n hn => by
    unfold doF
    rw [if_neg (by simpa using hten), if_neg (by simp [hchk]), if_neg hstate, hn]
  refine (c_numbers (o := (o.1, o.2.1, o.2.2)) (show AS _ from hT.keep H34.ext) hO34.args hchk hten).mono (fun r46 w47 h47 => ?_) fun v w47 h47 => ?_
  case refine_2 =>
    obtain ⟨rfl, hn, e47⟩ := h47
    refine bad 2 _ (by decide) ?_ (E34.tr e47)
    unfold doF
    rw [if_neg (by simpa using hten), if_neg (by simp [hchk]), if_neg hstate, hn]
  obtain ⟨n, hn, hiv, e47⟩ := h47
  have E47 := E34.tr e47
  have H47 := H.keep E47
  have hO47 := hO.keep H47.ext
  refine ⟨e47, Nw.of ?_⟩
  have T : TS w47 (w47.alloc (.cells (tcl m g x o r46 ⟨none, 0, 0⟩).toArray TU)) w47.heap.size m g x o r46 [] ⟨none, 0, 0⟩ := ⟨Blk.new _ _ _, Nat.le_refl _, (Ext.refl _ _).alloc _, Row.nil _ _ _, fun j hj => (no_own j hj).elim⟩
  refine (c_tdo T (hT.keep H47.ext) (h.keep H47.ext) hiv rfl hchk hten (by rw [nmO_len hn, num_len hchk hten]) hO47.args hO47.kids hO47.mostK hO47.strs hO47.strsK).mono (fun w49 h49 => ?_) fun v w49 h49 => ?_
  case refine_2 =>
    obtain ⟨e, rfl, he, hF, e49⟩ := h49
    exact bad e _ he (by rw [hdo n hn, if_pos (by rw [hF]; exact he), hF]) (E47.tr e49)
  obtain ⟨mc, gl, gs, g', hact, T49⟩ := h49
  have hdoF : doF g f m (Opr.bl o.1) L K (Opr.bl o.2.2) = (0, mc, gl) := by rw [hdo n hn, hact, if_neg (by simp)]
  have E49 := E47.tr T49.ext
  have H49 := H.keep E49
  refine Nn.of (LdT.blk (ts := LiA38) (pre := []) (post := (tcl mc g' x o r46 gs).drop 13) (t := TU) (x := mct mc) T49.blk rfl (Nn.of ?_))
  refine StT.blk (ts := LiA38) (x := mct mc) (pre := []) (zs := mcc m) (post := []) (t := TK) (H49.ext.blk hm id) rfl rfl fun w53 hb53 e53 => Nn.of ?_
  have hmlt := hm.lt
  have hs47 := H47.size
  have bl7 := H.ge 3 rfl
  have bl8 := H.ge 4 rfl
  have lt7 := H47.lt 3 rfl
  have lt8 := H47.lt 4 rfl
  have ne78 : w7.heap.size ≠ w8.heap.size := fun e => by
    have := H.h.nodup
    rw [arr_fst] at this
    simp [e] at this
  have hbk : Blk w53 w47.heap.size (tcl mc g' x o r46 gs).toArray TU := e53.blk T49.blk fun e => by
    have e : w47.heap.size = mb := e
    omega
  refine Ld.of hbk (x := gs) rfl ?_
  have b7 : Blk w53 w7.heap.size [Slc.v ⟨none, 0, 0⟩].toArray 49 := e53.blk (H49.get 3 rfl) fun e => by
    have e : w7.heap.size = mb := e
    omega
  have b8 : Blk w53 w8.heap.size [.int .i64 0].toArray 43 := e53.blk (H49.get 4 rfl) fun e => by
    have e : w8.heap.size = mb := e
    omega
  refine st_one (o := 0) b7 (by simp) fun w56 b7 e56 => st_one (o := 0) (e56.blk b8 fun e => ne78 e.symm) (by simp) fun w57 b8 e57 => ?_
  have b7 := e57.blk b7 ne78
  have E57 : Ext (fun j => j = w7.heap.size ∨ j = w8.heap.size) w53 w57 := e56.trans e57 (fun _ h => .inl h) fun _ _ h => .inr h
  refine T38_nil _ _ _ _ ?_
  unfold S38_nil
  refine (Sw.c_caught_nil _ _).mono (fun w1 h1 => ?_) fun _ _ h => h.elim
  subst h1
  refine Ld.of b8 (x := 0) rfl (Br.ne (fun h0 => absurd rfl h0) fun _ => ?_)
  refine Ld.of b7 (x := gs) rfl (Ld.of b8 (x := 0) rfl ⟨mc, gl, hdoF, ?_, ?_, ?_, fun j hj => ?_⟩)
  · refine E57.blk (show Blk w53 mb (mcc mc).toArray TK from hb53) fun e => ?_
    have e : mb = w7.heap.size ∨ mb = w8.heap.size := e
    omega
  · refine (H49.ext.trans e53 (fun _ h => h.elim) fun _ _ h => h).trans E57 (fun _ h => h) fun j hj e => ?_
    have e : j = w7.heap.size ∨ j = w8.heap.size := e
    omega
  · refine ((Row.view T49.row).keepF e53 fun j hj e => ?_).keepF E57 fun j hj e => ?_
    · have h1 := T49.own j hj
      have e : j = mb := e
      omega
    · have h1 := T49.own j hj
      have e : j = w7.heap.size ∨ j = w8.heap.size := e
      omega
  · have h1 := T49.own j hj
    omega
end
end Ma
end Go.Proofs.YtcblpehnkogfdaaGreatDoor

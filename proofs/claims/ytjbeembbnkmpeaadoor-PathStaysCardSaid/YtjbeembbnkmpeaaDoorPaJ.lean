/- Paths: what the layer's sample shows. Conditions: the tables are laid; Box. -/
import Derived.Test.YtjbeembbnkmpeaaDoorPaI
import Derived.Test.YtjbeembbnkmpeaaDoorFnPaL
namespace Go.Proofs.YtjbeembbnkmpeaaDoor
namespace Pat
open Sh Mat Fix Opr
set_option linter.unusedVariables false
set_option linter.unusedSimpArgs false
set_option maxRecDepth 8000
set_option maxHeartbeats 8000000
abbrev eB : ByteArray := ⟨#[]⟩
abbrev iO (n : Int) : Ob := (2, n, 0, eB, nilS, nilS)
theorem IV.of {w : World} {g : Nat} {l : List Int} {t : TypeId} (h : Blk w g (ints l).toArray t) : IV w (rowS g l.length) l := ⟨rfl, VRow.of h (by rw [ints_len, Nat.mul_one])⟩
section
variable {w0 w w' w1 : World} {ns sg : Slc} {l : List Int} {L : List Ob} {b mb : Nat} {p : Pa} {m : Mx} {a d : ByteArray} {g : G}
attribute [local irreducible] Ld Sh.St Nw Nn LdS LdT LdST StT
theorem c_opN (h : IV w ns l) (hl : l.length ≤ 1000) : C42 a ns w fun r w1 => ∃ s, r = (a, s, eB) ∧ OV w1 s (l.map iO) ∧ Ext (fun _ => False) w w1 := by
  refine T42 _ _ _ _ ?_
  unfold S42
  refine (Hn.start w).nw fun w2 H => ?_
  refine H.nw fun w3 H => ?_
  simp only [List.cons_append, List.nil_append, add_lit, Nat.zero_add] at H ⊢
  iterate 2 (refine H.st 1 rfl (by simp) fun _ H => ?_; simp only [List.set_cons_zero, List.set_cons_succ] at H)
  refine H.st 1 rfl (by simp) fun w4 H => ?_
  simp only [List.set_cons_zero, List.set_cons_succ] at H
  have hlen := h.1
  have l0 := H.lt 0 rfl
  have l1 := H.lt 1 rfl
  have g0 := H.ge 0 rfl
  have g1 := H.ge 1 rfl
  have l01 : w.heap.size ≠ w2.heap.size := by
    have := H.h.nodup
    simp [arr] at this
    exact this
  refine ⟨fun n st v => ∃ (i : Nat) (s : Slc), st = (i : Int) ∧ i ≤ l.length ∧ n = l.length - i ∧ Blk v w2.heap.size [.string a, Slc.v s, .string eB].toArray 63 ∧ Row v s 81 6 (((l.take i).map iO).flatMap obrow) ∧ (∀ j, s.own j → w4.heap.size ≤ j) ∧ Ext (fun j => j = w2.heap.size) w4 v, l.length, ⟨0, nilS, rfl, by omega, rfl, H.get 1 rfl, Row.nil _ _ _, fun j hj => (by obtain ⟨a', ha, _⟩ := hj; cases ha), Ext.refl _ _⟩, ?_⟩
  rintro n st v ⟨i, s, rfl, hi, rfl, hb, hrow, hown, ev⟩
  unfold S42L1
  simp only [add_lit, Nat.zero_add]
  have E : Ext (fun _ => False) w v := Ext.new H.ext ev fun j hj => by omega
  have hsl : s.len = i := by
    have := hrow.1
    rw [obs_len, List.length_map, List.length_take] at this
    omega
  have sv := ev.size
  rw [hlen]
  refine Br.dec (fun q => ?_) fun q => ?_
  · rw [← hlen]
    refine ld_iv (i := i) (h.keep E) (by omega) rfl ?_
    refine Ld.of hb rfl ?_
    refine (Hn.start v).nw (cs := obrow (iO (l.getD i 0))) fun v2 H2 => ?_
    have e2 := H2.ext
    obtain ⟨s', v3, r1, r2, r3, e3, r5⟩ := elOb.app1 (ty := 60) (hrow.keep e2 fun _ _ e => e) (H2.get 0 rfl) rfl (ob_one _) (by omega) (by omega)
    refine ⟨s', v3, r1, ?_⟩
    have hown' : ∀ j, s'.own j → w4.heap.size ≤ j := fun j hj => (r5 j hj).elim (hown j) fun h => by have := e2.size; omega
    refine stB (e3.blk (e2.blk hb id) fun h => by have := hown _ h; omega) (by simp) fun v4 b4 e4 => ?_
    refine ⟨l.length - (i + 1), by omega, i + 1, s', by rw [i64_id (by omega)]; rfl, by omega, by omega, b4, ?_, hown', ?_⟩
    · have ht : l.take (i + 1) = l.take i ++ [l.getD i 0] := by
        have : l[i]? = some l[i] := List.getElem?_eq_getElem (by omega)
        rw [List.take_add_one, this, List.getD_eq_getElem?_getD, this]
        rfl
      rw [ht, List.map_append, List.flatMap_append]
      exact (show Row v3 s' 81 6 (((l.take i).map iO).flatMap obrow ++ ([iO (l.getD i 0)].flatMap obrow)) by simpa using r2).keep e4 fun j hj e => by have e : j = w2.heap.size := e; have := hown' j hj; omega
    · exact ((ev.trans e2 (fun _ h => h) fun _ _ e => e.elim).trans e3 (fun _ h => h) fun j hj h => by have := hown j h; omega).tr e4
  · have hil : i = l.length := by omega
    subst hil
    rw [List.take_length] at hrow
    iterate 3 refine Ld.of hb rfl ?_
    have z := ev.blk (H.get 0 rfl) l01
    refine stB z (by simp) fun v2 z2 e2 => stB z2 (by simp) fun v3 z3 e3 => stB z3 (by simp) fun v4 z4 e4 => ?_
    iterate 3 refine Ld.of z4 rfl ?_
    have e24 := (e2.tr e3).tr e4
    refine ⟨s, rfl, ⟨by rw [hsl, List.length_map], (hrow.keep e24 fun j hj e => by have e : j = w.heap.size := e; have := hown j hj; omega).view⟩, Ext.new E e24 fun j hj => by omega⟩
theorem SV.own_lt {s : Slc} {T : List Sg} (h : SV w s T) (hne : T ≠ []) {j : Nat} (hj : s.own j) : j < w.heap.size := by
  cases T with
  | nil => exact absurd rfl hne
  | cons o r =>
    obtain ⟨a, ha, hc⟩ := h.get (i := 0) rfl
    obtain ⟨a', ha', rfl⟩ := hj
    rw [ha] at ha'
    cases ha'
    have := cell_lt' (hc 0 _ rfl)
    rw [add_block, add_block] at this
    exact this
/-- The sample's path, and what lies beside it: blocks that are known whole, rows of segments. -/
structure LS (w0 w : World) (b : Nat) (p : Pa) (sg : Slc) (N : List (Nat × List Value × TypeId)) (M : List (Slc × List Sg)) : Prop where
  ext : Ext (fun _ => False) w0 w
  pv : PV w b p sg
  own : ∀ j, sg.own j → w0.heap.size ≤ j
  ge : w0.heap.size ≤ b
  pin : ∀ q, q ∈ N → Blk w q.1 q.2.1.toArray q.2.2 ∧ ¬ sg.own q.1 ∧ q.1 ≠ b
  pis : ∀ q, q ∈ M → SV w q.1 q.2 ∧ ∀ j, q.1.own j → ¬ sg.own j ∧ j ≠ b ∧ j < w.heap.size
section
variable {N : List (Nat × List Value × TypeId)} {M : List (Slc × List Sg)}
theorem LS.keep (h : LS w0 w b p sg N M) (he : Ext (fun _ => False) w w') : LS w0 w' b p sg N M := ⟨h.ext.tr he, h.pv.keep he, h.own, h.ge, fun q hq => ⟨he.blk (h.pin q hq).1 id, (h.pin q hq).2⟩, fun q hq => ⟨(h.pis q hq).1.keep he, fun j hj => ⟨((h.pis q hq).2 j hj).1, ((h.pis q hq).2 j hj).2.1, by have := ((h.pis q hq).2 j hj).2.2; have := he.size; omega⟩⟩⟩
theorem LS.get (h : LS w0 w b p sg N M) (i : Nat) {q : Nat × List Value × TypeId} (hi : N[i]? = some q) : Blk w q.1 q.2.1.toArray q.2.2 := (h.pin q (List.mem_of_getElem? hi)).1
theorem LS.gets (h : LS w0 w b p sg N M) (i : Nat) {q : Slc × List Sg} (hi : M[i]? = some q) : SV w q.1 q.2 := (h.pis q (List.mem_of_getElem? hi)).1
theorem LS.push (h : LS w0 w b p sg N M) {g : Nat} {cs : List Value} {t : TypeId} {wa : World} (hb : Blk w g cs.toArray t) (hP : PV wa b p sg) (hg : wa.heap.size ≤ g) : LS w0 w b p sg (N ++ [(g, cs, t)]) M :=
  ⟨h.ext, h.pv, h.own, h.ge, fun q hq => by
    rcases List.mem_append.1 hq with hq | hq
    · exact h.pin q hq
    · rw [List.mem_singleton.1 hq]
      exact ⟨hb, fun hj => by have := hP.seg.own_lt hj; omega, by have := hP.blk.lt; omega⟩, h.pis⟩
theorem LS.pushS (h : LS w0 w b p sg N M) {s : Slc} {T : List Sg} {wa : World} (hs : SO wa w s T) (hP : PV wa b p sg) : LS w0 w b p sg N (M ++ [(s, T)]) :=
  ⟨h.ext, h.pv, h.own, h.ge, h.pin, fun q hq => by
    rcases List.mem_append.1 hq with hq | hq
    · exact h.pis q hq
    · rw [List.mem_singleton.1 hq]
      exact ⟨hs.sv, fun j hj => ⟨fun hj' => by have := hP.seg.own_lt hj'; have := hs.2 j hj; omega, by have := hP.blk.lt; have := hs.2 j hj; omega, hs.1.own_lt hj⟩⟩⟩
theorem LS.turn {sg' : Slc} {p' : Pa} (h : LS w0 w b p sg N M) (h2 : PV w1 b p' sg') (h3 : Ext (fun j => j = b ∨ sg.own j) w w1) (h4 : ∀ j, sg'.own j → sg.own j ∨ w.heap.size ≤ j) : LS w0 w1 b p' sg' N M := by
  have sz := h.ext.size
  have hge := h.ge
  refine ⟨Ext.new h.ext h3 fun j hj => ?_, h2, fun j hj => (h4 j hj).elim (h.own j) fun h => by omega, h.ge, fun q hq => ?_, fun q hq => ?_⟩
  · rcases hj with rfl | hj
    · exact hge
    · exact h.own j hj
  · obtain ⟨k1, k2, k3⟩ := h.pin q hq
    have := k1.lt
    exact ⟨h3.blk k1 fun hj => hj.elim k3 k2, fun hj => (h4 _ hj).elim k2 fun h => by omega, k3⟩
  · obtain ⟨k1, k2⟩ := h.pis q hq
    have := h3.size
    exact ⟨k1.keepF h3 fun j hj e => e.elim (k2 j hj).2.1 (k2 j hj).1, fun j hj => ⟨fun hj' => (h4 j hj').elim (k2 j hj).1 fun h => by have := (k2 j hj).2.2; omega, (k2 j hj).2.1, by have := (k2 j hj).2.2; omega⟩⟩
theorem LS.do_ (hs : AS w0) (h : LS w0 w b p sg N M) {s : Slc} {m' : Mx} (ho : OV w s L) (hl : L.length ≤ 9223372036854775807) {e : Int} {p' : Pa} (hd : doP p (bl a) (bl d) L m' = (e, p')) :
    C23 (some ⟨b, 0, none⟩) (a, s, d) m' w fun r w1 => r = e ∧ ∃ sg', LS w0 w1 b p' sg' N M := by
  refine (c_do (hs.keep h.ext) h.pv ho (by omega)).mono ?_
  rintro r w1 ⟨sg', h1, h2, h3, h4⟩
  rw [hd] at h1 h2
  exact ⟨h1.symm, sg', h.turn h2 h3 h4⟩
theorem LS.paint_ (hs : AS w0) (hpm : PM w0) (h : LS w0 w b p sg N M) {s : Slc} (ho : OV w s L) (hl : L.length ≤ 9223372036854775807) (ha : a.size ≤ maxLen) {q : PaR} (hd : paintP p (bl a) (bl d) L = q) :
    C30 (some ⟨b, 0, none⟩) (a, s, d) g w fun r is e w1 => e = q.e ∧ is = q.is ∧ ∃ sp, r = (if q.is = true then mkPt q.how sp (fillG g) (strkG g) else pt0) ∧ SV w1 sp q.L ∧ (∀ j, sp.own j → sg.own j ∨ w.heap.size ≤ j) ∧ ∃ sg', LS w0 w1 b q.p sg' N M ∧ (q.e = 0 → sg' = nilS) ∧ sp.len ≤ sp.cap := by
  refine (c_paint (hs.keep h.ext) (hpm.keep h.ext) h.pv ho (by omega) ha).mono ?_
  rintro r is e w1 ⟨sg', sp, h1, h2, h3, h4, h5, h6, h7, h8, h9⟩
  rw [hd] at h1 h2 h3 h4 h5 h9
  exact ⟨h3, h2, sp, h1, h4, h8, sg', h.turn h5 h6 h7, h9⟩
end
theorem c_doNil (a d : ByteArray) (s : Slc) (m : Mx) (w : World) : C23 none (a, s, d) m w fun r w1 => r = 1 ∧ Ext (fun _ => False) w w1 := by
  refine T23 _ (a, s, d) m _ _ ?_
  unfold S23
  refine (Hn.start w).nw fun w2 H => ?_
  refine H.nw fun w3 H => ?_
  refine H.nw fun w4 H => ?_
  simp only [List.cons_append, List.nil_append, add_lit, Nat.zero_add] at H ⊢
  refine (c_need _ 1 _).mono ?_ ?_
  · rintro w5 ⟨hh, _⟩
    cases hh
  · rintro v w5 ⟨rfl, _, rfl⟩
    have g2 := H.ge 2 rfl
    exact c_pan w3 (H.get 2 rfl) fun w8 e8 => ⟨rfl, Ext.new H.ext e8 fun j hj => by omega⟩
/-! ### What operators do to the sample's path -/
abbrev oneM : Mx := (10000, 0, 0, 10000, 0, 0)
def p1 : Pa := ⟨[mvS (10000, 10000)], (10000, 10000), false⟩
def p2 : Pa := ⟨[mvS (10000, 10000), lnS (20000, 10000)], (10000, 10000), false⟩
def p3 : Pa := ⟨[mvS (10000, 10000), lnS (20000, 10000), cvS (20000, 10000) (30000, 30000) (40000, 10000)], (10000, 10000), false⟩
def p4 : Pa := ⟨[mvS (0, 0), lnS (40000, 0), lnS (40000, 30000), lnS (0, 30000), clS], (0, 0), false⟩
def p5 : Pa := ⟨[mvS (0, 0), lnS (40000, 0), lnS (40000, 30000), lnS (0, 30000), clS], (0, 0), true⟩
theorem d_l0 : doP pa0 (bl ⟨#[108]⟩) (bl eB) ([1, 1].map iO) oneM = (29, pa0) := by kernel_rfl
theorem d_m : doP pa0 (bl ⟨#[109]⟩) (bl eB) ([1, 1].map iO) oneM = (0, p1) := by kernel_rfl
theorem d_l : doP p1 (bl ⟨#[108]⟩) (bl eB) ([2, 1].map iO) oneM = (0, p2) := by kernel_rfl
theorem d_l1 : doP p2 (bl ⟨#[108]⟩) (bl eB) ([2].map iO) oneM = (28, p2) := by kernel_rfl
theorem d_q : doP p2 (bl ⟨#[113]⟩) (bl eB) ([].map iO) oneM = (8, p2) := by kernel_rfl
theorem d_v : doP p2 (bl ⟨#[118]⟩) (bl eB) ([3, 3, 4, 1].map iO) oneM = (0, p3) := by kernel_rfl
theorem d_re : doP pa0 (bl ⟨#[114, 101]⟩) (bl eB) ([0, 0, 2, 3].map iO) (20000, 0, 0, 10000, 0, 0) = (0, p4) := by kernel_rfl
theorem d_W : doP p4 (bl ⟨#[87]⟩) (bl eB) ([].map iO) oneM = (0, p5) := by kernel_rfl
theorem d_s : paintP p3 (bl ⟨#[115]⟩) (bl eB) ([].map iO) = ⟨0, 4, p3.L ++ [clS], true, pa0⟩ := by kernel_rfl
theorem d_n : paintP pa0 (bl ⟨#[110]⟩) (bl eB) ([].map iO) = ⟨0, 0, [], false, pa0⟩ := by kernel_rfl
theorem d_pm : paintP pa0 (bl ⟨#[109]⟩) (bl eB) ([1, 1].map iO) = ⟨8, 0, [], false, pa0⟩ := by kernel_rfl
theorem d_n5 : paintP p5 (bl ⟨#[110]⟩) (bl eB) ([].map iO) = ⟨0, 8, p5.L, true, pa0⟩ := by kernel_rfl
theorem d_box : boxP (ptsL p3.L) = ((10000, 10000, 40000, 30000), true) := by kernel_rfl
theorem d_box0 : boxP (ptsL []) = ((0, 0, 0, 0), false) := by kernel_rfl
end
end Pat
end Go.Proofs.YtjbeembbnkmpeaaDoor

/- Box: the whole of it. Conditions: at most 100000 segments. -/
import Derived.Test.YtjbeembbnkmpeaaDoorPaO
import Derived.Test.YtjbeembbnkmpeaaDoorPaM
namespace Go.Proofs.YtjbeembbnkmpeaaDoor
namespace Pat
open Sh Mat Fix Opr
open Go.RowKit
set_option linter.unusedVariables false
set_option linter.unusedSimpArgs false
set_option maxRecDepth 100000
set_option maxHeartbeats 4000000
theorem fits_sub {N : Nat} {E E' : Env} {a : Act} (h : Fits N E a) (hs : ∀ t v, E'.get? t = some v → E.get? t = some v) : Fits N E' a := ⟨h.size, fun t v hv => h.get t v (hs t v hv)⟩
theorem Ext.put {F : Nat → Prop} {a w : World} (h : Ext F a w) {l : Nat} (o : Obj) (hl : F l ∨ a.heap.size ≤ l) : Ext F a (w.putObj l o) :=
  ⟨h.os, h.tape, h.output, by have := h.size; simp [World.putObj]; exact this, fun i hi hn => by
    have hne : i ≠ l := fun e => by
      subst e
      rcases hl with hl | hl
      · exact hn hl
      · omega
    rw [World.putObj_heap_other hne]
    exact h.block i hi hn⟩
theorem blk_put {w : World} {b l : Nat} {cs : Array Value} {t : TypeId} (h : Blk w b cs t) (o : Obj) (hn : b ≠ l) : Blk (w.putObj l o) b cs t := by
  unfold Blk at h ⊢
  rw [World.putObj_heap_other hn]
  exact h
/-- What holds between two rounds. -/
structure JB (w : World) (D b2 b4 b5 : Nat) (rec : Loop) (pre : List (Int × Int)) (W : World) : Prop where
  rc : W.heap[D + 1]? = some (.loop rec)
  df : W.heap[D]? = some (.deferred (some []))
  k2 : Blk W b2 #[.int .i64 0, .int .i64 0, .int .i64 0, .int .i64 0] 72
  k4 : Blk W b4 (bxC (boxP pre).1) 72
  k5 : Blk W b5 #[.bool (boxP pre).2] 4
  ext : Ext (fun _ => False) w W
section
variable {w W W' : World} {D b2 b4 b5 : Nat} {rec : Loop} {pre : List (Int × Int)}
theorem JB.keep (h : JB w D b2 b4 b5 rec pre W) (he : Ext (fun _ => False) W W') : JB w D b2 b4 b5 rec pre W' :=
  ⟨(he.block _ (Array.getElem?_eq_some_iff.1 h.rc).1 (fun h => h)).trans h.rc, (he.block _ (Array.getElem?_eq_some_iff.1 h.df).1 (fun h => h)).trans h.df, he.blk h.k2 (fun h => h), he.blk h.k4 (fun h => h), he.blk h.k5 (fun h => h), h.ext.tr he⟩
attribute [local irreducible] Ld Sh.St Nw Nn LdS LdT LdST StT
theorem box_yl {fn : FuncId} {tmps : Array Value} {x : Int × Int} {K : Bool → World → Prop} (hj : JB w D b2 b4 b5 (rfRec fn tmps #[9] cBoxE cBoxF D) pre W) (hsz : w.heap.size ≤ b2 ∧ b2 < b4 ∧ b4 < b5 ∧ b5 < D)
    (hf : Fits 44 [(5, .pointer (some ⟨b5, 0, none⟩)), (4, .pointer (some ⟨b4, 0, none⟩))] { tmps := tmps, defers := [] })
    (hK : ∀ W', JB w D b2 b4 b5 (rfRec fn tmps #[9] cBoxE cBoxF D) (pre ++ [x]) W' → Ext (fun j => j = D + 1 ∨ j = b4 ∨ j = b5) W W' → K true W') : Yl Tryd.prog (D + 1) #[.agg #[.int .i64 x.1, .int .i64 x.2]] W K := by
  obtain ⟨x, y⟩ := x
  obtain ⟨s1, s2, s3, s4⟩ := hsz
  refine yl_body (N := 44) (F := ⟨FF, MAY, fun _ _ => False⟩) okF (fun _ _ h => h) hj.rc rfl (E := [(9, .agg #[.int .i64 x, .int .i64 y]), (5, .pointer (some ⟨b5, 0, none⟩)), (4, .pointer (some ⟨b4, 0, none⟩))]) ?_ (pa := pBoxE) (pb := pBoxF) (by kernel_rfl) (by kernel_rfl) ?_
  · have e9 : rfTmps #[9] #[.agg #[.int .i64 x, .int .i64 y]] tmps = tmps.setIfInBounds 9 (.agg #[.int .i64 x, .int .i64 y]) := by simp [rfTmps]
    rw [show rfTmps #[9] #[.agg #[.int .i64 (x, y).1, .int .i64 (x, y).2]] tmps = _ from e9]
    exact hf.put (d := some 9) (v := .agg #[.int .i64 x, .int .i64 y]) (fun t ht => by cases ht; decide)
  rw [EBoxE]
  unfold SBoxE
  refine (Hn.start W).nw fun w4 H => ?_
  refine H.st 0 rfl (by simp) fun w5 H => ?_
  refine H.st 0 rfl (by simp) fun w6 H => ?_
  have e6 := H.h.ext
  have hj6 := hj.keep e6
  have h6 : Blk w6 W.heap.size #[.int .i64 x, .int .i64 y] _ := H.get 0 rfl
  have g6 := H.ge 0 rfl
  have hD := (Array.getElem?_eq_some_iff.1 hj.rc).1
  refine ⟨hj6.rc, ?_⟩
  rw [EBoxF]
  refine box_round (blk_put hj6.k4 _ (by omega)) (blk_put hj6.k5 _ (by omega)) (blk_put h6 _ (by omega)) (by omega) (by omega) (by omega) fun W2 k4 k5 e2 => ?_
  have hD6 := (Array.getElem?_eq_some_iff.1 hj6.rc).1
  have lt : D + 1 < (w6.putObj (D + 1) (.loop { rfRec fn tmps #[9] cBoxE cBoxF D with state := .busy })).heap.size := by simp [World.putObj]; exact hD6
  have h0 : (w6.putObj (D + 1) (.loop { rfRec fn tmps #[9] cBoxE cBoxF D with state := .busy })).heap[D + 1]? = _ := World.putObj_heap_same hD6
  have hl2 := (e2.block (D + 1) lt (by rintro (h | h) <;> omega)).trans h0
  have e62 : Ext (fun j => j = D + 1 ∨ j = b4 ∨ j = b5) w6 W2 := Ext.trans (F := fun j => j = D + 1) (Ext.put (Ext.refl _ _) _ (.inl rfl)) e2 (fun _ h => .inl h) (fun _ _ h => .inr h)
  refine ⟨hl2, hK _ ?_ ?_⟩
  · have hd := (e2.block D (by omega) (by rintro (h | h) <;> omega)).trans ((World.putObj_heap_other (by omega)).trans hj6.df)
    have k2 := e2.blk (blk_put hj6.k2 (.loop { rfRec fn tmps #[9] cBoxE cBoxF D with state := .busy }) (l := D + 1) (by omega)) (by rintro (h | h) <;> omega)
    refine ⟨World.putObj_heap_same (Array.getElem?_eq_some_iff.1 hl2).1, (World.putObj_heap_other (by omega)).trans hd, blk_put k2 _ (by omega), ?_, ?_, ?_⟩
    · rw [boxP_snoc]; exact blk_put k4 _ (by omega)
    · rw [boxP_snoc]; exact blk_put k5 _ (by omega)
    · exact Ext.put (Ext.new hj6.ext e62 (by have := hj.ext.size; rintro j (h | h | h) <;> omega)) _ (.inr (by have := hj.ext.size; omega))
  · exact Ext.put ((e6.mono fun _ _ h => h.elim).tr e62) _ (.inl (.inl rfl))
end
end Pat
end Go.Proofs.YtjbeembbnkmpeaaDoor
/- Box: it gives the bounding box of the points. Conditions: at most 100000 segments. -/
namespace Go.Proofs.YtjbeembbnkmpeaaDoor
namespace Pat
open Sh Mat Fix Opr
open Go.RowKit
set_option linter.unusedVariables false
set_option linter.unusedSimpArgs false
set_option maxRecDepth 100000
set_option maxHeartbeats 4000000
attribute [local irreducible] Ld Sh.St Nw Nn LdS LdT LdST StT
abbrev z4 : List Value := [.int .i64 0, .int .i64 0, .int .i64 0, .int .i64 0]
theorem f29_body : Tryd.f29.body = some (.seq cBoxA (.seq cBoxB (.seq cBoxC (.seq (.seq cBoxD (.block 0 (.rangeFunc (.tmp 8) #[9] cBoxE cBoxF))) cBoxG)))) := by kernel_rfl
theorem beq_no {a t : Nat} (h : t ≠ a) : Nat.beq a t = false := by
  cases hb : Nat.beq a t with
  | false => rfl
  | true => exact absurd (Nat.eq_of_beq_eq_true hb).symm h
theorem two_fits {E : Env} {a : Act} {p5 p4 : Value} (hf : Fits 44 E a) (h5 : E.get? 5 = some p5) (h4 : E.get? 4 = some p4) : Fits 44 [(5, p5), (4, p4)] { tmps := a.tmps, defers := [] } := ⟨hf.size, fun t v hv => by
  by_cases e5 : t = 5
  · subst e5
    have : some p5 = some v := hv
    cases this
    exact hf.get 5 _ h5
  by_cases e4 : t = 4
  · subst e4
    have : some p4 = some v := hv
    cases this
    exact hf.get 4 _ h4
  simp only [Env.get?, beq_no e5, beq_no e4] at hv
  cases hv⟩
theorem three_fits {E : Env} {a : Act} {p5 p4 p2 : Value} {ds : List Deferred} (hf : Fits 44 E a) (h5 : E.get? 5 = some p5) (h4 : E.get? 4 = some p4) (h2 : E.get? 2 = some p2) : Fits 44 [(5, p5), (4, p4), (2, p2)] { a with defers := ds } := ⟨hf.size, fun t v hv => by
  by_cases e5 : t = 5
  · subst e5
    have : some p5 = some v := hv
    cases this
    exact hf.get 5 _ h5
  by_cases e4 : t = 4
  · subst e4
    have : some p4 = some v := hv
    cases this
    exact hf.get 4 _ h4
  by_cases e2 : t = 2
  · subst e2
    have : some p2 = some v := hv
    cases this
    exact hf.get 2 _ h2
  simp only [Env.get?, beq_no e5, beq_no e4, beq_no e2] at hv
  cases hv⟩
theorem box_end {W : World} {b2 b4 b5 : Nat} {b : Bx} {f : Bool} {t2 t4 t5 : TypeId} {R : Addr → Bool → World → Prop} (k2 : Blk W b2 #[.int .i64 0, .int .i64 0, .int .i64 0, .int .i64 0] t2) (k4 : Blk W b4 (bxC b) t4) (k5 : Blk W b5 #[.bool f] t5)
    (n24 : b2 ≠ b4) (n25 : b2 ≠ b5) (n45 : b4 ≠ b5) (hR : ∀ W', Blk W' b2 (bxC b) t2 → Ext (· = b2) W W' → R ⟨b2, 0, none⟩ f W') : SBoxG ⟨b2, 0, none⟩ ⟨b4, 0, none⟩ ⟨b5, 0, none⟩ W R := by
  refine ⟨fun W => Blk W b4 (bxC b) t4 ∧ Blk W b5 #[.bool f] t5, ⟨k4.drew, k5.drew⟩, ?_⟩
  refine LdS.of (fun _ h => h.1) rfl (LdS.of (fun _ h => h.1) rfl (LdS.of (fun _ h => h.1) rfl (LdS.of (fun _ h => h.1) rfl (LdS.of (fun _ h => h.2) rfl ?_))))
  have H : Hx W (· = b2) W.drew [(b2, #[.int .i64 0, .int .i64 0, .int .i64 0, .int .i64 0], t2), (b4, bxC b, t4), (b5, #[.bool f], t5)] := ⟨fun p hp => by
      simp only [List.mem_cons, List.not_mem_nil, or_false] at hp
      rcases hp with rfl | rfl | rfl
      · exact k2.drew
      · exact k4.drew
      · exact k5.drew, by simp [n24, n25, n45], (Ext.refl _ _).drew⟩
  iterate 4 (refine H.st 0 rfl (by simp) (.inl rfl) fun _ H => ?_)
  exact ⟨⟨H.get 1 rfl, H.get 2 rfl⟩, hR _ (H.get 0 rfl) H.ext⟩
theorem box_ok : BoxOk := by
  intro w s L hS hl
  refine (callsIn_wide (n := 0)).1 ?_
  refine callsIn_of_wp_marks Tryd.func29 f29_body trivial ?_ rfl
  have hf0 : Fits 44 [(0, Slc.v s)] { tmps := #[Slc.v s] ++ Array.replicate (Tryd.f29.ntmps - #[Slc.v s].size) undef, defers := [] } := fits0 (args := [Slc.v s]) (n := 44) (by simp)
  obtain ⟨a0, ha0, hd0⟩ : ∃ a0 : Act, a0 = { tmps := #[Slc.v s] ++ Array.replicate (Tryd.f29.ntmps - #[Slc.v s].size) undef, defers := [] } ∧ a0.defers = [] := ⟨_, rfl, rfl⟩
  rw [← ha0] at hf0 ⊢
  clear ha0
  refine seqY (F := ⟨FF, MAY, fun _ _ => False⟩) InF.wide okF (fun _ _ h => h) (pl := pBoxA) (K := fun E w1 => E = [(3, .bool false), (2, .pointer (some ⟨w.heap.size, 0, none⟩)), (0, Slc.v s)] ∧ Hn w w1 [(w.heap.size, z4, 72)]) (by
    rw [EBoxA]
    exact (Hn.start w).nw fun w1 H => ⟨rfl, H⟩) hf0 (by kernel_rfl) ?_
  rintro E a1 w1 ⟨rfl, H1⟩ hf1 hd1
  rw [hd0] at hd1
  refine seqY (F := ⟨FF, MAY, fun _ _ => False⟩) InF.wide okF (fun _ _ h => h) (pl := pBoxB) (K := fun E w2 => E = [(4, .pointer (some ⟨w1.heap.size, 0, none⟩)), (3, .bool false), (2, .pointer (some ⟨w.heap.size, 0, none⟩)), (0, Slc.v s)] ∧ Hn w w2 [(w.heap.size, z4, 72), (w1.heap.size, z4, 72)]) (by
    rw [EBoxB]
    exact H1.nw fun w1 H => ⟨rfl, H⟩) hf1 (by kernel_rfl) ?_
  rintro E a2 w2 ⟨rfl, H2⟩ hf2 hd2
  rw [hd1] at hd2
  refine seqY (F := ⟨FF, MAY, fun _ _ => False⟩) InF.wide okF (fun _ _ h => h) (pl := pBoxC) (K := fun E w3 => E = [(5, .pointer (some ⟨w2.heap.size, 0, none⟩)), (4, .pointer (some ⟨w1.heap.size, 0, none⟩)), (3, .bool false), (2, .pointer (some ⟨w.heap.size, 0, none⟩)), (0, Slc.v s)] ∧ Hn w w3 [(w.heap.size, z4, 72), (w1.heap.size, z4, 72), (w2.heap.size, [.bool false], 4)]) (by
    rw [EBoxC]
    exact H2.nw fun w3 H => H.st 2 rfl (by simp) fun w4 H => ⟨rfl, H⟩) hf2 (by kernel_rfl) ?_
  rintro E a3 w3 ⟨rfl, H3⟩ hf3 hd3
  rw [hd2] at hd3
  refine wpIn_seq ?_
  refine seqY (F := ⟨FF, MAY, fun _ _ => False⟩) InF.wide okF (fun _ _ h => h) (pl := pBoxD) (K := fun E w4 => E = [(8, .func (.func 148) #[] #[.pointer (some ⟨w3.heap.size, 0, none⟩)]), (7, Slc.v s), (5, .pointer (some ⟨w2.heap.size, 0, none⟩)), (4, .pointer (some ⟨w1.heap.size, 0, none⟩)), (3, .bool false), (2, .pointer (some ⟨w.heap.size, 0, none⟩)), (0, Slc.v s)] ∧ Hn w w4 [(w.heap.size, z4, 72), (w1.heap.size, z4, 72), (w2.heap.size, [.bool false], 4), (w3.heap.size, [Slc.v s], 64)]) (by
    rw [EBoxD]
    refine T89 _ _ _ ?_
    exact H3.nw fun w4 H => ⟨rfl, H⟩) hf3 (by kernel_rfl) ?_
  rintro E a4 w4 ⟨rfl, H4⟩ hf4 hd4
  rw [hd3] at hd4
  have l2 := (H1.get 0 rfl).lt
  have l4 := (H2.get 1 rfl).lt
  have l5 := (H3.get 2 rfl).lt
  have l6 := (H4.get 3 rfl).lt
  have k2 : Blk w4 w.heap.size #[.int .i64 0, .int .i64 0, .int .i64 0, .int .i64 0] _ := H4.get 0 rfl
  have k4 : Blk w4 w1.heap.size (bxC (boxP []).1) _ := H4.get 1 rfl
  have k5 : Blk w4 w2.heap.size #[.bool (boxP []).2] _ := H4.get 2 rfl
  have k6 : Blk w4 w3.heap.size #[Slc.v s] _ := H4.get 3 rfl
  have e4 := H4.h.ext
  have hev : a4.eval (.tmp 8) = .func (.func 148) #[] #[.pointer (some ⟨w3.heap.size, 0, none⟩)] := hf4.rho (x := .tmp 8) rfl
  refine wpIn_block ?_
  refine rf_in okF hev (by kernel_rfl) fun fn => ?_
  obtain ⟨wr, hwr⟩ : ∃ wr, wr = rfW w4 fn a4.tmps #[9] cBoxE cBoxF := ⟨_, rfl⟩
  have er : Ext (fun _ => False) w4 wr := by rw [hwr]; exact ((Ext.refl _ w4).alloc _).alloc _
  have hr1 : wr.heap[w4.heap.size + 1]? = some (.loop (rfRec fn a4.tmps #[9] cBoxE cBoxF w4.heap.size)) := by
    rw [hwr]
    have := World.alloc_heap_new (w4.alloc (.deferred (some []))) (.loop (rfRec fn a4.tmps #[9] cBoxE cBoxF w4.heap.size))
    rwa [World.size_alloc] at this
  have hr0 : wr.heap[w4.heap.size]? = some (.deferred (some [])) := by
    rw [hwr]; exact (Below.heap_alloc _ _ _ (by simp)).trans (World.alloc_heap_new w4 _)
  have hsr : w4.heap.size + 1 < wr.heap.size := (Array.getElem?_eq_some_iff.1 hr1).1
  have hj0 : JB w w4.heap.size w.heap.size w1.heap.size w2.heap.size (rfRec fn a4.tmps #[9] cBoxE cBoxF w4.heap.size) [] wr := ⟨hr1, hr0, er.blk k2 (fun h => h), er.blk k4 (fun h => h), er.blk k5 (fun h => h), e4.tr er⟩
  rw [← hwr]
  refine (T148_Y (w4.heap.size + 1) ⟨w3.heap.size, 0, none⟩ wr _ (it_pts (J := JB w w4.heap.size w.heap.size w1.heap.size w2.heap.size (rfRec fn a4.tmps #[9] cBoxE cBoxF w4.heap.size)) (B := fun j => j = w4.heap.size + 1 ∨ j = w1.heap.size ∨ j = w2.heap.size) hS (e4.tr er) hl ((er.blk k6 (fun h => h)).cell 0) (by rintro j (h | h | h) <;> omega) (by rintro j (h | h | h) <;> omega)
    (fun _ _ _ h he => h.keep he) (fun pre x W K hj hK => box_yl hj ⟨by omega, by omega, by omega, by omega⟩ (two_fits hf4 rfl rfl) hK) hj0)).mono ?_
  rintro e W2 ⟨rfl, hj2⟩
  refine ⟨⟨_, rfl⟩, hj2.rc, ?_⟩
  have hw2 : w.heap.size ≤ w4.heap.size := e4.size
  refine wpIn_mono (wpIn_wide.2 (codeT_wp (N := 44) (F := ⟨FF, MAY, fun _ _ => False⟩) okF okM cBoxG pBoxG [(5, .pointer (some ⟨w2.heap.size, 0, none⟩)), (4, .pointer (some ⟨w1.heap.size, 0, none⟩)), (2, .pointer (some ⟨w.heap.size, 0, none⟩))] _
    (rtK fun a b W' => a = ⟨w.heap.size, 0, none⟩ ∧ b = (boxP (ptsL L)).2 ∧ Blk W' w.heap.size (bxC (boxP (ptsL L)).1) 72 ∧ W'.heap[w4.heap.size]? = some (.deferred (some [])) ∧ Ext (fun _ => False) w W') _ ?_ (three_fits hf4 rfl rfl rfl) (by kernel_rfl))) fun e a' w' hq => ?_
  · rw [EBoxG]
    refine box_end (blk_put hj2.k2 _ (by omega)) (blk_put hj2.k4 _ (by omega)) (blk_put hj2.k5 _ (by omega)) (by omega) (by omega) (by omega) fun W' g2 ge => ⟨rfl, rfl, g2, ?_, ?_⟩
    · exact (ge.block _ (by have := (Array.getElem?_eq_some_iff.1 hj2.df).1; simpa using this) (by omega)).trans ((World.putObj_heap_other (by omega)).trans hj2.df)
    · exact Ext.new (Ext.put hj2.ext _ (.inr (by omega))) ge (by rintro j rfl; exact Nat.le_refl _)
  · rcases hq with ⟨E', hr, hfe, hse⟩ | ⟨_, _, hp, _⟩
    · cases e <;> try exact hr.elim
      unfold rtK at hr
      simp only at hr
      split at hr
      · rename_i a b g2 g3
        obtain ⟨rfl, rfl, k2', hdf, he'⟩ := hr
        have hfin : Fits 44 [(3, .bool (boxP (ptsL L)).2), (2, .pointer (some ⟨w.heap.size, 0, none⟩))] a' := ⟨hfe.size, fun t v hv => by
          by_cases e3 : t = 3
          · subst e3
            have : some (Value.bool (boxP (ptsL L)).2) = some v := hv
            cases this
            exact hfe.get 3 _ g3
          by_cases e2 : t = 2
          · subst e2
            have : some (Value.pointer (some ⟨w.heap.size, 0, none⟩)) = some v := hv
            cases this
            exact hfe.get 2 _ g2
          simp only [Env.get?, beq_no e3, beq_no e2] at hv
          cases hv⟩
        have k2f := blk_put k2' (.deferred none) (l := w4.heap.size) (by omega)
        obtain ⟨v, v1, sv, v2, v3⟩ := fin_run (P := Tryd.prog) (fn := Tryd.f29) (w' := w'.putObj w4.heap.size (.deferred none)) (tys := [(.agg [(.int .i64), (.int .i64), (.int .i64), (.int .i64)]), (.one .bool)]) hfin (R := fun s W => (s.1, s.2) = boxP (ptsL L) ∧ Ext (fun _ => False) w W) (by
          refine (EBoxH ⟨w.heap.size, 0, none⟩ (boxP (ptsL L)).2 _ (fun r is W => (r, is) = boxP (ptsL L) ∧ Ext (fun _ => False) w W)).mpr ?_
          refine Ld.of k2f rfl (Ld.of k2f rfl (Ld.of k2f rfl (Ld.of k2f rfl ⟨rfl, ?_⟩)))
          exact Ext.put he' _ (.inr (by omega)))
        show LeavesInM _ _ _ _ _ _ a'.defers _ _
        rw [hse.2, hd4]
        exact ⟨by simp, .inl ⟨_, _, rfl, run_takeDeferred hdf, v, v1, sv.1, sv.2, v2, v3⟩⟩
      · exact hr.elim
    · exact hp.elim
end Pat
end Go.Proofs.YtjbeembbnkmpeaaDoor

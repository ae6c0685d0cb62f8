/- The lexer: the iterator gives the tokens; a round of All. Conditions: sizes. -/
import Derived.Test.YtpkadliieplblaaDoorTkF
import Derived.Test.YtpkadliieplblaaDoorEl
import Derived.Test.YtpkadliieplblaaDoorFnAll
namespace Go.Proofs.YtpkadliieplblaaDoor
namespace Tk
open Sh Fix Go.Lib
open Go.RowKit
set_option linter.unusedVariables false
set_option linter.unusedSimpArgs false
set_option maxRecDepth 100000
set_option maxHeartbeats 4000000
theorem Ext.put {F : Nat → Prop} {a w : World} (h : Ext F a w) {l : Nat} (o : Obj) (hl : F l ∨ a.heap.size ≤ l) : Ext F a (w.putObj l o) :=
  ⟨h.os, h.tape, h.output, by have := h.size; simp [World.putObj]; exact this, fun i hi hn => by
    have hne : i ≠ l := fun e => by
      subst e
      rcases hl with hl | hl
      · exact hn hl
      · omega
    rw [World.putObj_heap_other hne]
    exact h.block i hi hn⟩
theorem blk_put {w : World} {b l : Nat} {cs : Array Value} {t : TypeId} (h : Blk w b cs t) (o : Obj) (hn : b ≠ l) : Blk (w.putObj l o) b cs t := by
  unfold Blk at h ⊢
  rw [World.putObj_heap_other hn]
  exact h
theorem env_mem : ∀ {E : Env} {t : Nat} {v : Value}, E.get? t = some v → (t, v) ∈ E
  | (s, u) :: r, t, v, h => by
    unfold Env.get? at h
    cases hb : Nat.beq s t with
    | true =>
      rw [hb] at h
      simp only [Option.some.injEq] at h
      rw [← h, ← Nat.eq_of_beq_eq_true hb]
      exact List.mem_cons_self ..
    | false =>
      rw [hb] at h
      exact List.mem_cons_of_mem _ (env_mem h)
theorem fits_pick {N : Nat} {E E' : Env} {a a' : Act} (h : Fits N E a) (ht : a'.tmps = a.tmps) (hp : ∀ p ∈ E', E.get? p.1 = some p.2) : Fits N E' a' := ⟨by rw [ht]; exact h.size, fun t v hv => by
  rw [ht]
  exact h.get t v (hp _ (env_mem hv))⟩
theorem elTok : El Tryd.prog 26 32 5 48 (.agg (tokr (0, 0, 0, 0, ⟨#[]⟩)).toArray) := ⟨by kernel_rfl, by kernel_rfl, by kernel_rfl, by kernel_rfl, rfl⟩
theorem tokr_one (t : TT) : ∀ v ∈ tokr t, v.oneCell' = true := by
  intro v hv
  simp only [tokr, List.mem_cons, List.not_mem_nil, or_false] at hv
  rcases hv with rfl | rfl | rfl | rfl | rfl <;> rfl
def tokv (t : TT) : Value := .agg #[.int .i64 t.1, .int .i64 t.2.1, .int .i64 t.2.2.1, .int .i64 t.2.2.2.1, .string t.2.2.2.2]
/-- What holds between two rounds. -/
structure JT (w : World) (D b2 b3 b4 b5 n0 : Nat) (rec : Loop) (pre : List TT) (W : World) : Prop where
  rc : W.heap[D + 1]? = some (.loop rec)
  df : W.heap[D]? = some (.deferred (some []))
  k2 : Blk W b2 #[Slc.v ⟨none, 0, 0⟩] 26
  k3 : Blk W b3 #[.int .i64 0, .int .i64 0] 28
  k5 : Blk W b5 #[.int .i64 0, .int .i64 0] 28
  k4 : ∃ sl : Slc, Blk W b4 #[Slc.v sl] 26 ∧ Row W sl 32 5 (pre.flatMap tokr) ∧ sl.len = pre.length ∧ ∀ j, sl.own j → n0 ≤ j
  ext : Ext (fun _ => False) w W
  sz : n0 ≤ W.heap.size
section
variable {w W W0 W' : World} {D b2 b3 b4 b5 n0 : Nat} {rec : Loop} {pre : List TT}
theorem JT.keepF {F : Nat → Prop} (h : JT w D b2 b3 b4 b5 n0 rec pre W) (he : Ext F W W') (hF : ∀ j, F j → w.heap.size ≤ j ∧ j < n0 ∧ j ≠ D ∧ j ≠ D + 1 ∧ j ≠ b2 ∧ j ≠ b3 ∧ j ≠ b4 ∧ j ≠ b5) : JT w D b2 b3 b4 b5 n0 rec pre W' := by
  obtain ⟨sl, k1, k2, k3, k4⟩ := h.k4
  exact ⟨(he.block _ (Array.getElem?_eq_some_iff.1 h.rc).1 (fun h => (hF _ h).2.2.2.1 rfl)).trans h.rc, (he.block _ (Array.getElem?_eq_some_iff.1 h.df).1 (fun h => (hF _ h).2.2.1 rfl)).trans h.df, he.blk h.k2 (fun h => (hF _ h).2.2.2.2.1 rfl), he.blk h.k3 (fun h => (hF _ h).2.2.2.2.2.1 rfl),
    he.blk h.k5 (fun h => (hF _ h).2.2.2.2.2.2.2 rfl), ⟨sl, he.blk k1 (fun h => (hF _ h).2.2.2.2.2.2.1 rfl), k2.keep he fun j hj hh => by have := k4 j hj; have := (hF j hh).2.1; omega, k3, k4⟩,
    h.ext.trans he (fun _ h => h) fun i hi hh => by have := (hF i hh).1; omega, by have := h.sz; have := he.size; omega⟩
theorem JT.keep (h : JT w D b2 b3 b4 b5 n0 rec pre W) (he : Ext (fun _ => False) W W') : JT w D b2 b3 b4 b5 n0 rec pre W' := h.keepF he fun _ e => e.elim
attribute [local irreducible] Ld Sh.St Nw Nn LdS
/-- What a round may change. -/
def Chg (W0 : World) (D b4 n0 : Nat) (j : Nat) : Prop := j < W0.heap.size ∧ (j = D + 1 ∨ j = b4 ∨ n0 ≤ j)
theorem tok_yl {fn : FuncId} {tmps : Array Value} {x : TT} {K : Bool → World → Prop} (hj0 : JT w D b2 b3 b4 b5 n0 (rfRec fn tmps #[9] cAllE cAllF D) pre W0) (hE : Ext (fun _ => False) W0 W)
    (hsz : w.heap.size ≤ b2 ∧ b2 < b3 ∧ b3 < b4 ∧ b4 < b5 ∧ b5 < D ∧ D + 1 < n0) (hlen : pre.length < 1048576) (hf : Fits 26 [(4, .pointer (some ⟨b4, 0, none⟩))] { tmps := tmps, defers := [] })
    (hK : ∀ W', JT w D b2 b3 b4 b5 n0 (rfRec fn tmps #[9] cAllE cAllF D) (pre ++ [x]) W' → Ext (Chg W0 D b4 n0) W W' → K true W') : Yl Tryd.prog (D + 1) #[tokv x] W K := by
  obtain ⟨s1, s2, s3, s4, s5, s6⟩ := hsz
  have hj := hj0.keep hE
  refine yl_body (N := 26) (F := ⟨FF, MAY, fun _ _ => False⟩) okF (fun _ _ h => h) hj.rc rfl (E := [(9, tokv x), (4, .pointer (some ⟨b4, 0, none⟩))]) ?_ (pa := pAllE) (pb := pAllF) (by kernel_rfl) (by kernel_rfl) ?_
  · have e9 : rfTmps #[9] #[tokv x] tmps = tmps.setIfInBounds 9 (tokv x) := by simp [rfTmps]
    rw [e9]
    exact hf.put (d := some 9) (v := tokv x) (fun t ht => by cases ht; decide)
  unfold tokv
  rw [EAllE]
  unfold SAllE
  refine (Hn.start W).nw (cs := [.int .i64 0, .int .i64 0, .int .i64 0, .int .i64 0, .string ⟨#[]⟩]) fun w4 H => ?_
  simp only [List.nil_append, add_lit, Nat.zero_add] at H ⊢
  iterate 4 (refine H.st 0 rfl (by simp) fun _ H => ?_; simp only [List.set_cons_zero, List.set_cons_succ] at H)
  refine H.st 0 rfl (by simp) fun w6 H => ?_
  simp only [List.set_cons_zero, List.set_cons_succ] at H
  have e6 := H.ext
  have h6 := H.get 0 rfl
  have g6 := H.ge 0 rfl
  have hj6 := hj.keep e6
  have hz0 := hj0.sz
  have hzW := hE.size
  refine ⟨hj6.rc, ?_⟩
  rw [EAllF]
  clear H
  unfold SAllF
  have hD6 := (Array.getElem?_eq_some_iff.1 hj6.rc).1
  have eP : Ext (· = D + 1) w6 (w6.putObj (D + 1) (.loop { rfRec fn tmps #[9] cAllE cAllF D with state := .busy })) := Ext.put (Ext.refl _ _) _ (.inl rfl)
  obtain ⟨sl, q1, q2, q3, q4⟩ := hj6.k4
  have p1 := eP.blk q1 (by omega)
  have p2 := q2.keep eP fun j hj e => by have := q4 j hj; have e : j = D + 1 := e; omega
  have p6 := eP.blk h6 (by omega)
  have h0 : (w6.putObj (D + 1) (.loop { rfRec fn tmps #[9] cAllE cAllF D with state := .busy })).heap[D + 1]? = _ := World.putObj_heap_same hD6
  generalize hu : w6.putObj (D + 1) (.loop { rfRec fn tmps #[9] cAllE cAllF D with state := .busy }) = u at eP p1 p2 p6 h0 ⊢
  have hDu := (Array.getElem?_eq_some_iff.1 h0).1
  have hw6s := e6.size
  have hus := eP.size
  refine Ld.of p1 rfl (Br.eq (fun h => by rw [q3] at h; omega) fun _ => Ld.of p1 rfl ?_)
  simp only [add_lit, Nat.zero_add]
  iterate 5 refine Ld.of p6 rfl ?_
  refine (Hn.start u).nw (cs := tokr x) fun u2 H2 => ?_
  have e2 := H2.ext
  obtain ⟨s', u3, r1, r2, r3, e3, r5⟩ := elTok.app1 (ty := 26) (p2.keep e2 fun _ _ e => e) (H2.get 0 rfl) rfl (tokr_one x) (by omega) (by omega)
  refine ⟨s', u3, r1, ?_⟩
  have hb4 : b4 < u.heap.size := by omega
  have hown' : ∀ j, s'.own j → n0 ≤ j := fun j hj => (r5 j hj).elim (q4 j) fun h => by have := e2.size; omega
  have p13 := e3.blk (e2.blk p1 id) fun hj => by have := q4 _ hj; omega
  have hlu : b4 < u3.heap.size := p13.lt
  have hst : Sh.St u3 ⟨b4, 0, none⟩ (Slc.v s') fun u4 => u4.heap[D + 1]? = some (.loop { rfRec fn tmps #[9] cAllE cAllF D with state := .busy }) ∧ K true (u4.putObj (D + 1) (.loop (rfRec fn tmps #[9] cAllE cAllF D))) := by
    unfold Sh.St
    have e4 : Ext (· = b4) u3 (u3.setCell ⟨b4, 0, none⟩ (Slc.v s')) := (Ext.refl (· = b4) u3).set (.inl rfl) _
    have k4' : Blk (u3.setCell ⟨b4, 0, none⟩ (Slc.v s')) b4 #[Slc.v s'] 26 := p13.set 0 _
    refine ⟨p13.can (by simp), ?_⟩
    generalize u3.setCell ⟨b4, 0, none⟩ (Slc.v s') = u4 at e4 k4' ⊢
    have rc4 : u4.heap[D + 1]? = some (.loop { rfRec fn tmps #[9] cAllE cAllF D with state := .busy }) := by
      have a1 := e2.size
      have a2 := e3.size
      rw [e4.block (D + 1) (by omega) (by show ¬ D + 1 = b4; omega), e3.block (D + 1) (by omega) (fun hj => by have := q4 _ hj; omega), e2.block (D + 1) hDu (fun h => h)]
      exact h0
    have hD4 := (Array.getElem?_eq_some_iff.1 rc4).1
    -- from w6 to u4
    have E4 : Ext (fun j => j = D + 1 ∨ j = b4 ∨ sl.own j) w6 u4 :=
      Ext.trans (F := fun j => j = D + 1 ∨ sl.own j) (Ext.trans (F := fun j => j = D + 1) (Ext.trans (F := fun j => j = D + 1) eP e2 (fun _ h => h) fun _ _ h => h.elim) e3 (fun _ h => .inl h) fun _ _ h => .inr h) e4 (fun _ h => h.elim .inl fun h => .inr (.inr h)) fun _ _ h => .inr (.inl h)
    refine ⟨rc4, hK _ ?_ ?_⟩
    · have nb : ∀ {b : Nat}, b < n0 → b ≠ D + 1 → b ≠ b4 → ¬ (b = D + 1 ∨ b = b4 ∨ sl.own b) := fun h1 h2 h3 h => by
        rcases h with h | h | h
        · exact h2 h
        · exact h3 h
        · have := q4 _ h; omega
      have EP : Ext (· = D + 1) u4 (u4.putObj (D + 1) (.loop (rfRec fn tmps #[9] cAllE cAllF D))) := Ext.put (Ext.refl _ _) _ (.inl rfl)
      refine ⟨World.putObj_heap_same hD4, (World.putObj_heap_other (by omega)).trans ((E4.block D (by omega) (nb (by omega) (by omega) (by omega))).trans hj6.df), blk_put (E4.blk hj6.k2 (nb (by omega) (by omega) (by omega))) _ (by omega), blk_put (E4.blk hj6.k3 (nb (by omega) (by omega) (by omega))) _ (by omega),
        blk_put (E4.blk hj6.k5 (nb (by omega) (by omega) (by omega))) _ (by omega), ⟨s', blk_put k4' _ (by omega), ?_, by rw [r3, q3, List.length_append]; rfl, hown'⟩, ?_, ?_⟩
      · rw [List.flatMap_append]
        have : Row u3 s' 32 5 (pre.flatMap tokr ++ [x].flatMap tokr) := by simpa using r2
        exact (this.keep e4 fun j hj e => by have := hown' j hj; have e : j = b4 := e; omega).keep EP fun j hj e => by have := hown' j hj; have e : j = D + 1 := e; omega
      · have := hj6.ext.size
        exact Ext.put (Ext.new' hj6.ext E4 fun j hj => by
          rcases hj with h | h | h
          · omega
          · omega
          · have := q4 _ h; omega) _ (.inr (by omega))
      · have := E4.size
        simp only [World.putObj_size]
        omega
    · refine Ext.put (Ext.trans (F := fun _ => False) e6 E4 (fun _ h => h.elim) fun j hj h => ?_) _ (.inl ⟨by omega, .inl rfl⟩)
      rcases h with h | h | h
      · exact ⟨by omega, .inl h⟩
      · exact ⟨by omega, .inr (.inl h)⟩
      · have hlt : j < W0.heap.size := by
          obtain ⟨sl0, z1, z2, z3, z4⟩ := hj0.k4
          have z1' := (hE.tr e6).blk z1 (fun h => h)
          have hss : sl0 = sl := by
            unfold Blk at z1' q1
            rw [z1'] at q1
            simpa using q1
          rw [← hss] at h
          exact z2.own_lt h
        exact ⟨hlt, .inr (.inr (q4 _ h))⟩
  exact hst
/-- The iterator. -/
theorem it_toks {l b1 c4 c5 : Nat} {s : ByteArray} {Lall : List TT} {J : List TT → World → Prop} {n0 : Nat} {B : World → Nat → Prop} (hT : Toks s 0 Lall)
    (h3 : Blk W b1 #[.string s] 9) (h4 : Blk W c4 #[.int .i64 0] 3) (hn : b1 ≠ c4)
    (hB : ∀ W j, B W j → j < W.heap.size ∧ j ≠ b1 ∧ j ≠ c4)
    (hJ : ∀ (pre : List TT) (W W' : World), J pre W → Ext (· = c4) W W' → J pre W')
    (hY : ∀ (pre : List TT) (x : TT) (W0 W : World) (K : Bool → World → Prop), J pre W0 → pre.length < Lall.length → Ext (fun _ => False) W0 W → (∀ W', J (pre ++ [x]) W' → Ext (B W0) W W' → K true W') → Yl Tryd.prog l #[tokv x] W K)
    (hj : J [] W) : S34_Y l ⟨b1, 0, none⟩ ⟨c4, 0, none⟩ ⟨c5, 0, none⟩ W fun W' => J Lall W' := by
  refine ⟨fun n st v => ∃ (pre L' : List TT) (a : Nat), Lall = pre ++ L' ∧ n = L'.length ∧ Toks s a L' ∧ J pre v ∧ Blk v b1 #[.string s] 9 ∧ Blk v c4 #[.int .i64 (a : Int)] 3, Lall.length, ⟨[], Lall, 0, rfl, rfl, hT, hj, h3, h4⟩, ?_⟩
  rintro n st v ⟨pre, L', a, hL, rfl, hT, hj, h3, h4⟩
  unfold S34_YL1
  refine Ld.of h3 rfl (Ld.of h4 rfl ?_)
  have weak : ∀ {a b : World}, Ext (fun _ => False) a b → Ext (· = c4) a b := fun e => e.mono fun _ _ e => e.elim
  cases hT with
  | nil ha h =>
    refine (h v).mono ?_
    rintro r e v2 ⟨hr, rfl, e2⟩
    refine (Hn.start v2).nw (cs := [.int .i64 0, .int .i64 0, .int .i64 0, .int .i64 0, .string ⟨#[]⟩]) fun v3 H => ?_
    simp only [List.nil_append, add_lit, Nat.zero_add] at H ⊢
    iterate 5 (refine H.st 0 rfl (by simp) fun _ H => ?_; simp only [List.set_cons_zero, List.set_cons_succ] at H)
    refine Br.f rfl (H.ld 0 rfl rfl (Br.eq (fun _ => ?_) fun h => absurd hr h))
    rw [List.append_nil] at hL
    rw [hL]
    exact hJ _ _ _ hj (weak (e2.tr H.ext))
  | @cons _ b t L2 ha h hk hto k =>
    refine (h v).mono ?_
    rintro r e v2 ⟨rfl, rfl, e2⟩
    refine (Hn.start v2).nw (cs := [.int .i64 0, .int .i64 0, .int .i64 0, .int .i64 0, .string ⟨#[]⟩]) fun v3 H => ?_
    simp only [List.nil_append, add_lit, Nat.zero_add] at H ⊢
    iterate 5 (refine H.st 0 rfl (by simp) fun _ H => ?_; simp only [List.set_cons_zero, List.set_cons_succ] at H)
    refine Br.f rfl (H.ld 0 rfl rfl (Br.eq (fun h => absurd h hk) fun _ => ?_))
    iterate 5 refine H.ld 0 rfl rfl ?_
    have hj2 := hJ _ _ _ hj (weak e2)
    refine hY pre r v2 _ _ hj2 (by rw [hL, List.length_append, List.length_cons]; omega) H.ext fun W2 hjW eW => ?_
    have hb := H.get 0 rfl
    have hbW := eW.blk hb fun hB' => by have := (hB _ _ hB').1; omega
    refine Br.f rfl (Ld.of hbW rfl ?_)
    have g3 := eW.blk ((e2.tr H.ext).blk h3 id) fun hB' => (hB _ _ hB').2.1 rfl
    have g4 := eW.blk ((e2.tr H.ext).blk h4 id) fun hB' => (hB _ _ hB').2.2 rfl
    unfold Sh.St
    have e4 : Ext (· = c4) W2 (W2.setCell ⟨c4, 0, none⟩ (.int .i64 r.2.2.1)) := (Ext.refl (· = c4) W2).set (.inl rfl) _
    refine ⟨g4.can (by simp), L2.length, by simp, pre ++ [r], L2, b, by rw [hL]; simp, rfl, k, hJ _ _ _ hjW e4, e4.blk g3 hn, ?_⟩
    have := g4.set 0 (.int .i64 r.2.2.1)
    rw [hto] at this
    rw [hto]
    exact this
end
end Tk
end Go.Proofs.YtpkadliieplblaaDoor

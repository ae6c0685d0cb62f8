/- The pen walked: points, curves, rectangles. Conditions: sizes. -/
import Derived.Test.YtjbeembbnkmpeaaDoorPaB
namespace Go.Proofs.YtjbeembbnkmpeaaDoor
namespace Pat
open Sh Mat Fix Opr
set_option linter.unusedVariables false
set_option linter.unusedSimpArgs false
set_option maxRecDepth 4000
set_option maxHeartbeats 4000000
theorem pn_set6 (m : Mx) (ns : Slc) (h : Int × Int) (ps : Slc) (v : Slc) : (pnrow m ns h ps).set 6 (Slc.v v) = pnrow m v h ps := rfl
theorem pn_set9 (m : Mx) (ns : Slc) (h : Int × Int) (ps : Slc) (v : Slc) : (pnrow m ns h ps).set 9 (Slc.v v) = pnrow m ns h v := rfl
theorem ldS_mk {α : Type} {S : World → Prop} {V : α → Value} {K : α → Prop} {x : α} {a : Addr} (h : ∀ w, S w → w.cell? a = some (V x)) (k : K x) : LdS S a V K := ⟨x, h, k⟩
section
variable {w0 w w' w1 : World} {g : Nat} {m : Mx} {ns ps : Slc} {l : List Int} {h : Int × Int} {T : List Sg}
theorem stB {b : Nat} {cs : List Value} {t : TypeId} {i : Nat} {v : Value} {R : World → Prop} (h : Blk w b cs.toArray t) (ho : i < cs.length) (k : ∀ w2, Blk w2 b (cs.set i v).toArray t → Ext (· = b) w w2 → R w2) : Sh.St w ⟨b, i, none⟩ v R := by
  unfold Sh.St
  refine ⟨h.can (by simpa using ho), k _ ?_ ((Ext.refl (· = b) w).set (.inl rfl) v)⟩
  have := h.set i v
  rwa [List.setIfInBounds_toArray] at this
theorem ldS_iv {s : Slc} {S : World → Prop} {w0 : World} {R : Int → Prop} {i : Nat} {ii : Int} (h0 : IV w0 s l) (hS : ∀ w', S w' → IV w' s l) (hi : i < l.length) (e : ii = (i : Int)) (k : R (l.getD i 0)) : 0 ≤ ii ∧ ii < (s.len : Nat) ∧ Nn s.p fun a => LdS S (a.add (ii.toNat * 1)) (Value.int .i64) R := by
  subst e
  obtain ⟨ad, ha, _⟩ := h0.get hi
  have hl := h0.1
  rw [ha, Int.toNat_natCast]
  refine ⟨by omega, by omega, Nn.of (ldS_mk (fun w' hw => ?_) k)⟩
  obtain ⟨ad', ha', hc⟩ := (hS w' hw).get hi
  rw [ha] at ha'
  cases ha'
  exact hc
theorem ld_iv {s : Slc} {R : Int → Prop} {i : Nat} {ii : Int} (h0 : IV w s l) (hi : i < l.length) (e : ii = (i : Int)) (k : R (l.getD i 0)) : 0 ≤ ii ∧ ii < (s.len : Nat) ∧ Nn s.p fun a => Ld w (a.add (ii.toNat * 1)) (Value.int .i64) R := by
  subst e
  obtain ⟨ad, ha, hc⟩ := h0.get hi
  have hl := h0.1
  rw [ha, Int.toNat_natCast]
  exact ⟨by omega, by omega, Nn.of (Ld.mk hc k)⟩
theorem Pn.st6 (H : Pn w0 w g m ns l h ps T) (hl : 2 ≤ l.length) {K : World → Prop} (k : ∀ w', Pn w0 w' g m (ns.cut 1 2 ns.len ns.cap) (l.drop 2) h ps T → Ext (· = g) w w' → K w') : Sh.St w ⟨g, 6, none⟩ (Slc.v (ns.cut 1 2 ns.len ns.cap)) K := by
  refine stB H.blk (by simp [pnrow, mrow]) fun w' hb he => k w' ⟨?_, ?_, (H.num.drop H.cap hl).2, H.par.keep he fun j hj e => ?_, H.ng, fun j hj => ?_, H.pown, H.ext.tr he⟩ he
  · rw [pn_set6] at hb
    exact hb
  · exact (H.num.keepF he fun j hj e => (H.nown j hj).2 e).drop H.cap hl |>.1
  · have e : j = g := e
    have := H.pown j hj
    have := H.ng
    omega
  · obtain ⟨a, ha, rfl⟩ := hj
    change (if ns.cap = 2 then ns.p else ns.p.map (·.add (2 * 1))) = _ at ha
    split at ha
    · exact H.nown _ ⟨a, ha, rfl⟩
    · cases hp : ns.p with
      | none => rw [hp] at ha; cases ha
      | some a' =>
        rw [hp] at ha
        cases ha
        exact H.nown _ ⟨a', hp, by rw [add_block]⟩
theorem Pn.other {wa : World} {ns' : Slc} {l' : List Int} {T' : List Sg} {h' : Int × Int} {F : Nat → Prop} (H : Pn w0 wa g m ns l h ps T) (H5 : Pn w0 w g m ns' l' h' ps T') (he : Ext F w w') (hF : ∀ j, F j → wa.heap.size ≤ j) : Pn w0 w' g m ns' l' h' ps T' := by
  have hg := H.blk.lt
  have hs := H.ext.size
  have h5 := H5.ng
  refine ⟨he.blk H5.blk fun e => by have := hF _ e; omega, H5.num.keepF he fun j hj e => by have := hF _ e; have := (H5.nown j hj).1; omega, H5.cap, H5.par.keep he fun j hj e => by have := hF _ e; have := H.par.own_lt hj; omega, H5.ng, H5.nown, H5.pown, H5.ext.trans he (fun _ e => e) fun j hj e => by have := hF _ e; omega⟩
attribute [local irreducible] Ld Sh.St Nw Nn LdS
theorem c_point (H : Pn w0 w g m ns l h ps T) (x y : Int) : C192 (some ⟨g, 0, none⟩) x y w (fun r w1 => pt m x y = some r ∧ Ext (fun _ => False) w w1) fun v w1 => v = gu 2 ∧ pt m x y = none ∧ Ext (fun _ => False) w w1 := by
  refine T192 _ _ _ _ _ _ ?_
  unfold S192
  refine (Hn.start w).nw fun w2 H2 => ?_
  simp only [List.nil_append, add_lit, Nat.zero_add] at H2 ⊢
  have hb := (H.keep H2.ext).blk
  refine Nn.of ?_
  iterate 6 refine Ld.of hb rfl ?_
  refine (c_apply m (x, y) _).mono ?_
  rintro r e w3 ⟨hr, e3⟩
  have H2 := H2.keep e3
  refine (c_mustP r e _).mono ?_ ?_
  · rintro r w4 ⟨rfl, rfl, e4⟩
    have H2 := H2.keep e4
    iterate 2 (refine H2.st 0 rfl (by simp) fun _ H2 => ?_; simp only [List.set_cons_zero, List.set_cons_succ] at H2)
    iterate 2 refine H2.ld 0 rfl rfl ?_
    refine ⟨?_, H2.ext⟩
    show applyP m (x, y) = _
    cases hm : applyP m (x, y) with
    | none => rw [hm] at hr; cases hr
    | some p => rw [hm] at hr; cases hr; rfl
  · rintro v w4 ⟨hne, rfl, e4⟩
    have H2 := H2.keep e4
    have : applyP m (x, y) = none ∧ e = 2 := by
      cases hm : applyP m (x, y) with
      | none => rw [hm] at hr; cases hr; exact ⟨rfl, rfl⟩
      | some p => rw [hm] at hr; cases hr; exact absurd rfl hne
    exact ⟨by rw [this.2], this.1, H2.ext⟩
theorem c_next (H : Pn w0 w g m ns l h ps T) (hl : 2 ≤ l.length) : C145 (some ⟨g, 0, none⟩) w (fun r w1 => pt m (l.getD 0 0) (l.getD 1 0) = some r ∧ Pn w0 w1 g m (ns.cut 1 2 ns.len ns.cap) (l.drop 2) h ps T ∧ Ext (· = g) w w1) fun v w1 => v = gu 2 ∧ pt m (l.getD 0 0) (l.getD 1 0) = none ∧ Ext (· = g) w w1 := by
  refine T145 _ _ _ _ ?_
  unfold S145
  have hgw := H.blk.lt
  refine (Hn.start w).nw fun w2 H2 => ?_
  simp only [List.nil_append, add_lit, Nat.zero_add] at H2 ⊢
  have H2 := H2.drew
  have P2 := H.keep H2.ext
  have hlen := H.num.1
  refine ⟨fun w' => Blk w' g (pnrow m ns h ps).toArray 141 ∧ IV w' ns l, ⟨P2.blk, P2.num⟩, Nn.of ?_⟩
  refine LdS.of (fun w' h' => h'.1) rfl ?_
  refine ldS_iv (i := 0) P2.num (fun w' h' => h'.2) (by omega) rfl (Nn.of ?_)
  refine LdS.of (fun w' h' => h'.1) rfl ?_
  refine ldS_iv (i := 1) P2.num (fun w' h' => h'.2) (by omega) rfl ?_
  have weak : ∀ {a b : World}, Ext (fun _ => False) a b → Ext (· = g) a b := fun e => e.mono fun _ _ e => e.elim
  refine ⟨?_, ?_⟩
  · refine (c_point P2 _ _).mono ?_ ?_
    · rintro r w3 ⟨hr, e3⟩
      have H3 := H2.keep e3
      refine H3.nw fun w4 H4 => ?_
      simp only [List.cons_append, List.nil_append] at H4
      iterate 2 (refine H4.st 1 rfl (by simp) fun _ H4 => ?_; simp only [List.set_cons_zero, List.set_cons_succ] at H4)
      refine Nn.of ?_
      have P4 := H.keep H4.ext
      refine Ld.of P4.blk rfl ⟨by omega, by omega, Nn.of ?_⟩
      refine P4.st6 hl fun w5 P5 e5 => ?_
      have b0 := e5.blk (H4.get 0 rfl) (by have := H4.ge 0 rfl; omega)
      have b1 := e5.blk (H4.get 1 rfl) (by have := H4.ge 1 rfl; omega)
      refine Ld.of b1 rfl (Ld.of b1 rfl ?_)
      refine stB b0 (by simp) fun w6 b6 e6 => ?_
      refine stB b6 (by simp) fun w7 b7 e7 => ?_
      refine Ld.of b7 rfl (Ld.of b7 rfl ?_)
      have e67 := e6.tr e7
      exact ⟨hr, H.other P5 e67 fun j hj => by omega, ((weak H4.ext).tr e5).trans e67 (fun _ e => e) fun j hj e => by omega⟩
    · rintro v w3 ⟨rfl, hr, e3⟩
      exact ⟨rfl, hr, weak (H2.ext.tr e3)⟩
  · refine H2.nw fun w3 H3 => ?_
    simp only [List.cons_append, List.nil_append] at H3
    have P3 := H.keep H3.ext
    refine ⟨⟨P3.blk, P3.num⟩, (c_point P3 _ _).mono ?_ ?_⟩
    · rintro r w4 ⟨hr, e3⟩
      have H4 := H3.keep e3
      iterate 2 (refine H4.st 1 rfl (by simp) fun _ H4 => ?_; simp only [List.set_cons_zero, List.set_cons_succ] at H4)
      refine Nn.of ?_
      have P4 := H.keep H4.ext
      refine Ld.of P4.blk rfl ⟨by omega, by omega, Nn.of ?_⟩
      refine P4.st6 hl fun w5 P5 e5 => ?_
      have b0 := e5.blk (H4.get 0 rfl) (by have := H4.ge 0 rfl; omega)
      have b1 := e5.blk (H4.get 1 rfl) (by have := H4.ge 1 rfl; omega)
      refine Ld.of b1 rfl (Ld.of b1 rfl ?_)
      refine stB b0 (by simp) fun w6 b6 e6 => ?_
      refine stB b6 (by simp) fun w7 b7 e7 => ?_
      refine Ld.of b7 rfl (Ld.of b7 rfl ?_)
      have e67 := e6.tr e7
      exact ⟨hr, H.other P5 e67 fun j hj => by omega, ((weak H4.ext).tr e5).trans e67 (fun _ e => e) fun j hj e => by omega⟩
    · rintro v w3 ⟨rfl, hr, e3⟩
      exact ⟨rfl, hr, weak (H3.ext.tr e3)⟩
theorem c_put (H : Pn w0 w g m ns l h ps T) (hT : T.length ≤ 1000) (s : Sg) : C144 (some ⟨g, 0, none⟩) s w fun w1 => ∃ ps', Pn w0 w1 g m ns l h ps' (T ++ [s]) := by
  refine T144 _ s _ _ ?_
  unfold S144
  refine (Hn.start w).nw fun w2 H2 => ?_
  simp only [List.nil_append, add_lit, Nat.zero_add] at H2 ⊢
  have H2 := H2.drew
  have P2 := H.keep H2.ext
  refine ⟨fun w' => Blk w' g (pnrow m ns h ps).toArray 141 ∧ Blk w' w.heap.size (sgrow s).toArray 67, ⟨P2.blk, H2.get 0 rfl⟩, Nn.of ?_⟩
  refine LdS.of (fun w' h' => h'.1) rfl ?_
  iterate 7 refine LdS.of (fun w' h' => h'.2) rfl ?_
  refine H2.nw (cs := sgrow s) fun w3 H3 => ?_
  have P3 := H.keep H3.ext
  have hb := H3.get 1 rfl
  refine ⟨⟨P3.blk, H3.get 0 rfl⟩, ?_⟩
  have hpl := P3.plen
  obtain ⟨s', w4, r1, r2, r3, e4, r5⟩ := elSg.app1 (ty := 64) P3.par hb rfl (sg_one s) (by omega) (by omega)
  refine ⟨s', w4, r1, Nn.of ?_⟩
  have hg := P3.ng
  have hgs := H.ext.size
  have hs3 := H3.size
  have nog : ∀ j, ps.own j → ¬ (j = g) := fun j hj e => by have := P3.pown j hj; omega
  refine stB (e4.blk P3.blk fun hj => nog _ hj rfl) (by simp [pnrow, mrow]) fun w5 b5 e5 => ?_
  rw [pn_set9] at b5
  have own' : ∀ j, s'.own j → w0.heap.size ≤ j := fun j hj => by
    rcases r5 j hj with hh | hh
    · exact P3.pown j hh
    · have := P3.ext.size; omega
  refine ⟨s', b5, ?_, P3.cap, ?_, P3.ng, P3.nown, own', ?_⟩
  · refine (P3.num.keepF e4 fun j hj e => ?_).keepF e5 fun j hj e => (P3.nown j hj).2 e
    have := (P3.nown j hj).1
    have := P3.pown j e
    omega
  · rw [sgs_app, sgs_sing]
    exact r2.keep e5 fun j hj e => by have e : j = g := e; have := own' j hj; omega
  · exact (P3.ext.trans e4 (fun _ e => e) fun j hj e => by have := P3.pown j e; omega).tr e5
theorem c_curve (H : Pn w0 w g m ns l h ps T) (hT : T.length ≤ 1000) (a b c : Int × Int) : C146 (some ⟨g, 0, none⟩) a b c w fun w1 => ∃ ps', Pn w0 w1 g m ns l h ps' (T ++ [cvS a b c]) := by
  refine T146 _ a b c _ _ ?_
  unfold S146
  refine (Hn.start w).nw fun w2 H2 => ?_
  refine H2.nw fun w3 H2 => ?_
  refine H2.nw fun w4 H2 => ?_
  simp only [List.cons_append, List.nil_append, add_lit, Nat.zero_add] at H2 ⊢
  iterate 2 refine H2.ld 0 rfl rfl ?_
  iterate 2 refine H2.ld 1 rfl rfl ?_
  iterate 2 refine H2.ld 2 rfl rfl ?_
  exact c_put (H.keep H2.ext) hT (cvS a b c)
end
end Pat
end Go.Proofs.YtjbeembbnkmpeaaDoor

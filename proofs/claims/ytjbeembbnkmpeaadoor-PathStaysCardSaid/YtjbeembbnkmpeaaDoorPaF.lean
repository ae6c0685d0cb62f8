/- Paths in memory; (*Path).Do. Conditions: sizes; the table of spaces is laid. -/
import Derived.Test.YtjbeembbnkmpeaaDoorPaE
namespace Go.Proofs.YtjbeembbnkmpeaaDoor
namespace Pat
open Sh Mat Fix Opr
set_option linter.unusedVariables false
set_option linter.unusedSimpArgs false
set_option maxRecDepth 8000
set_option maxHeartbeats 8000000
theorem BrNB {a b : ByteArray} {A B : Prop} (h1 : ¬ bl a = bl b → A) (h2 : bl a = bl b → B) : Br (!(a.toList == b.toList)) A B := by
  rw [eqB]
  by_cases h : bl a = bl b
  · rw [decide_eq_true h]
    exact h2 h
  · rw [decide_eq_false h]
    exact h1 h
def parow (sg : Slc) (bg : Int × Int) (cl : Bool) : List Value := [Slc.v sg, .int .i64 bg.1, .int .i64 bg.2, .bool cl]
/-- A path, in its block. -/
structure PV (w : World) (b : Nat) (p : Pa) (sg : Slc) : Prop where
  blk : Blk w b (parow sg p.bg p.cl).toArray 134
  seg : Row w sg 67 7 (sgs p.L)
  own : ∀ j, sg.own j → j ≠ b
  few : p.L.length ≤ 8192
section
variable {w0 w w' w1 w7 : World} {s sg : Slc} {L : List Ob} {a d : ByteArray} {b : Nat} {p : Pa} {m : Mx}
theorem PV.keepF {F : Nat → Prop} (h : PV w b p sg) (he : Ext F w w') (hb : ¬ F b) (ho : ∀ j, sg.own j → ¬ F j) : PV w' b p sg :=
  ⟨he.blk h.blk hb, h.seg.keep he ho, h.own, h.few⟩
theorem PV.keep (h : PV w b p sg) (he : Ext (fun _ => False) w w') : PV w' b p sg := h.keepF he id fun _ _ e => e
theorem PV.len (h : PV w b p sg) : sg.len = p.L.length := by
  have := h.seg.1
  rw [sgs_len] at this
  omega
theorem PV.sv (h : PV w b p sg) : SV w sg p.L := SV.row h.seg
attribute [local irreducible] Ld Sh.St Nw Nn LdS
theorem c_current (h : PV w b p sg) (hne : p.L ≠ []) : C81 (some ⟨b, 0, none⟩) w fun r w1 => r = curS p.L p.bg ∧ Ext (fun _ => False) w w1 := by
  refine T81 _ _ _ ?_
  unfold S81
  refine (Hn.start w).nw fun w2 H => ?_
  simp only [List.nil_append, add_lit, Nat.zero_add] at H ⊢
  have H := H.drew
  have P2 := h.keep H.ext
  have hl0 : 0 < p.L.length := List.length_pos_iff.2 hne
  have hfew := h.few
  refine ⟨fun w' => PV w' b p sg, P2, Nn.of ?_⟩
  refine LdS.of (fun w' (h' : PV w' b p sg) => h'.blk) rfl (Nn.of ?_)
  refine LdS.of (fun w' (h' : PV w' b p sg) => h'.blk) rfl ?_
  have hi : IntKind.i64.wrap (((sg.len : Nat) : Int) - 1) = ((p.L.length - 1 : Nat) : Int) := by rw [h.len, i64_id (by omega)]; omega
  rw [hi, Int.toNat_natCast]
  have hlast : p.L[p.L.length - 1]? = some p.L[p.L.length - 1] := List.getElem?_eq_getElem (by omega)
  have hget : p.L.getLast? = some p.L[p.L.length - 1] := by rw [List.getLast?_eq_getElem?, hlast]
  generalize p.L[p.L.length - 1] = o at hlast hget
  obtain ⟨ad, ha, hc⟩ := P2.sv.get hlast
  have hlen := h.len
  rw [ha]
  refine ⟨by omega, by omega, Nn.of ?_⟩
  have cell : ∀ (j : Nat) (v : Value), (sgrow o)[j]? = some v → ∀ w', PV w' b p sg → w'.cell? ((ad.add ((p.L.length - 1) * 7)).add j) = some v := fun j v hj w' h' => by
    obtain ⟨ad', ha', hc'⟩ := h'.sv.get hlast
    rw [ha] at ha'
    cases ha'
    exact hc' j v hj
  have cell0 : ∀ w', PV w' b p sg → w'.cell? (ad.add ((p.L.length - 1) * 7)) = some (.int .i64 o.1) := fun w' h' => by
    have := cell 0 _ rfl w' h'
    rw [add_add', Nat.add_zero] at this
    exact this
  refine ldS_mk cell0 (ldS_mk (cell 1 _ rfl) (ldS_mk (cell 2 _ rfl) (ldS_mk (cell 3 _ rfl) (ldS_mk (cell 4 _ rfl) (ldS_mk (cell 5 _ rfl) (ldS_mk (cell 6 _ rfl) ?_))))))
  refine H.nw fun w3 H3 => ?_
  refine ⟨h.keep H3.ext, ?_⟩
  simp only [List.cons_append, List.nil_append] at H3
  iterate 7 (refine H3.st 1 rfl (by simp) fun _ H3 => ?_; simp only [List.set_cons_zero, List.set_cons_succ] at H3)
  refine H3.ld 1 rfl rfl ?_
  refine Br.ne (fun q => ?_) fun q => ?_
  · iterate 2 refine H3.ld 1 rfl rfl ?_
    iterate 2 (refine H3.st 0 rfl (by simp) fun _ H3 => ?_; simp only [List.set_cons_zero, List.set_cons_succ] at H3)
    iterate 2 refine H3.ld 0 rfl rfl ?_
    refine ⟨?_, H3.ext⟩
    unfold curS
    rw [hget]
    exact (if_neg q).symm
  · have P3 := h.keep H3.ext
    refine Nn.of ?_
    simp only [add_lit, Nat.zero_add]
    refine Ld.of P3.blk rfl (Ld.of P3.blk rfl ?_)
    iterate 2 (refine H3.st 0 rfl (by simp) fun _ H3 => ?_; simp only [List.set_cons_zero, List.set_cons_succ] at H3)
    iterate 2 refine H3.ld 0 rfl rfl ?_
    refine ⟨?_, H3.ext⟩
    unfold curS
    rw [hget]
    exact (if_pos q).symm
/-- The result is stored, and read again. -/
theorem c_fin {R : Int → World → Prop} {eb : Nat} {t : TypeId} {v0 : Value} {r : Int} (hb : Blk w7 eb ([v0] : List Value).toArray t) (k : ∀ w8, Ext (· = eb) w7 w8 → R r w8) : Sh.St w7 ⟨eb, 0, none⟩ (.int .i64 r) fun w8 => CD76 ⟨eb, 0, none⟩ none w8 fun w9 => Ld w9 ⟨eb, 0, none⟩ (Value.int .i64) fun (y : Int) => R y w9 := by
  refine stB hb (Nat.lt_succ_self 0) fun w8 g8 e8 => T76_nil _ _ _ ?_
  unfold S76_nil
  refine Ld.mk (x := r) ?_ (k w8 e8)
  rw [g8.cell]
  rfl
theorem c_pan {R : Int → World → Prop} {t : TypeId} {v0 : Value} {r : Int} (w3 : World) (hb : Blk w7 w3.heap.size ([v0] : List Value).toArray t) (k : ∀ w8, Ext (· = w3.heap.size) w7 w8 → R r w8) : S23P w3 R (gu r) w7 := by
  unfold S23P
  refine T76_T136 _ _ _ _ ?_
  unfold S76_T136
  have hlt := hb.lt
  refine (Hn.start w7).nw fun w8 H => ?_
  simp only [List.nil_append] at H
  refine H.st 0 rfl (by simp) fun w9 H => ?_
  simp only [List.set_cons_zero, List.set_cons_succ] at H
  refine H.ld 0 rfl rfl ?_
  refine stB (H.ext.blk hb id) (Nat.lt_succ_self 0) fun w10 g10 e10 => ?_
  refine Ld.mk (x := r) ?_ (k w10 ((H.ext.mono fun _ _ e => e.elim).tr e10))
  rw [g10.cell]
  rfl
/-- What Do gives. -/
def DoR (w w1 : World) (b : Nat) (sg : Slc) (r : Int) (q : Int × Pa) : Prop := ∃ sg', q.1 = r ∧ PV w1 b q.2 sg' ∧ Ext (fun j => j = b ∨ sg.own j) w w1 ∧ ∀ j, sg'.own j → sg.own j ∨ w.heap.size ≤ j
theorem nine_clip : ∀ l ∈ nine, (((l.getD 0 0).toNat : Int) == 87) = clipN l ∧ 0 < l.length := by decide
theorem c_do (hs : AS w) (hp : PV w b p sg) (h : OV w s L) (hl : L.length ≤ 9223372036854775807) : C23 (some ⟨b, 0, none⟩) (a, s, d) m w fun r w1 => DoR w w1 b sg r (doP p (bl a) (bl d) L m) := by
  refine T23 _ (a, s, d) m _ _ ?_
  unfold S23
  have hbl := hp.blk.lt
  have hlen := hp.len
  have hfew := hp.few
  refine (Hn.start w).nw fun w2 H => ?_
  refine H.nw fun w3 H => ?_
  have s3 : w.heap.size < w3.heap.size := H.lt 0 rfl
  refine H.nw fun w4 H => ?_
  simp only [List.cons_append, List.nil_append, add_lit, Nat.zero_add] at H ⊢
  let base : List (Nat × List Value × TypeId) := [(w.heap.size, [.string a, Slc.v s, .string d], 63), (w2.heap.size, mrow m, 23), (w3.heap.size, [.int .i64 0], 38)]
  have H : Hn w w4 base := H
  have l0 := H.lt 0 rfl
  have l1 := H.lt 1 rfl
  have l2 := H.lt 2 rfl
  have same : ∀ {w7 w8 : World} {r : Int}, Ext (fun _ => False) w w7 → Ext (· = w3.heap.size) w7 w8 → doP p (bl a) (bl d) L m = (r, p) → DoR w w8 b sg r (doP p (bl a) (bl d) L m) := fun {w7 w8 r} e7 e8 hd => by
    rw [hd]
    refine ⟨sg, rfl, (hp.keep e7).keepF e8 (by omega) fun j hj e => ?_, (e7.trans e8 (fun _ e => e.elim) fun j hj e => ?_), fun j hj => .inl hj⟩
    · have := hp.seg.own_lt hj
      omega
    · omega
  refine (c_need _ 1 _).mono ?_ ?_
  rotate_left
  · rintro v w5 ⟨rfl, hh, rfl⟩
    cases hh
  rintro w5 ⟨_, rfl⟩
  refine H.ld 0 rfl rfl ?_
  refine (c_knows a _).mono ?_
  rintro r w6 ⟨rfl, e6⟩
  have H := H.keep e6
  refine (c_need _ 8 _).mono ?_ ?_
  rotate_left
  · rintro v w7 ⟨rfl, hh, rfl⟩
    have hh := of_decide_eq_false hh
    exact c_pan w3 (H.get 2 rfl) fun w8 e8 => same H.ext e8 (by unfold doP; rw [if_pos hh])
  rintro w7 ⟨hk, rfl⟩
  have hk := of_decide_eq_true hk
  have H := H.drew
  refine ⟨fun w' => Hn w w' base, H, ?_⟩
  iterate 6 refine LdS.of (fun w' (h' : Hn w w' base) => h'.get 0 rfl) rfl ?_
  refine (c_check (hs.keep H.ext) (h.keep H.ext) hl).mono ?_
  rintro r w8 ⟨rfl, e8⟩
  have H := H.keep e8
  refine ⟨H, (c_mustO a d s _ _).mono ?_ ?_⟩
  rotate_left
  · rintro v w9 ⟨hne, rfl, e9⟩
    have H := H.keep e9
    exact c_pan w3 (H.get 2 rfl) fun w8 e8 => same H.ext e8 (by unfold doP; rw [if_neg (fun hn => hn hk), if_pos hne])
  rintro r w9 ⟨hck, e9⟩
  have H := H.keep e9
  iterate 6 refine H.ld 1 rfl rfl ?_
  have hL6 : L.length ≤ 6 := by
    obtain ⟨_, h1, _⟩ := chk0 hck
    have := (takes_low (bl a)).1
    omega
  have hgb : b < w9.heap.size := by have := H.size; omega
  have k0 := H.lt 0 rfl
  have k1 := H.lt 1 rfl
  have k2 := H.lt 2 rfl
  have sw := H.size
  refine H.nw' (cs := pnrow m nilS (0, 0) nilS) fun w10 H10 e10 => ?_
  have g10 := H10.get 3 rfl
  have H : Hn w w10 base := H.keep e10
  have gl10 := g10.lt
  clear H10
  have nb : ∀ j, j = w9.heap.size → w.heap.size ≤ j ∧ j ∉ base.map (·.1) := fun j hj => by
    simp only [base, List.map_cons, List.map_nil, List.mem_cons, List.not_mem_nil, or_false]
    omega
  refine Join.intro ?_
  have main : ∀ (h0 : Int × Int) (w11 : World), Hn w w11 base → Blk w11 w9.heap.size (pnrow m nilS h0 nilS).toArray 141 → ¬ (bl a ≠ [109] ∧ bl a ≠ [114, 101] ∧ p.L = []) → (∀ l, drawF (bl a) m h0 l = drawF (bl a) m (curS p.L p.bg) l) →
      S23J1 w (some ⟨b, 0, none⟩) w3 w9 (fun r w1 => DoR w w1 b sg r (doP p (bl a) (bl d) L m)) () w11 := by
    intro h0 w11 H g11 hguard hdr
    have hdo : doP p (bl a) (bl d) L m = (match nmO L with
        | none => (2, p)
        | some l => match drawF (bl a) m h0 l with
          | none => (2, p)
          | some T => if p.L.length + T.length ≤ 8192 then (0, ⟨p.L ++ T, T.foldl bgF p.bg, p.cl || clipN (bl a)⟩) else (6, p)) := by
      unfold doP
      rw [if_neg (fun hn => hn hk), if_neg (fun hn => hn hck), if_neg hguard]
      cases nmO L with
      | none => rfl
      | some l =>
        dsimp only
        rw [hdr l]
        cases drawF (bl a) m (curS p.L p.bg) l <;> rfl
    have gl := g11.lt
    unfold S23J1
    simp only [add_lit, Nat.zero_add]
    iterate 3 refine H.ld 0 rfl rfl ?_
    refine (c_nums (h.keep H.ext) (by omega) (nine_kinds hk hck)).mono ?_
    rintro r49 e50 w12 ⟨e12, hnum⟩
    have H := H.keep e12
    refine (c_mustN r49 e50 _).mono ?_ ?_
    rotate_left
    · rintro v w13 ⟨hne, rfl, rfl⟩
      cases hn : nmO L with
      | none =>
        rw [hn] at hnum hdo
        obtain rfl : e50 = 2 := hnum
        exact c_pan w3 (H.get 2 rfl) fun w8 e8 => same H.ext e8 hdo
      | some l =>
        rw [hn] at hnum
        exact absurd hnum.1 hne
    rintro r w13 ⟨rfl, rfl, rfl⟩
    cases hn : nmO L with
    | none =>
      rw [hn] at hnum
      cases hnum
    | some l =>
    rw [hn] at hnum hdo
    obtain ⟨_, hio⟩ := hnum
    dsimp only at hdo
    refine Nn.of ?_
    rw [add_lit, Nat.zero_add]
    refine stB (e12.blk g11 id) (by simp [pnrow, mrow]) fun w14 g14 e14 => ?_
    rw [pn_set6] at g14
    have H14 := H.other e14 nb
    have s14 := e14.size
    have s12 := e12.size
    have P0 : Pn w14 w14 w9.heap.size m r l h0 nilS [] := by
      refine ⟨g14, hio.iv.keepF e14 fun j hj e => by have e : j = w9.heap.size := e; have := hio.2 j hj; omega, ?_, Row.nil _ _ _, by omega, fun j hj => ⟨by have := hio.1.own_lt hj; omega, by have := hio.2 j hj; omega⟩, fun j hj => (by obtain ⟨a', ha', _⟩ := hj; cases ha'), Ext.refl _ _⟩
      rcases hio.1.2 with rfl | ⟨_, _, _, _, hcap, _⟩
      · exact Nat.le_refl _
      · exact hcap
    refine H14.ld 0 rfl rfl ?_
    refine (c_draw P0 (by rw [nmO_len hn, (chk0 hck).2.1]) (by simp) hk).mono ?_ ?_
    rotate_left
    · rintro v w15 ⟨rfl, hd, e15⟩
      rw [hd] at hdo
      have H15 := H14.other e15 nb
      exact c_pan w3 (H15.get 2 rfl) fun w8 e8 => same H15.ext e8 hdo
    rintro w15 ⟨ps', T', ns', l', hd, P15⟩
    rw [hd] at hdo
    dsimp only at hdo
    simp only [List.nil_append] at P15
    have hT5 := draw_len hd
    have H15 := H14.other P15.ext nb
    have hp15 := hp.keep H15.ext
    refine Nn.of ?_
    refine Ld.of (hp15.blk.drew) rfl (Nn.of ?_)
    rw [add_lit, Nat.zero_add]
    refine Ld.of P15.blk.drew rfl ?_
    have hpl := P15.plen
    rw [i64_id (by omega)]
    have H15 := H15.drew
    refine (c_need _ 6 _).mono ?_ ?_
    rotate_left
    · rintro v w16 ⟨rfl, hh, rfl⟩
      have hh := of_decide_eq_false hh
      rw [if_neg (by omega)] at hdo
      exact c_pan w3 (H15.get 2 rfl) fun w8 e8 => same H15.ext e8 hdo
    rintro w16 ⟨hh, rfl⟩
    have hh := of_decide_eq_true hh
    rw [if_pos (by omega)] at hdo
    have H16 := H15.drew
    have P16 := (P15.keep (Ext.refl _ w15).drew).keep (Ext.refl _ w15.drew).drew
    generalize w15.drew.drew = u at H16 P16 ⊢
    have hpu := hp.keep H16.ext
    refine ⟨fun w' => Blk w' b (parow sg p.bg p.cl).toArray 134 ∧ Blk w' w9.heap.size (pnrow m ns' h0 ps').toArray 141, ⟨hpu.blk, P16.blk⟩, Nn.of ?_⟩
    refine LdS.of (fun w' h' => h'.1) rfl (Nn.of ?_)
    rw [add_lit, Nat.zero_add]
    refine LdS.of (fun w' h' => h'.2) rfl ?_
    obtain ⟨s', v2, r1, r2, r3, r4, r5⟩ := elSg.app (ty := 64) hpu.seg P16.par.view (sgs_one T') (by omega) (by omega)
    refine ⟨s', v2, r1, Nn.of ?_⟩
    have su := H16.size
    have so : ∀ j, sg.own j → j < w.heap.size ∧ j ≠ b := fun j hj => ⟨hp.seg.own_lt hj, hp.own j hj⟩
    have so' : ∀ j, s'.own j → sg.own j ∨ w.heap.size ≤ j := fun j hj => (r5 j hj).imp id fun h => by omega
    have sob : ∀ j, s'.own j → j ≠ b := fun j hj => (so' j hj).elim (fun h => (so j h).2) fun h => by omega
    refine stB (r4.blk hpu.blk fun hj => (so b hj).2 rfl) (by simp [parow]) fun v3 b3 e3 => ?_
    have b3 : Blk v3 b (parow s' p.bg p.cl).toArray 134 := b3
    have Ev3 : Ext (fun j => j = b ∨ sg.own j) u v3 := r4.trans e3 (fun _ h => .inr h) fun j _ h => .inl h
    have gne : ¬ (w9.heap.size = b ∨ sg.own w9.heap.size) := fun h => h.elim (fun h => by omega) fun h => by have := (so _ h).1; omega
    have g3 := Ev3.blk P16.blk gne
    refine Nn.of ?_
    rw [add_lit, Nat.zero_add]
    refine Ld.of g3 rfl ?_
    have hrow3 : Row v3 s' 67 7 (sgs (p.L ++ T')) := by
      rw [sgs_app]
      exact r2.keep e3 fun j hj e => sob j hj e
    have hps3 : SV v3 ps' T' := (SV.row P16.par).keepF Ev3 fun j hj h => by
      have h1 := P16.pown j hj
      have h2 := P16.ng
      rcases h with h | h
      · have h : j = b := h
        omega
      · have := (so j h).1
        omega
    have eb3 : Blk v3 w3.heap.size ([.int .i64 0] : List Value).toArray 38 := Ev3.blk (H16.get 2 rfl) fun h => h.elim (fun h => by omega) fun h => by have := (so _ h).1; omega
    have op3 : Blk v3 w.heap.size ([.string a, Slc.v s, .string d] : List Value).toArray 63 := Ev3.blk (H16.get 0 rfl) fun h => h.elim (fun h => by omega) fun h => by have := (so _ h).1; omega
    have sv3 := Ev3.size
    refine ⟨fun n st v => ∃ i : Nat, st = (i : Int) ∧ i ≤ T'.length ∧ n = T'.length - i ∧ Blk v b (parow s' ((T'.take i).foldl bgF p.bg) p.cl).toArray 134 ∧ Ext (· = b) v3 v, T'.length, ⟨0, rfl, by omega, rfl, b3, Ext.refl _ _⟩, ?_⟩
    rintro n st v ⟨i, rfl, hi, rfl, bv, ev⟩
    unfold S23L1
    rw [hpl]
    have sv := ev.size
    have hpsv := hps3.keepF ev fun j hj e => by
      have e : j = b := e
      have h1 := P16.pown j hj
      have h2 := P16.ng
      omega
    refine Br.dec (fun q => ⟨by omega, by omega, ?_⟩) fun q => ?_
    · have hlt : i < T'.length := by omega
      have ho : T'[i]? = some T'[i] := List.getElem?_eq_getElem hlt
      have htake : T'.take (i + 1) = T'.take i ++ [T'[i]] := by rw [List.take_add_one, ho]; rfl
      generalize T'[i] = o at ho htake
      obtain ⟨ad, ha, hc⟩ := hpsv.get ho
      have hc0 := hc 0 _ rfl
      rw [add_add', Nat.add_zero] at hc0
      rw [ha, Int.toNat_natCast]
      refine Nn.of (Ld.mk hc0 (Ld.mk (hc 1 _ rfl) (Ld.mk (hc 2 _ rfl) (Ld.mk (hc 3 _ rfl) (Ld.mk (hc 4 _ rfl) (Ld.mk (hc 5 _ rfl) (Ld.mk (hc 6 _ rfl) ?_)))))))
      refine (Hn.start v).nw fun v5 H5 => ?_
      simp only [List.nil_append, add_lit, Nat.zero_add] at H5 ⊢
      iterate 7 (refine H5.st 0 rfl (by simp) fun _ H5 => ?_; simp only [List.set_cons_zero, List.set_cons_succ] at H5)
      have bv5 := H5.ext.blk bv id
      have ev5 : Ext (· = b) v3 _ := ev.tr (H5.ext.mono fun _ _ e => e.elim)
      refine H5.ld 0 rfl rfl ?_
      have hw : IntKind.i64.wrap ((i : Int) + 1) = ((i + 1 : Nat) : Int) := by rw [i64_id (by omega)]; rfl
      refine Br.eq (fun q2 => ?_) fun q2 => ?_
      · iterate 2 refine H5.ld 0 rfl rfl ?_
        refine Nn.of ?_
        simp only [add_lit, Nat.zero_add]
        refine stB bv5 (by simp [parow]) fun v6 b6 e6 => ?_
        refine stB b6 (by simp [parow]) fun v7 b7 e7 => ?_
        refine ⟨T'.length - (i + 1), by omega, i + 1, hw, by omega, rfl, ?_, (ev5.tr e6).tr e7⟩
        rw [htake, List.foldl_append]
        have : List.foldl bgF (List.foldl bgF p.bg (T'.take i)) [o] = (o.2.2.2.2.2.1, o.2.2.2.2.2.2) := if_pos q2
        rw [this]
        exact b7
      · refine ⟨T'.length - (i + 1), by omega, i + 1, hw, by omega, rfl, ?_, ev5⟩
        rw [htake, List.foldl_append]
        have : List.foldl bgF (List.foldl bgF p.bg (T'.take i)) [o] = List.foldl bgF p.bg (T'.take i) := if_neg q2
        rw [this]
        exact bv5
    · have hiT : i = T'.length := by omega
      subst hiT
      rw [List.take_length] at bv
      refine Nn.of ?_
      simp only [add_lit, Nat.zero_add]
      have fin : ∀ (c : Bool), c = (p.cl || clipN (bl a)) → Sh.St v ⟨b, 3, none⟩ (.bool c) fun v6 => Sh.St v6 ⟨w3.heap.size, 0, none⟩ (.int .i64 0) fun v7 => CD76 ⟨w3.heap.size, 0, none⟩ none v7 fun v8 => Ld v8 ⟨w3.heap.size, 0, none⟩ (Value.int .i64) fun (y : Int) => DoR w v8 b sg y (doP p (bl a) (bl d) L m) := by
        rintro c rfl
        refine stB bv (by simp [parow]) fun v6 b6 e6 => ?_
        refine c_fin ((ev.tr e6).blk eb3 (by omega)) fun v8 e8 => ?_
        rw [hdo]
        have Eall : Ext (· = b) v3 v6 := ev.tr e6
        have s6 := Eall.size
        refine ⟨s', rfl, ⟨e8.blk b6 (by omega), (hrow3.keep Eall fun j hj e => sob j hj e).keep e8 fun j hj e => ?_, sob, ?_⟩, ?_, so'⟩
        · have e : j = w3.heap.size := e
          rcases r5 j hj with h | h
          · have := (so j h).1
            omega
          · have := P16.ng
            have := P16.ext.size
            omega
        · show (p.L ++ T').length ≤ 8192
          rw [List.length_append]
          omega
        · refine ((H16.ext.trans Ev3 (fun _ e => e.elim) fun j _ h => h).trans Eall (fun _ h => h) fun j _ h => .inl h).trans e8 (fun _ h => h) fun j hj e => by omega
      refine Ld.of bv rfl ?_
      cases hcl : p.cl with
      | true =>
        refine Br.t rfl (Nn.of ?_)
        simp only [add_lit, Nat.zero_add]
        exact fin true (by rw [hcl]; rfl)
      | false =>
        refine Br.f rfl (Ld.of (ev.blk op3 (by omega)) rfl ?_)
        obtain ⟨q1, q2⟩ := nine_clip _ hk
        refine ⟨by omega, by rw [bl_size]; omega, Nn.of ?_⟩
        simp only [add_lit, Nat.zero_add]
        exact fin _ (by rw [hcl, Bool.false_or, ← q1]; congr 1; exact bAt_list a 0)
  refine H.ld 0 rfl rfl (BrNB (fun nm => ?_) fun qm => ?_)
  rotate_left
  · have qm : bl a = [109] := qm
    exact main (0, 0) w10 H g10 (fun h => h.1 qm) fun l => draw_here m _ _ l (.inl qm)
  refine H.ld 0 rfl rfl (BrNB (fun nre => ?_) fun qre => ?_)
  rotate_left
  · have qre : bl a = [114, 101] := qre
    exact main (0, 0) w10 H g10 (fun h => h.2.1 qre) fun l => draw_here m _ _ l (.inr qre)
  have hp10 := hp.keep H.ext
  refine Nn.of (Ld.of hp10.blk rfl ?_)
  refine (c_need _ 29 _).mono ?_ ?_
  rotate_left
  · rintro v w11 ⟨rfl, hh, rfl⟩
    have hh := of_decide_eq_false hh
    have hnil : p.L = [] := List.eq_nil_of_length_eq_zero (by omega)
    exact c_pan w3 (H.get 2 rfl) fun w8 e8 => same H.ext e8 (by unfold doP; rw [if_neg (fun hn => hn hk), if_neg (fun hn => hn hck), if_pos ⟨nm, nre, hnil⟩])
  rintro w11 ⟨hh, rfl⟩
  have hh := of_decide_eq_true hh
  have hne : p.L ≠ [] := fun e => by rw [e] at hlen; simp at hlen; omega
  refine (c_current hp10 hne).mono ?_
  rintro r w12 ⟨rfl, e12⟩
  have H := H.keep e12
  refine Nn.of ?_
  simp only [add_lit, Nat.zero_add]
  refine stB (e12.blk g10 id) (by simp [pnrow, mrow]) fun w13 g13 e13 => ?_
  refine stB g13 (by simp [pnrow, mrow]) fun w14 g14 e14 => ?_
  exact main (curS p.L p.bg) w14 (H.other (e13.tr e14) nb) g14 (fun h => hne h.2.2) fun l => rfl
end
end Pat
end Go.Proofs.YtjbeembbnkmpeaaDoor
